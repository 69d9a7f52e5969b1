import Derived.Test.YtjbnnfphpchneaaRunsT
/- TimerClears: the walk. -/
namespace Sc
open Go Go.RowKit
def iv (x : Int) : Value := .int .i64 x
end Sc
namespace Go.Proofs.Ytjbnnfphpchneaa
open Go.RowKit Go.Shelf Sc
theorem overOf_one {n a : Int} {p : Pr} : overOf n [(a, p)] = if a ≤ n then [(a, p)] else [] := by
  unfold overOf
  by_cases h : a ≤ n <;> simp [h]
theorem leftOf_one {n a : Int} {p : Pr} : leftOf n [(a, p)] = if a ≤ n then [] else [(a, p)] := by
  unfold leftOf
  by_cases h : a ≤ n <;> simp [h]
theorem left_le (n : Int) (L : List Due) : (leftOf n L).length ≤ L.length := List.length_filter_le _ _
set_option maxHeartbeats 8000000 in
set_option maxRecDepth 100000 in
theorem clears_walk (v : Value) (l : List Int) (a m : Int) (NB : Nat → Prop) (w : World) (hv : Rd NB w 1 v l.length (l.map iv)) (_hNB : ∀ b, NB b → b < w.heap.size) :
    Calls Try.prog 6 #[v, .int .i64 a, .int .i64 m] w fun e w' => e = .returned (.bool true) ∧ w.grownBy w' none := by
  go_enter Try.func6, Try.ntmps6
  obtain ⟨A, c, rfl, hc⟩ := Rd.form hv
  have hmx := Rd.le hv
  obtain ⟨q, hq⟩ : ∃ q, q = l.length := ⟨_, rfl⟩
  rw [← hq] at hv hc hmx ⊢
  have HV := Go.Lib.hid hv
  have HQ := Go.Lib.hid hq
  clear hv hq
  rcases (by omega : (30 < q ∨ (q ≤ 30 ∧ (a < 0 ∨ (0 ≤ a ∧ (30 < a ∨ (a ≤ 30 ∧ (m < 0 ∨ (0 ≤ m ∧ 10 < m)))))))) ∨ (q ≤ 30 ∧ 0 ≤ a ∧ a ≤ 30 ∧ 0 ≤ m ∧ m ≤ 10)) with hg | hg
  · rcases hg with h | ⟨h1, h | ⟨h2, h | ⟨h3, h | ⟨h4, h⟩⟩⟩⟩
    all_goals
      first
        | (have d1 : decide ((q : Int) > 30) = true := decide_eq_true (by omega))
        | (have d1 : decide ((q : Int) > 30) = false := decide_eq_false (by omega)
           first
             | (have d2 : decide (a < 0) = true := decide_eq_true (by omega))
             | (have d2 : decide (a < 0) = false := decide_eq_false (by omega)
                first
                  | (have d3 : decide (a > 30) = true := decide_eq_true (by omega))
                  | (have d3 : decide (a > 30) = false := decide_eq_false (by omega)
                     first
                       | (have d4 : decide (m < 0) = true := decide_eq_true (by omega))
                       | (have d4 : decide (m < 0) = false := decide_eq_false (by omega)
                          have d5 : decide (m > 10) = true := decide_eq_true (by omega)))))
      go_wp2_with (go_at_call 7; ((with_reducible refine (runs_any _).mono ?_); rintro e w1 ⟨rfl, g1⟩))
      go_ret
      exact ⟨rfl, g1⟩
  · obtain ⟨hq30, ha0, ha30, hm0, hm10⟩ := hg
    have d1 : decide ((q : Int) > 30) = false := decide_eq_false (by omega)
    have d2 : decide (a < 0) = false := decide_eq_false (by omega)
    have d3 : decide (a > 30) = false := decide_eq_false (by omega)
    have d4 : decide (m < 0) = false := decide_eq_false (by omega)
    have d5 : decide (m > 10) = false := decide_eq_false (by omega)
    go_wp2_with (first
      | (go_at_call 7; ((with_reducible refine (runs_any _).mono ?_); rintro e w1 ⟨rfl, g1⟩))
      | ((with_reducible refine wpList_alloc_row (E := 26) tmZ infoTm ?_)))
    obtain ⟨r, hr⟩ : ∃ r, r = w1.heap.size := ⟨_, rfl⟩
    obtain ⟨W1, hW1⟩ : ∃ W1, W1 = w1.alloc (.cells tmZ.toArray 26) := ⟨_, rfl⟩
    have HT0 : Hid (Tm W1 r r 0 [] (.slice none 0 0)) := Go.Lib.hid (by rw [hW1, hr]; exact tm_new w1)
    have HG0 : Hid (w.grownBy W1 none) := Go.Lib.hid (by rw [hW1]; exact gb_alloc g1 _)
    have HRW : Hid (w.heap.size ≤ r ∧ r ≤ W1.heap.size) := Go.Lib.hid (by rw [hW1, World.size_alloc, hr]; exact ⟨g1.size, by omega⟩)
    rw [← hW1, ← hr]
    clear hW1 hr g1 d1 d2 d3 d4 d5
    go_loopw [36] (fun v36 wr => ∃ (i : Nat) (L : List Due) (lv : Value), v36 = .int .i64 (i : Int) ∧ i ≤ q ∧ Hid (L.length ≤ i) ∧ Hid (Tm wr r r 0 L lv) ∧ Hid (w.grownBy wr none) ∧ Hid (r ≤ wr.heap.size)) (fun v36 _ => q - (intOf v36).toNat)
    case atStart => exact ⟨0, [], _, rfl, Nat.zero_le _, Go.Lib.hid (Nat.le_refl _), HT0, HG0, Go.Lib.hid HRW.out.2⟩
    case round =>
      clear HT0 HG0
      obtain ⟨i, L, lv, rfl, hi, HLL, HT, HG, HB⟩ := hrel
      obtain ⟨wo, rfl⟩ : ∃ wo : World, wo = wr := ⟨_, rfl⟩
      by_cases hlt : i < q
      · have hd : decide ((i : Int) < (q : Int)) = true := decide_eq_true (by omega)
        have hd' : decide (i < q) = true := decide_eq_true hlt
        obtain ⟨x, hx⟩ : ∃ x, l[i]? = some x := ⟨_, List.getElem?_eq_getElem (by rw [← HQ.out]; exact hlt)⟩
        obtain ⟨b, o, c1, he, hbb, hnc, hcm, hcell⟩ := (Rd.grown HV.out HG.out (by simp)).at (by omega)
        injection he with hA _ hcc
        subst hA hcc
        have ce : wo.cell? ⟨b, o + i, none⟩ = some (.int .i64 x) := hcell i _ (by rw [List.getElem?_map, hx]; rfl)
        clear hcell hx
        have hg0 := HG.out
        rcases (by omega : x < 0 ∨ (0 ≤ x ∧ 10 < x) ∨ (0 ≤ x ∧ x ≤ 10)) with hx | hx | hx
        · have e1 : decide (x < 0) = true := decide_eq_true hx
          go_wp2_with fail
          go_ret
          exact ⟨rfl, hg0⟩
        · have e1 : decide (x < 0) = false := decide_eq_false (by omega)
          have e2 : decide (x > 10) = true := decide_eq_true hx.2
          go_wp2_with fail
          go_ret
          exact ⟨rfl, hg0⟩
        · have e1 : decide (x < 0) = false := decide_eq_false (by omega)
          have e2 : decide (x > 10) = false := decide_eq_false (by omega)
          have hT := HT.out
          have hL40 : L.length < 40 := by have := HLL.out; omega
          have hn0 : (0 : Int) ≤ 0 ∧ (0 : Int) ≤ 1000000 := by decide
          have hBo := HB.out
          go_wp2_with (go_at_call 8; ((with_reducible refine (set_any x i _ hT hL40 hn0 hBo).mono ?_); rintro e w2 ⟨rfl, lv2, hT2, hC2, hO2⟩))
          have g2 := tm_gb hg0 hC2 HRW.out.1 (fun b hb => Nat.le_trans HRW.out.1 (hT.2.1.lt hb).1)
          exact ⟨⟨i + 1, _, lv2, by push_cast; rfl, by omega, Go.Lib.hid (by rw [List.length_append, List.length_singleton]; have := HLL.out; omega), Go.Lib.hid hT2, Go.Lib.hid g2, Go.Lib.hid (Nat.le_trans hBo hC2.size)⟩, by simp only [intOf]; omega⟩
      · obtain rfl : i = q := by omega
        have hd : decide ((i : Int) < (i : Int)) = false := decide_eq_false (by omega)
        have hd' : decide (i < i) = false := decide_eq_false (by omega)
        obtain ⟨n, rfl⟩ : ∃ n : Nat, a = (n : Int) := ⟨a.toNat, by omega⟩
        have hn30 : n ≤ 30 := by omega
        go_wp2_with fail
        clear hd hd'
        go_loopw [52] (fun v52 wr => ∃ (j : Nat) (L : List Due) (lv : Value), v52 = .int .i64 (j : Int) ∧ j ≤ n ∧ Hid (L.length ≤ 30) ∧ Hid (Tm wr r r (j : Int) L lv) ∧ Hid (w.grownBy wr none) ∧ Hid (r ≤ wr.heap.size)) (fun v52 _ => n - (intOf v52).toNat)
        case atStart => exact ⟨0, L, lv, rfl, Nat.zero_le _, Go.Lib.hid (by have := HLL.out; omega), HT, HG, HB⟩
        case round =>
          clear HT HG HB HLL
          obtain ⟨j, L, lv, rfl, hj, HLL, HT, HG, HB⟩ := hrel
          obtain ⟨wq, rfl⟩ : ∃ wq : World, wq = wr := ⟨_, rfl⟩
          have hT := HT.out
          have hg0 := HG.out
          have hBo := HB.out
          by_cases hlt : j < n
          · have hd : decide ((j : Int) < (n : Int)) = true := decide_eq_true (by omega)
            have hd' : decide (j < n) = true := decide_eq_true hlt
            have hL1 : L.length ≤ 1000 := by have := HLL.out; omega
            have hnb : (0 : Int) ≤ (j : Int) ∧ (j : Int) ≤ 1000000 := by omega
            go_wp2_with (go_at_call 10; ((with_reducible refine (over_any _ hT hL1 hnb hBo).mono ?_); rintro e w4 ⟨ov, lv4, rfl, hT4, hO4, hC4, hw4⟩))
            have g2 := tm_gb hg0 hC4 HRW.out.1 (fun b hb => Nat.le_trans HRW.out.1 (hT.2.1.lt hb).1)
            exact ⟨⟨j + 1, _, lv4, by push_cast; rfl, by omega, Go.Lib.hid (Nat.le_trans (left_le _ _) HLL.out), Go.Lib.hid (by push_cast; exact hT4), Go.Lib.hid g2, Go.Lib.hid (Nat.le_trans hBo hC4.size)⟩, by simp only [intOf]; omega⟩
          · obtain rfl : j = n := by omega
            have hd : decide ((j : Int) < (j : Int)) = false := decide_eq_false (by omega)
            have hd' : decide (j < j) = false := decide_eq_false (by omega)
            go_wp2_with (first
              | (go_at_call 16; ((with_reducible refine (clear_any _ hT).mono ?_); rintro e w5 ⟨⟨v5, rfl⟩, hT5, g5⟩))
              | (go_at_call 11; ((with_reducible refine (len_any _ hT5).mono ?_); rintro e w6 ⟨rfl, rfl⟩)))
            have hg6 : w.grownBy w6 none := gb_trans_new hg0 g5 HRW.out.1
            have hB6 : r ≤ w6.heap.size := Nat.le_trans hBo g5.size
            have hL5 : ([] : List Due).length < 40 := by decide
            have hnb : (0 : Int) ≤ (j : Int) ∧ (j : Int) ≤ 1000000 := by omega
            refine (set_any m 77 _ hT5 hL5 hnb hB6).mono ?_
            rintro e w7 ⟨rfl, lv7, hT7, hC7, hO7⟩
            obtain ⟨D, hD⟩ : ∃ D, D = delay m := ⟨_, rfl⟩
            rw [← hD, List.nil_append] at hT7
            have hDb : 3 ≤ D ∧ D ≤ 23 := by
              have h : dn m = m.toNat := by unfold dn; omega
              rw [hD]; unfold delay; omega
            have HD := Go.Lib.hid hD
            have g7 := tm_gb hg6 hC7 HRW.out.1 (fun b hb => by cases hb)
            have HT7 := Go.Lib.hid hT7
            have HG7 := Go.Lib.hid g7
            have HB7 := Go.Lib.hid (Nat.le_trans hB6 hC7.size)
            clear hT hT5 hC7 hO7 hT7 g7 hg6 hB6 hL5 hnb hD hg0 hBo HT HG HB HLL g5
            go_frame
            go_wp2_with fail
            clear hd hd'
            go_loopw [10] (fun v10 wr => ∃ (k : Nat) (L : List Due) (lv : Value), v10 = .int .i64 (k : Int) ∧ 1 ≤ k ∧ k ≤ 31 ∧ Hid ((k ≤ D ∧ L = [((j : Int) + (D : Int), m, 77)]) ∨ (D < k ∧ L = [])) ∧ Hid (Tm wr r r ((j : Int) + (k : Int) - 1) L lv) ∧ Hid (w.grownBy wr none) ∧ Hid (r ≤ wr.heap.size)) (fun v10 _ => 31 - (intOf v10).toNat)
            case atStart => exact ⟨1, _, lv7, rfl, Nat.le_refl _, by omega, Go.Lib.hid (.inl ⟨by omega, rfl⟩), Go.Lib.hid (by rw [show (j : Int) + ((1 : Nat) : Int) - 1 = (j : Int) by omega]; exact HT7.out), HG7, HB7⟩
            case round =>
              clear HT7 HG7 HB7
              obtain ⟨k, L, lv, rfl, hk1, hk31, HLC, HT, HG, HB⟩ := hrel
              obtain ⟨wp, rfl⟩ : ∃ wp : World, wp = wr := ⟨_, rfl⟩
              have hT := HT.out
              have hg0 := HG.out
              have hBo := HB.out
              by_cases hlt : k ≤ 30
              · have hd : decide ((k : Int) ≤ 30) = true := decide_eq_true (by omega)
                have hd' : decide (k ≤ 30) = true := decide_eq_true hlt
                have hL1 : L.length ≤ 1000 := by
                  rcases HLC.out with h | h
                  · rw [h.2]; simp
                  · rw [h.2]; simp
                have hnb : (0 : Int) ≤ (j : Int) + (k : Int) - 1 ∧ (j : Int) + (k : Int) - 1 ≤ 1000000 := by omega
                obtain ⟨n, hn⟩ : ∃ n, n = (overOf ((j : Int) + (k : Int)) L).length := ⟨_, rfl⟩
                have hn3 : (n = 0 ∧ k ≠ D ∧ ((k + 1 ≤ D ∧ leftOf ((j : Int) + (k : Int)) L = [((j : Int) + (D : Int), m, 77)]) ∨ (D < k + 1 ∧ leftOf ((j : Int) + (k : Int)) L = []))) ∨
                    (n = 1 ∧ k = D ∧ overOf ((j : Int) + (k : Int)) L = [((j : Int) + (D : Int), m, 77)] ∧ leftOf ((j : Int) + (k : Int)) L = []) := by
                  rcases HLC.out with ⟨h1, h2⟩ | ⟨h1, h2⟩
                  · subst h2
                    rw [overOf_one] at hn ⊢
                    rw [leftOf_one]
                    by_cases h : k = D
                    · rw [if_pos (by omega)] at hn ⊢
                      rw [if_pos (by omega)]
                      exact .inr ⟨hn, h, rfl, rfl⟩
                    · rw [if_neg (by omega)] at hn ⊢
                      rw [if_neg (by omega)]
                      exact .inl ⟨hn, h, .inl ⟨by omega, rfl⟩⟩
                  · subst h2
                    exact .inl ⟨hn, by omega, .inr ⟨by omega, rfl⟩⟩
                have HN := Go.Lib.hid hn
                have HN3 := Go.Lib.hid hn3
                have hnI : (0 : Int) ≤ (n : Int) ∧ (n : Int) ≤ 1 := by omega
                clear hn hn3
                go_wp2_with (go_at_call 10; ((with_reducible refine (over_any _ hT hL1 hnb hBo).mono ?_); rintro e w4 ⟨ov, lv4, rfl, hT4, hO4, hC4, hw4⟩); rw [show (j : Int) + (k : Int) - 1 + 1 = (j : Int) + (k : Int) from by omega] at hT4 hO4; rw [← HN.out] at hO4; obtain ⟨A4, c4, rfl⟩ := hO4.form)
                have hO5 : Rd (fun b => b < w4.heap.size) w4 2 (.slice A4 n c4) n (prCs ((overOf ((j : Int) + (k : Int)) L).map (·.2))) := hO4.rd (fun b hb => (hO4.lt hb).2)
                have g4 := tm_gb hg0 hC4 HRW.out.1 (fun b hb => Nat.le_trans HRW.out.1 (hT.2.1.lt hb).1)
                have HT4 := Go.Lib.hid hT4
                have HO5 := Go.Lib.hid hO5
                have HG4 := Go.Lib.hid g4
                have HB4 := Go.Lib.hid (Nat.le_trans hBo hC4.size)
                clear hT hT4 hC4 hO4 hO5 g4 hw4 hd hd' HT HG HB hg0 hBo
                go_loopw [70] (fun v70 wr => ∃ (i2 : Nat), v70 = .int .i64 (i2 : Int) ∧ i2 ≤ n ∧ Hid (Tm wr r r ((j : Int) + (k : Int)) (leftOf ((j : Int) + (k : Int)) L) lv4) ∧ Hid (Rd (fun b => b < wr.heap.size) wr 2 (.slice A4 n c4) n (prCs ((overOf ((j : Int) + (k : Int)) L).map (·.2)))) ∧ Hid (w.grownBy wr none) ∧ Hid (r ≤ wr.heap.size)) (fun v70 _ => n - (intOf v70).toNat)
                case atStart => exact ⟨0, rfl, Nat.zero_le _, HT4, HO5, HG4, HB4⟩
                case round =>
                  clear HT4 HO5 HG4 HB4
                  obtain ⟨i2, rfl, hi2, HT, HO, HG, HB⟩ := hrel
                  obtain ⟨wz, rfl⟩ : ∃ wz : World, wz = wr := ⟨_, rfl⟩
                  by_cases hlt2 : i2 < n
                  · have hd : decide ((i2 : Int) < (n : Int)) = true := decide_eq_true (by omega)
                    have hd' : decide (i2 < n) = true := decide_eq_true hlt2
                    obtain ⟨hi0, hkD, hov⟩ : i2 = 0 ∧ k = D ∧ overOf ((j : Int) + (k : Int)) L = [((j : Int) + (D : Int), m, 77)] := by
                      rcases HN3.out with h | h
                      · omega
                      · exact ⟨by omega, h.2.1, h.2.2.1⟩
                    obtain ⟨b, o, c1, he, hbb, hnc, hcm, hcell⟩ := HO.out.at (by omega)
                    injection he with hA _ hcc
                    subst hA hcc
                    rw [hov] at hcell
                    have hrx := range_pr hcell (i := i2) (p := (m, 77)) (by rw [hi0]; rfl)
                    have bx0 := Bk.new wz 33 prZ
                    have HKD := Go.Lib.hid hkD
                    clear hcell hov hi0 hkD
                    go_wp2_with (first
                      | ((with_reducible refine wpList_load_range (x := .tmp 72) (t := 33) b (o + i2 * 2) (prC (m, 77)) _ hrx (by kernel_rfl) Try.underlying33 rfl (prSize _) ?_))
                      | ((with_reducible refine wpList_alloc_row (E := 33) prZ infoPr ?_))
                      | ((with_reducible refine wpList_store_bk (t := 33) wz.heap.size 33 prZ (prC (m, 77)) bx0 (by kernel_rfl) (by kernel_rfl) (prSize _) rfl (prC_one _) ?_); intro w5 h5 g5 z5)
                      | ((with_reducible refine wpList_load_bk (x := .tmp 12) (t := 33) wz.heap.size 33 (prC (m, 77)) _ h5 (by kernel_rfl) Try.underlying33 rfl (prSize _) ?_))
                      | ((with_reducible refine wpList_build_row (t := 33) (prC (m, 77)) (fun w => by simp only [List.map_toArray, List.map_cons, List.map_nil]; exact build_pr m 77 w) ?_))
                      | ((with_reducible refine wpList_neq_pr (x := .tmp 74) (y := .tmp 76) Try.underlying33 Try.underlying3 (by kernel_rfl) (by kernel_rfl) (m, 77) (m, 77) (by kernel_rfl) (by kernel_rfl) ?_)))
                    refine (delay_any m _).mono ?_
                    rintro e w6 ⟨rfl, rfl⟩
                    rw [← HD.out, ← HKD.out]
                    have g15 := gb_trans_new (gb_alloc (gb_refl wz none) _) g5 (Nat.le_refl _)
                    go_frame
                    go_wp2_with fail
                    exact ⟨⟨i2 + 1, by push_cast; rfl, by omega, Go.Lib.hid (HT.out.gr g15), Go.Lib.hid (Rd.mono (Rd.grown HO.out g15 (by simp)) (fun b hb => Nat.lt_of_lt_of_le hb (by have := g15.size; omega))), Go.Lib.hid (gb_trans HG.out g15), Go.Lib.hid (Nat.le_trans HB.out g15.size)⟩, by simp only [intOf]; omega⟩
                  · obtain rfl : i2 = n := by omega
                    have hd : decide ((i2 : Int) < (i2 : Int)) = false := decide_eq_false (by omega)
                    have hd' : decide (i2 < i2) = false := decide_eq_false (by omega)
                    go_wp2_with fail
                    exact ⟨⟨k + 1, _, lv4, by push_cast; rfl, by omega, by omega, Go.Lib.hid (by
                      rcases HN3.out with h | h
                      · exact h.2.2
                      · exact .inr ⟨by omega, h.2.2.2⟩), Go.Lib.hid (by rw [show (j : Int) + ((k + 1 : Nat) : Int) - 1 = (j : Int) + (k : Int) by omega]; exact HT.out), HG, HB⟩, by simp only [intOf]; omega⟩
              · obtain rfl : k = 31 := by omega
                obtain rfl : L = [] := by
                  rcases HLC.out with h | h
                  · omega
                  · exact h.2
                rw [show (j : Int) + ((31 : Nat) : Int) - 1 = (j : Int) + 30 by omega] at hT
                go_wp2_with (go_at_call 11; ((with_reducible refine (len_any _ hT).mono ?_); rintro e w6 ⟨rfl, rfl⟩))
                refine (now_any _ hT).mono ?_
                rintro e w7 ⟨rfl, rfl⟩
                go_frame
                go_wp2_with fail
                go_ret
                exact ⟨rfl, hg0⟩
end Go.Proofs.Ytjbnnfphpchneaa
