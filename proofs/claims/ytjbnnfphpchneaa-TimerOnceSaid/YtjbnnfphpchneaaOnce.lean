import Derived.Test.YtjbnnfphpchneaaSeen
import Derived.Deep.CutBlock
/- TimerOnce: the walk. -/
namespace Sc
open Go Go.RowKit
def iv1 (x : Int) : Value := .int .i64 x
end Sc
namespace Go.Proofs.Ytjbnnfphpchneaa
open Go.RowKit Go.Shelf Sc Go.Maps
set_option maxHeartbeats 8000000 in
set_option maxRecDepth 100000 in
theorem once_walk (v : Value) (l : List Int) (NB : Nat → Prop) (w : World) (hv : Rd NB w 1 v l.length (l.map iv1)) (_hNB : ∀ b, NB b → b < w.heap.size) :
    Calls Try.prog 3 #[v] w fun e w' => e = .returned (.bool true) ∧ w.grownBy w' none := by
  have hmm := @run_makeMap Try.prog
  go_enter Try.func3, Try.ntmps3
  obtain ⟨A, c, rfl, hc⟩ := Rd.form hv
  have hmx := Rd.le hv
  obtain ⟨q, hq⟩ : ∃ q, q = l.length := ⟨_, rfl⟩
  rw [← hq] at hv hc hmx ⊢
  have HV := Go.Lib.hid hv
  have HQ := Go.Lib.hid hq
  clear hv hq
  by_cases hg : 40 < q
  · have d1 : decide ((q : Int) > 40) = true := decide_eq_true (by omega)
    go_wp2_with (go_at_call 7; ((with_reducible refine (runs_any _).mono ?_); rintro e w1 ⟨rfl, g1⟩))
    go_ret
    exact ⟨rfl, g1⟩
  · have hq40 : q ≤ 40 := by omega
    have d1 : decide ((q : Int) > 40) = false := decide_eq_false (by omega)
    go_wp2_with (first
      | (go_at_call 7; ((with_reducible refine (runs_any _).mono ?_); rintro e w1 ⟨rfl, g1⟩))
      | ((with_reducible refine wpList_alloc_row (E := 26) tmZ infoTm ?_)))
    obtain ⟨r, hr⟩ : ∃ r, r = w1.heap.size := ⟨_, rfl⟩
    obtain ⟨W1, hW1⟩ : ∃ W1, W1 = w1.alloc (.cells tmZ.toArray 26) := ⟨_, rfl⟩
    have HT0 : Hid (Tm W1 r r 0 (onceL (l.take 0)) (.slice none 0 0)) := Go.Lib.hid (by rw [hW1, hr]; exact tm_new w1)
    have HG0 : Hid (w.grownBy W1 none) := Go.Lib.hid (by rw [hW1]; exact gb_alloc g1 _)
    have HRW : Hid (w.heap.size ≤ r ∧ r ≤ W1.heap.size) := Go.Lib.hid (by rw [hW1, World.size_alloc, hr]; exact ⟨g1.size, by omega⟩)
    rw [← hW1, ← hr]
    clear hW1 hr g1 d1
    go_loopw [19] (fun v19 wr => ∃ (i : Nat) (lv : Value), v19 = .int .i64 (i : Int) ∧ i ≤ q ∧ Hid (∀ x ∈ l.take i, 0 ≤ x ∧ x ≤ 20) ∧ Hid (Tm wr r r 0 (onceL (l.take i)) lv) ∧ Hid (w.grownBy wr none) ∧ Hid (r ≤ wr.heap.size)) (fun v19 _ => q - (intOf v19).toNat)
    case atStart => exact ⟨0, _, rfl, Nat.zero_le _, Go.Lib.hid (by simp), HT0, HG0, Go.Lib.hid HRW.out.2⟩
    case round =>
      clear HT0 HG0
      obtain ⟨i, lv, rfl, hi, HLL, HT, HG, HB⟩ := hrel
      obtain ⟨wo, rfl⟩ : ∃ wo : World, wo = wr := ⟨_, rfl⟩
      by_cases hlt : i < q
      · have hd : decide ((i : Int) < (q : Int)) = true := decide_eq_true (by omega)
        have hd' : decide (i < q) = true := decide_eq_true hlt
        obtain ⟨x, hx⟩ : ∃ x, l[i]? = some x := ⟨_, List.getElem?_eq_getElem (by rw [← HQ.out]; exact hlt)⟩
        obtain ⟨b, o, c1, he, hbb, hnc, hcm, hcell⟩ := (Rd.grown HV.out HG.out (by simp)).at (by omega)
        injection he with hA _ hcc
        subst hA hcc
        have ce : wo.cell? ⟨b, o + i, none⟩ = some (.int .i64 x) := hcell i _ (by rw [List.getElem?_map, hx]; rfl)
        have HX := Go.Lib.hid hx
        clear hcell hx
        have hg0 := HG.out
        rcases (by omega : x < 0 ∨ (0 ≤ x ∧ 20 < x) ∨ (0 ≤ x ∧ x ≤ 20)) with hx | hx | hx
        · have e1 : decide (x < 0) = true := decide_eq_true hx
          go_wp2_with fail
          go_ret
          exact ⟨rfl, hg0⟩
        · have e1 : decide (x < 0) = false := decide_eq_false (by omega)
          have e2 : decide (x > 20) = true := decide_eq_true hx.2
          go_wp2_with fail
          go_ret
          exact ⟨rfl, hg0⟩
        · have e1 : decide (x < 0) = false := decide_eq_false (by omega)
          have e2 : decide (x > 20) = false := decide_eq_false (by omega)
          have hT := HT.out
          have hL40 : (onceL (l.take i)).length < 40 := by rw [onceL_len, List.length_take]; omega
          have hn0 : (0 : Int) ≤ 0 ∧ (0 : Int) ≤ 1000000 := by decide
          have hBo := HB.out
          have HN1 : Hid (∀ y ∈ l.take (i + 1), 0 ≤ y ∧ y ≤ 20) := Go.Lib.hid (by
            rw [List.take_add_one, HX.out]
            intro y hy
            rcases List.mem_append.1 hy with hy | hy
            · exact HLL.out y hy
            · rw [Option.toList_some, List.mem_singleton] at hy
              rw [hy]; exact hx)
          by_cases hx0 : x = 0
          · subst hx0
            go_wp2_with (go_at_call 8; ((with_reducible refine (set_any 0 i _ hT hL40 hn0 hBo).mono ?_); rintro e w2 ⟨rfl, lv2, hT2, hC2, hO2⟩))
            rw [Int.zero_add, ← onceL_snoc HX.out] at hT2
            have g2 := tm_gb hg0 hC2 HRW.out.1 (fun b hb => Nat.le_trans HRW.out.1 (hT.2.1.lt hb).1)
            exact ⟨⟨i + 1, lv2, by push_cast; rfl, by omega, HN1, Go.Lib.hid hT2, Go.Lib.hid g2, Go.Lib.hid (Nat.le_trans hBo hC2.size)⟩, by simp only [intOf]; omega⟩
          · have e3 : decide (x > 0) = true := decide_eq_true (by omega)
            have hwr : IntKind.i64.wrap (x - 1) = x - 1 := IntWalk.i64_in _ (by omega)
            obtain ⟨D1, hD1⟩ : ∃ D1, D1 = delay x := ⟨_, rfl⟩
            obtain ⟨D2, hD2⟩ : ∃ D2, D2 = delay (x - 1) := ⟨_, rfl⟩
            have hDD : D2 < D1 := by
              have h1 : dn x = x.toNat := by unfold dn; omega
              have h2 : dn (x - 1) = (x - 1).toNat := by unfold dn; omega
              rw [hD1, hD2]; unfold delay; omega
            have e4 : decide ((D1 : Int) ≤ (D2 : Int)) = false := decide_eq_false (by omega)
            have e4' : decide (D1 ≤ D2) = false := decide_eq_false (by omega)
            have HD1 := Go.Lib.hid hD1
            have HD2 := Go.Lib.hid hD2
            clear hD1 hD2
            go_wp2_with (go_at_call 8; ((with_reducible refine (set_any x i _ hT hL40 hn0 hBo).mono ?_); rintro e w2 ⟨rfl, lv2, hT2, hC2, hO2⟩))
            refine (delay_any x _).mono ?_
            rintro e w3 ⟨rfl, rfl⟩
            rw [← HD1.out]
            go_frame
            go_wp2_with fail
            refine (delay_any (x - 1) _).mono ?_
            rintro e w3 ⟨rfl, rfl⟩
            rw [← HD2.out]
            go_frame
            go_wp2_with fail
            rw [Int.zero_add, ← onceL_snoc HX.out] at hT2
            have g2 := tm_gb hg0 hC2 HRW.out.1 (fun b hb => Nat.le_trans HRW.out.1 (hT.2.1.lt hb).1)
            exact ⟨⟨i + 1, lv2, by push_cast; rfl, by omega, HN1, Go.Lib.hid hT2, Go.Lib.hid g2, Go.Lib.hid (Nat.le_trans hBo hC2.size)⟩, by simp only [intOf]; omega⟩
      · obtain rfl : q = i := by omega
        have hd : decide ((q : Int) < (q : Int)) = false := decide_eq_false (by omega)
        have hd' : decide (q < q) = false := decide_eq_false (by omega)
        rw [List.take_of_length_le (by rw [← HQ.out]; exact Nat.le_refl _)] at HT HLL
        go_wp2_with fail
        obtain ⟨mb, hmb⟩ : ∃ mb, mb = wo.heap.size := ⟨_, rfl⟩
        obtain ⟨W2, hW2⟩ : ∃ W2, W2 = wo.alloc (.map #[] 0) := ⟨_, rfl⟩
        have gW2 : wo.grownBy W2 none := by rw [hW2]; exact gb_alloc (gb_refl wo none) _
        have HS0 : Hid (Seen W2 mb (.map [])) := Go.Lib.hid (by rw [hW2, hmb]; exact seen_new wo)
        have HT0 : Hid (Tm W2 r r 0 (onceL l) lv) := Go.Lib.hid (HT.out.gr gW2)
        have HG0 : Hid (w.grownBy W2 none) := Go.Lib.hid (gb_trans HG.out gW2)
        have HL0 : Hid (∀ b, lv.ownBlock = some b → b < mb) := Go.Lib.hid (fun b hb => by rw [hmb]; exact (HT.out.2.1.lt hb).2)
        have HB0 : Hid (mb < W2.heap.size) := Go.Lib.hid (by rw [hW2, hmb, World.size_alloc]; omega)
        have HRM : Hid (w.heap.size ≤ r ∧ r < mb) := Go.Lib.hid ⟨HRW.out.1, by rw [hmb]; exact HT.out.1.lt⟩
        rw [← hW2, ← hmb]
        clear hW2 hmb gW2 HT HG HB hd hd' hmm
        go_loopw [7] (fun v7 wr => ∃ (k : Nat) (L : List Due) (D : DM) (lv : Value), v7 = .int .i64 (k : Int) ∧ 1 ≤ k ∧ k ≤ 51 ∧ Hid (OnceI l L D) ∧ Hid (∀ d ∈ L, (k : Int) ≤ d.1) ∧ Hid (Tm wr r r ((k : Int) - 1) L lv) ∧ Hid (Seen wr mb D) ∧ Hid (∀ b, lv.ownBlock = some b → b < mb) ∧ Hid (w.grownBy wr none) ∧ Hid (mb < wr.heap.size)) (fun v7 _ => 51 - (intOf v7).toNat)
        case atStart => exact ⟨1, onceL l, _, lv, rfl, Nat.le_refl _, by omega, Go.Lib.hid (once_init l), Go.Lib.hid (fun d hd => by
          obtain ⟨i, r, -, rfl⟩ := (once_init l).ok d hd
          show ((1 : Nat) : Int) ≤ (delay r : Int)
          unfold delay; omega), HT0, HS0, HL0, HG0, HB0⟩
        case round =>
          clear HT0 HS0 HL0 HG0 HB0
          obtain ⟨k, L, D, lv, rfl, hk1, hk51, HO, HK, HT, HS, HL, HG, HB⟩ := hrel
          obtain ⟨wp, rfl⟩ : ∃ wp : World, wp = wr := ⟨_, rfl⟩
          have hT := HT.out
          have hg0 := HG.out
          have hBo : r ≤ wp.heap.size := by have := HB.out; have := HRM.out; omega
          by_cases hlt : k ≤ 50
          · have hd : decide ((k : Int) ≤ 50) = true := decide_eq_true (by omega)
            have hd' : decide (k ≤ 50) = true := decide_eq_true hlt
            have hL1 : L.length ≤ 1000 := by have := HO.out.sz; rw [← HQ.out] at this; omega
            have hnb : (0 : Int) ≤ (k : Int) - 1 ∧ (k : Int) - 1 ≤ 1000000 := by omega
            obtain ⟨n, hn⟩ : ∃ n, n = (overOf (k : Int) L).length := ⟨_, rfl⟩
            have hn40 : n ≤ 40 := by
              have h1 := split_len (k : Int) L
              have := HO.out.sz
              rw [← HQ.out] at this
              omega
            have HN := Go.Lib.hid hn
            clear hn
            go_wp2_with (go_at_call 10; ((with_reducible refine (over_any _ hT hL1 hnb hBo).mono ?_); rintro e w4 ⟨ov, lv4, rfl, hT4, hO4, hC4, hw4⟩); rw [show (k : Int) - 1 + 1 = (k : Int) from by omega] at hT4 hO4; rw [← HN.out] at hO4; obtain ⟨A4, c4, rfl⟩ := hO4.form)
            have hO5 : Rd (fun b => mb < b) w4 2 (.slice A4 n c4) n (prCs ((overOf (k : Int) L).map (·.2))) := hO4.rd (fun b hb => Nat.lt_of_lt_of_le HB.out (hO4.lt hb).1)
            have hS4 : Seen w4 mb D := HS.out.ch hC4 (fun h => by
              rcases h with h | h
              · have := HRM.out; omega
              · have := HL.out _ h; omega)
            have g4 := tm_gb hg0 hC4 HRM.out.1 (fun b hb => Nat.le_trans HRM.out.1 (hT.2.1.lt hb).1)
            have HT4 := Go.Lib.hid hT4
            have HO5 := Go.Lib.hid hO5
            have HS4 := Go.Lib.hid hS4
            have HG4 := Go.Lib.hid g4
            have HB4 : Hid (mb < w4.heap.size) := Go.Lib.hid (Nat.lt_of_lt_of_le HB.out hC4.size)
            have HL4 : Hid (∀ b, lv4.ownBlock = some b → b < mb) := Go.Lib.hid (fun b hb => HL.out b (by rw [← hw4]; exact hb))
            have HM4 : Hid (OnceI l ((overOf (k : Int) L).drop 0 ++ leftOf (k : Int) L) D) := Go.Lib.hid (once_split (k : Int) HO.out)
            clear hT hT4 hC4 hO4 hO5 hS4 g4 hw4 hd hd' HT HG HB hg0 hBo HS HL HO
            go_loopw [54] (fun v54 wr => ∃ (i2 : Nat) (D : DM), v54 = .int .i64 (i2 : Int) ∧ i2 ≤ n ∧ Hid (OnceI l ((overOf (k : Int) L).drop i2 ++ leftOf (k : Int) L) D) ∧ Hid (Seen wr mb D) ∧ Hid (Tm wr r r (k : Int) (leftOf (k : Int) L) lv4) ∧ Hid (Rd (fun b => mb < b) wr 2 (.slice A4 n c4) n (prCs ((overOf (k : Int) L).map (·.2)))) ∧ Hid (w.grownBy wr none) ∧ Hid (mb < wr.heap.size)) (fun v54 _ => n - (intOf v54).toNat)
            case atStart => exact ⟨0, D, rfl, Nat.zero_le _, HM4, HS4, HT4, HO5, HG4, HB4⟩
            case round =>
              clear HM4 HS4 HT4 HO5 HG4 HB4
              obtain ⟨i2, D, rfl, hi2, HM, HS, HT, HO, HG, HB⟩ := hrel
              obtain ⟨wz, rfl⟩ : ∃ wz : World, wz = wr := ⟨_, rfl⟩
              by_cases hlt2 : i2 < n
              · have hd : decide ((i2 : Int) < (n : Int)) = true := decide_eq_true (by omega)
                have hd' : decide (i2 < n) = true := decide_eq_true hlt2
                obtain ⟨d, hx⟩ : ∃ d, (overOf (k : Int) L)[i2]? = some d := ⟨_, List.getElem?_eq_getElem (by rw [← HN.out]; exact hlt2)⟩
                have hdrop : (overOf (k : Int) L).drop i2 ++ leftOf (k : Int) L = d :: ((overOf (k : Int) L).drop (i2 + 1) ++ leftOf (k : Int) L) := by
                  obtain ⟨hlx, hgx⟩ := List.getElem?_eq_some_iff.1 hx
                  rw [List.drop_eq_getElem_cons hlx, hgx, List.cons_append]
                have hM := HM.out
                rw [hdrop] at hM
                obtain ⟨si, x, hsi, rfl⟩ := hM.ok d (List.mem_cons_self ..)
                have hdx := List.mem_filter.1 (List.mem_of_getElem? hx)
                have hkD : k = delay x := by
                  have h1 := HK.out _ hdx.1
                  have h2 := of_decide_eq_true hdx.2
                  dsimp only at h1 h2
                  omega
                have hsl : si < q := by rw [HQ.out]; exact (List.getElem?_eq_some_iff.1 hsi).1
                have hnew : has D (kI (si : Int)) = false := hM.new _ (List.mem_cons_self ..)
                have hM2 := once_step hM
                have hz : size D ≤ 1000 := by have := hM.sz; rw [← HQ.out] at this; omega
                have HM2 := Go.Lib.hid hM2
                have HNEW := Go.Lib.hid hnew
                have HKD := Go.Lib.hid hkD
                obtain ⟨b, o, c1, he, hbb, hnc, hcm, hcell⟩ := HO.out.at (by omega)
                injection he with hA _ hcc
                subst hA hcc
                have hrx := range_pr hcell (i := i2) (p := (x, (si : Int))) (by rw [List.getElem?_map, hx]; rfl)
                obtain ⟨bv, ov, cv, hvv, hbv, -, -, hrv⟩ := (Rd.grown HV.out HG.out (by simp)).at (by omega : 0 < q)
                injection hvv with hA _ hcc
                subst hA hcc
                have HRV : Hid (∀ w', wz.grownBy w' none → w'.cell? ⟨bv, ov + si, none⟩ = some (.int .i64 x)) := Go.Lib.hid (fun w' hg => cell_grown hg (hrv si _ (by rw [List.getElem?_map, hsi]; rfl)) (by simp))
                have bx0 := Bk.new wz 33 prZ
                have hs1000 : (0 : Int) ≤ (si : Int) ∧ (si : Int) ≤ 1000 := by omega
                have HHS : Hid (∀ w', wz.grownBy w' none → (Instr.lookup 29 (.map (some mb)) (.int .i64 (si : Int)) false).run Try.prog w' = .ok (.bool false) w') := Go.Lib.hid (fun w' hg => (HS.out.grown hg (by simp)).look hs1000 HNEW.out)
                clear hcell hx hdrop hM hdx hkD hnew hM2 hrv hsi
                go_upto_region 21 with (first
                  | ((with_reducible refine wpList_load_range (x := .tmp 56) (t := 33) b (o + i2 * 2) (prC (x, (si : Int))) _ hrx (by kernel_rfl) Try.underlying33 rfl (prSize _) ?_))
                  | ((with_reducible refine wpList_alloc_row (E := 33) prZ infoPr ?_))
                  | ((with_reducible refine wpList_store_bk (t := 33) wz.heap.size 33 prZ (prC (x, (si : Int))) bx0 (by kernel_rfl) (by kernel_rfl) (prSize _) rfl (prC_one _) ?_); intro w5 h5 g5 z5))
                have g15 := gb_trans_new (gb_alloc (gb_refl wz none) _) g5 (Nat.le_refl _)
                obtain ⟨bx, hbx⟩ : ∃ bx, bx = wz.heap.size := ⟨_, rfl⟩
                rw [← hbx] at h5 ⊢
                have cx0 : w5.cell? ⟨bx, 0, none⟩ = some (.int .i64 x) := h5.cellAt (i := 0) rfl
                have cx1 : w5.cell? ⟨bx, 1, none⟩ = some (.int .i64 (si : Int)) := h5.cellAt (i := 1) rfl
                have HG15 := Go.Lib.hid g15
                clear hrx bx0 h5 g5 z5 g15 hbx
                go_quiet (fail)
                obtain ⟨w6, hw6⟩ : ∃ w6, w6 = w5.drewN nq := ⟨_, rfl⟩
                have g16 : wz.grownBy w6 none := by rw [hw6]; exact gb_trans HG15.out (gb_drewN (gb_refl w5 none) nq)
                rw [← hw6]
                clear cx0 cx1 hw6
                have HG16 := Go.Lib.hid g16
                have hlk := HHS.out w6 g16
                have hcv := HRV.out w6 g16
                clear g16
                have f1 : decide ((si : Int) < 0) = false := decide_eq_false (by omega)
                have f2 : decide ((si : Int) ≥ (q : Int)) = false := decide_eq_false (by omega)
                have f2' : decide ((q : Int) ≤ (si : Int)) = false := decide_eq_false (by omega)
                have f2'' : decide (q ≤ si) = false := decide_eq_false (by omega)
                have f3 : ((x : Int) == (x : Int)) = true := beq_self_eq_true _
                have f4 : ((k : Int) == (k : Int)) = true := beq_self_eq_true _
                go_wp2_with fail
                refine (delay_any x _).mono ?_
                rintro e w7 ⟨rfl, rfl⟩
                rw [← HKD.out]
                have hS7 := HS.out.grown HG16.out (by simp)
                go_frame
                go_wp2_with ((with_reducible refine wpList_seen (m := .tmp 89) (x := .tmp 90) (b := mb) (s := (si : Int)) (by kernel_rfl) (by kernel_rfl) hs1000 hS7 hz ?_); intro w8 hS8 g8)
                have hms : mb < w7.heap.size := Nat.lt_of_lt_of_le HB.out HG16.out.size
                have HTW : Hid (Tm w8 r r (k : Int) (leftOf (k : Int) L) lv4) := Go.Lib.hid (by
                  have h := HT.out.gr HG16.out
                  exact ⟨h.1.grown g8 (by have := HRM.out; simp; omega), h.2.1.grown g8 (fun b hb e => by have := HL4.out b hb; have : mb = b := Option.some.inj e; omega), h.2.2⟩)
                have HGW : Hid (w.grownBy w8 none) := Go.Lib.hid (gb_trans_new (gb_trans HG.out HG16.out) g8 (by have := HRM.out; omega))
                exact ⟨⟨i2 + 1, _, by push_cast; rfl, by omega, HM2, Go.Lib.hid hS8, HTW, Go.Lib.hid (Rd.grown (Rd.grown HO.out HG16.out (by simp)) g8 (fun b e => by have : mb = b := Option.some.inj e; omega)), HGW, Go.Lib.hid (Nat.lt_of_lt_of_le hms g8.size)⟩, by simp only [intOf]; omega⟩
              · obtain rfl : n = i2 := by omega
                have hd : decide ((n : Int) < (n : Int)) = false := decide_eq_false (by omega)
                have hd' : decide (n < n) = false := decide_eq_false (by omega)
                have hM := HM.out
                rw [List.drop_eq_nil_of_le (by rw [← HN.out]; exact Nat.le_refl _), List.nil_append] at hM
                have HM2 := Go.Lib.hid hM
                clear hM
                go_wp2_with fail
                exact ⟨⟨k + 1, _, D, lv4, by push_cast; rfl, by omega, by omega, HM2, Go.Lib.hid (fun d hd => by
                  have h3 : ¬ d.1 ≤ (k : Int) := by simpa using (List.mem_filter.1 hd).2
                  push_cast; omega), Go.Lib.hid (by rw [show ((k + 1 : Nat) : Int) - 1 = (k : Int) by omega]; exact HT.out), HS, HL4, HG, HB⟩, by simp only [intOf]; omega⟩
          · obtain rfl : k = 51 := by omega
            obtain rfl : L = [] := by
              rw [List.eq_nil_iff_forall_not_mem]
              intro d hd
              obtain ⟨i, x, hi, rfl⟩ := HO.out.ok d hd
              have h1 : (51 : Int) ≤ (delay x : Int) := HK.out _ hd
              have h2 := HLL.out x (List.mem_of_getElem? hi)
              have h3 : dn x = x.toNat := by unfold dn; omega
              unfold delay at h1
              omega
            have hsz : (size D : Int) = (q : Int) := by have h := HO.out.sz; rw [← HQ.out, List.length_nil, Nat.add_zero] at h; rw [h]
            have hS := HS.out
            go_wp2_with ((with_reducible refine wpList_seen_len (m := .tmp 92) (b := mb) (n := (q : Int)) (by kernel_rfl) hS hsz ?_))
            refine (len_any _ hT).mono ?_
            rintro e w7 ⟨rfl, rfl⟩
            go_frame
            go_wp2_with fail
            go_ret
            exact ⟨rfl, hg0⟩
end Go.Proofs.Ytjbnnfphpchneaa
