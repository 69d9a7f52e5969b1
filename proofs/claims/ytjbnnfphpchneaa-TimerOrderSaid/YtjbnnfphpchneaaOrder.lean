import Derived.Test.YtjbnnfphpchneaaGcT
import Derived.Deep.CutBlock
/- TimerOrder: the walk. -/
namespace Go.Proofs.Ytjbnnfphpchneaa
open Go.RowKit Go.Shelf Sc
attribute [local go_sem] Oper.semAt_some
theorem over_all {n D rd : Int} (l : List Int) (h : D ≤ n) : overOf n (l.map fun s => (D, rd, s)) = (l.map fun s => (D, rd, s)) ∧ leftOf n (l.map fun s => (D, rd, s)) = [] := by
  constructor
  · unfold overOf
    rw [List.filter_eq_self]
    intro d hd
    obtain ⟨s, -, rfl⟩ := List.mem_map.1 hd
    exact decide_eq_true h
  · unfold leftOf
    rw [List.filter_eq_nil_iff]
    intro d hd
    obtain ⟨s, -, rfl⟩ := List.mem_map.1 hd
    simp [h]
theorem over_none {n D rd : Int} (l : List Int) (h : n < D) : overOf n (l.map fun s => (D, rd, s)) = [] ∧ leftOf n (l.map fun s => (D, rd, s)) = (l.map fun s => (D, rd, s)) := by
  have e : overOf n (l.map fun s => (D, rd, s)) = [] := by
    unfold overOf
    rw [List.filter_eq_nil_iff]
    intro d hd
    obtain ⟨s, -, rfl⟩ := List.mem_map.1 hd
    have : ¬ D ≤ n := by omega
    simp [this]
  exact ⟨e, left_of_none e⟩
def otB (m bn : Nat) (most rd : Int) (va : Value) (pre : List Pr) : List (Nat × TypeId × List Value) :=
  [(bn, 3, [.int .i64 (pre.length : Int)]), (m + 2, 3, [.int .i64 most]), (m, 22, [va]), (m + 1, 3, [.int .i64 rd]), (m + 3, 4, [.bool false])]
def otP (P0 : List Pr) (pre : List Pr) : Prop := pre <+: P0
def otX (P0 : List Pr) (most : Int) (c : Code) (pre : List Pr) : Prop := (c = .exit 4 ∧ (pre.length : Int) = most) ∨ (c = .ret ∧ ¬ pre <+: P0)
def otBX (m bn : Nat) (most rd : Int) (va : Value) (c : Code) (pre : List Pr) : List (Nat × TypeId × List Value) := match c with
  | .exit _ => otB m bn most rd va pre
  | _ => []
theorem prefix_snoc {α : Type} {pre P0 : List α} {x : α} (h : pre <+: P0) (hx : P0[pre.length]? = some x) : pre ++ [x] <+: P0 := by
  obtain ⟨tl, rfl⟩ := h
  rw [List.getElem?_append_right (Nat.le_refl _), Nat.sub_self] at hx
  cases tl with
  | nil => cases hx
  | cons y tl =>
    have e : y = x := by simpa using hx
    exact ⟨tl, by rw [e]; simp⟩
def otA (m r bn : Nat) (x : Pr) (a : Act) : Prop := ∃ u0 u1 u2 u8 u9 u10 u14 u15 u16 u17 u18 u19 u20 u21 u22 u23 u24 u25 u26 u27 u28 u29 u30 u31 u32 u33 u34 u35 u36 u37 u38 u39 u40 u41 u42 u43 u44 u45 u46 u47 u48 u49 u50 u51 u52 u53 u54 u55 u56 u57 u58 u59 u60 u61 u62 u63 u64 u65 u66 u67 u68 u69 u70 u71 u72 u73 u74 u75 u76 u77 u78 u79 u80 u81 u82 u83 u84, a = { tmps := #[u0, u1, u2, .pointer (some ⟨m, 0, none⟩), .pointer (some ⟨m + 1, 0, none⟩), .pointer (some ⟨m + 2, 0, none⟩), .pointer (some ⟨m + 3, 0, none⟩), .pointer (some ⟨r, 0, none⟩), u8, u9, u10, .pointer (some ⟨bn, 0, none⟩), .int .i64 x.1, .int .i64 x.2, u14, u15, u16, u17, u18, u19, u20, u21, u22, u23, u24, u25, u26, u27, u28, u29, u30, u31, u32, u33, u34, u35, u36, u37, u38, u39, u40, u41, u42, u43, u44, u45, u46, u47, u48, u49, u50, u51, u52, u53, u54, u55, u56, u57, u58, u59, u60, u61, u62, u63, u64, u65, u66, u67, u68, u69, u70, u71, u72, u73, u74, u75, u76, u77, u78, u79, u80, u81, u82, u83, u84], defers := [] }
set_option maxHeartbeats 8000000 in
set_option maxRecDepth 100000 in
theorem order_walk (v : Value) (l : List Int) (rd most : Int) (NB : Nat → Prop) (w : World) (hv : Rd NB w 1 v l.length (l.map fun x => .int .i64 x)) (hNB : ∀ b, NB b → b < w.heap.size) :
    Calls Try.prog 4 #[v, .int .i64 rd, .int .i64 most] w fun e w' => e = .returned (.bool true) ∧ w.grownBy w' none := by
  refine calls_marks Try.func4 rfl ?_
  simp only [Try.ntmps4, List.size_toArray, List.length_cons, List.length_nil, Nat.reduceAdd, Nat.reduceSub, Array.replicate_succ, Array.replicate_zero, List.push_toArray, List.append_toArray, List.nil_append, List.cons_append]
  obtain ⟨A, c, rfl, hc⟩ := Rd.form hv
  have hmx := Rd.le hv
  obtain ⟨q, hq⟩ : ∃ q, q = l.length := ⟨_, rfl⟩
  rw [← hq] at hv hc hmx ⊢
  obtain ⟨W, hW⟩ : ∃ W, W = (((w.alloc (.cells #[.slice A q c] 22)).alloc (.cells #[.int .i64 rd] 3)).alloc (.cells #[.int .i64 most] 3)).alloc (.cells #[.bool false] 4) := ⟨_, rfl⟩
  have z1 : W.heap.size = w.heap.size + 4 := by rw [hW, World.size_alloc, World.size_alloc, World.size_alloc, World.size_alloc]
  obtain ⟨m, hm⟩ : ∃ m, m = w.heap.size := ⟨_, rfl⟩
  have b0 : Bk W m 22 [.slice A q c] := by rw [hW, hm]; exact (((Bk.new w _ _).alloc _).alloc _).alloc _
  have b1 : Bk W (m + 1) 3 [.int .i64 rd] := by
    have := Bk.new (w.alloc (.cells #[.slice A q c] 22)) 3 [.int .i64 rd]
    rw [World.size_alloc, ← hm] at this; rw [hW]; exact (this.alloc _).alloc _
  have b2 : Bk W (m + 2) 3 [.int .i64 most] := by
    have := Bk.new ((w.alloc (.cells #[.slice A q c] 22)).alloc (.cells #[.int .i64 rd] 3)) 3 [.int .i64 most]
    rw [World.size_alloc, World.size_alloc, ← hm] at this; rw [hW]; exact this.alloc _
  have b3 : Bk W (m + 3) 4 [.bool false] := by
    have := Bk.new (((w.alloc (.cells #[.slice A q c] 22)).alloc (.cells #[.int .i64 rd] 3)).alloc (.cells #[.int .i64 most] 3)) 4 [.bool false]
    rw [World.size_alloc, World.size_alloc, World.size_alloc, ← hm] at this; rw [hW]; exact this
  have g0 : w.grownBy W none := by rw [hW]; exact gb_alloc (gb_alloc (gb_alloc (gb_alloc (gb_refl w none) _) _) _) _
  have HV := Go.Lib.hid (Rd.grown hv g0 (by simp))
  have HNB := Go.Lib.hid hNB
  have HQ := Go.Lib.hid hq
  have HW := Go.Lib.hid hW
  have HM := Go.Lib.hid hm
  clear hW hm hv hq hNB
  rcases (by omega : (40 < q ∨ (q ≤ 40 ∧ (rd < 0 ∨ (0 ≤ rd ∧ 10 < rd)))) ∨ (q ≤ 40 ∧ 0 ≤ rd ∧ rd ≤ 10)) with hg | hg
  · rcases hg with h | ⟨h1, h | ⟨h2, h⟩⟩
    all_goals
      first
        | (have d1 : decide ((q : Int) > 40) = true := decide_eq_true (by omega))
        | (have d1 : decide ((q : Int) > 40) = false := decide_eq_false (by omega)
           first
             | (have d2 : decide (rd < 0) = true := decide_eq_true (by omega))
             | (have d2 : decide (rd < 0) = false := decide_eq_false (by omega)
                have d3 : decide (rd > 10) = true := decide_eq_true (by omega)))
      go_wp2_with (go_at_call 7; (rw [← HW.out]; (with_reducible refine (runs_any _).mono ?_); rintro e w1 ⟨rfl, g1⟩; rw [← HM.out]; have c0 := (b0.grown g1 (by simp)).cellAt (i := 0) rfl; have c1 := (b1.grown g1 (by simp)).cellAt (i := 0) rfl; have c3 := (b3.grown g1 (by simp)).cellAt (i := 0) rfl; have f3 := (b3.grown g1 (by simp)).frozen 0))
      have b4 := (b3.grown g1 (by simp)).set 0 (.bool true)
      have gW := gb_trans_new (gb_trans g0 g1) (gb_set1 w1 ⟨m + 3, 0, none⟩ (.bool true)) (by simp [HM.out])
      exact ⟨_, results_scalar _ rfl _ _ (m + 3) (.bool true) rfl (b4.cellAt (i := 0) rfl) Try.underlying4 rfl, rfl, gW⟩
  · obtain ⟨hq40, hr0, hr10⟩ := hg
    have d1 : decide ((q : Int) > 40) = false := decide_eq_false (by omega)
    have d2 : decide (rd < 0) = false := decide_eq_false (by omega)
    have d3 : decide (rd > 10) = false := decide_eq_false (by omega)
    go_wp2_with (first
      | (go_at_call 7; (rw [← HW.out]; (with_reducible refine (runs_any _).mono ?_); rintro e w1 ⟨rfl, g1⟩; rw [← HM.out]; have c0 := (b0.grown g1 (by simp)).cellAt (i := 0) rfl; have c1 := (b1.grown g1 (by simp)).cellAt (i := 0) rfl))
      | ((with_reducible refine wpList_alloc_row (E := 26) tmZ infoTm ?_); have c0 := ((b0.grown g1 (by simp)).alloc (.cells tmZ.toArray 26)).cellAt (i := 0) rfl))
    obtain ⟨r, hr⟩ : ∃ r, r = w1.heap.size := ⟨_, rfl⟩
    obtain ⟨W1, hW1⟩ : ∃ W1, W1 = w1.alloc (.cells tmZ.toArray 26) := ⟨_, rfl⟩
    have HT0 : Hid (Tm W1 r r 0 [] (.slice none 0 0)) := Go.Lib.hid (by rw [hW1, hr]; exact tm_new w1)
    have HG0 : Hid (w1.grownBy W1 none) := Go.Lib.hid (by rw [hW1]; exact gb_alloc (gb_refl w1 none) _)
    have HRW : Hid (w1.heap.size ≤ r ∧ r ≤ W1.heap.size) := Go.Lib.hid (by rw [hW1, World.size_alloc, hr]; omega)
    have g01 := gb_trans g0 g1
    have HB0 := Go.Lib.hid (b0.grown g1 (by simp))
    have HB1 := Go.Lib.hid (b1.grown g1 (by simp))
    have HB2 := Go.Lib.hid (b2.grown g1 (by simp))
    have HB3 := Go.Lib.hid (b3.grown g1 (by simp))
    have HV1 := Go.Lib.hid (Rd.grown HV.out g1 (by simp))
    have HMS : Hid (m + 4 ≤ w1.heap.size ∧ w.heap.size = m) := Go.Lib.hid (by have := g1.size; rw [HM.out]; omega)
    have HG01 := Go.Lib.hid g01
    rw [← hW1, ← hr]
    obtain ⟨D, hD⟩ : ∃ D, D = delay rd := ⟨_, rfl⟩
    have hDb : 3 ≤ D ∧ D ≤ 23 := by
      have h : dn rd = rd.toNat := by unfold dn; omega
      rw [hD]; unfold delay; omega
    have HD := Go.Lib.hid hD
    clear hW1 hr g1 d1 d2 d3 c0 c1 b0 b1 b2 b3 g0 g01 z1 HW HV hD
    go_loopw [29] (fun v29 wr => ∃ (i : Nat) (lv : Value), v29 = .int .i64 (i : Int) ∧ i ≤ q ∧ Hid (Tm wr r r 0 ((l.take i).map fun s => ((D : Int), rd, s)) lv) ∧ Hid (w1.grownBy wr none) ∧ Hid (r ≤ wr.heap.size)) (fun v29 _ => q - (intOf v29).toNat)
    case atStart => exact ⟨0, _, rfl, Nat.zero_le _, HT0, HG0, Go.Lib.hid HRW.out.2⟩
    case round =>
      clear HT0 HG0
      obtain ⟨i, lv, rfl, hi, HT, HG, HB⟩ := hrel
      obtain ⟨wo, rfl⟩ : ∃ wo : World, wo = wr := ⟨_, rfl⟩
      have c1 := (HB1.out.grown HG.out (by simp)).cellAt (i := 0) rfl
      have hT := HT.out
      have hg0 := HG.out
      have hBo := HB.out
      by_cases hlt : i < q
      · have hd : decide ((i : Int) < (q : Int)) = true := decide_eq_true (by omega)
        have hd' : decide (i < q) = true := decide_eq_true hlt
        obtain ⟨x, hx⟩ : ∃ x, l[i]? = some x := ⟨_, List.getElem?_eq_getElem (by rw [← HQ.out]; exact hlt)⟩
        obtain ⟨b, o, c9, he, hbb, hnc, hcm, hcell⟩ := (Rd.grown HV1.out HG.out (by simp)).at (by omega)
        injection he with hA _ hcc
        subst hA hcc
        have ce : wo.cell? ⟨b, o + i, none⟩ = some (.int .i64 x) := hcell i _ (by rw [List.getElem?_map, hx]; rfl)
        have HTK : Hid ((l.take (i + 1)).map (fun s => ((D : Int), rd, s)) = (l.take i).map (fun s => ((D : Int), rd, s)) ++ [((D : Int), rd, x)]) := Go.Lib.hid (by rw [List.take_add_one, hx]; simp)
        have hL40 : ((l.take i).map fun s => ((D : Int), rd, s)).length < 40 := by rw [List.length_map, List.length_take]; omega
        have hn0 : (0 : Int) ≤ 0 ∧ (0 : Int) ≤ 1000000 := by decide
        clear hcell hx
        go_wp2_with (go_at_call 8; ((with_reducible refine (set_any rd x _ hT hL40 hn0 hBo).mono ?_); rintro e w2 ⟨rfl, lv2, hT2, hC2, hO2⟩; rw [← HD.out, Int.zero_add, ← HTK.out] at hT2))
        have g2 := tm_gb hg0 hC2 HRW.out.1 (fun b hb => Nat.le_trans HRW.out.1 (hT.2.1.lt hb).1)
        exact ⟨⟨i + 1, lv2, by push_cast; rfl, by omega, Go.Lib.hid hT2, Go.Lib.hid g2, Go.Lib.hid (Nat.le_trans hBo hC2.size)⟩, by simp only [intOf]; omega⟩
      · obtain rfl : i = q := by omega
        have hd : decide ((i : Int) < (i : Int)) = false := decide_eq_false (by omega)
        have hd' : decide (i < i) = false := decide_eq_false (by omega)
        rw [List.take_of_length_le (by rw [← HQ.out]; exact Nat.le_refl _)] at hT
        have HT1 := Go.Lib.hid hT
        clear hT hg0 hBo c1 HT
        go_wp2_with fail
        clear hd hd'
        go_loopw [10] (fun v10 wr => ∃ (k : Nat) (lv : Value), v10 = .int .i64 (k : Int) ∧ 1 ≤ k ∧ k ≤ D ∧ Hid (Tm wr r r ((k : Int) - 1) (l.map fun s => ((D : Int), rd, s)) lv) ∧ Hid (w1.grownBy wr none) ∧ Hid (r ≤ wr.heap.size)) (fun v10 _ => D - (intOf v10).toNat)
        case atStart => exact ⟨1, lv, rfl, Nat.le_refl _, by omega, HT1, HG, HB⟩
        case round =>
          clear HT1 HG HB
          obtain ⟨k, lv, rfl, hk1, hkD, HT, HG, HB⟩ := hrel
          obtain ⟨wq, rfl⟩ : ∃ wq : World, wq = wr := ⟨_, rfl⟩
          have c1 := (HB1.out.grown HG.out (by simp)).cellAt (i := 0) rfl
          have hT := HT.out
          have hg0 := HG.out
          have hBo := HB.out
          have hL1 : (l.map fun s => ((D : Int), rd, s)).length ≤ 1000 := by rw [List.length_map, ← HQ.out]; omega
          have hnb : (0 : Int) ≤ (k : Int) - 1 ∧ (k : Int) - 1 ≤ 1000000 := by omega
          by_cases hlt : k < D
          · have hd : decide ((k : Int) < (D : Int)) = true := decide_eq_true (by omega)
            have hd' : decide (k < D) = true := decide_eq_true hlt
            obtain ⟨ho, hl⟩ := over_none (n := (k : Int)) (D := (D : Int)) (rd := rd) l (by omega)
            have HO := Go.Lib.hid ho
            have HLL := Go.Lib.hid hl
            clear ho hl
            go_wp2_with (first
              | (go_at_call 9; ((with_reducible refine (delay_any rd _).mono ?_); rintro e w3 ⟨rfl, rfl⟩; rw [← HD.out]))
              | (go_at_call 10; ((with_reducible refine (over_any _ hT hL1 hnb hBo).mono ?_); rintro e w4 ⟨ov, lv4, rfl, hT4, hO4, hC4, hw4⟩; rw [show (k : Int) - 1 + 1 = (k : Int) from by omega, HO.out] at hO4; rw [show (k : Int) - 1 + 1 = (k : Int) from by omega, HLL.out] at hT4; rw [List.length_nil] at hO4; obtain ⟨A4, c4, rfl⟩ := hO4.form)))
            have g2 := tm_gb hg0 hC4 HRW.out.1 (fun b hb => Nat.le_trans HRW.out.1 (hT.2.1.lt hb).1)
            exact ⟨⟨k + 1, lv4, by push_cast; rfl, by omega, by omega, Go.Lib.hid (by rw [show ((k + 1 : Nat) : Int) - 1 = (k : Int) by omega]; exact hT4), Go.Lib.hid g2, Go.Lib.hid (Nat.le_trans hBo hC4.size)⟩, by simp only [intOf]; omega⟩
          · obtain rfl : k = D := by omega
            have hd : decide ((k : Int) < (k : Int)) = false := decide_eq_false (by omega)
            have hd' : decide (k < k) = false := decide_eq_false (by omega)
            go_upto_region 18 with (go_at_call 9; ((with_reducible refine (delay_any rd _).mono ?_); rintro e w3 ⟨rfl, rfl⟩; rw [← HD.out]))
            obtain ⟨bn, hbn⟩ : ∃ bn, bn = w3.heap.size := ⟨_, rfl⟩
            obtain ⟨W2, hW2⟩ : ∃ W2, W2 = w3.alloc (.cells #[.int .i64 0] 3) := ⟨_, rfl⟩
            have bn2 : Bk W2 bn 3 [.int .i64 0] := by rw [hW2, hbn]; exact Bk.new w3 _ [.int .i64 0]
            have g2 : w1.grownBy W2 none := by rw [hW2]; exact gb_alloc hg0 _
            have z2 : W2.heap.size = bn + 1 := by rw [hW2, World.size_alloc, hbn]
            have hT2 : Tm W2 r r ((k : Int) - 1) (l.map fun s => ((k : Int), rd, s)) lv := hT.gr (by rw [hW2]; exact gb_alloc (gb_refl w3 none) _)
            have hB2 : r ≤ W2.heap.size := by rw [z2, hbn]; omega
            have hlv : ∀ b, lv.ownBlock = some b → r ≤ b ∧ b < bn := fun b hb => by rw [hbn]; exact hT.2.1.lt hb
            have hrbn : r < bn := by rw [hbn]; exact hT.1.lt
            rw [← hbn, ← hW2]
            obtain ⟨hov, hlf⟩ := over_all (n := (k : Int)) (D := (k : Int)) (rd := rd) l (Int.le_refl _)
            have HOV := Go.Lib.hid hov
            have HLF := Go.Lib.hid hlf
            have HG2 := Go.Lib.hid g2
            clear hW2 hbn hov hlf hT hg0 hBo HT HG HB c1 hd hd' g2
            go_wp2_with (go_at_call 12; ((with_reducible refine (tick_any _ hT2 hL1 hnb hB2).mono ?_); rintro e W0 ⟨bO, ov1, lv1, rfl, hbO, hT0, hBO, hO0, hov1, hC0, hown⟩; rw [show (k : Int) - 1 + 1 = (k : Int) from by omega, HLF.out] at hT0; rw [show (k : Int) - 1 + 1 = (k : Int) from by omega, HOV.out] at hO0))
            obtain ⟨O, hO⟩ : ∃ O, O = (l.map fun s => ((k : Int), rd, s)) := ⟨_, rfl⟩
            rw [← hO] at hO0
            have hOl : O.length = i := by rw [hO, List.length_map, HQ.out]
            rw [hOl] at hO0
            obtain ⟨A5, c5, rfl⟩ := hO0.form
            obtain ⟨P0, hP0⟩ : ∃ P0, P0 = O.map (·.2) := ⟨_, rfl⟩
            have hP1 : P0 = l.map fun s => (rd, s) := by rw [hP0, hO, List.map_map]; rfl
            have hPl : P0.length = i := by rw [hP0, List.length_map, hOl]
            have hms := HMS.out
            have hrw := HRW.out
            have hC0s := hC0.size
            have g20 : w1.grownBy W0 none := tm_gb HG2.out hC0 hrw.1 (fun b hb => Nat.le_trans hrw.1 (hlv b hb).1)
            have d0 := HB0.out.grown g20 (by simp)
            have d1 := HB1.out.grown g20 (by simp)
            have d2 := HB2.out.grown g20 (by simp)
            have d3 := HB3.out.grown g20 (by simp)
            have dv := Rd.grown HV1.out g20 (by simp)
            have dn0 : Bk W0 bn 3 [.int .i64 0] := hC0.bk bn2 (fun h => by
              rcases h with h | h
              · omega
              · have := (hlv _ h).2; omega)
            have hrd : Rd (fun b => (Value.slice A5 i c5).ownBlock = some b) W0 3 (.slice A5 i c5) i (dueCs O) := hO0.rd (fun b hb => hb)
            have hseq := tick_seq bO A5 i c5 O (fun b => (Value.slice A5 i c5).ownBlock = some b) (fun q => q = m + 3 ∨ q = bn) W0 hBO (by intro h; rcases h with h | h <;> omega) hrd hOl (fun b hb => ⟨fun h => by
              have h1 := (hov1 b hb).1
              rcases h with h | h <;> omega, (hO0.lt hb).2⟩) (by omega)
            rw [← hP0] at hseq
            have hlv1 : ∀ b, lv1.ownBlock = some b → r ≤ b ∧ b < bn := fun b hb => hlv b (hown ▸ hb)
            have HP1 := Go.Lib.hid hP1
            have HT0 := Go.Lib.hid hT0
            have HDV := Go.Lib.hid dv
            have HG20 := Go.Lib.hid g20
            clear hrd hBO hO0 hov1 hC0 hT2 hB2 hlv bn2 hP0 hP1 hOl hO dv g20 hT0 hown hbO
            refine (wpIn_wide (n := 0)).1 (range_law (gf := 20) (lb := #[.pointer (some ⟨bO, 0, none⟩)]) rfl (enters_of Try.func20 (by kernel_rfl) rfl)
              hseq (Below.refl _ _) (fun _ => rfl) (GC W0 (fun q => q = m + 3 ∨ q = bn) (otP P0) (otB m bn most rd (.slice A i c)))
              (fun c' => GC W0 (fun q => q = m + 3 ∨ q = bn) (otX P0 most c') (otBX m bn most rd (.slice A i c) c'))
              (fun x a _ => otA m r bn x a)
              GC.abides (fun _ => GC.abides) (GC.rec rfl) (fun _ => GC.rec rfl) (fun _ h _ _ => h)
              ⟨List.nil_prefix, Ch.refl _ _, ?base, by simp⟩ ?assign ?body ?done ?stop)
            case base => simp [otB, d0, d1, d2, d3, dn0]; omega
            case assign =>
              intro l' pre own x W hi' hlen
              simp only [encD, List.zip_toArray, List.zip_cons_cons, List.zip_nil_right, List.size_toArray, List.length_cons, List.length_nil, List.foldl_toArray', List.foldl_cons, List.foldl_nil, List.setIfInBounds_toArray, List.set_cons_zero, List.set_cons_succ]
              gi_wp2_with fail
              exact ⟨hi', ⟨_, _, _, _, _, _, _, _, _, _, _, _, _, _, _, _, _, _, _, _, _, _, _, _, _, _, _, _, _, _, _, _, _, _, _, _, _, _, _, _, _, _, _, _, _, _, _, _, _, _, _, _, _, _, _, _, _, _, _, _, _, _, _, _, _, _, _, _, _, _, _, _, _, _, _, _, _, rfl⟩, KeepsFrom.refl _ _, Kept.refl _ _ _⟩
            case body =>
              rintro l' pre own x a₁ W ⟨hp1, hi1, hi2, hi3⟩ ⟨u0, u1, u2, u8, u9, u10, u14, u15, u16, u17, u18, u19, u20, u21, u22, u23, u24, u25, u26, u27, u28, u29, u30, u31, u32, u33, u34, u35, u36, u37, u38, u39, u40, u41, u42, u43, u44, u45, u46, u47, u48, u49, u50, u51, u52, u53, u54, u55, u56, u57, u58, u59, u60, u61, u62, u63, u64, u65, u66, u67, u68, u69, u70, u71, u72, u73, u74, u75, u76, u77, u78, u79, u80, u81, u82, u83, u84, rfl⟩ hlen
              obtain ⟨j, hj⟩ : ∃ j, j = pre.length := ⟨_, rfl⟩
              have e7 : Bk W bn 3 [.int .i64 (j : Int)] := by rw [hj]; exact (hi2 (bn, 3, [.int .i64 (pre.length : Int)]) (by simp [otB])).1
              have e2 : Bk W (m + 2) 3 [.int .i64 most] := (hi2 (m + 2, 3, [.int .i64 most]) (by simp [otB])).1
              have e0 : Bk W m 22 [.slice A i c] := (hi2 (m, 22, [.slice A i c]) (by simp [otB])).1
              have e1 : Bk W (m + 1) 3 [.int .i64 rd] := (hi2 (m + 1, 3, [.int .i64 rd]) (by simp [otB])).1
              have e3 : Bk W (m + 3) 4 [.bool false] := (hi2 (m + 3, 4, [.bool false]) (by simp [otB])).1
              rw [← hj] at hlen
              obtain ⟨s, hs⟩ : ∃ s, l[j]? = some s := ⟨_, List.getElem?_eq_getElem (by rw [← HQ.out]; exact hlen)⟩
              have hPj : P0[j]? = some (rd, s) := by rw [HP1.out, List.getElem?_map, hs]; rfl
              obtain ⟨bv, ov, cv, hvv, hbv, -, -, hrv⟩ := (hi1.rd HDV.out (fun b hb h => by have := HNB.out b hb; rcases h with h | h <;> omega)).at (by omega)
              injection hvv with hA _ hcc
              subst hA hcc
              have ce : W.cell? ⟨bv, ov + j, none⟩ = some (.int .i64 s) := hrv j _ (by rw [List.getElem?_map, hs]; rfl)
              have c7 := e7.cellAt (i := 0) rfl
              have f7 := e7.frozen 0
              have c2 := e2.cellAt (i := 0) rfl
              have c0 := e0.cellAt (i := 0) rfl
              have c1 := e1.cellAt (i := 0) rfl
              have cr := e3.cellAt (i := 0) rfl
              have fr := e3.frozen 0
              have hsz : W0.heap.size ≤ W.heap.size := hi1.size
              have hdn := dn0.lt
              have hlI : (0 : Int) ≤ (j : Int) ∧ (j : Int) < (i : Int) ∧ (i : Int) ≤ 40 := by omega
              have hd3 : decide ((i : Int) ≤ (j : Int)) = false := decide_eq_false (by omega)
              have hwr : IntKind.i64.wrap ((j : Int) + 1) = (j : Int) + 1 := IntWalk.i64_in _ (by omega)
              have HE0 := Go.Lib.hid e0
              have HE1 := Go.Lib.hid e1
              have HE2 := Go.Lib.hid e2
              have HE3 := Go.Lib.hid e3
              have HE7 := Go.Lib.hid e7
              have HY := Go.Lib.hid hPj
              have HK := Go.Lib.hid hj
              have HPP := Go.Lib.hid hp1
              have HI1 := Go.Lib.hid hi1
              have HI3 := Go.Lib.hid hi3
              have HOWN : Hid (∀ q, q = m + 3 ∨ q = bn → q ∉ own) := Go.Lib.hid (fun q hq h => by have := hi3 q h; omega)
              clear hj hp1 hi1 hi2 hi3 hrv hseq d0 d1 d2 d3 dn0 hs hPj e0 e1 e2 e3 e7
              have hbad : Hid ((x.1 = rd ∧ x.2 = s) ∨ ¬ (pre ++ [x] <+: P0)) := Go.Lib.hid (by
                rcases Classical.em (x.1 = rd ∧ x.2 = s) with h | h
                · exact .inl h
                · refine .inr fun hq => h ?_
                  obtain ⟨tl, htl⟩ := hq
                  have h1 := HY.out
                  rw [← htl, HK.out, List.getElem?_append_left (by simp), List.getElem?_append_right (Nat.le_refl _), Nat.sub_self] at h1
                  have h2 : x = (rd, s) := Option.some.inj h1
                  rw [h2]; exact ⟨rfl, rfl⟩)
              have hret : Hid (∀ aX, ¬ (x.1 = rd ∧ x.2 = s) → leftBy W0.heap.size (fun q => q = m + 3 ∨ q = bn) own (GC W0 (fun q => q = m + 3 ∨ q = bn) (otP P0) (otB m bn most rd (.slice (some ⟨bv, ov, none⟩) i c)))
                  (fun c' => GC W0 (fun q => q = m + 3 ∨ q = bn) (otX P0 most c') (otBX m bn most rd (.slice (some ⟨bv, ov, none⟩) i c) c')) (pre ++ [x]) W .ret aX (W.setCell ⟨m + 3, 0, none⟩ (.bool false))) := Go.Lib.hid (fun aX hne => by
                have gWr : W.grownBy (W.setCell ⟨m + 3, 0, none⟩ (.bool false)) (some (m + 3)) := gb_set1 _ _ _
                exact ⟨KeepsFrom.of_grownBy gWr (fun q e => by have : m + 3 = q := Option.some.inj e; omega), .inr ⟨rfl, hbad.out.resolve_left hne⟩, HI1.out.gb gWr (fun q e => .inl (.inl (Option.some.inj e).symm)), (by intro e he; cases he), HI3.out⟩)
              have hblk : Hid (∀ e ∈ otB m bn most rd (.slice (some ⟨bv, ov, none⟩) i c) (pre ++ [x]), Bk (W.setCell ⟨bn, 0, none⟩ (.int .i64 ((j : Int) + 1))) e.1 e.2.1 e.2.2 ∧ e.1 < W0.heap.size) := Go.Lib.hid (by
                have b7 := HE7.out.set 0 (.int .i64 ((j : Int) + 1))
                intro e he
                simp only [otB, List.mem_cons, List.not_mem_nil, or_false] at he
                rcases he with rfl | rfl | rfl | rfl | rfl
                · refine ⟨?_, by show bn < _; omega⟩
                  rw [List.length_append, List.length_singleton, ← HK.out]; exact b7
                · exact ⟨HE2.out.far (by simp; omega) _, by show m + 2 < _; omega⟩
                · exact ⟨HE0.out.far (by simp; omega) _, by show m < _; omega⟩
                · exact ⟨HE1.out.far (by simp; omega) _, by show m + 1 < _; omega⟩
                · exact ⟨HE3.out.far (by simp; omega) _, by show m + 3 < _; omega⟩)
              have c9 : (W.setCell ⟨bn, 0, none⟩ (.int .i64 ((j : Int) + 1))).cell? ⟨m + 2, 0, none⟩ = some (.int .i64 most) := (HE2.out.far (by simp; omega) _).cellAt rfl
              have gWn : W.grownBy (W.setCell ⟨bn, 0, none⟩ (.int .i64 ((j : Int) + 1))) (some bn) := gb_set1 _ _ _
              obtain ⟨x1, x2⟩ := x
              dsimp only at hbad hret ⊢
              by_cases h1 : x1 = rd
              · by_cases h2 : x2 = s
                · subst h1 h2
                  have q1 : ((x1 : Int) == (x1 : Int)) = true := beq_self_eq_true _
                  have q2 : ((x2 : Int) == (x2 : Int)) = true := beq_self_eq_true _
                  clear hret hbad
                  by_cases hm2 : (j : Int) + 1 = most
                  · subst hm2
                    gi_wp2_with fail
                    exact ⟨KeepsFrom.of_grownBy gWn (fun q e => by have : bn = q := Option.some.inj e; omega), .inl ⟨rfl, by rw [List.length_append, List.length_singleton, ← HK.out]; rfl⟩, HI1.out.gb gWn (fun q e => .inl (.inr (Option.some.inj e).symm)), hblk.out, HI3.out⟩
                  · have q3 : ((j : Int) + 1 == most) = false := by simpa using hm2
                    gi_wp2_with fail
                    refine ⟨KeepsFrom.of_grownBy gWn (fun q e => by have : bn = q := Option.some.inj e; omega), Kept.grown gWn (fun q e => ⟨.inr (Option.some.inj e).symm, HOWN.out _ (.inr (Option.some.inj e).symm)⟩),
                      prefix_snoc HPP.out (by rw [← HK.out]; exact HY.out), HI1.out.gb gWn (fun q e => .inl (.inr (Option.some.inj e).symm)), hblk.out, HI3.out⟩
                · have q2 : ((x2 : Int) != (s : Int)) = true := by simp; omega
                  subst h1
                  have q1 : ((x1 : Int) == (x1 : Int)) = true := beq_self_eq_true _
                  gi_wp2_with fail
                  exact hret.out _ (fun h => h2 h.2)
              · have q1 : ((x1 : Int) != (rd : Int)) = true := by simp; omega
                gi_wp2_with fail
                exact hret.out _ (fun h => h1 h.1)
            case done =>
              rintro xs own W rfl ⟨hp1, hi1, hi2, hi3⟩ hK
              have e7 : Bk W bn 3 [.int .i64 (i : Int)] := by rw [← hPl]; exact (hi2 (bn, 3, [.int .i64 (xs.length : Int)]) (by simp [otB])).1
              have e0 : Bk W m 22 [.slice A i c] := (hi2 (m, 22, [.slice A i c]) (by simp [otB])).1
              have e3 : Bk W (m + 3) 4 [.bool false] := (hi2 (m + 3, 4, [.bool false]) (by simp [otB])).1
              have c7 := e7.cellAt (i := 0) rfl
              have c0 := e0.cellAt (i := 0) rfl
              have hTW : Tm W r r (k : Int) [] lv1 := ⟨hi1.bk HT0.out.1 (by intro h; rcases h with h | h <;> omega), hi1.ow HT0.out.2.1 (fun b hb h => by have := hlv1 b hb; rcases h with h | h <;> omega), HT0.out.2.2⟩
              have gW : w.grownBy W none := ((Ch.of (S := fun q => q = m + 3 ∨ q = bn) (gb_trans HG01.out HG20.out) (fun _ h => by cases h)).trans hi1 (fun q h => .inl h)).toGb (fun q h => by omega)
              have cr : W.cell? ⟨m + 1 + 1 + 1, 0, none⟩ = some (.bool false) := e3.cellAt (i := 0) rfl
              have fr : W.frozen? ⟨m + 1 + 1 + 1, 0, none⟩ = false := e3.frozen 0
              have gWs := gb_set1 W ⟨m + 3, 0, none⟩ (.bool true)
              have hlK := (Array.getElem?_eq_some_iff.1 hK).1
              have hbK : m + 3 < W0.heap.size := by omega
              have hK2 : (W.setCell ⟨m + 3, 0, none⟩ (.bool true)).heap[W0.heap.size]? = some (.deferred (some [])) := (gWs.block _ hlK (by simp; omega)).trans hK
              have dr2 : Bk ((W.setCell ⟨m + 3, 0, none⟩ (.bool true)).putObj W0.heap.size (.deferred none)) (m + 3) 4 [.bool true] := (e3.set 0 (.bool true)).put _ hK2 rfl
              have gW2 := gb_put (gb_trans_new gW gWs (by simp; omega)) (.deferred none) (by omega : w.heap.size ≤ W0.heap.size)
              have HK2 := Go.Lib.hid hK2
              have HDR := Go.Lib.hid dr2
              have HGW := Go.Lib.hid gW2
              clear gW hK hK2 dr2 gW2 gWs hlK e3
              clear hi1 hi2 hi3 hseq d0 d1 d2 d3 dn0 hp1
              go_wp2_with fail
              refine (len_any _ hTW).mono ?_
              rintro e w7 ⟨rfl, rfl⟩
              rw [show ((List.length ([] : List Due) : Nat) : Int) = 0 from rfl]
              go_frame
              go_wp2_with fail
              exact ⟨by simp, .inl ⟨_, _, rfl, run_takeDeferred HK2.out, _, results_scalar _ rfl _ _ (m + 3) (.bool true) rfl (HDR.out.cellAt (i := 0) rfl) Try.underlying4 rfl, rfl, HGW.out⟩⟩
            case stop =>
              rintro c' pre own W hS ⟨hx, hi1, hi2, hi3⟩ hK
              rcases hx with ⟨rfl, hm2⟩ | ⟨rfl, hx⟩
              · obtain ⟨j, hj⟩ : ∃ j, j = pre.length := ⟨_, rfl⟩
                have hjl : j ≤ i := by rw [hj, ← hPl]; exact hS.length_le
                have e7 : Bk W bn 3 [.int .i64 (j : Int)] := by rw [hj]; exact (hi2 (bn, 3, [.int .i64 (pre.length : Int)]) (by simp [otBX, otB])).1
                have e0 : Bk W m 22 [.slice A i c] := (hi2 (m, 22, [.slice A i c]) (by simp [otBX, otB])).1
                have e2 : Bk W (m + 2) 3 [.int .i64 most] := (hi2 (m + 2, 3, [.int .i64 most]) (by simp [otBX, otB])).1
                have e3 : Bk W (m + 3) 4 [.bool false] := (hi2 (m + 3, 4, [.bool false]) (by simp [otBX, otB])).1
                have c7 := e7.cellAt (i := 0) rfl
                have c0 := e0.cellAt (i := 0) rfl
                have c2 : W.cell? ⟨m + 1 + 1, 0, none⟩ = some (.int .i64 most) := e2.cellAt (i := 0) rfl
                have hTW : Tm W r r (k : Int) [] lv1 := ⟨hi1.bk HT0.out.1 (by intro h; rcases h with h | h <;> omega), hi1.ow HT0.out.2.1 (fun b hb h => by have := hlv1 b hb; rcases h with h | h <;> omega), HT0.out.2.2⟩
                have gW : w.grownBy W none := ((Ch.of (S := fun q => q = m + 3 ∨ q = bn) (gb_trans HG01.out HG20.out) (fun _ h => by cases h)).trans hi1 (fun q h => .inl h)).toGb (fun q h => by omega)
                have cr : W.cell? ⟨m + 1 + 1 + 1, 0, none⟩ = some (.bool false) := e3.cellAt (i := 0) rfl
                have fr : W.frozen? ⟨m + 1 + 1 + 1, 0, none⟩ = false := e3.frozen 0
                have gWs := gb_set1 W ⟨m + 3, 0, none⟩ (.bool true)
                have hlK := (Array.getElem?_eq_some_iff.1 hK).1
                have hbK : m + 3 < W0.heap.size := by omega
                have hK2 : (W.setCell ⟨m + 3, 0, none⟩ (.bool true)).heap[W0.heap.size]? = some (.deferred (some [])) := (gWs.block _ hlK (by simp; omega)).trans hK
                have dr2 : Bk ((W.setCell ⟨m + 3, 0, none⟩ (.bool true)).putObj W0.heap.size (.deferred none)) (m + 3) 4 [.bool true] := (e3.set 0 (.bool true)).put _ hK2 rfl
                have gW2 := gb_put (gb_trans_new gW gWs (by simp; omega)) (.deferred none) (by omega : w.heap.size ≤ W0.heap.size)
                have HK2 := Go.Lib.hid hK2
                have HDR := Go.Lib.hid dr2
                have HGW := Go.Lib.hid gW2
                clear gW hK hK2 dr2 gW2 gWs hlK e3
                rw [← hj] at hm2
                subst hm2
                clear hi1 hi2 hi3 hseq d0 d1 d2 d3 dn0 hS hj
                refine wpIn_wide.2 ?_
                by_cases hq : j = i
                · have q1 : ((j : Int) == (i : Int)) = true := by rw [hq]; exact beq_self_eq_true _
                  clear hq
                  go_wp2_with fail
                  refine (len_any _ hTW).mono ?_
                  rintro e w7 ⟨rfl, rfl⟩
                  rw [show ((List.length ([] : List Due) : Nat) : Int) = 0 from rfl]
                  go_frame
                  go_wp2_with fail
                  exact ⟨by simp, .inl ⟨_, _, rfl, run_takeDeferred HK2.out, _, results_scalar _ rfl _ _ (m + 3) (.bool true) rfl (HDR.out.cellAt (i := 0) rfl) Try.underlying4 rfl, rfl, HGW.out⟩⟩
                · have q1 : ((j : Int) == (i : Int)) = false := by simp; omega
                  have q2 : ((j : Int) == (j : Int)) = true := beq_self_eq_true _
                  clear hq
                  go_wp2_with fail
                  refine (len_any _ hTW).mono ?_
                  rintro e w7 ⟨rfl, rfl⟩
                  rw [show ((List.length ([] : List Due) : Nat) : Int) = 0 from rfl]
                  go_frame
                  go_wp2_with fail
                  exact ⟨by simp, .inl ⟨_, _, rfl, run_takeDeferred HK2.out, _, results_scalar _ rfl _ _ (m + 3) (.bool true) rfl (HDR.out.cellAt (i := 0) rfl) Try.underlying4 rfl, rfl, HGW.out⟩⟩
              · exact absurd hS hx
end Go.Proofs.Ytjbnnfphpchneaa
