import Derived.Test.YtajgklomcapboaaProves
import Derived.Test.YtajgklomcapboaaRefCk
/- ProofChecks: the walk. -/
namespace Sc
open Go Go.RowKit
def wayCells (a n : Int) (x y : Sc.Id) (pv : Value) : List Value := [Value.int .i64 a, Value.int .i64 n] ++ x.l.map bv ++ y.l.map bv ++ [pv]
theorem way_at {a n : Int} {x y : Sc.Id} {pv : Value} : (wayCells a n x y pv)[0]? = some (Value.int .i64 a) ∧ (wayCells a n x y pv)[1]? = some (Value.int .i64 n) ∧ (wayCells a n x y pv)[66]? = some pv := by
  refine ⟨rfl, rfl, ?_⟩
  unfold wayCells
  rw [List.getElem?_append_right (by simp [x.h, y.h])]
  simp [x.h, y.h]
theorem way_x {w : World} {b : Nat} {a n : Int} {x y : Sc.Id} {pv : Value} (h : w.rangeAt b 0 (wayCells a n x y pv)) : w.rangeAt b 2 (x.l.map bv) ∧ w.rangeAt b 34 (y.l.map bv) := by
  constructor
  · intro j u hu
    have hj : j < 32 := by have := (List.getElem?_eq_some_iff.1 hu).1; rwa [List.length_map, x.h] at this
    have := h (2 + j) u (by
      unfold wayCells
      rw [List.append_assoc, List.append_assoc, List.getElem?_append_right (by simp), List.getElem?_append_left (by simp [x.h]; omega)]
      simpa using hu)
    rwa [Nat.zero_add] at this
  · intro j u hu
    have hj : j < 32 := by have := (List.getElem?_eq_some_iff.1 hu).1; rwa [List.length_map, y.h] at this
    have := h (34 + j) u (by
      unfold wayCells
      rw [List.append_assoc, List.getElem?_append_right (by simp [x.h]), List.getElem?_append_left (by simp [x.h, y.h]; omega)]
      simp only [List.length_append, List.length_cons, List.length_nil, List.length_map, x.h]
      rw [show 34 + j - (0 + 1 + 1 + 32) = j by omega]
      exact hu)
    rwa [Nat.zero_add] at this
end Sc
namespace Go.Proofs.Ytajgklomcapboaa
open Go.RowKit Go.Shelf Sc
theorem refCk_idv (leaf rt : Sc.Id) (a n : Int) (v : Value) (path : List Sc.Id) (w : World) (hv : RI w v path) :
    Calls Try.prog 40 #[idv leaf, .int .i64 a, .int .i64 n, v, idv rt] w fun e w' => e = .returned (.int .i64 (ckInc leaf a n path rt : Int)) ∧ w.grownBy w' none := refCk_any leaf rt a n v path _ w hv (fun _ h => h)
def pcφ (bW nP cP res : Nat) (a n : Int) (AP : Option Addr) (x y : Sc.Id) (i : Nat) (v : Value) (_w : World) : Prop := match i with
  | 0 => v = .pointer (some ⟨bW, 2, none⟩)
  | 1 => v = idv x
  | 2 => v = .pointer (some ⟨bW, 0, none⟩)
  | 3 => v = .int .i64 a
  | 4 => v = .pointer (some ⟨bW, 1, none⟩)
  | 5 => v = .int .i64 n
  | 6 => v = .pointer (some ⟨bW, 66, none⟩)
  | 7 => v = .slice AP nP cP
  | 8 => v = .pointer (some ⟨bW, 34, none⟩)
  | 9 => v = idv y
  | 10 => v = .int .i64 (res : Int)
  | 11 => v = .pointer (some ⟨bW, 2, none⟩)
  | 12 => v = idv x
  | 13 => v = .pointer (some ⟨bW, 0, none⟩)
  | 14 => v = .int .i64 a
  | 15 => v = .pointer (some ⟨bW, 1, none⟩)
  | 16 => v = .int .i64 n
  | 17 => v = .pointer (some ⟨bW, 66, none⟩)
  | 18 => v = .slice AP nP cP
  | 19 => v = .pointer (some ⟨bW, 34, none⟩)
  | 20 => v = idv y
  | 21 => v = .int .i64 (res : Int)
  | 22 => v = .bool true
  | _ => True
theorem pcφ_gr (bW nP cP res : Nat) (a n : Int) (AP : Option Addr) (x y : Sc.Id) : ∀ i v w w', pcφ bW nP cP res a n AP x y i v w → Gr w w' → pcφ bW nP cP res a n AP x y i v w' := by
  intro i v w w' h hg
  match i with
  | 0 => exact h
  | 1 => exact h
  | 2 => exact h
  | 3 => exact h
  | 4 => exact h
  | 5 => exact h
  | 6 => exact h
  | 7 => exact h
  | 8 => exact h
  | 9 => exact h
  | 10 => exact h
  | 11 => exact h
  | 12 => exact h
  | 13 => exact h
  | 14 => exact h
  | 15 => exact h
  | 16 => exact h
  | 17 => exact h
  | 18 => exact h
  | 19 => exact h
  | 20 => exact h
  | 21 => exact h
  | 22 => exact h
  | i + 23 => exact h

set_option maxHeartbeats 4000000 in
set_option maxRecDepth 100000 in
theorem checks_walk (a n : Int) (x y : Sc.Id) (pv : Value) (path : List Sc.Id) (NB : Nat → Prop) (w : World) (hv : RdI NB w pv path) (hNB : ∀ b, NB b → b < w.heap.size) :
    Calls Try.prog 10 #[.agg (wayCells a n x y pv).toArray] w fun e w' => e = .returned (.bool true) ∧ w.grownBy w' none := by
  go_enter Try.func10, Try.ntmps10
  obtain ⟨AP, cP, rfl, hcP⟩ := Rd.form hv
  obtain ⟨nP, hnP⟩ : ∃ nP, nP = path.length := ⟨_, rfl⟩
  have HV := Go.Lib.hid (RI.of hv hNB)
  rw [← hnP] at HV hcP ⊢
  have hm : nP ≤ 9223372036854775807 := by rw [hnP]; exact Rd.le hv
  clear hv hnP
  obtain ⟨cs, hcs⟩ : ∃ cs, cs = wayCells a n x y (.slice AP nP cP) := ⟨_, rfl⟩
  rw [← hcs]
  obtain ⟨W, hW⟩ : ∃ W, W = w.alloc (.cells cs.toArray 69) := ⟨_, rfl⟩
  have b0 : Bk W w.heap.size 69 cs := by rw [hW]; exact Bk.new w _ _
  have g0 : w.grownBy W none := by rw [hW]; exact gb_alloc (gb_refl w none) _
  have HW := Go.Lib.hid hW
  have hca : cs[0]? = some (Value.int .i64 a) := by rw [hcs]; exact way_at.1
  have hcn : cs[1]? = some (Value.int .i64 n) := by rw [hcs]; exact way_at.2.1
  have hcp : cs[66]? = some (.slice AP nP cP) := by rw [hcs]; exact way_at.2.2
  have hnI : (0 : Int) ≤ (nP : Int) ∧ (nP : Int) ≤ 9223372036854775807 := by omega
  obtain ⟨bW, hbW⟩ : ∃ bW, bW = w.heap.size := ⟨_, rfl⟩
  have HCS := Go.Lib.hid hcs
  clear hW hcs
  by_cases hl : 70 < nP
  · have hd1 : decide ((70 : Int) < (nP : Int)) = true := decide_eq_true (by omega)
    clear hbW
    go_wp2_with (go_at_call 32; (rw [← HW.out]; (with_reducible refine (proves_any _).mono ?_); rintro e w1 ⟨rfl, g1⟩); have b1 := b0.grown g1 (by simp); have c66 := b1.cellAt hcp)
    go_ret
    exact ⟨rfl, gb_trans g0 g1⟩
  · have hd1 : decide ((70 : Int) < (nP : Int)) = false := decide_eq_false (by omega)
    obtain ⟨res, hres⟩ : ∃ res, res = ckInc x a n path y := ⟨_, rfl⟩
    have HRES := Go.Lib.hid hres
    have HBW := Go.Lib.hid hbW
    clear hres hbW
    go_wp2_with (go_at_call 32; (rw [← HW.out]; (with_reducible refine (proves_any _).mono ?_); rintro e w1 ⟨rfl, g1⟩); have b1 := b0.grown g1 (by simp); have c66 := b1.cellAt hcp)
    rw [← HBW.out]
    have hr1 := b1.range
    rw [HCS.out] at hr1
    obtain ⟨rX0, rY0⟩ := way_x hr1
    have rX : w1.rangeAt bW 2 (x.l.map bv) := by rw [HBW.out]; exact rX0
    have rY : w1.rangeAt bW 34 (y.l.map bv) := by rw [HBW.out]; exact rY0
    have cA : w1.cell? ⟨bW, 0, none⟩ = some (.int .i64 a) := by rw [HBW.out]; exact b1.cellAt hca
    have cN : w1.cell? ⟨bW, 1, none⟩ = some (.int .i64 n) := by rw [HBW.out]; exact b1.cellAt hcn
    have cP_ : w1.cell? ⟨bW, 66, none⟩ = some (.slice AP nP cP) := by rw [HBW.out]; exact b1.cellAt hcp
    have gW := gb_trans g0 g1
    have HPW := Go.Lib.hid (RI.gr HV.out gW)
    clear hr1 rX0 rY0 b1 c66 g0 g1 b0 hca hcn hcp hd1
    refine wp_region_specs 23 [9, 10, 11, 12, 13, 14, 15, 16, 17, 18, 19, 20, 21, 22, 23, 24, 25, 26, 27, 28, 29, 30, 31] (by kernel_rfl) (by kernel_rfl) (pcφ bW nP cP res a n AP x y) (pcφ_gr bW nP cP res a n AP x y) ?step ?fin
    case step =>
      intro i_ o_ ho hi_ u w' hg hd
      rcases (by omega : i_ = 0 ∨ i_ = 1 ∨ i_ = 2 ∨ i_ = 3 ∨ i_ = 4 ∨ i_ = 5 ∨ i_ = 6 ∨ i_ = 7 ∨ i_ = 8 ∨ i_ = 9 ∨ i_ = 10 ∨ i_ = 11 ∨ i_ = 12 ∨ i_ = 13 ∨ i_ = 14 ∨ i_ = 15 ∨ i_ = 16 ∨ i_ = 17 ∨ i_ = 18 ∨ i_ = 19 ∨ i_ = 20 ∨ i_ = 21 ∨ i_ = 22) with rfl | rfl | rfl | rfl | rfl | rfl | rfl | rfl | rfl | rfl | rfl | rfl | rfl | rfl | rfl | rfl | rfl | rfl | rfl | rfl | rfl | rfl | rfl <;> obtain rfl := Option.some.inj ho <;>
        simp (decide := true) only [fillAct, List.mapIdx_cons, List.mapIdx_nil, Nat.reduceAdd, if_true, if_false, List.getD_cons_zero, List.getD_cons_succ]
      · clear hd ho
        go_wp2_with fail
        exact ⟨rfl, gb_refl _ _, rfl⟩
      · have h0 : u 9 = .pointer (some ⟨bW, 2, none⟩) := hd 0 (by kernel_rfl)
        clear hd ho
        rw [h0]
        have r1 := rangeAt_grown rX hg (by simp)
        go_wp2_with ((with_reducible refine wpList_load_range (t := 34) bW 2 (x.l.map bv) _ r1 (by kernel_rfl) Try.underlying34 rfl (idSize _) ?_))
        exact ⟨rfl, gb_refl _ _, rfl⟩
      · clear hd ho
        go_wp2_with fail
        exact ⟨rfl, gb_refl _ _, rfl⟩
      · have h2 : u 11 = .pointer (some ⟨bW, 0, none⟩) := hd 2 (by kernel_rfl)
        clear hd ho
        rw [h2]
        have c1 := cell_grown (row := none) hg cA (by simp)
        go_wp2_with fail
        exact ⟨rfl, gb_refl _ _, rfl⟩
      · clear hd ho
        go_wp2_with fail
        exact ⟨rfl, gb_refl _ _, rfl⟩
      · have h4 : u 13 = .pointer (some ⟨bW, 1, none⟩) := hd 4 (by kernel_rfl)
        clear hd ho
        rw [h4]
        have c1 := cell_grown (row := none) hg cN (by simp)
        go_wp2_with fail
        exact ⟨rfl, gb_refl _ _, rfl⟩
      · clear hd ho
        go_wp2_with fail
        exact ⟨rfl, gb_refl _ _, rfl⟩
      · have h6 : u 15 = .pointer (some ⟨bW, 66, none⟩) := hd 6 (by kernel_rfl)
        clear hd ho
        rw [h6]
        have c1 := cell_grown (row := none) hg cP_ (by simp)
        go_wp2_with fail
        exact ⟨rfl, gb_refl _ _, rfl⟩
      · clear hd ho
        go_wp2_with fail
        exact ⟨rfl, gb_refl _ _, rfl⟩
      · have h8 : u 17 = .pointer (some ⟨bW, 34, none⟩) := hd 8 (by kernel_rfl)
        clear hd ho
        rw [h8]
        have r1 := rangeAt_grown rY hg (by simp)
        go_wp2_with ((with_reducible refine wpList_load_range (t := 34) bW 34 (y.l.map bv) _ r1 (by kernel_rfl) Try.underlying34 rfl (idSize _) ?_))
        exact ⟨rfl, gb_refl _ _, rfl⟩
      · have h1 : u 10 = idv x := hd 1 (by kernel_rfl)
        have h3 : u 12 = .int .i64 a := hd 3 (by kernel_rfl)
        have h5 : u 14 = .int .i64 n := hd 5 (by kernel_rfl)
        have h7 : u 16 = .slice AP nP cP := hd 7 (by kernel_rfl)
        have h9 : u 18 = idv y := hd 9 (by kernel_rfl)
        clear hd ho
        rw [h1, h3, h5, h7, h9]
        have hp1 := RI.gr HPW.out hg
        go_wp2_with (go_at_call 35; ((with_reducible refine (ckInc_idv x y a n _ path _ hp1).mono ?_); rintro e w3 ⟨rfl, g3⟩; rw [← HRES.out]))
        exact ⟨rfl, g3, rfl⟩
      · clear hd ho
        go_wp2_with fail
        exact ⟨rfl, gb_refl _ _, rfl⟩
      · have h11 : u 20 = .pointer (some ⟨bW, 2, none⟩) := hd 11 (by kernel_rfl)
        clear hd ho
        rw [h11]
        have r1 := rangeAt_grown rX hg (by simp)
        go_wp2_with ((with_reducible refine wpList_load_range (t := 34) bW 2 (x.l.map bv) _ r1 (by kernel_rfl) Try.underlying34 rfl (idSize _) ?_))
        exact ⟨rfl, gb_refl _ _, rfl⟩
      · clear hd ho
        go_wp2_with fail
        exact ⟨rfl, gb_refl _ _, rfl⟩
      · have h13 : u 22 = .pointer (some ⟨bW, 0, none⟩) := hd 13 (by kernel_rfl)
        clear hd ho
        rw [h13]
        have c1 := cell_grown (row := none) hg cA (by simp)
        go_wp2_with fail
        exact ⟨rfl, gb_refl _ _, rfl⟩
      · clear hd ho
        go_wp2_with fail
        exact ⟨rfl, gb_refl _ _, rfl⟩
      · have h15 : u 24 = .pointer (some ⟨bW, 1, none⟩) := hd 15 (by kernel_rfl)
        clear hd ho
        rw [h15]
        have c1 := cell_grown (row := none) hg cN (by simp)
        go_wp2_with fail
        exact ⟨rfl, gb_refl _ _, rfl⟩
      · clear hd ho
        go_wp2_with fail
        exact ⟨rfl, gb_refl _ _, rfl⟩
      · have h17 : u 26 = .pointer (some ⟨bW, 66, none⟩) := hd 17 (by kernel_rfl)
        clear hd ho
        rw [h17]
        have c1 := cell_grown (row := none) hg cP_ (by simp)
        go_wp2_with fail
        exact ⟨rfl, gb_refl _ _, rfl⟩
      · clear hd ho
        go_wp2_with fail
        exact ⟨rfl, gb_refl _ _, rfl⟩
      · have h19 : u 28 = .pointer (some ⟨bW, 34, none⟩) := hd 19 (by kernel_rfl)
        clear hd ho
        rw [h19]
        have r1 := rangeAt_grown rY hg (by simp)
        go_wp2_with ((with_reducible refine wpList_load_range (t := 34) bW 34 (y.l.map bv) _ r1 (by kernel_rfl) Try.underlying34 rfl (idSize _) ?_))
        exact ⟨rfl, gb_refl _ _, rfl⟩
      · have h12 : u 21 = idv x := hd 12 (by kernel_rfl)
        have h14 : u 23 = .int .i64 a := hd 14 (by kernel_rfl)
        have h16 : u 25 = .int .i64 n := hd 16 (by kernel_rfl)
        have h18 : u 27 = .slice AP nP cP := hd 18 (by kernel_rfl)
        have h20 : u 29 = idv y := hd 20 (by kernel_rfl)
        clear hd ho
        rw [h12, h14, h16, h18, h20]
        have hp1 := RI.gr HPW.out hg
        go_wp2_with (go_at_call 40; ((with_reducible refine (refCk_idv x y a n _ path _ hp1).mono ?_); rintro e w3 ⟨rfl, g3⟩; rw [← HRES.out]))
        exact ⟨rfl, g3, rfl⟩
      · have h10 : u 19 = .int .i64 (res : Int) := hd 10 (by kernel_rfl)
        have h21 : u 30 = .int .i64 (res : Int) := hd 21 (by kernel_rfl)
        clear hd ho
        rw [h10, h21]
        go_wp2_with fail
        exact ⟨rfl, gb_refl _ _, rfl⟩
    case fin =>
      intro u w5 hg hφ
      have h69 : u 31 = .bool true := hφ 22 (by omega)
      simp (decide := true) only [fillAct, List.mapIdx_cons, List.mapIdx_nil, Nat.reduceAdd, if_true, if_false, List.drop_succ_cons, List.drop_zero]
      rw [h69]
      clear hφ
      go_wp2_with fail
      go_ret
      exact ⟨rfl, gb_trans gW hg⟩
end Go.Proofs.Ytajgklomcapboaa
