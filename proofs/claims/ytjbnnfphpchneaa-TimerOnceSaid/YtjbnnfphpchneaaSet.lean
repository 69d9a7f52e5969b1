import Derived.Test.YtjbnnfphpchneaaTm
import Derived.Test.YtjbnnfphpchneaaSpecsS
/- (*timer.Timer).Set. -/
namespace Go.Proofs.Ytjbnnfphpchneaa
open Go.RowKit Sc
theorem build_due (a b c : Int) (w : World) : (Instr.build 52 #[(0, .int .i64 a), (1, .int .i64 b), (2, .int .i64 c)]).run Try.prog w = .ok (.agg (dueC (a, b, c)).toArray) w := run_build w _ _ _ (by kernel_rfl)
theorem build_due1 (d : Due) (w : World) : (Instr.buildSlice 24 1 #[(0, .agg (dueC d).toArray)]).run Try.prog w = .ok (.slice (some ⟨w.heap.size, 0, none⟩) 1 1) (w.alloc (.cells (dueC d).toArray 52)) := by
  obtain ⟨a, b, c⟩ := d
  kernel_rfl
theorem wpList_build_due {w : World} {ops : Array Oper} {rest : List Oper} {a : Act} {Q : Exit → Act → World → Prop} {dst : Option Tmp} {ty : TypeId} {pos : String} {aft : Array Edge} {y : Operand} (d : Due) (hx : a.eval y = .agg (dueC d).toArray)
    (h : wpList Try.prog ops Q rest (a.put dst (.slice (some ⟨w.heap.size, 0, none⟩) 1 1)) (w.alloc (.cells (dueC d).toArray 52))) :
    wpList Try.prog ops Q (⟨dst, .buildSlice 24 1 #[(0, y)], ty, pos, aft, none⟩ :: rest) a w := by
  refine wpList_run rfl ?_ h
  simp only [execOp, List.map_toArray, List.map_cons, List.map_nil, hx, Sem.run_bind]
  rw [build_due1]
  rfl
def setφ (B r k c2 D : Nat) (A2 : Option Addr) (own : Option Nat) (W0 : Nat) (n rd st : Int) (L : List Due) (i : Nat) (v : Value) (w : World) : Prop := match i with
  | 0 => v = .pointer (some ⟨r, 0, none⟩)
  | 1 => v = .pointer (some ⟨r, 0, none⟩)
  | 2 => v = .pointer (some ⟨r, 0, none⟩)
  | 3 => v = .pointer (some ⟨r, 1, none⟩)
  | 4 => v = .slice A2 k c2 ∧ Ow B w 3 (.slice A2 k c2) k (dueCs L)
  | 5 => v = .pointer (some ⟨r, 0, none⟩)
  | 6 => v = .pointer (some ⟨r, 0, none⟩)
  | 7 => v = .pointer (some ⟨r, 0, none⟩)
  | 8 => v = .int .i64 n
  | 9 => v = .int .i64 rd
  | 10 => v = .int .i64 (D : Int)
  | 11 => v = .int .i64 (n + (D : Int))
  | 12 => v = .int .i64 rd
  | 13 => v = .int .i64 st
  | 14 => v = .agg (dueC (n + (D : Int), rd, st)).toArray
  | 15 => ∃ nb, v = .slice (some ⟨nb, 0, none⟩) 1 1 ∧ w.rangeAt nb 0 (dueC (n + (D : Int), rd, st))
  | 16 => Ow B w 3 v (k + 1) (dueCs (L ++ [(n + (D : Int), rd, st)])) ∧ (v.ownBlock = own ∨ ∃ q, v.ownBlock = some q ∧ W0 ≤ q)
  | 17 => v = .pointer (some ⟨r, 0, none⟩)
  | 18 => v = .pointer (some ⟨r, 1, none⟩)
  | _ => True
def setR (own : Option Nat) (i : Nat) (a b : World) : Prop := match i with
  | 16 => a.grownBy b own
  | _ => Gr a b
def setDead (i k : Nat) : Bool := (i == 4 || i == 15) && k == 16
theorem setR_own {own : Option Nat} {i : Nat} {a b : World} (h : setR own i a b) : a.grownBy b own := by
  unfold setR at h
  split at h
  · exact h
  · exact gb_none h
theorem setR_gr {own : Option Nat} {i : Nat} {a b : World} (hi : i ≠ 16) (h : setR own i a b) : Gr a b := by
  unfold setR at h
  split at h
  · exact absurd rfl hi
  · exact h
theorem set_st (B r k c2 D : Nat) (A2 : Option Addr) (own : Option Nat) (W0 : Nat) (n rd st : Int) (L : List Due) : ∀ j i v w w', j ≠ i → setDead j i = false → setφ B r k c2 D A2 own W0 n rd st L j v w → setR own i w w' → setφ B r k c2 D A2 own W0 n rd st L j v w' := by
  intro j i v w w' hji hd h hg
  match j, hji, hd, h with
  | 4, _, hd, h => exact ⟨h.1, h.2.grown (setR_gr (fun e => by subst e; cases hd) hg) (fun _ _ => by simp)⟩
  | 15, _, hd, h =>
    obtain ⟨nb, e, hr⟩ := h
    exact ⟨nb, e, rangeAt_grown hr (setR_gr (fun e => by subst e; cases hd) hg) (by simp)⟩
  | 16, hji, _, h => exact ⟨h.1.grown (setR_gr (fun e => hji e.symm) hg) (fun _ _ => by simp), h.2⟩
  | 0, _, _, h => exact h
  | 1, _, _, h => exact h
  | 2, _, _, h => exact h
  | 3, _, _, h => exact h
  | 5, _, _, h => exact h
  | 6, _, _, h => exact h
  | 7, _, _, h => exact h
  | 8, _, _, h => exact h
  | 9, _, _, h => exact h
  | 10, _, _, h => exact h
  | 11, _, _, h => exact h
  | 12, _, _, h => exact h
  | 13, _, _, h => exact h
  | 14, _, _, h => exact h
  | 17, _, _, h => exact h
  | 18, _, _, h => exact h
  | j + 19, _, _, h => exact h

theorem set_full {B r : Nat} {n : Int} {L : List Due} {lv : Value} (rd st : Int) (w : World) (hT : Tm w B r n L lv) (hL : 40 ≤ L.length) :
    Calls Try.prog 8 #[.pointer (some ⟨r, 0, none⟩), .int .i64 rd, .int .i64 st] w fun e w' => e = .returned (.bool false) ∧ w' = w := by
  go_enter Try.func8, Try.ntmps8
  obtain ⟨A2, c2, rfl⟩ := hT.2.1.form
  have hc1 := hT.1.cellAt (i := 1) rfl
  have hd : decide ((40 : Int) ≤ (L.length : Int)) = true := decide_eq_true (by omega)
  have hd' : decide (40 ≤ L.length) = true := decide_eq_true hL
  clear hT
  go_wp2_with fail
  go_ret
  exact ⟨rfl, rfl⟩
set_option maxHeartbeats 4000000 in
theorem set_any {B r : Nat} {n : Int} {L : List Due} {lv : Value} (rd st : Int) (w : World) (hT : Tm w B r n L lv) (hL : L.length < 40) (hn : 0 ≤ n ∧ n ≤ 1000000) (hB : B ≤ w.heap.size) :
    Calls Try.prog 8 #[.pointer (some ⟨r, 0, none⟩), .int .i64 rd, .int .i64 st] w fun e w' => e = .returned (.bool true) ∧ ∃ lv', Tm w' B r n (L ++ [(n + (delay rd : Int), rd, st)]) lv' ∧ Ch (fun k => k = r ∨ lv.ownBlock = some k) w w' ∧ (lv'.ownBlock = lv.ownBlock ∨ ∃ k, lv'.ownBlock = some k ∧ w.heap.size ≤ k) := by
  go_enter Try.func8, Try.ntmps8
  obtain ⟨A2, c2, rfl⟩ := hT.2.1.form
  obtain ⟨k, hk⟩ : ∃ k, k = L.length := ⟨_, rfl⟩
  obtain ⟨D, hD⟩ : ∃ D, D = delay rd := ⟨_, rfl⟩
  obtain ⟨own, hown⟩ : ∃ own, own = (Value.slice A2 k c2).ownBlock := ⟨_, rfl⟩
  unfold Tm at hT
  rw [← hk] at hT hL ⊢
  rw [← hD, ← hown]
  have hDb : (D : Int) ≤ 2003 := by have := dn_le rd; unfold delay at hD; omega
  have HT := Go.Lib.hid hT
  have HD := Go.Lib.hid hD
  have HK := Go.Lib.hid hk
  have HOWN := Go.Lib.hid hown.symm
  have hrlt := hT.1.lt
  have hc1 := hT.1.cellAt (i := 1) rfl
  have HRO : Hid (some r ≠ own) := Go.Lib.hid (by rw [hown]; exact fun e => hT.2.2 e.symm)
  have hd : decide ((40 : Int) ≤ (k : Int)) = false := decide_eq_false (by omega)
  have hd' : decide (40 ≤ k) = false := decide_eq_false (by omega)
  have h63 : k + 1 ≤ maxLen := by simp only [maxLen]; omega
  have hby : (k + 1) * 24 ≤ 140737488355328 := by omega
  have hBW := hB
  clear hT hD hk hown
  go_wp2_with fail
  clear hd hd' hc1
  refine wp_region_specsS 16 (Ra := fun a b => a.grownBy b own) (Rb := Gr) (R := setR own) (fun _ _ _ h k => gb_trans h k) (fun i a b h => setR_own h) (fun _ _ _ h k => gb_trans h k) (fun i a b hi h => setR_gr hi h) 19 [13, 14, 15, 16, 17, 18, 19, 20, 21, 22, 23, 24, 25, 26, 27, 28, 29, 30, 31] (by kernel_rfl) (gb_drew (gb_refl _ _)) (gb_drew (gb_refl _ _)) (by kernel_rfl) setDead (setφ B r k c2 D A2 own w.heap.size n rd st L) (fun j i v wa wb h1 _ h2 h3 h4 => set_st B r k c2 D A2 own w.heap.size n rd st L j i v wa wb h1 h2 h3 h4) ?step ?fin
  case step =>
    intro i_ o_ ho hi_ u w' hg hgb hd
    rcases (by omega : i_ = 0 ∨ i_ = 1 ∨ i_ = 2 ∨ i_ = 3 ∨ i_ = 4 ∨ i_ = 5 ∨ i_ = 6 ∨ i_ = 7 ∨ i_ = 8 ∨ i_ = 9 ∨ i_ = 10 ∨ i_ = 11 ∨ i_ = 12 ∨ i_ = 13 ∨ i_ = 14 ∨ i_ = 15 ∨ i_ = 16 ∨ i_ = 17 ∨ i_ = 18) with rfl | rfl | rfl | rfl | rfl | rfl | rfl | rfl | rfl | rfl | rfl | rfl | rfl | rfl | rfl | rfl | rfl | rfl | rfl <;> obtain rfl := Option.some.inj ho <;>
      simp (decide := true) only [fillAct, List.mapIdx_cons, List.mapIdx_nil, Nat.reduceAdd, if_true, if_false, List.getD_cons_zero, List.getD_cons_succ]
    · clear hd ho
      go_wp2_with fail
      exact ⟨rfl, gb_refl _ _, rfl⟩
    · clear hd ho
      go_wp2_with fail
      exact ⟨rfl, gb_refl _ _, rfl⟩
    · have h1 : u 14 = .pointer (some ⟨r, 0, none⟩) := hd 1 (by kernel_rfl) (by decide)
      clear hd ho
      rw [h1]
      go_wp2_with fail
      exact ⟨rfl, gb_refl _ _, rfl⟩
    · have h2 : u 15 = .pointer (some ⟨r, 0, none⟩) := hd 2 (by kernel_rfl) (by decide)
      clear hd ho
      rw [h2]
      go_wp2_with fail
      exact ⟨rfl, gb_refl _ _, rfl⟩
    · have h3 : u 16 = .pointer (some ⟨r, 1, none⟩) := hd 3 (by kernel_rfl) (by decide)
      clear hd ho
      rw [h3]
      have hgr := hgb (.inr (by kernel_rfl))
      have c1 := (HT.out.1.grown hgr (by simp)).cellAt (i := 1) rfl
      go_wp2_with fail
      exact ⟨rfl, gb_refl _ _, rfl, HT.out.2.1.grown hgr (fun _ _ => by simp)⟩
    · clear hd ho
      go_wp2_with fail
      exact ⟨rfl, gb_refl _ _, rfl⟩
    · have h5 : u 18 = .pointer (some ⟨r, 0, none⟩) := hd 5 (by kernel_rfl) (by decide)
      clear hd ho
      rw [h5]
      go_wp2_with fail
      exact ⟨rfl, gb_refl _ _, rfl⟩
    · have h6 : u 19 = .pointer (some ⟨r, 0, none⟩) := hd 6 (by kernel_rfl) (by decide)
      clear hd ho
      rw [h6]
      go_wp2_with fail
      exact ⟨rfl, gb_refl _ _, rfl⟩
    · have h7 : u 20 = .pointer (some ⟨r, 0, none⟩) := hd 7 (by kernel_rfl) (by decide)
      clear hd ho
      rw [h7]
      have c1 := (HT.out.1.grown hg HRO.out).cellAt (i := 0) rfl
      go_wp2_with fail
      exact ⟨rfl, gb_refl _ _, rfl⟩
    · clear hd ho
      go_wp2_with fail
      exact ⟨rfl, gb_refl _ _, rfl⟩
    · have h9 : u 22 = .int .i64 rd := hd 9 (by kernel_rfl) (by decide)
      clear hd ho
      rw [h9]
      go_wp2_with (go_at_call 9; ((with_reducible refine (delay_any rd _).mono ?_); rintro e w3 ⟨rfl, rfl⟩; rw [← HD.out]))
      exact ⟨rfl, gb_refl _ _, rfl⟩
    · have h8 : u 21 = .int .i64 n := hd 8 (by kernel_rfl) (by decide)
      have h10 : u 23 = .int .i64 (D : Int) := hd 10 (by kernel_rfl) (by decide)
      clear hd ho
      rw [h8, h10]
      go_wp2_with fail
      exact ⟨rfl, gb_refl _ _, rfl⟩
    · clear hd ho
      go_wp2_with fail
      exact ⟨rfl, gb_refl _ _, rfl⟩
    · clear hd ho
      go_wp2_with fail
      exact ⟨rfl, gb_refl _ _, rfl⟩
    · have h11 : u 24 = .int .i64 (n + (D : Int)) := hd 11 (by kernel_rfl) (by decide)
      have h12 : u 25 = .int .i64 rd := hd 12 (by kernel_rfl) (by decide)
      have h13 : u 26 = .int .i64 st := hd 13 (by kernel_rfl) (by decide)
      clear hd ho
      rw [h11, h12, h13]
      refine wpList_build_row (dueC (n + (D : Int), rd, st)) (fun w => by simp only [List.map_toArray, List.map_cons, List.map_nil]; exact build_due _ _ _ w) ?_
      go_wp2_with fail
      exact ⟨rfl, gb_refl _ _, rfl⟩
    · have h14 : u 27 = .agg (dueC (n + (D : Int), rd, st)).toArray := hd 14 (by kernel_rfl) (by decide)
      clear hd ho
      rw [h14]
      refine wpList_build_due (y := .tmp 27) (n + (D : Int), rd, st) (by kernel_rfl) ?_
      go_wp2_with fail
      exact ⟨rfl, gb_alloc (gb_refl _ _) _, w'.heap.size, rfl, (Bk.new w' 52 (dueC (n + (D : Int), rd, st))).range⟩
    · have h4 : (u 17) = .slice A2 k c2 ∧ Ow B w' 3 (.slice A2 k c2) k (dueCs L) := hd 4 (by kernel_rfl) (by decide)
      have h15 : ∃ nb, (u 28) = .slice (some ⟨nb, 0, none⟩) 1 1 ∧ w'.rangeAt nb 0 (dueC (n + (D : Int), rd, st)) := hd 15 (by kernel_rfl) (by decide)
      clear hd ho
      obtain ⟨e4, ho4⟩ := h4
      obtain ⟨nb, e6, hr6⟩ := h15
      rw [e4, e6]
      clear e4 e6
      have hgr := hgb (.inl rfl)
      have hgs := hgr.size
      have hsrc : Src Try.prog 3 24 (.slice (some ⟨nb, 0, none⟩) 1 1) 1 (dueC (n + (D : Int), rd, st)) w' := src_rd (P := Try.prog) (k := 3) (tx := 24) Try.underlying24 (Rd.mk' (NB := fun _ => True) (k := 3) hr6 trivial (Nat.le_refl _) (by decide) rfl) (dueC_one _)
      have hBw : B ≤ w'.heap.size := Nat.le_trans hBW hgs
      go_wp2_with ((with_reducible refine wpList_append_ow (s := .tmp 17) (x := .tmp 28) (v := .slice A2 k c2) (y := .slice (some ⟨nb, 0, none⟩) 1 1) (by kernel_rfl) (by kernel_rfl) Try.underlying24 okDue ho4 hsrc hBw h63 hby ?_); intro v3 w3 ho3 hg3 hb3)
      rw [← dueCs_one, ← dueCs_append] at ho3
      rw [HOWN.out] at hg3 hb3
      exact ⟨rfl, hg3, ho3, hb3.imp id fun h => ⟨_, h, hgs⟩⟩
    · have h0 : u 13 = .pointer (some ⟨r, 0, none⟩) := hd 0 (by kernel_rfl) (by decide)
      clear hd ho
      rw [h0]
      go_wp2_with fail
      exact ⟨rfl, gb_refl _ _, rfl⟩
    · have h17 : u 30 = .pointer (some ⟨r, 0, none⟩) := hd 17 (by kernel_rfl) (by decide)
      clear hd ho
      rw [h17]
      go_wp2_with fail
      exact ⟨rfl, gb_refl _ _, rfl⟩
  case fin =>
    intro u w5 hg hφ
    have h29 : Ow B w5 3 (u 29) (k + 1) (dueCs (L ++ [(n + (D : Int), rd, st)])) ∧ ((u 29).ownBlock = own ∨ ∃ q, (u 29).ownBlock = some q ∧ w.heap.size ≤ q) := hφ 16 (by omega) (by decide)
    have h31 : u 31 = .pointer (some ⟨r, 1, none⟩) := hφ 18 (by omega) (by decide)
    simp (decide := true) only [fillAct, List.mapIdx_cons, List.mapIdx_nil, Nat.reduceAdd, if_true, if_false, List.drop_succ_cons, List.drop_zero]
    rw [h31]
    clear hφ h31
    obtain ⟨ho5, hb5⟩ := h29
    obtain ⟨A5, c5, e5⟩ := ho5.form
    rw [e5] at ho5 hb5 ⊢
    have bk5 := HT.out.1.grown hg HRO.out
    have cr := bk5.cellAt (i := 1) rfl
    have fr := bk5.frozen 1
    have HB5 := Go.Lib.hid bk5
    clear bk5 e5
    go_wp2_with fail
    go_ret
    have hne : (Value.slice A5 (k + 1) c5).ownBlock ≠ some r := by
      intro e
      rcases hb5 with h | ⟨q, h, hq⟩
      · exact HRO.out (e.symm.trans h)
      · rw [h] at e; have := Option.some.inj e; omega
    refine ⟨rfl, _, ⟨HB5.out.set 1 _, ?_, hne⟩, ?_, hb5⟩
    · have h := ho5.grown (gb_set1 w5 ⟨r, 1, none⟩ (.slice A5 (k + 1) c5)) (fun b hb e => hne (hb.trans e.symm))
      rw [List.length_append, List.length_singleton, ← HK.out]
      exact h
    · exact (Ch.of (S := fun q => q = r ∨ own = some q) hg (fun q h => .inr h)).gb (gb_set1 _ _ _) (fun q h => .inl (.inl (Option.some.inj h).symm))
end Go.Proofs.Ytjbnnfphpchneaa
