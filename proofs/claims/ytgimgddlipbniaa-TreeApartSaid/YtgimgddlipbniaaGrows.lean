import Derived.Test.YtgimgddlipbniaaTreeFns
import Derived.Test.YtgimgddlipbniaaEql
import Derived.Test.YtgimgddlipbniaaOwBB
/- The guard of layer 5's statements: two leaves are a node. -/
namespace Sc
open Go Go.RowKit
def RI (w : World) (v : Value) (xs : List Sc.Id) : Prop := RdI (fun b => b < w.heap.size) w v xs
theorem RI.gr {w w' : World} {v : Value} {xs : List Sc.Id} (h : RI w v xs) (hg : w.grownBy w' none) : RI w' v xs := Rd.mono (Rd.grown h hg (by simp)) fun b hb => Nat.lt_of_lt_of_le hb hg.size
theorem RI.of {NB : Nat → Prop} {w : World} {v : Value} {xs : List Sc.Id} (h : RdI NB w v xs) (hN : ∀ b, NB b → b < w.heap.size) : RI w v xs := Rd.mono h hN
theorem RdI.takeTo {NB : Nat → Prop} {w : World} {A : Option Addr} {c : Nat} {xs : List Sc.Id} (h : RdI NB w (.slice A xs.length c) xs) (m q : Nat) (hq : min xs.length m = q) : RdI NB w (.slice A q c) (xs.take m) := by
  have h1 := Rd.takeTo h q (by omega)
  rw [idCells_take] at h1
  have e : xs.take m = xs.take q := by
    rw [← hq]
    rcases Nat.le_total xs.length m with h | h
    · rw [Nat.min_eq_left h, List.take_of_length_le h, List.take_of_length_le (Nat.le_refl _)]
    · rw [Nat.min_eq_right h]
  have hl : (xs.take m).length = q := by rw [List.length_take, Nat.min_comm]; exact hq
  unfold RdI
  rw [hl, e]; exact h1
theorem Ow.weaken {B B' k n : Nat} {w : World} {v : Value} {cs : List Value} (h : Ow B w k v n cs) (hB : B' ≤ B) : Ow B' w k v n cs := by
  obtain ⟨h1, A, c, rfl, h2, h3, h4, h5⟩ := h
  refine ⟨h1, A, c, rfl, h2, h3, h4, fun ad had => ?_⟩
  obtain ⟨r, o, e, hBb, rest⟩ := h5 ad had
  exact ⟨r, o, e, by omega, rest⟩
def id1 : Sc.Id := ⟨[1, 0, 0, 0, 0, 0, 0, 0, 0, 0, 0, 0, 0, 0, 0, 0, 0, 0, 0, 0, 0, 0, 0, 0, 0, 0, 0, 0, 0, 0, 0, 0], rfl⟩
def id2 : Sc.Id := ⟨[2, 0, 0, 0, 0, 0, 0, 0, 0, 0, 0, 0, 0, 0, 0, 0, 0, 0, 0, 0, 0, 0, 0, 0, 0, 0, 0, 0, 0, 0, 0, 0], rfl⟩
def idz : Sc.Id := ⟨[0, 0, 0, 0, 0, 0, 0, 0, 0, 0, 0, 0, 0, 0, 0, 0, 0, 0, 0, 0, 0, 0, 0, 0, 0, 0, 0, 0, 0, 0, 0, 0], rfl⟩
theorem nd12 : ((nd id1 id2).l == idz.l) = false := by decide +kernel
end Sc
namespace Go.Proofs.Ytgimgddlipbniaa
open Go.RowKit Go.Shelf Sc

theorem idEq : IdEq Try.prog 26 := idEq_dec (e := 5) Try.underlying26 Try.underlying5 (by kernel_rfl) (by kernel_rfl)
theorem Rng.gr {w w' : World} {B r n : Nat} {tv : Value} {ts : List Sc.Id} (h : Rng w B r tv n ts) (hg : w.grownBy w' none) : Rng w' B r tv n ts := ⟨h.1.grown hg (by simp), h.2.1.grown hg (fun _ _ => by simp), h.2.2⟩
theorem build_two (w : World) : (Instr.buildSlice 46 2 #[(0, idv id1), (1, idv id2)]).run Try.prog w = .ok (.slice (some ⟨w.heap.size, 0, none⟩) 2 2) (w.alloc (.cells (idCells [id1, id2]).toArray 26)) := by kernel_rfl
theorem wpList_build_two {w : World} {ops : Array Oper} {rest : List Oper} {a : Act} {Q : Exit → Act → World → Prop} {dst : Option Tmp} {ty : TypeId} {pos : String} {aft : Array Edge} {y z : Operand} (hy : a.eval y = idv id1) (hz : a.eval z = idv id2)
    (h : wpList Try.prog ops Q rest (a.put dst (.slice (some ⟨w.heap.size, 0, none⟩) 2 2)) (w.alloc (.cells (idCells [id1, id2]).toArray 26))) :
    wpList Try.prog ops Q (⟨dst, .buildSlice 46 2 #[(0, y), (1, z)], ty, pos, aft, none⟩ :: rest) a w := by
  refine wpList_run rfl ?_ h
  simp only [execOp, List.map_toArray, List.map_cons, List.map_nil, hy, hz, Sem.run_bind]
  rw [build_two]
  rfl
theorem root12 : root nd e0 [id1, id2] = nd id1 id2 := by
  rw [root_two nd e0 (by simp)]
  rw [show half [id1, id2].length = 1 from half_two]
  simp [root_one]

theorem cut_any (A : Option Addr) (n c m q : Nat) (w : World) (hq : min n m = q) (_hn : n ≤ maxLen) (hc : n ≤ c) : Calls Try.prog 27 #[.slice A n c, .int .i64 (m : Int)] w fun e w' => e = .returned (.slice A q c) ∧ w' = w := by
  go_enter Try.func27, Try.ntmps27

  have hqI : (0 : Int) ≤ (q : Int) ∧ (q : Int) ≤ (c : Int) := by omega
  go_wp2_with ((with_reducible refine wpList_min (x := .tmp 7) n m q hq (by kernel_rfl) (by kernel_rfl) ?_))
  go_ret
  exact ⟨rfl, rfl⟩

theorem cut_lit (A : Option Addr) (n c m q : Nat) (z : Int) (hz : z = (m : Int)) (w : World) (hq : min n m = q) (hn : n ≤ maxLen) (hc : n ≤ c) : Calls Try.prog 27 #[.slice A n c, .int .i64 z] w fun e w' => e = .returned (.slice A q c) ∧ w' = w := by
  subst hz; exact cut_any A n c m q w hq hn hc
theorem eq12 : ((root nd e0 [id1, id2]).l == (sha (1 :: (id1.l ++ id2.l))).l) = true := by rw [root12]; exact beq_self_eq_true _
theorem ne12 : (!((root nd e0 [id1, id2]).l == idz.l)) = true := by rw [root12, nd12]; rfl
theorem eq00 : ((root nd e0 []).l == (sha [].flatten).l) = true := by rw [root_nil]; exact beq_self_eq_true _
theorem node12 (w : World) : Calls Try.prog 21 #[.agg #[.int .u8 1, .int .u8 0, .int .u8 0, .int .u8 0, .int .u8 0, .int .u8 0, .int .u8 0, .int .u8 0, .int .u8 0, .int .u8 0, .int .u8 0, .int .u8 0, .int .u8 0, .int .u8 0, .int .u8 0, .int .u8 0, .int .u8 0, .int .u8 0, .int .u8 0, .int .u8 0, .int .u8 0, .int .u8 0, .int .u8 0, .int .u8 0, .int .u8 0, .int .u8 0, .int .u8 0, .int .u8 0, .int .u8 0, .int .u8 0, .int .u8 0, .int .u8 0], .agg #[.int .u8 2, .int .u8 0, .int .u8 0, .int .u8 0, .int .u8 0, .int .u8 0, .int .u8 0, .int .u8 0, .int .u8 0, .int .u8 0, .int .u8 0, .int .u8 0, .int .u8 0, .int .u8 0, .int .u8 0, .int .u8 0, .int .u8 0, .int .u8 0, .int .u8 0, .int .u8 0, .int .u8 0, .int .u8 0, .int .u8 0, .int .u8 0, .int .u8 0, .int .u8 0, .int .u8 0, .int .u8 0, .int .u8 0, .int .u8 0, .int .u8 0, .int .u8 0]] w fun e w' => e = .returned (idv (sha (1 :: (id1.l ++ id2.l)))) ∧ w.grownBy w' none := node_any id1 id2 w
theorem noN (w : World) : ∀ b, (fun _ : Nat => False) b → b < w.heap.size := fun _ h => h.elim
theorem rdi_nil (w : World) : RdI (fun _ => False) w (.slice none 0 0) [] := Rd.nil _ _ _
theorem rdbb_nil (w : World) : RdBB (fun _ => False) w (.slice none 0 0) [] := ⟨[], Rd.nil _ _ _, fun j l h => by simp at h⟩
set_option maxHeartbeats 2000000 in
theorem grows_any (w : World) : Calls Try.prog 26 #[] w fun e w' => e = .returned (.bool true) ∧ w.grownBy w' none := by
  go_enter Try.func26, Try.ntmps26
  have hv : RdI (fun b => b < (w.alloc (.cells (idCells [id1, id2]).toArray 26)).heap.size) (w.alloc (.cells (idCells [id1, id2]).toArray 26)) (.slice (some ⟨w.heap.size, 0, none⟩) 2 2) [id1, id2] :=
    Rd.mk' (Bk.new w 26 (idCells [id1, id2])).range (by rw [World.size_alloc]; omega) (Nat.le_refl _) (by decide) rfl
  have hsz : [id1, id2].length ≤ 1099511627776 := by decide
  have hs0 : ([] : List Sc.Id).length ≤ 1099511627776 := by decide
  have hs1 : ([] : List (List UInt8)).flatten.length ≤ 1125899906842624 := by decide
  have g0 := gb_alloc (gb_refl w none) (.cells (idCells [id1, id2]).toArray 26)
  obtain ⟨W, hW⟩ : ∃ W, W = w.alloc (.cells (idCells [id1, id2]).toArray 26) := ⟨_, rfl⟩
  have hWs : W.heap.size = w.heap.size + 1 := by rw [hW, World.size_alloc]
  rw [← hW] at hv g0
  have HW := Go.Lib.hid hW
  clear hW
  have HWS := Go.Lib.hid hWs
  clear hWs
  have q1 : ∀ w, (eqGuard .eql 26 (.tmp 15) (.tmp 18) (idv (root nd e0 [id1, id2])) (idv (sha (1 :: (id1.l ++ id2.l))))).run Try.prog w = .ok () w := fun _ => run_eqGuard_id idEq _ _
  have q2 : ∀ w, (binOp .eql 26 (idv (root nd e0 [id1, id2])) (idv (sha (1 :: (id1.l ++ id2.l))))).run Try.prog w = .ok (.bool true) w := fun _ => by rw [run_eql_id idEq, eq12]
  have q3 : ∀ w, (eqGuard .neq 26 (.tmp 23) (.tmp 24) (idv (root nd e0 [id1, id2])) (.agg #[.int .u8 0, .int .u8 0, .int .u8 0, .int .u8 0, .int .u8 0, .int .u8 0, .int .u8 0, .int .u8 0, .int .u8 0, .int .u8 0, .int .u8 0, .int .u8 0, .int .u8 0, .int .u8 0, .int .u8 0, .int .u8 0, .int .u8 0, .int .u8 0, .int .u8 0, .int .u8 0, .int .u8 0, .int .u8 0, .int .u8 0, .int .u8 0, .int .u8 0, .int .u8 0, .int .u8 0, .int .u8 0, .int .u8 0, .int .u8 0, .int .u8 0, .int .u8 0])).run Try.prog w = .ok () w := fun _ => run_eqGuard_id idEq _ idz
  have q4 : ∀ w, (binOp .neq 26 (idv (root nd e0 [id1, id2])) (.agg #[.int .u8 0, .int .u8 0, .int .u8 0, .int .u8 0, .int .u8 0, .int .u8 0, .int .u8 0, .int .u8 0, .int .u8 0, .int .u8 0, .int .u8 0, .int .u8 0, .int .u8 0, .int .u8 0, .int .u8 0, .int .u8 0, .int .u8 0, .int .u8 0, .int .u8 0, .int .u8 0, .int .u8 0, .int .u8 0, .int .u8 0, .int .u8 0, .int .u8 0, .int .u8 0, .int .u8 0, .int .u8 0, .int .u8 0, .int .u8 0, .int .u8 0, .int .u8 0])).run Try.prog w = .ok (.bool true) w := fun w => (run_neq_id (w := w) idEq (root nd e0 [id1, id2]) idz).trans (by rw [ne12])
  have q5 : ∀ w, (eqGuard .eql 26 (.tmp 28) (.tmp 29) (idv (root nd e0 [])) (idv (sha []))).run Try.prog w = .ok () w := fun _ => run_eqGuard_id idEq _ _
  have q6 : ∀ w, (binOp .eql 26 (idv (root nd e0 [])) (idv (sha []))).run Try.prog w = .ok (.bool true) w := fun _ => by rw [run_eql_id idEq]; rw [show ((root nd e0 []).l == (sha []).l) = true from eq00]
  go_wp2_with (first
    | ((with_reducible refine wpList_guard (by rfl) ?_))
    | ((with_reducible refine wpList_build_row (t := 26) (parts := #[(0, .const (.int .u8 1))]) (id1.l.map bv) (fun _ => by kernel_rfl) ?_))
    | ((with_reducible refine wpList_build_row (t := 26) (parts := #[(0, .const (.int .u8 2))]) (id2.l.map bv) (fun _ => by kernel_rfl) ?_))
    | ((with_reducible refine wpList_build_row (t := 26) (parts := #[]) (idz.l.map bv) (fun _ => by kernel_rfl) ?_))
    | ((with_reducible refine wpList_build_two (y := .tmp 2) (z := .tmp 3) (by kernel_rfl) (by kernel_rfl) ?_); rw [← HW.out])
    | (go_at_call 28; ((with_reducible refine (treeOf_any _ [id1, id2] _ _ hv (fun _ h => h) hsz).mono ?_); rintro e w2 ⟨rfl, g2, tv, hR2⟩; replace g0 := gb_trans g0 g2))
    | (go_at_call 32; ((with_reducible refine (size_any _ _ tv _ _ _ hR2).mono ?_); rintro e w3 ⟨rfl, rfl⟩))
    | (go_at_call 30; ((with_reducible refine (rootM_any _ _ tv [id1, id2] _ hR2 hsz).mono ?_); rintro e w3 ⟨rfl, g3⟩; replace hR2 := Rng.gr hR2 g3; replace g0 := gb_trans g0 g3))
    | (go_at_call 21; ((with_reducible refine (node12 _).mono ?_); rintro e w3 ⟨rfl, g3⟩; replace hR2 := Rng.gr hR2 g3; replace g0 := gb_trans g0 g3))
    | ((with_reducible refine wpList_eql_id (x := .tmp 15) (y := .tmp 18) idEq (root nd e0 [id1, id2]) (sha (1 :: (id1.l ++ id2.l))) (by kernel_rfl) (by kernel_rfl) ?_); rw [eq12])
    | ((with_reducible refine wpList_neq_id (x := .tmp 23) (y := .tmp 24) idEq (root nd e0 [id1, id2]) idz (by kernel_rfl) (by kernel_rfl) ?_); rw [ne12])
    | (go_at_call 36; ((with_reducible refine (treeRoot_any (.slice none 0 0) [] (fun _ => False) _ (rdi_nil _) (noN _) hs0).mono ?_); rintro e w3 ⟨rfl, g3⟩; replace g0 := gb_trans g0 g3))
    | (go_at_call 16; ((with_reducible refine (of_any (.slice none 0 0) [] (fun _ => False) _ (rdbb_nil _) (noN _) hs1).mono ?_); rintro e w3 ⟨rfl, g3⟩; replace g0 := gb_trans g0 g3))
    | ((with_reducible refine wpList_eql_id (x := .tmp 28) (y := .tmp 29) idEq (root nd e0 []) (sha [].flatten) (by kernel_rfl) (by kernel_rfl) ?_); rw [eq00]))
  go_ret
  exact ⟨rfl, g0⟩
end Go.Proofs.Ytgimgddlipbniaa
