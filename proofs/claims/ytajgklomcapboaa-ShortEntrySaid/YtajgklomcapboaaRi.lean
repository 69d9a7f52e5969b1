import Derived.Test.YtajgklomcapboaaTreeFns
import Derived.Test.YtajgklomcapboaaEql
import Derived.Test.YtajgklomcapboaaOwBB
/- Words on lists of sums that are read, and on sums of one and two leaves. -/
namespace Sc
open Go Go.RowKit
def RI (w : World) (v : Value) (xs : List Sc.Id) : Prop := RdI (fun b => b < w.heap.size) w v xs
theorem RI.gr {w w' : World} {v : Value} {xs : List Sc.Id} (h : RI w v xs) (hg : w.grownBy w' none) : RI w' v xs := Rd.mono (Rd.grown h hg (by simp)) fun b hb => Nat.lt_of_lt_of_le hb hg.size
theorem RI.of {NB : Nat → Prop} {w : World} {v : Value} {xs : List Sc.Id} (h : RdI NB w v xs) (hN : ∀ b, NB b → b < w.heap.size) : RI w v xs := Rd.mono h hN
theorem RdI.takeTo {NB : Nat → Prop} {w : World} {A : Option Addr} {c : Nat} {xs : List Sc.Id} (h : RdI NB w (.slice A xs.length c) xs) (m q : Nat) (hq : min xs.length m = q) : RdI NB w (.slice A q c) (xs.take m) := by
  have h1 := Rd.takeTo h q (by omega)
  rw [idCells_take] at h1
  have e : xs.take m = xs.take q := by
    rw [← hq]
    rcases Nat.le_total xs.length m with h | h
    · rw [Nat.min_eq_left h, List.take_of_length_le h, List.take_of_length_le (Nat.le_refl _)]
    · rw [Nat.min_eq_right h]
  have hl : (xs.take m).length = q := by rw [List.length_take, Nat.min_comm]; exact hq
  unfold RdI
  rw [hl, e]; exact h1
theorem Ow.weaken {B B' k n : Nat} {w : World} {v : Value} {cs : List Value} (h : Ow B w k v n cs) (hB : B' ≤ B) : Ow B' w k v n cs := by
  obtain ⟨h1, A, c, rfl, h2, h3, h4, h5⟩ := h
  refine ⟨h1, A, c, rfl, h2, h3, h4, fun ad had => ?_⟩
  obtain ⟨r, o, e, hBb, rest⟩ := h5 ad had
  exact ⟨r, o, e, by omega, rest⟩
def id1 : Sc.Id := ⟨[1, 0, 0, 0, 0, 0, 0, 0, 0, 0, 0, 0, 0, 0, 0, 0, 0, 0, 0, 0, 0, 0, 0, 0, 0, 0, 0, 0, 0, 0, 0, 0], rfl⟩
def id2 : Sc.Id := ⟨[2, 0, 0, 0, 0, 0, 0, 0, 0, 0, 0, 0, 0, 0, 0, 0, 0, 0, 0, 0, 0, 0, 0, 0, 0, 0, 0, 0, 0, 0, 0, 0], rfl⟩
def idz : Sc.Id := ⟨[0, 0, 0, 0, 0, 0, 0, 0, 0, 0, 0, 0, 0, 0, 0, 0, 0, 0, 0, 0, 0, 0, 0, 0, 0, 0, 0, 0, 0, 0, 0, 0], rfl⟩
theorem nd12 : ((nd id1 id2).l == idz.l) = false := by decide +kernel
end Sc
namespace Go.Proofs.Ytajgklomcapboaa
open Go.RowKit Go.Shelf Sc

theorem idEq : IdEq Try.prog 34 := idEq_dec (e := 5) Try.underlying34 Try.underlying5 (by kernel_rfl) (by kernel_rfl)
theorem Rng.gr {w w' : World} {B r n : Nat} {tv : Value} {ts : List Sc.Id} (h : Rng w B r tv n ts) (hg : w.grownBy w' none) : Rng w' B r tv n ts := ⟨h.1.grown hg (by simp), h.2.1.grown hg (fun _ _ => by simp), h.2.2⟩
theorem build_two (w : World) : (Instr.buildSlice 41 2 #[(0, idv id1), (1, idv id2)]).run Try.prog w = .ok (.slice (some ⟨w.heap.size, 0, none⟩) 2 2) (w.alloc (.cells (idCells [id1, id2]).toArray 34)) := by kernel_rfl
theorem wpList_build_two {w : World} {ops : Array Oper} {rest : List Oper} {a : Act} {Q : Exit → Act → World → Prop} {dst : Option Tmp} {ty : TypeId} {pos : String} {aft : Array Edge} {y z : Operand} (hy : a.eval y = idv id1) (hz : a.eval z = idv id2)
    (h : wpList Try.prog ops Q rest (a.put dst (.slice (some ⟨w.heap.size, 0, none⟩) 2 2)) (w.alloc (.cells (idCells [id1, id2]).toArray 34))) :
    wpList Try.prog ops Q (⟨dst, .buildSlice 41 2 #[(0, y), (1, z)], ty, pos, aft, none⟩ :: rest) a w := by
  refine wpList_run rfl ?_ h
  simp only [execOp, List.map_toArray, List.map_cons, List.map_nil, hy, hz, Sem.run_bind]
  rw [build_two]
  rfl
theorem root12 : root nd e0 [id1, id2] = nd id1 id2 := by
  rw [root_two nd e0 (by simp)]
  rw [show half [id1, id2].length = 1 from half_two]
  simp [root_one]

theorem eq12 : ((root nd e0 [id1, id2]).l == (sha (1 :: (id1.l ++ id2.l))).l) = true := by rw [root12]; exact beq_self_eq_true _
theorem ne12 : (!((root nd e0 [id1, id2]).l == idz.l)) = true := by rw [root12, nd12]; rfl
theorem eq00 : ((root nd e0 []).l == (sha [].flatten).l) = true := by rw [root_nil]; exact beq_self_eq_true _
theorem node12 (w : World) : Calls Try.prog 55 #[.agg #[.int .u8 1, .int .u8 0, .int .u8 0, .int .u8 0, .int .u8 0, .int .u8 0, .int .u8 0, .int .u8 0, .int .u8 0, .int .u8 0, .int .u8 0, .int .u8 0, .int .u8 0, .int .u8 0, .int .u8 0, .int .u8 0, .int .u8 0, .int .u8 0, .int .u8 0, .int .u8 0, .int .u8 0, .int .u8 0, .int .u8 0, .int .u8 0, .int .u8 0, .int .u8 0, .int .u8 0, .int .u8 0, .int .u8 0, .int .u8 0, .int .u8 0, .int .u8 0], .agg #[.int .u8 2, .int .u8 0, .int .u8 0, .int .u8 0, .int .u8 0, .int .u8 0, .int .u8 0, .int .u8 0, .int .u8 0, .int .u8 0, .int .u8 0, .int .u8 0, .int .u8 0, .int .u8 0, .int .u8 0, .int .u8 0, .int .u8 0, .int .u8 0, .int .u8 0, .int .u8 0, .int .u8 0, .int .u8 0, .int .u8 0, .int .u8 0, .int .u8 0, .int .u8 0, .int .u8 0, .int .u8 0, .int .u8 0, .int .u8 0, .int .u8 0, .int .u8 0]] w fun e w' => e = .returned (idv (sha (1 :: (id1.l ++ id2.l)))) ∧ w.grownBy w' none := node_any id1 id2 w
theorem noN (w : World) : ∀ b, (fun _ : Nat => False) b → b < w.heap.size := fun _ h => h.elim
theorem rdi_nil (w : World) : RdI (fun _ => False) w (.slice none 0 0) [] := Rd.nil _ _ _
theorem rdbb_nil (w : World) : RdBB (fun _ => False) w (.slice none 0 0) [] := ⟨[], Rd.nil _ _ _, fun j l h => by simp at h⟩
theorem rgr {w w' : World} {v : Value} {xs : List Sc.Id} (h : RdI (fun b => b < w.heap.size) w v xs) (hg : w.grownBy w' none) : RdI (fun b => b < w'.heap.size) w' v xs := RI.gr h hg
theorem rgr_refl {w : World} {v : Value} {xs : List Sc.Id} (h : RI w v xs) : RdI (fun b => b < w.heap.size) w v xs := h
theorem cut0 {NB : Nat → Prop} {w : World} {A : Option Addr} {q c : Nat} {l ld : List Sc.Id} (h : Rd NB w 32 (.slice A q c) q (idCells l)) (hq : l.length = q) (hd : ld = l.drop 0) : RdI NB w (.slice A q c) ld := by
  rw [hd, List.drop_zero]; unfold RdI; rw [hq]; exact h
theorem lt_self (w : World) : ∀ b, (fun b => b < w.heap.size) b → b < w.heap.size := fun _ h => h
theorem cut_read {NB : Nat → Prop} {w : World} {A : Option Addr} {q c j : Nat} {l : List Sc.Id} (h : Rd NB w 32 (.slice A q c) q (idCells l)) (hq : l.length = q) (hj : j ≤ q) : RdI NB w (.slice (if c = j then A else A.map (·.add (j * 32))) (q - j) (c - j)) (l.drop j) := by
  have h1 := Rd.cut h hj (Nat.le_refl _) rfl
  unfold RdI
  rw [List.length_drop, hq, ← idCells_drop]
  rwa [List.take_of_length_le (by rw [List.length_drop, idCells_length, hq]; omega)] at h1
end Go.Proofs.Ytajgklomcapboaa
