import Derived.Test.YtgimgddlipbniaaOwBB
/- An own list of bytes' slices, some of them made on the way. -/
namespace Sc
open Go Go.RowKit
def OwX (B : Nat) (w : World) (v : Value) (ls : List (List UInt8)) : Prop :=
  ∃ vs : List Value, Ow B w 1 v ls.length vs ∧ ∀ (j : Nat) (l : List UInt8), ls[j]? = some l → ∃ u, vs[j]? = some u ∧ RdB (fun b => b < w.heap.size ∧ v.ownBlock ≠ some b) w u l
section
variable {B : Nat} {w w' : World} {v v' : Value} {ls ms : List (List UInt8)}
theorem OwX.gr (h : OwX B w v ls) (hg : w.grownBy w' none) : OwX B w' v ls := by
  obtain ⟨vs, h1, h2⟩ := h
  refine ⟨vs, h1.grown hg (fun _ _ => by simp), fun j l hl => ?_⟩
  obtain ⟨u, hu, hb⟩ := h2 j l hl
  exact ⟨u, hu, Rd.mono (Rd.grown hb hg (by simp)) fun b hb => ⟨Nat.lt_of_lt_of_le hb.1 hg.size, hb.2⟩⟩
theorem OwX.rd (h : OwX B w v ls) : RdBB (fun b => b < w.heap.size) w v ls := by
  obtain ⟨vs, h1, h2⟩ := h
  refine ⟨vs, h1.rd (fun b hb => (h1.lt hb).2), fun j l hl => ?_⟩
  obtain ⟨u, hu, hb⟩ := h2 j l hl
  exact ⟨u, hu, Rd.mono hb fun b hb => hb.1⟩
/-- Behind an append: vs, us are the cells of before, and those that came. -/
theorem OwX.snocs {vs us : List Value} {n : Nat} (hl : vs.length = ls.length) (hn : n = ls.length + ms.length)
    (h : ∀ (j : Nat) (l : List UInt8), ls[j]? = some l → ∃ u, vs[j]? = some u ∧ RdB (fun b => b < w.heap.size ∧ v.ownBlock ≠ some b) w u l)
    (hu : ∀ (j : Nat) (l : List UInt8), ms[j]? = some l → ∃ u, us[j]? = some u ∧ RdB (fun b => b < w.heap.size ∧ v.ownBlock ≠ some b) w u l)
    (ho : Ow B w' 1 v' n (vs ++ us)) (hg : w.grownBy w' v.ownBlock) (hb : v'.ownBlock = v.ownBlock ∨ v'.ownBlock = some w.heap.size) : OwX B w' v' (ls ++ ms) := by
  have key : ∀ u l, RdB (fun b => b < w.heap.size ∧ v.ownBlock ≠ some b) w u l → RdB (fun b => b < w'.heap.size ∧ v'.ownBlock ≠ some b) w' u l := fun u l hr =>
    Rd.mono (Rd.grown hr hg (fun r hr h => h.2 hr)) fun b h => ⟨Nat.lt_of_lt_of_le h.1 hg.size, by
      rcases hb with e | e
      · rw [e]; exact h.2
      · rw [e]; intro e2; have := Option.some.inj e2; have := h.1; omega⟩
  refine ⟨vs ++ us, by rw [List.length_append, ← hn]; exact ho, fun j l hj => ?_⟩
  rw [List.getElem?_append] at hj
  split at hj
  · rename_i hlt
    obtain ⟨u, hu', hr⟩ := h j l hj
    exact ⟨u, by rw [List.getElem?_append_left (by omega)]; exact hu', key u l hr⟩
  · rename_i hge
    obtain ⟨u, hu', hr⟩ := hu (j - ls.length) l hj
    exact ⟨u, by rw [List.getElem?_append_right (by omega), hl]; exact hu', key u l hr⟩
end
def be4 (n : Nat) : List UInt8 := [UInt8.ofNat (n / 16777216), UInt8.ofNat (n / 65536), UInt8.ofNat (n / 256), UInt8.ofNat n]
theorem be4_cells (n : Nat) : ((be4 n).map bv).toArray = #[.int .u8 ((n : Int) / 16777216 % 256), .int .u8 ((n : Int) / 65536 % 256), .int .u8 ((n : Int) / 256 % 256), .int .u8 ((n : Int) % 256)] := by
  have h : ∀ m : Nat, bv (UInt8.ofNat m) = .int .u8 ((m : Int) % 256) := fun m => by unfold bv; rw [UInt8.toNat_ofNat']; rfl
  simp only [be4, List.map_cons, List.map_nil, h]
  rfl
/-- What is summed of parts. -/
def forParts (ls : List (List UInt8)) : List (List UInt8) := ls.flatMap fun l => [be4 l.length, l]
def forText (p : List UInt8) (ls : List (List UInt8)) : List UInt8 := p ++ [0] ++ (forParts ls).flatten
theorem forParts_snoc (ls : List (List UInt8)) (l : List UInt8) : forParts (ls ++ [l]) = forParts ls ++ [be4 l.length, l] := by simp [forParts]
theorem forParts_length (ls : List (List UInt8)) : (forParts ls).length = 2 * ls.length := by
  induction ls with
  | nil => rfl
  | cons l ls ih => simp only [forParts, List.flatMap_cons, List.length_append, List.length_cons, List.length_nil] at ih ⊢; omega
theorem forParts_each (ls : List (List UInt8)) (l : List UInt8) (h : l ∈ ls) : l.length ≤ (forParts ls).flatten.length := by
  induction ls with
  | nil => cases h
  | cons x ls ih =>
    simp only [forParts, List.flatMap_cons, List.flatten_append, List.flatten_cons, List.flatten_nil, List.append_nil, List.length_append] at ih ⊢
    rcases List.mem_cons.1 h with rfl | h
    · omega
    · have := ih h; omega
theorem forText_each (p : List UInt8) (ls : List (List UInt8)) (l : List UInt8) (h : l ∈ ls) : l.length ≤ (forText p ls).length := by
  have := forParts_each ls l h
  simp only [forText, List.length_append]; omega
theorem forText_eq (p : List UInt8) (ls : List (List UInt8)) : ([p, [0]] ++ forParts ls).flatten = forText p ls := by simp [forText]
end Sc
