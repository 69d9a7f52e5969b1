import Derived.Test.YtajgklomcapboaaCut
/- An own list of bytes' slices that lie elsewhere. -/
namespace Sc
open Go Go.RowKit
def OwBB (B : Nat) (NB : Nat → Prop) (w : World) (v : Value) (ls : List (List UInt8)) : Prop :=
  ∃ vs : List Value, Ow B w 1 v ls.length vs ∧ ∀ (j : Nat) (l : List UInt8), ls[j]? = some l → ∃ u, vs[j]? = some u ∧ RdB NB w u l
section
variable {B : Nat} {NB : Nat → Prop} {w w' : World} {v : Value} {ls : List (List UInt8)}
theorem OwBB.nil (B : Nat) (NB : Nat → Prop) (w : World) : OwBB B NB w (.slice none 0 0) [] := ⟨[], Ow.nil _ _ _, fun j l h => by simp at h⟩
theorem OwBB.grown {row : Option Nat} (h : OwBB B NB w v ls) (hg : w.grownBy w' row) (hr : ∀ b, v.ownBlock = some b → row ≠ some b) (hn : ∀ r, row = some r → ¬ NB r) : OwBB B NB w' v ls := by
  obtain ⟨vs, h1, h2⟩ := h
  refine ⟨vs, h1.grown hg hr, fun j l hl => ?_⟩
  obtain ⟨u, hu, hb⟩ := h2 j l hl
  exact ⟨u, hu, Rd.grown hb hg hn⟩
theorem OwBB.gr (h : OwBB B NB w v ls) (hg : w.grownBy w' none) : OwBB B NB w' v ls := h.grown hg (fun _ _ => by simp) (by simp)
theorem OwBB.rd (h : OwBB B NB w v ls) {NB' : Nat → Prop} (hN : ∀ b, NB b → NB' b) (hO : ∀ b, v.ownBlock = some b → NB' b) : RdBB NB' w v ls := by
  obtain ⟨vs, h1, h2⟩ := h
  refine ⟨vs, h1.rd hO, fun j l hl => ?_⟩
  obtain ⟨u, hu, hb⟩ := h2 j l hl
  exact ⟨u, hu, Rd.mono hb hN⟩
/-- Behind an append of one. -/
theorem OwBB.snoc {vs : List Value} {u v' : Value} {l : List UInt8} {row : Option Nat} (h : ∀ (j : Nat) (l : List UInt8), ls[j]? = some l → ∃ u, vs[j]? = some u ∧ RdB NB w u l) (hl : vs.length = ls.length) (hu : RdB NB w u l)
    (ho : Ow B w' 1 v' (ls.length + 1) (vs ++ [u])) (hg : w.grownBy w' row) (hn : ∀ r, row = some r → ¬ NB r) : OwBB B NB w' v' (ls ++ [l]) := by
  refine ⟨vs ++ [u], by simpa using ho, fun j l' hj => ?_⟩
  rw [List.getElem?_append] at hj
  split at hj
  · rename_i hlt
    obtain ⟨u', hu', hb⟩ := h j l' hj
    refine ⟨u', ?_, Rd.grown hb hg hn⟩
    rw [List.getElem?_append_left (by omega)]; exact hu'
  · rename_i hge
    have : j - ls.length = 0 := by
      rcases Nat.eq_zero_or_pos (j - ls.length) with e | e
      · exact e
      · rw [List.getElem?_eq_none (by simp; omega)] at hj; cases hj
    rw [this] at hj
    cases hj
    refine ⟨u, ?_, Rd.grown hu hg hn⟩
    rw [List.getElem?_append_right (by omega), hl, this]; rfl
end
theorem Rd.takeTo {NB : Nat → Prop} {w : World} {k n c : Nat} {A : Option Addr} {cs : List Value} (h : Rd NB w k (.slice A n c) n cs) (j : Nat) (hj : j ≤ n) : Rd NB w k (.slice A j c) j (cs.take (j * k)) := by
  obtain ⟨A', c', he, h1, h2, h3, h4⟩ := h
  injection he with e1 _ e2
  subst e1 e2
  refine ⟨A, c, rfl, by omega, h2, ?_, fun hn => ?_⟩
  · rw [List.length_take, h3]; exact Nat.min_eq_left (Nat.mul_le_mul_right _ hj)
  · obtain ⟨b, o, rfl, hb, hc⟩ := h4 (by omega)
    refine ⟨b, o, rfl, hb, fun m u hu => hc m u ?_⟩
    rw [List.getElem?_take] at hu
    split at hu
    · exact hu
    · cases hu
theorem RdB.takeTo {NB : Nat → Prop} {w : World} {c : Nat} {A : Option Addr} {l : List UInt8} (h : RdB NB w (.slice A l.length c) l) (m q : Nat) (hq : min l.length m = q) : RdB NB w (.slice A q c) (l.take m) := by
  have e : l.take m = l.take q := by
    rw [← hq]
    rcases Nat.le_total l.length m with h | h
    · rw [Nat.min_eq_left h, List.take_of_length_le h, List.take_of_length_le (Nat.le_refl _)]
    · rw [Nat.min_eq_right h]
  have hl : (l.take m).length = q := by rw [List.length_take, Nat.min_comm]; exact hq
  have := Rd.takeTo h q (by omega)
  unfold RdB
  rw [hl, e, List.map_take]
  rw [Nat.mul_one] at this; exact this
/-- The first n parts, none longer than m. -/
def capped (n m : Nat) (ls : List (List UInt8)) : List (List UInt8) := (ls.take n).map (·.take m)
theorem capped_snoc (n m k : Nat) (ls : List (List UInt8)) (l : List UInt8) (h : ls[k]? = some l) (hk : k < n) : capped n m (ls.take (k + 1)) = capped n m (ls.take k) ++ [l.take m] := by
  unfold capped
  have hl := (List.getElem?_eq_some_iff.1 h).1
  rw [List.take_take, List.take_take, Nat.min_eq_right (by omega), Nat.min_eq_right (by omega), List.take_add_one, h]; simp
theorem capped_same (n m k : Nat) (ls : List (List UInt8)) (hk : n ≤ k) : capped n m (ls.take (k + 1)) = capped n m (ls.take k) := by
  unfold capped
  rw [List.take_take, List.take_take, Nat.min_eq_left (by omega), Nat.min_eq_left (by omega)]
theorem capped_length (n m : Nat) (ls : List (List UInt8)) : (capped n m ls).length ≤ n := by unfold capped; simp; omega
theorem capped_each (n m : Nat) (ls : List (List UInt8)) : ∀ l ∈ capped n m ls, l.length ≤ m := by
  intro l hl; unfold capped at hl; obtain ⟨x, _, rfl⟩ := List.mem_map.1 hl; simp; omega
theorem flat_le (m : Nat) : ∀ (ls : List (List UInt8)), (∀ l ∈ ls, l.length ≤ m) → ls.flatten.length ≤ ls.length * m
  | [], _ => by simp
  | l :: ls, h => by
    have h1 := h l (List.mem_cons.2 (.inl rfl))
    have h2 := flat_le m ls (fun x hx => h x (List.mem_cons.2 (.inr hx)))
    simp only [List.flatten_cons, List.length_append, List.length_cons, Nat.add_mul, Nat.one_mul]; omega
theorem capped_flat (n m : Nat) (ls : List (List UInt8)) : (capped n m ls).flatten.length ≤ n * m :=
  Nat.le_trans (flat_le m _ (capped_each n m ls)) (Nat.mul_le_mul_right _ (capped_length n m ls))
end Sc
