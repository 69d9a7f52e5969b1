import Derived.Test.YtajgklomcapboaaWord
import Derived.Test.YtajgklomcapboaaMemIn
/- What a slice reads as; kept over steps. -/
namespace Sc
open Go Go.RowKit

/-- The slice value v has n elements of k cells, which are cs, in blocks of NB. -/
def Rd (NB : Nat → Prop) (w : World) (k : Nat) (v : Value) (n : Nat) (cs : List Value) : Prop :=
  ∃ A c, v = .slice A n c ∧ n ≤ c ∧ c ≤ maxLen ∧ cs.length = n * k ∧ (0 < n → ∃ b o, A = some ⟨b, o, none⟩ ∧ NB b ∧ ∀ j u, cs[j]? = some u → w.cell? ⟨b, o + j, none⟩ = some u)

section
variable {NB : Nat → Prop} {w w' : World} {k n : Nat} {v : Value} {cs : List Value}
theorem Rd.len (h : Rd NB w k v n cs) : cs.length = n * k := by obtain ⟨A, c, _, _, _, h, _⟩ := h; exact h
theorem Rd.le (h : Rd NB w k v n cs) : n ≤ maxLen := by obtain ⟨A, c, _, h1, h2, _, _⟩ := h; omega
theorem Rd.nil (NB : Nat → Prop) (w : World) (k : Nat) : Rd NB w k (.slice none 0 0) 0 [] := ⟨none, 0, rfl, Nat.le_refl _, Nat.zero_le _, by simp, fun h => absurd h (by omega)⟩
theorem Rd.form (h : Rd NB w k v n cs) : ∃ A c, v = .slice A n c ∧ n ≤ c := by obtain ⟨A, c, rfl, h1, _⟩ := h; exact ⟨A, c, rfl, h1⟩
/-- The cells of element i, asked for where there is one. -/
theorem Rd.at (h : Rd NB w k v n cs) (hn : 0 < n) : ∃ b o c, v = .slice (some ⟨b, o, none⟩) n c ∧ NB b ∧ n ≤ c ∧ c ≤ maxLen ∧ w.rangeAt b o cs := by
  obtain ⟨A, c, rfl, h1, h2, h3, h4⟩ := h
  obtain ⟨b, o, rfl, hb, hc⟩ := h4 hn
  exact ⟨b, o, c, rfl, hb, h1, h2, hc⟩
theorem Rd.mono {NB' : Nat → Prop} (h : Rd NB w k v n cs) (hi : ∀ b, NB b → NB' b) : Rd NB' w k v n cs := by
  obtain ⟨A, c, rfl, h1, h2, h3, h4⟩ := h
  refine ⟨A, c, rfl, h1, h2, h3, fun hn => ?_⟩
  obtain ⟨b, o, rfl, hb, hc⟩ := h4 hn
  exact ⟨b, o, rfl, hi b hb, hc⟩
theorem Rd.keep (h : Rd NB w k v n cs) (hk : ∀ b o u, NB b → w.cell? ⟨b, o, none⟩ = some u → w'.cell? ⟨b, o, none⟩ = some u) : Rd NB w' k v n cs := by
  obtain ⟨A, c, rfl, h1, h2, h3, h4⟩ := h
  refine ⟨A, c, rfl, h1, h2, h3, fun hn => ?_⟩
  obtain ⟨b, o, rfl, hb, hc⟩ := h4 hn
  exact ⟨b, o, rfl, hb, fun j u hu => hk b (o + j) u hb (hc j u hu)⟩
theorem cell_grown {row : Option Nat} (hg : w.grownBy w' row) {b o : Nat} {u : Value} (h : w.cell? ⟨b, o, none⟩ = some u) (hb : row ≠ some b) : w'.cell? ⟨b, o, none⟩ = some u :=
  World.grownBy.cell hg h (fun e => hb e.symm)
theorem Rd.grown {row : Option Nat} (h : Rd NB w k v n cs) (hg : w.grownBy w' row) (hr : ∀ r, row = some r → ¬ NB r) : Rd NB w' k v n cs :=
  h.keep fun b _o _u hb hc => cell_grown hg hc (fun e => hr b e hb)
theorem Rd.drewN (h : Rd NB w k v n cs) (m : Nat) : Rd NB (w.drewN m) k v n cs := h
theorem Rd.drew (h : Rd NB w k v n cs) : Rd NB w.drew k v n cs := h
theorem cell_kept' {Mut : Nat → Prop} {own : List Nat} (hk : Kept Mut own w w') {b o : Nat} {u : Value} (h : w.cell? ⟨b, o, none⟩ = some u) (hb : ¬ Mut b) : w'.cell? ⟨b, o, none⟩ = some u := by
  unfold World.cell? at h ⊢
  split at h
  · rename_i c t f hc
    dsimp only at hc h ⊢
    rw [hk b _ (.inr hb) hc rfl]
    exact h
  · cases h
theorem Rd.kept {Mut : Nat → Prop} {own : List Nat} (h : Rd NB w k v n cs) (hk : Kept Mut own w w') (hm : ∀ b, NB b → ¬ Mut b) : Rd NB w' k v n cs :=
  h.keep fun b _ _ hb hc => cell_kept' hk hc (hm b hb)
theorem Rd.put (h : Rd NB w k v n cs) {l : Nat} {o : Obj} (o' : Obj) (hl : w.heap[l]? = some o) (hr : isRec o = true) : Rd NB (w.putObj l o') k v n cs := h.keep fun b of u _ hc => by
  have e : b ≠ l := by
    rintro rfl; unfold World.cell? at hc; dsimp only at hc; rw [hl] at hc; cases o <;> simp [isRec] at hr hc
  rw [World.cell?_of_block (w := w) (World.putObj_heap_other (by exact e))]; exact hc
/-- A part of it: 'v[i:j]', as the model makes it. -/
theorem Rd.cut (h : Rd NB w k v n cs) {i j : Nat} (hij : i ≤ j) (hj : j ≤ n) {A : Option Addr} {c : Nat} (hv : v = .slice A n c) :
    Rd NB w k (.slice (if c = i then A else A.map (·.add (i * k))) (j - i) (c - i)) (j - i) ((cs.drop (i * k)).take ((j - i) * k)) := by
  obtain ⟨A', c', hv', h1, h2, h3, h4⟩ := h
  rw [hv] at hv'; cases hv'
  refine ⟨_, _, rfl, by omega, by omega, ?_, fun hn => ?_⟩
  · have hm : n * k = i * k + (j - i) * k + (n - j) * k := by rw [← Nat.add_mul, ← Nat.add_mul]; congr 1; omega
    rw [List.length_take, List.length_drop, h3]; omega
  · obtain ⟨b, o, rfl, hb, hc⟩ := h4 (by omega)
    rw [if_neg (by omega)]
    refine ⟨b, o + i * k, by simp [Addr.add_mid], hb, fun m u hu => ?_⟩
    rw [List.getElem?_take] at hu
    split at hu
    · rw [List.getElem?_drop] at hu
      rw [show o + i * k + m = o + (i * k + m) by omega]; exact hc _ _ hu
    · cases hu
end

/-- Bytes. -/
def RdB (NB : Nat → Prop) (w : World) (v : Value) (l : List UInt8) : Prop := Rd NB w 1 v l.length (l.map bv)
/-- A list of bytes' slices. -/
def RdBB (NB : Nat → Prop) (w : World) (v : Value) (ls : List (List UInt8)) : Prop :=
  ∃ vs : List Value, Rd NB w 1 v ls.length vs ∧ ∀ (j : Nat) (l : List UInt8), ls[j]? = some l → ∃ u, vs[j]? = some u ∧ RdB NB w u l
/-- The cells of sums. -/
def idCells (xs : List Id) : List Value := xs.flatMap fun x => x.l.map bv
/-- Sums. -/
def RdI (NB : Nat → Prop) (w : World) (v : Value) (xs : List Id) : Prop := Rd NB w 32 v xs.length (idCells xs)

theorem idCells_length (xs : List Id) : (idCells xs).length = xs.length * 32 := by
  induction xs with
  | nil => rfl
  | cons x xs ih => simp only [idCells, List.flatMap_cons, List.length_append, List.length_map, x.h, List.length_cons] at ih ⊢; omega

section
variable {NB : Nat → Prop} {w w' : World} {v : Value}
theorem RdB.keep {l : List UInt8} (h : RdB NB w v l) (hk : ∀ b o u, NB b → w.cell? ⟨b, o, none⟩ = some u → w'.cell? ⟨b, o, none⟩ = some u) : RdB NB w' v l := Rd.keep h hk
theorem RdBB.keep {l : List (List UInt8)} (h : RdBB NB w v l) (hk : ∀ b o u, NB b → w.cell? ⟨b, o, none⟩ = some u → w'.cell? ⟨b, o, none⟩ = some u) : RdBB NB w' v l := by
  obtain ⟨vs, h1, h2⟩ := h
  refine ⟨vs, h1.keep hk, fun j l hl => ?_⟩
  obtain ⟨u, hu, hr⟩ := h2 j l hl
  exact ⟨u, hu, Rd.keep hr hk⟩
theorem RdBB.kept {Mut : Nat → Prop} {own : List Nat} {l : List (List UInt8)} (h : RdBB NB w v l) (hk : Kept Mut own w w') (hm : ∀ b, NB b → ¬ Mut b) : RdBB NB w' v l :=
  h.keep fun b _ _ hb hc => cell_kept' hk hc (hm b hb)
theorem RdBB.grown {row : Option Nat} {l : List (List UInt8)} (h : RdBB NB w v l) (hg : w.grownBy w' row) (hr : ∀ r, row = some r → ¬ NB r) : RdBB NB w' v l :=
  h.keep fun b _o _u hb hc => cell_grown hg hc (fun e => hr b e hb)
end
end Sc
