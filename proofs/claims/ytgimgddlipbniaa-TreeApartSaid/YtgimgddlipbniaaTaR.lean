import Derived.Test.YtgimgddlipbniaaRestore
import Derived.Test.YtgimgddlipbniaaRoots
import Derived.Test.YtgimgddlipbniaaSpecsT
import Derived.Test.YtgimgddlipbniaaAppR
/- Words for the last comparison of TreeApart: what it keeps of the world, and what each of its operations yields. -/
namespace Go.Proofs.Ytgimgddlipbniaa
open Go.RowKit Go.Shelf Sc
/-- Either the world only grows, or a block behind B is written behind the cells of its first q sums (one at least). -/
def RI1 (B q : Nat) (a b : World) : Prop := Gr a b ∨ ∃ r, B ≤ r ∧ 1 ≤ q ∧ a.grownBy b (some r) ∧ (∀ o, o < q * 32 → b.cell? ⟨r, o, none⟩ = a.cell? ⟨r, o, none⟩) ∧
  (∀ o, (a.cell? ⟨r, o, none⟩).isSome = true → (b.cell? ⟨r, o, none⟩).isSome = true) ∧ ∀ o, b.frozen? ⟨r, o, none⟩ = a.frozen? ⟨r, o, none⟩
def taR (B q : Nat) (i : Nat) (a b : World) : Prop := match i with
  | 7 => RI1 B q a b
  | 18 => RI1 B q a b
  | _ => Gr a b
def taRa (B : Nat) (a b : World) : Prop := B ≤ a.heap.size → Below B a b
def taDead (j k : Nat) : Bool := (j == 7 && k == 8) || (j == 18 && k == 19)
theorem ta_drawn (B : Nat) (w : World) : Below B w { w with drawn := w.drawn + 1 } := ⟨rfl, rfl, rfl, Nat.le_refl _, fun _ _ => rfl⟩
theorem taRa_trans (B : Nat) : ∀ a b c, taRa B a b → taRa B b c → taRa B a c := fun _a _b _c h k hB => (h hB).trans (k (Nat.le_trans hB (h hB).size))
theorem taR_i {B q i : Nat} {a b : World} (h : taR B q i a b) : RI1 B q a b := by
  unfold taR at h
  split at h
  · exact h
  · exact h
  · exact .inl h
theorem taR_gr {B q i : Nat} {a b : World} (h7 : i ≠ 7) (h18 : i ≠ 18) (h : taR B q i a b) : Gr a b := by
  unfold taR at h
  split at h
  · exact absurd rfl h7
  · exact absurd rfl h18
  · exact h
theorem taR_Ra (B q : Nat) : ∀ i a b, taR B q i a b → taRa B a b := fun i a b h hB => by
  rcases taR_i h with h | ⟨r, hr, _, h, _⟩
  · exact gb_below h hB (by simp)
  · exact gb_below h hB (fun k e => by cases e; exact hr)
theorem RI1.range {B q : Nat} {a b : World} {k : Nat} {x : Sc.Id} (hc : a.rangeAt k 0 (x.l.map bv)) (h : RI1 B q a b) : b.rangeAt k 0 (x.l.map bv) := by
  rcases h with h | ⟨r, hr, h1, h2, h3, _⟩
  · exact rangeAt_grown hc h (by simp)
  · by_cases e : k = r
    · subst e
      intro j u hu
      have hj : j < 32 := by have := (List.getElem?_eq_some_iff.1 hu).1; rwa [List.length_map, x.h] at this
      rw [h3 _ (by omega)]
      exact hc j u hu
    · exact rangeAt_grown hc h2 (fun h => e (Option.some.inj h).symm)
theorem RI1.ow {B q : Nat} {a b : World} {k n c : Nat} {cs : List Value} (h : Ow B a 32 (.slice (some ⟨k, 0, none⟩) n c) n cs) (hn : n ≤ q) (hg : RI1 B q a b) : Ow B b 32 (.slice (some ⟨k, 0, none⟩) n c) n cs := by
  rcases hg with hg' | ⟨r, hr, h1, h2, h3, h4, h5⟩
  · exact h.grown hg' (fun _ _ => by simp)
  · by_cases e : k = r
    · subst e
      obtain ⟨a1, A', c', he, a2, a3, a4, a5⟩ := h
      injection he with e1 _ e2
      subst e1 e2
      refine ⟨a1, _, c, rfl, a2, a3, a4, fun ad had => ?_⟩
      obtain ⟨b', o', e, hB, hlt, hc, hrr⟩ := a5 ad had
      have had' := had
      cases had
      injection e with e1 e2 _
      subst e1 e2
      refine ⟨k, 0, rfl, hB, Nat.lt_of_lt_of_le hlt h2.size, fun j hj => ⟨h4 _ (hc j hj).1, ?_⟩, fun j u hu => ?_⟩
      · rw [h5]; exact (hc j hj).2
      · have hjn : j < n * 32 := by have := (List.getElem?_eq_some_iff.1 hu).1; rwa [a1] at this
        rw [h3 _ (by omega)]; exact hrr j u hu
    · exact h.grown h2 (fun b hb e2 => e (by have := Option.some.inj (show some k = some b from hb); have := Option.some.inj e2; omega))
theorem RI1.room {B q : Nat} {w : World} {b c : Nat} {cs : List Value} (h : Ow B w 32 (.slice (some ⟨b, 0, none⟩) q c) q cs) (hq : 1 ≤ q) (news : List Value) : RI1 B q w (w.setCells b (0 + q * 32) news) := by
  obtain ⟨h1, A', c', he, h2, h3, h4, h5⟩ := h
  injection he with e1 _ e2
  subst e1 e2
  obtain ⟨b', o', e, hB, hlt, hc, hr⟩ := h5 _ rfl
  injection e with e1 e2 _
  subst e1 e2
  refine .inr ⟨b, hB, hq, gb_setCells b news _ w, fun o ho => ?_, fun o ho => World.isSome_setCells b news _ w _ ho, fun o => World.frozen?_setCells _ _ _ _ _⟩
  exact World.cell?_setCells_out b news _ w _ (fun _ _ => .inl (by show o < 0 + q * 32; omega))
theorem rng_below {B B0 r n : Nat} {a b : World} {tv : Value} {ts : List Sc.Id} (h : Rng a B0 r tv n ts) (hb : Below B a b) (hr : r < B) (ht : ∀ k, tv.ownBlock = some k → k < B) : Rng b B0 r tv n ts := by
  have hC : Ch (fun k => B ≤ k) a b := ⟨hb.os, hb.tape, hb.output, hb.size, fun k _ hn => hb.block k (by omega)⟩
  exact Rng.ch h hC (by omega) (fun k hk h' => by have := ht k hk; omega)
def taφ (B q c : Nat) (A : Option Addr) (l : List Sc.Id) (x y : Sc.Id) (ra rb r0 : Nat) (i : Nat) (v : Value) (w : World) : Prop := match i with
  | 0 => v = .pointer (some ⟨ra, 0, none⟩)
  | 1 => v = idv (root nd e0 (l ++ [x]))
  | 2 => ∃ b, v = .slice (some ⟨b, 0, none⟩) 0 0 ∧ Ow B w 32 (.slice (some ⟨b, 0, none⟩) 0 0) 0 []
  | 3 => v = .slice A q c
  | 4 => ∃ b c', v = .slice (some ⟨b, 0, none⟩) q c' ∧ Ow B w 32 (.slice (some ⟨b, 0, none⟩) q c') q (idCells l) ∧ (q = 0 → c' = 0)
  | 5 => v = idv x
  | 6 => ∃ b, v = .slice (some ⟨b, 0, none⟩) 1 1 ∧ B ≤ b ∧ w.rangeAt b 0 (x.l.map bv)
  | 7 => RdI (fun b => b < w.heap.size) w v (l ++ [x])
  | 8 => v = idv (root nd e0 (l ++ [x]))
  | 9 => v = .bool true
  | 10 => v = .bool true
  | 11 => v = .pointer (some ⟨rb, 0, none⟩)
  | 12 => v = idv (root nd e0 (l ++ [y]))
  | 13 => ∃ b, v = .slice (some ⟨b, 0, none⟩) 0 0 ∧ Ow B w 32 (.slice (some ⟨b, 0, none⟩) 0 0) 0 []
  | 14 => v = .slice A q c
  | 15 => ∃ b c', v = .slice (some ⟨b, 0, none⟩) q c' ∧ Ow B w 32 (.slice (some ⟨b, 0, none⟩) q c') q (idCells l) ∧ (q = 0 → c' = 0)
  | 16 => v = idv y
  | 17 => ∃ b, v = .slice (some ⟨b, 0, none⟩) 1 1 ∧ B ≤ b ∧ w.rangeAt b 0 (y.l.map bv)
  | 18 => RdI (fun b => b < w.heap.size) w v (l ++ [y])
  | 19 => v = idv (root nd e0 (l ++ [y]))
  | 20 => v = .bool true
  | 21 => v = .bool true
  | 22 => v = .bool true
  | 23 => v = .pointer (some ⟨r0, 0, none⟩)
  | 24 => v = idv (root nd e0 l)
  | 25 => v = .slice A q c
  | 26 => v = idv (root nd e0 l)
  | 27 => v = .bool true
  | 28 => v = .bool true
  | _ => True

theorem ta_st (B q c : Nat) (A : Option Addr) (l : List Sc.Id) (x y : Sc.Id) (ra rb r0 : Nat) : ∀ j i v w w', j ≠ i → (j = 7 → i ≠ 18) → (j = 18 → i ≠ 7) → taφ B q c A l x y ra rb r0 j v w → taR B q i w w' → taφ B q c A l x y ra rb r0 j v w' := by
  intro j i v w w' hji h7 h18 h hg
  match j, hji, h7, h18, h with
  | 0, _, _, _, h => exact h
  | 1, _, _, _, h => exact h
  | 2, _, _, _, h => obtain ⟨b, e, ho⟩ := h; exact ⟨b, e, RI1.ow ho (by omega) (taR_i hg)⟩
  | 3, _, _, _, h => exact h
  | 4, _, _, _, h => obtain ⟨b, c', e, ho, hc⟩ := h; exact ⟨b, c', e, RI1.ow ho (by omega) (taR_i hg), hc⟩
  | 5, _, _, _, h => exact h
  | 6, _, _, _, h => obtain ⟨b, e, hb, hr⟩ := h; exact ⟨b, e, hb, RI1.range hr (taR_i hg)⟩
  | 7, hji, h7, _, h => exact RI.gr h (taR_gr (fun e => hji e.symm) (fun e => h7 rfl e) hg)
  | 8, _, _, _, h => exact h
  | 9, _, _, _, h => exact h
  | 10, _, _, _, h => exact h
  | 11, _, _, _, h => exact h
  | 12, _, _, _, h => exact h
  | 13, _, _, _, h => obtain ⟨b, e, ho⟩ := h; exact ⟨b, e, RI1.ow ho (by omega) (taR_i hg)⟩
  | 14, _, _, _, h => exact h
  | 15, _, _, _, h => obtain ⟨b, c', e, ho, hc⟩ := h; exact ⟨b, c', e, RI1.ow ho (by omega) (taR_i hg), hc⟩
  | 16, _, _, _, h => exact h
  | 17, _, _, _, h => obtain ⟨b, e, hb, hr⟩ := h; exact ⟨b, e, hb, RI1.range hr (taR_i hg)⟩
  | 18, hji, _, h18, h => exact RI.gr h (taR_gr (fun e => h18 rfl e) (fun e => hji e.symm) hg)
  | 19, _, _, _, h => exact h
  | 20, _, _, _, h => exact h
  | 21, _, _, _, h => exact h
  | 22, _, _, _, h => exact h
  | 23, _, _, _, h => exact h
  | 24, _, _, _, h => exact h
  | 25, _, _, _, h => exact h
  | 26, _, _, _, h => exact h
  | 27, _, _, _, h => exact h
  | 28, _, _, _, h => exact h
  | j + 29, _, _, _, h => exact h
end Go.Proofs.Ytgimgddlipbniaa
