import Derived.Test.YtjbnnfphpchneaaRange
import Derived.Test.YtjbnnfphpchneaaConv
/- What a caller of an iterator holds between two yields: its own blocks, as they are after what was yielded. -/
namespace Sc
open Go Go.RowKit

def GI {α : Type} (B : Nat) (w : World) (bs : List α → List (Nat × TypeId × List Value)) (pre : List α) (own : List Nat) (W : World) : Prop :=
  w.grownBy W none ∧ (∀ e ∈ bs pre, Bk W e.1 e.2.1 e.2.2 ∧ e.1 < B) ∧ B ≤ W.heap.size ∧ ∀ r ∈ own, B ≤ r

section
variable {α : Type} {B : Nat} {w : World} {bs : List α → List (Nat × TypeId × List Value)} {pre : List α} {own : List Nat} {W W' : World}
theorem GI.grown (h : GI B w bs pre own W) (hg : W.grownBy W' none) : GI B w bs pre own W' := by
  obtain ⟨h1, h2, h3, h4⟩ := h
  exact ⟨gb_trans h1 hg, fun e he => ⟨(h2 e he).1.grown hg (by simp), (h2 e he).2⟩, Nat.le_trans h3 hg.size, h4⟩
theorem GI.abides (hB : w.heap.size ≤ B) : Sc.Abides (GI B w bs) := by
  refine ⟨fun h hg => h.grown hg, ?_, ?_⟩
  · rintro pre own W o ⟨h1, h2, h3, h4⟩
    refine ⟨gb_alloc h1 o, fun e he => ⟨(h2 e he).1.alloc o, (h2 e he).2⟩, by rw [World.size_alloc]; omega, fun r hr => ?_⟩
    rcases List.mem_cons.1 hr with e | e
    · omega
    · exact h4 r e
  · rintro pre own W W' r ⟨h1, h2, h3, h4⟩ hr hg
    have := h4 r hr
    refine ⟨gb_trans_new h1 hg (by omega), fun e he => ⟨(h2 e he).1.grown hg ?_, (h2 e he).2⟩, Nat.le_trans h3 hg.size, h4⟩
    have := (h2 e he).2
    simp; omega
theorem GI.rec (B' : Nat) (hB : w.heap.size ≤ B') : AbidesRec B' (GI B w bs) := by
  rintro pre own W l o o' ⟨h1, h2, h3, h4⟩ hl ho hr _
  exact ⟨gb_put h1 o' (by omega), fun e he => ⟨(h2 e he).1.put o' ho hr, (h2 e he).2⟩, by simpa using h3, h4⟩
end
theorem false_abides {α : Type} : Sc.Abides (fun (_ : List α) (_ : List Nat) (_ : World) => False) := ⟨fun h _ => h, fun _ h => h, fun h _ _ => h⟩
theorem false_rec {α : Type} (B : Nat) : AbidesRec B (fun (_ : List α) (_ : List Nat) (_ : World) => False) := fun _ h _ _ _ _ => h

/-- With a plain fact on what was yielded. -/
def GIp {α : Type} (p : List α → Prop) (B : Nat) (w : World) (bs : List α → List (Nat × TypeId × List Value)) (pre : List α) (own : List Nat) (W : World) : Prop := p pre ∧ GI B w bs pre own W
theorem GIp.abides {α : Type} {p : List α → Prop} {B : Nat} {w : World} {bs : List α → List (Nat × TypeId × List Value)} (hB : w.heap.size ≤ B) : Sc.Abides (GIp p B w bs) :=
  ⟨fun h hg => ⟨h.1, (GI.abides hB).grown h.2 hg⟩, fun o h => ⟨h.1, (GI.abides hB).made o h.2⟩, fun h hr hg => ⟨h.1, (GI.abides hB).wrote h.2 hr hg⟩⟩
theorem GIp.rec {α : Type} {p : List α → Prop} {B : Nat} {w : World} {bs : List α → List (Nat × TypeId × List Value)} (B' : Nat) (hB : w.heap.size ≤ B') : AbidesRec B' (GIp p B w bs) :=
  fun o' h hl ho hr hr' => ⟨h.1, GI.rec B' hB o' h.2 hl ho hr hr'⟩
end Sc
