import Derived.Test.YtjbnnfphpchneaaRunsT
/- What a caller of an iterator holds between two yields: a world changed in the rows of S alone, and blocks of S with known cells. -/
namespace Sc
open Go Go.RowKit
theorem Ch.put {S : Nat → Prop} {a b : World} {l : Nat} (h : Ch S a b) (o' : Obj) (hl : a.heap.size ≤ l) : Ch S a (b.putObj l o') :=
  h.gb (grownBy_putObj' b l o') (fun r e => .inr (by injection e with e; omega))
def GC {α : Type} (W0 : World) (S : Nat → Prop) (p : List α → Prop) (bs : List α → List (Nat × TypeId × List Value)) (pre : List α) (own : List Nat) (W : World) : Prop :=
  p pre ∧ Ch S W0 W ∧ (∀ e ∈ bs pre, Bk W e.1 e.2.1 e.2.2 ∧ e.1 < W0.heap.size) ∧ ∀ r ∈ own, W0.heap.size ≤ r
section
variable {α : Type} {W0 : World} {S : Nat → Prop} {p : List α → Prop} {bs : List α → List (Nat × TypeId × List Value)} {pre : List α} {own : List Nat} {W W' : World}
theorem GC.abides : Sc.Abides (GC W0 S p bs) := by
  refine ⟨?_, ?_, ?_⟩
  · rintro pre own W W' ⟨h0, h1, h2, h3⟩ hg
    exact ⟨h0, h1.gb hg (fun _ h => by cases h), fun e he => ⟨(h2 e he).1.grown hg (by simp), (h2 e he).2⟩, h3⟩
  · rintro pre own W o ⟨h0, h1, h2, h3⟩
    refine ⟨h0, h1.alloc o, fun e he => ⟨(h2 e he).1.alloc o, (h2 e he).2⟩, fun r hr => ?_⟩
    rcases List.mem_cons.1 hr with e | e
    · rw [e]; exact h1.size
    · exact h3 r e
  · rintro pre own W W' r ⟨h0, h1, h2, h3⟩ hr hg
    have hr' := h3 r hr
    refine ⟨h0, h1.gb hg (fun q e => .inr (by injection e with e; omega)), fun e he => ⟨(h2 e he).1.grown hg ?_, (h2 e he).2⟩, h3⟩
    have := (h2 e he).2
    simp; omega
theorem GC.rec {B : Nat} (hB : B = W0.heap.size) : AbidesRec B (GC W0 S p bs) := by
  subst hB
  rintro pre own W l o o' ⟨h0, h1, h2, h3⟩ hl ho hr _
  exact ⟨h0, h1.put o' hl, fun e he => ⟨(h2 e he).1.put o' ho hr, (h2 e he).2⟩, h3⟩
end
/-- For the way out of a round by a jump. -/
def GX {α : Type} (W0 : World) (S : Nat → Prop) (p : Code → List α → Prop) (bs : Code → List α → List (Nat × TypeId × List Value)) (c : Code) (pre : List α) (own : List Nat) (W : World) : Prop := GC W0 S (p c) (bs c) pre own W
end Sc
namespace Go.Proofs.Ytjbnnfphpchneaa
open Go.RowKit Go.Shelf Sc
theorem results_scalar {f : Func} {t : Nat} {ty : TypeId} (d : TypeDesc) (hf : f.results = #[.cell t ty]) (tmps : Array Value) (w : World) (b : Nat) (v : Value) (ht : tmps.getD t undef = .pointer (some ⟨b, 0, none⟩)) (hc : w.cell? ⟨b, 0, none⟩ = some v)
    (hu : Try.prog.underlying ty = some d) (hd : (match d with | .struct _ | .array _ _ => true | _ => false) = false) : (results f tmps).run Try.prog w = .ok v w := by
  have ht' : tmps[t]?.getD undef = .pointer (some ⟨b, 0, none⟩) := by simpa using ht
  have hagg : (isAgg ty).run Try.prog w = .ok false w := by
    unfold isAgg
    rw [Sem.run_bind, run_underlying hu w]
    cases d <;> simp_all
  simp [results, hf, ht', asAddr, loadVar, Sem.run_bind, hagg, hc]
end Go.Proofs.Ytjbnnfphpchneaa
