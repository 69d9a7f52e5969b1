import Derived.Test.YtgimgddlipbniaaRows
import Derived.WalkKit
import Derived.ProofKit
import Derived.OpenShut
import Derived.Carry
import Derived.Test.YtgimgddlipbniaaMem
/- A row of the form 'true; the input reads as it did', from a walk that only makes new blocks. -/
namespace Go.Proofs.Ytgimgddlipbniaa
open Go.ChangeShapes Go.WideShapes Go.ChangeAt Go.RowKit

theorem ownk : ownKnob Try.prog.godebug = none := by kernel_rfl
theorem laidOut : laidOutB Try.prog = true := by kernel_rfl

theorem trodAll_below {H : Type} {enc : TypeId × Value → H} {W W' : World} (hb : Below W.heap.size W W') : ∀ {ts : List TypeId} {vs : List Value} {ds : List (DataW H)} {ps : List MemPlace},
    (∀ t ∈ ts, Try.prog.readableRec t = true ∧ t < Try.prog.types.size) → DataW.TrodAll enc Try.prog W 0 (fun _ => true) true ts vs ds ps → (∀ x ∈ ps, x.block < W.heap.size) →
    DataW.TrodAll enc Try.prog W' 0 (fun b => decide (b < W.heap.size)) true ts vs ds ps
  | [], [], [], _, _, h, _ => h
  | t :: ts, v :: vs, d :: ds, ps, ht, ⟨p, q, h1, h2, e⟩, hl =>
    ⟨p, q, Below.trod laidOut (ht t (List.mem_cons.2 (.inl rfl))).1 (ht t (List.mem_cons.2 (.inl rfl))).2 h1 hb (fun x hx => hl x (by rw [e]; exact List.mem_append_left _ hx)),
      trodAll_below hb (fun t' h' => ht t' (List.mem_cons.2 (.inr h'))) h2 (fun x hx => hl x (by rw [e]; exact List.mem_append_right _ hx)), e⟩

/-- THE POST OF SUCH A ROW. -/
theorem post_true {H : Type} {enc : TypeId × Value → H} {f : Func} {s : ChangeSpec} {fresh : Bool} {W W' : World} {args : Array Value} {ds gs : List (DataW H)} {before : List MemPlace} {v : Value}
    (hW : DataW.Whole enc Try.prog f.params.toList s.vars false W args.toList ds gs before) (hs : s.vars = []) (hf : s.fn H ds = { results := [.lit (.bool true)], args := ds })
    (hr : f.resultTypes = #[4]) (hread : ∀ t ∈ f.params.toList, Try.prog.readableRec t = true ∧ t < Try.prog.types.size) (hv : v = .bool true) (hg : W.grownBy W' none) :
    s.post enc Try.prog f false fresh false false W args v W' := by
  subst hv
  have hW0 := hW
  obtain ⟨p, q, hA, hV, hps, hz, hn⟩ := hW
  rw [hs] at hV
  have ⟨hgs, hq⟩ : gs = [] ∧ q = [] := by cases gs <;> simp_all [DataW.TrodVars]
  subst hgs hq
  have hb : Below W.heap.size W W' := Below.grown (Below.refl _ _) hg (Nat.le_refl _) (by simp)
  have hlt : ∀ x ∈ p, x.block < W.heap.size := fun x hx => hW0.lt x (by rw [hps]; simpa using hx)
  refine ⟨ds, [], before, [], p, [], hW0, ?_, ?_, ?_, Below.frame hb _, fun h => by cases h⟩
  · rw [List.append_nil, hf, hr]
    exact trodAll_cons_mk (shut_bool Try.underlying4 _) trodAll_mk0
  · rw [List.append_nil, hf]
    exact trodAll_below hb hread hA hlt
  · rw [hs, List.append_nil, hf]; rfl
end Go.Proofs.Ytgimgddlipbniaa
