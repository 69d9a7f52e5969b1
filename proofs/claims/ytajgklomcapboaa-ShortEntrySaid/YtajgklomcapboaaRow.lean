import Derived.Test.YtajgklomcapboaaRows
import Derived.WalkKit
import Derived.ProofKit
import Derived.OpenShut
import Derived.Carry
import Derived.Test.YtajgklomcapboaaRead
/- A row of the form 'true; the input reads as it did', from a walk that only makes new blocks. -/
namespace Go.Proofs.Ytajgklomcapboaa
open Go.ChangeShapes Go.WideShapes Go.ChangeAt Go.RowKit

theorem ownk : ownKnob Try.prog.godebug = none := by kernel_rfl
theorem laidOut : laidOutB Try.prog = true := by kernel_rfl

theorem trodAll_below {H : Type} {enc : TypeId × Value → H} {W W' : World} (hb : Below W.heap.size W W') : ∀ {ts : List TypeId} {vs : List Value} {ds : List (DataW H)} {ps : List MemPlace},
    (∀ t ∈ ts, Try.prog.readableRec t = true ∧ t < Try.prog.types.size) → DataW.TrodAll enc Try.prog W 0 (fun _ => true) true ts vs ds ps → (∀ x ∈ ps, x.block < W.heap.size) →
    DataW.TrodAll enc Try.prog W' 0 (fun b => decide (b < W.heap.size)) true ts vs ds ps
  | [], [], [], _, _, h, _ => h
  | t :: ts, v :: vs, d :: ds, ps, ht, ⟨p, q, h1, h2, e⟩, hl =>
    ⟨p, q, Below.trod laidOut (ht t (List.mem_cons.2 (.inl rfl))).1 (ht t (List.mem_cons.2 (.inl rfl))).2 h1 hb (fun x hx => hl x (by rw [e]; exact List.mem_append_left _ hx)),
      trodAll_below hb (fun t' h' => ht t' (List.mem_cons.2 (.inr h'))) h2 (fun x hx => hl x (by rw [e]; exact List.mem_append_right _ hx)), e⟩

/-- THE POST OF SUCH A ROW. -/
theorem post_true {H : Type} {enc : TypeId × Value → H} {f : Func} {s : ChangeSpec} {fresh : Bool} {W W' : World} {args : Array Value} {ds gs : List (DataW H)} {before : List MemPlace} {v : Value}
    (hW : DataW.Whole enc Try.prog f.params.toList s.vars false W args.toList ds gs before) (hs : s.vars = []) (hf : s.fn H ds = { results := [.lit (.bool true)], args := ds })
    (hr : f.resultTypes = #[4]) (hread : ∀ t ∈ f.params.toList, Try.prog.readableRec t = true ∧ t < Try.prog.types.size) (hv : v = .bool true) (hg : W.grownBy W' none) :
    s.post enc Try.prog f false fresh false false W args v W' := by
  subst hv
  have hW0 := hW
  obtain ⟨p, q, hA, hV, hps, hz, hn⟩ := hW
  rw [hs] at hV
  have ⟨hgs, hq⟩ : gs = [] ∧ q = [] := by cases gs <;> simp_all [DataW.TrodVars]
  subst hgs hq
  have hb : Below W.heap.size W W' := Below.grown (Below.refl _ _) hg (Nat.le_refl _) (by simp)
  have hlt : ∀ x ∈ p, x.block < W.heap.size := fun x hx => hW0.lt x (by rw [hps]; simpa using hx)
  refine ⟨ds, [], before, [], p, [], hW0, ?_, ?_, ?_, Below.frame hb _, fun h => by cases h⟩
  · rw [List.append_nil, hf, hr]
    exact trodAll_cons_mk (shut_bool Try.underlying4 _) trodAll_mk0
  · rw [List.append_nil, hf]
    exact trodAll_below hb hread hA hlt
  · rw [hs, List.append_nil, hf]; rfl

theorem bv_int {z : Int} (h : 0 ≤ z ∧ z < 256) : Sc.bv (UInt8.ofNat z.toNat) = .int .u8 z := by
  unfold Sc.bv
  rw [UInt8.toNat_ofNat', Nat.mod_eq_of_lt (by omega)]
  congr 1; omega
theorem u8_wf {x : Int} (h : (Lit.int .u8 x).wf = true) : 0 ≤ x ∧ x < 256 := by
  have h1 : IntKind.u8.min = 0 := rfl
  have h2 : IntKind.u8.max = 255 := rfl
  simp only [Lit.wf, Bool.and_eq_true, decide_eq_true_eq] at h
  omega
/-- An argument of bytes, opened. -/
theorem open_bytes {H : Type} {enc : TypeId × Value → H} {P : Program} {t e : TypeId} (ht : P.underlying t = some (.slice e)) (he : P.underlying e = some (.int .u8)) (hc : P.cellsOf e = 1) {W : World} {v : Value} {d : DataW H} {p : List MemPlace} {spare : Nat → Bool} {held : Bool}
    (h0 : DataW.Trod enc P W 0 spare held t v d p) (hv : ∃ a len cap, v = .slice a len cap) (hlt : ∀ x ∈ p, x.block < W.heap.size) : ∃ l, Sc.RdB (fun b => b < W.heap.size) W v l := by
  obtain ⟨a0, len, cap, rfl⟩ := hv
  obtain ⟨fuel, hf⟩ := h0
  rcases open_ints ht he hc hf with ⟨hcs, hx⟩ | ⟨a, len', cap', zs, hcs, _, hl, hm, hz, hx, hcell, hwz⟩
  · simp [Value.cells] at hcs
    obtain ⟨rfl, rfl, rfl⟩ := hcs
    exact ⟨[], Sc.Rd.nil _ _ _⟩
  · simp [Value.cells] at hcs
    obtain ⟨rfl, rfl, rfl⟩ := hcs
    simp only [Prod.mk.injEq] at hx
    obtain ⟨rfl, rfl⟩ := hx
    have hzl : len ≤ zs.length := by rw [hz]; split <;> omega
    refine ⟨(zs.take len).map fun z => UInt8.ofNat z.toNat, ?_⟩
    have hll : ((zs.take len).map fun z => UInt8.ofNat z.toNat).length = len := by simp; omega
    unfold Sc.RdB
    rw [hll]
    refine ⟨_, _, rfl, hl, hm, by rw [List.length_map, hll, Nat.mul_one], fun hn => ?_⟩
    obtain ⟨b, off, spot⟩ := a
    have hspot : spot = none := by simpa [Addr.add] using World.cell?_spot (hcell 0 (by omega))
    subst hspot
    have hb : b < W.heap.size := hlt (.cell b off) (MemPlace.mem_row.2 ⟨0, by omega, by simp⟩)
    refine ⟨b, off, rfl, hb, fun j u hu => ?_⟩
    have hj : j < len := by have := (List.getElem?_eq_some_iff.1 hu).1; rw [List.length_map, hll] at this; exact this
    have h1 := hcell j (by omega)
    rw [Addr.add_mid] at h1
    rw [h1]
    rw [List.getElem?_map, List.getElem?_map, List.getElem?_take_of_lt hj, List.getElem?_eq_getElem (by omega)] at hu
    simp only [Option.map_some, Option.some.injEq] at hu
    have hzb := u8_wf (hwz (zs[j]'(by omega)) (List.getElem_mem _))
    rw [bv_int hzb] at hu
    rw [← hu, List.getD_eq_getElem?_getD, List.getElem?_eq_getElem (by omega)]; rfl
end Go.Proofs.Ytajgklomcapboaa
