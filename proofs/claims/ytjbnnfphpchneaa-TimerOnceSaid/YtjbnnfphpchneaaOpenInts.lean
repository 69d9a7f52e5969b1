import Derived.Test.YtjbnnfphpchneaaRow
import Derived.Deep.Slices
/- Arguments opened: a list of ints. -/
namespace Go.Proofs.Ytjbnnfphpchneaa
open Go.ChangeShapes Go.WideShapes Go.ChangeAt Go.RowKit Sc
theorem cell_lt' {w : World} {b o : Nat} {u : Value} (h : w.cell? ⟨b, o, none⟩ = some u) : b < w.heap.size := by
  unfold World.cell? at h
  split at h
  · rename_i c t f hc
    exact (Array.getElem?_eq_some_iff.1 hc).1
  · cases h
section
variable {H : Type} {enc : TypeId × Value → H} {P : Program} {W : World} {spare : Nat → Bool} {held : Bool}
theorem open_ints {t e : TypeId} (ht : P.underlying t = some (.slice e)) (he : P.underlying e = some (.int .i64)) (hc : P.cellsOf e = 1) {v : Value} {d : DataW H} {p : List MemPlace}
    (h0 : DataW.Trod enc P W 0 spare held t v d p) (hv : ∃ a len cap, v = .slice a len cap) : ∃ l : List Int, Rd (fun b => b < W.heap.size) W 1 v l.length (l.map fun x => .int .i64 x) := by
  obtain ⟨a0, len, cap, rfl⟩ := hv
  obtain ⟨fuel, hf⟩ := h0
  rcases Go.Deep.open_slice1 ht hc hf with ⟨hcs, _⟩ | ⟨a, len', cap', m, n, V, D, Pl, hcs, _, hl, hm, hmm, _, hx⟩
  · simp [Value.cells] at hcs
    obtain ⟨rfl, rfl, rfl⟩ := hcs
    exact ⟨[], Rd.nil _ _ _⟩
  · simp [Value.cells] at hcs
    obtain ⟨rfl, rfl, rfl⟩ := hcs
    have hml : len ≤ m := by rw [hmm]; split <;> omega
    have hv : ∀ i, i < len → ∃ z : Int, V i = .int .i64 z := fun i hi => by
      obtain ⟨_, h2⟩ := hx i (by omega)
      obtain ⟨z, hz, _, hw⟩ := DataW.trod_int he h2
      exact ⟨z, by simpa using hz⟩
    obtain ⟨Z, hZ⟩ := Go.Deep.choose_lt hv
    refine ⟨(List.range len).map Z, ?_⟩
    rw [List.length_map, List.length_range]
    refine ⟨_, _, rfl, hl, hm, by simp, fun hn => ?_⟩
    obtain ⟨b, off, spot⟩ := a
    have hspot : spot = none := by simpa [Addr.add] using World.cell?_spot (hx 0 (by omega)).1
    subst hspot
    have h0 := (hx 0 (by omega)).1
    rw [Addr.add_mid] at h0
    refine ⟨b, off, rfl, cell_lt' h0, fun j u hu => ?_⟩
    have hj : j < len := by have := (List.getElem?_eq_some_iff.1 hu).1; simpa using this
    have h1 := (hx j (by omega)).1
    rw [Addr.add_mid] at h1
    rw [h1, hZ j hj]
    simp [hj] at hu
    rw [hu]
end
end Go.Proofs.Ytjbnnfphpchneaa
