import Derived.Test.YtjbnnfphpchneaaOpenInts
import Derived.Test.YtjbnnfphpchneaaTm
/- Arguments opened: a list of structs of three ints. -/
namespace Go.Proofs.Ytjbnnfphpchneaa
open Go.ChangeShapes Go.WideShapes Go.ChangeAt Go.RowKit Sc
section
variable {H : Type} {enc : TypeId × Value → H} {P : Program} {W : World} {spare : Nat → Bool} {held : Bool}
theorem trod_ints3 {t ti : TypeId} {fs : Array Field} {fuel : Nat} {cs : List Value} {x : DataW H × List MemPlace} (ht : P.underlying t = some (.struct fs)) (hi : P.underlying ti = some (.int .i64)) (ct : P.cellsOf t = 3) (ci : P.cellsOf ti = 1)
    (hf : fs.toList.map (fun f => (f.type, f.offset)) = [(ti, 0), (ti, 1), (ti, 2)]) (h : DataW.trod enc P W 0 spare held fuel t cs = some x) : ∃ d : Due, cs = dueC d := by
  obtain ⟨xs, m, _, _, hl, hxl, hx⟩ := DataW.trod_struct ht h
  rw [ct] at hl
  have hfs : ∀ i ti' o, [(ti, 0), (ti, 1), (ti, 2)][i]? = some (ti', o) → ∃ y, DataW.trod enc P W 0 spare held m ti' ((cs.drop o).take (P.cellsOf ti')) = some y := fun i ti' o h => by
    rw [← hf, List.getElem?_map] at h
    cases hq' : fs.toList[i]? with
    | none => rw [hq'] at h; cases h
    | some f =>
      rw [hq'] at h
      have h2 := hx i f (by simpa using hq')
      simp only [Option.map_some, Option.some.injEq, Prod.mk.injEq] at h
      rw [h.1, h.2] at h2
      have hil : i < xs.length := by rw [hxl]; exact (by have := (List.getElem?_eq_some_iff.1 hq').1; simpa using this)
      rw [List.getElem?_eq_getElem hil] at h2
      exact ⟨_, h2⟩
  obtain ⟨y0, g0⟩ := hfs 0 ti 0 rfl
  obtain ⟨y1, g1⟩ := hfs 1 ti 1 rfl
  obtain ⟨y2, g2⟩ := hfs 2 ti 2 rfl
  rw [ci] at g0 g1 g2
  obtain ⟨a, ha, _, _⟩ := DataW.trod_int hi g0
  obtain ⟨b, hb, _, _⟩ := DataW.trod_int hi g1
  obtain ⟨c, hc, _, _⟩ := DataW.trod_int hi g2
  refine ⟨(a, b, c), ?_⟩
  match cs, hl with
  | [u0, u1, u2], _ =>
    simp at ha hb hc
    simp [dueC, ha, hb, hc]
theorem open_ops {t q ti : TypeId} {fs : Array Field} (ht : P.underlying t = some (.slice q)) (hq : P.underlying q = some (.struct fs)) (hi : P.underlying ti = some (.int .i64)) (cq : P.cellsOf q = 3) (ci : P.cellsOf ti = 1)
    (hf : fs.toList.map (fun f => (f.type, f.offset)) = [(ti, 0), (ti, 1), (ti, 2)]) {v : Value} {d : DataW H} {p : List MemPlace}
    (h0 : DataW.Trod enc P W 0 spare held t v d p) (hv : ∃ a len cap, v = .slice a len cap) : ∃ xs : List Due, Rd (fun b => b < W.heap.size) W 3 v xs.length (dueCs xs) := by
  obtain ⟨a0, len, cap, rfl⟩ := hv
  obtain ⟨fuel, hf0⟩ := h0
  rcases Go.Deep.open_slice ht hf0 with ⟨hcs, _⟩ | ⟨a, len', cap', m, n, D, Pl, hcs, _, hl, hm, hmm, _, hx⟩
  · simp [Value.cells] at hcs
    obtain ⟨rfl, rfl, rfl⟩ := hcs
    exact ⟨[], Rd.nil _ _ _⟩
  · simp [Value.cells] at hcs
    obtain ⟨rfl, rfl, rfl⟩ := hcs
    have hml : len ≤ m := by rw [hmm]; split <;> omega
    rw [cq] at hx
    have hr : ∀ i, i < len → ∃ y : Due, W.cells? 0 (a.add (i * 3)) 3 = some (dueC y) := fun i hi' => by
      obtain ⟨cs', h1, h2⟩ := hx i (by omega)
      obtain ⟨y, rfl⟩ := trod_ints3 hq hi cq ci hf h2
      exact ⟨y, h1⟩
    obtain ⟨Y, hY⟩ := Go.Deep.choose_lt hr
    refine ⟨(List.range len).map Y, ?_⟩
    have hc : ∀ i k, i < len → k < 3 → ∀ u, (dueC (Y i))[k]? = some u → W.cell? (a.add (i * 3 + k)) = some u := fun i k hi' hk u hu => by
      have := (World.cells?_some (hY i hi')).2.2 k hk
      rw [Go.Deep.add_add] at this
      rw [this, hu]
    rw [List.length_map, List.length_range]
    refine ⟨_, _, rfl, hl, hm, by rw [dueCs_length, List.length_map, List.length_range], fun hn => ?_⟩
    obtain ⟨b, off, spot⟩ := a
    have h0 := hc 0 0 hn (by omega) _ rfl
    have hspot : spot = none := by simpa [Addr.add] using World.cell?_spot h0
    subst hspot
    rw [Addr.add_mid] at h0
    refine ⟨b, off, rfl, cell_lt' h0, fun j u hu => ?_⟩
    have hjl : j < len * 3 := by have := (List.getElem?_eq_some_iff.1 hu).1; rw [dueCs_length, List.length_map, List.length_range] at this; exact this
    have hi' := dueCs_at ((List.range len).map Y) (j / 3) (j % 3) (Y (j / 3)) (by simp [show j / 3 < len by omega]) (by omega)
    rw [show j / 3 * 3 + j % 3 = j by omega, hu] at hi'
    have h1 := hc (j / 3) (j % 3) (by omega) (by omega) u hi'.symm
    rw [show j / 3 * 3 + j % 3 = j by omega, Addr.add_mid] at h1
    exact h1
end
end Go.Proofs.Ytjbnnfphpchneaa
