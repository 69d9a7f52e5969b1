import Derived.Test.YtajgklomcapboaaOpen
/- Arguments opened: a way that somebody shows. -/
namespace Go.Proofs.Ytajgklomcapboaa
open Go.ChangeShapes Go.WideShapes Go.ChangeAt Go.RowKit Sc
section
variable {H : Type} {enc : TypeId × Value → H} {P : Program} {W : World} {spare : Nat → Bool} {held : Bool}
theorem trod_ids {t q e : TypeId} {fuel : Nat} {cs : List Value} {x : DataW H × List MemPlace} (ht : P.underlying t = some (.slice q)) (hq : P.underlying q = some (.array 32 e)) (he : P.underlying e = some (.int .u8)) (ce : P.cellsOf e = 1) (cq : P.cellsOf q = 32)
    (h : DataW.trod enc P W 0 spare held fuel t cs = some x) : ∃ v xs, cs = [v] ∧ RdI (fun b => b < W.heap.size) W v xs := by
  have key : ∀ v : Value, (∃ a len cap, v = .slice a len cap) → cs = [v] → ∃ v xs, cs = [v] ∧ RdI (fun b => b < W.heap.size) W v xs := by
    rintro v hv rfl
    have h0 : DataW.Trod enc P W 0 spare held t v x.1 x.2 := ⟨fuel, by
      obtain ⟨a, n, c, rfl⟩ := hv
      simpa [Value.cells] using h⟩
    obtain ⟨xs, hx⟩ := open_ids ht hq he ce cq h0 hv
    exact ⟨v, xs, rfl, hx⟩
  rcases Go.Deep.open_slice ht h with ⟨hcs, _⟩ | ⟨a, len', cap', m, n, D, Pl, hcs, _⟩
  · exact key _ ⟨_, _, _, rfl⟩ hcs
  · exact key _ ⟨_, _, _, rfl⟩ hcs
theorem take_parts {cs : List Value} {a b : Value} {x y : List Value} {s : List Value} (hl : cs.length = 67) (h0 : cs.take 1 = [a]) (h1 : (cs.drop 1).take 1 = [b]) (h2 : (cs.drop 2).take 32 = x) (h3 : (cs.drop 34).take 32 = y) (h4 : (cs.drop 66).take 1 = s) : cs = [a, b] ++ x ++ y ++ s := by
  subst h2 h3 h4
  have e4 : (cs.drop 66).take 1 = cs.drop 66 := List.take_of_length_le (by rw [List.length_drop]; omega)
  rw [e4]
  have e3 : (cs.drop 34).take 32 ++ cs.drop 66 = cs.drop 34 := by
    rw [show cs.drop 66 = (cs.drop 34).drop 32 by rw [List.drop_drop], List.take_append_drop]
  have e2 : (cs.drop 2).take 32 ++ cs.drop 34 = cs.drop 2 := by
    rw [show cs.drop 34 = (cs.drop 2).drop 32 by rw [List.drop_drop], List.take_append_drop]
  have e1 : cs = [a, b] ++ cs.drop 2 := by
    have h5 : cs.take 2 = [a, b] := by
      rw [show (2 : Nat) = 1 + 1 from rfl, List.take_add, h0, h1]; rfl
    rw [← h5, List.take_append_drop]
  rw [List.append_assoc, List.append_assoc, e3, e2]
  exact e1
theorem open_way {t ti q e ts : TypeId} {fs : Array Field} (ht : P.underlying t = some (.struct fs)) (hi : P.underlying ti = some (.int .i64)) (hq : P.underlying q = some (.array 32 e)) (he : P.underlying e = some (.int .u8)) (hs : P.underlying ts = some (.slice q)) (ct : P.cellsOf t = 67) (ci : P.cellsOf ti = 1) (ce : P.cellsOf e = 1) (cq : P.cellsOf q = 32) (cs_ : P.cellsOf ts = 1)
    (hf : fs.toList.map (fun f => (f.type, f.offset)) = [(ti, 0), (ti, 1), (q, 2), (q, 34), (ts, 66)]) {r : Reach} {b0 : Nat} {v : Value} {d : DataW H} {p : List MemPlace}
    (h0 : DataW.Trod enc P W 0 spare held t v d p) (hv : Value.okWide P W r b0 t v) :
    ∃ (a n : Int) (x y : Sc.Id) (pv : Value) (path : List Sc.Id), v = .agg ([Value.int .i64 a, Value.int .i64 n] ++ x.l.map bv ++ y.l.map bv ++ [pv]).toArray ∧ RdI (fun b => b < W.heap.size) W pv path := by
  unfold Value.okWide at hv
  rw [ht] at hv
  obtain ⟨cs, rfl, _, _⟩ := hv
  obtain ⟨fuel, hfu⟩ := h0
  obtain ⟨xs, m, _, _, hl, hxl, hx⟩ := DataW.trod_struct ht hfu
  rw [ct] at hl
  simp only [Value.cells] at hl hx
  have hfs : ∀ i ti' o, [(ti, 0), (ti, 1), (q, 2), (q, 34), (ts, 66)][i]? = some (ti', o) → ∃ y, DataW.trod enc P W 0 spare held m ti' ((cs.toList.drop o).take (P.cellsOf ti')) = some y := fun i ti' o h => by
    rw [← hf, List.getElem?_map] at h
    cases hq' : fs.toList[i]? with
    | none => rw [hq'] at h; cases h
    | some f =>
      rw [hq'] at h
      have h2 := hx i f (by simpa using hq')
      simp only [Option.map_some, Option.some.injEq, Prod.mk.injEq] at h
      rw [h.1, h.2] at h2
      have hil : i < xs.length := by rw [hxl]; exact (by have := (List.getElem?_eq_some_iff.1 hq').1; simpa using this)
      rw [List.getElem?_eq_getElem hil] at h2
      exact ⟨_, h2⟩
  obtain ⟨y0, g0⟩ := hfs 0 ti 0 rfl
  obtain ⟨y1, g1⟩ := hfs 1 ti 1 rfl
  obtain ⟨y2, g2⟩ := hfs 2 q 2 rfl
  obtain ⟨y3, g3⟩ := hfs 3 q 34 rfl
  obtain ⟨y4, g4⟩ := hfs 4 ts 66 rfl
  rw [ci] at g0 g1
  rw [cq] at g2 g3
  rw [cs_] at g4
  obtain ⟨a, ha, _, _⟩ := DataW.trod_int hi g0
  obtain ⟨n, hn, _, _⟩ := DataW.trod_int hi g1
  obtain ⟨x, hx'⟩ := trod_id hq he ce cq g2
  obtain ⟨y, hy'⟩ := trod_id hq he ce cq g3
  obtain ⟨pv, path, hpv, hR⟩ := trod_ids hs hq he ce cq g4
  refine ⟨a, n, x, y, pv, path, ?_, hR⟩
  have := take_parts hl (by simpa using ha) hn hx' hy' hpv
  rw [← this]
end
end Go.Proofs.Ytajgklomcapboaa
