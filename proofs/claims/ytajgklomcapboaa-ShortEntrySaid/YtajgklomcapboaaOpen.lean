import Derived.Test.YtajgklomcapboaaRow
import Derived.Deep.Slices
import Derived.Test.YtajgklomcapboaaApp
/- Arguments opened: lists of bytes' slices, sums, lists of sums. -/
namespace Go.Proofs.Ytajgklomcapboaa
open Go.ChangeShapes Go.WideShapes Go.ChangeAt Go.RowKit Sc

theorem cell_lt {w : World} {b o : Nat} {u : Value} (h : w.cell? ⟨b, o, none⟩ = some u) : b < w.heap.size := by
  unfold World.cell? at h
  split at h
  · rename_i c t f hc
    exact (Array.getElem?_eq_some_iff.1 hc).1
  · cases h

theorem idCells_at (xs : List Sc.Id) (i k : Nat) (hi : i < xs.length) (hk : k < 32) : (idCells xs)[i * 32 + k]? = some (bv ((xs.getD i ⟨List.replicate 32 0, by simp⟩).l.getD k 0)) := by
  induction xs generalizing i with
  | nil => simp at hi
  | cons x xs ih =>
    have hx := x.h
    have e : idCells (x :: xs) = x.l.map bv ++ idCells xs := rfl
    rw [e]
    cases i with
    | zero =>
      rw [Nat.zero_mul, Nat.zero_add, List.getElem?_append_left (by rw [List.length_map, hx]; exact hk), List.getElem?_map, List.getD_cons_zero, List.getD_eq_getElem?_getD, List.getElem?_eq_getElem (by omega)]; rfl
    | succ i =>
      rw [List.getElem?_append_right (by rw [List.length_map, hx]; omega), List.length_map, hx, show (i + 1) * 32 + k - 32 = i * 32 + k by omega, List.getD_cons_succ]
      exact ih i (by simpa using hi)

section
variable {H : Type} {enc : TypeId × Value → H} {P : Program} {W : World} {spare : Nat → Bool} {held : Bool}

theorem trod_bytes {t e : TypeId} {fuel : Nat} {v : Value} {x : DataW H × List MemPlace} (ht : P.underlying t = some (.slice e)) (he : P.underlying e = some (.int .u8)) (hc : P.cellsOf e = 1)
    (h : DataW.trod enc P W 0 spare held fuel t [v] = some x) : ∃ l, RdB (fun b => b < W.heap.size) W v l := by
  rcases Go.Deep.open_slice1 ht hc h with ⟨hcs, _⟩ | ⟨a, len, cap, m, n, V, D, Pl, hcs, _, hl, hm, hmm, _, hx⟩
  · cases hcs; exact ⟨[], Rd.nil _ _ _⟩
  · cases hcs
    have hml : len ≤ m := by rw [hmm]; split <;> omega
    have hv : ∀ i, i < len → ∃ z : UInt8, V i = bv z := fun i hi => by
      obtain ⟨_, h2⟩ := hx i (by omega)
      obtain ⟨z, hz, _, hw⟩ := DataW.trod_int he h2
      have := u8_wf hw
      refine ⟨UInt8.ofNat z.toNat, ?_⟩
      rw [bv_int this]
      simpa using hz
    obtain ⟨Z, hZ⟩ := Go.Deep.choose_lt hv
    refine ⟨(List.range len).map Z, ?_⟩
    unfold RdB
    rw [List.length_map, List.length_range]
    refine ⟨_, _, rfl, hl, hm, by simp, fun hn => ?_⟩
    obtain ⟨b, off, spot⟩ := a
    have hspot : spot = none := by simpa [Addr.add] using World.cell?_spot (hx 0 (by omega)).1
    subst hspot
    have h0 := (hx 0 (by omega)).1
    rw [Addr.add_mid] at h0
    refine ⟨b, off, rfl, cell_lt h0, fun j u hu => ?_⟩
    have hj : j < len := by have := (List.getElem?_eq_some_iff.1 hu).1; simpa using this
    have h1 := (hx j (by omega)).1
    rw [Addr.add_mid] at h1
    rw [h1, hZ j hj]
    simp [hj] at hu
    rw [hu]

theorem open_str {t : TypeId} (ht : P.underlying t = some .string) {r : Reach} {b0 : Nat} {v : Value} {d : DataW H} {p : List MemPlace} (h0 : DataW.Trod enc P W 0 spare held t v d p) (hv : Value.okWide P W r b0 t v) : ∃ l, v = sv l ∧ l.length ≤ maxLen := by
  obtain ⟨s, rfl⟩ := okWide_string ht hv
  obtain ⟨fuel, hf⟩ := h0
  obtain ⟨s', h1, _, h2⟩ := DataW.trod_string ht hf
  simp [Value.cells] at h1
  subst h1
  exact ⟨s.data.toList, by rw [sv, ← sb_of], by rw [Array.length_toList]; exact h2⟩

theorem open_bytess {t e q : TypeId} (ht : P.underlying t = some (.slice e)) (he : P.underlying e = some (.slice q)) (hq : P.underlying q = some (.int .u8)) (ce : P.cellsOf e = 1) (cq : P.cellsOf q = 1) {v : Value} {d : DataW H} {p : List MemPlace}
    (h0 : DataW.Trod enc P W 0 spare held t v d p) (hv : ∃ a len cap, v = .slice a len cap) : ∃ ls, RdBB (fun b => b < W.heap.size) W v ls := by
  obtain ⟨a0, len, cap, rfl⟩ := hv
  obtain ⟨fuel, hf⟩ := h0
  rcases Go.Deep.open_slice1 ht ce hf with ⟨hcs, _⟩ | ⟨a, len', cap', m, n, V, D, Pl, hcs, _, hl, hm, hmm, _, hx⟩
  · simp [Value.cells] at hcs
    obtain ⟨rfl, rfl, rfl⟩ := hcs
    exact ⟨[], [], Rd.nil _ _ _, fun j l h => by simp at h⟩
  · simp [Value.cells] at hcs
    obtain ⟨rfl, rfl, rfl⟩ := hcs
    have hml : len ≤ m := by rw [hmm]; split <;> omega
    have hr : ∀ i, i < len → ∃ l, RdB (fun b => b < W.heap.size) W (V i) l := fun i hi => trod_bytes he hq cq (hx i (by omega)).2
    obtain ⟨L, hL⟩ := Go.Deep.choose_lt hr
    refine ⟨(List.range len).map L, (List.range len).map V, ?_, fun j l hj => ?_⟩
    · rw [List.length_map, List.length_range]
      refine ⟨_, _, rfl, hl, hm, by simp, fun hn => ?_⟩
      obtain ⟨b, off, spot⟩ := a
      have hspot : spot = none := by simpa [Addr.add] using World.cell?_spot (hx 0 (by omega)).1
      subst hspot
      have h0 := (hx 0 (by omega)).1
      rw [Addr.add_mid] at h0
      refine ⟨b, off, rfl, cell_lt h0, fun j u hu => ?_⟩
      have hj : j < len := by have := (List.getElem?_eq_some_iff.1 hu).1; simpa using this
      have h1 := (hx j (by omega)).1
      rw [Addr.add_mid] at h1
      rw [h1]
      simp [hj] at hu
      rw [hu]
    · have hjl : j < len := by have := (List.getElem?_eq_some_iff.1 hj).1; simpa using this
      simp [hjl] at hj
      exact ⟨V j, by simp [hjl], hj ▸ hL j hjl⟩

theorem trod_id {t e : TypeId} {fuel : Nat} {cs : List Value} {x : DataW H × List MemPlace} (ht : P.underlying t = some (.array 32 e)) (he : P.underlying e = some (.int .u8)) (ce : P.cellsOf e = 1) (ct : P.cellsOf t = 32)
    (h : DataW.trod enc P W 0 spare held fuel t cs = some x) : ∃ y : Sc.Id, cs = y.l.map bv := by
  obtain ⟨xs, m, _, _, hl, hxl, hx⟩ := DataW.trod_array ht h
  rw [ct] at hl
  have hv : ∀ i, i < 32 → ∃ z : UInt8, cs[i]? = some (bv z) := fun i hi => by
    have h2 := hx i hi
    rw [ce, Nat.mul_one, List.getElem?_eq_getElem (by omega)] at h2
    obtain ⟨z, hz, _, hw⟩ := DataW.trod_int he h2
    have := u8_wf hw
    refine ⟨UInt8.ofNat z.toNat, ?_⟩
    rw [bv_int this]
    have h3 : ((cs.drop i).take 1)[0]? = some (Value.int .u8 z) := by rw [hz]; rfl
    rw [List.getElem?_take_of_lt (by omega), List.getElem?_drop] at h3
    exact h3
  obtain ⟨Z, hZ⟩ := Go.Deep.choose_lt hv
  refine ⟨⟨(List.range 32).map Z, by simp⟩, ?_⟩
  apply List.ext_getElem?
  intro i
  by_cases hi : i < 32
  · rw [hZ i hi]; simp [hi]
  · rw [List.getElem?_eq_none (by omega), List.getElem?_eq_none (by simp; omega)]

theorem open_id {t e : TypeId} (ht : P.underlying t = some (.array 32 e)) (he : P.underlying e = some (.int .u8)) (ce : P.cellsOf e = 1) (ct : P.cellsOf t = 32) {r : Reach} {b0 : Nat} {v : Value} {d : DataW H} {p : List MemPlace}
    (h0 : DataW.Trod enc P W 0 spare held t v d p) (hv : Value.okWide P W r b0 t v) : ∃ y : Sc.Id, v = idv y := by
  unfold Value.okWide at hv
  rw [ht] at hv
  obtain ⟨cs, rfl, _, _⟩ := hv
  obtain ⟨fuel, hf⟩ := h0
  obtain ⟨y, hy⟩ := trod_id ht he ce ct hf
  refine ⟨y, ?_⟩
  unfold idv
  rw [← hy]; simp [Value.cells]

theorem open_ids2 {t q e : TypeId} (ht : P.underlying t = some (.array 2 q)) (hq : P.underlying q = some (.array 32 e)) (he : P.underlying e = some (.int .u8)) (ce : P.cellsOf e = 1) (cq : P.cellsOf q = 32) (ct : P.cellsOf t = 64) {r : Reach} {b0 : Nat} {v : Value} {d : DataW H} {p : List MemPlace}
    (h0 : DataW.Trod enc P W 0 spare held t v d p) (hv : Value.okWide P W r b0 t v) : ∃ x y : Sc.Id, v = .agg ((x.l ++ y.l).map bv).toArray := by
  unfold Value.okWide at hv
  rw [ht] at hv
  obtain ⟨cs, rfl, _, _⟩ := hv
  obtain ⟨fuel, hf⟩ := h0
  obtain ⟨xs, m, _, _, hl, hxl, hx⟩ := DataW.trod_array ht hf
  rw [ct] at hl
  have a0 := hx 0 (by omega)
  have a1 := hx 1 (by omega)
  rw [cq, List.getElem?_eq_getElem (by omega)] at a0 a1
  obtain ⟨x, hx⟩ := trod_id hq he ce cq a0
  obtain ⟨y, hy⟩ := trod_id hq he ce cq a1
  refine ⟨x, y, ?_⟩
  have : cs.toList = (x.l ++ y.l).map bv := by
    rw [List.map_append, ← hx, ← hy]
    simp only [Value.cells] at hl ⊢
    rw [Nat.zero_mul, List.drop_zero, Nat.one_mul]
    rw [List.take_of_length_le (l := cs.toList.drop 32) (by rw [List.length_drop]; omega), List.take_append_drop]
  rw [← this]

theorem open_ids {t q e : TypeId} (ht : P.underlying t = some (.slice q)) (hq : P.underlying q = some (.array 32 e)) (he : P.underlying e = some (.int .u8)) (ce : P.cellsOf e = 1) (cq : P.cellsOf q = 32) {v : Value} {d : DataW H} {p : List MemPlace}
    (h0 : DataW.Trod enc P W 0 spare held t v d p) (hv : ∃ a len cap, v = .slice a len cap) : ∃ xs, RdI (fun b => b < W.heap.size) W v xs := by
  obtain ⟨a0, len, cap, rfl⟩ := hv
  obtain ⟨fuel, hf⟩ := h0
  rcases Go.Deep.open_slice ht hf with ⟨hcs, _⟩ | ⟨a, len', cap', m, n, D, Pl, hcs, _, hl, hm, hmm, _, hx⟩
  · simp [Value.cells] at hcs
    obtain ⟨rfl, rfl, rfl⟩ := hcs
    exact ⟨[], Rd.nil _ _ _⟩
  · simp [Value.cells] at hcs
    obtain ⟨rfl, rfl, rfl⟩ := hcs
    have hml : len ≤ m := by rw [hmm]; split <;> omega
    rw [cq] at hx
    have hr : ∀ i, i < len → ∃ y : Sc.Id, W.cells? 0 (a.add (i * 32)) 32 = some (y.l.map bv) := fun i hi => by
      obtain ⟨cs', h1, h2⟩ := hx i (by omega)
      obtain ⟨y, rfl⟩ := trod_id hq he ce cq h2
      exact ⟨y, h1⟩
    have : Inhabited Sc.Id := ⟨⟨List.replicate 32 0, by simp⟩⟩
    obtain ⟨Y, hY⟩ := Go.Deep.choose_lt hr
    refine ⟨(List.range len).map Y, ?_⟩
    have hc : ∀ i k, i < len → k < 32 → W.cell? (a.add (i * 32 + k)) = some (bv ((Y i).l.getD k 0)) := fun i k hi hk => by
      have := (World.cells?_some (hY i hi)).2.2 k hk
      rw [Go.Deep.add_add] at this
      rw [this, List.getElem?_map, List.getD_eq_getElem?_getD, List.getElem?_eq_getElem (by rw [(Y i).h]; exact hk)]; rfl
    unfold RdI
    rw [List.length_map, List.length_range]
    refine ⟨_, _, rfl, hl, hm, by rw [idCells_length, List.length_map, List.length_range], fun hn => ?_⟩
    obtain ⟨b, off, spot⟩ := a
    have h0 := hc 0 0 hn (by omega)
    have hspot : spot = none := by simpa [Addr.add] using World.cell?_spot h0
    subst hspot
    rw [Addr.add_mid] at h0
    refine ⟨b, off, rfl, cell_lt h0, fun j u hu => ?_⟩
    have hjl : j < len * 32 := by have := (List.getElem?_eq_some_iff.1 hu).1; rw [idCells_length, List.length_map, List.length_range] at this; exact this
    have h1 := hc (j / 32) (j % 32) (by omega) (by omega)
    rw [show j / 32 * 32 + j % 32 = j by omega, Addr.add_mid] at h1
    rw [h1, ← hu]
    have hi := idCells_at ((List.range len).map Y) (j / 32) (j % 32) (by simp; omega) (by omega)
    rw [show j / 32 * 32 + j % 32 = j by omega] at hi
    rw [hi]
    simp [show j / 32 < len by omega]
end
end Go.Proofs.Ytajgklomcapboaa
