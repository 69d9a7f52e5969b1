import Derived.Test.YtebnkakgepaieaaOpen
import Derived.SizedLaws
/- Arguments opened, with how long their parts are. -/
namespace Go.Proofs.Ytebnkakgepaieaa
open Go.ChangeShapes Go.WideShapes Go.ChangeAt Go.RowKit Sc
section
variable {H : Type} {enc : TypeId × Value → H} {P : Program} {W : World} {spare : Nat → Bool} {held : Bool}
theorem weights_mem_all {e : TypeId} {n : Nat} : ∀ {ds : List (DataW H)} {d : DataW H}, d ∈ ds → n ∈ d.weights P e → n ∈ DataW.weightsAll P e ds
  | d0 :: ds, d, hd, hn => by
    simp only [DataW.weightsAll, List.mem_append]
    rcases List.mem_cons.1 hd with rfl | hd
    · exact Or.inl hn
    · exact Or.inr (weights_mem_all hd hn)
theorem bytes_sized {t e : TypeId} {fuel : Nat} {v : Value} {x : DataW H × List MemPlace} {l : List UInt8} {NB : Nat → Prop} (ht : P.underlying t = some (.slice e)) (hc : P.cellsOf e = 1) (hb : P.bytesOf e = 1)
    (h : DataW.trod enc P W 0 spare held fuel t [v] = some x) (hw : ∀ n ∈ x.1.weights P t, n ≤ reachBytes) (hl : RdB NB W v l) : l.length ≤ reachBytes := by
  obtain ⟨A, c, rfl, -⟩ := Rd.form hl
  rcases Go.Deep.open_slice1 ht hc h with ⟨hcs, _⟩ | ⟨a, len, cap, m, n, V, D, Pl, hcs, _, hl, hm, hmm, rfl, hx⟩
  · injection hcs with h1; injection h1 with _ h2; rw [h2]; exact Nat.zero_le _
  · injection hcs with h1; injection h1 with _ h2
    have := hw _ (by simp only [DataW.weights, ht]; exact List.mem_cons_self ..)
    simp only [List.length_map, List.length_range, hb, Nat.mul_one] at this
    omega
theorem open_bytess_sized {t e q : TypeId} (ht : P.underlying t = some (.slice e)) (he : P.underlying e = some (.slice q)) (hq : P.underlying q = some (.int .u8)) (ce : P.cellsOf e = 1) (cq : P.cellsOf q = 1) (bq : P.bytesOf q = 1) {v : Value} {d : DataW H} {p : List MemPlace}
    (h0 : DataW.Trod enc P W 0 spare held t v d p) (hw : ∀ n ∈ d.weights P t, n ≤ reachBytes) (hv : ∃ a len cap, v = .slice a len cap) : ∃ ls, RdBB (fun b => b < W.heap.size) W v ls ∧ ∀ l ∈ ls, l.length ≤ reachBytes := by
  obtain ⟨a0, len, cap, rfl⟩ := hv
  obtain ⟨fuel, hf⟩ := h0
  rcases Go.Deep.open_slice1 ht ce hf with ⟨hcs, _⟩ | ⟨a, len', cap', m, n, V, D, Pl, hcs, _, hl, hm, hmm, hD, hx⟩
  · simp [Value.cells] at hcs
    obtain ⟨rfl, rfl, rfl⟩ := hcs
    exact ⟨[], ⟨[], Rd.nil _ _ _, fun j l h => by simp at h⟩, by simp⟩
  · simp [Value.cells] at hcs
    obtain ⟨rfl, rfl, rfl⟩ := hcs
    have hml : len ≤ m := by rw [hmm]; split <;> omega
    have hr : ∀ i, i < len → ∃ l, RdB (fun b => b < W.heap.size) W (V i) l ∧ l.length ≤ reachBytes := fun i hi => by
      obtain ⟨l, hl'⟩ := trod_bytes he hq cq (hx i (by omega)).2
      refine ⟨l, hl', bytes_sized he cq bq (hx i (by omega)).2 (fun k hk => hw k ?_) hl'⟩
      have e1 : d = .slice ((List.range len).map D) ((List.range (m - len)).map fun j => D (len + j)) := congrArg Prod.fst hD
      rw [e1]
      simp only [DataW.weights, ht]
      refine List.mem_cons_of_mem _ (List.mem_append_left _ (weights_mem_all (d := D i) ?_ hk))
      exact List.mem_map_of_mem (List.mem_range.2 hi)
    obtain ⟨L, hL⟩ := Go.Deep.choose_lt hr
    refine ⟨(List.range len).map L, ⟨(List.range len).map V, ?_, fun j l hj => ?_⟩, fun l hl' => ?_⟩
    · rw [List.length_map, List.length_range]
      refine ⟨_, _, rfl, hl, hm, by simp, fun hn => ?_⟩
      obtain ⟨b, off, spot⟩ := a
      have hspot : spot = none := by simpa [Addr.add] using World.cell?_spot (hx 0 (by omega)).1
      subst hspot
      have h0 := (hx 0 (by omega)).1
      rw [Addr.add_mid] at h0
      refine ⟨b, off, rfl, cell_lt h0, fun j u hu => ?_⟩
      have hj : j < len := by have := (List.getElem?_eq_some_iff.1 hu).1; simpa using this
      have h1 := (hx j (by omega)).1
      rw [Addr.add_mid] at h1
      rw [h1]
      simp [hj] at hu
      rw [hu]
    · have hjl : j < len := by have := (List.getElem?_eq_some_iff.1 hj).1; simpa using this
      simp [hjl] at hj
      exact ⟨V j, by simp [hjl], hj ▸ (hL j hjl).1⟩
    · obtain ⟨i, hi, rfl⟩ := List.mem_map.1 hl'
      exact (hL i (List.mem_range.1 hi)).2
end
end Go.Proofs.Ytebnkakgepaieaa
