import Derived.Test.YtajgklomcapboaaRead
import Derived.Maps.RangeWalk
/- Conversions of slices and strings of bytes, as one step. -/
namespace Sc
open Go Go.RowKit

theorem freeze_cell (w : World) (p : Addr) (n b o : Nat) : (w.freeze p n).cell? ⟨b, o, none⟩ = w.cell? ⟨b, o, none⟩ := by
  unfold World.freeze
  split
  · rfl
  · unfold World.cell?
    simp only [Array.getElem?_modify]
    by_cases e : p.block = b
    · rw [if_pos e]
      cases h : w.heap[b]? with
      | none => rfl
      | some ob => cases ob <;> rfl
    · rw [if_neg e]
theorem freeze_grown (w : World) (p : Addr) (n : Nat) : w.grownBy (w.freeze p n) (some p.block) := by
  unfold World.freeze
  split
  · exact gb_refl w _
  · refine ⟨rfl, rfl, rfl, by simp, fun k _ hne => ?_⟩
    simp only [Array.getElem?_modify]
    rw [if_neg (fun e => hne (by rw [e]))]
theorem freeze_size (w : World) (p : Addr) (n : Nat) : (w.freeze p n).heap.size = w.heap.size := by
  unfold World.freeze; split <;> simp

theorem Rd.mk' {NB : Nat → Prop} {w : World} {k b o n c : Nat} {cs : List Value} (h : w.rangeAt b o cs) (hb : NB b) (hn : n ≤ c) (hc : c ≤ maxLen) (hl : cs.length = n * k) : Rd NB w k (.slice (some ⟨b, o, none⟩) n c) n cs :=
  ⟨_, c, rfl, hn, hc, hl, fun _ => ⟨b, o, rfl, hb, h⟩⟩
theorem rangeAt_same {w w' : World} {b o : Nat} {cs : List Value} (h : w.rangeAt b o cs) (hc : ∀ b o, w'.cell? ⟨b, o, none⟩ = w.cell? ⟨b, o, none⟩) : w'.rangeAt b o cs := fun j v hv => (hc _ _).trans (h j v hv)
theorem rangeAt_grown {w w' : World} {row : Option Nat} {b o : Nat} {cs : List Value} (h : w.rangeAt b o cs) (hg : w.grownBy w' row) (hr : row ≠ some b) : w'.rangeAt b o cs := fun j v hv => cell_grown hg (h j v hv) hr
theorem rangeAt_new (w : World) (t : TypeId) (cs : List Value) : (w.alloc (.cells cs.toArray t)).rangeAt w.heap.size 0 cs := (Bk.new w t cs).range

section
variable {P : Program} {w : World} {ops : Array Oper} {rest : List Oper} {a : Act} {Q : Exit → Act → World → Prop} {dst : Option Tmp} {ty : TypeId} {pos : String} {aft : Array Edge}

/-- '[]byte("..")' of a constant: the new slice is marked. -/
theorem wpList_conv_mark {t e : TypeId} {x : Operand} (hu : P.underlying t = some (.slice e)) (he : P.underlying e = some (.int .u8)) (b o n c : Nat) (hx : a.eval x = .slice (some ⟨b, o, none⟩) n c)
    (h : ∀ w', (∀ b o, w'.cell? ⟨b, o, none⟩ = w.cell? ⟨b, o, none⟩) → w.grownBy w' (some b) → w'.heap.size = w.heap.size → wpList P ops Q rest (a.put dst (.slice (some ⟨b, o, none⟩) n c)) w') :
    wpList P ops Q (⟨dst, .convert t t x, ty, pos, aft, none⟩ :: rest) a w := by
  have key : ∃ w', (execOp a.eval ⟨dst, .convert t t x, ty, pos, aft, none⟩).run P w = .ok (.value (.slice (some ⟨b, o, none⟩) n c)) w' ∧ (∀ b o, w'.cell? ⟨b, o, none⟩ = w.cell? ⟨b, o, none⟩) ∧ w.grownBy w' (some b) ∧ w'.heap.size = w.heap.size := by
    simp only [execOp, hx, convert, Sem.run_bind, run_underlying hu w, Result.andThen_ok, run_underlying he w, beq_self_eq_true, markStringish]
    simp only [shape, Sem.run, Sem.run_pure, Result.andThen_ok]
    cases hs : w.shape? b with
    | none => exact ⟨w, by simp, fun _ _ => rfl, gb_refl w _, rfl⟩
    | some p =>
      obtain ⟨e', m⟩ := p
      exact ⟨w.freeze ⟨b, m, none⟩ 1, by simp, fun b' o' => freeze_cell w _ _ b' o', freeze_grown w ⟨b, m, none⟩ 1, freeze_size w _ _⟩
  obtain ⟨w', hr, h1, h2, h3⟩ := key
  exact wpList_run rfl hr (h w' h1 h2 h3)
end

theorem Rd.alloc {NB : Nat → Prop} {w : World} {k n : Nat} {v : Value} {cs : List Value} (h : Rd NB w k v n cs) (o : Obj) : Rd NB (w.alloc o) k v n cs := h.grown (World.grownBy_alloc w o none) (by simp)
theorem RdBB.built {NB NB' : Nat → Prop} {w : World} (ls : List (List UInt8)) (vs : List Value) (t : TypeId) (n : Nat) (hn : n = ls.length) (hm : n ≤ maxLen) (hl : vs.length = ls.length)
    (h : ∀ (j : Nat) l, ls[j]? = some l → ∃ u, vs[j]? = some u ∧ RdB NB w u l) (h1 : ∀ b, NB b → NB' b) (h2 : NB' w.heap.size) :
    RdBB NB' (w.alloc (.cells vs.toArray t)) (.slice (some ⟨w.heap.size, 0, none⟩) n n) ls := by
  subst hn
  refine ⟨vs, Rd.mk' (rangeAt_new w t vs) h2 (Nat.le_refl _) hm (by simp [hl]), fun j l hj => ?_⟩
  obtain ⟨u, hu, hr⟩ := h j l hj
  exact ⟨u, hu, Rd.mono (Rd.alloc hr _) h1⟩
theorem RdBB.built1 {NB NB' : Nat → Prop} {w : World} {l : List UInt8} {v : Value} (t : TypeId) (h : RdB NB w v l) (h1 : ∀ b, NB b → NB' b) (h2 : NB' w.heap.size) :
    RdBB NB' (w.alloc (.cells #[v] t)) (.slice (some ⟨w.heap.size, 0, none⟩) 1 1) [l] :=
  RdBB.built [l] [v] t 1 rfl (by decide) rfl (fun j l' hj => by
    match j, hj with
    | 0, hj => cases hj; exact ⟨v, rfl, h⟩
    | j + 1, hj => simp at hj) h1 h2
theorem RdBB.built2 {NB NB' : Nat → Prop} {w : World} {l k : List UInt8} {v u : Value} (t : TypeId) (h : RdB NB w v l) (h' : RdB NB w u k) (h1 : ∀ b, NB b → NB' b) (h2 : NB' w.heap.size) :
    RdBB NB' (w.alloc (.cells #[v, u] t)) (.slice (some ⟨w.heap.size, 0, none⟩) 2 2) [l, k] :=
  RdBB.built [l, k] [v, u] t 2 rfl (by decide) rfl (fun j l' hj => by
    match j, hj with
    | 0, hj => cases hj; exact ⟨v, rfl, h⟩
    | 1, hj => cases hj; exact ⟨u, rfl, h'⟩
    | j + 2, hj => simp at hj) h1 h2
theorem RdBB.alloc {NB : Nat → Prop} {w : World} {v : Value} {l : List (List UInt8)} (h : RdBB NB w v l) (o : Obj) : RdBB NB (w.alloc o) v l := h.grown (World.grownBy_alloc w o none) (by simp)
/-- Bytes that were made. -/
theorem RdB.new (w : World) (t : TypeId) (l : List UInt8) (NB : Nat → Prop) (n : Nat) (hn : n = l.length) (hm : n ≤ maxLen) (h : NB w.heap.size) : RdB NB (w.alloc (.cells (l.map bv).toArray t)) (.slice (some ⟨w.heap.size, 0, none⟩) n n) l := by
  subst hn; exact Rd.mk' (rangeAt_new w t _) h (Nat.le_refl _) hm (by simp)

theorem madeCells_bytes (m : Nat) : madeCells (bv 0).cells m = (List.replicate m (bv 0)).toArray := by
  apply Array.ext'
  simp only [madeCells, Value.cells, bv, Array.toList_map]
  apply List.ext_getElem <;> simp [Nat.mod_one]
theorem run_make_bytes {P : Program} {t e : TypeId} (ht : P.underlying t = some (.slice e)) (hi : ((P.info? e).map fun i => (i.zero, i.size, i.bytes)) = some (some (bv 0), 1, 1)) (m : Nat) (hm : m ≤ 1099511627776) (w : World) :
    (Instr.makeSlice t (.int .i64 (m : Int)) (.int .i64 (m : Int))).run P w = .ok (.slice (some ⟨w.heap.size, 0, none⟩) m m) (w.alloc (.cells (List.replicate m (bv 0)).toArray e)) := by
  cases hq : P.info? e with
  | none => rw [hq] at hi; cases hi
  | some i =>
    rw [hq] at hi
    simp only [Option.map_some, Option.some.injEq, Prod.mk.injEq] at hi
    obtain ⟨h1, h2, h3⟩ := hi
    have := run_make (P := P) w t e i (bv 0) ht hq h1 .i64 .i64 m m (by omega) (by omega) (by rw [h3]; omega) (by omega)
    rw [h2, Nat.mul_one, madeCells_bytes, Int.toNat_natCast] at this
    exact this
section
variable {P : Program} {w : World} {ops : Array Oper} {rest : List Oper} {a : Act} {Q : Exit → Act → World → Prop} {dst : Option Tmp} {ty : TypeId} {pos : String} {aft : Array Edge}
theorem wpList_make_bytes {t e : TypeId} {x y : Operand} (ht : P.underlying t = some (.slice e)) (hi : ((P.info? e).map fun i => (i.zero, i.size, i.bytes)) = some (some (bv 0), 1, 1)) (m : Nat) (hm : m ≤ 1099511627776)
    (hx : a.eval x = .int .i64 (m : Int)) (hy : a.eval y = .int .i64 (m : Int))
    (h : wpList P ops Q rest (a.put dst (.slice (some ⟨w.heap.size, 0, none⟩) m m)) (w.alloc (.cells (List.replicate m (bv 0)).toArray e))) :
    wpList P ops Q (⟨dst, .makeSlice t x y, ty, pos, aft, none⟩ :: rest) a w := by
  refine wpList_run rfl ?_ h
  simp only [execOp, hx, hy, Sem.run_bind, run_make_bytes ht hi m hm, Result.andThen_ok, Sem.run_pure]
end
end Sc
