import Derived.Test.YtajgklomcapboaaRange
/- The same words inside a fence. -/
namespace Sc
open Go Go.RowKit
section
variable {F : Fence} {n : Nat} {P : Program} {w : World} {ops : Array Oper} {rest : List Oper} {a : Act} {Q : Exit → Act → World → Prop} {dst : Option Tmp} {ty : TypeId} {pos : String} {aft : Array Edge}

theorem at_seq_regionIn {k : Nat} {ops : Array Oper} {d : Bool} {c : Code} (h : (Code.seq (.region k ops d) c).wpIn F n P Q a w) : (Code.seq (.region k ops d) c).wpIn F n P Q a w := h

theorem wpListIn_run {o : Oper} {v : Value} {w' : World} (hg : o.guard = none) (hc : ∀ c, o.op ≠ .call c) (hd : ∀ c, o.op ≠ .defer c) (hr : (execOp a.eval o).run P w = .ok (.value v) w')
    (h : wpListIn F n P ops Q rest (a.put o.dst v) w') : wpListIn F n P ops Q (o :: rest) a w := by
  refine wpListIn_plain hg fun K hK => ?_
  unfold Oper.wpIn
  refine ⟨?_, ?_⟩
  · intro f hf
    unfold Oper.about at hf
    split at hf
    · rename_i c hc'; exact absurd hc' (hc c)
    · cases hf
  · rw [Oper.semAt_plain F _ _ (fun c => hd c), hr]
    exact hK _ _ h

/-- The same under a guard that says yes. -/
theorem wpListIn_runG {o : Oper} {v : Value} {w' : World} (hw : Region.wanted o (yielded ops a.tmps) = true) (hc : ∀ c, o.op ≠ .call c) (hd : ∀ c, o.op ≠ .defer c) (hr : (execOp a.eval o).run P w = .ok (.value v) w')
    (h : wpListIn F n P ops Q rest (a.put o.dst v) w') : wpListIn F n P ops Q (o :: rest) a w := by
  refine wpListIn_step fun K hK => ?_
  rw [if_pos hw]
  unfold Oper.wpIn
  refine ⟨?_, ?_⟩
  · intro f hf
    unfold Oper.about at hf
    split at hf
    · rename_i c hc'; exact absurd hc' (hc c)
    · cases hf
  · rw [Oper.semAt_plain F _ _ (fun c => hd c), hr]
    exact hK _ _ h

theorem wpListIn_alloc_row {E : TypeId} (l : List Value) (hz : ((P.info? E).map fun i => (i.zero, i.size)) = some (some (.agg l.toArray), l.length))
    (h : wpListIn F n P ops Q rest (a.put dst (.pointer (some ⟨w.heap.size, 0, none⟩))) (w.alloc (.cells l.toArray E))) :
    wpListIn F n P ops Q (⟨dst, .alloc E, ty, pos, aft, none⟩ :: rest) a w := by
  refine wpListIn_run rfl (by intro c h; cases h) (by intro c h; cases h) ?_ h
  cases hq : P.info? E with
  | none => simp [hq] at hz
  | some i =>
    simp only [hq, Option.map_some, Option.some.injEq, Prod.mk.injEq] at hz
    simp [execOp, Instr.alloc, zeroValue, typeInfo, hq, hz.1, newVar, newRow, newObj, Value.cells]
    rfl

theorem wpListIn_build_row {t : TypeId} {parts : Array (Nat × Operand)} (l : List Value)
    (hb : ∀ w, (Instr.build t (parts.map fun p => (p.1, a.eval p.2))).run P w = .ok (.agg l.toArray) w)
    (h : wpListIn F n P ops Q rest (a.put dst (.agg l.toArray)) w) :
    wpListIn F n P ops Q (⟨dst, .build t parts, ty, pos, aft, none⟩ :: rest) a w := by
  refine wpListIn_run rfl (by intro c h; cases h) (by intro c h; cases h) ?_ h
  simp [execOp, hb]

theorem wpListIn_load_mid {t : TypeId} {x : Operand} (b o : Nat) (cs : List Value) (d : TypeDesc) (hc : w.rangeAt b o cs) (hx : a.eval x = .pointer (some ⟨b, o, none⟩))
    (hu : P.underlying t = some d) (hd : d.isRow = true) (hi : (P.info? t).map (·.size) = some cs.length)
    (h : wpListIn F n P ops Q rest (a.put dst (.agg cs.toArray)) w) : wpListIn F n P ops Q (⟨dst, .load t x, ty, pos, aft, none⟩ :: rest) a w := by
  refine wpListIn_run rfl (by intro c h; cases h) (by intro c h; cases h) ?_ h
  simp only [execOp, hx, Sem.run_bind, run_loadAt_mid w b o t cs d hc hu hd hi, Result.andThen_ok, Sem.run_pure]

theorem wpListIn_load_bk {x : Operand} {t : TypeId} (b : Nat) (T : TypeId) (l : List Value) (d : TypeDesc) (hb : Bk w b T l) (hx : a.eval x = .pointer (some ⟨b, 0, none⟩))
    (hu : P.underlying t = some d) (hd : d.isRow = true) (hi : (P.info? t).map (·.size) = some l.length)
    (h : wpListIn F n P ops Q rest (a.put dst (.agg l.toArray)) w) : wpListIn F n P ops Q (⟨dst, .load t x, ty, pos, aft, none⟩ :: rest) a w :=
  wpListIn_load_mid b 0 l d hb.range hx hu hd hi h

theorem wpListIn_load_bkG {x : Operand} {t : TypeId} {gd : Nat × Bool} (b : Nat) (T : TypeId) (l : List Value) (d : TypeDesc) (hb : Bk w b T l) (hx : a.eval x = .pointer (some ⟨b, 0, none⟩))
    (hu : P.underlying t = some d) (hd : d.isRow = true) (hi : (P.info? t).map (·.size) = some l.length) (hw : Region.wanted ⟨dst, .load t x, ty, pos, aft, some gd⟩ (yielded ops a.tmps) = true)
    (h : wpListIn F n P ops Q rest (a.put dst (.agg l.toArray)) w) : wpListIn F n P ops Q (⟨dst, .load t x, ty, pos, aft, some gd⟩ :: rest) a w := by
  refine wpListIn_runG hw (by intro c h; cases h) (by intro c h; cases h) ?_ h
  simp only [execOp, hx, Sem.run_bind, run_loadAt_mid w b 0 t l d hb.range hu hd hi, Result.andThen_ok, Sem.run_pure]

theorem wpListIn_store_bk {x y : Operand} {t : TypeId} (b : Nat) (T : TypeId) (old l : List Value) (hb : Bk w b T old) (hx : a.eval x = .pointer (some ⟨b, 0, none⟩)) (hy : a.eval y = .agg l.toArray)
    (hi : (P.info? t).map (·.size) = some l.length) (hl : old.length = l.length) (h1 : ∀ v ∈ l, v.oneCell' = true)
    (h : ∀ w', Bk w' b T l → w.grownBy w' (some b) → w'.heap.size = w.heap.size → wpListIn F n P ops Q rest (a.put dst undef) w') :
    wpListIn F n P ops Q (⟨dst, .store t x y, ty, pos, aft, none⟩ :: rest) a w := by
  have hr := run_storeVar_row (P := P) w b T t old.toArray l.toArray hb (by simpa using hi) (by simpa using hl) (all_oneCell_toArray h1)
  refine wpListIn_plain rfl fun K hK => ?_
  unfold Oper.wpIn
  refine ⟨by intro f hf; simp [Oper.about] at hf, ?_⟩
  rw [Oper.semAt_plain F _ _ (by intro c hc; cases hc)]
  unfold execOp
  simp only [hx, hy, Instr.storeAt, Instr.sureAddr, Sem.run_bind, Sem.run_pure, Result.andThen_ok, hr]
  refine hK _ _ (h _ ?_ ?_ ?_)
  · exact setRow_heap w b old.toArray l.toArray T (0, 0) hb
  · refine ⟨rfl, rfl, rfl, by simp [World.setRow], fun k _ hne => ?_⟩
    simp only [World.setRow, Array.getElem?_modify]
    rw [if_neg (fun e => hne (by rw [e]))]
  · simp [World.setRow]
end
end Sc
