import Derived.WalkKit
import Derived.WalkSpells
import Derived.WalkLawsBesides
import Derived.Handy
import Derived.Deep.MidRow
import Derived.Laws.CopyOwn
import Derived.StillTailTactics
import Derived.Deep.QuietTactic
import Derived.BigQuiet
import Derived.Deep.Cut
import Derived.BigRegion
import Derived.OwnWalkIn
import Derived.TacticsInMore
import Derived.Lib.Hide
/- Words for memory: a block that is known whole; whole arrays made, stored and read as one step. -/
namespace Sc
open Go Go.RowKit

/-- Block b is just these cells, none of them frozen. -/
def Bk (w : World) (b : Nat) (t : TypeId) (l : List Value) : Prop := w.heap[b]? = some (.cells l.toArray t (0, 0))

section
variable {w w' : World} {b : Nat} {t : TypeId} {l : List Value}
theorem Bk.lt (h : Bk w b t l) : b < w.heap.size := (Array.getElem?_eq_some_iff.1 h).1
theorem Bk.cell (h : Bk w b t l) (i : Nat) : w.cell? ⟨b, i, none⟩ = l[i]? := by
  rw [cell_of_row w b i l.toArray t (0, 0) h]; simp
theorem Bk.cellAt (h : Bk w b t l) {i : Nat} {v : Value} (hv : l[i]? = some v) : w.cell? ⟨b, i, none⟩ = some v := (h.cell i).trans hv
theorem Bk.frozen (h : Bk w b t l) (i : Nat) : w.frozen? ⟨b, i, none⟩ = false := by
  unfold Bk at h; simp [World.frozen?, h]
theorem Bk.new (w : World) (t : TypeId) (l : List Value) : Bk (w.alloc (.cells l.toArray t)) w.heap.size t l := heap_alloc_new w _
theorem Bk.drew (h : Bk w b t l) : Bk w.drew b t l := h
theorem Bk.drewN (h : Bk w b t l) (n : Nat) : Bk (w.drewN n) b t l := h
theorem Bk.alloc (h : Bk w b t l) (o : Obj) : Bk (w.alloc o) b t l := (Below.heap_alloc w o b h.lt).trans h
theorem Bk.set (h : Bk w b t l) (i : Nat) (u : Value) : Bk (w.setCell ⟨b, i, none⟩ u) b t (l.set i u) := by
  unfold Bk at h ⊢
  simp [World.setCell, Array.getElem?_modify, h]
theorem Bk.far (h : Bk w b t l) {p : Addr} (hp : b ≠ p.block) (u : Value) : Bk (w.setCell p u) b t l := (Below.heap_setCell w p u b hp).trans h
theorem Bk.below {B : Nat} (h : Bk w b t l) (hb : Below B w w') (hg : b < B) : Bk w' b t l := (hb.block b hg).trans h
theorem Bk.grown {row : Option Nat} (h : Bk w b t l) (hb : w.grownBy w' row) (hg : some b ≠ row) : Bk w' b t l := (hb.block b h.lt hg).trans h
theorem Bk.range (h : Bk w b t l) : w.rangeAt b 0 l := fun j v hv => by rw [Nat.zero_add]; exact h.cellAt hv
end

/-- What stands behind the first statement. -/
def tl : Code → Code
  | .seq _ b => b
  | c => c
def bodyOf (f : Func) : Code := f.body.getD .skip

/-- To meet the code that begins with region n: an arm's guard. -/
theorem at_seq_region {n : Nat} {P : Program} {ops : Array Oper} {d : Bool} {c : Code} {Q : Exit → Act → World → Prop} {a : Act} {w : World}
    (h : (Code.seq (.region n ops d) c).wp P Q a w) : (Code.seq (.region n ops d) c).wp P Q a w := h

theorem at_seq2 {n : Nat} {P : Program} {ops : Array Oper} {d : Bool} {c c2 : Code} {Q : Exit → Act → World → Prop} {a : Act} {w : World}
    (h : (Code.seq (.seq (.region n ops d) c) c2).wp P Q a w) : (Code.seq (.seq (.region n ops d) c) c2).wp P Q a w := h

/-! ### What a step leaves: new blocks, and writes to one row -/
theorem gb_refl (w : World) (row : Option Nat) : w.grownBy w row := World.grownBy.refl w row
theorem gb_trans {a b c : World} {row : Option Nat} (h : a.grownBy b row) (k : b.grownBy c row) : a.grownBy c row :=
  ⟨k.os.trans h.os, k.tape.trans h.tape, k.output.trans h.output, Nat.le_trans h.size k.size, fun i hi hne => (k.block i (Nat.lt_of_lt_of_le hi h.size) hne).trans (h.block i hi hne)⟩
/-- A step that writes a row of its own, made since. -/
theorem gb_trans_new {a b c : World} {row : Option Nat} {r : Nat} (h : a.grownBy b row) (k : b.grownBy c (some r)) (hr : a.heap.size ≤ r) : a.grownBy c row :=
  ⟨k.os.trans h.os, k.tape.trans h.tape, k.output.trans h.output, Nat.le_trans h.size k.size,
    fun i hi hne => (k.block i (Nat.lt_of_lt_of_le hi h.size) (fun e => by cases e; omega)).trans (h.block i hi hne)⟩
theorem gb_none {a b : World} {row : Option Nat} (h : a.grownBy b none) : a.grownBy b row :=
  ⟨h.os, h.tape, h.output, h.size, fun i hi _ => h.block i hi (by simp)⟩
theorem gb_drew {a b : World} {row : Option Nat} (h : a.grownBy b row) : a.grownBy b.drew row := ⟨h.os, h.tape, h.output, h.size, h.block⟩
theorem gb_drewN {a b : World} {row : Option Nat} (h : a.grownBy b row) (n : Nat) : a.grownBy (b.drewN n) row := ⟨h.os, h.tape, h.output, h.size, h.block⟩
theorem gb_alloc {a b : World} {row : Option Nat} (h : a.grownBy b row) (o : Obj) : a.grownBy (b.alloc o) row := gb_trans h (World.grownBy_alloc b o row)
theorem gb_set1 (w : World) (p : Addr) (u : Value) : w.grownBy (w.setCell p u) (some p.block) :=
  ⟨rfl, rfl, rfl, by simp, fun k _ hne => Below.heap_setCell w p u k (fun e => hne (by rw [e]))⟩
theorem gb_set {a b : World} {row : Option Nat} (h : a.grownBy b row) (p : Addr) (u : Value) (hp : row = some p.block) : a.grownBy (b.setCell p u) row := by
  subst hp; exact gb_trans h (gb_set1 b p u)
theorem gb_set_new {a b : World} {row : Option Nat} (h : a.grownBy b row) (p : Addr) (u : Value) (hp : a.heap.size ≤ p.block) : a.grownBy (b.setCell p u) row :=
  gb_trans_new h (gb_set1 b p u) hp
theorem gb_below {a b : World} {row : Option Nat} (h : a.grownBy b row) {B : Nat} (hB : B ≤ a.heap.size) (hr : ∀ k, row = some k → B ≤ k) : Below B a b :=
  (Below.refl B a).grown h hB hr
theorem gb_of_below {a b : World} (h : Below a.heap.size a b) : a.grownBy b none := ⟨h.os, h.tape, h.output, h.size, fun k hk _ => h.block k hk⟩

/-! ### Whole arrays -/
section
variable {P : Program} {w : World} {ops : Array Oper} {rest : List Oper} {a : Act} {Q : Exit → Act → World → Prop} {dst : Option Tmp} {ty : TypeId} {pos : String} {aft : Array Edge}

theorem wpList_run {o : Oper} {v : Value} {w' : World} (hg : o.guard = none) (hr : (execOp a.eval o).run P w = .ok (.value v) w')
    (h : wpList P ops Q rest (a.put o.dst v) w') : wpList P ops Q (o :: rest) a w := by
  refine wpList_plain hg fun K hK => ?_
  unfold Oper.wp
  rw [hr]
  exact hK _ _ h

/-- A new variable of a type whose zero value has the cells l. -/
theorem wpList_alloc_row {E : TypeId} (l : List Value) (hz : ((P.info? E).map fun i => (i.zero, i.size)) = some (some (.agg l.toArray), l.length))
    (h : wpList P ops Q rest (a.put dst (.pointer (some ⟨w.heap.size, 0, none⟩))) (w.alloc (.cells l.toArray E))) :
    wpList P ops Q (⟨dst, .alloc E, ty, pos, aft, none⟩ :: rest) a w := by
  refine wpList_run rfl ?_ h
  cases hq : P.info? E with
  | none => simp [hq] at hz
  | some i =>
    simp only [hq, Option.map_some, Option.some.injEq, Prod.mk.injEq] at hz
    simp [execOp, Instr.alloc, zeroValue, typeInfo, hq, hz.1, newVar, newRow, newObj, Value.cells]
    rfl

/-- A composite literal of an array's or a struct's type. -/
theorem wpList_build_row {t : TypeId} {parts : Array (Nat × Operand)} (l : List Value)
    (hb : ∀ w, (Instr.build t (parts.map fun p => (p.1, a.eval p.2))).run P w = .ok (.agg l.toArray) w)
    (h : wpList P ops Q rest (a.put dst (.agg l.toArray)) w) :
    wpList P ops Q (⟨dst, .build t parts, ty, pos, aft, none⟩ :: rest) a w := by
  refine wpList_run rfl ?_ h
  simp [execOp, hb]

/-- A whole variable is read. -/
theorem wpList_load_bk {x : Operand} {t : TypeId} (b : Nat) (T : TypeId) (l : List Value) (d : TypeDesc) (hb : Bk w b T l) (hx : a.eval x = .pointer (some ⟨b, 0, none⟩))
    (hu : P.underlying t = some d) (hd : d.isRow = true) (hi : (P.info? t).map (·.size) = some l.length)
    (h : wpList P ops Q rest (a.put dst (.agg l.toArray)) w) : wpList P ops Q (⟨dst, .load t x, ty, pos, aft, none⟩ :: rest) a w :=
  wpList_load_mid rfl t x rfl b 0 hx l d hb.range hu hd hi h

/-- A whole variable is written. -/
theorem wpList_store_bk {x y : Operand} {t : TypeId} (b : Nat) (T : TypeId) (old l : List Value) (hb : Bk w b T old) (hx : a.eval x = .pointer (some ⟨b, 0, none⟩)) (hy : a.eval y = .agg l.toArray)
    (hi : (P.info? t).map (·.size) = some l.length) (hl : old.length = l.length) (h1 : ∀ v ∈ l, v.oneCell' = true)
    (h : ∀ w', Bk w' b T l → w.grownBy w' (some b) → w'.heap.size = w.heap.size → wpList P ops Q rest (a.put dst undef) w') :
    wpList P ops Q (⟨dst, .store t x y, ty, pos, aft, none⟩ :: rest) a w := by
  have hr := run_storeVar_row (P := P) w b T t old.toArray l.toArray hb (by simpa using hi) (by simpa using hl) (all_oneCell_toArray h1)
  refine wpList_plain rfl fun K hK => ?_
  unfold Oper.wp execOp
  simp only [hx, hy, Instr.storeAt, Instr.sureAddr, Sem.run_bind, Sem.run_pure, Result.andThen_ok, hr]
  refine hK _ _ (h _ ?_ ?_ ?_)
  · exact setRow_heap w b old.toArray l.toArray T (0, 0) hb
  · refine ⟨rfl, rfl, rfl, by simp [World.setRow], fun k _ hne => ?_⟩
    simp only [World.setRow, Array.getElem?_modify]
    rw [if_neg (fun e => hne (by rw [e]))]
  · simp [World.setRow]

/-- copy into a block that is known whole. -/
theorem wpList_copy_bk {d s : Operand} {dT sT : TypeId} (elem : TypeId) (hu : P.underlying dT = some (.slice elem)) (hsz : (P.info? elem).map (·.size) = some 1)
    (dp sp : Option Addr) (dLen dCap sLen sCap : Nat) (hd : a.eval d = .slice dp dLen dCap) (hs : a.eval s = .slice sp sLen sCap)
    (g off : Nat) (t : TypeId) (cur : List Value) (hg : Bk w g t cur) (cs : List Value) (hn : cs.length = Nat.min sLen dLen)
    (hpos : 0 < cs.length → dp = some ⟨g, off, none⟩ ∧ ∃ ad, sp = some ad ∧ ∀ j v, cs[j]? = some v → w.cell? (ad.add j) = some v)
    (hfit : off + cs.length ≤ cur.length) (h1 : ∀ v ∈ cs, v.oneCell' = true)
    (h : ∀ w', Bk w' g t (cur.take off ++ (cs ++ cur.drop (off + cs.length))) → w.grownBy w' (some g) → w'.heap.size = w.heap.size → wpList P ops Q rest (a.put dst (goInt cs.length)) w') :
    wpList P ops Q (⟨dst, .call { callee := .builtin .copy, args := #[d, s], argTypes := #[dT, sT] }, ty, pos, aft, none⟩ :: rest) a w := by
  by_cases h0 : cs.length = 0
  · obtain rfl : cs = [] := List.eq_nil_of_length_eq_zero h0
    refine wpList_copy_nothing rfl d s dT sT rfl elem hu hsz dp sp dLen dCap sLen sCap hd hs (by simpa using hn.symm) ?_
    exact h w (by simpa using hg) (gb_refl w _) rfl
  · obtain ⟨rfl, ad, rfl, hsrc⟩ := hpos (by omega)
    refine wpList_copy_own rfl d s dT sT rfl elem hu hsz g off dLen dCap ad sLen sCap hd hs cur.toArray t hg cs hn hsrc (by simpa using hfit) h1 ?_
    have hb := setRow_heap w g cur.toArray (cur.take off ++ (cs ++ cur.drop (off + cs.length))).toArray t (0, 0) hg
    refine h (w.setRow g (cur.take off ++ (cs ++ cur.drop (off + cs.length))).toArray) hb ?_ (by simp [World.setRow])
    refine ⟨rfl, rfl, rfl, by simp [World.setRow], fun k _ hne => ?_⟩
    simp only [World.setRow, Array.getElem?_modify]
    rw [if_neg (fun e => hne (by rw [e]))]

theorem wpStill_run {o : Oper} {v : Value} {K : Act → Prop} (hg : o.guard = none) (hr : (execOp a.eval o).run P w = .ok (.value v) w)
    (h : wpStill P ops w K rest (a.put o.dst v)) : wpStill P ops w K (o :: rest) a := by
  refine wpStill_step fun K' hK => ?_
  simp only [Region.wanted, hg, if_true]
  unfold Oper.still
  rw [hr, Oper.stillUpon_value]
  exact hK _ h

theorem run_sizeOf' {e : TypeId} {k : Nat} (h : (P.info? e).map (·.size) = some k) : (Go.sizeOf e).run P w = .ok k w := by
  cases hq : P.info? e with
  | none => simp [hq] at h
  | some i => simp [hq] at h; simp [Go.sizeOf, typeInfo, hq, h]

/-- 'arr[:m]' -/
theorem run_sliceAt_hi {t : TypeId} {len : Nat} {e : TypeId} {k : Nat} (hu : P.underlying t = some (.array len e)) (hk : (P.info? e).map (·.size) = some k) (b : Nat) (m : Int) (h0 : 0 ≤ m) (h1 : m ≤ len) :
    (Instr.sliceAt t (.pointer (some ⟨b, 0, none⟩)) none (some (.int .i64 m)) none).run P w = .ok (.slice (some ⟨b, 0, none⟩) m.toNat len) w := by
  have hc : 0 ≤ m ∧ m ≤ (len : Int) := ⟨h0, h1⟩
  unfold Instr.sliceAt
  simp [Sem.run_bind, run_underlying hu w, Instr.sureAddr, Instr.sliceBounds, Instr.sliceBound, asIntOf, hc, run_sizeOf' hk, Addr.add]

theorem wpStill_slice_hi {t : TypeId} {x hi : Operand} {K : Act → Prop} {len : Nat} {e : TypeId} {k : Nat} (hu : P.underlying t = some (.array len e)) (hk : (P.info? e).map (·.size) = some k) (b : Nat) (m : Int)
    (hx : a.eval x = .pointer (some ⟨b, 0, none⟩)) (hm : a.eval hi = .int .i64 m) (h0 : 0 ≤ m) (h1 : m ≤ len)
    (h : wpStill P ops w K rest (a.put dst (.slice (some ⟨b, 0, none⟩) m.toNat len))) : wpStill P ops w K (⟨dst, .slice t x none (some hi) none, ty, pos, aft, none⟩ :: rest) a := by
  refine wpStill_run rfl ?_ h
  simp [execOp, hx, hm, run_sliceAt_hi hu hk b m h0 h1]
end
end Sc
