import Derived.Test.YtajgklomcapboaaCut
/- Guarded operations; slices of strings; sums that are read out of the middle of a row. -/
namespace Sc
open Go Go.RowKit
section
variable {P : Program} {w : World} {ops : Array Oper} {rest : List Oper} {a : Act} {Q : Exit → Act → World → Prop} {dst : Option Tmp} {ty : TypeId} {pos : String} {aft : Array Edge}
/-- An operation whose guard holds is as one without. -/
theorem wpList_guard {i : Op} {g : Nat × Bool} (hw : Region.wanted ⟨dst, i, ty, pos, aft, some g⟩ (yielded ops a.tmps) = true)
    (h : wpList P ops Q (⟨dst, i, ty, pos, aft, none⟩ :: rest) a w) : wpList P ops Q (⟨dst, i, ty, pos, aft, some g⟩ :: rest) a w := by
  unfold wpList at h ⊢
  rw [if_pos hw]
  rw [if_pos (show Region.wanted ⟨dst, i, ty, pos, aft, none⟩ (yielded ops a.tmps) = true from rfl)] at h
  exact h
theorem wpList_unwanted {i : Op} {g : Nat × Bool} (hw : Region.wanted ⟨dst, i, ty, pos, aft, some g⟩ (yielded ops a.tmps) = false)
    (h : wpList P ops Q rest (a.put dst undef) w) : wpList P ops Q (⟨dst, i, ty, pos, aft, some g⟩ :: rest) a w := by
  unfold wpList
  rw [if_neg (by rw [hw]; simp)]
  exact h
theorem wpList_cut_sv {t : TypeId} {x : Operand} {lo hi : Option Operand} (ht : P.underlying t = some .string) (l : List UInt8) (hx : a.eval x = sv l) (i j : Nat)
    (hlo : lo = none ∧ i = 0 ∨ ∃ o, lo = some o ∧ a.eval o = .int .i64 (i : Int)) (hhi : hi = none ∧ j = l.length ∨ ∃ o, hi = some o ∧ a.eval o = .int .i64 (j : Int)) (hij : i ≤ j) (hj : j ≤ l.length)
    (L : List UInt8) (hL : L = (l.drop i).take (j - i)) (h : wpList P ops Q rest (a.put dst (sv L)) w) : wpList P ops Q (⟨dst, .slice t x lo hi none, ty, pos, aft, none⟩ :: rest) a w := by
  subst hL
  refine wpList_run rfl ?_ h
  have h1 : lo.map a.eval = none ∧ i = 0 ∨ lo.map a.eval = some (.int .i64 (i : Int)) := by
    rcases hlo with ⟨rfl, e⟩ | ⟨o, rfl, e⟩
    · exact .inl ⟨rfl, e⟩
    · exact .inr (by rw [Option.map_some, e])
  have h2 : hi.map a.eval = none ∧ j = l.length ∨ hi.map a.eval = some (.int .i64 (j : Int)) := by
    rcases hhi with ⟨rfl, e⟩ | ⟨o, rfl, e⟩
    · exact .inl ⟨rfl, e⟩
    · exact .inr (by rw [Option.map_some, e])
  simp only [execOp, hx, Sem.run_bind, Option.map_none, run_cut_sv ht l i j _ _ h1 h2 hij hj, Result.andThen_ok, Sem.run_pure]
theorem take_cut (l : List UInt8) (m q : Nat) (hq : min l.length m = q) : l.take m = (l.drop 0).take (q - 0) := by
  rw [List.drop_zero, Nat.sub_zero, ← hq]
  rcases Nat.le_total l.length m with h | h
  · rw [Nat.min_eq_left h, List.take_of_length_le h, List.take_of_length_le (Nat.le_refl _)]
  · rw [Nat.min_eq_right h]
/-- A row's part is read. -/
theorem wpList_load_range {t : TypeId} {x : Operand} (b o : Nat) (l : List Value) (d : TypeDesc) (hb : w.rangeAt b o l) (hx : a.eval x = .pointer (some ⟨b, o, none⟩))
    (hu : P.underlying t = some d) (hd : d.isRow = true) (hi : (P.info? t).map (·.size) = some l.length)
    (h : wpList P ops Q rest (a.put dst (.agg l.toArray)) w) : wpList P ops Q (⟨dst, .load t x, ty, pos, aft, none⟩ :: rest) a w :=
  wpList_load_mid rfl t x rfl b o hx l d hb hu hd hi h
theorem range_left {b o : Nat} {l k : List Value} (h : w.rangeAt b o (l ++ k)) : w.rangeAt b o l := fun j v hv => h j v (by rw [List.getElem?_append_left (List.getElem?_eq_some_iff.1 hv).1]; exact hv)
theorem range_right {b o n : Nat} {l k : List Value} (h : w.rangeAt b o (l ++ k)) (hn : n = l.length) : w.rangeAt b (o + n) k := fun j v hv => by
  have := h (n + j) v (by rw [List.getElem?_append_right (by omega), hn, Nat.add_sub_cancel_left]; exact hv)
  rw [Nat.add_assoc]; exact this
end
end Sc
