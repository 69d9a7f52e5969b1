import Derived.Stop.BytesEq
import Derived.Test.YtajgklomcapboaaSpecs
import Derived.Test.YtajgklomcapboaaRead
/- Two sums held against each other. -/
namespace Sc
open Go Go.RowKit
section
variable {P : Program} {w : World} {ops : Array Oper} {rest : List Oper} {a : Act} {Q : Exit → Act → World → Prop} {dst : Option Tmp} {ty : TypeId} {pos : String} {aft : Array Edge}
/-- What the comparison of arrays of bytes wants of its type. -/
structure IdEq (P : Program) (t : TypeId) : Prop where
  ex : ∃ e, P.underlying t = some (.array 32 e) ∧ P.underlying e = some (.int .u8) ∧ (P.info? e).map (·.size) = some 1
  guard : P.eqGuardType P.depth t = false
theorem idEq_dec {P : Program} {t e : TypeId} (h1 : P.underlying t = some (.array 32 e)) (h2 : P.underlying e = some (.int .u8)) (h3 : (P.info? e).map (·.size) = some 1) (h4 : P.eqGuardType P.depth t = false) : IdEq P t := ⟨⟨e, h1, h2, h3⟩, h4⟩
theorem run_eql_id {t : TypeId} (h : IdEq P t) (x y : Sc.Id) : (binOp .eql t (idv x) (idv y)).run P w = .ok (.bool (x.l == y.l)) w := by
  obtain ⟨e, h1, h2, h3⟩ := h.ex
  exact run_eql_bytes w t e 32 h1 h2 (fun _ => run_sizeOf' h3) x.l y.l x.h y.h
theorem run_neq_id {t : TypeId} (h : IdEq P t) (x y : Sc.Id) : (binOp .neq t (idv x) (idv y)).run P w = .ok (.bool (!(x.l == y.l))) w := by
  obtain ⟨e, h1, h2, h3⟩ := h.ex
  unfold idv
  rw [run_neq_struct]
  rw [show (10000 : Nat) = 9998 + 2 from rfl]
  have := run_equalIn_bytes (P := P) w 9998 t e 32 h1 h2 (fun _ => run_sizeOf' h3) x.l y.l x.h y.h
  erw [this]
  rfl
theorem run_eqGuard_id {op : BinOp} {t : TypeId} {x y : Operand} (h : IdEq P t) (X Y : Sc.Id) : (eqGuard op t x y (idv X) (idv Y)).run P w = .ok () w := run_eqGuard_agg _ _ _ _ _ _ _ h.guard
theorem wpList_eql_id {t : TypeId} {x y : Operand} (h : IdEq P t) (X Y : Sc.Id) (hx : a.eval x = idv X) (hy : a.eval y = idv Y) (hk : wpList P ops Q rest (a.put dst (.bool (X.l == Y.l))) w) :
    wpList P ops Q (⟨dst, .binOp .eql t x y t, ty, pos, aft, none⟩ :: rest) a w := by
  refine wpList_run rfl ?_ hk
  simp only [execOp, hx, hy, Sem.run_bind]
  unfold idv
  rw [run_eqGuard_agg _ _ _ _ _ _ _ h.guard]
  have := run_eql_id (w := w) h X Y
  unfold idv at this
  simp [this]
theorem wpList_neq_id {t : TypeId} {x y : Operand} (h : IdEq P t) (X Y : Sc.Id) (hx : a.eval x = idv X) (hy : a.eval y = idv Y) (hk : wpList P ops Q rest (a.put dst (.bool (!(X.l == Y.l)))) w) :
    wpList P ops Q (⟨dst, .binOp .neq t x y t, ty, pos, aft, none⟩ :: rest) a w := by
  refine wpList_run rfl ?_ hk
  simp only [execOp, hx, hy, Sem.run_bind]
  unfold idv
  rw [run_eqGuard_agg _ _ _ _ _ _ _ h.guard]
  have := run_neq_id (w := w) h X Y
  unfold idv at this
  simp [this]
end
end Sc
