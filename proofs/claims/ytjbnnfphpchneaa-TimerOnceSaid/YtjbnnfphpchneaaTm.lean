import Derived.Test.YtjbnnfphpchneaaProg
import Derived.Test.YtjbnnfphpchneaaTreeMem
import Derived.Test.YtjbnnfphpchneaaAppR
/- Timers in memory: what a timer holds; Delay, Len, Now, Clear. -/
namespace Sc
open Go Go.RowKit
abbrev Due := Int × Int × Int
def dueC (d : Due) : List Value := [.int .i64 d.1, .int .i64 d.2.1, .int .i64 d.2.2]
def dueCs (L : List Due) : List Value := L.flatMap dueC
theorem dueCs_cons (d : Due) (L : List Due) : dueCs (d :: L) = dueC d ++ dueCs L := rfl
theorem dueCs_append (L M : List Due) : dueCs (L ++ M) = dueCs L ++ dueCs M := by simp [dueCs]
theorem dueCs_one (d : Due) : dueCs [d] = dueC d := by simp [dueCs]
theorem dueCs_length (L : List Due) : (dueCs L).length = L.length * 3 := by
  induction L with
  | nil => rfl
  | cons d L ih => rw [dueCs_cons, List.length_append, ih]; simp [dueC]; omega
theorem dueCs_take (L : List Due) (n : Nat) : (dueCs L).take (n * 3) = dueCs (L.take n) := by
  induction L generalizing n with
  | nil => simp [dueCs]
  | cons d L ih =>
    cases n with
    | zero => simp [dueCs]
    | succ n =>
      rw [List.take_succ_cons, dueCs_cons, dueCs_cons, ← ih n, show (n + 1) * 3 = (dueC d).length + n * 3 by simp [dueC]; omega, List.take_length_add_append]
theorem dueCs_drop (L : List Due) (n : Nat) : (dueCs L).drop (n * 3) = dueCs (L.drop n) := by
  induction L generalizing n with
  | nil => simp [dueCs]
  | cons d L ih =>
    cases n with
    | zero => simp [dueCs]
    | succ n =>
      rw [List.drop_succ_cons, dueCs_cons, ← ih n, show (n + 1) * 3 = (dueC d).length + n * 3 by simp [dueC]; omega, List.drop_length_add_append]
theorem dueCs_at (L : List Due) (i k : Nat) (d : Due) (h : L[i]? = some d) (hk : k < 3) : (dueCs L)[i * 3 + k]? = (dueC d)[k]? := by
  induction L generalizing i with
  | nil => simp at h
  | cons x L ih =>
    cases i with
    | zero =>
      simp only [List.getElem?_cons_zero, Option.some.injEq] at h
      subst h
      rw [dueCs_cons, List.getElem?_append_left (by simp [dueC]; omega), Nat.zero_mul, Nat.zero_add]
    | succ i =>
      rw [List.getElem?_cons_succ] at h
      rw [dueCs_cons, List.getElem?_append_right (by simp [dueC]; omega), show (i + 1) * 3 + k - (dueC x).length = i * 3 + k by simp [dueC]; omega]
      exact ih i h
theorem range_due {w : World} {b o : Nat} {L : List Due} (h : w.rangeAt b o (dueCs L)) {i : Nat} {d : Due} (hd : L[i]? = some d) : w.rangeAt b (o + i * 3) (dueC d) := fun j u hu => by
  have hj : j < 3 := by have := (List.getElem?_eq_some_iff.1 hu).1; simpa [dueC] using this
  rw [Nat.add_assoc]
  exact h _ _ ((dueCs_at L i j d hd hj).trans hu)
theorem dueC_one (d : Due) : ∀ u ∈ dueC d, u.oneCell' = true := by
  intro u hu
  simp only [dueC, List.mem_cons, List.not_mem_nil, or_false] at hu
  rcases hu with rfl | rfl | rfl <;> rfl
theorem dueCs_oneCell (L : List Due) : ∀ u ∈ dueCs L, u.oneCell' = true := by
  intro u hu
  obtain ⟨d, -, h⟩ := List.mem_flatMap.1 hu
  exact dueC_one d u h
/-- The delay of a round's timer: three, and two for each round. -/
def dn (r : Int) : Nat := (max 0 (min r 1000)).toNat
def delay (r : Int) : Nat := 3 + 2 * dn r
theorem dn_le (r : Int) : dn r ≤ 1000 := by unfold dn; omega
theorem run_minI {P : Program} {ts : Array TypeId} {ty : TypeId} (m k q : Int) (hq : min m k = q) (w : World) : (Builtin.min_ ts ty #[.int .i64 m, .int .i64 k]).run P w = .ok (.int .i64 q) w := by
  subst hq
  by_cases h : k < m
  · rw [show min m k = k by omega]; simp [Builtin.min_, Builtin.min2, h]
  · rw [show min m k = m by omega]; simp [Builtin.min_, Builtin.min2, h]
theorem run_maxI {P : Program} {ts : Array TypeId} {ty : TypeId} (m k q : Int) (hq : max m k = q) (w : World) : (Builtin.max_ ts ty #[.int .i64 m, .int .i64 k]).run P w = .ok (.int .i64 q) w := by
  subst hq
  by_cases h : m < k
  · rw [show max m k = k by omega]; simp [Builtin.max_, Builtin.max2, h]
  · rw [show max m k = m by omega]; simp [Builtin.max_, Builtin.max2, h]
section
variable {P : Program} {w : World} {ops : Array Oper} {rest : List Oper} {a : Act} {Q : Exit → Act → World → Prop} {dst : Option Tmp} {ty : TypeId} {pos : String} {aft : Array Edge} {ts : Array TypeId} {x y : Operand}
theorem wpList_minI (m k q : Int) (hq : min m k = q) (hx : a.eval x = .int .i64 m) (hy : a.eval y = .int .i64 k) (h : wpList P ops Q rest (a.put dst (.int .i64 q)) w) :
    wpList P ops Q (⟨dst, .call { callee := .builtin .min, args := #[x, y], argTypes := ts }, ty, pos, aft, none⟩ :: rest) a w := by
  refine wpList_run rfl ?_ h
  simp only [execOp, resolve, invoke, builtin, Sem.run_bind, Sem.run_pure, Result.andThen_ok, List.map_toArray, List.map_cons, List.map_nil, hx, hy, run_minI m k q hq]
theorem wpList_maxI (m k q : Int) (hq : max m k = q) (hx : a.eval x = .int .i64 m) (hy : a.eval y = .int .i64 k) (h : wpList P ops Q rest (a.put dst (.int .i64 q)) w) :
    wpList P ops Q (⟨dst, .call { callee := .builtin .max, args := #[x, y], argTypes := ts }, ty, pos, aft, none⟩ :: rest) a w := by
  refine wpList_run rfl ?_ h
  simp only [execOp, resolve, invoke, builtin, Sem.run_bind, Sem.run_pure, Result.andThen_ok, List.map_toArray, List.map_cons, List.map_nil, hx, hy, run_maxI m k q hq]
end
end Sc
namespace Go.Proofs.Ytjbnnfphpchneaa
open Go.RowKit Sc
/-- Timers in memory: how often the clock went on, and what runs. -/
def Tm (w : World) (B r : Nat) (n : Int) (L : List Due) (lv : Value) : Prop := Bk w r 26 [.int .i64 n, lv] ∧ Ow B w 3 lv L.length (dueCs L) ∧ lv.ownBlock ≠ some r
theorem Tm.gr {w w' : World} {B r : Nat} {n : Int} {L : List Due} {lv : Value} (h : Tm w B r n L lv) (hg : w.grownBy w' none) : Tm w' B r n L lv :=
  ⟨h.1.grown hg (by simp), h.2.1.grown hg (fun _ _ => by simp), h.2.2⟩
theorem okDue : InfoOk Try.prog 52 3 24 := by unfold InfoOk; kernel_rfl
theorem dueSize (d : Due) : (Try.prog.info? 52).map (·.size) = some (dueC d).length := by kernel_rfl
theorem delay_any (r : Int) (w : World) : Calls Try.prog 9 #[.int .i64 r] w fun e w' => e = .returned (.int .i64 (delay r : Int)) ∧ w' = w := by
  go_enter Try.func9, Try.ntmps9
  obtain ⟨q, hq⟩ : ∃ q, min r 1000 = q := ⟨_, rfl⟩
  obtain ⟨m, hm⟩ : ∃ m : Nat, m = dn r := ⟨_, rfl⟩
  have hmx : max 0 q = (m : Int) := by rw [hm]; unfold dn; rw [hq]; omega
  have hmI : (0 : Int) ≤ (m : Int) ∧ (m : Int) ≤ 1000 := by have := dn_le r; omega
  have HD : Hid (3 + 2 * (m : Int) = (delay r : Int)) := Go.Lib.hid (by unfold delay; rw [← hm]; push_cast; rfl)
  clear hm
  go_wp2_with (first
    | ((with_reducible refine wpList_minI (x := .tmp 3) r 1000 q hq (by kernel_rfl) (by kernel_rfl) ?_))
    | ((with_reducible refine wpList_maxI (y := .tmp 4) 0 q (m : Int) hmx (by kernel_rfl) (by kernel_rfl) ?_)))
  go_ret
  exact ⟨by rw [← HD.out]; rfl, rfl⟩
theorem len_any {B r : Nat} {n : Int} {L : List Due} {lv : Value} (w : World) (hT : Tm w B r n L lv) : Calls Try.prog 11 #[.pointer (some ⟨r, 0, none⟩)] w fun e w' => e = .returned (.int .i64 (L.length : Int)) ∧ w' = w := by
  go_enter Try.func11, Try.ntmps11
  have c1 := hT.1.cellAt (i := 1) rfl
  obtain ⟨A, c, rfl⟩ := hT.2.1.form
  clear hT
  go_wp2_with fail
  go_ret
  exact ⟨rfl, rfl⟩
theorem now_any {B r : Nat} {n : Int} {L : List Due} {lv : Value} (w : World) (hT : Tm w B r n L lv) : Calls Try.prog 17 #[.pointer (some ⟨r, 0, none⟩)] w fun e w' => e = .returned (.int .i64 n) ∧ w' = w := by
  go_enter Try.func17, Try.ntmps17
  have c0 := hT.1.cellAt (i := 0) rfl
  clear hT
  go_wp2_with fail
  go_ret
  exact ⟨rfl, rfl⟩
theorem clear_any {B r : Nat} {n : Int} {L : List Due} {lv : Value} (w : World) (hT : Tm w B r n L lv) : Calls Try.prog 16 #[.pointer (some ⟨r, 0, none⟩)] w fun e w' => (∃ v, e = .returned v) ∧ Tm w' B r n [] (.slice none 0 0) ∧ w.grownBy w' (some r) := by
  go_enter Try.func16, Try.ntmps16
  have c1 := hT.1.cellAt (i := 1) rfl
  have f1 := hT.1.frozen 1
  have HT := Go.Lib.hid hT
  clear hT
  go_wp2_with fail
  go_end0
  exact ⟨⟨_, rfl⟩, ⟨HT.out.1.set 1 (.slice none 0 0), Ow.nil _ _ _, by simp [Value.ownBlock]⟩, gb_set1 _ _ _⟩
end Go.Proofs.Ytjbnnfphpchneaa
