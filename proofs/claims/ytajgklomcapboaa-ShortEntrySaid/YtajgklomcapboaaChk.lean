import Derived.Test.YtajgklomcapboaaRi
import Derived.Test.YtajgklomcapboaaLink
/- What the checks of proofs answer, as plain Lean; words for the walks. -/
namespace Sc
open Go Go.RowKit
/-- The error's number of a way. -/
def ckInc (leaf : Sc.Id) (a n : Int) (path : List Sc.Id) (rt : Sc.Id) : Nat :=
  if a < 0 ∨ n ≤ a ∨ 1099511627776 < n then 1
  else if lead nd leaf a.toNat n.toNat path = some rt then 0 else 60
theorem ckInc_out {leaf : Sc.Id} {a n : Int} {path : List Sc.Id} {rt : Sc.Id} (h : a < 0 ∨ n ≤ a ∨ 1099511627776 < n) : ckInc leaf a n path rt = 1 := if_pos h
theorem ckInc_in {leaf : Sc.Id} {a n : Nat} {path : List Sc.Id} {rt : Sc.Id} (h : a < n) (hn : n ≤ 1099511627776) : ckInc leaf (a : Int) (n : Int) path rt = if lead nd leaf a n path = some rt then 0 else 60 := by
  unfold ckInc; rw [if_neg (by omega)]; rfl
theorem ckInc_climb {leaf : Sc.Id} {a last : Nat} {path : List Sc.Id} {rt : Sc.Id} (h : a ≤ last) (hn : last + 1 ≤ 1099511627776) {o : Option (Nat × Sc.Id)} (hc : climb (up nd) a last leaf path = o) :
    ckInc leaf (a : Int) ((last : Int) + 1) path rt = if (o.bind fun r => if r.1 = 0 then some r.2 else none) = some rt then 0 else 60 := by
  rw [show ((last : Int) + 1) = ((last + 1 : Nat) : Int) from by push_cast; rfl, ckInc_in (by omega) hn, ← climb_lead nd leaf path a last h, hc]
theorem climb_cons {α σ : Type} (f : σ → Bool × α → σ) (node last : Nat) (x : σ) (p : α) (rest : List α) : climb f node last x (p :: rest) =
    if last = 0 then none else if node % 2 = 1 ∨ node = last then climb f ((strip node last).1 / 2) ((strip node last).2 / 2) (f x (true, p)) rest else climb f (node / 2) (last / 2) (f x (false, p)) rest := rfl
theorem strip_le1 (node last : Nat) (h : node ≤ last) : (strip node last).1 ≤ (strip node last).2 := by
  induction node using Nat.strongRecOn generalizing last with
  | _ node ih =>
    by_cases h' : node % 2 = 0 ∧ node ≠ 0
    · rw [strip_go h'.1 h'.2]; exact ih (node / 2) (by omega) (last / 2) (by omega)
    · rw [strip_stop (by omega)]; exact h
theorem half_two_pow {n k : Nat} (h2 : 2 ≤ n) (h : n ≤ 2 ^ (k + 1)) : half n ≤ 2 ^ k := by
  obtain ⟨j, hj⟩ : ∃ j, half n = 2 ^ j := ⟨_, rfl⟩
  have h1 := half_lt (n := n) h2
  rw [hj] at h1 ⊢
  exact Nat.pow_le_pow_right (by decide) (Nat.lt_succ_iff.1 ((Nat.pow_lt_pow_iff_right (by decide : 1 < 2)).1 (Nat.lt_of_lt_of_le h1 h)))
theorem dirs_len : ∀ (k n a : Nat), n ≤ 2 ^ k → (dirs a n).length ≤ k
  | 0, n, a, h => by rw [dirs_one (by simpa using h)]; exact Nat.le_refl _
  | k + 1, n, a, h => by
    by_cases h1 : n ≤ 1
    · rw [dirs_one h1]; exact Nat.zero_le _
    · have hh := half_two_pow (by omega) h
      have hg := half_ge (n := n) (by omega)
      by_cases ha : a < half n
      · rw [dirs_lo (by omega) ha, List.length_append]
        have := dirs_len k (half n) a hh
        simp; omega
      · rw [dirs_hi (by omega) (by omega), List.length_append]
        have := dirs_len k (n - half n) (a - half n) (by omega)
        simp; omega
theorem lead_long {α : Type} (N : α → α → α) (x : α) {a n : Nat} (hn : n ≤ 1099511627776) {path : List α} (h : 64 < path.length) : lead N x a n path = none := by
  have := dirs_len 40 n a (by omega)
  unfold lead
  rw [if_neg (by omega)]
theorem ri_rd {w : World} {v : Value} {xs : List Sc.Id} {n : Nat} (h : RI w v xs) (hn : n = xs.length) : Rd (fun b => b < w.heap.size) w 32 v n (idCells xs) := by subst hn; exact h
theorem drop_at {α : Type} {l : List α} {i : Nat} {x : α} (h : l[i]? = some x) : l.drop i = x :: l.drop (i + 1) := by
  obtain ⟨hl, he⟩ := List.getElem?_eq_some_iff.1 h
  rw [List.drop_eq_getElem_cons hl, he]
end Sc
