import Derived.Test.YtajgklomcapboaaShort
/- Two lists with one root: what the search for two texts with one sum finds. -/
namespace Sc
open Go Go.RowKit
def seg {α : Type} (l : List α) (s : Nat × Nat) : List α := (l.drop s.1).take (s.2 - s.1)
theorem seg_all {α : Type} (l : List α) : seg l (0, l.length) = l := by simp [seg]
theorem seg_len {α : Type} {l : List α} {s : Nat × Nat} (h2 : s.2 ≤ l.length) : (seg l s).length = s.2 - s.1 := by simp only [seg, List.length_take, List.length_drop]; omega
theorem seg_take {α : Type} {l : List α} {s : Nat × Nat} {k : Nat} (hk : s.1 + k ≤ s.2) : (seg l s).take k = seg l (s.1, s.1 + k) := by
  simp only [seg]; rw [List.take_take, show min k (s.2 - s.1) = s.1 + k - s.1 by omega]
theorem seg_drop {α : Type} {l : List α} {s : Nat × Nat} {k : Nat} : (seg l s).drop k = seg l (s.1 + k, s.2) := by
  simp only [seg]; rw [List.drop_take, List.drop_drop, show s.2 - s.1 - k = s.2 - (s.1 + k) by omega]
theorem id_split {a b c d : Id} (h : a.l ++ b.l = c.l ++ d.l) : a = c ∧ b = d := by
  have h2 := List.append_inj h (by rw [a.h, c.h])
  exact ⟨Id.ext' h2.1, Id.ext' h2.2⟩
/-- How many rounds a stretch costs. -/
def cost (s : Nat × Nat) : Nat := max 1 (2 * (s.2 - s.1) - 1)
def costs (S : List (Nat × Nat)) : Nat := (S.map cost).sum
theorem costs_append (S T : List (Nat × Nat)) : costs (S ++ T) = costs S + costs T := by simp [costs]
theorem cost_pos (s : Nat × Nat) : 1 ≤ cost s := by unfold cost; omega
structure LInv (H : List UInt8 → Id) (a b : List (List UInt8)) (S : List (Nat × Nat)) : Prop where
  same : a.length = b.length
  ok : ∀ s ∈ S, s.1 ≤ s.2 ∧ s.2 ≤ a.length ∧ rootH H (seg a s) = rootH H (seg b s)
  rest : (∀ s ∈ S, seg a s = seg b s) → a = b
section
variable {H : List UInt8 → Id} {a b : List (List UInt8)} {S : List (Nat × Nat)} {s : Nat × Nat}
theorem LInv.start (h : a.length = b.length) (hr : rootH H a = rootH H b) : LInv H a b [(0, a.length)] where
  same := h
  ok := fun s hs => by
    rw [List.mem_singleton] at hs
    subst hs
    exact ⟨Nat.zero_le _, Nat.le_refl _, by rw [seg_all]; rw [h, seg_all]; exact hr⟩
  rest := fun hs => by
    have := hs (0, a.length) (by simp)
    rw [seg_all] at this
    rw [this, h, seg_all]
theorem LInv.differ (h : LInv H a b (S ++ [s])) (hd : topH H (seg a s) ≠ topH H (seg b s)) : a ≠ b ∧ H (topH H (seg a s)) = H (topH H (seg b s)) :=
  ⟨fun e => hd (by rw [e]), (h.ok s (by simp)).2.2⟩
theorem LInv.small (h : LInv H a b (S ++ [s])) (hd : topH H (seg a s) = topH H (seg b s)) (hl : (seg a s).length < 2) : LInv H a b S where
  same := h.same
  ok := fun t ht => h.ok t (List.mem_append_left _ ht)
  rest := fun hs => h.rest fun t ht => by
    rcases List.mem_append.1 ht with ht | ht
    · exact hs t ht
    · rw [List.mem_singleton] at ht
      subst ht
      obtain ⟨h1, h2, h3⟩ := h.ok t (by simp)
      have e1 := seg_len (l := a) (s := t) h2
      have e2 := seg_len (l := b) (s := t) (by rw [← h.same]; exact h2)
      rw [← e1] at e2
      match hx : seg a t, hy : seg b t with
      | [], [] => rfl
      | [], y :: ys => rw [hx, hy] at e2; simp at e2
      | x :: xs, [] => rw [hx, hy] at e2; simp at e2
      | [x], [y] => rw [hx, hy, topH_one, topH_one] at hd; injection hd with _ hd; rw [hd]
      | x :: x' :: xs, _ => rw [hx] at hl; simp at hl; omega
      | [x], y :: y' :: ys => rw [hx, hy] at e2; simp at e2
theorem LInv.big (h : LInv H a b (S ++ [s])) (hd : topH H (seg a s) = topH H (seg b s)) {n k : Nat} (hn : n = (seg a s).length) (hl : 2 ≤ n) (hk : k = half n) : LInv H a b (S ++ [(s.1 + k, s.2), (s.1, s.1 + k)]) := by
  obtain ⟨h1, h2, h3⟩ := h.ok s (by simp)
  have e1 := seg_len (l := a) (s := s) h2
  have e2 := seg_len (l := b) (s := s) (by rw [← h.same]; exact h2)
  have hk1 := half_pos n
  have hk2 := half_lt hl
  have hks : s.1 + k ≤ s.2 := by omega
  rw [topH_two H (by omega : 2 ≤ (seg a s).length), topH_two H (by omega : 2 ≤ (seg b s).length), e2, ← e1, ← hn, ← hk] at hd
  injection hd with _ hd
  obtain ⟨r1, r2⟩ := id_split hd
  rw [seg_take hks, seg_take hks] at r1
  rw [seg_drop, seg_drop] at r2
  refine ⟨h.same, fun t ht => ?_, fun hs => h.rest fun t ht => ?_⟩
  · rcases List.mem_append.1 ht with ht | ht
    · exact h.ok t (List.mem_append_left _ ht)
    · simp only [List.mem_cons, List.not_mem_nil, or_false] at ht
      rcases ht with rfl | rfl
      · exact ⟨hks, h2, r2⟩
      · exact ⟨Nat.le_add_right _ _, Nat.le_trans hks h2, r1⟩
  · rcases List.mem_append.1 ht with ht | ht
    · exact hs t (List.mem_append_left _ ht)
    · rw [List.mem_singleton] at ht
      subst ht
      have q1 := hs (t.1, t.1 + k) (by simp)
      have q2 := hs (t.1 + k, t.2) (by simp)
      rw [← seg_take hks, ← seg_take hks] at q1
      rw [← seg_drop, ← seg_drop] at q2
      rw [← List.take_append_drop k (seg a t), q1, q2, List.take_append_drop]
theorem LInv.done (h : LInv H a b []) : a = b := h.rest (by simp)
end
theorem costs_small {S : List (Nat × Nat)} {s : Nat × Nat} : costs S < costs (S ++ [s]) := by
  rw [costs_append]
  have := cost_pos s
  simp [costs]; omega
theorem costs_big {S : List (Nat × Nat)} {s : Nat × Nat} {k : Nat} (h1 : 1 ≤ k) (h2 : s.1 + k < s.2) : costs (S ++ [(s.1 + k, s.2), (s.1, s.1 + k)]) < costs (S ++ [s]) := by
  rw [costs_append, costs_append]
  simp only [costs, cost, List.map_cons, List.map_nil, List.sum_cons, List.sum_nil]
  omega
def stC (s : Nat × Nat) : List Go.Value := [.int .i64 (s.1 : Int), .int .i64 (s.2 : Int)]
def stCs (S : List (Nat × Nat)) : List Go.Value := S.flatMap stC
theorem stCs_append (S T : List (Nat × Nat)) : stCs (S ++ T) = stCs S ++ stCs T := by simp [stCs]
theorem stCs_one (s : Nat × Nat) : stCs [s] = stC s := by simp [stCs]
theorem stCs_two (s t : Nat × Nat) : stCs [s, t] = stC s ++ stC t := by simp [stCs]
theorem stCs_len (S : List (Nat × Nat)) : (stCs S).length = S.length * 2 := by
  induction S with
  | nil => rfl
  | cons s S ih => show (stC s ++ stCs S).length = _; rw [List.length_append, ih, List.length_cons]; simp [stC]; omega
theorem stCs_pop (S : List (Nat × Nat)) (s : Nat × Nat) : (stCs (S ++ [s])).take (S.length * 2) = stCs S := by
  rw [stCs_append, List.take_left' (stCs_len S)]
theorem stC_one (s : Nat × Nat) : ∀ u ∈ stC s, u.oneCell' = true := by
  intro u hu
  simp only [stC, List.mem_cons, List.not_mem_nil, or_false] at hu
  rcases hu with rfl | rfl <;> rfl
theorem stCs_cell (S : List (Nat × Nat)) : ∀ u ∈ stCs S, u.oneCell' = true := by
  intro u hu
  obtain ⟨s, -, h⟩ := List.mem_flatMap.1 hu
  exact stC_one s u h
theorem range_last {w : World} {b o : Nat} {S : List (Nat × Nat)} {s : Nat × Nat} (h : w.rangeAt b o (stCs (S ++ [s]))) : w.rangeAt b (o + S.length * 2) (stC s) := by
  rw [stCs_append, stCs_one] at h
  have := range_right h (n := S.length * 2) (stCs_len S).symm
  exact this
end Sc
