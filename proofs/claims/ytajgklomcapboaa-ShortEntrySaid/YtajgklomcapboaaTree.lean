/- Trees of a list, as plain Lean: the root by halves, the whole trees (peaks, tops), a leaf pushed onto the tops. Over any kind of sums and any way of joining two. -/
namespace Sc

/-- The greatest power of two below n (1 where there is none). -/
def half (n : Nat) : Nat := 2 ^ (n - 1).log2

theorem half_pos (n : Nat) : 1 ≤ half n := Nat.one_le_two_pow

theorem half_lt {n : Nat} (h : 2 ≤ n) : half n < n := by
  unfold half
  have := Nat.log2_self_le (n := n - 1) (by omega)
  omega

theorem half_ge {n : Nat} (h : 2 ≤ n) : n ≤ 2 * half n := by
  unfold half
  have := Nat.lt_log2_self (n := n - 1)
  rw [Nat.pow_succ] at this
  omega

theorem pow_between {a b n : Nat} (h1 : 2 ^ a ≤ n) (h2 : n < 2 ^ (a + 1)) (h3 : 2 ^ b ≤ n) (h4 : n < 2 ^ (b + 1)) : a = b := by
  rcases Nat.lt_trichotomy a b with h | h | h
  · have := Nat.pow_le_pow_right (n := 2) (by omega) (show a + 1 ≤ b by omega); omega
  · exact h
  · have := Nat.pow_le_pow_right (n := 2) (by omega) (show b + 1 ≤ a by omega); omega

/-- The loop's way to it: a power of two below n, whose double isn't. -/
theorem half_of {n j : Nat} (h1 : 2 ^ j < n) (h2 : n ≤ 2 * 2 ^ j) : half n = 2 ^ j := by
  unfold half
  have h3 := Nat.log2_self_le (n := n - 1) (by omega)
  have h4 := Nat.lt_log2_self (n := n - 1)
  rw [pow_between h3 h4 (b := j) (by omega) (by rw [Nat.pow_succ]; omega)]

theorem half_one : half 1 = 1 := by decide
theorem half_zero : half 0 = 1 := by decide
theorem half_two : half 2 = 1 := by decide

/-- The greatest power of two up to n (n from 1 on). -/
def peak (n : Nat) : Nat := 2 ^ n.log2

theorem peak_pos (n : Nat) : 1 ≤ peak n := Nat.one_le_two_pow
theorem peak_le {n : Nat} (h : 1 ≤ n) : peak n ≤ n := Nat.log2_self_le (by omega)
theorem peak_gt (n : Nat) : n < 2 * peak n := by
  unfold peak
  have := Nat.lt_log2_self (n := n)
  rw [Nat.pow_succ] at this
  omega
theorem peak_of {n j : Nat} (h1 : 2 ^ j ≤ n) (h2 : n < 2 * 2 ^ j) : peak n = 2 ^ j := by
  unfold peak
  have hn : 1 ≤ 2 ^ j := Nat.one_le_two_pow
  have h3 := Nat.log2_self_le (n := n) (by omega)
  have h4 := Nat.lt_log2_self (n := n)
  rw [pow_between h3 h4 (b := j) h1 (by rw [Nat.pow_succ]; omega)]

section
variable {α : Type} (N : α → α → α) (E : α)

/-- THE ROOT, by halves. -/
def root : List α → α
  | [] => E
  | [x] => x
  | x :: y :: l =>
    N (root ((x :: y :: l).take (half (l.length + 2)))) (root ((x :: y :: l).drop (half (l.length + 2))))
termination_by l => l.length
decreasing_by
  all_goals
    have h1 := half_lt (n := l.length + 2) (by omega)
    have h2 := half_pos (l.length + 2)
    simp only [List.length_take, List.length_drop, List.length_cons]
    omega

theorem root_nil : root N E [] = E := by rw [root]
theorem root_one (x : α) : root N E [x] = x := by rw [root]
theorem root_two {l : List α} (h : 2 ≤ l.length) : root N E l = N (root N E (l.take (half l.length))) (root N E (l.drop (half l.length))) := by
  match l, h with
  | x :: y :: l, _ => rw [root]; rfl

/-- The sums of the whole trees, from the left. -/
def tops (l : List α) : List α :=
  if _h : l = [] then [] else root N E (l.take (peak l.length)) :: tops (l.drop (peak l.length))
termination_by l.length
decreasing_by
  have h1 := peak_pos l.length
  have h2 : 0 < l.length := List.length_pos_iff.2 ‹¬ l = []›
  simp only [List.length_drop]; omega

theorem tops_nil : tops N E [] = [] := by rw [tops]; simp
theorem tops_cons {l : List α} (h : l ≠ []) : tops N E l = root N E (l.take (peak l.length)) :: tops N E (l.drop (peak l.length)) := by
  rw [tops]; simp [h]

/-- A list of a power of two is one tree. -/
theorem tops_pow {l : List α} {j : Nat} (h : l.length = 2 ^ j) : tops N E l = [root N E l] := by
  have hp : 1 ≤ 2 ^ j := Nat.one_le_two_pow
  have h0 : l ≠ [] := by intro e; subst e; simp at h; omega
  rw [tops_cons N E h0, peak_of (n := l.length) (j := j) (by omega) (by omega), ← h]
  simp [tops_nil]

/-- The sum of all, of the tops: from the right. -/
def joined : List α → α
  | [] => E
  | [x] => x
  | x :: y :: l => N x (joined (y :: l))

theorem joined_cons {x : α} {l : List α} (h : l ≠ []) : joined N E (x :: l) = N x (joined N E l) := by
  cases l with
  | nil => exact absurd rfl h
  | cons y l => rfl

theorem tops_ne {l : List α} (h : l ≠ []) : tops N E l ≠ [] := by rw [tops_cons N E h]; simp

/-- THE ROOT IS THE TOPS, JOINED. -/
theorem joined_tops : ∀ (n : Nat) (l : List α), l.length ≤ n → joined N E (tops N E l) = root N E l := by
  intro n
  induction n with
  | zero => intro l h; have : l = [] := List.eq_nil_of_length_eq_zero (by omega); subst this; rw [tops_nil, root_nil]; rfl
  | succ n ih =>
    intro l h
    by_cases h0 : l = []
    · subst h0; rw [tops_nil, root_nil]; rfl
    have hl : 0 < l.length := List.length_pos_iff.2 h0
    have p1 := peak_le (n := l.length) (by omega)
    have p2 := peak_gt l.length
    have p3 := peak_pos l.length
    rw [tops_cons N E h0]
    by_cases he : peak l.length = l.length
    · rw [he]; simp [tops_nil, joined]
    · have hd : l.drop (peak l.length) ≠ [] := by
        intro e; have := congrArg List.length e; simp at this; omega
      rw [joined_cons N E (tops_ne N E hd), ih _ (by simp; omega), root_two N E (l := l) (by omega)]
      have : half l.length = peak l.length := half_of (j := l.length.log2) (by unfold peak at *; omega) (by unfold peak at *; omega)
      rw [this]

/-- A leaf onto the tops (the last top first), where there are n leaves: while n is odd the last top and what comes are joined. -/
def pushR : Nat → List α → α → List α
  | n, st, x =>
    if _h : n % 2 = 1 then
      match st with
      | t :: st' => pushR (n / 2) st' (N t x)
      | [] => [x]
    else x :: st
termination_by n => n
decreasing_by omega

theorem pushR_even {n : Nat} (h : n % 2 = 0) (st : List α) (x : α) : pushR N n st x = x :: st := by
  rw [pushR.eq_def]; simp [h]
theorem pushR_odd {n : Nat} (h : n % 2 = 1) (t : α) (st : List α) (x : α) : pushR N n (t :: st) x = pushR N (n / 2) st (N t x) := by
  rw [pushR.eq_def]; simp [h]

/-- How many ones a number has among its bits. -/
def ones (n : Nat) : Nat := if n = 0 then 0 else n % 2 + ones (n / 2)
termination_by n
decreasing_by omega

theorem ones_zero : ones 0 = 0 := by rw [ones]; rfl
theorem ones_step (n : Nat) : ones n = n % 2 + ones (n / 2) := by
  by_cases h : n = 0
  · subst h; simp [ones_zero]
  · rw [ones, if_neg h]

theorem ones_pow_add : ∀ (j m : Nat), m < 2 ^ j → ones (2 ^ j + m) = 1 + ones m := by
  intro j
  induction j with
  | zero => intro m h; have : m = 0 := by simpa using h
            subst this; rw [ones_step]
  | succ j ih =>
    intro m h
    rw [Nat.pow_succ] at h ⊢
    rw [ones_step, ones_step m, show (2 ^ j * 2 + m) % 2 = m % 2 by omega, show (2 ^ j * 2 + m) / 2 = 2 ^ j + m / 2 by omega, ih (m / 2) (by omega)]
    omega

theorem tops_length : ∀ (n : Nat) (l : List α), l.length ≤ n → (tops N E l).length = ones l.length := by
  intro n
  induction n with
  | zero => intro l h; have : l = [] := List.eq_nil_of_length_eq_zero (by omega); subst this; rw [tops_nil]; simp [ones_zero]
  | succ n ih =>
    intro l h
    by_cases h0 : l = []
    · subst h0; rw [tops_nil]; simp [ones_zero]
    have hl : 0 < l.length := List.length_pos_iff.2 h0
    have p1 := peak_le (n := l.length) (by omega)
    have p2 := peak_gt l.length
    have p3 := peak_pos l.length
    rw [tops_cons N E h0, List.length_cons, ih _ (by simp; omega), List.length_drop]
    have := ones_pow_add l.length.log2 (l.length - peak l.length) (by unfold peak at *; omega)
    rw [show 2 ^ l.length.log2 + (l.length - peak l.length) = l.length by unfold peak at *; omega] at this
    omega

/-- A carry that ends below a power of two leaves what lies beyond. -/
theorem pushR_low : ∀ (j m : Nat) (st : List α) (x T : α), m + 1 < 2 ^ j → st.length = ones m → pushR N (2 ^ j + m) (st ++ [T]) x = pushR N m st x ++ [T] := by
  intro j
  induction j with
  | zero => intro m st x T h; simp at h
  | succ j ih =>
    intro m st x T h hs
    rw [Nat.pow_succ] at h ⊢
    by_cases he : m % 2 = 0
    · rw [pushR_even N (by omega), pushR_even N he]; rfl
    · rw [ones_step] at hs
      cases st with
      | nil => simp at hs; omega
      | cons t st =>
        rw [List.cons_append, pushR_odd N (by omega), pushR_odd N (by omega), show (2 ^ j * 2 + m) / 2 = 2 ^ j + m / 2 by omega]
        simp only [List.length_cons] at hs
        exact ih (m / 2) st _ T (by omega) (by omega)

/-- A carry through all ones joins with the tree beyond. -/
theorem pushR_full : ∀ (j : Nat) (st : List α) (x T r : α), st.length = j → pushR N (2 ^ j - 1) st x = [r] → pushR N (2 ^ (j + 1) - 1) (st ++ [T]) x = [N T r] := by
  intro j
  induction j with
  | zero =>
    intro st x T r hs h
    have : st = [] := List.eq_nil_of_length_eq_zero hs
    subst this
    rw [pushR_even N (by simp)] at h
    simp at h; subst h
    rw [List.nil_append, pushR_odd N (by simp), pushR_even N (by simp)]
  | succ j ih =>
    intro st x T r hs h
    have hp : 1 ≤ 2 ^ j := Nat.one_le_two_pow
    cases st with
    | nil => simp at hs
    | cons t st =>
      rw [Nat.pow_succ] at h
      rw [pushR_odd N (by omega), show (2 ^ j * 2 - 1) / 2 = 2 ^ j - 1 by omega] at h
      rw [List.cons_append, pushR_odd N (by rw [Nat.pow_succ, Nat.pow_succ]; omega),
        show (2 ^ (j + 1 + 1) - 1) / 2 = 2 ^ (j + 1) - 1 by rw [Nat.pow_succ, Nat.pow_succ]; omega]
      exact ih st _ T r (by simpa using hs) h

theorem ones_full (j : Nat) : ones (2 ^ j - 1) = j := by
  induction j with
  | zero => simp [ones_zero]
  | succ j ih =>
    have hp : 1 ≤ 2 ^ j := Nat.one_le_two_pow
    rw [ones_step, Nat.pow_succ, show (2 ^ j * 2 - 1) / 2 = 2 ^ j - 1 by omega, ih]; omega

/-- A LEAF MORE: the tops of the longer list. -/
theorem pushR_tops : ∀ (n : Nat) (l : List α) (x : α), l.length ≤ n → pushR N l.length (tops N E l).reverse x = (tops N E (l ++ [x])).reverse := by
  intro n
  induction n with
  | zero =>
    intro l x h
    have : l = [] := List.eq_nil_of_length_eq_zero (by omega)
    subst this
    rw [tops_nil, List.length_nil, pushR_even N (by rfl), List.nil_append, tops_pow N E (j := 0) (by simp), root_one]; rfl
  | succ n ih =>
    intro l x h
    by_cases h0 : l = []
    · subst h0
      rw [tops_nil, List.length_nil, pushR_even N (by rfl), List.nil_append, tops_pow N E (j := 0) (by simp), root_one]; rfl
    have hl : 0 < l.length := List.length_pos_iff.2 h0
    obtain ⟨j, hj⟩ : ∃ j, j = l.length.log2 := ⟨_, rfl⟩
    have p1 := peak_le (n := l.length) (by omega)
    have p2 := peak_gt l.length
    have p3 := peak_pos l.length
    have hpj : peak l.length = 2 ^ j := by rw [hj]; rfl
    rw [hpj] at p1 p2 p3
    have hrec := ih (l.drop (2 ^ j)) x (by simp; omega)
    rw [List.length_drop] at hrec
    have hlen := tops_length N E (n + 1) (l.drop (2 ^ j)) (by simp; omega)
    rw [List.length_drop] at hlen
    rw [tops_cons N E h0, hpj, List.reverse_cons]
    by_cases hc : l.length - 2 ^ j + 1 < 2 ^ j
    · -- the carry ends ahead of the greatest tree
      have hpk : peak (l ++ [x]).length = 2 ^ j := peak_of (by simp; omega) (by simp; omega)
      rw [tops_cons N E (l := l ++ [x]) (by simp), hpk, List.reverse_cons, List.take_append_of_le_length (by omega), List.drop_append_of_le_length (by omega), ← hrec]
      have := pushR_low N j (l.length - 2 ^ j) (tops N E (l.drop (2 ^ j))).reverse x (root N E (l.take (2 ^ j))) hc (by simp [hlen])
      rw [show 2 ^ j + (l.length - 2 ^ j) = l.length by omega] at this
      exact this
    · -- all ones: the longer list is whole
      have hlen2 : (l ++ [x]).length = 2 ^ (j + 1) := by rw [Nat.pow_succ]; simp; omega
      have hd : (l.drop (2 ^ j) ++ [x]).length = 2 ^ j := by simp; omega
      rw [tops_pow N E hd, show l.length - 2 ^ j = 2 ^ j - 1 by omega] at hrec
      have hst : (tops N E (l.drop (2 ^ j))).reverse.length = j := by rw [List.length_reverse, hlen, show l.length - 2 ^ j = 2 ^ j - 1 by omega, ones_full]
      have := pushR_full N j _ x (root N E (l.take (2 ^ j))) _ hst (by rw [hrec]; rfl)
      rw [show l.length = 2 ^ (j + 1) - 1 by rw [Nat.pow_succ]; omega, this, tops_pow N E hlen2, root_two N E (l := l ++ [x]) (by rw [hlen2, Nat.pow_succ]; omega)]
      have hh : half (l ++ [x]).length = 2 ^ j := half_of (by rw [hlen2, Nat.pow_succ]; omega) (by rw [hlen2, Nat.pow_succ]; omega)
      rw [hh, List.take_append_of_le_length (by omega), List.drop_append_of_le_length (by omega)]
      rfl
end
end Sc
