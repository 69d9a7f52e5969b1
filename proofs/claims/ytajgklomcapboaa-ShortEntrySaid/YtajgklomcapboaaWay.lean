import Derived.Test.YtajgklomcapboaaTree
/- Ways and links, as plain Lean: the way of a leaf by halves; where a way leads; the check from the leaf up. -/
namespace Sc

/-- The sides on a way, the lowest first: true: what is shown stands to the left. -/
def dirs (at_ size : Nat) : List Bool :=
  if _h : size ≤ 1 then [] else
  if at_ < half size then dirs at_ (half size) ++ [false] else dirs (at_ - half size) (size - half size) ++ [true]
termination_by size
decreasing_by
  · exact half_lt (by omega)
  · have := half_pos size; omega

theorem dirs_one {a n : Nat} (h : n ≤ 1) : dirs a n = [] := by rw [dirs]; simp [h]
theorem dirs_lo {a n : Nat} (h : 2 ≤ n) (ha : a < half n) : dirs a n = dirs a (half n) ++ [false] := by
  rw [dirs, dif_neg (by omega), if_pos ha]
theorem dirs_hi {a n : Nat} (h : 2 ≤ n) (ha : half n ≤ a) : dirs a n = dirs (a - half n) (n - half n) ++ [true] := by
  rw [dirs, dif_neg (by omega), if_neg (by omega)]

theorem half_half {n : Nat} (h : 3 ≤ n) : half ((n + 1) / 2) * 2 = half n := by
  have h1 := half_lt (n := n) (by omega)
  have h2 := half_ge (n := n) (by omega)
  obtain ⟨j, hj⟩ : ∃ j, half n = 2 ^ j := ⟨_, rfl⟩
  cases j with
  | zero => rw [hj] at h2; simp at h2; omega
  | succ j =>
    rw [hj, Nat.pow_succ] at h1 h2 ⊢
    rw [half_of (n := (n + 1) / 2) (j := j) (by omega) (by omega)]

/-- The lowest step of a way. -/
theorem dirs_step : ∀ (m n a : Nat), n ≤ m → 2 ≤ n → a < n →
    dirs a n = (if a % 2 = 1 then [true] else if a = n - 1 then [] else [false]) ++ dirs (a / 2) ((n + 1) / 2) := by
  intro m
  induction m with
  | zero => intro n a h1 h2; omega
  | succ m ih =>
    intro n a h1 h2 h3
    by_cases hn : n = 2
    · subst hn
      rw [dirs_one (a := a / 2) (by omega)]
      by_cases ha : a = 0
      · subst ha; rw [dirs_lo (by omega) (by rw [half_two]; omega), half_two, dirs_one (by omega)]; rfl
      · have : a = 1 := by omega
        subst this; rw [dirs_hi (by omega) (by rw [half_two]; omega), half_two, dirs_one (by omega)]; rfl
    have hh := half_half (n := n) (by omega)
    have g1 := half_lt (n := n) (by omega)
    have g2 := half_ge (n := n) (by omega)
    have g3 := half_pos ((n + 1) / 2)
    by_cases ha : a < half n
    · rw [dirs_lo (by omega) ha, ih (half n) a (by omega) (by omega) ha, dirs_lo (a := a / 2) (n := (n + 1) / 2) (by omega) (by omega),
        show (half n + 1) / 2 = half ((n + 1) / 2) by omega]
      by_cases h5 : a % 2 = 1
      · simp [h5]
      · rw [if_neg h5, if_neg h5, if_neg (by omega), if_neg (by omega)]; simp
    · rw [dirs_hi (n := n) (by omega) (by omega), dirs_hi (a := a / 2) (n := (n + 1) / 2) (by omega) (by omega)]
      by_cases h6 : n - half n = 1
      · rw [h6, dirs_one (by omega), dirs_one (a := a / 2 - half ((n + 1) / 2)) (by omega), if_neg (by omega), if_pos (by omega)]
        rfl
      · rw [ih (n - half n) (a - half n) (by omega) (by omega) (by omega), show (a - half n) % 2 = a % 2 by omega,
          show (a - half n) / 2 = a / 2 - half ((n + 1) / 2) by omega, show (n - half n + 1) / 2 = (n + 1) / 2 - half ((n + 1) / 2) by omega]
        by_cases h5 : a % 2 = 1
        · simp [h5]
        · rw [if_neg h5, if_neg h5]
          by_cases h7 : a = n - 1
          · rw [if_pos h7, if_pos (by omega)]; simp
          · rw [if_neg h7, if_neg (by omega)]; simp

section
variable {α : Type} (N : α → α → α) (E : α)

/-- One step up. -/
def up (x : α) (p : Bool × α) : α := if p.1 then N p.2 x else N x p.2

/-- Where a way leads, by halves from the top (the reference's way of saying it): none: it has another length. -/
def lead (x : α) (a n : Nat) (path : List α) : Option α :=
  if path.length = (dirs a n).length then some (((dirs a n).zip path).foldl (up N) x) else none

theorem lead_one (x : α) (a n : Nat) (h : n ≤ 1) (path : List α) : lead N x a n path = if path = [] then some x else none := by
  unfold lead
  rw [dirs_one h]
  cases path <;> simp

theorem lead_nil (x : α) (a n : Nat) (h : 2 ≤ n) : lead N x a n [] = none := by
  unfold lead
  by_cases ha : a < half n
  · rw [dirs_lo h ha]; simp
  · rw [dirs_hi h (by omega)]; simp

theorem lead_lo (x : α) {a n : Nat} (h : 2 ≤ n) (ha : a < half n) (path : List α) (p : α) :
    lead N x a n (path ++ [p]) = (lead N x a (half n) path).map fun y => N y p := by
  unfold lead
  rw [dirs_lo h ha]
  by_cases hl : path.length = (dirs a (half n)).length
  · rw [if_pos (by simp [hl]), if_pos hl, List.zip_append (by omega), List.foldl_append]; rfl
  · rw [if_neg (by simp [hl]), if_neg hl]; rfl

theorem lead_hi (x : α) {a n : Nat} (h : 2 ≤ n) (ha : half n ≤ a) (path : List α) (p : α) :
    lead N x a n (path ++ [p]) = (lead N x (a - half n) (n - half n) path).map fun y => N p y := by
  unfold lead
  rw [dirs_hi h ha]
  by_cases hl : path.length = (dirs (a - half n) (n - half n)).length
  · rw [if_pos (by simp [hl]), if_pos hl, List.zip_append (by omega), List.foldl_append]; rfl
  · rw [if_neg (by simp [hl]), if_neg hl]; rfl

/-- The way of a leaf, by halves. -/
def way (l : List α) (a : Nat) : List α :=
  if _h : l.length < 2 then [] else
  if a < half l.length then way (l.take (half l.length)) a ++ [root N E (l.drop (half l.length))]
  else way (l.drop (half l.length)) (a - half l.length) ++ [root N E (l.take (half l.length))]
termination_by l.length
decreasing_by
  · have := half_lt (n := l.length) (by omega); simp only [List.length_take]; omega
  · have := half_pos l.length; simp only [List.length_drop]; omega

theorem way_short {l : List α} {a : Nat} (h : l.length < 2) : way N E l a = [] := by rw [way]; simp [h]
theorem way_lo {l : List α} {a : Nat} (h : 2 ≤ l.length) (ha : a < half l.length) :
    way N E l a = way N E (l.take (half l.length)) a ++ [root N E (l.drop (half l.length))] := by
  rw [way, dif_neg (by omega), if_pos ha]
theorem way_hi {l : List α} {a : Nat} (h : 2 ≤ l.length) (ha : half l.length ≤ a) :
    way N E l a = way N E (l.drop (half l.length)) (a - half l.length) ++ [root N E (l.take (half l.length))] := by
  rw [way, dif_neg (by omega), if_neg (by omega)]

/-- A LEAF's WAY LEADS TO THE ROOT. -/
theorem lead_way : ∀ (m : Nat) (l : List α) (a : Nat) (x : α), l.length ≤ m → l[a]? = some x → lead N x a l.length (way N E l a) = some (root N E l) := by
  intro m
  induction m with
  | zero => intro l a x h hx; have : l = [] := List.eq_nil_of_length_eq_zero (by omega)
            subst this; simp at hx
  | succ m ih =>
    intro l a x h hx
    have ha : a < l.length := (List.getElem?_eq_some_iff.1 hx).1
    by_cases h2 : l.length < 2
    · match l, h2, ha with
      | [y], _, ha =>
        have : a = 0 := by simp at ha; exact ha
        subst this; simp at hx; subst hx
        rw [way_short N E (by simp), lead_one N _ _ _ (by simp), root_one]; simp
    · have g1 := half_lt (n := l.length) (by omega)
      have g3 := half_pos l.length
      rw [root_two N E (by omega)]
      by_cases hk : a < half l.length
      · have e1 : (l.take (half l.length)).length = half l.length := by simp; omega
        have := ih (l.take (half l.length)) a x (by omega) (by rw [List.getElem?_take, if_pos hk]; exact hx)
        rw [e1] at this
        rw [way_lo N E (by omega) hk, lead_lo N x (by omega) hk, this]; rfl
      · have e1 : (l.drop (half l.length)).length = l.length - half l.length := by simp
        have := ih (l.drop (half l.length)) (a - half l.length) x (by omega) (by rw [List.getElem?_drop, show half l.length + (a - half l.length) = a by omega]; exact hx)
        rw [e1] at this
        rw [way_hi N E (by omega) (by omega), lead_hi N x (by omega) (by omega), this]; rfl

theorem way_length : ∀ (m : Nat) (l : List α) (a : Nat), l.length ≤ m → (way N E l a).length = (dirs a l.length).length := by
  intro m
  induction m with
  | zero => intro l a h; rw [way_short N E (by omega), dirs_one (by omega)]; rfl
  | succ m ih =>
    intro l a h
    by_cases h2 : l.length < 2
    · rw [way_short N E h2, dirs_one (by omega)]; rfl
    · have g1 := half_lt (n := l.length) (by omega)
      have g3 := half_pos l.length
      by_cases hk : a < half l.length
      · rw [way_lo N E (by omega) hk, dirs_lo (by omega) hk, List.length_append, List.length_append, ih _ _ (by simp; omega)]
        rw [show (l.take (half l.length)).length = half l.length by simp; omega]; rfl
      · rw [way_hi N E (by omega) (by omega), dirs_hi (by omega) (by omega), List.length_append, List.length_append, ih _ _ (by simp; omega)]
        rw [show (l.drop (half l.length)).length = l.length - half l.length by simp]; rfl

/-! ### The check, from the leaf up -/

/-- 'for node is even and not 0: both halved' -/
def strip (node last : Nat) : Nat × Nat :=
  if _h : node % 2 = 0 ∧ node ≠ 0 then strip (node / 2) (last / 2) else (node, last)
termination_by node
decreasing_by omega

theorem strip_stop {node last : Nat} (h : node % 2 = 1 ∨ node = 0) : strip node last = (node, last) := by
  rw [strip, dif_neg (by omega)]
theorem strip_go {node last : Nat} (h : node % 2 = 0) (h0 : node ≠ 0) : strip node last = strip (node / 2) (last / 2) := by
  rw [strip, dif_pos ⟨h, h0⟩]

theorem strip_le (node last : Nat) : (strip node last).2 ≤ last := by
  induction node using Nat.strongRecOn generalizing last with
  | _ node ih =>
    by_cases h : node % 2 = 0 ∧ node ≠ 0
    · rw [strip_go h.1 h.2]; have := ih (node / 2) (by omega) (last / 2); omega
    · rw [strip_stop (by omega)]; exact Nat.le_refl _

theorem strip_same (node : Nat) : (strip node node).1 = (strip node node).2 := by
  induction node using Nat.strongRecOn with
  | _ node ih =>
    by_cases h : node % 2 = 0 ∧ node ≠ 0
    · rw [strip_go h.1 h.2]; exact ih (node / 2) (by omega)
    · rw [strip_stop (by omega)]

/-- The check's loop: what is left of the list's height, and what has come; none: there is more of the way than the list is high. -/
def climb {σ : Type} (f : σ → Bool × α → σ) (node last : Nat) (x : σ) : List α → Option (Nat × σ)
  | [] => some (last, x)
  | p :: rest =>
    if last = 0 then none
    else if node % 2 = 1 ∨ node = last then climb f ((strip node last).1 / 2) ((strip node last).2 / 2) (f x (true, p)) rest
    else climb f (node / 2) (last / 2) (f x (false, p)) rest

/-- The steps of a way, if it has the right length. -/
def steps {σ : Type} (f : σ → Bool × α → σ) (x : σ) (a n : Nat) (path : List α) : Option σ :=
  if path.length = (dirs a n).length then some (((dirs a n).zip path).foldl f x) else none

/-- Behind the stripping, the way goes on as it would have. -/
theorem dirs_strip : ∀ (node : Nat), node ≠ 0 → dirs node (node + 1) = true :: dirs ((strip node node).1 / 2) ((strip node node).2 / 2 + 1) := by
  intro node
  induction node using Nat.strongRecOn with
  | _ node ih =>
    intro h0
    rw [dirs_step (node + 1) (node + 1) node (Nat.le_refl _) (by omega) (by omega)]
    by_cases h : node % 2 = 1
    · rw [if_pos h, strip_stop (.inl h), show (node + 1 + 1) / 2 = node / 2 + 1 by omega]; rfl
    · rw [if_neg h, if_pos (by omega), strip_go (by omega) h0, show (node + 1 + 1) / 2 = node / 2 + 1 by omega, List.nil_append]
      exact ih (node / 2) (by omega) (by omega)

/-- THE CHECK FROM THE LEAF UP IS WHERE THE WAY LEADS. -/
theorem climb_steps {σ : Type} (f : σ → Bool × α → σ) : ∀ (path : List α) (node last : Nat) (x : σ), node ≤ last →
    ((climb f node last x path).bind fun r => if r.1 = 0 then some r.2 else none) = steps f x node (last + 1) path := by
  intro path
  induction path with
  | nil =>
    intro node last x h
    by_cases hl : last = 0
    · subst hl; simp [climb, steps, dirs_one]
    · unfold steps
      rw [dirs_step (last + 1) (last + 1) node (Nat.le_refl _) (by omega) (by omega)]
      by_cases ho : node % 2 = 1
      · simp [climb, hl, ho]
      · by_cases he : node = last
        · subst he
          have := dirs_strip node hl
          rw [dirs_step (node + 1) (node + 1) node (Nat.le_refl _) (by omega) (by omega)] at this
          rw [this]; simp [climb, hl]
        · simp [climb, hl, ho, he]
  | cons p rest ih =>
    intro node last x h
    by_cases hl : last = 0
    · subst hl; simp [climb, steps, dirs_one]
    rw [climb, if_neg hl]
    by_cases ho : node % 2 = 1
    · rw [if_pos (.inl ho), strip_stop (.inl ho), ih (node / 2) (last / 2) _ (by omega)]
      unfold steps
      rw [dirs_step (last + 1) (last + 1) node (Nat.le_refl _) (by omega) (by omega), if_pos ho, show (last + 1 + 1) / 2 = last / 2 + 1 by omega]
      simp
    by_cases he : node = last
    · subst he
      have hs := strip_same node
      rw [if_pos (.inr rfl), ih _ _ _ (by rw [hs]; exact Nat.le_refl _)]
      unfold steps
      rw [dirs_strip node hl]
      simp
    · rw [if_neg (by omega), ih (node / 2) (last / 2) _ (by omega)]
      unfold steps
      rw [dirs_step (last + 1) (last + 1) node (Nat.le_refl _) (by omega) (by omega), if_neg ho, show (last + 1 + 1) / 2 = last / 2 + 1 by omega]
      simp [he]

theorem climb_lead (x : α) (path : List α) (node last : Nat) (h : node ≤ last) :
    ((climb (up N) node last x path).bind fun r => if r.1 = 0 then some r.2 else none) = lead N x node (last + 1) path :=
  climb_steps (up N) path node last x h

end
end Sc
