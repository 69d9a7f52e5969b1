import Derived.Test.YtajgklomcapboaaWay
/- Links between a list and its beginnings, as plain Lean. -/
namespace Sc

/-- The sides on a link's way, the lowest first. -/
def ldirs (m n : Nat) : List Bool :=
  if _h : n ≤ m ∨ n ≤ 1 then [] else
  if m ≤ half n then ldirs m (half n) ++ [false] else ldirs (m - half n) (n - half n) ++ [true]
termination_by n
decreasing_by
  · exact half_lt (by omega)
  · have := half_pos n; omega

/-- Whether the elder list is a whole tree on the left edge. -/
def whole (m n : Nat) : Bool :=
  if _h : n ≤ m ∨ n ≤ 1 then true else
  if m ≤ half n then whole m (half n) else false
termination_by n
decreasing_by exact half_lt (by omega)

theorem ldirs_end {m n : Nat} (h : n ≤ m) : ldirs m n = [] := by rw [ldirs]; simp [h]
theorem ldirs_lo {m n : Nat} (h2 : 2 ≤ n) (h : m < n) (hk : m ≤ half n) : ldirs m n = ldirs m (half n) ++ [false] := by
  rw [ldirs, dif_neg (by omega), if_pos hk]
theorem ldirs_hi {m n : Nat} (h2 : 2 ≤ n) (h : m < n) (hk : half n < m) : ldirs m n = ldirs (m - half n) (n - half n) ++ [true] := by
  rw [ldirs, dif_neg (by omega), if_neg (by omega)]
theorem whole_end {m n : Nat} (h : n ≤ m) : whole m n = true := by rw [whole]; simp [h]
theorem whole_lo {m n : Nat} (h2 : 2 ≤ n) (h : m < n) (hk : m ≤ half n) : whole m n = whole m (half n) := by
  rw [whole, dif_neg (by omega), if_pos hk]
theorem whole_hi {m n : Nat} (h2 : 2 ≤ n) (h : m < n) (hk : half n < m) : whole m n = false := by
  rw [whole, dif_neg (by omega), if_neg (by omega)]

theorem half_even {n : Nat} (h : 3 ≤ n) : half n % 2 = 0 := by
  have := half_half h; omega

/-- An even beginning: pairs are as good as leaves. -/
theorem link_even : ∀ (M n m : Nat), n ≤ M → m % 2 = 0 → 2 ≤ m → m ≤ n → ldirs m n = ldirs (m / 2) ((n + 1) / 2) ∧ whole m n = whole (m / 2) ((n + 1) / 2) := by
  intro M
  induction M with
  | zero => intro n m h1 h2 h3 h4; omega
  | succ M ih =>
    intro n m h1 h2 h3 h4
    by_cases he : m = n
    · subst he
      rw [ldirs_end (Nat.le_refl _), ldirs_end (m := m / 2) (by omega), whole_end (Nat.le_refl _), whole_end (m := m / 2) (by omega)]; exact ⟨rfl, rfl⟩
    · have hh := half_half (n := n) (by omega)
      have g1 := half_lt (n := n) (by omega)
      have g2 := half_ge (n := n) (by omega)
      have g3 := half_pos ((n + 1) / 2)
      by_cases hk : m ≤ half n
      · obtain ⟨e1, e2⟩ := ih (half n) m (by omega) h2 h3 hk
        rw [ldirs_lo (by omega) (by omega) hk, ldirs_lo (m := m / 2) (n := (n + 1) / 2) (by omega) (by omega) (by omega), whole_lo (by omega) (by omega) hk,
          whole_lo (m := m / 2) (n := (n + 1) / 2) (by omega) (by omega) (by omega), e1, e2, show (half n + 1) / 2 = half ((n + 1) / 2) by omega]
        exact ⟨rfl, rfl⟩
      · obtain ⟨e1, _⟩ := ih (n - half n) (m - half n) (by omega) (by omega) (by omega) (by omega)
        rw [ldirs_hi (by omega) (by omega) (by omega), ldirs_hi (m := m / 2) (n := (n + 1) / 2) (by omega) (by omega) (by omega), whole_hi (by omega) (by omega) (by omega),
          whole_hi (m := m / 2) (n := (n + 1) / 2) (by omega) (by omega) (by omega), e1, show (m - half n) / 2 = m / 2 - half ((n + 1) / 2) by omega,
          show (n - half n + 1) / 2 = (n + 1) / 2 - half ((n + 1) / 2) by omega]
        exact ⟨rfl, rfl⟩

/-- An odd beginning: the way of its last leaf. -/
theorem link_odd : ∀ (M n m : Nat), n ≤ M → m % 2 = 1 → m < n → ldirs m n = dirs (m - 1) n ∧ whole m n = (m == 1) := by
  intro M
  induction M with
  | zero => intro n m h1 h2 h3; omega
  | succ M ih =>
    intro n m h1 h2 h3
    by_cases hn : n = 2
    · subst hn
      have : m = 1 := by omega
      subst this
      rw [ldirs_lo (by omega) (by omega) (by rw [half_two]; omega), dirs_lo (by omega) (by rw [half_two]; omega), whole_lo (by omega) (by omega) (by rw [half_two]; omega),
        half_two, ldirs_end (by omega), dirs_one (by omega), whole_end (by omega)]
      exact ⟨rfl, rfl⟩
    have he := half_even (n := n) (by omega)
    have g1 := half_lt (n := n) (by omega)
    have g2 := half_ge (n := n) (by omega)
    have g3 := half_pos n
    by_cases hk : m ≤ half n
    · obtain ⟨e1, e2⟩ := ih (half n) m (by omega) h2 (by omega)
      rw [ldirs_lo (by omega) h3 hk, dirs_lo (by omega) (by omega), whole_lo (by omega) h3 hk, e1, e2]
      exact ⟨rfl, rfl⟩
    · obtain ⟨e1, _⟩ := ih (n - half n) (m - half n) (by omega) (by omega) (by omega)
      rw [ldirs_hi (by omega) h3 (by omega), dirs_hi (by omega) (by omega), whole_hi (by omega) h3 (by omega), e1, show m - half n - 1 = m - 1 - half n by omega]
      refine ⟨rfl, ?_⟩
      rw [eq_comm, beq_eq_false_iff_ne]; omega

/-- 'for node is odd: both halved' -/
def strip1 (node last : Nat) : Nat × Nat :=
  if _h : node % 2 = 1 then strip1 (node / 2) (last / 2) else (node, last)
termination_by node
decreasing_by omega

theorem strip1_stop {node last : Nat} (h : node % 2 = 0) : strip1 node last = (node, last) := by
  rw [strip1, dif_neg (by omega)]
theorem strip1_go {node last : Nat} (h : node % 2 = 1) : strip1 node last = strip1 (node / 2) (last / 2) := by
  rw [strip1, dif_pos h]

theorem link_strip : ∀ (node last : Nat), node < last →
    ldirs (node + 1) (last + 1) = dirs (strip1 node last).1 ((strip1 node last).2 + 1) ∧ whole (node + 1) (last + 1) = ((strip1 node last).1 == 0) ∧
    (strip1 node last).1 < (strip1 node last).2 := by
  intro node
  induction node using Nat.strongRecOn with
  | _ node ih =>
    intro last h
    by_cases ho : node % 2 = 1
    · obtain ⟨e1, e2⟩ := link_even (last + 1) (last + 1) (node + 1) (Nat.le_refl _) (by omega) (by omega) (by omega)
      rw [strip1_go ho, e1, e2, show (node + 1) / 2 = node / 2 + 1 by omega, show (last + 1 + 1) / 2 = last / 2 + 1 by omega]
      exact ih (node / 2) (by omega) (last / 2) (by omega)
    · obtain ⟨e1, e2⟩ := link_odd (last + 1) (last + 1) (node + 1) (Nat.le_refl _) (by omega) (by omega)
      rw [strip1_stop (by omega), e1, e2]
      exact ⟨rfl, by simp, h⟩

section
variable {α : Type} (N : α → α → α) (E : α)

/-- One step up with both roots. -/
def up2 (s : α × α) (p : Bool × α) : α × α := if p.1 then (N p.2 s.1, N p.2 s.2) else (s.1, N s.2 p.2)

/-- The two roots to which a link leads (by halves). -/
def links (one : α) (w : Bool) (m n : Nat) (path : List α) : Option (α × α) :=
  if (w && whole m n) = true then (if path.length = (ldirs m n).length then some (((ldirs m n).zip path).foldl (up2 N) (one, one)) else none)
  else match path with
    | [] => none
    | p :: rest => if rest.length = (ldirs m n).length then some (((ldirs m n).zip rest).foldl (up2 N) (p, p)) else none

theorem links_end_whole (one : α) (n : Nat) (path : List α) : links N one true n n path = if path = [] then some (one, one) else none := by
  unfold links
  rw [whole_end (Nat.le_refl _), ldirs_end (Nat.le_refl _)]
  cases path <;> simp
theorem links_end_not (one : α) (n : Nat) (path : List α) : links N one false n n path = match path with | [p] => some (p, p) | _ => none := by
  unfold links
  rw [ldirs_end (Nat.le_refl _)]
  match path with
  | [] => simp
  | [p] => simp
  | p :: q :: r => simp
theorem links_nil (one : α) (w : Bool) {m n : Nat} (h : m < n) (h2 : 2 ≤ n) : links N one w m n [] = none := by
  unfold links
  split
  · by_cases hk : m ≤ half n
    · rw [ldirs_lo h2 h hk]; simp
    · rw [ldirs_hi h2 h (by omega)]; simp
  · rfl

theorem links_lo (one : α) (w : Bool) {m n : Nat} (h2 : 2 ≤ n) (h : m < n) (hk : m ≤ half n) (path : List α) (p : α) :
    links N one w m n (path ++ [p]) = (links N one w m (half n) path).map fun r => (r.1, N r.2 p) := by
  unfold links
  rw [ldirs_lo h2 h hk, whole_lo h2 h hk]
  by_cases hw : (w && whole m (half n)) = true
  · rw [if_pos hw, if_pos hw]
    by_cases hl : path.length = (ldirs m (half n)).length
    · rw [if_pos (by simp [hl]), if_pos hl, List.zip_append (by omega), List.foldl_append]; rfl
    · rw [if_neg (by simp [hl]), if_neg hl]; rfl
  · rw [if_neg hw, if_neg hw]
    cases path with
    | nil => simp
    | cons q path =>
      by_cases hl : path.length = (ldirs m (half n)).length
      · simp only [List.cons_append]
        rw [if_pos (by simp [hl]), if_pos hl, List.zip_append (by omega), List.foldl_append]; rfl
      · simp only [List.cons_append]
        rw [if_neg (by simp [hl]), if_neg hl]; rfl

theorem links_hi (one : α) (w : Bool) {m n : Nat} (h2 : 2 ≤ n) (h : m < n) (hk : half n < m) (path : List α) (p : α) :
    links N one w m n (path ++ [p]) = (links N one false (m - half n) (n - half n) path).map fun r => (N p r.1, N p r.2) := by
  unfold links
  rw [ldirs_hi h2 h hk, whole_hi h2 h hk]
  simp only [Bool.and_false, Bool.false_and, Bool.false_eq_true, if_false]
  cases path with
  | nil => simp
  | cons q path =>
    by_cases hl : path.length = (ldirs (m - half n) (n - half n)).length
    · simp only [List.cons_append]
      rw [if_pos (by simp [hl]), if_pos hl, List.zip_append (by omega), List.foldl_append]; rfl
    · simp only [List.cons_append]
      rw [if_neg (by simp [hl]), if_neg hl]; rfl

/-- A list's link to its beginning, by halves. -/
def link (l : List α) (m : Nat) (w : Bool) : List α :=
  if _h : l.length ≤ m ∨ l.length ≤ 1 then (if w then [] else [root N E l]) else
  if m ≤ half l.length then link (l.take (half l.length)) m w ++ [root N E (l.drop (half l.length))]
  else link (l.drop (half l.length)) (m - half l.length) false ++ [root N E (l.take (half l.length))]
termination_by l.length
decreasing_by
  · have := half_lt (n := l.length) (by omega); simp only [List.length_take]; omega
  · have := half_pos l.length; simp only [List.length_drop]; omega

theorem link_end {l : List α} {m : Nat} {w : Bool} (h : l.length ≤ m) : link N E l m w = if w then [] else [root N E l] := by rw [link]; simp [h]
theorem link_lo {l : List α} {m : Nat} {w : Bool} (h2 : 2 ≤ l.length) (h : m < l.length) (hk : m ≤ half l.length) :
    link N E l m w = link N E (l.take (half l.length)) m w ++ [root N E (l.drop (half l.length))] := by
  rw [link, dif_neg (by omega), if_pos hk]
theorem link_hi {l : List α} {m : Nat} {w : Bool} (h2 : 2 ≤ l.length) (h : m < l.length) (hk : half l.length < m) :
    link N E l m w = link N E (l.drop (half l.length)) (m - half l.length) false ++ [root N E (l.take (half l.length))] := by
  rw [link, dif_neg (by omega), if_neg (by omega)]

/-- A LINK LEADS TO BOTH ROOTS. -/
theorem links_link : ∀ (M : Nat) (l : List α) (m : Nat) (w : Bool) (one : α), l.length ≤ M → 1 ≤ m → m ≤ l.length →
    ((w && whole m l.length) = true → one = root N E (l.take m)) → links N one w m l.length (link N E l m w) = some (root N E (l.take m), root N E l) := by
  intro M
  induction M with
  | zero => intro l m w one h1 h2 h3; omega
  | succ M ih =>
    intro l m w one h1 h2 h3 hone
    by_cases he : m = l.length
    · subst he
      rw [link_end N E (Nat.le_refl _), List.take_length]
      cases w with
      | true => rw [links_end_whole]; simp only [if_true]; rw [hone (by rw [whole_end (Nat.le_refl _)]; rfl), List.take_length]
      | false => rw [links_end_not]; rfl
    · have g1 := half_lt (n := l.length) (by omega)
      have g2 := half_ge (n := l.length) (by omega)
      have g3 := half_pos l.length
      rw [root_two N E (l := l) (by omega)]
      by_cases hk : m ≤ half l.length
      · have e1 : (l.take (half l.length)).length = half l.length := by simp; omega
        have := ih (l.take (half l.length)) m w one (by omega) h2 (by omega) (by
          rw [e1, List.take_take, Nat.min_eq_left hk, ← whole_lo (m := m) (n := l.length) (by omega) (by omega) hk]; exact hone)
        rw [e1, List.take_take, Nat.min_eq_left hk] at this
        rw [link_lo N E (by omega) (by omega) hk, links_lo N one w (by omega) (by omega) hk, this]; rfl
      · have e1 : (l.drop (half l.length)).length = l.length - half l.length := by simp
        have := ih (l.drop (half l.length)) (m - half l.length) false one (by omega) (by omega) (by omega) (by simp)
        rw [e1] at this
        rw [link_hi N E (by omega) (by omega) (by omega), links_hi N one w (by omega) (by omega) (by omega), this]
        have hm : 2 ≤ m := by omega
        have e2 : (l.take m).length = m := by simp; omega
        have hh : half m = half l.length := half_of (j := (l.length - 1).log2) (by unfold half at *; omega) (by unfold half at *; omega)
        rw [root_two N E (l := l.take m) (by omega), e2, hh, List.take_take, Nat.min_eq_left (by omega), List.drop_take]
        rfl

end
end Sc
