import Derived.Test.YtajgklomcapboaaSha
/- The blocks of a text: whole ones, and the last ones, filled up. -/
namespace Sc

/-- What lies behind the whole blocks. -/
def rest (l : List UInt8) : List UInt8 := l.drop (64 * (l.length / 64))

theorem rest_length (l : List UInt8) : (rest l).length = l.length % 64 := by unfold rest; rw [List.length_drop]; omega

theorem chunks_length (n : Nat) (l : List UInt8) : (chunks n l).length = n := by
  induction n generalizing l with
  | zero => rfl
  | succ n ih => simp [chunks, ih]

theorem chunks_add (a b : Nat) (l : List UInt8) : chunks (a + b) l = chunks a l ++ chunks b (l.drop (64 * a)) := by
  induction a generalizing l with
  | zero => simp [chunks]
  | succ a ih =>
    rw [show a + 1 + b = (a + b) + 1 by omega, chunks, chunks, ih]
    simp only [List.drop_drop, List.cons_append]
    rw [show 64 + 64 * a = 64 * (a + 1) by omega]

theorem chunks_append (a : Nat) (l m : List UInt8) (h : 64 * a ≤ l.length) : chunks a (l ++ m) = chunks a l := by
  induction a generalizing l with
  | zero => rfl
  | succ a ih =>
    rw [chunks, chunks, List.take_append_of_le_length (by omega), List.drop_append_of_le_length (by omega), ih _ (by simp; omega)]

theorem chunks_take (a n : Nat) (l : List UInt8) (h : 64 * a ≤ n) (h2 : n ≤ l.length) : chunks a (l.take n) = chunks a l := by
  have := chunks_append a (l.take n) (l.drop n) (by simp; omega)
  rw [List.take_append_drop] at this
  exact this.symm

theorem chunks_succ (a : Nat) (l : List UInt8) : chunks (a + 1) l = chunks a l ++ [(l.drop (64 * a)).take 64] := by
  rw [chunks_add]; rfl

theorem chunk_length {n : Nat} {l : List UInt8} (h : 64 * n ≤ l.length) : ∀ b ∈ chunks n l, b.length = 64 := by
  induction n generalizing l with
  | zero => intro b hb; cases hb
  | succ n ih =>
    intro b hb
    rcases List.mem_cons.1 hb with e | e
    · subst e; simp; omega
    · exact ih (by simp; omega) b e

/-- The last blocks. -/
def lastOne (l : List UInt8) : List UInt8 := rest l ++ 0x80 :: (List.replicate (55 - l.length % 64) 0 ++ be64 (8 * l.length))
def lastA (l : List UInt8) : List UInt8 := rest l ++ 0x80 :: List.replicate (63 - l.length % 64) 0
def lastB (l : List UInt8) : List UInt8 := List.replicate 56 0 ++ be64 (8 * l.length)

theorem be64_length (n : Nat) : (be64 n).length = 8 := rfl

theorem blocks_lo (l : List UInt8) (h : l.length % 64 < 56) : blocks l = chunks (l.length / 64) l ++ [lastOne l] := by
  unfold blocks
  rw [show (l.length + 72) / 64 = l.length / 64 + 1 by omega, chunks_add]
  unfold padded
  rw [chunks_append _ _ _ (by omega), List.drop_append_of_le_length (by omega)]
  congr 1
  unfold zeros lastOne
  rw [if_pos h]
  simp only [chunks]
  rw [List.take_of_length_le]
  · rfl
  · have := rest_length l
    unfold rest at this
    simp only [List.length_append, List.length_cons, List.length_replicate, be64_length, this]
    omega

theorem blocks_hi (l : List UInt8) (h : 56 ≤ l.length % 64) : blocks l = chunks (l.length / 64) l ++ [lastA l, lastB l] := by
  unfold blocks
  rw [show (l.length + 72) / 64 = l.length / 64 + 2 by omega, chunks_add]
  unfold padded
  rw [chunks_append _ _ _ (by omega), List.drop_append_of_le_length (by omega)]
  congr 1
  have hr := rest_length l
  have e : l.drop (64 * (l.length / 64)) ++ 0x80 :: (List.replicate (zeros l.length) 0 ++ be64 (8 * l.length)) = lastA l ++ lastB l := by
    unfold zeros lastA lastB
    rw [if_neg (by omega), show 119 - l.length % 64 = (63 - l.length % 64) + 56 by omega, ← List.replicate_append_replicate]
    simp [rest]
  have hA : (lastA l).length = 64 := by unfold lastA; simp [hr]; omega
  have hB : (lastB l).length = 64 := by unfold lastB; simp [be64_length]
  rw [e]
  simp only [chunks]
  rw [List.take_append_of_le_length (by omega), List.take_of_length_le (by omega), List.drop_append_of_le_length (by omega), List.drop_of_length_le (by omega), List.nil_append,
    List.take_of_length_le (by omega)]

theorem lastOne_length (l : List UInt8) (h : l.length % 64 < 56) : (lastOne l).length = 64 := by
  unfold lastOne; have := rest_length l; simp [this, be64_length]; omega
theorem lastA_length (l : List UInt8) : (lastA l).length = 64 := by
  unfold lastA; have := rest_length l; simp [this]; omega
theorem lastB_length (l : List UInt8) : (lastB l).length = 64 := by
  unfold lastB; simp [be64_length]

theorem blocks_length (l : List UInt8) : (blocks l).length = (l.length + 72) / 64 := chunks_length _ _
theorem blocks_all (l : List UInt8) : ∀ b ∈ blocks l, b.length = 64 := chunk_length (by rw [padded_length]; omega)

theorem chunks_prefix (l : List UInt8) (k : Nat) (h : k ≤ l.length / 64) : chunks k l <+: blocks l := by
  have e : chunks (l.length / 64) l = chunks k l ++ chunks (l.length / 64 - k) (l.drop (64 * k)) := by
    rw [← chunks_add, show k + (l.length / 64 - k) = l.length / 64 by omega]
  by_cases hc : l.length % 64 < 56
  · rw [blocks_lo l hc, e, List.append_assoc]; exact List.prefix_append _ _
  · rw [blocks_hi l (by omega), e, List.append_assoc]; exact List.prefix_append _ _

/-- The last blocks' bytes but the count. -/
def lastHead (l : List UInt8) : List UInt8 := if l.length % 64 < 56 then rest l ++ 0x80 :: List.replicate (55 - l.length % 64) 0 else List.replicate 56 0
theorem lastHead_length (l : List UInt8) : (lastHead l).length = 56 := by
  unfold lastHead; have := rest_length l
  split <;> simp [this]; omega

/-- Byte i of the count, the lowest first. -/
theorem be64_at (n i : Nat) (h : i < 8) : (be64 n)[7 - i]? = some (UInt8.ofNat (n / 256 ^ i)) := by
  match i, h with
  | 0, _ => simp [be64]
  | 1, _ => simp [be64]
  | 2, _ => simp [be64]
  | 3, _ => simp [be64]
  | 4, _ => simp [be64]
  | 5, _ => simp [be64]
  | 6, _ => simp [be64]
  | 7, _ => simp [be64]
end Sc
