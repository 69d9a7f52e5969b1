import Derived.Test.YtajgklomcapboaaGuard
import Derived.Test.YtajgklomcapboaaSpecs
import Derived.Test.YtajgklomcapboaaTree
/- Words for memory that several rows of change in: sums' lists, a range's struct. -/
namespace Sc
open Go Go.RowKit

theorem idCells_at (xs : List Sc.Id) (i k : Nat) (hi : i < xs.length) (hk : k < 32) : (idCells xs)[i * 32 + k]? = some (bv ((xs.getD i ⟨List.replicate 32 0, by simp⟩).l.getD k 0)) := by
  induction xs generalizing i with
  | nil => simp at hi
  | cons x xs ih =>
    have hx := x.h
    have e : idCells (x :: xs) = x.l.map bv ++ idCells xs := rfl
    rw [e]
    cases i with
    | zero =>
      rw [Nat.zero_mul, Nat.zero_add, List.getElem?_append_left (by rw [List.length_map, hx]; exact hk), List.getElem?_map, List.getD_cons_zero, List.getD_eq_getElem?_getD, List.getElem?_eq_getElem (by omega)]; rfl
    | succ i =>
      rw [List.getElem?_append_right (by rw [List.length_map, hx]; omega), List.length_map, hx, show (i + 1) * 32 + k - 32 = i * 32 + k by omega, List.getD_cons_succ]
      exact ih i (by simpa using hi)
theorem idCells_append (xs ys : List Sc.Id) : idCells (xs ++ ys) = idCells xs ++ idCells ys := by simp [idCells]
theorem idCells_one (x : Sc.Id) : idCells [x] = x.l.map bv := by simp [idCells]
theorem idCells_oneCell (xs : List Sc.Id) : ∀ u ∈ idCells xs, u.oneCell' = true := by
  intro u hu
  unfold idCells at hu
  obtain ⟨x, _, hx⟩ := List.mem_flatMap.1 hu
  exact bytes_one _ u hx
theorem idCells_take (xs : List Sc.Id) (n : Nat) : (idCells xs).take (n * 32) = idCells (xs.take n) := by
  rcases Nat.le_total xs.length n with h | h
  · rw [List.take_of_length_le (by rw [idCells_length]; omega), List.take_of_length_le h]
  · have e : xs = xs.take n ++ xs.drop n := (List.take_append_drop n xs).symm
    have hl : (idCells (xs.take n)).length = n * 32 := by rw [idCells_length, List.length_take, Nat.min_eq_left h]
    conv => lhs; rw [e, idCells_append]
    rw [List.take_append_of_le_length (by omega), List.take_of_length_le (by omega)]
theorem idCells_drop (xs : List Sc.Id) (n : Nat) : (idCells xs).drop (n * 32) = idCells (xs.drop n) := by
  rcases Nat.le_total xs.length n with h | h
  · rw [List.drop_of_length_le (by rw [idCells_length]; omega), List.drop_of_length_le h]; rfl
  · have e : xs = xs.take n ++ xs.drop n := (List.take_append_drop n xs).symm
    have hl : (idCells (xs.take n)).length = n * 32 := by rw [idCells_length, List.length_take, Nat.min_eq_left h]
    conv => lhs; rw [e, idCells_append]
    rw [List.drop_append_of_le_length (by omega), List.drop_of_length_le (by omega), List.nil_append]
/-- A sum's cells inside a list's. -/
theorem range_id {w : World} {b o : Nat} {xs : List Sc.Id} (h : w.rangeAt b o (idCells xs)) {i : Nat} {x : Sc.Id} (hx : xs[i]? = some x) : w.rangeAt b (o + i * 32) (x.l.map bv) := fun j u hu => by
  have hj : j < 32 := by have := (List.getElem?_eq_some_iff.1 hu).1; rwa [List.length_map, x.h] at this
  have hi := (List.getElem?_eq_some_iff.1 hx).1
  rw [Nat.add_assoc]
  refine h _ _ ?_
  have hxd : xs.getD i ⟨List.replicate 32 0, by simp⟩ = x := by rw [List.getD_eq_getElem?_getD, hx]; rfl
  rw [idCells_at xs i j hi hj, hxd, ← hu, List.getElem?_map, List.getD_eq_getElem?_getD, List.getElem?_eq_getElem (by rw [x.h]; exact hj)]; rfl

/-- The world b is a's, but for the rows of S and new ones. -/
structure Ch (S : Nat → Prop) (a b : World) : Prop where
  os : b.os = a.os
  tape : b.tape = a.tape
  output : b.output = a.output
  size : a.heap.size ≤ b.heap.size
  block : ∀ k, k < a.heap.size → ¬ S k → b.heap[k]? = a.heap[k]?
section
variable {S S' : Nat → Prop} {a b c w w' : World}
theorem Ch.refl (S : Nat → Prop) (w : World) : Ch S w w := ⟨rfl, rfl, rfl, Nat.le_refl _, fun _ _ _ => rfl⟩
theorem Ch.trans (h : Ch S a b) (k : Ch S' b c) (hs : ∀ r, S' r → S r ∨ a.heap.size ≤ r) : Ch S a c :=
  ⟨k.os.trans h.os, k.tape.trans h.tape, k.output.trans h.output, Nat.le_trans h.size k.size, fun i hi hn =>
    (k.block i (Nat.lt_of_lt_of_le hi h.size) (fun e => (hs i e).elim hn (fun h' => by omega))).trans (h.block i hi hn)⟩
theorem Ch.of {row : Option Nat} (h : a.grownBy b row) (hs : ∀ r, row = some r → S r) : Ch S a b :=
  ⟨h.os, h.tape, h.output, h.size, fun k hk hn => h.block k hk (fun e => hn (hs k e.symm))⟩
theorem Ch.gb {row : Option Nat} (h : Ch S a b) (k : b.grownBy c row) (hs : ∀ r, row = some r → S r ∨ a.heap.size ≤ r) : Ch S a c :=
  h.trans (Ch.of (S := fun r => row = some r) k fun _ h => h) hs
theorem Ch.alloc (h : Ch S a b) (o : Obj) : Ch S a (b.alloc o) := h.gb (World.grownBy_alloc b o none) (fun _ h => by cases h)
theorem Ch.drew (h : Ch S a b) : Ch S a b.drew := ⟨h.os, h.tape, h.output, h.size, h.block⟩
theorem Ch.drewN (h : Ch S a b) (n : Nat) : Ch S a (b.drewN n) := ⟨h.os, h.tape, h.output, h.size, h.block⟩
theorem Ch.mono (h : Ch S a b) (hs : ∀ r, S r → S' r ∨ a.heap.size ≤ r) : Ch S' a b := ⟨h.os, h.tape, h.output, h.size, fun k hk hn => h.block k hk (fun e => (hs k e).elim hn (fun h' => by omega))⟩
theorem Ch.toGb (h : Ch S a b) (hs : ∀ r, S r → a.heap.size ≤ r) : a.grownBy b none := ⟨h.os, h.tape, h.output, h.size, fun k hk _ => h.block k hk (fun e => by have := hs k e; omega)⟩
theorem Ch.bk (h : Ch S a b) {k : Nat} {t : TypeId} {l : List Value} (hb : Bk a k t l) (hn : ¬ S k) : Bk b k t l := (h.block k hb.lt hn).trans hb
theorem Ch.cell (h : Ch S a b) {k o : Nat} {u : Value} (hc : a.cell? ⟨k, o, none⟩ = some u) (hn : ¬ S k) : b.cell? ⟨k, o, none⟩ = some u := by
  have hlt : k < a.heap.size := by
    unfold World.cell? at hc
    split at hc
    · rename_i c t f hc'
      exact (Array.getElem?_eq_some_iff.1 hc').1
    · cases hc
  rw [World.cell?_of_block (h.block k hlt hn)]; exact hc
theorem Ch.rd (h : Ch S a b) {NB : Nat → Prop} {k n : Nat} {v : Value} {cs : List Value} (hr : Rd NB a k v n cs) (hn : ∀ r, NB r → ¬ S r) : Rd NB b k v n cs := hr.keep fun r _ _ hb hc => h.cell hc (hn r hb)
theorem Ch.ow (h : Ch S a b) {B k n : Nat} {v : Value} {cs : List Value} (ho : Ow B a k v n cs) (hn : ∀ r, v.ownBlock = some r → ¬ S r) : Ow B b k v n cs := by
  obtain ⟨h1, A, c, rfl, h2, h3, h4, h5⟩ := ho
  refine ⟨h1, A, c, rfl, h2, h3, h4, fun ad had => ?_⟩
  obtain ⟨r, o, rfl, hB, hlt, hc, hr⟩ := h5 ad had
  subst had
  have hnr := hn r rfl
  have hb := h.block r hlt hnr
  refine ⟨r, o, rfl, hB, Nat.lt_of_lt_of_le hlt h.size, fun j hj => ⟨?_, ?_⟩, fun j u hu => ?_⟩
  · rw [World.cell?_of_block hb]; exact (hc j hj).1
  · have := (hc j hj).2
    unfold World.frozen? at this ⊢
    dsimp only at this ⊢
    rw [hb]; exact this
  · rw [World.cell?_of_block hb]; exact hr j u hu
theorem Ch.range (h : Ch S a b) {k o : Nat} {l : List Value} (hr : a.rangeAt k o l) (hn : ¬ S k) : b.rangeAt k o l := fun j u hu => h.cell (hr j u hu) hn
end
/-- The first n elements of an own slice. -/
theorem Ow.takeTo {B k n c : Nat} {A : Option Addr} {w : World} {cs : List Value} (h : Ow B w k (.slice A n c) n cs) (j : Nat) (hj : j ≤ n) : Ow B w k (.slice A j c) j (cs.take (j * k)) := by
  obtain ⟨h1, A', c', he, h2, h3, h4, h5⟩ := h
  injection he with e1 _ e2
  subst e1 e2
  refine ⟨by rw [List.length_take, h1]; exact Nat.min_eq_left (Nat.mul_le_mul_right _ hj), A, c, rfl, by omega, h3, h4, fun ad had => ?_⟩
  obtain ⟨r, o, e, hB, hlt, hc, hr⟩ := h5 ad had
  refine ⟨r, o, e, hB, hlt, hc, fun m u hu => hr m u ?_⟩
  rw [List.getElem?_take] at hu
  split at hu
  · exact hu
  · cases hu
theorem and64i' (x y : BitVec 64) : bits .and .i64 (x.toNat : Int) (y.toNat : Int) = IntKind.i64.wrap ((x &&& y).toNat : Int) := by
  unfold bits
  simp only [IntKind.bits, BitVec.ofInt_natCast, BitVec.ofNat_toNat, BitVec.setWidth_eq]
  rfl
theorem bits_and_nat (m k : Nat) (hm : m < 9223372036854775808) (hk : k < 9223372036854775808) : bits .and .i64 (m : Int) (k : Int) = ((m &&& k : Nat) : Int) := by
  have := and64i' (BitVec.ofNat 64 m) (BitVec.ofNat 64 k)
  rw [BitVec.toNat_and, BitVec.toNat_ofNat, BitVec.toNat_ofNat, Nat.mod_eq_of_lt (by omega), Nat.mod_eq_of_lt (by omega)] at this
  rw [this]
  have h : m &&& k ≤ m := Nat.and_le_left
  exact IntWalk.i64_in _ (by omega)
theorem and_one_even (m : Nat) (h : m % 2 = 0) (hm : m < 9223372036854775808) : bits .and .i64 (m : Int) 1 = 0 := by
  have := bits_and_nat m 1 hm (by decide)
  rw [Nat.and_one_is_mod, h] at this; exact this
theorem and_one_odd (m : Nat) (h : m % 2 = 1) (hm : m < 9223372036854775808) : bits .and .i64 (m : Int) 1 = 1 := by
  have := bits_and_nat m 1 hm (by decide)
  rw [Nat.and_one_is_mod, h] at this; exact this
/-- The sum of two sums; of nothing. -/
def nd (x y : Sc.Id) : Sc.Id := sha (1 :: (x.l ++ y.l))
def e0 : Sc.Id := sha []
/-- A leaf pushed onto tops, from the left. -/
def push1 (n : Nat) (ts : List Sc.Id) (x : Sc.Id) : List Sc.Id := (pushR nd n ts.reverse x).reverse
def pushes (n : Nat) (ts : List Sc.Id) : List Sc.Id → List Sc.Id
  | [] => ts
  | x :: xs => pushes (n + 1) (push1 n ts x) xs
theorem pushes_tops (l : List Sc.Id) : ∀ (xs : List Sc.Id), pushes l.length (tops nd e0 l) xs = tops nd e0 (l ++ xs) := by
  intro xs
  induction xs generalizing l with
  | nil => simp [pushes]
  | cons x xs ih =>
    have h1 : push1 l.length (tops nd e0 l) x = tops nd e0 (l ++ [x]) := by
      unfold push1
      rw [pushR_tops nd e0 l.length l x (Nat.le_refl _), List.reverse_reverse]
    unfold pushes
    rw [h1]
    have := ih (l ++ [x])
    rw [List.length_append] at this
    rw [show l.length + 1 = l.length + [x].length from rfl, this, List.append_assoc]; rfl
theorem split_last (ts : List Sc.Id) (h : 0 < ts.length) : ∃ st t, ts = st ++ [t] := by
  have hne : ts ≠ [] := by intro e; rw [e] at h; simp at h
  exact ⟨ts.dropLast, ts.getLast hne, (List.dropLast_concat_getLast hne).symm⟩
theorem push1_length' : ∀ (m n : Nat) (ts : List Sc.Id) (x : Sc.Id), n ≤ m → ts.length = ones n → (push1 n ts x).length = ones (n + 1) := by
  intro m
  induction m with
  | zero =>
    intro n ts x hn hl
    obtain rfl : n = 0 := by omega
    unfold push1
    rw [pushR_even nd (by rfl), ones_step 1, ones_zero]
    rw [ones_zero] at hl
    simp [hl]
  | succ m ih =>
    intro n ts x hn hl
    rcases Nat.mod_two_eq_zero_or_one n with h | h
    · unfold push1
      rw [pushR_even nd h, ones_step (n + 1), List.length_reverse, List.length_cons, List.length_reverse, hl, ones_step n, show (n + 1) / 2 = n / 2 by omega]; omega
    · have h1 : ts.length = 1 + ones (n / 2) := by rw [hl, ones_step n]; omega
      obtain ⟨st, t, rfl⟩ := split_last ts (by omega)
      have h2 : push1 n (st ++ [t]) x = push1 (n / 2) st (nd t x) := by unfold push1; rw [List.reverse_append]; exact congrArg List.reverse (pushR_odd nd h t st.reverse x)
      rw [h2, ih (n / 2) st _ (by omega) (by rw [List.length_append] at h1; simp at h1; omega), ones_step (n + 1), show (n + 1) / 2 = n / 2 + 1 by omega]; omega
theorem push1_length (n : Nat) (ts : List Sc.Id) (x : Sc.Id) (h : ts.length = ones n) : (push1 n ts x).length = ones (n + 1) := push1_length' n n ts x (Nat.le_refl _) h
theorem pushes_length : ∀ (xs : List Sc.Id) (n : Nat) (ts : List Sc.Id), ts.length = ones n → (pushes n ts xs).length = ones (n + xs.length)
  | [], _, _, h => h
  | x :: xs, n, ts, h => by
    unfold pushes
    rw [pushes_length xs (n + 1) _ (push1_length n ts x h), List.length_cons]; congr 1; omega
theorem pushes_snoc : ∀ (xs : List Sc.Id) (n : Nat) (ts : List Sc.Id) (x : Sc.Id), pushes n ts (xs ++ [x]) = push1 (n + xs.length) (pushes n ts xs) x
  | [], _, _, _ => rfl
  | y :: xs, n, ts, x => by
    show pushes (n + 1) (push1 n ts y) (xs ++ [x]) = _
    rw [pushes_snoc xs (n + 1) _ x, List.length_cons, show n + (xs.length + 1) = n + 1 + xs.length by omega]; rfl
theorem pushes_take (n : Nat) (ts xs : List Sc.Id) (i : Nat) (x : Sc.Id) (h : xs[i]? = some x) : pushes n ts (xs.take (i + 1)) = push1 (n + i) (pushes n ts (xs.take i)) x := by
  have hi := (List.getElem?_eq_some_iff.1 h).1
  rw [List.take_add_one, h, Option.toList_some, pushes_snoc, List.length_take, Nat.min_eq_left (by omega)]
theorem ones_le_log : ∀ (k n : Nat), n < 2 ^ k → ones n ≤ k
  | 0, n, h => by obtain rfl : n = 0 := by simpa using h
                  rw [ones_zero]; exact Nat.le_refl _
  | k + 1, n, h => by
    rw [ones_step n]
    have := ones_le_log k (n / 2) (by rw [Nat.pow_succ] at h; omega)
    omega
theorem push1_even (n : Nat) (ts : List Sc.Id) (x : Sc.Id) (h : n % 2 = 0) : push1 n ts x = ts ++ [x] := by
  unfold push1; rw [pushR_even nd h]; simp
theorem push1_odd (n : Nat) (ts : List Sc.Id) (t x : Sc.Id) (h : n % 2 = 1) : push1 n (ts ++ [t]) x = push1 (n / 2) ts (nd t x) := by
  unfold push1; rw [List.reverse_append]; exact congrArg List.reverse (pushR_odd nd h t ts.reverse x)
end Sc
