import Derived.Test.YtajgklomcapboaaTree
import Derived.Test.YtajgklomcapboaaEntries
/- Sums cut short: the text whose sum is a list's root, over any way to sum. -/
namespace Sc
open Go Go.RowKit
section
variable (H : List UInt8 → Id)
/-- The text whose sum is the root of entries. -/
def topH : List (List UInt8) → List UInt8
  | [] => []
  | [x] => 0 :: x
  | x :: y :: l => 1 :: ((H (topH ((x :: y :: l).take (half (l.length + 2))))).l ++ (H (topH ((x :: y :: l).drop (half (l.length + 2))))).l)
termination_by l => l.length
decreasing_by
  all_goals
    have h1 := half_lt (n := l.length + 2) (by omega)
    have h2 := half_pos (l.length + 2)
    simp only [List.length_take, List.length_drop, List.length_cons]
    omega
def rootH (l : List (List UInt8)) : Id := H (topH H l)
theorem topH_nil : topH H [] = [] := by rw [topH]
theorem topH_one (x : List UInt8) : topH H [x] = 0 :: x := by rw [topH]
theorem topH_two {l : List (List UInt8)} (h : 2 ≤ l.length) : topH H l = 1 :: ((rootH H (l.take (half l.length))).l ++ (rootH H (l.drop (half l.length))).l) := by
  match l, h with
  | x :: y :: l, _ => rw [topH]; rfl
/-- With whole sums: the tree's root. -/
theorem rootH_sha : ∀ (n : Nat) (l : List (List UInt8)), l.length ≤ n → rootH sha l = root nd e0 (l.map leafS)
  | n, [], _ => by rw [rootH, topH_nil, List.map_nil, root_nil]; rfl
  | n, [x], _ => by rw [rootH, topH_one, List.map_cons, List.map_nil, root_one]; rfl
  | 0, x :: y :: l, h => by simp at h
  | n + 1, x :: y :: l, h => by
    have h2 : 2 ≤ (x :: y :: l).length := by simp
    have h1 := half_lt h2
    have h3 := half_pos (x :: y :: l).length
    rw [rootH, topH_two sha h2, root_two nd e0 (l := (x :: y :: l).map leafS) (by rw [List.length_map]; exact h2), List.length_map, ← List.map_take, ← List.map_drop,
      rootH_sha n _ (by rw [List.length_take]; omega), rootH_sha n _ (by rw [List.length_drop]; omega)]
    rfl
end
/-- How many bytes count. -/
def cutN (c : Int) : Nat := (max 1 (min c 32)).toNat
theorem cutN_le (c : Int) : 1 ≤ cutN c ∧ cutN c ≤ 32 := by unfold cutN; omega
def cutId (n : Nat) (x : Id) : Id := ⟨x.l.take n ++ List.replicate (32 - min n 32) 0, by rw [List.length_append, List.length_take, x.h, List.length_replicate]; omega⟩
theorem cutId_all (x : Id) : cutId 32 x = x := Id.ext' (by
  show x.l.take 32 ++ List.replicate (32 - min 32 32) 0 = x.l
  rw [List.take_of_length_le (by rw [x.h]; exact Nat.le_refl _)]; simp)
def sumC (c : Int) (l : List UInt8) : Id := cutId (cutN c) (sha l)
theorem sumC_whole {c : Int} (h : 32 ≤ c) : sumC c = sha := by
  funext l
  have e : cutN c = 32 := by unfold cutN; omega
  unfold sumC
  rw [e, cutId_all]
theorem topH_len (c : Int) {l : List (List UInt8)} (h : ∀ x ∈ l, x.length ≤ 1000000) : (topH (sumC c) l).length ≤ 1000001 := by
  match l, h with
  | [], _ => rw [topH_nil]; exact Nat.zero_le _
  | [x], h => rw [topH_one, List.length_cons]; have := h x (by simp); omega
  | x :: y :: l, _ => rw [topH_two _ (by simp), List.length_cons, List.length_append, Id.h, Id.h]; omega
end Sc
