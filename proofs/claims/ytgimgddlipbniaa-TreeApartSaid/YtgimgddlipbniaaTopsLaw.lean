import Derived.Test.YtgimgddlipbniaaRefPeaks
/- The tops are the roots of the whole trees that Peaks tells. -/
namespace Sc
open Go Go.RowKit
theorem tops_pks (full : List Sc.Id) : ∀ (m : Nat) (f r : Nat), r ≤ m → f + r = full.length → tops nd e0 (full.drop f) = (pks f r).map fun p => root nd e0 ((full.drop p.1).take p.2) := by
  intro m
  induction m with
  | zero => intro f r h1 h2; obtain rfl : r = 0 := by omega
            rw [pks_zero, List.drop_of_length_le (by omega), tops_nil]; rfl
  | succ m ih =>
    intro f r h1 h2
    by_cases h0 : r = 0
    · subst h0; rw [pks_zero, List.drop_of_length_le (by omega), tops_nil]; rfl
    · have hl : (full.drop f).length = r := by rw [List.length_drop]; omega
      have hp := peak_pos r
      have hle := peak_le (n := r) (by omega)
      rw [tops_cons nd e0 (fun h => by rw [h] at hl; simp at hl; omega), hl, pks_pos f (by omega), List.drop_drop, ih (f + peak r) (r - peak r) (by omega) (by omega)]
      rfl
theorem tops_eq (l : List Sc.Id) : tops nd e0 l = (pks 0 l.length).map fun p => root nd e0 ((l.drop p.1).take p.2) := by
  have := tops_pks l l.length 0 l.length (Nat.le_refl _) (by omega)
  rwa [List.drop_zero] at this
theorem pks_in : ∀ (m f r : Nat), r ≤ m → ∀ p ∈ pks f r, f ≤ p.1 ∧ 1 ≤ p.2 ∧ p.1 + p.2 ≤ f + r := by
  intro m
  induction m with
  | zero => intro f r h p hp; obtain rfl : r = 0 := by omega
            rw [pks_zero] at hp; cases hp
  | succ m ih =>
    intro f r h p hp
    by_cases h0 : r = 0
    · subst h0; rw [pks_zero] at hp; cases hp
    · have hpp := peak_pos r
      have hle := peak_le (n := r) (by omega)
      rw [pks_pos f (by omega)] at hp
      rcases List.mem_cons.1 hp with rfl | hp
      · exact ⟨Nat.le_refl _, hpp, by omega⟩
      · have := ih (f + peak r) (r - peak r) (by omega) p hp
        omega
open Go.Proofs.Ytgimgddlipbniaa in
theorem pks_len (n : Nat) : (pks 0 n).length = ones n := by
  have h := tops_eq (List.replicate n ⟨List.replicate 32 0, by simp⟩)
  have h2 := tops_len (List.replicate n (⟨List.replicate 32 0, by simp⟩ : Sc.Id))
  rw [h, List.length_map, List.length_replicate] at h2
  exact h2
end Sc
