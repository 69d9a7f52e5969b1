import Derived.Test.YtgimgddlipbniaaTopsLaw
import Derived.Test.YtgimgddlipbniaaGi
/- The iterator of tree.Peaks: it yields where whole trees begin, and how many leaves they have. -/
namespace Sc
open Go Go.RowKit
def bitv : Nat → Nat
  | 0 => 0
  | i + 1 => 2 ^ i
theorem bitv_half (i : Nat) : bitv (i + 1) / 2 = bitv i := by
  cases i with
  | zero => rfl
  | succ i => show 2 ^ (i + 1) / 2 = 2 ^ i; rw [Nat.pow_succ, Nat.mul_div_cancel _ (by decide)]
theorem bitv_le (j : Nat) (h : j ≤ 41) : bitv j ≤ 1099511627776 := by
  cases j with
  | zero => exact Nat.zero_le _
  | succ i => exact Nat.le_trans (Nat.pow_le_pow_right (by decide) (show i ≤ 40 by omega)) (by decide)
theorem bit_no {n i r : Nat} (h : n % 2 ^ (i + 1) = r) (hr : r < 2 ^ i) : n &&& bitv (i + 1) = 0 ∧ n % 2 ^ i = r := by
  have hp : 0 < 2 ^ i := Nat.two_pow_pos i
  rw [Nat.mod_pow_succ] at h
  have hb : n / 2 ^ i % 2 = 0 := by
    rcases Nat.mod_two_eq_zero_or_one (n / 2 ^ i) with e | e
    · exact e
    · rw [e] at h; omega
  refine ⟨?_, by rw [hb] at h; omega⟩
  show n &&& 2 ^ i = 0
  apply Nat.eq_of_testBit_eq
  intro k
  rw [Nat.testBit_and, Nat.testBit_two_pow, Nat.zero_testBit]
  by_cases h : i = k
  · subst h; rw [Nat.testBit_eq_decide_div_mod_eq, hb]; simp
  · simp [h]
theorem bit_yes {n i r : Nat} (h : n % 2 ^ (i + 1) = r) (hr : 2 ^ i ≤ r) : n &&& bitv (i + 1) = bitv (i + 1) ∧ n % 2 ^ i = r - 2 ^ i := by
  have hp : 0 < 2 ^ i := Nat.two_pow_pos i
  have hlt := Nat.mod_lt n hp
  rw [Nat.mod_pow_succ] at h
  have hb : n / 2 ^ i % 2 = 1 := by
    rcases Nat.mod_two_eq_zero_or_one (n / 2 ^ i) with e | e
    · rw [e] at h; omega
    · exact e
  refine ⟨?_, by rw [hb] at h; omega⟩
  show n &&& 2 ^ i = 2 ^ i
  apply Nat.eq_of_testBit_eq
  intro k
  rw [Nat.testBit_and, Nat.testBit_two_pow]
  by_cases h : i = k
  · subst h; rw [Nat.testBit_eq_decide_div_mod_eq, hb]; simp
  · simp [h]
theorem prefix_left {α : Type} {P A B : List α} (h : P = A ++ B) : A <+: P := ⟨B, h.symm⟩
end Sc
namespace Go.Proofs.Ytgimgddlipbniaa
open Go.RowKit Go.Shelf Sc
def encP (x : Nat × Nat) : Array Value := #[ic x.1, ic x.2]

set_option maxHeartbeats 4000000 in
theorem peaks_seq (bp n : Nat) (Mut : Nat → Prop) (w : World) (hbp : Bk w bp 3 [ic n]) (hm : ¬ Mut bp) (hn : n ≤ 1099511627776) :
    Seq Try.prog 46 #[.pointer (some ⟨bp, 0, none⟩)] encP Mut (fun xs => xs = pks 0 n) (fun pre => pre <+: pks 0 n) (pks 0 n).length w := by
  intro l J Jx W hW hJ hJx hY h0
  refine callsIn_wide.2 ?_
  have hbpW := hbp.below hW hbp.lt
  obtain ⟨P0, hP0⟩ : ∃ P0, P0 = pks 0 n := ⟨_, rfl⟩
  rw [← hP0] at hY ⊢
  have HP0 := Go.Lib.hid hP0
  clear hP0 hbp hW
  have hnI : (0 : Int) ≤ (n : Int) ∧ (n : Int) ≤ 1099511627776 := by omega
  go_enter Try.func46, Try.ntmps46
  go_wp2_with fail
  go_loopw [3, 4] (fun va vb wr => ∃ (a r j c : Nat) (pre : List (Nat × Nat)), va = ic a ∧ vb = ic c ∧ Hid (c = bitv j) ∧ j ≤ 41 ∧ a + r = n ∧ Hid (n % 2 ^ j = r) ∧ Hid (r < 2 ^ j) ∧ Hid (P0 = pre ++ pks a r) ∧ Hid (J pre [] wr) ∧ Hid (Bk wr bp 3 [ic n]))
    (fun _ vb _ => (intOf vb).toNat)
  case atStart => exact ⟨0, n, 41, 1099511627776, [], rfl, rfl, Go.Lib.hid (by decide), by omega, by omega, Go.Lib.hid (Nat.mod_eq_of_lt (Nat.lt_of_le_of_lt hn (by decide))), Go.Lib.hid (Nat.lt_of_le_of_lt hn (by decide)), Go.Lib.hid HP0.out, Go.Lib.hid h0, Go.Lib.hid hbpW⟩
  case round =>
    clear h0 hbpW HP0
    obtain ⟨a, r, j, c, pre, rfl, rfl, HC, hj, har, HM, HR, HP, HJ, HB⟩ := hrel
    have hc0 := HB.out.cellAt (i := 0) rfl
    unfold ic at hc0 ⊢
    have hcb : (0 : Int) ≤ (c : Int) ∧ (c : Int) ≤ 1099511627776 := by have := bitv_le j hj; rw [← HC.out] at this; omega
    have haI : (0 : Int) ≤ (a : Int) ∧ (a : Int) ≤ 1099511627776 := by omega
    cases j with
    | zero =>
      have hc : c = 0 := HC.out
      subst hc
      have hr := HR.out
      obtain rfl : r = 0 := by omega
      have hP : P0 = pre := by rw [HP.out, pks_zero, List.append_nil]
      go_wp2_with fail
      go_end0
      exact ⟨⟨_, rfl⟩, .inl ⟨pre, [], hP.symm, HJ.out⟩⟩
    | succ i =>
      have hcp : 0 < c := by rw [HC.out]; exact Nat.two_pow_pos i
      have hd : decide ((0 : Int) < (c : Int)) = true := decide_eq_true (by omega)
      have hhalf : (c : Int) / 2 = ((bitv i : Nat) : Int) := by rw [← bitv_half i, ← HC.out]; omega
      have hand := bits_and_nat n c (by omega) (by omega)
      by_cases hlt : r < 2 ^ i
      · obtain ⟨h1, h2⟩ := bit_no HM.out hlt
        rw [HC.out, h1, ← HC.out] at hand
        go_wp2_with fail
        go_roundw
        case rel => exact ⟨a, r, i, bitv i, pre, rfl, rfl, Go.Lib.hid rfl, by omega, har, Go.Lib.hid h2, Go.Lib.hid hlt, HP, HJ, HB⟩
        case measure => simp only [intOf]; omega
      · obtain ⟨h1, h2⟩ := bit_yes HM.out (by omega)
        rw [HC.out, h1, ← HC.out] at hand
        have hpk : peak r = c := by rw [HC.out]; exact peak_of (Nat.not_lt.1 hlt) (by have := HR.out; rw [Nat.pow_succ] at this; omega)
        have hpp := pks_pos a (r := r) (by omega)
        rw [hpk] at hpp
        have hcr : c ≤ r := by rw [HC.out]; exact Nat.not_lt.1 hlt
        have hP1 : P0 = (pre ++ [(a, c)]) ++ pks (a + c) (r - c) := by rw [HP.out, hpp]; simp
        have HP1 := Go.Lib.hid hP1
        have H2 : Hid (n % 2 ^ i = r - c) := Go.Lib.hid (by rw [h2, HC.out]; rfl)
        have H3 : Hid (r - c < 2 ^ i) := Go.Lib.hid (by have := HR.out; rw [Nat.pow_succ] at this; have e : c = 2 ^ i := HC.out; omega)
        obtain ⟨fn, tmps, assign, body, hy, hR⟩ := hY pre [] (a, c) _ HJ.out (by rw [hP1]; simp)
        clear hpk hpp hP1 h1 h2 hlt
        dsimp only [encP] at hy
        unfold ic at hy
        go_upto_region 5 with (fail)
        refine (wpIn_wide (n := 0)).1 ?_
        gi_wp2_with fail
        refine ⟨rfl, hR.mono ?_⟩
        clear hR hy
        rintro e W' (⟨rfl, hJn, hkp⟩ | ⟨rfl, hJn⟩)
        · have HB2 := Go.Lib.hid (hkp.bk (.inr hm) HB.out)
          have HJn := Go.Lib.hid hJn
          clear hc0 hkp hJn
          gi_wp2
          go_wp2_with fail
          go_roundw
          case rel => exact ⟨a + c, r - c, i, bitv i, pre ++ [(a, c)], by push_cast; rfl, rfl, Go.Lib.hid rfl, by omega, by omega, H2, H3, HP1, HJn, HB2⟩
          case measure => simp only [intOf]; omega
        · gi_wp2
          go_wp2_with fail
          refine bodyPost_ret (results_none rfl _ _ _) rfl ?_
          exact ⟨⟨_, rfl⟩, .inr ⟨pre ++ [(a, c)], [], prefix_left HP1.out, hJn⟩⟩
end Go.Proofs.Ytgimgddlipbniaa
