import Derived.Test.YtgimgddlipbniaaRefTree
/- scrivenerref05.Peaks: where whole trees begin, and how many they have. -/
namespace Sc
open Go Go.RowKit
def pks (f r : Nat) : List (Nat × Nat) := if _h : r = 0 then [] else (f, peak r) :: pks (f + peak r) (r - peak r)
termination_by r
decreasing_by have := peak_pos r; omega
theorem pks_zero (f : Nat) : pks f 0 = [] := by rw [pks]; rfl
theorem pks_pos (f : Nat) {r : Nat} (h : 1 ≤ r) : pks f r = (f, peak r) :: pks (f + peak r) (r - peak r) := by rw [pks, dif_neg (by omega)]
def ic (n : Nat) : Value := .int .i64 (n : Int)
end Sc
namespace Go.Proofs.Ytgimgddlipbniaa
open Go.RowKit Go.Shelf Sc
theorem okInt : InfoOk Try.prog 3 1 8 := by unfold InfoOk; kernel_rfl

set_option maxHeartbeats 4000000 in
theorem refPeaks_any (n : Nat) (hn : n ≤ 1099511627776) (w : World) : Calls Try.prog 37 #[.int .i64 (n : Int)] w fun e w' =>
    ∃ va vc, e = .returned (.tuple #[va, vc]) ∧ Ow w.heap.size w' 1 va (pks 0 n).length ((pks 0 n).map fun p => ic p.1) ∧ Ow w.heap.size w' 1 vc (pks 0 n).length ((pks 0 n).map fun p => ic p.2) ∧ w.grownBy w' none := by
  go_enter Try.func37, Try.ntmps37
  have hnI : (0 : Int) ≤ (n : Int) ∧ (n : Int) ≤ 1099511627776 := by omega
  obtain ⟨P0, hP0⟩ : ∃ P0, P0 = pks 0 n := ⟨_, rfl⟩
  rw [← hP0]
  have HP0 := Go.Lib.hid hP0
  clear hP0
  go_wp2_with fail
  go_loopw [4, 5, 6, 7] (fun va vc vf _vk wr => ∃ (f : Nat) (dn : List (Nat × Nat)), vf = .int .i64 (f : Int) ∧ f ≤ n ∧ Hid (P0 = dn ++ pks f (n - f)) ∧ Hid (Ow w.heap.size wr 1 va dn.length (dn.map fun p => ic p.1)) ∧ Hid (Ow w.heap.size wr 1 vc dn.length (dn.map fun p => ic p.2)) ∧ Hid (∀ b, va.ownBlock = some b → vc.ownBlock ≠ some b) ∧ Hid (w.grownBy wr none) ∧ dn.length ≤ f) (fun _ _ vf _ _ => n - (intOf vf).toNat)
  case atStart => exact ⟨0, [], rfl, Nat.zero_le _, Go.Lib.hid (by rw [HP0.out]; rfl), Go.Lib.hid (Ow.nil _ _ _), Go.Lib.hid (Ow.nil _ _ _), Go.Lib.hid (by simp [Value.ownBlock]), Go.Lib.hid (gb_refl _ _), Nat.le_refl _⟩
  case round =>
    clear HP0
    obtain ⟨f, dn, rfl, hf, HP, HA, HC, HD, HG, hdl⟩ := hrel
    obtain ⟨wo, rfl⟩ : ∃ wo : World, wo = wr := ⟨_, rfl⟩
    obtain ⟨Aa, ca, rfl⟩ := HA.out.form
    obtain ⟨Ac, cc, rfl⟩ := HC.out.form
    by_cases hlt : f < n
    · have hd : decide ((f : Int) < (n : Int)) = true := decide_eq_true (by omega)
      go_wp2_with fail
      go_loop [7] (fun kv => ∃ (k j : Nat), kv = .int .i64 (k : Int) ∧ Hid (k = 2 ^ j) ∧ k ≤ n - f) (fun kv => n - (intOf kv).toNat)
      case atStart => exact ⟨1, 0, rfl, Go.Lib.hid rfl, by omega⟩
      case round =>
        obtain ⟨k, j, rfl, HKJ, hkq⟩ := hrel
        have hk1 : 1 ≤ k := by rw [HKJ.out]; exact Nat.one_le_two_pow
        have hkI : (1 : Int) ≤ (k : Int) ∧ (k : Int) ≤ (n : Int) - (f : Int) := by omega
        by_cases h : k * 2 ≤ n - f
        · have hd2 : decide ((k : Int) * 2 ≤ (n : Int) - (f : Int)) = true := decide_eq_true (by omega)
          go_wp2_with fail
          exact ⟨⟨k * 2, j + 1, by push_cast; rfl, Go.Lib.hid (by rw [Nat.pow_succ, HKJ.out]), by omega⟩, by simp only [intOf]; omega⟩
        · have hd2 : decide ((k : Int) * 2 ≤ (n : Int) - (f : Int)) = false := decide_eq_false (by omega)
          have hpk : peak (n - f) = k := by rw [HKJ.out]; exact peak_of (by rw [← HKJ.out]; exact hkq) (by rw [← HKJ.out]; omega)
          have hpp := pks_pos f (r := n - f) (by omega)
          rw [hpk, show n - f - k = n - (f + k) from by omega] at hpp
          have HPP := Go.Lib.hid hpp
          clear hpp hpk
          have hs1 : Src Try.prog 1 61 (.slice (some ⟨wo.heap.size, 0, none⟩) 1 1) 1 [.int .i64 (f : Int)] (wo.alloc (.cells #[.int .i64 (f : Int)] 3)) := src_new (P := Try.prog) Try.underlying61 wo 3 1 1 [.int .i64 (f : Int)] rfl (by intro u hu; rw [List.mem_singleton.1 hu]; rfl)
          have hB1 : w.heap.size ≤ (wo.alloc (.cells #[.int .i64 (f : Int)] 3)).heap.size := by rw [World.size_alloc]; have := HG.out.size; omega
          have h63 : dn.length + 1 ≤ maxLen := Nat.le_trans (show dn.length + 1 ≤ 1099511627777 from by omega) (by decide)
          have hby : (dn.length + 1) * 8 ≤ 140737488355328 := by omega
          have hoa := HA.out.alloc (.cells #[.int .i64 (f : Int)] 3)
          have hHD : ∀ b, (Value.slice Ac dn.length cc).ownBlock = some b → (Value.slice Aa dn.length ca).ownBlock ≠ some b := fun b h1 h2 => HD.out b h2 h1
          go_wp2_with (first
            | ((with_reducible refine wpList_append_ow (s := .tmp 19) (x := .tmp 21) (v := .slice Aa dn.length ca) (y := .slice (some ⟨wo.heap.size, 0, none⟩) 1 1) (by kernel_rfl) (by kernel_rfl) Try.underlying61 okInt hoa hs1 hB1 h63 hby ?_)
               intro v3 w3 ho3 hg3 hb3
               have hs2 : Src Try.prog 1 61 (.slice (some ⟨w3.heap.size, 0, none⟩) 1 1) 1 [.int .i64 (k : Int)] (w3.alloc (.cells #[.int .i64 (k : Int)] 3)) := src_new (P := Try.prog) Try.underlying61 w3 3 1 1 [.int .i64 (k : Int)] rfl (by intro u hu; rw [List.mem_singleton.1 hu]; rfl)
               have s3 := hg3.size
               have hB2 : w.heap.size ≤ (w3.alloc (.cells #[.int .i64 (k : Int)] 3)).heap.size := by rw [World.size_alloc]; omega
               have hoc := ((HC.out.alloc (.cells #[.int .i64 (f : Int)] 3)).grown hg3 hHD).alloc (.cells #[.int .i64 (k : Int)] 3)
               have gw3 := Ow.gb (gb_alloc HG.out _) hoa (Nat.le_refl _) hg3
               have hl3 : ∀ b, v3.ownBlock = some b → b < w3.heap.size := fun b hb => (ho3.lt hb).2
               have hd3 : ∀ b, v3.ownBlock = some b → (Value.slice Ac dn.length cc).ownBlock ≠ some b := fun b h1 h2 => by
                 rcases hb3 with h | h
                 · exact HD.out b (h ▸ h1) h2
                 · have h4 := (HC.out.lt h2).2
                   rw [h1, World.size_alloc] at h
                   injection h with h
                   omega
               obtain ⟨A3, c3, rfl⟩ := ho3.form)
            | ((with_reducible refine wpList_append_ow (s := .tmp 23) (x := .tmp 25) (v := .slice Ac dn.length cc) (y := .slice (some ⟨w3.heap.size, 0, none⟩) 1 1) (by kernel_rfl) (by kernel_rfl) Try.underlying61 okInt hoc hs2 hB2 h63 hby ?_)
               intro v4 w4 ho4 hg4 hb4
               have ho34 := (ho3.alloc (.cells #[.int .i64 (k : Int)] 3)).grown hg4 (fun b hb h => hd3 b hb h)
               have hd4 : ∀ b, (Value.slice A3 (dn.length + 1) c3).ownBlock = some b → v4.ownBlock ≠ some b := fun b h1 h2 => by
                 rcases hb4 with h | h
                 · exact hd3 b h1 (h ▸ h2)
                 · have h5 := hl3 b h1
                   rw [h2, World.size_alloc] at h
                   injection h with h
                   omega
               have gw4 := Ow.gb (gb_alloc gw3 _) hoc (Nat.le_refl _) hg4
               obtain ⟨A4, c4, rfl⟩ := ho4.form))
          refine ⟨⟨f + k, dn ++ [(f, k)], by push_cast; rfl, by omega, Go.Lib.hid (by rw [HP.out, HPP.out]; simp), Go.Lib.hid ?_, Go.Lib.hid ?_, Go.Lib.hid hd4, Go.Lib.hid gw4, by rw [List.length_append, List.length_singleton]; omega⟩, by simp only [intOf]; omega⟩
          · rw [List.map_append, List.length_append]; exact ho34
          · rw [List.map_append, List.length_append]; exact ho4
    · obtain rfl : f = n := by omega
      have hd : decide ((f : Int) < (f : Int)) = false := decide_eq_false (by omega)
      have hPf : P0 = dn := by rw [HP.out, Nat.sub_self, pks_zero, List.append_nil]
      subst hPf
      go_wp2_with fail

      go_ret2
      exact ⟨_, _, rfl, HA.out, HC.out, HG.out⟩
end Go.Proofs.Ytgimgddlipbniaa
