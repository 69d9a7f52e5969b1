import Derived.Test.YtajgklomcapboaaSame
import Derived.Test.YtajgklomcapboaaRefNode
/- scrivenerref05: Half and Root. -/
namespace Go.Proofs.Ytajgklomcapboaa
open Go.RowKit Go.Shelf Sc

set_option maxHeartbeats 1000000 in
theorem refHalf_any (n : Nat) (h2 : 2 ≤ n) (hn : n ≤ 1099511627776) (w : World) : Calls Try.prog 48 #[.int .i64 (n : Int)] w fun e w' => e = .returned (.int .i64 (half n : Int)) ∧ w' = w := by
  go_enter Try.func48, Try.ntmps48
  have hnI : (2 : Int) ≤ (n : Int) ∧ (n : Int) ≤ 1099511627776 := by omega
  obtain ⟨z, hz0⟩ : ∃ z, z = half n := ⟨_, rfl⟩
  rw [← hz0]
  have HZ := Go.Lib.hid hz0
  clear hz0
  go_wp2_with fail
  go_loop [3] (fun kv => ∃ (k j : Nat), kv = .int .i64 (k : Int) ∧ Hid (k = 2 ^ j) ∧ k < n) (fun kv => n - (intOf kv).toNat)
  case atStart => exact ⟨1, 0, rfl, Go.Lib.hid rfl, by omega⟩
  case round =>
    obtain ⟨k, j, rfl, HKJ, hkq⟩ := hrel
    have hk1 : 1 ≤ k := by rw [HKJ.out]; exact Nat.one_le_two_pow
    have hkI : (1 : Int) ≤ (k : Int) ∧ (k : Int) < 1099511627776 := by omega
    by_cases h : k * 2 < n
    · have hd2 : decide ((k : Int) * 2 < (n : Int)) = true := decide_eq_true (by omega)
      go_wp2_with fail
      exact ⟨⟨k * 2, j + 1, by push_cast; rfl, Go.Lib.hid (by rw [Nat.pow_succ, HKJ.out]), by omega⟩, by simp only [intOf]; omega⟩
    · have hd2 : decide ((k : Int) * 2 < (n : Int)) = false := decide_eq_false (by omega)
      have hhalf : half n = k := by rw [HKJ.out]; exact half_of (by rw [← HKJ.out]; exact hkq) (by rw [← HKJ.out]; omega)
      obtain rfl : z = k := by rw [HZ.out]; exact hhalf
      clear hhalf
      go_wp2_with fail
      go_ret
      exact ⟨rfl, rfl⟩

theorem rd_of_ri {w : World} {v : Value} {xs : List Sc.Id} {n : Nat} (h : RI w v xs) (hn : n = xs.length) : Rd (fun b => b < w.heap.size) w 32 v n (idCells xs) := by subst hn; exact h

set_option maxHeartbeats 2000000 in
theorem refRoot_lt : ∀ (m : Nat) (v : Value) (xs : List Sc.Id) (NB : Nat → Prop) (w : World), xs.length < m → RdI NB w v xs → (∀ b, NB b → b < w.heap.size) → xs.length ≤ 1099511627776 →
    Calls Try.prog 36 #[v] w fun e w' => e = .returned (idv (root nd e0 xs)) ∧ w.grownBy w' none := by
  intro m
  induction m with
  | zero => intro v xs NB w h; omega
  | succ m ih =>
    intro v xs NB w hm hv hNB hsz
    go_enter Try.func36, Try.ntmps36
    obtain ⟨A, c, rfl, hc⟩ := Rd.form hv
    have b1 := Bk.new w 34 idZ
    have g1 := gb_alloc (gb_refl w none) (.cells idZ.toArray 34)
    obtain ⟨W, hW⟩ : ∃ W, W = w.alloc (.cells idZ.toArray 34) := ⟨_, rfl⟩
    have hWs : W.heap.size = w.heap.size + 1 := by rw [hW, World.size_alloc]
    rw [← hW] at b1 g1
    have HW := Go.Lib.hid hW
    clear hW
    have hvW : RI W (.slice A xs.length c) xs := RI.gr (RI.of hv hNB) g1
    have hxI : (xs.length : Int) ≤ 1099511627776 := by omega
    obtain ⟨n, hn⟩ : ∃ n, n = xs.length := ⟨_, rfl⟩
    rw [← hn] at hvW hxI ⊢
    have HI := Go.Lib.hid ih
    have HNB := Go.Lib.hid hNB
    have HV := Go.Lib.hid hvW
    clear ih hNB hv hvW
    rcases (by omega : n = 0 ∨ n = 1 ∨ 2 ≤ n) with h0 | h0 | h0
    · subst h0
      obtain rfl : xs = [] := List.eq_nil_of_length_eq_zero hn.symm
      have hs0 : ([] : List UInt8).length ≤ 1099511627776 := by decide
      have hof : ∀ w : World, Calls Try.prog 53 #[.string ⟨#[]⟩] w fun e w' => e = .returned (idv (sha [])) ∧ w.grownBy w' none := fun w => refOf_any [] hs0 w
      clear hn hsz hc hm HI HV HNB hxI
      go_wp2_with (first
        | ((with_reducible refine wpList_alloc_row (E := 34) idZ infoId ?_); rw [← HW.out])
        | (go_at_call 53; ((with_reducible refine (hof _).mono ?_); rintro e w3 ⟨rfl, g3⟩; have b3 := b1.grown g3 (by simp)))
        | ((with_reducible refine wpList_store_bk (t := 34) w.heap.size 34 idZ ((sha []).l.map bv) b3 (by kernel_rfl) (by kernel_rfl) (idSize _) (idLen _) (idOne _) ?_); intro w5 h5 g5 z5))
      go_frame
      refine bodyPost_ret (results_id rfl _ _ w.heap.size (sha []) rfl h5) rfl ⟨?_, gb_trans_new (gb_trans g1 g3) g5 (Nat.le_refl _)⟩
      rw [root_nil]; rfl
    · subst h0
      obtain ⟨x, rfl⟩ : ∃ x, xs = [x] := List.length_eq_one_iff.1 hn.symm
      obtain ⟨b, o, c', he, hb, hnc, hcm, hcell⟩ := (show Rd (fun b => b < W.heap.size) W 32 (.slice A 1 c) 1 (idCells [x]) from HV.out).at (by omega)
      injection he with hA _ hcc
      subst hA hcc
      rw [idCells_one] at hcell
      clear hn hsz hc hm HI HV HNB hxI
      go_wp2_with (first
        | ((with_reducible refine wpList_alloc_row (E := 34) idZ infoId ?_); rw [← HW.out])
        | ((with_reducible refine wpList_load_range (t := 34) b o (x.l.map bv) _ hcell (by kernel_rfl) Try.underlying34 rfl (idSize _) ?_))
        | ((with_reducible refine wpList_store_bk (t := 34) w.heap.size 34 idZ (x.l.map bv) b1 (by kernel_rfl) (by kernel_rfl) (idSize _) (idLen _) (idOne _) ?_); intro w5 h5 g5 z5))
      try go_frame
      refine bodyPost_ret (results_id rfl _ _ w.heap.size x rfl h5) rfl ⟨?_, gb_trans_new g1 g5 (Nat.le_refl _)⟩
      rw [root_one]
    · obtain ⟨k, hk0⟩ : ∃ k, k = half n := ⟨_, rfl⟩
      have hhalf : ∀ w : World, Calls Try.prog 48 #[.int .i64 (n : Int)] w fun e w' => e = .returned (.int .i64 (k : Int)) ∧ w' = w := fun w => by rw [hk0]; exact refHalf_any n h0 (by omega) w
      have hk1 : 1 ≤ k := by rw [hk0]; exact half_pos n
      have hk2 : k < n := by rw [hk0]; exact half_lt h0
      have hkI : (1 : Int) ≤ (k : Int) ∧ (k : Int) < (n : Int) := by omega
      have hncI : (n : Int) ≤ (c : Int) := by omega
      have hrt := root_two nd e0 (l := xs) (by omega)
      rw [← hn, ← hk0] at hrt
      obtain ⟨lk, hlke⟩ : ∃ lk, lk = xs.take k := ⟨_, rfl⟩
      obtain ⟨ld, hlde⟩ : ∃ ld, ld = xs.drop k := ⟨_, rfl⟩
      have hlkl : lk.length = k := by rw [hlke, List.length_take]; omega
      have hldl : ld.length = n - k := by rw [hlde, List.length_drop, hn]
      have hlkc := idCells_take xs k
      have hldc := idCells_drop xs k
      rw [← hlke] at hlkc hrt
      rw [← hlde] at hldc hrt
      obtain ⟨R, hR0⟩ : ∃ R, R = root nd e0 lk := ⟨_, rfl⟩
      obtain ⟨X, hX0⟩ : ∃ X, X = root nd e0 xs := ⟨_, rfl⟩
      obtain ⟨Y, hY0⟩ : ∃ Y, Y = root nd e0 ld := ⟨_, rfl⟩
      rw [← hR0, ← hY0, ← hX0] at hrt
      rw [← hX0]
      have hlk' : RdI (fun b => b < W.heap.size) W (.slice A k c) lk := by
        have h1 := Rd.takeTo (show Rd (fun b => b < W.heap.size) W 32 (.slice A n c) n (idCells xs) by have := HV.out; unfold RI RdI at this; rw [← hn] at this; exact this) k (by omega)
        rw [hlkc] at h1
        unfold RdI; rw [hlkl]; exact h1
      have hkn : k ≤ n := by omega
      have ih1 : Calls Try.prog 36 #[.slice A k c] W fun e w' => e = .returned (idv R) ∧ W.grownBy w' none := by
        rw [hR0]; exact HI.out _ lk _ W (by omega) hlk' (fun _ h => h) (by omega)
      have HN : Hid (sha (1 :: (R.l ++ Y.l)) = X) := Go.Lib.hid hrt.symm
      have HY := Go.Lib.hid hY0.symm
      have HLD := Go.Lib.hid hldl
      have HLDC := Go.Lib.hid hldc
      have HNX := Go.Lib.hid hn
      have HM := Go.Lib.hid hm
      clear hlk' hlkc hldc hlke hlde hlkl hldl hR0 hX0 hY0 hrt hk0 hn hm hsz hc
      go_wp2_with (first
        | ((with_reducible refine wpList_alloc_row (E := 34) idZ infoId ?_); rw [← HW.out])
        | (go_at_call 48; ((with_reducible refine (hhalf _).mono ?_); rintro e w2 ⟨rfl, rfl⟩))
        | (go_at_call 36; ((with_reducible refine ih1.mono ?_); rintro e w3 ⟨rfl, g3⟩; have b3 := b1.grown g3 (by simp); have bx := Bk.new w3 34 idZ))
        | ((with_reducible refine wpList_alloc_row (E := 34) idZ infoId ?_))
        | ((with_reducible refine wpList_store_bk (t := 34) w3.heap.size 34 idZ (R.l.map bv) bx (by kernel_rfl) (by kernel_rfl) (idSize _) (idLen _) (idOne _) ?_); intro w5 h5 g5 z5; have gW5 := gb_trans_new (gb_alloc g3 (.cells idZ.toArray 34)) g5 g3.size; have hl1 := rd_of_ri (RI.gr HV.out gW5) HNX.out)
        | ((with_reducible refine wpList_cut (x := .tmp 23) Try.underlying41 (by kernel_rfl) hl1 (by kernel_rfl) k n (.inr ⟨_, rfl, by kernel_rfl⟩) (.inl ⟨rfl, rfl⟩) hkn (Nat.le_refl _) ?_); intro v9 hv9))
      have hvd : RdI (fun b => b < w5.heap.size) w5 v9 ld := by
        unfold RdI
        rw [HLD.out, ← HLDC.out]; rwa [List.take_of_length_le (by rw [List.length_drop, idCells_length, ← HNX.out]; omega)] at hv9
      have ih2 : Calls Try.prog 36 #[v9] w5 fun e w' => e = .returned (idv Y) ∧ w5.grownBy w' none := by
        rw [← HY.out]; exact HI.out _ ld _ w5 (by have := HM.out; have := HNX.out; have := HLD.out; omega) hvd (fun _ h => h) (by have := HLD.out; omega)
      have hnode : ∀ w : World, Calls Try.prog 56 #[.agg (R.l.map bv).toArray, .agg (Y.l.map bv).toArray] w fun e w' => e = .returned (idv X) ∧ w.grownBy w' none := fun w => by
        have h := refNode_any R Y w
        rw [HN.out] at h; exact h
      have hw3 : w.heap.size < w3.heap.size := by have := g3.size; omega
      have s5 : w3.heap.size < w5.heap.size := by rw [z5, World.size_alloc]; omega
      have b5 : Bk w5 w.heap.size 34 idZ := (b3.alloc _).grown g5 (by simp; omega)
      have gw5 := gb_trans g1 gW5
      obtain ⟨A9, c9, rfl, _⟩ := Rd.form hvd
      clear hl1 hv9 hvd bx g5 z5 gW5 ih1 hhalf b3 b1 HI HV HNB
      go_wp2_with (first
        | (go_at_call 36; ((with_reducible refine ih2.mono ?_); rintro e w6 ⟨rfl, g6⟩; have b6 := (b5.grown g6 (by simp)).alloc (.cells idZ.toArray 34); have h6 := (h5.grown g6 (by simp)).alloc (.cells idZ.toArray 34); have bx := Bk.new w6 34 idZ; have s6 := g6.size))
        | ((with_reducible refine wpList_alloc_row (E := 34) idZ infoId ?_))
        | ((with_reducible refine wpList_store_bk (t := 34) w6.heap.size 34 idZ (Y.l.map bv) bx (by kernel_rfl) (by kernel_rfl) (idSize _) (idLen _) (idOne _) ?_); intro w7 h7 g7 z7; have b7 := b6.grown g7 (by simp; omega); have h67 := h6.grown g7 (by simp; omega))
        | ((with_reducible refine wpList_load_bk (x := .tmp 4) (t := 34) w3.heap.size _ (R.l.map bv) _ h67 (by kernel_rfl) Try.underlying34 rfl (idSize _) ?_))
        | ((with_reducible refine wpList_load_bk (x := .tmp 5) (t := 34) w6.heap.size _ (Y.l.map bv) _ h7 (by kernel_rfl) Try.underlying34 rfl (idSize _) ?_))
        | (go_at_call 56; ((with_reducible refine (hnode _).mono ?_); rintro e w8 ⟨rfl, g8⟩; have b8 := b7.grown g8 (by simp)))
        | ((with_reducible refine wpList_store_bk (t := 34) w.heap.size 34 idZ (X.l.map bv) b8 (by kernel_rfl) (by kernel_rfl) (idSize _) (idLen _) (idOne _) ?_); intro wz hz gz zz))
      try go_frame
      exact bodyPost_ret (results_id rfl _ _ w.heap.size X rfl hz) rfl ⟨rfl, gb_trans_new (gb_trans (gb_trans_new (gb_alloc (gb_trans gw5 g6) _) g7 (by omega)) g8) gz (Nat.le_refl _)⟩

theorem refRoot_any (v : Value) (xs : List Sc.Id) (NB : Nat → Prop) (w : World) (hv : RdI NB w v xs) (hNB : ∀ b, NB b → b < w.heap.size) (hsz : xs.length ≤ 1099511627776) :
    Calls Try.prog 36 #[v] w fun e w' => e = .returned (idv (root nd e0 xs)) ∧ w.grownBy w' none := refRoot_lt (xs.length + 1) v xs NB w (Nat.lt_succ_self _) hv hNB hsz
end Go.Proofs.Ytajgklomcapboaa
