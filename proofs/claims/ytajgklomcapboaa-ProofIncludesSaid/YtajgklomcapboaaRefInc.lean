import Derived.Test.YtajgklomcapboaaInc
import Derived.Test.YtajgklomcapboaaRefTree
/- scrivenerref06.Inclusion. -/
namespace Go.Proofs.Ytajgklomcapboaa
open Go.RowKit Go.Shelf Sc

set_option maxHeartbeats 4000000 in
set_option maxRecDepth 100000 in
theorem refInc_lt : ∀ (m : Nat) (v : Value) (l : List Sc.Id) (a : Nat) (NB : Nat → Prop) (w : World), l.length < m → RdI NB w v l → (∀ b, NB b → b < w.heap.size) → a < l.length → l.length ≤ 1099511627776 →
    Calls Try.prog 34 #[v, .int .i64 (a : Int)] w fun e w' => ∃ v', e = .returned v' ∧ Ow w.heap.size w' 32 v' (way nd e0 l a).length (idCells (way nd e0 l a)) ∧ w.grownBy w' none := by
  intro m
  induction m with
  | zero => intro v l a NB w h; omega
  | succ m ih =>
    intro v l a NB w hm hv hNB ha hsz
    go_enter Try.func34, Try.ntmps34
    obtain ⟨A, c, rfl, hc⟩ := Rd.form hv
    have hvw : RdI (fun b => b < w.heap.size) w (.slice A l.length c) l := Rd.mono hv hNB
    have HI := Go.Lib.hid ih
    clear ih hv hNB
    obtain ⟨n, hn⟩ : ∃ n, n = l.length := ⟨_, rfl⟩
    rw [← hn] at hc hm ha hsz hvw ⊢
    have HLN := Go.Lib.hid hn.symm
    have hnI : (0 : Int) ≤ (a : Int) ∧ (a : Int) < (n : Int) ∧ (n : Int) ≤ 1099511627776 := by omega
    by_cases h2 : n < 2
    · have hd1 : decide ((n : Int) < 2) = true := decide_eq_true (by omega)
      have hw0 := way_short nd e0 (l := l) (a := a) (by omega)
      rw [hw0]
      clear hn hw0
      go_wp2_with fail
      go_ret
      exact ⟨_, rfl, Ow.nil _ _ _, gb_refl _ _⟩
    · have hd1 : decide ((n : Int) < 2) = false := decide_eq_false (by omega)
      obtain ⟨k, hk0⟩ : ∃ k, k = half n := ⟨_, rfl⟩
      have hhalf : ∀ w : World, Calls Try.prog 48 #[.int .i64 (n : Int)] w fun e w' => e = .returned (.int .i64 (k : Int)) ∧ w' = w := fun w => by rw [hk0]; exact refHalf_any n (by omega) (by omega) w
      have hk1 : 1 ≤ k := by rw [hk0]; exact half_pos n
      have hk2 : k < n := by rw [hk0]; exact half_lt (by omega)
      have hkI : (1 : Int) ≤ (k : Int) ∧ (k : Int) < (n : Int) := by omega
      have hncI : (n : Int) ≤ (c : Int) := by omega
      have hlkw : RdI (fun b => b < w.heap.size) w (.slice A k c) (l.take k) := RdI.toTake hvw HLN.out (by omega)
      have hrd0 : Rd (fun b => b < w.heap.size) w 32 (.slice A n c) n (idCells l) := by have h := hvw; unfold RdI at h; rw [HLN.out] at h; exact h
      have hdl40 : (l.drop k).length ≤ 1099511627776 := by rw [List.length_drop]; omega
      have htl40 : (l.take k).length ≤ 1099511627776 := by rw [List.length_take]; omega
      have hdll : (l.drop k).length = n - k := by rw [List.length_drop, HLN.out]
      have htll : (l.take k).length = k := cells_takeTo (by rw [HLN.out]; omega)
      rcases Nat.lt_or_ge a k with hak | hak
      · have hway := way_lo nd e0 (l := l) (a := a) (by omega) (by rw [← hn, ← hk0]; exact hak)
        rw [← hn, ← hk0] at hway
        obtain ⟨R, hR0⟩ : ∃ R, R = root nd e0 (l.drop k) := ⟨_, rfl⟩
        rw [← hR0] at hway
        obtain ⟨Y1, hY1⟩ : ∃ Y1, Y1 = way nd e0 (l.take k) a := ⟨_, rfl⟩
        rw [← hY1] at hway
        obtain ⟨n1, hn1⟩ : ∃ n1, n1 = Y1.length := ⟨_, rfl⟩
        have hn140 : n1 ≤ 40 := by rw [hn1, hY1]; exact way_len40 (by omega)
        have hd2 : decide ((a : Int) < (k : Int)) = true := decide_eq_true (by omega)
        have hih : ∀ (v9 : Value), RdI (fun b => b < w.heap.size) w v9 (l.take k) → Calls Try.prog 34 #[v9, .int .i64 (a : Int)] w fun e w' => ∃ v', e = .returned v' ∧ Ow w.heap.size w' 32 v' n1 (idCells Y1) ∧ w.grownBy w' none := fun v9 h9 => by
          refine (HI.out v9 (l.take k) a _ w (by omega) h9 (fun _ h => h) (by omega) (by omega)).mono ?_
          rintro e w' ⟨v', he, ho, g⟩
          rw [← hY1, ← hn1] at ho
          exact ⟨v', he, ho, g⟩
        have HWAY := Go.Lib.hid hway
        have HR0 := Go.Lib.hid hR0
        have HN1 := Go.Lib.hid hn1
        have h63 : n1 + 1 ≤ maxLen := Nat.le_trans (show n1 + 1 ≤ 41 by omega) (by decide)
        have hby : (n1 + 1) * 32 ≤ 140737488355328 := by omega
        clear hway hR0 hY1 hn1 hk0 hn
        go_wp2_with (first
          | (go_at_call 48; ((with_reducible refine (hhalf _).mono ?_); rintro e w ⟨rfl, rfl⟩))
          | ((with_reducible refine wpList_cut (x := .tmp 24) Try.underlying41 (by kernel_rfl) hrd3 (by kernel_rfl) k n (.inr ⟨_, rfl, by kernel_rfl⟩) (.inl ⟨rfl, rfl⟩) (Nat.le_of_lt hk2) (Nat.le_refl _) ?_); intro v9 hv9
             have hv9' := RdI.toDrop hv9 HLN.out
             have hN3 : ∀ b, (fun b => b < w.heap.size) b → b < w3.heap.size := fun b hb => Nat.lt_of_lt_of_le hb gw3.size)
          | (go_at_call 34; ((with_reducible refine (hih _ hlkw).mono ?_); rintro e w3 ⟨v6, rfl, ho6, gw3⟩)
             obtain ⟨A6, c6, rfl⟩ := ho6.form
             have hrd3 : Rd (fun b => b < w.heap.size) w3 32 (.slice A n c) n (idCells l) := Rd.grown hrd0 gw3 (by simp)
             have hlk3 : RdI (fun b => b < w.heap.size) w3 (.slice A k c) (l.take k) := Rd.grown hlkw gw3 (by simp)
             have hN3 : ∀ b, (fun b => b < w.heap.size) b → b < w3.heap.size := fun b hb => Nat.lt_of_lt_of_le hb gw3.size)
          | (go_at_call 36; ((with_reducible refine (refRoot_any v9 (l.drop k) _ _ hv9' hN3 hdl40).mono ?_); rintro e w5 ⟨rfl, g5⟩; rw [← HR0.out])
             have bz := Bk.new w5 34 idZ)
          | ((with_reducible refine wpList_alloc_row (E := 34) idZ infoId ?_))
          | ((with_reducible refine wpList_store_bk (x := .tmp 7) (t := 34) w5.heap.size 34 idZ (R.l.map bv) bz (by kernel_rfl) (by kernel_rfl) (idSize _) (idLen _) (idOne _) ?_); intro w7 h7 g7 z7
             have gw7 := gb_trans_new (gb_alloc (gb_trans gw3 g5) (.cells idZ.toArray 34)) g7 (gb_trans gw3 g5).size
             have ho7 := ((((ho6.grown g5 (fun _ _ => by simp)).alloc (.cells idZ.toArray 34)).grown g7 (fun b hb h => by have := (ho6.lt hb).2; have := g5.size; have := Option.some.inj h; omega))).alloc (.cells (R.l.map bv).toArray 34)
             have hs7 : Src Try.prog 32 41 (.slice (some ⟨w7.heap.size, 0, none⟩) 1 1) 1 (R.l.map bv) (w7.alloc (.cells (R.l.map bv).toArray 34)) := src_new (P := Try.prog) Try.underlying41 w7 34 32 1 (R.l.map bv) (by rw [List.length_map, R.h]) (bytes_one _)
             have hB7 : w.heap.size ≤ (w7.alloc (.cells (R.l.map bv).toArray 34)).heap.size := by rw [World.size_alloc]; have := gw7.size; omega)
          | ((with_reducible refine wpList_load_bk (x := .tmp 7) (t := 34) w5.heap.size _ (R.l.map bv) _ h7 (by kernel_rfl) Try.underlying34 rfl (idSize _) ?_))
          | ((with_reducible refine wpList_build_id (y := .tmp 29) R (by kernel_rfl) ?_))
          | ((with_reducible refine wpList_append_ow (s := .tmp 28) (x := .tmp 30) (v := .slice A6 n1 c6) (by kernel_rfl) (by kernel_rfl) Try.underlying41 okId ho7 hs7 hB7 h63 hby ?_); intro v3 w8 ho8 hg8 hb8; obtain ⟨A8, c8, rfl⟩ := ho8.form))
        go_ret
        refine ⟨_, rfl, ?_, Ow.gb (gb_alloc gw7 _) ho7 (Nat.le_refl _) hg8⟩
        rw [← idCells_one, ← idCells_append] at ho8
        rw [HWAY.out, List.length_append, List.length_singleton, ← HN1.out]
        exact ho8
      · have hway := way_hi nd e0 (l := l) (a := a) (by omega) (by rw [← hn, ← hk0]; omega)
        rw [← hn, ← hk0] at hway
        obtain ⟨R, hR0⟩ : ∃ R, R = root nd e0 (l.take k) := ⟨_, rfl⟩
        rw [← hR0] at hway
        obtain ⟨Y1, hY1⟩ : ∃ Y1, Y1 = way nd e0 (l.drop k) (a - k) := ⟨_, rfl⟩
        rw [← hY1] at hway
        obtain ⟨n1, hn1⟩ : ∃ n1, n1 = Y1.length := ⟨_, rfl⟩
        have hn140 : n1 ≤ 40 := by rw [hn1, hY1]; exact way_len40 (by omega)
        have hd2 : decide ((a : Int) < (k : Int)) = false := decide_eq_false (by omega)
        have hih : ∀ (v9 : Value), RdI (fun b => b < w.heap.size) w v9 (l.drop k) → Calls Try.prog 34 #[v9, .int .i64 ((a : Int) - (k : Int))] w fun e w' => ∃ v', e = .returned v' ∧ Ow w.heap.size w' 32 v' n1 (idCells Y1) ∧ w.grownBy w' none := fun v9 h9 => by
          rw [show ((a : Int) - (k : Int)) = ((a - k : Nat) : Int) from by omega]
          refine (HI.out v9 (l.drop k) (a - k) _ w (by omega) h9 (fun _ h => h) (by omega) (by omega)).mono ?_
          rintro e w' ⟨v', he, ho, g⟩
          rw [← hY1, ← hn1] at ho
          exact ⟨v', he, ho, g⟩
        have HWAY := Go.Lib.hid hway
        have HR0 := Go.Lib.hid hR0
        have HN1 := Go.Lib.hid hn1
        have h63 : n1 + 1 ≤ maxLen := Nat.le_trans (show n1 + 1 ≤ 41 by omega) (by decide)
        have hby : (n1 + 1) * 32 ≤ 140737488355328 := by omega
        clear hway hR0 hY1 hn1 hk0 hn
        go_wp2_with (first
          | (go_at_call 48; ((with_reducible refine (hhalf _).mono ?_); rintro e w ⟨rfl, rfl⟩))
          | ((with_reducible refine wpList_cut (x := .tmp 32) Try.underlying41 (by kernel_rfl) hrd0 (by kernel_rfl) k n (.inr ⟨_, rfl, by kernel_rfl⟩) (.inl ⟨rfl, rfl⟩) (Nat.le_of_lt hk2) (Nat.le_refl _) ?_); intro v9 hv9
             have hv9' := RdI.toDrop hv9 HLN.out)
          | (go_at_call 34; ((with_reducible refine (hih _ hv9').mono ?_); rintro e w3 ⟨v6, rfl, ho6, gw3⟩)
             obtain ⟨A6, c6, rfl⟩ := ho6.form
             have hrd3 : Rd (fun b => b < w.heap.size) w3 32 (.slice A n c) n (idCells l) := Rd.grown hrd0 gw3 (by simp)
             have hlk3 : RdI (fun b => b < w.heap.size) w3 (.slice A k c) (l.take k) := Rd.grown hlkw gw3 (by simp)
             have hN3 : ∀ b, (fun b => b < w.heap.size) b → b < w3.heap.size := fun b hb => Nat.lt_of_lt_of_le hb gw3.size)
          | (go_at_call 36; ((with_reducible refine (refRoot_any (.slice A k c) (l.take k) _ _ hlk3 hN3 htl40).mono ?_); rintro e w5 ⟨rfl, g5⟩; rw [← HR0.out])
             have bz := Bk.new w5 34 idZ)
          | ((with_reducible refine wpList_alloc_row (E := 34) idZ infoId ?_))
          | ((with_reducible refine wpList_store_bk (x := .tmp 9) (t := 34) w5.heap.size 34 idZ (R.l.map bv) bz (by kernel_rfl) (by kernel_rfl) (idSize _) (idLen _) (idOne _) ?_); intro w7 h7 g7 z7
             have gw7 := gb_trans_new (gb_alloc (gb_trans gw3 g5) (.cells idZ.toArray 34)) g7 (gb_trans gw3 g5).size
             have ho7 := ((((ho6.grown g5 (fun _ _ => by simp)).alloc (.cells idZ.toArray 34)).grown g7 (fun b hb h => by have := (ho6.lt hb).2; have := g5.size; have := Option.some.inj h; omega))).alloc (.cells (R.l.map bv).toArray 34)
             have hs7 : Src Try.prog 32 41 (.slice (some ⟨w7.heap.size, 0, none⟩) 1 1) 1 (R.l.map bv) (w7.alloc (.cells (R.l.map bv).toArray 34)) := src_new (P := Try.prog) Try.underlying41 w7 34 32 1 (R.l.map bv) (by rw [List.length_map, R.h]) (bytes_one _)
             have hB7 : w.heap.size ≤ (w7.alloc (.cells (R.l.map bv).toArray 34)).heap.size := by rw [World.size_alloc]; have := gw7.size; omega)
          | ((with_reducible refine wpList_load_bk (x := .tmp 9) (t := 34) w5.heap.size _ (R.l.map bv) _ h7 (by kernel_rfl) Try.underlying34 rfl (idSize _) ?_))
          | ((with_reducible refine wpList_build_id (y := .tmp 44) R (by kernel_rfl) ?_))
          | ((with_reducible refine wpList_append_ow (s := .tmp 43) (x := .tmp 45) (v := .slice A6 n1 c6) (by kernel_rfl) (by kernel_rfl) Try.underlying41 okId ho7 hs7 hB7 h63 hby ?_); intro v3 w8 ho8 hg8 hb8; obtain ⟨A8, c8, rfl⟩ := ho8.form))
        go_ret
        refine ⟨_, rfl, ?_, Ow.gb (gb_alloc gw7 _) ho7 (Nat.le_refl _) hg8⟩
        rw [← idCells_one, ← idCells_append] at ho8
        rw [HWAY.out, List.length_append, List.length_singleton, ← HN1.out]
        exact ho8
theorem refInc_any (v : Value) (l : List Sc.Id) (a : Nat) (NB : Nat → Prop) (w : World) (hv : RdI NB w v l) (hNB : ∀ b, NB b → b < w.heap.size) (ha : a < l.length) (hsz : l.length ≤ 1099511627776) :
    Calls Try.prog 34 #[v, .int .i64 (a : Int)] w fun e w' => ∃ v', e = .returned v' ∧ Ow w.heap.size w' 32 v' (way nd e0 l a).length (idCells (way nd e0 l a)) ∧ w.grownBy w' none := refInc_lt (l.length + 1) v l a NB w (Nat.lt_succ_self _) hv hNB ha hsz
theorem inc_out (A : Option Addr) (n c : Nat) (a : Int) (w : World) (h : a < 0 ∨ (n : Int) ≤ a) :
    Calls Try.prog 33 #[.slice A n c, .int .i64 a] w fun e w' => e = .returned (.tuple #[.slice none 0 0, .int .i64 1]) ∧ w' = w := by
  go_enter Try.func33, Try.ntmps33
  rcases (by omega : a < 0 ∨ (0 ≤ a ∧ (n : Int) ≤ a)) with h | h
  · have hd1 : decide (a < 0) = true := decide_eq_true h
    go_wp2_with fail
    go_ret2
    exact ⟨rfl, rfl⟩
  · have hd1 : decide (a < 0) = false := decide_eq_false (by omega)
    have hd2 : decide ((n : Int) ≤ a) = true := decide_eq_true h.2
    go_wp2_with fail
    go_ret2
    exact ⟨rfl, rfl⟩
end Go.Proofs.Ytajgklomcapboaa
