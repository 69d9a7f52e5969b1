import Derived.Test.YtajgklomcapboaaCons
import Derived.Test.YtajgklomcapboaaRefTree
/- scrivenerref06.sub, scrivenerref06.Consistency. -/
namespace Go.Proofs.Ytajgklomcapboaa
open Go.RowKit Go.Shelf Sc

set_option maxHeartbeats 4000000 in
set_option maxRecDepth 100000 in
theorem refSub_lt : ∀ (m : Nat) (v : Value) (l : List Sc.Id) (a : Nat) (wh : Bool) (NB : Nat → Prop) (w : World), l.length < m → RdI NB w v l → (∀ b, NB b → b < w.heap.size) → 1 ≤ a → a ≤ l.length → l.length ≤ 1099511627776 →
    Calls Try.prog 57 #[v, .int .i64 (a : Int), .bool wh] w fun e w' => ∃ v', e = .returned v' ∧ Ow w.heap.size w' 32 v' (link nd e0 l a wh).length (idCells (link nd e0 l a wh)) ∧ w.grownBy w' none := by
  intro m
  induction m with
  | zero => intro v l a wh NB w h; omega
  | succ m ih =>
    intro v l a wh NB w hm hv hNB ha1 ha hsz
    go_enter Try.func57, Try.ntmps57
    obtain ⟨A, c, rfl, hc⟩ := Rd.form hv
    have hvw : RdI (fun b => b < w.heap.size) w (.slice A l.length c) l := Rd.mono hv hNB
    have HI := Go.Lib.hid ih
    clear ih hv hNB
    obtain ⟨n, hn⟩ : ∃ n, n = l.length := ⟨_, rfl⟩
    rw [← hn] at hc hm ha hsz hvw ⊢
    have HLN := Go.Lib.hid hn.symm
    have hnI : (1 : Int) ≤ (a : Int) ∧ (a : Int) ≤ (n : Int) ∧ (n : Int) ≤ 1099511627776 := by omega
    by_cases h2 : a = n
    · have hw0 := link_end nd e0 (l := l) (m := a) (w := wh) (by omega)
      rw [hw0]
      have hq1 : ((a : Int) == (n : Int)) = true := by rw [h2]; exact beq_self_eq_true _
      clear hw0
      cases wh with
      | true =>
        clear hn h2
        go_wp2_with fail
        go_ret
        exact ⟨_, rfl, Ow.nil _ _ _, gb_refl _ _⟩
      | false =>
        have hl40 : l.length ≤ 1099511627776 := by omega
        clear hn h2
        obtain ⟨R, hR0⟩ : ∃ R, R = root nd e0 l := ⟨_, rfl⟩
        have HR0 := Go.Lib.hid hR0
        clear hR0
        go_wp2_with (first
          | (go_at_call 36; ((with_reducible refine (refRoot_any _ l _ _ hvw (fun _ h => h) hl40).mono ?_); rintro e w5 ⟨rfl, g5⟩; rw [← HR0.out]))
          | ((with_reducible refine wpList_build_id (y := .tmp 18) R (by kernel_rfl) ?_)))
        go_ret
        refine ⟨_, rfl, ?_, gb_alloc g5 _⟩
        rw [idCells_one, ← HR0.out]
        exact Ow.new w5 34 w.heap.size 32 1 (R.l.map bv) (by rw [List.length_map, R.h]) (by decide) g5.size
    · have hq1 : ((a : Int) == (n : Int)) = false := by simp; omega
      have han : a < n := by omega
      obtain ⟨k, hk0⟩ : ∃ k, k = half n := ⟨_, rfl⟩
      have hhalf : ∀ w : World, Calls Try.prog 48 #[.int .i64 (n : Int)] w fun e w' => e = .returned (.int .i64 (k : Int)) ∧ w' = w := fun w => by rw [hk0]; exact refHalf_any n (by omega) (by omega) w
      have hk1 : 1 ≤ k := by rw [hk0]; exact half_pos n
      have hk2 : k < n := by rw [hk0]; exact half_lt (by omega)
      have hkI : (1 : Int) ≤ (k : Int) ∧ (k : Int) < (n : Int) := by omega
      have hncI : (n : Int) ≤ (c : Int) := by omega
      have hlkw : RdI (fun b => b < w.heap.size) w (.slice A k c) (l.take k) := RdI.toTake hvw HLN.out (by omega)
      have hrd0 : Rd (fun b => b < w.heap.size) w 32 (.slice A n c) n (idCells l) := by have h := hvw; unfold RdI at h; rw [HLN.out] at h; exact h
      have hdl40 : (l.drop k).length ≤ 1099511627776 := by rw [List.length_drop]; omega
      have htl40 : (l.take k).length ≤ 1099511627776 := by rw [List.length_take]; omega
      have hdll : (l.drop k).length = n - k := by rw [List.length_drop, HLN.out]
      have htll : (l.take k).length = k := cells_takeTo (by rw [HLN.out]; omega)
      rcases Nat.lt_or_ge k a with hak | hak
      · have hway := link_hi nd e0 (l := l) (m := a) (w := wh) (by omega) (by omega) (by rw [← hn, ← hk0]; omega)
        rw [← hn, ← hk0] at hway
        obtain ⟨R, hR0⟩ : ∃ R, R = root nd e0 (l.take k) := ⟨_, rfl⟩
        rw [← hR0] at hway
        obtain ⟨Y1, hY1⟩ : ∃ Y1, Y1 = link nd e0 (l.drop k) (a - k) false := ⟨_, rfl⟩
        rw [← hY1] at hway
        obtain ⟨n1, hn1⟩ : ∃ n1, n1 = Y1.length := ⟨_, rfl⟩
        have hn140 : n1 ≤ 41 := by rw [hn1, hY1]; exact link_len40 (by omega)
        have hd2 : decide ((a : Int) ≤ (k : Int)) = false := decide_eq_false (by omega)
        have hih : ∀ (v9 : Value), RdI (fun b => b < w.heap.size) w v9 (l.drop k) → Calls Try.prog 57 #[v9, .int .i64 ((a : Int) - (k : Int)), .bool false] w fun e w' => ∃ v', e = .returned v' ∧ Ow w.heap.size w' 32 v' n1 (idCells Y1) ∧ w.grownBy w' none := fun v9 h9 => by
          rw [show ((a : Int) - (k : Int)) = ((a - k : Nat) : Int) from by omega]
          refine (HI.out v9 (l.drop k) (a - k) false _ w (by omega) h9 (fun _ h => h) (by omega) (by omega) (by omega)).mono ?_
          rintro e w' ⟨v', he, ho, g⟩
          rw [← hY1, ← hn1] at ho
          exact ⟨v', he, ho, g⟩
        have HWAY := Go.Lib.hid hway
        have HR0 := Go.Lib.hid hR0
        have HN1 := Go.Lib.hid hn1
        have h63 : n1 + 1 ≤ maxLen := Nat.le_trans (show n1 + 1 ≤ 42 by omega) (by decide)
        have hby : (n1 + 1) * 32 ≤ 140737488355328 := by omega
        clear hway hR0 hY1 hn1 hk0 hn
        go_wp2_with (first
          | (go_at_call 48; ((with_reducible refine (hhalf _).mono ?_); rintro e w ⟨rfl, rfl⟩))
          | ((with_reducible refine wpList_cut (x := .tmp 40) Try.underlying41 (by kernel_rfl) hrd0 (by kernel_rfl) k n (.inr ⟨_, rfl, by kernel_rfl⟩) (.inl ⟨rfl, rfl⟩) (Nat.le_of_lt hk2) (Nat.le_refl _) ?_); intro v9 hv9
             have hv9' := RdI.toDrop hv9 HLN.out)
          | (go_at_call 57; ((with_reducible refine (hih _ hv9').mono ?_); rintro e w3 ⟨v6, rfl, ho6, gw3⟩)
             obtain ⟨A6, c6, rfl⟩ := ho6.form
             have hrd3 : Rd (fun b => b < w.heap.size) w3 32 (.slice A n c) n (idCells l) := Rd.grown hrd0 gw3 (by simp)
             have hlk3 : RdI (fun b => b < w.heap.size) w3 (.slice A k c) (l.take k) := Rd.grown hlkw gw3 (by simp)
             have hN3 : ∀ b, (fun b => b < w.heap.size) b → b < w3.heap.size := fun b hb => Nat.lt_of_lt_of_le hb gw3.size)
          | (go_at_call 36; ((with_reducible refine (refRoot_any (.slice A k c) (l.take k) _ _ hlk3 hN3 htl40).mono ?_); rintro e w5 ⟨rfl, g5⟩; rw [← HR0.out])
             have bz := Bk.new w5 34 idZ)
          | ((with_reducible refine wpList_alloc_row (E := 34) idZ infoId ?_))
          | ((with_reducible refine wpList_store_bk (x := .tmp 11) (t := 34) w5.heap.size 34 idZ (R.l.map bv) bz (by kernel_rfl) (by kernel_rfl) (idSize _) (idLen _) (idOne _) ?_); intro w7 h7 g7 z7
             have gw7 := gb_trans_new (gb_alloc (gb_trans gw3 g5) (.cells idZ.toArray 34)) g7 (gb_trans gw3 g5).size
             have ho7 := ((((ho6.grown g5 (fun _ _ => by simp)).alloc (.cells idZ.toArray 34)).grown g7 (fun b hb h => by have := (ho6.lt hb).2; have := g5.size; have := Option.some.inj h; omega))).alloc (.cells (R.l.map bv).toArray 34)
             have hs7 : Src Try.prog 32 41 (.slice (some ⟨w7.heap.size, 0, none⟩) 1 1) 1 (R.l.map bv) (w7.alloc (.cells (R.l.map bv).toArray 34)) := src_new (P := Try.prog) Try.underlying41 w7 34 32 1 (R.l.map bv) (by rw [List.length_map, R.h]) (bytes_one _)
             have hB7 : w.heap.size ≤ (w7.alloc (.cells (R.l.map bv).toArray 34)).heap.size := by rw [World.size_alloc]; have := gw7.size; omega)
          | ((with_reducible refine wpList_load_bk (x := .tmp 11) (t := 34) w5.heap.size _ (R.l.map bv) _ h7 (by kernel_rfl) Try.underlying34 rfl (idSize _) ?_))
          | ((with_reducible refine wpList_build_id (y := .tmp 52) R (by kernel_rfl) ?_))
          | ((with_reducible refine wpList_append_ow (s := .tmp 51) (x := .tmp 53) (v := .slice A6 n1 c6) (by kernel_rfl) (by kernel_rfl) Try.underlying41 okId ho7 hs7 hB7 h63 hby ?_); intro v3 w8 ho8 hg8 hb8; obtain ⟨A8, c8, rfl⟩ := ho8.form))
        go_ret
        refine ⟨_, rfl, ?_, Ow.gb (gb_alloc gw7 _) ho7 (Nat.le_refl _) hg8⟩
        rw [← idCells_one, ← idCells_append] at ho8
        rw [HWAY.out, List.length_append, List.length_singleton, ← HN1.out]
        exact ho8
      · have hway := link_lo nd e0 (l := l) (m := a) (w := wh) (by omega) (by omega) (by rw [← hn, ← hk0]; exact hak)
        rw [← hn, ← hk0] at hway
        obtain ⟨R, hR0⟩ : ∃ R, R = root nd e0 (l.drop k) := ⟨_, rfl⟩
        rw [← hR0] at hway
        obtain ⟨Y1, hY1⟩ : ∃ Y1, Y1 = link nd e0 (l.take k) a wh := ⟨_, rfl⟩
        rw [← hY1] at hway
        obtain ⟨n1, hn1⟩ : ∃ n1, n1 = Y1.length := ⟨_, rfl⟩
        have hn140 : n1 ≤ 41 := by rw [hn1, hY1]; exact link_len40 (by omega)
        have hd2 : decide ((a : Int) ≤ (k : Int)) = true := decide_eq_true (by omega)
        have hih : ∀ (v9 : Value), RdI (fun b => b < w.heap.size) w v9 (l.take k) → Calls Try.prog 57 #[v9, .int .i64 (a : Int), .bool wh] w fun e w' => ∃ v', e = .returned v' ∧ Ow w.heap.size w' 32 v' n1 (idCells Y1) ∧ w.grownBy w' none := fun v9 h9 => by
          refine (HI.out v9 (l.take k) a wh _ w (by omega) h9 (fun _ h => h) (by omega) (by omega) (by omega)).mono ?_
          rintro e w' ⟨v', he, ho, g⟩
          rw [← hY1, ← hn1] at ho
          exact ⟨v', he, ho, g⟩
        have HWAY := Go.Lib.hid hway
        have HR0 := Go.Lib.hid hR0
        have HN1 := Go.Lib.hid hn1
        have h63 : n1 + 1 ≤ maxLen := Nat.le_trans (show n1 + 1 ≤ 42 by omega) (by decide)
        have hby : (n1 + 1) * 32 ≤ 140737488355328 := by omega
        clear hway hR0 hY1 hn1 hk0 hn
        go_wp2_with (first
          | (go_at_call 48; ((with_reducible refine (hhalf _).mono ?_); rintro e w ⟨rfl, rfl⟩))
          | ((with_reducible refine wpList_cut (x := .tmp 32) Try.underlying41 (by kernel_rfl) hrd3 (by kernel_rfl) k n (.inr ⟨_, rfl, by kernel_rfl⟩) (.inl ⟨rfl, rfl⟩) (Nat.le_of_lt hk2) (Nat.le_refl _) ?_); intro v9 hv9
             have hv9' := RdI.toDrop hv9 HLN.out
             have hN3 : ∀ b, (fun b => b < w.heap.size) b → b < w3.heap.size := fun b hb => Nat.lt_of_lt_of_le hb gw3.size)
          | (go_at_call 57; ((with_reducible refine (hih _ hlkw).mono ?_); rintro e w3 ⟨v6, rfl, ho6, gw3⟩)
             obtain ⟨A6, c6, rfl⟩ := ho6.form
             have hrd3 : Rd (fun b => b < w.heap.size) w3 32 (.slice A n c) n (idCells l) := Rd.grown hrd0 gw3 (by simp)
             have hlk3 : RdI (fun b => b < w.heap.size) w3 (.slice A k c) (l.take k) := Rd.grown hlkw gw3 (by simp)
             have hN3 : ∀ b, (fun b => b < w.heap.size) b → b < w3.heap.size := fun b hb => Nat.lt_of_lt_of_le hb gw3.size)
          | (go_at_call 36; ((with_reducible refine (refRoot_any v9 (l.drop k) _ _ hv9' hN3 hdl40).mono ?_); rintro e w5 ⟨rfl, g5⟩; rw [← HR0.out])
             have bz := Bk.new w5 34 idZ)
          | ((with_reducible refine wpList_alloc_row (E := 34) idZ infoId ?_))
          | ((with_reducible refine wpList_store_bk (x := .tmp 9) (t := 34) w5.heap.size 34 idZ (R.l.map bv) bz (by kernel_rfl) (by kernel_rfl) (idSize _) (idLen _) (idOne _) ?_); intro w7 h7 g7 z7
             have gw7 := gb_trans_new (gb_alloc (gb_trans gw3 g5) (.cells idZ.toArray 34)) g7 (gb_trans gw3 g5).size
             have ho7 := ((((ho6.grown g5 (fun _ _ => by simp)).alloc (.cells idZ.toArray 34)).grown g7 (fun b hb h => by have := (ho6.lt hb).2; have := g5.size; have := Option.some.inj h; omega))).alloc (.cells (R.l.map bv).toArray 34)
             have hs7 : Src Try.prog 32 41 (.slice (some ⟨w7.heap.size, 0, none⟩) 1 1) 1 (R.l.map bv) (w7.alloc (.cells (R.l.map bv).toArray 34)) := src_new (P := Try.prog) Try.underlying41 w7 34 32 1 (R.l.map bv) (by rw [List.length_map, R.h]) (bytes_one _)
             have hB7 : w.heap.size ≤ (w7.alloc (.cells (R.l.map bv).toArray 34)).heap.size := by rw [World.size_alloc]; have := gw7.size; omega)
          | ((with_reducible refine wpList_load_bk (x := .tmp 9) (t := 34) w5.heap.size _ (R.l.map bv) _ h7 (by kernel_rfl) Try.underlying34 rfl (idSize _) ?_))
          | ((with_reducible refine wpList_build_id (y := .tmp 37) R (by kernel_rfl) ?_))
          | ((with_reducible refine wpList_append_ow (s := .tmp 36) (x := .tmp 38) (v := .slice A6 n1 c6) (by kernel_rfl) (by kernel_rfl) Try.underlying41 okId ho7 hs7 hB7 h63 hby ?_); intro v3 w8 ho8 hg8 hb8; obtain ⟨A8, c8, rfl⟩ := ho8.form))
        go_ret
        refine ⟨_, rfl, ?_, Ow.gb (gb_alloc gw7 _) ho7 (Nat.le_refl _) hg8⟩
        rw [← idCells_one, ← idCells_append] at ho8
        rw [HWAY.out, List.length_append, List.length_singleton, ← HN1.out]
        exact ho8
theorem refCons_ri {v : Value} (l : List Sc.Id) (a : Nat) (w : World) (hv : RI w v l) (ha1 : 1 ≤ a) (ha : a ≤ l.length) (hsz : l.length ≤ 1099511627776) :
    Calls Try.prog 38 #[v, .int .i64 (a : Int)] w fun e w' => ∃ v', e = .returned v' ∧ RI w' v' (link nd e0 l a true) ∧ w.grownBy w' none := by
  have hsub := refSub_lt (l.length + 1) v l a true _ w (Nat.lt_succ_self _) hv (fun _ h => h) ha1 ha hsz
  go_enter Try.func38, Try.ntmps38
  obtain ⟨A, c, rfl, hc⟩ := Rd.form hv
  go_wp2_with (go_at_call 57; ((with_reducible refine hsub.mono ?_); rintro e w' ⟨v', rfl, ho, g⟩; obtain ⟨A', c', rfl⟩ := ho.form))
  go_ret
  exact ⟨_, rfl, Ow.rd ho (fun b hb => (ho.lt hb).2), g⟩
theorem cons_out (A : Option Addr) (n c : Nat) (a : Int) (w : World) (h : a < 1 ∨ (n : Int) < a) :
    Calls Try.prog 37 #[.slice A n c, .int .i64 a] w fun e w' => e = .returned (.tuple #[.slice none 0 0, .int .i64 1]) ∧ w' = w := by
  go_enter Try.func37, Try.ntmps37
  rcases (by omega : a < 1 ∨ (1 ≤ a ∧ (n : Int) < a)) with h | h
  · have hd1 : decide (a < 1) = true := decide_eq_true h
    go_wp2_with fail
    go_ret2
    exact ⟨rfl, rfl⟩
  · have hd1 : decide (a < 1) = false := decide_eq_false (by omega)
    have hd2 : decide ((n : Int) < a) = true := decide_eq_true h.2
    go_wp2_with fail
    go_ret2
    exact ⟨rfl, rfl⟩
end Go.Proofs.Ytajgklomcapboaa
