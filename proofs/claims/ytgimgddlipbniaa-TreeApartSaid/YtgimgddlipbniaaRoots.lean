import Derived.Test.YtgimgddlipbniaaRefTops
/- TreeRoots: the walk. -/
namespace Go.Proofs.Ytgimgddlipbniaa
open Go.RowKit Go.Shelf Sc
theorem rgr {w w' : World} {v : Value} {xs : List Sc.Id} (h : RdI (fun b => b < w.heap.size) w v xs) (hg : w.grownBy w' none) : RdI (fun b => b < w'.heap.size) w' v xs := RI.gr h hg
theorem rgr_refl {w : World} {v : Value} {xs : List Sc.Id} (h : RI w v xs) : RdI (fun b => b < w.heap.size) w v xs := h
theorem cut0 {NB : Nat → Prop} {w : World} {A : Option Addr} {q c : Nat} {l ld : List Sc.Id} (h : Rd NB w 32 (.slice A q c) q (idCells l)) (hq : l.length = q) (hd : ld = l.drop 0) : RdI NB w (.slice A q c) ld := by
  rw [hd, List.drop_zero]; unfold RdI; rw [hq]; exact h
theorem lt_self (w : World) : ∀ b, (fun b => b < w.heap.size) b → b < w.heap.size := fun _ h => h
theorem cut_read {NB : Nat → Prop} {w : World} {A : Option Addr} {q c j : Nat} {l : List Sc.Id} (h : Rd NB w 32 (.slice A q c) q (idCells l)) (hq : l.length = q) (hj : j ≤ q) : RdI NB w (.slice (if c = j then A else A.map (·.add (j * 32))) (q - j) (c - j)) (l.drop j) := by
  have h1 := Rd.cut h hj (Nat.le_refl _) rfl
  unfold RdI
  rw [List.length_drop, hq, ← idCells_drop]
  rwa [List.take_of_length_le (by rw [List.length_drop, idCells_length, hq]; omega)] at h1

set_option maxHeartbeats 4000000 in
theorem roots_walk (v : Value) (l0 : List Sc.Id) (a : Int) (NB : Nat → Prop) (w : World) (hv : RdI NB w v l0) (hNB : ∀ b, NB b → b < w.heap.size) :
    Calls Try.prog 9 #[v, .int .i64 a] w fun e w' => e = .returned (.bool true) ∧ w.grownBy w' none := by
  go_enter Try.func9, Try.ntmps9
  obtain ⟨A, c, rfl, hc⟩ := Rd.form hv
  have hm := Rd.le hv
  obtain ⟨q, hq⟩ : ∃ q, min l0.length 100 = q := ⟨_, rfl⟩
  have HV := Go.Lib.hid (RI.of (RdI.takeTo hv 100 q hq) hNB)
  have hq100 : q ≤ 100 := by omega
  have hlq : (l0.take 100).length = q := by rw [List.length_take, Nat.min_comm]; exact hq
  obtain ⟨l, hle⟩ : ∃ l, l = l0.take 100 := ⟨_, rfl⟩
  rw [← hle] at HV hlq
  clear hv hle
  have HL := Go.Lib.hid hlq
  clear hlq
  have hqc : q ≤ c := by omega
  rcases (by omega : a < 0 ∨ (q : Int) < a ∨ (0 ≤ a ∧ a ≤ (q : Int))) with ha | ha | ha
  · have hd1 : decide (a < 0) = true := decide_eq_true ha
    have hjI : (0 : Int) ≤ (q : Int) ∧ (q : Int) ≤ (c : Int) := by omega
    have hjq : 0 ≤ q := by omega
    have hlj : RdI (fun b => b < w.heap.size) w (.slice A 0 c) (l.take 0) := by
      have h1 := Rd.takeTo (rd_of_ri HV.out HL.out.symm) 0 hjq
      rw [idCells_take] at h1
      unfold RdI; rw [List.length_take, HL.out, Nat.min_eq_left hjq]; exact h1
    have hl40 : l.length ≤ 1099511627776 := by rw [HL.out]; omega
    have hlj40 : (l.take 0).length ≤ 1099511627776 := by rw [List.length_take]; omega
    have HJL : Hid ((l.take 0).length = 0) := Go.Lib.hid (by rw [List.length_take, HL.out, Nat.min_eq_left hjq])
    go_wp2_with (first
      | (go_at_call 26; ((with_reducible refine (grows_any _).mono ?_); rintro e w1 ⟨rfl, g1⟩; have hlj1 : RdI (fun b => b < w1.heap.size) w1 (.slice A 0 c) (l.take 0) := RI.gr hlj g1; have hN1 := lt_self w1))
      | (go_at_call 27; ((with_reducible refine (cut_lit A l0.length c 100 q 100 rfl _ hq hm hc).mono ?_); rintro e w2 ⟨rfl, rfl⟩))
      | (go_at_call 28; ((with_reducible refine (treeOf_any _ (l.take 0) _ _ hlj1 hN1 hlj40).mono ?_); rintro e w3 ⟨rfl, g3, tv, hR⟩; rw [HJL.out] at hR; have hl3 := Rd.grown (Rd.grown (rd_of_ri HV.out HL.out.symm) g1 (by simp)) g3 (by simp); have gW3 := gb_trans g1 g3))
      | ((with_reducible refine wpList_guard (by rfl) ?_))
      | ((with_reducible refine wpList_cut (x := .tmp 26) Try.underlying46 (by kernel_rfl) hl3 (by kernel_rfl) 0 q (.inr ⟨_, rfl, by kernel_rfl⟩) (.inl ⟨rfl, rfl⟩) hjq (Nat.le_refl _) ?_); intro v9 hv9))
    all_goals
      obtain ⟨ld, hlde⟩ : ∃ ld, ld = l.drop 0 := ⟨_, rfl⟩
      have hldl : ld.length = q - 0 := by rw [hlde, List.length_drop, HL.out]
      have hN3 := lt_self w3
      have hvd := cut_read hl3 HL.out hjq
      rw [← hlde] at hvd
      first | (rw [if_pos h, show c - 0 = 0 from by omega] at hvd; replace h := h.symm; subst h) | (rw [if_neg h] at hvd) | (replace hvd := cut0 hl3 HL.out hlde)
      have hNd : ∀ b, (fun b => b < w.heap.size) b → b < w3.heap.size ∧ b ≠ w2.heap.size ∧ tv.ownBlock ≠ some b := fun b hb => by
        have hb' : b < w.heap.size := hb
        have s1 := g1.size
        have s3 := gW3.size
        exact ⟨by omega, by omega, fun h => by have := hR.2.1.lt h; omega⟩
      have hlnj : (tops nd e0 (l.take 0)).length = ones 0 := by rw [tops_len, HJL.out]
      have hsj : 0 + ld.length ≤ 1099511627776 := by omega
      have hB3 : w2.heap.size ≤ w3.heap.size := g3.size
      go_wp2_with (go_at_call 29; ((with_reducible refine (append_any _ _ tv _ 0 (tops nd e0 (l.take 0)) ld _ _ hR hlnj hvd hNd hsj hB3).mono ?_); rintro e w4 ⟨rfl, tv4, hR4, hC4, _⟩))
      have hpt := pushes_tops (l.take 0) ld
      rw [HJL.out, hlde, List.take_append_drop, ← hlde] at hpt
      have hRa : Rng w4 w2.heap.size w2.heap.size tv4 l.length (tops nd e0 l) := by
        rw [hpt, show 0 + ld.length = l.length from by rw [hldl, HL.out]; omega] at hR4; exact hR4
      have hgW : w.grownBy w4 none := ((Ch.of (S := fun _ => False) gW3 (fun _ h => by cases h)).trans hC4 (fun r h => .inr (by
        have s1 := g1.size
        rcases h with h | h
        · omega
        · have := hR.2.1.lt h; omega))).toGb (fun _ h => h.elim)
      have hlw := RI.gr HV.out hgW
      have hts : (tops nd e0 l).length ≤ 1000000 := by rw [tops_len]; have := ones_le_log 7 l.length (by rw [HL.out]; omega); omega
      have hll : (((root nd e0 l).l == (root nd e0 l).l)) = true := beq_self_eq_true _
      have q1 : ∀ w, (eqGuard .eql 26 (.tmp 33) (.tmp 35) (idv (root nd e0 l)) (idv (root nd e0 l))).run Try.prog w = .ok () w := fun _ => run_eqGuard_id idEq _ _
      have q2 : ∀ w, (binOp .eql 26 (idv (root nd e0 l)) (idv (root nd e0 l))).run Try.prog w = .ok (.bool true) w := fun _ => by rw [run_eql_id idEq, hll]
      have q3 : ∀ w, (eqGuard .eql 26 (.tmp 53) (.tmp 55) (idv (root nd e0 l)) (idv (root nd e0 l))).run Try.prog w = .ok () w := fun _ => run_eqGuard_id idEq _ _
      have HLL := Go.Lib.hid HL.out
      clear hR hR4 hC4 hvd hNd hlnj hsj hpt hlde hldl hl3 hlj1 hlj40 hN3
      replace hlw := rgr_refl hlw
      go_wp2_with (first
        | (go_at_call 30; ((with_reducible refine (rootM_any _ _ tv4 l _ hRa hl40).mono ?_); rintro e w5 ⟨rfl, g5⟩; replace hRa := Rng.gr hRa g5; replace hgW := gb_trans hgW g5; replace hlw := rgr hlw g5; have hNl := lt_self w5))
        | (go_at_call 31; ((with_reducible refine (refRoot_any _ l _ _ hlw hNl hl40).mono ?_); rintro e w5 ⟨rfl, g5⟩; replace hRa := Rng.gr hRa g5; replace hgW := gb_trans hgW g5; replace hlw := rgr hlw g5; replace hNl := lt_self w5))
        | (go_at_call 32; ((with_reducible refine (size_any _ _ tv4 _ _ _ hRa).mono ?_); rintro e w5 ⟨rfl, rfl⟩; rw [HL.out])))
      go_wp2_with (go_at_call 34; ((with_reducible refine (tops_any _ _ tv4 _ _ _ hRa hts).mono ?_); rintro e w6 ⟨va, rfl, hoa, g6⟩; replace hRa := Rng.gr hRa g6; replace hgW := gb_trans hgW g6; replace hlw := rgr hlw g6; replace hNl := lt_self w6))
      have hIa : RI w6 va (tops nd e0 l) := Ow.rd hoa (fun b hb => (hoa.lt hb).2)
      obtain ⟨Aa, ca, rfl⟩ := hoa.form
      clear hoa
      go_wp2_with (go_at_call 35; ((with_reducible refine (refTops_any _ l _ _ hlw hNl hl40).mono ?_); rintro e w7 ⟨vb, rfl, hob, g7⟩; replace hRa := Rng.gr hRa g7; replace hgW := gb_trans hgW g7; replace hlw := rgr hlw g7; replace hNl := lt_self w7))
      have hIb : RI w7 vb (tops nd e0 l) := Ow.rd hob (fun b hb => (hob.lt hb).2)
      replace hIa := RI.gr hIa g7
      obtain ⟨Ab, cb, rfl⟩ := hob.form
      clear hob
      go_wp2_with (first
        | (go_at_call 33; ((with_reducible refine (same_any _ _ _ _ _ hIa hIb hts hts).mono ?_); rintro e w8 ⟨rfl, g8⟩; rw [sameB_refl]; replace hRa := Rng.gr hRa g8; replace hgW := gb_trans hgW g8; replace hlw := rgr hlw g8; replace hNl := lt_self w8))
        | (go_at_call 36; ((with_reducible refine (treeRoot_any _ l _ _ hlw hNl hl40).mono ?_); rintro e w9 ⟨rfl, g9⟩; replace hRa := Rng.gr hRa g9; replace hgW := gb_trans hgW g9; replace hlw := rgr hlw g9; replace hNl := lt_self w9))
        | (go_at_call 30; ((with_reducible refine (rootM_any _ _ tv4 l _ hRa hl40).mono ?_); rintro e w9 ⟨rfl, g9⟩; replace hRa := Rng.gr hRa g9; replace hgW := gb_trans hgW g9; replace hlw := rgr hlw g9; replace hNl := lt_self w9)))
      go_ret
      exact ⟨rfl, hgW⟩
  · have hd1 : decide (a < 0) = false := decide_eq_false (by omega)
    have hd2 : decide (a > (q : Int)) = true := decide_eq_true (by omega)
    have hjI : (0 : Int) ≤ (q : Int) ∧ (q : Int) ≤ (c : Int) := by omega
    have hjq : 0 ≤ q := by omega
    have hlj : RdI (fun b => b < w.heap.size) w (.slice A 0 c) (l.take 0) := by
      have h1 := Rd.takeTo (rd_of_ri HV.out HL.out.symm) 0 hjq
      rw [idCells_take] at h1
      unfold RdI; rw [List.length_take, HL.out, Nat.min_eq_left hjq]; exact h1
    have hl40 : l.length ≤ 1099511627776 := by rw [HL.out]; omega
    have hlj40 : (l.take 0).length ≤ 1099511627776 := by rw [List.length_take]; omega
    have HJL : Hid ((l.take 0).length = 0) := Go.Lib.hid (by rw [List.length_take, HL.out, Nat.min_eq_left hjq])
    go_wp2_with (first
      | (go_at_call 26; ((with_reducible refine (grows_any _).mono ?_); rintro e w1 ⟨rfl, g1⟩; have hlj1 : RdI (fun b => b < w1.heap.size) w1 (.slice A 0 c) (l.take 0) := RI.gr hlj g1; have hN1 := lt_self w1))
      | (go_at_call 27; ((with_reducible refine (cut_lit A l0.length c 100 q 100 rfl _ hq hm hc).mono ?_); rintro e w2 ⟨rfl, rfl⟩))
      | (go_at_call 28; ((with_reducible refine (treeOf_any _ (l.take 0) _ _ hlj1 hN1 hlj40).mono ?_); rintro e w3 ⟨rfl, g3, tv, hR⟩; rw [HJL.out] at hR; have hl3 := Rd.grown (Rd.grown (rd_of_ri HV.out HL.out.symm) g1 (by simp)) g3 (by simp); have gW3 := gb_trans g1 g3))
      | ((with_reducible refine wpList_guard (by rfl) ?_))
      | ((with_reducible refine wpList_cut (x := .tmp 26) Try.underlying46 (by kernel_rfl) hl3 (by kernel_rfl) 0 q (.inr ⟨_, rfl, by kernel_rfl⟩) (.inl ⟨rfl, rfl⟩) hjq (Nat.le_refl _) ?_); intro v9 hv9))
    all_goals
      obtain ⟨ld, hlde⟩ : ∃ ld, ld = l.drop 0 := ⟨_, rfl⟩
      have hldl : ld.length = q - 0 := by rw [hlde, List.length_drop, HL.out]
      have hN3 := lt_self w3
      have hvd := cut_read hl3 HL.out hjq
      rw [← hlde] at hvd
      first | (rw [if_pos h, show c - 0 = 0 from by omega] at hvd; replace h := h.symm; subst h) | (rw [if_neg h] at hvd) | (replace hvd := cut0 hl3 HL.out hlde)
      have hNd : ∀ b, (fun b => b < w.heap.size) b → b < w3.heap.size ∧ b ≠ w2.heap.size ∧ tv.ownBlock ≠ some b := fun b hb => by
        have hb' : b < w.heap.size := hb
        have s1 := g1.size
        have s3 := gW3.size
        exact ⟨by omega, by omega, fun h => by have := hR.2.1.lt h; omega⟩
      have hlnj : (tops nd e0 (l.take 0)).length = ones 0 := by rw [tops_len, HJL.out]
      have hsj : 0 + ld.length ≤ 1099511627776 := by omega
      have hB3 : w2.heap.size ≤ w3.heap.size := g3.size
      go_wp2_with (go_at_call 29; ((with_reducible refine (append_any _ _ tv _ 0 (tops nd e0 (l.take 0)) ld _ _ hR hlnj hvd hNd hsj hB3).mono ?_); rintro e w4 ⟨rfl, tv4, hR4, hC4, _⟩))
      have hpt := pushes_tops (l.take 0) ld
      rw [HJL.out, hlde, List.take_append_drop, ← hlde] at hpt
      have hRa : Rng w4 w2.heap.size w2.heap.size tv4 l.length (tops nd e0 l) := by
        rw [hpt, show 0 + ld.length = l.length from by rw [hldl, HL.out]; omega] at hR4; exact hR4
      have hgW : w.grownBy w4 none := ((Ch.of (S := fun _ => False) gW3 (fun _ h => by cases h)).trans hC4 (fun r h => .inr (by
        have s1 := g1.size
        rcases h with h | h
        · omega
        · have := hR.2.1.lt h; omega))).toGb (fun _ h => h.elim)
      have hlw := RI.gr HV.out hgW
      have hts : (tops nd e0 l).length ≤ 1000000 := by rw [tops_len]; have := ones_le_log 7 l.length (by rw [HL.out]; omega); omega
      have hll : (((root nd e0 l).l == (root nd e0 l).l)) = true := beq_self_eq_true _
      have q1 : ∀ w, (eqGuard .eql 26 (.tmp 33) (.tmp 35) (idv (root nd e0 l)) (idv (root nd e0 l))).run Try.prog w = .ok () w := fun _ => run_eqGuard_id idEq _ _
      have q2 : ∀ w, (binOp .eql 26 (idv (root nd e0 l)) (idv (root nd e0 l))).run Try.prog w = .ok (.bool true) w := fun _ => by rw [run_eql_id idEq, hll]
      have q3 : ∀ w, (eqGuard .eql 26 (.tmp 53) (.tmp 55) (idv (root nd e0 l)) (idv (root nd e0 l))).run Try.prog w = .ok () w := fun _ => run_eqGuard_id idEq _ _
      have HLL := Go.Lib.hid HL.out
      clear hR hR4 hC4 hvd hNd hlnj hsj hpt hlde hldl hl3 hlj1 hlj40 hN3
      replace hlw := rgr_refl hlw
      go_wp2_with (first
        | (go_at_call 30; ((with_reducible refine (rootM_any _ _ tv4 l _ hRa hl40).mono ?_); rintro e w5 ⟨rfl, g5⟩; replace hRa := Rng.gr hRa g5; replace hgW := gb_trans hgW g5; replace hlw := rgr hlw g5; have hNl := lt_self w5))
        | (go_at_call 31; ((with_reducible refine (refRoot_any _ l _ _ hlw hNl hl40).mono ?_); rintro e w5 ⟨rfl, g5⟩; replace hRa := Rng.gr hRa g5; replace hgW := gb_trans hgW g5; replace hlw := rgr hlw g5; replace hNl := lt_self w5))
        | (go_at_call 32; ((with_reducible refine (size_any _ _ tv4 _ _ _ hRa).mono ?_); rintro e w5 ⟨rfl, rfl⟩; rw [HL.out])))
      go_wp2_with (go_at_call 34; ((with_reducible refine (tops_any _ _ tv4 _ _ _ hRa hts).mono ?_); rintro e w6 ⟨va, rfl, hoa, g6⟩; replace hRa := Rng.gr hRa g6; replace hgW := gb_trans hgW g6; replace hlw := rgr hlw g6; replace hNl := lt_self w6))
      have hIa : RI w6 va (tops nd e0 l) := Ow.rd hoa (fun b hb => (hoa.lt hb).2)
      obtain ⟨Aa, ca, rfl⟩ := hoa.form
      clear hoa
      go_wp2_with (go_at_call 35; ((with_reducible refine (refTops_any _ l _ _ hlw hNl hl40).mono ?_); rintro e w7 ⟨vb, rfl, hob, g7⟩; replace hRa := Rng.gr hRa g7; replace hgW := gb_trans hgW g7; replace hlw := rgr hlw g7; replace hNl := lt_self w7))
      have hIb : RI w7 vb (tops nd e0 l) := Ow.rd hob (fun b hb => (hob.lt hb).2)
      replace hIa := RI.gr hIa g7
      obtain ⟨Ab, cb, rfl⟩ := hob.form
      clear hob
      go_wp2_with (first
        | (go_at_call 33; ((with_reducible refine (same_any _ _ _ _ _ hIa hIb hts hts).mono ?_); rintro e w8 ⟨rfl, g8⟩; rw [sameB_refl]; replace hRa := Rng.gr hRa g8; replace hgW := gb_trans hgW g8; replace hlw := rgr hlw g8; replace hNl := lt_self w8))
        | (go_at_call 36; ((with_reducible refine (treeRoot_any _ l _ _ hlw hNl hl40).mono ?_); rintro e w9 ⟨rfl, g9⟩; replace hRa := Rng.gr hRa g9; replace hgW := gb_trans hgW g9; replace hlw := rgr hlw g9; replace hNl := lt_self w9))
        | (go_at_call 30; ((with_reducible refine (rootM_any _ _ tv4 l _ hRa hl40).mono ?_); rintro e w9 ⟨rfl, g9⟩; replace hRa := Rng.gr hRa g9; replace hgW := gb_trans hgW g9; replace hlw := rgr hlw g9; replace hNl := lt_self w9)))
      go_ret
      exact ⟨rfl, hgW⟩
  · obtain ⟨j, rfl⟩ : ∃ j : Nat, a = (j : Int) := ⟨a.toNat, by omega⟩
    have hd1 : decide ((j : Int) < 0) = false := decide_eq_false (by omega)
    have hd2 : decide ((j : Int) > (q : Int)) = false := decide_eq_false (by omega)
    have hd3 : decide (q < j) = false := decide_eq_false (by omega)
    have hjI : (0 : Int) ≤ (j : Int) ∧ (j : Int) ≤ (q : Int) ∧ (q : Int) ≤ (c : Int) := by omega
    have hjq : j ≤ q := by omega
    have hlj : RdI (fun b => b < w.heap.size) w (.slice A j c) (l.take j) := by
      have h1 := Rd.takeTo (rd_of_ri HV.out HL.out.symm) j hjq
      rw [idCells_take] at h1
      unfold RdI; rw [List.length_take, HL.out, Nat.min_eq_left hjq]; exact h1
    have hl40 : l.length ≤ 1099511627776 := by rw [HL.out]; omega
    have hlj40 : (l.take j).length ≤ 1099511627776 := by rw [List.length_take]; omega
    have HJL : Hid ((l.take j).length = j) := Go.Lib.hid (by rw [List.length_take, HL.out, Nat.min_eq_left hjq])
    go_wp2_with (first
      | (go_at_call 26; ((with_reducible refine (grows_any _).mono ?_); rintro e w1 ⟨rfl, g1⟩; have hlj1 : RdI (fun b => b < w1.heap.size) w1 (.slice A j c) (l.take j) := RI.gr hlj g1; have hN1 := lt_self w1))
      | (go_at_call 27; ((with_reducible refine (cut_lit A l0.length c 100 q 100 rfl _ hq hm hc).mono ?_); rintro e w2 ⟨rfl, rfl⟩))
      | (go_at_call 28; ((with_reducible refine (treeOf_any _ (l.take j) _ _ hlj1 hN1 hlj40).mono ?_); rintro e w3 ⟨rfl, g3, tv, hR⟩; rw [HJL.out] at hR; have hl3 := Rd.grown (Rd.grown (rd_of_ri HV.out HL.out.symm) g1 (by simp)) g3 (by simp); have gW3 := gb_trans g1 g3))
      | ((with_reducible refine wpList_guard (by rfl) ?_))
      | ((with_reducible refine wpList_cut (x := .tmp 26) Try.underlying46 (by kernel_rfl) hl3 (by kernel_rfl) j q (.inr ⟨_, rfl, by kernel_rfl⟩) (.inl ⟨rfl, rfl⟩) hjq (Nat.le_refl _) ?_); intro v9 hv9))
    all_goals
      obtain ⟨ld, hlde⟩ : ∃ ld, ld = l.drop j := ⟨_, rfl⟩
      have hldl : ld.length = q - j := by rw [hlde, List.length_drop, HL.out]
      have hN3 := lt_self w3
      have hvd := cut_read hl3 HL.out hjq
      rw [← hlde] at hvd
      first | (rw [if_pos h, show c - j = 0 from by omega] at hvd; replace h := h.symm; subst h) | (rw [if_neg h] at hvd) | (replace hvd := cut0 hl3 HL.out hlde)
      have hNd : ∀ b, (fun b => b < w.heap.size) b → b < w3.heap.size ∧ b ≠ w2.heap.size ∧ tv.ownBlock ≠ some b := fun b hb => by
        have hb' : b < w.heap.size := hb
        have s1 := g1.size
        have s3 := gW3.size
        exact ⟨by omega, by omega, fun h => by have := hR.2.1.lt h; omega⟩
      have hlnj : (tops nd e0 (l.take j)).length = ones j := by rw [tops_len, HJL.out]
      have hsj : j + ld.length ≤ 1099511627776 := by omega
      have hB3 : w2.heap.size ≤ w3.heap.size := g3.size
      go_wp2_with (go_at_call 29; ((with_reducible refine (append_any _ _ tv _ j (tops nd e0 (l.take j)) ld _ _ hR hlnj hvd hNd hsj hB3).mono ?_); rintro e w4 ⟨rfl, tv4, hR4, hC4, _⟩))
      have hpt := pushes_tops (l.take j) ld
      rw [HJL.out, hlde, List.take_append_drop, ← hlde] at hpt
      have hRa : Rng w4 w2.heap.size w2.heap.size tv4 l.length (tops nd e0 l) := by
        rw [hpt, show j + ld.length = l.length from by rw [hldl, HL.out]; omega] at hR4; exact hR4
      have hgW : w.grownBy w4 none := ((Ch.of (S := fun _ => False) gW3 (fun _ h => by cases h)).trans hC4 (fun r h => .inr (by
        have s1 := g1.size
        rcases h with h | h
        · omega
        · have := hR.2.1.lt h; omega))).toGb (fun _ h => h.elim)
      have hlw := RI.gr HV.out hgW
      have hts : (tops nd e0 l).length ≤ 1000000 := by rw [tops_len]; have := ones_le_log 7 l.length (by rw [HL.out]; omega); omega
      have hll : (((root nd e0 l).l == (root nd e0 l).l)) = true := beq_self_eq_true _
      have q1 : ∀ w, (eqGuard .eql 26 (.tmp 33) (.tmp 35) (idv (root nd e0 l)) (idv (root nd e0 l))).run Try.prog w = .ok () w := fun _ => run_eqGuard_id idEq _ _
      have q2 : ∀ w, (binOp .eql 26 (idv (root nd e0 l)) (idv (root nd e0 l))).run Try.prog w = .ok (.bool true) w := fun _ => by rw [run_eql_id idEq, hll]
      have q3 : ∀ w, (eqGuard .eql 26 (.tmp 53) (.tmp 55) (idv (root nd e0 l)) (idv (root nd e0 l))).run Try.prog w = .ok () w := fun _ => run_eqGuard_id idEq _ _
      have HLL := Go.Lib.hid HL.out
      clear hR hR4 hC4 hvd hNd hlnj hsj hpt hlde hldl hl3 hlj1 hlj40 hN3
      replace hlw := rgr_refl hlw
      go_wp2_with (first
        | (go_at_call 30; ((with_reducible refine (rootM_any _ _ tv4 l _ hRa hl40).mono ?_); rintro e w5 ⟨rfl, g5⟩; replace hRa := Rng.gr hRa g5; replace hgW := gb_trans hgW g5; replace hlw := rgr hlw g5; have hNl := lt_self w5))
        | (go_at_call 31; ((with_reducible refine (refRoot_any _ l _ _ hlw hNl hl40).mono ?_); rintro e w5 ⟨rfl, g5⟩; replace hRa := Rng.gr hRa g5; replace hgW := gb_trans hgW g5; replace hlw := rgr hlw g5; replace hNl := lt_self w5))
        | (go_at_call 32; ((with_reducible refine (size_any _ _ tv4 _ _ _ hRa).mono ?_); rintro e w5 ⟨rfl, rfl⟩; rw [HL.out])))
      go_wp2_with (go_at_call 34; ((with_reducible refine (tops_any _ _ tv4 _ _ _ hRa hts).mono ?_); rintro e w6 ⟨va, rfl, hoa, g6⟩; replace hRa := Rng.gr hRa g6; replace hgW := gb_trans hgW g6; replace hlw := rgr hlw g6; replace hNl := lt_self w6))
      have hIa : RI w6 va (tops nd e0 l) := Ow.rd hoa (fun b hb => (hoa.lt hb).2)
      obtain ⟨Aa, ca, rfl⟩ := hoa.form
      clear hoa
      go_wp2_with (go_at_call 35; ((with_reducible refine (refTops_any _ l _ _ hlw hNl hl40).mono ?_); rintro e w7 ⟨vb, rfl, hob, g7⟩; replace hRa := Rng.gr hRa g7; replace hgW := gb_trans hgW g7; replace hlw := rgr hlw g7; replace hNl := lt_self w7))
      have hIb : RI w7 vb (tops nd e0 l) := Ow.rd hob (fun b hb => (hob.lt hb).2)
      replace hIa := RI.gr hIa g7
      obtain ⟨Ab, cb, rfl⟩ := hob.form
      clear hob
      go_wp2_with (first
        | (go_at_call 33; ((with_reducible refine (same_any _ _ _ _ _ hIa hIb hts hts).mono ?_); rintro e w8 ⟨rfl, g8⟩; rw [sameB_refl]; replace hRa := Rng.gr hRa g8; replace hgW := gb_trans hgW g8; replace hlw := rgr hlw g8; replace hNl := lt_self w8))
        | (go_at_call 36; ((with_reducible refine (treeRoot_any _ l _ _ hlw hNl hl40).mono ?_); rintro e w9 ⟨rfl, g9⟩; replace hRa := Rng.gr hRa g9; replace hgW := gb_trans hgW g9; replace hlw := rgr hlw g9; replace hNl := lt_self w9))
        | (go_at_call 30; ((with_reducible refine (rootM_any _ _ tv4 l _ hRa hl40).mono ?_); rintro e w9 ⟨rfl, g9⟩; replace hRa := Rng.gr hRa g9; replace hgW := gb_trans hgW g9; replace hlw := rgr hlw g9; replace hNl := lt_self w9)))
      go_ret
      exact ⟨rfl, hgW⟩
end Go.Proofs.Ytgimgddlipbniaa
