import Derived.Test.YtgimgddlipbniaaGrows
/- TreeSplits: the walk. -/
namespace Go.Proofs.Ytgimgddlipbniaa
open Go.RowKit Go.Shelf Sc

def splφ (rb n c k : Nat) (A : Option Addr) (R X Y : Sc.Id) (ld : List Sc.Id) (i : Nat) (v : Value) (w : World) : Prop := match i with
  | 0 => v = .pointer (some ⟨rb, 0, none⟩)
  | 1 => v = .bool true
  | 2 => v = .bool true
  | 3 => v = .pointer (some ⟨rb, 0, none⟩)
  | 4 => Ow 0 w 32 v 1 (idCells [R])
  | 5 => v = .int .i64 1
  | 6 => v = .bool true
  | 7 => v = .bool true
  | 8 => v = .bool true
  | 9 => v = .pointer (some ⟨rb, 0, none⟩)
  | 10 => v = idv R
  | 11 => v = .pointer (some ⟨rb, 0, none⟩)
  | 12 => Ow 0 w 32 v 1 (idCells [R])
  | 13 => ∃ b o, v = .pointer (some ⟨b, o, none⟩) ∧ w.rangeAt b o (R.l.map bv)
  | 14 => v = idv R
  | 15 => v = .bool true
  | 16 => v = .bool true
  | 17 => v = .bool true
  | 18 => v = .slice A n c
  | 19 => v = idv X
  | 20 => v = .slice A n c
  | 21 => v = .int .i64 (k : Int)
  | 22 => v = .slice A k c
  | 23 => v = idv R
  | 24 => v = .slice A n c
  | 25 => v = .int .i64 (k : Int)
  | 26 => RdI (fun b => b < w.heap.size) w v ld
  | 27 => v = idv Y
  | 28 => v = idv X
  | 29 => v = .bool true
  | 30 => v = .bool true
  | _ => True
theorem splφ_gr (rb n c k : Nat) (A : Option Addr) (R X Y : Sc.Id) (ld : List Sc.Id) : ∀ i v w w', splφ rb n c k A R X Y ld i v w → Gr w w' → splφ rb n c k A R X Y ld i v w' := by
  intro i v w w' h hg
  match i with
  | 0 => exact h
  | 1 => exact h
  | 2 => exact h
  | 3 => exact h
  | 4 => exact Ow.grown h hg (fun _ _ => by simp)
  | 5 => exact h
  | 6 => exact h
  | 7 => exact h
  | 8 => exact h
  | 9 => exact h
  | 10 => exact h
  | 11 => exact h
  | 12 => exact Ow.grown h hg (fun _ _ => by simp)
  | 13 => exact by obtain ⟨b, o, e, hr⟩ := h; exact ⟨b, o, e, rangeAt_grown hr hg (by simp)⟩
  | 14 => exact h
  | 15 => exact h
  | 16 => exact h
  | 17 => exact h
  | 18 => exact h
  | 19 => exact h
  | 20 => exact h
  | 21 => exact h
  | 22 => exact h
  | 23 => exact h
  | 24 => exact h
  | 25 => exact h
  | 26 => exact RI.gr h hg
  | 27 => exact h
  | 28 => exact h
  | 29 => exact h
  | 30 => exact h
  | i + 31 => exact h

set_option maxHeartbeats 4000000 in
theorem splits_walk (v : Value) (l0 : List Sc.Id) (NB : Nat → Prop) (w : World) (hv : RdI NB w v l0) (hNB : ∀ b, NB b → b < w.heap.size) :
    Calls Try.prog 10 #[v] w fun e w' => e = .returned (.bool true) ∧ w.grownBy w' none := by
  go_enter Try.func10, Try.ntmps10
  obtain ⟨A, c, rfl, hc⟩ := Rd.form hv
  have hm := Rd.le hv
  obtain ⟨q, hq⟩ : ∃ q, min l0.length 64 = q := ⟨_, rfl⟩
  have HV := Go.Lib.hid (RdI.takeTo hv 64 q hq)
  have hq64 : q ≤ 64 := by omega
  have hlq : (l0.take 64).length = q := by rw [List.length_take, Nat.min_comm]; exact hq
  obtain ⟨l, hle⟩ : ∃ l, l = l0.take 64 := ⟨_, rfl⟩
  rw [← hle] at HV hlq
  clear hv hle
  have HL := Go.Lib.hid hlq
  clear hlq
  by_cases hsm : q < 2
  · have hs1 : decide (q < 2) = true := decide_eq_true hsm
    have hs2 : decide ((q : Int) < 2) = true := decide_eq_true (by omega)
    go_wp2_with (first
      | (go_at_call 26; ((with_reducible refine (grows_any _).mono ?_); rintro e w1 ⟨rfl, g1⟩))
      | (go_at_call 27; ((with_reducible refine (cut_lit A l0.length c 64 q 64 rfl _ hq hm hc).mono ?_); rintro e w1 ⟨rfl, rfl⟩)))
    all_goals (go_ret; exact ⟨rfl, g1⟩)
  · have hs2 : decide ((q : Int) < 2) = false := decide_eq_false (by omega)
    go_wp2_with (first
      | (go_at_call 26; ((with_reducible refine (grows_any _).mono ?_); rintro e w1 ⟨rfl, g1⟩))
      | (go_at_call 27; ((with_reducible refine (cut_lit A l0.length c 64 q 64 rfl _ hq hm hc).mono ?_); rintro e w1 ⟨rfl, rfl⟩)))
    have hlI : (0 : Int) ≤ (q : Int) ∧ (q : Int) ≤ 64 := by omega
    have hV1 := Go.Lib.hid (RI.of (Rd.grown HV.out g1 (by simp)) (fun b hb => Nat.lt_of_lt_of_le (hNB b hb) g1.size))
    go_loop [3] (fun kv => ∃ (k j : Nat), kv = .int .i64 (k : Int) ∧ Hid (k = 2 ^ j) ∧ k < q) (fun kv => q - (intOf kv).toNat)
    case atStart => exact ⟨1, 0, rfl, Go.Lib.hid rfl, by omega⟩
    case round =>
      obtain ⟨k, j, rfl, HKJ, hkq⟩ := hrel
      have hk1 : 1 ≤ k := by rw [HKJ.out]; exact Nat.one_le_two_pow
      have hkI : (1 : Int) ≤ (k : Int) ∧ (k : Int) < 64 := by omega
      by_cases h2 : 2 * k < q
      · have hd2 : decide (2 * (k : Int) < (q : Int)) = true := decide_eq_true (by omega)
        go_wp2_with fail
        go_round
        case rel => exact ⟨k * 2, j + 1, by go_num, Go.Lib.hid (by rw [Nat.pow_succ, HKJ.out]), by omega⟩
        case measure => simp [intOf]; omega
      · have hd2 : decide (2 * (k : Int) < (q : Int)) = false := decide_eq_false (by omega)
        have hhalf : half q = k := by rw [HKJ.out]; exact half_of (by rw [← HKJ.out]; exact hkq) (by rw [← HKJ.out]; omega)
        obtain ⟨lk, hlke⟩ : ∃ lk, lk = l.take k := ⟨_, rfl⟩
        obtain ⟨ld, hlde⟩ : ∃ ld, ld = l.drop k := ⟨_, rfl⟩
        have hlkl : lk.length = k := by rw [hlke, List.length_take, HL.out]; omega
        have hlk : lk.length ≤ 1099511627776 := by omega
        have hrt2 := root_two nd e0 (l := l) (by have := HL.out; omega)
        rw [HL.out, hhalf, ← hlke, ← hlde] at hrt2
        have htp := tops_pow nd e0 (l := lk) (j := j) (by rw [hlkl, HKJ.out])
        have hlkc := idCells_take l k
        rw [← hlke] at hlkc
        have hldc' := idCells_drop l k
        rw [← hlde] at hldc'
        have hldl : ld.length = q - k := by rw [hlde, List.length_drop, HL.out]
        obtain ⟨R, hR0⟩ : ∃ R, R = root nd e0 lk := ⟨_, rfl⟩
        obtain ⟨X, hX0⟩ : ∃ X, X = root nd e0 l := ⟨_, rfl⟩
        obtain ⟨Y, hY0⟩ : ∃ Y, Y = root nd e0 ld := ⟨_, rfl⟩
        rw [← hR0] at htp hrt2
        rw [← hX0, ← hY0] at hrt2
        have hlk' : RI w1 (.slice A k c) lk := by
          have h1 := Rd.takeTo (show Rd (fun b => b < w1.heap.size) w1 32 (.slice A q c) q (idCells l) by have := hV1.out; unfold RI RdI at this; rw [HL.out] at this; exact this) k (by omega)
          rw [hlkc] at h1
          unfold RI RdI; rw [hlkl]; exact h1
        have hl := hV1.out
        have HRk := Go.Lib.hid hR0.symm
        have HX := Go.Lib.hid hX0.symm
        have HY := Go.Lib.hid hY0.symm
        have HN : Hid (sha (1 :: (R.l ++ Y.l)) = X) := Go.Lib.hid hrt2.symm
        have HTP := Go.Lib.hid htp
        have hl40 : l.length ≤ 1099511627776 := by rw [HL.out]; omega
        have hld40 : ld.length ≤ 1099511627776 := by omega
        have hnl : l.length = q := HL.out
        have HNL := Go.Lib.hid hnl
        have HLDC := Go.Lib.hid hldc'
        have HLDL := Go.Lib.hid hldl
        have HLKL := Go.Lib.hid hlkl
        have hkn : k ≤ q := by omega
        have hNlk : ∀ b, (fun b => b < w1.heap.size) b → b < w1.heap.size := fun _ h => h
        have hlkR : RdI (fun b => b < w1.heap.size) w1 (.slice A k c) lk := hlk'
        clear hR0 hX0 hY0 hrt2 htp hlkc hlke hlde hhalf hnl hldc' hldl hlkl
        go_wp2_with (go_at_call 28; ((with_reducible refine (treeOf_any _ lk _ _ hlkR hNlk hlk).mono ?_); rintro e w2 ⟨rfl, g2, tv, hR⟩))
        rw [HTP.out] at hR
        have hlk'' := hlk'
        clear hlk' hlkR
        have hl := RI.gr hl g2
        have hlk' := RI.gr hlk'' g2
        have gW := gb_trans g1 g2
        clear hlk'' g2 hV1 hd2
        generalize w1.heap.size = rb at *
        refine wp_region_specs 31 [23, 24, 25, 26, 27, 28, 29, 30, 31, 32, 33, 34, 35, 36, 37, 38, 39, 40, 41, 42, 43, 44, 45, 46, 47, 48, 49, 50, 51, 52, 53] (by kernel_rfl) (by kernel_rfl) (splφ rb q c k A R X Y ld) (splφ_gr rb q c k A R X Y ld) ?step ?fin
        case step =>
          intro i_ o_ ho hi_ u w' hg hd
          rcases (by omega : i_ = 0 ∨ i_ = 1 ∨ i_ = 2 ∨ i_ = 3 ∨ i_ = 4 ∨ i_ = 5 ∨ i_ = 6 ∨ i_ = 7 ∨ i_ = 8 ∨ i_ = 9 ∨ i_ = 10 ∨ i_ = 11 ∨ i_ = 12 ∨ i_ = 13 ∨ i_ = 14 ∨ i_ = 15 ∨ i_ = 16 ∨ i_ = 17 ∨ i_ = 18 ∨ i_ = 19 ∨ i_ = 20 ∨ i_ = 21 ∨ i_ = 22 ∨ i_ = 23 ∨ i_ = 24 ∨ i_ = 25 ∨ i_ = 26 ∨ i_ = 27 ∨ i_ = 28 ∨ i_ = 29 ∨ i_ = 30) with rfl | rfl | rfl | rfl | rfl | rfl | rfl | rfl | rfl | rfl | rfl | rfl | rfl | rfl | rfl | rfl | rfl | rfl | rfl | rfl | rfl | rfl | rfl | rfl | rfl | rfl | rfl | rfl | rfl | rfl | rfl <;> obtain rfl := Option.some.inj ho <;>
            simp (decide := true) only [fillAct, List.mapIdx_cons, List.mapIdx_nil, Nat.reduceAdd, if_true, if_false, List.getD_cons_zero, List.getD_cons_succ]
          · clear hd ho
            go_wp2_with fail
            exact ⟨rfl, gb_refl _ _, rfl⟩
          · have h0 : u 23 = .pointer (some ⟨rb, 0, none⟩) := hd 0 (by kernel_rfl)
            clear hd ho
            rw [h0]
            go_wp2_with fail
            exact ⟨rfl, gb_refl _ _, rfl⟩
          · have h1 : u 24 = .bool true := hd 1 (by kernel_rfl)
            clear hd ho
            rw [h1]
            go_wp2_with fail
            exact ⟨rfl, gb_refl _ _, rfl⟩
          · have h2 : u 25 = .bool true := hd 2 (by kernel_rfl)
            clear hd ho
            rw [h2]
            refine wpList_guard (by rfl) ?_
            go_wp2_with fail
            exact ⟨rfl, gb_refl _ _, rfl⟩
          · have h2 : u 25 = .bool true := hd 2 (by kernel_rfl)
            have h3 : u 26 = .pointer (some ⟨rb, 0, none⟩) := hd 3 (by kernel_rfl)
            clear hd ho
            rw [h2, h3]
            refine wpList_guard (by rfl) ?_
            have hR1 := Rng.gr hR hg
            have h1R : [R].length ≤ 1000000 := by simp
            go_wp2_with (go_at_call 34; ((with_reducible refine (tops_any _ rb tv _ [R] _ hR1 h1R).mono ?_); rintro e w3 ⟨v9, rfl, ho9, g3⟩))
            exact ⟨rfl, g3, Ow.weaken ho9 (Nat.zero_le _)⟩
          · have h2 : u 25 = .bool true := hd 2 (by kernel_rfl)
            have h4 : Ow 0 w' 32 (u 27) 1 (idCells [R]) := hd 4 (by kernel_rfl)
            clear hd ho
            rw [h2]
            refine wpList_guard (by rfl) ?_
            obtain ⟨A5, c5, e5⟩ := h4.form
            rw [e5]
            clear e5 h4
            go_wp2_with fail
            exact ⟨rfl, gb_refl _ _, rfl⟩
          · have h2 : u 25 = .bool true := hd 2 (by kernel_rfl)
            have h5 : u 28 = .int .i64 1 := hd 5 (by kernel_rfl)
            clear hd ho
            rw [h2, h5]
            refine wpList_guard (by rfl) ?_
            go_wp2_with fail
            exact ⟨rfl, gb_refl _ _, rfl⟩
          · have h2 : u 25 = .bool true := hd 2 (by kernel_rfl)
            have h6 : u 29 = .bool true := hd 6 (by kernel_rfl)
            clear hd ho
            rw [h2, h6]
            go_wp2_with fail
            exact ⟨rfl, gb_refl _ _, rfl⟩
          · have h7 : u 30 = .bool true := hd 7 (by kernel_rfl)
            clear hd ho
            rw [h7]
            go_wp2_with fail
            exact ⟨rfl, gb_refl _ _, rfl⟩
          · have h8 : u 31 = .bool true := hd 8 (by kernel_rfl)
            clear hd ho
            rw [h8]
            refine wpList_guard (by rfl) ?_
            go_wp2_with fail
            exact ⟨rfl, gb_refl _ _, rfl⟩
          · have h8 : u 31 = .bool true := hd 8 (by kernel_rfl)
            have h9 : u 32 = .pointer (some ⟨rb, 0, none⟩) := hd 9 (by kernel_rfl)
            clear hd ho
            rw [h8, h9]
            refine wpList_guard (by rfl) ?_
            have hR1 := Rng.gr hR hg
            have hR2 : Rng w' rb rb tv lk.length (tops nd e0 lk) := by rw [HTP.out]; exact hR1
            go_wp2_with (go_at_call 30; ((with_reducible refine (rootM_any _ rb tv lk _ hR2 hlk).mono ?_); rintro e w3 ⟨rfl, g3⟩))
            exact ⟨rfl, g3, by simp only [splφ]; rw [HRk.out]; rfl⟩
          · have h8 : u 31 = .bool true := hd 8 (by kernel_rfl)
            clear hd ho
            rw [h8]
            refine wpList_guard (by rfl) ?_
            go_wp2_with fail
            exact ⟨rfl, gb_refl _ _, rfl⟩
          · have h8 : u 31 = .bool true := hd 8 (by kernel_rfl)
            have h11 : u 34 = .pointer (some ⟨rb, 0, none⟩) := hd 11 (by kernel_rfl)
            clear hd ho
            rw [h8, h11]
            refine wpList_guard (by rfl) ?_
            have hR1 := Rng.gr hR hg
            have h1R : [R].length ≤ 1000000 := by simp
            go_wp2_with (go_at_call 34; ((with_reducible refine (tops_any _ rb tv _ [R] _ hR1 h1R).mono ?_); rintro e w3 ⟨v9, rfl, ho9, g3⟩))
            exact ⟨rfl, g3, Ow.weaken ho9 (Nat.zero_le _)⟩
          · have h8 : u 31 = .bool true := hd 8 (by kernel_rfl)
            have h12 : Ow 0 w' 32 (u 35) 1 (idCells [R]) := hd 12 (by kernel_rfl)
            clear hd ho
            rw [h8]
            refine wpList_guard (by rfl) ?_
            obtain ⟨b5, o5, c5, e5, _, _, _, hr5, _⟩ := h12.at (by decide)
            rw [e5]
            clear e5 h12
            rw [idCells_one] at hr5
            go_wp2_with fail
            exact ⟨rfl, gb_refl _ _, b5, o5, rfl, hr5⟩
          · have h8 : u 31 = .bool true := hd 8 (by kernel_rfl)
            have h13 : ∃ b o, (u 36) = .pointer (some ⟨b, o, none⟩) ∧ w'.rangeAt b o (R.l.map bv) := hd 13 (by kernel_rfl)
            clear hd ho
            rw [h8]
            refine wpList_guard (by rfl) ?_
            obtain ⟨b5, o5, e5, hr5⟩ := h13
            rw [e5]
            go_wp2_with ((with_reducible refine wpList_load_range (t := 26) b5 o5 (R.l.map bv) _ hr5 (by kernel_rfl) Try.underlying26 rfl (idSize _) ?_))
            exact ⟨rfl, gb_refl _ _, rfl⟩
          · have h8 : u 31 = .bool true := hd 8 (by kernel_rfl)
            have h10 : u 33 = idv R := hd 10 (by kernel_rfl)
            have h14 : u 37 = idv R := hd 14 (by kernel_rfl)
            clear hd ho
            rw [h8, h10, h14]
            refine wpList_guard (by rfl) ?_
            go_wp2_with ((with_reducible refine wpList_eql_id (x := .tmp 33) (y := .tmp 37) idEq (R) (R) (by kernel_rfl) (by kernel_rfl) ?_))
            refine ⟨rfl, gb_refl _ _, ?_⟩
            show Value.bool _ = .bool true
            rw [beq_self_eq_true]
          · have h8 : u 31 = .bool true := hd 8 (by kernel_rfl)
            have h15 : u 38 = .bool true := hd 15 (by kernel_rfl)
            clear hd ho
            rw [h8, h15]
            go_wp2_with fail
            exact ⟨rfl, gb_refl _ _, rfl⟩
          · have h16 : u 39 = .bool true := hd 16 (by kernel_rfl)
            clear hd ho
            rw [h16]
            go_wp2_with fail
            exact ⟨rfl, gb_refl _ _, rfl⟩
          · have h17 : u 40 = .bool true := hd 17 (by kernel_rfl)
            clear hd ho
            rw [h17]
            refine wpList_guard (by rfl) ?_
            go_wp2_with fail
            exact ⟨rfl, gb_refl _ _, rfl⟩
          · have h17 : u 40 = .bool true := hd 17 (by kernel_rfl)
            have h18 : u 41 = .slice A q c := hd 18 (by kernel_rfl)
            clear hd ho
            rw [h17, h18]
            refine wpList_guard (by rfl) ?_
            have hl1 : RdI (fun b => b < w'.heap.size) w' (.slice A q c) l := RI.gr hl hg
            go_wp2_with (go_at_call 36; ((with_reducible refine (treeRoot_any _ l _ _ hl1 (fun _ h => h) hl40).mono ?_); rintro e w3 ⟨rfl, g3⟩))
            exact ⟨rfl, g3, by simp only [splφ]; rw [HX.out]; rfl⟩
          · have h17 : u 40 = .bool true := hd 17 (by kernel_rfl)
            clear hd ho
            rw [h17]
            refine wpList_guard (by rfl) ?_
            go_wp2_with fail
            exact ⟨rfl, gb_refl _ _, rfl⟩
          · have h17 : u 40 = .bool true := hd 17 (by kernel_rfl)
            clear hd ho
            rw [h17]
            refine wpList_guard (by rfl) ?_
            go_wp2_with fail
            exact ⟨rfl, gb_refl _ _, rfl⟩
          · have h17 : u 40 = .bool true := hd 17 (by kernel_rfl)
            have h20 : u 43 = .slice A q c := hd 20 (by kernel_rfl)
            have h21 : u 44 = .int .i64 (k : Int) := hd 21 (by kernel_rfl)
            clear hd ho
            rw [h17, h20, h21]
            refine wpList_guard (by rfl) ?_
            go_wp2_with fail
            exact ⟨rfl, gb_refl _ _, rfl⟩
          · have h17 : u 40 = .bool true := hd 17 (by kernel_rfl)
            have h22 : u 45 = .slice A k c := hd 22 (by kernel_rfl)
            clear hd ho
            rw [h17, h22]
            refine wpList_guard (by rfl) ?_
            have hl1 : RdI (fun b => b < w'.heap.size) w' (.slice A k c) lk := RI.gr hlk' hg
            go_wp2_with (go_at_call 36; ((with_reducible refine (treeRoot_any _ lk _ _ hl1 (fun _ h => h) hlk).mono ?_); rintro e w3 ⟨rfl, g3⟩))
            exact ⟨rfl, g3, by simp only [splφ]; rw [HRk.out]; rfl⟩
          · have h17 : u 40 = .bool true := hd 17 (by kernel_rfl)
            clear hd ho
            rw [h17]
            refine wpList_guard (by rfl) ?_
            go_wp2_with fail
            exact ⟨rfl, gb_refl _ _, rfl⟩
          · have h17 : u 40 = .bool true := hd 17 (by kernel_rfl)
            clear hd ho
            rw [h17]
            refine wpList_guard (by rfl) ?_
            go_wp2_with fail
            exact ⟨rfl, gb_refl _ _, rfl⟩
          · have h17 : u 40 = .bool true := hd 17 (by kernel_rfl)
            have h24 : u 47 = .slice A q c := hd 24 (by kernel_rfl)
            have h25 : u 48 = .int .i64 (k : Int) := hd 25 (by kernel_rfl)
            clear hd ho
            rw [h17, h24, h25]
            refine wpList_guard (by rfl) ?_
            have hl1 : Rd (fun b => b < w'.heap.size) w' 32 (.slice A q c) q (idCells l) := by have := RI.gr hl hg; unfold RI RdI at this; rw [HNL.out] at this; exact this
            go_wp2_with ((with_reducible refine wpList_cut (x := .tmp 47) Try.underlying46 (by kernel_rfl) hl1 (by kernel_rfl) k q (.inr ⟨_, rfl, by kernel_rfl⟩) (.inl ⟨rfl, rfl⟩) hkn (Nat.le_refl _) ?_); intro v9 hv9)
            refine ⟨rfl, gb_refl _ _, ?_⟩
            unfold splφ RdI
            rw [HLDL.out, ← HLDC.out]; rwa [List.take_of_length_le (by rw [List.length_drop, idCells_length, HNL.out]; omega)] at hv9
          · have h17 : u 40 = .bool true := hd 17 (by kernel_rfl)
            have h26 : RdI (fun b => b < w'.heap.size) w' (u 49) ld := hd 26 (by kernel_rfl)
            clear hd ho
            rw [h17]
            refine wpList_guard (by rfl) ?_
            go_wp2_with (go_at_call 36; ((with_reducible refine (treeRoot_any _ ld _ _ h26 (fun _ h => h) hld40).mono ?_); rintro e w3 ⟨rfl, g3⟩))
            exact ⟨rfl, g3, by simp only [splφ]; rw [HY.out]; rfl⟩
          · have h17 : u 40 = .bool true := hd 17 (by kernel_rfl)
            have h23 : u 46 = idv R := hd 23 (by kernel_rfl)
            have h27 : u 50 = idv Y := hd 27 (by kernel_rfl)
            clear hd ho
            rw [h17, h23, h27]
            refine wpList_guard (by rfl) ?_
            go_wp2_with (go_at_call 21; ((with_reducible refine (node_any R Y _).mono ?_); rintro e w3 ⟨rfl, g3⟩))
            exact ⟨rfl, g3, by simp only [splφ]; rw [HN.out]; rfl⟩
          · have h17 : u 40 = .bool true := hd 17 (by kernel_rfl)
            have h19 : u 42 = idv X := hd 19 (by kernel_rfl)
            have h28 : u 51 = idv X := hd 28 (by kernel_rfl)
            clear hd ho
            rw [h17, h19, h28]
            refine wpList_guard (by rfl) ?_
            go_wp2_with ((with_reducible refine wpList_eql_id (x := .tmp 42) (y := .tmp 51) idEq (X) (X) (by kernel_rfl) (by kernel_rfl) ?_))
            refine ⟨rfl, gb_refl _ _, ?_⟩
            show Value.bool _ = .bool true
            rw [beq_self_eq_true]
          · have h17 : u 40 = .bool true := hd 17 (by kernel_rfl)
            have h29 : u 52 = .bool true := hd 29 (by kernel_rfl)
            clear hd ho
            rw [h17, h29]
            go_wp2_with fail
            exact ⟨rfl, gb_refl _ _, rfl⟩

        case fin =>
          intro u w' hg hφ
          have h9 : u 53 = .bool true := hφ 30 (by omega)
          simp (decide := true) only [fillAct, List.mapIdx_cons, List.mapIdx_nil, Nat.reduceAdd, if_true, if_false, List.drop_succ_cons, List.drop_zero]
          rw [h9]
          clear hφ
          go_wp2_with fail
          go_ret
          exact ⟨rfl, gb_trans gW hg⟩
end Go.Proofs.Ytgimgddlipbniaa
