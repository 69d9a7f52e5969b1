import Derived.Test.YtajgklomcapboaaChk
import Derived.Test.YtajgklomcapboaaSame
/- proof.CheckInclusion. -/
namespace Go.Proofs.Ytajgklomcapboaa
open Go.RowKit Go.Shelf Sc

set_option maxHeartbeats 4000000 in
set_option maxRecDepth 100000 in
theorem ckInc_any (leaf rt : Sc.Id) (a n : Int) (v : Value) (path : List Sc.Id) (NB : Nat → Prop) (w : World) (hv : RdI NB w v path) (hNB : ∀ b, NB b → b < w.heap.size) :
    Calls Try.prog 35 #[.agg (leaf.l.map bv).toArray, .int .i64 a, .int .i64 n, v, .agg (rt.l.map bv).toArray] w fun e w' => e = .returned (.int .i64 (ckInc leaf a n path rt : Int)) ∧ w.grownBy w' none := by
  go_enter Try.func35, Try.ntmps35
  obtain ⟨A, c, rfl, hc⟩ := Rd.form hv
  have hm := Rd.le hv
  have hm2 : path.length ≤ 9223372036854775807 := hm
  obtain ⟨W1, hW1⟩ : ∃ W1, W1 = (w.alloc (.cells (leaf.l.map bv).toArray 34)).alloc (.cells (rt.l.map bv).toArray 34) := ⟨_, rfl⟩
  have bl1 : Bk W1 w.heap.size 34 (leaf.l.map bv) := by rw [hW1]; exact (Bk.new w 34 (leaf.l.map bv)).alloc _
  have br1 : Bk W1 (w.heap.size + 1) 34 (rt.l.map bv) := by
    have := Bk.new (w.alloc (.cells (leaf.l.map bv).toArray 34)) 34 (rt.l.map bv)
    rw [World.size_alloc] at this; rw [hW1]; exact this
  have g1 : w.grownBy W1 none := by rw [hW1]; exact gb_alloc (gb_alloc (gb_refl w none) _) _
  have z1 : W1.heap.size = w.heap.size + 2 := by rw [hW1, World.size_alloc, World.size_alloc]
  have HW1 := Go.Lib.hid hW1
  have HV := Go.Lib.hid (RI.of hv hNB)
  clear hW1 hv
  rcases (by omega : a < 0 ∨ (0 ≤ a ∧ n ≤ a) ∨ (0 ≤ a ∧ a < n ∧ 1099511627776 < n) ∨ (0 ≤ a ∧ a < n ∧ n ≤ 1099511627776)) with hs | hs | hs | hs
  · rw [ckInc_out (.inl hs)]
    have hd1 : decide (a < 0) = true := decide_eq_true hs
    go_wp2_with fail
    go_ret
    exact ⟨rfl, HW1.out ▸ g1⟩
  · rw [ckInc_out (.inr (.inl hs.2))]
    have hd1 : decide (a < 0) = false := decide_eq_false (by omega)
    have hd2 : decide (n ≤ a) = true := decide_eq_true hs.2
    go_wp2_with fail
    go_ret
    exact ⟨rfl, HW1.out ▸ g1⟩
  · rw [ckInc_out (.inr (.inr hs.2.2))]
    have hd1 : decide (a < 0) = false := decide_eq_false (by omega)
    have hd2 : decide (n ≤ a) = false := decide_eq_false (by omega)
    have hd3 : decide (1099511627776 < n) = true := decide_eq_true hs.2.2
    go_wp2_with fail
    go_ret
    exact ⟨rfl, HW1.out ▸ g1⟩
  · have hd1 : decide (a < 0) = false := decide_eq_false (by omega)
    have hd2 : decide (n ≤ a) = false := decide_eq_false (by omega)
    have hd3 : decide (1099511627776 < n) = false := decide_eq_false (by omega)
    obtain ⟨a0, rfl⟩ : ∃ a0 : Nat, a = (a0 : Int) := ⟨a.toNat, by omega⟩
    obtain ⟨l0, rfl⟩ : ∃ l0 : Nat, n = (l0 : Int) + 1 := ⟨(n - 1).toNat, by omega⟩
    have hal : a0 ≤ l0 := by omega
    have hl40 : l0 + 1 ≤ 1099511627776 := by omega
    obtain ⟨res, hres⟩ : ∃ res, res = ckInc leaf (a0 : Int) ((l0 : Int) + 1) path rt := ⟨_, rfl⟩
    rw [← hres]
    have HRES := Go.Lib.hid hres
    obtain ⟨m, hmm⟩ : ∃ m, m = path.length := ⟨_, rfl⟩
    rw [← hmm] at hc hm hm2 HV ⊢
    have HMM := Go.Lib.hid hmm
    have bi1 := Bk.new W1 34 idZ
    have hwr : IntKind.i64.wrap ((l0 : Int) + 1 - 1) = (l0 : Int) := by rw [IntWalk.i64_in _ (by omega)]; omega
    have hsub : (l0 : Int) + 1 - 1 = (l0 : Int) := by omega
    have hmI : (0 : Int) ≤ (m : Int) ∧ (m : Int) ≤ 9223372036854775807 := by omega
    clear hres hmm
    go_wp2_with (first
      | (rw [← HW1.out]; (with_reducible refine wpList_load_bk (x := .tmp 5) (t := 34) w.heap.size _ (leaf.l.map bv) _ bl1 (by kernel_rfl) Try.underlying34 rfl (idSize _) ?_))
      | ((with_reducible refine wpList_alloc_row (E := 34) idZ infoId ?_))
      | ((with_reducible refine wpList_store_bk (t := 34) W1.heap.size 34 idZ (leaf.l.map bv) bi1 (by kernel_rfl) (by kernel_rfl) (idSize _) (idLen _) (idOne _) ?_); intro w2 hi2 g2 z2))
    have gW2 := gb_trans_new (gb_alloc g1 _) g2 g1.size
    have br2 := (br1.alloc (.cells idZ.toArray 34)).grown g2 (by simp; omega)
    obtain ⟨bid, hbid⟩ : ∃ bid, bid = w.heap.size + 2 := ⟨_, rfl⟩
    obtain ⟨brt, hbrt⟩ : ∃ brt, brt = w.heap.size + 1 := ⟨_, rfl⟩
    have hws : w.heap.size ≤ bid := by omega
    have hne : brt ≠ bid := by omega
    rw [z1, ← hbid] at hi2
    rw [← hbrt] at br2
    rw [← hbid, ← hbrt]
    clear bl1 br1 bi1 g1 g2 z1 z2 HW1 hbid hbrt hd1 hd2 hd3
    go_loopw [11, 12, 33] (fun vn vl vj wr => ∃ (no la j : Nat) (x : Sc.Id), vn = .int .i64 (no : Int) ∧ vl = .int .i64 (la : Int) ∧ vj = .int .i64 (j : Int) ∧ j ≤ m ∧ no ≤ la ∧ la ≤ l0 ∧
        Hid (climb (up nd) a0 l0 leaf path = climb (up nd) no la x (path.drop j)) ∧ Hid (Bk wr bid 34 (x.l.map bv)) ∧ Hid (Bk wr brt 34 (rt.l.map bv)) ∧ Hid (w.grownBy wr none))
      (fun _ _ vj _ => m - (intOf vj).toNat)
    case atStart => exact ⟨a0, l0, 0, leaf, rfl, rfl, rfl, Nat.zero_le _, hal, Nat.le_refl _, Go.Lib.hid rfl, Go.Lib.hid hi2, Go.Lib.hid br2, Go.Lib.hid gW2⟩
    case round =>
      clear hi2 br2 gW2 w2
      obtain ⟨no, la, j, x, rfl, rfl, rfl, hjm, hnl, hll, HCL, HB, HR, HG⟩ := hrel
      have hnI : (0 : Int) ≤ (no : Int) ∧ (no : Int) ≤ (la : Int) ∧ (la : Int) < 1099511627776 := by omega
      have hjI : (0 : Int) ≤ (j : Int) ∧ (j : Int) ≤ (m : Int) := by omega
      by_cases hlt : j < m
      · have hd : decide ((j : Int) < (m : Int)) = true := decide_eq_true (by omega)
        obtain ⟨p, hp⟩ : ∃ p, path[j]? = some p := ⟨_, List.getElem?_eq_getElem (by rw [← HMM.out]; exact hlt)⟩
        obtain ⟨bp, op, cp, hvp, -, hnc, -, hcell⟩ := (ri_rd (RI.gr HV.out HG.out) HMM.out).at (by omega)
        injection hvp with hA _ hcp
        subst hA hcp
        have hrt := range_id hcell hp
        have hdrop := drop_at hp
        have hcl := HCL.out
        rw [hdrop, climb_cons] at hcl
        have HCL2 := Go.Lib.hid hcl
        have hb0 := HB.out
        have bz := Bk.new wr 34 idZ
        have hsz : bid < wr.heap.size := hb0.lt
        clear hcell hdrop hcl hp
        by_cases hla : la = 0
        · subst hla
          have hr60 : (res : Int) = 60 := by
            have := ckInc_climb (rt := rt) hal hl40 (HCL2.out.trans (if_pos rfl))
            rw [HRES.out, this]; rfl
          have HR60 := Go.Lib.hid hr60
          clear hr60
          go_wp2_with (first
            | ((with_reducible refine wpList_load_range (x := .tmp 35) (t := 34) bp (op + j * 32) (p.l.map bv) _ hrt (by kernel_rfl) Try.underlying34 rfl (idSize _) ?_))
            | ((with_reducible refine wpList_alloc_row (E := 34) idZ infoId ?_))
            | ((with_reducible refine wpList_store_bk (t := 34) wr.heap.size 34 idZ (p.l.map bv) bz (by kernel_rfl) (by kernel_rfl) (idSize _) (idLen _) (idOne _) ?_); intro w3 h3 g3 z3))
          go_ret
          exact ⟨by rw [HR60.out]; rfl, gb_trans_new (gb_alloc HG.out _) g3 HG.out.size⟩
        · have hq0 : ((la : Int) == 0) = false := by simp; omega
          have hcl := HCL2.out
          rw [if_neg hla] at hcl
          have HSAME : Hid (∀ z : Nat, ((z : Int) / 2) = ((z / 2 : Nat) : Int)) := Go.Lib.hid (fun z => by omega)
          by_cases ho : no % 2 = 1 ∨ no = la
          · rw [if_pos ho] at hcl
            have hst1 := strip_le1 no la hnl
            have hst2 := strip_le no la
            have HCL3 := Go.Lib.hid hcl
            clear hcl HCL2 HCL
            have hnode : ∀ w : World, Calls Try.prog 55 #[.agg (p.l.map bv).toArray, .agg (x.l.map bv).toArray] w fun e w' => e = .returned (.agg ((nd p x).l.map bv).toArray) ∧ w.grownBy w' none := fun w => node_any p x w
            have hlen : (x.l.map bv).length = ((nd p x).l.map bv).length := by rw [List.length_map, List.length_map, x.h, (nd p x).h]
            rcases (by omega : no % 2 = 1 ∨ (no % 2 = 0 ∧ no = la)) with hod | ⟨hev, heq⟩
            all_goals
              first
                | (have hand : bits .and .i64 (no : Int) 1 = 1 := and_one_odd no hod (by omega))
                | (have hand : bits .and .i64 (no : Int) 1 = 0 := and_one_even no hev (by omega); have hq1 : ((no : Int) == (la : Int)) = true := (by rw [heq]; exact beq_self_eq_true _); clear heq)
              go_wp2_with (first
                | ((with_reducible refine wpList_load_range (x := .tmp 35) (t := 34) bp (op + j * 32) (p.l.map bv) _ hrt (by kernel_rfl) Try.underlying34 rfl (idSize _) ?_))
                | ((with_reducible refine wpList_alloc_row (E := 34) idZ infoId ?_))
                | ((with_reducible refine wpList_store_bk (t := 34) wr.heap.size 34 idZ (p.l.map bv) bz (by kernel_rfl) (by kernel_rfl) (idSize _) (idLen _) (idOne _) ?_); intro w3 h3 g3 z3; have hb3 := (hb0.alloc (.cells idZ.toArray 34)).grown g3 (by simp; omega))
                | ((with_reducible refine wpList_load_bk (x := .tmp 15) (t := 34) wr.heap.size _ (p.l.map bv) _ h3 (by kernel_rfl) Try.underlying34 rfl (idSize _) ?_))
                | ((with_reducible refine wpList_load_bk (x := .tmp 13) (t := 34) bid _ (x.l.map bv) _ hb3 (by kernel_rfl) Try.underlying34 rfl (idSize _) ?_))
                | (go_at_call 55; ((with_reducible refine (hnode _).mono ?_); rintro e w4 ⟨rfl, g4⟩; have hb4 := hb3.grown g4 (by simp)))
                | ((with_reducible refine wpList_store_bk (t := 34) bid 34 (x.l.map bv) ((nd p x).l.map bv) hb4 (by kernel_rfl) (by kernel_rfl) (idSize _) hlen (idOne _) ?_); intro w5 h5 g5 z5))
              try go_frame
              have s3 := g3.size
              have br5 := (((HR.out.alloc (.cells idZ.toArray 34)).grown g3 (by simp; have := HR.out.lt; omega)).grown g4 (by simp)).grown g5 (by simp; omega)
              have gw5 := gb_trans_new (gb_trans (gb_trans_new (gb_alloc HG.out _) g3 HG.out.size) g4) g5 hws
              have HB5 := Go.Lib.hid h5
              have HR5 := Go.Lib.hid br5
              have HG5 := Go.Lib.hid gw5
              clear h3 hb3 hb4 h5 br5 gw5 g3 g4 g5 z3 z5 s3 HB HR HG hb0 bz hsz hrt hnode hlen hand
              go_loop [11, 12] (fun vn vl => ∃ n2 l2 : Nat, vn = .int .i64 (n2 : Int) ∧ vl = .int .i64 (l2 : Int) ∧ Hid (strip no la = strip n2 l2) ∧ n2 ≤ la ∧ l2 ≤ la) (fun vn _ => (intOf vn).toNat)
              case atStart => exact ⟨no, la, rfl, rfl, Go.Lib.hid rfl, hnl, Nat.le_refl _⟩
              case round =>
                obtain ⟨n2, l2, rfl, rfl, HS, hn2, hl2⟩ := hrel
                have hn2I : (0 : Int) ≤ (n2 : Int) ∧ (n2 : Int) ≤ 1099511627776 := by omega
                have hl2I : (0 : Int) ≤ (l2 : Int) ∧ (l2 : Int) ≤ 1099511627776 := by omega
                by_cases hgo : n2 % 2 = 0 ∧ n2 ≠ 0
                · have hand : bits .and .i64 (n2 : Int) 1 = 0 := and_one_even n2 hgo.1 (by omega)
                  have hq2 : ((n2 : Int) != 0) = true := by simp; omega
                  have HGO := Go.Lib.hid hgo
                  clear hgo
                  go_wp2_with fail
                  exact ⟨⟨n2 / 2, l2 / 2, congrArg (Value.int .i64) (HSAME.out n2), congrArg (Value.int .i64) (HSAME.out l2), Go.Lib.hid (by rw [HS.out, strip_go HGO.out.1 HGO.out.2]), by omega, by omega⟩, by have := HGO.out; simp only [intOf]; omega⟩
                · have hss : strip no la = (n2, l2) := by rw [HS.out, strip_stop (by omega)]
                  rw [hss] at hst1 hst2
                  have hfin : climb (up nd) a0 l0 leaf path = climb (up nd) (n2 / 2) (l2 / 2) (nd p x) (path.drop (j + 1)) := by rw [HCL3.out, hss]; rfl
                  have HF := Go.Lib.hid hfin
                  clear hss hfin HS
                  rcases (by omega : n2 % 2 = 1 ∨ n2 = 0) with hod2 | hz2
                  · have hand : bits .and .i64 (n2 : Int) 1 = 1 := and_one_odd n2 hod2 (by omega)
                    go_wp2_with fail
                    go_roundw
                    case rel => exact ⟨n2 / 2, l2 / 2, j + 1, nd p x, congrArg (Value.int .i64) (HSAME.out n2), congrArg (Value.int .i64) (HSAME.out l2), by push_cast; rfl, by omega, by dsimp only at hst1; omega, by omega, HF, HB5, HR5, HG5⟩
                    case measure => simp only [intOf]; omega
                  · subst hz2
                    have hand : bits .and .i64 0 1 = 0 := by decide
                    go_wp2_with fail
                    go_roundw
                    case rel => exact ⟨0, l2 / 2, j + 1, nd p x, rfl, congrArg (Value.int .i64) (HSAME.out l2), by push_cast; rfl, by omega, by omega, by omega, HF, HB5, HR5, HG5⟩
                    case measure => simp only [intOf]; omega
          · rw [if_neg ho] at hcl
            have HCL3 := Go.Lib.hid hcl
            clear hcl HCL2 HCL
            have hnode : ∀ w : World, Calls Try.prog 55 #[.agg (x.l.map bv).toArray, .agg (p.l.map bv).toArray] w fun e w' => e = .returned (.agg ((nd x p).l.map bv).toArray) ∧ w.grownBy w' none := fun w => node_any x p w
            have hlen : (x.l.map bv).length = ((nd x p).l.map bv).length := by rw [List.length_map, List.length_map, x.h, (nd x p).h]
            have hand : bits .and .i64 (no : Int) 1 = 0 := and_one_even no (by omega) (by omega)
            have hq1 : ((no : Int) == (la : Int)) = false := by simp; omega
            go_wp2_with (first
              | ((with_reducible refine wpList_load_range (x := .tmp 35) (t := 34) bp (op + j * 32) (p.l.map bv) _ hrt (by kernel_rfl) Try.underlying34 rfl (idSize _) ?_))
              | ((with_reducible refine wpList_alloc_row (E := 34) idZ infoId ?_))
              | ((with_reducible refine wpList_store_bk (t := 34) wr.heap.size 34 idZ (p.l.map bv) bz (by kernel_rfl) (by kernel_rfl) (idSize _) (idLen _) (idOne _) ?_); intro w3 h3 g3 z3; have hb3 := (hb0.alloc (.cells idZ.toArray 34)).grown g3 (by simp; omega))
              | ((with_reducible refine wpList_load_bk (x := .tmp 15) (t := 34) wr.heap.size _ (p.l.map bv) _ h3 (by kernel_rfl) Try.underlying34 rfl (idSize _) ?_))
              | ((with_reducible refine wpList_load_bk (x := .tmp 13) (t := 34) bid _ (x.l.map bv) _ hb3 (by kernel_rfl) Try.underlying34 rfl (idSize _) ?_))
              | (go_at_call 55; ((with_reducible refine (hnode _).mono ?_); rintro e w4 ⟨rfl, g4⟩; have hb4 := hb3.grown g4 (by simp)))
              | ((with_reducible refine wpList_store_bk (t := 34) bid 34 (x.l.map bv) ((nd x p).l.map bv) hb4 (by kernel_rfl) (by kernel_rfl) (idSize _) hlen (idOne _) ?_); intro w5 h5 g5 z5))
            have s3 := g3.size
            have br5 := (((HR.out.alloc (.cells idZ.toArray 34)).grown g3 (by simp; have := HR.out.lt; omega)).grown g4 (by simp)).grown g5 (by simp; omega)
            have gw5 := gb_trans_new (gb_trans (gb_trans_new (gb_alloc HG.out _) g3 HG.out.size) g4) g5 hws
            go_roundw
            case rel => exact ⟨no / 2, la / 2, j + 1, nd x p, congrArg (Value.int .i64) (HSAME.out no), congrArg (Value.int .i64) (HSAME.out la), by push_cast; rfl, by omega, by omega, by omega, HCL3, Go.Lib.hid h5, Go.Lib.hid br5, Go.Lib.hid gw5⟩
            case measure => simp only [intOf]; omega
      · obtain rfl : j = m := by omega
        have hd : decide ((j : Int) < (j : Int)) = false := decide_eq_false (by omega)
        have hcl := HCL.out
        rw [List.drop_of_length_le (by rw [← HMM.out]; exact Nat.le_refl _)] at hcl
        have hck := ckInc_climb (rt := rt) hal hl40 (hcl.trans rfl : _ = some (la, x))
        rw [← HRES.out] at hck
        have hb0 := HB.out
        have hr0 := HR.out
        have hg0 := HG.out
        by_cases hla : la = 0
        · have hq0 : ((la : Int) != 0) = false := by rw [hla]; rfl
          have hck2 : res = if x = rt then 0 else 60 := by
            rw [hck, hla]
            by_cases hx : x = rt
            · rw [if_pos (by rw [hx]; rfl), if_pos hx]
            · rw [if_neg (by intro h; exact hx (Option.some.inj h)), if_neg hx]
          have HCK := Go.Lib.hid hck2
          clear hck hck2 hcl HCL hla
          have qx : (loadVar 34 ⟨bid, 0, none⟩).run Try.prog wr = .ok (.agg (x.l.map bv).toArray) wr := run_loadVar_row (P := Try.prog) wr bid 34 34 (x.l.map bv).toArray (0, 0) _ hb0 Try.underlying34 rfl (by simpa using idSize x)
          have qr : (loadVar 34 ⟨brt, 0, none⟩).run Try.prog wr = .ok (.agg (rt.l.map bv).toArray) wr := run_loadVar_row (P := Try.prog) wr brt 34 34 (rt.l.map bv).toArray (0, 0) _ hr0 Try.underlying34 rfl (by simpa using idSize rt)
          have q1 : ∀ w, (eqGuard .neq 34 (.tmp 72) (.tmp 73) (.agg (x.l.map bv).toArray) (.agg (rt.l.map bv).toArray)).run Try.prog w = .ok () w := fun _ => run_eqGuard_id idEq x rt
          by_cases hx : x = rt
          · have hxb : (x.l == rt.l) = true := by rw [hx]; exact beq_self_eq_true _
            have q2 : ∀ w, (binOp .neq 34 (.agg (x.l.map bv).toArray) (.agg (rt.l.map bv).toArray)).run Try.prog w = .ok (.bool false) w := fun w => (run_neq_id (w := w) idEq x rt).trans (by rw [hxb]; rfl)
            have hr : res = 0 := by rw [HCK.out, if_pos hx]
            have HR0 := Go.Lib.hid hr
            clear hx hxb hr HCK
            go_upto_region 17 with (fail)
            iterate 10 go_step
            refine wpList_guard (by rfl) ?_
            with_reducible refine wpList_load_bk (x := .tmp 13) (t := 34) bid _ (x.l.map bv) _ hb0 (by kernel_rfl) Try.underlying34 rfl (idSize _) ?_
            try go_frame
            refine wpList_guard (by rfl) ?_
            with_reducible refine wpList_load_bk (x := .tmp 9) (t := 34) brt _ (rt.l.map bv) _ hr0 (by kernel_rfl) Try.underlying34 rfl (idSize _) ?_
            try go_frame
            go_wp2_with fail
            go_ret
            exact ⟨by rw [HR0.out]; rfl, hg0⟩
          · have hxb : (x.l == rt.l) = false := beq_ids hx
            have q2 : ∀ w, (binOp .neq 34 (.agg (x.l.map bv).toArray) (.agg (rt.l.map bv).toArray)).run Try.prog w = .ok (.bool true) w := fun w => (run_neq_id (w := w) idEq x rt).trans (by rw [hxb]; rfl)
            have hr : res = 60 := by rw [HCK.out, if_neg hx]
            have HR0 := Go.Lib.hid hr
            clear hx hxb hr HCK
            go_upto_region 17 with (fail)
            iterate 10 go_step
            refine wpList_guard (by rfl) ?_
            with_reducible refine wpList_load_bk (x := .tmp 13) (t := 34) bid _ (x.l.map bv) _ hb0 (by kernel_rfl) Try.underlying34 rfl (idSize _) ?_
            try go_frame
            refine wpList_guard (by rfl) ?_
            with_reducible refine wpList_load_bk (x := .tmp 9) (t := 34) brt _ (rt.l.map bv) _ hr0 (by kernel_rfl) Try.underlying34 rfl (idSize _) ?_
            try go_frame
            go_wp2_with fail
            go_ret
            exact ⟨by rw [HR0.out]; rfl, hg0⟩
        · have hq0 : ((la : Int) != 0) = true := by simp; omega
          have hr : res = 60 := by
            rw [hck, if_neg]
            show ¬ (if la = 0 then some x else none) = some rt
            rw [if_neg hla]; simp
          have HR0 := Go.Lib.hid hr
          clear hck hcl HCL hla hr
          go_wp2_with fail
          go_ret
          exact ⟨by rw [HR0.out]; rfl, hg0⟩
end Go.Proofs.Ytajgklomcapboaa
