import Derived.Test.YtajgklomcapboaaChk
import Derived.Test.YtajgklomcapboaaRefTree
import Derived.Laws.ResultCell
/- scrivenerref06: where a way leads; the check. -/
namespace Go.Proofs.Ytajgklomcapboaa
open Go.RowKit Go.Shelf Sc

theorem results_id_tmp {f : Func} {t u : Nat} (hf : f.results = #[.cell t 34, .tmp u]) (tmps : Array Value) (w : World) (b : Nat) (x : Sc.Id) (ht : tmps.getD t undef = .pointer (some ⟨b, 0, none⟩)) (hb : Bk w b 34 (x.l.map bv)) :
    (results f tmps).run Try.prog w = .ok (.tuple #[idv x, tmps.getD u undef]) w := by
  have ht' : tmps[t]?.getD undef = .pointer (some ⟨b, 0, none⟩) := by simpa using ht
  have hl := run_loadVar_row (P := Try.prog) w b 34 34 (x.l.map bv).toArray (0, 0) _ hb Try.underlying34 rfl (by simpa using idSize x)
  simp [results, hf, ht', asAddr, hl, idv]

set_option maxHeartbeats 4000000 in
set_option maxRecDepth 100000 in
theorem refLead_lt : ∀ (m : Nat) (x : Sc.Id) (a n : Nat) (v : Value) (path : List Sc.Id) (NB : Nat → Prop) (w : World), path.length < m → RdI NB w v path → (∀ b, NB b → b < w.heap.size) → a < n → n ≤ 1099511627776 →
    Calls Try.prog 58 #[.agg (x.l.map bv).toArray, .int .i64 (a : Int), .int .i64 (n : Int), v] w fun e w' => (∃ y, e = .returned (.tuple #[idv y, .bool (lead nd x a n path).isSome]) ∧ ∀ z, lead nd x a n path = some z → z = y) ∧ w.grownBy w' none := by
  intro m
  induction m with
  | zero => intro x a n v path NB w h; omega
  | succ m ih =>
    intro x a n v path NB w hm hv hNB han hn
    go_enter Try.func58, Try.ntmps58
    obtain ⟨A, c, rfl, hc⟩ := Rd.form hv
    have hml := Rd.le hv
    have hm2 : path.length ≤ 9223372036854775807 := hml
    obtain ⟨W, hW⟩ : ∃ W, W = (w.alloc (.cells (x.l.map bv).toArray 34)).alloc (.cells idZ.toArray 34) := ⟨_, rfl⟩
    have bx : Bk W w.heap.size 34 (x.l.map bv) := by rw [hW]; exact (Bk.new w 34 (x.l.map bv)).alloc _
    have b8 : Bk W (w.heap.size + 1) 34 idZ := by
      have := Bk.new (w.alloc (.cells (x.l.map bv).toArray 34)) 34 idZ
      rw [World.size_alloc] at this; rw [hW]; exact this
    have gW : w.grownBy W none := by rw [hW]; exact gb_alloc (gb_alloc (gb_refl w none) _) _
    have zW : W.heap.size = w.heap.size + 2 := by rw [hW, World.size_alloc, World.size_alloc]
    have HV := Go.Lib.hid (RI.of hv hNB)
    have HW := Go.Lib.hid hW
    have HI := Go.Lib.hid ih
    clear hW ih hv hNB
    obtain ⟨p, hp⟩ : ∃ p, p = path.length := ⟨_, rfl⟩
    rw [← hp] at hc hml hm2 HV hm ⊢
    have HP := Go.Lib.hid hp
    have hpI : (0 : Int) ≤ (p : Int) ∧ (p : Int) ≤ 9223372036854775807 := by omega
    have hnI : (0 : Int) ≤ (a : Int) ∧ (a : Int) < (n : Int) ∧ (n : Int) ≤ 1099511627776 := by omega
    clear hp
    by_cases h1 : n = 1
    · subst h1
      obtain ⟨ok, hok⟩ : ∃ ok, ok = (lead nd x a 1 path).isSome := ⟨_, rfl⟩
      have hlead := lead_one nd x a 1 (Nat.le_refl _) path
      have hok2 : ((p : Int) == 0) = ok := by
        rw [hok, hlead]
        by_cases h0 : path = []
        · subst h0; rw [HP.out]; rfl
        · rw [if_neg h0]
          have : p ≠ 0 := fun h => h0 (List.eq_nil_of_length_eq_zero (by rw [← HP.out]; exact h))
          simp; omega
      have hz : ∀ z, lead nd x a 1 path = some z → z = x := fun z h => by
        rw [hlead] at h
        split at h
        · exact (Option.some.inj h).symm
        · cases h
      rw [← hok]
      have HZ := Go.Lib.hid hz
      clear hok hlead hz
      go_wp2_with (first
        | ((with_reducible refine wpList_alloc_row (E := 34) idZ infoId ?_); rw [← HW.out])
        | ((with_reducible refine wpList_load_bk (x := .tmp 4) (t := 34) w.heap.size _ (x.l.map bv) _ bx (by kernel_rfl) Try.underlying34 rfl (idSize _) ?_))
        | ((with_reducible refine wpList_store_bk (t := 34) (w.heap.size + 1) 34 idZ (x.l.map bv) b8 (by kernel_rfl) (by kernel_rfl) (idSize _) (idLen _) (idOne _) ?_); intro w5 h5 g5 z5))
      try go_frame
      exact bodyPost_ret (results_id_tmp rfl _ _ (w.heap.size + 1) x rfl h5) rfl ⟨⟨x, rfl, HZ.out⟩, gb_trans_new gW g5 (by omega)⟩
    · have hq1 : ((n : Int) == 1) = false := by simp; omega
      by_cases h0 : p = 0
      · subst h0
        have hpn : path = [] := List.eq_nil_of_length_eq_zero HP.out.symm
        have hl : lead nd x a n path = none := by rw [hpn]; exact lead_nil nd x a n (by omega)
        rw [hl]
        go_wp2_with (first
          | ((with_reducible refine wpList_alloc_row (E := 34) idZ infoId ?_); rw [← HW.out])
          | ((with_reducible refine wpList_load_bk (x := .tmp 4) (t := 34) w.heap.size _ (x.l.map bv) _ bx (by kernel_rfl) Try.underlying34 rfl (idSize _) ?_))
          | ((with_reducible refine wpList_store_bk (t := 34) (w.heap.size + 1) 34 idZ (x.l.map bv) b8 (by kernel_rfl) (by kernel_rfl) (idSize _) (idLen _) (idOne _) ?_); intro w5 h5 g5 z5))
        try go_frame
        exact bodyPost_ret (results_id_tmp rfl _ _ (w.heap.size + 1) x rfl h5) rfl ⟨⟨x, rfl, fun z h => by cases h⟩, gb_trans_new gW g5 (by omega)⟩
      · have hq2 : ((p : Int) == 0) = false := by simp; omega
        obtain ⟨k, hk0⟩ : ∃ k, k = half n := ⟨_, rfl⟩
        have hhalf : ∀ w : World, Calls Try.prog 48 #[.int .i64 (n : Int)] w fun e w' => e = .returned (.int .i64 (k : Int)) ∧ w' = w := fun w => by rw [hk0]; exact refHalf_any n (by omega) (by omega) w
        have hk1 : 1 ≤ k := by rw [hk0]; exact half_pos n
        have hk2 : k < n := by rw [hk0]; exact half_lt (by omega)
        have hkI : (1 : Int) ≤ (k : Int) ∧ (k : Int) < (n : Int) := by omega
        obtain ⟨q, rfl⟩ : ∃ q, p = q + 1 := ⟨p - 1, by omega⟩
        obtain ⟨rest, last, hrl⟩ := split_last path (by rw [← HP.out]; omega)
        have hql : rest.length = q := by have := HP.out; rw [hrl, List.length_append] at this; simp at this; omega
        have hcells : idCells path = idCells rest ++ last.l.map bv := by rw [hrl, idCells_append, idCells_one]
        obtain ⟨bp, op, cp, hvp, -, hnc, -, hcell⟩ := (ri_rd (RI.gr HV.out gW) HP.out).at (by omega)
        injection hvp with hA _ hcp
        subst hA hcp
        have hlast : path[q]? = some last := by rw [hrl, List.getElem?_append_right (by omega), hql, Nat.sub_self]; rfl
        have hrt := range_id hcell hlast
        have hcut : RdI (fun b => b < w.heap.size) w (.slice (some ⟨bp, op, none⟩) q c) rest := by
          have h1 := Rd.takeTo (ri_rd HV.out HP.out) q (by omega)
          rw [hcells, List.take_append_of_le_length (by rw [idCells_length]; omega), List.take_of_length_le (by rw [idCells_length]; omega)] at h1
          unfold RdI; rw [hql]; exact h1
        have hqI : (0 : Int) ≤ (q : Int) ∧ (q : Int) ≤ 9223372036854775807 := by omega
        have hq3 : (((q + 1 : Nat) : Int) - 1) = (q : Int) := by omega
        have hwr : IntKind.i64.wrap (((q + 1 : Nat) : Int) - 1) = (q : Int) := by rw [hq3]; exact IntWalk.i64_in _ (by omega)
        have htake : Hid (((idCells path).drop (0 * 32)).take ((q - 0) * 32) = idCells rest) := Go.Lib.hid (by
          rw [Nat.zero_mul, List.drop_zero, Nat.sub_zero, hcells, List.take_append_of_le_length (by rw [idCells_length]; omega), List.take_of_length_le (by rw [idCells_length]; omega)])
        rcases Nat.lt_or_ge a k with hak | hak
        · have hll := lead_lo nd x (a := a) (n := n) (by omega) (by rw [← hk0]; exact hak) rest last
          rw [← hrl, ← hk0] at hll
          obtain ⟨L1, hL1⟩ : ∃ L1, L1 = lead nd x a k rest := ⟨_, rfl⟩
          obtain ⟨ok, hok⟩ : ∃ ok, ok = L1.isSome := ⟨_, rfl⟩
          have hih : ∀ (v9 : Value) (W' : World), RdI (fun b => b < w.heap.size) W' v9 rest → w.heap.size ≤ W'.heap.size → Calls Try.prog 58 #[.agg (x.l.map bv).toArray, .int .i64 (a : Int), .int .i64 (k : Int), v9] W' fun e w' => ∃ y : Sc.Id, e = .returned (.tuple #[.agg (y.l.map bv).toArray, .bool ok]) ∧ (∀ z, L1 = some z → z = y) ∧ W'.grownBy w' none := fun v9 W' h9 hs => by
            refine (HI.out x a k v9 rest _ W' (by omega) h9 (fun b hb => by have : b < w.heap.size := hb; omega) (by omega) (by omega)).mono ?_
            rintro e w' ⟨⟨y, he, hy⟩, g⟩
            rw [← hL1] at he hy
            rw [← hok] at he
            exact ⟨y, he, hy, g⟩
          have hres : (lead nd x a n path).isSome = ok := by rw [hll, ← hL1, hok]; cases L1 <;> rfl
          have hz : ∀ y, (∀ z, L1 = some z → z = y) → ∀ z, lead nd x a n path = some z → z = nd y last := by
            intro y hy z h
            rw [hll, ← hL1] at h
            cases L1 with
            | none => cases h
            | some u => rw [← hy u rfl]; exact (Option.some.inj h).symm
          have hnode : ∀ (y : Sc.Id) (w : World), Calls Try.prog 56 #[.agg (y.l.map bv).toArray, .agg (last.l.map bv).toArray] w fun e w' => e = .returned (.agg ((nd y last).l.map bv).toArray) ∧ w.grownBy w' none := fun y w => refNode_any y last w
          have hd1 : decide ((a : Int) < (k : Int)) = true := decide_eq_true (by omega)
          rw [hres]
          have HZ := Go.Lib.hid hz
          have ZW := Go.Lib.hid zW
          have bz := Bk.new W 34 idZ
          clear zW
          clear hll hL1 hok hres hz hk0 hrl hcells hlast hcell hcut
          go_wp2_with (first
            | (go_at_call 48; ((with_reducible refine (hhalf _).mono ?_); rintro e W ⟨rfl, rfl⟩))
            | ((with_reducible refine wpList_alloc_row (E := 34) idZ infoId ?_); rw [← HW.out])
            | ((with_reducible refine wpList_alloc_row (E := 34) idZ infoId ?_))
            | ((with_reducible refine wpList_load_range (x := .tmp 33) (t := 34) bp (op + q * 32) (last.l.map bv) _ hrt (by kernel_rfl) Try.underlying34 rfl (idSize _) ?_))
            | ((with_reducible refine wpList_store_bk (x := .tmp 11) (t := 34) W.heap.size 34 idZ (last.l.map bv) bz (by kernel_rfl) (by kernel_rfl) (idSize _) (idLen _) (idOne _) ?_); intro w3 h3 g3 z3
               have gW3 := gb_trans_new (gb_alloc gW (.cells idZ.toArray 34)) g3 (by have := ZW.out; omega)
               have bx3 := (bx.alloc (.cells idZ.toArray 34)).grown g3 (fun h => by have := Option.some.inj h; have := ZW.out; omega)
               have b83 := (b8.alloc (.cells idZ.toArray 34)).grown g3 (fun h => by have := Option.some.inj h; have := ZW.out; omega)
               have s3 := z3
               rw [World.size_alloc] at s3
               have hl3 := Rd.grown (ri_rd HV.out HP.out) gW3 (by simp))
            | ((with_reducible refine wpList_cut (x := .tmp 35) Try.underlying41 (by kernel_rfl) hl3 (by kernel_rfl) 0 q (.inl ⟨rfl, rfl⟩) (.inr ⟨_, rfl, by kernel_rfl⟩) (Nat.zero_le _) (Nat.le_succ q) ?_); intro v9 hv9
               rw [htake.out] at hv9
               have hv9' : RdI (fun b => b < w.heap.size) w3 v9 rest := by unfold RdI; rw [hql]; exact hv9
               obtain ⟨A9, c9, rfl, _⟩ := Rd.form hv9'
               rw [hql] at hv9'
               have hs3 : w.heap.size ≤ w3.heap.size := by have := ZW.out; omega)
            | ((with_reducible refine wpList_load_bk (x := .tmp 4) (t := 34) w.heap.size _ (x.l.map bv) _ bx3 (by kernel_rfl) Try.underlying34 rfl (idSize _) ?_))
            | (go_at_call 58; ((with_reducible refine (hih _ _ hv9' hs3).mono ?_); rintro e w4 ⟨y, rfl, hy, g4⟩)
               have h34 := (h3.grown g4 (by simp)).alloc (.cells idZ.toArray 34)
               have b84 := (b83.grown g4 (by simp)).alloc (.cells idZ.toArray 34)
               have s4 := g4.size)
            | ((with_reducible refine wpList_store_bk (x := .tmp 13) (t := 34) w4.heap.size 34 idZ (y.l.map bv) (Bk.new _ _ _) (by kernel_rfl) (by kernel_rfl) (idSize _) (idLen _) (idOne _) ?_); intro w5 h5 g5 z5
               have h35 := h34.grown g5 (fun h => by have := Option.some.inj h; have := ZW.out; omega)
               have b85 := b84.grown g5 (fun h => by have := Option.some.inj h; have := ZW.out; omega))
            | ((with_reducible refine wpList_load_bk (x := .tmp 13) (t := 34) w4.heap.size _ (y.l.map bv) _ h5 (by kernel_rfl) Try.underlying34 rfl (idSize _) ?_))
            | ((with_reducible refine wpList_load_bk (x := .tmp 11) (t := 34) W.heap.size _ (last.l.map bv) _ h35 (by kernel_rfl) Try.underlying34 rfl (idSize _) ?_))
            | (go_at_call 56; ((with_reducible refine (hnode y _).mono ?_); rintro e w6 ⟨rfl, g6⟩; have b86 := b85.grown g6 (by simp)))
            | ((with_reducible refine wpList_store_bk (x := .tmp 8) (t := 34) (w.heap.size + 1) 34 idZ ((nd y last).l.map bv) b86 (by kernel_rfl) (by kernel_rfl) (idSize _) (idLen _) (idOne _) ?_); intro w7 h7 g7 z7))
          try go_frame
          exact bodyPost_ret (results_id_tmp rfl _ _ (w.heap.size + 1) (nd y last) rfl h7) rfl ⟨⟨nd y last, rfl, HZ.out y hy⟩, gb_trans_new (gb_trans (gb_trans_new (gb_alloc (gb_trans gW3 g4) _) g5 (by have := ZW.out; omega)) g6) g7 (by omega)⟩
        · have hll := lead_hi nd x (a := a) (n := n) (by omega) (by rw [← hk0]; exact hak) rest last
          rw [← hrl, ← hk0] at hll
          obtain ⟨L1, hL1⟩ : ∃ L1, L1 = lead nd x (a - k) (n - k) rest := ⟨_, rfl⟩
          obtain ⟨ok, hok⟩ : ∃ ok, ok = L1.isSome := ⟨_, rfl⟩
          have hih : ∀ (v9 : Value) (W' : World), RdI (fun b => b < w.heap.size) W' v9 rest → w.heap.size ≤ W'.heap.size → Calls Try.prog 58 #[.agg (x.l.map bv).toArray, .int .i64 ((a : Int) - (k : Int)), .int .i64 ((n : Int) - (k : Int)), v9] W' fun e w' => ∃ y : Sc.Id, e = .returned (.tuple #[.agg (y.l.map bv).toArray, .bool ok]) ∧ (∀ z, L1 = some z → z = y) ∧ W'.grownBy w' none := fun v9 W' h9 hs => by
            rw [show ((a : Int) - (k : Int)) = ((a - k : Nat) : Int) from by omega, show ((n : Int) - (k : Int)) = ((n - k : Nat) : Int) from by omega]
            refine (HI.out x (a - k) (n - k) v9 rest _ W' (by omega) h9 (fun b hb => by have : b < w.heap.size := hb; omega) (by omega) (by omega)).mono ?_
            rintro e w' ⟨⟨y, he, hy⟩, g⟩
            rw [← hL1] at he hy
            rw [← hok] at he
            exact ⟨y, he, hy, g⟩
          have hres : (lead nd x a n path).isSome = ok := by rw [hll, ← hL1, hok]; cases L1 <;> rfl
          have hz : ∀ y, (∀ z, L1 = some z → z = y) → ∀ z, lead nd x a n path = some z → z = nd last y := by
            intro y hy z h
            rw [hll, ← hL1] at h
            cases L1 with
            | none => cases h
            | some u => rw [← hy u rfl]; exact (Option.some.inj h).symm
          have hnode : ∀ (y : Sc.Id) (w : World), Calls Try.prog 56 #[.agg (last.l.map bv).toArray, .agg (y.l.map bv).toArray] w fun e w' => e = .returned (.agg ((nd last y).l.map bv).toArray) ∧ w.grownBy w' none := fun y w => refNode_any last y w
          have hd1 : decide ((a : Int) < (k : Int)) = false := decide_eq_false (by omega)
          rw [hres]
          have HZ := Go.Lib.hid hz
          have ZW := Go.Lib.hid zW
          have bz := Bk.new W 34 idZ
          clear zW
          clear hll hL1 hok hres hz hk0 hrl hcells hlast hcell hcut
          go_wp2_with (first
            | (go_at_call 48; ((with_reducible refine (hhalf _).mono ?_); rintro e W ⟨rfl, rfl⟩))
            | ((with_reducible refine wpList_alloc_row (E := 34) idZ infoId ?_); rw [← HW.out])
            | ((with_reducible refine wpList_alloc_row (E := 34) idZ infoId ?_))
            | ((with_reducible refine wpList_load_range (x := .tmp 33) (t := 34) bp (op + q * 32) (last.l.map bv) _ hrt (by kernel_rfl) Try.underlying34 rfl (idSize _) ?_))
            | ((with_reducible refine wpList_store_bk (x := .tmp 11) (t := 34) W.heap.size 34 idZ (last.l.map bv) bz (by kernel_rfl) (by kernel_rfl) (idSize _) (idLen _) (idOne _) ?_); intro w3 h3 g3 z3
               have gW3 := gb_trans_new (gb_alloc gW (.cells idZ.toArray 34)) g3 (by have := ZW.out; omega)
               have bx3 := (bx.alloc (.cells idZ.toArray 34)).grown g3 (fun h => by have := Option.some.inj h; have := ZW.out; omega)
               have b83 := (b8.alloc (.cells idZ.toArray 34)).grown g3 (fun h => by have := Option.some.inj h; have := ZW.out; omega)
               have s3 := z3
               rw [World.size_alloc] at s3
               have hl3 := Rd.grown (ri_rd HV.out HP.out) gW3 (by simp))
            | ((with_reducible refine wpList_cut (x := .tmp 35) Try.underlying41 (by kernel_rfl) hl3 (by kernel_rfl) 0 q (.inl ⟨rfl, rfl⟩) (.inr ⟨_, rfl, by kernel_rfl⟩) (Nat.zero_le _) (Nat.le_succ q) ?_); intro v9 hv9
               rw [htake.out] at hv9
               have hv9' : RdI (fun b => b < w.heap.size) w3 v9 rest := by unfold RdI; rw [hql]; exact hv9
               obtain ⟨A9, c9, rfl, _⟩ := Rd.form hv9'
               rw [hql] at hv9'
               have hs3 : w.heap.size ≤ w3.heap.size := by have := ZW.out; omega)
            | ((with_reducible refine wpList_load_bk (x := .tmp 4) (t := 34) w.heap.size _ (x.l.map bv) _ bx3 (by kernel_rfl) Try.underlying34 rfl (idSize _) ?_))
            | (go_at_call 58; ((with_reducible refine (hih _ _ hv9' hs3).mono ?_); rintro e w4 ⟨y, rfl, hy, g4⟩)
               have h34 := (h3.grown g4 (by simp)).alloc (.cells idZ.toArray 34)
               have b84 := (b83.grown g4 (by simp)).alloc (.cells idZ.toArray 34)
               have s4 := g4.size)
            | ((with_reducible refine wpList_store_bk (x := .tmp 15) (t := 34) w4.heap.size 34 idZ (y.l.map bv) (Bk.new _ _ _) (by kernel_rfl) (by kernel_rfl) (idSize _) (idLen _) (idOne _) ?_); intro w5 h5 g5 z5
               have h35 := h34.grown g5 (fun h => by have := Option.some.inj h; have := ZW.out; omega)
               have b85 := b84.grown g5 (fun h => by have := Option.some.inj h; have := ZW.out; omega))
            | ((with_reducible refine wpList_load_bk (x := .tmp 15) (t := 34) w4.heap.size _ (y.l.map bv) _ h5 (by kernel_rfl) Try.underlying34 rfl (idSize _) ?_))
            | ((with_reducible refine wpList_load_bk (x := .tmp 11) (t := 34) W.heap.size _ (last.l.map bv) _ h35 (by kernel_rfl) Try.underlying34 rfl (idSize _) ?_))
            | (go_at_call 56; ((with_reducible refine (hnode y _).mono ?_); rintro e w6 ⟨rfl, g6⟩; have b86 := b85.grown g6 (by simp)))
            | ((with_reducible refine wpList_store_bk (x := .tmp 8) (t := 34) (w.heap.size + 1) 34 idZ ((nd last y).l.map bv) b86 (by kernel_rfl) (by kernel_rfl) (idSize _) (idLen _) (idOne _) ?_); intro w7 h7 g7 z7))
          try go_frame
          exact bodyPost_ret (results_id_tmp rfl _ _ (w.heap.size + 1) (nd last y) rfl h7) rfl ⟨⟨nd last y, rfl, HZ.out y hy⟩, gb_trans_new (gb_trans (gb_trans_new (gb_alloc (gb_trans gW3 g4) _) g5 (by have := ZW.out; omega)) g6) g7 (by omega)⟩
end Go.Proofs.Ytajgklomcapboaa
