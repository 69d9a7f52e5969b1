import Derived.Test.YtajgklomcapboaaRefLead
/- scrivenerref06.CheckInclusion. -/
namespace Go.Proofs.Ytajgklomcapboaa
open Go.RowKit Go.Shelf Sc

set_option maxHeartbeats 4000000 in
set_option maxRecDepth 100000 in
theorem refCk_any (leaf rt : Sc.Id) (a n : Int) (v : Value) (path : List Sc.Id) (NB : Nat → Prop) (w : World) (hv : RdI NB w v path) (hNB : ∀ b, NB b → b < w.heap.size) :
    Calls Try.prog 40 #[.agg (leaf.l.map bv).toArray, .int .i64 a, .int .i64 n, v, .agg (rt.l.map bv).toArray] w fun e w' => e = .returned (.int .i64 (ckInc leaf a n path rt : Int)) ∧ w.grownBy w' none := by
  go_enter Try.func40, Try.ntmps40
  obtain ⟨A, c, rfl, hc⟩ := Rd.form hv
  have hm := Rd.le hv
  have hm2 : path.length ≤ 9223372036854775807 := hm
  obtain ⟨W1, hW1⟩ : ∃ W1, W1 = (w.alloc (.cells (leaf.l.map bv).toArray 34)).alloc (.cells (rt.l.map bv).toArray 34) := ⟨_, rfl⟩
  have bl1 : Bk W1 w.heap.size 34 (leaf.l.map bv) := by rw [hW1]; exact (Bk.new w 34 (leaf.l.map bv)).alloc _
  have br1 : Bk W1 (w.heap.size + 1) 34 (rt.l.map bv) := by
    have := Bk.new (w.alloc (.cells (leaf.l.map bv).toArray 34)) 34 (rt.l.map bv)
    rw [World.size_alloc] at this; rw [hW1]; exact this
  have g1 : w.grownBy W1 none := by rw [hW1]; exact gb_alloc (gb_alloc (gb_refl w none) _) _
  have hv1 : RdI NB W1 (.slice A path.length c) path := by rw [hW1]; exact Rd.alloc (Rd.alloc hv _) _
  have hN1 : ∀ b, NB b → b < W1.heap.size := fun b hb => Nat.lt_of_lt_of_le (hNB b hb) g1.size
  have HW1 := Go.Lib.hid hW1
  clear hW1 hv
  rcases (by omega : a < 0 ∨ (0 ≤ a ∧ n ≤ a) ∨ (0 ≤ a ∧ a < n ∧ 1099511627776 < n) ∨ (0 ≤ a ∧ a < n ∧ n ≤ 1099511627776)) with hs | hs | hs | hs
  · rw [ckInc_out (.inl hs)]
    have hd1 : decide (a < 0) = true := decide_eq_true hs
    go_wp2_with fail
    go_ret
    exact ⟨rfl, HW1.out ▸ g1⟩
  · rw [ckInc_out (.inr (.inl hs.2))]
    have hd1 : decide (a < 0) = false := decide_eq_false (by omega)
    have hd2 : decide (n ≤ a) = true := decide_eq_true hs.2
    go_wp2_with fail
    go_ret
    exact ⟨rfl, HW1.out ▸ g1⟩
  · rw [ckInc_out (.inr (.inr hs.2.2))]
    have hd1 : decide (a < 0) = false := decide_eq_false (by omega)
    have hd2 : decide (n ≤ a) = false := decide_eq_false (by omega)
    have hd3 : decide (1099511627776 < n) = true := decide_eq_true hs.2.2
    go_wp2_with fail
    go_ret
    exact ⟨rfl, HW1.out ▸ g1⟩
  · have hd1 : decide (a < 0) = false := decide_eq_false (by omega)
    have hd2 : decide (n ≤ a) = false := decide_eq_false (by omega)
    have hd3 : decide (1099511627776 < n) = false := decide_eq_false (by omega)
    obtain ⟨a0, rfl⟩ : ∃ a0 : Nat, a = (a0 : Int) := ⟨a.toNat, by omega⟩
    obtain ⟨n0, rfl⟩ : ∃ n0 : Nat, n = (n0 : Int) := ⟨n.toNat, by omega⟩
    have han : a0 < n0 := by omega
    have hn40 : n0 ≤ 1099511627776 := by omega
    have hck := ckInc_in (leaf := leaf) (path := path) (rt := rt) han hn40
    obtain ⟨res, hres⟩ : ∃ res, res = ckInc leaf (a0 : Int) (n0 : Int) path rt := ⟨_, rfl⟩
    rw [← hres] at hck ⊢
    clear hres
    by_cases hl : 64 < path.length
    · have hd4 : decide ((64 : Int) < (path.length : Int)) = true := decide_eq_true (by omega)
      have hr : res = 60 := by rw [hck, lead_long nd leaf hn40 hl]; rfl
      have HR := Go.Lib.hid hr
      clear hck hr
      go_wp2_with fail
      go_ret
      exact ⟨by rw [HR.out]; rfl, HW1.out ▸ g1⟩
    · have hd4 : decide ((64 : Int) < (path.length : Int)) = false := decide_eq_false (by omega)
      have hlead : Calls Try.prog 58 #[.agg (leaf.l.map bv).toArray, .int .i64 (a0 : Int), .int .i64 (n0 : Int), .slice A path.length c] W1 fun e w' => (∃ y : Sc.Id, e = .returned (.tuple #[.agg (y.l.map bv).toArray, .bool (lead nd leaf a0 n0 path).isSome]) ∧ ∀ z, lead nd leaf a0 n0 path = some z → z = y) ∧ W1.grownBy w' none :=
        refLead_lt (path.length + 1) leaf a0 n0 _ path NB W1 (Nat.lt_succ_self _) hv1 hN1 han hn40
      obtain ⟨L1, hL1⟩ : ∃ L1, L1 = lead nd leaf a0 n0 path := ⟨_, rfl⟩
      obtain ⟨ok, hok⟩ : ∃ ok, ok = L1.isSome := ⟨_, rfl⟩
      rw [← hL1] at hlead hck
      rw [← hok] at hlead
      have HCK := Go.Lib.hid hck
      have HOK := Go.Lib.hid hok
      clear hck hok hL1 hv1
      cases ok with
      | false =>
        have hr : res = 60 := by
          have := HOK.out
          rw [HCK.out]
          cases L1 with
          | none => rfl
          | some u => cases this
        have HR := Go.Lib.hid hr
        clear hr
        go_wp2_with (first
          | (rw [← HW1.out]; (with_reducible refine wpList_load_bk (x := .tmp 5) (t := 34) w.heap.size _ (leaf.l.map bv) _ bl1 (by kernel_rfl) Try.underlying34 rfl (idSize _) ?_))
          | (go_at_call 58; ((with_reducible refine hlead.mono ?_); rintro e w2 ⟨⟨y, rfl, hy⟩, g2⟩))
          | ((with_reducible refine wpList_alloc_row (E := 34) idZ infoId ?_))
          | ((with_reducible refine wpList_store_bk (x := .tmp 11) (t := 34) w2.heap.size 34 idZ (y.l.map bv) (Bk.new _ _ _) (by kernel_rfl) (by kernel_rfl) (idSize _) (idLen _) (idOne _) ?_); intro w3 h3 g3 z3))
        go_ret
        exact ⟨by rw [HR.out]; rfl, gb_trans_new (gb_alloc (gb_trans g1 g2) _) g3 (by have := g1.size; have := g2.size; omega)⟩
      | true =>
        obtain ⟨u, hu⟩ : ∃ u, L1 = some u := by
          have := HOK.out
          cases L1 with
          | none => cases this
          | some u => exact ⟨u, rfl⟩
        have hr : res = if u = rt then 0 else 60 := by
          rw [HCK.out, hu]
          by_cases h : u = rt
          · rw [if_pos (by rw [h]), if_pos h]
          · rw [if_neg (fun e => h (Option.some.inj e)), if_neg h]
        rw [hu] at hlead
        have HR := Go.Lib.hid hr
        clear hr hu HCK HOK
        have hlead2 : Calls Try.prog 58 #[.agg (leaf.l.map bv).toArray, .int .i64 (a0 : Int), .int .i64 (n0 : Int), .slice A path.length c] W1 fun e w' => e = .returned (.tuple #[.agg (u.l.map bv).toArray, .bool true]) ∧ W1.grownBy w' none := hlead.mono (by
          rintro e w' ⟨⟨y, rfl, hy⟩, g⟩
          rw [hy u rfl]; exact ⟨rfl, g⟩)
        clear hlead
        have q1 : ∀ w, (eqGuard .neq 34 (.tmp 38) (.tmp 39) (.agg (u.l.map bv).toArray) (.agg (rt.l.map bv).toArray)).run Try.prog w = .ok () w := fun _ => run_eqGuard_id idEq u rt
        go_upto_region 6 with (first
          | (rw [← HW1.out]; (with_reducible refine wpList_load_bk (x := .tmp 5) (t := 34) w.heap.size _ (leaf.l.map bv) _ bl1 (by kernel_rfl) Try.underlying34 rfl (idSize _) ?_))
          | (go_at_call 58; ((with_reducible refine hlead2.mono ?_); rintro e w2 ⟨rfl, g2⟩; have br2 := (br1.grown g2 (by simp)).alloc (.cells idZ.toArray 34)))
          | ((with_reducible refine wpList_alloc_row (E := 34) idZ infoId ?_))
          | ((with_reducible refine wpList_store_bk (x := .tmp 11) (t := 34) w2.heap.size 34 idZ (u.l.map bv) (Bk.new _ _ _) (by kernel_rfl) (by kernel_rfl) (idSize _) (idLen _) (idOne _) ?_); intro w3 h3 g3 z3))
        have s1 := g1.size
        have s2 := g2.size
        have br3 := br2.grown g3 (fun h => by have := Option.some.inj h; have := br1.lt; omega)
        have gw3 := gb_trans_new (gb_alloc (gb_trans g1 g2) _) g3 (by omega)
        clear br2 g3 z3 bl1 br1 hlead2 g1 g2 s1 s2
        iterate 10 go_step
        refine wpList_guard (by rfl) ?_
        with_reducible refine wpList_load_bk (x := .tmp 11) (t := 34) w2.heap.size _ (u.l.map bv) _ h3 (by kernel_rfl) Try.underlying34 rfl (idSize _) ?_
        try go_frame
        refine wpList_guard (by rfl) ?_
        with_reducible refine wpList_load_bk (x := .tmp 9) (t := 34) (w.heap.size + 1) _ (rt.l.map bv) _ br3 (by kernel_rfl) Try.underlying34 rfl (idSize _) ?_
        try go_frame
        by_cases hx : u = rt
        · have hxb : (u.l == rt.l) = true := by rw [hx]; exact beq_self_eq_true _
          have q2 : ∀ w, (binOp .neq 34 (.agg (u.l.map bv).toArray) (.agg (rt.l.map bv).toArray)).run Try.prog w = .ok (.bool false) w := fun w => (run_neq_id (w := w) idEq u rt).trans (by rw [hxb]; rfl)
          have hr : res = 0 := by rw [HR.out, if_pos hx]
          have HR0 := Go.Lib.hid hr
          clear hx hxb hr HR
          go_wp2_with fail
          go_ret
          exact ⟨by rw [HR0.out]; rfl, gw3⟩
        · have hxb : (u.l == rt.l) = false := beq_ids hx
          have q2 : ∀ w, (binOp .neq 34 (.agg (u.l.map bv).toArray) (.agg (rt.l.map bv).toArray)).run Try.prog w = .ok (.bool true) w := fun w => (run_neq_id (w := w) idEq u rt).trans (by rw [hxb]; rfl)
          have hr : res = 60 := by rw [HR.out, if_neg hx]
          have HR0 := Go.Lib.hid hr
          clear hx hxb hr HR
          go_wp2_with fail
          go_ret
          exact ⟨by rw [HR0.out]; rfl, gw3⟩
end Go.Proofs.Ytajgklomcapboaa
