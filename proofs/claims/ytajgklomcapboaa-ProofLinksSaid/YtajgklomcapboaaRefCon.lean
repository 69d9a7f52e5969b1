import Derived.Test.YtajgklomcapboaaRefBoth
/- scrivenerref06.CheckConsistency. -/
namespace Sc
open Go Go.RowKit
theorem ldirs_len : ∀ (k n m : Nat), n ≤ 2 ^ k → (ldirs m n).length ≤ k := by
  intro k
  induction k with
  | zero =>
    intro n m hn
    have : n ≤ 1 := by simpa using hn
    by_cases h : n ≤ m
    · rw [ldirs_end h]; exact Nat.le_refl _
    · rw [ldirs, dif_pos (by omega)]; exact Nat.zero_le _
  | succ k ih =>
    intro n m hn
    by_cases h : n ≤ m
    · rw [ldirs_end h]; exact Nat.zero_le _
    · by_cases h2 : 2 ≤ n
      · have g1 := half_two_pow h2 hn
        have g2 := half_ge h2
        by_cases hk : m ≤ half n
        · rw [ldirs_lo h2 (by omega) hk, List.length_append]
          have := ih (half n) m g1
          simp; omega
        · rw [ldirs_hi h2 (by omega) (by omega), List.length_append]
          have := ih (n - half n) (m - half n) (by omega)
          simp; omega
      · rw [ldirs, dif_pos (by omega)]; exact Nat.zero_le _
theorem links_long {α : Type} (N : α → α → α) (one : α) (w : Bool) {m n : Nat} (hn : n ≤ 1099511627776) {path : List α} (h : 64 < path.length) : links N one w m n path = none := by
  have := ldirs_len 40 n m (by simpa using hn)
  unfold links
  split
  · rw [if_neg (by omega)]
  · cases path with
    | nil => rfl
    | cons p rest => dsimp only; rw [if_neg (by simp only [List.length_cons] at h; omega)]
end Sc
namespace Go.Proofs.Ytajgklomcapboaa
open Go.RowKit Go.Shelf Sc

set_option maxHeartbeats 4000000 in
set_option maxRecDepth 100000 in
theorem refCon_any (one two : Sc.Id) (m n : Int) (v : Value) (path : List Sc.Id) (NB : Nat → Prop) (w : World) (hv : RdI NB w v path) (hNB : ∀ b, NB b → b < w.heap.size) :
    Calls Try.prog 41 #[.int .i64 m, .int .i64 n, .agg (one.l.map bv).toArray, .agg (two.l.map bv).toArray, v] w fun e w' => e = .returned (.int .i64 (ckCon one two m n path : Int)) ∧ w.grownBy w' none := by
  go_enter Try.func41, Try.ntmps41
  obtain ⟨A, c, rfl, hc⟩ := Rd.form hv
  have hm := Rd.le hv
  have hm2 : path.length ≤ 9223372036854775807 := hm
  obtain ⟨W1, hW1⟩ : ∃ W1, W1 = (w.alloc (.cells (one.l.map bv).toArray 34)).alloc (.cells (two.l.map bv).toArray 34) := ⟨_, rfl⟩
  have b7 : Bk W1 w.heap.size 34 (one.l.map bv) := by rw [hW1]; exact (Bk.new w 34 (one.l.map bv)).alloc _
  have b8 : Bk W1 (w.heap.size + 1) 34 (two.l.map bv) := by
    have := Bk.new (w.alloc (.cells (one.l.map bv).toArray 34)) 34 (two.l.map bv)
    rw [World.size_alloc] at this; rw [hW1]; exact this
  have g1 : w.grownBy W1 none := by rw [hW1]; exact gb_alloc (gb_alloc (gb_refl w none) _) _
  have hv1 : RdI NB W1 (.slice A path.length c) path := by rw [hW1]; exact Rd.alloc (Rd.alloc hv _) _
  have hN1 : ∀ b, NB b → b < W1.heap.size := fun b hb => Nat.lt_of_lt_of_le (hNB b hb) g1.size
  have HW1 := Go.Lib.hid hW1
  clear hW1 hv
  rcases (by omega : m < 1 ∨ (1 ≤ m ∧ n < m) ∨ (1 ≤ m ∧ m ≤ n ∧ 1099511627776 < n) ∨ (1 ≤ m ∧ m ≤ n ∧ n ≤ 1099511627776)) with hs | hs | hs | hs
  · rw [ckCon_out (.inl hs)]
    have hd1 : decide (m < 1) = true := decide_eq_true hs
    go_wp2_with fail
    go_ret
    exact ⟨rfl, HW1.out ▸ g1⟩
  · rw [ckCon_out (.inr (.inl hs.2))]
    have hd1 : decide (m < 1) = false := decide_eq_false (by omega)
    have hd2 : decide (n < m) = true := decide_eq_true hs.2
    go_wp2_with fail
    go_ret
    exact ⟨rfl, HW1.out ▸ g1⟩
  · rw [ckCon_out (.inr (.inr hs.2.2))]
    have hd1 : decide (m < 1) = false := decide_eq_false (by omega)
    have hd2 : decide (n < m) = false := decide_eq_false (by omega)
    have hd3 : decide (1099511627776 < n) = true := decide_eq_true hs.2.2
    go_wp2_with fail
    go_ret
    exact ⟨rfl, HW1.out ▸ g1⟩
  · have hd1 : decide (m < 1) = false := decide_eq_false (by omega)
    have hd2 : decide (n < m) = false := decide_eq_false (by omega)
    have hd3 : decide (1099511627776 < n) = false := decide_eq_false (by omega)
    obtain ⟨m0, rfl⟩ : ∃ m0 : Nat, m = (m0 : Int) := ⟨m.toNat, by omega⟩
    obtain ⟨n0, rfl⟩ : ∃ n0 : Nat, n = (n0 : Int) := ⟨n.toNat, by omega⟩
    have hm1 : 1 ≤ m0 := by omega
    have hmn : m0 ≤ n0 := by omega
    have hn40 : n0 ≤ 1099511627776 := by omega
    have hck := ckCon_in (one := one) (two := two) (path := path) hm1 hmn hn40
    obtain ⟨res, hres⟩ : ∃ res, res = ckCon one two (m0 : Int) (n0 : Int) path := ⟨_, rfl⟩
    rw [← hres] at hck ⊢
    clear hres
    by_cases hl : 64 < path.length
    · have hd4 : decide ((64 : Int) < (path.length : Int)) = true := decide_eq_true (by omega)
      have hr : res = 60 := by rw [hck, links_long nd one true hn40 hl]; rfl
      have HR := Go.Lib.hid hr
      clear hck hr
      go_wp2_with fail
      go_ret
      exact ⟨by rw [HR.out]; rfl, HW1.out ▸ g1⟩
    · have hd4 : decide ((64 : Int) < (path.length : Int)) = false := decide_eq_false (by omega)
      have hlead : Calls Try.prog 59 #[.int .i64 (m0 : Int), .int .i64 (n0 : Int), .slice A path.length c, .agg (one.l.map bv).toArray, .bool true] W1 fun e w' => (∃ a b : Sc.Id, e = .returned (.tuple #[.agg (a.l.map bv).toArray, .agg (b.l.map bv).toArray, .bool (links nd one true m0 n0 path).isSome]) ∧ ∀ z, links nd one true m0 n0 path = some z → z = (a, b)) ∧ W1.grownBy w' none :=
        refBoth_lt one (path.length + 1) m0 n0 _ path true NB W1 (Nat.lt_succ_self _) hv1 hN1 hm1 hmn hn40
      obtain ⟨L1, hL1⟩ : ∃ L1, L1 = links nd one true m0 n0 path := ⟨_, rfl⟩
      obtain ⟨ok, hok⟩ : ∃ ok, ok = L1.isSome := ⟨_, rfl⟩
      rw [← hL1] at hlead hck
      rw [← hok] at hlead
      have HCK := Go.Lib.hid hck
      have HOK := Go.Lib.hid hok
      clear hck hok hL1 hv1
      cases ok with
      | false =>
        have hr : res = 60 := by
          have := HOK.out
          rw [HCK.out]
          cases L1 with
          | none => rfl
          | some u => cases this
        have HR := Go.Lib.hid hr
        clear hr
        go_wp2_with (first
          | (rw [← HW1.out]; (with_reducible refine wpList_load_bk (x := .tmp 7) (t := 34) w.heap.size _ (one.l.map bv) _ b7 (by kernel_rfl) Try.underlying34 rfl (idSize _) ?_))
          | (go_at_call 59; ((with_reducible refine hlead.mono ?_); rintro e w2 ⟨⟨a, b, rfl, hy⟩, g2⟩)
             have b72 := ((b7.grown g2 (by simp)).alloc (.cells idZ.toArray 34)).alloc (.cells idZ.toArray 34)
             have b82 := ((b8.grown g2 (by simp)).alloc (.cells idZ.toArray 34)).alloc (.cells idZ.toArray 34)
             have bn2 := (Bk.new w2 34 idZ).alloc (.cells idZ.toArray 34)
             have bm2 := Bk.new (w2.alloc (.cells idZ.toArray 34)) 34 idZ
             have gW2 := gb_alloc (gb_alloc (gb_trans g1 g2) (.cells idZ.toArray 34)) (.cells idZ.toArray 34))
          | ((with_reducible refine wpList_alloc_row (E := 34) idZ infoId ?_))
          | ((with_reducible refine wpList_store_bk (x := .tmp 11) (t := 34) w2.heap.size 34 idZ (a.l.map bv) bn2 (by kernel_rfl) (by kernel_rfl) (idSize _) (idLen _) (idOne _) ?_); intro w3 h3 g3 z3
             have bm3 := bm2.grown g3 (fun h => by have := Option.some.inj h; rw [World.size_alloc] at this; omega)
             have gW3 := gb_trans_new gW2 g3 (by have := g1.size; have := g2.size; omega))
          | ((with_reducible refine wpList_store_bk (x := .tmp 12) (t := 34) (w2.alloc (.cells idZ.toArray 34)).heap.size 34 idZ (b.l.map bv) bm3 (by kernel_rfl) (by kernel_rfl) (idSize _) (idLen _) (idOne _) ?_); intro w4 h4 g4 z4
             rw [World.size_alloc] at h4 g4))
        go_ret
        exact ⟨by rw [HR.out]; rfl, gb_trans_new gW3 g4 (by have := g1.size; have := g2.size; omega)⟩
      | true =>
        obtain ⟨⟨a, b⟩, hu⟩ : ∃ u, L1 = some u := by
          have := HOK.out
          cases L1 with
          | none => cases this
          | some u => exact ⟨u, rfl⟩
        have hr : res = if (a, b) = (one, two) then 0 else 60 := by
          rw [HCK.out, hu]
          by_cases h : (a, b) = (one, two)
          · rw [if_pos (by rw [h]), if_pos h]
          · rw [if_neg (fun e => h (Option.some.inj e)), if_neg h]
        rw [hu] at hlead
        have HR := Go.Lib.hid hr
        clear hr hu HCK HOK
        have hlead2 : Calls Try.prog 59 #[.int .i64 (m0 : Int), .int .i64 (n0 : Int), .slice A path.length c, .agg (one.l.map bv).toArray, .bool true] W1 fun e w' => e = .returned (.tuple #[.agg (a.l.map bv).toArray, .agg (b.l.map bv).toArray, .bool true]) ∧ W1.grownBy w' none := hlead.mono (by
          rintro e w' ⟨⟨y, y2, rfl, hy⟩, g⟩
          have := hy (a, b) rfl
          obtain ⟨rfl, rfl⟩ := Prod.mk.inj this
          exact ⟨rfl, g⟩)
        clear hlead
        have q1 : ∀ w, (eqGuard .neq 34 (.tmp 40) (.tmp 41) (.agg (a.l.map bv).toArray) (.agg (one.l.map bv).toArray)).run Try.prog w = .ok () w := fun _ => run_eqGuard_id idEq a one
        have q3 : ∀ w, (eqGuard .neq 34 (.tmp 45) (.tmp 46) (.agg (b.l.map bv).toArray) (.agg (two.l.map bv).toArray)).run Try.prog w = .ok () w := fun _ => run_eqGuard_id idEq b two
        go_upto_region 6 with (first
          | (rw [← HW1.out]; (with_reducible refine wpList_load_bk (x := .tmp 7) (t := 34) w.heap.size _ (one.l.map bv) _ b7 (by kernel_rfl) Try.underlying34 rfl (idSize _) ?_))
          | (go_at_call 59; ((with_reducible refine hlead2.mono ?_); rintro e w2 ⟨rfl, g2⟩)
             have b72 := ((b7.grown g2 (by simp)).alloc (.cells idZ.toArray 34)).alloc (.cells idZ.toArray 34)
             have b82 := ((b8.grown g2 (by simp)).alloc (.cells idZ.toArray 34)).alloc (.cells idZ.toArray 34)
             have bn2 := (Bk.new w2 34 idZ).alloc (.cells idZ.toArray 34)
             have bm2 := Bk.new (w2.alloc (.cells idZ.toArray 34)) 34 idZ
             have gW2 := gb_alloc (gb_alloc (gb_trans g1 g2) (.cells idZ.toArray 34)) (.cells idZ.toArray 34))
          | ((with_reducible refine wpList_alloc_row (E := 34) idZ infoId ?_))
          | ((with_reducible refine wpList_store_bk (x := .tmp 11) (t := 34) w2.heap.size 34 idZ (a.l.map bv) bn2 (by kernel_rfl) (by kernel_rfl) (idSize _) (idLen _) (idOne _) ?_); intro w3 h3 g3 z3
             have bm3 := bm2.grown g3 (fun h => by have := Option.some.inj h; rw [World.size_alloc] at this; omega)
             have gW3 := gb_trans_new gW2 g3 (by have := g1.size; have := g2.size; omega))
          | ((with_reducible refine wpList_store_bk (x := .tmp 12) (t := 34) (w2.alloc (.cells idZ.toArray 34)).heap.size 34 idZ (b.l.map bv) bm3 (by kernel_rfl) (by kernel_rfl) (idSize _) (idLen _) (idOne _) ?_); intro w4 h4 g4 z4
             rw [World.size_alloc] at h4 g4))
        have s1 := g1.size
        have s2 := g2.size
        have ha5 := h3.grown g4 (fun h => by have := Option.some.inj h; omega)
        have hb5 := h4
        have h75 := (b72.grown g3 (fun h => by have := Option.some.inj h; have := b7.lt; omega)).grown g4 (fun h => by have := Option.some.inj h; have := b7.lt; omega)
        have h85 := (b82.grown g3 (fun h => by have := Option.some.inj h; have := b8.lt; omega)).grown g4 (fun h => by have := Option.some.inj h; have := b8.lt; omega)
        have gw3 := gb_trans_new gW3 g4 (by omega)
        clear b72 b82 g3 z3 b7 b8 hlead2 g1 g2 s1 s2 h3 h4 g4 z4 bn2 bm2 bm3 gW2 gW3
        iterate 10 go_step
        refine wpList_guard (by rfl) ?_
        with_reducible refine wpList_load_bk (x := .tmp 11) (t := 34) w2.heap.size _ (a.l.map bv) _ ha5 (by kernel_rfl) Try.underlying34 rfl (idSize _) ?_
        try go_frame
        refine wpList_guard (by rfl) ?_
        with_reducible refine wpList_load_bk (x := .tmp 7) (t := 34) w.heap.size _ (one.l.map bv) _ h75 (by kernel_rfl) Try.underlying34 rfl (idSize _) ?_
        try go_frame
        by_cases hx : a = one
        · have hxb : (a.l == one.l) = true := by rw [hx]; exact beq_self_eq_true _
          have q2 : ∀ w, (binOp .neq 34 (.agg (a.l.map bv).toArray) (.agg (one.l.map bv).toArray)).run Try.prog w = .ok (.bool false) w := fun w => (run_neq_id (w := w) idEq a one).trans (by rw [hxb]; rfl)
          refine wpList_guard (by rfl) ?_
          with_reducible refine wpList_neq_id (x := .tmp 40) (y := .tmp 41) idEq a one (by kernel_rfl) (by kernel_rfl) ?_
          rw [hxb]
          try go_frame
          iterate 6 go_step
          refine wpList_guard (by rfl) ?_
          with_reducible refine wpList_load_bk (x := .tmp 12) (t := 34) (w2.heap.size + 1) _ (b.l.map bv) _ hb5 (by kernel_rfl) Try.underlying34 rfl (idSize _) ?_
          try go_frame
          refine wpList_guard (by rfl) ?_
          with_reducible refine wpList_load_bk (x := .tmp 8) (t := 34) (w.heap.size + 1) _ (two.l.map bv) _ h85 (by kernel_rfl) Try.underlying34 rfl (idSize _) ?_
          try go_frame
          by_cases hy : b = two
          · have hyb : (b.l == two.l) = true := by rw [hy]; exact beq_self_eq_true _
            have q4 : ∀ w, (binOp .neq 34 (.agg (b.l.map bv).toArray) (.agg (two.l.map bv).toArray)).run Try.prog w = .ok (.bool false) w := fun w => (run_neq_id (w := w) idEq b two).trans (by rw [hyb]; rfl)
            have hr : res = 0 := by rw [HR.out, if_pos (by rw [hx, hy])]
            have HR0 := Go.Lib.hid hr
            clear hx hxb hy hyb hr HR
            go_wp2_with fail
            go_ret
            exact ⟨by rw [HR0.out]; rfl, gw3⟩
          · have hyb : (b.l == two.l) = false := beq_ids hy
            have q4 : ∀ w, (binOp .neq 34 (.agg (b.l.map bv).toArray) (.agg (two.l.map bv).toArray)).run Try.prog w = .ok (.bool true) w := fun w => (run_neq_id (w := w) idEq b two).trans (by rw [hyb]; rfl)
            have hr : res = 60 := by rw [HR.out, if_neg (fun h => hy (Prod.ext_iff.1 h).2)]
            have HR0 := Go.Lib.hid hr
            clear hx hxb hy hyb hr HR
            go_wp2_with fail
            go_ret
            exact ⟨by rw [HR0.out]; rfl, gw3⟩
        · have hxb : (a.l == one.l) = false := beq_ids hx
          have q2 : ∀ w, (binOp .neq 34 (.agg (a.l.map bv).toArray) (.agg (one.l.map bv).toArray)).run Try.prog w = .ok (.bool true) w := fun w => (run_neq_id (w := w) idEq a one).trans (by rw [hxb]; rfl)
          have hr : res = 60 := by rw [HR.out, if_neg (fun h => hx (Prod.ext_iff.1 h).1)]
          have HR0 := Go.Lib.hid hr
          clear hx hxb hr HR
          go_wp2_with fail
          go_ret
          exact ⟨by rw [HR0.out]; rfl, gw3⟩
theorem refCon_idv (one two : Sc.Id) (m n : Int) (v : Value) (path : List Sc.Id) (w : World) (hv : RI w v path) :
    Calls Try.prog 41 #[.int .i64 m, .int .i64 n, idv one, idv two, v] w fun e w' => e = .returned (.int .i64 (ckCon one two m n path : Int)) ∧ w.grownBy w' none := refCon_any one two m n v path _ w hv (fun _ h => h)
end Go.Proofs.Ytajgklomcapboaa
