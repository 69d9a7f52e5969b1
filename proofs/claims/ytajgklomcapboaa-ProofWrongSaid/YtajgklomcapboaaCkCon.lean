import Derived.Test.YtajgklomcapboaaChk
import Derived.Test.YtajgklomcapboaaSame
import Derived.Test.YtajgklomcapboaaInc
import Derived.Test.YtajgklomcapboaaSpecsQ
/- proof.CheckConsistency. -/
namespace Sc
open Go Go.RowKit
/-- The error's number of a link. -/
def ckCon (one two : Sc.Id) (m n : Int) (path : List Sc.Id) : Nat :=
  if m < 1 ∨ n < m ∨ 1099511627776 < n then 1
  else if links nd one true m.toNat n.toNat path = some (one, two) then 0 else 60
theorem ckCon_out {one two : Sc.Id} {m n : Int} {path : List Sc.Id} (h : m < 1 ∨ n < m ∨ 1099511627776 < n) : ckCon one two m n path = 1 := if_pos h
theorem ckCon_in {one two : Sc.Id} {m n : Nat} {path : List Sc.Id} (h1 : 1 ≤ m) (h : m ≤ n) (hn : n ≤ 1099511627776) : ckCon one two (m : Int) (n : Int) path = if links nd one true m n path = some (one, two) then 0 else 60 := by
  unfold ckCon; rw [if_neg (by omega)]; rfl
theorem links_climb (one : Sc.Id) {m0 l0 : Nat} (h : m0 < l0) (path : List Sc.Id) {no la : Nat} (hs : strip1 m0 l0 = (no, la)) :
    links nd one true (m0 + 1) (l0 + 1) path = if no = 0 then ((climb (up2 nd) no la (one, one) path).bind fun r => if r.1 = 0 then some r.2 else none)
      else match path with | [] => none | p :: rest => ((climb (up2 nd) no la (p, p) rest).bind fun r => if r.1 = 0 then some r.2 else none) := by
  obtain ⟨e1, e2, e3⟩ := link_strip m0 l0 h
  rw [hs] at e1 e2 e3
  dsimp only at e1 e2 e3
  unfold links
  rw [e1, e2]
  by_cases h0 : no = 0
  · rw [if_pos (by rw [h0]; rfl), if_pos h0, climb_steps (up2 nd) path no la (one, one) (by omega)]; rfl
  · rw [if_neg (by simp [h0]), if_neg h0]
    cases path with
    | nil => rfl
    | cons p rest => dsimp only; rw [climb_steps (up2 nd) rest no la (p, p) (by omega)]; rfl
theorem ri_rd_at {w w' : World} {v : Value} {xs : List Sc.Id} {n : Nat} (h : RI w v xs) (hn : n = xs.length) (hg : w.grownBy w' none) : Rd (fun b => b < w.heap.size) w' 32 v n (idCells xs) := by
  subst hn; exact Rd.grown (show Rd (fun b => b < w.heap.size) w 32 v xs.length (idCells xs) from h) hg (by simp)
theorem strip1_le (node last : Nat) : (strip1 node last).2 ≤ last ∧ (strip1 node last).1 ≤ node := by
  induction node using Nat.strongRecOn generalizing last with
  | _ node ih =>
    by_cases h : node % 2 = 1
    · rw [strip1_go h]; have := ih (node / 2) (by omega) (last / 2); omega
    · rw [strip1_stop (by omega)]; exact ⟨Nat.le_refl _, Nat.le_refl _⟩
end Sc
namespace Go.Proofs.Ytajgklomcapboaa
open Go.RowKit Go.Shelf Sc
def cd2φ (p x y : Sc.Id) (i : Nat) (v : Value) (_w : World) : Prop := match i with
  | 0 => v = idv p
  | 1 => v = idv x
  | 2 => v = idv (nd p x)
  | 3 => v = idv p
  | 4 => v = idv y
  | 5 => v = idv (nd p y)
  | _ => True
theorem cd2φ_gr (p x y : Sc.Id) : ∀ i v w w', cd2φ p x y i v w → Gr w w' → cd2φ p x y i v w' := by
  intro i v w w' h hg
  match i with
  | 0 => exact h
  | 1 => exact h
  | 2 => exact h
  | 3 => exact h
  | 4 => exact h
  | 5 => exact h
  | i + 6 => exact h
def cd1φ (one : Sc.Id) (W0 : Nat) (i : Nat) (v : Value) (w : World) : Prop := match i with
  | 0 => v = idv one
  | 1 => v = idv one
  | 2 => ∃ q, v = .pointer (some ⟨q, 0, none⟩) ∧ (Bk w q 34 idZ ∨ Bk w q 34 (one.l.map bv)) ∧ W0 ≤ q ∧ q < w.heap.size
  | 3 => ∃ q, v = .pointer (some ⟨q, 0, none⟩) ∧ (Bk w q 34 idZ ∨ Bk w q 34 (one.l.map bv)) ∧ W0 ≤ q ∧ q < w.heap.size
  | 4 => ∃ q, v = .pointer (some ⟨q, 0, none⟩) ∧ Bk w q 34 (one.l.map bv)
  | _ => True
def cd1R (one : Sc.Id) (W0 : Nat) (i : Nat) (a b : World) : Prop := match i with
  | 4 => ∃ q, W0 ≤ q ∧ a.grownBy b (some q) ∧ Bk b q 34 (one.l.map bv)
  | _ => Gr a b
def cdRa (B : Nat) (a b : World) : Prop := B ≤ a.heap.size → Below B a b
theorem cd_drawn (B : Nat) (w : World) : Below B w { w with drawn := w.drawn + 1 } := ⟨rfl, rfl, rfl, Nat.le_refl _, fun _ _ => rfl⟩
theorem cdRa_trans (B : Nat) : ∀ a b c, cdRa B a b → cdRa B b c → cdRa B a c := fun _a _b _c h k hB => (h hB).trans (k (Nat.le_trans hB (h hB).size))
theorem cd1R_Ra (one : Sc.Id) (W0 : Nat) : ∀ i a b, cd1R one W0 i a b → cdRa W0 a b := fun i a b h hB => by
  unfold cd1R at h
  split at h
  · obtain ⟨q, hq, hg, _⟩ := h
    exact gb_below hg hB (fun k e => by cases e; exact hq)
  · exact gb_below h hB (by simp)
theorem cd1_two (one : Sc.Id) (W0 : Nat) {i : Nat} {v : Value} {w w' : World} (h : ∃ q, v = .pointer (some ⟨q, 0, none⟩) ∧ (Bk w q 34 idZ ∨ Bk w q 34 (one.l.map bv)) ∧ W0 ≤ q ∧ q < w.heap.size) (hR : cd1R one W0 i w w') :
    ∃ q, v = .pointer (some ⟨q, 0, none⟩) ∧ (Bk w' q 34 idZ ∨ Bk w' q 34 (one.l.map bv)) ∧ W0 ≤ q ∧ q < w'.heap.size := by
  obtain ⟨q, e, hb, hW, hs⟩ := h
  unfold cd1R at hR
  split at hR
  · obtain ⟨r, _, hg, hb'⟩ := hR
    refine ⟨q, e, ?_, hW, Nat.lt_of_lt_of_le hs hg.size⟩
    by_cases hqr : q = r
    · subst hqr; exact .inr hb'
    · exact hb.imp (fun h => h.grown hg (fun h => hqr (Option.some.inj h))) (fun h => h.grown hg (fun h => hqr (Option.some.inj h)))
  · exact ⟨q, e, hb.imp (fun h => h.grown hR (by simp)) (fun h => h.grown hR (by simp)), hW, Nat.lt_of_lt_of_le hs hR.size⟩
theorem cd1_st (one : Sc.Id) (W0 : Nat) : ∀ j i v w w', j ≠ i → cd1φ one W0 j v w → cd1R one W0 i w w' → cd1φ one W0 j v w' := by
  intro j i v w w' hji h hR
  match j, hji, h with
  | 0, _, h => exact h
  | 1, _, h => exact h
  | 2, _, h => exact cd1_two one W0 h hR
  | 3, _, h => exact cd1_two one W0 h hR
  | 4, hji, h =>
    obtain ⟨q, e, hb⟩ := h
    unfold cd1R at hR
    split at hR
    · exact absurd rfl hji
    · exact ⟨q, e, hb.grown hR (by simp)⟩
  | j + 5, _, h => exact h
theorem cd1_lt (one : Sc.Id) (W0 : Nat) : ∀ i v w, (i == 2 || i == 3) = true → cd1φ one W0 i v w → ∃ q, v = .pointer (some ⟨q, 0, none⟩) ∧ q < w.heap.size := by
  intro i v w hi h
  rcases (by simpa using hi : i = 2 ∨ i = 3) with rfl | rfl
  · obtain ⟨q, e, _, _, hq⟩ := h; exact ⟨q, e, hq⟩
  · obtain ⟨q, e, _, _, hq⟩ := h; exact ⟨q, e, hq⟩
def cd5φ (bp op nr c W0 qa qb : Nat) (p : Sc.Id) (rest : List Sc.Id) (i : Nat) (v : Value) (w : World) : Prop := match i with
  | 0 => v = .slice (some ⟨bp, op, none⟩) (nr + 1) c
  | 1 => v = .pointer (some ⟨bp, op, none⟩)
  | 2 => v = idv p
  | 3 => v = .slice (some ⟨bp, op, none⟩) (nr + 1) c
  | 4 => v = .pointer (some ⟨bp, op, none⟩)
  | 5 => v = idv p
  | 6 => v = .slice (some ⟨bp, op, none⟩) (nr + 1) c
  | 7 => RdI (fun b => b < W0) w v rest
  | 8 => Bk w qa 34 (p.l.map bv)
  | 9 => Bk w qb 34 (p.l.map bv)
  | _ => True
def cd5R (qa qb : Nat) (p : Sc.Id) (i : Nat) (a b : World) : Prop := match i with
  | 8 => a.grownBy b (some qa) ∧ Bk b qa 34 (p.l.map bv)
  | 9 => a.grownBy b (some qb) ∧ Bk b qb 34 (p.l.map bv)
  | _ => Gr a b
def cd5Ra (qa qb : Nat) (a b : World) : Prop := Ch (fun k => k = qa ∨ k = qb) a b ∧ ∀ q, (q = qa ∨ q = qb) → (∃ l : Sc.Id, Bk a q 34 (l.l.map bv)) → ∃ l : Sc.Id, Bk b q 34 (l.l.map bv)
theorem cd5Ra_trans (qa qb : Nat) : ∀ a b c, cd5Ra qa qb a b → cd5Ra qa qb b c → cd5Ra qa qb a c := fun _a _b _c h k => ⟨h.1.trans k.1 (fun _ h => .inl h), fun q hq hl => k.2 q hq (h.2 q hq hl)⟩
theorem cd5R_Ra (qa qb : Nat) (p : Sc.Id) : ∀ i a b, cd5R qa qb p i a b → cd5Ra qa qb a b := fun i a b h => by
  unfold cd5R at h
  split at h
  · refine ⟨Ch.of h.1 (fun r e => .inl (Option.some.inj e).symm), fun q hq ⟨l, hl⟩ => ?_⟩
    by_cases e : q = qa
    · subst e; exact ⟨p, h.2⟩
    · exact ⟨l, hl.grown h.1 (fun h => e (Option.some.inj h))⟩
  · refine ⟨Ch.of h.1 (fun r e => .inr (Option.some.inj e).symm), fun q hq ⟨l, hl⟩ => ?_⟩
    by_cases e : q = qb
    · subst e; exact ⟨p, h.2⟩
    · exact ⟨l, hl.grown h.1 (fun h => e (Option.some.inj h))⟩
  · exact ⟨Ch.of h (fun r e => by cases e), fun q hq ⟨l, hl⟩ => ⟨l, hl.grown h (by simp)⟩⟩
theorem cd5_rd {W0 qa qb : Nat} {p : Sc.Id} {i : Nat} {v : Value} {w w' : World} {l : List Sc.Id} (ha : W0 ≤ qa) (hb : W0 ≤ qb) (h : RdI (fun b => b < W0) w v l) (hR : cd5R qa qb p i w w') : RdI (fun b => b < W0) w' v l :=
  ((cd5R_Ra qa qb p i w w' hR).1).rd h (fun r hr h => by rcases h with h | h <;> omega)
theorem cd5_st (bp op nr c W0 qa qb : Nat) (p : Sc.Id) (rest : List Sc.Id) (ha : W0 ≤ qa) (hb : W0 ≤ qb) (hne : qa ≠ qb) : ∀ j i v w w', j ≠ i → cd5φ bp op nr c W0 qa qb p rest j v w → cd5R qa qb p i w w' → cd5φ bp op nr c W0 qa qb p rest j v w' := by
  intro j i v w w' hji h hR
  match j, hji, h with
  | 0, _, h => exact h
  | 1, _, h => exact h
  | 2, _, h => exact h
  | 3, _, h => exact h
  | 4, _, h => exact h
  | 5, _, h => exact h
  | 6, _, h => exact h
  | 7, _, h => exact cd5_rd ha hb h hR
  | 8, hji, h =>
    unfold cd5R at hR
    split at hR
    · exact absurd rfl hji
    · exact Bk.grown h hR.1 (fun h => hne (Option.some.inj h))
    · exact Bk.grown h hR (by simp)
  | 9, hji, h =>
    unfold cd5R at hR
    split at hR
    · exact Bk.grown h hR.1 (fun h => hne (Option.some.inj h).symm)
    · exact absurd rfl hji
    · exact Bk.grown h hR (by simp)
  | j + 10, _, h => exact h

set_option maxHeartbeats 8000000 in
set_option maxRecDepth 100000 in
theorem ckCon_any (one two : Sc.Id) (m n : Int) (v : Value) (path : List Sc.Id) (NB : Nat → Prop) (w : World) (hv : RdI NB w v path) (hNB : ∀ b, NB b → b < w.heap.size) :
    Calls Try.prog 39 #[.int .i64 m, .int .i64 n, .agg (one.l.map bv).toArray, .agg (two.l.map bv).toArray, v] w fun e w' => e = .returned (.int .i64 (ckCon one two m n path : Int)) ∧ w.grownBy w' none := by
  go_enter Try.func39, Try.ntmps39
  obtain ⟨A, c, rfl, hc⟩ := Rd.form hv
  have hm := Rd.le hv
  have hm2 : path.length ≤ 9223372036854775807 := hm
  obtain ⟨W1, hW1⟩ : ∃ W1, W1 = (w.alloc (.cells (one.l.map bv).toArray 34)).alloc (.cells (two.l.map bv).toArray 34) := ⟨_, rfl⟩
  have b7 : Bk W1 w.heap.size 34 (one.l.map bv) := by rw [hW1]; exact (Bk.new w 34 (one.l.map bv)).alloc _
  have b8 : Bk W1 (w.heap.size + 1) 34 (two.l.map bv) := by
    have := Bk.new (w.alloc (.cells (one.l.map bv).toArray 34)) 34 (two.l.map bv)
    rw [World.size_alloc] at this; rw [hW1]; exact this
  have g1 : w.grownBy W1 none := by rw [hW1]; exact gb_alloc (gb_alloc (gb_refl w none) _) _
  have z1 : W1.heap.size = w.heap.size + 2 := by rw [hW1, World.size_alloc, World.size_alloc]
  have HW1 := Go.Lib.hid hW1
  have HV := Go.Lib.hid (RI.of hv hNB)
  clear hW1 hv
  rcases (by omega : m < 1 ∨ (1 ≤ m ∧ n < m) ∨ (1 ≤ m ∧ m ≤ n ∧ 1099511627776 < n) ∨ (1 ≤ m ∧ m ≤ n ∧ n ≤ 1099511627776)) with hs | hs | hs | hs
  · rw [ckCon_out (.inl hs)]
    have hd1 : decide (m < 1) = true := decide_eq_true hs
    go_wp2_with fail
    go_ret
    exact ⟨rfl, HW1.out ▸ g1⟩
  · rw [ckCon_out (.inr (.inl hs.2))]
    have hd1 : decide (m < 1) = false := decide_eq_false (by omega)
    have hd2 : decide (n < m) = true := decide_eq_true hs.2
    go_wp2_with fail
    go_ret
    exact ⟨rfl, HW1.out ▸ g1⟩
  · rw [ckCon_out (.inr (.inr hs.2.2))]
    have hd1 : decide (m < 1) = false := decide_eq_false (by omega)
    have hd2 : decide (n < m) = false := decide_eq_false (by omega)
    have hd3 : decide (1099511627776 < n) = true := decide_eq_true hs.2.2
    go_wp2_with fail
    go_ret
    exact ⟨rfl, HW1.out ▸ g1⟩
  · have hd1 : decide (m < 1) = false := decide_eq_false (by omega)
    have hd2 : decide (n < m) = false := decide_eq_false (by omega)
    have hd3 : decide (1099511627776 < n) = false := decide_eq_false (by omega)
    obtain ⟨m0, rfl⟩ : ∃ m0 : Nat, m = (m0 : Int) + 1 := ⟨(m - 1).toNat, by omega⟩
    obtain ⟨l0, rfl⟩ : ∃ l0 : Nat, n = (l0 : Int) + 1 := ⟨(n - 1).toNat, by omega⟩
    have hml : m0 ≤ l0 := by omega
    have hl40 : l0 + 1 ≤ 1099511627776 := by omega
    have hck := ckCon_in (one := one) (two := two) (m := m0 + 1) (n := l0 + 1) (path := path) (by omega) (by omega) hl40
    obtain ⟨res, hres⟩ : ∃ res, res = ckCon one two ((m0 : Int) + 1) ((l0 : Int) + 1) path := ⟨_, rfl⟩
    rw [show (((m0 + 1 : Nat) : Int)) = (m0 : Int) + 1 from by push_cast; rfl, show (((l0 + 1 : Nat) : Int)) = (l0 : Int) + 1 from by push_cast; rfl, ← hres] at hck
    rw [← hres]
    clear hres
    obtain ⟨k, hk⟩ : ∃ k, k = path.length := ⟨_, rfl⟩
    rw [← hk] at hc hm hm2 HV ⊢
    have HK := Go.Lib.hid hk
    have hkI : (0 : Int) ≤ (k : Int) ∧ (k : Int) ≤ 9223372036854775807 := by omega
    clear hk
    obtain ⟨p7, hp7⟩ : ∃ p7, p7 = w.heap.size := ⟨_, rfl⟩
    obtain ⟨p8, hp8⟩ : ∃ p8, p8 = w.heap.size + 1 := ⟨_, rfl⟩
    by_cases heq : m0 = l0
    · subst heq
      have q0 : (((m0 : Int) + 1) == ((m0 : Int) + 1)) = true := beq_self_eq_true _
      rw [links_end_whole] at hck
      rcases Nat.eq_zero_or_pos k with hk0 | hk0
      · have hpn : path = [] := List.eq_nil_of_length_eq_zero (by rw [← HK.out]; exact hk0)
        rw [if_pos hpn] at hck
        have hck2 : res = if one = two then 0 else 60 := by
          rw [hck]
          by_cases hx : one = two
          · rw [if_pos (by rw [hx]), if_pos hx]
          · rw [if_neg (by intro h; exact hx (Prod.ext_iff.1 (Option.some.inj h)).2), if_neg hx]
        have HCK := Go.Lib.hid hck2
        subst hk0
        clear hck hck2 hpn
        have q1 : ∀ w, (eqGuard .neq 34 (.tmp 36) (.tmp 37) (.agg (one.l.map bv).toArray) (.agg (two.l.map bv).toArray)).run Try.prog w = .ok () w := fun _ => run_eqGuard_id idEq one two
        go_upto_region 4 with (fail)
        rw [← HW1.out]
        iterate 13 go_step
        refine wpList_guard (by rfl) ?_
        with_reducible refine wpList_load_bk (x := .tmp 7) (t := 34) w.heap.size _ (one.l.map bv) _ b7 (by kernel_rfl) Try.underlying34 rfl (idSize _) ?_
        try go_frame
        refine wpList_guard (by rfl) ?_
        with_reducible refine wpList_load_bk (x := .tmp 8) (t := 34) (w.heap.size + 1) _ (two.l.map bv) _ b8 (by kernel_rfl) Try.underlying34 rfl (idSize _) ?_
        try go_frame
        by_cases hx : one = two
        · have hxb : (one.l == two.l) = true := by rw [hx]; exact beq_self_eq_true _
          have q2 : ∀ w, (binOp .neq 34 (.agg (one.l.map bv).toArray) (.agg (two.l.map bv).toArray)).run Try.prog w = .ok (.bool false) w := fun w => (run_neq_id (w := w) idEq one two).trans (by rw [hxb]; rfl)
          have hr : res = 0 := by rw [HCK.out, if_pos hx]
          have HR0 := Go.Lib.hid hr
          clear hx hxb hr HCK
          go_wp2_with fail
          go_ret
          exact ⟨by rw [HR0.out]; rfl, g1⟩
        · have hxb : (one.l == two.l) = false := beq_ids hx
          have q2 : ∀ w, (binOp .neq 34 (.agg (one.l.map bv).toArray) (.agg (two.l.map bv).toArray)).run Try.prog w = .ok (.bool true) w := fun w => (run_neq_id (w := w) idEq one two).trans (by rw [hxb]; rfl)
          have hr : res = 60 := by rw [HCK.out, if_neg hx]
          have HR0 := Go.Lib.hid hr
          clear hx hxb hr HCK
          go_wp2_with fail
          go_ret
          exact ⟨by rw [HR0.out]; rfl, g1⟩
      · have hd4 : decide ((0 : Int) < (k : Int)) = true := decide_eq_true (by omega)
        have hr : res = 60 := by
          rw [hck, if_neg (c := path = []) (fun h => by have := HK.out; rw [h] at this; simp at this; omega)]; rfl
        have HR := Go.Lib.hid hr
        clear hck hr
        go_wp2_with fail
        go_ret
        exact ⟨by rw [HR.out]; rfl, HW1.out ▸ g1⟩
    · have hlt0 : m0 < l0 := by omega
      have q0 : (((m0 : Int) + 1) == ((l0 : Int) + 1)) = false := by simp; omega
      have hml2 : (0 : Int) ≤ (m0 : Int) ∧ (m0 : Int) < (l0 : Int) ∧ (l0 : Int) < 1099511627776 := by omega
      have hwr1 : IntKind.i64.wrap ((m0 : Int) + 1 - 1) = (m0 : Int) := by rw [IntWalk.i64_in _ (by omega)]; omega
      have hwr2 : IntKind.i64.wrap ((l0 : Int) + 1 - 1) = (l0 : Int) := by rw [IntWalk.i64_in _ (by omega)]; omega
      have HCK := Go.Lib.hid hck
      have HLT0 := Go.Lib.hid hlt0
      have HSAME : Hid (∀ z : Nat, ((z : Int) / 2) = ((z / 2 : Nat) : Int)) := Go.Lib.hid (fun z => by omega)
      clear hck heq hlt0
      go_wp2_with fail
      rw [← HW1.out]
      rw [← hp8, ← hp7]
      rw [← hp7] at b7
      rw [← hp8] at b8
      have HP7 := Go.Lib.hid hp7
      have HP8 := Go.Lib.hid hp8
      clear hd1 hd2 hd3 q0 hwr1 hwr2 hp7 hp8
      go_loop [12, 13] (fun vn vl => ∃ n2 l2 : Nat, vn = .int .i64 (n2 : Int) ∧ vl = .int .i64 (l2 : Int) ∧ Hid (strip1 m0 l0 = strip1 n2 l2) ∧ n2 ≤ m0 ∧ l2 ≤ l0) (fun vn _ => (intOf vn).toNat)
      case atStart => exact ⟨m0, l0, rfl, rfl, Go.Lib.hid rfl, Nat.le_refl _, Nat.le_refl _⟩
      case round =>
        obtain ⟨no0, la0, rfl, rfl, HS, hn2, hl2⟩ := hrel
        have hn2I : (0 : Int) ≤ (no0 : Int) ∧ (no0 : Int) ≤ 1099511627776 := by omega
        have hl2I : (0 : Int) ≤ (la0 : Int) ∧ (la0 : Int) ≤ 1099511627776 := by omega
        by_cases hodd : no0 % 2 = 1
        · have hand : bits .and .i64 (no0 : Int) 1 = 1 := and_one_odd no0 hodd (by omega)
          have HO := Go.Lib.hid hodd
          clear hodd
          go_wp2_with fail
          exact ⟨⟨no0 / 2, la0 / 2, congrArg (Value.int .i64) (HSAME.out no0), congrArg (Value.int .i64) (HSAME.out la0), Go.Lib.hid (by rw [HS.out, strip1_go HO.out]), by omega, by omega⟩, by have := HO.out; simp only [intOf]; omega⟩
        · have hand : bits .and .i64 (no0 : Int) 1 = 0 := and_one_even no0 (by omega) (by omega)
          have hss : strip1 m0 l0 = (no0, la0) := by rw [HS.out, strip1_stop (by omega)]
          have hls := links_climb one HLT0.out path hss
          have hnl0 : no0 ≤ la0 := by
            have h := (link_strip m0 l0 HLT0.out).2.2
            rw [hss] at h
            exact Nat.le_of_lt h
          have hll0 : la0 ≤ l0 := hl2
          have hres := HCK.out
          rw [hls] at hres
          have HRS := Go.Lib.hid hres
          clear hodd hss hls hres HS
          go_wp2_with fail
          clear hand
          refine wp_region_specsQ (Ra := cdRa W1.heap.size) (R := cd1R one W1.heap.size) (cdRa_trans _) (cd1R_Ra one _) 5 [52, 53, 14, 15, 14] (by kernel_rfl) (fun _ => cd_drawn _ _) (fun i => i == 4) (by kernel_rfl) (fun i => i == 2 || i == 3) (cd1φ one W1.heap.size) (cd1_lt one W1.heap.size) (cd1_st one W1.heap.size) ?step ?fin
          case step =>
            intro i_ o_ ho hi_ u w' hg hd
            rcases (by omega : i_ = 0 ∨ i_ = 1 ∨ i_ = 2 ∨ i_ = 3 ∨ i_ = 4) with rfl | rfl | rfl | rfl | rfl <;> obtain rfl := Option.some.inj ho <;>
              simp (decide := true) only [fillAct, List.mapIdx_cons, List.mapIdx_nil, Nat.reduceAdd, if_true, if_false, List.getD_cons_zero, List.getD_cons_succ]
            · clear hd ho
              have hBW := hg (Nat.le_refl _)
              have hBs : W1.heap.size ≤ w'.heap.size := hBW.size
              have b1 := b7.below hBW b7.lt
              go_wp2_with ((with_reducible refine wpList_load_bk (t := 34) p7 _ (one.l.map bv) _ b1 (by kernel_rfl) Try.underlying34 rfl (idSize _) ?_))
              exact ⟨rfl, gb_refl _ _, rfl, fun h => by cases h⟩
            · clear hd ho
              have hBW := hg (Nat.le_refl _)
              have hBs : W1.heap.size ≤ w'.heap.size := hBW.size
              have b1 := b7.below hBW b7.lt
              go_wp2_with ((with_reducible refine wpList_load_bk (t := 34) p7 _ (one.l.map bv) _ b1 (by kernel_rfl) Try.underlying34 rfl (idSize _) ?_))
              exact ⟨rfl, gb_refl _ _, rfl, fun h => by cases h⟩
            · clear hd ho
              have hBW := hg (Nat.le_refl _)
              have hBs : W1.heap.size ≤ w'.heap.size := hBW.size
              go_wp2_with ((with_reducible refine wpList_alloc_row (E := 34) idZ infoId ?_))
              exact ⟨rfl, gb_alloc (gb_refl _ _) _, ⟨w'.heap.size, rfl, .inl (Bk.new _ _ _), hBs, by rw [World.size_alloc]; exact Nat.lt_succ_self _⟩, fun _ => rfl⟩
            · clear hd ho
              have hBW := hg (Nat.le_refl _)
              have hBs : W1.heap.size ≤ w'.heap.size := hBW.size
              go_wp2_with ((with_reducible refine wpList_alloc_row (E := 34) idZ infoId ?_))
              exact ⟨rfl, gb_alloc (gb_refl _ _) _, ⟨w'.heap.size, rfl, .inl (Bk.new _ _ _), hBs, by rw [World.size_alloc]; exact Nat.lt_succ_self _⟩, fun _ => rfl⟩
            · have h0 : u 52 = idv one := hd 0 (by kernel_rfl)
              have h2 : ∃ q, (u 14) = .pointer (some ⟨q, 0, none⟩) ∧ (Bk w' q 34 idZ ∨ Bk w' q 34 (one.l.map bv)) ∧ W1.heap.size ≤ q ∧ q < w'.heap.size := hd 2 (by kernel_rfl)
              clear hd ho
              rw [h0]
              obtain ⟨q, e2, hqo, hqW, hql⟩ := h2
              obtain ⟨old, hqold, hol⟩ : ∃ old, Bk w' q 34 old ∧ old.length = (one.l.map bv).length := by
                rcases hqo with h | h
                · exact ⟨_, h, idLen _⟩
                · exact ⟨_, h, rfl⟩
              rw [e2]
              go_wp2_with ((with_reducible refine wpList_store_bk (t := 34) q 34 old (one.l.map bv) hqold (by kernel_rfl) (by kernel_rfl) (idSize _) hol (idOne _) ?_); intro w5 h5 g5 z5)
              exact ⟨rfl, ⟨q, hqW, g5, h5⟩, ⟨q, rfl, h5⟩, fun h => by cases h⟩
          case fin =>
            intro u w4 hg hφ hpair
            have h53 : u 53 = .agg (one.l.map bv).toArray := hφ 1 (by omega)
            obtain ⟨qa, h14, -, hWa, hla⟩ : ∃ q, u 14 = .pointer (some ⟨q, 0, none⟩) ∧ (Bk w4 q 34 idZ ∨ Bk w4 q 34 (one.l.map bv)) ∧ W1.heap.size ≤ q ∧ q < w4.heap.size := hφ 2 (by omega)
            obtain ⟨qb, h15, hqbo, hWb, hlb⟩ : ∃ q, u 15 = .pointer (some ⟨q, 0, none⟩) ∧ (Bk w4 q 34 idZ ∨ Bk w4 q 34 (one.l.map bv)) ∧ W1.heap.size ≤ q ∧ q < w4.heap.size := hφ 3 (by omega)
            obtain ⟨qa', h14', hqa⟩ : ∃ q, u 14 = .pointer (some ⟨q, 0, none⟩) ∧ Bk w4 q 34 (one.l.map bv) := hφ 4 (by omega)
            have hqq : qa' = qa := by
              rw [h14] at h14'
              injection h14' with h
              have := congrArg Addr.block (Option.some.inj h)
              exact this.symm
            subst hqq
            obtain ⟨old, hqb, hol⟩ : ∃ old, Bk w4 qb 34 old ∧ old.length = (one.l.map bv).length := by
              rcases hqbo with h | h
              · exact ⟨_, h, idLen _⟩
              · exact ⟨_, h, rfl⟩
            have hab : qa' ≠ qb := fun e => hpair 2 3 (by omega) (by omega) (by omega) rfl rfl (show u 14 = u 15 by rw [h14, h15, e])
            obtain ⟨qa, hqae⟩ : ∃ qa, qa = qa' := ⟨_, rfl⟩
            subst hqae
            have hBW := hg (Nat.le_refl _)
            have hg := gb_of_below hBW
            simp (decide := true) only [fillAct, List.mapIdx_cons, List.mapIdx_nil, Nat.reduceAdd, if_true, if_false, List.drop_succ_cons, List.drop_zero]
            rw [h53, h14, h15]
            have hq7 : p7 < W1.heap.size := b7.lt
            have hq8 : p8 < W1.heap.size := b8.lt
            have h74 := b7.grown hg (by simp)
            have h84 := b8.grown hg (by simp)
            have gw4 := gb_trans g1 hg
            have hwa : w.heap.size ≤ qa := by omega
            have hwb : w.heap.size ≤ qb := by omega
            have hp78 : w.heap.size ≤ p7 ∧ w.heap.size ≤ p8 := by have := HP7.out; have := HP8.out; omega
            have ha7 : qa ≠ p7 ∧ qa ≠ p8 ∧ qb ≠ p7 ∧ qb ≠ p8 := by omega
            clear hφ hpair b7 b8 hg z1 g1 HW1
            rcases Nat.eq_zero_or_pos no0 with hz | hz
            · have hd5 : decide ((0 : Int) < (no0 : Int)) = false := decide_eq_false (by omega)
              have hd5' : decide (0 < no0) = false := decide_eq_false (by omega)
              have hres2 := HRS.out
              rw [if_pos hz] at hres2
              clear hz
              obtain ⟨s, hs1⟩ : ∃ s, s = one := ⟨_, rfl⟩
              obtain ⟨rest, hrest1⟩ : ∃ rest, rest = path := ⟨_, rfl⟩
              have HRES : Hid (res = if ((climb (up2 nd) no0 la0 (s, s) rest).bind fun r => if r.1 = 0 then some r.2 else none) = some (one, two) then 0 else 60) := Go.Lib.hid (by rw [hs1, hrest1]; exact hres2)
              have HS1 := Go.Lib.hid hs1
              have HR1 := Go.Lib.hid hrest1
              clear hres2 hs1 hrest1 HRS HCK
              go_wp2_with (first
                | ((with_reducible refine wpList_store_bk (x := .tmp 15) (t := 34) qb 34 old (one.l.map bv) hqb (by kernel_rfl) (by kernel_rfl) (idSize _) hol (idOne _) ?_); intro w6 h6 g6 z6
                   have HQA := Go.Lib.hid (hqa.grown g6 (fun h => by have := Option.some.inj h; omega))
                   have HQB := Go.Lib.hid h6
                   have HQ7 := Go.Lib.hid (h74.grown g6 (fun h => by have := Option.some.inj h; omega))
                   have HQ8 := Go.Lib.hid (h84.grown g6 (fun h => by have := Option.some.inj h; omega))
                   have HQG := Go.Lib.hid (gb_trans_new gw4 g6 hwb)))
              clear h6 g6 z6 h74 h84 gw4 hqa hqb hqbo hol hla hlb hd5 hd5'
              rw [← HS1.out] at HQA HQB
              obtain ⟨Ar, hAr⟩ : ∃ Ar, Ar = A := ⟨_, rfl⟩
              obtain ⟨nr, hnr0⟩ : ∃ nr, nr = k := ⟨_, rfl⟩
              obtain ⟨cr, hcr0⟩ : ∃ cr, cr = c := ⟨_, rfl⟩
              rw [← hAr, ← hnr0, ← hcr0] at HV
              rw [← hnr0] at HK hm hm2 hkI
              have HRR : Hid (RdI (fun b => b < w.heap.size) w (.slice Ar nr cr) rest) := Go.Lib.hid (by rw [HR1.out]; exact HV.out)
              have HNR : Hid (rest.length = nr) := Go.Lib.hid (by rw [HR1.out]; exact HK.out.symm)
              have hnr : nr ≤ cr := by omega
              subst hAr hcr0 hnr0
              go_loopw [12, 13, 69] (fun vn vl vj wr => ∃ (no la j : Nat) (x y : Sc.Id), vn = .int .i64 (no : Int) ∧ vl = .int .i64 (la : Int) ∧ vj = .int .i64 (j : Int) ∧ j ≤ nr ∧ no ≤ la ∧ la ≤ l0 ∧
                  Hid (climb (up2 nd) no0 la0 (s, s) rest = climb (up2 nd) no la (x, y) (rest.drop j)) ∧ Hid (Bk wr qa 34 (x.l.map bv)) ∧ Hid (Bk wr qb 34 (y.l.map bv)) ∧ Hid (Bk wr p7 34 (one.l.map bv)) ∧ Hid (Bk wr p8 34 (two.l.map bv)) ∧ Hid (w.grownBy wr none))
                (fun _ _ vj _ => nr - (intOf vj).toNat)
              case atStart => exact ⟨no0, la0, 0, s, s, rfl, rfl, rfl, Nat.zero_le _, hnl0, hll0, Go.Lib.hid rfl, HQA, HQB, HQ7, HQ8, HQG⟩
              case round =>
                clear HQA HQB HQ7 HQ8 HQG
                obtain ⟨no, la, j, x, y, rfl, rfl, rfl, hjm, hnl, hll, HCL, HA, HB, H7, H8, HG⟩ := hrel
                have hnI : (0 : Int) ≤ (no : Int) ∧ (no : Int) ≤ (la : Int) ∧ (la : Int) < 1099511627776 := by omega
                have hjI : (0 : Int) ≤ (j : Int) ∧ (j : Int) ≤ (nr : Int) := by omega
                have ha0 := HA.out
                have hb0 := HB.out
                have h70 := H7.out
                have h80 := H8.out
                have hg0 := HG.out
                by_cases hlt : j < nr
                · have hd : decide ((j : Int) < (nr : Int)) = true := decide_eq_true (by omega)
                  obtain ⟨p, hp⟩ : ∃ p, rest[j]? = some p := ⟨_, List.getElem?_eq_getElem (by rw [HNR.out]; exact hlt)⟩
                  obtain ⟨bp, op, cp, hvp, -, hnc, -, hcell⟩ := (show Rd (fun b => b < w.heap.size) wr 32 (.slice Ar nr cr) nr (idCells rest) from by have h := Rd.grown HRR.out hg0 (by simp); unfold RdI at h; rw [HNR.out] at h; exact h).at (by omega)
                  injection hvp with hA _ hcp
                  subst hA hcp
                  have hrt := range_id hcell hp
                  have hdrop := drop_at hp
                  have hcl := HCL.out
                  rw [hdrop, climb_cons] at hcl
                  have HCL2 := Go.Lib.hid hcl
                  have bz := Bk.new wr 34 idZ
                  have hsa : qa < wr.heap.size := ha0.lt
                  have hsb : qb < wr.heap.size := hb0.lt
                  have hs7 : p7 < wr.heap.size := h70.lt
                  have hs8 : p8 < wr.heap.size := h80.lt
                  clear hcell hdrop hcl hp
                  by_cases hla : la = 0
                  · have hq0 : ((la : Int) == 0) = true := by rw [hla]; rfl
                    have hr60 : res = 60 := by rw [HRES.out, HCL2.out, if_pos hla]; rfl
                    have HR60 := Go.Lib.hid hr60
                    clear hr60 hla
                    go_wp2_with (first
                      | ((with_reducible refine wpList_load_range (x := .tmp 71) (t := 34) bp (op + j * 32) (p.l.map bv) _ hrt (by kernel_rfl) Try.underlying34 rfl (idSize _) ?_))
                        | ((with_reducible refine wpList_alloc_row (E := 34) idZ infoId ?_))
                        | ((with_reducible refine wpList_store_bk (x := .tmp 17) (t := 34) wr.heap.size 34 idZ (p.l.map bv) bz (by kernel_rfl) (by kernel_rfl) (idSize _) (idLen _) (idOne _) ?_); intro w3 h3 g3 z3
                           have ha3 := (ha0.alloc (.cells idZ.toArray 34)).grown g3 (fun h => by have := Option.some.inj h; omega)
                           have hb3 := (hb0.alloc (.cells idZ.toArray 34)).grown g3 (fun h => by have := Option.some.inj h; omega)
                           have h73 := (h70.alloc (.cells idZ.toArray 34)).grown g3 (fun h => by have := Option.some.inj h; omega)
                           have h83 := (h80.alloc (.cells idZ.toArray 34)).grown g3 (fun h => by have := Option.some.inj h; omega)
                           have gw3 := gb_trans_new (gb_alloc hg0 (.cells idZ.toArray 34)) g3 hg0.size))
                    go_ret
                    exact ⟨by rw [HR60.out]; rfl, gw3⟩
                  · have hq0 : ((la : Int) == 0) = false := by simp; omega
                    have hcl := HCL2.out
                    rw [if_neg hla] at hcl
                    have HSAME : Hid (∀ z : Nat, ((z : Int) / 2) = ((z / 2 : Nat) : Int)) := Go.Lib.hid (fun z => by omega)
                    by_cases ho : no % 2 = 1 ∨ no = la
                    · rw [if_pos ho] at hcl
                      have hst1 := strip_le1 no la hnl
                      have hst2 := strip_le no la
                      have HCL3 := Go.Lib.hid hcl
                      clear hcl HCL2 HCL
                      rcases (by omega : no % 2 = 1 ∨ (no % 2 = 0 ∧ no = la)) with hod | ⟨hev, heq⟩
                      all_goals
                        first
                          | (have hand : bits .and .i64 (no : Int) 1 = 1 := and_one_odd no hod (by omega))
                          | (have hand : bits .and .i64 (no : Int) 1 = 0 := and_one_even no hev (by omega); have hq1 : ((no : Int) == (la : Int)) = true := (by rw [heq]; exact beq_self_eq_true _); clear heq)
                        go_upto_region 22 with (first
                          | ((with_reducible refine wpList_load_range (x := .tmp 71) (t := 34) bp (op + j * 32) (p.l.map bv) _ hrt (by kernel_rfl) Try.underlying34 rfl (idSize _) ?_))
                            | ((with_reducible refine wpList_alloc_row (E := 34) idZ infoId ?_))
                            | ((with_reducible refine wpList_store_bk (x := .tmp 17) (t := 34) wr.heap.size 34 idZ (p.l.map bv) bz (by kernel_rfl) (by kernel_rfl) (idSize _) (idLen _) (idOne _) ?_); intro w3 h3 g3 z3
                               have ha3 := (ha0.alloc (.cells idZ.toArray 34)).grown g3 (fun h => by have := Option.some.inj h; omega)
                               have hb3 := (hb0.alloc (.cells idZ.toArray 34)).grown g3 (fun h => by have := Option.some.inj h; omega)
                               have h73 := (h70.alloc (.cells idZ.toArray 34)).grown g3 (fun h => by have := Option.some.inj h; omega)
                               have h83 := (h80.alloc (.cells idZ.toArray 34)).grown g3 (fun h => by have := Option.some.inj h; omega)
                               have gw3 := gb_trans_new (gb_alloc hg0 (.cells idZ.toArray 34)) g3 hg0.size))
                        obtain ⟨qp, hqp⟩ : ∃ qp, qp = wr.heap.size := ⟨_, rfl⟩
                        have hbp : Bk w3 qp 34 (p.l.map bv) := by rw [hqp]; exact h3
                        have hba := ha3
                        have hbb := hb3
                        rw [← hqp]
                        have hqpa : qp ≠ qa := by omega
                        have hqpb : qp ≠ qb := by omega
                        clear h3 g3 z3 bz hand hqp
                        refine wp_region_specsP (R := Gr) (fun _ _ _ h k => gb_trans h k) 6 [83, 84, 85, 86, 87, 88] (by kernel_rfl) (gb_drew (gb_refl _ none)) (by kernel_rfl) (fun _ => false) (cd2φ p x y) (fun _ _ _ h => by cases h) (cd2φ_gr p x y) ?step ?fin
                        case step =>
                          intro i_ o_ ho hi_ u w' hg hd
                          rcases (by omega : i_ = 0 ∨ i_ = 1 ∨ i_ = 2 ∨ i_ = 3 ∨ i_ = 4 ∨ i_ = 5) with rfl | rfl | rfl | rfl | rfl | rfl <;> obtain rfl := Option.some.inj ho <;>
                            simp (decide := true) only [fillAct, List.mapIdx_cons, List.mapIdx_nil, Nat.reduceAdd, if_true, if_false, List.getD_cons_zero, List.getD_cons_succ]
                          · clear hd ho
                            have b1 := hbp.grown hg (by simp)
                            go_wp2_with ((with_reducible refine wpList_load_bk (t := 34) qp _ (p.l.map bv) _ b1 (by kernel_rfl) Try.underlying34 rfl (idSize _) ?_))
                            exact ⟨rfl, gb_refl _ _, rfl, fun h => by cases h⟩
                          · clear hd ho
                            have b1 := hba.grown hg (by simp)
                            go_wp2_with ((with_reducible refine wpList_load_bk (t := 34) qa _ (x.l.map bv) _ b1 (by kernel_rfl) Try.underlying34 rfl (idSize _) ?_))
                            exact ⟨rfl, gb_refl _ _, rfl, fun h => by cases h⟩
                          · have h0 : u 83 = idv p := hd 0 (by kernel_rfl)
                            have h1 : u 84 = idv x := hd 1 (by kernel_rfl)
                            clear hd ho
                            rw [h0, h1]
                            go_wp2_with (go_at_call 55; ((with_reducible refine (node_any p x _).mono ?_); rintro e w3 ⟨rfl, g3⟩))
                            exact ⟨rfl, g3, rfl, fun h => by cases h⟩
                          · clear hd ho
                            have b1 := hbp.grown hg (by simp)
                            go_wp2_with ((with_reducible refine wpList_load_bk (t := 34) qp _ (p.l.map bv) _ b1 (by kernel_rfl) Try.underlying34 rfl (idSize _) ?_))
                            exact ⟨rfl, gb_refl _ _, rfl, fun h => by cases h⟩
                          · clear hd ho
                            have b1 := hbb.grown hg (by simp)
                            go_wp2_with ((with_reducible refine wpList_load_bk (t := 34) qb _ (y.l.map bv) _ b1 (by kernel_rfl) Try.underlying34 rfl (idSize _) ?_))
                            exact ⟨rfl, gb_refl _ _, rfl, fun h => by cases h⟩
                          · have h3 : u 86 = idv p := hd 3 (by kernel_rfl)
                            have h4 : u 87 = idv y := hd 4 (by kernel_rfl)
                            clear hd ho
                            rw [h3, h4]
                            go_wp2_with (go_at_call 55; ((with_reducible refine (node_any p y _).mono ?_); rintro e w3 ⟨rfl, g3⟩))
                            exact ⟨rfl, g3, rfl, fun h => by cases h⟩
                        case fin =>
                          intro u w4 hg hφ _
                          have h2 : u 85 = .agg ((nd p x).l.map bv).toArray := hφ 2 (by omega)
                          have h5 : u 88 = .agg ((nd p y).l.map bv).toArray := hφ 5 (by omega)
                          simp (decide := true) only [fillAct, List.mapIdx_cons, List.mapIdx_nil, Nat.reduceAdd, if_true, if_false, List.drop_succ_cons, List.drop_zero]
                          rw [h2, h5]
                          have hba4 := hba.grown hg (by simp)
                          have hbb4 := hbb.grown hg (by simp)
                          have h74 := h73.grown hg (by simp)
                          have h84 := h83.grown hg (by simp)
                          have gw4 := gb_trans gw3 hg
                          have hlx : (x.l.map bv).length = ((nd p x).l.map bv).length := by rw [List.length_map, List.length_map, x.h, (nd p x).h]
                          have hly : (y.l.map bv).length = ((nd p y).l.map bv).length := by rw [List.length_map, List.length_map, y.h, (nd p y).h]
                          clear hφ hbp hba hbb h73 h83 gw3 hg ha0 hb0 h70 h80 hg0 HA HB H7 H8 HG ha3 hb3 hrt
                          go_wp2_with (first
                            | ((with_reducible refine wpList_store_bk (x := .tmp 14) (t := 34) qa 34 (x.l.map bv) ((nd p x).l.map bv) hba4 (by kernel_rfl) (by kernel_rfl) (idSize _) hlx (idOne _) ?_); intro w5 h5a g5 z5
                               have hbb5 := hbb4.grown g5 (fun h => by have := Option.some.inj h; omega)
                               have h75 := h74.grown g5 (fun h => by have := Option.some.inj h; omega)
                               have h85 := h84.grown g5 (fun h => by have := Option.some.inj h; omega)
                               have gw5 := gb_trans_new gw4 g5 (by omega))
                            | ((with_reducible refine wpList_store_bk (x := .tmp 15) (t := 34) qb 34 (y.l.map bv) ((nd p y).l.map bv) hbb5 (by kernel_rfl) (by kernel_rfl) (idSize _) hly (idOne _) ?_); intro w6 h6b g6 z6
                               have HA5 := Go.Lib.hid (h5a.grown g6 (fun h => by have := Option.some.inj h; omega))
                               have HB5 := Go.Lib.hid h6b
                               have H75 := Go.Lib.hid (h75.grown g6 (fun h => by have := Option.some.inj h; omega))
                               have H85 := Go.Lib.hid (h85.grown g6 (fun h => by have := Option.some.inj h; omega))
                               have HG5 := Go.Lib.hid (gb_trans_new gw5 g6 (by omega))
                               clear h5a hbb5 h75 h85 gw5 g5 g6 z5 z6 h6b hba4 hbb4 h74 h84 gw4))
                          try go_frame
                          go_loop [12, 13] (fun vn vl => ∃ n2 l2 : Nat, vn = .int .i64 (n2 : Int) ∧ vl = .int .i64 (l2 : Int) ∧ Hid (strip no la = strip n2 l2) ∧ n2 ≤ la ∧ l2 ≤ la) (fun vn _ => (intOf vn).toNat)
                          case atStart => exact ⟨no, la, rfl, rfl, Go.Lib.hid rfl, hnl, Nat.le_refl _⟩
                          case round =>
                            obtain ⟨n2, l2, rfl, rfl, HS, hn2, hl2⟩ := hrel
                            have hn2I : (0 : Int) ≤ (n2 : Int) ∧ (n2 : Int) ≤ 1099511627776 := by omega
                            have hl2I : (0 : Int) ≤ (l2 : Int) ∧ (l2 : Int) ≤ 1099511627776 := by omega
                            by_cases hgo : n2 % 2 = 0 ∧ n2 ≠ 0
                            · have hand : bits .and .i64 (n2 : Int) 1 = 0 := and_one_even n2 hgo.1 (by omega)
                              have hq2 : ((n2 : Int) != 0) = true := by simp; omega
                              have HGO := Go.Lib.hid hgo
                              clear hgo
                              go_wp2_with fail
                              exact ⟨⟨n2 / 2, l2 / 2, congrArg (Value.int .i64) (HSAME.out n2), congrArg (Value.int .i64) (HSAME.out l2), Go.Lib.hid (by rw [HS.out, strip_go HGO.out.1 HGO.out.2]), by omega, by omega⟩, by have := HGO.out; simp only [intOf]; omega⟩
                            · have hss : strip no la = (n2, l2) := by rw [HS.out, strip_stop (by omega)]
                              rw [hss] at hst1 hst2
                              have hfin : climb (up2 nd) no0 la0 (s, s) rest = climb (up2 nd) (n2 / 2) (l2 / 2) (nd p x, nd p y) (rest.drop (j + 1)) := by rw [HCL3.out, hss]; rfl
                              have HF := Go.Lib.hid hfin
                              clear hss hfin HS
                              rcases (by omega : n2 % 2 = 1 ∨ n2 = 0) with hod2 | hz2
                              · have hand : bits .and .i64 (n2 : Int) 1 = 1 := and_one_odd n2 hod2 (by omega)
                                go_wp2_with fail
                                go_roundw
                                case rel => exact ⟨n2 / 2, l2 / 2, j + 1, nd p x, nd p y, congrArg (Value.int .i64) (HSAME.out n2), congrArg (Value.int .i64) (HSAME.out l2), by push_cast; rfl, by omega, by dsimp only at hst1; omega, by omega, HF, HA5, HB5, H75, H85, HG5⟩
                                case measure => simp only [intOf]; omega
                              · subst hz2
                                have hand : bits .and .i64 0 1 = 0 := by decide
                                go_wp2_with fail
                                go_roundw
                                case rel => exact ⟨0, l2 / 2, j + 1, nd p x, nd p y, rfl, congrArg (Value.int .i64) (HSAME.out l2), by push_cast; rfl, by omega, by omega, by omega, HF, HA5, HB5, H75, H85, HG5⟩
                                case measure => simp only [intOf]; omega
                    · rw [if_neg ho] at hcl
                      have HCL3 := Go.Lib.hid hcl
                      clear hcl HCL2 HCL
                      have hnode : ∀ w : World, Calls Try.prog 55 #[.agg (y.l.map bv).toArray, .agg (p.l.map bv).toArray] w fun e w' => e = .returned (.agg ((nd y p).l.map bv).toArray) ∧ w.grownBy w' none := fun w => node_any y p w
                      have hlen : (y.l.map bv).length = ((nd y p).l.map bv).length := by rw [List.length_map, List.length_map, y.h, (nd y p).h]
                      have hand : bits .and .i64 (no : Int) 1 = 0 := and_one_even no (by omega) (by omega)
                      have hq1 : ((no : Int) == (la : Int)) = false := by simp; omega
                      go_wp2_with (first
                        | ((with_reducible refine wpList_load_range (x := .tmp 71) (t := 34) bp (op + j * 32) (p.l.map bv) _ hrt (by kernel_rfl) Try.underlying34 rfl (idSize _) ?_))
                          | ((with_reducible refine wpList_alloc_row (E := 34) idZ infoId ?_))
                          | ((with_reducible refine wpList_store_bk (x := .tmp 17) (t := 34) wr.heap.size 34 idZ (p.l.map bv) bz (by kernel_rfl) (by kernel_rfl) (idSize _) (idLen _) (idOne _) ?_); intro w3 h3 g3 z3
                             have ha3 := (ha0.alloc (.cells idZ.toArray 34)).grown g3 (fun h => by have := Option.some.inj h; omega)
                             have hb3 := (hb0.alloc (.cells idZ.toArray 34)).grown g3 (fun h => by have := Option.some.inj h; omega)
                             have h73 := (h70.alloc (.cells idZ.toArray 34)).grown g3 (fun h => by have := Option.some.inj h; omega)
                             have h83 := (h80.alloc (.cells idZ.toArray 34)).grown g3 (fun h => by have := Option.some.inj h; omega)
                             have gw3 := gb_trans_new (gb_alloc hg0 (.cells idZ.toArray 34)) g3 hg0.size)
                        | ((with_reducible refine wpList_load_bk (x := .tmp 17) (t := 34) wr.heap.size _ (p.l.map bv) _ h3 (by kernel_rfl) Try.underlying34 rfl (idSize _) ?_))
                        | ((with_reducible refine wpList_load_bk (x := .tmp 15) (t := 34) qb _ (y.l.map bv) _ hb3 (by kernel_rfl) Try.underlying34 rfl (idSize _) ?_))
                        | (go_at_call 55; ((with_reducible refine (hnode _).mono ?_); rintro e w4 ⟨rfl, g4⟩; have hb4 := hb3.grown g4 (by simp)))
                        | ((with_reducible refine wpList_store_bk (x := .tmp 15) (t := 34) qb 34 (y.l.map bv) ((nd y p).l.map bv) hb4 (by kernel_rfl) (by kernel_rfl) (idSize _) hlen (idOne _) ?_); intro w5 h5 g5 z5))
                      have ha5 := (ha3.grown g4 (by simp)).grown g5 (fun h => by have := Option.some.inj h; omega)
                      have h75 := (h73.grown g4 (by simp)).grown g5 (fun h => by have := Option.some.inj h; omega)
                      have h85 := (h83.grown g4 (by simp)).grown g5 (fun h => by have := Option.some.inj h; omega)
                      have gw5 := gb_trans_new (gb_trans gw3 g4) g5 (by omega)
                      go_roundw
                      case rel => exact ⟨no / 2, la / 2, j + 1, x, nd y p, congrArg (Value.int .i64) (HSAME.out no), congrArg (Value.int .i64) (HSAME.out la), by push_cast; rfl, by omega, by omega, by omega, HCL3, Go.Lib.hid ha5, Go.Lib.hid h5, Go.Lib.hid h75, Go.Lib.hid h85, Go.Lib.hid gw5⟩
                      case measure => simp only [intOf]; omega
                · obtain rfl : j = nr := by omega
                  have hd : decide ((j : Int) < (j : Int)) = false := decide_eq_false (by omega)
                  have hcl := HCL.out
                  rw [List.drop_of_length_le (by rw [HNR.out]; exact Nat.le_refl _)] at hcl
                  have hck := HRES.out
                  rw [hcl] at hck
                  by_cases hla : la = 0
                  · have hq0 : ((la : Int) != 0) = false := by rw [hla]; rfl
                    have hck2 : res = if (x, y) = (one, two) then 0 else 60 := by
                      rw [hck, hla]
                      by_cases hx : (x, y) = (one, two)
                      · rw [if_pos (by rw [← hx]; rfl), if_pos hx]
                      · rw [if_neg (by intro h; exact hx (Option.some.inj h)), if_neg hx]
                    have HCK := Go.Lib.hid hck2
                    clear hck hck2 hcl HCL hla
                    have q1 : ∀ w, (eqGuard .neq 34 (.tmp 111) (.tmp 112) (.agg (x.l.map bv).toArray) (.agg (one.l.map bv).toArray)).run Try.prog w = .ok () w := fun _ => run_eqGuard_id idEq x one
                    have q3 : ∀ w, (eqGuard .neq 34 (.tmp 116) (.tmp 117) (.agg (y.l.map bv).toArray) (.agg (two.l.map bv).toArray)).run Try.prog w = .ok () w := fun _ => run_eqGuard_id idEq y two
                    go_upto_region 28 with (fail)
                    iterate 10 go_step
                    refine wpList_guard (by rfl) ?_
                    with_reducible refine wpList_load_bk (x := .tmp 14) (t := 34) qa _ (x.l.map bv) _ ha0 (by kernel_rfl) Try.underlying34 rfl (idSize _) ?_
                    try go_frame
                    refine wpList_guard (by rfl) ?_
                    with_reducible refine wpList_load_bk (x := .tmp 7) (t := 34) p7 _ (one.l.map bv) _ h70 (by kernel_rfl) Try.underlying34 rfl (idSize _) ?_
                    try go_frame
                    by_cases hx : x = one
                    · have hxb : (x.l == one.l) = true := by rw [hx]; exact beq_self_eq_true _
                      have q2 : ∀ w, (binOp .neq 34 (.agg (x.l.map bv).toArray) (.agg (one.l.map bv).toArray)).run Try.prog w = .ok (.bool false) w := fun w => (run_neq_id (w := w) idEq x one).trans (by rw [hxb]; rfl)
                      refine wpList_guard (by rfl) ?_
                      with_reducible refine wpList_neq_id (x := .tmp 111) (y := .tmp 112) idEq x one (by kernel_rfl) (by kernel_rfl) ?_
                      rw [hxb]
                      try go_frame
                      iterate 6 go_step
                      refine wpList_guard (by rfl) ?_
                      with_reducible refine wpList_load_bk (x := .tmp 15) (t := 34) qb _ (y.l.map bv) _ hb0 (by kernel_rfl) Try.underlying34 rfl (idSize _) ?_
                      try go_frame
                      refine wpList_guard (by rfl) ?_
                      with_reducible refine wpList_load_bk (x := .tmp 8) (t := 34) p8 _ (two.l.map bv) _ h80 (by kernel_rfl) Try.underlying34 rfl (idSize _) ?_
                      try go_frame
                      by_cases hy : y = two
                      · have hyb : (y.l == two.l) = true := by rw [hy]; exact beq_self_eq_true _
                        have q4 : ∀ w, (binOp .neq 34 (.agg (y.l.map bv).toArray) (.agg (two.l.map bv).toArray)).run Try.prog w = .ok (.bool false) w := fun w => (run_neq_id (w := w) idEq y two).trans (by rw [hyb]; rfl)
                        have hr : res = 0 := by rw [HCK.out, if_pos (by rw [hx, hy])]
                        have HR0 := Go.Lib.hid hr
                        clear hx hxb hy hyb hr HCK
                        go_wp2_with fail
                        go_ret
                        exact ⟨by rw [HR0.out]; rfl, hg0⟩
                      · have hyb : (y.l == two.l) = false := beq_ids hy
                        have q4 : ∀ w, (binOp .neq 34 (.agg (y.l.map bv).toArray) (.agg (two.l.map bv).toArray)).run Try.prog w = .ok (.bool true) w := fun w => (run_neq_id (w := w) idEq y two).trans (by rw [hyb]; rfl)
                        have hr : res = 60 := by rw [HCK.out, if_neg (fun h => hy (Prod.ext_iff.1 h).2)]
                        have HR0 := Go.Lib.hid hr
                        clear hx hxb hy hyb hr HCK
                        go_wp2_with fail
                        go_ret
                        exact ⟨by rw [HR0.out]; rfl, hg0⟩
                    · have hxb : (x.l == one.l) = false := beq_ids hx
                      have q2 : ∀ w, (binOp .neq 34 (.agg (x.l.map bv).toArray) (.agg (one.l.map bv).toArray)).run Try.prog w = .ok (.bool true) w := fun w => (run_neq_id (w := w) idEq x one).trans (by rw [hxb]; rfl)
                      have hr : res = 60 := by rw [HCK.out, if_neg (fun h => hx (Prod.ext_iff.1 h).1)]
                      have HR0 := Go.Lib.hid hr
                      clear hx hxb hr HCK
                      go_wp2_with fail
                      go_ret
                      exact ⟨by rw [HR0.out]; rfl, hg0⟩
                  · have hq0 : ((la : Int) != 0) = true := by simp; omega
                    have hr : res = 60 := by
                      rw [hck, if_neg]
                      show ¬ (if la = 0 then some (x, y) else none) = some (one, two)
                      rw [if_neg hla]; simp
                    have HR0 := Go.Lib.hid hr
                    clear hck hcl HCL hla hr
                    go_wp2_with fail
                    go_ret
                    exact ⟨by rw [HR0.out]; rfl, hg0⟩
            · have hd5 : decide ((0 : Int) < (no0 : Int)) = true := decide_eq_true (by omega)
              have hres2 := HRS.out
              rw [if_neg (show ¬ no0 = 0 by omega)] at hres2
              have hd5' : decide (0 < no0) = true := decide_eq_true (by omega)
              rcases Nat.eq_zero_or_pos k with hk0 | hk0
              · have hpn : path = [] := List.eq_nil_of_length_eq_zero (by rw [← HK.out]; exact hk0)
                have hr : res = 60 := by rw [hres2, hpn]; rfl
                have HR := Go.Lib.hid hr
                subst hk0
                clear hr hres2 hpn HRS HCK
                go_wp2_with (first
                  | ((with_reducible refine wpList_store_bk (x := .tmp 15) (t := 34) qb 34 old (one.l.map bv) hqb (by kernel_rfl) (by kernel_rfl) (idSize _) hol (idOne _) ?_); intro w6 h6 g6 z6
                     have gw6 := gb_trans_new gw4 g6 hwb))
                go_ret
                exact ⟨by rw [HR.out]; rfl, gw6⟩
              · obtain ⟨nr, rfl⟩ : ∃ nr, k = nr + 1 := ⟨k - 1, by omega⟩
                obtain ⟨p, rest, hpr⟩ : ∃ p rest, path = p :: rest := by
                  cases path with
                  | nil => have := HK.out; simp at this
                  | cons p rest => exact ⟨p, rest, rfl⟩
                rw [hpr] at hres2
                dsimp only at hres2
                have hnr1 : rest.length = nr := by have := HK.out; rw [hpr, List.length_cons] at this; omega
                have HNR := Go.Lib.hid hnr1
                have HRES : Hid (res = if ((climb (up2 nd) no0 la0 (p, p) rest).bind fun r => if r.1 = 0 then some r.2 else none) = some (one, two) then 0 else 60) := Go.Lib.hid hres2
                have hq9 : (((nr : Int) + 1) == 0) = false := by simp; omega
                have hkI2 : (0 : Int) ≤ (nr : Int) ∧ (nr : Int) ≤ 9223372036854775807 := by omega
                have hcells : idCells path = p.l.map bv ++ idCells rest := by rw [hpr]; exact (by rw [← idCells_one, ← idCells_append]; rfl)
                have htl0 : ((idCells path).drop (1 * 32)).take ((nr + 1 - 1) * 32) = idCells rest := by
                  rw [hcells, List.drop_append_of_le_length (by rw [List.length_map, p.h]; omega), List.drop_of_length_le (by rw [List.length_map, p.h]; omega), List.nil_append, List.take_of_length_le (by rw [idCells_length, hnr1]; omega)]
                have htl15 := Go.Lib.hid htl0
                have hkc : nr + 1 ≤ c := hc
                clear hres2 hnr1 htl0 HRS HCK hk0
                go_wp2_with (first
                  | ((with_reducible refine wpList_store_bk (x := .tmp 15) (t := 34) qb 34 old (one.l.map bv) hqb (by kernel_rfl) (by kernel_rfl) (idSize _) hol (idOne _) ?_); intro w6 h6 g6 z6
                     have HQA := Go.Lib.hid (hqa.grown g6 (fun h => by have := Option.some.inj h; omega))
                     have HQB := Go.Lib.hid h6
                     have HQ7 := Go.Lib.hid (h74.grown g6 (fun h => by have := Option.some.inj h; omega))
                     have HQ8 := Go.Lib.hid (h84.grown g6 (fun h => by have := Option.some.inj h; omega))
                     have HQG := Go.Lib.hid (gb_trans_new gw4 g6 hwb)))
                clear h6 g6 z6 h74 h84 gw4 hqa hqb hqbo hol hla hlb hd5 hd5'
                have hrest : Rd (fun b => b < w.heap.size) w6 32 (.slice A (nr + 1) c) (nr + 1) (idCells path) := ri_rd_at HV.out HK.out HQG.out
                obtain ⟨bp, op, cp, hvp, hbpl0, -, -, hcell⟩ := hrest.at (by omega)
                injection hvp with hA _ hcp
                subst hA hcp
                have hrp : w6.rangeAt bp op (p.l.map bv) := by
                  have h := range_id hcell (i := 0) (x := p) (by rw [hpr]; rfl)
                  rwa [Nat.zero_mul, Nat.add_zero] at h
                have HPR := Go.Lib.hid hpr
                have hbpl : bp < w.heap.size := hbpl0
                have hbpS : ¬ (bp = qa ∨ bp = qb) := by omega
                have hrdS : ∀ r, (fun b => b < w.heap.size) r → ¬ (r = qa ∨ r = qb) := fun r hr => by have : r < w.heap.size := hr; omega
                clear hcell hcells hpr
                refine wp_region_specsQ (Ra := cd5Ra qa qb) (R := cd5R qa qb p) (cd5Ra_trans qa qb) (cd5R_Ra qa qb p) 10 [59, 60, 61, 62, 63, 64, 65, 66, 61, 64] (by kernel_rfl) (cd5R_Ra qa qb p 0 _ _ (gb_drew (gb_refl _ none))) (fun i => i == 8 || i == 9) (by kernel_rfl) (fun _ => false) (cd5φ bp op nr c w.heap.size qa qb p rest) (fun _ _ _ h => by cases h) (cd5_st bp op nr c w.heap.size qa qb p rest hwa hwb hab) ?step ?fin
                case step =>
                  intro i_ o_ ho hi_ u w' hg hd
                  rcases (by omega : i_ = 0 ∨ i_ = 1 ∨ i_ = 2 ∨ i_ = 3 ∨ i_ = 4 ∨ i_ = 5 ∨ i_ = 6 ∨ i_ = 7 ∨ i_ = 8 ∨ i_ = 9) with rfl | rfl | rfl | rfl | rfl | rfl | rfl | rfl | rfl | rfl <;> obtain rfl := Option.some.inj ho <;>
                    simp (decide := true) only [fillAct, List.mapIdx_cons, List.mapIdx_nil, Nat.reduceAdd, if_true, if_false, List.getD_cons_zero, List.getD_cons_succ]
                  · clear hd ho
                    go_wp2_with fail
                    exact ⟨rfl, gb_refl _ _, rfl, fun h => by cases h⟩
                  · have h0 : u 59 = .slice (some ⟨bp, op, none⟩) (nr + 1) c := hd 0 (by kernel_rfl)
                    clear hd ho
                    rw [h0]
                    go_wp2_with fail
                    exact ⟨rfl, gb_refl _ _, rfl, fun h => by cases h⟩
                  · have h1 : u 60 = .pointer (some ⟨bp, op, none⟩) := hd 1 (by kernel_rfl)
                    clear hd ho
                    rw [h1]
                    have r1 := (hg.1).range hrp hbpS
                    go_wp2_with ((with_reducible refine wpList_load_range (t := 34) bp op (p.l.map bv) _ r1 (by kernel_rfl) Try.underlying34 rfl (idSize _) ?_))
                    exact ⟨rfl, gb_refl _ _, rfl, fun h => by cases h⟩
                  · clear hd ho
                    go_wp2_with fail
                    exact ⟨rfl, gb_refl _ _, rfl, fun h => by cases h⟩
                  · have h3 : u 62 = .slice (some ⟨bp, op, none⟩) (nr + 1) c := hd 3 (by kernel_rfl)
                    clear hd ho
                    rw [h3]
                    go_wp2_with fail
                    exact ⟨rfl, gb_refl _ _, rfl, fun h => by cases h⟩
                  · have h4 : u 63 = .pointer (some ⟨bp, op, none⟩) := hd 4 (by kernel_rfl)
                    clear hd ho
                    rw [h4]
                    have r1 := (hg.1).range hrp hbpS
                    go_wp2_with ((with_reducible refine wpList_load_range (t := 34) bp op (p.l.map bv) _ r1 (by kernel_rfl) Try.underlying34 rfl (idSize _) ?_))
                    exact ⟨rfl, gb_refl _ _, rfl, fun h => by cases h⟩
                  · clear hd ho
                    go_wp2_with fail
                    exact ⟨rfl, gb_refl _ _, rfl, fun h => by cases h⟩
                  · have h6 : u 65 = .slice (some ⟨bp, op, none⟩) (nr + 1) c := hd 6 (by kernel_rfl)
                    clear hd ho
                    rw [h6]
                    have hl1 := (hg.1).rd hrest hrdS
                    go_wp2_with ((with_reducible refine wpList_cut Try.underlying41 (by kernel_rfl) hl1 (by kernel_rfl) 1 (nr + 1) (.inr ⟨_, rfl, by kernel_rfl⟩) (.inl ⟨rfl, rfl⟩) (Nat.le_add_left _ _) (Nat.le_refl _) ?_); intro v9 hv9)
                    rw [htl15.out] at hv9
                    exact ⟨rfl, gb_refl _ _, (by unfold cd5φ RdI; rw [HNR.out]; exact hv9), fun h => by cases h⟩
                  · have h2 : u 61 = idv p := hd 2 (by kernel_rfl)
                    clear hd ho
                    rw [h2]
                    obtain ⟨lo, hqold⟩ := hg.2 qa (.inl rfl) ⟨one, HQA.out⟩
                    have hol : (lo.l.map bv).length = (p.l.map bv).length := by rw [List.length_map, List.length_map, lo.h, p.h]
                    go_wp2_with ((with_reducible refine wpList_store_bk (t := 34) qa 34 (lo.l.map bv) (p.l.map bv) hqold (by kernel_rfl) (by kernel_rfl) (idSize _) hol (idOne _) ?_); intro w5 h5 g5 z5)
                    exact ⟨rfl, ⟨g5, h5⟩, h5, fun h => by cases h⟩
                  · have h5 : u 64 = idv p := hd 5 (by kernel_rfl)
                    clear hd ho
                    rw [h5]
                    obtain ⟨lo, hqold⟩ := hg.2 qb (.inr rfl) ⟨one, HQB.out⟩
                    have hol : (lo.l.map bv).length = (p.l.map bv).length := by rw [List.length_map, List.length_map, lo.h, p.h]
                    go_wp2_with ((with_reducible refine wpList_store_bk (t := 34) qb 34 (lo.l.map bv) (p.l.map bv) hqold (by kernel_rfl) (by kernel_rfl) (idSize _) hol (idOne _) ?_); intro w5 h5 g5 z5)
                    exact ⟨rfl, ⟨g5, h5⟩, h5, fun h => by cases h⟩
                case fin =>
                  intro u w7 hg hφ _
                  have h8 : Bk w7 qa 34 (p.l.map bv) := hφ 8 (by omega)
                  have h9 : Bk w7 qb 34 (p.l.map bv) := hφ 9 (by omega)
                  have h66 : RdI (fun b => b < w.heap.size) w7 (u 66) rest := hφ 7 (by omega)
                  simp (decide := true) only [fillAct, List.mapIdx_cons, List.mapIdx_nil, Nat.reduceAdd, if_true, if_false, List.drop_succ_cons, List.drop_zero]
                  have hgw7 : w.grownBy w7 none := ((Ch.of (S := fun _ => False) HQG.out (fun _ h => by cases h)).trans hg.1 (fun r h => .inr (by rcases h with h | h <;> omega))).toGb (fun _ h => h.elim)
                  have h66w : RdI (fun b => b < w.heap.size) w (u 66) rest := Rd.back h66 hgw7 (fun _ h => h)
                  obtain ⟨Ar, cr, e66, hnr⟩ := Rd.form h66w
                  rw [HNR.out] at e66 hnr
                  rw [e66]
                  rw [e66] at h66w
                  have HRR := Go.Lib.hid h66w
                  have hq77 := HQ7.out
                  have hq87 := HQ8.out
                  have HQ7' := Go.Lib.hid ((hg.1).bk hq77 (by rintro (h | h) <;> omega))
                  have HQ8' := Go.Lib.hid ((hg.1).bk hq87 (by rintro (h | h) <;> omega))
                  obtain ⟨s, hs1⟩ : ∃ s, s = p := ⟨_, rfl⟩
                  have HQA' := Go.Lib.hid h8
                  have HQB' := Go.Lib.hid h9
                  rw [← hs1] at HRES HQA' HQB'
                  have HQG' := Go.Lib.hid hgw7
                  clear hφ h66 hs1 HQA HQB HQ7 HQ8 HQG hg hrest hrp h8 h9 hq77 hq87 e66 h66w hgw7
                  have HQA := HQA'
                  have HQB := HQB'
                  have HQ7 := HQ7'
                  have HQ8 := HQ8'
                  have HQG := HQG'
                  clear HQA' HQB' HQ7' HQ8' HQG'
                  go_wp2_with fail
                  go_loopw [12, 13, 69] (fun vn vl vj wr => ∃ (no la j : Nat) (x y : Sc.Id), vn = .int .i64 (no : Int) ∧ vl = .int .i64 (la : Int) ∧ vj = .int .i64 (j : Int) ∧ j ≤ nr ∧ no ≤ la ∧ la ≤ l0 ∧
                      Hid (climb (up2 nd) no0 la0 (s, s) rest = climb (up2 nd) no la (x, y) (rest.drop j)) ∧ Hid (Bk wr qa 34 (x.l.map bv)) ∧ Hid (Bk wr qb 34 (y.l.map bv)) ∧ Hid (Bk wr p7 34 (one.l.map bv)) ∧ Hid (Bk wr p8 34 (two.l.map bv)) ∧ Hid (w.grownBy wr none))
                    (fun _ _ vj _ => nr - (intOf vj).toNat)
                  case atStart => exact ⟨no0, la0, 0, s, s, rfl, rfl, rfl, Nat.zero_le _, hnl0, hll0, Go.Lib.hid rfl, HQA, HQB, HQ7, HQ8, HQG⟩
                  case round =>
                    clear HQA HQB HQ7 HQ8 HQG
                    obtain ⟨no, la, j, x, y, rfl, rfl, rfl, hjm, hnl, hll, HCL, HA, HB, H7, H8, HG⟩ := hrel
                    have hnI : (0 : Int) ≤ (no : Int) ∧ (no : Int) ≤ (la : Int) ∧ (la : Int) < 1099511627776 := by omega
                    have hjI : (0 : Int) ≤ (j : Int) ∧ (j : Int) ≤ (nr : Int) := by omega
                    have ha0 := HA.out
                    have hb0 := HB.out
                    have h70 := H7.out
                    have h80 := H8.out
                    have hg0 := HG.out
                    by_cases hlt : j < nr
                    · have hd : decide ((j : Int) < (nr : Int)) = true := decide_eq_true (by omega)
                      obtain ⟨p, hp⟩ : ∃ p, rest[j]? = some p := ⟨_, List.getElem?_eq_getElem (by rw [HNR.out]; exact hlt)⟩
                      obtain ⟨bp, op, cp, hvp, -, hnc, -, hcell⟩ := (show Rd (fun b => b < w.heap.size) wr 32 (.slice Ar nr cr) nr (idCells rest) from by have h := Rd.grown HRR.out hg0 (by simp); unfold RdI at h; rw [HNR.out] at h; exact h).at (by omega)
                      injection hvp with hA _ hcp
                      subst hA hcp
                      have hrt := range_id hcell hp
                      have hdrop := drop_at hp
                      have hcl := HCL.out
                      rw [hdrop, climb_cons] at hcl
                      have HCL2 := Go.Lib.hid hcl
                      have bz := Bk.new wr 34 idZ
                      have hsa : qa < wr.heap.size := ha0.lt
                      have hsb : qb < wr.heap.size := hb0.lt
                      have hs7 : p7 < wr.heap.size := h70.lt
                      have hs8 : p8 < wr.heap.size := h80.lt
                      clear hcell hdrop hcl hp
                      by_cases hla : la = 0
                      · have hq0 : ((la : Int) == 0) = true := by rw [hla]; rfl
                        have hr60 : res = 60 := by rw [HRES.out, HCL2.out, if_pos hla]; rfl
                        have HR60 := Go.Lib.hid hr60
                        clear hr60 hla
                        go_wp2_with (first
                          | ((with_reducible refine wpList_load_range (x := .tmp 71) (t := 34) bp (op + j * 32) (p.l.map bv) _ hrt (by kernel_rfl) Try.underlying34 rfl (idSize _) ?_))
                            | ((with_reducible refine wpList_alloc_row (E := 34) idZ infoId ?_))
                            | ((with_reducible refine wpList_store_bk (x := .tmp 17) (t := 34) wr.heap.size 34 idZ (p.l.map bv) bz (by kernel_rfl) (by kernel_rfl) (idSize _) (idLen _) (idOne _) ?_); intro w3 h3 g3 z3
                               have ha3 := (ha0.alloc (.cells idZ.toArray 34)).grown g3 (fun h => by have := Option.some.inj h; omega)
                               have hb3 := (hb0.alloc (.cells idZ.toArray 34)).grown g3 (fun h => by have := Option.some.inj h; omega)
                               have h73 := (h70.alloc (.cells idZ.toArray 34)).grown g3 (fun h => by have := Option.some.inj h; omega)
                               have h83 := (h80.alloc (.cells idZ.toArray 34)).grown g3 (fun h => by have := Option.some.inj h; omega)
                               have gw3 := gb_trans_new (gb_alloc hg0 (.cells idZ.toArray 34)) g3 hg0.size))
                        go_ret
                        exact ⟨by rw [HR60.out]; rfl, gw3⟩
                      · have hq0 : ((la : Int) == 0) = false := by simp; omega
                        have hcl := HCL2.out
                        rw [if_neg hla] at hcl
                        have HSAME : Hid (∀ z : Nat, ((z : Int) / 2) = ((z / 2 : Nat) : Int)) := Go.Lib.hid (fun z => by omega)
                        by_cases ho : no % 2 = 1 ∨ no = la
                        · rw [if_pos ho] at hcl
                          have hst1 := strip_le1 no la hnl
                          have hst2 := strip_le no la
                          have HCL3 := Go.Lib.hid hcl
                          clear hcl HCL2 HCL
                          rcases (by omega : no % 2 = 1 ∨ (no % 2 = 0 ∧ no = la)) with hod | ⟨hev, heq⟩
                          all_goals
                            first
                              | (have hand : bits .and .i64 (no : Int) 1 = 1 := and_one_odd no hod (by omega))
                              | (have hand : bits .and .i64 (no : Int) 1 = 0 := and_one_even no hev (by omega); have hq1 : ((no : Int) == (la : Int)) = true := (by rw [heq]; exact beq_self_eq_true _); clear heq)
                            go_upto_region 22 with (first
                              | ((with_reducible refine wpList_load_range (x := .tmp 71) (t := 34) bp (op + j * 32) (p.l.map bv) _ hrt (by kernel_rfl) Try.underlying34 rfl (idSize _) ?_))
                                | ((with_reducible refine wpList_alloc_row (E := 34) idZ infoId ?_))
                                | ((with_reducible refine wpList_store_bk (x := .tmp 17) (t := 34) wr.heap.size 34 idZ (p.l.map bv) bz (by kernel_rfl) (by kernel_rfl) (idSize _) (idLen _) (idOne _) ?_); intro w3 h3 g3 z3
                                   have ha3 := (ha0.alloc (.cells idZ.toArray 34)).grown g3 (fun h => by have := Option.some.inj h; omega)
                                   have hb3 := (hb0.alloc (.cells idZ.toArray 34)).grown g3 (fun h => by have := Option.some.inj h; omega)
                                   have h73 := (h70.alloc (.cells idZ.toArray 34)).grown g3 (fun h => by have := Option.some.inj h; omega)
                                   have h83 := (h80.alloc (.cells idZ.toArray 34)).grown g3 (fun h => by have := Option.some.inj h; omega)
                                   have gw3 := gb_trans_new (gb_alloc hg0 (.cells idZ.toArray 34)) g3 hg0.size))
                            obtain ⟨qp, hqp⟩ : ∃ qp, qp = wr.heap.size := ⟨_, rfl⟩
                            have hbp : Bk w3 qp 34 (p.l.map bv) := by rw [hqp]; exact h3
                            have hba := ha3
                            have hbb := hb3
                            rw [← hqp]
                            have hqpa : qp ≠ qa := by omega
                            have hqpb : qp ≠ qb := by omega
                            clear h3 g3 z3 bz hand hqp
                            refine wp_region_specsP (R := Gr) (fun _ _ _ h k => gb_trans h k) 6 [83, 84, 85, 86, 87, 88] (by kernel_rfl) (gb_drew (gb_refl _ none)) (by kernel_rfl) (fun _ => false) (cd2φ p x y) (fun _ _ _ h => by cases h) (cd2φ_gr p x y) ?step ?fin
                            case step =>
                              intro i_ o_ ho hi_ u w' hg hd
                              rcases (by omega : i_ = 0 ∨ i_ = 1 ∨ i_ = 2 ∨ i_ = 3 ∨ i_ = 4 ∨ i_ = 5) with rfl | rfl | rfl | rfl | rfl | rfl <;> obtain rfl := Option.some.inj ho <;>
                                simp (decide := true) only [fillAct, List.mapIdx_cons, List.mapIdx_nil, Nat.reduceAdd, if_true, if_false, List.getD_cons_zero, List.getD_cons_succ]
                              · clear hd ho
                                have b1 := hbp.grown hg (by simp)
                                go_wp2_with ((with_reducible refine wpList_load_bk (t := 34) qp _ (p.l.map bv) _ b1 (by kernel_rfl) Try.underlying34 rfl (idSize _) ?_))
                                exact ⟨rfl, gb_refl _ _, rfl, fun h => by cases h⟩
                              · clear hd ho
                                have b1 := hba.grown hg (by simp)
                                go_wp2_with ((with_reducible refine wpList_load_bk (t := 34) qa _ (x.l.map bv) _ b1 (by kernel_rfl) Try.underlying34 rfl (idSize _) ?_))
                                exact ⟨rfl, gb_refl _ _, rfl, fun h => by cases h⟩
                              · have h0 : u 83 = idv p := hd 0 (by kernel_rfl)
                                have h1 : u 84 = idv x := hd 1 (by kernel_rfl)
                                clear hd ho
                                rw [h0, h1]
                                go_wp2_with (go_at_call 55; ((with_reducible refine (node_any p x _).mono ?_); rintro e w3 ⟨rfl, g3⟩))
                                exact ⟨rfl, g3, rfl, fun h => by cases h⟩
                              · clear hd ho
                                have b1 := hbp.grown hg (by simp)
                                go_wp2_with ((with_reducible refine wpList_load_bk (t := 34) qp _ (p.l.map bv) _ b1 (by kernel_rfl) Try.underlying34 rfl (idSize _) ?_))
                                exact ⟨rfl, gb_refl _ _, rfl, fun h => by cases h⟩
                              · clear hd ho
                                have b1 := hbb.grown hg (by simp)
                                go_wp2_with ((with_reducible refine wpList_load_bk (t := 34) qb _ (y.l.map bv) _ b1 (by kernel_rfl) Try.underlying34 rfl (idSize _) ?_))
                                exact ⟨rfl, gb_refl _ _, rfl, fun h => by cases h⟩
                              · have h3 : u 86 = idv p := hd 3 (by kernel_rfl)
                                have h4 : u 87 = idv y := hd 4 (by kernel_rfl)
                                clear hd ho
                                rw [h3, h4]
                                go_wp2_with (go_at_call 55; ((with_reducible refine (node_any p y _).mono ?_); rintro e w3 ⟨rfl, g3⟩))
                                exact ⟨rfl, g3, rfl, fun h => by cases h⟩
                            case fin =>
                              intro u w4 hg hφ _
                              have h2 : u 85 = .agg ((nd p x).l.map bv).toArray := hφ 2 (by omega)
                              have h5 : u 88 = .agg ((nd p y).l.map bv).toArray := hφ 5 (by omega)
                              simp (decide := true) only [fillAct, List.mapIdx_cons, List.mapIdx_nil, Nat.reduceAdd, if_true, if_false, List.drop_succ_cons, List.drop_zero]
                              rw [h2, h5]
                              have hba4 := hba.grown hg (by simp)
                              have hbb4 := hbb.grown hg (by simp)
                              have h74 := h73.grown hg (by simp)
                              have h84 := h83.grown hg (by simp)
                              have gw4 := gb_trans gw3 hg
                              have hlx : (x.l.map bv).length = ((nd p x).l.map bv).length := by rw [List.length_map, List.length_map, x.h, (nd p x).h]
                              have hly : (y.l.map bv).length = ((nd p y).l.map bv).length := by rw [List.length_map, List.length_map, y.h, (nd p y).h]
                              clear hφ hbp hba hbb h73 h83 gw3 hg ha0 hb0 h70 h80 hg0 HA HB H7 H8 HG ha3 hb3 hrt
                              go_wp2_with (first
                                | ((with_reducible refine wpList_store_bk (x := .tmp 14) (t := 34) qa 34 (x.l.map bv) ((nd p x).l.map bv) hba4 (by kernel_rfl) (by kernel_rfl) (idSize _) hlx (idOne _) ?_); intro w5 h5a g5 z5
                                   have hbb5 := hbb4.grown g5 (fun h => by have := Option.some.inj h; omega)
                                   have h75 := h74.grown g5 (fun h => by have := Option.some.inj h; omega)
                                   have h85 := h84.grown g5 (fun h => by have := Option.some.inj h; omega)
                                   have gw5 := gb_trans_new gw4 g5 (by omega))
                                | ((with_reducible refine wpList_store_bk (x := .tmp 15) (t := 34) qb 34 (y.l.map bv) ((nd p y).l.map bv) hbb5 (by kernel_rfl) (by kernel_rfl) (idSize _) hly (idOne _) ?_); intro w6 h6b g6 z6
                                   have HA5 := Go.Lib.hid (h5a.grown g6 (fun h => by have := Option.some.inj h; omega))
                                   have HB5 := Go.Lib.hid h6b
                                   have H75 := Go.Lib.hid (h75.grown g6 (fun h => by have := Option.some.inj h; omega))
                                   have H85 := Go.Lib.hid (h85.grown g6 (fun h => by have := Option.some.inj h; omega))
                                   have HG5 := Go.Lib.hid (gb_trans_new gw5 g6 (by omega))
                                   clear h5a hbb5 h75 h85 gw5 g5 g6 z5 z6 h6b hba4 hbb4 h74 h84 gw4))
                              try go_frame
                              go_loop [12, 13] (fun vn vl => ∃ n2 l2 : Nat, vn = .int .i64 (n2 : Int) ∧ vl = .int .i64 (l2 : Int) ∧ Hid (strip no la = strip n2 l2) ∧ n2 ≤ la ∧ l2 ≤ la) (fun vn _ => (intOf vn).toNat)
                              case atStart => exact ⟨no, la, rfl, rfl, Go.Lib.hid rfl, hnl, Nat.le_refl _⟩
                              case round =>
                                obtain ⟨n2, l2, rfl, rfl, HS, hn2, hl2⟩ := hrel
                                have hn2I : (0 : Int) ≤ (n2 : Int) ∧ (n2 : Int) ≤ 1099511627776 := by omega
                                have hl2I : (0 : Int) ≤ (l2 : Int) ∧ (l2 : Int) ≤ 1099511627776 := by omega
                                by_cases hgo : n2 % 2 = 0 ∧ n2 ≠ 0
                                · have hand : bits .and .i64 (n2 : Int) 1 = 0 := and_one_even n2 hgo.1 (by omega)
                                  have hq2 : ((n2 : Int) != 0) = true := by simp; omega
                                  have HGO := Go.Lib.hid hgo
                                  clear hgo
                                  go_wp2_with fail
                                  exact ⟨⟨n2 / 2, l2 / 2, congrArg (Value.int .i64) (HSAME.out n2), congrArg (Value.int .i64) (HSAME.out l2), Go.Lib.hid (by rw [HS.out, strip_go HGO.out.1 HGO.out.2]), by omega, by omega⟩, by have := HGO.out; simp only [intOf]; omega⟩
                                · have hss : strip no la = (n2, l2) := by rw [HS.out, strip_stop (by omega)]
                                  rw [hss] at hst1 hst2
                                  have hfin : climb (up2 nd) no0 la0 (s, s) rest = climb (up2 nd) (n2 / 2) (l2 / 2) (nd p x, nd p y) (rest.drop (j + 1)) := by rw [HCL3.out, hss]; rfl
                                  have HF := Go.Lib.hid hfin
                                  clear hss hfin HS
                                  rcases (by omega : n2 % 2 = 1 ∨ n2 = 0) with hod2 | hz2
                                  · have hand : bits .and .i64 (n2 : Int) 1 = 1 := and_one_odd n2 hod2 (by omega)
                                    go_wp2_with fail
                                    go_roundw
                                    case rel => exact ⟨n2 / 2, l2 / 2, j + 1, nd p x, nd p y, congrArg (Value.int .i64) (HSAME.out n2), congrArg (Value.int .i64) (HSAME.out l2), by push_cast; rfl, by omega, by dsimp only at hst1; omega, by omega, HF, HA5, HB5, H75, H85, HG5⟩
                                    case measure => simp only [intOf]; omega
                                  · subst hz2
                                    have hand : bits .and .i64 0 1 = 0 := by decide
                                    go_wp2_with fail
                                    go_roundw
                                    case rel => exact ⟨0, l2 / 2, j + 1, nd p x, nd p y, rfl, congrArg (Value.int .i64) (HSAME.out l2), by push_cast; rfl, by omega, by omega, by omega, HF, HA5, HB5, H75, H85, HG5⟩
                                    case measure => simp only [intOf]; omega
                        · rw [if_neg ho] at hcl
                          have HCL3 := Go.Lib.hid hcl
                          clear hcl HCL2 HCL
                          have hnode : ∀ w : World, Calls Try.prog 55 #[.agg (y.l.map bv).toArray, .agg (p.l.map bv).toArray] w fun e w' => e = .returned (.agg ((nd y p).l.map bv).toArray) ∧ w.grownBy w' none := fun w => node_any y p w
                          have hlen : (y.l.map bv).length = ((nd y p).l.map bv).length := by rw [List.length_map, List.length_map, y.h, (nd y p).h]
                          have hand : bits .and .i64 (no : Int) 1 = 0 := and_one_even no (by omega) (by omega)
                          have hq1 : ((no : Int) == (la : Int)) = false := by simp; omega
                          go_wp2_with (first
                            | ((with_reducible refine wpList_load_range (x := .tmp 71) (t := 34) bp (op + j * 32) (p.l.map bv) _ hrt (by kernel_rfl) Try.underlying34 rfl (idSize _) ?_))
                              | ((with_reducible refine wpList_alloc_row (E := 34) idZ infoId ?_))
                              | ((with_reducible refine wpList_store_bk (x := .tmp 17) (t := 34) wr.heap.size 34 idZ (p.l.map bv) bz (by kernel_rfl) (by kernel_rfl) (idSize _) (idLen _) (idOne _) ?_); intro w3 h3 g3 z3
                                 have ha3 := (ha0.alloc (.cells idZ.toArray 34)).grown g3 (fun h => by have := Option.some.inj h; omega)
                                 have hb3 := (hb0.alloc (.cells idZ.toArray 34)).grown g3 (fun h => by have := Option.some.inj h; omega)
                                 have h73 := (h70.alloc (.cells idZ.toArray 34)).grown g3 (fun h => by have := Option.some.inj h; omega)
                                 have h83 := (h80.alloc (.cells idZ.toArray 34)).grown g3 (fun h => by have := Option.some.inj h; omega)
                                 have gw3 := gb_trans_new (gb_alloc hg0 (.cells idZ.toArray 34)) g3 hg0.size)
                            | ((with_reducible refine wpList_load_bk (x := .tmp 17) (t := 34) wr.heap.size _ (p.l.map bv) _ h3 (by kernel_rfl) Try.underlying34 rfl (idSize _) ?_))
                            | ((with_reducible refine wpList_load_bk (x := .tmp 15) (t := 34) qb _ (y.l.map bv) _ hb3 (by kernel_rfl) Try.underlying34 rfl (idSize _) ?_))
                            | (go_at_call 55; ((with_reducible refine (hnode _).mono ?_); rintro e w4 ⟨rfl, g4⟩; have hb4 := hb3.grown g4 (by simp)))
                            | ((with_reducible refine wpList_store_bk (x := .tmp 15) (t := 34) qb 34 (y.l.map bv) ((nd y p).l.map bv) hb4 (by kernel_rfl) (by kernel_rfl) (idSize _) hlen (idOne _) ?_); intro w5 h5 g5 z5))
                          have ha5 := (ha3.grown g4 (by simp)).grown g5 (fun h => by have := Option.some.inj h; omega)
                          have h75 := (h73.grown g4 (by simp)).grown g5 (fun h => by have := Option.some.inj h; omega)
                          have h85 := (h83.grown g4 (by simp)).grown g5 (fun h => by have := Option.some.inj h; omega)
                          have gw5 := gb_trans_new (gb_trans gw3 g4) g5 (by omega)
                          go_roundw
                          case rel => exact ⟨no / 2, la / 2, j + 1, x, nd y p, congrArg (Value.int .i64) (HSAME.out no), congrArg (Value.int .i64) (HSAME.out la), by push_cast; rfl, by omega, by omega, by omega, HCL3, Go.Lib.hid ha5, Go.Lib.hid h5, Go.Lib.hid h75, Go.Lib.hid h85, Go.Lib.hid gw5⟩
                          case measure => simp only [intOf]; omega
                    · obtain rfl : j = nr := by omega
                      have hd : decide ((j : Int) < (j : Int)) = false := decide_eq_false (by omega)
                      have hcl := HCL.out
                      rw [List.drop_of_length_le (by rw [HNR.out]; exact Nat.le_refl _)] at hcl
                      have hck := HRES.out
                      rw [hcl] at hck
                      by_cases hla : la = 0
                      · have hq0 : ((la : Int) != 0) = false := by rw [hla]; rfl
                        have hck2 : res = if (x, y) = (one, two) then 0 else 60 := by
                          rw [hck, hla]
                          by_cases hx : (x, y) = (one, two)
                          · rw [if_pos (by rw [← hx]; rfl), if_pos hx]
                          · rw [if_neg (by intro h; exact hx (Option.some.inj h)), if_neg hx]
                        have HCK := Go.Lib.hid hck2
                        clear hck hck2 hcl HCL hla
                        have q1 : ∀ w, (eqGuard .neq 34 (.tmp 111) (.tmp 112) (.agg (x.l.map bv).toArray) (.agg (one.l.map bv).toArray)).run Try.prog w = .ok () w := fun _ => run_eqGuard_id idEq x one
                        have q3 : ∀ w, (eqGuard .neq 34 (.tmp 116) (.tmp 117) (.agg (y.l.map bv).toArray) (.agg (two.l.map bv).toArray)).run Try.prog w = .ok () w := fun _ => run_eqGuard_id idEq y two
                        go_upto_region 28 with (fail)
                        iterate 10 go_step
                        refine wpList_guard (by rfl) ?_
                        with_reducible refine wpList_load_bk (x := .tmp 14) (t := 34) qa _ (x.l.map bv) _ ha0 (by kernel_rfl) Try.underlying34 rfl (idSize _) ?_
                        try go_frame
                        refine wpList_guard (by rfl) ?_
                        with_reducible refine wpList_load_bk (x := .tmp 7) (t := 34) p7 _ (one.l.map bv) _ h70 (by kernel_rfl) Try.underlying34 rfl (idSize _) ?_
                        try go_frame
                        by_cases hx : x = one
                        · have hxb : (x.l == one.l) = true := by rw [hx]; exact beq_self_eq_true _
                          have q2 : ∀ w, (binOp .neq 34 (.agg (x.l.map bv).toArray) (.agg (one.l.map bv).toArray)).run Try.prog w = .ok (.bool false) w := fun w => (run_neq_id (w := w) idEq x one).trans (by rw [hxb]; rfl)
                          refine wpList_guard (by rfl) ?_
                          with_reducible refine wpList_neq_id (x := .tmp 111) (y := .tmp 112) idEq x one (by kernel_rfl) (by kernel_rfl) ?_
                          rw [hxb]
                          try go_frame
                          iterate 6 go_step
                          refine wpList_guard (by rfl) ?_
                          with_reducible refine wpList_load_bk (x := .tmp 15) (t := 34) qb _ (y.l.map bv) _ hb0 (by kernel_rfl) Try.underlying34 rfl (idSize _) ?_
                          try go_frame
                          refine wpList_guard (by rfl) ?_
                          with_reducible refine wpList_load_bk (x := .tmp 8) (t := 34) p8 _ (two.l.map bv) _ h80 (by kernel_rfl) Try.underlying34 rfl (idSize _) ?_
                          try go_frame
                          by_cases hy : y = two
                          · have hyb : (y.l == two.l) = true := by rw [hy]; exact beq_self_eq_true _
                            have q4 : ∀ w, (binOp .neq 34 (.agg (y.l.map bv).toArray) (.agg (two.l.map bv).toArray)).run Try.prog w = .ok (.bool false) w := fun w => (run_neq_id (w := w) idEq y two).trans (by rw [hyb]; rfl)
                            have hr : res = 0 := by rw [HCK.out, if_pos (by rw [hx, hy])]
                            have HR0 := Go.Lib.hid hr
                            clear hx hxb hy hyb hr HCK
                            go_wp2_with fail
                            go_ret
                            exact ⟨by rw [HR0.out]; rfl, hg0⟩
                          · have hyb : (y.l == two.l) = false := beq_ids hy
                            have q4 : ∀ w, (binOp .neq 34 (.agg (y.l.map bv).toArray) (.agg (two.l.map bv).toArray)).run Try.prog w = .ok (.bool true) w := fun w => (run_neq_id (w := w) idEq y two).trans (by rw [hyb]; rfl)
                            have hr : res = 60 := by rw [HCK.out, if_neg (fun h => hy (Prod.ext_iff.1 h).2)]
                            have HR0 := Go.Lib.hid hr
                            clear hx hxb hy hyb hr HCK
                            go_wp2_with fail
                            go_ret
                            exact ⟨by rw [HR0.out]; rfl, hg0⟩
                        · have hxb : (x.l == one.l) = false := beq_ids hx
                          have q2 : ∀ w, (binOp .neq 34 (.agg (x.l.map bv).toArray) (.agg (one.l.map bv).toArray)).run Try.prog w = .ok (.bool true) w := fun w => (run_neq_id (w := w) idEq x one).trans (by rw [hxb]; rfl)
                          have hr : res = 60 := by rw [HCK.out, if_neg (fun h => hx (Prod.ext_iff.1 h).1)]
                          have HR0 := Go.Lib.hid hr
                          clear hx hxb hr HCK
                          go_wp2_with fail
                          go_ret
                          exact ⟨by rw [HR0.out]; rfl, hg0⟩
                      · have hq0 : ((la : Int) != 0) = true := by simp; omega
                        have hr : res = 60 := by
                          rw [hck, if_neg]
                          show ¬ (if la = 0 then some (x, y) else none) = some (one, two)
                          rw [if_neg hla]; simp
                        have HR0 := Go.Lib.hid hr
                        clear hck hcl HCL hla hr
                        go_wp2_with fail
                        go_ret
                        exact ⟨by rw [HR0.out]; rfl, hg0⟩
end Go.Proofs.Ytajgklomcapboaa
