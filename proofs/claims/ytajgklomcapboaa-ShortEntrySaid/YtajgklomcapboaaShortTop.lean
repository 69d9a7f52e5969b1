import Derived.Test.YtajgklomcapboaaShortFns
/- short: top, Root. -/
namespace Sc
open Go Go.RowKit
theorem Ow.wk {B B' k n : Nat} {w : World} {v : Value} {cs : List Value} (h : Ow B w k v n cs) (hB : B' ≤ B) : Ow B' w k v n cs := by
  obtain ⟨h1, A, c, e, h2, h3, h4, h5⟩ := h
  exact ⟨h1, A, c, e, h2, h3, h4, fun ad had => by obtain ⟨b, o, e1, h6, h7⟩ := h5 ad had; exact ⟨b, o, e1, Nat.le_trans hB h6, h7⟩⟩
theorem Rd.length {NB : Nat → Prop} {w : World} {v : Value} {k n : Nat} {cs : List Value} (h : Rd NB w k v n cs) : cs.length = n * k := by
  obtain ⟨A, c, e, h1, h2, h3, h4⟩ := h
  exact h3
theorem rdbb_of_cut {NB : Nat → Prop} {w : World} {v : Value} {n k : Nat} {ls : List (List UInt8)} {vs : List Value} (hel : ∀ (j : Nat) l, ls[j]? = some l → ∃ u, vs[j]? = some u ∧ RdB NB w u l)
    (h : Rd NB w 1 v (n - k) ((vs.drop (k * 1)).take ((n - k) * 1))) (hn : ls.length = n) (hvl : vs.length = n) : RdBB NB w v (ls.drop k) := by
  refine ⟨vs.drop k, ?_, fun j l hj => ?_⟩
  · rw [List.length_drop, hn]
    rw [Nat.mul_one, Nat.mul_one, List.take_of_length_le (by rw [List.length_drop, hvl]; exact Nat.le_refl _)] at h
    exact h
  · rw [List.getElem?_drop] at hj ⊢
    exact hel _ _ hj
end Sc
namespace Go.Proofs.Ytajgklomcapboaa
open Go.RowKit Go.Shelf Sc
def stopφ (n k c9 m : Nat) (A : Option Addr) (c : Int) (ld : List (List UInt8)) (R1 R2 : Sc.Id) (B : Nat) (i : Nat) (v : Value) (w : World) : Prop := match i with
  | 0 => v = .int .i64 c
  | 1 => v = .slice A n c9
  | 2 => v = .int .i64 (k : Int)
  | 3 => v = .slice A k c9
  | 4 => v = idv R1
  | 5 => v = .int .i64 c
  | 6 => v = .slice A n c9
  | 7 => v = .int .i64 (k : Int)
  | 8 => ∃ A2 c2, v = .slice A2 m c2 ∧ RLL w (.slice A2 m c2) ld
  | 9 => v = idv R2
  | 10 => Ow B w 1 v 65 ((1 :: (R1.l ++ R2.l)).map bv)
  | _ => True
theorem stopφ_gr (n k c9 m : Nat) (A : Option Addr) (c : Int) (ld : List (List UInt8)) (R1 R2 : Sc.Id) (B : Nat) : ∀ i v w w', stopφ n k c9 m A c ld R1 R2 B i v w → Gr w w' → stopφ n k c9 m A c ld R1 R2 B i v w' := by
  intro i v w w' h hg
  match i with
  | 0 => exact h
  | 1 => exact h
  | 2 => exact h
  | 3 => exact h
  | 4 => exact h
  | 5 => exact h
  | 6 => exact h
  | 7 => exact h
  | 8 => exact by obtain ⟨A2, c2, e, h⟩ := h; exact ⟨A2, c2, e, RLL.gr h hg⟩
  | 9 => exact h
  | 10 => exact Ow.grown h hg (fun _ _ => by simp)
  | i + 11 => exact h

abbrev SRoot (c : Int) (n : Nat) : Prop := ∀ (v : Value) (ls : List (List UInt8)) (w : World), ls.length < n → RLL w v ls → (∀ l ∈ ls, l.length ≤ 1000000) →
  Calls Try.prog 24 #[.int .i64 c, v] w fun e w' => e = .returned (idv (rootH (sumC c) ls)) ∧ w.grownBy w' none
set_option maxHeartbeats 4000000 in
theorem stop_of (c : Int) (v : Value) (ls : List (List UInt8)) (w : World) (hI : SRoot c ls.length) (hv : RLL w v ls) (hl : ∀ l ∈ ls, l.length ≤ 1000000) (hn0 : ls.length ≤ 1000000) :
    Calls Try.prog 42 #[.int .i64 c, v] w fun e w' => ∃ v', e = .returned v' ∧ Ow w.heap.size w' 1 v' (topH (sumC c) ls).length ((topH (sumC c) ls).map bv) ∧ w.grownBy w' none := by
  go_enter Try.func42, Try.ntmps42
  have HLS := Go.Lib.hid hv
  obtain ⟨vs, hrd, hel⟩ := hv
  obtain ⟨A, c9, rfl, hc⟩ := Rd.form hrd
  obtain ⟨n, hn⟩ : ∃ n, n = ls.length := ⟨_, rfl⟩
  have HI := Go.Lib.hid hI
  rw [← hn] at HLS HI hrd hc hn0 ⊢
  clear hI
  rcases (by omega : n = 0 ∨ n = 1 ∨ 2 ≤ n) with h0 | h0 | h0
  · subst h0
    obtain rfl : ls = [] := List.eq_nil_of_length_eq_zero hn.symm
    clear hrd hel hl HI HLS hn0 hn hc
    go_wp2_with fail
    go_ret
    rw [topH_nil]
    exact ⟨_, rfl, Ow.nil _ _ _, gb_refl _ _⟩
  · subst h0
    obtain ⟨x, rfl⟩ : ∃ x, ls = [x] := List.length_eq_one_iff.1 hn.symm
    obtain ⟨u, hu, hub⟩ := hel 0 x rfl
    obtain ⟨b, o, c', he, hb, hnc, hcm, hcell⟩ := hrd.at (by omega)
    injection he with hA _ hcc
    subst hA hcc
    have ce := hcell 0 u hu
    rw [Nat.add_zero] at ce
    have hxl := hl x (by simp)
    obtain ⟨T, hT⟩ : ∃ T, T = topH (sumC c) [x] := ⟨_, rfl⟩
    have hT2 : T = 0 :: x := by rw [hT, topH_one]
    rw [← hT]
    have HT2 := Go.Lib.hid hT2
    clear hcell hl HI HLS hrd hel hT hT2 hu hn0 hn
    go_wp2_with (go_at_call 60; ((with_reducible refine (sleaf_any u x _ _ hub hxl).mono ?_); rintro e w3 ⟨v3, rfl, ho3, g3⟩; obtain ⟨A3, c3, rfl⟩ := ho3.form))
    go_ret
    rw [HT2.out]
    exact ⟨_, rfl, ho3, g3⟩
  · obtain ⟨k, hk⟩ : ∃ k, k = half n := ⟨_, rfl⟩
    have hk1 : 1 ≤ k := by rw [hk]; exact half_pos n
    have hk2 : k < n := by rw [hk]; exact half_lt h0
    have hkn : k ≤ n := by omega
    obtain ⟨lk, hlk⟩ : ∃ lk, ls.take k = lk := ⟨_, rfl⟩
    obtain ⟨ld, hld⟩ : ∃ ld, ls.drop k = ld := ⟨_, rfl⟩
    obtain ⟨R1, hR1⟩ : ∃ R1, rootH (sumC c) lk = R1 := ⟨_, rfl⟩
    obtain ⟨R2, hR2⟩ : ∃ R2, rootH (sumC c) ld = R2 := ⟨_, rfl⟩
    obtain ⟨m, hm⟩ : ∃ m, m = n - k := ⟨_, rfl⟩
    have hlkl : lk.length = k := by rw [← hlk, List.length_take]; omega
    have hldl : ld.length = m := by rw [← hld, List.length_drop, hm, hn]
    have HKL : Hid (lk.length < n ∧ (∀ l ∈ lk, l.length ≤ 1000000) ∧ ld.length < n ∧ ∀ l ∈ ld, l.length ≤ 1000000) :=
      Go.Lib.hid ⟨by omega, fun l h => hl l (by rw [← hlk] at h; exact List.mem_of_mem_take h), by omega, fun l h => hl l (by rw [← hld] at h; exact List.mem_of_mem_drop h)⟩
    have HLK : Hid (RLL w (.slice A k c9) lk) := Go.Lib.hid (by
      have h := rdbb_take (A := A) (c := c9) (q := k) (ls := ls) (by have := HLS.out; unfold RLL at this; rw [hn] at this; exact this) (by omega)
      rw [hlk] at h; exact h)
    have HTT : Hid (topH (sumC c) ls = 1 :: (R1.l ++ R2.l)) := Go.Lib.hid (by rw [topH_two _ (by omega), ← hn, ← hk, hlk, hld, hR1, hR2])
    have HLN : Hid (ls.length = n) := Go.Lib.hid hn.symm
    have HLD := Go.Lib.hid hld
    have HDL := Go.Lib.hid hldl
    have HR1 := Go.Lib.hid hR1
    have HR2 := Go.Lib.hid hR2
    have HM := Go.Lib.hid hm
    have hkI : (1 : Int) ≤ (k : Int) ∧ (k : Int) < (n : Int) := by omega
    have hncI : (n : Int) ≤ (c9 : Int) ∧ (n : Int) ≤ 1000000 := by omega
    have hhalf : ∀ w : World, Calls Try.prog 43 #[.int .i64 (n : Int)] w fun e w' => e = .returned (.int .i64 (k : Int)) ∧ w' = w := fun w => by rw [hk]; exact shalf_any n h0 (by omega) w
    clear hrd hel hl hk hlk hld hR1 hR2 hlkl hldl hn hm
    go_upto_region 7 with (go_at_call 43; ((with_reducible refine (hhalf _).mono ?_); rintro e w2 ⟨rfl, rfl⟩))
    refine wp_region_specs 11 [19, 20, 21, 22, 23, 24, 25, 26, 27, 28, 29] (by kernel_rfl) (by kernel_rfl) (stopφ n k c9 m A c ld R1 R2 w2.heap.size) (stopφ_gr n k c9 m A c ld R1 R2 w2.heap.size) ?step ?fin
    case step =>
      intro i_ o_ ho hi_ u w' hg hd
      rcases (by omega : i_ = 0 ∨ i_ = 1 ∨ i_ = 2 ∨ i_ = 3 ∨ i_ = 4 ∨ i_ = 5 ∨ i_ = 6 ∨ i_ = 7 ∨ i_ = 8 ∨ i_ = 9 ∨ i_ = 10) with rfl | rfl | rfl | rfl | rfl | rfl | rfl | rfl | rfl | rfl | rfl <;> obtain rfl := Option.some.inj ho <;>
        simp (decide := true) only [fillAct, List.mapIdx_cons, List.mapIdx_nil, Nat.reduceAdd, if_true, if_false, List.getD_cons_zero, List.getD_cons_succ]
      · clear hd ho
        go_wp2_with fail
        exact ⟨rfl, gb_refl _ _, rfl⟩
      · clear hd ho
        go_wp2_with fail
        exact ⟨rfl, gb_refl _ _, rfl⟩
      · clear hd ho
        go_wp2_with fail
        exact ⟨rfl, gb_refl _ _, rfl⟩
      · have h1 : u 20 = .slice A n c9 := hd 1 (by kernel_rfl)
        have h2 : u 21 = .int .i64 (k : Int) := hd 2 (by kernel_rfl)
        clear hd ho
        rw [h1, h2]
        go_wp2_with fail
        exact ⟨rfl, gb_refl _ _, rfl⟩
      · have h0 : u 19 = .int .i64 c := hd 0 (by kernel_rfl)
        have h3 : u 22 = .slice A k c9 := hd 3 (by kernel_rfl)
        clear hd ho
        rw [h0, h3]
        have hl1 := RLL.gr HLK.out hg
        go_wp2_with (go_at_call 24; ((with_reducible refine (HI.out _ lk _ HKL.out.1 hl1 HKL.out.2.1).mono ?_); rintro e w3 ⟨rfl, g3⟩; rw [HR1.out]))
        exact ⟨rfl, g3, rfl⟩
      · clear hd ho
        go_wp2_with fail
        exact ⟨rfl, gb_refl _ _, rfl⟩
      · clear hd ho
        go_wp2_with fail
        exact ⟨rfl, gb_refl _ _, rfl⟩
      · clear hd ho
        go_wp2_with fail
        exact ⟨rfl, gb_refl _ _, rfl⟩
      · have h6 : u 25 = .slice A n c9 := hd 6 (by kernel_rfl)
        have h7 : u 26 = .int .i64 (k : Int) := hd 7 (by kernel_rfl)
        clear hd ho
        rw [h6, h7]
        obtain ⟨vs, hrd, hel⟩ := RLL.gr HLS.out hg
        have hvl : vs.length = n := by have := Rd.length hrd; rw [HLN.out] at this; omega
        rw [HLN.out] at hrd
        go_wp2_with ((with_reducible refine wpList_cut (x := .tmp 25) Try.underlying22 (by kernel_rfl) hrd (by kernel_rfl) k n (.inr ⟨_, rfl, by kernel_rfl⟩) (.inl ⟨rfl, rfl⟩) hkn (Nat.le_refl _) ?_); intro v9 hv9)
        have h9 : RdBB (fun b => b < w'.heap.size) w' v9 ld := by
          rw [← HLD.out]; exact rdbb_of_cut hel hv9 HLN.out hvl
        have hdl : ld.length = m := HDL.out
        obtain ⟨vs2, hrd2, hel2⟩ := h9
        obtain ⟨A2, c2, rfl, hcc⟩ := Rd.form hrd2
        rw [hdl] at hrd2 ⊢
        exact ⟨rfl, gb_refl _ _, ⟨A2, c2, rfl, vs2, by rw [hdl]; exact hrd2, hel2⟩⟩
      · have h5 : u 24 = .int .i64 c := hd 5 (by kernel_rfl)
        have h8 : ∃ A2 c2, (u 27) = .slice A2 m c2 ∧ RLL w' (.slice A2 m c2) ld := hd 8 (by kernel_rfl)
        clear hd ho
        rw [h5]
        obtain ⟨A2, c2, e8, hl2⟩ := h8
        rw [e8]
        go_wp2_with (go_at_call 24; ((with_reducible refine (HI.out _ ld _ HKL.out.2.2.1 hl2 HKL.out.2.2.2).mono ?_); rintro e w3 ⟨rfl, g3⟩; rw [HR2.out]))
        exact ⟨rfl, g3, rfl⟩
      · have h4 : u 23 = idv R1 := hd 4 (by kernel_rfl)
        have h9 : u 28 = idv R2 := hd 9 (by kernel_rfl)
        clear hd ho
        rw [h4, h9]
        have hgs := hg.size
        go_wp2_with (go_at_call 61; ((with_reducible refine (snode_any R1 R2 _).mono ?_); rintro e w3 ⟨v3, rfl, ho3, g3⟩; obtain ⟨A3, c3, rfl⟩ := ho3.form))
        exact ⟨rfl, g3, Ow.wk ho3 hgs⟩
    case fin =>
      intro u w5 hg hφ
      have h29 : Ow w2.heap.size w5 1 (u 29) 65 ((1 :: (R1.l ++ R2.l)).map bv) := hφ 10 (by omega)
      simp (decide := true) only [fillAct, List.mapIdx_cons, List.mapIdx_nil, Nat.reduceAdd, if_true, if_false, List.drop_succ_cons, List.drop_zero]
      clear hφ
      go_wp2_with fail
      go_ret
      rw [HTT.out, show (1 :: (R1.l ++ R2.l)).length = 65 by rw [List.length_cons, List.length_append, R1.h, R2.h]]
      exact ⟨_, rfl, h29, hg⟩
set_option maxHeartbeats 1000000 in
theorem sroot_of (c : Int) (v : Value) (ls : List (List UInt8)) (w : World) (hI : SRoot c ls.length) (hv : RLL w v ls) (hl : ∀ l ∈ ls, l.length ≤ 1000000) (hn0 : ls.length ≤ 1000000) :
    Calls Try.prog 24 #[.int .i64 c, v] w fun e w' => e = .returned (idv (rootH (sumC c) ls)) ∧ w.grownBy w' none := by
  go_enter Try.func24, Try.ntmps24
  obtain ⟨T, hT⟩ : ∃ T, T = topH (sumC c) ls := ⟨_, rfl⟩
  obtain ⟨X, hX⟩ : ∃ X, X = sumC c T := ⟨_, rfl⟩
  have HX : Hid (rootH (sumC c) ls = X) := Go.Lib.hid (by rw [hX, hT]; rfl)
  have hTl : T.length ≤ 1000001 := by rw [hT]; exact topH_len c hl
  obtain ⟨W1, hW1⟩ : ∃ W1, W1 = w.alloc (.cells idZ.toArray 34) := ⟨_, rfl⟩
  have b1 : Bk W1 w.heap.size 34 idZ := by rw [hW1]; exact Bk.new w _ _
  have g1 : w.grownBy W1 none := by rw [hW1]; exact gb_alloc (gb_refl w none) _
  have hv1 := RLL.gr hv g1
  have htop : Calls Try.prog 42 #[.int .i64 c, v] W1 fun e w' => ∃ v', e = .returned v' ∧ Ow W1.heap.size w' 1 v' T.length (T.map bv) ∧ W1.grownBy w' none := by
    rw [hT]; exact stop_of c v ls W1 hI hv1 hl hn0
  obtain ⟨vs, hrd, hel⟩ := hv
  obtain ⟨A, c9, rfl, hc⟩ := Rd.form hrd
  have hsum : ∀ (v : Value) (w : World), RL w v T → Calls Try.prog 21 #[.int .i64 c, v] w fun e w' => e = .returned (idv X) ∧ w.grownBy w' none := fun v w h => by
    rw [hX]; exact ssum_any c v T _ w h (fun _ h => h) (by omega)
  rw [HX.out]
  obtain ⟨n, hn⟩ : ∃ n, n = ls.length := ⟨_, rfl⟩
  rw [← hn] at htop ⊢
  have HW := Go.Lib.hid hW1
  clear hv1 hrd hel hT hX hW1 hn hTl hc
  go_wp2_with (first
    | ((with_reducible refine wpList_alloc_row (E := 34) idZ infoId ?_); rw [← HW.out])
    | (go_at_call 42; ((with_reducible refine htop.mono ?_); rintro e w3 ⟨v3, rfl, ho3, g3⟩; have b3 := b1.grown g3 (by simp); have hr3 : RL w3 v3 T := ho3.rd (fun b hb => (ho3.lt hb).2); obtain ⟨A3, c3, rfl⟩ := ho3.form))
    | (go_at_call 21; ((with_reducible refine (hsum _ _ hr3).mono ?_); rintro e w4 ⟨rfl, g4⟩; have b4 := b3.grown g4 (by simp)))
    | ((with_reducible refine wpList_store_bk (t := 34) w.heap.size 34 idZ (X.l.map bv) b4 (by kernel_rfl) (by kernel_rfl) (idSize _) (idLen _) (idOne _) ?_); intro w5 h5 g5 z5))
  try go_frame
  exact bodyPost_ret (results_id rfl _ _ w.heap.size X rfl h5) rfl ⟨rfl, gb_trans_new (gb_trans (gb_trans g1 g3) g4) g5 (Nat.le_refl _)⟩
theorem sroot_all (c : Int) : ∀ n, n ≤ 1000001 → SRoot c n := by
  intro n
  induction n with
  | zero => intro _ v ls w h; exact absurd h (Nat.not_lt_zero _)
  | succ n ih =>
    intro hn v ls w h hv hl
    have hI : SRoot c ls.length := fun v ls' w h' => ih (by omega) v ls' w (by omega)
    exact sroot_of c v ls w hI hv hl (by omega)
theorem sroot_any (c : Int) (v : Value) (ls : List (List UInt8)) (w : World) (hv : RLL w v ls) (hl : ∀ l ∈ ls, l.length ≤ 1000000) (hn0 : ls.length ≤ 1000000) :
    Calls Try.prog 24 #[.int .i64 c, v] w fun e w' => e = .returned (idv (rootH (sumC c) ls)) ∧ w.grownBy w' none := sroot_all c 1000001 (Nat.le_refl _) v ls w (by omega) hv hl
theorem stop_any (c : Int) (v : Value) (ls : List (List UInt8)) (w : World) (hv : RLL w v ls) (hl : ∀ l ∈ ls, l.length ≤ 1000000) (hn0 : ls.length ≤ 1000000) :
    Calls Try.prog 42 #[.int .i64 c, v] w fun e w' => ∃ v', e = .returned v' ∧ Ow w.heap.size w' 1 v' (topH (sumC c) ls).length ((topH (sumC c) ls).map bv) ∧ w.grownBy w' none :=
  stop_of c v ls w (sroot_all c _ (by omega)) hv hl hn0
end Go.Proofs.Ytajgklomcapboaa
