import Derived.Test.YtjbnnfphpchneaaDelg
import Derived.Deep.CutBlock
/- (*timer.Timer).Tick. -/
namespace Go.Proofs.Ytjbnnfphpchneaa
open Go.RowKit Sc
def tikφ (B bT bO r q c W0 : Nat) (A : Option Addr) (n : Int) (L : List Due) (i : Nat) (v : Value) (w : World) : Prop := match i with
  | 0 => v = .pointer (some ⟨r, 0, none⟩)
  | 1 => v = .pointer (some ⟨r, 0, none⟩)
  | 2 => v = .pointer (some ⟨r, 0, none⟩)
  | 3 => v = .pointer (some ⟨r, 1, none⟩)
  | 4 => v = .slice A q c
  | 5 => v = .func (.func 19) #[] #[.pointer (some ⟨bT, 0, none⟩), .pointer (some ⟨bO, 0, none⟩)]
  | 6 => ∃ m ov1, v = .slice A m c ∧ m = (leftOf n L).length ∧ Ow B w 3 (.slice A m c) m (dueCs (leftOf n L)) ∧ DS w B bT bO r n (.slice A q c) (overOf n L) ov1 ∧ (ov1.ownBlock = none ∨ ∃ k, ov1.ownBlock = some k ∧ W0 ≤ k)
  | 7 => v = .pointer (some ⟨r, 0, none⟩)
  | 8 => v = .pointer (some ⟨r, 1, none⟩)
  | _ => True
def tikR (bO : Nat) (A : Option Addr) (i : Nat) (a b : World) : Prop := match i with
  | 6 => Ch (SA bO (.slice none 0 0) A) a b
  | _ => Gr a b
theorem own_any (A : Option Addr) (m c q d : Nat) : (Value.slice A m c).ownBlock = (Value.slice A q d).ownBlock := by cases A <;> rfl
def tikDead (_i _k : Nat) : Bool := false
theorem tikR_own {bO : Nat} {A : Option Addr} {i : Nat} {a b : World} (h : tikR bO A i a b) : Ch (SA bO (.slice none 0 0) A) a b := by
  unfold tikR at h
  split at h
  · exact h
  · exact Ch.of h (fun _ h => by cases h)
theorem tikR_gr {bO : Nat} {A : Option Addr} {i : Nat} {a b : World} (hi : i ≠ 6) (h : tikR bO A i a b) : Gr a b := by
  unfold tikR at h
  split at h
  · exact absurd rfl hi
  · exact h
theorem tik_st (B bT bO r q c W0 : Nat) (A : Option Addr) (n : Int) (L : List Due) : ∀ j i v w w', j ≠ i → tikDead j i = false → tikφ B bT bO r q c W0 A n L j v w → tikR bO A i w w' → tikφ B bT bO r q c W0 A n L j v w' := by
  intro j i v w w' hji hd h hg
  match j, hji, hd, h with
  | 6, hji, _, h =>
    obtain ⟨m, ov1, e, hm, ho, hs, hr⟩ := h
    have hgr := tikR_gr (fun e => hji e.symm) hg
    exact ⟨m, ov1, e, hm, ho.grown hgr (fun _ _ => by simp), hs.gr hgr, hr⟩
  | 0, _, _, h => exact h
  | 1, _, _, h => exact h
  | 2, _, _, h => exact h
  | 3, _, _, h => exact h
  | 4, _, _, h => exact h
  | 5, _, _, h => exact h
  | 7, _, _, h => exact h
  | 8, _, _, h => exact h
  | j + 9, _, _, h => exact h
set_option maxHeartbeats 4000000 in
theorem tick_any {B r : Nat} {n0 : Int} {L : List Due} {lv : Value} (w : World) (hT : Tm w B r n0 L lv) (hL : L.length ≤ 1000) (hn : 0 ≤ n0 ∧ n0 ≤ 1000000) (hB : B ≤ w.heap.size) :
    Calls Try.prog 12 #[.pointer (some ⟨r, 0, none⟩)] w fun e w' => ∃ bO ov lv', e = .returned (.func (.func 20) #[] #[.pointer (some ⟨bO, 0, none⟩)]) ∧ w.heap.size ≤ bO ∧ Tm w' B r (n0 + 1) (leftOf (n0 + 1) L) lv' ∧ Bk w' bO 24 [ov] ∧
      Ow B w' 3 ov (overOf (n0 + 1) L).length (dueCs (overOf (n0 + 1) L)) ∧ (∀ b, ov.ownBlock = some b → w.heap.size ≤ b ∧ b ≠ bO) ∧ Ch (fun k => k = r ∨ lv.ownBlock = some k) w w' ∧ lv'.ownBlock = lv.ownBlock := by
  go_enter Try.func12, Try.ntmps12
  obtain ⟨A, c, rfl⟩ := hT.2.1.form
  obtain ⟨q, hq⟩ : ∃ q, L.length = q := ⟨_, rfl⟩
  unfold Tm at hT
  rw [hq] at hT hL ⊢
  obtain ⟨n, hnn⟩ : ∃ n, n = n0 + 1 := ⟨_, rfl⟩
  rw [← hnn]
  have HNN := Go.Lib.hid hnn
  obtain ⟨W1, hW1⟩ : ∃ W1, W1 = w.alloc (.cells #[.pointer (some ⟨r, 0, none⟩)] 32) := ⟨_, rfl⟩
  have g1 : w.grownBy W1 none := by rw [hW1]; exact gb_alloc (gb_refl w none) _
  have bT1 : Bk W1 w.heap.size 32 [.pointer (some ⟨r, 0, none⟩)] := by rw [hW1]; exact Bk.new w _ [.pointer (some ⟨r, 0, none⟩)]
  have z1 : W1.heap.size = w.heap.size + 1 := by rw [hW1, World.size_alloc]
  have bR1 := hT.1.grown g1 (by simp)
  have ho1 := hT.2.1.grown g1 (fun _ _ => by simp)
  have hrlt := hT.1.lt
  have halt : ∀ b, (Value.slice A q c).ownBlock = some b → b < w.heap.size ∧ b ≠ r := fun b hb => ⟨(hT.2.1.lt hb).2, fun e => hT.2.2 (e ▸ hb)⟩
  obtain ⟨bT, hbT⟩ : ∃ bT, bT = w.heap.size := ⟨_, rfl⟩
  rw [← hbT] at bT1
  have cT : W1.cell? ⟨bT, 0, none⟩ = some (.pointer (some ⟨r, 0, none⟩)) := bT1.cellAt rfl
  have cN : W1.cell? ⟨r, 0, none⟩ = some (.int .i64 n0) := bR1.cellAt rfl
  have fN := bR1.frozen 0
  have HW1 := Go.Lib.hid hW1
  have HBT := Go.Lib.hid hbT
  clear hT hW1 hbT hnn
  go_upto_region 1 with fail
  rw [← HW1.out, ← HBT.out]
  go_upto_region 3 with fail
  rw [← HNN.out]
  have g2 : W1.grownBy (W1.setCell ⟨r, 0, none⟩ (.int .i64 n)) (some r) := gb_set1 _ _ _
  obtain ⟨W2, hW2⟩ : ∃ W2, W2 = W1.setCell ⟨r, 0, none⟩ (.int .i64 n) := ⟨_, rfl⟩
  have bR2 : Bk W2 r 26 [.int .i64 n, .slice A q c] := by rw [hW2]; exact bR1.set 0 (.int .i64 n)
  rw [← hW2] at g2 ⊢
  have hTr : bT ≠ r := by rw [HBT.out]; omega
  have bT2 := bT1.grown g2 (fun e => hTr (Option.some.inj e))
  have ho2 := ho1.grown g2 (fun b hb e => (halt b hb).2 (Option.some.inj e).symm)
  have z2 : W2.heap.size = w.heap.size + 1 := by rw [hW2]; simp [z1]
  obtain ⟨bO, hbO⟩ : ∃ bO, bO = w.heap.size + 1 := ⟨_, rfl⟩
  rw [← hbO]
  obtain ⟨W, hW⟩ : ∃ W, W = W2.alloc (.cells #[.slice none 0 0] 24) := ⟨_, rfl⟩
  have bO3 : Bk W bO 24 [.slice none 0 0] := by rw [hW, hbO, ← z2]; exact Bk.new W2 _ [.slice none 0 0]
  have g3 : W2.grownBy W none := by rw [hW]; exact gb_alloc (gb_refl W2 none) _
  rw [← hW]
  have HS : Hid (DS W B bT bO r n (.slice A q c) [] (.slice none 0 0)) := Go.Lib.hid ⟨bT2.grown g3 (by simp), bR2.grown g3 (by simp), bO3, Ow.nil _ _ _, (fun b hb => by cases hb), by rw [HBT.out, hbO]; omega, hTr, by omega⟩
  have HOW := Go.Lib.hid (ho2.grown g3 (fun _ _ => by simp))
  have HAP : Hid (∀ b, (Value.slice A q c).ownBlock = some b → b ≠ bT ∧ b ≠ bO ∧ b ≠ r ∧ (Value.slice none 0 0).ownBlock ≠ some b) := Go.Lib.hid (fun b hb => by
    have h := halt b hb
    exact ⟨by rw [HBT.out]; omega, by omega, h.2, by simp [Value.ownBlock]⟩)
  have HNT : Hid (¬ SA bO (.slice none 0 0) A bT) := Go.Lib.hid (fun h => by
    rcases h with (h | h) | h
    · rw [HBT.out, hbO] at h; omega
    · cases h
    · have := (halt bT ((own_any A q c 0 0).trans h)).1; rw [HBT.out] at this; omega)
  have HQ := Go.Lib.hid hq
  have HOL : Hid (([] : List Due).length + q ≤ 1000000) := Go.Lib.hid (by simp; omega)
  have HBW : Hid (B ≤ W.heap.size) := Go.Lib.hid (by have := g3.size; omega)
  have HCW : Hid (Ch (fun k => k = r ∨ (Value.slice A q c).ownBlock = some k) w W) := Go.Lib.hid (((Ch.of (S := fun k => k = r ∨ (Value.slice A q c).ownBlock = some k) g1 (fun _ h => by cases h)).gb g2 (fun k h => .inl (.inl (Option.some.inj h).symm))).gb g3 (fun _ h => by cases h))
  have HZ : Hid (w.heap.size ≤ bO ∧ W.heap.size = bO + 1) := Go.Lib.hid (by rw [hW, World.size_alloc, z2, hbO]; omega)
  have HRL : Hid (r < w.heap.size) := Go.Lib.hid hrlt
  have HAL := Go.Lib.hid halt
  clear hW hbO hW2 z2 z1 bO3 g3 bT2 bR2 ho2 g2 g1 bT1 bR1 ho1 cT cN fN hTr hq halt hrlt
  refine wp_region_specsS 6 (Ra := Ch (SA bO (.slice none 0 0) A)) (Rb := Gr) (R := tikR bO A) (fun _ _ _ h k => h.trans k (fun _ h => .inl h)) (fun i a b h => tikR_own h) (fun _ _ _ h k => gb_trans h k) (fun i a b hi h => tikR_gr hi h) 9 [11, 12, 13, 14, 15, 16, 17, 18, 19] (by kernel_rfl) (Ch.refl _ _).drew (gb_drew (gb_refl _ _)) (by kernel_rfl) tikDead (tikφ B bT bO r q c W.heap.size A n L) (fun j i v wa wb h1 _ h2 h3 h4 => tik_st B bT bO r q c W.heap.size A n L j i v wa wb h1 h2 h3 h4) ?step ?fin
  case step =>
    intro i_ o_ ho hi_ u w' hg hgb hd
    rcases (by omega : i_ = 0 ∨ i_ = 1 ∨ i_ = 2 ∨ i_ = 3 ∨ i_ = 4 ∨ i_ = 5 ∨ i_ = 6 ∨ i_ = 7 ∨ i_ = 8) with rfl | rfl | rfl | rfl | rfl | rfl | rfl | rfl | rfl <;> obtain rfl := Option.some.inj ho <;>
      simp (decide := true) only [fillAct, List.mapIdx_cons, List.mapIdx_nil, Nat.reduceAdd, if_true, if_false, List.getD_cons_zero, List.getD_cons_succ]
    · clear hd ho
      have c1 := (hg.bk HS.out.1 HNT.out).cellAt (i := 0) rfl
      go_wp2_with fail
      exact ⟨rfl, gb_refl _ _, rfl⟩
    · clear hd ho
      have c1 := (hg.bk HS.out.1 HNT.out).cellAt (i := 0) rfl
      go_wp2_with fail
      exact ⟨rfl, gb_refl _ _, rfl⟩
    · have h1 : u 12 = .pointer (some ⟨r, 0, none⟩) := hd 1 (by kernel_rfl) (by decide)
      clear hd ho
      rw [h1]
      go_wp2_with fail
      exact ⟨rfl, gb_refl _ _, rfl⟩
    · have h2 : u 13 = .pointer (some ⟨r, 0, none⟩) := hd 2 (by kernel_rfl) (by decide)
      clear hd ho
      rw [h2]
      go_wp2_with fail
      exact ⟨rfl, gb_refl _ _, rfl⟩
    · have h3 : u 14 = .pointer (some ⟨r, 1, none⟩) := hd 3 (by kernel_rfl) (by decide)
      clear hd ho
      rw [h3]
      have hgr := hgb (.inr (by kernel_rfl))
      have c1 := (HS.out.2.1.grown hgr (by simp)).cellAt (i := 1) rfl
      go_wp2_with fail
      exact ⟨rfl, gb_refl _ _, rfl⟩
    · clear hd ho
      go_wp2_with fail
      exact ⟨rfl, gb_refl _ _, rfl⟩
    · have h4 : u 15 = .slice A q c := hd 4 (by kernel_rfl) (by decide)
      have h5 : u 16 = .func (.func 19) #[] #[.pointer (some ⟨bT, 0, none⟩), .pointer (some ⟨bO, 0, none⟩)] := hd 5 (by kernel_rfl) (by decide)
      clear hd ho
      rw [h4, h5]
      have hgr := hgb (.inl rfl)
      have hs1 := HS.out.gr hgr
      have how := HOW.out.grown hgr (fun _ _ => by simp)
      have hB1 : B ≤ w'.heap.size := Nat.le_trans HBW.out hgr.size
      go_wp2_with (go_at_call 18; ((with_reducible refine (delf_any A c q L _ how HQ.out HAP.out hs1 hB1 HOL.out).mono ?_); rintro e w3 ⟨ov1, m, rfl, hm, ho3, hs3, hc3, hr3⟩; replace hm := Go.Lib.hid hm))
      rw [List.nil_append] at hs3
      exact ⟨rfl, hc3, m, ov1, rfl, hm.out, ho3, hs3, hr3.imp id (fun ⟨k, h, hk⟩ => ⟨k, h, Nat.le_trans hgr.size hk⟩)⟩
    · have h0 : u 11 = .pointer (some ⟨r, 0, none⟩) := hd 0 (by kernel_rfl) (by decide)
      clear hd ho
      rw [h0]
      go_wp2_with fail
      exact ⟨rfl, gb_refl _ _, rfl⟩
    · have h7 : u 18 = .pointer (some ⟨r, 0, none⟩) := hd 7 (by kernel_rfl) (by decide)
      clear hd ho
      rw [h7]
      go_wp2_with fail
      exact ⟨rfl, gb_refl _ _, rfl⟩
  case fin =>
    intro u w5 hg hφ
    obtain ⟨m, ov1, h17, hm, ho5, hs5, hr5⟩ : ∃ m ov1, u 17 = .slice A m c ∧ m = (leftOf n L).length ∧ Ow B w5 3 (.slice A m c) m (dueCs (leftOf n L)) ∧ DS w5 B bT bO r n (.slice A q c) (overOf n L) ov1 ∧ (ov1.ownBlock = none ∨ ∃ k, ov1.ownBlock = some k ∧ W.heap.size ≤ k) := hφ 6 (by omega) (by decide)
    have h19 : u 19 = .pointer (some ⟨r, 1, none⟩) := hφ 8 (by omega) (by decide)
    simp (decide := true) only [fillAct, List.mapIdx_cons, List.mapIdx_nil, Nat.reduceAdd, if_true, if_false, List.drop_succ_cons, List.drop_zero]
    rw [h17, h19]
    clear hφ h17 h19
    have cr := hs5.2.1.cellAt (i := 1) rfl
    have fr := hs5.2.1.frozen 1
    have HS5 := Go.Lib.hid hs5
    have HO5 := Go.Lib.hid ho5
    have HM := Go.Lib.hid hm
    clear hs5 ho5 hm
    go_wp2_with fail
    go_ret
    have g6 : w5.grownBy (w5.setCell ⟨r, 1, none⟩ (.slice A m c)) (some r) := gb_set1 _ _ _
    have hx := HS5.out.2.2.2.2
    refine ⟨bO, ov1, .slice A m c, rfl, HZ.out.1, ⟨HS5.out.2.1.set 1 _, ?_, fun e => (HAL.out r ((own_any A q c m c).trans e)).2 rfl⟩, HS5.out.2.2.1.grown g6 (fun e => hx.2.2.2 (Option.some.inj e)), HS5.out.2.2.2.1.grown g6 (fun b hb e => (hx.1 b hb).2.2 (Option.some.inj e).symm), fun b hb => ⟨?_, (hx.1 b hb).2.1⟩, ?_, own_any _ _ _ _ _⟩
    · rw [← HM.out]
      exact HO5.out.grown g6 (fun b hb e => (HAL.out b ((own_any A q c m c).trans hb)).2 (Option.some.inj e).symm)
    · rcases hr5 with h | ⟨k, h, hk⟩
      · rw [h] at hb; cases hb
      · rw [h] at hb; have := Option.some.inj hb; have := HZ.out; omega
    · exact (HCW.out.trans hg (fun k hk => by
        rcases hk with (h | h) | h
        · exact .inr (by have := HZ.out; omega)
        · cases h
        · exact .inl (.inr ((own_any A q c 0 0).trans h)))).gb g6 (fun k h => .inl (.inl (Option.some.inj h).symm))
end Go.Proofs.Ytjbnnfphpchneaa
