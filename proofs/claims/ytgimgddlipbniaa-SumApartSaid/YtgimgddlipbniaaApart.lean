import Derived.Test.YtgimgddlipbniaaAppR
import Derived.Test.YtgimgddlipbniaaSpecsI
import Derived.Test.YtgimgddlipbniaaNode
import Derived.Test.YtgimgddlipbniaaKnown
import Derived.Test.YtgimgddlipbniaaEql
import Derived.Test.YtgimgddlipbniaaGuard
import Derived.Test.YtgimgddlipbniaaOwBB
import Derived.Test.YtgimgddlipbniaaFilled
/- SumApart: the walk. -/
namespace Go.Proofs.Ytgimgddlipbniaa
open Go.RowKit Go.Shelf Sc

theorem idEq : IdEq Try.prog 26 := idEq_dec (e := 5) Try.underlying26 Try.underlying5 (by kernel_rfl) (by kernel_rfl)

/-- A block whose first cell is no byte 1. -/
def SafeN (w : World) (b : Nat) : Prop := b < w.heap.size ∧ ∃ u, w.cell? ⟨b, 0, none⟩ = some u ∧ u ≠ bv 1
/-- Either the world only grows, or a block of bytes whose first is 1 is written behind its first 33 cells. -/
def R20 (B : Nat) (a b : World) : Prop := Gr a b ∨ ∃ r, B ≤ r ∧ a.cell? ⟨r, 0, none⟩ = some (bv 1) ∧ a.grownBy b (some r) ∧ (∀ o, o < 33 → b.cell? ⟨r, o, none⟩ = a.cell? ⟨r, o, none⟩) ∧
  (∀ o, (a.cell? ⟨r, o, none⟩).isSome = true → (b.cell? ⟨r, o, none⟩).isSome = true) ∧ ∀ o, b.frozen? ⟨r, o, none⟩ = a.frozen? ⟨r, o, none⟩
def apR (B : Nat) (i : Nat) (a b : World) : Prop := match i with
  | 20 => R20 B a b
  | _ => Gr a b
def apRa (B : Nat) (a b : World) : Prop := B ≤ a.heap.size → Below B a b
theorem below_drawn (B : Nat) (w : World) : Below B w { w with drawn := w.drawn + 1 } := ⟨rfl, rfl, rfl, Nat.le_refl _, fun _ _ => rfl⟩
theorem apRa_trans (B : Nat) : ∀ a b c, apRa B a b → apRa B b c → apRa B a c := fun _a _b _c h k hB => (h hB).trans (k (Nat.le_trans hB (h hB).size))
theorem apR_20 {B i : Nat} {a b : World} (h : apR B i a b) : R20 B a b := by
  unfold apR at h
  split at h
  · exact h
  · exact .inl h
theorem apR_gr {B i : Nat} {a b : World} (hi : i ≠ 20) (h : apR B i a b) : Gr a b := by
  unfold apR at h
  split at h
  · exact absurd rfl hi
  · exact h
theorem apR_Ra (B : Nat) : ∀ i a b, apR B i a b → apRa B a b := fun i a b h hB => by
  rcases apR_20 h with h | ⟨r, hr, _, h, _⟩
  · exact gb_below h hB (by simp)
  · exact gb_below h hB (fun k e => by cases e; exact hr)
theorem SafeN.gr {w w' : World} {b : Nat} (h : SafeN w b) (hg : w.grownBy w' none) : SafeN w' b := by
  obtain ⟨h1, u, h2, h3⟩ := h
  exact ⟨Nat.lt_of_lt_of_le h1 hg.size, u, cell_grown hg h2 (by simp), h3⟩
theorem SafeN.ow {B : Nat} {w : World} {n c b : Nat} {l : List UInt8} (ho : Ow B w 1 (.slice (some ⟨b, 0, none⟩) n c) n (l.map bv)) (x : UInt8) (hn : l.length = n) (hx : x ≠ 1) (hl : ∀ y, l[0]? = some y → y = x) : RdB (SafeN w) w (.slice (some ⟨b, 0, none⟩) n c) l := by
  unfold RdB
  rw [hn]
  obtain ⟨h1, A', c', he, h2, h3, h4, h5⟩ := ho
  injection he with e1 _ e2
  subst e1 e2
  obtain ⟨b', o', e, hB, hlt, hc, hr⟩ := h5 _ rfl
  injection e with e1 e2 _
  subst e1 e2
  refine ⟨_, _, rfl, h2, h3, h1, fun h0 => ⟨b, 0, rfl, ⟨hlt, bv x, ?_, fun h => ?_⟩, fun j u hu => hr j u hu⟩⟩
  · have hl0 : l[0]? = some l[0] := List.getElem?_eq_getElem (by omega)
    have := hr 0 (bv x) (by rw [List.getElem?_map, hl0, hl _ hl0]; rfl)
    rwa [Nat.add_zero] at this
  · unfold bv at h
    injection h with _ h
    exact hx (UInt8.toNat_inj.1 (by have h' : x.toNat = (1 : UInt8).toNat := by exact_mod_cast h
                                    exact h'))
theorem R20.keep {B : Nat} {a b : World} {k o : Nat} {u : Value} (h : R20 B a b) (hk : k < B ∨ SafeN a k ∨ o < 33) (hc : a.cell? ⟨k, o, none⟩ = some u) : b.cell? ⟨k, o, none⟩ = some u := by
  rcases h with h | ⟨r, hr, h1, h2, h3, _⟩
  · exact cell_grown h hc (by simp)
  · by_cases e : k = r
    · subst e
      rcases hk with hk | ⟨_, v, hv, hne⟩ | hk
      · omega
      · rw [h1] at hv; exact absurd (Option.some.inj hv).symm hne
      · rw [h3 o hk]; exact hc
    · exact cell_grown h2 hc (fun h => e (Option.some.inj h).symm)
theorem R20.size {B : Nat} {a b : World} (h : R20 B a b) : a.heap.size ≤ b.heap.size := by
  rcases h with h | ⟨r, _, _, h, _⟩
  · exact h.size
  · exact h.size
theorem R20.safe {B : Nat} {a b : World} (h : R20 B a b) {k : Nat} (hk : SafeN a k) : SafeN b k := by
  have h0 := hk
  obtain ⟨h1, u, h2, h3⟩ := hk
  exact ⟨Nat.lt_of_lt_of_le h1 h.size, u, h.keep (.inr (.inl h0)) h2, h3⟩
theorem R20.low {B : Nat} {a b : World} {v : Value} {l : List UInt8} (h : RdB (fun k => k < B) a v l) (hg : R20 B a b) : RdB (fun k => k < B) b v l := Rd.keep h fun _ _ _ hb hc => hg.keep (.inl hb) hc
theorem R20.safe1 {B : Nat} {a b : World} {v : Value} {l : List UInt8} (h : RdB (SafeN a) a v l) (hg : R20 B a b) : RdB (SafeN b) b v l := Rd.mono (Rd.keep h fun _ _ _ hb hc => hg.keep (.inr (.inl hb)) hc) fun _ => hg.safe
theorem R20.safe2 {B : Nat} {a b : World} {v : Value} {ls : List (List UInt8)} (h : RdBB (SafeN a) a v ls) (hg : R20 B a b) : RdBB (SafeN b) b v ls := by
  obtain ⟨vs, h1, h2⟩ := h
  refine ⟨vs, Rd.mono (Rd.keep h1 fun _ _ _ hb hc => hg.keep (.inr (.inl hb)) hc) fun _ => hg.safe, fun j l hl => ?_⟩
  obtain ⟨u, hu, hr⟩ := h2 j l hl
  exact ⟨u, hu, R20.safe1 hr hg⟩
theorem R20.ow {B : Nat} {a b : World} {k n c : Nat} {cs : List Value} (h : Ow B a 1 (.slice (some ⟨k, 0, none⟩) n c) n cs) (hn : n ≤ 33) (hg : R20 B a b) : Ow B b 1 (.slice (some ⟨k, 0, none⟩) n c) n cs := by
  rcases hg with hg' | ⟨r, hr, h1, h2, h3, h4, h5⟩
  · exact h.grown hg' (fun _ _ => by simp)
  · by_cases e : k = r
    · subst e
      obtain ⟨a1, A', c', he, a2, a3, a4, a5⟩ := h
      injection he with e1 _ e2
      subst e1 e2
      refine ⟨a1, _, c, rfl, a2, a3, a4, fun ad had => ?_⟩
      obtain ⟨b', o', e, hB, hlt, hc, hrr⟩ := a5 ad had
      have had' := had
      cases had
      injection e with e1 e2 _
      subst e1 e2
      refine ⟨k, 0, rfl, hB, Nat.lt_of_lt_of_le hlt h2.size, fun j hj => ⟨h4 _ (hc j hj).1, ?_⟩, fun j u hu => ?_⟩
      · rw [h5]; exact (hc j hj).2
      · have hjn : j < n := by have := (List.getElem?_eq_some_iff.1 hu).1; rw [a1] at this; omega
        rw [h3 _ (by omega)]; exact hrr j u hu
    · exact h.grown h2 (fun b hb e2 => e (by have := Option.some.inj (show some k = some b from hb); have := Option.some.inj e2; omega))
theorem R20.room {B : Nat} {w : World} {b c : Nat} {l : List UInt8} (h : Ow B w 1 (.slice (some ⟨b, 0, none⟩) 33 c) 33 ((1 :: l).map bv)) (news : List Value) : R20 B w (w.setCells b (0 + 33 * 1) news) := by
  obtain ⟨h1, A', c', he, h2, h3, h4, h5⟩ := h
  injection he with e1 _ e2
  subst e1 e2
  obtain ⟨b', o', e, hB, hlt, hc, hr⟩ := h5 _ rfl
  injection e with e1 e2 _
  subst e1 e2
  refine .inr ⟨b, hB, hr 0 (bv 1) rfl, gb_setCells b news _ w, fun o ho => ?_, fun o ho => World.isSome_setCells b news _ w _ ho, fun o => World.frozen?_setCells _ _ _ _ _⟩
  exact World.cell?_setCells_out b news _ w _ (fun _ _ => .inl (by show o < 0 + 33 * 1; omega))

def apartφ (B : Nat) (L : List UInt8) (x y : Sc.Id) (tb : Nat) (i : Nat) (v : Value) (w : World) : Prop := match i with
  | 0 => RdB (fun b => b < B) w v L
  | 1 => v = idv (sha (0 :: L))
  | 2 => ∃ b, v = .slice (some ⟨b, 0, none⟩) 1 1 ∧ Ow B w 1 (.slice (some ⟨b, 0, none⟩) 1 1) 1 [bv 0]
  | 3 => RdB (fun b => b < B) w v L
  | 4 => RdB (SafeN w) w v (0 :: L)
  | 5 => RdBB (SafeN w) w v [0 :: L]
  | 6 => v = idv (sha (0 :: L))
  | 7 => v = .bool true
  | 8 => v = .bool true
  | 9 => v = .pointer (some ⟨tb, 0, none⟩)
  | 10 => v = idv x
  | 11 => v = .pointer (some ⟨tb, 32, none⟩)
  | 12 => v = idv y
  | 13 => v = idv (sha (1 :: (x.l ++ y.l)))
  | 14 => ∃ b, v = .slice (some ⟨b, 0, none⟩) 1 1 ∧ Ow B w 1 (.slice (some ⟨b, 0, none⟩) 1 1) 1 [bv 1]
  | 15 => v = .pointer (some ⟨tb, 0, none⟩)
  | 16 => v = .slice (some ⟨tb, 0, none⟩) 32 32
  | 17 => ∃ b c, v = .slice (some ⟨b, 0, none⟩) 33 c ∧ Ow B w 1 (.slice (some ⟨b, 0, none⟩) 33 c) 33 ((1 :: x.l).map bv)
  | 18 => v = .pointer (some ⟨tb, 32, none⟩)
  | 19 => v = .slice (some ⟨tb, 32, none⟩) 32 32
  | 20 => RL w v (1 :: (x.l ++ y.l))
  | 21 => RLL w v ([1 :: (x.l ++ y.l)])
  | 22 => v = idv (sha (1 :: (x.l ++ y.l)))
  | 23 => v = .bool true
  | 24 => v = .bool true
  | _ => True
theorem apart_st (B : Nat) (L : List UInt8) (x y : Sc.Id) (tb : Nat) : ∀ j i v w w', j ≠ i → (j = 21 → i ≠ 20) → apartφ B L x y tb j v w → apR B i w w' → apartφ B L x y tb j v w' := by
  intro j i v w w' hji h21 h hg
  match j, hji, h21, h with
  | 20, hji, _, h => exact RL.gr h (apR_gr (fun e => hji e.symm) hg)
  | 21, _, h21, h => exact RLL.gr h (apR_gr (h21 rfl) hg)
  | 0, _, _, h => have hg := apR_20 hg; exact R20.low h hg
  | 2, _, _, h => have hg := apR_20 hg; obtain ⟨b, e, ho⟩ := h; exact ⟨b, e, R20.ow ho (by decide) hg⟩
  | 3, _, _, h => have hg := apR_20 hg; exact R20.low h hg
  | 4, _, _, h => have hg := apR_20 hg; exact R20.safe1 h hg
  | 5, _, _, h => have hg := apR_20 hg; exact R20.safe2 h hg
  | 14, _, _, h => have hg := apR_20 hg; obtain ⟨b, e, ho⟩ := h; exact ⟨b, e, R20.ow ho (by decide) hg⟩
  | 17, _, _, h => have hg := apR_20 hg; obtain ⟨b, c, e, ho⟩ := h; exact ⟨b, c, e, R20.ow ho (by decide) hg⟩
  | 1, _, _, h => exact h
  | 6, _, _, h => exact h
  | 7, _, _, h => exact h
  | 8, _, _, h => exact h
  | 9, _, _, h => exact h
  | 10, _, _, h => exact h
  | 11, _, _, h => exact h
  | 12, _, _, h => exact h
  | 13, _, _, h => exact h
  | 15, _, _, h => exact h
  | 16, _, _, h => exact h
  | 18, _, _, h => exact h
  | 19, _, _, h => exact h
  | 22, _, _, h => exact h
  | 23, _, _, h => exact h
  | 24, _, _, h => exact h
  | j + 25, _, _, h => exact h

set_option maxHeartbeats 4000000 in
theorem apart_walk (v : Value) (l : List UInt8) (x y : Sc.Id) (NB : Nat → Prop) (w : World) (hv : RdB NB w v l) (hNB : ∀ b, NB b → b < w.heap.size) :
    Calls Try.prog 7 #[v, .agg (x.l.map bv ++ y.l.map bv).toArray] w fun e w' => e = .returned (.bool true) ∧ w.grownBy w' none := by
  go_enter Try.func7, Try.ntmps7
  obtain ⟨A, c, rfl, hc⟩ := hv.form
  obtain ⟨q, hq⟩ : ∃ q, min l.length 300 = q := ⟨_, rfl⟩
  have hm := hv.le
  unfold maxLen at hm
  have HV := Go.Lib.hid hv
  have bt := Bk.new w 38 (x.l.map bv ++ y.l.map bv)
  have gt := gb_alloc (gb_refl w none) (.cells (x.l.map bv ++ y.l.map bv).toArray 38)
  clear hv
  go_wp2_with (first
    | (go_at_call 15; ((with_reducible refine (known_any _).mono ?_); rintro e w1 ⟨rfl, g1⟩))
    | ((with_reducible refine wpList_min (x := .tmp 9) l.length 300 q hq (by kernel_rfl) (by kernel_rfl) ?_)))
  have hL0 := RdB.takeTo HV.out 300 q hq
  have gW := gb_trans gt g1
  have hL1 : RdB (fun b => b < w1.heap.size) w1 (.slice A q c) (l.take 300) := Rd.mono (Rd.grown hL0 gW (by simp)) fun b hb => Nat.lt_of_lt_of_le (hNB b hb) gW.size
  have htb : w.heap.size < w1.heap.size := bt.grown g1 (by simp) |>.lt
  have bW := (bt.grown g1 (by simp)).range
  have rx : w1.rangeAt w.heap.size 0 (x.l.map bv) := range_left bW
  have ry : w1.rangeAt w.heap.size 32 (y.l.map bv) := by have := range_right bW (n := 32) (by rw [List.length_map, x.h]); rwa [Nat.zero_add] at this
  have hLlen : (l.take 300).length ≤ 1099511627776 := by rw [List.length_take]; omega
  clear hL0 bW bt gt g1 HV hm hq
  generalize l.take 300 = L at hL1 hLlen
  obtain ⟨B, hBe⟩ : ∃ B, B = w1.heap.size := ⟨_, rfl⟩
  obtain ⟨tb, htbe⟩ : ∃ tb, tb = w.heap.size := ⟨_, rfl⟩
  rw [← hBe] at hL1 htb
  rw [← htbe] at htb rx ry ⊢
  have hL := hL1
  clear hL1 htbe
  subst hBe
  refine wp_region_specsI (Ra := apRa w1.heap.size) (R := apR w1.heap.size) (apRa_trans w1.heap.size) (apR_Ra w1.heap.size) 25 [12, 13, 14, 15, 16, 17, 18, 19, 20, 21, 22, 23, 24, 25, 26, 27, 28, 29, 30, 31, 32, 33, 34, 35, 36] (by kernel_rfl) (fun _ => below_drawn _ _) (by kernel_rfl) (fun _ _ => false) (by kernel_rfl) (apartφ w1.heap.size L x y tb) (fun j i v w w' h1 h2 _ h3 h4 => apart_st w1.heap.size L x y tb j i v w w' h1 (fun e1 e2 => by subst e1 e2; exact absurd (h2.symm.trans (by kernel_rfl : _ = true)) (by simp)) h3 h4) ?step ?fin
  case step =>
    intro i_ o_ ho hi_ u w' hg hd
    rcases (by omega : i_ = 0 ∨ i_ = 1 ∨ i_ = 2 ∨ i_ = 3 ∨ i_ = 4 ∨ i_ = 5 ∨ i_ = 6 ∨ i_ = 7 ∨ i_ = 8 ∨ i_ = 9 ∨ i_ = 10 ∨ i_ = 11 ∨ i_ = 12 ∨ i_ = 13 ∨ i_ = 14 ∨ i_ = 15 ∨ i_ = 16 ∨ i_ = 17 ∨ i_ = 18 ∨ i_ = 19 ∨ i_ = 20 ∨ i_ = 21 ∨ i_ = 22 ∨ i_ = 23 ∨ i_ = 24) with rfl | rfl | rfl | rfl | rfl | rfl | rfl | rfl | rfl | rfl | rfl | rfl | rfl | rfl | rfl | rfl | rfl | rfl | rfl | rfl | rfl | rfl | rfl | rfl | rfl <;> obtain rfl := Option.some.inj ho <;>
      simp (decide := true) only [fillAct, List.mapIdx_cons, List.mapIdx_nil, Nat.reduceAdd, if_true, if_false, List.getD_cons_zero, List.getD_cons_succ]
    · clear hd ho
      have hBW := hg (Nat.le_refl _)
      have hBs : w1.heap.size ≤ w'.heap.size := hBW.size
      go_wp2_with fail
      exact ⟨rfl, gb_refl _ _, hL.keep fun b o z hb hc => (hBW.cell (p := ⟨b, o, none⟩) hb).trans hc⟩
    · have h0 : RdB (fun b => b < w1.heap.size) w' (u 12) L := hd 0 (by kernel_rfl)
      clear hd ho
      have hBW := hg (Nat.le_refl _)
      have hBs : w1.heap.size ≤ w'.heap.size := hBW.size
      have hN1 : ∀ b, (fun b => b < w1.heap.size) b → b < w'.heap.size := fun b h => Nat.lt_of_lt_of_le h hBs
      clear hBW hBs
      go_wp2_with (go_at_call 20; ((with_reducible refine (leaf_any _ L _ _ h0 hN1 hLlen).mono ?_); rintro e w3 ⟨rfl, g3⟩))
      exact ⟨rfl, g3, rfl⟩
    · clear hd ho
      have hBW := hg (Nat.le_refl _)
      have hBs : w1.heap.size ≤ w'.heap.size := hBW.size
      go_wp2_with fail
      exact ⟨rfl, gb_alloc (gb_refl _ _) _, ⟨w'.heap.size, rfl, Ow.new w' 5 w1.heap.size 1 1 [bv 0] rfl (by decide) hBs⟩⟩
    · clear hd ho
      have hBW := hg (Nat.le_refl _)
      have hBs : w1.heap.size ≤ w'.heap.size := hBW.size
      go_wp2_with fail
      exact ⟨rfl, gb_refl _ _, hL.keep fun b o z hb hc => (hBW.cell (p := ⟨b, o, none⟩) hb).trans hc⟩
    · have h2 : ∃ b, (u 14) = .slice (some ⟨b, 0, none⟩) 1 1 ∧ Ow w1.heap.size w' 1 (.slice (some ⟨b, 0, none⟩) 1 1) 1 [bv 0] := hd 2 (by kernel_rfl)
      have h3 : RdB (fun b => b < w1.heap.size) w' (u 15) L := hd 3 (by kernel_rfl)
      clear hd ho
      have hBW := hg (Nat.le_refl _)
      have hBs : w1.heap.size ≤ w'.heap.size := hBW.size
      obtain ⟨b2, e2, ho2⟩ := h2
      obtain ⟨A3, c3, e3, _⟩ := h3.form
      rw [e3] at h3
      have hsrc : Src Try.prog 1 24 (.slice A3 L.length c3) L.length (L.map bv) w' := src_rd (P := Try.prog) (k := 1) (tx := 24) Try.underlying24 h3 (bytes_one _)
      rw [e2, e3]
      clear e2 e3 h3
      have hone : 1 + L.length ≤ maxLen := Nat.le_trans (show 1 + L.length ≤ 1099511627777 by omega) (by decide)
      have hby : (1 + L.length) * 1 ≤ 140737488355328 := by omega
      by_cases hL0 : L.length = 0
      · obtain rfl : L = [] := List.eq_nil_of_length_eq_zero hL0
        go_wp2_with ((with_reducible refine wpList_append_no_ow (s := .tmp 14) (x' := .tmp 15) b2 0 (by kernel_rfl) (by kernel_rfl) Try.underlying24 okU8 ho2 hsrc ?_))
        refine ⟨rfl, gb_refl _ _, SafeN.ow ho2 0 rfl (by decide) (fun b h => by cases h; rfl)⟩
      have h1L : 1 < 1 + L.length := by omega
      go_wp2_with ((with_reducible refine wpList_append_grow_ow (s := .tmp 14) (x' := .tmp 15) (A := some ⟨b2, 0, none⟩) (by kernel_rfl) (by kernel_rfl) Try.underlying24 okU8 ho2 hsrc hBs hone hby h1L ?_); intro c4 w4 ho4 hg4)
      have e5 : 1 + L.length = (0 :: L).length := by rw [List.length_cons]; omega
      refine ⟨rfl, hg4, ?_⟩
      rw [e5] at ho4
      refine e5 ▸ SafeN.ow ho4 0 rfl (by decide) (fun b h => by cases h; rfl)
    · have h4 : RdB (SafeN w') w' (u 16) (0 :: L) := hd 4 (by kernel_rfl)
      clear hd ho
      have hBW := hg (Nat.le_refl _)
      have hBs : w1.heap.size ≤ w'.heap.size := hBW.size
      obtain ⟨A5, c5, e5, _⟩ := h4.form
      rw [e5] at h4 ⊢
      clear e5
      go_wp2_with fail
      refine ⟨rfl, gb_alloc (gb_refl _ _) _, RdBB.built1 24 h4 (fun b h => SafeN.gr h (gb_alloc (gb_refl _ _) _)) ?_⟩
      exact ⟨by rw [World.size_alloc]; exact Nat.lt_succ_self _, _, (Bk.new w' 24 [_]).cellAt rfl, by simp [bv]⟩
    · have h5 : RdBB (SafeN w') w' (u 17) [0 :: L] := hd 5 (by kernel_rfl)
      clear hd ho
      have hBW := hg (Nat.le_refl _)
      have hBs : w1.heap.size ≤ w'.heap.size := hBW.size
      have hlen : [0 :: L].flatten.length ≤ 1125899906842624 := by simp; omega
      have hN6 : ∀ b, SafeN w' b → b < w'.heap.size := fun b h => h.1
      go_wp2_with (go_at_call 16; ((with_reducible refine (of_any _ [0 :: L] _ _ h5 hN6 hlen).mono ?_); rintro e w3 ⟨rfl, g3⟩))
      exact ⟨rfl, g3, by simp [apartφ]⟩
    · have h1 : u 13 = idv (sha (0 :: L)) := hd 1 (by kernel_rfl)
      have h6 : u 18 = idv (sha (0 :: L)) := hd 6 (by kernel_rfl)
      clear hd ho
      rw [h1, h6]
      go_wp2_with ((with_reducible refine wpList_eql_id idEq (sha (0 :: L)) (sha (0 :: L)) (by kernel_rfl) (by kernel_rfl) ?_))
      refine ⟨rfl, gb_refl _ _, ?_⟩
      show Value.bool _ = .bool true
      rw [beq_self_eq_true]
    · have h7 : u 19 = .bool true := hd 7 (by kernel_rfl)
      clear hd ho
      rw [h7]
      go_wp2_with fail
      exact ⟨rfl, gb_refl _ _, rfl⟩
    · have h8 : u 20 = .bool true := hd 8 (by kernel_rfl)
      clear hd ho
      rw [h8]
      refine wpList_guard (by rfl) ?_
      go_wp2_with fail
      exact ⟨rfl, gb_refl _ _, rfl⟩
    · have h8 : u 20 = .bool true := hd 8 (by kernel_rfl)
      have h9 : u 21 = .pointer (some ⟨tb, 0, none⟩) := hd 9 (by kernel_rfl)
      clear hd ho
      rw [h8, h9]
      refine wpList_guard (by rfl) ?_
      have hBW := hg (Nat.le_refl _)
      have hBs : w1.heap.size ≤ w'.heap.size := hBW.size
      have r : w'.rangeAt tb 0 (x.l.map bv) := fun j z hz => (hBW.cell (p := ⟨tb, 0 + j, none⟩) htb).trans (rx j z hz)
      go_wp2_with ((with_reducible refine wpList_load_range (t := 26) tb 0 (x.l.map bv) _ r (by kernel_rfl) Try.underlying26 rfl (idSize _) ?_))
      exact ⟨rfl, gb_refl _ _, rfl⟩
    · have h8 : u 20 = .bool true := hd 8 (by kernel_rfl)
      clear hd ho
      rw [h8]
      refine wpList_guard (by rfl) ?_
      go_wp2_with fail
      exact ⟨rfl, gb_refl _ _, rfl⟩
    · have h8 : u 20 = .bool true := hd 8 (by kernel_rfl)
      have h11 : u 23 = .pointer (some ⟨tb, 32, none⟩) := hd 11 (by kernel_rfl)
      clear hd ho
      rw [h8, h11]
      refine wpList_guard (by rfl) ?_
      have hBW := hg (Nat.le_refl _)
      have hBs : w1.heap.size ≤ w'.heap.size := hBW.size
      have r : w'.rangeAt tb 32 (y.l.map bv) := fun j z hz => (hBW.cell (p := ⟨tb, 32 + j, none⟩) htb).trans (ry j z hz)
      go_wp2_with ((with_reducible refine wpList_load_range (t := 26) tb 32 (y.l.map bv) _ r (by kernel_rfl) Try.underlying26 rfl (idSize _) ?_))
      exact ⟨rfl, gb_refl _ _, rfl⟩
    · have h8 : u 20 = .bool true := hd 8 (by kernel_rfl)
      have h10 : u 22 = idv x := hd 10 (by kernel_rfl)
      have h12 : u 24 = idv y := hd 12 (by kernel_rfl)
      clear hd ho
      rw [h8, h10, h12]
      refine wpList_guard (by rfl) ?_
      go_wp2_with (go_at_call 21; ((with_reducible refine (node_any x y _).mono ?_); rintro e w3 ⟨rfl, g3⟩))
      exact ⟨rfl, g3, rfl⟩
    · have h8 : u 20 = .bool true := hd 8 (by kernel_rfl)
      clear hd ho
      rw [h8]
      refine wpList_guard (by rfl) ?_
      have hBW := hg (Nat.le_refl _)
      have hBs : w1.heap.size ≤ w'.heap.size := hBW.size
      go_wp2_with fail
      exact ⟨rfl, gb_alloc (gb_refl _ _) _, ⟨w'.heap.size, rfl, Ow.new w' 5 w1.heap.size 1 1 [bv 1] rfl (by decide) hBs⟩⟩
    · have h8 : u 20 = .bool true := hd 8 (by kernel_rfl)
      clear hd ho
      rw [h8]
      refine wpList_guard (by rfl) ?_
      go_wp2_with fail
      exact ⟨rfl, gb_refl _ _, rfl⟩
    · have h8 : u 20 = .bool true := hd 8 (by kernel_rfl)
      have h15 : u 27 = .pointer (some ⟨tb, 0, none⟩) := hd 15 (by kernel_rfl)
      clear hd ho
      rw [h8, h15]
      refine wpList_guard (by rfl) ?_
      go_wp2_with fail
      exact ⟨rfl, gb_refl _ _, rfl⟩
    · have h8 : u 20 = .bool true := hd 8 (by kernel_rfl)
      have h14 : ∃ b, (u 26) = .slice (some ⟨b, 0, none⟩) 1 1 ∧ Ow w1.heap.size w' 1 (.slice (some ⟨b, 0, none⟩) 1 1) 1 [bv 1] := hd 14 (by kernel_rfl)
      have h16 : u 28 = .slice (some ⟨tb, 0, none⟩) 32 32 := hd 16 (by kernel_rfl)
      clear hd ho
      rw [h8, h16]
      refine wpList_guard (by rfl) ?_
      have hBW := hg (Nat.le_refl _)
      have hBs : w1.heap.size ≤ w'.heap.size := hBW.size
      have r : w'.rangeAt tb 0 (x.l.map bv) := fun j z hz => (hBW.cell (p := ⟨tb, 0 + j, none⟩) htb).trans (rx j z hz)
      obtain ⟨b2, e2, ho2⟩ := h14
      have hsrc : Src Try.prog 1 24 (.slice (some ⟨tb, 0, none⟩) 32 32) 32 (x.l.map bv) w' := src_rd (P := Try.prog) (k := 1) (tx := 24) Try.underlying24 (Rd.mk' (NB := fun _ => True) (k := 1) r trivial (Nat.le_refl _) (by decide) (by rw [List.length_map, x.h])) (bytes_one _)
      rw [e2]
      clear e2
      go_wp2_with ((with_reducible refine wpList_append_grow_ow (s := .tmp 26) (x' := .tmp 28) (A := some ⟨b2, 0, none⟩) (by kernel_rfl) (by kernel_rfl) Try.underlying24 okU8 ho2 hsrc hBs (by decide) (by decide) (by decide) ?_); intro c4 w4 ho4 hg4)
      exact ⟨rfl, hg4, ⟨w'.heap.size, c4, rfl, ho4⟩⟩
    · have h8 : u 20 = .bool true := hd 8 (by kernel_rfl)
      clear hd ho
      rw [h8]
      refine wpList_guard (by rfl) ?_
      go_wp2_with fail
      exact ⟨rfl, gb_refl _ _, rfl⟩
    · have h8 : u 20 = .bool true := hd 8 (by kernel_rfl)
      have h18 : u 30 = .pointer (some ⟨tb, 32, none⟩) := hd 18 (by kernel_rfl)
      clear hd ho
      rw [h8, h18]
      refine wpList_guard (by rfl) ?_
      go_wp2_with fail
      exact ⟨rfl, gb_refl _ _, rfl⟩
    · have h8 : u 20 = .bool true := hd 8 (by kernel_rfl)
      have h17 : ∃ b c, (u 29) = .slice (some ⟨b, 0, none⟩) 33 c ∧ Ow w1.heap.size w' 1 (.slice (some ⟨b, 0, none⟩) 33 c) 33 ((1 :: x.l).map bv) := hd 17 (by kernel_rfl)
      have h19 : u 31 = .slice (some ⟨tb, 32, none⟩) 32 32 := hd 19 (by kernel_rfl)
      clear hd ho
      rw [h8, h19]
      refine wpList_guard (by rfl) ?_
      have hBW := hg (Nat.le_refl _)
      have hBs : w1.heap.size ≤ w'.heap.size := hBW.size
      have r : w'.rangeAt tb 32 (y.l.map bv) := fun j z hz => (hBW.cell (p := ⟨tb, 32 + j, none⟩) htb).trans (ry j z hz)
      obtain ⟨b2, c2, e2, ho2⟩ := h17
      have hsrc : Src Try.prog 1 24 (.slice (some ⟨tb, 32, none⟩) 32 32) 32 (y.l.map bv) w' := src_rd (P := Try.prog) (k := 1) (tx := 24) Try.underlying24 (Rd.mk' (NB := fun _ => True) (k := 1) r trivial (Nat.le_refl _) (by decide) (by rw [List.length_map, y.h])) (bytes_one _)
      rw [e2]
      clear e2
      have hcs : (1 :: x.l).map bv ++ y.l.map bv = (1 :: (x.l ++ y.l)).map bv := by simp
      have hlen65 : (1 :: (x.l ++ y.l)).length = 65 := by rw [List.length_cons, List.length_append, x.h, y.h]
      by_cases hroom : 65 ≤ c2
      · go_wp2_with ((with_reducible refine wpList_append_room_ow (s := .tmp 29) (x' := .tmp 31) b2 0 (by kernel_rfl) (by kernel_rfl) Try.underlying24 okU8 ho2 hsrc hroom ?_); intro ho4)
        refine ⟨rfl, R20.room ho2 _, ?_⟩
        rw [hcs] at ho4
        have := ho4.rd (NB := fun b => b < (w'.setCells b2 (0 + 33 * 1) (y.l.map bv)).heap.size) (fun b hb => (ho4.lt hb).2)
        unfold apartφ RL RdB
        rw [hlen65]; exact this
      have hc65 : c2 < 33 + 32 := by omega
      go_wp2_with ((with_reducible refine wpList_append_grow_ow (s := .tmp 29) (x' := .tmp 31) (A := some ⟨b2, 0, none⟩) (by kernel_rfl) (by kernel_rfl) Try.underlying24 okU8 ho2 hsrc hBs (by decide) (by decide) hc65 ?_); intro c4 w4 ho4 hg4)
      refine ⟨rfl, .inl hg4, ?_⟩
      rw [hcs] at ho4
      have := ho4.rd (NB := fun b => b < w4.heap.size) (fun b hb => (ho4.lt hb).2)
      unfold apartφ RL RdB
      rw [hlen65]; exact this
    · have h8 : u 20 = .bool true := hd 8 (by kernel_rfl)
      have h20 : RdB (fun b => b < w'.heap.size) w' (u 32) (1 :: (x.l ++ y.l)) := hd 20 (by kernel_rfl)
      clear hd ho
      rw [h8]
      refine wpList_guard (by rfl) ?_
      have hlen65 : (1 :: (x.l ++ y.l)).length = 65 := by rw [List.length_cons, List.length_append, x.h, y.h]
      obtain ⟨A5, c5, e5, _⟩ := h20.form
      rw [hlen65] at e5
      rw [e5] at h20 ⊢
      clear e5
      go_wp2_with fail
      refine ⟨rfl, gb_alloc (gb_refl _ _) _, RLL.new 24 [1 :: (x.l ++ y.l)] [.slice A5 _ c5] 1 rfl (by decide) rfl fun j l' hj => ?_⟩
      match j, hj with
      | 0, hj => cases hj; exact ⟨_, rfl, h20⟩
      | j + 1, hj => simp at hj
    · have h8 : u 20 = .bool true := hd 8 (by kernel_rfl)
      have h21 : RdBB (fun b => b < w'.heap.size) w' (u 33) ([1 :: (x.l ++ y.l)]) := hd 21 (by kernel_rfl)
      clear hd ho
      rw [h8]
      refine wpList_guard (by rfl) ?_
      have hlen : [1 :: (x.l ++ y.l)].flatten.length ≤ 1125899906842624 := by simp [x.h, y.h]
      go_wp2_with (go_at_call 16; ((with_reducible refine (of_any _ [1 :: (x.l ++ y.l)] _ _ h21 (fun _ h => h) hlen).mono ?_); rintro e w3 ⟨rfl, g3⟩))
      exact ⟨rfl, g3, by simp [apartφ]⟩
    · have h8 : u 20 = .bool true := hd 8 (by kernel_rfl)
      have h13 : u 25 = idv (sha (1 :: (x.l ++ y.l))) := hd 13 (by kernel_rfl)
      have h22 : u 34 = idv (sha (1 :: (x.l ++ y.l))) := hd 22 (by kernel_rfl)
      clear hd ho
      rw [h8, h13, h22]
      refine wpList_guard (by rfl) ?_
      go_wp2_with ((with_reducible refine wpList_eql_id idEq (sha (1 :: (x.l ++ y.l))) (sha (1 :: (x.l ++ y.l))) (by kernel_rfl) (by kernel_rfl) ?_))
      refine ⟨rfl, gb_refl _ _, ?_⟩
      show Value.bool _ = .bool true
      rw [beq_self_eq_true]
    · have h8 : u 20 = .bool true := hd 8 (by kernel_rfl)
      have h23 : u 35 = .bool true := hd 23 (by kernel_rfl)
      clear hd ho
      rw [h8, h23]
      go_wp2_with fail
      exact ⟨rfl, gb_refl _ _, rfl⟩

  case fin =>
    intro u w' hg hφ
    have h9 : u 36 = .bool true := hφ 24 (by omega) (fun _ _ => rfl)
    have hBW := hg (Nat.le_refl _)
    simp (decide := true) only [fillAct, List.mapIdx_cons, List.mapIdx_nil, Nat.reduceAdd, if_true, if_false, List.drop_succ_cons, List.drop_zero]
    rw [h9]
    clear hφ
    go_wp2_with fail
    go_ret
    exact ⟨rfl, gb_trans gW (gb_of_below hBW)⟩
end Go.Proofs.Ytgimgddlipbniaa
