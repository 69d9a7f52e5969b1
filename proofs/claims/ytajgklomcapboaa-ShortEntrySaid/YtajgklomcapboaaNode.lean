import Derived.Test.YtajgklomcapboaaLeaf
import Derived.Test.YtajgklomcapboaaCut
import Derived.Test.YtajgklomcapboaaSpecs
/- sum.Node: the sum of two sums behind a one. -/
namespace Sc
open Go Go.RowKit
def RL (w : World) (v : Value) (l : List UInt8) : Prop := RdB (fun b => b < w.heap.size) w v l
def RLL (w : World) (v : Value) (ls : List (List UInt8)) : Prop := RdBB (fun b => b < w.heap.size) w v ls
theorem RL.gr {w w' : World} {v : Value} {l : List UInt8} (h : RL w v l) (hg : w.grownBy w' none) : RL w' v l := Rd.mono (Rd.grown h hg (by simp)) fun b hb => Nat.lt_of_lt_of_le hb hg.size
theorem RLL.gr {w w' : World} {v : Value} {ls : List (List UInt8)} (h : RLL w v ls) (hg : w.grownBy w' none) : RLL w' v ls := by
  obtain ⟨vs, h1, h2⟩ := h
  refine ⟨vs, Rd.mono (Rd.grown h1 hg (by simp)) fun b hb => Nat.lt_of_lt_of_le hb hg.size, fun j l hl => ?_⟩
  obtain ⟨u, hu, hr⟩ := h2 j l hl
  exact ⟨u, hu, RL.gr hr hg⟩
theorem RL.of {NB : Nat → Prop} {w : World} {v : Value} {l : List UInt8} (h : RdB NB w v l) (hN : ∀ b, NB b → b < w.heap.size) : RL w v l := Rd.mono h hN
theorem RL.bk {w : World} {b : Nat} {t : TypeId} {l : List UInt8} (h : Bk w b t (l.map bv)) (n : Nat) (hn : n = l.length) (hm : n ≤ maxLen) : RL w (.slice (some ⟨b, 0, none⟩) n n) l := by
  subst hn; exact Rd.mk' h.range h.lt (Nat.le_refl _) hm (by simp)
theorem RLL.new {w : World} (t : TypeId) (ls : List (List UInt8)) (vs : List Value) (n : Nat) (hn : n = ls.length) (hm : n ≤ maxLen) (hl : vs.length = ls.length) (h : ∀ (j : Nat) l, ls[j]? = some l → ∃ u, vs[j]? = some u ∧ RL w u l) :
    RLL (w.alloc (.cells vs.toArray t)) (.slice (some ⟨w.heap.size, 0, none⟩) n n) ls :=
  RdBB.built ls vs t n hn hm hl h (fun b hb => by rw [World.size_alloc]; exact Nat.lt_succ_of_lt hb) (by rw [World.size_alloc]; exact Nat.lt_succ_self _)
end Sc
namespace Go.Proofs.Ytajgklomcapboaa
open Go.RowKit Go.Shelf Sc

def nodeφ (x y : Sc.Id) (i : Nat) (v : Value) (w : World) : Prop := match i with
  | 0 => RL w v [1]
  | 1 => RL w v x.l
  | 2 => RL w v y.l
  | 3 => RLL w v [[1], x.l, y.l]
  | _ => v = idv (sha (1 :: (x.l ++ y.l)))
theorem nodeφ_gr (x y : Sc.Id) : ∀ i v w w', nodeφ x y i v w → Gr w w' → nodeφ x y i v w' := by
  intro i v w w' h hg
  match i with
  | 0 => exact RL.gr h hg
  | 1 => exact RL.gr h hg
  | 2 => exact RL.gr h hg
  | 3 => exact RLL.gr h hg
  | i + 4 => exact h

set_option maxHeartbeats 1000000 in
theorem node_any (x y : Sc.Id) (w : World) : Calls Try.prog 55 #[idv x, idv y] w fun e w' => e = .returned (idv (sha (1 :: (x.l ++ y.l)))) ∧ w.grownBy w' none := by
  go_enter Try.func55, Try.ntmps55
  obtain ⟨r, hr⟩ : ∃ r, r = sha (1 :: (x.l ++ y.l)) := ⟨_, rfl⟩
  rw [← hr]
  have HR := Go.Lib.hid hr
  clear hr
  rw [show idv x = .agg (x.l.map bv).toArray from rfl, show idv y = .agg (y.l.map bv).toArray from rfl]
  go_wp2_with ((with_reducible refine wpList_alloc_row (E := 34) idZ infoId ?_))
  go_frame
  obtain ⟨W, hW⟩ : ∃ W, W = ((w.alloc (.cells (x.l.map bv).toArray 34)).alloc (.cells (y.l.map bv).toArray 34)).alloc (.cells idZ.toArray 34) := ⟨_, rfl⟩
  have s1 : ((w.alloc (.cells (x.l.map bv).toArray 34)).alloc (.cells (y.l.map bv).toArray 34)).heap.size = w.heap.size + 2 := by rw [World.size_alloc, World.size_alloc]
  have bx : Bk W w.heap.size 34 (x.l.map bv) := by rw [hW]; exact ((Bk.new w _ _).alloc _).alloc _
  have hby : Bk W (w.heap.size + 1) 34 (y.l.map bv) := by
    have := Bk.new (w.alloc (.cells (x.l.map bv).toArray 34)) 34 (y.l.map bv)
    rw [World.size_alloc] at this; rw [hW]; exact this.alloc _
  have bz : Bk W (w.heap.size + 2) 34 idZ := by
    have := Bk.new ((w.alloc (.cells (x.l.map bv).toArray 34)).alloc (.cells (y.l.map bv).toArray 34)) 34 idZ
    rw [s1] at this; rw [hW]; exact this
  have gW : w.grownBy W none := by rw [hW]; exact gb_alloc (gb_alloc (gb_alloc (gb_refl w none) _) _) _
  rw [← hW, s1]
  clear hW s1
  have hx32 := x.h
  have hy32 := y.h
  refine wp_region_specs 5 [5, 6, 7, 8, 9] (by kernel_rfl) (by kernel_rfl) (nodeφ x y) (nodeφ_gr x y) ?step ?fin
  case step =>
    intro i o ho hi u w' hg hd
    have hl3 : [[1], x.l, y.l].flatten.length ≤ 1125899906842624 := by simp [hx32, hy32]
    rcases (by omega : i = 0 ∨ i = 1 ∨ i = 2 ∨ i = 3 ∨ i = 4) with rfl | rfl | rfl | rfl | rfl <;> obtain rfl := Option.some.inj ho <;>
      simp (decide := true) only [fillAct, List.mapIdx_cons, List.mapIdx_nil, Nat.reduceAdd, if_true, if_false, List.getD_cons_zero, List.getD_cons_succ]
    · clear hd ho
      go_wp2_with fail
      exact ⟨rfl, gb_alloc (gb_refl _ _) _, RL.of (RdB.new w' 5 [1] (fun b => b = w'.heap.size) 1 rfl (by decide) rfl) (fun b hb => by rw [World.size_alloc, hb]; exact Nat.lt_succ_self _)⟩
    · clear hd ho
      go_wp2_with fail
      exact ⟨rfl, gb_refl _ _, RL.bk (bx.grown hg (by simp)) 32 hx32.symm (by decide)⟩
    · clear hd ho
      go_wp2_with fail
      exact ⟨rfl, gb_refl _ _, RL.bk (hby.grown hg (by simp)) 32 hy32.symm (by decide)⟩
    · have h0 : RL w' (u 5) [1] := hd 0 (by kernel_rfl)
      have h1 : RL w' (u 6) x.l := hd 1 (by kernel_rfl)
      have h2 : RL w' (u 7) y.l := hd 2 (by kernel_rfl)
      clear hd ho
      obtain ⟨A5, c5, e5, _⟩ := h0.form
      obtain ⟨A6, c6, e6, _⟩ := h1.form
      obtain ⟨A7, c7, e7, _⟩ := h2.form
      rw [e5] at h0 ⊢
      rw [e6] at h1 ⊢
      rw [e7] at h2 ⊢
      rw [hx32] at h1 ⊢
      rw [hy32] at h2 ⊢
      clear e5 e6 e7
      go_wp2_with fail
      refine ⟨rfl, gb_alloc (gb_refl _ _) _, RLL.new 27 [[1], x.l, y.l] [.slice A5 _ c5, .slice A6 _ c6, .slice A7 _ c7] 3 rfl (by decide) rfl fun j l hj => ?_⟩
      match j, hj with
      | 0, hj => cases hj; exact ⟨_, rfl, h0⟩
      | 1, hj => cases hj; exact ⟨_, rfl, h1⟩
      | 2, hj => cases hj; exact ⟨_, rfl, h2⟩
      | j + 3, hj => simp at hj
    · have h3 : RdBB (fun b => b < w'.heap.size) w' (u 8) [[1], x.l, y.l] := hd 3 (by kernel_rfl)
      clear hd ho
      go_wp2_with (go_at_call 46; ((with_reducible refine (of_any _ [[1], x.l, y.l] _ _ h3 (fun _ h => h) hl3).mono ?_); rintro e w3 ⟨rfl, g3⟩))
      exact ⟨rfl, g3, by simp [nodeφ]⟩
  case fin =>
    intro u w' hg hφ
    have h9 : u 9 = idv (sha (1 :: (x.l ++ y.l))) := hφ 4 (by omega)
    rw [← HR.out] at h9
    have h9' : u 9 = .agg (r.l.map bv).toArray := h9
    have bz' := bz.grown hg (by simp)
    simp (decide := true) only [fillAct, List.mapIdx_cons, List.mapIdx_nil, Nat.reduceAdd, if_true, if_false, List.drop_succ_cons, List.drop_zero]
    rw [h9']
    clear hφ
    go_wp2_with ((with_reducible refine wpList_store_bk (t := 34) (w.heap.size + 2) 34 idZ (r.l.map bv) bz' (by kernel_rfl) (by kernel_rfl) (idSize _) (idLen _) (idOne _) ?_); intro w5 h5 g5 z5)
    go_frame
    exact bodyPost_ret (results_id rfl _ _ (w.heap.size + 2) r rfl h5) rfl ⟨rfl, gb_trans_new (gb_trans gW hg) g5 (by omega)⟩
end Go.Proofs.Ytajgklomcapboaa
