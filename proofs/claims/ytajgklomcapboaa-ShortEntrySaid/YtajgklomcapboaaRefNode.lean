import Derived.Test.YtajgklomcapboaaRefText
/- scrivenerref01.Node: the sum of two sums. -/
namespace Go.Proofs.Ytajgklomcapboaa
open Go.RowKit Go.Shelf Sc

def rnodeφ (x y : Sc.Id) (i : Nat) (v : Value) (_w : World) : Prop := match i with
  | 0 => v = idv x
  | 1 => v = sv x.l
  | 2 => v = sv (1 :: x.l)
  | 3 => v = idv y
  | 4 => v = sv y.l
  | 5 => v = sv (1 :: (x.l ++ y.l))
  | _ => v = idv (sha (1 :: (x.l ++ y.l)))
theorem rnodeφ_gr (x y : Sc.Id) : ∀ i v w w', rnodeφ x y i v w → Gr w w' → rnodeφ x y i v w' := by
  intro i v w w' h hg
  match i with
  | 0 => exact h
  | 1 => exact h
  | 2 => exact h
  | 3 => exact h
  | 4 => exact h
  | 5 => exact h
  | i + 6 => exact h

set_option maxHeartbeats 1000000 in
theorem refNode_any (x y : Sc.Id) (w : World) : Calls Try.prog 56 #[idv x, idv y] w fun e w' => e = .returned (idv (sha (1 :: (x.l ++ y.l)))) ∧ w.grownBy w' none := by
  go_enter Try.func56, Try.ntmps56
  obtain ⟨r, hr⟩ : ∃ r, r = sha (1 :: (x.l ++ y.l)) := ⟨_, rfl⟩
  rw [← hr]
  have HR := Go.Lib.hid hr
  clear hr
  rw [show idv x = .agg (x.l.map bv).toArray from rfl, show idv y = .agg (y.l.map bv).toArray from rfl]
  go_wp2_with ((with_reducible refine wpList_alloc_row (E := 34) idZ infoId ?_))
  go_frame
  obtain ⟨W, hW⟩ : ∃ W, W = ((w.alloc (.cells (x.l.map bv).toArray 34)).alloc (.cells (y.l.map bv).toArray 34)).alloc (.cells idZ.toArray 34) := ⟨_, rfl⟩
  have s1 : ((w.alloc (.cells (x.l.map bv).toArray 34)).alloc (.cells (y.l.map bv).toArray 34)).heap.size = w.heap.size + 2 := by rw [World.size_alloc, World.size_alloc]
  have bx : Bk W w.heap.size 34 (x.l.map bv) := by rw [hW]; exact ((Bk.new w _ _).alloc _).alloc _
  have hby : Bk W (w.heap.size + 1) 34 (y.l.map bv) := by
    have := Bk.new (w.alloc (.cells (x.l.map bv).toArray 34)) 34 (y.l.map bv)
    rw [World.size_alloc] at this; rw [hW]; exact this.alloc _
  have bz : Bk W (w.heap.size + 2) 34 idZ := by
    have := Bk.new ((w.alloc (.cells (x.l.map bv).toArray 34)).alloc (.cells (y.l.map bv).toArray 34)) 34 idZ
    rw [s1] at this; rw [hW]; exact this
  have gW : w.grownBy W none := by rw [hW]; exact gb_alloc (gb_alloc (gb_alloc (gb_refl w none) _) _) _
  rw [← hW, s1]
  clear hW s1
  have hx32 := x.h
  have hy32 := y.h
  have hl1 : [(1 : UInt8)].length + x.l.length ≤ 9223372036854775807 := by simp; omega
  have hl2 : ((1 : UInt8) :: x.l).length + y.l.length ≤ 9223372036854775807 := by simp; omega
  have hl3 : ((1 : UInt8) :: (x.l ++ y.l)).length ≤ 1099511627776 := by simp; omega
  refine wp_region_specs 7 [5, 6, 7, 8, 9, 10, 11] (by kernel_rfl) (by kernel_rfl) (rnodeφ x y) (rnodeφ_gr x y) ?step ?fin
  case step =>
    intro i o ho hi u w' hg hd
    rcases (by omega : i = 0 ∨ i = 1 ∨ i = 2 ∨ i = 3 ∨ i = 4 ∨ i = 5 ∨ i = 6) with rfl | rfl | rfl | rfl | rfl | rfl | rfl <;> obtain rfl := Option.some.inj ho <;>
      simp (decide := true) only [fillAct, List.mapIdx_cons, List.mapIdx_nil, Nat.reduceAdd, if_true, if_false, List.getD_cons_zero, List.getD_cons_succ]
    · clear hd ho
      have b := bx.grown hg (by simp)
      go_wp2_with ((with_reducible refine wpList_load_bk (t := 34) w.heap.size _ (x.l.map bv) _ b (by kernel_rfl) Try.underlying34 rfl (idSize _) ?_))
      exact ⟨rfl, gb_refl _ _, rfl⟩
    · have h0 : u 5 = idv x := hd 0 (by kernel_rfl)
      clear hd ho
      rw [h0]
      go_wp2_with (go_at_call 49; ((with_reducible refine (text_any x _).mono ?_); rintro e w3 ⟨rfl, g3⟩))
      exact ⟨rfl, g3, rfl⟩
    · have h0 : u 6 = sv x.l := hd 1 (by kernel_rfl)
      clear hd ho
      rw [h0]
      go_wp2_with ((with_reducible refine wpList_add_str (z := .tmp 6) [1] x.l (by kernel_rfl) (by kernel_rfl) hl1 ?_))
      exact ⟨rfl, gb_refl _ _, rfl⟩
    · clear hd ho
      have b := hby.grown hg (by simp)
      go_wp2_with ((with_reducible refine wpList_load_bk (t := 34) (w.heap.size + 1) _ (y.l.map bv) _ b (by kernel_rfl) Try.underlying34 rfl (idSize _) ?_))
      exact ⟨rfl, gb_refl _ _, rfl⟩
    · have h0 : u 8 = idv y := hd 3 (by kernel_rfl)
      clear hd ho
      rw [h0]
      go_wp2_with (go_at_call 49; ((with_reducible refine (text_any y _).mono ?_); rintro e w3 ⟨rfl, g3⟩))
      exact ⟨rfl, g3, rfl⟩
    · have h0 : u 7 = sv (1 :: x.l) := hd 2 (by kernel_rfl)
      have h1 : u 9 = sv y.l := hd 4 (by kernel_rfl)
      clear hd ho
      rw [h0, h1]
      go_wp2_with ((with_reducible refine wpList_add_str (x := .tmp 7) (z := .tmp 9) (1 :: x.l) y.l (by kernel_rfl) (by kernel_rfl) hl2 ?_))
      exact ⟨rfl, gb_refl _ _, rfl⟩
    · have h0 : u 10 = sv (1 :: (x.l ++ y.l)) := hd 5 (by kernel_rfl)
      clear hd ho
      rw [h0]
      go_wp2_with (go_at_call 53; ((with_reducible refine (refOf_any _ hl3 _).mono ?_); rintro e w3 ⟨rfl, g3⟩))
      exact ⟨rfl, g3, rfl⟩
  case fin =>
    intro u w' hg hφ
    have h9 : u 11 = idv (sha (1 :: (x.l ++ y.l))) := hφ 6 (by omega)
    rw [← HR.out] at h9
    have h9' : u 11 = .agg (r.l.map bv).toArray := h9
    have bz' := bz.grown hg (by simp)
    simp (decide := true) only [fillAct, List.mapIdx_cons, List.mapIdx_nil, Nat.reduceAdd, if_true, if_false, List.drop_succ_cons, List.drop_zero]
    rw [h9']
    clear hφ
    go_wp2_with ((with_reducible refine wpList_store_bk (t := 34) (w.heap.size + 2) 34 idZ (r.l.map bv) bz' (by kernel_rfl) (by kernel_rfl) (idSize _) (idLen _) (idOne _) ?_); intro w5 h5 g5 z5)
    go_frame
    exact bodyPost_ret (results_id rfl _ _ (w.heap.size + 2) r rfl h5) rfl ⟨rfl, gb_trans_new (gb_trans gW hg) g5 (by omega)⟩
end Go.Proofs.Ytajgklomcapboaa
