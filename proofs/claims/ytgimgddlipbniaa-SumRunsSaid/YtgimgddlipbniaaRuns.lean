import Derived.Test.YtgimgddlipbniaaNode
import Derived.Test.YtgimgddlipbniaaRefOf
import Derived.Test.YtgimgddlipbniaaKnown
import Derived.Test.YtgimgddlipbniaaEql
set_option pp.deepTerms true
set_option pp.maxSteps 1000000
/- SumRuns: the walk. -/
namespace Go.Proofs.Ytgimgddlipbniaa
open Go.RowKit Go.Shelf Sc

/-- What 'sum.Of(b) == ref.Of(string(b))' makes, one operation behind the other. -/
def runsφ (l : List UInt8) (i : Nat) (v : Value) (w : World) : Prop := match i with
  | 0 => RL w v l
  | 1 => RLL w v [l]
  | 2 => v = idv (sha l)
  | 3 => RL w v l
  | 4 => v = sv l
  | 5 => v = idv (sha l)
  | _ => v = .bool true
theorem runsφ_gr (l : List UInt8) : ∀ i v w w', runsφ l i v w → Gr w w' → runsφ l i v w' := by
  intro i v w w' h hg
  match i with
  | 0 => exact RL.gr h hg
  | 1 => exact RLL.gr h hg
  | 2 => exact h
  | 3 => exact RL.gr h hg
  | 4 => exact h
  | 5 => exact h
  | i + 6 => exact h
theorem idEq : IdEq Try.prog 26 := idEq_dec (e := 5) Try.underlying26 Try.underlying5 (by kernel_rfl) (by kernel_rfl)
def filll (x : UInt8) (m i : Nat) : List UInt8 := List.replicate i x ++ List.replicate (m - i) 0
theorem filll_at (x : UInt8) (m i : Nat) (h : i < m) : ((filll x m i).map bv)[i]? = some (bv 0) := by
  unfold filll
  rw [List.getElem?_map, List.getElem?_append_right (by simp), List.length_replicate, Nat.sub_self, List.getElem?_replicate, if_pos (by omega)]; rfl
theorem filll_set (x : UInt8) (m i : Nat) (h : i < m) : ((filll x m i).map bv).set i (bv x) = (filll x m (i + 1)).map bv := by
  unfold filll
  rw [← List.map_set, List.set_append_right _ _ (by simp), List.length_replicate, Nat.sub_self, show m - i = (m - (i + 1)) + 1 by omega, List.replicate_succ, List.set_cons_zero, List.replicate_succ']
  simp
theorem filll_all (x : UInt8) (m : Nat) : filll x m m = List.replicate m x := by simp [filll]
theorem filll_zero (x : UInt8) (m : Nat) : filll x m 0 = List.replicate m 0 := by simp [filll]
set_option maxHeartbeats 2000000 in
theorem runs_walk (x : UInt8) (n : Int) (w : World) : Calls Try.prog 5 #[.int .u8 (x.toNat : Int), .int .i64 n] w fun e w' => e = .returned (.bool true) ∧ w.grownBy w' none := by
  go_enter Try.func5, Try.ntmps5
  by_cases h : n < 0 ∨ 300 < n
  · go_wp2_with (go_at_call 15; ((with_reducible refine (known_any _).mono ?_); rintro e w1 ⟨rfl, g1⟩))
    all_goals (go_ret; exact ⟨rfl, g1⟩)
  · obtain ⟨m, rfl⟩ : ∃ m : Nat, n = m := ⟨n.toNat, by omega⟩
    have hm3 : m ≤ 300 := by omega
    clear h
    go_wp2_with (first
    | (go_at_call 15; ((with_reducible refine (known_any _).mono ?_); rintro e w1 ⟨rfl, g1⟩; have hm : m ≤ 1099511627776 := by omega))
    | ((with_reducible refine wpList_make_bytes (t := 24) (x := .tmp 15) (y := .tmp 15) Try.underlying24 infoU8 m hm (by kernel_rfl) (by kernel_rfl) ?_)))
    have b0 : Bk (w1.alloc (.cells (Array.replicate m (bv 0)) 5)) w1.heap.size 5 ((filll x m 0).map bv) := by
      have := Bk.new w1 5 (List.replicate m (bv 0))
      rw [List.toArray_replicate] at this
      rw [filll_zero, List.map_replicate]; exact this
    have g2 := gb_alloc g1 (.cells (Array.replicate m (bv 0)) 5)
    have hB : w.heap.size ≤ w1.heap.size := g1.size
    go_loopw [19] (fun v wr => ∃ i : Nat, i ≤ m ∧ v = .int .i64 i ∧ Hid (w.grownBy wr none) ∧ Hid (Bk wr w1.heap.size 5 ((filll x m i).map bv))) (fun v _ => m - (intOf v).toNat)
    case atStart => exact ⟨0, Nat.zero_le _, rfl, Go.Lib.hid g2, Go.Lib.hid b0⟩
    case round =>
      clear g1 g2 b0
      obtain ⟨i, hi, rfl, Hg, Hb⟩ := hrel
      by_cases hlt : i < m
      · have c0 := Hb.out.cellAt (filll_at x m i hlt)
        have f0 := Hb.out.frozen i
        have hI : (0 : Int) ≤ (i : Int) ∧ (i : Int) < 300 := by omega
        go_wp2_with fail
        go_roundw
        case rel =>
          refine ⟨i + 1, by omega, by go_num, Go.Lib.hid (gb_set_new Hg.out _ _ hB), Go.Lib.hid ?_⟩
          rw [← filll_set x m i hlt]; exact Hb.out.set i _
        case measure => simp [intOf]; omega
      · obtain rfl : i = m := by omega
        have hl' : decide (i < i) = false := decide_eq_false (by omega)
        go_wp2_with fail
        have hr : RL wr (.slice (some ⟨w1.heap.size, 0, none⟩) i i) (List.replicate i x) := by
          have h := Hb.out; rw [filll_all] at h
          exact RL.bk h i (by simp) (Nat.le_trans hm (by decide))
        have hll : (List.replicate i x).length ≤ 1099511627776 := by rw [List.length_replicate]; exact hm
        generalize List.replicate i x = l at hr hll
        have gW := Hg.out
        clear Hb Hg hm hm3 hi hlt hl' hB
        have hfl : [l].flatten = l := by simp
        refine wp_region_specs 7 [27, 28, 29, 30, 31, 32, 33] (by kernel_rfl) (by kernel_rfl) (runsφ l) (runsφ_gr l) ?step ?fin
        case step =>
          intro k o ho hk u w' hg hd
          rcases (by omega : k = 0 ∨ k = 1 ∨ k = 2 ∨ k = 3 ∨ k = 4 ∨ k = 5 ∨ k = 6) with rfl | rfl | rfl | rfl | rfl | rfl | rfl <;> obtain rfl := Option.some.inj ho <;>
            simp (decide := true) only [fillAct, List.mapIdx_cons, List.mapIdx_nil, Nat.reduceAdd, if_true, if_false, List.getD_cons_zero, List.getD_cons_succ]
          · clear hd ho
            go_wp2_with fail
            exact ⟨rfl, gb_refl _ _, hr.gr hg⟩
          · have h0 : RL w' (u 27) l := hd 0 (by kernel_rfl)
            clear hd ho
            obtain ⟨A5, c5, e5, _⟩ := h0.form
            rw [e5] at h0 ⊢
            clear e5
            go_wp2_with fail
            refine ⟨rfl, gb_alloc (gb_refl _ _) _, RLL.new 24 [l] [.slice A5 _ c5] 1 rfl (by decide) rfl fun j l' hj => ?_⟩
            match j, hj with
            | 0, hj => cases hj; exact ⟨_, rfl, h0⟩
            | j + 1, hj => simp at hj
          · have h1 : RdBB (fun b => b < w'.heap.size) w' (u 28) [l] := hd 1 (by kernel_rfl)
            clear hd ho
            have hlen : [l].flatten.length ≤ 1125899906842624 := by rw [hfl]; omega
            go_wp2_with (go_at_call 16; ((with_reducible refine (of_any _ [l] _ _ h1 (fun _ h => h) hlen).mono ?_); rintro e w3 ⟨rfl, g3⟩))
            exact ⟨rfl, g3, by simp [runsφ]⟩
          · clear hd ho
            go_wp2_with fail
            exact ⟨rfl, gb_refl _ _, hr.gr hg⟩
          · have h3 : RdB (fun b => b < w'.heap.size) w' (u 30) l := hd 3 (by kernel_rfl)
            clear hd ho
            go_wp2_with ((with_reducible refine wpList_conv_bs (x := .tmp 30) (v := u 30) Try.underlying24 Try.underlying5 Try.underlying9 l (by kernel_rfl) h3 ?_))
            exact ⟨rfl, gb_refl _ _, rfl⟩
          · have h4 : u 31 = sv l := hd 4 (by kernel_rfl)
            clear hd ho
            rw [h4]
            go_wp2_with (go_at_call 17; ((with_reducible refine (refOf_any l hll _).mono ?_); rintro e w3 ⟨rfl, g3⟩))
            exact ⟨rfl, g3, rfl⟩
          · have h2 : u 29 = idv (sha l) := hd 2 (by kernel_rfl)
            have h5 : u 32 = idv (sha l) := hd 5 (by kernel_rfl)
            clear hd ho
            rw [h2, h5]
            go_wp2_with ((with_reducible refine wpList_eql_id idEq (sha l) (sha l) (by kernel_rfl) (by kernel_rfl) ?_))
            refine ⟨rfl, gb_refl _ _, ?_⟩
            show Value.bool ((sha l).l == (sha l).l) = .bool true
            rw [beq_self_eq_true]
        case fin =>
          intro u w' hg hφ
          have h6 : u 33 = .bool true := hφ 6 (by omega)
          simp (decide := true) only [fillAct, List.mapIdx_cons, List.mapIdx_nil, Nat.reduceAdd, if_true, if_false, List.drop_succ_cons, List.drop_zero]
          rw [h6]
          clear hφ
          go_wp2_with fail
          go_ret
          exact ⟨rfl, gb_trans gW hg⟩
end Go.Proofs.Ytgimgddlipbniaa
