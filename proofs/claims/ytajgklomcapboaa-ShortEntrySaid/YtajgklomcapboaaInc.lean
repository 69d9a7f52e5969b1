import Derived.Test.YtajgklomcapboaaChk
/- proof: half, Inclusion. -/
namespace Sc
open Go Go.RowKit
def sliceLen : Value → Nat
  | .slice _ n _ => n
  | _ => 0
theorem way_len40 {l : List Sc.Id} {a : Nat} (h : l.length ≤ 1099511627776) : (way nd e0 l a).length ≤ 40 := by
  rw [way_length nd e0 l.length l a (Nat.le_refl _)]
  exact dirs_len 40 _ _ h
theorem cells_takeTo {l : List Sc.Id} {k : Nat} (h : k ≤ l.length) : (l.take k).length = k := by rw [List.length_take]; omega
theorem RdI.toTake {NB : Nat → Prop} {w : World} {A : Option Addr} {n c k : Nat} {l : List Sc.Id} (h : RdI NB w (.slice A n c) l) (hn : l.length = n) (hk : k ≤ n) : RdI NB w (.slice A k c) (l.take k) := by
  subst hn
  have h1 := Rd.takeTo h k hk
  rw [idCells_take] at h1
  unfold RdI; rw [cells_takeTo hk]; exact h1
theorem RdI.toDrop {NB : Nat → Prop} {w : World} {v9 : Value} {n k : Nat} {l : List Sc.Id} (h : Rd NB w 32 v9 (n - k) (((idCells l).drop (k * 32)).take ((n - k) * 32))) (hn : l.length = n) : RdI NB w v9 (l.drop k) := by
  rw [idCells_drop, List.take_of_length_le (by rw [idCells_length, List.length_drop, hn]; exact Nat.le_refl _)] at h
  unfold RdI; rw [List.length_drop, hn]; exact h
theorem Rd.back {NB : Nat → Prop} {w w' : World} {v : Value} {k n : Nat} {cs : List Value} (h : Rd NB w' k v n cs) (hg : w.grownBy w' none) (hN : ∀ b, NB b → b < w.heap.size) : Rd NB w k v n cs :=
  h.keep fun b o u hb hc => by rw [← World.cell?_of_block (hg.block b (hN b hb) (by simp))]; exact hc
end Sc
namespace Go.Proofs.Ytajgklomcapboaa
open Go.RowKit Go.Shelf Sc

set_option maxHeartbeats 1000000 in
theorem half_any (n : Nat) (h2 : 2 ≤ n) (hn : n ≤ 1099511627776) (w : World) : Calls Try.prog 54 #[.int .i64 (n : Int)] w fun e w' => e = .returned (.int .i64 (half n : Int)) ∧ w' = w := by
  go_enter Try.func54, Try.ntmps54
  have hnI : (2 : Int) ≤ (n : Int) ∧ (n : Int) ≤ 1099511627776 := by omega
  obtain ⟨z, hz0⟩ : ∃ z, z = half n := ⟨_, rfl⟩
  rw [← hz0]
  have HZ := Go.Lib.hid hz0
  clear hz0
  go_wp2_with fail
  go_loop [3] (fun kv => ∃ (k j : Nat), kv = .int .i64 (k : Int) ∧ Hid (k = 2 ^ j) ∧ k < n) (fun kv => n - (intOf kv).toNat)
  case atStart => exact ⟨1, 0, rfl, Go.Lib.hid rfl, by omega⟩
  case round =>
    obtain ⟨k, j, rfl, HKJ, hkq⟩ := hrel
    have hk1 : 1 ≤ k := by rw [HKJ.out]; exact Nat.one_le_two_pow
    have hkI : (1 : Int) ≤ (k : Int) ∧ (k : Int) < 1099511627776 := by omega
    by_cases h : k * 2 < n
    · have hd2 : decide ((k : Int) * 2 < (n : Int)) = true := decide_eq_true (by omega)
      go_wp2_with fail
      exact ⟨⟨k * 2, j + 1, by push_cast; rfl, Go.Lib.hid (by rw [Nat.pow_succ, HKJ.out]), by omega⟩, by simp only [intOf]; omega⟩
    · have hd2 : decide ((k : Int) * 2 < (n : Int)) = false := decide_eq_false (by omega)
      have hhalf : half n = k := by rw [HKJ.out]; exact half_of (by rw [← HKJ.out]; exact hkq) (by rw [← HKJ.out]; omega)
      obtain rfl : z = k := by rw [HZ.out]; exact hhalf
      clear hhalf
      go_wp2_with fail
      go_ret
      exact ⟨rfl, rfl⟩


set_option maxHeartbeats 4000000 in
set_option maxRecDepth 100000 in
theorem inc_any (v : Value) (L : List Sc.Id) (a0 : Nat) (NB : Nat → Prop) (w : World) (hv : RdI NB w v L) (hNB : ∀ b, NB b → b < w.heap.size) (ha : a0 < L.length) (hL : L.length ≤ 1099511627776) :
    Calls Try.prog 33 #[v, .int .i64 (a0 : Int)] w fun e w' => ∃ v', e = .returned (.tuple #[v', .int .i64 0]) ∧ Ow w.heap.size w' 32 v' (way nd e0 L a0).length (idCells (way nd e0 L a0)) ∧ w.grownBy w' none := by
  go_enter Try.func33, Try.ntmps33
  obtain ⟨A, c, rfl, hc⟩ := Rd.form hv
  have hw40 := way_len40 (l := L) (a := a0) hL
  obtain ⟨Y, hY⟩ : ∃ Y, Y = way nd e0 L a0 := ⟨_, rfl⟩
  rw [← hY] at hw40 ⊢
  have HY := Go.Lib.hid hY
  have HV := Go.Lib.hid (show RdI (fun b => b < w.heap.size) w (.slice A L.length c) L from Rd.mono hv hNB)
  obtain ⟨n0, hn0⟩ : ∃ n0, n0 = L.length := ⟨_, rfl⟩
  rw [← hn0] at ha hL hc
  have HN0 := Go.Lib.hid hn0
  rw [← hn0]
  have haI : (0 : Int) ≤ (a0 : Int) ∧ (a0 : Int) < (n0 : Int) ∧ (n0 : Int) ≤ 1099511627776 := by omega
  have hd1 : decide ((a0 : Int) < 0) = false := decide_eq_false (by omega)
  have hd2 : decide ((n0 : Int) ≤ (a0 : Int)) = false := decide_eq_false (by omega)
  have hd2' : decide (n0 ≤ a0) = false := decide_eq_false (by omega)
  clear hY hv hn0
  go_wp2_with fail
  go_loopw [0, 1, 6] (fun v0 v1 v6 wr => ∃ (l : List Sc.Id) (n a : Nat) (ups : List Sc.Id) (A : Option Addr) (c : Nat) (A6 : Option Addr) (n6 c6 : Nat), v0 = .slice A n c ∧ v1 = .int .i64 (a : Int) ∧ v6 = .slice A6 n6 c6 ∧ a < n ∧ n ≤ n0 ∧ n ≤ c ∧ n6 + 1 ≤ 41 ∧
      Hid (l.length = n) ∧ Hid (ups.length = n6) ∧ Hid (RdI (fun b => b < w.heap.size) w (.slice A n c) l) ∧ Hid (Ow w.heap.size wr 32 (.slice A6 n6 c6) n6 (idCells ups)) ∧ Hid (Y = way nd e0 l a ++ ups.reverse) ∧ Hid (w.grownBy wr none))
    (fun v0 _ _ _ => sliceLen v0)
  case atStart => exact ⟨L, n0, a0, [], A, c, none, 0, 0, rfl, rfl, rfl, ha, Nat.le_refl _, hc, by omega, Go.Lib.hid HN0.out.symm, Go.Lib.hid rfl, Go.Lib.hid (by have h := HV.out; rw [← HN0.out] at h; exact h), Go.Lib.hid (Ow.nil _ _ _), Go.Lib.hid (by rw [HY.out]; simp), Go.Lib.hid (gb_refl _ _)⟩
  case round =>
    obtain ⟨l, n, a, ups, A, c, A6, n6, c6, rfl, rfl, rfl, han, hnn, hnc, hn6, HLN, HUN, HRD, HOW, HWY, HGW⟩ := hrel
    clear HV HN0 hc hd1 hd2 hd2' HY
    have hnI : (0 : Int) ≤ (a : Int) ∧ (a : Int) < (n : Int) ∧ (n : Int) ≤ 1099511627776 := by omega
    by_cases h1 : 1 < n
    · have hd1 : decide ((1 : Int) < (n : Int)) = true := decide_eq_true (by omega)
      obtain ⟨k, hk0⟩ : ∃ k, k = half n := ⟨_, rfl⟩
      have hhalf : ∀ w : World, Calls Try.prog 54 #[.int .i64 (n : Int)] w fun e w' => e = .returned (.int .i64 (k : Int)) ∧ w' = w := fun w => by rw [hk0]; exact half_any n (by omega) (by omega) w
      have hk1 : 1 ≤ k := by rw [hk0]; exact half_pos n
      have hk2 : k < n := by rw [hk0]; exact half_lt (by omega)
      have hkI : (1 : Int) ≤ (k : Int) ∧ (k : Int) < (n : Int) := by omega
      have hncI : (n : Int) ≤ (c : Int) := by omega
      have hrdw := Rd.grown HRD.out HGW.out (by simp)
      have hlk : RdI (fun b => b < w.heap.size) w (.slice A k c) (l.take k) := RdI.toTake HRD.out HLN.out (by omega)
      have hlkr : RdI (fun b => b < w.heap.size) wr (.slice A k c) (l.take k) := Rd.grown hlk HGW.out (by simp)
      have hdl : (l.drop k).length = n - k := by rw [List.length_drop, HLN.out]
      have htl : (l.take k).length = k := cells_takeTo (by rw [HLN.out]; omega)
      have hNw : ∀ b, (fun b => b < w.heap.size) b → b < wr.heap.size := fun b hb => Nat.lt_of_lt_of_le hb HGW.out.size
      have how := HOW.out
      have hgw := HGW.out
      have HK := Go.Lib.hid hk0
      clear hk0
      have h63 : n6 + 1 ≤ maxLen := Nat.le_trans hn6 (by decide)
      have hby : (n6 + 1) * 32 ≤ 140737488355328 := by omega
      by_cases hak : a < k
      · have hd2 : decide ((a : Int) < (k : Int)) = true := decide_eq_true (by omega)
        obtain ⟨R, hR0⟩ : ∃ R, R = root nd e0 (l.drop k) := ⟨_, rfl⟩
        have hway := way_lo nd e0 (l := l) (a := a) (by rw [HLN.out]; omega) (by rw [HLN.out, ← HK.out]; exact hak)
        rw [HLN.out, ← HK.out, ← hR0] at hway
        have hwy2 : Y = way nd e0 (l.take k) a ++ (ups ++ [R]).reverse := by rw [HWY.out, hway]; simp
        have HW2 := Go.Lib.hid hwy2
        have HR0 := Go.Lib.hid hR0
        have hdl40 : (l.drop k).length ≤ 1099511627776 := by omega
        clear hway hwy2 hR0
        go_wp2_with (first
          | (go_at_call 54; ((with_reducible refine (hhalf _).mono ?_); rintro e wr ⟨rfl, rfl⟩))
          | ((with_reducible refine wpList_cut (x := .tmp 28) Try.underlying41 (by kernel_rfl) (show Rd (fun b => b < w.heap.size) wr 32 (.slice A n c) n (idCells l) from by have h := hrdw; unfold RdI at h; rw [HLN.out] at h; exact h) (by kernel_rfl) k n (.inr ⟨_, rfl, by kernel_rfl⟩) (.inl ⟨rfl, rfl⟩) (Nat.le_of_lt hk2) (Nat.le_refl _) ?_); intro v9 hv9
             have hv9' := RdI.toDrop hv9 HLN.out)
          | (go_at_call 25; ((with_reducible refine (treeRoot_any v9 (l.drop k) _ _ hv9' hNw hdl40).mono ?_); rintro e w5 ⟨rfl, g5⟩; rw [← HR0.out])
             have ho5 := (how.grown g5 (fun _ _ => by simp)).alloc (.cells (R.l.map bv).toArray 34)
             have hs5 : Src Try.prog 32 41 (.slice (some ⟨w5.heap.size, 0, none⟩) 1 1) 1 (R.l.map bv) (w5.alloc (.cells (R.l.map bv).toArray 34)) := src_new (P := Try.prog) Try.underlying41 w5 34 32 1 (R.l.map bv) (by rw [List.length_map, R.h]) (bytes_one _)
             have hB5 : w.heap.size ≤ (w5.alloc (.cells (R.l.map bv).toArray 34)).heap.size := by rw [World.size_alloc]; have := hgw.size; have := g5.size; omega)
          | ((with_reducible refine wpList_build_id (y := .tmp 31) R (by kernel_rfl) ?_))
          | ((with_reducible refine wpList_append_ow (s := .tmp 27) (x := .tmp 32) (v := .slice A6 n6 c6) (by kernel_rfl) (by kernel_rfl) Try.underlying41 okId ho5 hs5 hB5 h63 hby ?_); intro v3 w3 ho3 hg3 hb3; obtain ⟨A3, c3, rfl⟩ := ho3.form))
        have gw3 := Ow.gb (gb_alloc (gb_trans hgw g5) _) ho5 (Nat.le_refl _) hg3
        have hbnd : n6 + 1 + 1 ≤ 41 := by have := congrArg List.length HW2.out; rw [List.length_append, List.length_reverse, List.length_append, List.length_singleton, HUN.out] at this; omega
        rw [← idCells_one, ← idCells_append] at ho3
        go_roundw
        case rel => exact ⟨l.take k, k, a, ups ++ [R], A, c, A3, n6 + 1, c3, rfl, rfl, rfl, hak, by omega, by omega, hbnd, Go.Lib.hid htl, Go.Lib.hid (by rw [List.length_append, HUN.out]; rfl), Go.Lib.hid hlk, Go.Lib.hid ho3, HW2, Go.Lib.hid gw3⟩
        case measure => simp only [sliceLen]; omega
      · have hd2 : decide ((a : Int) < (k : Int)) = false := decide_eq_false (by omega)
        obtain ⟨R, hR0⟩ : ∃ R, R = root nd e0 (l.take k) := ⟨_, rfl⟩
        have hway := way_hi nd e0 (l := l) (a := a) (by rw [HLN.out]; omega) (by rw [HLN.out, ← HK.out]; omega)
        rw [HLN.out, ← HK.out, ← hR0] at hway
        have hwy2 : Y = way nd e0 (l.drop k) (a - k) ++ (ups ++ [R]).reverse := by rw [HWY.out, hway]; simp
        have HW2 := Go.Lib.hid hwy2
        have HR0 := Go.Lib.hid hR0
        have htl40 : (l.take k).length ≤ 1099511627776 := by omega
        clear hway hwy2 hR0
        go_wp2_with (first
          | (go_at_call 54; ((with_reducible refine (hhalf _).mono ?_); rintro e wr ⟨rfl, rfl⟩))
          | (go_at_call 25; ((with_reducible refine (treeRoot_any (.slice A k c) (l.take k) _ _ hlkr hNw htl40).mono ?_); rintro e w5 ⟨rfl, g5⟩; rw [← HR0.out])
             have ho5 := (how.grown g5 (fun _ _ => by simp)).alloc (.cells (R.l.map bv).toArray 34)
             have hs5 : Src Try.prog 32 41 (.slice (some ⟨w5.heap.size, 0, none⟩) 1 1) 1 (R.l.map bv) (w5.alloc (.cells (R.l.map bv).toArray 34)) := src_new (P := Try.prog) Try.underlying41 w5 34 32 1 (R.l.map bv) (by rw [List.length_map, R.h]) (bytes_one _)
             have hB5 : w.heap.size ≤ (w5.alloc (.cells (R.l.map bv).toArray 34)).heap.size := by rw [World.size_alloc]; have := hgw.size; have := g5.size; omega)
          | ((with_reducible refine wpList_build_id (y := .tmp 41) R (by kernel_rfl) ?_))
          | ((with_reducible refine wpList_append_ow (s := .tmp 37) (x := .tmp 42) (v := .slice A6 n6 c6) (by kernel_rfl) (by kernel_rfl) Try.underlying41 okId ho5 hs5 hB5 h63 hby ?_); intro v3 w3 ho3 hg3 hb3; obtain ⟨A3, c3, rfl⟩ := ho3.form
             have gw3 := Ow.gb (gb_alloc (gb_trans hgw g5) _) ho5 (Nat.le_refl _) hg3
             have hrd3 : Rd (fun b => b < w.heap.size) w3 32 (.slice A n c) n (idCells l) := by have h := Rd.grown HRD.out gw3 (by simp); unfold RdI at h; rw [HLN.out] at h; exact h)
          | ((with_reducible refine wpList_cut (x := .tmp 44) Try.underlying41 (by kernel_rfl) hrd3 (by kernel_rfl) k n (.inr ⟨_, rfl, by kernel_rfl⟩) (.inl ⟨rfl, rfl⟩) (Nat.le_of_lt hk2) (Nat.le_refl _) ?_); intro v9 hv9
             have hv9' := RdI.toDrop hv9 HLN.out
             have hv9w : RdI (fun b => b < w.heap.size) w v9 (l.drop k) := Rd.back hv9' gw3 (fun _ h => h)
             obtain ⟨A9, c9, rfl, hc9⟩ := Rd.form hv9w
             rw [hdl] at hc9 hv9w))
        have hbnd : n6 + 1 + 1 ≤ 41 := by have := congrArg List.length HW2.out; rw [List.length_append, List.length_reverse, List.length_append, List.length_singleton, HUN.out] at this; omega
        rw [← idCells_one, ← idCells_append] at ho3
        go_roundw
        case rel => exact ⟨l.drop k, n - k, a - k, ups ++ [R], A9, c9, A3, n6 + 1, c3, by rfl, by rw [show ((a - k : Nat) : Int) = (a : Int) - (k : Int) from by omega], rfl, by omega, by omega, hc9, hbnd, Go.Lib.hid hdl, Go.Lib.hid (by rw [List.length_append, HUN.out]; rfl), Go.Lib.hid hv9w, Go.Lib.hid ho3, HW2, Go.Lib.hid gw3⟩
        case measure => simp only [sliceLen]; omega
    · have hn1 : n = 1 := by omega
      subst hn1
      have hY2 : Y = ups.reverse := by rw [HWY.out, way_short nd e0 (by rw [HLN.out]; omega), List.nil_append]
      have HY2 := Go.Lib.hid hY2
      have how := HOW.out
      have hgw := HGW.out
      clear hY2
      obtain ⟨pre, hpre0⟩ : ∃ pre : List Sc.Id, pre = [] := ⟨_, rfl⟩
      rw [show ups.reverse = pre ++ ups.reverse from by rw [hpre0]; rfl] at HY2
      have HPRE : Hid (pre.length ≤ 1) := Go.Lib.hid (by rw [hpre0]; exact Nat.zero_le _)
      have HSTART : Hid (∃ (j : Nat) (A8 : Option Addr) (n8 c8 : Nat), Value.slice none 0 0 = .slice A8 n8 c8 ∧ Value.int .i64 ((n6 : Int) - 1) = .int .i64 ((j : Int) - 1) ∧ j ≤ n6 ∧ n8 + j = n6 + pre.length ∧ Hid (Ow w.heap.size wr 32 (.slice A8 n8 c8) n8 (idCells (pre ++ (ups.drop j).reverse))) ∧ Hid (Ow w.heap.size wr 32 (.slice A6 n6 c6) n6 (idCells ups)) ∧
          Hid (∀ b, (Value.slice A8 n8 c8).ownBlock = some b → (Value.slice A6 n6 c6).ownBlock ≠ some b) ∧ Hid (w.grownBy wr none)) :=
        Go.Lib.hid ⟨n6, none, 0, 0, rfl, rfl, Nat.le_refl _, by rw [hpre0]; simp, Go.Lib.hid (by rw [hpre0, List.drop_of_length_le (by rw [HUN.out]; exact Nat.le_refl _)]; exact Ow.nil _ _ _), Go.Lib.hid how, Go.Lib.hid (by simp [Value.ownBlock]), Go.Lib.hid hgw⟩
      clear hpre0
      have hn6I : (0 : Int) ≤ (n6 : Int) ∧ (n6 : Int) ≤ 41 := by omega
      go_wp2_with fail
      go_loopw [8, 9] (fun v8 v9 wo => ∃ (j : Nat) (A8 : Option Addr) (n8 c8 : Nat), v8 = .slice A8 n8 c8 ∧ v9 = .int .i64 ((j : Int) - 1) ∧ j ≤ n6 ∧ n8 + j = n6 + pre.length ∧ Hid (Ow w.heap.size wo 32 (.slice A8 n8 c8) n8 (idCells (pre ++ (ups.drop j).reverse))) ∧ Hid (Ow w.heap.size wo 32 (.slice A6 n6 c6) n6 (idCells ups)) ∧
          Hid (∀ b, (Value.slice A8 n8 c8).ownBlock = some b → (Value.slice A6 n6 c6).ownBlock ≠ some b) ∧ Hid (w.grownBy wo none)) (fun _ v9 _ => (intOf v9 + 1).toNat)
      case atStart => exact HSTART.out
      case round =>
        clear HSTART
        obtain ⟨j, A8, n8, c8, rfl, rfl, hj6, hn8, HO8, HO6, HDJ, HG8⟩ := hrel
        rcases j with _ | i
        · have hY9 : Y = pre ++ (ups.drop 0).reverse := by rw [HY2.out, List.drop_zero]
          have hn8' : n8 = Y.length := by rw [HY2.out, List.length_append, List.length_reverse, HUN.out]; omega
          have HY9 := Go.Lib.hid hY9
          have HN8 := Go.Lib.hid hn8'
          clear hY9 hn8'
          go_wp2_with fail
          go_ret2
          refine ⟨_, rfl, ?_, HG8.out⟩
          have h := HO8.out
          rw [← HY9.out] at h
          rw [← HN8.out]; exact h
        · obtain ⟨x, hx⟩ : ∃ x, ups[i]? = some x := ⟨_, List.getElem?_eq_getElem (by rw [HUN.out]; omega)⟩
          obtain ⟨b6, o6, c6', hv6, hB6, hl6, hc6, hr6, _⟩ := HO6.out.at (by omega)
          have hv6' := hv6
          injection hv6 with hA6 _ hcc6
          subst hA6 hcc6
          have hrt := range_id hr6 hx
          have hdr := drop_at hx
          have hiI : (0 : Int) ≤ (i : Int) ∧ (i : Int) < (n6 : Int) ∧ (n6 : Int) ≤ 41 := by omega
          have ho5 := HO8.out.alloc (.cells (x.l.map bv).toArray 34)
          have hs5 : Src Try.prog 32 41 (.slice (some ⟨wr.heap.size, 0, none⟩) 1 1) 1 (x.l.map bv) (wr.alloc (.cells (x.l.map bv).toArray 34)) := src_new (P := Try.prog) Try.underlying41 wr 34 32 1 (x.l.map bv) (by rw [List.length_map, x.h]) (bytes_one _)
          have hB5 : w.heap.size ≤ (wr.alloc (.cells (x.l.map bv).toArray 34)).heap.size := by rw [World.size_alloc]; have := HG8.out.size; omega
          have hpre : pre.length ≤ 1 := HPRE.out
          have h63 : n8 + 1 ≤ maxLen := Nat.le_trans (show n8 + 1 ≤ 45 by omega) (by decide)
          have hby : (n8 + 1) * 32 ≤ 140737488355328 := by omega
          have HX := Go.Lib.hid hx
          have HDR := Go.Lib.hid hdr
          have hn8I := Go.Lib.hid hn8
          have hidx : ((i + 1 : Nat) : Int) - 1 = (i : Int) := by omega
          clear hx hdr hr6 hv6'
          rw [hidx]
          go_wp2_with (first
            | ((with_reducible refine wpList_load_range (x := .tmp 60) (t := 34) b6 (o6 + i * 32) (x.l.map bv) _ hrt (by kernel_rfl) Try.underlying34 rfl (idSize _) ?_))
            | ((with_reducible refine wpList_build_id (y := .tmp 61) x (by kernel_rfl) ?_))
            | ((with_reducible refine wpList_append_ow (s := .tmp 57) (x := .tmp 62) (v := .slice A8 n8 c8) (by kernel_rfl) (by kernel_rfl) Try.underlying41 okId ho5 hs5 hB5 h63 hby ?_); intro v3 w3 ho3 hg3 hb3; obtain ⟨A3, c3, rfl⟩ := ho3.form))
          have ho63 := (HO6.out.alloc (.cells (x.l.map bv).toArray 34)).grown hg3 (fun b hb h => HDJ.out b h hb)
          have hdj3 : ∀ b, (Value.slice A3 (n8 + 1) c3).ownBlock = some b → (Value.slice (some ⟨b6, o6, none⟩) n6 c6).ownBlock ≠ some b := fun b h1 h2 => by
            rcases hb3 with h | h
            · exact HDJ.out b (h ▸ h1) h2
            · have := (HO6.out.lt h2).2
              rw [h1, World.size_alloc] at h
              injection h with h
              omega
          have gw3 := Ow.gb (gb_alloc HG8.out _) ho5 (Nat.le_refl _) hg3
          rw [← idCells_one, ← idCells_append] at ho3
          have hls : pre ++ (ups.drop (i + 1)).reverse ++ [x] = pre ++ (ups.drop i).reverse := by rw [HDR.out, List.reverse_cons, List.append_assoc]
          rw [hls] at ho3
          go_roundw
          case rel => exact ⟨i, A3, n8 + 1, c3, rfl, rfl, by omega, by have := hn8I.out; omega, Go.Lib.hid ho3, Go.Lib.hid ho63, Go.Lib.hid hdj3, Go.Lib.hid gw3⟩
          case measure => simp only [intOf]; omega
end Go.Proofs.Ytajgklomcapboaa
