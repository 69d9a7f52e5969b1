import Derived.Test.YtajgklomcapboaaShortLists
import Derived.Test.YtajgklomcapboaaEntries
import Derived.Test.YtajgklomcapboaaTreeFns
import Derived.Test.YtajgklomcapboaaConv
/- The guard of layer 7's statements: a sum is cut, and lists without a pair have none. -/
namespace Sc
open Go Go.RowKit
def idBa : Sc.Id := ⟨[186, 120, 0, 0, 0, 0, 0, 0, 0, 0, 0, 0, 0, 0, 0, 0, 0, 0, 0, 0, 0, 0, 0, 0, 0, 0, 0, 0, 0, 0, 0, 0], rfl⟩
def id0 : Sc.Id := ⟨[0, 0, 0, 0, 0, 0, 0, 0, 0, 0, 0, 0, 0, 0, 0, 0, 0, 0, 0, 0, 0, 0, 0, 0, 0, 0, 0, 0, 0, 0, 0, 0], rfl⟩
theorem sum_abc : sumC 2 [97, 98, 99] = idBa := Id.ext' (by decide +kernel)
theorem root_ab : rootH (sumC 32) [[97], [98]] = root nd e0 [leafS [97], leafS [98]] := by
  rw [sumC_whole (by decide)]; exact rootH_sha 2 _ (by decide)
theorem idv_z : idv id0 = (.agg #[.int .u8 0, .int .u8 0, .int .u8 0, .int .u8 0, .int .u8 0, .int .u8 0, .int .u8 0, .int .u8 0, .int .u8 0, .int .u8 0, .int .u8 0, .int .u8 0, .int .u8 0, .int .u8 0, .int .u8 0, .int .u8 0, .int .u8 0, .int .u8 0, .int .u8 0, .int .u8 0, .int .u8 0, .int .u8 0, .int .u8 0, .int .u8 0, .int .u8 0, .int .u8 0, .int .u8 0, .int .u8 0, .int .u8 0, .int .u8 0, .int .u8 0, .int .u8 0]) := by kernel_rfl
theorem root_ab_nd : root nd e0 [leafS [97], leafS [98]] = nd (leafS [97]) (leafS [98]) := by
  rw [root_two nd e0 (by simp), show [leafS [97], leafS [98]].length = 2 from rfl, show half 2 = 1 from half_of (j := 0) (by decide) (by decide)]
  rw [show [leafS [97], leafS [98]].take 1 = [leafS [97]] from rfl, show [leafS [97], leafS [98]].drop 1 = [leafS [98]] from rfl, root_one, root_one]
theorem root_ab_ne : ((nd (leafS [97]) (leafS [98])).l == id0.l) = false := by decide +kernel
end Sc
namespace Go.Proofs.Ytajgklomcapboaa
open Go.RowKit Go.Shelf Sc
theorem build_ba (w : World) : (Instr.build 34 #[(0, .int .u8 186), (1, .int .u8 120)]).run Try.prog w = .ok (.agg (idBa.l.map bv).toArray) w := run_build w _ _ _ (by kernel_rfl)
theorem build_i0 (w : World) : (Instr.build 34 #[]).run Try.prog w = .ok (.agg (id0.l.map bv).toArray) w := run_build w _ _ _ (by kernel_rfl)
theorem lists_self (c : Int) (v : Value) (l : List (List UInt8)) (w : World) (hv : RLL w v l) (hl : ∀ x ∈ l, x.length ≤ 1000000) (hn : l.length ≤ 1000000) :
    Calls Try.prog 17 #[.int .i64 c, v, v] w fun e w' => ∃ A1 c1 A2 c2, e = .returned (.tuple #[.agg #[.slice A1 0 c1, .slice A2 0 c2], .bool false]) ∧ w.grownBy w' none := by
  refine (lists_any c v v l l w hv hv hl hl hn hn).mono ?_
  rintro e w' ⟨v1, v2, l1, l2, ok, rfl, h1, h2, ho, g⟩
  rcases ho with ⟨rfl, rfl, rfl, _⟩ | h
  · obtain ⟨A1, c1, rfl, _⟩ := Rd.form h1
    obtain ⟨A2, c2, rfl, _⟩ := Rd.form h2
    exact ⟨A1, c1, A2, c2, rfl, g⟩
  · exact absurd rfl h.2.2.2.1
theorem root_idv7 (v : Value) (xs : List Sc.Id) (w : World) (hv : RI w v xs) (hsz : xs.length ≤ 1099511627776) :
    Calls Try.prog 25 #[v] w fun e w' => e = .returned (idv (root nd e0 xs)) ∧ w.grownBy w' none := treeRoot_any v xs _ w hv (fun _ h => h) hsz
set_option maxHeartbeats 4000000 in
set_option maxRecDepth 100000 in
theorem cuts_any (w : World) : Calls Try.prog 15 #[] w fun e w' => e = .returned (.bool true) ∧ w.grownBy w' none := by
  go_enter Try.func15, Try.ntmps15
  obtain ⟨W1, hW1⟩ : ∃ W1, W1 = w.alloc (.cells #[.int .u8 97, .int .u8 98, .int .u8 99] 5) := ⟨_, rfl⟩
  have r1 : W1.rangeAt w.heap.size 0 ([97, 98, 99].map bv) := by rw [hW1]; exact rangeAt_new w _ ([97, 98, 99].map bv)
  have g1 : w.grownBy W1 none := by rw [hW1]; exact gb_alloc (gb_refl w none) _
  have z1 : W1.heap.size = w.heap.size + 1 := by rw [hW1, World.size_alloc]
  have HW1 := Go.Lib.hid hW1
  have hl3 : [97, 98, 99].length ≤ 1125899906842624 := by decide
  have hsum : ∀ (v : Value) (w : World), RL w v [97, 98, 99] → Calls Try.prog 21 #[.int .i64 2, v] w fun e w' => e = .returned (idv idBa) ∧ w.grownBy w' none := fun v w h => by
    rw [← sum_abc]; exact ssum_any 2 v [97, 98, 99] _ w h (fun _ h => h) (by decide)
  clear hW1
  go_upto_region 2 with (first
    | ((with_reducible refine wpList_conv_mark (x := .tmp 5) Try.underlying27 Try.underlying5 w.heap.size 0 3 3 (by kernel_rfl) ?_); rw [← HW1.out]; intro w2 hc2 g2 z2
       have hr2 : RL w2 (.slice (some ⟨w.heap.size, 0, none⟩) 3 3) [97, 98, 99] := Rd.mk' (rangeAt_same r1 hc2) (by rw [z2, z1]; omega) (Nat.le_refl _) (by decide) rfl
       have g12 := gb_trans_new g1 g2 (Nat.le_refl _))
    | (go_at_call 21; ((with_reducible refine (hsum _ _ hr2).mono ?_); rintro e w3 ⟨rfl, g3⟩); have g13 := gb_trans g12 g3; have bx := Bk.new w3 34 idZ)
    | ((with_reducible refine wpList_alloc_row (E := 34) idZ infoId ?_))
    | ((with_reducible refine wpList_store_bk (t := 34) w3.heap.size 34 idZ (idBa.l.map bv) bx (by kernel_rfl) (by kernel_rfl) (idSize _) (idLen _) (idOne _) ?_); intro w5 h5 g5 z5))
  have g05 := gb_trans_new (gb_alloc g13 (.cells idZ.toArray 34)) g5 g13.size
  obtain ⟨b3, hb3⟩ : ∃ b3, b3 = w3.heap.size := ⟨_, rfl⟩
  rw [← hb3] at h5 ⊢
  have HB5 := Go.Lib.hid h5
  have HG5 := Go.Lib.hid g05
  obtain ⟨b6, hb6⟩ : ∃ b6, b6 = w5.heap.size := ⟨_, rfl⟩
  obtain ⟨W6, hW6⟩ : ∃ W6, W6 = w5.alloc (.cells #[.int .u8 97] 5) := ⟨_, rfl⟩
  have r6 : W6.rangeAt b6 0 ([97].map bv) := by rw [hW6, hb6]; exact rangeAt_new w5 _ ([97].map bv)
  have g6 : w5.grownBy W6 none := by rw [hW6]; exact gb_alloc (gb_refl _ _) _
  have z6 : W6.heap.size = b6 + 1 := by rw [hW6, hb6, World.size_alloc]
  have HW6 := Go.Lib.hid hW6
  have HB6 := Go.Lib.hid hb6
  clear hW6 h5 g5 z5 bx g13 g12 g3 g2 z2 hc2 hr2 r1 z1 g1 g05 hb3 hb6 hsum hl3
  go_upto_region 3 with (first
    | ((with_reducible refine wpList_conv_mark (x := .tmp 8) Try.underlying27 Try.underlying5 b6 0 1 1 (by rw [HB6.out]; kernel_rfl) ?_); rw [← HW6.out]; intro w7 hc7 g7 z7)
    | ((with_reducible refine wpList_conv_mark (x := .tmp 10) Try.underlying27 Try.underlying5 (b6 + 1) 0 1 1 (by kernel_rfl) ?_); intro w9 hc9 g9 z9))
  obtain ⟨W10, hW10⟩ : ∃ W10, W10 = w9.alloc (.cells #[.slice (some ⟨b6, 0, none⟩) 1 1, .slice (some ⟨b6 + 1, 0, none⟩) 1 1] 27) := ⟨_, rfl⟩
  rw [← hW10]
  have z9' : w9.heap.size = b6 + 1 + 1 := by rw [z9, World.size_alloc, z7, z6]
  have r6' : w9.rangeAt b6 0 ([97].map bv) := rangeAt_grown (rangeAt_grown (rangeAt_same r6 hc7) (World.grownBy_alloc w7 _ none) (by simp)) g9 (by simp)
  have r7' : w9.rangeAt (b6 + 1) 0 ([98].map bv) := by
    have h := rangeAt_new w7 5 ([98].map bv)
    rw [z7, z6] at h
    exact rangeAt_same h hc9
  have hL : RdBB (fun b => b < W10.heap.size) W10 (.slice (some ⟨b6 + 1 + 1, 0, none⟩) 2 2) [[97], [98]] := by
    have h := RdBB.built2 (NB := fun b => b < w9.heap.size) (NB' := fun b => b < W10.heap.size) (w := w9) (l := [97]) (k := [98]) (v := .slice (some ⟨b6, 0, none⟩) 1 1) (u := .slice (some ⟨b6 + 1, 0, none⟩) 1 1) 27
      (Rd.mk' r6' (by rw [z9']; omega) (Nat.le_refl _) (by decide) rfl) (Rd.mk' r7' (by rw [z9']; omega) (Nat.le_refl _) (by decide) rfl)
      (fun b hb => by rw [hW10, World.size_alloc]; omega) (by rw [hW10, World.size_alloc]; omega)
    rw [z9', ← hW10] at h
    exact h
  have hbw : w.heap.size ≤ b6 := by rw [HB6.out]; exact HG5.out.size
  have gW7 : w.grownBy w7 none := gb_trans_new (gb_trans HG5.out g6) g7 hbw
  have gW9 : w.grownBy w9 none := gb_trans_new (gb_alloc gW7 (.cells #[.int .u8 98] 5)) g9 (by omega)
  have gW10 : w.grownBy W10 none := by rw [hW10]; exact gb_alloc gW9 _
  have hb3b : b3 < b6 := by rw [HB6.out]; exact HB5.out.lt
  have bk10 : Bk W10 b3 34 (idBa.l.map bv) := by
    rw [hW10]
    exact ((((HB5.out.grown g6 (by simp)).grown g7 (by simp; omega)).alloc _).grown g9 (by simp; omega)).alloc _
  have HL : Hid (RLL W10 (.slice (some ⟨b6 + 1 + 1, 0, none⟩) 2 2) [[97], [98]]) := Go.Lib.hid hL
  have HG10 := Go.Lib.hid gW10
  have HK10 := Go.Lib.hid bk10
  clear hW10 z9' r6' r7' gW7 gW9 gW10 bk10 hL r6 g6 z6 g7 z7 hc7 hc9 g9 z9 hb3b hbw
  have hl2 : ∀ x ∈ ([[97], [98]] : List (List UInt8)), x.length ≤ 1000000 := by
    intro x hx
    simp only [List.mem_cons, List.not_mem_nil, or_false] at hx
    rcases hx with rfl | rfl <;> decide
  have hl2n : ([[97], [98]] : List (List UInt8)).length ≤ 1000000 := by decide
  have HL2 : Hid ((∀ x ∈ ([[97], [98]] : List (List UInt8)), x.length ≤ 1000000) ∧ ([[97], [98]] : List (List UInt8)).length ≤ 1000000) := Go.Lib.hid ⟨hl2, hl2n⟩
  clear hl2 hl2n
  go_upto_region 4 with (first
    | (go_at_call 17; ((with_reducible refine (lists_self 32 _ [[97], [98]] _ HL.out HL2.out.1 HL2.out.2).mono ?_); rintro e w11 ⟨A1, c1, A2, c2, rfl, g11⟩); have bx := Bk.new w11 29 pairZ)
    | ((with_reducible refine wpList_alloc_row (E := 29) pairZ infoPair ?_))
    | ((with_reducible refine wpList_store_bk (t := 29) w11.heap.size 29 pairZ [.slice A1 0 c1, .slice A2 0 c2] bx (by kernel_rfl) (by kernel_rfl) (pairSize _ _) rfl (pairOne _ _ _ _ _ _) ?_); intro w12 h12 g12 z12))
  have g112 : W10.grownBy w12 none := gb_trans_new (gb_alloc g11 _) g12 g11.size
  have bk12 := HK10.out.grown g112 (by simp)
  have HL12 := Go.Lib.hid (RLL.gr HL.out g112)
  have HG12 := Go.Lib.hid (gb_trans HG10.out g112)
  obtain ⟨X, hX⟩ : ∃ X, X = rootH (sumC 32) [[97], [98]] := ⟨_, rfl⟩
  have hX2 : root nd e0 ([[97], [98]].map leafS) = X := by rw [hX, root_ab]; rfl
  have HX := Go.Lib.hid hX
  have HX2 := Go.Lib.hid hX2
  have hxe : (idBa.l == idBa.l) = true := beq_self_eq_true _
  have hx0 : (X.l == id0.l) = false := by rw [hX, root_ab, root_ab_nd]; exact root_ab_ne
  have q1 : ∀ w, (eqGuard .eql 34 (.tmp 30) (.tmp 33) (idv X) (idv X)).run Try.prog w = .ok () w := fun _ => run_eqGuard_id idEq X X
  have q2 : ∀ w, (binOp .eql 34 (idv X) (idv X)).run Try.prog w = .ok (.bool true) w := fun w => (run_eql_id (w := w) idEq X X).trans (by rw [beq_self_eq_true])
  have q3 : ∀ w, (eqGuard .neq 34 (.tmp 38) (.tmp 39) (idv X) (.agg #[.int .u8 0, .int .u8 0, .int .u8 0, .int .u8 0, .int .u8 0, .int .u8 0, .int .u8 0, .int .u8 0, .int .u8 0, .int .u8 0, .int .u8 0, .int .u8 0, .int .u8 0, .int .u8 0, .int .u8 0, .int .u8 0, .int .u8 0, .int .u8 0, .int .u8 0, .int .u8 0, .int .u8 0, .int .u8 0, .int .u8 0, .int .u8 0, .int .u8 0, .int .u8 0, .int .u8 0, .int .u8 0, .int .u8 0, .int .u8 0, .int .u8 0, .int .u8 0])).run Try.prog w = .ok () w := fun _ => by rw [← idv_z]; exact run_eqGuard_id idEq X id0
  have q4 : ∀ w, (binOp .neq 34 (idv X) (.agg #[.int .u8 0, .int .u8 0, .int .u8 0, .int .u8 0, .int .u8 0, .int .u8 0, .int .u8 0, .int .u8 0, .int .u8 0, .int .u8 0, .int .u8 0, .int .u8 0, .int .u8 0, .int .u8 0, .int .u8 0, .int .u8 0, .int .u8 0, .int .u8 0, .int .u8 0, .int .u8 0, .int .u8 0, .int .u8 0, .int .u8 0, .int .u8 0, .int .u8 0, .int .u8 0, .int .u8 0, .int .u8 0, .int .u8 0, .int .u8 0, .int .u8 0, .int .u8 0])).run Try.prog w = .ok (.bool true) w := fun w => by rw [← idv_z]; exact (run_neq_id (w := w) idEq X id0).trans (by rw [hx0]; rfl)
  clear hX hX2 hx0 g112 g11 g12 z12 bx h12
  go_wp2_with (first
    | ((with_reducible refine wpList_load_bk (x := .tmp 1) (t := 34) b3 _ (idBa.l.map bv) _ bk12 (by kernel_rfl) Try.underlying34 rfl (idSize _) ?_))
    | ((with_reducible refine wpList_build_row (idBa.l.map bv) (fun w => by simp only [List.map_toArray, List.map_cons, List.map_nil]; exact build_ba w) ?_))
    | ((with_reducible refine wpList_eql_id (x := .tmp 19) (y := .tmp 20) idEq idBa idBa (by kernel_rfl) (by kernel_rfl) ?_); rw [hxe]))
  refine (sroot_any 32 _ [[97], [98]] _ HL12.out HL2.out.1 HL2.out.2).mono ?_
  rintro e w13 ⟨rfl, g13⟩
  rw [← HX.out]
  go_frame
  go_wp2_with fail
  refine (entries_any _ [[97], [98]] _ _ (RLL.gr HL12.out g13) (fun _ h => h) HL2.out.2 (fun x hx => Nat.le_trans (HL2.out.1 x hx) (by decide))).mono ?_
  rintro e w14 ⟨v14, rfl, ho14, g14⟩
  have hr14 : RI w14 v14 ([[97], [98]].map leafS) := ho14.rd (fun b hb => (ho14.lt hb).2)
  obtain ⟨A14, c14, rfl⟩ := ho14.form
  have HR14 := Go.Lib.hid hr14
  clear ho14 hr14
  go_frame
  go_wp2_with fail
  refine (root_idv7 _ ([[97], [98]].map leafS) _ HR14.out (by decide)).mono ?_
  rintro e w15 ⟨rfl, g15⟩
  rw [HX2.out]
  go_frame
  go_wp2_with fail
  refine (sroot_any 32 _ [[97], [98]] _ (RLL.gr HL12.out (gb_trans (gb_trans g13 g14) g15)) HL2.out.1 HL2.out.2).mono ?_
  rintro e w16 ⟨rfl, g16⟩
  rw [← HX.out]
  go_frame
  go_wp2_with fail
  go_ret
  exact ⟨rfl, gb_trans (gb_trans (gb_trans (gb_trans HG12.out g13) g14) g15) g16⟩
end Go.Proofs.Ytajgklomcapboaa
