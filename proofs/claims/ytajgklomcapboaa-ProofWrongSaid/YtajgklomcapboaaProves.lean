import Derived.Test.YtajgklomcapboaaCkInc
import Derived.Test.YtajgklomcapboaaCons
import Derived.Test.YtajgklomcapboaaCkCon
/- The guard of layer 6's statements: the middle one of three is proved. -/
namespace Sc
open Go Go.RowKit
def id3 : Sc.Id := ⟨[3, 0, 0, 0, 0, 0, 0, 0, 0, 0, 0, 0, 0, 0, 0, 0, 0, 0, 0, 0, 0, 0, 0, 0, 0, 0, 0, 0, 0, 0, 0, 0], rfl⟩
theorem half3 : half 3 = 2 := half_of (j := 1) (by decide) (by decide)
theorem half2 : half 2 = 1 := half_of (j := 0) (by decide) (by decide)
theorem way123 (x y z : Sc.Id) : way nd e0 [x, y, z] 1 = [x, z] := by
  rw [way_lo nd e0 (by simp) (by rw [show [x, y, z].length = 3 from rfl, half3]; decide), show [x, y, z].length = 3 from rfl, half3]
  rw [show [x, y, z].take 2 = [x, y] from rfl, show [x, y, z].drop 2 = [z] from rfl]
  rw [way_hi nd e0 (by simp) (by rw [show [x, y].length = 2 from rfl, half2]; exact Nat.le_refl _), show [x, y].length = 2 from rfl, half2]
  rw [show [x, y].drop 1 = [y] from rfl, show [x, y].take 1 = [x] from rfl, way_short nd e0 (by simp), root_one, root_one]; rfl
theorem link123 (x y z : Sc.Id) : link nd e0 [x, y, z] 2 true = [z] := by
  rw [link_lo nd e0 (by simp) (by simp) (by rw [show [x, y, z].length = 3 from rfl, half3]; exact Nat.le_refl _), show [x, y, z].length = 3 from rfl, half3]
  rw [show [x, y, z].take 2 = [x, y] from rfl, show [x, y, z].drop 2 = [z] from rfl, link_end nd e0 (by simp), root_one]; rfl
theorem root123 (x y z : Sc.Id) : root nd e0 [x, y, z] = nd (nd x y) z := by
  rw [root_two nd e0 (by simp), show [x, y, z].length = 3 from rfl, half3, show [x, y, z].take 2 = [x, y] from rfl, show [x, y, z].drop 2 = [z] from rfl, root_one, root_two nd e0 (by simp), show [x, y].length = 2 from rfl, half2]
  rw [show [x, y].take 1 = [x] from rfl, show [x, y].drop 1 = [y] from rfl, root_one, root_one]
theorem lead123 (x z u : Sc.Id) : lead nd u 1 3 [x, z] = some (nd (nd x u) z) := by
  have h1 := lead_lo nd u (a := 1) (n := 3) (by decide) (by rw [half3]; decide) [x] z
  rw [half3] at h1
  have h2 := lead_hi nd u (a := 1) (n := 2) (by decide) (by rw [half2]; exact Nat.le_refl _) [] x
  rw [half2] at h2
  rw [show [x, z] = [x] ++ [z] from rfl, h1, show [x] = [] ++ [x] from rfl, h2, lead_one nd u _ _ (by decide)]; rfl
theorem neR : ((nd (nd id1 id1) id3).l == (nd (nd id1 id2) id3).l) = false := by decide +kernel
theorem ck1 : ckInc id2 1 3 [id1, id3] (root nd e0 [id1, id2, id3]) = 0 := by
  rw [show (1 : Int) = ((1 : Nat) : Int) from rfl, show (3 : Int) = ((3 : Nat) : Int) from rfl, ckInc_in (by decide) (by decide), lead123, root123, if_pos rfl]
theorem ck2 : ckInc id1 1 3 [id1, id3] (root nd e0 [id1, id2, id3]) = 60 := by
  rw [show (1 : Int) = ((1 : Nat) : Int) from rfl, show (3 : Int) = ((3 : Nat) : Int) from rfl, ckInc_in (by decide) (by decide), lead123, root123, if_neg]
  intro h
  have h2 := neR
  rw [Option.some.inj h, beq_self_eq_true] at h2
  cases h2
theorem ck3 : ckCon (root nd e0 [id1, id2]) (root nd e0 [id1, id2, id3]) 2 3 [id3] = 0 := by
  have h := links_link nd e0 3 [id1, id2, id3] 2 true (root nd e0 [id1, id2]) (Nat.le_refl _) (by decide) (by decide) (fun _ => rfl)
  rw [link123] at h
  rw [show (2 : Int) = ((2 : Nat) : Int) from rfl, show (3 : Int) = ((3 : Nat) : Int) from rfl, ckCon_in (by decide) (by decide) (by decide)]
  exact if_pos h
end Sc
namespace Go.Proofs.Ytajgklomcapboaa
open Go.RowKit Go.Shelf Sc
theorem build_three (w : World) : (Instr.buildSlice 41 3 #[(0, idv id1), (1, idv id2), (2, idv id3)]).run Try.prog w = .ok (.slice (some ⟨w.heap.size, 0, none⟩) 3 3) (w.alloc (.cells (idCells [id1, id2, id3]).toArray 34)) := by kernel_rfl
theorem wpList_build_three {w : World} {ops : Array Oper} {rest : List Oper} {a : Act} {Q : Exit → Act → World → Prop} {dst : Option Tmp} {ty : TypeId} {pos : String} {aft : Array Edge} {x y z : Operand} (hx : a.eval x = idv id1) (hy : a.eval y = idv id2) (hz : a.eval z = idv id3)
    (h : wpList Try.prog ops Q rest (a.put dst (.slice (some ⟨w.heap.size, 0, none⟩) 3 3)) (w.alloc (.cells (idCells [id1, id2, id3]).toArray 34))) :
    wpList Try.prog ops Q (⟨dst, .buildSlice 41 3 #[(0, x), (1, y), (2, z)], ty, pos, aft, none⟩ :: rest) a w := by
  refine wpList_run rfl ?_ h
  simp only [execOp, List.map_toArray, List.map_cons, List.map_nil, hx, hy, hz, Sem.run_bind]
  rw [build_three]
  rfl
theorem ckInc_idv (leaf rt : Sc.Id) (a n : Int) (v : Value) (path : List Sc.Id) (w : World) (hv : RI w v path) :
    Calls Try.prog 35 #[idv leaf, .int .i64 a, .int .i64 n, v, idv rt] w fun e w' => e = .returned (.int .i64 (ckInc leaf a n path rt : Int)) ∧ w.grownBy w' none := ckInc_any leaf rt a n v path _ w hv (fun _ h => h)
theorem ckCon_idv (one two : Sc.Id) (m n : Int) (v : Value) (path : List Sc.Id) (w : World) (hv : RI w v path) :
    Calls Try.prog 39 #[.int .i64 m, .int .i64 n, idv one, idv two, v] w fun e w' => e = .returned (.int .i64 (ckCon one two m n path : Int)) ∧ w.grownBy w' none := ckCon_any one two m n v path _ w hv (fun _ h => h)
theorem root_idv (v : Value) (xs : List Sc.Id) (w : World) (hv : RI w v xs) (hsz : xs.length ≤ 1099511627776) :
    Calls Try.prog 25 #[v] w fun e w' => e = .returned (idv (root nd e0 xs)) ∧ w.grownBy w' none := treeRoot_any v xs _ w hv (fun _ h => h) hsz
def pvφ (bL bP oP cP bQ oQ cQ : Nat) (x1 x2 x3 R R2 : Sc.Id) (i : Nat) (v : Value) (_w : World) : Prop := match i with
  | 0 => v = .int .i64 0
  | 1 => v = .bool true
  | 2 => v = .bool true
  | 3 => v = .int .i64 0
  | 4 => v = .bool true
  | 5 => v = .bool true
  | 6 => v = .bool true
  | 7 => v = .slice (some ⟨bP, oP, none⟩) 2 cP
  | 8 => v = .int .i64 2
  | 9 => v = .bool true
  | 10 => v = .bool true
  | 11 => v = .bool true
  | 12 => v = .slice (some ⟨bP, oP, none⟩) 2 cP
  | 13 => v = .pointer (some ⟨bP, oP, none⟩)
  | 14 => v = idv x1
  | 15 => v = .slice (some ⟨bL, 0, none⟩) 3 3
  | 16 => v = .pointer (some ⟨bL, 0, none⟩)
  | 17 => v = idv x1
  | 18 => v = .bool true
  | 19 => v = .bool true
  | 20 => v = .bool true
  | 21 => v = .slice (some ⟨bP, oP, none⟩) 2 cP
  | 22 => v = .pointer (some ⟨bP, oP + 32, none⟩)
  | 23 => v = idv x3
  | 24 => v = .slice (some ⟨bL, 0, none⟩) 3 3
  | 25 => v = .pointer (some ⟨bL, 64, none⟩)
  | 26 => v = idv x3
  | 27 => v = .bool true
  | 28 => v = .bool true
  | 29 => v = .bool true
  | 30 => v = .slice (some ⟨bQ, oQ, none⟩) 1 cQ
  | 31 => v = .int .i64 1
  | 32 => v = .bool true
  | 33 => v = .bool true
  | 34 => v = .bool true
  | 35 => v = .slice (some ⟨bQ, oQ, none⟩) 1 cQ
  | 36 => v = .pointer (some ⟨bQ, oQ, none⟩)
  | 37 => v = idv x3
  | 38 => v = .slice (some ⟨bL, 0, none⟩) 3 3
  | 39 => v = .pointer (some ⟨bL, 64, none⟩)
  | 40 => v = idv x3
  | 41 => v = .bool true
  | 42 => v = .bool true
  | 43 => v = .bool true
  | 44 => v = .slice (some ⟨bL, 0, none⟩) 3 3
  | 45 => v = .pointer (some ⟨bL, 32, none⟩)
  | 46 => v = idv x2
  | 47 => v = .slice (some ⟨bP, oP, none⟩) 2 cP
  | 48 => v = idv R
  | 49 => v = .int .i64 0
  | 50 => v = .bool true
  | 51 => v = .bool true
  | 52 => v = .bool true
  | 53 => v = .slice (some ⟨bL, 0, none⟩) 3 3
  | 54 => v = .pointer (some ⟨bL, 0, none⟩)
  | 55 => v = idv x1
  | 56 => v = .slice (some ⟨bP, oP, none⟩) 2 cP
  | 57 => v = idv R
  | 58 => v = .int .i64 60
  | 59 => v = .bool true
  | 60 => v = .bool true
  | 61 => v = .bool true
  | 62 => v = .slice (some ⟨bL, 0, none⟩) 3 3
  | 63 => v = .slice (some ⟨bL, 0, none⟩) 2 3
  | 64 => v = idv R2
  | 65 => v = idv R
  | 66 => v = .slice (some ⟨bQ, oQ, none⟩) 1 cQ
  | 67 => v = .int .i64 0
  | 68 => v = .bool true
  | 69 => v = .bool true
  | _ => True
theorem pvφ_gr (bL bP oP cP bQ oQ cQ : Nat) (x1 x2 x3 R R2 : Sc.Id) : ∀ i v w w', pvφ bL bP oP cP bQ oQ cQ x1 x2 x3 R R2 i v w → Gr w w' → pvφ bL bP oP cP bQ oQ cQ x1 x2 x3 R R2 i v w' := by
  intro i v w w' h hg
  match i with
  | 0 => exact h
  | 1 => exact h
  | 2 => exact h
  | 3 => exact h
  | 4 => exact h
  | 5 => exact h
  | 6 => exact h
  | 7 => exact h
  | 8 => exact h
  | 9 => exact h
  | 10 => exact h
  | 11 => exact h
  | 12 => exact h
  | 13 => exact h
  | 14 => exact h
  | 15 => exact h
  | 16 => exact h
  | 17 => exact h
  | 18 => exact h
  | 19 => exact h
  | 20 => exact h
  | 21 => exact h
  | 22 => exact h
  | 23 => exact h
  | 24 => exact h
  | 25 => exact h
  | 26 => exact h
  | 27 => exact h
  | 28 => exact h
  | 29 => exact h
  | 30 => exact h
  | 31 => exact h
  | 32 => exact h
  | 33 => exact h
  | 34 => exact h
  | 35 => exact h
  | 36 => exact h
  | 37 => exact h
  | 38 => exact h
  | 39 => exact h
  | 40 => exact h
  | 41 => exact h
  | 42 => exact h
  | 43 => exact h
  | 44 => exact h
  | 45 => exact h
  | 46 => exact h
  | 47 => exact h
  | 48 => exact h
  | 49 => exact h
  | 50 => exact h
  | 51 => exact h
  | 52 => exact h
  | 53 => exact h
  | 54 => exact h
  | 55 => exact h
  | 56 => exact h
  | 57 => exact h
  | 58 => exact h
  | 59 => exact h
  | 60 => exact h
  | 61 => exact h
  | 62 => exact h
  | 63 => exact h
  | 64 => exact h
  | 65 => exact h
  | 66 => exact h
  | 67 => exact h
  | 68 => exact h
  | 69 => exact h
  | i + 70 => exact h

set_option maxHeartbeats 4000000 in
set_option maxRecDepth 100000 in
theorem proves_any (w : World) : Calls Try.prog 32 #[] w fun e w' => e = .returned (.bool true) ∧ w.grownBy w' none := by
  go_enter Try.func32, Try.ntmps32
  obtain ⟨W, hW⟩ : ∃ W, W = w.alloc (.cells (idCells [id1, id2, id3]).toArray 34) := ⟨_, rfl⟩
  have g0 : w.grownBy W none := by rw [hW]; exact gb_alloc (gb_refl w none) _
  have bL0 : Bk W w.heap.size 34 (idCells [id1, id2, id3]) := by rw [hW]; exact Bk.new w _ _
  have hv : RdI (fun b => b < W.heap.size) W (.slice (some ⟨w.heap.size, 0, none⟩) 3 3) [id1, id2, id3] := Rd.mk' bL0.range bL0.lt (Nat.le_refl _) (by decide) rfl
  have hNW := fun (b : Nat) (h : b < W.heap.size) => h
  have HW := Go.Lib.hid hW
  clear hW
  have hinc : Calls Try.prog 33 #[.slice (some ⟨w.heap.size, 0, none⟩) 3 3, .int .i64 1] W fun e w' => ∃ v', e = .returned (.tuple #[v', .int .i64 0]) ∧ Ow W.heap.size w' 32 v' 2 (idCells [id1, id3]) ∧ W.grownBy w' none := by
    have h := inc_any (.slice (some ⟨w.heap.size, 0, none⟩) 3 3) [id1, id2, id3] 1 _ W hv hNW (by decide) (by decide)
    rw [way123] at h
    exact h
  go_wp2_with (first
    | ((with_reducible refine wpList_build_row (t := 34) (parts := #[(0, .const (.int .u8 1))]) (id1.l.map bv) (fun _ => by kernel_rfl) ?_))
    | ((with_reducible refine wpList_build_row (t := 34) (parts := #[(0, .const (.int .u8 2))]) (id2.l.map bv) (fun _ => by kernel_rfl) ?_))
    | ((with_reducible refine wpList_build_row (t := 34) (parts := #[(0, .const (.int .u8 3))]) (id3.l.map bv) (fun _ => by kernel_rfl) ?_))
    | ((with_reducible refine wpList_build_three (x := .tmp 7) (y := .tmp 8) (z := .tmp 9) (by kernel_rfl) (by kernel_rfl) (by kernel_rfl) ?_); rw [← HW.out])
    | (go_at_call 33; ((with_reducible refine hinc.mono ?_); rintro e w1 ⟨v2, rfl, ho2, g1⟩)
       have hv1 : RdI (fun b => b < w1.heap.size) w1 (.slice (some ⟨w.heap.size, 0, none⟩) 3 3) [id1, id2, id3] := RI.gr hv g1
       have hN1 := fun (b : Nat) (h : b < w1.heap.size) => h
       have hcons : Calls Try.prog 37 #[.slice (some ⟨w.heap.size, 0, none⟩) 3 3, .int .i64 2] w1 fun e w' => ∃ v', e = .returned (.tuple #[v', .int .i64 0]) ∧ Ow w1.heap.size w' 32 v' 1 (idCells [id3]) ∧ w1.grownBy w' none := by
         have h := cons_any (.slice (some ⟨w.heap.size, 0, none⟩) 3 3) [id1, id2, id3] 2 _ w1 hv1 hN1 (by decide) (by decide) (by decide)
         rw [link123] at h
         exact h)
    | (go_at_call 37; ((with_reducible refine hcons.mono ?_); rintro e w2 ⟨v4, rfl, ho4, g2⟩)
       have hv2 : RI w2 (.slice (some ⟨w.heap.size, 0, none⟩) 3 3) [id1, id2, id3] := RI.gr hv1 g2)
    | (go_at_call 25; ((with_reducible refine (root_idv _ [id1, id2, id3] _ hv2 (by decide)).mono ?_); rintro e w3 ⟨rfl, g3⟩))
    | ((with_reducible refine wpList_alloc_row (E := 34) idZ infoId ?_))
    | ((with_reducible refine wpList_store_bk (x := .tmp 6) (t := 34) w3.heap.size 34 idZ ((root nd e0 [id1, id2, id3]).l.map bv) (Bk.new _ _ _) (by kernel_rfl) (by kernel_rfl) (idSize _) (idLen _) (idOne _) ?_); intro w4 h4 g4 z4))
  try go_frame
  have hL2 : RI w2 (.slice (some ⟨w.heap.size, 0, none⟩) 2 3) [id1, id2] := RdI.toTake hv2 rfl (by decide)
  have s0 := g0.size
  have s1 := g1.size
  have s2 := g2.size
  have s3 := g3.size
  have g24 : w2.grownBy w4 none := gb_trans_new (gb_alloc g3 _) g4 s3
  have gW4 : w.grownBy w4 none := gb_trans (gb_trans (gb_trans g0 g1) g2) g24
  have hvL := RI.gr hv2 g24
  have hvL2 := RI.gr hL2 g24
  have hoP := (ho2.grown g2 (fun _ _ => by simp)).grown g24 (fun _ _ => by simp)
  have hoQ := ho4.grown g24 (fun _ _ => by simp)
  have bL4 := ((bL0.grown g1 (by simp)).grown g2 (by simp)).grown g24 (by simp)
  obtain ⟨bP, oP, cP, e2, -, hlP, -, hrP, -⟩ := hoP.at (by decide)
  obtain ⟨bQ, oQ, cQ, e4, -, hlQ, -, hrQ, -⟩ := hoQ.at (by decide)
  subst e2 e4
  obtain ⟨x1, hx1⟩ : ∃ x, x = id1 := ⟨_, rfl⟩
  obtain ⟨x2, hx2⟩ : ∃ x, x = id2 := ⟨_, rfl⟩
  obtain ⟨x3, hx3⟩ : ∃ x, x = id3 := ⟨_, rfl⟩
  obtain ⟨R, hR⟩ : ∃ R, R = root nd e0 [id1, id2, id3] := ⟨_, rfl⟩
  obtain ⟨R2, hR2⟩ : ∃ R2, R2 = root nd e0 [id1, id2] := ⟨_, rfl⟩
  obtain ⟨ps, hps⟩ : ∃ ps, ps = [id1, id3] := ⟨_, rfl⟩
  obtain ⟨qs, hqs⟩ : ∃ qs, qs = [id3] := ⟨_, rfl⟩
  obtain ⟨l2, hl2⟩ : ∃ l2, l2 = [id1, id2] := ⟨_, rfl⟩
  obtain ⟨bL, hbL⟩ : ∃ bL, bL = w.heap.size := ⟨_, rfl⟩
  obtain ⟨p6, hp6⟩ : ∃ p6, p6 = w3.heap.size := ⟨_, rfl⟩
  have rL0 : w4.rangeAt bL 0 (x1.l.map bv) := by rw [hbL, hx1]; exact range_id bL4.range (i := 0) (x := id1) rfl
  have rL1 : w4.rangeAt bL 32 (x2.l.map bv) := by rw [hbL, hx2]; exact range_id bL4.range (i := 1) (x := id2) rfl
  have rL2 : w4.rangeAt bL 64 (x3.l.map bv) := by rw [hbL, hx3]; exact range_id bL4.range (i := 2) (x := id3) rfl
  have rP0 : w4.rangeAt bP oP (x1.l.map bv) := by rw [hx1]; exact range_id hrP (i := 0) (x := id1) rfl
  have rP1 : w4.rangeAt bP (oP + 32) (x3.l.map bv) := by rw [hx3]; exact range_id hrP (i := 1) (x := id3) rfl
  have rQ0 : w4.rangeAt bQ oQ (x3.l.map bv) := by rw [hx3]; exact range_id hrQ (i := 0) (x := id3) rfl
  have b6 : Bk w4 p6 34 (R.l.map bv) := by rw [hp6, hR]; exact h4
  have HP : Hid (RI w4 (.slice (some ⟨bP, oP, none⟩) 2 cP) ps) := Go.Lib.hid (by rw [hps]; exact Ow.rd hoP (fun b hb => (hoP.lt hb).2))
  have HQ : Hid (RI w4 (.slice (some ⟨bQ, oQ, none⟩) 1 cQ) qs) := Go.Lib.hid (by rw [hqs]; exact Ow.rd hoQ (fun b hb => (hoQ.lt hb).2))
  have HL2 : Hid (RI w4 (.slice (some ⟨bL, 0, none⟩) 2 3) l2) := Go.Lib.hid (by rw [hbL, hl2]; exact hvL2)
  have HL2L : Hid (l2.length ≤ 1099511627776) := Go.Lib.hid (by rw [hl2]; decide)
  have HR2 : Hid (R2 = root nd e0 l2) := Go.Lib.hid (by rw [hR2, hl2])
  have HC1 : Hid (ckInc x2 1 3 ps R = 0) := Go.Lib.hid (by rw [hx2, hps, hR]; exact ck1)
  have HC2 : Hid (ckInc x1 1 3 ps R = 60) := Go.Lib.hid (by rw [hx1, hps, hR]; exact ck2)
  have HC3 : Hid (ckCon R2 R 2 3 qs = 0) := Go.Lib.hid (by rw [hR2, hR, hqs]; exact ck3)
  rw [← hbL, ← hp6]
  have HG := Go.Lib.hid gW4
  clear hx1 hx2 hx3 hR hR2 hps hqs hl2 hbL hp6 hoP hoQ hrP hrQ bL4 hvL hvL2 hv2 hL2 g24 gW4 g0 g1 g2 g3 g4 z4 h4 ho2 ho4 bL0 hv hinc s0 s1 s2 s3 hlP hlQ hNW
  refine wp_region_specs 70 [23, 24, 25, 26, 27, 28, 29, 30, 31, 32, 33, 34, 35, 36, 37, 38, 39, 40, 41, 42, 43, 44, 45, 46, 47, 48, 49, 50, 51, 52, 53, 54, 55, 56, 57, 58, 59, 60, 61, 62, 63, 64, 65, 66, 67, 68, 69, 70, 71, 72, 73, 74, 75, 76, 77, 78, 79, 80, 81, 82, 83, 84, 85, 86, 87, 88, 89, 90, 91, 92] (by kernel_rfl) (by kernel_rfl) (pvφ bL bP oP cP bQ oQ cQ x1 x2 x3 R R2) (pvφ_gr bL bP oP cP bQ oQ cQ x1 x2 x3 R R2) ?step ?fin
  case step =>
    intro i_ o_ ho hi_ u w' hg hd
    rcases (by omega : i_ = 0 ∨ i_ = 1 ∨ i_ = 2 ∨ i_ = 3 ∨ i_ = 4 ∨ i_ = 5 ∨ i_ = 6 ∨ i_ = 7 ∨ i_ = 8 ∨ i_ = 9 ∨ i_ = 10 ∨ i_ = 11 ∨ i_ = 12 ∨ i_ = 13 ∨ i_ = 14 ∨ i_ = 15 ∨ i_ = 16 ∨ i_ = 17 ∨ i_ = 18 ∨ i_ = 19 ∨ i_ = 20 ∨ i_ = 21 ∨ i_ = 22 ∨ i_ = 23 ∨ i_ = 24 ∨ i_ = 25 ∨ i_ = 26 ∨ i_ = 27 ∨ i_ = 28 ∨ i_ = 29 ∨ i_ = 30 ∨ i_ = 31 ∨ i_ = 32 ∨ i_ = 33 ∨ i_ = 34 ∨ i_ = 35 ∨ i_ = 36 ∨ i_ = 37 ∨ i_ = 38 ∨ i_ = 39 ∨ i_ = 40 ∨ i_ = 41 ∨ i_ = 42 ∨ i_ = 43 ∨ i_ = 44 ∨ i_ = 45 ∨ i_ = 46 ∨ i_ = 47 ∨ i_ = 48 ∨ i_ = 49 ∨ i_ = 50 ∨ i_ = 51 ∨ i_ = 52 ∨ i_ = 53 ∨ i_ = 54 ∨ i_ = 55 ∨ i_ = 56 ∨ i_ = 57 ∨ i_ = 58 ∨ i_ = 59 ∨ i_ = 60 ∨ i_ = 61 ∨ i_ = 62 ∨ i_ = 63 ∨ i_ = 64 ∨ i_ = 65 ∨ i_ = 66 ∨ i_ = 67 ∨ i_ = 68 ∨ i_ = 69) with rfl | rfl | rfl | rfl | rfl | rfl | rfl | rfl | rfl | rfl | rfl | rfl | rfl | rfl | rfl | rfl | rfl | rfl | rfl | rfl | rfl | rfl | rfl | rfl | rfl | rfl | rfl | rfl | rfl | rfl | rfl | rfl | rfl | rfl | rfl | rfl | rfl | rfl | rfl | rfl | rfl | rfl | rfl | rfl | rfl | rfl | rfl | rfl | rfl | rfl | rfl | rfl | rfl | rfl | rfl | rfl | rfl | rfl | rfl | rfl | rfl | rfl | rfl | rfl | rfl | rfl | rfl | rfl | rfl | rfl <;> obtain rfl := Option.some.inj ho <;>
      simp (decide := true) only [fillAct, List.mapIdx_cons, List.mapIdx_nil, Nat.reduceAdd, if_true, if_false, List.getD_cons_zero, List.getD_cons_succ]
    · clear hd ho
      go_wp2_with fail
      exact ⟨rfl, gb_refl _ _, rfl⟩
    · have h0 : u 23 = .int .i64 0 := hd 0 (by kernel_rfl)
      clear hd ho
      rw [h0]
      go_wp2_with fail
      exact ⟨rfl, gb_refl _ _, rfl⟩
    · have h1 : u 24 = .bool true := hd 1 (by kernel_rfl)
      clear hd ho
      rw [h1]
      go_wp2_with fail
      exact ⟨rfl, gb_refl _ _, rfl⟩
    · have h2 : u 25 = .bool true := hd 2 (by kernel_rfl)
      clear hd ho
      rw [h2]
      refine wpList_guard (by rfl) ?_
      go_wp2_with fail
      exact ⟨rfl, gb_refl _ _, rfl⟩
    · have h2 : u 25 = .bool true := hd 2 (by kernel_rfl)
      have h3 : u 26 = .int .i64 0 := hd 3 (by kernel_rfl)
      clear hd ho
      rw [h2, h3]
      refine wpList_guard (by rfl) ?_
      go_wp2_with fail
      exact ⟨rfl, gb_refl _ _, rfl⟩
    · have h2 : u 25 = .bool true := hd 2 (by kernel_rfl)
      have h4 : u 27 = .bool true := hd 4 (by kernel_rfl)
      clear hd ho
      rw [h2, h4]
      go_wp2_with fail
      exact ⟨rfl, gb_refl _ _, rfl⟩
    · have h5 : u 28 = .bool true := hd 5 (by kernel_rfl)
      clear hd ho
      rw [h5]
      go_wp2_with fail
      exact ⟨rfl, gb_refl _ _, rfl⟩
    · have h6 : u 29 = .bool true := hd 6 (by kernel_rfl)
      clear hd ho
      rw [h6]
      refine wpList_guard (by rfl) ?_
      go_wp2_with fail
      exact ⟨rfl, gb_refl _ _, rfl⟩
    · have h6 : u 29 = .bool true := hd 6 (by kernel_rfl)
      have h7 : u 30 = .slice (some ⟨bP, oP, none⟩) 2 cP := hd 7 (by kernel_rfl)
      clear hd ho
      rw [h6, h7]
      refine wpList_guard (by rfl) ?_
      go_wp2_with fail
      exact ⟨rfl, gb_refl _ _, rfl⟩
    · have h6 : u 29 = .bool true := hd 6 (by kernel_rfl)
      have h8 : u 31 = .int .i64 2 := hd 8 (by kernel_rfl)
      clear hd ho
      rw [h6, h8]
      refine wpList_guard (by rfl) ?_
      go_wp2_with fail
      exact ⟨rfl, gb_refl _ _, rfl⟩
    · have h6 : u 29 = .bool true := hd 6 (by kernel_rfl)
      have h9 : u 32 = .bool true := hd 9 (by kernel_rfl)
      clear hd ho
      rw [h6, h9]
      go_wp2_with fail
      exact ⟨rfl, gb_refl _ _, rfl⟩
    · have h10 : u 33 = .bool true := hd 10 (by kernel_rfl)
      clear hd ho
      rw [h10]
      go_wp2_with fail
      exact ⟨rfl, gb_refl _ _, rfl⟩
    · have h11 : u 34 = .bool true := hd 11 (by kernel_rfl)
      clear hd ho
      rw [h11]
      refine wpList_guard (by rfl) ?_
      go_wp2_with fail
      exact ⟨rfl, gb_refl _ _, rfl⟩
    · have h11 : u 34 = .bool true := hd 11 (by kernel_rfl)
      have h12 : u 35 = .slice (some ⟨bP, oP, none⟩) 2 cP := hd 12 (by kernel_rfl)
      clear hd ho
      rw [h11, h12]
      refine wpList_guard (by rfl) ?_
      go_wp2_with fail
      exact ⟨rfl, gb_refl _ _, rfl⟩
    · have h11 : u 34 = .bool true := hd 11 (by kernel_rfl)
      have h13 : u 36 = .pointer (some ⟨bP, oP, none⟩) := hd 13 (by kernel_rfl)
      clear hd ho
      rw [h11, h13]
      refine wpList_guard (by rfl) ?_
      have r1 := rangeAt_grown rP0 hg (by simp)
      go_wp2_with ((with_reducible refine wpList_load_range (t := 34) bP oP (x1.l.map bv) _ r1 (by kernel_rfl) Try.underlying34 rfl (idSize _) ?_))
      exact ⟨rfl, gb_refl _ _, rfl⟩
    · have h11 : u 34 = .bool true := hd 11 (by kernel_rfl)
      clear hd ho
      rw [h11]
      refine wpList_guard (by rfl) ?_
      go_wp2_with fail
      exact ⟨rfl, gb_refl _ _, rfl⟩
    · have h11 : u 34 = .bool true := hd 11 (by kernel_rfl)
      have h15 : u 38 = .slice (some ⟨bL, 0, none⟩) 3 3 := hd 15 (by kernel_rfl)
      clear hd ho
      rw [h11, h15]
      refine wpList_guard (by rfl) ?_
      go_wp2_with fail
      exact ⟨rfl, gb_refl _ _, rfl⟩
    · have h11 : u 34 = .bool true := hd 11 (by kernel_rfl)
      have h16 : u 39 = .pointer (some ⟨bL, 0, none⟩) := hd 16 (by kernel_rfl)
      clear hd ho
      rw [h11, h16]
      refine wpList_guard (by rfl) ?_
      have r1 := rangeAt_grown rL0 hg (by simp)
      go_wp2_with ((with_reducible refine wpList_load_range (t := 34) bL 0 (x1.l.map bv) _ r1 (by kernel_rfl) Try.underlying34 rfl (idSize _) ?_))
      exact ⟨rfl, gb_refl _ _, rfl⟩
    · have h11 : u 34 = .bool true := hd 11 (by kernel_rfl)
      have h14 : u 37 = idv x1 := hd 14 (by kernel_rfl)
      have h17 : u 40 = idv x1 := hd 17 (by kernel_rfl)
      clear hd ho
      rw [h11, h14, h17]
      refine wpList_guard (by rfl) ?_
      go_wp2_with ((with_reducible refine wpList_eql_id idEq x1 x1 (by kernel_rfl) (by kernel_rfl) ?_))
      refine ⟨rfl, gb_refl _ _, ?_⟩
      show Value.bool _ = .bool true
      rw [beq_self_eq_true]
    · have h11 : u 34 = .bool true := hd 11 (by kernel_rfl)
      have h18 : u 41 = .bool true := hd 18 (by kernel_rfl)
      clear hd ho
      rw [h11, h18]
      go_wp2_with fail
      exact ⟨rfl, gb_refl _ _, rfl⟩
    · have h19 : u 42 = .bool true := hd 19 (by kernel_rfl)
      clear hd ho
      rw [h19]
      go_wp2_with fail
      exact ⟨rfl, gb_refl _ _, rfl⟩
    · have h20 : u 43 = .bool true := hd 20 (by kernel_rfl)
      clear hd ho
      rw [h20]
      refine wpList_guard (by rfl) ?_
      go_wp2_with fail
      exact ⟨rfl, gb_refl _ _, rfl⟩
    · have h20 : u 43 = .bool true := hd 20 (by kernel_rfl)
      have h21 : u 44 = .slice (some ⟨bP, oP, none⟩) 2 cP := hd 21 (by kernel_rfl)
      clear hd ho
      rw [h20, h21]
      refine wpList_guard (by rfl) ?_
      go_wp2_with fail
      exact ⟨rfl, gb_refl _ _, rfl⟩
    · have h20 : u 43 = .bool true := hd 20 (by kernel_rfl)
      have h22 : u 45 = .pointer (some ⟨bP, oP + 32, none⟩) := hd 22 (by kernel_rfl)
      clear hd ho
      rw [h20, h22]
      refine wpList_guard (by rfl) ?_
      have r1 := rangeAt_grown rP1 hg (by simp)
      go_wp2_with ((with_reducible refine wpList_load_range (t := 34) bP (oP + 32) (x3.l.map bv) _ r1 (by kernel_rfl) Try.underlying34 rfl (idSize _) ?_))
      exact ⟨rfl, gb_refl _ _, rfl⟩
    · have h20 : u 43 = .bool true := hd 20 (by kernel_rfl)
      clear hd ho
      rw [h20]
      refine wpList_guard (by rfl) ?_
      go_wp2_with fail
      exact ⟨rfl, gb_refl _ _, rfl⟩
    · have h20 : u 43 = .bool true := hd 20 (by kernel_rfl)
      have h24 : u 47 = .slice (some ⟨bL, 0, none⟩) 3 3 := hd 24 (by kernel_rfl)
      clear hd ho
      rw [h20, h24]
      refine wpList_guard (by rfl) ?_
      go_wp2_with fail
      exact ⟨rfl, gb_refl _ _, rfl⟩
    · have h20 : u 43 = .bool true := hd 20 (by kernel_rfl)
      have h25 : u 48 = .pointer (some ⟨bL, 64, none⟩) := hd 25 (by kernel_rfl)
      clear hd ho
      rw [h20, h25]
      refine wpList_guard (by rfl) ?_
      have r1 := rangeAt_grown rL2 hg (by simp)
      go_wp2_with ((with_reducible refine wpList_load_range (t := 34) bL 64 (x3.l.map bv) _ r1 (by kernel_rfl) Try.underlying34 rfl (idSize _) ?_))
      exact ⟨rfl, gb_refl _ _, rfl⟩
    · have h20 : u 43 = .bool true := hd 20 (by kernel_rfl)
      have h23 : u 46 = idv x3 := hd 23 (by kernel_rfl)
      have h26 : u 49 = idv x3 := hd 26 (by kernel_rfl)
      clear hd ho
      rw [h20, h23, h26]
      refine wpList_guard (by rfl) ?_
      go_wp2_with ((with_reducible refine wpList_eql_id idEq x3 x3 (by kernel_rfl) (by kernel_rfl) ?_))
      refine ⟨rfl, gb_refl _ _, ?_⟩
      show Value.bool _ = .bool true
      rw [beq_self_eq_true]
    · have h20 : u 43 = .bool true := hd 20 (by kernel_rfl)
      have h27 : u 50 = .bool true := hd 27 (by kernel_rfl)
      clear hd ho
      rw [h20, h27]
      go_wp2_with fail
      exact ⟨rfl, gb_refl _ _, rfl⟩
    · have h28 : u 51 = .bool true := hd 28 (by kernel_rfl)
      clear hd ho
      rw [h28]
      go_wp2_with fail
      exact ⟨rfl, gb_refl _ _, rfl⟩
    · have h29 : u 52 = .bool true := hd 29 (by kernel_rfl)
      clear hd ho
      rw [h29]
      refine wpList_guard (by rfl) ?_
      go_wp2_with fail
      exact ⟨rfl, gb_refl _ _, rfl⟩
    · have h29 : u 52 = .bool true := hd 29 (by kernel_rfl)
      have h30 : u 53 = .slice (some ⟨bQ, oQ, none⟩) 1 cQ := hd 30 (by kernel_rfl)
      clear hd ho
      rw [h29, h30]
      refine wpList_guard (by rfl) ?_
      go_wp2_with fail
      exact ⟨rfl, gb_refl _ _, rfl⟩
    · have h29 : u 52 = .bool true := hd 29 (by kernel_rfl)
      have h31 : u 54 = .int .i64 1 := hd 31 (by kernel_rfl)
      clear hd ho
      rw [h29, h31]
      refine wpList_guard (by rfl) ?_
      go_wp2_with fail
      exact ⟨rfl, gb_refl _ _, rfl⟩
    · have h29 : u 52 = .bool true := hd 29 (by kernel_rfl)
      have h32 : u 55 = .bool true := hd 32 (by kernel_rfl)
      clear hd ho
      rw [h29, h32]
      go_wp2_with fail
      exact ⟨rfl, gb_refl _ _, rfl⟩
    · have h33 : u 56 = .bool true := hd 33 (by kernel_rfl)
      clear hd ho
      rw [h33]
      go_wp2_with fail
      exact ⟨rfl, gb_refl _ _, rfl⟩
    · have h34 : u 57 = .bool true := hd 34 (by kernel_rfl)
      clear hd ho
      rw [h34]
      refine wpList_guard (by rfl) ?_
      go_wp2_with fail
      exact ⟨rfl, gb_refl _ _, rfl⟩
    · have h34 : u 57 = .bool true := hd 34 (by kernel_rfl)
      have h35 : u 58 = .slice (some ⟨bQ, oQ, none⟩) 1 cQ := hd 35 (by kernel_rfl)
      clear hd ho
      rw [h34, h35]
      refine wpList_guard (by rfl) ?_
      go_wp2_with fail
      exact ⟨rfl, gb_refl _ _, rfl⟩
    · have h34 : u 57 = .bool true := hd 34 (by kernel_rfl)
      have h36 : u 59 = .pointer (some ⟨bQ, oQ, none⟩) := hd 36 (by kernel_rfl)
      clear hd ho
      rw [h34, h36]
      refine wpList_guard (by rfl) ?_
      have r1 := rangeAt_grown rQ0 hg (by simp)
      go_wp2_with ((with_reducible refine wpList_load_range (t := 34) bQ oQ (x3.l.map bv) _ r1 (by kernel_rfl) Try.underlying34 rfl (idSize _) ?_))
      exact ⟨rfl, gb_refl _ _, rfl⟩
    · have h34 : u 57 = .bool true := hd 34 (by kernel_rfl)
      clear hd ho
      rw [h34]
      refine wpList_guard (by rfl) ?_
      go_wp2_with fail
      exact ⟨rfl, gb_refl _ _, rfl⟩
    · have h34 : u 57 = .bool true := hd 34 (by kernel_rfl)
      have h38 : u 61 = .slice (some ⟨bL, 0, none⟩) 3 3 := hd 38 (by kernel_rfl)
      clear hd ho
      rw [h34, h38]
      refine wpList_guard (by rfl) ?_
      go_wp2_with fail
      exact ⟨rfl, gb_refl _ _, rfl⟩
    · have h34 : u 57 = .bool true := hd 34 (by kernel_rfl)
      have h39 : u 62 = .pointer (some ⟨bL, 64, none⟩) := hd 39 (by kernel_rfl)
      clear hd ho
      rw [h34, h39]
      refine wpList_guard (by rfl) ?_
      have r1 := rangeAt_grown rL2 hg (by simp)
      go_wp2_with ((with_reducible refine wpList_load_range (t := 34) bL 64 (x3.l.map bv) _ r1 (by kernel_rfl) Try.underlying34 rfl (idSize _) ?_))
      exact ⟨rfl, gb_refl _ _, rfl⟩
    · have h34 : u 57 = .bool true := hd 34 (by kernel_rfl)
      have h37 : u 60 = idv x3 := hd 37 (by kernel_rfl)
      have h40 : u 63 = idv x3 := hd 40 (by kernel_rfl)
      clear hd ho
      rw [h34, h37, h40]
      refine wpList_guard (by rfl) ?_
      go_wp2_with ((with_reducible refine wpList_eql_id idEq x3 x3 (by kernel_rfl) (by kernel_rfl) ?_))
      refine ⟨rfl, gb_refl _ _, ?_⟩
      show Value.bool _ = .bool true
      rw [beq_self_eq_true]
    · have h34 : u 57 = .bool true := hd 34 (by kernel_rfl)
      have h41 : u 64 = .bool true := hd 41 (by kernel_rfl)
      clear hd ho
      rw [h34, h41]
      go_wp2_with fail
      exact ⟨rfl, gb_refl _ _, rfl⟩
    · have h42 : u 65 = .bool true := hd 42 (by kernel_rfl)
      clear hd ho
      rw [h42]
      go_wp2_with fail
      exact ⟨rfl, gb_refl _ _, rfl⟩
    · have h43 : u 66 = .bool true := hd 43 (by kernel_rfl)
      clear hd ho
      rw [h43]
      refine wpList_guard (by rfl) ?_
      go_wp2_with fail
      exact ⟨rfl, gb_refl _ _, rfl⟩
    · have h43 : u 66 = .bool true := hd 43 (by kernel_rfl)
      have h44 : u 67 = .slice (some ⟨bL, 0, none⟩) 3 3 := hd 44 (by kernel_rfl)
      clear hd ho
      rw [h43, h44]
      refine wpList_guard (by rfl) ?_
      go_wp2_with fail
      exact ⟨rfl, gb_refl _ _, rfl⟩
    · have h43 : u 66 = .bool true := hd 43 (by kernel_rfl)
      have h45 : u 68 = .pointer (some ⟨bL, 32, none⟩) := hd 45 (by kernel_rfl)
      clear hd ho
      rw [h43, h45]
      refine wpList_guard (by rfl) ?_
      have r1 := rangeAt_grown rL1 hg (by simp)
      go_wp2_with ((with_reducible refine wpList_load_range (t := 34) bL 32 (x2.l.map bv) _ r1 (by kernel_rfl) Try.underlying34 rfl (idSize _) ?_))
      exact ⟨rfl, gb_refl _ _, rfl⟩
    · have h43 : u 66 = .bool true := hd 43 (by kernel_rfl)
      clear hd ho
      rw [h43]
      refine wpList_guard (by rfl) ?_
      go_wp2_with fail
      exact ⟨rfl, gb_refl _ _, rfl⟩
    · have h43 : u 66 = .bool true := hd 43 (by kernel_rfl)
      clear hd ho
      rw [h43]
      refine wpList_guard (by rfl) ?_
      have b1 := b6.grown hg (by simp)
      go_wp2_with ((with_reducible refine wpList_load_bk (t := 34) p6 _ (R.l.map bv) _ b1 (by kernel_rfl) Try.underlying34 rfl (idSize _) ?_))
      exact ⟨rfl, gb_refl _ _, rfl⟩
    · have h43 : u 66 = .bool true := hd 43 (by kernel_rfl)
      have h46 : u 69 = idv x2 := hd 46 (by kernel_rfl)
      have h47 : u 70 = .slice (some ⟨bP, oP, none⟩) 2 cP := hd 47 (by kernel_rfl)
      have h48 : u 71 = idv R := hd 48 (by kernel_rfl)
      clear hd ho
      rw [h43, h46, h47, h48]
      refine wpList_guard (by rfl) ?_
      have hp1 := RI.gr HP.out hg
      go_wp2_with (go_at_call 35; ((with_reducible refine (ckInc_idv x2 R 1 3 _ ps _ hp1).mono ?_); rintro e w3 ⟨rfl, g3⟩; rw [HC1.out]))
      exact ⟨rfl, g3, rfl⟩
    · have h43 : u 66 = .bool true := hd 43 (by kernel_rfl)
      have h49 : u 72 = .int .i64 0 := hd 49 (by kernel_rfl)
      clear hd ho
      rw [h43, h49]
      refine wpList_guard (by rfl) ?_
      go_wp2_with fail
      exact ⟨rfl, gb_refl _ _, rfl⟩
    · have h43 : u 66 = .bool true := hd 43 (by kernel_rfl)
      have h50 : u 73 = .bool true := hd 50 (by kernel_rfl)
      clear hd ho
      rw [h43, h50]
      go_wp2_with fail
      exact ⟨rfl, gb_refl _ _, rfl⟩
    · have h51 : u 74 = .bool true := hd 51 (by kernel_rfl)
      clear hd ho
      rw [h51]
      go_wp2_with fail
      exact ⟨rfl, gb_refl _ _, rfl⟩
    · have h52 : u 75 = .bool true := hd 52 (by kernel_rfl)
      clear hd ho
      rw [h52]
      refine wpList_guard (by rfl) ?_
      go_wp2_with fail
      exact ⟨rfl, gb_refl _ _, rfl⟩
    · have h52 : u 75 = .bool true := hd 52 (by kernel_rfl)
      have h53 : u 76 = .slice (some ⟨bL, 0, none⟩) 3 3 := hd 53 (by kernel_rfl)
      clear hd ho
      rw [h52, h53]
      refine wpList_guard (by rfl) ?_
      go_wp2_with fail
      exact ⟨rfl, gb_refl _ _, rfl⟩
    · have h52 : u 75 = .bool true := hd 52 (by kernel_rfl)
      have h54 : u 77 = .pointer (some ⟨bL, 0, none⟩) := hd 54 (by kernel_rfl)
      clear hd ho
      rw [h52, h54]
      refine wpList_guard (by rfl) ?_
      have r1 := rangeAt_grown rL0 hg (by simp)
      go_wp2_with ((with_reducible refine wpList_load_range (t := 34) bL 0 (x1.l.map bv) _ r1 (by kernel_rfl) Try.underlying34 rfl (idSize _) ?_))
      exact ⟨rfl, gb_refl _ _, rfl⟩
    · have h52 : u 75 = .bool true := hd 52 (by kernel_rfl)
      clear hd ho
      rw [h52]
      refine wpList_guard (by rfl) ?_
      go_wp2_with fail
      exact ⟨rfl, gb_refl _ _, rfl⟩
    · have h52 : u 75 = .bool true := hd 52 (by kernel_rfl)
      clear hd ho
      rw [h52]
      refine wpList_guard (by rfl) ?_
      have b1 := b6.grown hg (by simp)
      go_wp2_with ((with_reducible refine wpList_load_bk (t := 34) p6 _ (R.l.map bv) _ b1 (by kernel_rfl) Try.underlying34 rfl (idSize _) ?_))
      exact ⟨rfl, gb_refl _ _, rfl⟩
    · have h52 : u 75 = .bool true := hd 52 (by kernel_rfl)
      have h55 : u 78 = idv x1 := hd 55 (by kernel_rfl)
      have h56 : u 79 = .slice (some ⟨bP, oP, none⟩) 2 cP := hd 56 (by kernel_rfl)
      have h57 : u 80 = idv R := hd 57 (by kernel_rfl)
      clear hd ho
      rw [h52, h55, h56, h57]
      refine wpList_guard (by rfl) ?_
      have hp1 := RI.gr HP.out hg
      go_wp2_with (go_at_call 35; ((with_reducible refine (ckInc_idv x1 R 1 3 _ ps _ hp1).mono ?_); rintro e w3 ⟨rfl, g3⟩; rw [HC2.out]))
      exact ⟨rfl, g3, rfl⟩
    · have h52 : u 75 = .bool true := hd 52 (by kernel_rfl)
      have h58 : u 81 = .int .i64 60 := hd 58 (by kernel_rfl)
      clear hd ho
      rw [h52, h58]
      refine wpList_guard (by rfl) ?_
      go_wp2_with fail
      exact ⟨rfl, gb_refl _ _, rfl⟩
    · have h52 : u 75 = .bool true := hd 52 (by kernel_rfl)
      have h59 : u 82 = .bool true := hd 59 (by kernel_rfl)
      clear hd ho
      rw [h52, h59]
      go_wp2_with fail
      exact ⟨rfl, gb_refl _ _, rfl⟩
    · have h60 : u 83 = .bool true := hd 60 (by kernel_rfl)
      clear hd ho
      rw [h60]
      go_wp2_with fail
      exact ⟨rfl, gb_refl _ _, rfl⟩
    · have h61 : u 84 = .bool true := hd 61 (by kernel_rfl)
      clear hd ho
      rw [h61]
      refine wpList_guard (by rfl) ?_
      go_wp2_with fail
      exact ⟨rfl, gb_refl _ _, rfl⟩
    · have h61 : u 84 = .bool true := hd 61 (by kernel_rfl)
      have h62 : u 85 = .slice (some ⟨bL, 0, none⟩) 3 3 := hd 62 (by kernel_rfl)
      clear hd ho
      rw [h61, h62]
      refine wpList_guard (by rfl) ?_
      go_wp2_with fail
      exact ⟨rfl, gb_refl _ _, rfl⟩
    · have h61 : u 84 = .bool true := hd 61 (by kernel_rfl)
      have h63 : u 86 = .slice (some ⟨bL, 0, none⟩) 2 3 := hd 63 (by kernel_rfl)
      clear hd ho
      rw [h61, h63]
      refine wpList_guard (by rfl) ?_
      have hl1 := RI.gr HL2.out hg
      go_wp2_with (go_at_call 25; ((with_reducible refine (root_idv _ l2 _ hl1 HL2L.out).mono ?_); rintro e w3 ⟨rfl, g3⟩; rw [← HR2.out]))
      exact ⟨rfl, g3, rfl⟩
    · have h61 : u 84 = .bool true := hd 61 (by kernel_rfl)
      clear hd ho
      rw [h61]
      refine wpList_guard (by rfl) ?_
      have b1 := b6.grown hg (by simp)
      go_wp2_with ((with_reducible refine wpList_load_bk (t := 34) p6 _ (R.l.map bv) _ b1 (by kernel_rfl) Try.underlying34 rfl (idSize _) ?_))
      exact ⟨rfl, gb_refl _ _, rfl⟩
    · have h61 : u 84 = .bool true := hd 61 (by kernel_rfl)
      clear hd ho
      rw [h61]
      refine wpList_guard (by rfl) ?_
      go_wp2_with fail
      exact ⟨rfl, gb_refl _ _, rfl⟩
    · have h61 : u 84 = .bool true := hd 61 (by kernel_rfl)
      have h64 : u 87 = idv R2 := hd 64 (by kernel_rfl)
      have h65 : u 88 = idv R := hd 65 (by kernel_rfl)
      have h66 : u 89 = .slice (some ⟨bQ, oQ, none⟩) 1 cQ := hd 66 (by kernel_rfl)
      clear hd ho
      rw [h61, h64, h65, h66]
      refine wpList_guard (by rfl) ?_
      have hq1 := RI.gr HQ.out hg
      go_wp2_with (go_at_call 39; ((with_reducible refine (ckCon_idv R2 R 2 3 _ qs _ hq1).mono ?_); rintro e w3 ⟨rfl, g3⟩; rw [HC3.out]))
      exact ⟨rfl, g3, rfl⟩
    · have h61 : u 84 = .bool true := hd 61 (by kernel_rfl)
      have h67 : u 90 = .int .i64 0 := hd 67 (by kernel_rfl)
      clear hd ho
      rw [h61, h67]
      refine wpList_guard (by rfl) ?_
      go_wp2_with fail
      exact ⟨rfl, gb_refl _ _, rfl⟩
    · have h61 : u 84 = .bool true := hd 61 (by kernel_rfl)
      have h68 : u 91 = .bool true := hd 68 (by kernel_rfl)
      clear hd ho
      rw [h61, h68]
      go_wp2_with fail
      exact ⟨rfl, gb_refl _ _, rfl⟩

  case fin =>
    intro u w5 hg hφ
    have h69 : u 92 = .bool true := hφ 69 (by omega)
    simp (decide := true) only [fillAct, List.mapIdx_cons, List.mapIdx_nil, Nat.reduceAdd, if_true, if_false]
    rw [h69]
    clear hφ
    go_wp2_with fail
    go_ret
    exact ⟨rfl, gb_trans HG.out hg⟩
end Go.Proofs.Ytajgklomcapboaa
