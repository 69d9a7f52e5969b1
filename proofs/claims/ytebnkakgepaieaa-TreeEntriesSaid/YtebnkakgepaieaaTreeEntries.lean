import Derived.Test.YtebnkakgepaieaaEntries
import Derived.Test.YtebnkakgepaieaaGrowsE
import Derived.Test.YtebnkakgepaieaaRefLeafE
import Derived.Test.YtebnkakgepaieaaSpecsQ
import Derived.Test.YtebnkakgepaieaaGuard
import Derived.Deep.CutBlock
/- TreeEntries: the walk. -/
namespace Sc
open Go Go.RowKit
theorem specs_skip {a : Act} {d : Nat} (hd : decide (d < a.tmps.size) = true) : a = a.put (some d) (a.tmps.getD d undef) := by
  have h := of_decide_eq_true hd
  obtain ⟨tm, df⟩ := a
  simp only [Act.put]
  congr 1
  apply Array.ext'
  apply List.ext_getElem?
  intro j
  rw [Array.getElem?_toList, Array.getElem?_toList]
  by_cases e : d = j
  · subst e
    rw [Array.getElem?_setIfInBounds_self_of_lt h, Array.getD_eq_getD_getElem?, Array.getElem?_eq_getElem h]; rfl
  · rw [Array.getElem?_setIfInBounds_ne e]
end Sc
namespace Go.Proofs.Ytebnkakgepaieaa
open Go.RowKit Go.Shelf Sc
theorem one_read (w : World) (x : Sc.Id) : RI (w.alloc (.cells (x.l.map bv).toArray 28)) (.slice (some ⟨w.heap.size, 0, none⟩) 1 1) [x] := by
  have h := (Bk.new w 28 (x.l.map bv)).range
  unfold RI RdI
  rw [idCells_one]
  exact Rd.mk' h (by rw [World.size_alloc]; omega) (Nat.le_refl _) (by decide) (by simp [x.h])
theorem root_one (x : Sc.Id) : root nd e0 [x] = x := by unfold root; rfl
def teφ (bG oG cG q p nu cu m : Nat) (Au : Option Addr) (l : List UInt8) (x x' : Sc.Id) (b : Bool) (i : Nat) (v : Value) (w : World) : Prop := match i with
  | 0 => v = .slice (some ⟨bG, oG, none⟩) q cG
  | 1 => v = .int .i64 (p : Int)
  | 2 => v = .pointer (some ⟨bG, oG + p * 32, none⟩)
  | 3 => v = idv x
  | 4 => v = .slice Au nu cu
  | 5 => v = .slice Au nu cu
  | 6 => v = .int .i64 (nu : Int)
  | 7 => v = .int .i64 (m : Int)
  | 8 => v = .slice Au m cu
  | 9 => v = sv (l.take 300)
  | 10 => v = idv x'
  | 11 => v = .bool b
  | 12 => v = .bool b
  | 13 => b = true → v = .slice Au nu cu
  | 14 => b = true → v = .int .i64 (nu : Int)
  | 15 => b = true → v = .bool false
  | 16 => v = .bool false
  | 17 => v = .bool false
  | 18 => v = .slice (some ⟨bG, oG, none⟩) q cG
  | 19 => v = .int .i64 (p : Int)
  | 20 => v = .pointer (some ⟨bG, oG + p * 32, none⟩)
  | 21 => v = idv x
  | 22 => RI w v [x]
  | 23 => v = idv x
  | 24 => v = .slice (some ⟨bG, oG, none⟩) q cG
  | 25 => v = .int .i64 (p : Int)
  | 26 => v = .pointer (some ⟨bG, oG + p * 32, none⟩)
  | 27 => v = idv x
  | 28 => v = .bool false
  | _ => True
theorem teφ_gr (bG oG cG q p nu cu m : Nat) (Au : Option Addr) (l : List UInt8) (x x' : Sc.Id) (b : Bool) : ∀ i v w w', teφ bG oG cG q p nu cu m Au l x x' b i v w → Gr w w' → teφ bG oG cG q p nu cu m Au l x x' b i v w' := by
  intro i v w w' h hg
  match i with
  | 0 => exact h
  | 1 => exact h
  | 2 => exact h
  | 3 => exact h
  | 4 => exact h
  | 5 => exact h
  | 6 => exact h
  | 7 => exact h
  | 8 => exact h
  | 9 => exact h
  | 10 => exact h
  | 11 => exact h
  | 12 => exact h
  | 13 => exact h
  | 14 => exact h
  | 15 => exact h
  | 16 => exact h
  | 17 => exact h
  | 18 => exact h
  | 19 => exact h
  | 20 => exact h
  | 21 => exact h
  | 22 => exact RI.gr h hg
  | 23 => exact h
  | 24 => exact h
  | 25 => exact h
  | 26 => exact h
  | 27 => exact h
  | 28 => exact h
  | i + 29 => exact h

set_option maxHeartbeats 4000000 in
set_option maxRecDepth 100000 in
theorem entries_walk (v : Value) (l0 : List (List UInt8)) (NB : Nat → Prop) (w : World) (hv : RdBB NB w v l0) (hNB : ∀ b, NB b → b < w.heap.size) (hl0 : ∀ l ∈ l0, l.length ≤ 140737488355328) :
    Calls Try.prog 3 #[v] w fun e w' => e = .returned (.bool true) ∧ w.grownBy w' none := by
  go_enter Try.func3, Try.ntmps3
  obtain ⟨A, c, rfl, hc⟩ : ∃ A c, v = .slice A l0.length c ∧ l0.length ≤ c := by obtain ⟨vs, h, _⟩ := hv; exact Rd.form h
  have hm : l0.length ≤ maxLen := by obtain ⟨vs, h, _⟩ := hv; exact Rd.le h
  obtain ⟨q, hq⟩ : ∃ q, min l0.length 30 = q := ⟨_, rfl⟩
  have HV := Go.Lib.hid (rdbb_take hv (by omega : q ≤ l0.length))
  have hq30 : q ≤ 30 := by omega
  have hlq : (l0.take q).length = q := by rw [List.length_take]; omega
  obtain ⟨ls, hls⟩ : ∃ ls, ls = l0.take q := ⟨_, rfl⟩
  have hlx : ∀ l ∈ ls, l.length ≤ 140737488355328 := fun l hl => hl0 l (List.mem_of_mem_take (by rw [← hls]; exact hl))
  rw [← hls] at HV hlq
  clear hv hls hl0
  have HL := Go.Lib.hid hlq
  have HLX := Go.Lib.hid hlx
  have HQL : Hid (ls.length ≤ 1000000) := Go.Lib.hid (by omega)
  have HNB := Go.Lib.hid hNB
  clear hlq hlx hNB
  have hqc : q ≤ c := by omega
  have hqI : (0 : Int) ≤ (q : Int) ∧ (q : Int) ≤ (c : Int) := by omega
  have hne : decide ((q : Int) = (q : Int)) = true := decide_eq_true rfl
  go_wp2_with (first
    | (go_at_call 4; ((with_reducible refine (grows_any _).mono ?_); rintro e w1 ⟨rfl, g1⟩)
       have hv1 := HV.out.grown g1 (by simp)
       have hN1 : ∀ b, NB b → b < w1.heap.size := fun b hb => Nat.lt_of_lt_of_le (HNB.out b hb) g1.size)
    | ((with_reducible refine wpList_min (x := .tmp 10) l0.length 30 q hq (by kernel_rfl) (by kernel_rfl) ?_))
    | (go_at_call 5; ((with_reducible refine (entries_any _ ls NB _ hv1 hN1 HQL.out HLX.out).mono ?_); rintro e w2 ⟨vG, rfl, hoG, g2⟩)
       rw [HL.out] at hoG
       obtain ⟨AG, cG, rfl⟩ := hoG.form))
  obtain ⟨gs, hgs⟩ : ∃ gs, gs = ls.map leafS := ⟨_, rfl⟩
  rw [← hgs] at hoG
  have HGS := Go.Lib.hid hgs
  have hR0 : Rd (fun b => b < w2.heap.size) w2 32 (.slice AG q cG) q (idCells gs) := Ow.rd hoG (fun b hb => (hoG.lt hb).2)
  have HR0 := Go.Lib.hid hR0
  have HG0 := Go.Lib.hid (gb_trans g1 g2)
  clear hoG hgs hR0 hv1 hN1 g1 g2 hne
  go_loopw [22] (fun iv wr => ∃ (p : Nat), iv = .int .i64 (p : Int) ∧ p ≤ q ∧ Hid (Rd (fun b => b < wr.heap.size) wr 32 (.slice AG q cG) q (idCells gs)) ∧ Hid (w.grownBy wr none)) (fun iv _ => q - (intOf iv).toNat)
  case atStart => exact ⟨0, rfl, Nat.zero_le _, HR0, HG0⟩
  case round =>
    clear HR0 HG0
    obtain ⟨p, rfl, hi, HR, HG⟩ := hrel
    obtain ⟨wo, rfl⟩ : ∃ wo : World, wo = wr := ⟨_, rfl⟩
    by_cases hlt : p < q
    · have hd : decide ((p : Int) < (q : Int)) = true := decide_eq_true (by omega)
      have hd' : decide (p < q) = true := decide_eq_true hlt
      obtain ⟨vs, hrd, hel⟩ := HV.out.grown HG.out (by simp)
      rw [HL.out] at hrd
      obtain ⟨l, hx⟩ : ∃ l, ls[p]? = some l := ⟨_, List.getElem?_eq_getElem (by rw [HL.out]; exact hlt)⟩
      obtain ⟨u, hu, hb0⟩ := hel p l hx
      obtain ⟨bV, oV, cV, hvV, hbV, -, -, hrV⟩ := hrd.at (by omega)
      injection hvV with hA _ hcV
      subst hA hcV
      have ce := hrV p u hu
      obtain ⟨x, hxe⟩ : ∃ x, x = leafS l := ⟨_, rfl⟩
      have hgx : gs[p]? = some x := by rw [HGS.out, List.getElem?_map, hx, hxe]; rfl
      have hgi : (0 : Int) ≤ (p : Int) ∧ (p : Int) < (q : Int) := by omega
      obtain ⟨bG, oG, cG', hvG, hbG, -, -, hrG⟩ := HR.out.at (by omega)
      injection hvG with hAG _ hcG
      subst hAG hcG
      have rx := range_id hrG hgx
      obtain ⟨Au, cu, rfl, hcu⟩ := Rd.form hb0
      have hmu := Rd.le hb0
      obtain ⟨nu, hnu⟩ : ∃ nu, nu = l.length := ⟨_, rfl⟩
      obtain ⟨m, hm2⟩ : ∃ m, min nu 300 = m := ⟨_, rfl⟩
      have HB1 : Hid (RdB NB wo (.slice Au m cu) (l.take 300)) := Go.Lib.hid (by
        have h := Rd.takeTo hb0 m (by omega)
        rw [Nat.mul_one, ← List.map_take] at h
        unfold RdB
        rw [show (l.take 300).length = m by rw [List.length_take]; omega, show l.take 300 = l.take m by
          rcases (by omega : (l.length ≤ 300 ∧ m = l.length) ∨ m = 300) with h | h
          · rw [List.take_of_length_le h.1, h.2, List.take_length]
          · rw [h]]
        exact h)
      obtain ⟨x', hx'⟩ : ∃ x', x' = sha (0 :: l.take 300) := ⟨_, rfl⟩
      obtain ⟨b, hb⟩ : ∃ b, (!(x.l == x'.l)) = b := ⟨_, rfl⟩
      have HN : Hid (b = true → 300 < nu) := Go.Lib.hid (fun h => by
        rcases Nat.lt_or_ge 300 nu with h1 | h1
        · exact h1
        · rw [hxe, hx', List.take_of_length_le (by omega)] at hb
          rw [← hb] at h
          unfold leafS at h
          rw [beq_self_eq_true] at h
          cases h)
      have HT : Hid ((l.take 300).length ≤ 1099511627000) := Go.Lib.hid (by rw [List.length_take]; omega)
      have HM := Go.Lib.hid hm2
      have HX2 := Go.Lib.hid hx'
      have HBB := Go.Lib.hid hb
      have hmI : (0 : Int) ≤ (m : Int) ∧ (m : Int) ≤ (cu : Int) := by omega
      have hmc : m ≤ cu := by omega
      rw [← hnu] at hb0 ce
      have hnuM : (nu : Int) ≤ 9223372036854775807 := by simp only [maxLen] at hmu; omega
      clear hx hu hb0 hel hrd hrV hgx hrG hxe hx' hb hnu hm2
      go_upto_region 10 with fail
      refine wp_region_specs 29 [27, 28, 29, 30, 31, 32, 33, 34, 35, 36, 37, 38, 39, 40, 41, 42, 43, 44, 45, 46, 47, 48, 49, 50, 51, 52, 53, 54, 55] (by kernel_rfl) (by kernel_rfl) (teφ bG oG cG q p nu cu m Au l x x' b) (teφ_gr bG oG cG q p nu cu m Au l x x' b) ?step ?fin
      case step =>
        intro i_ o_ ho hi_ u w' hg hd
        rcases (by omega : i_ = 0 ∨ i_ = 1 ∨ i_ = 2 ∨ i_ = 3 ∨ i_ = 4 ∨ i_ = 5 ∨ i_ = 6 ∨ i_ = 7 ∨ i_ = 8 ∨ i_ = 9 ∨ i_ = 10 ∨ i_ = 11 ∨ i_ = 12 ∨ i_ = 13 ∨ i_ = 14 ∨ i_ = 15 ∨ i_ = 16 ∨ i_ = 17 ∨ i_ = 18 ∨ i_ = 19 ∨ i_ = 20 ∨ i_ = 21 ∨ i_ = 22 ∨ i_ = 23 ∨ i_ = 24 ∨ i_ = 25 ∨ i_ = 26 ∨ i_ = 27 ∨ i_ = 28) with rfl | rfl | rfl | rfl | rfl | rfl | rfl | rfl | rfl | rfl | rfl | rfl | rfl | rfl | rfl | rfl | rfl | rfl | rfl | rfl | rfl | rfl | rfl | rfl | rfl | rfl | rfl | rfl | rfl <;> obtain rfl := Option.some.inj ho <;>
          simp (decide := true) only [fillAct, List.mapIdx_cons, List.mapIdx_nil, Nat.reduceAdd, if_true, if_false, List.getD_cons_zero, List.getD_cons_succ]
        · clear hd ho
          go_wp2_with fail
          exact ⟨rfl, gb_refl _ _, rfl⟩
        · clear hd ho
          go_wp2_with fail
          exact ⟨rfl, gb_refl _ _, rfl⟩
        · have h0 : u 27 = .slice (some ⟨bG, oG, none⟩) q cG := hd 0 (by kernel_rfl)
          have h1 : u 28 = .int .i64 (p : Int) := hd 1 (by kernel_rfl)
          clear hd ho
          rw [h0, h1]
          go_wp2_with fail
          exact ⟨rfl, gb_refl _ _, rfl⟩
        · have h2 : u 29 = .pointer (some ⟨bG, oG + p * 32, none⟩) := hd 2 (by kernel_rfl)
          clear hd ho
          rw [h2]
          have r1 := rangeAt_grown rx hg (by simp)
          go_wp2_with ((with_reducible refine wpList_load_range (t := 28) bG (oG + p * 32) (x.l.map bv) _ r1 (by kernel_rfl) Try.underlying28 rfl (idSize _) ?_))
          exact ⟨rfl, gb_refl _ _, rfl⟩
        · clear hd ho
          go_wp2_with fail
          exact ⟨rfl, gb_refl _ _, rfl⟩
        · clear hd ho
          go_wp2_with fail
          exact ⟨rfl, gb_refl _ _, rfl⟩
        · have h5 : u 32 = .slice Au nu cu := hd 5 (by kernel_rfl)
          clear hd ho
          rw [h5]
          go_wp2_with fail
          exact ⟨rfl, gb_refl _ _, rfl⟩
        · have h6 : u 33 = .int .i64 (nu : Int) := hd 6 (by kernel_rfl)
          clear hd ho
          rw [h6]
          go_wp2_with ((with_reducible refine wpList_min (x := .tmp 33) nu 300 m HM.out (by kernel_rfl) (by kernel_rfl) ?_))
          exact ⟨rfl, gb_refl _ _, rfl⟩
        · have h4 : u 31 = .slice Au nu cu := hd 4 (by kernel_rfl)
          have h7 : u 34 = .int .i64 (m : Int) := hd 7 (by kernel_rfl)
          clear hd ho
          rw [h4, h7]
          go_wp2_with fail
          exact ⟨rfl, gb_refl _ _, rfl⟩
        · have h8 : u 35 = .slice Au m cu := hd 8 (by kernel_rfl)
          clear hd ho
          rw [h8]
          have h1 := Rd.grown HB1.out hg (by simp)
          refine wpList_conv_bs (x := .tmp 35) Try.underlying26 Try.underlying5 Try.underlying9 (l.take 300) (by kernel_rfl) h1 ?_
          go_wp2_with fail
          exact ⟨rfl, gb_refl _ _, rfl⟩
        · have h9 : u 36 = sv (l.take 300) := hd 9 (by kernel_rfl)
          clear hd ho
          rw [h9]
          go_wp2_with (go_at_call 6; ((with_reducible refine (refLeaf_any (l.take 300) HT.out _).mono ?_); rintro e w3 ⟨rfl, g3⟩; rw [← HX2.out]))
          exact ⟨rfl, g3, rfl⟩
        · have h3 : u 30 = idv x := hd 3 (by kernel_rfl)
          have h10 : u 37 = idv x' := hd 10 (by kernel_rfl)
          clear hd ho
          rw [h3, h10]
          refine wpList_neq_id (x := .tmp 30) (y := .tmp 37) idEq x x' (by kernel_rfl) (by kernel_rfl) ?_
          rw [HBB.out]
          go_wp2_with fail
          exact ⟨rfl, gb_refl _ _, rfl⟩
        · have h11 : u 38 = .bool b := hd 11 (by kernel_rfl)
          clear hd ho
          rw [h11]
          go_wp2_with fail
          exact ⟨rfl, gb_refl _ _, rfl⟩
        · have h12 : u 39 = .bool b := hd 12 (by kernel_rfl)
          clear hd ho
          rw [h12]
          rcases b with _ | _
          · refine wpList_unwanted (by rfl) ?_
            exact ⟨by rfl, gb_refl _ _, fun h => by cases h⟩
          · refine wpList_guard (by rfl) ?_
            go_wp2_with fail
            exact ⟨rfl, gb_refl _ _, fun _ => rfl⟩
        · have h12 : u 39 = .bool b := hd 12 (by kernel_rfl)
          have h13 : b = true → (u 40) = .slice Au nu cu := hd 13 (by kernel_rfl)
          clear hd ho
          rw [h12]
          rcases b with _ | _
          · refine wpList_unwanted (by rfl) ?_
            exact ⟨by rfl, gb_refl _ _, fun h => by cases h⟩
          · rw [h13 rfl]
            refine wpList_guard (by rfl) ?_
            go_wp2_with fail
            exact ⟨rfl, gb_refl _ _, fun _ => rfl⟩
        · have h12 : u 39 = .bool b := hd 12 (by kernel_rfl)
          have h14 : b = true → (u 41) = .int .i64 (nu : Int) := hd 14 (by kernel_rfl)
          clear hd ho
          rw [h12]
          rcases b with _ | _
          · refine wpList_unwanted (by rfl) ?_
            exact ⟨by rfl, gb_refl _ _, fun h => by cases h⟩
          · rw [h14 rfl]
            have hd : decide ((nu : Int) ≤ 300) = false := decide_eq_false (by have := HN.out rfl; omega)
            have hd2 : decide (nu ≤ 300) = false := decide_eq_false (by have := HN.out rfl; omega)
            refine wpList_guard (by rfl) ?_
            go_wp2_with fail
            exact ⟨rfl, gb_refl _ _, fun _ => rfl⟩
        · have h12 : u 39 = .bool b := hd 12 (by kernel_rfl)
          have h15 : b = true → (u 42) = .bool false := hd 15 (by kernel_rfl)
          clear hd ho
          rw [h12]
          rcases b with _ | _
          · go_wp2_with fail
            exact ⟨rfl, gb_refl _ _, rfl⟩
          · rw [h15 rfl]
            go_wp2_with fail
            exact ⟨rfl, gb_refl _ _, rfl⟩
        · have h16 : u 43 = .bool false := hd 16 (by kernel_rfl)
          clear hd ho
          rw [h16]
          go_wp2_with fail
          exact ⟨rfl, gb_refl _ _, rfl⟩
        · have h17 : u 44 = .bool false := hd 17 (by kernel_rfl)
          clear hd ho
          rw [h17]
          refine wpList_guard (by rfl) ?_
          go_wp2_with fail
          exact ⟨rfl, gb_refl _ _, rfl⟩
        · have h17 : u 44 = .bool false := hd 17 (by kernel_rfl)
          clear hd ho
          rw [h17]
          refine wpList_guard (by rfl) ?_
          go_wp2_with fail
          exact ⟨rfl, gb_refl _ _, rfl⟩
        · have h17 : u 44 = .bool false := hd 17 (by kernel_rfl)
          have h18 : u 45 = .slice (some ⟨bG, oG, none⟩) q cG := hd 18 (by kernel_rfl)
          have h19 : u 46 = .int .i64 (p : Int) := hd 19 (by kernel_rfl)
          clear hd ho
          rw [h17, h18, h19]
          refine wpList_guard (by rfl) ?_
          go_wp2_with fail
          exact ⟨rfl, gb_refl _ _, rfl⟩
        · have h17 : u 44 = .bool false := hd 17 (by kernel_rfl)
          have h20 : u 47 = .pointer (some ⟨bG, oG + p * 32, none⟩) := hd 20 (by kernel_rfl)
          clear hd ho
          rw [h17, h20]
          refine wpList_guard (by rfl) ?_
          have r1 := rangeAt_grown rx hg (by simp)
          go_wp2_with ((with_reducible refine wpList_load_range (t := 28) bG (oG + p * 32) (x.l.map bv) _ r1 (by kernel_rfl) Try.underlying28 rfl (idSize _) ?_))
          exact ⟨rfl, gb_refl _ _, rfl⟩
        · have h17 : u 44 = .bool false := hd 17 (by kernel_rfl)
          have h21 : u 48 = idv x := hd 21 (by kernel_rfl)
          clear hd ho
          rw [h17, h21]
          refine wpList_guard (by rfl) ?_
          refine wpList_build_id (y := .tmp 48) x (by kernel_rfl) ?_
          go_wp2_with fail
          exact ⟨rfl, gb_alloc (gb_refl _ _) _, one_read _ x⟩
        · have h17 : u 44 = .bool false := hd 17 (by kernel_rfl)
          have h22 : RI w' (u 49) [x] := hd 22 (by kernel_rfl)
          clear hd ho
          rw [h17]
          refine wpList_guard (by rfl) ?_
          have h22p : RdI (fun b => b < w'.heap.size) w' (u 49) [x] := h22
          have h1s : [x].length ≤ 1099511627776 := by simp
          have hNs := lt_self w'
          go_wp2_with (go_at_call 7; ((with_reducible refine (treeRoot_any _ [x] _ _ h22p hNs h1s).mono ?_); rintro e w3 ⟨rfl, g3⟩; rw [root_one]))
          exact ⟨rfl, g3, rfl⟩
        · have h17 : u 44 = .bool false := hd 17 (by kernel_rfl)
          clear hd ho
          rw [h17]
          refine wpList_guard (by rfl) ?_
          go_wp2_with fail
          exact ⟨rfl, gb_refl _ _, rfl⟩
        · have h17 : u 44 = .bool false := hd 17 (by kernel_rfl)
          clear hd ho
          rw [h17]
          refine wpList_guard (by rfl) ?_
          go_wp2_with fail
          exact ⟨rfl, gb_refl _ _, rfl⟩
        · have h17 : u 44 = .bool false := hd 17 (by kernel_rfl)
          have h24 : u 51 = .slice (some ⟨bG, oG, none⟩) q cG := hd 24 (by kernel_rfl)
          have h25 : u 52 = .int .i64 (p : Int) := hd 25 (by kernel_rfl)
          clear hd ho
          rw [h17, h24, h25]
          refine wpList_guard (by rfl) ?_
          go_wp2_with fail
          exact ⟨rfl, gb_refl _ _, rfl⟩
        · have h17 : u 44 = .bool false := hd 17 (by kernel_rfl)
          have h26 : u 53 = .pointer (some ⟨bG, oG + p * 32, none⟩) := hd 26 (by kernel_rfl)
          clear hd ho
          rw [h17, h26]
          refine wpList_guard (by rfl) ?_
          have r1 := rangeAt_grown rx hg (by simp)
          go_wp2_with ((with_reducible refine wpList_load_range (t := 28) bG (oG + p * 32) (x.l.map bv) _ r1 (by kernel_rfl) Try.underlying28 rfl (idSize _) ?_))
          exact ⟨rfl, gb_refl _ _, rfl⟩
        · have h17 : u 44 = .bool false := hd 17 (by kernel_rfl)
          have h23 : u 50 = idv x := hd 23 (by kernel_rfl)
          have h27 : u 54 = idv x := hd 27 (by kernel_rfl)
          clear hd ho
          rw [h17, h23, h27]
          refine wpList_guard (by rfl) ?_
          refine wpList_neq_id (x := .tmp 50) (y := .tmp 54) idEq x x (by kernel_rfl) (by kernel_rfl) ?_
          rw [show (!(x.l == x.l)) = false from by rw [beq_self_eq_true]; rfl]
          go_wp2_with fail
          exact ⟨rfl, gb_refl _ _, rfl⟩
      case fin =>
        intro u w5 hg hφ
        have h17 : u 44 = .bool false := hφ 17 (by omega)
        have h28 : u 55 = .bool false := hφ 28 (by omega)
        simp (decide := true) only [fillAct, List.mapIdx_cons, List.mapIdx_nil, Nat.reduceAdd, if_true, if_false, List.drop_succ_cons, List.drop_zero]
        rw [h17, h28]
        clear hφ
        have HG5 := Go.Lib.hid (gb_trans HG.out hg)
        have HR5 : Hid (Rd (fun b => b < w5.heap.size) w5 32 (.slice (some ⟨bG, oG, none⟩) q cG) q (idCells gs)) := Go.Lib.hid (Rd.mono (Rd.grown HR.out hg (by simp)) fun b hb => Nat.lt_of_lt_of_le hb hg.size)
        clear hg rx ce
        go_wp2_with fail
        exact ⟨⟨p + 1, by push_cast; rfl, by omega, HR5, HG5⟩, by simp only [intOf]; omega⟩
    · obtain rfl : p = q := by omega
      have hd : decide ((p : Int) < (p : Int)) = false := decide_eq_false (by omega)
      have hd' : decide (p < p) = false := decide_eq_false (by omega)
      go_wp2_with fail
      go_ret
      exact ⟨rfl, HG.out⟩
end Go.Proofs.Ytebnkakgepaieaa
