import Derived.Test.YtajgklomcapboaaProves
import Derived.Test.YtajgklomcapboaaRefSub
import Derived.Test.YtajgklomcapboaaSpecsL
import Derived.Deep.CutBlock
/- ProofBegins: the walk. -/
namespace Go.Proofs.Ytajgklomcapboaa
open Go.RowKit Go.Shelf Sc
theorem refRoot_ri {v : Value} (l : List Sc.Id) (w : World) (hv : RI w v l) (hsz : l.length ≤ 1099511627776) :
    Calls Try.prog 36 #[v] w fun e w' => e = .returned (idv (root nd e0 l)) ∧ w.grownBy w' none := refRoot_any v l _ w hv (fun _ h => h) hsz
def piφ (bL oL q c p nP cP : Nat) (AP : Option Addr) (R1 R : Sc.Id) (Y : List Sc.Id) (i : Nat) (v : Value) (w : World) : Prop := match i with
  | 0 => v = .int .i64 0
  | 1 => v = .bool true
  | 2 => v = .bool true
  | 3 => v = .slice AP nP cP
  | 4 => v = .slice (some ⟨bL, oL, none⟩) q c
  | 5 => v = .int .i64 (p : Int)
  | 6 => RI w v Y
  | 7 => v = .bool true
  | 8 => v = .bool true
  | 9 => v = .bool true
  | 10 => v = .int .i64 (p : Int)
  | 11 => v = .slice (some ⟨bL, oL, none⟩) q c
  | 12 => v = .int .i64 (q : Int)
  | 13 => v = .slice (some ⟨bL, oL, none⟩) q c
  | 14 => v = .int .i64 (p : Int)
  | 15 => v = .slice (some ⟨bL, oL, none⟩) p c
  | 16 => v = idv R1
  | 17 => v = .slice (some ⟨bL, oL, none⟩) q c
  | 18 => v = idv R
  | 19 => v = .slice AP nP cP
  | 20 => v = .int .i64 0
  | 21 => v = .bool true
  | 22 => v = .bool true
  | _ => True
theorem piφ_gr (bL oL q c p nP cP : Nat) (AP : Option Addr) (R1 R : Sc.Id) (Y : List Sc.Id) : ∀ i v w w', piφ bL oL q c p nP cP AP R1 R Y i v w → Gr w w' → piφ bL oL q c p nP cP AP R1 R Y i v w' := by
  intro i v w w' h hg
  match i with
  | 0 => exact h
  | 1 => exact h
  | 2 => exact h
  | 3 => exact h
  | 4 => exact h
  | 5 => exact h
  | 6 => exact RI.gr h hg
  | 7 => exact h
  | 8 => exact h
  | 9 => exact h
  | 10 => exact h
  | 11 => exact h
  | 12 => exact h
  | 13 => exact h
  | 14 => exact h
  | 15 => exact h
  | 16 => exact h
  | 17 => exact h
  | 18 => exact h
  | 19 => exact h
  | 20 => exact h
  | 21 => exact h
  | 22 => exact h
  | i + 23 => exact h

set_option maxHeartbeats 4000000 in
set_option maxRecDepth 100000 in
theorem begins_walk (v : Value) (l0 : List Sc.Id) (a : Int) (NB : Nat → Prop) (w : World) (hv : RdI NB w v l0) (hNB : ∀ b, NB b → b < w.heap.size) :
    Calls Try.prog 9 #[v, .int .i64 a] w fun e w' => e = .returned (.bool true) ∧ w.grownBy w' none := by
  go_enter Try.func9, Try.ntmps9
  obtain ⟨A, c, rfl, hc⟩ := Rd.form hv
  have hm := Rd.le hv
  obtain ⟨q, hq⟩ : ∃ q, min l0.length 40 = q := ⟨_, rfl⟩
  have HV := Go.Lib.hid (RI.of (RdI.takeTo hv 40 q hq) hNB)
  have hq40 : q ≤ 40 := by omega
  have hlq : (l0.take 40).length = q := by rw [List.length_take, Nat.min_comm]; exact hq
  obtain ⟨l, hle⟩ : ∃ l, l = l0.take 40 := ⟨_, rfl⟩
  rw [← hle] at HV hlq
  clear hv hle
  have HL := Go.Lib.hid hlq
  clear hlq
  have hqc : q ≤ c := by omega
  have hqI : (0 : Int) ≤ (q : Int) ∧ (q : Int) ≤ (c : Int) := by omega
  rcases (by omega : (a < 1 ∨ (q : Int) < a) ∨ (1 ≤ a ∧ a ≤ (q : Int))) with ha | ha
  · rcases (by omega : a < 1 ∨ (1 ≤ a ∧ (q : Int) < a)) with ha1 | ha1
    all_goals
      first | (have hd1 : decide (a < 1) = true := decide_eq_true ha1) | (have hd1 : decide (a < 1) = false := decide_eq_false (by omega); have hd2 : decide ((q : Int) < a) = true := decide_eq_true ha1.2)
      have HA := Go.Lib.hid ha
      clear ha ha1
      go_wp2_with (first
        | (go_at_call 32; ((with_reducible refine (proves_any _).mono ?_); rintro e w1 ⟨rfl, g1⟩))
        | ((with_reducible refine wpList_min (x := .tmp 11) l0.length 40 q hq (by kernel_rfl) (by kernel_rfl) ?_))
        | (go_at_call 37; ((with_reducible refine (cons_out A q c a _ HA.out).mono ?_); rintro e w1 ⟨rfl, rfl⟩)))
      go_ret
      exact ⟨rfl, g1⟩
  · obtain ⟨p, rfl⟩ : ∃ p : Nat, a = (p : Int) := ⟨a.toNat, by omega⟩
    have hd1 : decide ((p : Int) < 1) = false := decide_eq_false (by omega)
    have hd2 : decide ((q : Int) < (p : Int)) = false := decide_eq_false (by omega)
    have hd2' : decide (q < p) = false := decide_eq_false (by omega)
    have hpq : p ≤ q := by omega
    have hp1 : 1 ≤ p := by omega
    have HP1 := Go.Lib.hid hp1
    obtain ⟨Y, hY⟩ : ∃ Y, Y = link nd e0 l p true := ⟨_, rfl⟩
    obtain ⟨R, hR⟩ : ∃ R, R = root nd e0 l := ⟨_, rfl⟩
    have hl40 : l.length ≤ 1099511627776 := by rw [HL.out]; omega
    have hY40 : Y.length ≤ 41 := by rw [hY]; exact link_len40 hl40
    obtain ⟨R1, hR1⟩ : ∃ R1, R1 = root nd e0 (l.take p) := ⟨_, rfl⟩
    have hC : ckCon R1 R (p : Int) (q : Int) Y = 0 := by
      have h := links_link nd e0 l.length l p true R1 (Nat.le_refl _) hp1 (by rw [HL.out]; exact hpq) (fun _ => hR1)
      rw [← hY, ← hR, ← hR1, HL.out] at h
      rw [ckCon_in hp1 hpq (by omega), h, if_pos rfl]
    have HR1 := Go.Lib.hid hR1
    have hpc : p ≤ c := by omega
    have HT40 : Hid ((l.take p).length ≤ 1099511627776) := Go.Lib.hid (by rw [List.length_take]; omega)
    clear hR1
    have hv0 : RdI (fun b => b < w.heap.size) w (.slice A q c) l := HV.out
    obtain ⟨bL, oL, cL, hvL, hbL, -, -, hrL⟩ := (show Rd (fun b => b < w.heap.size) w 32 (.slice A q c) q (idCells l) from by have h := hv0; unfold RdI at h; rw [HL.out] at h; exact h).at (by omega)
    injection hvL with hA _ hcL
    subst hA hcL
    clear hrL
    obtain ⟨nP, hnP⟩ : ∃ nP, nP = Y.length := ⟨_, rfl⟩
    have HY := Go.Lib.hid hY
    have HR := Go.Lib.hid hR
    have HC := Go.Lib.hid hC
    have HNP := Go.Lib.hid hnP
    have HL40 := Go.Lib.hid hl40
    have HYM : Hid (Y.length ≤ 1000000) := Go.Lib.hid (by omega)
    have HAL : Hid (p ≤ l.length) := Go.Lib.hid (by rw [HL.out]; exact hpq)
    have hnP40 : nP ≤ 41 := by omega
    have hpI : (1 : Int) ≤ (p : Int) ∧ (p : Int) ≤ (q : Int) := by omega
    clear hY hR hC hnP
    go_upto_region 7 with (first
      | (go_at_call 32; ((with_reducible refine (proves_any _).mono ?_); rintro e w1 ⟨rfl, g1⟩)
         have hv1 : RdI (fun b => b < w1.heap.size) w1 (.slice (some ⟨bL, oL, none⟩) q c) l := RI.gr HV.out g1
         have hN1 := lt_self w1)
      | ((with_reducible refine wpList_min (x := .tmp 11) l0.length 40 q hq (by kernel_rfl) (by kernel_rfl) ?_))
      | (go_at_call 37; ((with_reducible refine (cons_any _ l p _ _ hv1 hN1 HP1.out HAL.out HL40.out).mono ?_); rintro e w2 ⟨vP, rfl, hoP, g2⟩)
         rw [← HY.out, ← HNP.out] at hoP
         obtain ⟨AP, cP, rfl⟩ := hoP.form))
    have HPW : Hid (RI w2 (.slice AP nP cP) Y) := Go.Lib.hid (by
      have h : Rd (fun b => b < w2.heap.size) w2 32 (.slice AP nP cP) nP (idCells Y) := Ow.rd hoP (fun b hb => (hoP.lt hb).2)
      unfold RI RdI; rw [← HNP.out]; exact h)
    have HLW : Hid (RI w2 (.slice (some ⟨bL, oL, none⟩) q c) l) := Go.Lib.hid (RI.gr (RI.gr HV.out g1) g2)
    have HTW : Hid (RI w2 (.slice (some ⟨bL, oL, none⟩) p c) (l.take p)) := Go.Lib.hid (RdI.toTake HLW.out HL.out hpq)
    have gW := gb_trans g1 g2
    clear hoP hv0 hv1 hN1 hd1 hd2 hd2'
    refine wp_region_specsL 23 [35, 36, 37, 38, 39, 40, 41, 42, 43, 44, 45, 46, 47, 48, 49, 50, 51, 52, 53, 54, 55, 56, 57] (by kernel_rfl) (piφ bL oL q c p nP cP AP R1 R Y) (piφ_gr bL oL q c p nP cP AP R1 R Y) ?step ?fin
    case step =>
      intro i_ o_ ho hi_ u w' hg hd
      rcases (by omega : i_ = 0 ∨ i_ = 1 ∨ i_ = 2 ∨ i_ = 3 ∨ i_ = 4 ∨ i_ = 5 ∨ i_ = 6 ∨ i_ = 7 ∨ i_ = 8 ∨ i_ = 9 ∨ i_ = 10 ∨ i_ = 11 ∨ i_ = 12 ∨ i_ = 13 ∨ i_ = 14 ∨ i_ = 15 ∨ i_ = 16 ∨ i_ = 17 ∨ i_ = 18 ∨ i_ = 19 ∨ i_ = 20 ∨ i_ = 21 ∨ i_ = 22) with rfl | rfl | rfl | rfl | rfl | rfl | rfl | rfl | rfl | rfl | rfl | rfl | rfl | rfl | rfl | rfl | rfl | rfl | rfl | rfl | rfl | rfl | rfl <;> obtain rfl := Option.some.inj ho <;>
        simp (decide := true) only [fillAct, List.mapIdx_cons, List.mapIdx_nil, Nat.reduceAdd, if_true, if_false, List.getD_cons_zero, List.getD_cons_succ]
      · clear hd ho
        go_wp2_with fail
        exact ⟨rfl, gb_refl _ _, rfl⟩
      · have h0 : u 35 = .int .i64 0 := hd 0 (by kernel_rfl)
        clear hd ho
        rw [h0]
        go_wp2_with fail
        exact ⟨rfl, gb_refl _ _, rfl⟩
      · have h1 : u 36 = .bool true := hd 1 (by kernel_rfl)
        clear hd ho
        rw [h1]
        go_wp2_with fail
        exact ⟨rfl, gb_refl _ _, rfl⟩
      · have h2 : u 37 = .bool true := hd 2 (by kernel_rfl)
        clear hd ho
        rw [h2]
        refine wpList_guard (by rfl) ?_
        go_wp2_with fail
        exact ⟨rfl, gb_refl _ _, rfl⟩
      · have h2 : u 37 = .bool true := hd 2 (by kernel_rfl)
        clear hd ho
        rw [h2]
        refine wpList_guard (by rfl) ?_
        go_wp2_with fail
        exact ⟨rfl, gb_refl _ _, rfl⟩
      · have h2 : u 37 = .bool true := hd 2 (by kernel_rfl)
        clear hd ho
        rw [h2]
        refine wpList_guard (by rfl) ?_
        go_wp2_with fail
        exact ⟨rfl, gb_refl _ _, rfl⟩
      · have h2 : u 37 = .bool true := hd 2 (by kernel_rfl)
        have h4 : u 39 = .slice (some ⟨bL, oL, none⟩) q c := hd 4 (by kernel_rfl)
        have h5 : u 40 = .int .i64 (p : Int) := hd 5 (by kernel_rfl)
        clear hd ho
        rw [h2, h4, h5]
        refine wpList_guard (by rfl) ?_
        have hl1 := RI.gr HLW.out hg
        go_wp2_with (go_at_call 38; ((with_reducible refine (refCons_ri l p _ hl1 HP1.out HAL.out HL40.out).mono ?_); rintro e w3 ⟨v', rfl, ho, g3⟩; rw [← HY.out] at ho))
        exact ⟨rfl, g3, ho⟩
      · have h2 : u 37 = .bool true := hd 2 (by kernel_rfl)
        have h3 : u 38 = .slice AP nP cP := hd 3 (by kernel_rfl)
        have h6 : RI w' (u 41) Y := hd 6 (by kernel_rfl)
        clear hd ho
        rw [h2, h3]
        refine wpList_guard (by rfl) ?_
        have hp1 := RI.gr HPW.out hg
        go_wp2_with (go_at_call 29; ((with_reducible refine (same_any _ _ Y Y _ hp1 h6 HYM.out HYM.out).mono ?_); rintro e w3 ⟨rfl, g3⟩; rw [sameB_refl]))
        exact ⟨rfl, g3, rfl⟩
      · have h2 : u 37 = .bool true := hd 2 (by kernel_rfl)
        have h7 : u 42 = .bool true := hd 7 (by kernel_rfl)
        clear hd ho
        rw [h2, h7]
        go_wp2_with fail
        exact ⟨rfl, gb_refl _ _, rfl⟩
      · have h8 : u 43 = .bool true := hd 8 (by kernel_rfl)
        clear hd ho
        rw [h8]
        go_wp2_with fail
        exact ⟨rfl, gb_refl _ _, rfl⟩
      · have h9 : u 44 = .bool true := hd 9 (by kernel_rfl)
        clear hd ho
        rw [h9]
        refine wpList_guard (by rfl) ?_
        go_wp2_with fail
        exact ⟨rfl, gb_refl _ _, rfl⟩
      · have h9 : u 44 = .bool true := hd 9 (by kernel_rfl)
        clear hd ho
        rw [h9]
        refine wpList_guard (by rfl) ?_
        go_wp2_with fail
        exact ⟨rfl, gb_refl _ _, rfl⟩
      · have h9 : u 44 = .bool true := hd 9 (by kernel_rfl)
        have h11 : u 46 = .slice (some ⟨bL, oL, none⟩) q c := hd 11 (by kernel_rfl)
        clear hd ho
        rw [h9, h11]
        refine wpList_guard (by rfl) ?_
        go_wp2_with fail
        exact ⟨rfl, gb_refl _ _, rfl⟩
      · have h9 : u 44 = .bool true := hd 9 (by kernel_rfl)
        clear hd ho
        rw [h9]
        refine wpList_guard (by rfl) ?_
        go_wp2_with fail
        exact ⟨rfl, gb_refl _ _, rfl⟩
      · have h9 : u 44 = .bool true := hd 9 (by kernel_rfl)
        clear hd ho
        rw [h9]
        refine wpList_guard (by rfl) ?_
        go_wp2_with fail
        exact ⟨rfl, gb_refl _ _, rfl⟩
      · have h9 : u 44 = .bool true := hd 9 (by kernel_rfl)
        have h13 : u 48 = .slice (some ⟨bL, oL, none⟩) q c := hd 13 (by kernel_rfl)
        have h14 : u 49 = .int .i64 (p : Int) := hd 14 (by kernel_rfl)
        clear hd ho
        rw [h9, h13, h14]
        refine wpList_guard (by rfl) ?_
        go_wp2_with fail
        exact ⟨rfl, gb_refl _ _, rfl⟩
      · have h9 : u 44 = .bool true := hd 9 (by kernel_rfl)
        have h15 : u 50 = .slice (some ⟨bL, oL, none⟩) p c := hd 15 (by kernel_rfl)
        clear hd ho
        rw [h9, h15]
        refine wpList_guard (by rfl) ?_
        have hl1 := RI.gr HTW.out hg
        go_wp2_with (go_at_call 36; ((with_reducible refine (refRoot_ri (l.take p) _ hl1 HT40.out).mono ?_); rintro e w3 ⟨rfl, g3⟩; rw [← HR1.out]))
        exact ⟨rfl, g3, rfl⟩
      · have h9 : u 44 = .bool true := hd 9 (by kernel_rfl)
        clear hd ho
        rw [h9]
        refine wpList_guard (by rfl) ?_
        go_wp2_with fail
        exact ⟨rfl, gb_refl _ _, rfl⟩
      · have h9 : u 44 = .bool true := hd 9 (by kernel_rfl)
        have h17 : u 52 = .slice (some ⟨bL, oL, none⟩) q c := hd 17 (by kernel_rfl)
        clear hd ho
        rw [h9, h17]
        refine wpList_guard (by rfl) ?_
        have hl1 := RI.gr HLW.out hg
        go_wp2_with (go_at_call 36; ((with_reducible refine (refRoot_ri l _ hl1 HL40.out).mono ?_); rintro e w3 ⟨rfl, g3⟩; rw [← HR.out]))
        exact ⟨rfl, g3, rfl⟩
      · have h9 : u 44 = .bool true := hd 9 (by kernel_rfl)
        clear hd ho
        rw [h9]
        refine wpList_guard (by rfl) ?_
        go_wp2_with fail
        exact ⟨rfl, gb_refl _ _, rfl⟩
      · have h9 : u 44 = .bool true := hd 9 (by kernel_rfl)
        have h10 : u 45 = .int .i64 (p : Int) := hd 10 (by kernel_rfl)
        have h12 : u 47 = .int .i64 (q : Int) := hd 12 (by kernel_rfl)
        have h16 : u 51 = idv R1 := hd 16 (by kernel_rfl)
        have h18 : u 53 = idv R := hd 18 (by kernel_rfl)
        have h19 : u 54 = .slice AP nP cP := hd 19 (by kernel_rfl)
        clear hd ho
        rw [h9, h10, h12, h16, h18, h19]
        refine wpList_guard (by rfl) ?_
        have hp1 := RI.gr HPW.out hg
        go_wp2_with (go_at_call 39; ((with_reducible refine (ckCon_idv R1 R (p : Int) (q : Int) _ Y _ hp1).mono ?_); rintro e w3 ⟨rfl, g3⟩; rw [HC.out]))
        exact ⟨rfl, g3, rfl⟩
      · have h9 : u 44 = .bool true := hd 9 (by kernel_rfl)
        have h20 : u 55 = .int .i64 0 := hd 20 (by kernel_rfl)
        clear hd ho
        rw [h9, h20]
        refine wpList_guard (by rfl) ?_
        go_wp2_with fail
        exact ⟨rfl, gb_refl _ _, rfl⟩
      · have h9 : u 44 = .bool true := hd 9 (by kernel_rfl)
        have h21 : u 56 = .bool true := hd 21 (by kernel_rfl)
        clear hd ho
        rw [h9, h21]
        go_wp2_with fail
        exact ⟨rfl, gb_refl _ _, rfl⟩
    case fin =>
      intro u w5 hg hφ
      have h69 : u 57 = .bool true := hφ 22 (by omega)
      simp (decide := true) only [fillAct, List.mapIdx_cons, List.mapIdx_nil, Nat.reduceAdd, if_true, if_false, List.drop_succ_cons, List.drop_zero]
      rw [h69]
      clear hφ
      go_wp2_with fail
      go_ret
      exact ⟨rfl, gb_trans gW hg⟩
end Go.Proofs.Ytajgklomcapboaa
