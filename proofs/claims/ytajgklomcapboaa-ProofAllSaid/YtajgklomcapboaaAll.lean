import Derived.Test.YtajgklomcapboaaProves
/- ProofAll: the walk. -/
namespace Go.Proofs.Ytajgklomcapboaa
open Go.RowKit Go.Shelf Sc
theorem cons_succ (v : Value) (L : List Sc.Id) (i k : Nat) (hk : (i : Int) + 1 = (k : Int)) (NB : Nat → Prop) (w : World) (hv : RdI NB w v L) (hNB : ∀ b, NB b → b < w.heap.size) (ha1 : 1 ≤ k) (ha : k ≤ L.length) (hL : L.length ≤ 1099511627776) :
    Calls Try.prog 37 #[v, .int .i64 ((i : Int) + 1)] w fun e w' => ∃ v', e = .returned (.tuple #[v', .int .i64 0]) ∧ Ow w.heap.size w' 32 v' (link nd e0 L k true).length (idCells (link nd e0 L k true)) ∧ w.grownBy w' none := by
  rw [hk]; exact cons_any v L k NB w hv hNB ha1 ha hL
theorem bits_step {q bt m : Nat} (h : q ≤ (m + 1) * 2 ^ bt) : q ≤ (m / 2 + 1) * 2 ^ (bt + 1) := by
  refine Nat.le_trans h ?_
  rw [Nat.pow_succ, Nat.mul_comm (2 ^ bt) 2, ← Nat.mul_assoc]
  exact Nat.mul_le_mul_right _ (by omega)
def paφ (bL oL q c p k bt nP cP nQ cQ : Nat) (AP AQ : Option Addr) (x R R1 : Sc.Id) (i : Nat) (v : Value) (_w : World) : Prop := match i with
  | 0 => v = .int .i64 0
  | 1 => v = .bool false
  | 2 => v = .bool false
  | 3 => v = .int .i64 0
  | 4 => v = .bool false
  | 5 => v = .bool false
  | 6 => v = .bool false
  | 7 => v = .slice AP nP cP
  | 8 => v = .int .i64 (nP : Int)
  | 9 => v = .int .i64 (bt : Int)
  | 10 => v = .bool false
  | 11 => v = .bool false
  | 12 => v = .bool false
  | 13 => v = .slice AQ nQ cQ
  | 14 => v = .int .i64 (nQ : Int)
  | 15 => v = .int .i64 (bt : Int)
  | 16 => v = .int .i64 ((bt : Int) + 1)
  | 17 => v = .bool false
  | 18 => v = .bool false
  | 19 => v = .bool false
  | 20 => v = .slice (some ⟨bL, oL, none⟩) q c
  | 21 => v = .int .i64 (p : Int)
  | 22 => v = .pointer (some ⟨bL, oL + p * 32, none⟩)
  | 23 => v = idv x
  | 24 => v = .int .i64 (p : Int)
  | 25 => v = .slice (some ⟨bL, oL, none⟩) q c
  | 26 => v = .int .i64 (q : Int)
  | 27 => v = .slice AP nP cP
  | 28 => v = idv R
  | 29 => v = .int .i64 0
  | 30 => v = .bool false
  | 31 => v = .bool false
  | 32 => v = .bool false
  | 33 => v = .int .i64 (p : Int)
  | 34 => v = .int .i64 (k : Int)
  | 35 => v = .slice (some ⟨bL, oL, none⟩) q c
  | 36 => v = .int .i64 (q : Int)
  | 37 => v = .slice (some ⟨bL, oL, none⟩) q c
  | 38 => v = .int .i64 (p : Int)
  | 39 => v = .int .i64 (k : Int)
  | 40 => v = .slice (some ⟨bL, oL, none⟩) k c
  | 41 => v = idv R1
  | 42 => v = idv R
  | 43 => v = .slice AQ nQ cQ
  | 44 => v = .int .i64 0
  | 45 => v = .bool false
  | _ => True
theorem paφ_gr (bL oL q c p k bt nP cP nQ cQ : Nat) (AP AQ : Option Addr) (x R R1 : Sc.Id) : ∀ i v w w', paφ bL oL q c p k bt nP cP nQ cQ AP AQ x R R1 i v w → Gr w w' → paφ bL oL q c p k bt nP cP nQ cQ AP AQ x R R1 i v w' := by
  intro i v w w' h hg
  match i with
  | 0 => exact h
  | 1 => exact h
  | 2 => exact h
  | 3 => exact h
  | 4 => exact h
  | 5 => exact h
  | 6 => exact h
  | 7 => exact h
  | 8 => exact h
  | 9 => exact h
  | 10 => exact h
  | 11 => exact h
  | 12 => exact h
  | 13 => exact h
  | 14 => exact h
  | 15 => exact h
  | 16 => exact h
  | 17 => exact h
  | 18 => exact h
  | 19 => exact h
  | 20 => exact h
  | 21 => exact h
  | 22 => exact h
  | 23 => exact h
  | 24 => exact h
  | 25 => exact h
  | 26 => exact h
  | 27 => exact h
  | 28 => exact h
  | 29 => exact h
  | 30 => exact h
  | 31 => exact h
  | 32 => exact h
  | 33 => exact h
  | 34 => exact h
  | 35 => exact h
  | 36 => exact h
  | 37 => exact h
  | 38 => exact h
  | 39 => exact h
  | 40 => exact h
  | 41 => exact h
  | 42 => exact h
  | 43 => exact h
  | 44 => exact h
  | 45 => exact h
  | i + 46 => exact h

set_option maxHeartbeats 4000000 in
set_option maxRecDepth 100000 in
theorem all_walk (v : Value) (l0 : List Sc.Id) (NB : Nat → Prop) (w : World) (hv : RdI NB w v l0) (hNB : ∀ b, NB b → b < w.heap.size) :
    Calls Try.prog 13 #[v] w fun e w' => e = .returned (.bool true) ∧ w.grownBy w' none := by
  go_enter Try.func13, Try.ntmps13
  obtain ⟨A, c, rfl, hc⟩ := Rd.form hv
  have hm := Rd.le hv
  obtain ⟨q, hq⟩ : ∃ q, min l0.length 20 = q := ⟨_, rfl⟩
  have HV := Go.Lib.hid (RI.of (RdI.takeTo hv 20 q hq) hNB)
  have hq20 : q ≤ 20 := by omega
  have hlq : (l0.take 20).length = q := by rw [List.length_take, Nat.min_comm]; exact hq
  obtain ⟨l, hle⟩ : ∃ l, l = l0.take 20 := ⟨_, rfl⟩
  rw [← hle] at HV hlq
  clear hv hle
  have HL := Go.Lib.hid hlq
  clear hlq
  have hqc : q ≤ c := by omega
  have hqI : (0 : Int) ≤ (q : Int) ∧ (q : Int) ≤ (c : Int) := by omega
  obtain ⟨R, hR⟩ : ∃ R, R = root nd e0 l := ⟨_, rfl⟩
  have HR := Go.Lib.hid hR
  have HL40 : Hid (l.length ≤ 1099511627776) := Go.Lib.hid (by rw [HL.out]; omega)
  clear hR
  go_wp2_with (first
    | (go_at_call 32; ((with_reducible refine (proves_any _).mono ?_); rintro e w1 ⟨rfl, g1⟩)
       have hv1 : RI w1 (.slice A q c) l := RI.gr HV.out g1)
    | ((with_reducible refine wpList_min (x := .tmp 15) l0.length 20 q hq (by kernel_rfl) (by kernel_rfl) ?_))
    | (go_at_call 25; ((with_reducible refine (root_idv _ l _ hv1 HL40.out).mono ?_); rintro e w2 ⟨rfl, g2⟩; rw [← HR.out])
       have bx0 := Bk.new w2 34 idZ)
    | ((with_reducible refine wpList_alloc_row (E := 34) idZ infoId ?_))
    | ((with_reducible refine wpList_store_bk (t := 34) w2.heap.size 34 idZ (R.l.map bv) bx0 (by kernel_rfl) (by kernel_rfl) (idSize _) (idLen _) (idOne _) ?_); intro w5 h5 g5 z5))
  have gW : w.grownBy w5 none := gb_trans_new (gb_alloc (gb_trans g1 g2) _) g5 (gb_trans g1 g2).size
  obtain ⟨bR, hbR⟩ : ∃ bR, bR = w2.heap.size := ⟨_, rfl⟩
  rw [← hbR] at h5 ⊢
  have hrr := h5.range
  have HG0 := Go.Lib.hid gW
  have HR0 := Go.Lib.hid hrr
  clear h5 g5 z5 bx0 hbR g1 g2 gW hv1 hrr
  go_loop [4, 5] (fun bv nv => ∃ (bt : Nat) (n : Int), bv = .int .i64 (bt : Int) ∧ nv = .int .i64 n ∧ (-1 ≤ n ∧ (bt : Int) + n ≤ 20) ∧ Hid (q ≤ (n + 1).toNat * 2 ^ bt)) (fun _ nv => (intOf nv).toNat)
  case atStart => exact ⟨0, (q : Int) - 1, rfl, rfl, by omega, Go.Lib.hid (by omega)⟩
  case round =>
    obtain ⟨bt, n, rfl, rfl, hn, HB⟩ := hrel
    by_cases hn0 : 0 < n
    · obtain ⟨m, rfl⟩ : ∃ m : Nat, n = (m : Int) := ⟨n.toNat, by omega⟩
      have hd3 : decide ((m : Int) > 0) = true := decide_eq_true (by omega)
      go_wp2_with fail
      exact ⟨⟨bt + 1, (m / 2 : Nat), by push_cast; rfl, by push_cast; rfl, by omega, Go.Lib.hid (by
        have h := HB.out
        have e1 : ((m : Int) + 1).toNat = m + 1 := by omega
        have e2 : (((m / 2 : Nat) : Int) + 1).toNat = m / 2 + 1 := by omega
        rw [e1] at h; rw [e2]
        exact bits_step h)⟩, by simp only [intOf]; omega⟩
    · have hd3 : decide (n > 0) = false := decide_eq_false (by omega)
      have HB2 : Hid (q ≤ 2 ^ bt) := Go.Lib.hid (by
        have h := HB.out
        have e1 : (n + 1).toNat ≤ 1 := by omega
        exact Nat.le_trans h (by have := Nat.mul_le_mul_right (2 ^ bt) e1; omega))
      clear HB
      have hbt : bt ≤ 21 := by omega
      go_wp2_with fail
      go_loopw [31] (fun iv wr => ∃ (i : Nat), iv = .int .i64 (i : Int) ∧ i ≤ q ∧ Hid (wr.rangeAt bR 0 (R.l.map bv)) ∧ Hid (w.grownBy wr none)) (fun iv _ => q - (intOf iv).toNat)
      case atStart => exact ⟨0, rfl, Nat.zero_le _, HR0, HG0⟩
      case round =>
        clear HR0 HG0
        obtain ⟨p, rfl, hi, HRR, HG⟩ := hrel
        obtain ⟨wo, rfl⟩ : ∃ wo : World, wo = wr := ⟨_, rfl⟩
        by_cases hlt : p < q
        · have hd : decide ((p : Int) < (q : Int)) = true := decide_eq_true (by omega)
          have hd' : decide (p < q) = true := decide_eq_true hlt
          obtain ⟨k, hk⟩ : ∃ k, k = p + 1 := ⟨_, rfl⟩
          have hkI : (p : Int) + 1 = (k : Int) := by omega
          have HK := Go.Lib.hid hkI
          have hkq : k ≤ q := by omega
          have hk1 : 1 ≤ k := by omega
          obtain ⟨x, hx⟩ : ∃ x, l[p]? = some x := ⟨_, List.getElem?_eq_getElem (by rw [HL.out]; exact hlt)⟩
          obtain ⟨Y, hY⟩ : ∃ Y, Y = way nd e0 l p := ⟨_, rfl⟩
          obtain ⟨Z, hZ⟩ : ∃ Z, Z = link nd e0 l k true := ⟨_, rfl⟩
          obtain ⟨R1, hR1⟩ : ∃ R1, R1 = root nd e0 (l.take k) := ⟨_, rfl⟩
          have hYb : Y.length ≤ bt := by rw [hY, way_length nd e0 l.length l p (Nat.le_refl _)]; exact dirs_len bt _ _ (by rw [HL.out]; exact HB2.out)
          have hZb : Z.length ≤ bt + 1 := by rw [hZ]; exact link_len bt _ _ _ (by rw [HL.out]; exact HB2.out)
          have hC : ckInc x (p : Int) (q : Int) Y R = 0 := by
            have h := lead_way nd e0 l.length l p x (Nat.le_refl _) hx
            rw [← hY, ← HR.out, HL.out] at h
            rw [ckInc_in hlt (by omega), h, if_pos rfl]
          have hD : ckCon R1 R (k : Int) (q : Int) Z = 0 := by
            have h := links_link nd e0 l.length l k true R1 (Nat.le_refl _) hk1 (by rw [HL.out]; exact hkq) (fun _ => hR1)
            rw [← hZ, ← HR.out, ← hR1, HL.out] at h
            rw [ckCon_in hk1 hkq (by omega), h, if_pos rfl]
          have HT40 : Hid ((l.take k).length ≤ 1099511627776) := Go.Lib.hid (by rw [List.length_take]; omega)
          have hv0 : RdI (fun b => b < wo.heap.size) wo (.slice A q c) l := RI.gr HV.out HG.out
          obtain ⟨bL, oL, cL, hvL, hbL, -, -, hrL⟩ := (show Rd (fun b => b < wo.heap.size) wo 32 (.slice A q c) q (idCells l) from by have h := hv0; unfold RdI at h; rw [HL.out] at h; exact h).at (by omega)
          injection hvL with hA _ hcL
          subst hA hcL
          have rx0 := range_id hrL hx
          obtain ⟨nP, hnP⟩ : ∃ nP, nP = Y.length := ⟨_, rfl⟩
          obtain ⟨nQ, hnQ⟩ : ∃ nQ, nQ = Z.length := ⟨_, rfl⟩
          have hPb : nP ≤ bt := by omega
          have hQb : nQ ≤ bt + 1 := by omega
          have e1 : decide ((nP : Int) > (bt : Int)) = false := decide_eq_false (by omega)
          have e2 : decide ((nQ : Int) > (bt : Int) + 1) = false := decide_eq_false (by omega)
          have e1' : decide (bt < nP) = false := decide_eq_false (by omega)
          have HY := Go.Lib.hid hY
          have HZ := Go.Lib.hid hZ
          have HR1 := Go.Lib.hid hR1
          have HC := Go.Lib.hid hC
          have HD := Go.Lib.hid hD
          have HNP := Go.Lib.hid hnP
          have HNQ := Go.Lib.hid hnQ
          have HAL : Hid (p < l.length) := Go.Lib.hid (by rw [HL.out]; exact hlt)
          have HKL : Hid (k ≤ l.length) := Go.Lib.hid (by rw [HL.out]; exact hkq)
          have hpI : (0 : Int) ≤ (p : Int) ∧ (p : Int) < (q : Int) ∧ (k : Int) ≤ (c : Int) := by omega
          have hN0 := lt_self wo
          clear hY hZ hR1 hC hD hnP hnQ hx hrL hk hkI hYb hZb
          go_wp2_with (first
            | (go_at_call 33; ((with_reducible refine (inc_any _ l p _ _ hv0 hN0 HAL.out HL40.out).mono ?_); rintro e w1 ⟨vP, rfl, hoP, g1⟩)
               rw [← HY.out, ← HNP.out] at hoP
               obtain ⟨AP, cP, rfl⟩ := hoP.form
               have hv1 : RdI (fun b => b < w1.heap.size) w1 (.slice (some ⟨bL, oL, none⟩) q c) l := RI.gr hv0 g1
               have hN1 := lt_self w1)
            | (go_at_call 37; ((with_reducible refine (cons_succ _ l p k HK.out _ _ hv1 hN1 hk1 HKL.out HL40.out).mono ?_); rintro e w2 ⟨vQ, rfl, hoQ, g2⟩)
               rw [← HZ.out, ← HNQ.out] at hoQ
               obtain ⟨AQ, cQ, rfl⟩ := hoQ.form))
          have HPW : Hid (RI w2 (.slice AP nP cP) Y) := Go.Lib.hid (RI.gr (by
            have h : Rd (fun b => b < w1.heap.size) w1 32 (.slice AP nP cP) nP (idCells Y) := Ow.rd hoP (fun b hb => (hoP.lt hb).2)
            unfold RI RdI; rw [← HNP.out]; exact h) g2)
          have HQW : Hid (RI w2 (.slice AQ nQ cQ) Z) := Go.Lib.hid (by
            have h : Rd (fun b => b < w2.heap.size) w2 32 (.slice AQ nQ cQ) nQ (idCells Z) := Ow.rd hoQ (fun b hb => (hoQ.lt hb).2)
            unfold RI RdI; rw [← HNQ.out]; exact h)
          have hLW : RI w2 (.slice (some ⟨bL, oL, none⟩) q c) l := RI.gr hv1 g2
          have HTW : Hid (RI w2 (.slice (some ⟨bL, oL, none⟩) k c) (l.take k)) := Go.Lib.hid (RdI.toTake hLW HL.out hkq)
          have rx := rangeAt_grown (rangeAt_grown rx0 g1 (by simp)) g2 (by simp)
          have rr := rangeAt_grown (rangeAt_grown HRR.out g1 (by simp)) g2 (by simp)
          have gW := gb_trans HG.out (gb_trans g1 g2)
          clear hoP hoQ hv0 hv1 hN0 hN1 rx0 hLW HRR HG g1 g2
          refine wp_region_specs 46 [47, 48, 49, 50, 51, 52, 53, 54, 55, 56, 57, 58, 59, 60, 61, 62, 63, 64, 65, 66, 67, 68, 69, 70, 71, 72, 73, 74, 75, 76, 77, 78, 79, 80, 81, 82, 83, 84, 85, 86, 87, 88, 89, 90, 91, 92] (by kernel_rfl) (by kernel_rfl) (paφ bL oL q c p k bt nP cP nQ cQ AP AQ x R R1) (paφ_gr bL oL q c p k bt nP cP nQ cQ AP AQ x R R1) ?step ?fin
          case step =>
            intro i_ o_ ho hi_ u w' hg hd
            rcases (by omega : i_ = 0 ∨ i_ = 1 ∨ i_ = 2 ∨ i_ = 3 ∨ i_ = 4 ∨ i_ = 5 ∨ i_ = 6 ∨ i_ = 7 ∨ i_ = 8 ∨ i_ = 9 ∨ i_ = 10 ∨ i_ = 11 ∨ i_ = 12 ∨ i_ = 13 ∨ i_ = 14 ∨ i_ = 15 ∨ i_ = 16 ∨ i_ = 17 ∨ i_ = 18 ∨ i_ = 19 ∨ i_ = 20 ∨ i_ = 21 ∨ i_ = 22 ∨ i_ = 23 ∨ i_ = 24 ∨ i_ = 25 ∨ i_ = 26 ∨ i_ = 27 ∨ i_ = 28 ∨ i_ = 29 ∨ i_ = 30 ∨ i_ = 31 ∨ i_ = 32 ∨ i_ = 33 ∨ i_ = 34 ∨ i_ = 35 ∨ i_ = 36 ∨ i_ = 37 ∨ i_ = 38 ∨ i_ = 39 ∨ i_ = 40 ∨ i_ = 41 ∨ i_ = 42 ∨ i_ = 43 ∨ i_ = 44 ∨ i_ = 45) with rfl | rfl | rfl | rfl | rfl | rfl | rfl | rfl | rfl | rfl | rfl | rfl | rfl | rfl | rfl | rfl | rfl | rfl | rfl | rfl | rfl | rfl | rfl | rfl | rfl | rfl | rfl | rfl | rfl | rfl | rfl | rfl | rfl | rfl | rfl | rfl | rfl | rfl | rfl | rfl | rfl | rfl | rfl | rfl | rfl | rfl <;> obtain rfl := Option.some.inj ho <;>
              simp (decide := true) only [fillAct, List.mapIdx_cons, List.mapIdx_nil, Nat.reduceAdd, if_true, if_false, List.getD_cons_zero, List.getD_cons_succ]
            · clear hd ho
              go_wp2_with fail
              exact ⟨rfl, gb_refl _ _, rfl⟩
            · have h0 : u 47 = .int .i64 0 := hd 0 (by kernel_rfl)
              clear hd ho
              rw [h0]
              go_wp2_with fail
              exact ⟨rfl, gb_refl _ _, rfl⟩
            · have h1 : u 48 = .bool false := hd 1 (by kernel_rfl)
              clear hd ho
              rw [h1]
              go_wp2_with fail
              exact ⟨rfl, gb_refl _ _, rfl⟩
            · have h2 : u 49 = .bool false := hd 2 (by kernel_rfl)
              clear hd ho
              rw [h2]
              refine wpList_guard (by rfl) ?_
              go_wp2_with fail
              exact ⟨rfl, gb_refl _ _, rfl⟩
            · have h2 : u 49 = .bool false := hd 2 (by kernel_rfl)
              have h3 : u 50 = .int .i64 0 := hd 3 (by kernel_rfl)
              clear hd ho
              rw [h2, h3]
              refine wpList_guard (by rfl) ?_
              go_wp2_with fail
              exact ⟨rfl, gb_refl _ _, rfl⟩
            · have h2 : u 49 = .bool false := hd 2 (by kernel_rfl)
              have h4 : u 51 = .bool false := hd 4 (by kernel_rfl)
              clear hd ho
              rw [h2, h4]
              go_wp2_with fail
              exact ⟨rfl, gb_refl _ _, rfl⟩
            · have h5 : u 52 = .bool false := hd 5 (by kernel_rfl)
              clear hd ho
              rw [h5]
              go_wp2_with fail
              exact ⟨rfl, gb_refl _ _, rfl⟩
            · have h6 : u 53 = .bool false := hd 6 (by kernel_rfl)
              clear hd ho
              rw [h6]
              refine wpList_guard (by rfl) ?_
              go_wp2_with fail
              exact ⟨rfl, gb_refl _ _, rfl⟩
            · have h6 : u 53 = .bool false := hd 6 (by kernel_rfl)
              have h7 : u 54 = .slice AP nP cP := hd 7 (by kernel_rfl)
              clear hd ho
              rw [h6, h7]
              refine wpList_guard (by rfl) ?_
              go_wp2_with fail
              exact ⟨rfl, gb_refl _ _, rfl⟩
            · have h6 : u 53 = .bool false := hd 6 (by kernel_rfl)
              clear hd ho
              rw [h6]
              refine wpList_guard (by rfl) ?_
              go_wp2_with fail
              exact ⟨rfl, gb_refl _ _, rfl⟩
            · have h6 : u 53 = .bool false := hd 6 (by kernel_rfl)
              have h8 : u 55 = .int .i64 (nP : Int) := hd 8 (by kernel_rfl)
              have h9 : u 56 = .int .i64 (bt : Int) := hd 9 (by kernel_rfl)
              clear hd ho
              rw [h6, h8, h9]
              refine wpList_guard (by rfl) ?_
              go_wp2_with fail
              exact ⟨rfl, gb_refl _ _, rfl⟩
            · have h6 : u 53 = .bool false := hd 6 (by kernel_rfl)
              have h10 : u 57 = .bool false := hd 10 (by kernel_rfl)
              clear hd ho
              rw [h6, h10]
              go_wp2_with fail
              exact ⟨rfl, gb_refl _ _, rfl⟩
            · have h11 : u 58 = .bool false := hd 11 (by kernel_rfl)
              clear hd ho
              rw [h11]
              go_wp2_with fail
              exact ⟨rfl, gb_refl _ _, rfl⟩
            · have h12 : u 59 = .bool false := hd 12 (by kernel_rfl)
              clear hd ho
              rw [h12]
              refine wpList_guard (by rfl) ?_
              go_wp2_with fail
              exact ⟨rfl, gb_refl _ _, rfl⟩
            · have h12 : u 59 = .bool false := hd 12 (by kernel_rfl)
              have h13 : u 60 = .slice AQ nQ cQ := hd 13 (by kernel_rfl)
              clear hd ho
              rw [h12, h13]
              refine wpList_guard (by rfl) ?_
              go_wp2_with fail
              exact ⟨rfl, gb_refl _ _, rfl⟩
            · have h12 : u 59 = .bool false := hd 12 (by kernel_rfl)
              clear hd ho
              rw [h12]
              refine wpList_guard (by rfl) ?_
              go_wp2_with fail
              exact ⟨rfl, gb_refl _ _, rfl⟩
            · have h12 : u 59 = .bool false := hd 12 (by kernel_rfl)
              have h15 : u 62 = .int .i64 (bt : Int) := hd 15 (by kernel_rfl)
              clear hd ho
              rw [h12, h15]
              refine wpList_guard (by rfl) ?_
              go_wp2_with fail
              exact ⟨rfl, gb_refl _ _, rfl⟩
            · have h12 : u 59 = .bool false := hd 12 (by kernel_rfl)
              have h14 : u 61 = .int .i64 (nQ : Int) := hd 14 (by kernel_rfl)
              have h16 : u 63 = .int .i64 ((bt : Int) + 1) := hd 16 (by kernel_rfl)
              clear hd ho
              rw [h12, h14, h16]
              refine wpList_guard (by rfl) ?_
              go_wp2_with fail
              exact ⟨rfl, gb_refl _ _, rfl⟩
            · have h12 : u 59 = .bool false := hd 12 (by kernel_rfl)
              have h17 : u 64 = .bool false := hd 17 (by kernel_rfl)
              clear hd ho
              rw [h12, h17]
              go_wp2_with fail
              exact ⟨rfl, gb_refl _ _, rfl⟩
            · have h18 : u 65 = .bool false := hd 18 (by kernel_rfl)
              clear hd ho
              rw [h18]
              go_wp2_with fail
              exact ⟨rfl, gb_refl _ _, rfl⟩
            · have h19 : u 66 = .bool false := hd 19 (by kernel_rfl)
              clear hd ho
              rw [h19]
              refine wpList_guard (by rfl) ?_
              go_wp2_with fail
              exact ⟨rfl, gb_refl _ _, rfl⟩
            · have h19 : u 66 = .bool false := hd 19 (by kernel_rfl)
              clear hd ho
              rw [h19]
              refine wpList_guard (by rfl) ?_
              go_wp2_with fail
              exact ⟨rfl, gb_refl _ _, rfl⟩
            · have h19 : u 66 = .bool false := hd 19 (by kernel_rfl)
              have h20 : u 67 = .slice (some ⟨bL, oL, none⟩) q c := hd 20 (by kernel_rfl)
              have h21 : u 68 = .int .i64 (p : Int) := hd 21 (by kernel_rfl)
              clear hd ho
              rw [h19, h20, h21]
              refine wpList_guard (by rfl) ?_
              go_wp2_with fail
              exact ⟨rfl, gb_refl _ _, rfl⟩
            · have h19 : u 66 = .bool false := hd 19 (by kernel_rfl)
              have h22 : u 69 = .pointer (some ⟨bL, oL + p * 32, none⟩) := hd 22 (by kernel_rfl)
              clear hd ho
              rw [h19, h22]
              refine wpList_guard (by rfl) ?_
              have r1 := rangeAt_grown rx hg (by simp)
              go_wp2_with ((with_reducible refine wpList_load_range (t := 34) bL (oL + p * 32) (x.l.map bv) _ r1 (by kernel_rfl) Try.underlying34 rfl (idSize _) ?_))
              exact ⟨rfl, gb_refl _ _, rfl⟩
            · have h19 : u 66 = .bool false := hd 19 (by kernel_rfl)
              clear hd ho
              rw [h19]
              refine wpList_guard (by rfl) ?_
              go_wp2_with fail
              exact ⟨rfl, gb_refl _ _, rfl⟩
            · have h19 : u 66 = .bool false := hd 19 (by kernel_rfl)
              clear hd ho
              rw [h19]
              refine wpList_guard (by rfl) ?_
              go_wp2_with fail
              exact ⟨rfl, gb_refl _ _, rfl⟩
            · have h19 : u 66 = .bool false := hd 19 (by kernel_rfl)
              have h25 : u 72 = .slice (some ⟨bL, oL, none⟩) q c := hd 25 (by kernel_rfl)
              clear hd ho
              rw [h19, h25]
              refine wpList_guard (by rfl) ?_
              go_wp2_with fail
              exact ⟨rfl, gb_refl _ _, rfl⟩
            · have h19 : u 66 = .bool false := hd 19 (by kernel_rfl)
              clear hd ho
              rw [h19]
              refine wpList_guard (by rfl) ?_
              go_wp2_with fail
              exact ⟨rfl, gb_refl _ _, rfl⟩
            · have h19 : u 66 = .bool false := hd 19 (by kernel_rfl)
              clear hd ho
              rw [h19]
              refine wpList_guard (by rfl) ?_
              have r1 := rangeAt_grown rr hg (by simp)
              go_wp2_with ((with_reducible refine wpList_load_range (t := 34) bR 0 (R.l.map bv) _ r1 (by kernel_rfl) Try.underlying34 rfl (idSize _) ?_))
              exact ⟨rfl, gb_refl _ _, rfl⟩
            · have h19 : u 66 = .bool false := hd 19 (by kernel_rfl)
              have h23 : u 70 = idv x := hd 23 (by kernel_rfl)
              have h24 : u 71 = .int .i64 (p : Int) := hd 24 (by kernel_rfl)
              have h26 : u 73 = .int .i64 (q : Int) := hd 26 (by kernel_rfl)
              have h27 : u 74 = .slice AP nP cP := hd 27 (by kernel_rfl)
              have h28 : u 75 = idv R := hd 28 (by kernel_rfl)
              clear hd ho
              rw [h19, h23, h24, h26, h27, h28]
              refine wpList_guard (by rfl) ?_
              have hp1 := RI.gr HPW.out hg
              go_wp2_with (go_at_call 35; ((with_reducible refine (ckInc_idv x R (p : Int) (q : Int) _ Y _ hp1).mono ?_); rintro e w3 ⟨rfl, g3⟩; rw [HC.out]))
              exact ⟨rfl, g3, rfl⟩
            · have h19 : u 66 = .bool false := hd 19 (by kernel_rfl)
              have h29 : u 76 = .int .i64 0 := hd 29 (by kernel_rfl)
              clear hd ho
              rw [h19, h29]
              refine wpList_guard (by rfl) ?_
              go_wp2_with fail
              exact ⟨rfl, gb_refl _ _, rfl⟩
            · have h19 : u 66 = .bool false := hd 19 (by kernel_rfl)
              have h30 : u 77 = .bool false := hd 30 (by kernel_rfl)
              clear hd ho
              rw [h19, h30]
              go_wp2_with fail
              exact ⟨rfl, gb_refl _ _, rfl⟩
            · have h31 : u 78 = .bool false := hd 31 (by kernel_rfl)
              clear hd ho
              rw [h31]
              go_wp2_with fail
              exact ⟨rfl, gb_refl _ _, rfl⟩
            · have h32 : u 79 = .bool false := hd 32 (by kernel_rfl)
              clear hd ho
              rw [h32]
              refine wpList_guard (by rfl) ?_
              go_wp2_with fail
              exact ⟨rfl, gb_refl _ _, rfl⟩
            · have h32 : u 79 = .bool false := hd 32 (by kernel_rfl)
              have h33 : u 80 = .int .i64 (p : Int) := hd 33 (by kernel_rfl)
              clear hd ho
              rw [h32, h33]
              refine wpList_guard (by rfl) ?_
              go_wp2_with fail
              exact ⟨rfl, gb_refl _ _, congrArg (Value.int .i64) HK.out⟩
            · have h32 : u 79 = .bool false := hd 32 (by kernel_rfl)
              clear hd ho
              rw [h32]
              refine wpList_guard (by rfl) ?_
              go_wp2_with fail
              exact ⟨rfl, gb_refl _ _, rfl⟩
            · have h32 : u 79 = .bool false := hd 32 (by kernel_rfl)
              have h35 : u 82 = .slice (some ⟨bL, oL, none⟩) q c := hd 35 (by kernel_rfl)
              clear hd ho
              rw [h32, h35]
              refine wpList_guard (by rfl) ?_
              go_wp2_with fail
              exact ⟨rfl, gb_refl _ _, rfl⟩
            · have h32 : u 79 = .bool false := hd 32 (by kernel_rfl)
              clear hd ho
              rw [h32]
              refine wpList_guard (by rfl) ?_
              go_wp2_with fail
              exact ⟨rfl, gb_refl _ _, rfl⟩
            · have h32 : u 79 = .bool false := hd 32 (by kernel_rfl)
              clear hd ho
              rw [h32]
              refine wpList_guard (by rfl) ?_
              go_wp2_with fail
              exact ⟨rfl, gb_refl _ _, rfl⟩
            · have h32 : u 79 = .bool false := hd 32 (by kernel_rfl)
              have h38 : u 85 = .int .i64 (p : Int) := hd 38 (by kernel_rfl)
              clear hd ho
              rw [h32, h38]
              refine wpList_guard (by rfl) ?_
              go_wp2_with fail
              exact ⟨rfl, gb_refl _ _, congrArg (Value.int .i64) HK.out⟩
            · have h32 : u 79 = .bool false := hd 32 (by kernel_rfl)
              have h37 : u 84 = .slice (some ⟨bL, oL, none⟩) q c := hd 37 (by kernel_rfl)
              have h39 : u 86 = .int .i64 (k : Int) := hd 39 (by kernel_rfl)
              clear hd ho
              rw [h32, h37, h39]
              refine wpList_guard (by rfl) ?_
              go_wp2_with fail
              exact ⟨rfl, gb_refl _ _, rfl⟩
            · have h32 : u 79 = .bool false := hd 32 (by kernel_rfl)
              have h40 : u 87 = .slice (some ⟨bL, oL, none⟩) k c := hd 40 (by kernel_rfl)
              clear hd ho
              rw [h32, h40]
              refine wpList_guard (by rfl) ?_
              have hl1 := RI.gr HTW.out hg
              go_wp2_with (go_at_call 25; ((with_reducible refine (root_idv _ (l.take k) _ hl1 HT40.out).mono ?_); rintro e w3 ⟨rfl, g3⟩; rw [← HR1.out]))
              exact ⟨rfl, g3, rfl⟩
            · have h32 : u 79 = .bool false := hd 32 (by kernel_rfl)
              clear hd ho
              rw [h32]
              refine wpList_guard (by rfl) ?_
              have r1 := rangeAt_grown rr hg (by simp)
              go_wp2_with ((with_reducible refine wpList_load_range (t := 34) bR 0 (R.l.map bv) _ r1 (by kernel_rfl) Try.underlying34 rfl (idSize _) ?_))
              exact ⟨rfl, gb_refl _ _, rfl⟩
            · have h32 : u 79 = .bool false := hd 32 (by kernel_rfl)
              clear hd ho
              rw [h32]
              refine wpList_guard (by rfl) ?_
              go_wp2_with fail
              exact ⟨rfl, gb_refl _ _, rfl⟩
            · have h32 : u 79 = .bool false := hd 32 (by kernel_rfl)
              have h34 : u 81 = .int .i64 (k : Int) := hd 34 (by kernel_rfl)
              have h36 : u 83 = .int .i64 (q : Int) := hd 36 (by kernel_rfl)
              have h41 : u 88 = idv R1 := hd 41 (by kernel_rfl)
              have h42 : u 89 = idv R := hd 42 (by kernel_rfl)
              have h43 : u 90 = .slice AQ nQ cQ := hd 43 (by kernel_rfl)
              clear hd ho
              rw [h32, h34, h36, h41, h42, h43]
              refine wpList_guard (by rfl) ?_
              have hp1 := RI.gr HQW.out hg
              go_wp2_with (go_at_call 39; ((with_reducible refine (ckCon_idv R1 R (k : Int) (q : Int) _ Z _ hp1).mono ?_); rintro e w3 ⟨rfl, g3⟩; rw [HD.out]))
              exact ⟨rfl, g3, rfl⟩
            · have h32 : u 79 = .bool false := hd 32 (by kernel_rfl)
              have h44 : u 91 = .int .i64 0 := hd 44 (by kernel_rfl)
              clear hd ho
              rw [h32, h44]
              refine wpList_guard (by rfl) ?_
              go_wp2_with fail
              exact ⟨rfl, gb_refl _ _, rfl⟩
          case fin =>
            intro u w5 hg hφ
            have h32 : u 79 = .bool false := hφ 32 (by omega)
            have h45 : u 92 = .bool false := hφ 45 (by omega)
            simp (decide := true) only [fillAct, List.mapIdx_cons, List.mapIdx_nil, Nat.reduceAdd, if_true, if_false, List.drop_succ_cons, List.drop_zero]
            rw [h32, h45]
            clear hφ
            have HG5 := Go.Lib.hid (gb_trans gW hg)
            have HR5 := Go.Lib.hid (rangeAt_grown rr hg (by simp))
            clear gW hg rr rx e1 e2 e1'
            go_wp2_with fail
            exact ⟨⟨p + 1, by push_cast; rfl, by omega, HR5, HG5⟩, by simp only [intOf]; omega⟩
        · obtain rfl : p = q := by omega
          have hd : decide ((p : Int) < (p : Int)) = false := decide_eq_false (by omega)
          have hd' : decide (p < p) = false := decide_eq_false (by omega)
          go_wp2_with fail
          go_ret
          exact ⟨rfl, HG.out⟩
end Go.Proofs.Ytajgklomcapboaa
