import Derived.Test.YtjbnnfphpchneaaRefT
import Derived.Test.YtjbnnfphpchneaaSpecsS
import Derived.Deep.CutBlock
/- TimerPlays: the walk. -/
namespace Sc
open Go Go.RowKit
def relD (n : Int) (d : Due) : Due := (d.1 - n, d.2)
end Sc
namespace Go.Proofs.Ytjbnnfphpchneaa
open Go.RowKit Go.Shelf Sc
theorem rel_dec (n : Int) (L : List Due) : (L.map (relD n)).map decD = L.map (relD (n + 1)) := by
  rw [List.map_map]
  apply List.map_congr_left
  intro d _
  simp only [Function.comp_apply, relD, decD, Prod.mk.injEq, and_true]
  omega
theorem rel_over (n : Int) (L : List Due) : refOver (L.map (relD n)) = (overOf (n + 1) L).map (relD (n + 1)) := by
  unfold refOver overOf
  rw [rel_dec, List.filter_map]
  congr 1
  apply List.filter_congr
  intro d _
  simp only [Function.comp_apply, relD]
  exact decide_eq_decide.2 (by omega)
theorem rel_left (n : Int) (L : List Due) : refLeft (L.map (relD n)) = (leftOf (n + 1) L).map (relD (n + 1)) := by
  unfold refLeft leftOf
  rw [rel_dec, List.filter_map]
  congr 1
  apply List.filter_congr
  intro d _
  simp only [Function.comp_apply, relD]
  exact congrArg not (decide_eq_decide.2 (by omega))
def okOf (L : List Due) : Bool := decide (L.length < 40)
def addL (n : Int) (L : List Due) (rd st : Int) : List Due := if L.length < 40 then L ++ [(n + (delay rd : Int), rd, st)] else L
theorem plays_set {r : Nat} {n : Int} {L : List Due} {lv : Value} (rd st : Int) (w : World) (hT : Tm w r r n L lv) (hL : L.length ≤ 40) (hn : 0 ≤ n ∧ n ≤ 1000000) (hB : r ≤ w.heap.size) :
    Calls Try.prog 8 #[.pointer (some ⟨r, 0, none⟩), .int .i64 rd, .int .i64 st] w fun e w' => e = .returned (.bool (okOf L)) ∧ ∃ lv2, Tm w' r r n (addL n L rd st) lv2 ∧ Ch (fun k => k = r ∨ lv.ownBlock = some k) w w' ∧ (lv2.ownBlock = lv.ownBlock ∨ ∃ k, lv2.ownBlock = some k ∧ w.heap.size ≤ k) := by
  by_cases h : L.length < 40
  · rw [show okOf L = true from decide_eq_true h, show addL n L rd st = L ++ [(n + (delay rd : Int), rd, st)] from if_pos h]
    exact set_any rd st w hT h hn hB
  · rw [show okOf L = false from decide_eq_false h, show addL n L rd st = L from if_neg h]
    refine (set_full rd st w hT (by omega)).mono ?_
    rintro e w' ⟨he, rfl⟩
    exact ⟨he, lv, hT, Ch.refl _ _, .inl rfl⟩
theorem plays_ref {r : Nat} {n : Int} {L : List Due} {lv : Value} {A : Option Addr} {c k : Nat} (rd st : Int) (w : World) (hk : k = L.length) (hL : L.length ≤ 40)
    (hR : Rd (fun b => b ≠ r ∧ lv.ownBlock ≠ some b ∧ b < w.heap.size) w 3 (.slice A k c) k (dueCs (L.map (relD n)))) (hr : r < w.heap.size) (hlv : ∀ b, lv.ownBlock = some b → b < w.heap.size) :
    Calls Try.prog 13 #[.slice A k c, .int .i64 rd, .int .i64 st] w fun e w' => ∃ A7 k7 c7, e = .returned (.tuple #[.slice A7 k7 c7, .bool (okOf L)]) ∧ k7 = (addL n L rd st).length ∧
      Rd (fun b => b ≠ r ∧ lv.ownBlock ≠ some b ∧ b < w'.heap.size) w' 3 (.slice A7 k7 c7) k7 (dueCs ((addL n L rd st).map (relD n))) ∧ w.grownBy w' none := by
  have hlen : (L.map (relD n)).length = k := by rw [List.length_map, hk]
  by_cases h : L.length < 40
  · rw [show okOf L = true from decide_eq_true h, show addL n L rd st = L ++ [(n + (delay rd : Int), rd, st)] from if_pos h]
    refine (refSet_any (L.map (relD n)) (.slice A k c) rd st w (by rw [hlen]; exact hR) (by rw [hlen, hk]; exact h)).mono ?_
    rintro e w' ⟨v', rfl, ho, g⟩
    obtain ⟨A7, c7, rfl⟩ := ho.form
    rw [hlen] at ho ⊢
    refine ⟨A7, k + 1, c7, rfl, by rw [List.length_append, hk]; rfl, ?_, g⟩
    have e1 : (L ++ [(n + (delay rd : Int), rd, st)]).map (relD n) = L.map (relD n) ++ [((delay rd : Int), rd, st)] := by
      rw [List.map_append]
      congr 1
      simp only [List.map_cons, List.map_nil, relD, List.cons.injEq, Prod.mk.injEq, and_true]
      omega
    rw [e1]
    exact ho.rd (fun b hb => ⟨by have := (ho.lt hb).1; omega, fun e => by have := hlv b e; have := (ho.lt hb).1; omega, (ho.lt hb).2⟩)
  · rw [show okOf L = false from decide_eq_false h, show addL n L rd st = L from if_neg h]
    refine (refSet_full (L.map (relD n)) (.slice A k c) rd st w (by rw [hlen]; exact hR) (by rw [hlen, hk]; omega)).mono ?_
    rintro e w' ⟨rfl, rfl⟩
    exact ⟨A, k, c, rfl, hk, hR, gb_refl _ _⟩
theorem left_le (n : Int) (L : List Due) : (leftOf n L).length ≤ L.length := List.length_filter_le _ _
theorem add_len (n : Int) (L : List Due) (rd st : Int) (h : L.length ≤ 40) : (addL n L rd st).length ≤ 40 := by
  unfold addL
  split
  · rw [List.length_append, List.length_singleton]; omega
  · exact h
theorem add_bnd {n : Int} {L : List Due} {rd st : Int} (h : ∀ d ∈ L, n < d.1 ∧ d.1 ≤ n + 2003) : ∀ d ∈ addL n L rd st, n < d.1 ∧ d.1 ≤ n + 2003 := by
  intro d hd
  unfold addL at hd
  split at hd
  · rcases List.mem_append.1 hd with h1 | h1
    · exact h d h1
    · have e := List.mem_singleton.1 h1
      subst e
      have := dn_le rd
      unfold delay
      dsimp only
      omega
  · exact h d hd
def plyφ (bo r D W0 : Nat) (ok : Bool) (n rd st : Int) (lv : Value) (L2 : List Due) (i : Nat) (v : Value) (w : World) : Prop := match i with
  | 0 => v = .pointer (some ⟨bo, 1, none⟩)
  | 1 => v = .int .i64 rd
  | 2 => v = .pointer (some ⟨bo, 2, none⟩)
  | 3 => v = .int .i64 st
  | 4 => v = .bool ok ∧ ∃ lv2, Tm w r r n L2 lv2 ∧ (lv2.ownBlock = lv.ownBlock ∨ ∃ k, lv2.ownBlock = some k ∧ W0 ≤ k)
  | 5 => v = .bool ok
  | 6 => v = .bool false
  | 7 => v = .bool false
  | 8 => v = .pointer (some ⟨bo, 1, none⟩)
  | 9 => v = .int .i64 rd
  | 10 => v = .int .i64 (D : Int)
  | 11 => v = .pointer (some ⟨bo, 1, none⟩)
  | 12 => v = .int .i64 rd
  | 13 => v = .int .i64 (D : Int)
  | 14 => v = .bool false
  | _ => True
def plyR (r : Nat) (lv : Value) (i : Nat) (a b : World) : Prop := match i with
  | 4 => Ch (fun k => k = r ∨ lv.ownBlock = some k) a b
  | _ => Gr a b
def plyDead (_i _k : Nat) : Bool := false
theorem plyR_own {r : Nat} {lv : Value} {i : Nat} {a b : World} (h : plyR r lv i a b) : Ch (fun k => k = r ∨ lv.ownBlock = some k) a b := by
  unfold plyR at h
  split at h
  · exact h
  · exact Ch.of h (fun _ h => by cases h)
theorem plyR_gr {r : Nat} {lv : Value} {i : Nat} {a b : World} (hi : i ≠ 4) (h : plyR r lv i a b) : Gr a b := by
  unfold plyR at h
  split at h
  · exact absurd rfl hi
  · exact h
theorem ply_st (bo r D W0 : Nat) (ok : Bool) (n rd st : Int) (lv : Value) (L2 : List Due) : ∀ j i v w w', j ≠ i → plyDead j i = false → plyφ bo r D W0 ok n rd st lv L2 j v w → plyR r lv i w w' → plyφ bo r D W0 ok n rd st lv L2 j v w' := by
  intro j i v w w' hji hd h hg
  match j, hji, hd, h with
  | 4, hji, _, h =>
    obtain ⟨e, lv2, ht, ho⟩ := h
    exact ⟨e, lv2, ht.gr (plyR_gr (fun e => hji e.symm) hg), ho⟩
  | 0, _, _, h => exact h
  | 1, _, _, h => exact h
  | 2, _, _, h => exact h
  | 3, _, _, h => exact h
  | 5, _, _, h => exact h
  | 6, _, _, h => exact h
  | 7, _, _, h => exact h
  | 8, _, _, h => exact h
  | 9, _, _, h => exact h
  | 10, _, _, h => exact h
  | 11, _, _, h => exact h
  | 12, _, _, h => exact h
  | 13, _, _, h => exact h
  | 14, _, _, h => exact h
  | j + 15, _, _, h => exact h
theorem opSize (d : Due) : (Try.prog.info? 43).map (·.size) = some (dueC d).length := by kernel_rfl
theorem infoOp : ((Try.prog.info? 43).map fun i => (i.zero, i.size)) = some (some (.agg dueZ.toArray), dueZ.length) := by kernel_rfl
set_option maxHeartbeats 8000000 in
set_option maxRecDepth 100000 in
theorem plays_walk (v : Value) (l : List Due) (NB : Nat → Prop) (w : World) (hv : Rd NB w 3 v l.length (dueCs l)) (hNB : ∀ b, NB b → b < w.heap.size) :
    Calls Try.prog 5 #[v] w fun e w' => e = .returned (.bool true) ∧ w.grownBy w' none := by
  go_enter Try.func5, Try.ntmps5
  obtain ⟨A, c, rfl, hc⟩ := Rd.form hv
  have hmx := Rd.le hv
  obtain ⟨q, hq⟩ : ∃ q, q = l.length := ⟨_, rfl⟩
  rw [← hq] at hv hc hmx ⊢
  have HV := Go.Lib.hid hv
  have HQ := Go.Lib.hid hq
  have HNB := Go.Lib.hid hNB
  clear hv hq hNB
  by_cases hl : 300 < q
  · have d1 : decide ((q : Int) > 300) = true := decide_eq_true (by omega)
    go_wp2_with (go_at_call 7; ((with_reducible refine (runs_any _).mono ?_); rintro e w1 ⟨rfl, g1⟩))
    go_ret
    exact ⟨rfl, g1⟩
  · have hq300 : q ≤ 300 := by omega
    have d1 : decide ((q : Int) > 300) = false := decide_eq_false (by omega)
    go_wp2_with (first
      | (go_at_call 7; ((with_reducible refine (runs_any _).mono ?_); rintro e w1 ⟨rfl, g1⟩))
      | ((with_reducible refine wpList_alloc_row (E := 26) tmZ infoTm ?_)))
    obtain ⟨r, hr⟩ : ∃ r, r = w1.heap.size := ⟨_, rfl⟩
    obtain ⟨W1, hW1⟩ : ∃ W1, W1 = w1.alloc (.cells tmZ.toArray 26) := ⟨_, rfl⟩
    have HT0 : Hid (Tm W1 r r 0 [] (.slice none 0 0)) := Go.Lib.hid (by rw [hW1, hr]; exact tm_new w1)
    have HG0 : Hid (w.grownBy W1 none) := Go.Lib.hid (by rw [hW1]; exact gb_alloc g1 _)
    have HRW : Hid (w.heap.size ≤ r ∧ r ≤ W1.heap.size) := Go.Lib.hid (by rw [hW1, World.size_alloc, hr]; exact ⟨g1.size, by omega⟩)
    rw [← hW1, ← hr]
    clear hW1 hr g1 d1 hl
    go_loopw [4, 5, 22] (fun v4 v5 v22 wr => ∃ (i n k : Nat) (L : List Due) (lv : Value) (A4 : Option Addr) (c4 : Nat), v4 = .slice A4 k c4 ∧ v5 = .int .i64 (n : Int) ∧ v22 = .int .i64 (i : Int) ∧ i ≤ q ∧ n ≤ i ∧ k ≤ 40 ∧ Hid (k = L.length) ∧ Hid (∀ d ∈ L, (n : Int) < d.1 ∧ d.1 ≤ (n : Int) + 2003) ∧ Hid (Tm wr r r (n : Int) L lv) ∧
        Hid (Rd (fun b => b ≠ r ∧ lv.ownBlock ≠ some b ∧ b < wr.heap.size) wr 3 (.slice A4 k c4) k (dueCs (L.map (relD (n : Int))))) ∧ Hid (w.grownBy wr none) ∧ Hid (r ≤ wr.heap.size)) (fun _ _ v22 _ => q - (intOf v22).toNat)
    case atStart => exact ⟨0, 0, 0, [], _, none, 0, rfl, rfl, rfl, Nat.zero_le _, Nat.zero_le _, Nat.zero_le _, Go.Lib.hid rfl, Go.Lib.hid (by simp), HT0, Go.Lib.hid (Rd.nil _ _ _), HG0, Go.Lib.hid HRW.out.2⟩
    case round =>
      clear HT0 HG0
      obtain ⟨i, n, k, L, lv, A4, c4, rfl, rfl, rfl, hi, hni, hk40, HK, HBN0, HT, HR, HG, HB⟩ := hrel
      obtain ⟨wo, rfl⟩ : ∃ wo : World, wo = wr := ⟨_, rfl⟩
      by_cases hlt : i < q
      · have hd : decide ((i : Int) < (q : Int)) = true := decide_eq_true (by omega)
        have hd' : decide (i < q) = true := decide_eq_true hlt
        have hiI : (0 : Int) ≤ (i : Int) ∧ (i : Int) < (q : Int) ∧ (q : Int) ≤ 300 := by omega
        have hnI : (0 : Int) ≤ (n : Int) ∧ (n : Int) ≤ (i : Int) := by omega
        obtain ⟨d, hx⟩ : ∃ d, l[i]? = some d := ⟨_, List.getElem?_eq_getElem (by rw [← HQ.out]; exact hlt)⟩
        obtain ⟨b, o, c1, he, hbb, hnc, hcm, hcell⟩ := (Rd.grown HV.out HG.out (by simp)).at (by omega)
        injection he with hA _ hcc
        subst hA hcc
        have hrx := range_due hcell hx
        have bx0 := Bk.new wo 43 dueZ
        obtain ⟨kd, rd, st⟩ := d
        clear hcell hx
        go_upto_region 11 with (first
          | ((with_reducible refine wpList_load_range (x := .tmp 24) (t := 43) b (o + i * 3) (dueC (kd, rd, st)) _ hrx (by kernel_rfl) Try.underlying43 rfl (opSize _) ?_))
          | ((with_reducible refine wpList_alloc_row (E := 43) dueZ infoOp ?_))
          | ((with_reducible refine wpList_store_bk (t := 43) wo.heap.size 43 dueZ (dueC (kd, rd, st)) bx0 (by kernel_rfl) (by kernel_rfl) (opSize _) rfl (dueC_one _) ?_); intro w5 h5 g5 z5))
        have g15 := gb_trans_new (gb_alloc (gb_refl wo none) _) g5 (Nat.le_refl _)
        obtain ⟨bo, hbo⟩ : ∃ bo, bo = wo.heap.size := ⟨_, rfl⟩
        rw [← hbo] at h5 ⊢
        have hbr : bo ≠ r := by have := HT.out.1.lt; omega
        have hbl : lv.ownBlock ≠ some bo := fun e => by have := (HT.out.2.1.lt e).2; omega
        have HO5 := Go.Lib.hid h5
        have HT5 := Go.Lib.hid (HT.out.gr g15)
        have HR5 : Hid (Rd (fun b => b ≠ r ∧ lv.ownBlock ≠ some b ∧ b < w5.heap.size) w5 3 (.slice A4 k c4) k (dueCs (L.map (relD (n : Int))))) := Go.Lib.hid (Rd.mono (Rd.grown HR.out g15 (by simp)) fun b hb => ⟨hb.1, hb.2.1, Nat.lt_of_lt_of_le hb.2.2 g15.size⟩)
        have HG5 := Go.Lib.hid (gb_trans HG.out g15)
        have HB5 := Go.Lib.hid (Nat.le_trans HB.out g15.size)
        have c0 := h5.cellAt (i := 0) rfl
        clear hbo h5 g5 z5 g15 bx0 hrx hd hd' HT HR HG HB
        rcases (by omega : kd = 0 ∨ kd = 1 ∨ kd = 2 ∨ (kd ≠ 0 ∧ kd ≠ 1 ∧ kd ≠ 2)) with rfl | rfl | rfl | hkd
        · obtain ⟨ok, hok⟩ : ∃ ok, ok = okOf L := ⟨_, rfl⟩
          obtain ⟨L2, hL2⟩ : ∃ L2, L2 = addL (n : Int) L rd st := ⟨_, rfl⟩
          obtain ⟨D, hD⟩ : ∃ D, D = delay rd := ⟨_, rfl⟩
          have HOK := Go.Lib.hid hok
          have HL2 := Go.Lib.hid hL2
          have HD := Go.Lib.hid hD
          have HL40 : Hid (L.length ≤ 40) := Go.Lib.hid (by rw [← HK.out]; exact hk40)
          have HNB2 : Hid ((0 : Int) ≤ (n : Int) ∧ (n : Int) ≤ 1000000) := Go.Lib.hid (by omega)
          have HBN : Hid (¬ (bo = r ∨ lv.ownBlock = some bo)) := Go.Lib.hid (fun h => h.elim hbr hbl)
          have hr5 := HR5.out
          have hrl := HT5.out.1.lt
          have hlvl : ∀ b, lv.ownBlock = some b → b < w5.heap.size := fun b hb => (HT5.out.2.1.lt hb).2
          have h1 := HO5.out.cellAt (i := 1) rfl
          have h2 := HO5.out.cellAt (i := 2) rfl
          dsimp only at h1 h2
          clear hok hL2 hD
          go_upto_region 14 with (go_at_call 13; ((with_reducible refine (plays_ref rd st _ HK.out HL40.out hr5 hrl hlvl).mono ?_); rintro e w6 ⟨A7, k7, c7, rfl, hk7, hr7, g6⟩; rw [← HOK.out]; rw [← HL2.out] at hk7 hr7))
          have HK7 := Go.Lib.hid hk7
          have HR7 := Go.Lib.hid hr7
          have HT6 := Go.Lib.hid (HT5.out.gr g6)
          have HB6 := Go.Lib.hid (Nat.le_trans HB5.out g6.size)
          have HG6 := Go.Lib.hid (gb_trans HG5.out g6)
          have HBO := Go.Lib.hid (HO5.out.grown g6 (by simp))
          clear hk7 hr7 g6 hr5 hrl hlvl h1 h2 c0 HT5 HR5 HG5 HB5
          refine wp_region_specsS 4 (Ra := Ch (fun k => k = r ∨ lv.ownBlock = some k)) (Rb := Gr) (R := plyR r lv) (fun _ _ _ h k => h.trans k (fun _ h => .inl h)) (fun i a b h => plyR_own h) (fun _ _ _ h k => gb_trans h k) (fun i a b hi h => plyR_gr hi h) 15 [39, 40, 41, 42, 43, 44, 45, 46, 47, 48, 49, 50, 51, 52, 53] (by kernel_rfl) (Ch.refl _ _).drew (gb_drew (gb_refl _ _)) (by kernel_rfl) plyDead (plyφ bo r D w6.heap.size ok (n : Int) rd st lv L2) (fun j i v wa wb h1 _ h2 h3 h4 => ply_st bo r D w6.heap.size ok (n : Int) rd st lv L2 j i v wa wb h1 h2 h3 h4) ?step ?fin
          case step =>
            intro i_ o_ ho hi_ u w' hg hgb hd
            rcases (by omega : i_ = 0 ∨ i_ = 1 ∨ i_ = 2 ∨ i_ = 3 ∨ i_ = 4 ∨ i_ = 5 ∨ i_ = 6 ∨ i_ = 7 ∨ i_ = 8 ∨ i_ = 9 ∨ i_ = 10 ∨ i_ = 11 ∨ i_ = 12 ∨ i_ = 13 ∨ i_ = 14) with rfl | rfl | rfl | rfl | rfl | rfl | rfl | rfl | rfl | rfl | rfl | rfl | rfl | rfl | rfl <;> obtain rfl := Option.some.inj ho <;>
              simp (decide := true) only [fillAct, List.mapIdx_cons, List.mapIdx_nil, Nat.reduceAdd, if_true, if_false, List.getD_cons_zero, List.getD_cons_succ]
            · clear hd ho
              go_wp2_with fail
              exact ⟨rfl, gb_refl _ _, rfl⟩
            · have h0 : u 39 = .pointer (some ⟨bo, 1, none⟩) := hd 0 (by kernel_rfl) (by decide)
              clear hd ho
              rw [h0]
              have c1 := (hg.bk HBO.out HBN.out).cellAt (i := 1) rfl
              go_wp2_with fail
              exact ⟨rfl, gb_refl _ _, rfl⟩
            · clear hd ho
              go_wp2_with fail
              exact ⟨rfl, gb_refl _ _, rfl⟩
            · have h2 : u 41 = .pointer (some ⟨bo, 2, none⟩) := hd 2 (by kernel_rfl) (by decide)
              clear hd ho
              rw [h2]
              have c1 := (hg.bk HBO.out HBN.out).cellAt (i := 2) rfl
              go_wp2_with fail
              exact ⟨rfl, gb_refl _ _, rfl⟩
            · have h1 : u 40 = .int .i64 rd := hd 1 (by kernel_rfl) (by decide)
              have h3 : u 42 = .int .i64 st := hd 3 (by kernel_rfl) (by decide)
              clear hd ho
              rw [h1, h3]
              have hgr := hgb (.inl rfl)
              have ht := HT6.out.gr hgr
              have hb6 : r ≤ w'.heap.size := Nat.le_trans HB6.out hgr.size
              go_wp2_with (go_at_call 8; ((with_reducible refine (plays_set rd st _ ht HL40.out HNB2.out hb6).mono ?_); rintro e w3 ⟨rfl, lv2, ht3, hc3, ho3⟩; rw [← HOK.out]; rw [← HL2.out] at ht3))
              exact ⟨rfl, hc3, rfl, lv2, ht3, ho3.imp id (fun ⟨k, h, hk⟩ => ⟨k, h, Nat.le_trans hgr.size hk⟩)⟩
            · clear hd ho
              go_wp2_with fail
              exact ⟨rfl, gb_refl _ _, rfl⟩
            · have h4 : (u 43) = .bool ok ∧ ∃ lv2, Tm w' r r n L2 lv2 ∧ (lv2.ownBlock = lv.ownBlock ∨ ∃ k, lv2.ownBlock = some k ∧ w6.heap.size ≤ k) := hd 4 (by kernel_rfl) (by decide)
              have h5 : u 44 = .bool ok := hd 5 (by kernel_rfl) (by decide)
              clear hd ho
              rw [h5]
              rw [h4.1]
              cases ok
              · go_wp2_with fail
                exact ⟨rfl, gb_refl _ _, rfl⟩
              · go_wp2_with fail
                exact ⟨rfl, gb_refl _ _, rfl⟩
            · have h6 : u 45 = .bool false := hd 6 (by kernel_rfl) (by decide)
              clear hd ho
              rw [h6]
              go_wp2_with fail
              exact ⟨rfl, gb_refl _ _, rfl⟩
            · have h7 : u 46 = .bool false := hd 7 (by kernel_rfl) (by decide)
              clear hd ho
              rw [h7]
              refine wpList_guard (by rfl) ?_
              go_wp2_with fail
              exact ⟨rfl, gb_refl _ _, rfl⟩
            · have h7 : u 46 = .bool false := hd 7 (by kernel_rfl) (by decide)
              have h8 : u 47 = .pointer (some ⟨bo, 1, none⟩) := hd 8 (by kernel_rfl) (by decide)
              clear hd ho
              rw [h7, h8]
              refine wpList_guard (by rfl) ?_
              have c1 := (hg.bk HBO.out HBN.out).cellAt (i := 1) rfl
              go_wp2_with fail
              exact ⟨rfl, gb_refl _ _, rfl⟩
            · have h7 : u 46 = .bool false := hd 7 (by kernel_rfl) (by decide)
              have h9 : u 48 = .int .i64 rd := hd 9 (by kernel_rfl) (by decide)
              clear hd ho
              rw [h7, h9]
              refine wpList_guard (by rfl) ?_
              go_wp2_with (go_at_call 9; ((with_reducible refine (delay_any rd _).mono ?_); rintro e w3 ⟨rfl, rfl⟩; rw [← HD.out]))
              exact ⟨rfl, gb_refl _ _, rfl⟩
            · have h7 : u 46 = .bool false := hd 7 (by kernel_rfl) (by decide)
              clear hd ho
              rw [h7]
              refine wpList_guard (by rfl) ?_
              go_wp2_with fail
              exact ⟨rfl, gb_refl _ _, rfl⟩
            · have h7 : u 46 = .bool false := hd 7 (by kernel_rfl) (by decide)
              have h11 : u 50 = .pointer (some ⟨bo, 1, none⟩) := hd 11 (by kernel_rfl) (by decide)
              clear hd ho
              rw [h7, h11]
              refine wpList_guard (by rfl) ?_
              have c1 := (hg.bk HBO.out HBN.out).cellAt (i := 1) rfl
              go_wp2_with fail
              exact ⟨rfl, gb_refl _ _, rfl⟩
            · have h7 : u 46 = .bool false := hd 7 (by kernel_rfl) (by decide)
              have h12 : u 51 = .int .i64 rd := hd 12 (by kernel_rfl) (by decide)
              clear hd ho
              rw [h7, h12]
              refine wpList_guard (by rfl) ?_
              go_wp2_with (go_at_call 14; ((with_reducible refine (refDelay_any rd _).mono ?_); rintro e w3 ⟨rfl, rfl⟩; rw [← HD.out]))
              exact ⟨rfl, gb_refl _ _, rfl⟩
            · have h7 : u 46 = .bool false := hd 7 (by kernel_rfl) (by decide)
              have h10 : u 49 = .int .i64 (D : Int) := hd 10 (by kernel_rfl) (by decide)
              have h13 : u 52 = .int .i64 (D : Int) := hd 13 (by kernel_rfl) (by decide)
              clear hd ho
              rw [h7, h10, h13]
              refine wpList_guard (by rfl) ?_
              go_wp2_with fail
              exact ⟨rfl, gb_refl _ _, rfl⟩
          case fin =>
            intro u w7 hg hφ
            obtain ⟨-, lv2, hT7, ho7⟩ : u 43 = .bool ok ∧ ∃ lv2, Tm w7 r r (n : Int) L2 lv2 ∧ (lv2.ownBlock = lv.ownBlock ∨ ∃ k, lv2.ownBlock = some k ∧ w6.heap.size ≤ k) := hφ 4 (by omega) (by decide)
            have h46 : u 46 = .bool false := hφ 7 (by omega) (by decide)
            have h53 : u 53 = .bool false := hφ 14 (by omega) (by decide)
            simp (decide := true) only [fillAct, List.mapIdx_cons, List.mapIdx_nil, Nat.reduceAdd, if_true, if_false, List.drop_succ_cons, List.drop_zero]
            rw [h46, h53]
            clear hφ
            have g7 := tm_gb HG6.out hg HRW.out.1 (fun b hb => Nat.le_trans HRW.out.1 (HT6.out.2.1.lt hb).1)
            have hr8 : Rd (fun b => b ≠ r ∧ lv2.ownBlock ≠ some b ∧ b < w7.heap.size) w7 3 (.slice A7 k7 c7) k7 (dueCs (L2.map (relD (n : Int)))) := Rd.mono (hg.rd HR7.out (fun b hb h => h.elim hb.1 hb.2.1)) (fun b hb => ⟨hb.1, fun e => by
              rcases ho7 with h | ⟨q2, h, hq2⟩
              · exact hb.2.1 (h ▸ e)
              · rw [h] at e; have := Option.some.inj e; omega, Nat.lt_of_lt_of_le hb.2.2 hg.size⟩)
            have hT9 := hT7
            have HK9 := HK7
            have HT8 := Go.Lib.hid hT7
            have HR8 := Go.Lib.hid hr8
            have HG8 := Go.Lib.hid g7
            have HB8 := Go.Lib.hid (Nat.le_trans HB6.out hg.size)
            have hk7 : k7 ≤ 40 := by rw [HK7.out, HL2.out]; exact add_len _ _ _ _ HL40.out
            have HBD : Hid (∀ d ∈ L2, (n : Int) < d.1 ∧ d.1 ≤ (n : Int) + 2003) := Go.Lib.hid (by rw [HL2.out]; exact add_bnd HBN0.out)
            clear hT7 ho7 hr8 g7 hg h46 h53
            go_wp2_with (go_at_call 11; ((with_reducible refine (len_any _ hT9).mono ?_); rintro e wL ⟨rfl, rfl⟩; rw [← HK9.out]))
            refine (now_any _ hT9).mono ?_
            rintro e wN ⟨rfl, rfl⟩
            go_frame
            go_wp2_with fail
            exact ⟨⟨i + 1, n, k7, L2, lv2, A7, c7, rfl, rfl, by push_cast; rfl, by omega, by omega, hk7, HK7, HBD, HT8, HR8, HG8, HB8⟩, by simp only [intOf]; omega⟩
        · have hb6 : ∀ d ∈ L.map (relD (n : Int)), -1000000 ≤ d.1 ∧ d.1 ≤ 1000000 := fun d hd => by
            obtain ⟨e, he, rfl⟩ := List.mem_map.1 hd
            have := HBN0.out e he
            simp only [relD]
            omega
          have hr6 : Rd (fun b => b ≠ r ∧ lv.ownBlock ≠ some b ∧ b < w5.heap.size) w5 3 (.slice A4 k c4) (L.map (relD (n : Int))).length (dueCs (L.map (relD (n : Int)))) := by rw [List.length_map, ← HK.out]; exact HR5.out
          have hl6 : (L.map (relD (n : Int))).length ≤ 1000 := by rw [List.length_map, ← HK.out]; omega
          have hL1 : L.length ≤ 1000 := by rw [← HK.out]; omega
          have hnb : (0 : Int) ≤ (n : Int) ∧ (n : Int) ≤ 1000000 := by omega
          have hrl := HT5.out.1.lt
          have hlvl : ∀ b, lv.ownBlock = some b → b < w5.heap.size := fun b hb => (HT5.out.2.1.lt hb).2
          obtain ⟨ON, hON⟩ : ∃ ON, ON = overOf ((n : Int) + 1) L := ⟨_, rfl⟩
          obtain ⟨LN, hLN⟩ : ∃ LN, LN = leftOf ((n : Int) + 1) L := ⟨_, rfl⟩
          obtain ⟨K, hK⟩ : ∃ K, K = ON.length := ⟨_, rfl⟩
          obtain ⟨k9, hk9⟩ : ∃ k9, k9 = LN.length := ⟨_, rfl⟩
          have hKb : K ≤ 40 := by
            have h1 : (overOf ((n : Int) + 1) L).length ≤ L.length := List.length_filter_le _ _
            rw [hK, hON]; rw [← HK.out] at h1; omega
          have hk9b : k9 ≤ 40 := by
            have h1 := left_le ((n : Int) + 1) L
            rw [hk9, hLN]; rw [← HK.out] at h1; omega
          have HON := Go.Lib.hid hON
          have HLN := Go.Lib.hid hLN
          have HKK := Go.Lib.hid hK
          have HK9 := Go.Lib.hid hk9
          have hT5 := HT5.out
          have hB5 := HB5.out
          clear hON hLN hK hk9
          go_wp2_with (first
            | (go_at_call 15; ((with_reducible refine (refTick_any (L.map (relD (n : Int))) _ _ hr6 hl6 hb6).mono ?_); rintro e w6 ⟨v1, v2, rfl, ho1, ho2, g6⟩; rw [rel_left, List.length_map, ← HLN.out, ← HK9.out] at ho1; rw [rel_over, List.length_map, ← HON.out, ← HKK.out] at ho2; obtain ⟨A1, c1, rfl⟩ := ho1.form; obtain ⟨A2, c2, rfl⟩ := ho2.form; have hT6 := hT5.gr g6; have hB6 := Nat.le_trans hB5 g6.size))
            | (go_at_call 10; ((with_reducible refine (over_any _ hT6 hL1 hnb hB6).mono ?_); rintro e w8 ⟨ov, lv8, rfl, hT8, hO8, hC8, hw8⟩; rw [← HLN.out] at hT8; rw [← HON.out, ← HKK.out] at hO8; obtain ⟨A8, c8, rfl⟩ := hO8.form)))
          have g8 := tm_gb (gb_trans HG5.out g6) hC8 HRW.out.1 (fun b hb => Nat.le_trans HRW.out.1 (hT6.2.1.lt hb).1)
          have hs8 := hC8.size
          have hns : ∀ b, w5.heap.size ≤ b → ¬ (b = r ∨ lv.ownBlock = some b) := fun b hb h => by
            rcases h with h | h
            · omega
            · have := hlvl b h; omega
          have hr1 : Rd (fun b => b ≠ r ∧ lv8.ownBlock ≠ some b ∧ b < w8.heap.size) w8 3 (.slice A1 k9 c1) k9 (dueCs (LN.map (relD ((n : Int) + 1)))) := Rd.mono (hC8.rd (ho1.rd (NB := fun b => w5.heap.size ≤ b ∧ b < w6.heap.size) (fun b hb => ho1.lt hb)) (fun b hb => hns b hb.1)) (fun b hb => ⟨fun e => hns b hb.1 (.inl e), fun e => hns b hb.1 (.inr (hw8 ▸ e)), by omega⟩)
          have hr2 : Rd (fun b => b < w8.heap.size) w8 3 (.slice A2 K c2) K (dueCs (ON.map (relD ((n : Int) + 1)))) := Rd.mono (hC8.rd (ho2.rd (NB := fun b => w5.heap.size ≤ b ∧ b < w6.heap.size) (fun b hb => ho2.lt hb)) (fun b hb => hns b hb.1)) (fun b hb => by omega)
          have hr3 : Rd (fun b => b < w8.heap.size) w8 2 (.slice A8 K c8) K (prCs (ON.map (·.2))) := hO8.rd (fun b hb => (hO8.lt hb).2)
          have HT8 := Go.Lib.hid hT8
          have HR1 := Go.Lib.hid hr1
          have HR2 := Go.Lib.hid hr2
          have HR3 := Go.Lib.hid hr3
          have HG8 := Go.Lib.hid g8
          have HB8 := Go.Lib.hid (Nat.le_trans hB6 hs8)
          clear hT8 hr1 hr2 hr3 g8 hs8 hns ho1 ho2 hO8 hC8 hw8 g6 hT6 hB6 hT5 hB5 hr6 hl6 hL1 hb6 hrl hlvl c0 HT5 HR5 HG5 HB5
          go_loopw [12, 65] (fun v12 v65 wr => ∃ (j : Nat), v12 = .int .i64 (j : Int) ∧ v65 = .int .i64 (j : Int) ∧ j ≤ K ∧ Hid (Tm wr r r ((n : Int) + 1) LN lv8) ∧ Hid (Rd (fun b => b ≠ r ∧ lv8.ownBlock ≠ some b ∧ b < wr.heap.size) wr 3 (.slice A1 k9 c1) k9 (dueCs (LN.map (relD ((n : Int) + 1))))) ∧
              Hid (Rd (fun b => b < wr.heap.size) wr 3 (.slice A2 K c2) K (dueCs (ON.map (relD ((n : Int) + 1))))) ∧ Hid (Rd (fun b => b < wr.heap.size) wr 2 (.slice A8 K c8) K (prCs (ON.map (·.2)))) ∧ Hid (w.grownBy wr none) ∧ Hid (r ≤ wr.heap.size)) (fun _ v65 _ => K - (intOf v65).toNat)
          case atStart => exact ⟨0, rfl, rfl, Nat.zero_le _, HT8, HR1, HR2, HR3, HG8, HB8⟩
          case round =>
            clear HT8 HR1 HR2 HR3 HG8 HB8
            obtain ⟨j, rfl, rfl, hj, HT, HR1, HR2, HR3, HG, HB⟩ := hrel
            obtain ⟨wz, rfl⟩ : ∃ wz : World, wz = wr := ⟨_, rfl⟩
            by_cases hlt2 : j < K
            · have hd : decide ((j : Int) < (K : Int)) = true := decide_eq_true (by omega)
              have hd' : decide (j < K) = true := decide_eq_true hlt2
              have hd3 : decide ((K : Int) ≤ (j : Int)) = false := decide_eq_false (by omega)
              have hd4 : decide (K ≤ j) = false := decide_eq_false (by omega)
              have hjI : (0 : Int) ≤ (j : Int) ∧ (j : Int) < (K : Int) ∧ (K : Int) ≤ 40 := by omega
              obtain ⟨e, hx⟩ : ∃ e, ON[j]? = some e := ⟨_, List.getElem?_eq_getElem (by rw [← HKK.out]; exact hlt2)⟩
              obtain ⟨b2, o2, c9, he2, hb2, hnc2, hcm2, hcell2⟩ := HR2.out.at (by omega)
              injection he2 with hA2 _ hcc2
              subst hA2 hcc2
              obtain ⟨b8, o8, c10, he8, hb8, hnc8, hcm8, hcell8⟩ := HR3.out.at (by omega)
              injection he8 with hA8 _ hcc8
              subst hA8 hcc8
              obtain ⟨ea, p1, p2⟩ := e
              have hrw2 := range_due hcell2 (i := j) (d := (ea - ((n : Int) + 1), p1, p2)) (by rw [List.getElem?_map, hx]; rfl)
              have hrx8 := range_pr hcell8 (i := j) (p := (p1, p2)) (by rw [List.getElem?_map, hx]; rfl)
              have bx1 := Bk.new wz 33 prZ
              clear hcell2 hcell8 hx
              go_upto_region 23 with (first
                | ((with_reducible refine wpList_load_range (x := .tmp 67) (t := 33) b8 (o8 + j * 2) (prC (p1, p2)) _ hrx8 (by kernel_rfl) Try.underlying33 rfl (prSize _) ?_))
                | ((with_reducible refine wpList_alloc_row (E := 33) prZ infoPr ?_))
                | ((with_reducible refine wpList_store_bk (t := 33) wz.heap.size 33 prZ (prC (p1, p2)) bx1 (by kernel_rfl) (by kernel_rfl) (prSize _) rfl (prC_one _) ?_); intro w9 h9 g9 z9))
              have g19 := gb_trans_new (gb_alloc (gb_refl wz none) _) g9 (Nat.le_refl _)
              have hrw9 := rangeAt_grown hrw2 g19 (by simp)
              have cw1 : w9.cell? ⟨b2, o2 + j * 3 + 1, none⟩ = some (.int .i64 p1) := hrw9 1 _ rfl
              have cw2 : w9.cell? ⟨b2, o2 + j * 3 + 2, none⟩ = some (.int .i64 p2) := hrw9 2 _ rfl
              obtain ⟨bx, hbx⟩ : ∃ bx, bx = wz.heap.size := ⟨_, rfl⟩
              rw [← hbx] at h9 ⊢
              have cx0 : w9.cell? ⟨bx, 0, none⟩ = some (.int .i64 p1) := h9.cellAt (i := 0) rfl
              have cx1 : w9.cell? ⟨bx, 1, none⟩ = some (.int .i64 p2) := h9.cellAt (i := 1) rfl
              have q1 : ((p1 : Int) == (p1 : Int)) = true := beq_self_eq_true _
              have q2 : ((p2 : Int) == (p2 : Int)) = true := beq_self_eq_true _
              have HG19 := Go.Lib.hid g19
              clear hrw2 hrx8 bx1 h9 g9 z9 g19 hrw9 hbx
              go_quiet (fail)
              have g20 := gb_trans HG19.out (gb_drewN (gb_refl w9 none) nq)
              obtain ⟨w10, hw10⟩ : ∃ w10, w10 = w9.drewN nq := ⟨_, rfl⟩
              rw [← hw10] at g20 ⊢
              have hlt10 : ∀ b, b < wz.heap.size → b < w10.heap.size := fun b hb => Nat.lt_of_lt_of_le hb g20.size
              clear cw1 cw2 cx0 cx1 hw10
              go_wp2_with fail
              exact ⟨⟨j + 1, by push_cast; rfl, by push_cast; rfl, by omega, Go.Lib.hid (HT.out.gr g20), Go.Lib.hid (Rd.mono (Rd.grown HR1.out g20 (by simp)) fun b hb => ⟨hb.1, hb.2.1, hlt10 b hb.2.2⟩), Go.Lib.hid (Rd.mono (Rd.grown HR2.out g20 (by simp)) hlt10), Go.Lib.hid (Rd.mono (Rd.grown HR3.out g20 (by simp)) hlt10), Go.Lib.hid (gb_trans HG.out g20), Go.Lib.hid (Nat.le_trans HB.out g20.size)⟩, by simp only [intOf]; omega⟩
            · obtain rfl : j = K := by omega
              have hd : decide ((j : Int) < (j : Int)) = false := decide_eq_false (by omega)
              have hd' : decide (j < j) = false := decide_eq_false (by omega)
              have hT9 := HT.out
              have HBD : Hid (∀ d ∈ LN, ((n : Int) + 1) < d.1 ∧ d.1 ≤ ((n : Int) + 1) + 2003) := Go.Lib.hid (fun d hd => by
                rw [HLN.out] at hd
                unfold leftOf at hd
                have h1 := List.mem_filter.1 hd
                have h2 := HBN0.out d h1.1
                have h3 : ¬ d.1 ≤ (n : Int) + 1 := by simpa using h1.2
                omega)
              have hnI2 : (0 : Int) ≤ (n : Int) ∧ (n : Int) ≤ 300 := by omega
              go_wp2_with (go_at_call 11; ((with_reducible refine (len_any _ hT9).mono ?_); rintro e wL ⟨rfl, rfl⟩; rw [← HK9.out]))
              refine (now_any _ hT9).mono ?_
              rintro e wN ⟨rfl, rfl⟩
              go_frame
              go_wp2_with fail
              exact ⟨⟨i + 1, n + 1, k9, LN, lv8, A1, c1, rfl, by push_cast; rfl, by push_cast; rfl, by omega, by omega, hk9b, HK9, Go.Lib.hid (by push_cast; exact HBD.out), Go.Lib.hid (by push_cast; exact HT.out), Go.Lib.hid (by push_cast; exact HR1.out), HG, HB⟩, by simp only [intOf]; omega⟩
        · have hT5 := HT5.out
          go_upto_region 34 with (go_at_call 16; ((with_reducible refine (clear_any _ hT5).mono ?_); rintro e w6 ⟨⟨v6, rfl⟩, hT6, g6⟩))
          have hT9 := hT6
          have HT6 := Go.Lib.hid hT6
          have HK9 : Hid (0 = ([] : List Due).length) := Go.Lib.hid rfl
          have HG6 := Go.Lib.hid (gb_trans_new HG5.out g6 HRW.out.1)
          have HB6 := Go.Lib.hid (Nat.le_trans HB5.out g6.size)
          clear hT5 hT6 g6
          go_wp2_with (go_at_call 11; ((with_reducible refine (len_any _ hT9).mono ?_); rintro e wL ⟨rfl, rfl⟩; rw [← HK9.out]))
          refine (now_any _ hT9).mono ?_
          rintro e wN ⟨rfl, rfl⟩
          go_frame
          go_wp2_with fail
          exact ⟨⟨i + 1, n, 0, [], _, none, 0, rfl, rfl, by push_cast; rfl, by omega, by omega, Nat.zero_le _, HK9, Go.Lib.hid (by simp), HT6, Go.Lib.hid (Rd.nil _ _ _), HG6, HB6⟩, by simp only [intOf]; omega⟩
        · have hT9 := HT5.out
          have HK9 := HK
          have e0 : decide (kd = 0) = false := decide_eq_false hkd.1
          have e1 : decide (kd = 1) = false := decide_eq_false hkd.2.1
          have e2 : decide (kd = 2) = false := decide_eq_false hkd.2.2
          go_wp2_with (go_at_call 11; ((with_reducible refine (len_any _ hT9).mono ?_); rintro e wL ⟨rfl, rfl⟩; rw [← HK9.out]))
          refine (now_any _ hT9).mono ?_
          rintro e wN ⟨rfl, rfl⟩
          go_frame
          go_wp2_with fail
          exact ⟨⟨i + 1, n, k, L, lv, A4, c4, rfl, rfl, by push_cast; rfl, by omega, by omega, hk40, HK, HBN0, HT5, HR5, HG5, HB5⟩, by simp only [intOf]; omega⟩
      · obtain rfl : i = q := by omega
        have hd : decide ((i : Int) < (i : Int)) = false := decide_eq_false (by omega)
        have hd' : decide (i < i) = false := decide_eq_false (by omega)
        have hg0 := HG.out
        go_wp2_with fail
        go_ret
        exact ⟨rfl, hg0⟩
end Go.Proofs.Ytjbnnfphpchneaa
