import Derived.Test.YtajgklomcapboaaAppend
/- tree: Of, Root, Size, Tops. -/
namespace Go.Proofs.Ytajgklomcapboaa
open Go.RowKit Go.Shelf Sc

theorem ones0 : ones 0 = 0 := ones_zero
theorem tops_len (l : List Sc.Id) : (tops nd e0 l).length = ones l.length := tops_length nd e0 l.length l (Nat.le_refl _)

set_option maxHeartbeats 2000000 in
theorem treeOf_any (v : Value) (xs : List Sc.Id) (NB : Nat → Prop) (w : World) (hv : RdI NB w v xs) (hNB : ∀ b, NB b → b < w.heap.size) (hsz : xs.length ≤ 1099511627776) :
    Calls Try.prog 50 #[v] w fun e w' => e = .returned (.pointer (some ⟨w.heap.size, 0, none⟩)) ∧ w.grownBy w' none ∧ ∃ tv, Rng w' w.heap.size w.heap.size tv xs.length (tops nd e0 xs) := by
  go_enter Try.func50, Try.ntmps50
  obtain ⟨A, c, rfl, hc⟩ := Rd.form hv
  have hb0 := Bk.new w 109 [.int .i64 0, .slice none 0 0]
  have g0 := gb_alloc (gb_refl w none) (.cells #[.int .i64 0, .slice none 0 0] 109)
  have hR : Rng (w.alloc (.cells #[.int .i64 0, .slice none 0 0] 109)) w.heap.size w.heap.size (.slice none 0 0) 0 [] := ⟨hb0, Ow.nil _ _ _, by simp [Value.ownBlock]⟩
  have hv1 : RdI NB (w.alloc (.cells #[.int .i64 0, .slice none 0 0] 109)) (.slice A xs.length c) xs := Rd.alloc hv _
  have hN1 : ∀ b, NB b → b < (w.alloc (.cells #[.int .i64 0, .slice none 0 0] 109)).heap.size ∧ b ≠ w.heap.size ∧ (Value.slice none 0 0).ownBlock ≠ some b := fun b hb => by
    have := hNB b hb
    refine ⟨by rw [World.size_alloc]; omega, by omega, by simp [Value.ownBlock]⟩
  have hs1 : 0 + xs.length ≤ 1099511627776 := by omega
  have hB1 : w.heap.size ≤ (w.alloc (.cells #[.int .i64 0, .slice none 0 0] 109)).heap.size := by rw [World.size_alloc]; omega
  have h00 : ([] : List Sc.Id).length = ones 0 := by rw [ones_zero]; rfl
  clear hv
  go_wp2_with (go_at_call 64; ((with_reducible refine (append_any w.heap.size w.heap.size (.slice none 0 0) _ 0 [] xs NB _ hR h00 hv1 hN1 hs1 hB1).mono ?_); rintro e w2 ⟨rfl, tv, hR2, hC2, _⟩))
  go_ret
  have hp := pushes_tops [] xs
  rw [tops_nil, List.length_nil, List.nil_append] at hp
  rw [hp, Nat.zero_add] at hR2
  refine ⟨rfl, ?_, tv, hR2⟩
  exact ((Ch.of (S := fun _ => False) g0 (fun _ h => by cases h)).trans hC2 (fun q hq => by
    rcases hq with h | h
    · exact .inr (by omega)
    · simp [Value.ownBlock] at h)).toGb (fun _ h => h.elim)

def rtAφ (r b2 o2 k m c2 : Nat) (t y : Sc.Id) (i : Nat) (v : Value) (_w : World) : Prop := match i with
  | 0 => v = .pointer (some ⟨r, 0, none⟩)
  | 1 => v = .pointer (some ⟨r, 0, none⟩)
  | 2 => v = .pointer (some ⟨r, 1, none⟩)
  | 3 => v = .slice (some ⟨b2, o2, none⟩) m c2
  | 4 => v = .int .i64 (k : Int)
  | 5 => v = .pointer (some ⟨b2, o2 + k * 32, none⟩)
  | 6 => v = idv t
  | 7 => v = idv y
  | 8 => v = idv (nd t y)
  | _ => True
theorem rtAφ_gr (r b2 o2 k m c2 : Nat) (t y : Sc.Id) : ∀ i v w w', rtAφ r b2 o2 k m c2 t y i v w → Gr w w' → rtAφ r b2 o2 k m c2 t y i v w' := by
  intro i v w w' h hg
  match i with
  | 0 => exact h
  | 1 => exact h
  | 2 => exact h
  | 3 => exact h
  | 4 => exact h
  | 5 => exact h
  | 6 => exact h
  | 7 => exact h
  | 8 => exact h
  | i + 9 => exact h
def rtLφ (r b2 o2 k c2 W0 : Nat) (t : Sc.Id) (i : Nat) (v : Value) (w : World) : Prop := match i with
  | 0 => v = .pointer (some ⟨r, 0, none⟩)
  | 1 => v = .pointer (some ⟨r, 0, none⟩)
  | 2 => v = .pointer (some ⟨r, 1, none⟩)
  | 3 => v = .slice (some ⟨b2, o2, none⟩) (k + 1) c2
  | 4 => v = .pointer (some ⟨r, 0, none⟩)
  | 5 => v = .pointer (some ⟨r, 0, none⟩)
  | 6 => v = .pointer (some ⟨r, 1, none⟩)
  | 7 => v = .slice (some ⟨b2, o2, none⟩) (k + 1) c2
  | 8 => v = .int .i64 ((k : Int) + 1)
  | 9 => v = .int .i64 (k : Int)
  | 10 => v = .pointer (some ⟨b2, o2 + k * 32, none⟩)
  | 11 => v = idv t
  | 12 => ∃ q, v = .pointer (some ⟨q, 0, none⟩) ∧ Bk w q 34 idZ ∧ W0 ≤ q
  | _ => True
theorem rtLφ_gr (r b2 o2 k c2 W0 : Nat) (t : Sc.Id) : ∀ i v w w', rtLφ r b2 o2 k c2 W0 t i v w → Gr w w' → rtLφ r b2 o2 k c2 W0 t i v w' := by
  intro i v w w' h hg
  match i with
  | 0 => exact h
  | 1 => exact h
  | 2 => exact h
  | 3 => exact h
  | 4 => exact h
  | 5 => exact h
  | 6 => exact h
  | 7 => exact h
  | 8 => exact h
  | 9 => exact h
  | 10 => exact h
  | 11 => exact h
  | 12 => exact by obtain ⟨q, e, hb, hq⟩ := h; exact ⟨q, e, hb.grown hg (by simp), hq⟩
  | i + 13 => exact h

theorem joined_last (ts : List Sc.Id) (t : Sc.Id) (k : Nat) (h : ts[k]? = some t) (hk : k + 1 < ts.length) : joined nd e0 (ts.drop k) = nd t (joined nd e0 (ts.drop (k + 1))) := by
  have e : ts.drop k = t :: ts.drop (k + 1) := by
    have hl := (List.getElem?_eq_some_iff.1 h).1
    rw [List.drop_eq_getElem_cons hl]
    congr 1
    exact (List.getElem?_eq_some_iff.1 h).2
  rw [e, joined_cons nd e0 (fun h => by have := congrArg List.length h; simp at this; omega)]

set_option maxHeartbeats 4000000 in
theorem rootM_any (B r : Nat) (tv : Value) (l : List Sc.Id) (w : World) (hR : Rng w B r tv l.length (tops nd e0 l)) (hl : l.length ≤ 1099511627776) :
    Calls Try.prog 51 #[.pointer (some ⟨r, 0, none⟩)] w fun e w' => e = .returned (idv (root nd e0 l)) ∧ w.grownBy w' none := by
  go_enter Try.func51, Try.ntmps51
  have hjt := joined_tops nd e0 l.length l (Nat.le_refl _)
  obtain ⟨ts, hts⟩ : ∃ ts, ts = tops nd e0 l := ⟨_, rfl⟩
  have htl := tops_len l
  rw [← hts] at hR hjt htl
  obtain ⟨hb, ho, hne⟩ := hR
  have hb0 := hb.alloc (.cells idZ.toArray 34)
  have c0 := hb0.cellAt (i := 0) rfl
  have bz := Bk.new w 34 idZ
  have gz := gb_alloc (gb_refl w none) (.cells idZ.toArray 34)
  have hlI : (0 : Int) ≤ (l.length : Int) ∧ (l.length : Int) ≤ 1099511627776 := by omega
  have HJ := Go.Lib.hid hjt
  have HTS := Go.Lib.hid hts
  have HTL := Go.Lib.hid htl
  clear hjt hts htl
  by_cases hz : l.length = 0
  · have hz0 : decide (l.length = 0) = true := decide_eq_true hz
    have hz1 : ((l.length : Int) == 0) = true := by rw [hz]; rfl
    have hl0 : l = [] := List.eq_nil_of_length_eq_zero hz
    clear hz
    have hrd : RdBB (fun _ => False) (w.alloc (.cells idZ.toArray 34)) (.slice none 0 0) [] := ⟨[], Rd.nil _ _ _, fun j l h => by simp at h⟩
    have hNF : ∀ b, (fun _ : Nat => False) b → b < (w.alloc (.cells idZ.toArray 34)).heap.size := fun _ h => h.elim
    have hfl : ([] : List (List UInt8)).flatten.length ≤ 1125899906842624 := by decide
    have HL0 := Go.Lib.hid hl0
    clear hl0
    go_wp2_with (first
      | ((with_reducible refine wpList_alloc_row (E := 34) idZ infoId ?_))
      | (go_at_call 46; ((with_reducible refine (of_any _ [] _ _ hrd hNF hfl).mono ?_); rintro e w3 ⟨rfl, g3⟩; have b3 := bz.grown g3 (by simp)))
      | ((with_reducible refine wpList_store_bk (t := 34) w.heap.size 34 idZ ((sha [].flatten).l.map bv) b3 (by kernel_rfl) (by kernel_rfl) (idSize _) (idLen _) (idOne _) ?_); intro w5 h5 g5 z5))
    go_frame
    refine bodyPost_ret (results_id rfl _ _ w.heap.size (sha [].flatten) rfl h5) rfl ⟨?_, gb_trans_new (gb_trans gz g3) g5 (Nat.le_refl _)⟩
    rw [HL0.out, root_nil]; rfl
  · have hz0 : decide (l.length = 0) = false := decide_eq_false hz
    have hz1 : ((l.length : Int) == 0) = false := by simpa using hz
    go_wp2_with ((with_reducible refine wpList_alloc_row (E := 34) idZ infoId ?_))
    have hlo : ts.length ≤ 41 := by rw [HTL.out]; exact ones_le_log 41 _ (by omega)
    have htl0 : 0 < ts.length := by
      rcases Nat.eq_zero_or_pos ts.length with e | e
      · exact absurd (List.eq_nil_of_length_eq_zero e) (by rw [HTS.out]; exact tops_ne nd e0 (fun h => hz (by rw [h]; rfl)))
      · exact e
    obtain ⟨m, hm⟩ : ∃ m, m = ts.length := ⟨_, rfl⟩
    rw [← hm] at ho hlo htl0
    obtain ⟨k, rfl⟩ : ∃ k, m = k + 1 := ⟨m - 1, by omega⟩
    obtain ⟨b2, o2, c2, htv, _, hb2, hmc, hr2, _⟩ := ho.at (by omega)
    subst htv
    obtain ⟨t, ht⟩ : ∃ t, ts[k]? = some t := ⟨_, List.getElem?_eq_getElem (by omega)⟩
    have HM := Go.Lib.hid hm
    have HT := Go.Lib.hid ht
    have hr2a : (w.alloc (.cells idZ.toArray 34)).rangeAt b2 o2 (idCells ts) := rangeAt_grown hr2 (World.grownBy_alloc w _ none) (by simp)
    have hrt := range_id hr2a ht
    have hcT := hb0.cellAt (i := 1) rfl
    have hrlt : r < w.heap.size := hb.lt
    have HR2 := Go.Lib.hid hr2a
    have HB0 := Go.Lib.hid hb0
    have HBZ := Go.Lib.hid bz
    have HGZ := Go.Lib.hid gz
    clear hm ht hr2 hr2a hz hz0 hz1 c0 hb ho hb0 bz gz HTL HTS
    obtain ⟨W, hW⟩ : ∃ W, W = w.alloc (.cells idZ.toArray 34) := ⟨_, rfl⟩
    have hWs : W.heap.size = w.heap.size + 1 := by rw [hW, World.size_alloc]
    rw [← hW] at hrt hcT HR2 HB0 HBZ HGZ ⊢
    have HWS := Go.Lib.hid hWs
    clear hW hWs
    refine wp_region_specs 13 [11, 12, 13, 14, 15, 16, 17, 18, 19, 20, 21, 22, 3] (by kernel_rfl) (by kernel_rfl) (rtLφ r b2 o2 k c2 W.heap.size t) (rtLφ_gr r b2 o2 k c2 W.heap.size t) ?step ?fin
    case step =>
      intro i_ o_ ho hi_ u w' hg hd
      rcases (by omega : i_ = 0 ∨ i_ = 1 ∨ i_ = 2 ∨ i_ = 3 ∨ i_ = 4 ∨ i_ = 5 ∨ i_ = 6 ∨ i_ = 7 ∨ i_ = 8 ∨ i_ = 9 ∨ i_ = 10 ∨ i_ = 11 ∨ i_ = 12) with rfl | rfl | rfl | rfl | rfl | rfl | rfl | rfl | rfl | rfl | rfl | rfl | rfl <;> obtain rfl := Option.some.inj ho <;>
        simp (decide := true) only [fillAct, List.mapIdx_cons, List.mapIdx_nil, Nat.reduceAdd, if_true, if_false, List.getD_cons_zero, List.getD_cons_succ]
      · clear hd ho
        go_wp2_with fail
        exact ⟨rfl, gb_refl _ _, rfl⟩
      · have h0 : u 11 = .pointer (some ⟨r, 0, none⟩) := hd 0 (by kernel_rfl)
        clear hd ho
        rw [h0]
        go_wp2_with fail
        exact ⟨rfl, gb_refl _ _, rfl⟩
      · have h1 : u 12 = .pointer (some ⟨r, 0, none⟩) := hd 1 (by kernel_rfl)
        clear hd ho
        rw [h1]
        go_wp2_with fail
        exact ⟨rfl, gb_refl _ _, rfl⟩
      · have h2 : u 13 = .pointer (some ⟨r, 1, none⟩) := hd 2 (by kernel_rfl)
        clear hd ho
        rw [h2]
        have c1 := cell_grown (row := none) hg hcT (by simp)
        go_wp2_with fail
        exact ⟨rfl, gb_refl _ _, rfl⟩
      · clear hd ho
        go_wp2_with fail
        exact ⟨rfl, gb_refl _ _, rfl⟩
      · have h4 : u 15 = .pointer (some ⟨r, 0, none⟩) := hd 4 (by kernel_rfl)
        clear hd ho
        rw [h4]
        go_wp2_with fail
        exact ⟨rfl, gb_refl _ _, rfl⟩
      · have h5 : u 16 = .pointer (some ⟨r, 0, none⟩) := hd 5 (by kernel_rfl)
        clear hd ho
        rw [h5]
        go_wp2_with fail
        exact ⟨rfl, gb_refl _ _, rfl⟩
      · have h6 : u 17 = .pointer (some ⟨r, 1, none⟩) := hd 6 (by kernel_rfl)
        clear hd ho
        rw [h6]
        have c1 := cell_grown (row := none) hg hcT (by simp)
        go_wp2_with fail
        exact ⟨rfl, gb_refl _ _, rfl⟩
      · have h7 : u 18 = .slice (some ⟨b2, o2, none⟩) (k + 1) c2 := hd 7 (by kernel_rfl)
        clear hd ho
        rw [h7]
        go_wp2_with fail
        exact ⟨rfl, gb_refl _ _, rfl⟩
      · have h8 : u 19 = .int .i64 ((k : Int) + 1) := hd 8 (by kernel_rfl)
        clear hd ho
        rw [h8]
        go_wp2_with fail
        exact ⟨rfl, gb_refl _ _, rfl⟩
      · have h3 : u 14 = .slice (some ⟨b2, o2, none⟩) (k + 1) c2 := hd 3 (by kernel_rfl)
        have h9 : u 20 = .int .i64 (k : Int) := hd 9 (by kernel_rfl)
        clear hd ho
        rw [h3, h9]
        go_wp2_with fail
        exact ⟨rfl, gb_refl _ _, rfl⟩
      · have h10 : u 21 = .pointer (some ⟨b2, o2 + k * 32, none⟩) := hd 10 (by kernel_rfl)
        clear hd ho
        rw [h10]
        have r1 := rangeAt_grown hrt hg (by simp)
        go_wp2_with ((with_reducible refine wpList_load_range (t := 34) b2 (o2 + k * 32) (t.l.map bv) _ r1 (by kernel_rfl) Try.underlying34 rfl (idSize _) ?_))
        exact ⟨rfl, gb_refl _ _, rfl⟩
      · clear hd ho
        have hgs := hg.size
        go_wp2_with ((with_reducible refine wpList_alloc_row (E := 34) idZ infoId ?_))
        exact ⟨rfl, gb_alloc (gb_refl _ _) _, w'.heap.size, rfl, Bk.new _ _ _, hgs⟩

    case fin =>
      intro u w' hg hφ
      have h11 : u 22 = idv t := hφ 11 (by omega)
      have h11' : u 22 = .agg (t.l.map bv).toArray := h11
      obtain ⟨q, h12, hbq, hqW⟩ : ∃ q, u 3 = .pointer (some ⟨q, 0, none⟩) ∧ Bk w' q 34 idZ ∧ W.heap.size ≤ q := hφ 12 (by omega)
      simp (decide := true) only [fillAct, List.mapIdx_cons, List.mapIdx_nil, Nat.reduceAdd, if_true, if_false, List.drop_succ_cons, List.drop_zero]
      rw [h11', h12]
      have hqr : q ≠ r := by have := HWS.out; omega
      have hqb : q ≠ b2 := by have := HWS.out; omega
      have hqw : q ≠ w.heap.size := by have := HWS.out; omega
      have hb1 := HB0.out.grown hg (by simp)
      have e1 : IntKind.i64.wrap ((k : Int) + 1 - 2) = (k : Int) - 1 := by rw [IntWalk.i64_in _ (by omega)]; omega
      have e2 : (k : Int) + 1 - 2 = (k : Int) - 1 := by omega
      clear hφ hcT
      go_wp2_with ((with_reducible refine wpList_store_bk (t := 34) q 34 idZ (t.l.map bv) hbq (by kernel_rfl) (by kernel_rfl) (idSize _) (idLen _) (idOne _) ?_)
                   intro w6 h6 g6 z6
                   have hb6 := hb1.grown g6 (fun e => hqr (Option.some.inj e).symm)
                   have c6 := hb6.cellAt (i := 1) rfl)
      have H6 : Hid (w6.rangeAt b2 o2 (idCells ts)) := Go.Lib.hid (rangeAt_grown (rangeAt_grown HR2.out hg (by simp)) g6 (fun e => hqb (Option.some.inj e)))
      have HBZ6 : Hid (Bk w6 w.heap.size 34 idZ) := Go.Lib.hid ((HBZ.out.grown hg (by simp)).grown g6 (fun e => hqw (Option.some.inj e).symm))
      have HG6 : Hid (w.grownBy w6 none) := Go.Lib.hid (gb_trans_new (gb_trans HGZ.out hg) g6 (by have := HWS.out; omega))
      have HB6 := Go.Lib.hid hb6
      have HI6 := Go.Lib.hid h6
      have hjl : t = joined nd e0 (ts.drop k) := by
        have : ts.drop k = [t] := by
          have hl := (List.getElem?_eq_some_iff.1 HT.out).1
          rw [List.drop_eq_getElem_cons hl, (List.getElem?_eq_some_iff.1 HT.out).2, List.drop_of_length_le (by have := HM.out; omega)]
        rw [this]; rfl
      have HJ6 := Go.Lib.hid hjl
      have hwq : w.heap.size ≤ q := by have := HWS.out; omega
      clear hb1 hbq g6 z6 h6 hb6 c6 hg hjl e1 e2 hrt HB0 HBZ HGZ HR2
      go_loopw [4] (fun iv wr => ∃ (j : Nat) (y : Sc.Id) (z : Int), iv = .int .i64 z ∧ z = (j : Int) - 1 ∧ j ≤ k ∧ Hid (y = joined nd e0 (ts.drop j)) ∧ Hid (Bk wr q 34 (y.l.map bv)) ∧ Hid (w.grownBy wr none) ∧ Hid (Bk wr w.heap.size 34 idZ) ∧
          Hid (Bk wr r 109 [.int .i64 (l.length : Int), .slice (some ⟨b2, o2, none⟩) (k + 1) c2]) ∧ Hid (wr.rangeAt b2 o2 (idCells ts)))
        (fun iv _ => (intOf iv + 1).toNat)
      case atStart => exact ⟨k, t, (k : Int) - 1, rfl, rfl, Nat.le_refl _, HJ6, HI6, HG6, HBZ6, HB6, H6⟩
      case round =>
        clear HJ6 HI6 HG6 HBZ6 HB6 H6 w6
        obtain ⟨j, y, z, rfl, hz, hjk, HJy, HI, HG, HZ, HB, H2⟩ := hrel
        rcases j with _ | j
        · obtain rfl : z = -1 := by simpa using hz
          clear hz
          rw [List.drop_zero, HJ.out] at HJy
          have b3 := HI.out
          have b4 := HZ.out
          go_wp2_with (first
            | ((with_reducible refine wpList_load_bk (t := 34) q _ (y.l.map bv) _ b3 (by kernel_rfl) Try.underlying34 rfl (idSize _) ?_))
            | ((with_reducible refine wpList_store_bk (t := 34) w.heap.size 34 idZ (y.l.map bv) b4 (by kernel_rfl) (by kernel_rfl) (idSize _) (idLen _) (idOne _) ?_); intro w5 h5 g5 z5))
          go_frame
          refine bodyPost_ret (results_id rfl _ _ w.heap.size y rfl h5) rfl ⟨?_, gb_trans_new HG.out g5 (Nat.le_refl _)⟩
          rw [HJy.out]
        · obtain rfl : z = (j : Int) := by omega
          obtain ⟨t2, ht2⟩ : ∃ t2, ts[j]? = some t2 := ⟨_, List.getElem?_eq_getElem (by have := HM.out; omega)⟩
          have hrt := range_id H2.out ht2
          have HT2 := Go.Lib.hid ht2
          have hcT := HB.out.cellAt (i := 1) rfl
          have hbx := HI.out
          have hjm : (0 : Int) ≤ (j : Int) ∧ (j : Int) < (k : Int) + 1 := by omega
          clear ht2 hz
          go_wp2_with fail
          refine wp_region_specs 9 [33, 34, 35, 36, 37, 38, 39, 40, 41] (by kernel_rfl) (by kernel_rfl) (rtAφ r b2 o2 j (k + 1) c2 t2 y) (rtAφ_gr r b2 o2 j (k + 1) c2 t2 y) ?step ?fin
          case step =>
            intro i_ o_ ho hi_ u w' hg hd
            rcases (by omega : i_ = 0 ∨ i_ = 1 ∨ i_ = 2 ∨ i_ = 3 ∨ i_ = 4 ∨ i_ = 5 ∨ i_ = 6 ∨ i_ = 7 ∨ i_ = 8) with rfl | rfl | rfl | rfl | rfl | rfl | rfl | rfl | rfl <;> obtain rfl := Option.some.inj ho <;>
              simp (decide := true) only [fillAct, List.mapIdx_cons, List.mapIdx_nil, Nat.reduceAdd, if_true, if_false, List.getD_cons_zero, List.getD_cons_succ]
            · clear hd ho
              go_wp2_with fail
              exact ⟨rfl, gb_refl _ _, rfl⟩
            · have h0 : u 33 = .pointer (some ⟨r, 0, none⟩) := hd 0 (by kernel_rfl)
              clear hd ho
              rw [h0]
              go_wp2_with fail
              exact ⟨rfl, gb_refl _ _, rfl⟩
            · have h1 : u 34 = .pointer (some ⟨r, 0, none⟩) := hd 1 (by kernel_rfl)
              clear hd ho
              rw [h1]
              go_wp2_with fail
              exact ⟨rfl, gb_refl _ _, rfl⟩
            · have h2 : u 35 = .pointer (some ⟨r, 1, none⟩) := hd 2 (by kernel_rfl)
              clear hd ho
              rw [h2]
              have c1 := cell_grown (row := none) hg hcT (by simp)
              go_wp2_with fail
              exact ⟨rfl, gb_refl _ _, rfl⟩
            · clear hd ho
              go_wp2_with fail
              exact ⟨rfl, gb_refl _ _, rfl⟩
            · have h3 : u 36 = .slice (some ⟨b2, o2, none⟩) (k + 1) c2 := hd 3 (by kernel_rfl)
              have h4 : u 37 = .int .i64 (j : Int) := hd 4 (by kernel_rfl)
              clear hd ho
              rw [h3, h4]
              go_wp2_with fail
              exact ⟨rfl, gb_refl _ _, rfl⟩
            · have h5 : u 38 = .pointer (some ⟨b2, o2 + j * 32, none⟩) := hd 5 (by kernel_rfl)
              clear hd ho
              rw [h5]
              have r1 := rangeAt_grown hrt hg (by simp)
              go_wp2_with ((with_reducible refine wpList_load_range (t := 34) b2 (o2 + j * 32) (t2.l.map bv) _ r1 (by kernel_rfl) Try.underlying34 rfl (idSize _) ?_))
              exact ⟨rfl, gb_refl _ _, rfl⟩
            · clear hd ho
              have b1 := hbx.grown hg (by simp)
              go_wp2_with ((with_reducible refine wpList_load_bk (t := 34) q _ (y.l.map bv) _ b1 (by kernel_rfl) Try.underlying34 rfl (idSize _) ?_))
              exact ⟨rfl, gb_refl _ _, rfl⟩
            · have h6 : u 39 = idv t2 := hd 6 (by kernel_rfl)
              have h7 : u 40 = idv y := hd 7 (by kernel_rfl)
              clear hd ho
              rw [h6, h7]
              go_wp2_with (go_at_call 55; ((with_reducible refine (node_any t2 y _).mono ?_); rintro e w3 ⟨rfl, g3⟩))
              exact ⟨rfl, g3, rfl⟩

          case fin =>
            intro u w' hg hφ
            have h9 : u 41 = idv (nd t2 y) := hφ 8 (by omega)
            have h9' : u 41 = .agg ((nd t2 y).l.map bv).toArray := h9
            simp (decide := true) only [fillAct, List.mapIdx_cons, List.mapIdx_nil, Nat.reduceAdd, if_true, if_false, List.drop_succ_cons, List.drop_zero]
            rw [h9']
            have bx1 := hbx.grown hg (by simp)
            have hndl : (y.l.map bv).length = ((nd t2 y).l.map bv).length := by rw [List.length_map, List.length_map, y.h, (nd t2 y).h]
            clear hφ hcT
            go_wp2_with ((with_reducible refine wpList_store_bk (t := 34) q 34 (y.l.map bv) ((nd t2 y).l.map bv) bx1 (by kernel_rfl) (by kernel_rfl) (idSize _) hndl (idOne _) ?_); intro w6 h6 g6 z6)
            go_roundw
            case rel =>
              refine ⟨j, nd t2 y, (j : Int) - 1, rfl, rfl, by omega, Go.Lib.hid ?_, Go.Lib.hid h6, Go.Lib.hid (gb_trans_new (gb_trans HG.out hg) g6 hwq), Go.Lib.hid ((HZ.out.grown hg (by simp)).grown g6 (fun e => hqw (Option.some.inj e).symm)),
                Go.Lib.hid ((HB.out.grown hg (by simp)).grown g6 (fun e => hqr (Option.some.inj e).symm)), Go.Lib.hid (rangeAt_grown (rangeAt_grown H2.out hg (by simp)) g6 (fun e => hqb (Option.some.inj e)))⟩
              rw [joined_last ts t2 j HT2.out (by have := HM.out; omega), HJy.out]
            case measure => simp [intOf]

theorem treeRoot_any (v : Value) (xs : List Sc.Id) (NB : Nat → Prop) (w : World) (hv : RdI NB w v xs) (hNB : ∀ b, NB b → b < w.heap.size) (hsz : xs.length ≤ 1099511627776) :
    Calls Try.prog 25 #[v] w fun e w' => e = .returned (idv (root nd e0 xs)) ∧ w.grownBy w' none := by
  go_enter Try.func25, Try.ntmps25
  have bz := Bk.new w 34 idZ
  have gz := gb_alloc (gb_refl w none) (.cells idZ.toArray 34)
  have hv1 : RdI NB (w.alloc (.cells idZ.toArray 34)) v xs := Rd.alloc hv _
  have hN1 : ∀ b, NB b → b < (w.alloc (.cells idZ.toArray 34)).heap.size := fun b hb => by have := hNB b hb; rw [World.size_alloc]; omega
  clear hv
  go_wp2_with (first
    | ((with_reducible refine wpList_alloc_row (E := 34) idZ infoId ?_))
    | (go_at_call 50; ((with_reducible refine (treeOf_any v xs NB _ hv1 hN1 hsz).mono ?_); rintro e w2 ⟨rfl, g2, tv, hR2⟩; rw [World.size_alloc] at hR2))
    | (go_at_call 51; ((with_reducible refine (rootM_any _ _ tv xs _ hR2 hsz).mono ?_); rintro e w3 ⟨rfl, g3⟩; have b3 := (bz.grown g2 (by simp)).grown g3 (by simp)))
    | ((with_reducible refine wpList_store_bk (t := 34) w.heap.size 34 idZ ((root nd e0 xs).l.map bv) b3 (by kernel_rfl) (by kernel_rfl) (idSize _) (idLen _) (idOne _) ?_); intro w5 h5 g5 z5))
  go_frame
  exact bodyPost_ret (results_id rfl _ _ w.heap.size (root nd e0 xs) rfl h5) rfl ⟨rfl, gb_trans_new (gb_trans (gb_trans gz g2) g3) g5 (Nat.le_refl _)⟩
end Go.Proofs.Ytajgklomcapboaa
