import Derived.Test.YtajgklomcapboaaCkCon
import Derived.Test.YtajgklomcapboaaRefTree
import Derived.Laws.ResultCell
/- scrivenerref06.both. -/
namespace Sc
open Go Go.RowKit
/-- The id of noughts. -/
def zid : Sc.Id := ⟨List.replicate 32 0, List.length_replicate⟩
theorem gb_ch {w W w' : World} {S : Nat → Prop} (g : w.grownBy W none) (h : Ch S W w') (hs : ∀ r, S r → w.heap.size ≤ r) : w.grownBy w' none :=
  ((Ch.of (S := fun _ => False) g (fun r e => by cases e)).trans h (fun r hr => .inr (hs r hr))).toGb (fun _ h => h.elim)
end Sc
namespace Go.Proofs.Ytajgklomcapboaa
open Go.RowKit Go.Shelf Sc
theorem zid_l : zid.l.map bv = idZ := rfl
theorem results_ids_tmp {f : Func} {s t u : Nat} (hf : f.results = #[.cell s 34, .cell t 34, .tmp u]) (tmps : Array Value) (w : World) (b c : Nat) (x y : Sc.Id) (hs : tmps.getD s undef = .pointer (some ⟨b, 0, none⟩)) (ht : tmps.getD t undef = .pointer (some ⟨c, 0, none⟩)) (hb : Bk w b 34 (x.l.map bv)) (hc : Bk w c 34 (y.l.map bv)) :
    (results f tmps).run Try.prog w = .ok (.tuple #[idv x, idv y, tmps.getD u undef]) w := by
  have hs' : tmps[s]?.getD undef = .pointer (some ⟨b, 0, none⟩) := by simpa using hs
  have ht' : tmps[t]?.getD undef = .pointer (some ⟨c, 0, none⟩) := by simpa using ht
  have hl := run_loadVar_row (P := Try.prog) w b 34 34 (x.l.map bv).toArray (0, 0) _ hb Try.underlying34 rfl (by simpa using idSize x)
  have hm := run_loadVar_row (P := Try.prog) w c 34 34 (y.l.map bv).toArray (0, 0) _ hc Try.underlying34 rfl (by simpa using idSize y)
  simp [results, hf, hs', ht', asAddr, hl, hm, idv]
def boR (ia ib qa qb : Nat) (ya yb : Sc.Id) (i : Nat) (a b : World) : Prop :=
  bif i == ia then a.grownBy b (some qa) ∧ Bk b qa 34 (ya.l.map bv) else bif i == ib then a.grownBy b (some qb) ∧ Bk b qb 34 (yb.l.map bv) else Gr a b
def boφ (ia ib qa qb : Nat) (ya yb : Sc.Id) (val : List Value) (i : Nat) (v : Value) (w : World) : Prop :=
  bif i == ia then Bk w qa 34 (ya.l.map bv) else bif i == ib then Bk w qb 34 (yb.l.map bv) else v = val.getD i undef
theorem bo_drew (qa qb : Nat) (w : World) : cd5Ra qa qb w { w with drawn := w.drawn + 1 } := cd5R_Ra qa qb zid 0 _ _ (gb_drew (gb_refl _ none))
theorem boR_Ra (ia ib qa qb : Nat) (ya yb : Sc.Id) : ∀ i a b, boR ia ib qa qb ya yb i a b → cd5Ra qa qb a b := fun i a b h => by
  unfold boR at h
  cases h1 : i == ia with
  | true =>
    rw [h1] at h
    refine ⟨Ch.of h.1 (fun r e => .inl (Option.some.inj e).symm), fun q hq ⟨l, hl⟩ => ?_⟩
    by_cases e : q = qa
    · subst e; exact ⟨ya, h.2⟩
    · exact ⟨l, hl.grown h.1 (fun h => e (Option.some.inj h))⟩
  | false =>
    rw [h1] at h
    cases h2 : i == ib with
    | true =>
      rw [h2] at h
      refine ⟨Ch.of h.1 (fun r e => .inr (Option.some.inj e).symm), fun q hq ⟨l, hl⟩ => ?_⟩
      by_cases e : q = qb
      · subst e; exact ⟨yb, h.2⟩
      · exact ⟨l, hl.grown h.1 (fun h => e (Option.some.inj h))⟩
    | false =>
      rw [h2] at h
      exact ⟨Ch.of (show a.grownBy b none from h) (fun r e => by cases e), fun q hq ⟨l, hl⟩ => ⟨l, hl.grown (show a.grownBy b none from h) (by simp)⟩⟩
theorem bo_st (ia ib qa qb : Nat) (ya yb : Sc.Id) (val : List Value) (hne : qa ≠ qb) : ∀ j i v w w', j ≠ i → boφ ia ib qa qb ya yb val j v w → boR ia ib qa qb ya yb i w w' → boφ ia ib qa qb ya yb val j v w' := by
  intro j i v w w' hji h hR
  unfold boφ at h ⊢
  unfold boR at hR
  cases h1 : j == ia with
  | true =>
    rw [h1] at h
    have : (i == ia) = false := by
      have := beq_iff_eq.1 h1; subst this
      exact beq_false_of_ne (fun e => hji e.symm)
    rw [this] at hR
    cases h2 : i == ib with
    | true => rw [h2] at hR; exact Bk.grown h hR.1 (fun h => hne (Option.some.inj h))
    | false => rw [h2] at hR; exact Bk.grown h (show w.grownBy w' none from hR) (by simp)
  | false =>
    rw [h1] at h
    cases h2 : j == ib with
    | true =>
      rw [h2] at h
      cases h3 : i == ia with
      | true => rw [h3] at hR; exact Bk.grown h hR.1 (fun h => hne (Option.some.inj h).symm)
      | false =>
        have : (i == ib) = false := by
          have := beq_iff_eq.1 h2; subst this
          exact beq_false_of_ne (fun e => hji e.symm)
        rw [h3, this] at hR
        exact Bk.grown h (show w.grownBy w' none from hR) (by simp)
    | false => rw [h2] at h; exact h
theorem gb_ra {w W w' : World} {qa qb : Nat} (g : w.grownBy W none) (h : cd5Ra qa qb W w') (ha : w.heap.size ≤ qa) (hb : w.heap.size ≤ qb) : w.grownBy w' none :=
  gb_ch g h.1 (fun r hr => by rcases hr with rfl | rfl <;> assumption)

set_option maxHeartbeats 4000000 in
set_option maxRecDepth 100000 in
theorem refBoth_lt (one : Sc.Id) : ∀ (f : Nat) (m n : Nat) (v : Value) (path : List Sc.Id) (wh : Bool) (NB : Nat → Prop) (w : World), path.length < f → RdI NB w v path → (∀ b, NB b → b < w.heap.size) → 1 ≤ m → m ≤ n → n ≤ 1099511627776 →
    Calls Try.prog 59 #[.int .i64 (m : Int), .int .i64 (n : Int), v, .agg (one.l.map bv).toArray, .bool wh] w fun e w' => (∃ a b, e = .returned (.tuple #[idv a, idv b, .bool (links nd one wh m n path).isSome]) ∧ ∀ z, links nd one wh m n path = some z → z = (a, b)) ∧ w.grownBy w' none := by
  intro f
  induction f with
  | zero => intro m n v path wh NB w h; omega
  | succ f ih =>
    intro m n v path wh NB w hf hv hNB hm1 hmn hn
    go_enter Try.func59, Try.ntmps59
    obtain ⟨A, c, rfl, hc⟩ := Rd.form hv
    have hml := Rd.le hv
    have hm2 : path.length ≤ 9223372036854775807 := hml
    obtain ⟨W, hW⟩ : ∃ W, W = ((w.alloc (.cells (one.l.map bv).toArray 34)).alloc (.cells idZ.toArray 34)).alloc (.cells idZ.toArray 34) := ⟨_, rfl⟩
    have bx : Bk W w.heap.size 34 (one.l.map bv) := by rw [hW]; exact ((Bk.new w 34 (one.l.map bv)).alloc _).alloc _
    have ba : Bk W (w.heap.size + 1) 34 (zid.l.map bv) := by
      have := (Bk.new (w.alloc (.cells (one.l.map bv).toArray 34)) 34 idZ).alloc (.cells idZ.toArray 34)
      rw [World.size_alloc] at this; rw [hW, zid_l]; exact this
    have bb : Bk W (w.heap.size + 2) 34 (zid.l.map bv) := by
      have := Bk.new ((w.alloc (.cells (one.l.map bv).toArray 34)).alloc (.cells idZ.toArray 34)) 34 idZ
      rw [World.size_alloc, World.size_alloc] at this; rw [hW, zid_l]; exact this
    have gW : w.grownBy W none := by rw [hW]; exact gb_alloc (gb_alloc (gb_alloc (gb_refl w none) _) _) _
    have zW : W.heap.size = w.heap.size + 3 := by rw [hW, World.size_alloc, World.size_alloc, World.size_alloc]
    have HV := Go.Lib.hid (RI.of hv hNB)
    have HW := Go.Lib.hid hW
    have HI := Go.Lib.hid ih
    have HQA := Go.Lib.hid ba
    have HQB := Go.Lib.hid bb
    clear hW ih hv hNB
    obtain ⟨p, hp⟩ : ∃ p, p = path.length := ⟨_, rfl⟩
    rw [← hp] at hc hml hm2 HV hf ⊢
    have HP := Go.Lib.hid hp
    have hpI : (0 : Int) ≤ (p : Int) ∧ (p : Int) ≤ 9223372036854775807 := by omega
    have hnI : (1 : Int) ≤ (m : Int) ∧ (m : Int) ≤ (n : Int) ∧ (n : Int) ≤ 1099511627776 := by omega
    obtain ⟨bX, hbX⟩ : ∃ bX, bX = w.heap.size := ⟨_, rfl⟩
    obtain ⟨qa, hqa⟩ : ∃ qa, qa = w.heap.size + 1 := ⟨_, rfl⟩
    obtain ⟨qb, hqb⟩ : ∃ qb, qb = w.heap.size + 1 + 1 := ⟨_, rfl⟩
    have hab : qa ≠ qb := by omega
    have hqa0 : w.heap.size ≤ qa := by omega
    have hqb0 : w.heap.size ≤ qb := by omega
    have hxa : ¬ (bX = qa ∨ bX = qb) := by omega
    have gW6 := gW
    clear hp
    by_cases h1 : m = n
    · subst h1
      cases wh with
      | true =>
        obtain ⟨ok, hok⟩ : ∃ ok, ok = (links nd one true m m path).isSome := ⟨_, rfl⟩
        have hlead := links_end_whole nd one m path
        have hok2 : ((p : Int) == 0) = ok := by
          rw [hok, hlead]
          by_cases h0 : path = []
          · subst h0; rw [HP.out]; rfl
          · rw [if_neg h0]
            have : p ≠ 0 := fun h => h0 (List.eq_nil_of_length_eq_zero (by rw [← HP.out]; exact h))
            simp; omega
        have hz : ∀ z, links nd one true m m path = some z → z = (one, one) := fun z h => by
          rw [hlead] at h
          split at h
          · exact (Option.some.inj h).symm
          · cases h
        rw [← hok]
        have HZ := Go.Lib.hid hz
        have HX := Go.Lib.hid hbX
        have HA1 := Go.Lib.hid hqa
        have HB1 := Go.Lib.hid hqb
        clear hok hlead hz hbX hqa hqb
        go_upto_region 3 with (first
          | ((with_reducible refine wpList_alloc_row (E := 34) idZ infoId ?_); rw [← HW.out])
          | ((with_reducible refine wpList_alloc_row (E := 34) idZ infoId ?_)))
        rw [← HX.out] at bx
        rw [← HA1.out] at ba
        rw [show w.heap.size + 2 = w.heap.size + 1 + 1 from rfl, ← HB1.out] at bb
        rw [← HB1.out, ← HA1.out, ← HX.out]
        replace HQA := Go.Lib.hid ba
        replace HQB := Go.Lib.hid bb
        refine wp_region_specsQ (Ra := cd5Ra qa qb) (R := boR 5 6 qa qb one one) (cd5Ra_trans qa qb) (boR_Ra 5 6 qa qb one one) 7 [26, 27, 28, 29, 30, 26, 27] (by kernel_rfl) (bo_drew qa qb _) (fun i => i == 5 || i == 6) (by kernel_rfl) (fun _ => false) (boφ 5 6 qa qb one one [idv one, idv one, .slice A p c, .int .i64 (p : Int), .bool ok, undef, undef]) (fun _ _ _ h => by cases h) (bo_st 5 6 qa qb one one [idv one, idv one, .slice A p c, .int .i64 (p : Int), .bool ok, undef, undef] hab) ?step ?fin
        case step =>
          intro i_ o_ ho hi_ u w' hg hd
          rcases (by omega : i_ = 0 ∨ i_ = 1 ∨ i_ = 2 ∨ i_ = 3 ∨ i_ = 4 ∨ i_ = 5 ∨ i_ = 6) with rfl | rfl | rfl | rfl | rfl | rfl | rfl <;> obtain rfl := Option.some.inj ho <;>
            simp (decide := true) only [fillAct, List.mapIdx_cons, List.mapIdx_nil, Nat.reduceAdd, if_true, if_false, List.getD_cons_zero, List.getD_cons_succ]
          · clear hd ho
            have b1 := (hg.1).bk bx hxa
            go_wp2_with ((with_reducible refine wpList_load_bk (t := 34) bX _ (one.l.map bv) _ b1 (by kernel_rfl) Try.underlying34 rfl (idSize _) ?_))
            exact ⟨rfl, gb_refl _ _, rfl, fun h => by cases h⟩
          · clear hd ho
            have b1 := (hg.1).bk bx hxa
            go_wp2_with ((with_reducible refine wpList_load_bk (t := 34) bX _ (one.l.map bv) _ b1 (by kernel_rfl) Try.underlying34 rfl (idSize _) ?_))
            exact ⟨rfl, gb_refl _ _, rfl, fun h => by cases h⟩
          · clear hd ho
            go_wp2_with fail
            exact ⟨rfl, gb_refl _ _, rfl, fun h => by cases h⟩
          · have h2 : u 28 = .slice A p c := hd 2 (by kernel_rfl)
            clear hd ho
            rw [h2]
            go_wp2_with fail
            exact ⟨rfl, gb_refl _ _, rfl, fun h => by cases h⟩
          · have h3 : u 29 = .int .i64 (p : Int) := hd 3 (by kernel_rfl)
            clear hd ho
            rw [h3]
            go_wp2_with fail
            exact ⟨rfl, gb_refl _ _, rfl, fun h => by cases h⟩
          · have h0 : u 26 = idv one := hd 0 (by kernel_rfl)
            clear hd ho
            rw [h0]
            obtain ⟨lo, hqold⟩ := hg.2 qa (.inl rfl) ⟨_, HQA.out⟩
            have hol : (lo.l.map bv).length = (one.l.map bv).length := by rw [List.length_map, List.length_map, lo.h, Id.h]
            go_wp2_with ((with_reducible refine wpList_store_bk (t := 34) qa 34 (lo.l.map bv) (one.l.map bv) hqold (by kernel_rfl) (by kernel_rfl) (idSize _) hol (idOne _) ?_); intro w5 h5 g5 z5)
            exact ⟨rfl, ⟨g5, h5⟩, h5, fun h => by cases h⟩
          · have h1 : u 27 = idv one := hd 1 (by kernel_rfl)
            clear hd ho
            rw [h1]
            obtain ⟨lo, hqold⟩ := hg.2 qb (.inr rfl) ⟨_, HQB.out⟩
            have hol : (lo.l.map bv).length = (one.l.map bv).length := by rw [List.length_map, List.length_map, lo.h, Id.h]
            go_wp2_with ((with_reducible refine wpList_store_bk (t := 34) qb 34 (lo.l.map bv) (one.l.map bv) hqold (by kernel_rfl) (by kernel_rfl) (idSize _) hol (idOne _) ?_); intro w5 h5 g5 z5)
            exact ⟨rfl, ⟨g5, h5⟩, h5, fun h => by cases h⟩
        case fin =>
          intro u w5 hg hφ _
          have hA : Bk w5 qa 34 (one.l.map bv) := hφ 5 (by omega)
          have hB : Bk w5 qb 34 (one.l.map bv) := hφ 6 (by omega)
          have hO : u 30 = .bool ok := hφ 4 (by omega)
          simp (decide := true) only [fillAct, List.mapIdx_cons, List.mapIdx_nil, Nat.reduceAdd, if_true, if_false, List.drop_succ_cons, List.drop_zero]
          rw [hO]
          clear hφ
          go_wp2_with fail
          try go_frame
          exact bodyPost_ret (results_ids_tmp rfl _ _ qa qb (one) (one) rfl rfl hA hB) rfl ⟨⟨one, one, rfl, HZ.out⟩, gb_ra gW6 hg hqa0 hqb0⟩
      | false =>
        have hlead := links_end_not nd one m path
        by_cases h0 : p = 1
        · subst h0
          obtain ⟨x, hx⟩ : ∃ x, path = [x] := List.length_eq_one_iff.1 HP.out.symm
          have hl : links nd one false m m path = some (x, x) := by rw [hlead, hx]
          obtain ⟨bp, op, cp, hvp, hbpl, hnc, -, hcell⟩ := (ri_rd HV.out HP.out).at (by omega)
          have hbpl2 : bp < w.heap.size := hbpl
          injection hvp with hA _ hcp
          subst hA hcp
          have hrt0 := range_id (i := 0) (x := x) hcell (by rw [hx]; rfl)
          have hrt : W.rangeAt bp op (x.l.map bv) := rangeAt_grown (by simpa using hrt0) gW (by simp)
          have hbpS : ¬ (bp = qa ∨ bp = qb) := by omega
          rw [hl]
          have HX := Go.Lib.hid hbX
          have HA1 := Go.Lib.hid hqa
          have HB1 := Go.Lib.hid hqb
          clear hlead hbX hqa hqb hl hcell hrt0
          go_upto_region 6 with (first
            | ((with_reducible refine wpList_alloc_row (E := 34) idZ infoId ?_); rw [← HW.out])
            | ((with_reducible refine wpList_alloc_row (E := 34) idZ infoId ?_)))
          rw [← HX.out] at bx
          rw [← HA1.out] at ba
          rw [show w.heap.size + 2 = w.heap.size + 1 + 1 from rfl, ← HB1.out] at bb
          rw [← HB1.out, ← HA1.out, ← HX.out]
          replace HQA := Go.Lib.hid ba
          replace HQB := Go.Lib.hid bb
          refine wp_region_specsQ (Ra := cd5Ra qa qb) (R := boR 6 7 qa qb x x) (cd5Ra_trans qa qb) (boR_Ra 6 7 qa qb x x) 8 [36, 37, 38, 39, 40, 41, 38, 41] (by kernel_rfl) (bo_drew qa qb _) (fun i => i == 6 || i == 7) (by kernel_rfl) (fun _ => false) (boφ 6 7 qa qb x x [.slice (some ⟨bp, op, none⟩) 1 c, .pointer (some ⟨bp, op, none⟩), idv x, .slice (some ⟨bp, op, none⟩) 1 c, .pointer (some ⟨bp, op, none⟩), idv x, undef, undef]) (fun _ _ _ h => by cases h) (bo_st 6 7 qa qb x x [.slice (some ⟨bp, op, none⟩) 1 c, .pointer (some ⟨bp, op, none⟩), idv x, .slice (some ⟨bp, op, none⟩) 1 c, .pointer (some ⟨bp, op, none⟩), idv x, undef, undef] hab) ?step ?fin
          case step =>
            intro i_ o_ ho hi_ u w' hg hd
            rcases (by omega : i_ = 0 ∨ i_ = 1 ∨ i_ = 2 ∨ i_ = 3 ∨ i_ = 4 ∨ i_ = 5 ∨ i_ = 6 ∨ i_ = 7) with rfl | rfl | rfl | rfl | rfl | rfl | rfl | rfl <;> obtain rfl := Option.some.inj ho <;>
              simp (decide := true) only [fillAct, List.mapIdx_cons, List.mapIdx_nil, Nat.reduceAdd, if_true, if_false, List.getD_cons_zero, List.getD_cons_succ]
            · clear hd ho
              go_wp2_with fail
              exact ⟨rfl, gb_refl _ _, rfl, fun h => by cases h⟩
            · have h0 : u 36 = .slice (some ⟨bp, op, none⟩) 1 c := hd 0 (by kernel_rfl)
              clear hd ho
              rw [h0]
              go_wp2_with fail
              exact ⟨rfl, gb_refl _ _, rfl, fun h => by cases h⟩
            · have h1 : u 37 = .pointer (some ⟨bp, op, none⟩) := hd 1 (by kernel_rfl)
              clear hd ho
              rw [h1]
              have r1 := (hg.1).range hrt hbpS
              go_wp2_with ((with_reducible refine wpList_load_range (t := 34) bp op (x.l.map bv) _ r1 (by kernel_rfl) Try.underlying34 rfl (idSize _) ?_))
              exact ⟨rfl, gb_refl _ _, rfl, fun h => by cases h⟩
            · clear hd ho
              go_wp2_with fail
              exact ⟨rfl, gb_refl _ _, rfl, fun h => by cases h⟩
            · have h3 : u 39 = .slice (some ⟨bp, op, none⟩) 1 c := hd 3 (by kernel_rfl)
              clear hd ho
              rw [h3]
              go_wp2_with fail
              exact ⟨rfl, gb_refl _ _, rfl, fun h => by cases h⟩
            · have h4 : u 40 = .pointer (some ⟨bp, op, none⟩) := hd 4 (by kernel_rfl)
              clear hd ho
              rw [h4]
              have r1 := (hg.1).range hrt hbpS
              go_wp2_with ((with_reducible refine wpList_load_range (t := 34) bp op (x.l.map bv) _ r1 (by kernel_rfl) Try.underlying34 rfl (idSize _) ?_))
              exact ⟨rfl, gb_refl _ _, rfl, fun h => by cases h⟩
            · have h2 : u 38 = idv x := hd 2 (by kernel_rfl)
              clear hd ho
              rw [h2]
              obtain ⟨lo, hqold⟩ := hg.2 qa (.inl rfl) ⟨_, HQA.out⟩
              have hol : (lo.l.map bv).length = (x.l.map bv).length := by rw [List.length_map, List.length_map, lo.h, Id.h]
              go_wp2_with ((with_reducible refine wpList_store_bk (t := 34) qa 34 (lo.l.map bv) (x.l.map bv) hqold (by kernel_rfl) (by kernel_rfl) (idSize _) hol (idOne _) ?_); intro w5 h5 g5 z5)
              exact ⟨rfl, ⟨g5, h5⟩, h5, fun h => by cases h⟩
            · have h5 : u 41 = idv x := hd 5 (by kernel_rfl)
              clear hd ho
              rw [h5]
              obtain ⟨lo, hqold⟩ := hg.2 qb (.inr rfl) ⟨_, HQB.out⟩
              have hol : (lo.l.map bv).length = (x.l.map bv).length := by rw [List.length_map, List.length_map, lo.h, Id.h]
              go_wp2_with ((with_reducible refine wpList_store_bk (t := 34) qb 34 (lo.l.map bv) (x.l.map bv) hqold (by kernel_rfl) (by kernel_rfl) (idSize _) hol (idOne _) ?_); intro w5 h5 g5 z5)
              exact ⟨rfl, ⟨g5, h5⟩, h5, fun h => by cases h⟩
          case fin =>
            intro u w5 hg hφ _
            have hA : Bk w5 qa 34 (x.l.map bv) := hφ 6 (by omega)
            have hB : Bk w5 qb 34 (x.l.map bv) := hφ 7 (by omega)
            simp (decide := true) only [fillAct, List.mapIdx_cons, List.mapIdx_nil, Nat.reduceAdd, if_true, if_false, List.drop_succ_cons, List.drop_zero]
            clear hφ
            go_wp2_with fail
            try go_frame
            exact bodyPost_ret (results_ids_tmp rfl _ _ qa qb (x) (x) rfl rfl hA hB) rfl ⟨rfl, gb_ra gW6 hg hqa0 hqb0⟩
        · have hq3 : ((p : Int) != 1) = true := by simp; omega
          have hl : links nd one false m m path = none := by
            rw [hlead]
            have := HP.out
            match path, this with
            | [], _ => rfl
            | [x], h => exact absurd h h0
            | _ :: _ :: _, _ => rfl
          rw [hl]
          have HX := Go.Lib.hid hbX
          have HA1 := Go.Lib.hid hqa
          have HB1 := Go.Lib.hid hqb
          clear hlead hbX hqa hqb hl
          go_upto_region 5 with (first
            | ((with_reducible refine wpList_alloc_row (E := 34) idZ infoId ?_); rw [← HW.out])
            | ((with_reducible refine wpList_alloc_row (E := 34) idZ infoId ?_)))
          rw [← HX.out] at bx
          rw [← HA1.out] at ba
          rw [show w.heap.size + 2 = w.heap.size + 1 + 1 from rfl, ← HB1.out] at bb
          rw [← HB1.out, ← HA1.out, ← HX.out]
          replace HQA := Go.Lib.hid ba
          replace HQB := Go.Lib.hid bb
          refine wp_region_specsQ (Ra := cd5Ra qa qb) (R := boR 2 3 qa qb one one) (cd5Ra_trans qa qb) (boR_Ra 2 3 qa qb one one) 4 [34, 35, 34, 35] (by kernel_rfl) (bo_drew qa qb _) (fun i => i == 2 || i == 3) (by kernel_rfl) (fun _ => false) (boφ 2 3 qa qb one one [idv one, idv one, undef, undef]) (fun _ _ _ h => by cases h) (bo_st 2 3 qa qb one one [idv one, idv one, undef, undef] hab) ?step ?fin
          case step =>
            intro i_ o_ ho hi_ u w' hg hd
            rcases (by omega : i_ = 0 ∨ i_ = 1 ∨ i_ = 2 ∨ i_ = 3) with rfl | rfl | rfl | rfl <;> obtain rfl := Option.some.inj ho <;>
              simp (decide := true) only [fillAct, List.mapIdx_cons, List.mapIdx_nil, Nat.reduceAdd, if_true, if_false, List.getD_cons_zero, List.getD_cons_succ]
            · clear hd ho
              have b1 := (hg.1).bk bx hxa
              go_wp2_with ((with_reducible refine wpList_load_bk (t := 34) bX _ (one.l.map bv) _ b1 (by kernel_rfl) Try.underlying34 rfl (idSize _) ?_))
              exact ⟨rfl, gb_refl _ _, rfl, fun h => by cases h⟩
            · clear hd ho
              have b1 := (hg.1).bk bx hxa
              go_wp2_with ((with_reducible refine wpList_load_bk (t := 34) bX _ (one.l.map bv) _ b1 (by kernel_rfl) Try.underlying34 rfl (idSize _) ?_))
              exact ⟨rfl, gb_refl _ _, rfl, fun h => by cases h⟩
            · have h0 : u 34 = idv one := hd 0 (by kernel_rfl)
              clear hd ho
              rw [h0]
              obtain ⟨lo, hqold⟩ := hg.2 qa (.inl rfl) ⟨_, HQA.out⟩
              have hol : (lo.l.map bv).length = (one.l.map bv).length := by rw [List.length_map, List.length_map, lo.h, Id.h]
              go_wp2_with ((with_reducible refine wpList_store_bk (t := 34) qa 34 (lo.l.map bv) (one.l.map bv) hqold (by kernel_rfl) (by kernel_rfl) (idSize _) hol (idOne _) ?_); intro w5 h5 g5 z5)
              exact ⟨rfl, ⟨g5, h5⟩, h5, fun h => by cases h⟩
            · have h1 : u 35 = idv one := hd 1 (by kernel_rfl)
              clear hd ho
              rw [h1]
              obtain ⟨lo, hqold⟩ := hg.2 qb (.inr rfl) ⟨_, HQB.out⟩
              have hol : (lo.l.map bv).length = (one.l.map bv).length := by rw [List.length_map, List.length_map, lo.h, Id.h]
              go_wp2_with ((with_reducible refine wpList_store_bk (t := 34) qb 34 (lo.l.map bv) (one.l.map bv) hqold (by kernel_rfl) (by kernel_rfl) (idSize _) hol (idOne _) ?_); intro w5 h5 g5 z5)
              exact ⟨rfl, ⟨g5, h5⟩, h5, fun h => by cases h⟩
          case fin =>
            intro u w5 hg hφ _
            have hA : Bk w5 qa 34 (one.l.map bv) := hφ 2 (by omega)
            have hB : Bk w5 qb 34 (one.l.map bv) := hφ 3 (by omega)
            simp (decide := true) only [fillAct, List.mapIdx_cons, List.mapIdx_nil, Nat.reduceAdd, if_true, if_false, List.drop_succ_cons, List.drop_zero]
            clear hφ
            go_wp2_with fail
            try go_frame
            exact bodyPost_ret (results_ids_tmp rfl _ _ qa qb (one) (one) rfl rfl hA hB) rfl ⟨⟨one, one, rfl, fun z h => by cases h⟩, gb_ra gW6 hg hqa0 hqb0⟩
    · have hq1 : ((m : Int) == (n : Int)) = false := by simp; omega
      have hmn2 : m < n := by omega
      by_cases h0 : p = 0
      · subst h0
        have hpn : path = [] := List.eq_nil_of_length_eq_zero HP.out.symm
        have hl : links nd one wh m n path = none := by rw [hpn]; exact links_nil nd one wh hmn2 (by omega)
        rw [hl]
        have HX := Go.Lib.hid hbX
        have HA1 := Go.Lib.hid hqa
        have HB1 := Go.Lib.hid hqb
        clear hbX hqa hqb hl
        go_upto_region 8 with (first
          | ((with_reducible refine wpList_alloc_row (E := 34) idZ infoId ?_); rw [← HW.out])
          | ((with_reducible refine wpList_alloc_row (E := 34) idZ infoId ?_)))
        rw [← HX.out] at bx
        rw [← HA1.out] at ba
        rw [show w.heap.size + 2 = w.heap.size + 1 + 1 from rfl, ← HB1.out] at bb
        rw [← HB1.out, ← HA1.out, ← HX.out]
        replace HQA := Go.Lib.hid ba
        replace HQB := Go.Lib.hid bb
        refine wp_region_specsQ (Ra := cd5Ra qa qb) (R := boR 2 3 qa qb one one) (cd5Ra_trans qa qb) (boR_Ra 2 3 qa qb one one) 4 [45, 46, 45, 46] (by kernel_rfl) (bo_drew qa qb _) (fun i => i == 2 || i == 3) (by kernel_rfl) (fun _ => false) (boφ 2 3 qa qb one one [idv one, idv one, undef, undef]) (fun _ _ _ h => by cases h) (bo_st 2 3 qa qb one one [idv one, idv one, undef, undef] hab) ?step ?fin
        case step =>
          intro i_ o_ ho hi_ u w' hg hd
          rcases (by omega : i_ = 0 ∨ i_ = 1 ∨ i_ = 2 ∨ i_ = 3) with rfl | rfl | rfl | rfl <;> obtain rfl := Option.some.inj ho <;>
            simp (decide := true) only [fillAct, List.mapIdx_cons, List.mapIdx_nil, Nat.reduceAdd, if_true, if_false, List.getD_cons_zero, List.getD_cons_succ]
          · clear hd ho
            have b1 := (hg.1).bk bx hxa
            go_wp2_with ((with_reducible refine wpList_load_bk (t := 34) bX _ (one.l.map bv) _ b1 (by kernel_rfl) Try.underlying34 rfl (idSize _) ?_))
            exact ⟨rfl, gb_refl _ _, rfl, fun h => by cases h⟩
          · clear hd ho
            have b1 := (hg.1).bk bx hxa
            go_wp2_with ((with_reducible refine wpList_load_bk (t := 34) bX _ (one.l.map bv) _ b1 (by kernel_rfl) Try.underlying34 rfl (idSize _) ?_))
            exact ⟨rfl, gb_refl _ _, rfl, fun h => by cases h⟩
          · have h0 : u 45 = idv one := hd 0 (by kernel_rfl)
            clear hd ho
            rw [h0]
            obtain ⟨lo, hqold⟩ := hg.2 qa (.inl rfl) ⟨_, HQA.out⟩
            have hol : (lo.l.map bv).length = (one.l.map bv).length := by rw [List.length_map, List.length_map, lo.h, Id.h]
            go_wp2_with ((with_reducible refine wpList_store_bk (t := 34) qa 34 (lo.l.map bv) (one.l.map bv) hqold (by kernel_rfl) (by kernel_rfl) (idSize _) hol (idOne _) ?_); intro w5 h5 g5 z5)
            exact ⟨rfl, ⟨g5, h5⟩, h5, fun h => by cases h⟩
          · have h1 : u 46 = idv one := hd 1 (by kernel_rfl)
            clear hd ho
            rw [h1]
            obtain ⟨lo, hqold⟩ := hg.2 qb (.inr rfl) ⟨_, HQB.out⟩
            have hol : (lo.l.map bv).length = (one.l.map bv).length := by rw [List.length_map, List.length_map, lo.h, Id.h]
            go_wp2_with ((with_reducible refine wpList_store_bk (t := 34) qb 34 (lo.l.map bv) (one.l.map bv) hqold (by kernel_rfl) (by kernel_rfl) (idSize _) hol (idOne _) ?_); intro w5 h5 g5 z5)
            exact ⟨rfl, ⟨g5, h5⟩, h5, fun h => by cases h⟩
        case fin =>
          intro u w5 hg hφ _
          have hA : Bk w5 qa 34 (one.l.map bv) := hφ 2 (by omega)
          have hB : Bk w5 qb 34 (one.l.map bv) := hφ 3 (by omega)
          simp (decide := true) only [fillAct, List.mapIdx_cons, List.mapIdx_nil, Nat.reduceAdd, if_true, if_false, List.drop_succ_cons, List.drop_zero]
          clear hφ
          go_wp2_with fail
          try go_frame
          exact bodyPost_ret (results_ids_tmp rfl _ _ qa qb (one) (one) rfl rfl hA hB) rfl ⟨⟨one, one, rfl, fun z h => by cases h⟩, gb_ra gW6 hg hqa0 hqb0⟩
      · have hq2 : ((p : Int) == 0) = false := by simp; omega
        clear hab hqa0 hqb0 hxa gW6 HQA HQB
        obtain ⟨k, hk0⟩ : ∃ k, k = half n := ⟨_, rfl⟩
        have hhalf : ∀ w : World, Calls Try.prog 48 #[.int .i64 (n : Int)] w fun e w' => e = .returned (.int .i64 (k : Int)) ∧ w' = w := fun w => by rw [hk0]; exact refHalf_any n (by omega) (by omega) w
        have hk1 : 1 ≤ k := by rw [hk0]; exact half_pos n
        have hk2 : k < n := by rw [hk0]; exact half_lt (by omega)
        have hkI : (1 : Int) ≤ (k : Int) ∧ (k : Int) < (n : Int) := by omega
        obtain ⟨q, rfl⟩ : ∃ q, p = q + 1 := ⟨p - 1, by omega⟩
        obtain ⟨rest, last, hrl⟩ := split_last path (by rw [← HP.out]; omega)
        have hql : rest.length = q := by have := HP.out; rw [hrl, List.length_append] at this; simp at this; omega
        have hcells : idCells path = idCells rest ++ last.l.map bv := by rw [hrl, idCells_append, idCells_one]
        obtain ⟨bp, op, cp, hvp, -, hnc, -, hcell⟩ := (ri_rd (RI.gr HV.out gW) HP.out).at (by omega)
        injection hvp with hA _ hcp
        subst hA hcp
        have hlast : path[q]? = some last := by rw [hrl, List.getElem?_append_right (by omega), hql, Nat.sub_self]; rfl
        have hrt := range_id hcell hlast
        have hcut : RdI (fun b => b < w.heap.size) w (.slice (some ⟨bp, op, none⟩) q c) rest := by
          have h1 := Rd.takeTo (ri_rd HV.out HP.out) q (by omega)
          rw [hcells, List.take_append_of_le_length (by rw [idCells_length]; omega), List.take_of_length_le (by rw [idCells_length]; omega)] at h1
          unfold RdI; rw [hql]; exact h1
        have hqI : (0 : Int) ≤ (q : Int) ∧ (q : Int) ≤ 9223372036854775807 := by omega
        have hq3 : (((q + 1 : Nat) : Int) - 1) = (q : Int) := by omega
        have hwr : IntKind.i64.wrap (((q + 1 : Nat) : Int) - 1) = (q : Int) := by rw [hq3]; exact IntWalk.i64_in _ (by omega)
        have htake : Hid (((idCells path).drop (0 * 32)).take ((q - 0) * 32) = idCells rest) := Go.Lib.hid (by
          rw [Nat.zero_mul, List.drop_zero, Nat.sub_zero, hcells, List.take_append_of_le_length (by rw [idCells_length]; omega), List.take_of_length_le (by rw [idCells_length]; omega)])
        rcases Nat.lt_or_ge k m with hak | hak
        · have hll := links_hi nd one wh (m := m) (n := n) (by omega) hmn2 (by rw [← hk0]; exact hak) rest last
          rw [← hrl, ← hk0] at hll
          obtain ⟨L1, hL1⟩ : ∃ L1, L1 = links nd one false (m - k) (n - k) rest := ⟨_, rfl⟩
          obtain ⟨ok, hok⟩ : ∃ ok, ok = L1.isSome := ⟨_, rfl⟩
          have hih : ∀ (v9 : Value) (W' : World), RdI (fun b => b < w.heap.size) W' v9 rest → w.heap.size ≤ W'.heap.size → Calls Try.prog 59 #[.int .i64 ((m : Int) - (k : Int)), .int .i64 ((n : Int) - (k : Int)), v9, .agg (one.l.map bv).toArray, .bool false] W' fun e w' => ∃ a b : Sc.Id, e = .returned (.tuple #[.agg (a.l.map bv).toArray, .agg (b.l.map bv).toArray, .bool ok]) ∧ (∀ z, L1 = some z → z = (a, b)) ∧ W'.grownBy w' none := fun v9 W' h9 hs => by
            rw [show ((m : Int) - (k : Int)) = ((m - k : Nat) : Int) from by omega, show ((n : Int) - (k : Int)) = ((n - k : Nat) : Int) from by omega]
            refine (HI.out (m - k) (n - k) v9 rest false _ W' (by omega) h9 (fun b hb => by have : b < w.heap.size := hb; omega) (by omega) (by omega) (by omega)).mono ?_
            rintro e w' ⟨⟨a, b, he, hy⟩, g⟩
            rw [← hL1] at he hy
            rw [← hok] at he
            exact ⟨a, b, he, hy, g⟩
          have hres : (links nd one wh m n path).isSome = ok := by rw [hll, ← hL1, hok]; cases L1 <;> rfl
          have hz : ∀ a b, (∀ z, L1 = some z → z = (a, b)) → ∀ z, links nd one wh m n path = some z → z = (nd last a, nd last b) := by
            intro a b hy z h
            rw [hll, ← hL1] at h
            cases L1 with
            | none => cases h
            | some u => rw [← Option.some.inj h, hy u rfl]
          have hd1 : decide ((m : Int) ≤ (k : Int)) = false := decide_eq_false (by omega)
          rw [hres]
          have HZ := Go.Lib.hid hz
          have ZW := Go.Lib.hid zW
          have bz := Bk.new W 34 idZ
          clear zW
          clear hll hL1 hok hres hz hk0 hrl hcells hlast hcell hcut hbX hqa hqb
          go_upto_region 16 with (first
            | (go_at_call 48; ((with_reducible refine (hhalf _).mono ?_); rintro e W ⟨rfl, rfl⟩))
            | ((with_reducible refine wpList_alloc_row (E := 34) idZ infoId ?_); rw [← HW.out])
            | ((with_reducible refine wpList_alloc_row (E := 34) idZ infoId ?_))
            | ((with_reducible refine wpList_load_range (x := .tmp 53) (t := 34) bp (op + q * 32) (last.l.map bv) _ hrt (by kernel_rfl) Try.underlying34 rfl (idSize _) ?_))
            | ((with_reducible refine wpList_store_bk (x := .tmp 14) (t := 34) W.heap.size 34 idZ (last.l.map bv) bz (by kernel_rfl) (by kernel_rfl) (idSize _) (idLen _) (idOne _) ?_); intro w3 h3 g3 z3
               have gW3 := gb_trans_new (gb_alloc gW (.cells idZ.toArray 34)) g3 (by have := ZW.out; omega)
               have bx3 := (bx.alloc (.cells idZ.toArray 34)).grown g3 (fun h => by have := Option.some.inj h; have := ZW.out; omega)
               have ba3 := (ba.alloc (.cells idZ.toArray 34)).grown g3 (fun h => by have := Option.some.inj h; have := ZW.out; omega)
               have bb3 := (bb.alloc (.cells idZ.toArray 34)).grown g3 (fun h => by have := Option.some.inj h; have := ZW.out; omega)
               have s3 := z3
               rw [World.size_alloc] at s3
               have hl3 := Rd.grown (ri_rd HV.out HP.out) gW3 (by simp))
            | ((with_reducible refine wpList_cut (x := .tmp 55) Try.underlying41 (by kernel_rfl) hl3 (by kernel_rfl) 0 q (.inl ⟨rfl, rfl⟩) (.inr ⟨_, rfl, by kernel_rfl⟩) (Nat.zero_le _) (Nat.le_succ q) ?_); intro v9 hv9
               rw [htake.out] at hv9
               have hv9' : RdI (fun b => b < w.heap.size) w3 v9 rest := by unfold RdI; rw [hql]; exact hv9
               obtain ⟨A9, c9, rfl, _⟩ := Rd.form hv9'
               rw [hql] at hv9'
               have hs3 : w.heap.size ≤ w3.heap.size := by have := ZW.out; omega)
            | ((with_reducible refine wpList_load_bk (x := .tmp 8) (t := 34) w.heap.size _ (one.l.map bv) _ bx3 (by kernel_rfl) Try.underlying34 rfl (idSize _) ?_))
            | (go_at_call 59; ((with_reducible refine (hih _ _ hv9' hs3).mono ?_); rintro e w4 ⟨a, b, rfl, hab2, g4⟩)
               have h34 := ((h3.grown g4 (by simp)).alloc (.cells idZ.toArray 34)).alloc (.cells idZ.toArray 34)
               have ba4 := ((ba3.grown g4 (by simp)).alloc (.cells idZ.toArray 34)).alloc (.cells idZ.toArray 34)
               have bb4 := ((bb3.grown g4 (by simp)).alloc (.cells idZ.toArray 34)).alloc (.cells idZ.toArray 34)
               have bn4 := (Bk.new w4 34 idZ).alloc (.cells idZ.toArray 34)
               have bm4 := Bk.new (w4.alloc (.cells idZ.toArray 34)) 34 idZ
               have s4 := g4.size
               have gW4 := gb_alloc (gb_alloc (gb_trans gW3 g4) (.cells idZ.toArray 34)) (.cells idZ.toArray 34))
            | ((with_reducible refine wpList_store_bk (x := .tmp 19) (t := 34) w4.heap.size 34 idZ (a.l.map bv) bn4 (by kernel_rfl) (by kernel_rfl) (idSize _) (idLen _) (idOne _) ?_); intro w5 h5 g5 z5
               have h35 := h34.grown g5 (fun h => by have := Option.some.inj h; have := ZW.out; omega)
               have ba5 := ba4.grown g5 (fun h => by have := Option.some.inj h; have := ZW.out; omega)
               have bb5 := bb4.grown g5 (fun h => by have := Option.some.inj h; have := ZW.out; omega)
               have bm5 := bm4.grown g5 (fun h => by have := Option.some.inj h; rw [World.size_alloc] at this; omega)
               have gW5 := gb_trans_new gW4 g5 (by have := ZW.out; omega))
            | ((with_reducible refine wpList_store_bk (x := .tmp 20) (t := 34) (w4.alloc (.cells idZ.toArray 34)).heap.size 34 idZ (b.l.map bv) bm5 (by kernel_rfl) (by kernel_rfl) (idSize _) (idLen _) (idOne _) ?_); intro w6 h6 g6 z6
               rw [World.size_alloc] at h6 g6))
          have b14 := h35.grown g6 (fun h => by have := Option.some.inj h; have := ZW.out; omega)
          have b16 := h5.grown g6 (fun h => by have := Option.some.inj h; omega)
          have b17 := h6
          have ba6 := ba5.grown g6 (fun h => by have := Option.some.inj h; have := ZW.out; omega)
          have bb6 := bb5.grown g6 (fun h => by have := Option.some.inj h; have := ZW.out; omega)
          have gW6 := gb_trans_new gW5 g6 (by have := ZW.out; omega)
          have hzw := ZW.out
          obtain ⟨qa, hqa⟩ : ∃ qa, qa = w.heap.size + 1 := ⟨_, rfl⟩
          obtain ⟨qb, hqb⟩ : ∃ qb, qb = w.heap.size + 1 + 1 := ⟨_, rfl⟩
          obtain ⟨p14, hp14⟩ : ∃ p14, p14 = W.heap.size := ⟨_, rfl⟩
          obtain ⟨p16, hp16⟩ : ∃ p16, p16 = w4.heap.size := ⟨_, rfl⟩
          obtain ⟨p17, hp17⟩ : ∃ p17, p17 = w4.heap.size + 1 := ⟨_, rfl⟩
          rw [← hqa] at ba6
          rw [show w.heap.size + 2 = w.heap.size + 1 + 1 from rfl, ← hqb] at bb6
          rw [← hp14] at b14
          rw [← hp16] at b16
          rw [← hp17] at b17
          rw [← hqb, ← hqa, ← hp14, ← hp17, ← hp16]
          have HQA := Go.Lib.hid ba6
          have HQB := Go.Lib.hid bb6
          have hab : qa ≠ qb := by omega
          have hqa0 : w.heap.size ≤ qa := by omega
          have hqb0 : w.heap.size ≤ qb := by omega
          have e14 : ¬ (p14 = qa ∨ p14 = qb) := by omega
          have e16 : ¬ (p16 = qa ∨ p16 = qb) := by omega
          have e17 : ¬ (p17 = qa ∨ p17 = qb) := by omega
          clear hqa hqb hp14 hp16 hp17 hzw h35 h5 h6 ba5 bb5 bm5 gW5 g6 z6 z5 g5 h34 ba4 bb4 bn4 bm4 s4 gW4 g4 ba6 bb6 hih h3 bx3 ba3 bb3 s3 hl3 hv9 hv9' hs3 g3 z3 gW3 bx ba bb bz hhalf hd1 hrt
          refine wp_region_specsQ (Ra := cd5Ra qa qb) (R := boR 7 8 qa qb (nd last a) (nd last b)) (cd5Ra_trans qa qb) (boR_Ra 7 8 qa qb (nd last a) (nd last b)) 9 [91, 92, 93, 94, 95, 96, 97, 93, 96] (by kernel_rfl) (bo_drew qa qb _) (fun i => i == 7 || i == 8) (by kernel_rfl) (fun _ => false) (boφ 7 8 qa qb (nd last a) (nd last b) [idv last, idv a, idv (nd last a), idv last, idv b, idv (nd last b), .bool ok, undef, undef]) (fun _ _ _ h => by cases h) (bo_st 7 8 qa qb (nd last a) (nd last b) [idv last, idv a, idv (nd last a), idv last, idv b, idv (nd last b), .bool ok, undef, undef] hab) ?step ?fin
          case step =>
            intro i_ o_ ho hi_ u w' hg hd
            rcases (by omega : i_ = 0 ∨ i_ = 1 ∨ i_ = 2 ∨ i_ = 3 ∨ i_ = 4 ∨ i_ = 5 ∨ i_ = 6 ∨ i_ = 7 ∨ i_ = 8) with rfl | rfl | rfl | rfl | rfl | rfl | rfl | rfl | rfl <;> obtain rfl := Option.some.inj ho <;>
              simp (decide := true) only [fillAct, List.mapIdx_cons, List.mapIdx_nil, Nat.reduceAdd, if_true, if_false, List.getD_cons_zero, List.getD_cons_succ]
            · clear hd ho
              have b1 := (hg.1).bk b14 e14
              go_wp2_with ((with_reducible refine wpList_load_bk (t := 34) p14 _ (last.l.map bv) _ b1 (by kernel_rfl) Try.underlying34 rfl (idSize _) ?_))
              exact ⟨rfl, gb_refl _ _, rfl, fun h => by cases h⟩
            · clear hd ho
              have b1 := (hg.1).bk b16 e16
              go_wp2_with ((with_reducible refine wpList_load_bk (t := 34) p16 _ (a.l.map bv) _ b1 (by kernel_rfl) Try.underlying34 rfl (idSize _) ?_))
              exact ⟨rfl, gb_refl _ _, rfl, fun h => by cases h⟩
            · have h0 : u 91 = idv last := hd 0 (by kernel_rfl)
              have h1 : u 92 = idv a := hd 1 (by kernel_rfl)
              clear hd ho
              rw [h0, h1]
              go_wp2_with (go_at_call 56; ((with_reducible refine (refNode_any last a _).mono ?_); rintro e w3 ⟨rfl, g3⟩))
              exact ⟨rfl, g3, rfl, fun h => by cases h⟩
            · clear hd ho
              have b1 := (hg.1).bk b14 e14
              go_wp2_with ((with_reducible refine wpList_load_bk (t := 34) p14 _ (last.l.map bv) _ b1 (by kernel_rfl) Try.underlying34 rfl (idSize _) ?_))
              exact ⟨rfl, gb_refl _ _, rfl, fun h => by cases h⟩
            · clear hd ho
              have b1 := (hg.1).bk b17 e17
              go_wp2_with ((with_reducible refine wpList_load_bk (t := 34) p17 _ (b.l.map bv) _ b1 (by kernel_rfl) Try.underlying34 rfl (idSize _) ?_))
              exact ⟨rfl, gb_refl _ _, rfl, fun h => by cases h⟩
            · have h3 : u 94 = idv last := hd 3 (by kernel_rfl)
              have h4 : u 95 = idv b := hd 4 (by kernel_rfl)
              clear hd ho
              rw [h3, h4]
              go_wp2_with (go_at_call 56; ((with_reducible refine (refNode_any last b _).mono ?_); rintro e w3 ⟨rfl, g3⟩))
              exact ⟨rfl, g3, rfl, fun h => by cases h⟩
            · clear hd ho
              go_wp2_with fail
              exact ⟨rfl, gb_refl _ _, rfl, fun h => by cases h⟩
            · have h2 : u 93 = idv (nd last a) := hd 2 (by kernel_rfl)
              clear hd ho
              rw [h2]
              obtain ⟨lo, hqold⟩ := hg.2 qa (.inl rfl) ⟨_, HQA.out⟩
              have hol : (lo.l.map bv).length = ((nd last a).l.map bv).length := by rw [List.length_map, List.length_map, lo.h, Id.h]
              go_wp2_with ((with_reducible refine wpList_store_bk (t := 34) qa 34 (lo.l.map bv) ((nd last a).l.map bv) hqold (by kernel_rfl) (by kernel_rfl) (idSize _) hol (idOne _) ?_); intro w5 h5 g5 z5)
              exact ⟨rfl, ⟨g5, h5⟩, h5, fun h => by cases h⟩
            · have h5 : u 96 = idv (nd last b) := hd 5 (by kernel_rfl)
              clear hd ho
              rw [h5]
              obtain ⟨lo, hqold⟩ := hg.2 qb (.inr rfl) ⟨_, HQB.out⟩
              have hol : (lo.l.map bv).length = ((nd last b).l.map bv).length := by rw [List.length_map, List.length_map, lo.h, Id.h]
              go_wp2_with ((with_reducible refine wpList_store_bk (t := 34) qb 34 (lo.l.map bv) ((nd last b).l.map bv) hqold (by kernel_rfl) (by kernel_rfl) (idSize _) hol (idOne _) ?_); intro w5 h5 g5 z5)
              exact ⟨rfl, ⟨g5, h5⟩, h5, fun h => by cases h⟩
          case fin =>
            intro u w5 hg hφ _
            have hA : Bk w5 qa 34 ((nd last a).l.map bv) := hφ 7 (by omega)
            have hB : Bk w5 qb 34 ((nd last b).l.map bv) := hφ 8 (by omega)
            have hO : u 97 = .bool ok := hφ 6 (by omega)
            simp (decide := true) only [fillAct, List.mapIdx_cons, List.mapIdx_nil, Nat.reduceAdd, if_true, if_false, List.drop_succ_cons, List.drop_zero]
            rw [hO]
            clear hφ
            go_wp2_with fail
            try go_frame
            exact bodyPost_ret (results_ids_tmp rfl _ _ qa qb ((nd last a)) ((nd last b)) rfl rfl hA hB) rfl ⟨⟨(nd last a), (nd last b), rfl, HZ.out a b hab2⟩, gb_ra gW6 hg hqa0 hqb0⟩
        · have hll := links_lo nd one wh (m := m) (n := n) (by omega) hmn2 (by rw [← hk0]; exact hak) rest last
          rw [← hrl, ← hk0] at hll
          obtain ⟨L1, hL1⟩ : ∃ L1, L1 = links nd one wh m k rest := ⟨_, rfl⟩
          obtain ⟨ok, hok⟩ : ∃ ok, ok = L1.isSome := ⟨_, rfl⟩
          have hih : ∀ (v9 : Value) (W' : World), RdI (fun b => b < w.heap.size) W' v9 rest → w.heap.size ≤ W'.heap.size → Calls Try.prog 59 #[.int .i64 (m : Int), .int .i64 (k : Int), v9, .agg (one.l.map bv).toArray, .bool wh] W' fun e w' => ∃ a b : Sc.Id, e = .returned (.tuple #[.agg (a.l.map bv).toArray, .agg (b.l.map bv).toArray, .bool ok]) ∧ (∀ z, L1 = some z → z = (a, b)) ∧ W'.grownBy w' none := fun v9 W' h9 hs => by
            refine (HI.out m k v9 rest wh _ W' (by omega) h9 (fun b hb => by have : b < w.heap.size := hb; omega) (by omega) (by omega) (by omega)).mono ?_
            rintro e w' ⟨⟨a, b, he, hy⟩, g⟩
            rw [← hL1] at he hy
            rw [← hok] at he
            exact ⟨a, b, he, hy, g⟩
          have hres : (links nd one wh m n path).isSome = ok := by rw [hll, ← hL1, hok]; cases L1 <;> rfl
          have hz : ∀ a b, (∀ z, L1 = some z → z = (a, b)) → ∀ z, links nd one wh m n path = some z → z = (a, nd b last) := by
            intro a b hy z h
            rw [hll, ← hL1] at h
            cases L1 with
            | none => cases h
            | some u => rw [← Option.some.inj h, hy u rfl]
          have hd1 : decide ((m : Int) ≤ (k : Int)) = true := decide_eq_true (by omega)
          rw [hres]
          have HZ := Go.Lib.hid hz
          have ZW := Go.Lib.hid zW
          have bz := Bk.new W 34 idZ
          clear zW
          clear hll hL1 hok hres hz hk0 hrl hcells hlast hcell hcut hbX hqa hqb
          go_upto_region 14 with (first
            | (go_at_call 48; ((with_reducible refine (hhalf _).mono ?_); rintro e W ⟨rfl, rfl⟩))
            | ((with_reducible refine wpList_alloc_row (E := 34) idZ infoId ?_); rw [← HW.out])
            | ((with_reducible refine wpList_alloc_row (E := 34) idZ infoId ?_))
            | ((with_reducible refine wpList_load_range (x := .tmp 53) (t := 34) bp (op + q * 32) (last.l.map bv) _ hrt (by kernel_rfl) Try.underlying34 rfl (idSize _) ?_))
            | ((with_reducible refine wpList_store_bk (x := .tmp 14) (t := 34) W.heap.size 34 idZ (last.l.map bv) bz (by kernel_rfl) (by kernel_rfl) (idSize _) (idLen _) (idOne _) ?_); intro w3 h3 g3 z3
               have gW3 := gb_trans_new (gb_alloc gW (.cells idZ.toArray 34)) g3 (by have := ZW.out; omega)
               have bx3 := (bx.alloc (.cells idZ.toArray 34)).grown g3 (fun h => by have := Option.some.inj h; have := ZW.out; omega)
               have ba3 := (ba.alloc (.cells idZ.toArray 34)).grown g3 (fun h => by have := Option.some.inj h; have := ZW.out; omega)
               have bb3 := (bb.alloc (.cells idZ.toArray 34)).grown g3 (fun h => by have := Option.some.inj h; have := ZW.out; omega)
               have s3 := z3
               rw [World.size_alloc] at s3
               have hl3 := Rd.grown (ri_rd HV.out HP.out) gW3 (by simp))
            | ((with_reducible refine wpList_cut (x := .tmp 55) Try.underlying41 (by kernel_rfl) hl3 (by kernel_rfl) 0 q (.inl ⟨rfl, rfl⟩) (.inr ⟨_, rfl, by kernel_rfl⟩) (Nat.zero_le _) (Nat.le_succ q) ?_); intro v9 hv9
               rw [htake.out] at hv9
               have hv9' : RdI (fun b => b < w.heap.size) w3 v9 rest := by unfold RdI; rw [hql]; exact hv9
               obtain ⟨A9, c9, rfl, _⟩ := Rd.form hv9'
               rw [hql] at hv9'
               have hs3 : w.heap.size ≤ w3.heap.size := by have := ZW.out; omega)
            | ((with_reducible refine wpList_load_bk (x := .tmp 8) (t := 34) w.heap.size _ (one.l.map bv) _ bx3 (by kernel_rfl) Try.underlying34 rfl (idSize _) ?_))
            | (go_at_call 59; ((with_reducible refine (hih _ _ hv9' hs3).mono ?_); rintro e w4 ⟨a, b, rfl, hab2, g4⟩)
               have h34 := ((h3.grown g4 (by simp)).alloc (.cells idZ.toArray 34)).alloc (.cells idZ.toArray 34)
               have ba4 := ((ba3.grown g4 (by simp)).alloc (.cells idZ.toArray 34)).alloc (.cells idZ.toArray 34)
               have bb4 := ((bb3.grown g4 (by simp)).alloc (.cells idZ.toArray 34)).alloc (.cells idZ.toArray 34)
               have bn4 := (Bk.new w4 34 idZ).alloc (.cells idZ.toArray 34)
               have bm4 := Bk.new (w4.alloc (.cells idZ.toArray 34)) 34 idZ
               have s4 := g4.size
               have gW4 := gb_alloc (gb_alloc (gb_trans gW3 g4) (.cells idZ.toArray 34)) (.cells idZ.toArray 34))
            | ((with_reducible refine wpList_store_bk (x := .tmp 16) (t := 34) w4.heap.size 34 idZ (a.l.map bv) bn4 (by kernel_rfl) (by kernel_rfl) (idSize _) (idLen _) (idOne _) ?_); intro w5 h5 g5 z5
               have h35 := h34.grown g5 (fun h => by have := Option.some.inj h; have := ZW.out; omega)
               have ba5 := ba4.grown g5 (fun h => by have := Option.some.inj h; have := ZW.out; omega)
               have bb5 := bb4.grown g5 (fun h => by have := Option.some.inj h; have := ZW.out; omega)
               have bm5 := bm4.grown g5 (fun h => by have := Option.some.inj h; rw [World.size_alloc] at this; omega)
               have gW5 := gb_trans_new gW4 g5 (by have := ZW.out; omega))
            | ((with_reducible refine wpList_store_bk (x := .tmp 17) (t := 34) (w4.alloc (.cells idZ.toArray 34)).heap.size 34 idZ (b.l.map bv) bm5 (by kernel_rfl) (by kernel_rfl) (idSize _) (idLen _) (idOne _) ?_); intro w6 h6 g6 z6
               rw [World.size_alloc] at h6 g6))
          have b14 := h35.grown g6 (fun h => by have := Option.some.inj h; have := ZW.out; omega)
          have b16 := h5.grown g6 (fun h => by have := Option.some.inj h; omega)
          have b17 := h6
          have ba6 := ba5.grown g6 (fun h => by have := Option.some.inj h; have := ZW.out; omega)
          have bb6 := bb5.grown g6 (fun h => by have := Option.some.inj h; have := ZW.out; omega)
          have gW6 := gb_trans_new gW5 g6 (by have := ZW.out; omega)
          have hzw := ZW.out
          obtain ⟨qa, hqa⟩ : ∃ qa, qa = w.heap.size + 1 := ⟨_, rfl⟩
          obtain ⟨qb, hqb⟩ : ∃ qb, qb = w.heap.size + 1 + 1 := ⟨_, rfl⟩
          obtain ⟨p14, hp14⟩ : ∃ p14, p14 = W.heap.size := ⟨_, rfl⟩
          obtain ⟨p16, hp16⟩ : ∃ p16, p16 = w4.heap.size := ⟨_, rfl⟩
          obtain ⟨p17, hp17⟩ : ∃ p17, p17 = w4.heap.size + 1 := ⟨_, rfl⟩
          rw [← hqa] at ba6
          rw [show w.heap.size + 2 = w.heap.size + 1 + 1 from rfl, ← hqb] at bb6
          rw [← hp14] at b14
          rw [← hp16] at b16
          rw [← hp17] at b17
          rw [← hqb, ← hqa, ← hp14, ← hp17, ← hp16]
          have HQA := Go.Lib.hid ba6
          have HQB := Go.Lib.hid bb6
          have hab : qa ≠ qb := by omega
          have hqa0 : w.heap.size ≤ qa := by omega
          have hqb0 : w.heap.size ≤ qb := by omega
          have e14 : ¬ (p14 = qa ∨ p14 = qb) := by omega
          have e16 : ¬ (p16 = qa ∨ p16 = qb) := by omega
          have e17 : ¬ (p17 = qa ∨ p17 = qb) := by omega
          clear hqa hqb hp14 hp16 hp17 hzw h35 h5 h6 ba5 bb5 bm5 gW5 g6 z6 z5 g5 h34 ba4 bb4 bn4 bm4 s4 gW4 g4 ba6 bb6 hih h3 bx3 ba3 bb3 s3 hl3 hv9 hv9' hs3 g3 z3 gW3 bx ba bb bz hhalf hd1 hrt
          refine wp_region_specsQ (Ra := cd5Ra qa qb) (R := boR 5 6 qa qb a (nd b last)) (cd5Ra_trans qa qb) (boR_Ra 5 6 qa qb a (nd b last)) 7 [73, 74, 75, 76, 77, 73, 76] (by kernel_rfl) (bo_drew qa qb _) (fun i => i == 5 || i == 6) (by kernel_rfl) (fun _ => false) (boφ 5 6 qa qb a (nd b last) [idv a, idv b, idv last, idv (nd b last), .bool ok, undef, undef]) (fun _ _ _ h => by cases h) (bo_st 5 6 qa qb a (nd b last) [idv a, idv b, idv last, idv (nd b last), .bool ok, undef, undef] hab) ?step ?fin
          case step =>
            intro i_ o_ ho hi_ u w' hg hd
            rcases (by omega : i_ = 0 ∨ i_ = 1 ∨ i_ = 2 ∨ i_ = 3 ∨ i_ = 4 ∨ i_ = 5 ∨ i_ = 6) with rfl | rfl | rfl | rfl | rfl | rfl | rfl <;> obtain rfl := Option.some.inj ho <;>
              simp (decide := true) only [fillAct, List.mapIdx_cons, List.mapIdx_nil, Nat.reduceAdd, if_true, if_false, List.getD_cons_zero, List.getD_cons_succ]
            · clear hd ho
              have b1 := (hg.1).bk b16 e16
              go_wp2_with ((with_reducible refine wpList_load_bk (t := 34) p16 _ (a.l.map bv) _ b1 (by kernel_rfl) Try.underlying34 rfl (idSize _) ?_))
              exact ⟨rfl, gb_refl _ _, rfl, fun h => by cases h⟩
            · clear hd ho
              have b1 := (hg.1).bk b17 e17
              go_wp2_with ((with_reducible refine wpList_load_bk (t := 34) p17 _ (b.l.map bv) _ b1 (by kernel_rfl) Try.underlying34 rfl (idSize _) ?_))
              exact ⟨rfl, gb_refl _ _, rfl, fun h => by cases h⟩
            · clear hd ho
              have b1 := (hg.1).bk b14 e14
              go_wp2_with ((with_reducible refine wpList_load_bk (t := 34) p14 _ (last.l.map bv) _ b1 (by kernel_rfl) Try.underlying34 rfl (idSize _) ?_))
              exact ⟨rfl, gb_refl _ _, rfl, fun h => by cases h⟩
            · have h1 : u 74 = idv b := hd 1 (by kernel_rfl)
              have h2 : u 75 = idv last := hd 2 (by kernel_rfl)
              clear hd ho
              rw [h1, h2]
              go_wp2_with (go_at_call 56; ((with_reducible refine (refNode_any b last _).mono ?_); rintro e w3 ⟨rfl, g3⟩))
              exact ⟨rfl, g3, rfl, fun h => by cases h⟩
            · clear hd ho
              go_wp2_with fail
              exact ⟨rfl, gb_refl _ _, rfl, fun h => by cases h⟩
            · have h0 : u 73 = idv a := hd 0 (by kernel_rfl)
              clear hd ho
              rw [h0]
              obtain ⟨lo, hqold⟩ := hg.2 qa (.inl rfl) ⟨_, HQA.out⟩
              have hol : (lo.l.map bv).length = (a.l.map bv).length := by rw [List.length_map, List.length_map, lo.h, Id.h]
              go_wp2_with ((with_reducible refine wpList_store_bk (t := 34) qa 34 (lo.l.map bv) (a.l.map bv) hqold (by kernel_rfl) (by kernel_rfl) (idSize _) hol (idOne _) ?_); intro w5 h5 g5 z5)
              exact ⟨rfl, ⟨g5, h5⟩, h5, fun h => by cases h⟩
            · have h3 : u 76 = idv (nd b last) := hd 3 (by kernel_rfl)
              clear hd ho
              rw [h3]
              obtain ⟨lo, hqold⟩ := hg.2 qb (.inr rfl) ⟨_, HQB.out⟩
              have hol : (lo.l.map bv).length = ((nd b last).l.map bv).length := by rw [List.length_map, List.length_map, lo.h, Id.h]
              go_wp2_with ((with_reducible refine wpList_store_bk (t := 34) qb 34 (lo.l.map bv) ((nd b last).l.map bv) hqold (by kernel_rfl) (by kernel_rfl) (idSize _) hol (idOne _) ?_); intro w5 h5 g5 z5)
              exact ⟨rfl, ⟨g5, h5⟩, h5, fun h => by cases h⟩
          case fin =>
            intro u w5 hg hφ _
            have hA : Bk w5 qa 34 (a.l.map bv) := hφ 5 (by omega)
            have hB : Bk w5 qb 34 ((nd b last).l.map bv) := hφ 6 (by omega)
            have hO : u 77 = .bool ok := hφ 4 (by omega)
            simp (decide := true) only [fillAct, List.mapIdx_cons, List.mapIdx_nil, Nat.reduceAdd, if_true, if_false, List.drop_succ_cons, List.drop_zero]
            rw [hO]
            clear hφ
            go_wp2_with fail
            try go_frame
            exact bodyPost_ret (results_ids_tmp rfl _ _ qa qb (a) ((nd b last)) rfl rfl hA hB) rfl ⟨⟨a, (nd b last), rfl, HZ.out a b hab2⟩, gb_ra gW6 hg hqa0 hqb0⟩
end Go.Proofs.Ytajgklomcapboaa
