import Derived.Test.YtajgklomcapboaaIdBuild
import Derived.Test.YtajgklomcapboaaSpecsS
import Derived.Test.YtajgklomcapboaaApp
/- (*tree.Range).Append: leaves more. -/
namespace Go.Proofs.Ytajgklomcapboaa
open Go.RowKit Go.Shelf Sc

/-- A range in memory: its size, its tops. -/
def Rng (w : World) (B r : Nat) (tv : Value) (n : Nat) (ts : List Sc.Id) : Prop := Bk w r 109 [.int .i64 (n : Int), tv] ∧ Ow B w 32 tv ts.length (idCells ts) ∧ tv.ownBlock ≠ some r
def apAφ (r b2 o2 k c2 : Nat) (t y : Sc.Id) (i : Nat) (v : Value) (_w : World) : Prop := match i with
  | 0 => v = .pointer (some ⟨r, 0, none⟩)
  | 1 => v = .pointer (some ⟨r, 0, none⟩)
  | 2 => v = .pointer (some ⟨r, 1, none⟩)
  | 3 => v = .slice (some ⟨b2, o2, none⟩) (k + 1) c2
  | 4 => v = .int .i64 (k : Int)
  | 5 => v = .pointer (some ⟨b2, o2 + k * 32, none⟩)
  | 6 => v = idv t
  | 7 => v = idv y
  | 8 => v = idv (nd t y)
  | _ => True
theorem apAφ_gr (r b2 o2 k c2 : Nat) (t y : Sc.Id) : ∀ i v w w', apAφ r b2 o2 k c2 t y i v w → Gr w w' → apAφ r b2 o2 k c2 t y i v w' := by
  intro i v w w' h hg
  match i with
  | 0 => exact h
  | 1 => exact h
  | 2 => exact h
  | 3 => exact h
  | 4 => exact h
  | 5 => exact h
  | 6 => exact h
  | 7 => exact h
  | 8 => exact h
  | i + 9 => exact h
def apbφ (B r k c2 : Nat) (A2 : Option Addr) (own : Option Nat) (W0 : Nat) (st : List Sc.Id) (y : Sc.Id) (i : Nat) (v : Value) (w : World) : Prop := match i with
  | 0 => v = .pointer (some ⟨r, 0, none⟩)
  | 1 => v = .pointer (some ⟨r, 0, none⟩)
  | 2 => v = .pointer (some ⟨r, 0, none⟩)
  | 3 => v = .pointer (some ⟨r, 1, none⟩)
  | 4 => v = .slice A2 k c2 ∧ Ow B w 32 (.slice A2 k c2) k (idCells st)
  | 5 => v = idv y
  | 6 => ∃ nb, v = .slice (some ⟨nb, 0, none⟩) 1 1 ∧ w.rangeAt nb 0 (y.l.map bv)
  | 7 => Ow B w 32 v (k + 1) (idCells (st ++ [y])) ∧ (v.ownBlock = own ∨ ∃ q, v.ownBlock = some q ∧ W0 ≤ q)
  | 8 => v = .pointer (some ⟨r, 0, none⟩)
  | 9 => v = .pointer (some ⟨r, 1, none⟩)
  | _ => True
def apbR (own : Option Nat) (i : Nat) (a b : World) : Prop := match i with
  | 7 => a.grownBy b own
  | _ => Gr a b
def apbDead (i k : Nat) : Bool := (i == 4 || i == 6) && k == 7
theorem apbR_own {own : Option Nat} {i : Nat} {a b : World} (h : apbR own i a b) : a.grownBy b own := by
  unfold apbR at h
  split at h
  · exact h
  · exact gb_none h
theorem apbR_gr {own : Option Nat} {i : Nat} {a b : World} (hi : i ≠ 7) (h : apbR own i a b) : Gr a b := by
  unfold apbR at h
  split at h
  · exact absurd rfl hi
  · exact h
theorem apb_st (B r k c2 : Nat) (A2 : Option Addr) (own : Option Nat) (W0 : Nat) (st : List Sc.Id) (y : Sc.Id) : ∀ j i v w w', j ≠ i → apbDead j i = false → apbφ B r k c2 A2 own W0 st y j v w → apbR own i w w' → apbφ B r k c2 A2 own W0 st y j v w' := by
  intro j i v w w' hji hd h hg
  match j, hji, hd, h with
  | 4, _, hd, h => exact ⟨h.1, h.2.grown (apbR_gr (fun e => by subst e; cases hd) hg) (fun _ _ => by simp)⟩
  | 6, _, hd, h =>
    obtain ⟨nb, e, hr⟩ := h
    exact ⟨nb, e, rangeAt_grown hr (apbR_gr (fun e => by subst e; cases hd) hg) (by simp)⟩
  | 7, hji, _, h => exact ⟨h.1.grown (apbR_gr (fun e => hji e.symm) hg) (fun _ _ => by simp), h.2⟩
  | 0, _, _, h => exact h
  | 1, _, _, h => exact h
  | 2, _, _, h => exact h
  | 3, _, _, h => exact h
  | 5, _, _, h => exact h
  | 8, _, _, h => exact h
  | 9, _, _, h => exact h
  | j + 10, _, _, h => exact h

set_option maxHeartbeats 4000000 in
theorem append_any (B r : Nat) (tv v : Value) (n : Nat) (ts xs : List Sc.Id) (NB : Nat → Prop) (w : World) (hR : Rng w B r tv n ts) (hn : ts.length = ones n) (hv : RdI NB w v xs)
    (hNB : ∀ b, NB b → b < w.heap.size ∧ b ≠ r ∧ tv.ownBlock ≠ some b) (hsz : n + xs.length ≤ 1099511627776) (hB : B ≤ w.heap.size) :
    Calls Try.prog 64 #[.pointer (some ⟨r, 0, none⟩), v] w fun e w' => e = .returned (.int .i64 0) ∧ ∃ tv', Rng w' B r tv' (n + xs.length) (pushes n ts xs) ∧ Ch (fun k => k = r ∨ tv.ownBlock = some k) w w' ∧ (tv'.ownBlock = tv.ownBlock ∨ ∃ k, tv'.ownBlock = some k ∧ w.heap.size ≤ k) := by
  go_enter Try.func64, Try.ntmps64
  obtain ⟨A, c, rfl, hc⟩ := Rd.form hv
  have HR := Go.Lib.hid hR
  have HV := Go.Lib.hid hv
  have hc0 := hR.1.cellAt (i := 0) rfl
  have hle : ((xs.length : Int) ≤ 1099511627776 - (n : Int)) := by omega
  have hd : decide (1099511627776 - (n : Int) < (xs.length : Int)) = false := decide_eq_false (by omega)
  clear hR hv
  go_wp2_with fail
  clear hd hle hc0
  go_loopw [19] (fun jv wr => ∃ (i : Nat) (tv1 : Value), i ≤ xs.length ∧ jv = .int .i64 i ∧ Hid (Rng wr B r tv1 (n + i) (pushes n ts (xs.take i))) ∧ Hid (Ch (fun k => k = r ∨ tv.ownBlock = some k) w wr) ∧ Hid (tv1.ownBlock = tv.ownBlock ∨ ∃ k, tv1.ownBlock = some k ∧ w.heap.size ≤ k))
    (fun jv _ => xs.length - (intOf jv).toNat)
  case atStart => exact ⟨0, tv, Nat.zero_le _, rfl, HR, Go.Lib.hid (Ch.refl _ _), Go.Lib.hid (.inl rfl)⟩
  case round =>
    clear HR
    obtain ⟨i, tv1, hi, rfl, HR, HC, HO⟩ := hrel
    obtain ⟨wo, rfl⟩ : ∃ wo : World, wo = wr := ⟨_, rfl⟩
    by_cases hlt : i < xs.length
    · obtain ⟨b, o, c', he, hb, hnc, hcm, hcell⟩ := (HC.out.rd HV.out (fun b hb h => by have := hNB b hb; rcases h with h | h <;> simp_all)).at (by omega)
      injection he with hA _ hcc
      subst hA hcc
      obtain ⟨x, hx⟩ : ∃ x, xs[i]? = some x := ⟨_, List.getElem?_eq_getElem hlt⟩
      have hrx := range_id hcell hx
      have HX := Go.Lib.hid hx
      have hI : (0 : Int) ≤ (i : Int) ∧ (i : Int) < 1099511627776 := by omega
      have hlen : (pushes n ts (xs.take i)).length = ones (n + i) := by rw [pushes_length _ _ _ hn, List.length_take, Nat.min_eq_left (by omega)]
      have HPT := Go.Lib.hid (pushes_take n ts xs i x hx)
      obtain ⟨N, hN⟩ : ∃ N, N = n + i := ⟨_, rfl⟩
      obtain ⟨cur, hcur⟩ : ∃ cur, cur = pushes n ts (xs.take i) := ⟨_, rfl⟩
      rw [← hN, ← hcur] at HR hlen HPT
      clear hcur
      have hNb : N < 1099511627776 := by omega
      have HN := Go.Lib.hid hN
      clear hN
      have HC0 := Go.Lib.hid (HR.out.1.cellAt (i := 0) rfl)
      have hrlt : r < wo.heap.size := HR.out.1.lt
      have hklt : decide (i < xs.length) = true := decide_eq_true hlt
      have bx0 := Bk.new wo 34 idZ
      clear hx hcell
      go_wp2_with (first
        | ((with_reducible refine wpList_load_range (t := 34) b (o + i * 32) (x.l.map bv) _ hrx (by kernel_rfl) Try.underlying34 rfl (idSize _) ?_))
        | ((with_reducible refine wpList_alloc_row (E := 34) idZ infoId ?_))
        | ((with_reducible refine wpList_store_bk (t := 34) wo.heap.size 34 idZ (x.l.map bv) bx0 (by kernel_rfl) (by kernel_rfl) (idSize _) (idLen _) (idOne _) ?_); intro w5 h5 g5 z5; have c5 := cell_grown (w := wo.alloc (.cells idZ.toArray 34)) g5 (cell_grown (World.grownBy_alloc wo _ none) HC0.out (by simp)) (by simp; omega)))
      clear c5 bx0 hrx hklt
      have gC : Ch (fun _ => False) wo w5 := (Ch.of (S := fun _ => False) (World.grownBy_alloc wo (.cells idZ.toArray 34) none) (fun _ h => by cases h)).gb g5 (fun q e => .inr (by cases e; exact Nat.le_refl _))
      have HR5 : Hid (Bk w5 r 109 [.int .i64 (N : Int), tv1] ∧ Ow B w5 32 tv1 cur.length (idCells cur)) := Go.Lib.hid ⟨gC.bk HR.out.1 (by simp), gC.ow HR.out.2.1 (fun _ _ h => h)⟩
      have HX5 := Go.Lib.hid h5
      have HG5 : Hid (Ch (fun k => k = r) wo w5) := Go.Lib.hid (gC.mono (fun _ h => h.elim))
      have hwr5 : wo.heap.size < w5.heap.size := h5.lt
      have HP0 := Go.Lib.hid (rfl : push1 N cur x = push1 N cur x)
      have HL0 := Go.Lib.hid hlen
      have hxbr : wo.heap.size ≠ r := by omega
      clear gC h5 g5 z5 hlen
      generalize hxb : wo.heap.size = xb at *
      go_loopw [7] (fun nv wq => ∃ (m : Nat) (y : Sc.Id) (st : List Sc.Id) (tv2 : Value), nv = .int .i64 (m : Int) ∧ m ≤ N ∧ Hid (push1 m st y = push1 N cur x) ∧ Hid (st.length = ones m) ∧ Hid (Bk wq r 109 [.int .i64 (N : Int), tv2] ∧ Ow B wq 32 tv2 st.length (idCells st)) ∧ Hid (tv2.ownBlock = tv1.ownBlock) ∧ Hid (Bk wq xb 34 (y.l.map bv)) ∧ Hid (Ch (fun k => k = r) wo wq))
        (fun nv _ => (intOf nv).toNat)
      case atStart => exact ⟨N, x, cur, tv1, rfl, Nat.le_refl _, HP0, HL0, HR5, Go.Lib.hid rfl, HX5, HG5⟩
      case round =>
        clear HP0 HL0 HR5 HX5 HG5 hwr5 w5
        obtain ⟨m, y, st, tv2, rfl, hmN, HP, HL, HR2, HO2, HX2, HG2⟩ := hrel
        have hmI : (0 : Int) ≤ (m : Int) ∧ (m : Int) ≤ 1099511627776 := by omega
        rcases Nat.mod_two_eq_zero_or_one m with h2 | h2
        · -- the tops take it
          have hand : bits .and .i64 (m : Int) 1 = 0 := and_one_even m h2 (by omega)
          obtain ⟨hb2, ho2⟩ := HR2.out
          obtain ⟨k, hk⟩ : ∃ k, k = st.length := ⟨_, rfl⟩
          rw [← hk] at ho2
          obtain ⟨A2, c2, htv⟩ := ho2.form
          subst htv
          obtain ⟨own, hown⟩ : ∃ own, own = (Value.slice A2 k c2).ownBlock := ⟨_, rfl⟩
          have hk40 : k ≤ 40 := by rw [hk, HL.out]; exact ones_le_log 40 _ (by omega)
          have hcT := hb2.cellAt (i := 1) rfl
          have hoT := ho2
          have hbx := HX2.out
          have hown1 : own = tv1.ownBlock := hown.trans HO2.out
          have hownlt : ∀ q, own = some q → q < xb ∧ q ≠ r := fun q hq => ⟨by have := (HR.out.2.1.lt (hown1.symm.trans hq)).2; omega, fun e => HR.out.2.2 (by rw [← hown1, hq, e])⟩
          have hoxb : own ≠ some xb := fun e => by have := (hownlt _ e).1; omega
          have hor : own ≠ some r := fun e => (hownlt _ e).2 rfl
          have hBW : B ≤ wr.heap.size := Nat.le_trans hB (Nat.le_trans HC.out.size HG2.out.size)
          have h63 : k + 1 ≤ maxLen := Nat.le_trans (show k + 1 ≤ 41 by omega) (by decide)
          have hby : (k + 1) * 32 ≤ 140737488355328 := by omega
          have HOWN := Go.Lib.hid hown.symm
          have HOWN1 := Go.Lib.hid hown1
          clear hown hown1
          have HK := Go.Lib.hid hk
          have HHb := Go.Lib.hid hb2
          clear hb2 ho2 hk HR2
          go_wp2_with fail
          refine wp_region_specsS 7 (Ra := fun a b => a.grownBy b own) (Rb := Gr) (R := apbR own) (fun _ _ _ h k => gb_trans h k) (fun i a b h => apbR_own h) (fun _ _ _ h k => gb_trans h k) (fun i a b hi h => apbR_gr hi h) 10 [56, 57, 58, 59, 60, 61, 62, 63, 64, 65] (by kernel_rfl) (gb_drew (gb_refl _ _)) (gb_drew (gb_refl _ _)) (by kernel_rfl) apbDead (apbφ B r k c2 A2 own wr.heap.size st y) (fun j i v w w' h1 _ h2 h3 h4 => apb_st B r k c2 A2 own wr.heap.size st y j i v w w' h1 h2 h3 h4) ?step ?fin
          case step =>
            intro i_ o_ ho hi_ u w' hg hgb hd
            rcases (by omega : i_ = 0 ∨ i_ = 1 ∨ i_ = 2 ∨ i_ = 3 ∨ i_ = 4 ∨ i_ = 5 ∨ i_ = 6 ∨ i_ = 7 ∨ i_ = 8 ∨ i_ = 9) with rfl | rfl | rfl | rfl | rfl | rfl | rfl | rfl | rfl | rfl <;> obtain rfl := Option.some.inj ho <;>
              simp (decide := true) only [fillAct, List.mapIdx_cons, List.mapIdx_nil, Nat.reduceAdd, if_true, if_false, List.getD_cons_zero, List.getD_cons_succ]
            · clear hd ho
              go_wp2_with fail
              exact ⟨rfl, gb_refl _ _, rfl⟩
            · clear hd ho
              go_wp2_with fail
              exact ⟨rfl, gb_refl _ _, rfl⟩
            · have h1 : u 57 = .pointer (some ⟨r, 0, none⟩) := hd 1 (by kernel_rfl) (by decide)
              clear hd ho
              rw [h1]
              go_wp2_with fail
              exact ⟨rfl, gb_refl _ _, rfl⟩
            · have h2 : u 58 = .pointer (some ⟨r, 0, none⟩) := hd 2 (by kernel_rfl) (by decide)
              clear hd ho
              rw [h2]
              go_wp2_with fail
              exact ⟨rfl, gb_refl _ _, rfl⟩
            · have h3 : u 59 = .pointer (some ⟨r, 1, none⟩) := hd 3 (by kernel_rfl) (by decide)
              clear hd ho
              rw [h3]
              have hgr := hgb (.inr (by kernel_rfl))
              have c1 := cell_grown hgr hcT (by simp)
              go_wp2_with fail
              exact ⟨rfl, gb_refl _ _, rfl, hoT.grown hgr (fun _ _ => by simp)⟩
            · clear hd ho
              have b1 := hbx.grown hg (fun e => hoxb e.symm)
              go_wp2_with ((with_reducible refine wpList_load_bk (t := 34) xb _ (y.l.map bv) _ b1 (by kernel_rfl) Try.underlying34 rfl (idSize _) ?_))
              exact ⟨rfl, gb_refl _ _, rfl⟩
            · have h5 : u 61 = idv y := hd 5 (by kernel_rfl) (by decide)
              clear hd ho
              rw [h5]
              go_wp2_with ((with_reducible refine wpList_build_id y (by kernel_rfl) ?_))
              exact ⟨rfl, gb_alloc (gb_refl _ _) _, w'.heap.size, rfl, (Bk.new w' 34 (y.l.map bv)).range⟩
            · have h4 : (u 60) = .slice A2 k c2 ∧ Ow B w' 32 (.slice A2 k c2) k (idCells st) := hd 4 (by kernel_rfl) (by decide)
              have h6 : ∃ nb, (u 62) = .slice (some ⟨nb, 0, none⟩) 1 1 ∧ w'.rangeAt nb 0 (y.l.map bv) := hd 6 (by kernel_rfl) (by decide)
              clear hd ho
              obtain ⟨e4, ho4⟩ := h4
              obtain ⟨nb, e6, hr6⟩ := h6
              rw [e4, e6]
              clear e4 e6
              have hgr := hgb (.inl rfl)
              have hgs := hgr.size
              have hsrc : Src Try.prog 32 41 (.slice (some ⟨nb, 0, none⟩) 1 1) 1 (y.l.map bv) w' := src_rd (P := Try.prog) (k := 32) (tx := 41) Try.underlying41 (Rd.mk' (NB := fun _ => True) (k := 32) hr6 trivial (Nat.le_refl _) (by decide) (by rw [List.length_map, y.h])) (bytes_one _)
              have hBw : B ≤ w'.heap.size := Nat.le_trans hBW hgs
              go_wp2_with ((with_reducible refine wpList_append_ow (s := .tmp 60) (x := .tmp 62) (v := .slice A2 k c2) (y := .slice (some ⟨nb, 0, none⟩) 1 1) (by kernel_rfl) (by kernel_rfl) Try.underlying41 okId ho4 hsrc hBw h63 hby ?_); intro v3 w3 ho3 hg3 hb3)
              rw [← idCells_one, ← idCells_append] at ho3
              rw [HOWN.out] at hg3 hb3
              exact ⟨rfl, hg3, ho3, hb3.imp id fun h => ⟨_, h, hgs⟩⟩
            · have h0 : u 56 = .pointer (some ⟨r, 0, none⟩) := hd 0 (by kernel_rfl) (by decide)
              clear hd ho
              rw [h0]
              go_wp2_with fail
              exact ⟨rfl, gb_refl _ _, rfl⟩
            · have h8 : u 64 = .pointer (some ⟨r, 0, none⟩) := hd 8 (by kernel_rfl) (by decide)
              clear hd ho
              rw [h8]
              go_wp2_with fail
              exact ⟨rfl, gb_refl _ _, rfl⟩

          case fin =>
            intro u w' hg hφ
            obtain ⟨ho7, hq7⟩ : Ow B w' 32 (u 63) (k + 1) (idCells (st ++ [y])) ∧ ((u 63).ownBlock = own ∨ ∃ q, (u 63).ownBlock = some q ∧ wr.heap.size ≤ q) := hφ 7 (by omega) (by intro k _; cases k <;> rfl)
            have h65 : u 65 = .pointer (some ⟨r, 1, none⟩) := hφ 9 (by omega) (by intro k _; cases k <;> rfl)
            simp (decide := true) only [fillAct, List.mapIdx_cons, List.mapIdx_nil, Nat.reduceAdd, if_true, if_false, List.drop_succ_cons, List.drop_zero]
            obtain ⟨A3, c3, e3⟩ := ho7.form
            rw [e3] at ho7 hq7 ⊢
            rw [h65]
            have hr1 := HHb.out.grown hg (fun e => hor e.symm)
            have c1 := hr1.cellAt (i := 1) rfl
            have f1 := hr1.frozen 1
            have c0 := hr1.cellAt (i := 0) rfl
            have f0 := hr1.frozen 0
            clear hφ hcT hoT hand e3 h65
            go_wp2_with fail
            go_roundw
            case rel =>
              have hfin : pushes n ts (xs.take (i + 1)) = st ++ [y] := by rw [HPT.out, ← HP.out, push1_even m st y h2]
              have hlen3 : (st ++ [y]).length = k + 1 := by rw [List.length_append, ← HK.out]; rfl
              have hq3 : ∀ q, (Value.slice A3 (k + 1) c3).ownBlock = some q → q ≠ r := fun q hq e => by
                rcases hq7 with h | ⟨q', h, hle⟩
                · exact hor (by rw [← h, hq, e])
                · have h1 := Option.some.inj (h.symm.trans hq); have := HG2.out.size; omega
              refine ⟨i + 1, .slice A3 (k + 1) c3, by omega, by go_num, Go.Lib.hid ?_, Go.Lib.hid ?_, Go.Lib.hid ?_⟩
              · rw [hfin]
                refine ⟨?_, ?_, fun e => hq3 _ e rfl⟩
                · have := (hr1.set 1 (.slice A3 (k + 1) c3)).set 0 (.int .i64 ((N : Int) + 1))
                  have e : (((n + (i + 1) : Nat)) : Int) = (N : Int) + 1 := by have := HN.out; omega
                  rw [e]; exact this
                · rw [hlen3]
                  exact (ho7.grown (gb_set1 _ _ _) (fun q hq e => hq3 q hq (Option.some.inj e).symm)).grown (gb_set1 _ _ _) (fun q hq e => hq3 q hq (Option.some.inj e).symm)
              · have c1 : Ch (fun q => q = r ∨ tv1.ownBlock = some q) wo w' := (HG2.out.mono (fun _ h => .inl (.inl h))).gb hg (fun q e => .inl (.inr (by rw [← HOWN1.out]; exact e)))
                have c2 := (c1.gb (gb_set1 w' ⟨r, 1, none⟩ (.slice A3 (k + 1) c3)) (fun q e => .inl (.inl (Option.some.inj e).symm))).gb (gb_set1 _ ⟨r, 0, none⟩ (.int .i64 ((N : Int) + 1))) (fun q e => .inl (.inl (Option.some.inj e).symm))
                refine HC.out.trans c2 fun q hq => ?_
                rcases hq with h | h
                · exact .inl (.inl h)
                · rcases HO.out with h' | ⟨q', h', hle⟩
                  · exact .inl (.inr (h'.symm.trans h))
                  · have := Option.some.inj (h'.symm.trans h); exact .inr (by omega)
              · rcases hq7 with h | ⟨q', h, hle⟩
                · rcases HO.out with h' | ⟨q'', h', hle'⟩
                  · exact .inl (by rw [h, HOWN1.out, h'])
                  · exact .inr ⟨q'', by rw [h, HOWN1.out, h'], hle'⟩
                · exact .inr ⟨q', h, Nat.le_trans (Nat.le_trans HC.out.size HG2.out.size) hle⟩
            case measure => simp [intOf]; omega
        · have hand : bits .and .i64 (m : Int) 1 = 1 := and_one_odd m h2 (by omega)
          have hl1 : st.length = 1 + ones (m / 2) := by rw [HL.out, ones_step m]; omega
          obtain ⟨st', t, rfl⟩ := split_last st (by omega)
          obtain ⟨k, hk⟩ : ∃ k, k = st'.length := ⟨_, rfl⟩
          rw [List.length_append] at hl1
          have hkl : k = ones (m / 2) := by simp at hl1; omega
          obtain ⟨hb2, ho2⟩ := HR2.out
          rw [show (st' ++ [t]).length = k + 1 by rw [List.length_append, ← hk]; rfl] at ho2
          obtain ⟨b2, o2, c2, htv, hB2, hl2, hc2, hr2, _⟩ := ho2.at (by simp)
          subst htv
          have hcT := hb2.cellAt (i := 1) rfl
          have hfT := hb2.frozen 1
          have hrt : wr.rangeAt b2 (o2 + k * 32) (t.l.map bv) := range_id hr2 (by rw [hk]; simp)
          have hbx := HX2.out
          have hk40 : k ≤ 40 := by rw [hkl]; exact ones_le_log 40 _ (by omega)
          have HHL := Go.Lib.hid hkl
          have HK := Go.Lib.hid hk
          have HHb := Go.Lib.hid hb2
          have HHo := Go.Lib.hid ho2
          clear hb2 ho2 hkl hl1 hr2 HR2 hk
          go_wp2_with fail
          refine wp_region_specs 9 [38, 39, 40, 41, 42, 43, 44, 45, 46] (by kernel_rfl) (by kernel_rfl) (apAφ r b2 o2 k c2 t y) (apAφ_gr r b2 o2 k c2 t y) ?step ?fin
          case step =>
            intro i_ o_ ho hi_ u w' hg hd
            rcases (by omega : i_ = 0 ∨ i_ = 1 ∨ i_ = 2 ∨ i_ = 3 ∨ i_ = 4 ∨ i_ = 5 ∨ i_ = 6 ∨ i_ = 7 ∨ i_ = 8) with rfl | rfl | rfl | rfl | rfl | rfl | rfl | rfl | rfl <;> obtain rfl := Option.some.inj ho <;>
              simp (decide := true) only [fillAct, List.mapIdx_cons, List.mapIdx_nil, Nat.reduceAdd, if_true, if_false, List.getD_cons_zero, List.getD_cons_succ]
            · clear hd ho
              go_wp2_with fail
              exact ⟨rfl, gb_refl _ _, rfl⟩
            · have h0 : u 38 = .pointer (some ⟨r, 0, none⟩) := hd 0 (by kernel_rfl)
              clear hd ho
              rw [h0]
              go_wp2_with fail
              exact ⟨rfl, gb_refl _ _, rfl⟩
            · have h1 : u 39 = .pointer (some ⟨r, 0, none⟩) := hd 1 (by kernel_rfl)
              clear hd ho
              rw [h1]
              go_wp2_with fail
              exact ⟨rfl, gb_refl _ _, rfl⟩
            · have h2 : u 40 = .pointer (some ⟨r, 1, none⟩) := hd 2 (by kernel_rfl)
              clear hd ho
              rw [h2]
              have c1 := cell_grown (row := none) hg hcT (by simp)
              go_wp2_with fail
              exact ⟨rfl, gb_refl _ _, rfl⟩
            · clear hd ho
              go_wp2_with fail
              exact ⟨rfl, gb_refl _ _, rfl⟩
            · have h3 : u 41 = .slice (some ⟨b2, o2, none⟩) (k + 1) c2 := hd 3 (by kernel_rfl)
              have h4 : u 42 = .int .i64 (k : Int) := hd 4 (by kernel_rfl)
              clear hd ho
              rw [h3, h4]
              go_wp2_with fail
              exact ⟨rfl, gb_refl _ _, rfl⟩
            · have h5 : u 43 = .pointer (some ⟨b2, o2 + k * 32, none⟩) := hd 5 (by kernel_rfl)
              clear hd ho
              rw [h5]
              have r1 := rangeAt_grown hrt hg (by simp)
              go_wp2_with ((with_reducible refine wpList_load_range (t := 34) b2 (o2 + k * 32) (t.l.map bv) _ r1 (by kernel_rfl) Try.underlying34 rfl (idSize _) ?_))
              exact ⟨rfl, gb_refl _ _, rfl⟩
            · clear hd ho
              have b1 := hbx.grown hg (by simp)
              go_wp2_with ((with_reducible refine wpList_load_bk (t := 34) xb _ (y.l.map bv) _ b1 (by kernel_rfl) Try.underlying34 rfl (idSize _) ?_))
              exact ⟨rfl, gb_refl _ _, rfl⟩
            · have h6 : u 44 = idv t := hd 6 (by kernel_rfl)
              have h7 : u 45 = idv y := hd 7 (by kernel_rfl)
              clear hd ho
              rw [h6, h7]
              go_wp2_with (go_at_call 55; ((with_reducible refine (node_any t y _).mono ?_); rintro e w3 ⟨rfl, g3⟩))
              exact ⟨rfl, g3, rfl⟩

          case fin =>
            intro u w' hg hφ
            have h9 : u 46 = idv (nd t y) := hφ 8 (by omega)
            have h9' : u 46 = .agg ((nd t y).l.map bv).toArray := h9
            simp (decide := true) only [fillAct, List.mapIdx_cons, List.mapIdx_nil, Nat.reduceAdd, if_true, if_false, List.drop_succ_cons, List.drop_zero]
            rw [h9']
            have bx1 := hbx.grown hg (by simp)
            have hndl : (y.l.map bv).length = ((nd t y).l.map bv).length := by rw [List.length_map, List.length_map, y.h, (nd t y).h]
            have hr1 := HHb.out.grown hg (by simp)
            have hown1 : tv1.ownBlock = some b2 := HO2.out.symm
            have hb2lt : b2 < xb := by have := (HR.out.2.1.lt hown1).2; omega
            have hb2r : b2 ≠ r := fun e => HR.out.2.2 (by rw [hown1, e])
            clear hφ hcT hfT hand
            go_wp2_with ((with_reducible refine wpList_store_bk (t := 34) xb 34 (y.l.map bv) ((nd t y).l.map bv) bx1 (by kernel_rfl) (by kernel_rfl) (idSize _) hndl (idOne _) ?_)
                         intro w6 h6 g6 z6
                         have hr6 := hr1.grown g6 (fun e => hxbr (Option.some.inj e).symm)
                         have c6 := hr6.cellAt (i := 1) rfl
                         have f6 := hr6.frozen 1)
            go_roundw
            case rel =>
              refine ⟨m / 2, nd t y, st', .slice (some ⟨b2, o2, none⟩) k c2, by rw [Int.natCast_ediv]; rfl, by omega, Go.Lib.hid ?_, Go.Lib.hid (HK.out.symm.trans HHL.out), Go.Lib.hid ⟨hr6.set 1 _, ?_⟩, Go.Lib.hid hown1.symm, Go.Lib.hid (h6.far (by simpa using hxbr) _), Go.Lib.hid ?_⟩
              · rw [← HP.out, push1_odd m st' t y h2]
              · have h1 := HHo.out.takeTo k (by omega)
                rw [idCells_take, HK.out, List.take_left] at h1
                rw [HK.out]
                exact (((h1.grown hg (fun _ _ => by simp)).grown g6 (fun q hq e => by have h1 := Option.some.inj (show some b2 = some q from hq); have h2 := Option.some.inj e; omega))).grown (gb_set1 _ _ _) (fun q hq e => by have h1 := Option.some.inj (show some b2 = some q from hq); have h2 := Option.some.inj e; exact hb2r (h1.trans h2.symm))
              · exact (((HG2.out.gb hg (fun _ h => by cases h)).gb g6 (fun q e => .inr (by have := Option.some.inj e; omega))).gb (gb_set1 _ _ _) (fun q e => .inl (Option.some.inj e).symm))
            case measure => simp [intOf]; omega
    · obtain rfl : i = xs.length := by omega
      have hl' : decide (xs.length < xs.length) = false := decide_eq_false (by omega)
      go_wp2_with fail
      go_ret
      refine ⟨rfl, tv1, ?_, HC.out, HO.out⟩
      have := HR.out
      rwa [List.take_length] at this
end Go.Proofs.Ytajgklomcapboaa
