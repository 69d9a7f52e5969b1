/- ShortLists returns true for every input, and its arguments read as they did. Conditions: none. -/
import Derived.Test.YtajgklomcapboaaCuts
import Derived.Test.YtajgklomcapboaaRefTree
import Derived.Test.YtajgklomcapboaaOpen
/- scrivenerlaw07.few: the first entries, cut, and their texts. Strings' slices; the reference's sums and roots. -/
namespace Sc
open Go Go.RowKit
/-- A slice of texts. -/
def RSS (w : World) (v : Value) (ls : List (List UInt8)) : Prop := Rd (fun b => b < w.heap.size) w 1 v ls.length (ls.map sv)
theorem RSS.gr {w w' : World} {v : Value} {ls : List (List UInt8)} (h : RSS w v ls) (hg : w.grownBy w' none) : RSS w' v ls :=
  Rd.mono (Rd.grown h hg (by simp)) fun _ hb => Nat.lt_of_lt_of_le hb hg.size
end Sc
namespace Go.Proofs.Ytajgklomcapboaa
open Go.RowKit Go.Shelf Sc
theorem okSl7 : InfoOk Try.prog 27 1 24 := by unfold InfoOk; kernel_rfl
theorem okStr7 : InfoOk Try.prog 9 1 16 := by unfold InfoOk; kernel_rfl
theorem build_str7 (s : ByteArray) (w : World) : (Instr.buildSlice 24 1 #[(0, .string s)]).run Try.prog w = .ok (.slice (some ⟨w.heap.size, 0, none⟩) 1 1) (w.alloc (.cells #[.string s] 9)) := by kernel_rfl
theorem wpList_build_str7 {w : World} {ops : Array Oper} {rest : List Oper} {a : Act} {Q : Exit → Act → World → Prop} {dst : Option Tmp} {ty : TypeId} {pos : String} {aft : Array Edge} {x : Operand} (l : List UInt8) (hx : a.eval x = sv l)
    (h : wpList Try.prog ops Q rest (a.put dst (.slice (some ⟨w.heap.size, 0, none⟩) 1 1)) (w.alloc (.cells #[sv l] 9))) :
    wpList Try.prog ops Q (⟨dst, .buildSlice 24 1 #[(0, x)], ty, pos, aft, none⟩ :: rest) a w := by
  refine wpList_run rfl ?_ h
  simp only [execOp, List.map_toArray, List.map_cons, List.map_nil, hx, Sem.run_bind]
  unfold sv
  rw [build_str7]
  rfl
def few (ls : List (List UInt8)) : List (List UInt8) := capped 20 100 ls
theorem few_len (ls : List (List UInt8)) : (few ls).length ≤ 20 := capped_length 20 100 ls
theorem few_each (ls : List (List UInt8)) : ∀ l ∈ few ls, l.length ≤ 100 := capped_each 20 100 ls
set_option maxHeartbeats 2000000 in
theorem few_any (v : Value) (ls : List (List UInt8)) (w : World) (hv : RLL w v ls) :
    Calls Try.prog 16 #[v] w fun e w' => ∃ A c A2 c2, e = .returned (.tuple #[.slice A (few ls).length c, .slice A2 (few ls).length c2]) ∧
      RLL w' (.slice A (few ls).length c) (few ls) ∧ RSS w' (.slice A2 (few ls).length c2) (few ls) ∧ w.grownBy w' none := by
  go_enter Try.func16, Try.ntmps16
  obtain ⟨vs0, hv1, hv2⟩ := id hv
  obtain ⟨A, c, rfl, hc⟩ := hv1.form
  have hm := hv1.le
  unfold maxLen at hm
  have H1 := Go.Lib.hid hv1
  have H2 := Go.Lib.hid hv2
  clear hv1 hv2 hv hc
  unfold few
  go_wp2_with fail
  go_loopw [4, 5, 10] (fun vo va n wr => ∃ k : Nat, k ≤ ls.length ∧ n = .int .i64 k ∧ Hid (OwBB w.heap.size (fun b => b < w.heap.size) wr vo (capped 20 100 (ls.take k))) ∧
      Hid (Ow w.heap.size wr 1 va (capped 20 100 (ls.take k)).length ((capped 20 100 (ls.take k)).map sv) ∧ (∀ b, va.ownBlock = some b → vo.ownBlock ≠ some b)) ∧ Hid (w.grownBy wr none))
    (fun _ _ n _ => ls.length - (intOf n).toNat)
  case atStart => exact ⟨0, Nat.zero_le _, rfl, Go.Lib.hid (OwBB.nil _ _ _), Go.Lib.hid ⟨Ow.nil _ _ _, by intro b hb; cases hb⟩, Go.Lib.hid (gb_refl _ _)⟩
  case round =>
    obtain ⟨k, hk, rfl, Ho, Ht, Hg⟩ := hrel
    by_cases hlt : k < ls.length
    · obtain ⟨b, o, c', he, hb, hnc, hcm, hcell⟩ := H1.out.at (by omega)
      injection he with hA _ hcc
      subst hA hcc
      obtain ⟨l, hl⟩ : ∃ l, ls[k]? = some l := ⟨_, List.getElem?_eq_getElem hlt⟩
      obtain ⟨u, hu, hru⟩ := H2.out k l hl
      obtain ⟨A1, c1, rfl, hc1⟩ := hru.form
      have c0 : wr.cell? ⟨b, o + k, none⟩ = some (.slice A1 l.length c1) := cell_grown Hg.out (hcell k _ hu) (by simp)
      have HL := Go.Lib.hid hl
      have HR := Go.Lib.hid (Rd.grown hru Hg.out (by simp))
      have hkI : (0 : Int) ≤ (k : Int) ∧ (k : Int) < 9223372036854775807 := by omega
      have hklt : decide (k < ls.length) = true := decide_eq_true hlt
      clear hl hu hru hcell
      by_cases h8 : k < 20
      · have h8' : decide ((k : Int) < 20) = true := decide_eq_true (by omega)
        obtain ⟨q, hq⟩ : ∃ q, min l.length 100 = q := ⟨_, rfl⟩
        have hrq := RdB.takeTo HR.out 100 q hq
        obtain ⟨T, hT⟩ : ∃ T, T = l.take 100 := ⟨_, rfl⟩
        rw [← hT] at hrq
        obtain ⟨ow, ho1, ho2⟩ := Ho.out
        obtain ⟨Ao, co, rfl⟩ := ho1.form
        obtain ⟨ht1, ht2⟩ := Ht.out
        obtain ⟨At, ct, rfl⟩ := ht1.form
        have hs1 : Src Try.prog 1 22 (.slice (some ⟨wr.heap.size, 0, none⟩) 1 1) 1 [.slice A1 q c1] (wr.alloc (.cells #[.slice A1 q c1] 27)) := src_new (P := Try.prog) Try.underlying22 wr 27 1 1 [.slice A1 q c1] rfl (by intro u hu; rw [List.mem_singleton.1 hu]; rfl)
        have hB1 : w.heap.size ≤ (wr.alloc (.cells #[.slice A1 q c1] 27)).heap.size := by rw [World.size_alloc]; have := Hg.out.size; omega
        have hcl := capped_length 20 100 (ls.take k)
        have h63 : (capped 20 100 (ls.take k)).length + 1 ≤ maxLen := Nat.le_trans (Nat.succ_le_succ hcl) (by decide)
        have hby : ((capped 20 100 (ls.take k)).length + 1) * 24 ≤ 140737488355328 := by omega
        have hby2 : ((capped 20 100 (ls.take k)).length + 1) * 16 ≤ 140737488355328 := by omega
        have OL := Go.Lib.hid ho1.len
        have OW := Go.Lib.hid ho2
        have HCS := Go.Lib.hid (capped_snoc 20 100 k ls l HL.out h8)
        rw [← hT] at HCS
        have Hrq := Go.Lib.hid hrq
        have hoa := ho1.alloc (.cells #[.slice A1 q c1] 27)
        have ho1' := Go.Lib.hid ho1
        have hta := Go.Lib.hid (ht1.alloc (.cells #[.slice A1 q c1] 27))
        have HT1 := Go.Lib.hid ht1
        have HT2 := Go.Lib.hid ht2
        clear ho1 ho2 hcl hrq ht1 ht2 hT
        go_wp2_with (first
          | ((with_reducible refine wpList_min (x := .tmp 19) l.length 100 q hq (by kernel_rfl) (by kernel_rfl) ?_))
          | ((with_reducible refine wpList_append_ow (s := .tmp 22) (x := .tmp 24) (v := .slice Ao (capped 20 100 (ls.take k)).length co) (y := .slice (some ⟨wr.heap.size, 0, none⟩) 1 1) (by kernel_rfl) (by kernel_rfl) Try.underlying22 okSl7 hoa hs1 hB1 h63 hby ?_)
             intro v3 w3 ho3 hg3 hb3
             have hno : ∀ r, (Value.slice Ao (capped 20 100 (ls.take k)).length co).ownBlock = some r → ¬ r < w.heap.size := fun r hr hN => by have := (ho1'.out.lt hr).1; omega
             have HNO := Go.Lib.hid hno
             have hr3 : RdB (fun b => b < w.heap.size) w3 (.slice A1 q c1) T := Rd.grown (Rd.alloc Hrq.out _) hg3 hno
             clear hno
             have ht3 : Ow w.heap.size w3 1 (.slice At (capped 20 100 (ls.take k)).length ct) (capped 20 100 (ls.take k)).length ((capped 20 100 (ls.take k)).map sv) := hta.out.grown hg3 (fun b hb => HT2.out b hb)
             have hg03 := Ow.gb (gb_alloc Hg.out _) hoa (Nat.le_refl _) hg3
             have hd3 : ∀ b, (Value.slice At (capped 20 100 (ls.take k)).length ct).ownBlock = some b → v3.ownBlock ≠ some b := by
               intro b hb e
               rcases hb3 with h | h
               · rw [h] at e; exact HT2.out b hb e
               · rw [h] at e; have := Option.some.inj e; have := (HT1.out.lt hb).2; rw [World.size_alloc] at *; omega
             obtain ⟨A3, c3, rfl⟩ := ho3.form
             have HG03 := Go.Lib.hid hg03
             have HO3 := Go.Lib.hid ho3
             have HD3 := Go.Lib.hid hd3
             have HG3 := Go.Lib.hid hg3
             have HHB3 := Go.Lib.hid hb3
             have hs5 : Src Try.prog 1 24 (.slice (some ⟨w3.heap.size, 0, none⟩) 1 1) 1 [sv T] (w3.alloc (.cells #[sv T] 9)) := src_new (P := Try.prog) Try.underlying24 w3 9 1 1 [sv T] rfl (by intro u hu; rw [List.mem_singleton.1 hu]; rfl)
             have hB5 : w.heap.size ≤ (w3.alloc (.cells #[sv T] 9)).heap.size := by rw [World.size_alloc]; have := hg03.size; omega
             have ht5 := ht3.alloc (.cells #[sv T] 9)
             have HT3 := Go.Lib.hid ht3
             clear ho3 hd3 hg3 hb3 hg03 ht3)
          | ((with_reducible refine wpList_conv_bs (x := .tmp 27) (v := .slice A1 q c1) Try.underlying27 Try.underlying5 Try.underlying9 T (by kernel_rfl) hr3 ?_))
          | ((with_reducible refine wpList_build_str7 (x := .tmp 28) T (by kernel_rfl) ?_))
          | ((with_reducible refine wpList_append_ow (s := .tmp 26) (x := .tmp 29) (v := .slice At (capped 20 100 (ls.take k)).length ct) (y := .slice (some ⟨w3.heap.size, 0, none⟩) 1 1) (by kernel_rfl) (by kernel_rfl) Try.underlying24 okStr7 ht5 hs5 hB5 h63 hby2 ?_)
             intro v5 w5 ho5 hg5 hb5
             obtain ⟨A5, c5, rfl⟩ := ho5.form))
        go_roundw
        case rel =>
          have hgA := Ow.gb (gb_alloc HG03.out _) ht5 (Nat.le_refl _) hg5
          refine ⟨k + 1, by omega, by go_num, Go.Lib.hid ?_, Go.Lib.hid ⟨?_, ?_⟩, Go.Lib.hid hgA⟩
          · rw [HCS.out]
            have h := OwBB.snoc OW.out (by have := OL.out; omega) Hrq.out HO3.out (gb_trans (gb_alloc (gb_refl wr _) _) HG3.out) HNO.out
            have hx : ∀ r, (Value.slice At (capped 20 100 (ls.take k)).length ct).ownBlock = some r → ¬ r < w.heap.size := fun r hr hN => by have := (HT1.out.lt hr).1; omega
            exact (h.gr (gb_alloc (gb_refl w3 _) _)).grown hg5 (fun b hb e => HD3.out b e hb) hx
          · rw [HCS.out, List.map_append, List.length_append]; exact ho5
          · intro b hb e
            rcases hb5 with h | h
            · rw [h] at hb; exact HD3.out b hb e
            · rw [h] at hb; have := Option.some.inj hb; have := (HO3.out.lt e).2; rw [World.size_alloc] at *; omega
        case measure => simp [intOf]; omega
      · have h8' : decide ((k : Int) < 20) = false := decide_eq_false (by omega)
        have HCS := Go.Lib.hid (capped_same 20 100 k ls (by omega))
        clear HL HR
        go_wp2_with fail
        go_roundw
        case rel =>
          refine ⟨k + 1, by omega, by go_num, ?_, ?_, Hg⟩
          · rw [HCS.out]; exact Ho
          · rw [HCS.out]; exact Ht
        case measure => simp [intOf]; omega
    · obtain rfl : k = ls.length := by omega
      have hl' : decide (ls.length < ls.length) = false := decide_eq_false (by omega)
      have hrd := Ho.out.rd (NB' := fun b => b < wr.heap.size) (fun b hb => Nat.lt_of_lt_of_le hb Hg.out.size) (fun b hb => by obtain ⟨vs, h1, _⟩ := Ho.out; exact (h1.lt hb).2)
      have hrt := Ht.out.1.rd (NB := fun b => b < wr.heap.size) (fun b hb => (Ht.out.1.lt hb).2)
      rw [List.take_of_length_le (Nat.le_refl _)] at hrd hrt
      obtain ⟨_, hx, _⟩ := id hrd
      obtain ⟨Ax, cx, rfl, _⟩ := Rd.form hx
      obtain ⟨Ay, cy, rfl, _⟩ := Rd.form hrt
      clear hx
      go_wp2_with fail
      go_ret2
      exact ⟨_, _, _, _, rfl, hrd, hrt, Hg.out⟩
end Go.Proofs.Ytajgklomcapboaa
/- scrivenerref07: Sum, Top, Root. -/
namespace Sc
open Go Go.RowKit
theorem rss_of_cut {w : World} {v : Value} {n k : Nat} {ls : List (List UInt8)} (h : Rd (fun b => b < w.heap.size) w 1 v (n - k) (((ls.map sv).drop (k * 1)).take ((n - k) * 1))) (hn : ls.length = n) : RSS w v (ls.drop k) := by
  unfold RSS
  rw [List.length_drop, hn, List.map_drop]
  rw [Nat.mul_one, Nat.mul_one, List.take_of_length_le (by rw [List.length_drop, List.length_map, hn]; exact Nat.le_refl _)] at h
  exact h
def cutP (n i : Nat) (l : List UInt8) : List UInt8 := l.take n ++ (List.replicate (i - n) 0 ++ l.drop i)
theorem cutP_start (n : Nat) (l : List UInt8) : cutP n n l = l := by unfold cutP; rw [Nat.sub_self]; simp
theorem cutP_len {n i : Nat} {l : List UInt8} (hi : i ≤ 32) (hn : n ≤ i) (hl : l.length = 32) : (cutP n i l).length = 32 := by
  unfold cutP; rw [List.length_append, List.length_append, List.length_take, List.length_replicate, List.length_drop]; omega
theorem cutP_step {n i : Nat} {l : List UInt8} (hi : i < 32) (hn : n ≤ i) (hl : l.length = 32) : (cutP n i l).set i 0 = cutP n (i + 1) l := by
  unfold cutP
  have ht : (l.take n).length = n := by rw [List.length_take]; omega
  rw [List.set_append_right _ _ (by omega), ht, List.set_append_right _ _ (by rw [List.length_replicate]; exact Nat.le_refl _), List.length_replicate, Nat.sub_self, List.drop_eq_getElem_cons (by omega : i < l.length), List.set_cons_zero,
    show i + 1 - n = (i - n) + 1 by omega, List.replicate_succ', List.append_assoc]
  rfl
theorem cutP_end {n i : Nat} {x : Id} (hi : i = max 32 n) : cutP n i x.l = (cutId (min n 32) x).l := by
  unfold cutP cutId
  have hx := x.h
  show _ = x.l.take (min n 32) ++ List.replicate (32 - min (min n 32) 32) 0
  rw [List.drop_of_length_le (by omega), List.append_nil]
  rcases Nat.le_total n 32 with h | h
  · rw [Nat.min_eq_left h, Nat.min_eq_left h, show i = 32 by omega]
  · rw [show i = n by omega, Nat.sub_self, Nat.min_eq_right h, List.take_of_length_le (by omega), List.take_of_length_le (by omega)]; rfl
end Sc
namespace Go.Proofs.Ytajgklomcapboaa
open Go.RowKit Go.Shelf Sc
set_option maxHeartbeats 2000000 in
set_option maxRecDepth 100000 in
theorem rsum_any (c : Int) (l : List UInt8) (hl : l.length ≤ 1000001) (w : World) : Calls Try.prog 28 #[.int .i64 c, sv l] w fun e w' => e = .returned (idv (sumC c l)) ∧ w.grownBy w' none := by
  go_enter Try.func28, Try.ntmps28
  obtain ⟨X, hX⟩ : ∃ X, X = sha l := ⟨_, rfl⟩
  obtain ⟨n, hn⟩ : ∃ n : Nat, n = (max 1 c).toNat := ⟨_, rfl⟩
  have hn1 : 1 ≤ n := by omega
  have HS : Hid (cutId (min n 32) X = sumC c l) := Go.Lib.hid (by rw [hX]; unfold sumC cutN; rw [hn]; congr 1; omega)
  have hof : ∀ w : World, Calls Try.prog 53 #[sv l] w fun e w' => e = .returned (idv X) ∧ w.grownBy w' none := fun w => by rw [hX]; exact refOf_any l (by omega) w
  obtain ⟨W1, hW1⟩ : ∃ W1, W1 = w.alloc (.cells idZ.toArray 34) := ⟨_, rfl⟩
  have b1 : Bk W1 w.heap.size 34 idZ := by rw [hW1]; exact Bk.new w _ _
  have g1 : w.grownBy W1 none := by rw [hW1]; exact gb_alloc (gb_refl w none) _
  have HW := Go.Lib.hid hW1
  rw [← HS.out]
  clear hW1 hX
  go_upto_region 2 with (first
    | ((with_reducible refine wpList_alloc_row (E := 34) idZ infoId ?_); first | rw [← HW.out] | skip)
    | (go_at_call 53; ((with_reducible refine (hof _).mono ?_); rintro e w2 ⟨rfl, g2⟩); have b2 := b1.grown g2 (by simp); have bx := Bk.new w2 34 idZ)
    | ((with_reducible refine wpList_store_bk (t := 34) w2.heap.size 34 idZ (X.l.map bv) bx (by kernel_rfl) (by kernel_rfl) (idSize _) (idLen _) (idOne _) ?_); intro w3 h3 g3 z3))
  have b3 := (b2.alloc (.cells idZ.toArray 34)).grown g3 (by have := b2.lt; simp; omega)
  have g03 := gb_trans_new (gb_alloc (gb_trans g1 g2) (.cells idZ.toArray 34)) g3 (Nat.le_trans g1.size g2.size)
  have hlt : w.heap.size < w2.heap.size := b2.lt
  obtain ⟨B, hB⟩ : ∃ B, B = w2.heap.size := ⟨_, rfl⟩
  rw [← hB] at h3 hlt ⊢
  have hxl := X.h
  clear g1 g2 g3 z3 b1 b2 bx hB hof
  have HB3 := Go.Lib.hid b3
  have HG3 := Go.Lib.hid g03
  have HX3 := Go.Lib.hid h3
  clear b3 g03 h3
  have fin : ∀ (i : Nat) (wr : World), i = max 32 n → Bk wr B 34 ((cutP n i X.l).map bv) → Bk wr B 34 ((cutId (min n 32) X).l.map bv) := fun i wr hi h => by rw [← cutP_end hi]; exact h
  by_cases hc : c < 1
  · have hd : decide (c < 1) = true := decide_eq_true hc
    have HM : Hid ((1 : Int) = (n : Int)) := Go.Lib.hid (by omega)
    clear hn
    go_wp2_with fail
    go_loopw [7] (fun v wr => ∃ i : Nat, n ≤ i ∧ i ≤ max 32 n ∧ v = .int .i64 (i : Int) ∧ Hid (Bk wr B 34 ((cutP n i X.l).map bv)) ∧ Hid (Bk wr w.heap.size 34 idZ) ∧ Hid (w.grownBy wr none)) (fun v _ => 32 - (intOf v).toNat)
    case atStart => exact ⟨n, Nat.le_refl _, Nat.le_max_right _ _, by rw [HM.out], by rw [cutP_start]; exact HX3, HB3, HG3⟩
    case round =>
      obtain ⟨i, hi1, hi2, rfl, HX, HB, HG⟩ := hrel
      clear HM HX3 HB3 HG3
      by_cases hlt2 : i < 32
      · have hI : (0 : Int) ≤ (i : Int) ∧ (i : Int) < 32 := by omega
        have c0 := HX.out.cellAt (i := i) (List.getElem?_eq_getElem (by rw [List.length_map, cutP_len (by omega) hi1 hxl]; omega))
        have f0 := HX.out.frozen i
        generalize ((cutP n i X.l).map bv)[i]'_ = y0 at c0
        go_wp2_with fail
        go_roundw
        case rel =>
          refine ⟨i + 1, by omega, by omega, by go_num, Go.Lib.hid ?_, Go.Lib.hid (HB.out.far (p := ⟨B, i, none⟩) (by show w.heap.size ≠ B; omega) _), Go.Lib.hid (gb_set_new HG.out _ _ (by show w.heap.size ≤ B; omega))⟩
          have h := HX.out.set i (bv 0)
          rw [← List.map_set, cutP_step hlt2 hi1 hxl] at h
          exact h
        case measure => simp [intOf]; omega
      · have hb := fin i wr (by omega) HX.out
        have hbz := HB.out
        obtain ⟨Y, hY⟩ : ∃ Y, cutId (min n 32) X = Y := ⟨_, rfl⟩
        rw [hY] at hb
        have HY := Go.Lib.hid hY
        clear hY
        clear HX
        go_wp2_with (first
          | ((with_reducible refine wpList_load_bk (x := .tmp 5) (t := 34) B _ (Y.l.map bv) _ hb (by kernel_rfl) Try.underlying34 rfl (idSize _) ?_))
          | ((with_reducible refine wpList_store_bk (t := 34) w.heap.size 34 idZ (Y.l.map bv) hbz (by kernel_rfl) (by kernel_rfl) (idSize _) (idLen _) (idOne _) ?_); intro w5 h5 g5 z5))
        try go_frame
        exact bodyPost_ret (results_id rfl _ _ w.heap.size Y rfl h5) rfl ⟨by rw [HY.out], gb_trans_new HG.out g5 (Nat.le_refl _)⟩
  · have hd : decide (c < 1) = false := decide_eq_false hc
    have HM : Hid (c = (n : Int)) := Go.Lib.hid (by omega)
    clear hn
    go_wp2_with fail
    go_loopw [7] (fun v wr => ∃ i : Nat, n ≤ i ∧ i ≤ max 32 n ∧ v = .int .i64 (i : Int) ∧ Hid (Bk wr B 34 ((cutP n i X.l).map bv)) ∧ Hid (Bk wr w.heap.size 34 idZ) ∧ Hid (w.grownBy wr none)) (fun v _ => 32 - (intOf v).toNat)
    case atStart => exact ⟨n, Nat.le_refl _, Nat.le_max_right _ _, by rw [HM.out], by rw [cutP_start]; exact HX3, HB3, HG3⟩
    case round =>
      obtain ⟨i, hi1, hi2, rfl, HX, HB, HG⟩ := hrel
      clear HM HX3 HB3 HG3
      by_cases hlt2 : i < 32
      · have hI : (0 : Int) ≤ (i : Int) ∧ (i : Int) < 32 := by omega
        have c0 := HX.out.cellAt (i := i) (List.getElem?_eq_getElem (by rw [List.length_map, cutP_len (by omega) hi1 hxl]; omega))
        have f0 := HX.out.frozen i
        generalize ((cutP n i X.l).map bv)[i]'_ = y0 at c0
        go_wp2_with fail
        go_roundw
        case rel =>
          refine ⟨i + 1, by omega, by omega, by go_num, Go.Lib.hid ?_, Go.Lib.hid (HB.out.far (p := ⟨B, i, none⟩) (by show w.heap.size ≠ B; omega) _), Go.Lib.hid (gb_set_new HG.out _ _ (by show w.heap.size ≤ B; omega))⟩
          have h := HX.out.set i (bv 0)
          rw [← List.map_set, cutP_step hlt2 hi1 hxl] at h
          exact h
        case measure => simp [intOf]; omega
      · have hb := fin i wr (by omega) HX.out
        have hbz := HB.out
        obtain ⟨Y, hY⟩ : ∃ Y, cutId (min n 32) X = Y := ⟨_, rfl⟩
        rw [hY] at hb
        have HY := Go.Lib.hid hY
        clear hY
        clear HX
        go_wp2_with (first
          | ((with_reducible refine wpList_load_bk (x := .tmp 5) (t := 34) B _ (Y.l.map bv) _ hb (by kernel_rfl) Try.underlying34 rfl (idSize _) ?_))
          | ((with_reducible refine wpList_store_bk (t := 34) w.heap.size 34 idZ (Y.l.map bv) hbz (by kernel_rfl) (by kernel_rfl) (idSize _) (idLen _) (idOne _) ?_); intro w5 h5 g5 z5))
        try go_frame
        exact bodyPost_ret (results_id rfl _ _ w.heap.size Y rfl h5) rfl ⟨by rw [HY.out], gb_trans_new HG.out g5 (Nat.le_refl _)⟩
def rtopφ (n k c9 m : Nat) (A : Option Addr) (c : Int) (ld : List (List UInt8)) (R1 R2 : Sc.Id) (i : Nat) (v : Value) (w : World) : Prop := match i with
  | 0 => v = .int .i64 c
  | 1 => v = .slice A n c9
  | 2 => v = .int .i64 (k : Int)
  | 3 => v = .slice A k c9
  | 4 => v = idv R1
  | 5 => v = sv R1.l
  | 6 => v = sv (1 :: R1.l)
  | 7 => v = .int .i64 c
  | 8 => v = .slice A n c9
  | 9 => v = .int .i64 (k : Int)
  | 10 => ∃ A2 c2, v = .slice A2 m c2 ∧ RSS w (.slice A2 m c2) ld
  | 11 => v = idv R2
  | 12 => v = sv R2.l
  | 13 => v = sv (1 :: (R1.l ++ R2.l))
  | _ => True
theorem rtopφ_gr (n k c9 m : Nat) (A : Option Addr) (c : Int) (ld : List (List UInt8)) (R1 R2 : Sc.Id) : ∀ i v w w', rtopφ n k c9 m A c ld R1 R2 i v w → Gr w w' → rtopφ n k c9 m A c ld R1 R2 i v w' := by
  intro i v w w' h hg
  match i with
  | 0 => exact h
  | 1 => exact h
  | 2 => exact h
  | 3 => exact h
  | 4 => exact h
  | 5 => exact h
  | 6 => exact h
  | 7 => exact h
  | 8 => exact h
  | 9 => exact h
  | 10 => exact by obtain ⟨A2, c2, e, h⟩ := h; exact ⟨A2, c2, e, RSS.gr h hg⟩
  | 11 => exact h
  | 12 => exact h
  | 13 => exact h
  | i + 14 => exact h
abbrev RRoot (c : Int) (n : Nat) : Prop := ∀ (v : Value) (ls : List (List UInt8)) (w : World), ls.length < n → RSS w v ls → (∀ l ∈ ls, l.length ≤ 1000000) →
  Calls Try.prog 18 #[.int .i64 c, v] w fun e w' => e = .returned (idv (rootH (sumC c) ls)) ∧ w.grownBy w' none
set_option maxHeartbeats 4000000 in
theorem rtop_of (c : Int) (v : Value) (ls : List (List UInt8)) (w : World) (hI : RRoot c ls.length) (hv : RSS w v ls) (hl : ∀ l ∈ ls, l.length ≤ 1000000) (hn0 : ls.length ≤ 1000000) :
    Calls Try.prog 44 #[.int .i64 c, v] w fun e w' => e = .returned (sv (topH (sumC c) ls)) ∧ w.grownBy w' none := by
  go_enter Try.func44, Try.ntmps44
  have HLS := Go.Lib.hid hv
  have hrd := hv
  unfold RSS at hrd
  obtain ⟨A, c9, rfl, hc⟩ := Rd.form hrd
  obtain ⟨n, hn⟩ : ∃ n, n = ls.length := ⟨_, rfl⟩
  have HI := Go.Lib.hid hI
  rw [← hn] at HLS HI hrd hc hn0 ⊢
  clear hI hv
  rcases (by omega : n = 0 ∨ n = 1 ∨ 2 ≤ n) with h0 | h0 | h0
  · subst h0
    obtain rfl : ls = [] := List.eq_nil_of_length_eq_zero hn.symm
    clear hrd hl HI HLS hn0 hn hc
    go_wp2_with fail
    go_ret
    rw [topH_nil]
    exact ⟨rfl, gb_refl _ _⟩
  · subst h0
    obtain ⟨x, rfl⟩ : ∃ x, ls = [x] := List.length_eq_one_iff.1 hn.symm
    obtain ⟨b, o, c', he, hb, hnc, hcm, hcell⟩ := hrd.at (by omega)
    injection he with hA _ hcc
    subst hA hcc
    have ce := hcell 0 (sv x) rfl
    rw [Nat.add_zero] at ce
    have hxl := hl x (by simp)
    have hal : [(0 : UInt8)].length + x.length ≤ 9223372036854775807 := by simp only [List.length_cons, List.length_nil]; omega
    obtain ⟨T, hT⟩ : ∃ T, T = topH (sumC c) [x] := ⟨_, rfl⟩
    have hT2 : T = 0 :: x := by rw [hT, topH_one]
    rw [← hT]
    have HT2 := Go.Lib.hid hT2
    clear hcell hl HI HLS hrd hT hT2 hn0 hn
    go_wp2_with ((with_reducible refine wpList_add_str (z := .tmp 14) [0] x (by kernel_rfl) (by kernel_rfl) hal ?_))
    go_ret
    rw [HT2.out]
    exact ⟨rfl, gb_refl _ _⟩
  · obtain ⟨k, hk⟩ : ∃ k, k = half n := ⟨_, rfl⟩
    have hk1 : 1 ≤ k := by rw [hk]; exact half_pos n
    have hk2 : k < n := by rw [hk]; exact half_lt h0
    have hkn : k ≤ n := by omega
    obtain ⟨lk, hlk⟩ : ∃ lk, ls.take k = lk := ⟨_, rfl⟩
    obtain ⟨ld, hld⟩ : ∃ ld, ls.drop k = ld := ⟨_, rfl⟩
    obtain ⟨R1, hR1⟩ : ∃ R1, rootH (sumC c) lk = R1 := ⟨_, rfl⟩
    obtain ⟨R2, hR2⟩ : ∃ R2, rootH (sumC c) ld = R2 := ⟨_, rfl⟩
    obtain ⟨m, hm⟩ : ∃ m, m = n - k := ⟨_, rfl⟩
    have hlkl : lk.length = k := by rw [← hlk, List.length_take]; omega
    have hldl : ld.length = m := by rw [← hld, List.length_drop, hm, hn]
    have HKL : Hid (lk.length < n ∧ (∀ l ∈ lk, l.length ≤ 1000000) ∧ ld.length < n ∧ ∀ l ∈ ld, l.length ≤ 1000000) :=
      Go.Lib.hid ⟨by omega, fun l h => hl l (by rw [← hlk] at h; exact List.mem_of_mem_take h), by omega, fun l h => hl l (by rw [← hld] at h; exact List.mem_of_mem_drop h)⟩
    have HLK : Hid (RSS w (.slice A k c9) lk) := Go.Lib.hid (by
      have h := Rd.takeTo hrd k hkn
      unfold RSS
      rw [hlkl, ← hlk, List.map_take]
      rw [Nat.mul_one] at h; exact h)
    have HTT : Hid (topH (sumC c) ls = 1 :: (R1.l ++ R2.l)) := Go.Lib.hid (by rw [topH_two _ (by omega), ← hn, ← hk, hlk, hld, hR1, hR2])
    have HLN : Hid (ls.length = n) := Go.Lib.hid hn.symm
    have HLD := Go.Lib.hid hld
    have HDL := Go.Lib.hid hldl
    have HR1 := Go.Lib.hid hR1
    have HR2 := Go.Lib.hid hR2
    have HM := Go.Lib.hid hm
    have hkI : (1 : Int) ≤ (k : Int) ∧ (k : Int) < (n : Int) := by omega
    have hncI : (n : Int) ≤ (c9 : Int) ∧ (n : Int) ≤ 1000000 := by omega
    have hal1 : [(1 : UInt8)].length + R1.l.length ≤ 9223372036854775807 := by rw [R1.h]; decide
    have hal2 : (1 :: R1.l).length + R2.l.length ≤ 9223372036854775807 := by rw [List.length_cons, R1.h, R2.h]; decide
    have hhalf : ∀ w : World, Calls Try.prog 48 #[.int .i64 (n : Int)] w fun e w' => e = .returned (.int .i64 (k : Int)) ∧ w' = w := fun w => by rw [hk]; exact refHalf_any n h0 (by omega) w
    clear hrd hl hk hlk hld hR1 hR2 hlkl hldl hn hm
    go_upto_region 6 with (go_at_call 48; ((with_reducible refine (hhalf _).mono ?_); rintro e w2 ⟨rfl, rfl⟩))
    refine wp_region_specs 14 [19, 20, 21, 22, 23, 24, 25, 26, 27, 28, 29, 30, 31, 32] (by kernel_rfl) (by kernel_rfl) (rtopφ n k c9 m A c ld R1 R2) (rtopφ_gr n k c9 m A c ld R1 R2) ?step ?fin
    case step =>
      intro i_ o_ ho hi_ u w' hg hd
      rcases (by omega : i_ = 0 ∨ i_ = 1 ∨ i_ = 2 ∨ i_ = 3 ∨ i_ = 4 ∨ i_ = 5 ∨ i_ = 6 ∨ i_ = 7 ∨ i_ = 8 ∨ i_ = 9 ∨ i_ = 10 ∨ i_ = 11 ∨ i_ = 12 ∨ i_ = 13) with rfl | rfl | rfl | rfl | rfl | rfl | rfl | rfl | rfl | rfl | rfl | rfl | rfl | rfl <;> obtain rfl := Option.some.inj ho <;>
        simp (decide := true) only [fillAct, List.mapIdx_cons, List.mapIdx_nil, Nat.reduceAdd, if_true, if_false, List.getD_cons_zero, List.getD_cons_succ]
      · clear hd ho
        go_wp2_with fail
        exact ⟨rfl, gb_refl _ _, rfl⟩
      · clear hd ho
        go_wp2_with fail
        exact ⟨rfl, gb_refl _ _, rfl⟩
      · clear hd ho
        go_wp2_with fail
        exact ⟨rfl, gb_refl _ _, rfl⟩
      · have h1 : u 20 = .slice A n c9 := hd 1 (by kernel_rfl)
        have h2 : u 21 = .int .i64 (k : Int) := hd 2 (by kernel_rfl)
        clear hd ho
        rw [h1, h2]
        go_wp2_with fail
        exact ⟨rfl, gb_refl _ _, rfl⟩
      · have h0 : u 19 = .int .i64 c := hd 0 (by kernel_rfl)
        have h3 : u 22 = .slice A k c9 := hd 3 (by kernel_rfl)
        clear hd ho
        rw [h0, h3]
        have hl1 := RSS.gr HLK.out hg
        go_wp2_with (go_at_call 18; ((with_reducible refine (HI.out _ lk _ HKL.out.1 hl1 HKL.out.2.1).mono ?_); rintro e w3 ⟨rfl, g3⟩; rw [HR1.out]))
        exact ⟨rfl, g3, rfl⟩
      · have h4 : u 23 = idv R1 := hd 4 (by kernel_rfl)
        clear hd ho
        rw [h4]
        go_wp2_with (go_at_call 49; ((with_reducible refine (text_any R1 _).mono ?_); rintro e w3 ⟨rfl, g3⟩))
        exact ⟨rfl, g3, rfl⟩
      · have h5 : u 24 = sv R1.l := hd 5 (by kernel_rfl)
        clear hd ho
        rw [h5]
        go_wp2_with ((with_reducible refine wpList_add_str (z := .tmp 24) [1] R1.l (by kernel_rfl) (by kernel_rfl) hal1 ?_))
        exact ⟨rfl, gb_refl _ _, rfl⟩
      · clear hd ho
        go_wp2_with fail
        exact ⟨rfl, gb_refl _ _, rfl⟩
      · clear hd ho
        go_wp2_with fail
        exact ⟨rfl, gb_refl _ _, rfl⟩
      · clear hd ho
        go_wp2_with fail
        exact ⟨rfl, gb_refl _ _, rfl⟩
      · have h8 : u 27 = .slice A n c9 := hd 8 (by kernel_rfl)
        have h9 : u 28 = .int .i64 (k : Int) := hd 9 (by kernel_rfl)
        clear hd ho
        rw [h8, h9]
        have hrd := RSS.gr HLS.out hg
        unfold RSS at hrd
        rw [HLN.out] at hrd
        go_wp2_with ((with_reducible refine wpList_cut (x := .tmp 27) Try.underlying24 (by kernel_rfl) hrd (by kernel_rfl) k n (.inr ⟨_, rfl, by kernel_rfl⟩) (.inl ⟨rfl, rfl⟩) hkn (Nat.le_refl _) ?_); intro v9 hv9)
        have h9 : RSS w' v9 ld := by
          rw [← HLD.out]; exact rss_of_cut hv9 HLN.out
        have hdl : ld.length = m := HDL.out
        unfold RSS at h9
        rw [hdl] at h9
        obtain ⟨A2, c2, rfl, hcc⟩ := Rd.form h9
        exact ⟨rfl, gb_refl _ _, ⟨A2, c2, rfl, by unfold RSS; rw [hdl]; exact h9⟩⟩
      · have h7 : u 26 = .int .i64 c := hd 7 (by kernel_rfl)
        have h10 : ∃ A2 c2, (u 29) = .slice A2 m c2 ∧ RSS w' (.slice A2 m c2) ld := hd 10 (by kernel_rfl)
        clear hd ho
        rw [h7]
        obtain ⟨A2, c2, e10, hl1⟩ := h10
        rw [e10]
        go_wp2_with (go_at_call 18; ((with_reducible refine (HI.out _ ld _ HKL.out.2.2.1 hl1 HKL.out.2.2.2).mono ?_); rintro e w3 ⟨rfl, g3⟩; rw [HR2.out]))
        exact ⟨rfl, g3, rfl⟩
      · have h11 : u 30 = idv R2 := hd 11 (by kernel_rfl)
        clear hd ho
        rw [h11]
        go_wp2_with (go_at_call 49; ((with_reducible refine (text_any R2 _).mono ?_); rintro e w3 ⟨rfl, g3⟩))
        exact ⟨rfl, g3, rfl⟩
      · have h6 : u 25 = sv (1 :: R1.l) := hd 6 (by kernel_rfl)
        have h12 : u 31 = sv R2.l := hd 12 (by kernel_rfl)
        clear hd ho
        rw [h6, h12]
        go_wp2_with ((with_reducible refine wpList_add_str (x := .tmp 25) (z := .tmp 31) (1 :: R1.l) R2.l (by kernel_rfl) (by kernel_rfl) hal2 ?_))
        exact ⟨rfl, gb_refl _ _, rfl⟩
    case fin =>
      intro u w5 hg hφ
      have h32 : u 32 = sv (1 :: (R1.l ++ R2.l)) := hφ 13 (by omega)
      simp (decide := true) only [fillAct, List.mapIdx_cons, List.mapIdx_nil, Nat.reduceAdd, if_true, if_false, List.drop_succ_cons, List.drop_zero]
      clear hφ
      rw [h32]
      go_wp2_with fail
      go_ret
      rw [HTT.out]
      exact ⟨rfl, hg⟩
set_option maxHeartbeats 1000000 in
theorem rroot_of (c : Int) (v : Value) (ls : List (List UInt8)) (w : World) (hI : RRoot c ls.length) (hv : RSS w v ls) (hl : ∀ l ∈ ls, l.length ≤ 1000000) (hn0 : ls.length ≤ 1000000) :
    Calls Try.prog 18 #[.int .i64 c, v] w fun e w' => e = .returned (idv (rootH (sumC c) ls)) ∧ w.grownBy w' none := by
  go_enter Try.func18, Try.ntmps18
  obtain ⟨T, hT⟩ : ∃ T, T = topH (sumC c) ls := ⟨_, rfl⟩
  obtain ⟨X, hX⟩ : ∃ X, X = sumC c T := ⟨_, rfl⟩
  have HX : Hid (rootH (sumC c) ls = X) := Go.Lib.hid (by rw [hX, hT]; rfl)
  have hTl : T.length ≤ 1000001 := by rw [hT]; exact topH_len c hl
  obtain ⟨W1, hW1⟩ : ∃ W1, W1 = w.alloc (.cells idZ.toArray 34) := ⟨_, rfl⟩
  have b1 : Bk W1 w.heap.size 34 idZ := by rw [hW1]; exact Bk.new w _ _
  have g1 : w.grownBy W1 none := by rw [hW1]; exact gb_alloc (gb_refl w none) _
  have hv1 := RSS.gr hv g1
  have htop : Calls Try.prog 44 #[.int .i64 c, v] W1 fun e w' => e = .returned (sv T) ∧ W1.grownBy w' none := by
    rw [hT]; exact rtop_of c v ls W1 hI hv1 hl hn0
  have hrd := hv
  unfold RSS at hrd
  obtain ⟨A, c9, rfl, hc⟩ := Rd.form hrd
  have hsum : ∀ (w : World), Calls Try.prog 28 #[.int .i64 c, sv T] w fun e w' => e = .returned (idv X) ∧ w.grownBy w' none := fun w => by
    rw [hX]; exact rsum_any c T hTl w
  rw [HX.out]
  obtain ⟨n, hn⟩ : ∃ n, n = ls.length := ⟨_, rfl⟩
  rw [← hn] at htop ⊢
  have HW := Go.Lib.hid hW1
  clear hv hv1 hrd hT hX hW1 hn hTl hc
  go_wp2_with (first
    | ((with_reducible refine wpList_alloc_row (E := 34) idZ infoId ?_); rw [← HW.out])
    | (go_at_call 44; ((with_reducible refine htop.mono ?_); rintro e w3 ⟨rfl, g3⟩; have b3 := b1.grown g3 (by simp)))
    | (go_at_call 28; ((with_reducible refine (hsum _).mono ?_); rintro e w4 ⟨rfl, g4⟩; have b4 := b3.grown g4 (by simp)))
    | ((with_reducible refine wpList_store_bk (t := 34) w.heap.size 34 idZ (X.l.map bv) b4 (by kernel_rfl) (by kernel_rfl) (idSize _) (idLen _) (idOne _) ?_); intro w5 h5 g5 z5))
  try go_frame
  exact bodyPost_ret (results_id rfl _ _ w.heap.size X rfl h5) rfl ⟨rfl, gb_trans_new (gb_trans (gb_trans g1 g3) g4) g5 (Nat.le_refl _)⟩
theorem rroot_all (c : Int) : ∀ n, n ≤ 1000001 → RRoot c n := by
  intro n
  induction n with
  | zero => intro _ v ls w h; exact absurd h (Nat.not_lt_zero _)
  | succ n ih =>
    intro hn v ls w h hv hl
    have hI : RRoot c ls.length := fun v ls' w h' => ih (by omega) v ls' w (by omega)
    exact rroot_of c v ls w hI hv hl (by omega)
theorem rroot_any (c : Int) (v : Value) (ls : List (List UInt8)) (w : World) (hv : RSS w v ls) (hl : ∀ l ∈ ls, l.length ≤ 1000000) (hn0 : ls.length ≤ 1000000) :
    Calls Try.prog 18 #[.int .i64 c, v] w fun e w' => e = .returned (idv (rootH (sumC c) ls)) ∧ w.grownBy w' none := rroot_all c 1000001 (Nat.le_refl _) v ls w (by omega) hv hl
end Go.Proofs.Ytajgklomcapboaa
/- scrivenerlaw07: pair, same. -/
namespace Go.Proofs.Ytajgklomcapboaa
open Go.RowKit Go.Shelf Sc
def pairφ (b n1 c1 n2 c2 : Nat) (A1 A2 : Option Addr) (c : Int) (l1 l2 : List UInt8) (R : Sc.Id) (i : Nat) (v : Value) (_w : World) : Prop := match i with
  | 0 => v = .pointer (some ⟨b, 0, none⟩)
  | 1 => v = .slice A1 n1 c1
  | 2 => v = sv l1
  | 3 => v = .pointer (some ⟨b, 1, none⟩)
  | 4 => v = .slice A2 n2 c2
  | 5 => v = sv l2
  | 6 => v = .bool true
  | 7 => v = .bool true
  | 8 => v = .int .i64 c
  | 9 => v = .pointer (some ⟨b, 0, none⟩)
  | 10 => v = .slice A1 n1 c1
  | 11 => v = sv l1
  | 12 => v = idv R
  | 13 => v = .int .i64 c
  | 14 => v = .pointer (some ⟨b, 1, none⟩)
  | 15 => v = .slice A2 n2 c2
  | 16 => v = sv l2
  | 17 => v = idv R
  | 18 => v = .bool true
  | 19 => v = .bool true
  | _ => True
theorem pairφ_gr (b n1 c1 n2 c2 : Nat) (A1 A2 : Option Addr) (c : Int) (l1 l2 : List UInt8) (R : Sc.Id) : ∀ i v w w', pairφ b n1 c1 n2 c2 A1 A2 c l1 l2 R i v w → Gr w w' → pairφ b n1 c1 n2 c2 A1 A2 c l1 l2 R i v w' := by
  intro i v w w' h hg
  match i with
  | 0 => exact h
  | 1 => exact h
  | 2 => exact h
  | 3 => exact h
  | 4 => exact h
  | 5 => exact h
  | 6 => exact h
  | 7 => exact h
  | 8 => exact h
  | 9 => exact h
  | 10 => exact h
  | 11 => exact h
  | 12 => exact h
  | 13 => exact h
  | 14 => exact h
  | 15 => exact h
  | 16 => exact h
  | 17 => exact h
  | 18 => exact h
  | 19 => exact h
  | i + 20 => exact h
def same7φ (b1 o1 c1 b2 o2 c2 n1 k : Nat) (x y : List UInt8) (i : Nat) (v : Value) (_w : World) : Prop := match i with
  | 0 => v = .slice (some ⟨b1, o1, none⟩) n1 c1
  | 1 => v = .int .i64 (k : Int)
  | 2 => v = .pointer (some ⟨b1, o1 + k, none⟩)
  | 3 => v = sv x
  | 4 => v = .slice (some ⟨b2, o2, none⟩) n1 c2
  | 5 => v = .int .i64 (k : Int)
  | 6 => v = .pointer (some ⟨b2, o2 + k, none⟩)
  | 7 => v = sv y
  | _ => True
theorem same7φ_gr (b1 o1 c1 b2 o2 c2 n1 k : Nat) (x y : List UInt8) : ∀ i v w w', same7φ b1 o1 c1 b2 o2 c2 n1 k x y i v w → Gr w w' → same7φ b1 o1 c1 b2 o2 c2 n1 k x y i v w' := by
  intro i v w w' h hg
  match i with
  | 0 => exact h
  | 1 => exact h
  | 2 => exact h
  | 3 => exact h
  | 4 => exact h
  | 5 => exact h
  | 6 => exact h
  | 7 => exact h
  | i + 8 => exact h

set_option maxHeartbeats 4000000 in
set_option maxRecDepth 100000 in
theorem pair_true (c : Int) (v1 v2 : Value) (l1 l2 : List UInt8) (w : World) (h1 : RL w v1 l1) (h2 : RL w v2 l2) (hl1 : l1.length ≤ 1000001) (hl2 : l2.length ≤ 1000001) (hne : l1 ≠ l2) (hs : sumC c l1 = sumC c l2) :
    Calls Try.prog 20 #[.int .i64 c, .agg #[v1, v2]] w fun e w' => e = .returned (.bool true) ∧ w.grownBy w' none := by
  go_enter Try.func20, Try.ntmps20
  obtain ⟨A1, c1, rfl, hc1⟩ := Rd.form h1
  obtain ⟨A2, c2, rfl, hc2⟩ := Rd.form h2
  obtain ⟨n1, hn1⟩ : ∃ n1, n1 = l1.length := ⟨_, rfl⟩
  obtain ⟨n2, hn2⟩ : ∃ n2, n2 = l2.length := ⟨_, rfl⟩
  rw [← hn1] at h1 ⊢
  rw [← hn2] at h2 ⊢
  obtain ⟨W, hW⟩ : ∃ W, W = w.alloc (.cells #[.slice A1 n1 c1, .slice A2 n2 c2] 29) := ⟨_, rfl⟩
  have b0 : Bk W w.heap.size 29 [.slice A1 n1 c1, .slice A2 n2 c2] := by rw [hW]; exact Bk.new w _ _
  have g0 : w.grownBy W none := by rw [hW]; exact gb_alloc (gb_refl w none) _
  have HW := Go.Lib.hid hW
  have HV1 := Go.Lib.hid (RL.gr h1 g0)
  have HV2 := Go.Lib.hid (RL.gr h2 g0)
  have HG0 := Go.Lib.hid g0
  obtain ⟨R, hR⟩ : ∃ R, sumC c l1 = R := ⟨_, rfl⟩
  have HR1 := Go.Lib.hid hR
  have HR2 : Hid (sumC c l2 = R) := Go.Lib.hid (by rw [← hs]; exact hR)
  have HLL := Go.Lib.hid (And.intro hl1 hl2)
  have HNE : Hid ((l1 == l2) = false) := Go.Lib.hid (beq_eq_false_iff_ne.2 hne)
  have q0 := Go.Lib.hid (b0.cellAt (i := 0) rfl)
  have q1 := Go.Lib.hid (b0.cellAt (i := 1) rfl)
  obtain ⟨b, hb⟩ : ∃ b, b = w.heap.size := ⟨_, rfl⟩
  rw [← hb] at q0 q1
  have HB := Go.Lib.hid hb
  clear h1 h2 hc1 hc2 hn1 hn2 hW b0 g0 hR hs hne hl1 hl2 hb
  go_upto_region 1 with fail
  rw [← HW.out, ← HB.out]
  refine wp_region_specs 20 [5, 6, 7, 8, 9, 10, 11, 12, 13, 14, 15, 16, 17, 18, 19, 20, 21, 22, 23, 24] (by kernel_rfl) (by kernel_rfl) (pairφ b n1 c1 n2 c2 A1 A2 c l1 l2 R) (pairφ_gr b n1 c1 n2 c2 A1 A2 c l1 l2 R) ?step ?fin
  case step =>
    intro i_ o_ ho hi_ u w' hg hd
    rcases (by omega : i_ = 0 ∨ i_ = 1 ∨ i_ = 2 ∨ i_ = 3 ∨ i_ = 4 ∨ i_ = 5 ∨ i_ = 6 ∨ i_ = 7 ∨ i_ = 8 ∨ i_ = 9 ∨ i_ = 10 ∨ i_ = 11 ∨ i_ = 12 ∨ i_ = 13 ∨ i_ = 14 ∨ i_ = 15 ∨ i_ = 16 ∨ i_ = 17 ∨ i_ = 18 ∨ i_ = 19) with rfl | rfl | rfl | rfl | rfl | rfl | rfl | rfl | rfl | rfl | rfl | rfl | rfl | rfl | rfl | rfl | rfl | rfl | rfl | rfl <;> obtain rfl := Option.some.inj ho <;>
      simp (decide := true) only [fillAct, List.mapIdx_cons, List.mapIdx_nil, Nat.reduceAdd, if_true, if_false, List.getD_cons_zero, List.getD_cons_succ]
    · clear hd ho
      go_wp2_with fail
      exact ⟨rfl, gb_refl _ _, rfl⟩
    · have h0 : u 5 = .pointer (some ⟨b, 0, none⟩) := hd 0 (by kernel_rfl)
      clear hd ho
      rw [h0]
      have c1 := cell_grown (row := none) hg q0.out (by simp)
      go_wp2_with fail
      exact ⟨rfl, gb_refl _ _, rfl⟩
    · have h1 : u 6 = .slice A1 n1 c1 := hd 1 (by kernel_rfl)
      clear hd ho
      rw [h1]
      have hv1 : RdB (fun b => b < w'.heap.size) w' (.slice A1 n1 c1) l1 := RL.gr HV1.out hg
      go_wp2_with ((with_reducible refine wpList_conv_bs (x := .tmp 6) (v := .slice A1 n1 c1) Try.underlying27 Try.underlying5 Try.underlying9 l1 (by kernel_rfl) hv1 ?_))
      exact ⟨rfl, gb_refl _ _, rfl⟩
    · clear hd ho
      go_wp2_with fail
      exact ⟨rfl, gb_refl _ _, rfl⟩
    · have h3 : u 8 = .pointer (some ⟨b, 1, none⟩) := hd 3 (by kernel_rfl)
      clear hd ho
      rw [h3]
      have c1 := cell_grown (row := none) hg q1.out (by simp)
      go_wp2_with fail
      exact ⟨rfl, gb_refl _ _, rfl⟩
    · have h4 : u 9 = .slice A2 n2 c2 := hd 4 (by kernel_rfl)
      clear hd ho
      rw [h4]
      have hv1 : RdB (fun b => b < w'.heap.size) w' (.slice A2 n2 c2) l2 := RL.gr HV2.out hg
      go_wp2_with ((with_reducible refine wpList_conv_bs (x := .tmp 9) (v := .slice A2 n2 c2) Try.underlying27 Try.underlying5 Try.underlying9 l2 (by kernel_rfl) hv1 ?_))
      exact ⟨rfl, gb_refl _ _, rfl⟩
    · have h2 : u 7 = sv l1 := hd 2 (by kernel_rfl)
      have h5 : u 10 = sv l2 := hd 5 (by kernel_rfl)
      clear hd ho
      rw [h2, h5]
      have q1 : ∀ w, (eqGuard .neq 9 (.tmp 7) (.tmp 10) (sv l1) (sv l2)).run Try.prog w = .ok () w := fun _ => by rw [eqGuard_sv]; rfl
      have q2 : ∀ w, (binOp .neq 9 (sv l1) (sv l2)).run Try.prog w = .ok (.bool true) w := fun _ => by rw [neq_sv, HNE.out]; rfl
      go_wp2_with fail
      exact ⟨rfl, gb_refl _ _, rfl⟩
    · have h6 : u 11 = .bool true := hd 6 (by kernel_rfl)
      clear hd ho
      rw [h6]
      go_wp2_with fail
      exact ⟨rfl, gb_refl _ _, rfl⟩
    · have h7 : u 12 = .bool true := hd 7 (by kernel_rfl)
      clear hd ho
      rw [h7]
      refine wpList_guard (by rfl) ?_
      go_wp2_with fail
      exact ⟨rfl, gb_refl _ _, rfl⟩
    · have h7 : u 12 = .bool true := hd 7 (by kernel_rfl)
      clear hd ho
      rw [h7]
      refine wpList_guard (by rfl) ?_
      go_wp2_with fail
      exact ⟨rfl, gb_refl _ _, rfl⟩
    · have h7 : u 12 = .bool true := hd 7 (by kernel_rfl)
      have h9 : u 14 = .pointer (some ⟨b, 0, none⟩) := hd 9 (by kernel_rfl)
      clear hd ho
      rw [h7, h9]
      refine wpList_guard (by rfl) ?_
      have c1 := cell_grown (row := none) hg q0.out (by simp)
      go_wp2_with fail
      exact ⟨rfl, gb_refl _ _, rfl⟩
    · have h7 : u 12 = .bool true := hd 7 (by kernel_rfl)
      have h10 : u 15 = .slice A1 n1 c1 := hd 10 (by kernel_rfl)
      clear hd ho
      rw [h7, h10]
      refine wpList_guard (by rfl) ?_
      have hv1 : RdB (fun b => b < w'.heap.size) w' (.slice A1 n1 c1) l1 := RL.gr HV1.out hg
      go_wp2_with ((with_reducible refine wpList_conv_bs (x := .tmp 15) (v := .slice A1 n1 c1) Try.underlying27 Try.underlying5 Try.underlying9 l1 (by kernel_rfl) hv1 ?_))
      exact ⟨rfl, gb_refl _ _, rfl⟩
    · have h7 : u 12 = .bool true := hd 7 (by kernel_rfl)
      have h8 : u 13 = .int .i64 c := hd 8 (by kernel_rfl)
      have h11 : u 16 = sv l1 := hd 11 (by kernel_rfl)
      clear hd ho
      rw [h7, h8, h11]
      refine wpList_guard (by rfl) ?_
      go_wp2_with (go_at_call 28; ((with_reducible refine (rsum_any c l1 HLL.out.1 _).mono ?_); rintro e w3 ⟨rfl, g3⟩; rw [HR1.out]))
      exact ⟨rfl, g3, rfl⟩
    · have h7 : u 12 = .bool true := hd 7 (by kernel_rfl)
      clear hd ho
      rw [h7]
      refine wpList_guard (by rfl) ?_
      go_wp2_with fail
      exact ⟨rfl, gb_refl _ _, rfl⟩
    · have h7 : u 12 = .bool true := hd 7 (by kernel_rfl)
      clear hd ho
      rw [h7]
      refine wpList_guard (by rfl) ?_
      go_wp2_with fail
      exact ⟨rfl, gb_refl _ _, rfl⟩
    · have h7 : u 12 = .bool true := hd 7 (by kernel_rfl)
      have h14 : u 19 = .pointer (some ⟨b, 1, none⟩) := hd 14 (by kernel_rfl)
      clear hd ho
      rw [h7, h14]
      refine wpList_guard (by rfl) ?_
      have c1 := cell_grown (row := none) hg q1.out (by simp)
      go_wp2_with fail
      exact ⟨rfl, gb_refl _ _, rfl⟩
    · have h7 : u 12 = .bool true := hd 7 (by kernel_rfl)
      have h15 : u 20 = .slice A2 n2 c2 := hd 15 (by kernel_rfl)
      clear hd ho
      rw [h7, h15]
      refine wpList_guard (by rfl) ?_
      have hv1 : RdB (fun b => b < w'.heap.size) w' (.slice A2 n2 c2) l2 := RL.gr HV2.out hg
      go_wp2_with ((with_reducible refine wpList_conv_bs (x := .tmp 20) (v := .slice A2 n2 c2) Try.underlying27 Try.underlying5 Try.underlying9 l2 (by kernel_rfl) hv1 ?_))
      exact ⟨rfl, gb_refl _ _, rfl⟩
    · have h7 : u 12 = .bool true := hd 7 (by kernel_rfl)
      have h13 : u 18 = .int .i64 c := hd 13 (by kernel_rfl)
      have h16 : u 21 = sv l2 := hd 16 (by kernel_rfl)
      clear hd ho
      rw [h7, h13, h16]
      refine wpList_guard (by rfl) ?_
      go_wp2_with (go_at_call 28; ((with_reducible refine (rsum_any c l2 HLL.out.2 _).mono ?_); rintro e w3 ⟨rfl, g3⟩; rw [HR2.out]))
      exact ⟨rfl, g3, rfl⟩
    · have h7 : u 12 = .bool true := hd 7 (by kernel_rfl)
      have h12 : u 17 = idv R := hd 12 (by kernel_rfl)
      have h17 : u 22 = idv R := hd 17 (by kernel_rfl)
      clear hd ho
      rw [h7, h12, h17]
      refine wpList_guard (by rfl) ?_
      go_wp2_with ((with_reducible refine wpList_eql_id (x := .tmp 17) (y := .tmp 22) idEq R R (by kernel_rfl) (by kernel_rfl) ?_); rw [beq_self_eq_true])
      exact ⟨rfl, gb_refl _ _, rfl⟩
    · have h7 : u 12 = .bool true := hd 7 (by kernel_rfl)
      have h18 : u 23 = .bool true := hd 18 (by kernel_rfl)
      clear hd ho
      rw [h7, h18]
      go_wp2_with fail
      exact ⟨rfl, gb_refl _ _, rfl⟩
  case fin =>
    intro u w5 hg hφ
    have hz : u 24 = .bool true := hφ 19 (by omega)
    simp (decide := true) only [fillAct, List.mapIdx_cons, List.mapIdx_nil, Nat.reduceAdd, if_true, if_false, List.drop_succ_cons, List.drop_zero]
    rw [hz]
    clear hφ
    go_wp2_with fail
    go_ret
    exact ⟨rfl, gb_trans HG0.out hg⟩
set_option maxHeartbeats 4000000 in
set_option maxRecDepth 100000 in
theorem same7_any (va vb : Value) (la lb : List (List UInt8)) (w : World) (ha : RSS w va la) (hb : RSS w vb lb) (hla : la.length ≤ 1000000) (hlb : lb.length ≤ 1000000) :
    Calls Try.prog 19 #[va, vb] w fun e w' => e = .returned (.bool (decide (la = lb))) ∧ w.grownBy w' none := by
  go_enter Try.func19, Try.ntmps19
  unfold RSS at ha hb
  obtain ⟨A1, c1, rfl, hc1⟩ := Rd.form ha
  obtain ⟨A2, c2, rfl, hc2⟩ := Rd.form hb
  obtain ⟨n1, hn1⟩ : ∃ n1, n1 = la.length := ⟨_, rfl⟩
  obtain ⟨n2, hn2⟩ : ∃ n2, n2 = lb.length := ⟨_, rfl⟩
  rw [← hn1] at ha hc1 hla ⊢
  rw [← hn2] at hb hc2 hlb ⊢
  have HA := Go.Lib.hid ha
  have HB := Go.Lib.hid hb
  have HN1 := Go.Lib.hid hn1
  have HN2 := Go.Lib.hid hn2
  obtain ⟨D, hD⟩ : ∃ D, D = decide (la = lb) := ⟨_, rfl⟩
  rw [← hD]
  have HD := Go.Lib.hid hD
  clear ha hb hn1 hn2 hc1 hc2 hD
  by_cases hne : n1 = n2
  · subst hne
    have q1 : decide (n1 = n1) = true := decide_eq_true rfl
    have q2 : decide ((n1 : Int) = (n1 : Int)) = true := decide_eq_true rfl
    go_wp2_with fail
    go_loopw [13] (fun n wr => ∃ k : Nat, k ≤ n1 ∧ n = .int .i64 k ∧ Hid (la.take k = lb.take k) ∧ Hid (w.grownBy wr none)) (fun n _ => n1 - (intOf n).toNat)
    case atStart => exact ⟨0, Nat.zero_le _, rfl, Go.Lib.hid rfl, Go.Lib.hid (gb_refl _ _)⟩
    case round =>
      obtain ⟨k, hk, rfl, HE, HG⟩ := hrel
      by_cases hlt : k < n1
      · have hkI : (0 : Int) ≤ (k : Int) ∧ (k : Int) < (n1 : Int) ∧ (n1 : Int) ≤ 1000000 := by omega
        have d1 : decide (k < n1) = true := decide_eq_true hlt
        obtain ⟨x, hx⟩ : ∃ x, la[k]? = some x := ⟨_, List.getElem?_eq_getElem (by rw [← HN1.out]; exact hlt)⟩
        obtain ⟨y, hy⟩ : ∃ y, lb[k]? = some y := ⟨_, List.getElem?_eq_getElem (by rw [← HN2.out]; exact hlt)⟩
        obtain ⟨b1, o1, c', he, hb1, hnc, hcm, hcell⟩ := HA.out.at (by omega)
        injection he with hA _ hcc
        subst hA hcc
        obtain ⟨b2, o2, c', he, hb2, hnc2, hcm2, hcell2⟩ := HB.out.at (by omega)
        injection he with hA _ hcc
        subst hA hcc
        have e1 : wr.cell? ⟨b1, o1 + k, none⟩ = some (sv x) := cell_grown HG.out (hcell k _ (by rw [List.getElem?_map, hx]; rfl)) (by simp)
        have e2 : wr.cell? ⟨b2, o2 + k, none⟩ = some (sv y) := cell_grown HG.out (hcell2 k _ (by rw [List.getElem?_map, hy]; rfl)) (by simp)
        have HX := Go.Lib.hid hx
        have HY := Go.Lib.hid hy
        have E1 := Go.Lib.hid e1
        have E2 := Go.Lib.hid e2
        clear hcell hcell2 hx hy e1 e2
        go_upto_region 6 with fail
        refine wp_region_specs 8 [16, 17, 18, 19, 20, 21, 22, 23] (by kernel_rfl) (by kernel_rfl) (same7φ b1 o1 c1 b2 o2 c2 n1 k x y) (same7φ_gr b1 o1 c1 b2 o2 c2 n1 k x y) ?step ?fin
        case step =>
          intro i_ o_ ho hi_ u w' hg hd
          rcases (by omega : i_ = 0 ∨ i_ = 1 ∨ i_ = 2 ∨ i_ = 3 ∨ i_ = 4 ∨ i_ = 5 ∨ i_ = 6 ∨ i_ = 7) with rfl | rfl | rfl | rfl | rfl | rfl | rfl | rfl <;> obtain rfl := Option.some.inj ho <;>
            simp (decide := true) only [fillAct, List.mapIdx_cons, List.mapIdx_nil, Nat.reduceAdd, if_true, if_false, List.getD_cons_zero, List.getD_cons_succ]
          · clear hd ho
            go_wp2_with fail
            exact ⟨rfl, gb_refl _ _, rfl⟩
          · clear hd ho
            go_wp2_with fail
            exact ⟨rfl, gb_refl _ _, rfl⟩
          · have h0 : u 16 = .slice (some ⟨b1, o1, none⟩) n1 c1 := hd 0 (by kernel_rfl)
            have h1 : u 17 = .int .i64 (k : Int) := hd 1 (by kernel_rfl)
            clear hd ho
            rw [h0, h1]
            go_wp2_with fail
            exact ⟨rfl, gb_refl _ _, rfl⟩
          · have h2 : u 18 = .pointer (some ⟨b1, o1 + k, none⟩) := hd 2 (by kernel_rfl)
            clear hd ho
            rw [h2]
            have r1 := cell_grown (row := none) hg E1.out (by simp)
            go_wp2_with fail
            exact ⟨rfl, gb_refl _ _, rfl⟩
          · clear hd ho
            go_wp2_with fail
            exact ⟨rfl, gb_refl _ _, rfl⟩
          · clear hd ho
            go_wp2_with fail
            exact ⟨rfl, gb_refl _ _, rfl⟩
          · have h4 : u 20 = .slice (some ⟨b2, o2, none⟩) n1 c2 := hd 4 (by kernel_rfl)
            have h5 : u 21 = .int .i64 (k : Int) := hd 5 (by kernel_rfl)
            clear hd ho
            rw [h4, h5]
            go_wp2_with fail
            exact ⟨rfl, gb_refl _ _, rfl⟩
          · have h6 : u 22 = .pointer (some ⟨b2, o2 + k, none⟩) := hd 6 (by kernel_rfl)
            clear hd ho
            rw [h6]
            have r1 := cell_grown (row := none) hg E2.out (by simp)
            go_wp2_with fail
            exact ⟨rfl, gb_refl _ _, rfl⟩
        case fin =>
          intro u w' hg hφ
          have h3 : u 19 = sv x := hφ 3 (by omega)
          have h7 : u 23 = sv y := hφ 7 (by omega)
          simp (decide := true) only [fillAct, List.mapIdx_cons, List.mapIdx_nil, Nat.reduceAdd, if_true, if_false, List.drop_succ_cons, List.drop_zero]
          rw [h3, h7]
          clear hφ
          have qg : ∀ w, (eqGuard .neq 9 (.tmp 19) (.tmp 23) (sv x) (sv y)).run Try.prog w = .ok () w := fun _ => by rw [eqGuard_sv]; rfl
          by_cases hxy : x = y
          · have qn : ∀ w, (binOp .neq 9 (sv x) (sv y)).run Try.prog w = .ok (.bool false) w := fun _ => by rw [neq_sv, beq_iff_eq.2 hxy]; rfl
            have HXY := Go.Lib.hid hxy
            clear hxy
            go_wp2_with fail
            go_roundw
            case rel => exact ⟨k + 1, by omega, by go_num, Go.Lib.hid (by rw [List.take_add_one, List.take_add_one, HE.out, HX.out, HY.out, HXY.out]), Go.Lib.hid (gb_trans HG.out hg)⟩
            case measure => simp [intOf]; omega
          · have qn : ∀ w, (binOp .neq 9 (sv x) (sv y)).run Try.prog w = .ok (.bool true) w := fun _ => by rw [neq_sv, beq_eq_false_iff_ne.2 hxy]; rfl
            have HXY := Go.Lib.hid hxy
            clear hxy
            go_wp2_with fail
            go_ret
            refine ⟨?_, gb_trans HG.out hg⟩
            have hd : D = false := by
              rw [HD.out]
              refine decide_eq_false fun e => ?_
              rw [e] at HX
              have := HX.out.symm.trans HY.out
              exact HXY.out (Option.some.inj this)
            rw [hd]; rfl
      · obtain rfl : k = n1 := by omega
        have d1 : decide (k < k) = false := decide_eq_false (by omega)
        have hd : D = true := by
          rw [HD.out]
          refine decide_eq_true ?_
          have h := HE.out
          have l1 := HN1.out
          have l2 := HN2.out
          rw [List.take_of_length_le (by omega), List.take_of_length_le (by omega)] at h
          exact h
        have HD2 := Go.Lib.hid hd
        clear hd
        go_wp2_with fail
        go_ret
        exact ⟨by rw [HD2.out]; rfl, HG.out⟩
  · have q1 : decide (n1 = n2) = false := decide_eq_false hne
    have q2 : decide ((n1 : Int) = (n2 : Int)) = false := decide_eq_false (by omega)
    have hd : D = false := by
      rw [HD.out]
      refine decide_eq_false fun e => ?_
      rw [HN1.out, HN2.out, e] at hne
      exact hne rfl
    rw [hd]
    go_wp2_with fail
    go_ret
    exact ⟨rfl, gb_refl _ _⟩
end Go.Proofs.Ytajgklomcapboaa
/- ShortLists: the walk. -/
namespace Go.Proofs.Ytajgklomcapboaa
open Go.RowKit Go.Shelf Sc
set_option maxHeartbeats 8000000 in
set_option maxRecDepth 100000 in
theorem lists7_walk (c : Int) (va vb : Value) (la lb : List (List UInt8)) (NB NB2 : Nat → Prop) (w : World) (ha : RdBB NB w va la) (hNB : ∀ b, NB b → b < w.heap.size) (hb : RdBB NB2 w vb lb) (hNB2 : ∀ b, NB2 b → b < w.heap.size) :
    Calls Try.prog 3 #[.int .i64 c, va, vb] w fun e w' => e = .returned (.bool true) ∧ w.grownBy w' none := by
  go_enter Try.func3, Try.ntmps3
  have HA := Go.Lib.hid (show RLL w va la from by obtain ⟨vs, h1, h2⟩ := ha; exact ⟨vs, h1.mono hNB, fun j l h => by obtain ⟨u, hu, hr⟩ := h2 j l h; exact ⟨u, hu, Rd.mono hr hNB⟩⟩)
  have HB := Go.Lib.hid (show RLL w vb lb from by obtain ⟨vs, h1, h2⟩ := hb; exact ⟨vs, h1.mono hNB2, fun j l h => by obtain ⟨u, hu, hr⟩ := h2 j l h; exact ⟨u, hu, Rd.mono hr hNB2⟩⟩)
  clear hNB hNB2
  obtain ⟨vs0, h1, _⟩ := ha
  obtain ⟨A0, c0, rfl, _⟩ := Rd.form h1
  obtain ⟨vs1, h1', _⟩ := hb
  obtain ⟨A9, c9, rfl, _⟩ := Rd.form h1'
  obtain ⟨n0, hn0⟩ : ∃ n, n = la.length := ⟨_, rfl⟩
  obtain ⟨n9, hn9⟩ : ∃ n, n = lb.length := ⟨_, rfl⟩
  rw [← hn0] at HA ⊢
  rw [← hn9] at HB ⊢
  obtain ⟨fa, hfa⟩ : ∃ fa, fa = few la := ⟨_, rfl⟩
  obtain ⟨fb, hfb⟩ : ∃ fb, fb = few lb := ⟨_, rfl⟩
  have HFA := Go.Lib.hid (by rw [hfa]; exact ⟨few_len la, few_each la⟩ : fa.length ≤ 20 ∧ ∀ l ∈ fa, l.length ≤ 100)
  have HFB := Go.Lib.hid (by rw [hfb]; exact ⟨few_len lb, few_each lb⟩ : fb.length ≤ 20 ∧ ∀ l ∈ fb, l.length ≤ 100)
  have fewA : ∀ w', RLL w' (.slice A0 n0 c0) la → Calls Try.prog 16 #[.slice A0 n0 c0] w' fun e w2 => ∃ A c A2 c2, e = .returned (.tuple #[.slice A fa.length c, .slice A2 fa.length c2]) ∧
      RLL w2 (.slice A fa.length c) fa ∧ RSS w2 (.slice A2 fa.length c2) fa ∧ w'.grownBy w2 none := fun w' h => by rw [hfa]; exact few_any _ la w' h
  have fewB : ∀ w', RLL w' (.slice A9 n9 c9) lb → Calls Try.prog 16 #[.slice A9 n9 c9] w' fun e w2 => ∃ A c A2 c2, e = .returned (.tuple #[.slice A fb.length c, .slice A2 fb.length c2]) ∧
      RLL w2 (.slice A fb.length c) fb ∧ RSS w2 (.slice A2 fb.length c2) fb ∧ w'.grownBy w2 none := fun w' h => by rw [hfb]; exact few_any _ lb w' h
  clear h1 h1' hn0 hn9 hfa hfb
  obtain ⟨nA, hnA⟩ : ∃ n, n = fa.length := ⟨_, rfl⟩
  obtain ⟨nB, hnB⟩ : ∃ n, n = fb.length := ⟨_, rfl⟩
  rw [← hnA] at fewA
  rw [← hnB] at fewB
  have HNA := Go.Lib.hid hnA
  have HNB := Go.Lib.hid hnB
  clear hnA hnB
  go_upto_region 5 with (first
    | (go_at_call 15; ((with_reducible refine (cuts_any _).mono ?_); rintro e w1 ⟨rfl, g1⟩); have hA1 := RLL.gr HA.out g1)
    | (go_at_call 16; ((with_reducible refine (fewA _ hA1).mono ?_); rintro e w2 ⟨A1, c1, A2, c2, rfl, ha2, hx2, g2⟩); have hB2 := RLL.gr HB.out (gb_trans g1 g2))
    | (go_at_call 16; ((with_reducible refine (fewB _ hB2).mono ?_); rintro e w3 ⟨A3, c3, A4, c4, rfl, hb3, hy3, g3⟩)))
  have lists : ∀ w', RLL w' (.slice A1 nA c1) fa → RLL w' (.slice A3 nB c3) fb → Calls Try.prog 17 #[.int .i64 c, .slice A1 nA c1, .slice A3 nB c3] w' (LRes c fa fb w') := fun w' h h' =>
    lists_any c _ _ fa fb w' h h' (fun l hl => Nat.le_trans (HFA.out.2 l hl) (by decide)) (fun l hl => Nat.le_trans (HFB.out.2 l hl) (by decide)) (Nat.le_trans HFA.out.1 (by decide)) (Nat.le_trans HFB.out.1 (by decide))
  have HL := Go.Lib.hid lists
  have HA3 := Go.Lib.hid (RLL.gr ha2 g3)
  have HX3 := Go.Lib.hid (RSS.gr hx2 g3)
  have HB3 := Go.Lib.hid hb3
  have HY3 := Go.Lib.hid hy3
  have HG3 := Go.Lib.hid (gb_trans (gb_trans g1 g2) g3)
  clear lists ha2 hx2 hb3 hy3 g1 g2 g3 fewA fewB
  go_upto_region 6 with (first
    | (go_at_call 17; ((with_reducible refine (HL.out _ HA3.out HB3.out).mono ?_); rintro e w4 ⟨v1, v2, l1, l2, ok, rfl, r1, r2, ho, g4⟩); obtain ⟨B1, d1, rfl, _⟩ := Rd.form r1; obtain ⟨B2, d2, rfl, _⟩ := Rd.form r2; have bx := Bk.new w4 29 pairZ)
    | ((with_reducible refine wpList_alloc_row (E := 29) pairZ infoPair ?_))
    | ((with_reducible refine wpList_store_bk (t := 29) w4.heap.size 29 pairZ [.slice B1 l1.length d1, .slice B2 l2.length d2] bx (by kernel_rfl) (by kernel_rfl) (pairSize _ _) rfl (pairOne _ _ _ _ _ _) ?_); intro w5 h5 g5 z5))
  have g05 := gb_trans_new (gb_alloc (gb_trans HG3.out g4) (.cells pairZ.toArray 29)) g5 (Nat.le_trans HG3.out.size g4.size)
  have gx := gb_trans_new (gb_alloc g4 (.cells pairZ.toArray 29)) g5 g4.size
  have hr1 := RL.gr r1 (gb_trans_new (gb_alloc (gb_refl w4 none) (.cells pairZ.toArray 29)) g5 (Nat.le_refl _))
  have hr2 := RL.gr r2 (gb_trans_new (gb_alloc (gb_refl w4 none) (.cells pairZ.toArray 29)) g5 (Nat.le_refl _))
  have HX5 := Go.Lib.hid (RSS.gr HX3.out gx)
  have HY5 := Go.Lib.hid (RSS.gr HY3.out gx)
  obtain ⟨m1, hm1⟩ : ∃ m, m = l1.length := ⟨_, rfl⟩
  obtain ⟨m2, hm2⟩ : ∃ m, m = l2.length := ⟨_, rfl⟩
  rw [← hm1] at hr1 h5 ⊢
  rw [← hm2] at hr2 h5 ⊢
  obtain ⟨b5, hb5⟩ : ∃ b, b = w4.heap.size := ⟨_, rfl⟩
  rw [← hb5] at h5 ⊢
  have HG5 := Go.Lib.hid g05
  have HR1 := Go.Lib.hid hr1
  have HR2 := Go.Lib.hid hr2
  have HB5 := Go.Lib.hid h5
  have HM1 := Go.Lib.hid hm1
  have HM2 := Go.Lib.hid hm2
  have HO := Go.Lib.hid ho
  clear HL HA3 HB3 HX3 HY3 HG3 r1 r2 ho g4 bx g5 z5 hb5 g05 gx hr1 hr2 hm1 hm2 h5
  have hkI : (0 : Int) ≤ (nA : Int) ∧ (nA : Int) ≤ 20 ∧ (0 : Int) ≤ (nB : Int) ∧ (nB : Int) ≤ 20 := by have h1 := HFA.out.1; have h2 := HFB.out.1; have h3 := HNA.out; have h4 := HNB.out; omega
  by_cases hn : nA = nB
  · subst hn
    have q1 : decide (nA = nA) = true := decide_eq_true rfl
    have q2 : decide ((nA : Int) = (nA : Int)) = true := decide_eq_true rfl
    obtain ⟨X, hX⟩ : ∃ X, X = rootH (sumC c) fa := ⟨_, rfl⟩
    obtain ⟨Y, hY⟩ : ∃ Y, Y = rootH (sumC c) fb := ⟨_, rfl⟩
    have rA : ∀ w', RSS w' (.slice A2 nA c2) fa → Calls Try.prog 18 #[.int .i64 c, .slice A2 nA c2] w' fun e w2 => e = .returned (idv X) ∧ w'.grownBy w2 none := fun w' h => by
      rw [hX]; exact rroot_any c _ fa w' h (fun l hl => Nat.le_trans (HFA.out.2 l hl) (by decide)) (Nat.le_trans HFA.out.1 (by decide))
    have rB : ∀ w', RSS w' (.slice A4 nA c4) fb → Calls Try.prog 18 #[.int .i64 c, .slice A4 nA c4] w' fun e w2 => e = .returned (idv Y) ∧ w'.grownBy w2 none := fun w' h => by
      rw [hY]; exact rroot_any c _ fb w' h (fun l hl => Nat.le_trans (HFB.out.2 l hl) (by decide)) (Nat.le_trans HFB.out.1 (by decide))
    have sm : ∀ w', RSS w' (.slice A2 nA c2) fa → RSS w' (.slice A4 nA c4) fb → Calls Try.prog 19 #[.slice A2 nA c2, .slice A4 nA c4] w' fun e w2 => e = .returned (.bool (decide (fa = fb))) ∧ w'.grownBy w2 none := fun w' h h' =>
      same7_any _ _ fa fb w' h h' (Nat.le_trans HFA.out.1 (by decide)) (Nat.le_trans HFB.out.1 (by decide))
    have HRA := Go.Lib.hid rA
    have HRB := Go.Lib.hid rB
    have HSM := Go.Lib.hid sm
    have HX := Go.Lib.hid hX
    have HY := Go.Lib.hid hY
    have qg : ∀ w, (eqGuard .neq 34 (.tmp 38) (.tmp 41) (idv X) (idv Y)).run Try.prog w = .ok () w := fun _ => run_eqGuard_id idEq X Y
    have hlen : fa.length = fb.length := by rw [← HNA.out, ← HNB.out]
    have HLEN := Go.Lib.hid hlen
    clear rA rB sm hX hY hlen
    have c0 := HB5.out.cellAt (i := 0) rfl
    have c1 := HB5.out.cellAt (i := 1) rfl
    by_cases hxy : X = Y
    · have qn : ∀ w, (binOp .neq 34 (idv X) (idv Y)).run Try.prog w = .ok (.bool false) w := fun w => (run_neq_id (w := w) idEq X Y).trans (by rw [hxy, beq_self_eq_true]; rfl)
      have HXY := Go.Lib.hid hxy
      clear hxy
      go_wp2_with fail
      refine (HRA.out _ HX5.out).mono ?_
      rintro e w6 ⟨rfl, g6⟩
      have HY6 := Go.Lib.hid (RSS.gr HY5.out g6)
      go_frame
      go_wp2_with fail
      refine (HRB.out _ HY6.out).mono ?_
      rintro e w7 ⟨rfl, g7⟩
      have HX7 := Go.Lib.hid (RSS.gr HX5.out (gb_trans g6 g7))
      have HY7 := Go.Lib.hid (RSS.gr HY6.out g7)
      have hb7 := (HB5.out.grown g6 (by simp)).grown g7 (by simp)
      have HG7 := Go.Lib.hid (gb_trans (gb_trans HG5.out g6) g7)
      have HR17 := Go.Lib.hid (RL.gr HR1.out (gb_trans g6 g7))
      have HR27 := Go.Lib.hid (RL.gr HR2.out (gb_trans g6 g7))
      have HB7 := Go.Lib.hid hb7
      clear g6 g7 c0 c1 hb7
      go_frame
      by_cases hab : fa = fb
      · have hlo : ok = false ∧ m1 = 0 ∧ m2 = 0 := by
          rcases HO.out with ⟨h1, h2, h3, _⟩ | ⟨_, _, _, h, _⟩
          · exact ⟨h1, by rw [HM1.out, h2]; rfl, by rw [HM2.out, h3]; rfl⟩
          · exact absurd hab h
        obtain ⟨rfl, rfl, rfl⟩ := hlo
        have hdab : decide (fa = fb) = true := decide_eq_true hab
        rw [hdab] at HSM
        clear hab hdab
        go_wp2_with (go_at_call 19; ((with_reducible refine (HSM.out _ HX7.out HY7.out).mono ?_); rintro e w8 ⟨rfl, g8⟩); have hb8 := HB7.out.grown g8 (by simp); have c0 := hb8.cellAt (i := 0) rfl; have c1 := hb8.cellAt (i := 1) rfl)
        go_ret
        exact ⟨rfl, gb_trans HG7.out g8⟩
      · have hlo : ok = true ∧ l1 ≠ l2 ∧ sumC c l1 = sumC c l2 ∧ l1.length ≤ 1000001 ∧ l2.length ≤ 1000001 := by
          rcases HO.out with ⟨h1, h2, h3, h4⟩ | ⟨h1, _, _, _, h2, h3, h4, h5⟩
          · exact absurd (h4 HLEN.out (by rw [← HX.out, ← HY.out]; exact HXY.out)) hab
          · exact ⟨h1, h2, h3, h4, h5⟩
        obtain ⟨rfl, z1, z2, z3, z4⟩ := hlo
        have pt : ∀ w', RL w' (.slice B1 m1 d1) l1 → RL w' (.slice B2 m2 d2) l2 → Calls Try.prog 20 #[.int .i64 c, .agg #[.slice B1 m1 d1, .slice B2 m2 d2]] w' fun e w2 => e = .returned (.bool true) ∧ w'.grownBy w2 none := fun w' h h' =>
          pair_true c _ _ l1 l2 w' h h' z3 z4 z1 z2
        have HPT := Go.Lib.hid pt
        have hdab : decide (fa = fb) = false := decide_eq_false hab
        rw [hdab] at HSM
        clear hab hdab z1 z2 z3 z4 pt
        go_upto_region 10 with (go_at_call 19; ((with_reducible refine (HSM.out _ HX7.out HY7.out).mono ?_); rintro e w8 ⟨rfl, g8⟩))
        have hb8 := HB7.out.grown g8 (by simp)
        have c0 := hb8.cellAt (i := 0) rfl
        have c1 := hb8.cellAt (i := 1) rfl
        go_wp2_with fail
        refine (HPT.out _ (RL.gr HR17.out g8) (RL.gr HR27.out g8)).mono ?_
        rintro e w9 ⟨rfl, g9⟩
        go_frame
        go_wp2_with fail
        go_ret
        exact ⟨rfl, gb_trans (gb_trans HG7.out g8) g9⟩
    · have qn : ∀ w, (binOp .neq 34 (idv X) (idv Y)).run Try.prog w = .ok (.bool true) w := fun w => (run_neq_id (w := w) idEq X Y).trans (by rw [beq_ids hxy]; rfl)
      have hlo : ok = false ∧ m1 = 0 ∧ m2 = 0 := by
        rcases HO.out with ⟨h1, h2, h3, _⟩ | ⟨_, _, h, _⟩
        · exact ⟨h1, by rw [HM1.out, h2]; rfl, by rw [HM2.out, h3]; rfl⟩
        · exact absurd (by rw [HX.out, HY.out]; exact h) hxy
      obtain ⟨rfl, rfl, rfl⟩ := hlo
      clear hxy
      go_wp2_with fail
      refine (HRA.out _ HX5.out).mono ?_
      rintro e w6 ⟨rfl, g6⟩
      have HY6 := Go.Lib.hid (RSS.gr HY5.out g6)
      go_frame
      go_wp2_with fail
      refine (HRB.out _ HY6.out).mono ?_
      rintro e w7 ⟨rfl, g7⟩
      have hb7 := (HB5.out.grown g6 (by simp)).grown g7 (by simp)
      have HG7 := Go.Lib.hid (gb_trans (gb_trans HG5.out g6) g7)
      have e0 := hb7.cellAt (i := 0) rfl
      have e1 := hb7.cellAt (i := 1) rfl
      clear g6 g7 c0 c1
      go_frame
      go_wp2_with fail
      go_ret
      exact ⟨rfl, HG7.out⟩
  · have q1 : decide (nA = nB) = false := decide_eq_false hn
    have q2 : decide ((nA : Int) = (nB : Int)) = false := decide_eq_false (by omega)
    have hlo : ok = false ∧ m1 = 0 ∧ m2 = 0 := by
      rcases HO.out with ⟨h1, h2, h3, _⟩ | ⟨_, h, _⟩
      · exact ⟨h1, by rw [HM1.out, h2]; rfl, by rw [HM2.out, h3]; rfl⟩
      · exact absurd (by rw [HNA.out, HNB.out]; exact h) hn
    obtain ⟨rfl, rfl, rfl⟩ := hlo
    have c0 := HB5.out.cellAt (i := 0) rfl
    have c1 := HB5.out.cellAt (i := 1) rfl
    go_wp2_with fail
    go_ret
    exact ⟨rfl, HG5.out⟩
end Go.Proofs.Ytajgklomcapboaa
namespace Go.Proofs.Ytajgklomcapboaa
open Go.ChangeShapes Go.WideShapes Go.ChangeAt Go.RowKit

set_option maxRecDepth 100000 in
theorem shortLists_lifted (os : Os) (started : os.Started) (H : Type) (enc : TypeId × Value → H) :
    ReturnsInHanded {} Try.checked os 3 .any (Rows.shortListsSpec.pre6 enc Try.prog Try.f3 Rows.shortListsRow.domain false) (Rows.shortListsSpec.post enc Try.prog Try.f3 false true false false) := by
  refine returnsInHanded_of_change (C := Try.checked) ownk started (by kernel_rfl) Try.func3
    (ChangeSpec.witness6 (enc := enc) (C := Try.checked) false ⟨#[], #[.int .i64 0, .slice none 0 0, .slice none 0 0], []⟩ 8 (by kernel_rfl) (by kernel_rfl) (by kernel_rfl) (by kernel_rfl)) ?_
  intro W base args ds gs before hval0 hW _ _
  have hW' := hW
  have hval : ∀ (j : Nat) t v, Try.f3.params[j]? = some t → args[j]? = some v → Value.okWide Try.prog W .any base t v := hval0
  have hlt : ∀ x ∈ before, x.block < W.heap.size := fun x hx => by simpa using hW'.lt x hx
  obtain ⟨p, q, hA, hV, rfl, hfz, hnd⟩ := hW
  rw [Try.params3] at hA hval
  obtain ⟨v0, vs0, d0, ds0, p0, q0, hargs, rfl, rfl, h0, r0⟩ := trodAll_cons hA
  obtain ⟨v1, vs1, d1, ds1, p1, q1, rfl, rfl, rfl, h1, r1⟩ := trodAll_cons r0
  obtain ⟨v2, vs2, d2, ds2, p2, q2, rfl, rfl, rfl, h2, r2⟩ := trodAll_cons r1
  obtain ⟨rfl, rfl, rfl⟩ := trodAll_nil r2
  obtain rfl : args = #[v0, v1, v2] := by cases args; simp_all
  obtain ⟨rfl, rfl⟩ := trodVars_none hV
  obtain ⟨a0, rfl, rfl, rfl, w0⟩ := open_int Try.underlying3 (hval 0 3 v0 rfl rfl) h0
  obtain ⟨l1, b1⟩ := open_bytess Try.underlying22 Try.underlying27 Try.underlying5 (by kernel_rfl) (by kernel_rfl) h1 (okWide_slice Try.underlying22 (hval 1 22 v1 rfl rfl))
  obtain ⟨l2, b2⟩ := open_bytess Try.underlying22 Try.underlying27 Try.underlying5 (by kernel_rfl) (by kernel_rfl) h2 (okWide_slice Try.underlying22 (hval 2 22 v2 rfl rfl))
  refine (lists7_walk a0 v1 v2 l1 l2 _ _ _ b1 (fun _ h => h) b2 (fun _ h => h)).mono fun e W' ⟨he, hg⟩ => ?_
  subst he
  exact ⟨_, rfl, post_true hW' rfl rfl rfl (by decide +kernel) rfl hg⟩

theorem shortLists : Rows.ShortListsSaid :=
  OpenClaim.holds_of_wide 3 Try.f3 rfl rfl rfl rfl rfl rfl rfl ⟨rfl, rfl, rfl, rfl, rfl⟩ rfl rfl rfl rfl rfl (by kernel_rfl) Try.func3 (by kernel_rfl)
    (of_decide_eq_true (by kernel_rfl)) (by unfold Func.isWrapper; first | (rw [if_pos (by decide +kernel)]; kernel_rfl) | (rw [if_neg (by decide +kernel)]; exact ⟨rfl, rfl⟩))
    (fun os started H enc _ => shortLists_lifted os started H enc)
end Go.Proofs.Ytajgklomcapboaa
