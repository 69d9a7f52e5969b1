import Derived.Test.YtgimgddlipbniaaSumFor
import Derived.Test.YtgimgddlipbniaaRefFor
import Derived.Test.YtgimgddlipbniaaRefNode
import Derived.Test.YtgimgddlipbniaaKnown
import Derived.Test.YtgimgddlipbniaaEql
import Derived.Test.YtgimgddlipbniaaGuard
/- SumPurposes: the walk. -/
namespace Go.Proofs.Ytgimgddlipbniaa
open Go.RowKit Go.Shelf Sc

theorem idEq : IdEq Try.prog 26 := idEq_dec (e := 5) Try.underlying26 Try.underlying5 (by kernel_rfl) (by kernel_rfl)
theorem okStr : InfoOk Try.prog 9 1 16 := by unfold InfoOk; kernel_rfl
theorem build_str1 (s : ByteArray) (w : World) : (Instr.buildSlice 42 1 #[(0, .string s)]).run Try.prog w = .ok (.slice (some ⟨w.heap.size, 0, none⟩) 1 1) (w.alloc (.cells #[.string s] 9)) := by kernel_rfl
theorem wpList_build_str {w : World} {ops : Array Oper} {rest : List Oper} {a : Act} {Q : Exit → Act → World → Prop} {dst : Option Tmp} {ty : TypeId} {pos : String} {aft : Array Edge} {x : Operand} (l : List UInt8) (hx : a.eval x = sv l)
    (h : wpList Try.prog ops Q rest (a.put dst (.slice (some ⟨w.heap.size, 0, none⟩) 1 1)) (w.alloc (.cells #[sv l] 9))) :
    wpList Try.prog ops Q (⟨dst, .buildSlice 42 1 #[(0, x)], ty, pos, aft, none⟩ :: rest) a w := by
  refine wpList_run rfl ?_ h
  simp only [execOp, List.map_toArray, List.map_cons, List.map_nil, hx, Sem.run_bind]
  unfold sv
  rw [build_str1]
  rfl
theorem RdS.gr {w w' : World} {v : Value} {ls : List (List UInt8)} (h : RdS (fun b => b < w.heap.size) w v ls) (hg : w.grownBy w' none) : RdS (fun b => b < w'.heap.size) w' v ls :=
  Rd.mono (Rd.grown h hg (by simp)) fun b hb => Nat.lt_of_lt_of_le hb hg.size
theorem forText_cap (p : List UInt8) (ls : List (List UInt8)) (n m : Nat) (hp : p.length ≤ 100) (hm : m ≤ 100) (hn : n ≤ 6) : (forText p (capped n m ls)).length ≤ 1099511627776 := by
  have h1 := capped_flat n m ls
  have h2 := capped_length n m ls
  have h3 : ∀ l : List (List UInt8), (forParts l).flatten.length = l.flatten.length + 4 * l.length := fun l => by
    induction l with
    | nil => rfl
    | cons a l ih => simp only [forParts, List.flatMap_cons, List.flatten_append, List.flatten_cons, List.flatten_nil, List.append_nil, List.length_append, List.length_cons, be4, List.length_nil] at ih ⊢; omega
  have h4 : n * m ≤ 6 * 100 := Nat.mul_le_mul hn hm
  simp only [forText, List.length_append, h3, List.length_cons, List.length_nil]; omega

def purpφ (p : List UInt8) (own : List (List UInt8)) (x y : Sc.Id) (tb : Nat) (i : Nat) (v : Value) (w : World) : Prop := match i with
  | 0 => v = sv p
  | 1 => RLL w v (own)
  | 2 => v = idv (sha (forText p own))
  | 3 => v = sv p
  | 4 => RdS (fun b => b < w.heap.size) w v own
  | 5 => v = idv (sha (forText p own))
  | 6 => v = .bool true
  | 7 => v = .bool true
  | 8 => RL w v (p)
  | 9 => v = idv (sha (0 :: p))
  | 10 => v = sv p
  | 11 => v = idv (sha (0 :: p))
  | 12 => v = .bool true
  | 13 => v = .bool true
  | 14 => v = .bool true
  | 15 => v = .pointer (some ⟨tb, 0, none⟩)
  | 16 => v = idv x
  | 17 => v = .pointer (some ⟨tb, 32, none⟩)
  | 18 => v = idv y
  | 19 => v = idv (sha (1 :: (x.l ++ y.l)))
  | 20 => v = .pointer (some ⟨tb, 0, none⟩)
  | 21 => v = idv x
  | 22 => v = .pointer (some ⟨tb, 32, none⟩)
  | 23 => v = idv y
  | 24 => v = idv (sha (1 :: (x.l ++ y.l)))
  | 25 => v = .bool true
  | 26 => v = .bool true
  | _ => True
theorem purpφ_gr (p : List UInt8) (own : List (List UInt8)) (x y : Sc.Id) (tb : Nat) : ∀ i v w w', purpφ p own x y tb i v w → Gr w w' → purpφ p own x y tb i v w' := by
  intro i v w w' h hg
  match i with
  | 0 => exact h
  | 1 => exact RLL.gr h hg
  | 2 => exact h
  | 3 => exact h
  | 4 => exact RdS.gr h hg
  | 5 => exact h
  | 6 => exact h
  | 7 => exact h
  | 8 => exact RL.gr h hg
  | 9 => exact h
  | 10 => exact h
  | 11 => exact h
  | 12 => exact h
  | 13 => exact h
  | 14 => exact h
  | 15 => exact h
  | 16 => exact h
  | 17 => exact h
  | 18 => exact h
  | 19 => exact h
  | 20 => exact h
  | 21 => exact h
  | 22 => exact h
  | 23 => exact h
  | 24 => exact h
  | 25 => exact h
  | 26 => exact h
  | i + 27 => exact h

set_option maxHeartbeats 4000000 in
theorem purposes_walk (P : List UInt8) (v : Value) (ls : List (List UInt8)) (x y : Sc.Id) (NB : Nat → Prop) (w : World) (hP : P.length ≤ maxLen) (hv : RdBB NB w v ls) (hNB : ∀ b, NB b → b < w.heap.size) :
    Calls Try.prog 8 #[sv P, v, .agg (x.l.map bv ++ y.l.map bv).toArray] w fun e w' => e = .returned (.bool true) ∧ w.grownBy w' none := by
  go_enter Try.func8, Try.ntmps8
  obtain ⟨vs0, hv1, hv2⟩ := id hv
  obtain ⟨A, c, rfl, hc⟩ := hv1.form
  have hm := hv1.le
  unfold maxLen at hm hP
  have H1 := Go.Lib.hid hv1
  have H2 := Go.Lib.hid hv2
  clear hv1 hv2 hv hc
  obtain ⟨q0, hq0⟩ : ∃ q, min P.length 100 = q := ⟨_, rfl⟩
  have hq0l : q0 ≤ P.length := by omega
  have HP := Go.Lib.hid (take_cut P 100 q0 hq0)
  have hlenP := run_len_sv (P := Try.prog) (ty := 3) Try.underlying9 P
  obtain ⟨p, hp⟩ : ∃ p, p = P.take 100 := ⟨_, rfl⟩
  have hp100 : p.length ≤ 100 := by rw [hp, List.length_take]; omega
  rw [← hp] at HP
  clear hp
  have bt := Bk.new w 38 (x.l.map bv ++ y.l.map bv)
  have gt := gb_alloc (gb_refl w none) (.cells (x.l.map bv ++ y.l.map bv).toArray 38)
  go_wp2_with (first
    | (go_at_call 15; ((with_reducible refine (known_any _).mono ?_); rintro e w1 ⟨rfl, g1⟩))
    | ((with_reducible refine wpList_min (x := .tmp 16) P.length 100 q0 hq0 (by kernel_rfl) (by kernel_rfl) ?_))
    | ((with_reducible refine wpList_cut_sv (x := .tmp 14) Try.underlying9 P (by kernel_rfl) 0 q0 (.inl ⟨rfl, rfl⟩) (.inr ⟨_, rfl, by kernel_rfl⟩) (Nat.zero_le _) hq0l p HP.out ?_)))
  have bt1 := Go.Lib.hid (bt.grown g1 (by simp))
  have g2 := Go.Lib.hid (gb_trans gt g1)
  clear bt gt g1 hlenP hq0 hq0l hP HP
  go_loopw [7, 8, 21] (fun vo vl n wr => ∃ k : Nat, k ≤ ls.length ∧ n = .int .i64 k ∧ Hid (OwBB (w.heap.size + 1) NB wr vo (capped 6 100 (ls.take k))) ∧ Hid (Ow (w.heap.size + 1) wr 1 vl (capped 6 100 (ls.take k)).length ((capped 6 100 (ls.take k)).map sv)) ∧
      Hid (∀ b, vo.ownBlock = some b → vl.ownBlock ≠ some b) ∧ Hid (w.grownBy wr none) ∧ Hid (Bk wr w.heap.size 38 (x.l.map bv ++ y.l.map bv)))
    (fun _ _ n _ => ls.length - (intOf n).toNat)
  case atStart => exact ⟨0, Nat.zero_le _, rfl, Go.Lib.hid (OwBB.nil _ _ _), Go.Lib.hid (Ow.nil _ _ _), Go.Lib.hid (fun b h => by cases h), g2, bt1⟩
  case round =>
    clear g2 bt1
    obtain ⟨k, hk, rfl, Ho, Hl, Hd, Hg, Ht⟩ := hrel
    by_cases hlt : k < ls.length
    · obtain ⟨b, o, c', he, hb, hnc, hcm, hcell⟩ := H1.out.at (by omega)
      injection he with hA _ _
      subst hA
      obtain ⟨l, hl⟩ : ∃ l, ls[k]? = some l := ⟨_, List.getElem?_eq_getElem hlt⟩
      obtain ⟨u, hu, hru⟩ := H2.out k l hl
      obtain ⟨A1, c1, rfl, hc1⟩ := hru.form
      have c0 : wr.cell? ⟨b, o + k, none⟩ = some (.slice A1 l.length c1) := cell_grown Hg.out (hcell k _ hu) (by simp)
      have HL := Go.Lib.hid hl
      have HR := Go.Lib.hid (Rd.grown hru Hg.out (by simp))
      have hkI : (0 : Int) ≤ (k : Int) ∧ (k : Int) < 9223372036854775807 := by omega
      have hklt : decide (k < ls.length) = true := decide_eq_true hlt
      clear hl hu hru hcell
      by_cases h8 : k < 6
      · have h8' : decide ((k : Int) < 6) = true := decide_eq_true (by omega)
        obtain ⟨q, hq⟩ : ∃ q, min l.length 100 = q := ⟨_, rfl⟩
        have Hrq := Go.Lib.hid (RdB.takeTo HR.out 100 q hq)
        have HCS := Go.Lib.hid (capped_snoc 6 100 k ls l HL.out h8)
        have hcl := capped_length 6 100 (ls.take k)
        obtain ⟨C, hC⟩ : ∃ C, C = capped 6 100 (ls.take k) := ⟨_, rfl⟩
        rw [← hC] at Ho Hl HCS hcl
        obtain ⟨ow, ho1, ho2⟩ := Ho.out
        obtain ⟨m, hm⟩ : ∃ m, m = C.length := ⟨_, rfl⟩
        rw [← hm] at ho1 hcl Hl
        have HM := Go.Lib.hid hm
        obtain ⟨Ao, co, rfl⟩ := ho1.form
        obtain ⟨Al, cl, rfl⟩ := Hl.out.form
        have hs1 : Src Try.prog 1 22 (.slice (some ⟨wr.heap.size, 0, none⟩) 1 1) 1 [.slice A1 q c1] (wr.alloc (.cells #[.slice A1 q c1] 24)) := src_new (P := Try.prog) Try.underlying22 wr 24 1 1 [.slice A1 q c1] rfl (by intro u hu; rw [List.mem_singleton.1 hu]; rfl)
        have hB1 : w.heap.size + 1 ≤ (wr.alloc (.cells #[.slice A1 q c1] 24)).heap.size := by rw [World.size_alloc]; have := Hg.out.size; omega
        have h63 : m + 1 ≤ maxLen := Nat.le_trans (Nat.succ_le_succ hcl) (by decide)
        have hby : (m + 1) * 24 ≤ 140737488355328 := by omega
        have hby2 : (m + 1) * 16 ≤ 140737488355328 := by omega
        have OL := Go.Lib.hid ho1.len
        have OW := Go.Lib.hid ho2
        have hoa := ho1.alloc (.cells #[.slice A1 q c1] 24)
        have ho1' := Go.Lib.hid ho1
        have hno : ∀ r, (Value.slice Ao m co).ownBlock = some r → ¬ NB r := fun r hr hN => by have := (ho1.lt hr).1; have := hNB r hN; omega
        have HNO := Go.Lib.hid hno
        have hga : wr.grownBy (wr.alloc (.cells #[.slice A1 q c1] 24)) none := World.grownBy_alloc wr _ none
        have HGA := Go.Lib.hid hga
        clear ho1 ho2 hm hC hno hga
        go_wp2_with (first
          | ((with_reducible refine wpList_min (x := .tmp 30) l.length 100 q hq (by kernel_rfl) (by kernel_rfl) ?_))
          | ((with_reducible refine wpList_append_ow (s := .tmp 33) (x := .tmp 35) (v := .slice Ao m co) (y := .slice (some ⟨wr.heap.size, 0, none⟩) 1 1) (by kernel_rfl) (by kernel_rfl) Try.underlying22 okSl hoa hs1 hB1 h63 hby ?_)
             intro v3 w3 ho3 hg3 hb3
             have hr3 : RdB NB w3 (.slice A1 q c1) (l.take 100) := Rd.grown (Rd.alloc Hrq.out _) hg3 HNO.out
             have hol : Ow (w.heap.size + 1) w3 1 (.slice Al m cl) m (C.map sv) := (Hl.out.grown HGA.out (fun _ _ => by simp)).grown hg3 (fun b h e => Hd.out b e h)
             have hs2 : Src Try.prog 1 42 (.slice (some ⟨w3.heap.size, 0, none⟩) 1 1) 1 [sv (l.take 100)] (w3.alloc (.cells #[sv (l.take 100)] 9)) := src_new (P := Try.prog) Try.underlying42 w3 9 1 1 [sv (l.take 100)] rfl (by intro u hu; rw [List.mem_singleton.1 hu]; rfl)
             have hB2 : w.heap.size + 1 ≤ (w3.alloc (.cells #[sv (l.take 100)] 9)).heap.size := by rw [World.size_alloc]; have := hg3.size; omega
             have hola := hol.alloc (.cells #[sv (l.take 100)] 9)
             have HOL := Go.Lib.hid hol
             have HR3 := Go.Lib.hid hr3
             clear hol
             obtain ⟨A3, c3, rfl⟩ := ho3.form)
          | ((with_reducible refine wpList_conv_bs (x := .tmp 38) (v := .slice A1 q c1) Try.underlying24 Try.underlying5 Try.underlying9 (l.take 100) (by kernel_rfl) hr3 ?_))
          | ((with_reducible refine wpList_build_str (x := .tmp 39) (l.take 100) (by kernel_rfl) ?_))
          | ((with_reducible refine wpList_append_ow (s := .tmp 37) (x := .tmp 40) (v := .slice Al m cl) (y := .slice (some ⟨w3.heap.size, 0, none⟩) 1 1) (by kernel_rfl) (by kernel_rfl) Try.underlying42 okStr hola hs2 hB2 h63 hby2 ?_)
             intro v4 w4 ho4 hg4 hb4
             obtain ⟨A4, c4, rfl⟩ := ho4.form))
        go_roundw
        case rel =>
          have hl0 : ∀ r, (Value.slice Al m cl).ownBlock = some r → w.heap.size + 1 ≤ r ∧ r < wr.heap.size := fun r hr => Hl.out.lt hr
          have ho0 : ∀ r, (Value.slice Ao m co).ownBlock = some r → w.heap.size + 1 ≤ r ∧ r < wr.heap.size := fun r hr => ho1'.out.lt hr
          have hga := HGA.out
          have h13 : wr.grownBy w3 (Value.slice Ao m co).ownBlock := gb_trans (World.grownBy_alloc wr _ _) hg3
          have h34 : w3.grownBy w4 (Value.slice Al m cl).ownBlock := gb_trans (World.grownBy_alloc w3 _ _) hg4
          have hz3 := h13.size
          have hd3 : ∀ b, (Value.slice A3 (m + 1) c3).ownBlock = some b → (Value.slice Al m cl).ownBlock ≠ some b := fun b hb e => by
            rcases hb3 with h | h
            · exact Hd.out b (h.symm.trans hb) e
            · rw [World.size_alloc] at h
              have := Option.some.inj (h.symm.trans hb); have := (hl0 b e).2; omega
          refine ⟨_, _, _, _, _, ⟨k + 1, ?_, ?_, Go.Lib.hid ?_, Go.Lib.hid ?_, Go.Lib.hid ?_, Go.Lib.hid ?_, Go.Lib.hid ?_⟩, rfl, rfl, rfl, rfl, rfl⟩
          · omega
          · go_num
          · rw [HCS.out]
            have hm := HM.out
            subst hm
            exact (OwBB.snoc OW.out (by have := OL.out; omega) Hrq.out ho3 h13 HNO.out).grown h34 (fun b hb => fun e => hd3 b hb e) (fun r hr hN => by have := (hl0 r hr).1; have := hNB r hN; omega)
          · rw [HCS.out, List.length_append, List.map_append, ← HM.out]
            exact ho4
          · intro b hb e
            rcases hb4 with h | h
            · exact hd3 b hb (h.symm.trans e)
            · rw [World.size_alloc] at h
              have h1 := Option.some.inj (h.symm.trans e)
              have h2 := (ho3.lt hb).2; omega
          · exact gb_own (gb_own Hg.out h13 fun r hr => by have := (ho0 r hr).1; omega) h34 fun r hr => by have := (hl0 r hr).1; omega
          · exact (Ht.out.grown h13 fun h => by have := (ho0 _ h.symm).1; omega).grown h34 fun h => by have := (hl0 _ h.symm).1; omega
        case measure => simp [intOf]; omega
      · have h8' : decide ((k : Int) < 6) = false := decide_eq_false (by omega)
        have HCS := Go.Lib.hid (capped_same 6 100 k ls (by omega))
        clear HL HR
        go_wp2_with fail
        go_roundw
        case rel =>
          refine ⟨k + 1, by omega, by go_num, ?_, ?_, Hd, Hg, Ht⟩
          · rw [HCS.out]; exact Ho
          · rw [HCS.out]; exact Hl
        case measure => simp [intOf]; omega
    · obtain rfl : k = ls.length := by omega
      have hl' : decide (ls.length < ls.length) = false := decide_eq_false (by omega)
      have hft := forText_cap p (ls.take ls.length) 6 100 hp100 (Nat.le_refl _) (Nat.le_refl _)
      have hn6 : (capped 6 100 (ls.take ls.length)).length ≤ 1000000 := Nat.le_trans (capped_length _ _ _) (by decide)
      have hown0 : RLL wr _ _ := Ho.out.rd (NB' := fun b => b < wr.heap.size) (fun b hb => Nat.lt_of_lt_of_le (hNB b hb) Hg.out.size) (fun b hb => by obtain ⟨vs, h1, _⟩ := Ho.out; exact (h1.lt hb).2)
      have hlist0 : RdS (fun b => b < wr.heap.size) wr _ (capped 6 100 (ls.take ls.length)) := Hl.out.rd fun b hb => (Hl.out.lt hb).2
      have gW := Hg.out
      have bW := Ht.out
      clear Ho Hl Hd Hg Ht hk hlt
      generalize capped 6 100 (ls.take ls.length) = own at *
      have hpm : p.length ≤ maxLen := Nat.le_trans hp100 (by decide)
      have hpl : p.length ≤ 1099511627776 := by omega
      have hpl2 : p.length ≤ 1099511627000 := by omega
      go_wp2_with ((with_reducible refine wpList_conv_sb (B := w.heap.size) (x := .tmp 43) Try.underlying9 Try.underlying24 Try.underlying5 p (by kernel_rfl) hpm gW.size ?_)
                   intro v5 W5 ho5 hg5 hb5)
      have hown := RLL.gr hown0 hg5
      have hlist := RdS.gr hlist0 hg5
      have hent : RL W5 v5 p := ho5.rd fun b hb => (ho5.lt hb).2
      have bW5 := (bW.grown hg5 (by simp)).range
      have gW5 := gb_trans gW hg5
      have rx : W5.rangeAt w.heap.size 0 (x.l.map bv) := range_left bW5
      have ry : W5.rangeAt w.heap.size 32 (y.l.map bv) := by have := range_right bW5 (n := 32) (by rw [List.length_map, x.h]); rwa [Nat.zero_add] at this
      clear hown0 hlist0 bW hg5 hb5 ho5 bW5 gW
      generalize w.heap.size = tb at *
      refine wp_region_specs 27 [45, 46, 47, 48, 49, 50, 51, 52, 53, 54, 55, 56, 57, 58, 59, 60, 61, 62, 63, 64, 65, 66, 67, 68, 69, 70, 71] (by kernel_rfl) (by kernel_rfl) (purpφ p own x y tb) (purpφ_gr p own x y tb) ?step ?fin
      case step =>
        intro i_ o_ ho hi_ u w' hg hd
        rcases (by omega : i_ = 0 ∨ i_ = 1 ∨ i_ = 2 ∨ i_ = 3 ∨ i_ = 4 ∨ i_ = 5 ∨ i_ = 6 ∨ i_ = 7 ∨ i_ = 8 ∨ i_ = 9 ∨ i_ = 10 ∨ i_ = 11 ∨ i_ = 12 ∨ i_ = 13 ∨ i_ = 14 ∨ i_ = 15 ∨ i_ = 16 ∨ i_ = 17 ∨ i_ = 18 ∨ i_ = 19 ∨ i_ = 20 ∨ i_ = 21 ∨ i_ = 22 ∨ i_ = 23 ∨ i_ = 24 ∨ i_ = 25 ∨ i_ = 26) with rfl | rfl | rfl | rfl | rfl | rfl | rfl | rfl | rfl | rfl | rfl | rfl | rfl | rfl | rfl | rfl | rfl | rfl | rfl | rfl | rfl | rfl | rfl | rfl | rfl | rfl | rfl <;> obtain rfl := Option.some.inj ho <;>
          simp (decide := true) only [fillAct, List.mapIdx_cons, List.mapIdx_nil, Nat.reduceAdd, if_true, if_false, List.getD_cons_zero, List.getD_cons_succ]
        · clear hd ho
          go_wp2_with fail
          exact ⟨rfl, gb_refl _ _, rfl⟩
        · clear hd ho
          go_wp2_with fail
          exact ⟨rfl, gb_refl _ _, hown.gr hg⟩
        · have h0 : u 45 = sv p := hd 0 (by kernel_rfl)
          have h1 : RdBB (fun b => b < w'.heap.size) w' (u 46) (own) := hd 1 (by kernel_rfl)
          clear hd ho
          rw [h0]
          go_wp2_with (go_at_call 22; ((with_reducible refine (for_any p _ own _ _ h1 (fun _ h => h) hn6 hft).mono ?_); rintro e w3 ⟨rfl, g3⟩))
          exact ⟨rfl, g3, rfl⟩
        · clear hd ho
          go_wp2_with fail
          exact ⟨rfl, gb_refl _ _, rfl⟩
        · clear hd ho
          go_wp2_with fail
          exact ⟨rfl, gb_refl _ _, RdS.gr hlist hg⟩
        · have h3 : u 48 = sv p := hd 3 (by kernel_rfl)
          have h4 : RdS (fun b => b < w'.heap.size) w' (u 49) own := hd 4 (by kernel_rfl)
          clear hd ho
          rw [h3]
          go_wp2_with (go_at_call 23; ((with_reducible refine (refFor_any p _ own _ _ h4 hn6 hft).mono ?_); rintro e w3 ⟨rfl, g3⟩))
          exact ⟨rfl, g3, rfl⟩
        · have h2 : u 47 = idv (sha (forText p own)) := hd 2 (by kernel_rfl)
          have h5 : u 50 = idv (sha (forText p own)) := hd 5 (by kernel_rfl)
          clear hd ho
          rw [h2, h5]
          go_wp2_with ((with_reducible refine wpList_eql_id idEq (sha (forText p own)) (sha (forText p own)) (by kernel_rfl) (by kernel_rfl) ?_))
          refine ⟨rfl, gb_refl _ _, ?_⟩
          show Value.bool _ = .bool true
          rw [beq_self_eq_true]
        · have h6 : u 51 = .bool true := hd 6 (by kernel_rfl)
          clear hd ho
          rw [h6]
          go_wp2_with fail
          exact ⟨rfl, gb_refl _ _, rfl⟩
        · have h7 : u 52 = .bool true := hd 7 (by kernel_rfl)
          clear hd ho
          rw [h7]
          refine wpList_guard (by rfl) ?_
          go_wp2_with fail
          exact ⟨rfl, gb_refl _ _, hent.gr hg⟩
        · have h7 : u 52 = .bool true := hd 7 (by kernel_rfl)
          have h8 : RdB (fun b => b < w'.heap.size) w' (u 53) (p) := hd 8 (by kernel_rfl)
          clear hd ho
          rw [h7]
          refine wpList_guard (by rfl) ?_
          go_wp2_with (go_at_call 20; ((with_reducible refine (leaf_any _ p _ _ h8 (fun _ h => h) hpl).mono ?_); rintro e w3 ⟨rfl, g3⟩))
          exact ⟨rfl, g3, rfl⟩
        · have h7 : u 52 = .bool true := hd 7 (by kernel_rfl)
          clear hd ho
          rw [h7]
          refine wpList_guard (by rfl) ?_
          go_wp2_with fail
          exact ⟨rfl, gb_refl _ _, rfl⟩
        · have h7 : u 52 = .bool true := hd 7 (by kernel_rfl)
          have h10 : u 55 = sv p := hd 10 (by kernel_rfl)
          clear hd ho
          rw [h7, h10]
          refine wpList_guard (by rfl) ?_
          go_wp2_with (go_at_call 24; ((with_reducible refine (refLeaf_any p hpl2 _).mono ?_); rintro e w3 ⟨rfl, g3⟩))
          exact ⟨rfl, g3, rfl⟩
        · have h7 : u 52 = .bool true := hd 7 (by kernel_rfl)
          have h9 : u 54 = idv (sha (0 :: p)) := hd 9 (by kernel_rfl)
          have h11 : u 56 = idv (sha (0 :: p)) := hd 11 (by kernel_rfl)
          clear hd ho
          rw [h7, h9, h11]
          refine wpList_guard (by rfl) ?_
          go_wp2_with ((with_reducible refine wpList_eql_id idEq (sha (0 :: p)) (sha (0 :: p)) (by kernel_rfl) (by kernel_rfl) ?_))
          refine ⟨rfl, gb_refl _ _, ?_⟩
          show Value.bool _ = .bool true
          rw [beq_self_eq_true]
        · have h7 : u 52 = .bool true := hd 7 (by kernel_rfl)
          have h12 : u 57 = .bool true := hd 12 (by kernel_rfl)
          clear hd ho
          rw [h7, h12]
          go_wp2_with fail
          exact ⟨rfl, gb_refl _ _, rfl⟩
        · have h13 : u 58 = .bool true := hd 13 (by kernel_rfl)
          clear hd ho
          rw [h13]
          go_wp2_with fail
          exact ⟨rfl, gb_refl _ _, rfl⟩
        · have h14 : u 59 = .bool true := hd 14 (by kernel_rfl)
          clear hd ho
          rw [h14]
          refine wpList_guard (by rfl) ?_
          go_wp2_with fail
          exact ⟨rfl, gb_refl _ _, rfl⟩
        · have h14 : u 59 = .bool true := hd 14 (by kernel_rfl)
          have h15 : u 60 = .pointer (some ⟨tb, 0, none⟩) := hd 15 (by kernel_rfl)
          clear hd ho
          rw [h14, h15]
          refine wpList_guard (by rfl) ?_
          have r := rangeAt_grown rx hg (by simp)
          go_wp2_with ((with_reducible refine wpList_load_range (t := 26) tb 0 (x.l.map bv) _ r (by kernel_rfl) Try.underlying26 rfl (idSize _) ?_))
          exact ⟨rfl, gb_refl _ _, rfl⟩
        · have h14 : u 59 = .bool true := hd 14 (by kernel_rfl)
          clear hd ho
          rw [h14]
          refine wpList_guard (by rfl) ?_
          go_wp2_with fail
          exact ⟨rfl, gb_refl _ _, rfl⟩
        · have h14 : u 59 = .bool true := hd 14 (by kernel_rfl)
          have h17 : u 62 = .pointer (some ⟨tb, 32, none⟩) := hd 17 (by kernel_rfl)
          clear hd ho
          rw [h14, h17]
          refine wpList_guard (by rfl) ?_
          have r := rangeAt_grown ry hg (by simp)
          go_wp2_with ((with_reducible refine wpList_load_range (t := 26) tb 32 (y.l.map bv) _ r (by kernel_rfl) Try.underlying26 rfl (idSize _) ?_))
          exact ⟨rfl, gb_refl _ _, rfl⟩
        · have h14 : u 59 = .bool true := hd 14 (by kernel_rfl)
          have h16 : u 61 = idv x := hd 16 (by kernel_rfl)
          have h18 : u 63 = idv y := hd 18 (by kernel_rfl)
          clear hd ho
          rw [h14, h16, h18]
          refine wpList_guard (by rfl) ?_
          go_wp2_with (go_at_call 21; ((with_reducible refine (node_any x y _).mono ?_); rintro e w3 ⟨rfl, g3⟩))
          exact ⟨rfl, g3, rfl⟩
        · have h14 : u 59 = .bool true := hd 14 (by kernel_rfl)
          clear hd ho
          rw [h14]
          refine wpList_guard (by rfl) ?_
          go_wp2_with fail
          exact ⟨rfl, gb_refl _ _, rfl⟩
        · have h14 : u 59 = .bool true := hd 14 (by kernel_rfl)
          have h20 : u 65 = .pointer (some ⟨tb, 0, none⟩) := hd 20 (by kernel_rfl)
          clear hd ho
          rw [h14, h20]
          refine wpList_guard (by rfl) ?_
          have r := rangeAt_grown rx hg (by simp)
          go_wp2_with ((with_reducible refine wpList_load_range (t := 26) tb 0 (x.l.map bv) _ r (by kernel_rfl) Try.underlying26 rfl (idSize _) ?_))
          exact ⟨rfl, gb_refl _ _, rfl⟩
        · have h14 : u 59 = .bool true := hd 14 (by kernel_rfl)
          clear hd ho
          rw [h14]
          refine wpList_guard (by rfl) ?_
          go_wp2_with fail
          exact ⟨rfl, gb_refl _ _, rfl⟩
        · have h14 : u 59 = .bool true := hd 14 (by kernel_rfl)
          have h22 : u 67 = .pointer (some ⟨tb, 32, none⟩) := hd 22 (by kernel_rfl)
          clear hd ho
          rw [h14, h22]
          refine wpList_guard (by rfl) ?_
          have r := rangeAt_grown ry hg (by simp)
          go_wp2_with ((with_reducible refine wpList_load_range (t := 26) tb 32 (y.l.map bv) _ r (by kernel_rfl) Try.underlying26 rfl (idSize _) ?_))
          exact ⟨rfl, gb_refl _ _, rfl⟩
        · have h14 : u 59 = .bool true := hd 14 (by kernel_rfl)
          have h21 : u 66 = idv x := hd 21 (by kernel_rfl)
          have h23 : u 68 = idv y := hd 23 (by kernel_rfl)
          clear hd ho
          rw [h14, h21, h23]
          refine wpList_guard (by rfl) ?_
          go_wp2_with (go_at_call 25; ((with_reducible refine (refNode_any x y _).mono ?_); rintro e w3 ⟨rfl, g3⟩))
          exact ⟨rfl, g3, rfl⟩
        · have h14 : u 59 = .bool true := hd 14 (by kernel_rfl)
          have h19 : u 64 = idv (sha (1 :: (x.l ++ y.l))) := hd 19 (by kernel_rfl)
          have h24 : u 69 = idv (sha (1 :: (x.l ++ y.l))) := hd 24 (by kernel_rfl)
          clear hd ho
          rw [h14, h19, h24]
          refine wpList_guard (by rfl) ?_
          go_wp2_with ((with_reducible refine wpList_eql_id idEq (sha (1 :: (x.l ++ y.l))) (sha (1 :: (x.l ++ y.l))) (by kernel_rfl) (by kernel_rfl) ?_))
          refine ⟨rfl, gb_refl _ _, ?_⟩
          show Value.bool _ = .bool true
          rw [beq_self_eq_true]
        · have h14 : u 59 = .bool true := hd 14 (by kernel_rfl)
          have h25 : u 70 = .bool true := hd 25 (by kernel_rfl)
          clear hd ho
          rw [h14, h25]
          go_wp2_with fail
          exact ⟨rfl, gb_refl _ _, rfl⟩

      case fin =>
        intro u w' hg hφ
        have h9 : u 71 = .bool true := hφ 26 (by omega)
        simp (decide := true) only [fillAct, List.mapIdx_cons, List.mapIdx_nil, Nat.reduceAdd, if_true, if_false, List.drop_succ_cons, List.drop_zero]
        rw [h9]
        clear hφ
        go_wp2_with fail
        go_ret
        exact ⟨rfl, gb_trans gW5 hg⟩
end Go.Proofs.Ytgimgddlipbniaa
