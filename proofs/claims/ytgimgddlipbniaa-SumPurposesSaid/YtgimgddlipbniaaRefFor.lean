import Derived.Test.YtgimgddlipbniaaOwX
import Derived.Test.YtgimgddlipbniaaRefText
/- scrivenerref01.For: the sum of parts for a purpose. -/
namespace Go.Proofs.Ytgimgddlipbniaa
open Go.RowKit Go.Shelf Sc

/-- A list of strings. -/
def RdS (NB : Nat → Prop) (w : World) (v : Value) (ls : List (List UInt8)) : Prop := Rd NB w 1 v ls.length (ls.map sv)
def rforφ (cur l : List UInt8) (b o n c k : Nat) (i : Nat) (v : Value) (w : World) : Prop := match i with
  | 0 => v = sv cur
  | 1 => v = .int .i64 (l.length : Int)
  | 2 => v = .int .i64 ((l.length : Int) / 16777216)
  | 3 => v = .int .i64 ((l.length : Int) / 16777216 % 256)
  | 4 => v = .int .u8 ((l.length : Int) / 16777216 % 256)
  | 5 => v = .int .i64 (l.length : Int)
  | 6 => v = .int .i64 ((l.length : Int) / 65536)
  | 7 => v = .int .i64 ((l.length : Int) / 65536 % 256)
  | 8 => v = .int .u8 ((l.length : Int) / 65536 % 256)
  | 9 => v = .int .i64 (l.length : Int)
  | 10 => v = .int .i64 ((l.length : Int) / 256)
  | 11 => v = .int .i64 ((l.length : Int) / 256 % 256)
  | 12 => v = .int .u8 ((l.length : Int) / 256 % 256)
  | 13 => v = .int .i64 (l.length : Int)
  | 14 => v = .int .i64 ((l.length : Int) % 256)
  | 15 => v = .int .u8 ((l.length : Int) % 256)
  | 16 => RL w v (be4 l.length)
  | 17 => v = sv (be4 l.length)
  | 18 => v = .slice (some ⟨b, o, none⟩) n c
  | 19 => v = .int .i64 (k : Int)
  | 20 => v = .pointer (some ⟨b, o + k, none⟩)
  | 21 => v = sv l
  | 22 => v = sv (be4 l.length ++ l)
  | 23 => v = sv (cur ++ (be4 l.length ++ l))
  | _ => True
theorem rforφ_gr (cur l : List UInt8) (b o n c k : Nat) : ∀ i v w w', rforφ cur l b o n c k i v w → Gr w w' → rforφ cur l b o n c k i v w' := by
  intro i v w w' h hg
  match i with
  | 0 => exact h
  | 1 => exact h
  | 2 => exact h
  | 3 => exact h
  | 4 => exact h
  | 5 => exact h
  | 6 => exact h
  | 7 => exact h
  | 8 => exact h
  | 9 => exact h
  | 10 => exact h
  | 11 => exact h
  | 12 => exact h
  | 13 => exact h
  | 14 => exact h
  | 15 => exact h
  | 16 => exact RL.gr h hg
  | 17 => exact h
  | 18 => exact h
  | 19 => exact h
  | 20 => exact h
  | 21 => exact h
  | 22 => exact h
  | 23 => exact h
  | i + 24 => exact h

theorem forParts_flat_snoc (ls : List (List UInt8)) (l : List UInt8) : (forParts (ls ++ [l])).flatten = (forParts ls).flatten ++ (be4 l.length ++ l) := by rw [forParts_snoc]; simp
theorem forText_take (p : List UInt8) (ls : List (List UInt8)) (k : Nat) (l : List UInt8) (h : ls[k]? = some l) : forText p (ls.take (k + 1)) = forText p (ls.take k) ++ (be4 l.length ++ l) := by
  unfold forText
  rw [List.take_add_one, h]
  simp [forParts_snoc]
theorem forText_take_le (p : List UInt8) (ls : List (List UInt8)) (k : Nat) : (forText p (ls.take k)).length ≤ (forText p ls).length := by
  unfold forText
  have : forParts ls = forParts (ls.take k) ++ forParts (ls.drop k) := by
    unfold forParts; rw [← List.flatMap_append, List.take_append_drop]
  rw [this]
  simp only [List.length_append, List.flatten_append]; omega

set_option maxHeartbeats 2000000 in
theorem refFor_any (p : List UInt8) (v : Value) (ls : List (List UInt8)) (NB : Nat → Prop) (w : World) (hv : RdS NB w v ls) (hn : ls.length ≤ 1000000) (hlen : (forText p ls).length ≤ 1099511627776) :
    Calls Try.prog 23 #[sv p, v] w fun e w' => e = .returned (idv (sha (forText p ls))) ∧ w.grownBy w' none := by
  go_enter Try.func23, Try.ntmps23
  obtain ⟨A, c, rfl, hc⟩ := Rd.form hv
  have H1 : Hid (Rd NB w 1 (.slice A ls.length c) ls.length (ls.map sv)) := Go.Lib.hid hv
  clear hv hc
  have hal : p.length + [(0 : UInt8)].length ≤ 9223372036854775807 := by simp [forText] at hlen ⊢; omega
  have b1 := Bk.new w 26 idZ
  have g1 := gb_alloc (gb_refl w none) (.cells idZ.toArray 26)
  go_wp2_with (first
    | ((with_reducible refine wpList_alloc_row (E := 26) idZ infoId ?_))
    | ((with_reducible refine wpList_add_str (x := .tmp 8) p [0] (by kernel_rfl) (by kernel_rfl) hal ?_)))
  have hml : ∀ l ∈ ls, l.length ≤ 1099511627776 := fun l hl => Nat.le_trans (forText_each p ls l hl) hlen
  have HML := Go.Lib.hid hml
  clear hml hal
  go_loopw [5, 6] (fun s m wr => ∃ k : Nat, k ≤ ls.length ∧ m = .int .i64 k ∧ s = sv (forText p (ls.take k)) ∧ Hid (w.grownBy wr none) ∧ Hid (Bk wr w.heap.size 26 idZ))
    (fun _ m _ => ls.length - (intOf m).toNat)
  case atStart => exact ⟨0, Nat.zero_le _, rfl, by simp [forText, forParts], Go.Lib.hid g1, Go.Lib.hid b1⟩
  case round =>
    clear g1 b1
    obtain ⟨k, hk, rfl, rfl, Hg, Hb⟩ := hrel
    have htl := forText_take_le p ls k
    by_cases hlt : k < ls.length
    · obtain ⟨b, o, c', he, hb, hnc, hcm, hcell⟩ := H1.out.at (by omega)
      injection he with hA _ hcc
      subst hA hcc
      obtain ⟨l, hl⟩ : ∃ l, ls[k]? = some l := ⟨_, List.getElem?_eq_getElem hlt⟩
      have c0 : wr.cell? ⟨b, o + k, none⟩ = some (sv l) := cell_grown Hg.out (hcell k _ (by rw [List.getElem?_map, hl]; rfl)) (by simp)
      have hll := HML.out l (List.mem_of_getElem? hl)
      have HT := Go.Lib.hid (forText_take p ls k l hl)
      have hkI : (0 : Int) ≤ (k : Int) ∧ (k : Int) < 1000000 := by omega
      have hklt : decide (k < ls.length) = true := decide_eq_true hlt
      have hsz := run_len_sv (P := Try.prog) (ty := 3) Try.underlying9 l
      clear hl hcell
      go_wp2_with fail
      obtain ⟨cur, hcur⟩ : ∃ cur, cur = forText p (ls.take k) := ⟨_, rfl⟩
      rw [← hcur] at htl HT ⊢
      clear hcur hsz
      have hal1 : (be4 l.length).length + l.length ≤ 9223372036854775807 := by simp [be4]; omega
      have hal2 : cur.length + (be4 l.length ++ l).length ≤ 9223372036854775807 := by simp [be4]; omega
      have gW := Hg.out
      have bW := Hb.out
      refine wp_region_specs 24 [21, 22, 23, 24, 25, 26, 27, 28, 29, 30, 31, 32, 33, 34, 35, 36, 37, 38, 39, 40, 41, 42, 43, 44] (by kernel_rfl) (by kernel_rfl) (rforφ cur l b o ls.length c k) (rforφ_gr cur l b o ls.length c k) ?step ?fin
      case step =>
        intro i_ o_ ho hi_ u w' hg hd
        rcases (by omega : i_ = 0 ∨ i_ = 1 ∨ i_ = 2 ∨ i_ = 3 ∨ i_ = 4 ∨ i_ = 5 ∨ i_ = 6 ∨ i_ = 7 ∨ i_ = 8 ∨ i_ = 9 ∨ i_ = 10 ∨ i_ = 11 ∨ i_ = 12 ∨ i_ = 13 ∨ i_ = 14 ∨ i_ = 15 ∨ i_ = 16 ∨ i_ = 17 ∨ i_ = 18 ∨ i_ = 19 ∨ i_ = 20 ∨ i_ = 21 ∨ i_ = 22 ∨ i_ = 23) with rfl | rfl | rfl | rfl | rfl | rfl | rfl | rfl | rfl | rfl | rfl | rfl | rfl | rfl | rfl | rfl | rfl | rfl | rfl | rfl | rfl | rfl | rfl | rfl <;> obtain rfl := Option.some.inj ho <;>
          simp (decide := true) only [fillAct, List.mapIdx_cons, List.mapIdx_nil, Nat.reduceAdd, if_true, if_false, List.getD_cons_zero, List.getD_cons_succ]
        · clear hd ho
          go_wp2_with fail
          exact ⟨rfl, gb_refl _ _, rfl⟩
        · clear hd ho
          go_wp2_with fail
          exact ⟨rfl, gb_refl _ _, rfl⟩
        · have h1 : u 22 = .int .i64 (l.length : Int) := hd 1 (by kernel_rfl)
          clear hd ho
          rw [h1]
          go_wp2_with fail
          exact ⟨rfl, gb_refl _ _, rfl⟩
        · have h2 : u 23 = .int .i64 ((l.length : Int) / 16777216) := hd 2 (by kernel_rfl)
          clear hd ho
          rw [h2]
          go_wp2_with fail
          exact ⟨rfl, gb_refl _ _, rfl⟩
        · have h3 : u 24 = .int .i64 ((l.length : Int) / 16777216 % 256) := hd 3 (by kernel_rfl)
          clear hd ho
          rw [h3]
          go_wp2_with fail
          exact ⟨rfl, gb_refl _ _, rfl⟩
        · clear hd ho
          go_wp2_with fail
          exact ⟨rfl, gb_refl _ _, rfl⟩
        · have h5 : u 26 = .int .i64 (l.length : Int) := hd 5 (by kernel_rfl)
          clear hd ho
          rw [h5]
          go_wp2_with fail
          exact ⟨rfl, gb_refl _ _, rfl⟩
        · have h6 : u 27 = .int .i64 ((l.length : Int) / 65536) := hd 6 (by kernel_rfl)
          clear hd ho
          rw [h6]
          go_wp2_with fail
          exact ⟨rfl, gb_refl _ _, rfl⟩
        · have h7 : u 28 = .int .i64 ((l.length : Int) / 65536 % 256) := hd 7 (by kernel_rfl)
          clear hd ho
          rw [h7]
          go_wp2_with fail
          exact ⟨rfl, gb_refl _ _, rfl⟩
        · clear hd ho
          go_wp2_with fail
          exact ⟨rfl, gb_refl _ _, rfl⟩
        · have h9 : u 30 = .int .i64 (l.length : Int) := hd 9 (by kernel_rfl)
          clear hd ho
          rw [h9]
          go_wp2_with fail
          exact ⟨rfl, gb_refl _ _, rfl⟩
        · have h10 : u 31 = .int .i64 ((l.length : Int) / 256) := hd 10 (by kernel_rfl)
          clear hd ho
          rw [h10]
          go_wp2_with fail
          exact ⟨rfl, gb_refl _ _, rfl⟩
        · have h11 : u 32 = .int .i64 ((l.length : Int) / 256 % 256) := hd 11 (by kernel_rfl)
          clear hd ho
          rw [h11]
          go_wp2_with fail
          exact ⟨rfl, gb_refl _ _, rfl⟩
        · clear hd ho
          go_wp2_with fail
          exact ⟨rfl, gb_refl _ _, rfl⟩
        · have h13 : u 34 = .int .i64 (l.length : Int) := hd 13 (by kernel_rfl)
          clear hd ho
          rw [h13]
          go_wp2_with fail
          exact ⟨rfl, gb_refl _ _, rfl⟩
        · have h14 : u 35 = .int .i64 ((l.length : Int) % 256) := hd 14 (by kernel_rfl)
          clear hd ho
          rw [h14]
          go_wp2_with fail
          exact ⟨rfl, gb_refl _ _, rfl⟩
        · have h4 : u 25 = .int .u8 ((l.length : Int) / 16777216 % 256) := hd 4 (by kernel_rfl)
          have h8 : u 29 = .int .u8 ((l.length : Int) / 65536 % 256) := hd 8 (by kernel_rfl)
          have h12 : u 33 = .int .u8 ((l.length : Int) / 256 % 256) := hd 12 (by kernel_rfl)
          have h15 : u 36 = .int .u8 ((l.length : Int) % 256) := hd 15 (by kernel_rfl)
          clear hd ho
          rw [h4, h8, h12, h15]
          go_wp2_with fail
          exact ⟨rfl, gb_alloc (gb_refl _ _) _, RL.of (be4_cells l.length ▸ RdB.new w' 5 (be4 l.length) (fun b => b = w'.heap.size) 4 rfl (by decide) rfl) (fun b hb => by rw [World.size_alloc, hb]; exact Nat.lt_succ_self _)⟩
        · have h16 : RdB (fun b => b < w'.heap.size) w' (u 37) (be4 l.length) := hd 16 (by kernel_rfl)
          clear hd ho
          go_wp2_with ((with_reducible refine wpList_conv_bs (x := .tmp 37) (v := u 37) Try.underlying24 Try.underlying5 Try.underlying9 (be4 l.length) (by kernel_rfl) h16 ?_))
          exact ⟨rfl, gb_refl _ _, rfl⟩
        · clear hd ho
          go_wp2_with fail
          exact ⟨rfl, gb_refl _ _, rfl⟩
        · clear hd ho
          go_wp2_with fail
          exact ⟨rfl, gb_refl _ _, rfl⟩
        · have h18 : u 39 = .slice (some ⟨b, o, none⟩) ls.length c := hd 18 (by kernel_rfl)
          have h19 : u 40 = .int .i64 (k : Int) := hd 19 (by kernel_rfl)
          clear hd ho
          rw [h18, h19]
          go_wp2_with fail
          exact ⟨rfl, gb_refl _ _, rfl⟩
        · have h20 : u 41 = .pointer (some ⟨b, o + k, none⟩) := hd 20 (by kernel_rfl)
          clear hd ho
          rw [h20]
          have c1 := cell_grown (row := none) hg c0 (by simp)
          go_wp2_with fail
          exact ⟨rfl, gb_refl _ _, rfl⟩
        · have h17 : u 38 = sv (be4 l.length) := hd 17 (by kernel_rfl)
          have h21 : u 42 = sv l := hd 21 (by kernel_rfl)
          clear hd ho
          rw [h17, h21]
          go_wp2_with ((with_reducible refine wpList_add_str (x := .tmp 38) (z := .tmp 42) (be4 l.length) l (by kernel_rfl) (by kernel_rfl) hal1 ?_))
          exact ⟨rfl, gb_refl _ _, rfl⟩
        · have h0 : u 21 = sv cur := hd 0 (by kernel_rfl)
          have h22 : u 43 = sv (be4 l.length ++ l) := hd 22 (by kernel_rfl)
          clear hd ho
          rw [h0, h22]
          go_wp2_with ((with_reducible refine wpList_add_str (x := .tmp 21) (z := .tmp 43) cur (be4 l.length ++ l) (by kernel_rfl) (by kernel_rfl) hal2 ?_))
          exact ⟨rfl, gb_refl _ _, rfl⟩

      case fin =>
        intro u w' hg hφ
        have h9 : u 44 = sv (cur ++ (be4 l.length ++ l)) := hφ 23 (by omega)
        simp (decide := true) only [fillAct, List.mapIdx_cons, List.mapIdx_nil, Nat.reduceAdd, if_true, if_false, List.drop_succ_cons, List.drop_zero]
        rw [h9]
        clear hφ
        go_wp2_with fail
        go_roundw
        case rel =>
          exact ⟨k + 1, by omega, by go_num, by rw [HT.out], Go.Lib.hid (gb_trans gW hg), Go.Lib.hid (bW.grown hg (by simp))⟩
        case measure => simp [intOf]; omega
    · obtain rfl : k = ls.length := by omega
      have hl' : decide (ls.length < ls.length) = false := decide_eq_false (by omega)
      rw [List.take_length] at htl ⊢
      have hb2 := Hb.out
      have gW := Hg.out
      clear Hg Hb hk hlt htl
      go_wp2_with (first
        | (go_at_call 17; ((with_reducible refine (refOf_any _ hlen _).mono ?_); rintro e w3 ⟨rfl, g3⟩; have b3 := hb2.grown g3 (by simp)))
        | ((with_reducible refine wpList_store_bk (t := 26) w.heap.size 26 idZ ((sha (forText p ls)).l.map bv) b3 (by kernel_rfl) (by kernel_rfl) (idSize _) (idLen _) (idOne _) ?_); intro w5 h5 g5 z5))
      go_frame
      exact bodyPost_ret (results_id rfl _ _ w.heap.size (sha (forText p ls)) rfl h5) rfl ⟨rfl, gb_trans_new (gb_trans gW g3) g5 (Nat.le_refl _)⟩
end Go.Proofs.Ytgimgddlipbniaa
