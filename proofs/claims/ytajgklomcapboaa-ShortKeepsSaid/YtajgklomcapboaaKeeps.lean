import Derived.Test.YtajgklomcapboaaCuts
/- ShortKeeps: the walk. -/
namespace Sc
open Go Go.RowKit
theorem sumC_byte {c : Int} (h1 : 1 ≤ c) (h2 : c ≤ 32) (l : List UInt8) (i : Nat) (hi : i < 32) : (sumC c l).l[i]? = some (if (i : Int) < c then (sha l).l.getD i 0 else 0) := by
  have hn : cutN c = c.toNat := by unfold cutN; omega
  have h32 := (sha l).h
  show ((sha l).l.take (cutN c) ++ List.replicate (32 - min (cutN c) 32) 0)[i]? = _
  rw [hn]
  by_cases h : (i : Int) < c
  · rw [if_pos h, List.getElem?_append_left (by rw [List.length_take]; omega), List.getElem?_take, if_pos (by omega), List.getD_eq_getElem?_getD, List.getElem?_eq_getElem (by omega)]
    rfl
  · rw [if_neg h, List.getElem?_append_right (by rw [List.length_take]; omega), List.getElem?_replicate, if_pos (by rw [List.length_take]; omega)]
end Sc
namespace Go.Proofs.Ytajgklomcapboaa
open Go.RowKit Go.Shelf Sc
set_option maxHeartbeats 4000000 in
set_option maxRecDepth 100000 in
theorem keeps_walk (c : Int) (v : Value) (l : List UInt8) (NB : Nat → Prop) (w : World) (hv : RdB NB w v l) (hNB : ∀ b, NB b → b < w.heap.size) :
    Calls Try.prog 4 #[.int .i64 c, v] w fun e w' => e = .returned (.bool true) ∧ w.grownBy w' none := by
  go_enter Try.func4, Try.ntmps4
  obtain ⟨A, c9, rfl, hc⟩ := hv.form
  have hmx := hv.le
  have HV : Hid (RL w (.slice A l.length c9) l) := Go.Lib.hid (RL.of hv hNB)
  obtain ⟨q, hq⟩ : ∃ q, q = l.length := ⟨_, rfl⟩
  rw [← hq] at HV hc hmx ⊢
  have HQ := Go.Lib.hid hq
  clear hv hq hNB
  rcases (by omega : (c < 1 ∨ (1 ≤ c ∧ (31 < c ∨ (c ≤ 31 ∧ 300 < q)))) ∨ (1 ≤ c ∧ c ≤ 31 ∧ q ≤ 300)) with hg | ⟨hc1, hc31, hq300⟩
  · rcases hg with h | ⟨h1, h | ⟨h2, h⟩⟩
    all_goals
      first
        | (have d1 : decide (c < 1) = true := decide_eq_true (by omega))
        | (have d1 : decide (c < 1) = false := decide_eq_false (by omega)
           first
             | (have d2 : decide (c > 31) = true := decide_eq_true (by omega))
             | (have d2 : decide (c > 31) = false := decide_eq_false (by omega)
                have d3 : decide ((q : Int) > 300) = true := decide_eq_true (by omega)))
      go_wp2_with (go_at_call 15; ((with_reducible refine (cuts_any _).mono ?_); rintro e w1 ⟨rfl, g1⟩))
      go_ret
      exact ⟨rfl, g1⟩
  · have d1 : decide (c < 1) = false := decide_eq_false (by omega)
    have d2 : decide (c > 31) = false := decide_eq_false (by omega)
    have d3 : decide ((q : Int) > 300) = false := decide_eq_false (by omega)
    obtain ⟨X, hX⟩ : ∃ X, X = sumC c l := ⟨_, rfl⟩
    obtain ⟨Y, hY⟩ : ∃ Y, Y = sumC (c + 1) l := ⟨_, rfl⟩
    have hl : l.length ≤ 1125899906842624 := by rw [← HQ.out]; omega
    have hs1 : ∀ (v : Value) (w : World), RL w v l → Calls Try.prog 21 #[.int .i64 c, v] w fun e w' => e = .returned (idv X) ∧ w.grownBy w' none := fun v w h => by rw [hX]; exact ssum_any c v l _ w h (fun _ h => h) hl
    have hs2 : ∀ (v : Value) (w : World), RL w v l → Calls Try.prog 21 #[.int .i64 (c + 1), v] w fun e w' => e = .returned (idv Y) ∧ w.grownBy w' none := fun v w h => by rw [hY]; exact ssum_any (c + 1) v l _ w h (fun _ h => h) hl
    have HX := Go.Lib.hid hX
    have HY := Go.Lib.hid hY
    clear hX hY hl
    go_wp2_with (first
      | (go_at_call 15; ((with_reducible refine (cuts_any _).mono ?_); rintro e w1 ⟨rfl, g1⟩); have hv1 : RL w1 (.slice A q c9) l := RL.gr HV.out g1)
      | (go_at_call 21; ((with_reducible refine (hs1 _ _ hv1).mono ?_); rintro e w2 ⟨rfl, g2⟩); have hv2 : RL w2 (.slice A q c9) l := RL.gr hv1 g2)
      | (go_at_call 21; ((with_reducible refine (hs2 _ _ hv2).mono ?_); rintro e w3 ⟨rfl, g3⟩)
         have bx := (Bk.new w3 34 idZ).alloc (.cells idZ.toArray 34)
         have by0 := Bk.new (w3.alloc (.cells idZ.toArray 34)) 34 idZ)
      | ((with_reducible refine wpList_alloc_row (E := 34) idZ infoId ?_))
      | ((with_reducible refine wpList_store_bk (t := 34) w3.heap.size 34 idZ (X.l.map bv) bx (by kernel_rfl) (by kernel_rfl) (idSize _) (idLen _) (idOne _) ?_); intro w5 h5 g5 z5; have by5 := by0.grown g5 (by simp [World.size_alloc]))
      | ((with_reducible refine wpList_store_bk (t := 34) (w3.alloc (.cells idZ.toArray 34)).heap.size 34 idZ (Y.l.map bv) by5 (by kernel_rfl) (by kernel_rfl) (idSize _) (idLen _) (idOne _) ?_); intro w6 h6 g6 z6; have h56 := h5.grown g6 (by simp [World.size_alloc])))
    rw [World.size_alloc] at h6 g6
    have gW : w.grownBy w6 none := gb_trans_new (gb_trans_new (gb_alloc (gb_alloc (gb_trans (gb_trans g1 g2) g3) _) _) g5 (gb_trans (gb_trans g1 g2) g3).size) g6 (Nat.le_succ_of_le (gb_trans (gb_trans g1 g2) g3).size)
    have HB5 := Go.Lib.hid h56
    have HB6 := Go.Lib.hid h6
    have HG := Go.Lib.hid gW
    obtain ⟨b5, hb5⟩ : ∃ b5, b5 = w3.heap.size := ⟨_, rfl⟩
    rw [← hb5] at HB5 HB6
    try simp only [World.size_alloc]
    rw [← hb5]
    clear d1 d2 d3 h5 h6 h56 by5 by0 bx g1 g2 g3 g5 g6 z5 z6 hv1 hv2 gW hs1 hs2 hb5
    go_loopw [29] (fun v29 wr => ∃ (i : Nat), v29 = .int .i64 (i : Int) ∧ i ≤ 32 ∧ wr = w6) (fun v29 _ => 32 - (intOf v29).toNat)
    case atStart => exact ⟨0, rfl, by omega, rfl⟩
    case round =>
      obtain ⟨i, rfl, hi, rfl⟩ := hrel
      by_cases hlt : i < 32
      · have hd : decide ((i : Int) < 32) = true := decide_eq_true (by omega)
        have hd' : decide (i < 32) = true := decide_eq_true hlt
        obtain ⟨x, hx⟩ : ∃ x, X.l[i]? = some x := ⟨_, List.getElem?_eq_getElem (by rw [X.h]; exact hlt)⟩
        obtain ⟨y, hy⟩ : ∃ y, Y.l[i]? = some y := ⟨_, List.getElem?_eq_getElem (by rw [Y.h]; exact hlt)⟩
        have c5 := HB5.out.cellAt (i := i) (v := bv x) (by rw [List.getElem?_map, hx]; rfl)
        have c6 := HB6.out.cellAt (i := i) (v := bv y) (by rw [List.getElem?_map, hy]; rfl)
        have ex : x = if (i : Int) < c then (sha l).l.getD i 0 else 0 := by
          have h := sumC_byte hc1 (by omega) l i hlt
          rw [← HX.out, hx] at h; exact Option.some.inj h
        have ey : y = if (i : Int) < c + 1 then (sha l).l.getD i 0 else 0 := by
          have h := sumC_byte (c := c + 1) (by omega) (by omega) l i hlt
          rw [← HY.out, hy] at h; exact Option.some.inj h
        clear hx hy
        unfold bv at c5 c6
        by_cases hic : (i : Int) < c
        · rw [if_pos hic] at ex
          rw [if_pos (by omega)] at ey
          obtain rfl : x = y := by rw [ex, ey]
          have hq1 : (((x.toNat : Nat) : Int) != ((x.toNat : Nat) : Int)) = false := bne_self_eq_false _
          have hd2 : decide ((i : Int) ≥ c) = false := decide_eq_false (by omega)
          have hd2' : decide (c ≤ (i : Int)) = false := decide_eq_false (by omega)
          clear ex ey
          go_wp2_with fail
          exact ⟨⟨i + 1, by push_cast; rfl, by omega, trivial⟩, by simp only [intOf]; omega⟩
        · rw [if_neg hic] at ex
          subst ex
          have hd2 : decide ((i : Int) ≥ c) = true := decide_eq_true (by omega)
          have hd2' : decide (c ≤ (i : Int)) = true := decide_eq_true (by omega)
          rw [show ((UInt8.toNat 0 : Nat) : Int) = 0 from rfl] at c5
          clear ey
          go_wp2_with fail
          exact ⟨⟨i + 1, by push_cast; rfl, by omega, trivial⟩, by simp only [intOf]; omega⟩
      · obtain rfl : i = 32 := by omega
        go_wp2_with fail
        go_ret
        exact ⟨rfl, HG.out⟩
end Go.Proofs.Ytajgklomcapboaa
