import Derived.Test.YtgimgddlipbniaaOwX
import Derived.Test.YtgimgddlipbniaaLeaf
/- sum.For: the sum of parts for a purpose. -/
namespace Go.Proofs.Ytgimgddlipbniaa
open Go.RowKit Go.Shelf Sc
theorem okSl : InfoOk Try.prog 24 1 24 := by unfold InfoOk; kernel_rfl

set_option maxHeartbeats 2000000 in
theorem for_any (p : List UInt8) (v : Value) (ls : List (List UInt8)) (NB : Nat → Prop) (w : World) (hv : RdBB NB w v ls) (hNB : ∀ b, NB b → b < w.heap.size) (hn : ls.length ≤ 1000000) (hlen : (forText p ls).length ≤ 1099511627776) :
    Calls Try.prog 22 #[sv p, v] w fun e w' => e = .returned (idv (sha (forText p ls))) ∧ w.grownBy w' none := by
  go_enter Try.func22, Try.ntmps22
  obtain ⟨vs0, hv1, hv2⟩ := id hv
  obtain ⟨A, c, rfl, hc⟩ := hv1.form
  have H1 := Go.Lib.hid hv1
  have H2 := Go.Lib.hid hv2
  clear hv1 hv2 hv hc
  have hpl : p.length ≤ 1099511627776 := by simp [forText] at hlen; omega
  have hpm : p.length ≤ maxLen := Nat.le_trans hpl (by decide)
  obtain ⟨W1, hW1⟩ : ∃ W1, W1 = w.alloc (.cells idZ.toArray 26) := ⟨_, rfl⟩
  have b1 : Bk W1 w.heap.size 26 idZ := by rw [hW1]; exact Bk.new w _ _
  have g1 : w.grownBy W1 none := by rw [hW1]; exact gb_alloc (gb_refl w none) _
  have z1 : W1.heap.size = w.heap.size + 1 := by rw [hW1, World.size_alloc]
  have HW1 := Go.Lib.hid hW1
  clear hW1
  go_wp2_with (first
    | ((with_reducible refine wpList_alloc_row (E := 26) idZ infoId ?_); rw [← HW1.out])
    | ((with_reducible refine wpList_conv_sb (B := w.heap.size) (x := .tmp 9) Try.underlying9 Try.underlying24 Try.underlying5 p (by kernel_rfl) hpm (by omega) ?_)
       intro v2 W2 ho2 hg2 hb2
       obtain ⟨A2, c2, rfl⟩ := ho2.form))
  obtain ⟨W4, hW4⟩ : ∃ W4, W4 = (W2.alloc (.cells #[.int .u8 0] 5)).alloc (.cells #[.slice A2 p.length c2, .slice (some ⟨W2.heap.size, 0, none⟩) 1 1] 24) := ⟨_, rfl⟩
  rw [← hW4]
  have z3 : (W2.alloc (.cells #[.int .u8 0] 5)).heap.size = W2.heap.size + 1 := by rw [World.size_alloc]
  have z2 := hg2.size
  have gW : w.grownBy W4 none := by rw [hW4]; exact gb_alloc (gb_alloc (gb_trans g1 hg2) _) _
  have bW : Bk W4 w.heap.size 26 idZ := by rw [hW4]; exact ((b1.grown hg2 (by simp)).alloc _).alloc _
  have hoW : OwX (w.heap.size + 1) W4 (.slice (some ⟨W2.heap.size + 1, 0, none⟩) 2 2) [p, [0]] := by
    refine ⟨[.slice A2 p.length c2, .slice (some ⟨W2.heap.size, 0, none⟩) 1 1], ?_, fun j l hj => ?_⟩
    · have := Ow.new (W2.alloc (.cells #[.int .u8 0] 5)) 24 (w.heap.size + 1) 1 2 [.slice A2 p.length c2, .slice (some ⟨W2.heap.size, 0, none⟩) 1 1] rfl (by decide) (by omega)
      rw [z3] at this; rw [hW4]; exact this
    · have z4 : W4.heap.size = W2.heap.size + 2 := by rw [hW4, World.size_alloc, z3]
      match j, hj with
      | 0, hj =>
        cases hj
        refine ⟨_, rfl, ?_⟩
        rw [hW4]
        refine Rd.alloc (Rd.alloc (ho2.rd fun b hb => ?_) _) _
        have : b = W1.heap.size := Option.some.inj (hb.symm.trans hb2)
        refine ⟨by rw [World.size_alloc, z3]; omega, fun e => ?_⟩
        have := Option.some.inj (show some (W2.heap.size + 1) = some b from e); omega
      | 1, hj =>
        cases hj
        refine ⟨_, rfl, ?_⟩
        rw [hW4]
        refine Rd.alloc (RdB.new W2 5 [0] _ 1 rfl (by decide) ⟨by rw [World.size_alloc, z3]; omega, fun e => ?_⟩) _
        have := Option.some.inj (show some (W2.heap.size + 1) = some W2.heap.size from e); omega
      | j + 2, hj => simp at hj
  have hml : ∀ l ∈ ls, l.length ≤ 1099511627776 := fun l hl => Nat.le_trans (forText_each p ls l hl) hlen
  have HML := Go.Lib.hid hml
  clear z3 z2 hg2 hb2 ho2 b1 g1 z1 HW1 hpm hml hW4
  generalize W2.heap.size + 1 = b5 at *
  go_loopw [5, 15] (fun vo n wr => ∃ k : Nat, k ≤ ls.length ∧ n = .int .i64 k ∧ Hid (OwX (w.heap.size + 1) wr vo ([p, [0]] ++ forParts (ls.take k))) ∧ Hid (w.grownBy wr none) ∧ Hid (Bk wr w.heap.size 26 idZ))
    (fun _ n _ => ls.length - (intOf n).toNat)
  case atStart => exact ⟨0, Nat.zero_le _, rfl, Go.Lib.hid hoW, Go.Lib.hid gW, Go.Lib.hid bW⟩
  case round =>
    clear gW hoW bW
    obtain ⟨k, hk, rfl, Ho, Hg, Hb⟩ := hrel
    by_cases hlt : k < ls.length
    · obtain ⟨b, o, c', he, hb, hnc, hcm, hcell⟩ := H1.out.at (by omega)
      injection he with hA _ _
      subst hA
      obtain ⟨l, hl⟩ : ∃ l, ls[k]? = some l := ⟨_, List.getElem?_eq_getElem hlt⟩
      obtain ⟨u, hu, hru⟩ := H2.out k l hl
      obtain ⟨A1, c1, rfl, hc1⟩ := hru.form
      have c0 : wr.cell? ⟨b, o + k, none⟩ = some (.slice A1 l.length c1) := cell_grown Hg.out (hcell k _ hu) (by simp)
      have HL := Go.Lib.hid hl
      have HR := Go.Lib.hid (Rd.mono (Rd.grown hru Hg.out (by simp)) hNB)
      have hll := HML.out l (List.mem_of_getElem? hl)
      have hkI : (0 : Int) ≤ (k : Int) ∧ (k : Int) < 1000000 := by omega
      have hklt : decide (k < ls.length) = true := decide_eq_true hlt
      clear hl hu hru hcell
      obtain ⟨ow, ho1, ho2⟩ := Ho.out
      obtain ⟨m, hm⟩ : ∃ m, m = ([p, [0]] ++ forParts (ls.take k)).length := ⟨_, rfl⟩
      rw [← hm] at ho1
      have hmb : m ≤ 2000002 := by rw [hm, List.length_append, forParts_length, List.length_take]; simp; omega
      have HM := Go.Lib.hid hm
      obtain ⟨Ao, co, rfl⟩ := ho1.form
      have OL := Go.Lib.hid ho1.len
      obtain ⟨Wh, hWh⟩ : ∃ Wh, Wh = wr.alloc (.cells #[.int .u8 ((l.length : Int) / 16777216 % 256), .int .u8 ((l.length : Int) / 65536 % 256), .int .u8 ((l.length : Int) / 256 % 256), .int .u8 ((l.length : Int) % 256)] 5) := ⟨_, rfl⟩
      have zh : Wh.heap.size = wr.heap.size + 1 := by rw [hWh, World.size_alloc]
      have hs1 : Src Try.prog 1 22 (.slice (some ⟨wr.heap.size + 1, 0, none⟩) 2 2) 2 [.slice (some ⟨wr.heap.size, 0, none⟩) 4 4, .slice A1 l.length c1] (Wh.alloc (.cells #[.slice (some ⟨wr.heap.size, 0, none⟩) 4 4, .slice A1 l.length c1] 24)) := by
        have := src_new (P := Try.prog) Try.underlying22 Wh 24 1 2 [.slice (some ⟨wr.heap.size, 0, none⟩) 4 4, .slice A1 l.length c1] rfl (by intro u hu; simp at hu; rcases hu with rfl | rfl <;> rfl)
        rw [zh] at this; exact this
      have hhd : RdB (fun b => b = wr.heap.size) Wh (.slice (some ⟨wr.heap.size, 0, none⟩) 4 4) (be4 l.length) := by
        rw [hWh]; exact be4_cells l.length ▸ RdB.new wr 5 (be4 l.length) _ 4 rfl (by decide) rfl
      have hgh : wr.grownBy Wh none := by rw [hWh]; exact gb_alloc (gb_refl wr none) _
      have hB1 : w.heap.size + 1 ≤ (Wh.alloc (.cells #[.slice (some ⟨wr.heap.size, 0, none⟩) 4 4, .slice A1 l.length c1] 24)).heap.size := by rw [World.size_alloc, zh]; have := Hg.out.size; omega
      have h63 : m + 2 ≤ maxLen := Nat.le_trans (show m + 2 ≤ 2000004 by omega) (by decide)
      have hby : (m + 2) * 24 ≤ 140737488355328 := by omega
      have OW := Go.Lib.hid ho2
      have hoa := (ho1.grown hgh (fun _ _ => by simp)).alloc (.cells #[.slice (some ⟨wr.heap.size, 0, none⟩) 4 4, .slice A1 l.length c1] 24)
      have HO := Go.Lib.hid ho1
      have HZ := Go.Lib.hid zh
      have HH := Go.Lib.hid hhd
      have HWh := Go.Lib.hid hWh
      have HG := Go.Lib.hid hgh
      clear ho1 ho2 hm hhd hWh zh hgh
      go_wp2_with ((with_reducible refine wpList_append_ow (s := .tmp 21) (x := .tmp 35) (v := .slice Ao m co) (y := .slice (some ⟨wr.heap.size + 1, 0, none⟩) 2 2) (by kernel_rfl) (by kernel_rfl) Try.underlying22 okSl (HWh.out ▸ hoa) (HWh.out ▸ hs1) (HWh.out ▸ hB1) h63 hby ?_)
                   intro v3 w3 ho3 hg3 hb3
                   obtain ⟨A3, c3, rfl⟩ := ho3.form)
      go_roundw
      case rel =>
        have hg3' := hg3
        rw [← HWh.out] at hg3 hb3
        have hown : ∀ r, (Value.slice Ao m co).ownBlock = some r → w.heap.size + 1 ≤ r ∧ r < wr.heap.size := fun r hr => HO.out.lt hr
        have hga : wr.grownBy (Wh.alloc (.cells #[.slice (some ⟨wr.heap.size, 0, none⟩) 4 4, .slice A1 l.length c1] 24)) none := gb_alloc HG.out _
        refine ⟨_, _, _, _, ⟨k + 1, ?_, ?_, Go.Lib.hid ?_, Go.Lib.hid ?_, Go.Lib.hid ?_⟩, rfl, rfl, rfl, rfl⟩
        · omega
        · go_num
        · have e : p :: [0] :: forParts (ls.take (k + 1)) = ([p, [0]] ++ forParts (ls.take k)) ++ [be4 l.length, l] := by
            rw [List.take_add_one, HL.out]; simp [forParts_snoc]
          rw [e]
          refine OwX.snocs (vs := ow) (us := [.slice (some ⟨wr.heap.size, 0, none⟩) 4 4, .slice A1 l.length c1]) (by have := OL.out; have := HM.out; omega) (by rw [← HM.out]; rfl) (fun j l' hj => ?_) (fun j l' hj => ?_) ho3 hg3 hb3
          · obtain ⟨u, hu, hr⟩ := OW.out j l' hj
            exact ⟨u, hu, Rd.mono (Rd.grown hr hga (by simp)) fun b h => ⟨Nat.lt_of_lt_of_le h.1 hga.size, h.2⟩⟩
          · match j, hj with
            | 0, hj =>
              cases hj
              refine ⟨_, rfl, Rd.alloc (Rd.mono HH.out fun b hb => ⟨?_, fun h => ?_⟩) _⟩
              · rw [hb, World.size_alloc, HZ.out]; omega
              · have := (hown b h).2; omega
            | 1, hj =>
              cases hj
              refine ⟨_, rfl, Rd.mono (Rd.grown HR.out hga (by simp)) fun b hb => ⟨?_, fun h => ?_⟩⟩
              · exact Nat.lt_of_lt_of_le hb (Nat.le_trans Hg.out.size hga.size)
              · have := (hown b h).1; omega
            | j + 2, hj => simp at hj
        · exact gb_own (gb_trans Hg.out hga) hg3 fun r hr => by have := (hown r hr).1; omega
        · exact (Hb.out.grown hga (by simp)).grown hg3 fun h => by have := (hown _ h.symm).1; omega
      case measure => simp [intOf]; omega
    · obtain rfl : k = ls.length := by omega
      have hl' : decide (ls.length < ls.length) = false := decide_eq_false (by omega)
      rw [List.take_length] at Ho
      have hrd := Ho.out.rd
      have hfl : ([p, [0]] ++ forParts ls).flatten.length ≤ 1125899906842624 := by rw [forText_eq]; omega
      have hb2 := Hb.out
      have gW := Hg.out
      clear Ho Hg Hb hk hlt
      have HF := Go.Lib.hid (forText_eq p ls)
      generalize [p, [0]] ++ forParts ls = own at hrd hfl HF
      go_wp2_with (first
        | (go_at_call 16; ((with_reducible refine (of_any _ own _ _ hrd (fun _ h => h) hfl).mono ?_); rintro e w3 ⟨rfl, g3⟩; have b3 := hb2.grown g3 (by simp)))
        | ((with_reducible refine wpList_store_bk (t := 26) w.heap.size 26 idZ ((sha own.flatten).l.map bv) b3 (by kernel_rfl) (by kernel_rfl) (idSize _) (idLen _) (idOne _) ?_); intro w5 h5 g5 z5))
      go_frame
      refine bodyPost_ret (results_id rfl _ _ w.heap.size (sha own.flatten) rfl h5) rfl ⟨?_, gb_trans_new (gb_trans gW g3) g5 (Nat.le_refl _)⟩
      rw [HF.out]
end Go.Proofs.Ytgimgddlipbniaa
