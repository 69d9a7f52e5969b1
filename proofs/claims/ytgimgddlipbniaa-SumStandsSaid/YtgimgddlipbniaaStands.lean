import Derived.Test.YtgimgddlipbniaaOwBB
import Derived.Test.YtgimgddlipbniaaRefOf
import Derived.Test.YtgimgddlipbniaaKnown
import Derived.Test.YtgimgddlipbniaaEql
set_option pp.deepTerms true
set_option pp.maxSteps 1000000
/- SumStands: the walk. -/
namespace Go.Proofs.Ytgimgddlipbniaa
open Go.RowKit Go.Shelf Sc

theorem idEq : IdEq Try.prog 26 := idEq_dec (e := 5) Try.underlying26 Try.underlying5 (by kernel_rfl) (by kernel_rfl)
theorem okSl : InfoOk Try.prog 24 1 24 := by unfold InfoOk; kernel_rfl

set_option maxHeartbeats 2000000 in
theorem stands_walk (v : Value) (ls : List (List UInt8)) (NB : Nat → Prop) (w : World) (hv : RdBB NB w v ls) (hNB : ∀ b, NB b → b < w.heap.size) :
    Calls Try.prog 3 #[v] w fun e w' => e = .returned (.bool true) ∧ w.grownBy w' none := by
  go_enter Try.func3, Try.ntmps3
  obtain ⟨vs0, hv1, hv2⟩ := id hv
  obtain ⟨A, c, rfl, hc⟩ := hv1.form
  have hm := hv1.le
  unfold maxLen at hm
  have H1 := Go.Lib.hid hv1
  have H2 := Go.Lib.hid hv2
  clear hv1 hv2 hv hc
  go_wp2_with (go_at_call 15; ((with_reducible refine (known_any _).mono ?_); rintro e w1 ⟨rfl, g1⟩))
  go_loopw [3, 4, 11] (fun vo va n wr => ∃ k : Nat, k ≤ ls.length ∧ n = .int .i64 k ∧ va = sv ((capped 8 200 (ls.take k)).flatten) ∧ Hid (OwBB w.heap.size NB wr vo (capped 8 200 (ls.take k))) ∧ Hid (w.grownBy wr none))
    (fun _ _ n _ => ls.length - (intOf n).toNat)
  case atStart => exact ⟨0, Nat.zero_le _, rfl, rfl, Go.Lib.hid (OwBB.nil _ _ _), Go.Lib.hid g1⟩
  case round =>
    clear g1
    obtain ⟨k, hk, rfl, rfl, Ho, Hg⟩ := hrel
    by_cases hlt : k < ls.length
    · obtain ⟨b, o, c', he, hb, hnc, hcm, hcell⟩ := H1.out.at (by omega)
      injection he with hA _ _
      subst hA
      obtain ⟨l, hl⟩ : ∃ l, ls[k]? = some l := ⟨_, List.getElem?_eq_getElem hlt⟩
      obtain ⟨u, hu, hru⟩ := H2.out k l hl
      obtain ⟨A1, c1, rfl, hc1⟩ := hru.form
      have c0 : wr.cell? ⟨b, o + k, none⟩ = some (.slice A1 l.length c1) := cell_grown Hg.out (hcell k _ hu) (by simp)
      have HL := Go.Lib.hid hl
      have HR := Go.Lib.hid (Rd.grown hru Hg.out (by simp))
      have hkI : (0 : Int) ≤ (k : Int) ∧ (k : Int) < 9223372036854775807 := by omega
      have hklt : decide (k < ls.length) = true := decide_eq_true hlt
      clear hl hu hru hcell
      by_cases h8 : k < 8
      · have h8' : decide ((k : Int) < 8) = true := decide_eq_true (by omega)
        obtain ⟨q, hq⟩ : ∃ q, min l.length 200 = q := ⟨_, rfl⟩
        have hrq := RdB.takeTo HR.out 200 q hq
        obtain ⟨ow, ho1, ho2⟩ := Ho.out
        obtain ⟨Ao, co, rfl⟩ := ho1.form
        have hs1 : Src Try.prog 1 22 (.slice (some ⟨wr.heap.size, 0, none⟩) 1 1) 1 [.slice A1 q c1] (wr.alloc (.cells #[.slice A1 q c1] 24)) := src_new (P := Try.prog) Try.underlying22 wr 24 1 1 [.slice A1 q c1] rfl (by intro u hu; rw [List.mem_singleton.1 hu]; rfl)
        have hB1 : w.heap.size ≤ (wr.alloc (.cells #[.slice A1 q c1] 24)).heap.size := by rw [World.size_alloc]; have := Hg.out.size; omega
        have hcl := capped_length 8 200 (ls.take k)
        have h63 : (capped 8 200 (ls.take k)).length + 1 ≤ maxLen := Nat.le_trans (Nat.succ_le_succ hcl) (by decide)
        have hby : ((capped 8 200 (ls.take k)).length + 1) * 24 ≤ 140737488355328 := by omega
        have hfl := capped_flat 8 200 (ls.take k)
        have hadd : (capped 8 200 (ls.take k)).flatten.length + (l.take 200).length ≤ 9223372036854775807 := by rw [List.length_take]; omega
        have OL := Go.Lib.hid ho1.len
        have OW := Go.Lib.hid ho2
        have HCS := Go.Lib.hid (capped_snoc 8 200 k ls l HL.out h8)
        have Hrq := Go.Lib.hid hrq
        have hoa := ho1.alloc (.cells #[.slice A1 q c1] 24)
        have ho1' := Go.Lib.hid ho1
        clear ho1 ho2 hcl hfl hrq
        go_wp2_with (first
          | ((with_reducible refine wpList_min (x := .tmp 20) l.length 200 q hq (by kernel_rfl) (by kernel_rfl) ?_))
          | ((with_reducible refine wpList_append_ow (s := .tmp 23) (x := .tmp 25) (v := .slice Ao (capped 8 200 (ls.take k)).length co) (y := .slice (some ⟨wr.heap.size, 0, none⟩) 1 1) (by kernel_rfl) (by kernel_rfl) Try.underlying22 okSl hoa hs1 hB1 h63 hby ?_)
             intro v3 w3 ho3 hg3 hb3
             have hno : ∀ r, (Value.slice Ao (capped 8 200 (ls.take k)).length co).ownBlock = some r → ¬ NB r := fun r hr hN => by have := (ho1'.out.lt hr).1; have := hNB r hN; omega
             have HNO := Go.Lib.hid hno
             have hr3 : RdB NB w3 (.slice A1 q c1) (l.take 200) := Rd.grown (Rd.alloc Hrq.out _) hg3 hno
             clear hno
             obtain ⟨A3, c3, rfl⟩ := ho3.form)
          | ((with_reducible refine wpList_conv_bs (x := .tmp 28) (v := .slice A1 q c1) Try.underlying24 Try.underlying5 Try.underlying9 (l.take 200) (by kernel_rfl) hr3 ?_))
          | ((with_reducible refine wpList_add_str (x := .tmp 27) (z := .tmp 29) (capped 8 200 (ls.take k)).flatten (l.take 200) (by kernel_rfl) (by kernel_rfl) hadd ?_)))
        go_roundw
        case rel =>
          refine ⟨_, _, _, _, _, ⟨k + 1, ?_, ?_, ?_, Go.Lib.hid ?_, Go.Lib.hid (Ow.gb (gb_alloc Hg.out _) hoa (Nat.le_refl _) hg3)⟩, rfl, rfl, rfl, rfl, rfl⟩
          · omega
          · go_num
          · rw [HCS.out, List.flatten_append]; simp
          · rw [HCS.out]
            exact OwBB.snoc OW.out (by have := OL.out; omega) Hrq.out ho3 (gb_trans (gb_alloc (gb_refl wr _) _) hg3) HNO.out
        case measure => simp [intOf]; omega
      · have h8' : decide ((k : Int) < 8) = false := decide_eq_false (by omega)
        have HCS := Go.Lib.hid (capped_same 8 200 k ls (by omega))
        clear HL HR
        go_wp2_with fail
        go_roundw
        case rel =>
          refine ⟨k + 1, by omega, by go_num, ?_, ?_, Hg⟩
          · rw [HCS.out]
          · rw [HCS.out]; exact Ho
        case measure => simp [intOf]; omega
    · obtain rfl : k = ls.length := by omega
      have hl' : decide (ls.length < ls.length) = false := decide_eq_false (by omega)
      have hrd := Ho.out.rd (NB' := fun b => b < wr.heap.size) (fun b hb => Nat.lt_of_lt_of_le (hNB b hb) Hg.out.size) (fun b hb => by obtain ⟨vs, h1, _⟩ := Ho.out; exact (h1.lt hb).2)
      have hfl := capped_flat 8 200 (ls.take ls.length)
      have gW := Hg.out
      clear Ho Hg hk hlt
      generalize capped 8 200 (ls.take ls.length) = own at hrd hfl
      have h1 : own.flatten.length ≤ 1125899906842624 := by omega
      have h2 : own.flatten.length ≤ 1099511627776 := by omega
      clear hfl
      go_wp2_with (first
        | (go_at_call 16; ((with_reducible refine (of_any _ own _ _ hrd (fun _ h => h) h1).mono ?_); rintro e w3 ⟨rfl, g3⟩))
        | (go_at_call 17; ((with_reducible refine (refOf_any own.flatten h2 _).mono ?_); rintro e w4 ⟨rfl, g4⟩))
        | ((with_reducible refine wpList_eql_id idEq (sha own.flatten) (sha own.flatten) (by kernel_rfl) (by kernel_rfl) ?_); rw [beq_self_eq_true]))
      go_ret
      exact ⟨rfl, gb_trans (gb_trans gW g3) g4⟩
end Go.Proofs.Ytgimgddlipbniaa
