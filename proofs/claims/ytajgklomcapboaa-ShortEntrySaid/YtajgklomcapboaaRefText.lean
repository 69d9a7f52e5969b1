import Derived.Test.YtajgklomcapboaaRefOf
import Derived.Test.YtajgklomcapboaaNode
/- scrivenerref01.Text, Leaf: a sum as a text; an entry's sum. -/
namespace Go.Proofs.Ytajgklomcapboaa
open Go.RowKit Go.Shelf Sc

theorem take_snoc' (l : List UInt8) (i : Nat) (h : i < l.length) : l.take (i + 1) = l.take i ++ [l.getD i 0] := by
  rw [List.take_add_one, List.getD_eq_getElem?_getD, List.getElem?_eq_getElem h]; rfl

set_option maxHeartbeats 1000000 in
theorem text_any (x : Sc.Id) (w : World) : Calls Try.prog 49 #[idv x] w fun e w' => e = .returned (sv x.l) ∧ w.grownBy w' none := by
  go_enter Try.func49, Try.ntmps49
  rw [show idv x = .agg (x.l.map bv).toArray from rfl]
  go_wp2_with fail
  have hb := Go.Lib.hid (Bk.new w 34 (x.l.map bv))
  have hg := Go.Lib.hid (gb_alloc (gb_refl w none) (.cells (x.l.map bv).toArray 34))
  have hxl := x.h
  go_loopw [3, 4] (fun s n wr => ∃ i : Nat, i ≤ 32 ∧ n = .int .i64 i ∧ s = sv (x.l.take i) ∧ Hid (w.grownBy wr none) ∧ Hid (Bk wr w.heap.size 34 (x.l.map bv))) (fun _ n _ => 32 - (intOf n).toNat)
  case atStart => exact ⟨0, by omega, rfl, rfl, hg, hb⟩
  case round =>
    clear hg hb
    obtain ⟨i, hi, rfl, rfl, Hg, Hb⟩ := hrel
    by_cases hlt : i < 32
    · have hI : (0 : Int) ≤ (i : Int) ∧ (i : Int) < 32 := by omega
      have c0 : wr.cell? ⟨w.heap.size, i, none⟩ = some (.int .u8 ((x.l.getD i 0).toNat : Int)) := by
        refine Hb.out.cellAt ?_
        rw [List.getElem?_map, List.getD_eq_getElem?_getD, List.getElem?_eq_getElem (by omega)]; rfl
      have HT := Go.Lib.hid (take_snoc' x.l i (by omega))
      have hn := Go.Lib.hid (RdB.new wr 5 [x.l.getD i 0] (fun _ => True) 1 rfl (by decide) trivial)
      have hal : (x.l.take i).length + [x.l.getD i 0].length ≤ 9223372036854775807 := by rw [List.length_take]; simp; omega
      obtain ⟨y, hy⟩ : ∃ y, y = x.l.getD i 0 := ⟨_, rfl⟩
      rw [← hy] at c0 HT hn hal
      clear hy
      have hn' := hn.out
      go_wp2_with (first
        | ((with_reducible refine wpList_conv_bs (x := .tmp 13) (v := .slice (some ⟨wr.heap.size, 0, none⟩) 1 1) Try.underlying27 Try.underlying5 Try.underlying9 [y] (by kernel_rfl) hn' ?_))
        | ((with_reducible refine wpList_add_str (x := .tmp 9) (z := .tmp 14) (x.l.take i) [y] (by kernel_rfl) (by kernel_rfl) hal ?_)))
      go_roundw
      case rel =>
        exact ⟨i + 1, by omega, by go_num, by rw [HT.out], Go.Lib.hid (gb_alloc Hg.out _), Go.Lib.hid (Hb.out.alloc _)⟩
      case measure => simp [intOf]; omega
    · obtain rfl : i = 32 := by omega
      clear hlt hi
      rw [List.take_of_length_le (by omega)]
      go_wp2_with fail
      go_ret
      exact ⟨rfl, Hg.out⟩

end Go.Proofs.Ytajgklomcapboaa
