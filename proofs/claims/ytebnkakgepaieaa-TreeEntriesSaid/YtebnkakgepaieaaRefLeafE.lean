import Derived.Test.YtebnkakgepaieaaRefOf
import Derived.Test.YtebnkakgepaieaaLeaf
/- scrivenerref01.Leaf. -/
namespace Go.Proofs.Ytebnkakgepaieaa
open Go.RowKit Go.Shelf Sc
set_option maxHeartbeats 1000000 in
theorem refLeaf_any (l : List UInt8) (hl : l.length ≤ 1099511627000) (w : World) : Calls Try.prog 6 #[sv l] w fun e w' => e = .returned (idv (sha (0 :: l))) ∧ w.grownBy w' none := by
  go_enter Try.func6, Try.ntmps6
  have hal : [(0 : UInt8)].length + l.length ≤ 9223372036854775807 := by simp; omega
  have hl2 : (0 :: l).length ≤ 1099511627776 := by simp; omega
  go_wp2_with (first
    | ((with_reducible refine wpList_alloc_row (E := 28) idZ infoId ?_))
    | ((with_reducible refine wpList_add_str (z := .tmp 3) [0] l (by kernel_rfl) (by kernel_rfl) hal ?_))
    | (go_at_call 14; ((with_reducible refine (refOf_any _ hl2 _).mono ?_); rintro e w3 ⟨rfl, g3⟩; have b3 := (Bk.new w 28 idZ).grown g3 (by simp)))
    | ((with_reducible refine wpList_store_bk (t := 28) w.heap.size 28 idZ ((sha (0 :: l)).l.map bv) b3 (by kernel_rfl) (by kernel_rfl) (idSize _) (idLen _) (idOne _) ?_); intro w5 h5 g5 z5))
  go_frame
  exact bodyPost_ret (results_id rfl _ _ w.heap.size (sha (0 :: l)) rfl h5) rfl ⟨rfl, gb_trans_new (gb_trans (gb_alloc (gb_refl w none) _) g3) g5 (Nat.le_refl _)⟩
end Go.Proofs.Ytebnkakgepaieaa
