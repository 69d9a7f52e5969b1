import Derived.Test.YtebnkakgepaieaaProg
import Derived.Test.YtebnkakgepaieaaWord
/- scrivenerref01.parts: the table of the standard. -/
namespace Go.Proofs.Ytebnkakgepaieaa
open Go.RowKit Sc

theorem parts_any (w : World) : Calls Try.prog 19 #[] w fun e w' => e = .returned (.slice (some ⟨w.heap.size, 0, none⟩) 64 64) ∧ w' = w.alloc (.cells (kTab.map wq).toArray 55) := by
  go_enter Try.func19, Try.ntmps19
  go_wp2_with fail
  go_ret
  exact ⟨rfl, by kernel_rfl⟩
end Go.Proofs.Ytebnkakgepaieaa
