import Derived.Test.YtajgklomcapboaaProg
import Derived.Test.YtajgklomcapboaaWord
/- scrivenerref01.parts: the table of the standard. -/
namespace Go.Proofs.Ytajgklomcapboaa
open Go.RowKit Sc

theorem parts_any (w : World) : Calls Try.prog 66 #[] w fun e w' => e = .returned (.slice (some ⟨w.heap.size, 0, none⟩) 64 64) ∧ w' = w.alloc (.cells (kTab.map wq).toArray 114) := by
  go_enter Try.func66, Try.ntmps66
  go_wp2_with fail
  go_ret
  exact ⟨rfl, by kernel_rfl⟩
end Go.Proofs.Ytajgklomcapboaa
