import Derived.Test.YtgimgddlipbniaaProg
import Derived.Test.YtgimgddlipbniaaWord
/- scrivenerref01.parts: the table of the standard. -/
namespace Go.Proofs.Ytgimgddlipbniaa
open Go.RowKit Sc

theorem parts_any (w : World) : Calls Try.prog 41 #[] w fun e w' => e = .returned (.slice (some ⟨w.heap.size, 0, none⟩) 64 64) ∧ w' = w.alloc (.cells (kTab.map wq).toArray 79) := by
  go_enter Try.func41, Try.ntmps41
  go_wp2_with fail
  go_ret
  exact ⟨rfl, by kernel_rfl⟩
end Go.Proofs.Ytgimgddlipbniaa
