import Derived.Test.YtgimgddlipbniaaOf
import Derived.Test.YtgimgddlipbniaaConv
/- The guard of layer 1's statements: the sum of three letters. -/
namespace Go.Proofs.Ytgimgddlipbniaa
open Go.RowKit Go.Shelf Sc

theorem abc_at (j : Nat) (b : UInt8) (h : (sha [97, 98, 99]).l.getD j 0 = b) (hj : j < 32) : ((sha [97, 98, 99]).l.map bv)[j]? = some (bv b) := by
  have hl := (sha [97, 98, 99]).h
  rw [List.getElem?_map, List.getElem?_eq_getElem (by omega)]
  rw [List.getD_eq_getElem?_getD, List.getElem?_eq_getElem (by omega)] at h
  simp at h; simp [h]

theorem abc_out : (sha [97, 98, 99]).l.getD 0 0 = 0xba ∧ (sha [97, 98, 99]).l.getD 1 0 = 0x78 ∧ (sha [97, 98, 99]).l.getD 2 0 = 0x16 ∧ (sha [97, 98, 99]).l.getD 3 0 = 0xbf ∧ (sha [97, 98, 99]).l.getD 31 0 = 0xad := by
  have h := sha_abc
  simp only [Prod.mk.injEq] at h
  exact h
theorem known_rd {w w1 w2 : World} (hc1 : ∀ b o, w1.cell? ⟨b, o, none⟩ = (w.alloc (.cells #[bv 97] 5)).cell? ⟨b, o, none⟩) (hg1 : (w.alloc (.cells #[bv 97] 5)).grownBy w1 (some w.heap.size)) (hz1 : w1.heap.size = (w.alloc (.cells #[bv 97] 5)).heap.size)
    (hc2 : ∀ b o, w2.cell? ⟨b, o, none⟩ = (w1.alloc (.cells #[bv 98, bv 99] 5)).cell? ⟨b, o, none⟩) (hg2 : (w1.alloc (.cells #[bv 98, bv 99] 5)).grownBy w2 (some (w.heap.size + 1))) (hz2 : w2.heap.size = (w1.alloc (.cells #[bv 98, bv 99] 5)).heap.size) (t : TypeId) (vs : Array Value)
    (hvs : vs = #[.slice (some ⟨w.heap.size, 0, none⟩) 1 1, .slice (some ⟨w.heap.size + 1, 0, none⟩) 2 2]) :
    RdBB (fun b => b < w2.heap.size + 1) (w2.alloc (.cells vs t)) (.slice (some ⟨w.heap.size + 1 + 1, 0, none⟩) 2 2) [[97], [98, 99]] ∧ w.grownBy (w2.alloc (.cells vs t)) none := by
  subst hvs
  simp only [World.size_alloc] at hz1 hz2
  have e2 : w.heap.size + 1 + 1 = w2.heap.size := by omega
  have r1 : w1.rangeAt w.heap.size 0 ([97].map bv) := rangeAt_same (rangeAt_new w 5 ([97].map bv)) hc1
  have r2 : w2.rangeAt (w.heap.size + 1) 0 ([98, 99].map bv) := rangeAt_same (hz1 ▸ rangeAt_new w1 5 ([98, 99].map bv)) hc2
  have r3 : w2.rangeAt w.heap.size 0 ([97].map bv) := rangeAt_same (rangeAt_grown r1 (World.grownBy_alloc w1 _ none) (by simp)) hc2
  refine ⟨e2 ▸ RdBB.built (NB := fun b => b < w.heap.size + 2) (NB' := fun b => b < w2.heap.size + 1) [[97], [98, 99]] [.slice (some ⟨w.heap.size, 0, none⟩) 1 1, .slice (some ⟨w.heap.size + 1, 0, none⟩) 2 2] t 2 rfl (by decide) rfl ?_ (fun b hb => by omega) (by omega),
    gb_alloc (gb_trans_new (gb_alloc (gb_trans_new (gb_alloc (gb_refl w none) _) hg1 (Nat.le_refl _)) _) hg2 (by omega)) _⟩
  intro j l hj
  match j, hj with
  | 0, hj => cases hj; exact ⟨_, rfl, Rd.mk' r3 (by omega) (by decide) (by decide) rfl⟩
  | 1, hj => cases hj; exact ⟨_, rfl, Rd.mk' r2 (by omega) (by decide) (by decide) rfl⟩
  | j + 2, hj => simp at hj

set_option maxHeartbeats 1000000 in
theorem known_any (w : World) : Calls Try.prog 15 #[] w fun e w' => e = .returned (.bool true) ∧ w.grownBy w' none := by
  go_enter Try.func15, Try.ntmps15
  go_wp2_with (first
    | ((with_reducible refine wpList_conv_mark (x := .tmp 2) Try.underlying24 Try.underlying5 w.heap.size 0 1 1 (by kernel_rfl) ?_); intro w1 hc1 hg1 hz1)
    | ((with_reducible refine wpList_conv_mark (x := .tmp 4) Try.underlying24 Try.underlying5 (w.heap.size + 1) 0 2 2 (by kernel_rfl) ?_); intro w2 hc2 hg2 hz2)
    | (go_at_call 16; (with_reducible refine (of_any _ [[97], [98, 99]] (fun b => b < w2.heap.size + 1) _ (known_rd hc1 hg1 hz1 hc2 hg2 hz2 _ _ rfl).1 (fun b hb => by rw [World.size_alloc]; exact hb) (by decide)).mono ?_); rintro e w3 ⟨rfl, g3⟩)
    | ((with_reducible refine wpList_alloc_row (E := 26) idZ infoId ?_))
    | ((with_reducible refine wpList_store_bk (t := 26) w3.heap.size 26 idZ ((sha [97, 98, 99]).l.map bv) (Bk.new w3 26 idZ) (by kernel_rfl) (by kernel_rfl) (idSize _) (idLen _) (idOne _) ?_)
       intro w4 h4 g4 z4
       have c0 : w4.cell? ⟨w3.heap.size, 0, none⟩ = some (.int .u8 186) := h4.cellAt (abc_at 0 186 abc_out.1 (by omega))
       have c1 : w4.cell? ⟨w3.heap.size, 1, none⟩ = some (.int .u8 120) := h4.cellAt (abc_at 1 120 abc_out.2.1 (by omega))
       have c2 : w4.cell? ⟨w3.heap.size, 2, none⟩ = some (.int .u8 22) := h4.cellAt (abc_at 2 22 abc_out.2.2.1 (by omega))
       have c3 : w4.cell? ⟨w3.heap.size, 3, none⟩ = some (.int .u8 191) := h4.cellAt (abc_at 3 191 abc_out.2.2.2.1 (by omega))
       have c31 : w4.cell? ⟨w3.heap.size, 31, none⟩ = some (.int .u8 173) := h4.cellAt (abc_at 31 173 abc_out.2.2.2.2 (by omega))))
  go_ret
  exact ⟨rfl, gb_trans_new (gb_alloc (gb_trans (known_rd hc1 hg1 hz1 hc2 hg2 hz2 _ _ rfl).2 g3) _) g4 (Nat.le_trans (known_rd hc1 hg1 hz1 hc2 hg2 hz2 24 _ rfl).2.size g3.size)⟩

end Go.Proofs.Ytgimgddlipbniaa
