import Derived.Test.YtajgklomcapboaaOf
import Derived.Test.YtajgklomcapboaaConv
/- sum.Leaf: the sum of an entry behind a nought. -/
namespace Go.Proofs.Ytajgklomcapboaa
open Go.RowKit Go.Shelf Sc

theorem results_id {f : Func} {t : Nat} (hf : f.results = #[.cell t 34]) (tmps : Array Value) (w : World) (b : Nat) (x : Sc.Id) (ht : tmps.getD t undef = .pointer (some ⟨b, 0, none⟩)) (hb : Bk w b 34 (x.l.map bv)) :
    (results f tmps).run Try.prog w = .ok (idv x) w :=
  results_cell_row hf _ _ b 34 (x.l.map bv).toArray (0, 0) _ ht hb Try.underlying34 rfl (by simpa using idSize x)

set_option maxHeartbeats 1000000 in
theorem leaf_any (v : Value) (l : List UInt8) (NB : Nat → Prop) (w : World) (hv : RdB NB w v l) (hNB : ∀ b, NB b → b < w.heap.size) (hlen : l.length ≤ 1099511627776) :
    Calls Try.prog 52 #[v] w fun e w' => e = .returned (idv (sha (0 :: l))) ∧ w.grownBy w' none := by
  go_enter Try.func52, Try.ntmps52
  obtain ⟨W1, hW1⟩ : ∃ W1, W1 = w.alloc (.cells idZ.toArray 34) := ⟨_, rfl⟩
  have z1 : W1.heap.size = w.heap.size + 1 := by rw [hW1, World.size_alloc]
  have b1 : Bk W1 w.heap.size 34 idZ := by rw [hW1]; exact Bk.new w _ _
  have g1 : w.grownBy W1 none := by rw [hW1]; exact gb_alloc (gb_refl w none) _
  have hv1 : RdB (fun b => b < w.heap.size) W1 v l := by rw [hW1]; exact Rd.mono (Rd.alloc hv _) hNB
  have hn : RdB (fun b => b = w.heap.size + 1) (W1.alloc (.cells #[.int .u8 0] 5)) (.slice (some ⟨w.heap.size + 1, 0, none⟩) 1 1) [0] := by
    have := RdB.new W1 5 [0] (fun b => b = w.heap.size + 1) 1 rfl (by decide) z1
    rw [z1] at this; exact this
  obtain ⟨W2, hW2⟩ : ∃ W2, W2 = W1.alloc (.cells #[.int .u8 0] 5) := ⟨_, rfl⟩
  have z2 : W2.heap.size = w.heap.size + 2 := by rw [hW2, World.size_alloc, z1]
  rw [← hW2] at hn
  have hv2 : RdB (fun b => b < w.heap.size) W2 v l := by rw [hW2]; exact Rd.alloc hv1 _
  have b2 : Bk W2 w.heap.size 34 idZ := by rw [hW2]; exact b1.alloc _
  have g2 : w.grownBy W2 none := by rw [hW2]; exact gb_alloc g1 _
  have hr : RdBB (fun b => b < w.heap.size + 3) (W2.alloc (.cells #[.slice (some ⟨w.heap.size + 1, 0, none⟩) 1 1, v] 27)) (.slice (some ⟨w.heap.size + 2, 0, none⟩) 2 2) [[0], l] := by
    have := RdBB.built2 (NB := fun b => b < w.heap.size + 2) (NB' := fun b => b < w.heap.size + 3) 27 (Rd.mono hn (fun b hb => by omega)) (Rd.mono hv2 (fun b hb => by omega)) (fun b hb => by omega) (by omega)
    rw [z2] at this; exact this
  have hl : [[0], l].flatten.length ≤ 1125899906842624 := by simp; omega
  have hNB3 : ∀ b, b < w.heap.size + 3 → b < (W2.alloc (.cells #[.slice (some ⟨w.heap.size + 1, 0, none⟩) 1 1, v] 27)).heap.size := fun b hb => by rw [World.size_alloc, z2]; exact hb
  have b3 : Bk (W2.alloc (.cells #[.slice (some ⟨w.heap.size + 1, 0, none⟩) 1 1, v] 27)) w.heap.size 34 idZ := b2.alloc _
  have g3 : w.grownBy (W2.alloc (.cells #[.slice (some ⟨w.heap.size + 1, 0, none⟩) 1 1, v] 27)) none := gb_alloc g2 _
  subst hW2 hW1
  clear hv1 hv2 hn b1 b2 z1 z2 g1 g2
  obtain ⟨A, c, rfl, hc⟩ := hv.form
  go_wp2_with (first
    | ((with_reducible refine wpList_alloc_row (E := 34) idZ infoId ?_))
    | (go_at_call 46; ((with_reducible refine (of_any _ [[0], l] (fun b => b < w.heap.size + 3) _ hr hNB3 hl).mono ?_); rintro e w3 ⟨rfl, g4⟩; have b4 := b3.grown g4 (by simp)))
    | ((with_reducible refine wpList_store_bk (t := 34) w.heap.size 34 idZ ((sha (0 :: l)).l.map bv) b4 (by kernel_rfl) (by kernel_rfl) (idSize _) (idLen _) (idOne _) ?_); intro w5 h5 g5 z5))
  go_frame
  refine bodyPost_ret (results_id rfl _ _ w.heap.size (sha (0 :: l)) rfl h5) rfl ⟨rfl, gb_trans_new (gb_trans g3 g4) g5 (Nat.le_refl _)⟩
end Go.Proofs.Ytajgklomcapboaa
