import Derived.Test.YtajgklomcapboaaLeaf
import Derived.Test.YtajgklomcapboaaRi
/- tree.Entries: the leaves of entries. -/
namespace Sc
open Go Go.RowKit
def leafS (l : List UInt8) : Sc.Id := sha (0 :: l)
theorem rdbb_take {NB : Nat → Prop} {w : World} {A : Option Addr} {c q : Nat} {ls : List (List UInt8)} (h : RdBB NB w (.slice A ls.length c) ls) (hq : q ≤ ls.length) : RdBB NB w (.slice A q c) (ls.take q) := by
  obtain ⟨vs, h1, h2⟩ := h
  have h3 := Rd.takeTo h1 q hq
  rw [Nat.mul_one] at h3
  refine ⟨vs.take q, by rw [List.length_take, Nat.min_eq_left hq]; exact h3, fun j l hj => ?_⟩
  rw [List.getElem?_take] at hj
  split at hj
  · rename_i hjq
    obtain ⟨u, hu, hr⟩ := h2 j l hj
    exact ⟨u, by rw [List.getElem?_take, if_pos hjq]; exact hu, hr⟩
  · cases hj
theorem leafs_take {ls : List (List UInt8)} {i : Nat} {l : List UInt8} (h : ls[i]? = some l) : (ls.take (i + 1)).map leafS = (ls.take i).map leafS ++ [leafS l] := by
  rw [List.take_add_one, h]; simp
end Sc
namespace Go.Proofs.Ytajgklomcapboaa
open Go.RowKit Go.Shelf Sc
set_option maxHeartbeats 1000000 in
theorem leaf_big (v : Value) (l : List UInt8) (NB : Nat → Prop) (w : World) (hv : RdB NB w v l) (hNB : ∀ b, NB b → b < w.heap.size) (hlen : l.length ≤ 140737488355328) :
    Calls Try.prog 52 #[v] w fun e w' => e = .returned (idv (sha (0 :: l))) ∧ w.grownBy w' none := by
  go_enter Try.func52, Try.ntmps52
  obtain ⟨W1, hW1⟩ : ∃ W1, W1 = w.alloc (.cells idZ.toArray 34) := ⟨_, rfl⟩
  have z1 : W1.heap.size = w.heap.size + 1 := by rw [hW1, World.size_alloc]
  have b1 : Bk W1 w.heap.size 34 idZ := by rw [hW1]; exact Bk.new w _ _
  have g1 : w.grownBy W1 none := by rw [hW1]; exact gb_alloc (gb_refl w none) _
  have hv1 : RdB (fun b => b < w.heap.size) W1 v l := by rw [hW1]; exact Rd.mono (Rd.alloc hv _) hNB
  have hn : RdB (fun b => b = w.heap.size + 1) (W1.alloc (.cells #[.int .u8 0] 5)) (.slice (some ⟨w.heap.size + 1, 0, none⟩) 1 1) [0] := by
    have := RdB.new W1 5 [0] (fun b => b = w.heap.size + 1) 1 rfl (by decide) z1
    rw [z1] at this; exact this
  obtain ⟨W2, hW2⟩ : ∃ W2, W2 = W1.alloc (.cells #[.int .u8 0] 5) := ⟨_, rfl⟩
  have z2 : W2.heap.size = w.heap.size + 2 := by rw [hW2, World.size_alloc, z1]
  rw [← hW2] at hn
  have hv2 : RdB (fun b => b < w.heap.size) W2 v l := by rw [hW2]; exact Rd.alloc hv1 _
  have b2 : Bk W2 w.heap.size 34 idZ := by rw [hW2]; exact b1.alloc _
  have g2 : w.grownBy W2 none := by rw [hW2]; exact gb_alloc g1 _
  have hr : RdBB (fun b => b < w.heap.size + 3) (W2.alloc (.cells #[.slice (some ⟨w.heap.size + 1, 0, none⟩) 1 1, v] 27)) (.slice (some ⟨w.heap.size + 2, 0, none⟩) 2 2) [[0], l] := by
    have := RdBB.built2 (NB := fun b => b < w.heap.size + 2) (NB' := fun b => b < w.heap.size + 3) 27 (Rd.mono hn (fun b hb => by omega)) (Rd.mono hv2 (fun b hb => by omega)) (fun b hb => by omega) (by omega)
    rw [z2] at this; exact this
  have hl : [[0], l].flatten.length ≤ 1125899906842624 := by simp; omega
  have hNB3 : ∀ b, b < w.heap.size + 3 → b < (W2.alloc (.cells #[.slice (some ⟨w.heap.size + 1, 0, none⟩) 1 1, v] 27)).heap.size := fun b hb => by rw [World.size_alloc, z2]; exact hb
  have b3 : Bk (W2.alloc (.cells #[.slice (some ⟨w.heap.size + 1, 0, none⟩) 1 1, v] 27)) w.heap.size 34 idZ := b2.alloc _
  have g3 : w.grownBy (W2.alloc (.cells #[.slice (some ⟨w.heap.size + 1, 0, none⟩) 1 1, v] 27)) none := gb_alloc g2 _
  subst hW2 hW1
  clear hv1 hv2 hn b1 b2 z1 z2 g1 g2
  obtain ⟨A, c, rfl, hc⟩ := hv.form
  go_wp2_with (first
    | ((with_reducible refine wpList_alloc_row (E := 34) idZ infoId ?_))
    | (go_at_call 46; ((with_reducible refine (of_any _ [[0], l] (fun b => b < w.heap.size + 3) _ hr hNB3 hl).mono ?_); rintro e w3 ⟨rfl, g4⟩; have b4 := b3.grown g4 (by simp)))
    | ((with_reducible refine wpList_store_bk (t := 34) w.heap.size 34 idZ ((sha (0 :: l)).l.map bv) b4 (by kernel_rfl) (by kernel_rfl) (idSize _) (idLen _) (idOne _) ?_); intro w5 h5 g5 z5))
  go_frame
  refine bodyPost_ret (results_id rfl _ _ w.heap.size (sha (0 :: l)) rfl h5) rfl ⟨rfl, gb_trans_new (gb_trans g3 g4) g5 (Nat.le_refl _)⟩
set_option maxHeartbeats 2000000 in
theorem entries_any (v : Value) (ls : List (List UInt8)) (NB : Nat → Prop) (w : World) (hv : RdBB NB w v ls) (hNB : ∀ b, NB b → b < w.heap.size) (hn : ls.length ≤ 1000000) (hl : ∀ l ∈ ls, l.length ≤ 140737488355328) :
    Calls Try.prog 26 #[v] w fun e w' => ∃ v', e = .returned v' ∧ Ow w.heap.size w' 32 v' ls.length (idCells (ls.map leafS)) ∧ w.grownBy w' none := by
  go_enter Try.func26, Try.ntmps26
  obtain ⟨vs, hrd, hel⟩ := hv
  obtain ⟨A, c, rfl, hc⟩ := Rd.form hrd
  obtain ⟨q, hq⟩ : ∃ q, q = ls.length := ⟨_, rfl⟩
  rw [← hq] at hrd hc hn ⊢
  have HQ := Go.Lib.hid hq
  have HRD := Go.Lib.hid hrd
  have HEL := Go.Lib.hid hel
  have HL := Go.Lib.hid hl
  clear hrd hel hl hq
  go_wp2_with fail
  go_loopw [3, 8] (fun v3 v8 wr => ∃ (i : Nat) (A3 : Option Addr) (c3 : Nat), v3 = .slice A3 i c3 ∧ v8 = .int .i64 (i : Int) ∧ i ≤ q ∧ Hid (Ow w.heap.size wr 32 (.slice A3 i c3) i (idCells ((ls.take i).map leafS))) ∧ Hid (w.grownBy wr none)) (fun _ v8 _ => q - (intOf v8).toNat)
  case atStart => exact ⟨0, none, 0, rfl, rfl, Nat.zero_le _, Go.Lib.hid (Ow.nil _ _ _), Go.Lib.hid (gb_refl _ _)⟩
  case round =>
    obtain ⟨i, A3, c3, rfl, rfl, hi, HO, HG⟩ := hrel
    obtain ⟨wo, rfl⟩ : ∃ wo : World, wo = wr := ⟨_, rfl⟩
    by_cases hlt : i < q
    · have hd : decide ((i : Int) < (q : Int)) = true := decide_eq_true (by omega)
      have hd' : decide (i < q) = true := decide_eq_true hlt
      obtain ⟨l, hx⟩ : ∃ l, ls[i]? = some l := ⟨_, List.getElem?_eq_getElem (by rw [← HQ.out]; exact hlt)⟩
      obtain ⟨u, hu, hb0⟩ := HEL.out i l hx
      have hlen : l.length ≤ 140737488355328 := HL.out l (List.mem_of_getElem? hx)
      obtain ⟨bV, oV, cV, hvV, hbV, -, -, hrV⟩ := (Rd.grown HRD.out HG.out (by simp)).at (by omega)
      injection hvV with hA _ hcV
      subst hA hcV
      have ce := hrV i u hu
      have hb1 : RdB NB wo u l := Rd.grown hb0 HG.out (by simp)
      have hNw : ∀ b, NB b → b < wo.heap.size := fun b hb => Nat.lt_of_lt_of_le (hNB b hb) HG.out.size
      obtain ⟨R, hR⟩ : ∃ R, R = sha (0 :: l) := ⟨_, rfl⟩
      have HR := Go.Lib.hid hR
      have HT := Go.Lib.hid (leafs_take hx)
      have how := HO.out
      have hgw := HG.out
      have h63 : i + 1 ≤ maxLen := Nat.le_trans (Nat.succ_le_succ hi) (by simp only [maxLen]; omega)
      have hby : (i + 1) * 32 ≤ 140737488355328 := by omega
      clear hR hx hu hb0 hrV
      go_wp2_with (first
        | (go_at_call 52; ((with_reducible refine (leaf_big u l NB _ hb1 hNw hlen).mono ?_); rintro e w5 ⟨rfl, g5⟩; rw [← HR.out])
           have ho5 := (how.grown g5 (fun _ _ => by simp)).alloc (.cells (R.l.map bv).toArray 34)
           have hs5 : Src Try.prog 32 41 (.slice (some ⟨w5.heap.size, 0, none⟩) 1 1) 1 (R.l.map bv) (w5.alloc (.cells (R.l.map bv).toArray 34)) := src_new (P := Try.prog) Try.underlying41 w5 34 32 1 (R.l.map bv) (by rw [List.length_map, R.h]) (bytes_one _)
           have hB5 : w.heap.size ≤ (w5.alloc (.cells (R.l.map bv).toArray 34)).heap.size := by rw [World.size_alloc]; have := hgw.size; have := g5.size; omega)
        | ((with_reducible refine wpList_build_id (y := .tmp 14) R (by kernel_rfl) ?_))
        | ((with_reducible refine wpList_append_ow (s := .tmp 12) (x := .tmp 15) (v := .slice A3 i c3) (by kernel_rfl) (by kernel_rfl) Try.underlying41 okId ho5 hs5 hB5 h63 hby ?_); intro v3 w3 ho3 hg3 hb3; obtain ⟨A4, c4, rfl⟩ := ho3.form))
      have gw3 := Ow.gb (gb_alloc (gb_trans hgw g5) _) ho5 (Nat.le_refl _) hg3
      rw [← idCells_one, ← idCells_append, HR.out] at ho3
      exact ⟨⟨i + 1, A4, c4, rfl, by push_cast; rfl, by omega, Go.Lib.hid (by rw [HT.out]; exact ho3), Go.Lib.hid gw3⟩, by simp only [intOf]; omega⟩
    · obtain rfl : i = q := by omega
      have hd : decide ((i : Int) < (i : Int)) = false := decide_eq_false (by omega)
      have hd' : decide (i < i) = false := decide_eq_false (by omega)
      have ho : Ow w.heap.size wo 32 (.slice A3 i c3) i (idCells (ls.map leafS)) := by
        have h := HO.out
        rw [List.take_of_length_le (by rw [← HQ.out]; exact Nat.le_refl _)] at h
        exact h
      clear HO
      go_wp2_with fail
      go_ret
      exact ⟨_, rfl, ho, HG.out⟩
end Go.Proofs.Ytajgklomcapboaa
