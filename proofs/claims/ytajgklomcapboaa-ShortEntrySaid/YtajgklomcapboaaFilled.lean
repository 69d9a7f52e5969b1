import Derived.Test.YtajgklomcapboaaProg
import Derived.Test.YtajgklomcapboaaApp
import Derived.Test.YtajgklomcapboaaBlocks
import Derived.Lib.Hide
/- scrivenerref01.Filled: a text filled up to whole blocks. -/
namespace Go.Proofs.Ytajgklomcapboaa
open Go.RowKit Sc

theorem okU8 : InfoOk Try.prog 5 1 1 := by unfold InfoOk; kernel_rfl
theorem infoU8 : ((Try.prog.info? 5).map fun i => (i.zero, i.size, i.bytes)) = some (some (bv 0), 1, 1) := by kernel_rfl

def fl (l : List UInt8) (i : Nat) : List UInt8 := l ++ 128 :: List.replicate i 0
theorem fl_length (l : List UInt8) (i : Nat) : (fl l i).length = l.length + 1 + i := by simp [fl]; omega
theorem fl_succ (l : List UInt8) (i : Nat) : fl l i ++ [0] = fl l (i + 1) := by simp [fl, List.replicate_succ']
theorem zeros_is (n i : Nat) (h : i ≤ zeros n) : (n + 1 + i) % 64 = 56 ↔ i = zeros n := by unfold zeros at *; split at h <;> rename_i hc <;> simp only [hc, if_true, if_false] <;> omega
theorem zeros_le (n : Nat) : zeros n ≤ 63 := by unfold zeros; split <;> omega
def cntl (N m : Nat) : List UInt8 := List.replicate m 0 ++ (be64 N).drop m
theorem cntl_length (N m : Nat) (h : m ≤ 8) : (cntl N m).length = 8 := by simp [cntl, be64_length]; omega
theorem cntl_set (N k : Nat) (h : k < 8) : (cntl N (k + 1)).set k (UInt8.ofNat (N / 256 ^ (7 - k))) = cntl N k := by
  match k, h with
  | 0, _ => simp [cntl, be64]
  | 1, _ => simp [cntl, be64, List.replicate]
  | 2, _ => simp [cntl, be64, List.replicate]
  | 3, _ => simp [cntl, be64, List.replicate]
  | 4, _ => simp [cntl, be64, List.replicate]
  | 5, _ => simp [cntl, be64, List.replicate]
  | 6, _ => simp [cntl, be64, List.replicate]
  | 7, _ => simp [cntl, be64, List.replicate]
theorem cntl_zero (N : Nat) : cntl N 0 = be64 N := by simp [cntl]
theorem cntl_eight (N : Nat) : cntl N 8 = List.replicate 8 0 := by simp [cntl, be64]
theorem bv_ofNat (n : Nat) : bv (UInt8.ofNat n) = .int .u8 ((n : Int) % 256) := by unfold bv; rw [UInt8.toNat_ofNat']; simp
set_option maxHeartbeats 1000000 in
theorem filled_any (l : List UInt8) (hl : l.length ≤ 1099511627776) (w : World) : Calls Try.prog 65 #[sv l] w fun e w' => e = .returned (sv (padded l)) ∧ w.grownBy w' none := by
  go_enter Try.func65, Try.ntmps65
  have hm : l.length ≤ maxLen := Nat.le_trans hl (by decide)
  have h63 : l.length + 1 ≤ maxLen := Nat.le_trans (Nat.succ_le_succ hl) (by decide)
  have hby : (l.length + 1) * 1 ≤ 140737488355328 := by omega
  go_wp2_with (first
    | ((with_reducible refine wpList_conv_sb (B := w.heap.size) (x := .tmp 7) Try.underlying9 Try.underlying27 Try.underlying5 l (by kernel_rfl) hm (Nat.le_refl _) ?_)
       intro v1 w1 ho1 hg1 hb1
       have hs1 : Src Try.prog 1 27 (.slice (some ⟨w1.heap.size, 0, none⟩) 1 1) 1 [bv 128] (w1.alloc (.cells #[.int .u8 128] 5)) := src_new (P := Try.prog) Try.underlying27 w1 5 1 1 [bv 128] rfl (by decide)
       have hB1 : w.heap.size ≤ (w1.alloc (.cells #[.int .u8 128] 5)).heap.size := by rw [World.size_alloc]; have := hg1.size; omega)
    | ((with_reducible refine wpList_append_ow (s := .tmp 8) (x := .tmp 9) (v := v1) (y := .slice (some ⟨w1.heap.size, 0, none⟩) 1 1) (by kernel_rfl) (by kernel_rfl) Try.underlying27 okU8 (ho1.alloc _) hs1 hB1 h63 hby ?_)
       intro v2 w2 ho2 hg2 hb2))
  have g2 : w.grownBy w2 none := Ow.gb (gb_alloc hg1 _) (ho1.alloc _) (Nat.le_refl _) hg2
  clear hg2 hb2 hb1 hs1 hB1 hg1 ho1
  go_loopw [3] (fun v wr => ∃ i : Nat, i ≤ zeros l.length ∧ Ow w.heap.size wr 1 v (l.length + 1 + i) ((fl l i).map bv) ∧ w.grownBy wr none)
    (fun v _ => 200 + l.length - (match v with | .slice _ n _ => n | _ => 0))
  case atStart => exact ⟨0, Nat.zero_le _, by simpa [fl] using ho2, g2⟩
  case round =>
    clear g2 ho2
    obtain ⟨i, hi, ho, hg⟩ := hrel
    obtain ⟨A, c, rfl⟩ := ho.form
    have hz := zeros_le l.length
    by_cases hlt : i < zeros l.length
    · have h63 : l.length + 1 + i + 1 ≤ maxLen := Nat.le_trans (show l.length + 1 + i + 1 ≤ 1099511627776 + 65 by omega) (by decide)
      have hby : (l.length + 1 + i + 1) * 1 ≤ 140737488355328 := by omega
      have hs1 : Src Try.prog 1 27 (.slice (some ⟨wr.heap.size, 0, none⟩) 1 1) 1 [bv 0] (wr.alloc (.cells #[.int .u8 0] 5)) := src_new (P := Try.prog) Try.underlying27 wr 5 1 1 [bv 0] rfl (by decide)
      have hB1 : w.heap.size ≤ (wr.alloc (.cells #[.int .u8 0] 5)).heap.size := by rw [World.size_alloc]; have := hg.size; omega
      have hne : ¬ (l.length + 1 + i) % 64 = 56 := fun h => by have := (zeros_is _ _ hi).1 h; omega
      go_wp2_with ((with_reducible refine wpList_append_ow (s := .tmp 15) (x := .tmp 16) (v := .slice A (l.length + 1 + i) c) (y := .slice (some ⟨wr.heap.size, 0, none⟩) 1 1) (by kernel_rfl) (by kernel_rfl) Try.underlying27 okU8 (ho.alloc _) hs1 hB1 h63 hby ?_)
                   intro v3 w3 ho3 hg3 hb3)
      obtain ⟨A3, c3, rfl⟩ := ho3.form
      refine ⟨⟨i + 1, by omega, ?_, Ow.gb (gb_alloc hg _) (ho.alloc _) (Nat.le_refl _) hg3⟩, by simp; omega⟩
      rw [← fl_succ, List.map_append]; exact ho3
    · obtain rfl : i = zeros l.length := by omega
      clear hlt hi
      have he : (l.length + 1 + zeros l.length) % 64 = 56 := (zeros_is _ _ (Nat.le_refl _)).2 rfl
      have hsz := run_len_sv (P := Try.prog) (ty := 3) Try.underlying9 l
      have hm8 : (8 : Nat) ≤ 1099511627776 := by decide
      have wr1 : IntKind.u64.wrap (l.length : Int) = l.length := by rw [IntKind.wrap_u64]; omega
      have wr2 : IntKind.u64.wrap ((l.length : Int) * 8) = (l.length : Int) * 8 := by rw [IntKind.wrap_u64]; omega
      go_wp2_with ((with_reducible refine wpList_make_bytes (t := 27) Try.underlying27 infoU8 8 hm8 (by kernel_rfl) (by kernel_rfl) ?_))
      obtain ⟨W, hW⟩ : ∃ W, W = wr := ⟨_, rfl⟩
      subst hW
      have bc := Bk.new W 5 ([0, 0, 0, 0, 0, 0, 0, 0].map bv)
      have ho2 : Ow w.heap.size (W.alloc (.cells ([0, 0, 0, 0, 0, 0, 0, 0].map bv).toArray 5)) 1 (.slice A (l.length + 1 + zeros l.length) c) (l.length + 1 + zeros l.length) ((fl l (zeros l.length)).map bv) := ho.alloc _
      have g2 := gb_alloc hg (.cells ([0, 0, 0, 0, 0, 0, 0, 0].map bv).toArray 5)
      have hcb : ∀ r, (Value.slice A (l.length + 1 + zeros l.length) c).ownBlock = some r → r < W.heap.size := fun r hr => (ho.lt hr).2
      have hwb := hg.size
      clear ho hg hm8 wr1 wr2
      go_loopw [5, 6] (fun u v wq => ∃ (m : Nat) (x : Int) (q : Nat), m ≤ 8 ∧ v = .int .i64 x ∧ x = m - 1 ∧ u = .int .u64 (q : Int) ∧ q = 8 * l.length / 256 ^ (8 - m) ∧ Bk wq W.heap.size 5 ((cntl (8 * l.length) m).map bv) ∧
          Ow w.heap.size wq 1 (.slice A (l.length + 1 + zeros l.length) c) (l.length + 1 + zeros l.length) ((fl l (zeros l.length)).map bv) ∧ w.grownBy wq none)
        (fun _ v _ => (intOf v + 1).toNat)
      case atStart => exact ⟨8, 7, 8 * l.length, Nat.le_refl _, rfl, rfl, by simp; omega, by simp, bc, ho2, g2⟩
      case round =>
        clear bc ho2 g2
        obtain ⟨m, x, q, hm', rfl, hx, rfl, hq, hb, ho, hg⟩ := hrel
        have hql : q ≤ 8 * 1099511627776 := by rw [hq]; exact Nat.le_trans (Nat.div_le_self _ _) (by omega)
        have HQ := Go.Lib.hid hq
        clear hq
        rcases m with _ | k
        · obtain rfl : x = -1 := by simpa using hx
          clear hz he hsz hx
          have hb8 : Bk wr W.heap.size 5 ((be64 (8 * l.length)).map bv) := by rw [cntl_zero] at hb; exact hb
          have hsrc := src_rd (P := Try.prog) (k := 1) (tx := 27) Try.underlying27 (Rd.mk' (NB := fun _ => True) (k := 1) (n := 8) (c := 8) hb8.range trivial (Nat.le_refl _) (by decide) rfl) (bytes_one _)
          have hBw : w.heap.size ≤ wr.heap.size := hg.size
          have hzl := zeros_le l.length
          have h63 : l.length + 1 + zeros l.length + 8 ≤ maxLen := Nat.le_trans (show l.length + 1 + zeros l.length + 8 ≤ 1099511627776 + 72 by omega) (by decide)
          have hby : (l.length + 1 + zeros l.length + 8) * 1 ≤ 140737488355328 := by omega
          go_wp2_with (first
            | ((with_reducible refine wpList_append_ow (s := .tmp 35) (x := .tmp 36) (v := .slice A (l.length + 1 + zeros l.length) c) (y := .slice (some ⟨W.heap.size, 0, none⟩) 8 8) (by kernel_rfl) (by kernel_rfl) Try.underlying27 okU8 ho hsrc hBw h63 hby ?_)
               intro v3 w3 ho3 hg3 hb3
               have hrd : RdB (fun _ => True) w3 v3 (padded l) := by
                 have e : (fl l (zeros l.length)).map bv ++ (be64 (8 * l.length)).map bv = (padded l).map bv := by rw [← List.map_append]; simp [fl, padded]
                 have e2 : (padded l).length = l.length + 1 + zeros l.length + 8 := by simp [padded, be64_length]; omega
                 unfold RdB
                 rw [← e, e2]; exact ho3.rd (fun _ _ => trivial))
            | ((with_reducible refine wpList_conv_bs (x := .tmp 37) (v := v3) Try.underlying27 Try.underlying5 Try.underlying9 (padded l) (by kernel_rfl) hrd ?_)))
          go_ret
          exact ⟨rfl, Ow.gb hg ho (Nat.le_refl _) hg3⟩
        · obtain rfl : x = k := by omega
          have c0 := hb.cellAt (i := k) (List.getElem?_eq_getElem (by rw [List.length_map, cntl_length _ _ hm']; omega))
          have f0 := hb.frozen k
          clear hz he hsz hx
          generalize ((cntl (8 * l.length) (k + 1)).map bv)[k]'_ = y0 at c0
          have hk7 : (k : Int) < 8 := by omega
          go_wp2_with fail
          refine ⟨⟨k, (k : Int) - 1, q / 256, by omega, rfl, rfl, by rw [Int.natCast_ediv]; rfl, ?_, ?_, ho.grown (gb_set1 _ _ _) (fun b e h => ?_), gb_set_new hg _ _ hwb⟩, by simp [intOf]⟩
          · rw [HQ.out, Nat.div_div_eq_div_mul, ← Nat.pow_succ, show (8 - (k + 1)).succ = 8 - k by omega]
          · have e : (cntl (8 * l.length) (k + 1)).set k (UInt8.ofNat q) = cntl (8 * l.length) k := by
              rw [HQ.out, show 8 - (k + 1) = 7 - k by omega]; exact cntl_set _ _ (by omega)
            have := hb.set k (bv (UInt8.ofNat q))
            rw [← List.map_set, e, bv_ofNat] at this
            exact this
          · have h1 : W.heap.size = b := Option.some.inj h
            have := hcb b e
            omega
end Go.Proofs.Ytajgklomcapboaa
