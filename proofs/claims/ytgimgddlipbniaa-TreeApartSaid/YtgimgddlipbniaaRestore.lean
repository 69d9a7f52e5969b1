import Derived.Test.YtgimgddlipbniaaGc
/- tree.Restore. -/
namespace Go.Proofs.Ytgimgddlipbniaa
open Go.RowKit Go.Shelf Sc
attribute [local go_sem] Oper.semAt_some
def rsB (g : Nat) (pre : List (Nat × Nat)) : List (Nat × TypeId × List Value) := [(g, 3, [.int .i64 (pre.length : Int)])]
def rsA (g : Nat) (a : Act) : Prop := ∃ u0 u1 u2 u3 u4 u5 u7 u8 u9 u10 u11 u12 u13 u14 u15 u16 u17 u18 u19 u20 u21 u22 u23 u24 u25 u26 u27 u28, a = { tmps := #[u0, u1, u2, u3, u4, u5, .pointer (some ⟨g, 0, none⟩), u7, u8, u9, u10, u11, u12, u13, u14, u15, u16, u17, u18, u19, u20, u21, u22, u23, u24, u25, u26, u27, u28], defers := [] }

set_option maxHeartbeats 4000000 in
theorem restore_any (n : Nat) (v : Value) (ts : List Sc.Id) (NB : Nat → Prop) (w : World) (hv : RdI NB w v ts) (hNB : ∀ b, NB b → b < w.heap.size) (hn : n ≤ 1099511627776) (_hts : ts.length ≤ 1000000) :
    Calls Try.prog 39 #[.int .i64 (n : Int), v] w fun e w' => w.grownBy w' none ∧
      if ones n = ts.length then ∃ r, e = .returned (.tuple #[.pointer (some ⟨r, 0, none⟩), .int .i64 0]) ∧ (∃ tv, Rng w' w.heap.size r tv n ts) ∧ w.heap.size ≤ r
      else e = .returned (.tuple #[.pointer none, .int .i64 60]) := by
  refine calls_marks Try.func39 rfl ?_
  simp only [Try.ntmps39, List.size_toArray, List.length_cons, List.length_nil, Nat.reduceAdd, Nat.reduceSub, Array.replicate_succ, Array.replicate_zero, List.push_toArray, List.append_toArray, List.nil_append, List.cons_append]
  obtain ⟨A, c, rfl, hc⟩ := Rd.form hv
  have hnI : (0 : Int) ≤ (n : Int) ∧ (n : Int) ≤ 1099511627776 := by omega
  have hd1 : decide ((n : Int) < 0) = false := decide_eq_false (by omega)
  have hd2 : decide ((1099511627776 : Int) < (n : Int)) = false := decide_eq_false (by omega)
  go_wp2_with (go_at_call 38; ((with_reducible refine (peaks_call _ _).mono ?_); rintro e w' ⟨rfl, rfl⟩))
  obtain ⟨W0, hW0⟩ : ∃ W0, W0 = (w.alloc (.cells #[.int .i64 0] 3)).alloc (.cells #[.int .i64 (n : Int)] 3) := ⟨_, rfl⟩
  have z0 : W0.heap.size = w.heap.size + 2 := by rw [hW0, World.size_alloc, World.size_alloc]
  have bg : Bk W0 w.heap.size 3 [.int .i64 0] := by rw [hW0]; exact (Bk.new w 3 [.int .i64 0]).alloc _
  have bp : Bk W0 (w.heap.size + 1) 3 [ic n] := by
    have := Bk.new (w.alloc (.cells #[.int .i64 0] 3)) 3 [ic n]
    rw [World.size_alloc] at this; rw [hW0]; exact this
  have g0 : w.grownBy W0 none := by rw [hW0]; exact gb_alloc (gb_alloc (gb_refl w none) _) _
  have hv0 : RdI NB W0 (.slice A ts.length c) ts := by rw [hW0]; exact Rd.alloc (Rd.alloc hv _) _
  rw [← hW0]
  have hseq := peaks_seq (w.heap.size + 1) n (fun k => k = w.heap.size) W0 bp (by omega) hn
  clear hW0 hv bp
  refine (wpIn_wide (n := 0)).1 (range_law (gf := 46) (lb := #[.pointer (some ⟨w.heap.size + 1, 0, none⟩)]) rfl (enters_of Try.func46 (by kernel_rfl) rfl)
    hseq (Below.refl _ _) (fun _ => rfl) (GC W0 (fun k => k = w.heap.size) (fun _ => True) (rsB w.heap.size)) (fun _ _ _ _ => False)
    (fun _ a _ => rsA w.heap.size a)
    GC.abides (fun _ => false_abides) (GC.rec rfl) (fun _ => @false_rec (Nat × Nat) _) (fun _ h _ _ => h)
    ⟨trivial, Ch.refl _ _, ?base, by simp⟩ ?assign ?body ?done (fun _ _ _ _ _ h => h.elim))
  case base => simp only [rsB, List.mem_singleton]; rintro e rfl; exact ⟨bg, by show w.heap.size < _; omega⟩
  case assign =>
    intro l pre own x W hi hlen
    simp only [encP, List.zip_toArray, List.zip_cons_cons, List.zip_nil_right, List.size_toArray, List.length_cons, List.length_nil, List.foldl_toArray', List.foldl_cons, List.foldl_nil, List.setIfInBounds_toArray, List.set_cons_zero, List.set_cons_succ]
    gi_wp2_with fail
    exact ⟨hi, ⟨_, _, _, _, _, _, _, _, _, _, _, _, _, _, _, _, _, _, _, _, _, _, _, _, _, _, _, _, rfl⟩, KeepsFrom.refl _ _, Kept.refl _ _ _⟩
  case body =>
    rintro l pre own x a₁ W ⟨_, hi1, hi2, hi3⟩ ⟨u0, u1, u2, u3, u4, u5, u7, u8, u9, u10, u11, u12, u13, u14, u15, u16, u17, u18, u19, u20, u21, u22, u23, u24, u25, u26, u27, u28, rfl⟩ hlen
    have hb : Bk W w.heap.size 3 [.int .i64 (pre.length : Int)] := (hi2 (w.heap.size, 3, [.int .i64 (pre.length : Int)]) (by simp [rsB])).1
    have c0 := hb.cellAt (i := 0) rfl
    have f0 := hb.frozen 0
    rw [pks_len] at hlen
    have hon := ones_le_log 41 n (by omega)
    have hwr : IntKind.i64.wrap ((pre.length : Int) + 1) = (pre.length : Int) + 1 := IntWalk.i64_in _ (by omega)
    gi_wp2_with fail
    have gW : W.grownBy (W.setCell ⟨w.heap.size, 0, none⟩ (.int .i64 ((pre.length : Int) + 1))) (some w.heap.size) := gb_set1 _ _ _
    refine ⟨KeepsFrom.of_grownBy gW (fun j e => by have : w.heap.size = j := Option.some.inj e; omega), Kept.grown gW (fun r e => ?_), trivial, hi1.gb gW (fun r e => .inl (Option.some.inj e).symm), ?_, hi3⟩
    · have e' : w.heap.size = r := Option.some.inj e
      exact ⟨e'.symm, fun h => by have := hi3 _ h; omega⟩
    · simp only [rsB, List.mem_singleton]; rintro e rfl
      refine ⟨?_, by show w.heap.size < _; omega⟩
      have := hb.set 0 (.int .i64 ((pre.length : Int) + 1))
      rw [List.length_append, List.length_singleton]; exact this
  case done =>
    rintro xs own W rfl ⟨_, hi1, hi2, hi3⟩ hK
    have hb : Bk W w.heap.size 3 [.int .i64 ((pks 0 n).length : Int)] := (hi2 (w.heap.size, 3, [.int .i64 ((pks 0 n).length : Int)]) (by simp [rsB])).1
    have c0 := hb.cellAt (i := 0) rfl
    rw [pks_len] at c0
    have hon := ones_le_log 41 n (by omega)
    have hvW : RdI NB W (.slice A ts.length c) ts := hi1.rd hv0 (fun r hr h => by have := hNB r hr; omega)
    have gW : w.grownBy W none := ((Ch.of (S := fun k => k = w.heap.size) g0 (fun _ h => by cases h)).trans hi1 (fun r h => .inl h)).toGb (fun r h => by omega)
    clear hseq hi1 hi2 hb
    rw [z0] at hK
    by_cases he : ones n = ts.length
    · have hd : (!((ones n : Int) == (ts.length : Int))) = false := by simp; omega
      have hoe := Ow.new W 26 w.heap.size 32 0 [] rfl (by decide) gW.size
      have hsrc := src_rd (P := Try.prog) (k := 32) (tx := 46) Try.underlying46 (Rd.mono (Rd.alloc hvW (.cells #[] 26)) (fun b hb => hNB b hb)) (idCells_oneCell _)
      have hB : w.heap.size ≤ (W.alloc (.cells #[] 26)).heap.size := by rw [World.size_alloc]; have := gW.size; omega
      have h63 : 0 + ts.length ≤ maxLen := Nat.le_trans (show 0 + ts.length ≤ 1000000 by omega) (by decide)
      have hby : (0 + ts.length) * 32 ≤ 140737488355328 := by omega
      go_wp2_with ((with_reducible refine wpList_append_ow (s := .tmp 24) (x := .tmp 25) (v := .slice (some ⟨W.heap.size, 0, none⟩) 0 0) (y := .slice A ts.length c) (by kernel_rfl) (by kernel_rfl) Try.underlying46 okId hoe hsrc hB h63 hby ?_)
                   intro v3 w3 ho3 hg3 hb3
                   simp only [Nat.zero_add, List.nil_append] at ho3
                   obtain ⟨A3, c3, rfl⟩ := ho3.form)
      obtain ⟨W4, hW4⟩ : ∃ W4, W4 = w3.alloc (.cells #[.int .i64 (n : Int), .slice A3 ts.length c3] 85) := ⟨_, rfl⟩
      have hlW : w.heap.size + 2 < W.heap.size := (Array.getElem?_eq_some_iff.1 hK).1
      have hg3s := hg3.size
      rw [World.size_alloc] at hg3s
      have hK4 : W4.heap[w.heap.size + 2]? = some (.deferred (some [])) := by
        have h1 := (hg3.block (w.heap.size + 2) (by rw [World.size_alloc]; omega) (by simp [Value.ownBlock]; omega)).trans ((Below.heap_alloc _ _ _ hlW).trans hK)
        rw [hW4]; exact (Below.heap_alloc _ _ _ (by omega)).trans h1
      have gW4 : w.grownBy W4 none := by rw [hW4]; exact gb_alloc (gb_own (gb_alloc gW _) hg3 (fun q h => by have := Option.some.inj (show some W.heap.size = some q from h); omega)) _
      have ho4 : Ow w.heap.size W4 32 (.slice A3 ts.length c3) ts.length (idCells ts) := by rw [hW4]; exact ho3.alloc _
      have hb4 : Bk W4 w3.heap.size 85 [.int .i64 (n : Int), .slice A3 ts.length c3] := by rw [hW4]; exact Bk.new _ _ _
      rw [← hW4]
      have hC4 : Ch (fun k => k = w.heap.size + 2) W4 (W4.putObj (w.heap.size + 2) (.deferred none)) := Ch.of (grownBy_putObj' W4 (w.heap.size + 2) _) (fun r e => (Option.some.inj e).symm)
      refine ⟨by simp, .inl ⟨_, _, rfl, run_takeDeferred hK4, _, results_tmp2 rfl _ _ _, gb_put gW4 _ (by omega), w3.heap.size, rfl, ⟨.slice A3 ts.length c3, hC4.bk hb4 (by omega), hC4.ow ho4 ?_, ?_⟩, by omega⟩⟩
      · intro r h h2
        subst h2
        rcases hb3 with h3 | h3
        · rw [h] at h3; simp [Value.ownBlock] at h3; omega
        · rw [h] at h3; injection h3 with h3; rw [World.size_alloc] at h3; omega
      · intro h
        have := (ho3.lt h).2
        omega
    · have hd : (!((ones n : Int) == (ts.length : Int))) = true := by simp; omega
      go_wp2_with fail
      exact ⟨by simp, .inl ⟨_, _, rfl, run_takeDeferred hK, _, results_tmp2 rfl _ _ _, gb_put gW _ (by omega), rfl⟩⟩
theorem restore_out (z : Int) (v : Value) (w : World) (hz : z < 0 ∨ 1099511627776 < z) :
    Calls Try.prog 39 #[.int .i64 z, v] w fun e w' => e = .returned (.tuple #[.pointer none, .int .i64 1]) ∧ w' = w := by
  go_enter Try.func39, Try.ntmps39
  rcases hz with hz | hz
  · have hd1 : decide (z < 0) = true := decide_eq_true hz
    go_wp2_with fail
    go_ret2
    exact ⟨rfl, rfl⟩
  · have hd1 : decide (z < 0) = false := decide_eq_false (by omega)
    have hd2 : decide ((1099511627776 : Int) < z) = true := decide_eq_true hz
    go_wp2_with fail
    go_ret2
    exact ⟨rfl, rfl⟩
theorem Rng.ch {S : Nat → Prop} {w w' : World} {B r n : Nat} {tv : Value} {ts : List Sc.Id} (h : Rng w B r tv n ts) (hC : Ch S w w') (hr : ¬ S r) (ht : ∀ k, tv.ownBlock = some k → ¬ S k) : Rng w' B r tv n ts :=
  ⟨hC.bk h.1 hr, hC.ow h.2.1 ht, h.2.2⟩
end Go.Proofs.Ytgimgddlipbniaa
