import Derived.Test.YtgimgddlipbniaaKnown
import Derived.Test.YtgimgddlipbniaaGi
/- SumCounts: the walk. -/
namespace Go.Proofs.Ytgimgddlipbniaa
open Go.RowKit Go.Shelf Sc

attribute [local go_sem] Oper.semAt_some
theorem infoU8 : ((Try.prog.info? 5).map fun i => (i.zero, i.size, i.bytes)) = some (some (bv 0), 1, 1) := by kernel_rfl

def cntB (k : Nat) (l : List B64) : List (Nat × TypeId × List Value) := [(k, 3, [.int .i64 (l.length : Int)])]
def cntA (p m : Nat) (x : B64) (a : Act) (_ : World) : Prop := a = { tmps := #[.int .i64 m, undef, .bool false, .pointer (some ⟨p, 0, none⟩), .bool true, .bool false, .int .i64 m, .bool (decide ((m : Int) < 0)), .bool (decide ((m : Int) < 0)), .int .i64 m, .bool (decide (2000 < (m : Int))), .bool (decide ((m : Int) < 0) || decide (2000 < (m : Int))), .int .i64 m, .slice (some ⟨p + 1, 0, none⟩) m m, .slice (some ⟨p + 1 + 1, 0, none⟩) 1 1, .func (.func 43) #[] #[.pointer (some ⟨p + 1 + 1 + 1, 0, none⟩)], .agg (x.1.map bv).toArray, undef, undef, undef, undef, undef, undef, undef, undef], defers := [] }

set_option maxHeartbeats 1000000 in
theorem counts_walk (n : Int) (w : World) : Calls Try.prog 6 #[.int .i64 n] w fun e w' => e = .returned (.bool true) ∧ w.grownBy w' none := by
  refine calls_marks Try.func6 rfl ?_
  simp only [Try.ntmps6, List.size_toArray, List.length_cons, List.length_nil, Nat.reduceAdd, Nat.reduceSub, Array.replicate_succ, Array.replicate_zero, List.push_toArray, List.append_toArray, List.nil_append, List.cons_append]
  by_cases h : n < 0 ∨ 2000 < n
  · go_wp2_with (go_at_call 15; ((with_reducible refine (known_any _).mono ?_); rintro e w1 ⟨rfl, g1⟩))
    all_goals exact ⟨_, results_tmp rfl _ _ _, rfl, g1⟩
  · obtain ⟨m, rfl⟩ : ∃ m : Nat, n = m := ⟨n.toNat, by omega⟩
    go_wp2_with (first
    | (go_at_call 15; ((with_reducible refine (known_any _).mono ?_); rintro e w1 ⟨rfl, g1⟩; have hm : m ≤ 1099511627776 := by omega))
    | ((with_reducible refine wpList_make_bytes (t := 24) (x := .tmp 12) (y := .tmp 12) Try.underlying24 infoU8 m hm (by kernel_rfl) (by kernel_rfl) ?_))
    | (go_at_call 19; ((with_reducible refine (blocks_call _ _ _ _).mono ?_); rintro e w' ⟨rfl, rfl⟩)))
    obtain ⟨W0, hW0⟩ : ∃ W0, W0 = (((w1.alloc (.cells #[.int .i64 0] 3)).alloc (.cells (Array.replicate m (bv 0)) 5)).alloc (.cells #[.slice (some ⟨w1.heap.size + 1, 0, none⟩) m m] 24)).alloc (.cells #[.slice (some ⟨w1.heap.size + 1 + 1, 0, none⟩) 1 1] 22) := ⟨_, rfl⟩
    have s1 : (w1.alloc (.cells #[.int .i64 0] 3)).heap.size = w1.heap.size + 1 := World.size_alloc _ _
    have s2 : ((w1.alloc (.cells #[.int .i64 0] 3)).alloc (.cells (Array.replicate m (bv 0)) 5)).heap.size = w1.heap.size + 2 := by rw [World.size_alloc, s1]
    have s3 : (((w1.alloc (.cells #[.int .i64 0] 3)).alloc (.cells (Array.replicate m (bv 0)) 5)).alloc (.cells #[.slice (some ⟨w1.heap.size + 1, 0, none⟩) m m] 24)).heap.size = w1.heap.size + 3 := by rw [World.size_alloc, s2]
    have z0 : W0.heap.size = w1.heap.size + 4 := by rw [hW0, World.size_alloc, s3]
    have g0 : w.grownBy W0 none := by rw [hW0]; exact gb_alloc (gb_alloc (gb_alloc (gb_alloc g1 _) _) _) _
    have hz : List.map bv (List.replicate m 0) = List.replicate m (bv 0) := by simp
    have r1 : RdB (fun b => b = w1.heap.size + 1) ((w1.alloc (.cells #[.int .i64 0] 3)).alloc (.cells (Array.replicate m (bv 0)) 5)) (.slice (some ⟨w1.heap.size + 1, 0, none⟩) m m) (List.replicate m 0) := by
      have := RdB.new (w1.alloc (.cells #[.int .i64 0] 3)) 5 (List.replicate m 0) (fun b => b = w1.heap.size + 1) m (by simp) (Nat.le_trans hm (by decide)) s1
      rw [hz, s1] at this; exact this
    have r2 := RdBB.built1 (NB' := fun b => w1.heap.size < b ∧ b < w1.heap.size + 3) 24 r1 (fun b hb => by omega) (by omega)
    rw [s2] at r2
    have r3 : RdBB (fun b => w1.heap.size < b ∧ b < w1.heap.size + 3) W0 (.slice (some ⟨w1.heap.size + 2, 0, none⟩) 1 1) [List.replicate m 0] := hW0 ▸ r2.alloc _
    have bp : Bk W0 (w1.heap.size + 3) 22 [.slice (some ⟨w1.heap.size + 2, 0, none⟩) 1 1] := by
      have := Bk.new (((w1.alloc (.cells #[.int .i64 0] 3)).alloc (.cells (Array.replicate m (bv 0)) 5)).alloc (.cells #[.slice (some ⟨w1.heap.size + 1, 0, none⟩) m m] 24)) 22 [.slice (some ⟨w1.heap.size + 2, 0, none⟩) 1 1]
      rw [s3] at this; rw [hW0]; exact this
    have bc : Bk W0 w1.heap.size 3 [.int .i64 0] := by
      rw [hW0]; exact (((Bk.new w1 3 [.int .i64 0]).alloc _).alloc _).alloc _
    rw [← hW0]
    have hf : [List.replicate m (0 : UInt8)].flatten = List.replicate m 0 := by simp
    have hseq := blocks_seq (w1.heap.size + 3) _ [List.replicate m 0] _ (fun k => k = w1.heap.size) W0 bp (by simp) r3 (fun b hb => ⟨by omega, by omega⟩) (fun b hb => by omega) (by rw [hf, List.length_replicate]; omega)
    rw [hf] at hseq
    clear s1 s2 s3 r1 r2 r3 hz hf hW0 bp
    refine (wpIn_wide (n := 0)).1 (range_law (gf := 43) (lb := #[.pointer (some ⟨w1.heap.size + 3, 0, none⟩)]) rfl (enters_of Try.func43 (by kernel_rfl) rfl)
      hseq (Below.refl _ _) (fun _ => rfl) (GI (w1.heap.size + 1) w (cntB w1.heap.size)) (fun _ _ _ _ => False)
      (cntA w1.heap.size m)
      (GI.abides (by have := g1.size; omega)) (fun _ => ⟨fun h _ => h, fun _ h => h, fun h _ _ => h⟩) (GI.rec _ g0.size) (fun _ => fun _ h _ _ _ _ => h)
      (fun _ h _ _ => h) ⟨g0, by simp [cntB, bc], by omega, by simp⟩ ?assign ?body ?done ?stop)
    case assign =>
      intro l pre own x W hi hlen
      simp only [encB, List.zip_toArray, List.zip_cons_cons, List.zip_nil_right, List.size_toArray, List.length_cons, List.length_nil, List.foldl_toArray', List.foldl_cons, List.foldl_nil, List.setIfInBounds_toArray, List.set_cons_zero, List.set_cons_succ]
      gi_wp2_with fail
      exact ⟨rfl, KeepsFrom.of_grownBy (gb_refl W none) (fun j e => by cases e), Kept.refl _ _ _⟩
    case body =>
      rintro l pre own x a₁ W hi rfl hlen
      have hc : Bk W w1.heap.size 3 [.int .i64 (pre.length : Int)] := (hi.2.1 (w1.heap.size, 3, _) (List.mem_singleton_self _)).1
      have c0 : W.cell? ⟨w1.heap.size, 0, none⟩ = some (.int .i64 (pre.length : Int)) := hc.cellAt rfl
      have f0 := hc.frozen 0
      gi_wp2_with fail
      have hown : w1.heap.size ∉ own := fun h => by have := hi.2.2.2 _ h; omega
      have hl : pre.length < (m + 72) / 64 := by rwa [blocks_length, List.length_replicate] at hlen
      have hwr : wrap64 ((pre.length : Int) + 1) = (((pre ++ [x]).length : Nat) : Int) := by
        rw [List.length_append, List.length_singleton, IntWalk.wrap64_in _ (by omega)]; rfl
      rw [hwr]
      have hg := gb_set1 W ⟨w1.heap.size, 0, none⟩ (.int .i64 (((pre ++ [x]).length : Nat) : Int))
      exact ⟨KeepsFrom.of_grownBy hg (fun j e => by have : w1.heap.size = j := Option.some.inj e; omega), Kept.grown hg (fun r e => by cases e; exact ⟨rfl, hown⟩), gb_set_new hi.1 _ _ g1.size, fun e he => by
        obtain rfl := List.mem_singleton.1 he
        exact ⟨hc.set 0 _, Nat.lt_succ_self _⟩, by simpa using hi.2.2.1, hi.2.2.2⟩
    case done =>
      intro xs own W hS hi hK
      have hc : Bk W w1.heap.size 3 [.int .i64 (xs.length : Int)] := (hi.2.1 (w1.heap.size, 3, _) (List.mem_singleton_self _)).1
      have c0 : W.cell? ⟨w1.heap.size, 0, none⟩ = some (.int .i64 (xs.length : Int)) := hc.cellAt rfl
      have e : xs.length = (m + 72) / 64 := by
        have := congrArg List.length hS
        rw [List.length_map, blocks_length, List.length_replicate] at this
        exact this
      go_wp2_with fail
      rw [z0] at hK
      refine ⟨by simp, .inl ⟨_, _, rfl, run_takeDeferred hK, ?_⟩⟩
      refine ⟨_, results_tmp rfl _ _ _, ?_, gb_put hi.1 _ (by have := g1.size; omega)⟩
      have eb : (((m : Int) + 72) / 64 == ((m : Int) + 9 + 63) / 64) = true := by
        rw [show (m : Int) + 9 + 63 = (m : Int) + 72 by omega]; simp
      show Ending.returned (.bool (((m : Int) + 72) / 64 == ((m : Int) + 9 + 63) / 64)) = _
      rw [eb]
    case stop =>
      intro c pre own W _ h _
      exact h.elim
end Go.Proofs.Ytgimgddlipbniaa
