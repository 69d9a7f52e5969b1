import Derived.Test.YtajgklomcapboaaShort
import Derived.Test.YtajgklomcapboaaSpecsI
import Derived.Test.YtajgklomcapboaaAppR
import Derived.Test.YtajgklomcapboaaInc
import Derived.Test.YtajgklomcapboaaFilled
/- short: half, keep, Sum, leaf, node. -/
namespace Sc
open Go Go.RowKit
theorem run_minI' {P : Program} {ts : Array TypeId} {ty : TypeId} (m k q : Int) (hq : min m k = q) (w : World) : (Builtin.min_ ts ty #[.int .i64 m, .int .i64 k]).run P w = .ok (.int .i64 q) w := by
  subst hq
  by_cases h : k < m
  · rw [show min m k = k by omega]; simp [Builtin.min_, Builtin.min2, h]
  · rw [show min m k = m by omega]; simp [Builtin.min_, Builtin.min2, h]
theorem run_maxI' {P : Program} {ts : Array TypeId} {ty : TypeId} (m k q : Int) (hq : max m k = q) (w : World) : (Builtin.max_ ts ty #[.int .i64 m, .int .i64 k]).run P w = .ok (.int .i64 q) w := by
  subst hq
  by_cases h : m < k
  · rw [show max m k = k by omega]; simp [Builtin.max_, Builtin.max2, h]
  · rw [show max m k = m by omega]; simp [Builtin.max_, Builtin.max2, h]
section
variable {P : Program} {w : World} {ops : Array Oper} {rest : List Oper} {a : Act} {Q : Exit → Act → World → Prop} {dst : Option Tmp} {ty : TypeId} {pos : String} {aft : Array Edge} {ts : Array TypeId} {x y : Operand}
theorem wpList_minI' (m k q : Int) (hq : min m k = q) (hx : a.eval x = .int .i64 m) (hy : a.eval y = .int .i64 k) (h : wpList P ops Q rest (a.put dst (.int .i64 q)) w) :
    wpList P ops Q (⟨dst, .call { callee := .builtin .min, args := #[x, y], argTypes := ts }, ty, pos, aft, none⟩ :: rest) a w := by
  refine wpList_run rfl ?_ h
  simp only [execOp, resolve, invoke, builtin, Sem.run_bind, Sem.run_pure, Result.andThen_ok, List.map_toArray, List.map_cons, List.map_nil, hx, hy, run_minI' m k q hq]
theorem wpList_maxI' (m k q : Int) (hq : max m k = q) (hx : a.eval x = .int .i64 m) (hy : a.eval y = .int .i64 k) (h : wpList P ops Q rest (a.put dst (.int .i64 q)) w) :
    wpList P ops Q (⟨dst, .call { callee := .builtin .max, args := #[x, y], argTypes := ts }, ty, pos, aft, none⟩ :: rest) a w := by
  refine wpList_run rfl ?_ h
  simp only [execOp, resolve, invoke, builtin, Sem.run_bind, Sem.run_pure, Result.andThen_ok, List.map_toArray, List.map_cons, List.map_nil, hx, hy, run_maxI' m k q hq]
theorem wpList_slice_hi {t : TypeId} {hi : Operand} {len : Nat} {e : TypeId} {k : Nat} (hu : P.underlying t = some (.array len e)) (hk : (P.info? e).map (·.size) = some k) (b : Nat) (m : Int)
    (hx : a.eval x = .pointer (some ⟨b, 0, none⟩)) (hm : a.eval hi = .int .i64 m) (h0 : 0 ≤ m) (h1 : m ≤ len)
    (h : wpList P ops Q rest (a.put dst (.slice (some ⟨b, 0, none⟩) m.toNat len)) w) : wpList P ops Q (⟨dst, .slice t x none (some hi) none, ty, pos, aft, none⟩ :: rest) a w := by
  refine wpList_run rfl ?_ h
  simp [execOp, hx, hm, run_sliceAt_hi hu hk b m h0 h1]
end
/-- Either the world only grows, or a new block is written behind its first 33 cells. -/
def R33 (B : Nat) (a b : World) : Prop := Gr a b ∨ ∃ r, B ≤ r ∧ a.grownBy b (some r) ∧ (∀ o, o < 33 → b.cell? ⟨r, o, none⟩ = a.cell? ⟨r, o, none⟩) ∧
  (∀ o, (a.cell? ⟨r, o, none⟩).isSome = true → (b.cell? ⟨r, o, none⟩).isSome = true) ∧ ∀ o, b.frozen? ⟨r, o, none⟩ = a.frozen? ⟨r, o, none⟩
def noR (B : Nat) (i : Nat) (a b : World) : Prop := match i with
  | 4 => R33 B a b
  | _ => Gr a b
def noRa (B : Nat) (a b : World) : Prop := B ≤ a.heap.size → Below B a b
theorem below_drawn' (B : Nat) (w : World) : Below B w { w with drawn := w.drawn + 1 } := ⟨rfl, rfl, rfl, Nat.le_refl _, fun _ _ => rfl⟩
theorem noRa_trans (B : Nat) : ∀ a b c, noRa B a b → noRa B b c → noRa B a c := fun _a _b _c h k hB => (h hB).trans (k (Nat.le_trans hB (h hB).size))
theorem noR_33 {B i : Nat} {a b : World} (h : noR B i a b) : R33 B a b := by
  unfold noR at h
  split at h
  · exact h
  · exact .inl h
theorem noR_gr {B i : Nat} {a b : World} (hi : i ≠ 4) (h : noR B i a b) : Gr a b := by
  unfold noR at h
  split at h
  · exact absurd rfl hi
  · exact h
theorem noR_Ra (B : Nat) : ∀ i a b, noR B i a b → noRa B a b := fun i a b h hB => by
  rcases noR_33 h with h | ⟨r, hr, h, _⟩
  · exact gb_below h hB (by simp)
  · exact gb_below h hB (fun k e => by cases e; exact hr)
theorem R33.ow {B : Nat} {a b : World} {k n c : Nat} {cs : List Value} (h : Ow B a 1 (.slice (some ⟨k, 0, none⟩) n c) n cs) (hn : n ≤ 33) (hg : R33 B a b) : Ow B b 1 (.slice (some ⟨k, 0, none⟩) n c) n cs := by
  rcases hg with hg' | ⟨r, hr, h2, h3, h4, h5⟩
  · exact h.grown hg' (fun _ _ => by simp)
  · by_cases e : k = r
    · subst e
      obtain ⟨a1, A', c', he, a2, a3, a4, a5⟩ := h
      injection he with e1 _ e2
      subst e1 e2
      refine ⟨a1, _, c, rfl, a2, a3, a4, fun ad had => ?_⟩
      obtain ⟨b', o', e, hB, hlt, hc, hrr⟩ := a5 ad had
      cases had
      injection e with e1 e2 _
      subst e1 e2
      refine ⟨k, 0, rfl, hB, Nat.lt_of_lt_of_le hlt h2.size, fun j hj => ⟨h4 _ (hc j hj).1, ?_⟩, fun j u hu => ?_⟩
      · rw [h5]; exact (hc j hj).2
      · have hjn : j < n := by have := (List.getElem?_eq_some_iff.1 hu).1; rw [a1] at this; omega
        rw [h3 _ (by omega)]; exact hrr j u hu
    · exact h.grown h2 (fun b hb e2 => e (by have := Option.some.inj (show some k = some b from hb); have := Option.some.inj e2; omega))
theorem R33.room {B : Nat} {w : World} {b c : Nat} {cs : List Value} (h : Ow B w 1 (.slice (some ⟨b, 0, none⟩) 33 c) 33 cs) (news : List Value) : R33 B w (w.setCells b (0 + 33 * 1) news) := by
  obtain ⟨h1, A', c', he, h2, h3, h4, h5⟩ := h
  injection he with e1 _ e2
  subst e1 e2
  obtain ⟨b', o', e, hB, hlt, hc, hr⟩ := h5 _ rfl
  injection e with e1 e2 _
  subst e1 e2
  refine .inr ⟨b, hB, gb_setCells b news _ w, fun o ho => ?_, fun o ho => World.isSome_setCells b news _ w _ ho, fun o => World.frozen?_setCells _ _ _ _ _⟩
  exact World.cell?_setCells_out b news _ w _ (fun _ _ => .inl (by show o < 0 + 33 * 1; omega))
def snodeφ (B : Nat) (x y : Sc.Id) (bx by_ : Nat) (i : Nat) (v : Value) (w : World) : Prop := match i with
  | 0 => ∃ b, v = .slice (some ⟨b, 0, none⟩) 1 1 ∧ Ow B w 1 (.slice (some ⟨b, 0, none⟩) 1 1) 1 [bv 1]
  | 1 => v = .slice (some ⟨bx, 0, none⟩) 32 32
  | 2 => ∃ b c, v = .slice (some ⟨b, 0, none⟩) 33 c ∧ Ow B w 1 (.slice (some ⟨b, 0, none⟩) 33 c) 33 ((1 :: x.l).map bv)
  | 3 => v = .slice (some ⟨by_, 0, none⟩) 32 32
  | 4 => Ow B w 1 v 65 ((1 :: (x.l ++ y.l)).map bv)
  | _ => True
theorem snode_st (B : Nat) (x y : Sc.Id) (bx by_ : Nat) : ∀ j i v w w', j ≠ i → snodeφ B x y bx by_ j v w → noR B i w w' → snodeφ B x y bx by_ j v w' := by
  intro j i v w w' hji h hg
  match j, hji, h with
  | 0, _, h => obtain ⟨b, e, ho⟩ := h; exact ⟨b, e, R33.ow ho (by decide) (noR_33 hg)⟩
  | 2, _, h => obtain ⟨b, c, e, ho⟩ := h; exact ⟨b, c, e, R33.ow ho (by decide) (noR_33 hg)⟩
  | 4, hji, h => exact Ow.grown h (noR_gr (fun e => hji e.symm) hg) (fun _ _ => by simp)
  | 1, _, h => exact h
  | 3, _, h => exact h
  | j + 5, _, h => exact h
end Sc
namespace Go.Proofs.Ytajgklomcapboaa
open Go.RowKit Go.Shelf Sc
theorem cut_cells (n : Nat) (x : Sc.Id) (hn : n ≤ 32) : idZ.take 0 ++ ((x.l.map bv).take n ++ idZ.drop (0 + ((x.l.map bv).take n).length)) = (cutId n x).l.map bv := by
  have e : ((x.l.map bv).take n).length = n := by rw [List.length_take, List.length_map, x.h]; omega
  rw [e, List.take_zero, List.nil_append, Nat.zero_add, idZ, List.drop_replicate, ← List.map_take]
  show _ = (x.l.take n ++ List.replicate (32 - min n 32) 0).map bv
  rw [List.map_append, List.map_replicate, show min n 32 = n by omega]
set_option maxHeartbeats 1000000 in
theorem shalf_any (n : Nat) (h2 : 2 ≤ n) (hn : n ≤ 1099511627776) (w : World) : Calls Try.prog 43 #[.int .i64 (n : Int)] w fun e w' => e = .returned (.int .i64 (half n : Int)) ∧ w' = w := by
  go_enter Try.func43, Try.ntmps43
  have hnI : (2 : Int) ≤ (n : Int) ∧ (n : Int) ≤ 1099511627776 := by omega
  obtain ⟨z, hz0⟩ : ∃ z, z = half n := ⟨_, rfl⟩
  rw [← hz0]
  have HZ := Go.Lib.hid hz0
  clear hz0
  go_wp2_with fail
  go_loop [3] (fun kv => ∃ (k j : Nat), kv = .int .i64 (k : Int) ∧ Hid (k = 2 ^ j) ∧ k < n) (fun kv => n - (intOf kv).toNat)
  case atStart => exact ⟨1, 0, rfl, Go.Lib.hid rfl, by omega⟩
  case round =>
    obtain ⟨k, j, rfl, HKJ, hkq⟩ := hrel
    have hk1 : 1 ≤ k := by rw [HKJ.out]; exact Nat.one_le_two_pow
    have hkI : (1 : Int) ≤ (k : Int) ∧ (k : Int) < 1099511627776 := by omega
    by_cases h : k * 2 < n
    · have hd2 : decide (2 * (k : Int) < (n : Int)) = true := decide_eq_true (by omega)
      go_wp2_with fail
      exact ⟨⟨k * 2, j + 1, by push_cast; rfl, Go.Lib.hid (by rw [Nat.pow_succ, HKJ.out]), by omega⟩, by simp only [intOf]; omega⟩
    · have hd2 : decide (2 * (k : Int) < (n : Int)) = false := decide_eq_false (by omega)
      have hhalf : half n = k := by rw [HKJ.out]; exact half_of (by rw [← HKJ.out]; exact hkq) (by rw [← HKJ.out]; omega)
      obtain rfl : z = k := by rw [HZ.out]; exact hhalf
      clear hhalf
      go_wp2_with fail
      go_ret
      exact ⟨rfl, rfl⟩
def keepφ (b3 b5 : Nat) (c m N : Int) (i : Nat) (v : Value) (_w : World) : Prop := match i with
  | 0 => v = .int .i64 c
  | 1 => v = .int .i64 m
  | 2 => v = .int .i64 N
  | 3 => v = .slice (some ⟨b5, 0, none⟩) N.toNat 32
  | 4 => v = .slice (some ⟨b3, 0, none⟩) 32 32
  | _ => True
theorem keepφ_gr (b3 b5 : Nat) (c m N : Int) : ∀ i v w w', keepφ b3 b5 c m N i v w → Gr w w' → keepφ b3 b5 c m N i v w' := fun _ _ _ _ h _ => h
set_option maxHeartbeats 1000000 in
theorem keep_any (c : Int) (x : Sc.Id) (w : World) : Calls Try.prog 45 #[.int .i64 c, idv x] w fun e w' => e = .returned (idv (cutId (cutN c) x)) ∧ w.grownBy w' none := by
  go_enter Try.func45, Try.ntmps45
  rw [show idv x = .agg (x.l.map bv).toArray from rfl]
  obtain ⟨X, hX⟩ : ∃ X, X = cutId (cutN c) x := ⟨_, rfl⟩
  rw [← hX]
  have HX := Go.Lib.hid hX
  clear hX
  go_wp2_with ((with_reducible refine wpList_alloc_row (E := 34) idZ infoId ?_))
  go_frame
  obtain ⟨b, hb⟩ : ∃ b, b = w.heap.size := ⟨_, rfl⟩
  obtain ⟨W, hW⟩ : ∃ W, W = ((w.alloc (.cells (x.l.map bv).toArray 34)).alloc (.cells idZ.toArray 34)).alloc (.cells idZ.toArray 34) := ⟨_, rfl⟩
  have bx : Bk W b 34 (x.l.map bv) := by rw [hW, hb]; exact ((Bk.new w _ _).alloc _).alloc _
  have b4 : Bk W (b + 1) 34 idZ := by
    have := Bk.new (w.alloc (.cells (x.l.map bv).toArray 34)) 34 idZ
    rw [World.size_alloc, ← hb] at this; rw [hW]; exact this.alloc _
  have b5 : Bk W (b + 1 + 1) 34 idZ := by
    have := Bk.new ((w.alloc (.cells (x.l.map bv).toArray 34)).alloc (.cells idZ.toArray 34)) 34 idZ
    rw [World.size_alloc, World.size_alloc, ← hb] at this; rw [hW]; exact this
  have gW : w.grownBy W none := by rw [hW]; exact gb_alloc (gb_alloc (gb_alloc (gb_refl w none) _) _) _
  rw [← hW]
  simp only [World.size_alloc]
  rw [← hb]
  obtain ⟨m, hm⟩ : ∃ m, min c 32 = m := ⟨_, rfl⟩
  obtain ⟨N, hN⟩ : ∃ N, max 1 m = N := ⟨_, rfl⟩
  have hNI : 1 ≤ N ∧ N ≤ 32 := by omega
  have hNc : N.toNat = cutN c := by unfold cutN; rw [← hN, ← hm]
  have HB := Go.Lib.hid hb
  clear hW hb
  refine wp_region_specs 5 [6, 7, 8, 9, 10] (by kernel_rfl) (by kernel_rfl) (keepφ b (b + 1 + 1) c m N) (keepφ_gr b (b + 1 + 1) c m N) ?step ?fin
  case step =>
    intro i o ho hi u w' hg hd
    rcases (by omega : i = 0 ∨ i = 1 ∨ i = 2 ∨ i = 3 ∨ i = 4) with rfl | rfl | rfl | rfl | rfl <;> obtain rfl := Option.some.inj ho <;>
      simp (decide := true) only [fillAct, List.mapIdx_cons, List.mapIdx_nil, Nat.reduceAdd, if_true, if_false, List.getD_cons_zero, List.getD_cons_succ]
    · clear hd ho
      go_wp2_with fail
      exact ⟨rfl, gb_refl _ _, rfl⟩
    · have h0 : u 6 = .int .i64 c := hd 0 (by kernel_rfl)
      clear hd ho
      rw [h0]
      go_wp2_with ((with_reducible refine wpList_minI' (x := .tmp 6) c 32 m hm (by kernel_rfl) (by kernel_rfl) ?_))
      exact ⟨rfl, gb_refl _ _, rfl⟩
    · have h0 : u 7 = .int .i64 m := hd 1 (by kernel_rfl)
      clear hd ho
      rw [h0]
      go_wp2_with ((with_reducible refine wpList_maxI' (y := .tmp 7) 1 m N hN (by kernel_rfl) (by kernel_rfl) ?_))
      exact ⟨rfl, gb_refl _ _, rfl⟩
    · have h0 : u 8 = .int .i64 N := hd 2 (by kernel_rfl)
      clear hd ho
      rw [h0]
      have h1 : 0 ≤ N := by omega
      have h2 : N ≤ ((32 : Nat) : Int) := by omega
      go_wp2_with ((with_reducible refine wpList_slice_hi (x := .tmp 5) (hi := .tmp 8) (len := 32) (k := 1) Try.underlying34 (by kernel_rfl) (b + 1 + 1) N (by kernel_rfl) (by kernel_rfl) h1 h2 ?_))
      exact ⟨rfl, gb_refl _ _, rfl⟩
    · clear hd ho
      go_wp2_with fail
      exact ⟨rfl, gb_refl _ _, rfl⟩
  case fin =>
    intro u w' hg hφ
    have h9 : u 9 = .slice (some ⟨b + 1 + 1, 0, none⟩) N.toNat 32 := hφ 3 (by omega)
    have h10 : u 10 = .slice (some ⟨b, 0, none⟩) 32 32 := hφ 4 (by omega)
    simp (decide := true) only [fillAct, List.mapIdx_cons, List.mapIdx_nil, Nat.reduceAdd, if_true, if_false, List.drop_succ_cons, List.drop_zero]
    rw [h9, h10]
    clear hφ h9 h10
    have bx' := bx.grown hg (by simp)
    have b4' := b4.grown hg (by simp)
    have b5' := b5.grown hg (by simp)
    have g' := gb_trans gW hg
    obtain ⟨n, hn⟩ : ∃ n, n = N.toNat := ⟨_, rfl⟩
    rw [← hn] at hNc ⊢
    have hn32 : n ≤ 32 := by omega
    have hcl : ((x.l.map bv).take n).length = n := by rw [List.length_take, List.length_map, x.h]; omega
    with_reducible refine wpList_copy_bk 5 Try.underlying27 (by kernel_rfl) (some ⟨b + 1 + 1, 0, none⟩) (some ⟨b, 0, none⟩) n 32 32 32 (by kernel_rfl) (by kernel_rfl) (b + 1 + 1) 0 34 idZ b5' ((x.l.map bv).take n) ?_ ?_ ?_ ?_ ?_
    · rw [hcl]; exact (Nat.min_eq_right hn32).symm
    · intro _
      refine ⟨rfl, _, rfl, fun j v hv => ?_⟩
      rw [Addr.add_mid, Nat.zero_add]
      rw [List.getElem?_take] at hv
      split at hv
      · exact bx'.cellAt hv
      · cases hv
    · rw [hcl]; show 0 + n ≤ 32; omega
    · intro v hv; exact bytes_one _ v (List.mem_of_mem_take hv)
    intro w2 hE2 hg2 hz2
    rw [cut_cells n x hn32, hNc, ← HX.out] at hE2
    have b4'' := b4'.grown hg2 (by simp)
    have hbs : w.heap.size ≤ b := by rw [HB.out]; exact Nat.le_refl _
    clear bx bx' b4 b4' b5 b5' hcl hn hNc
    go_wp2_with (first
      | ((with_reducible refine wpList_load_bk (x := .tmp 5) (t := 34) (b + 1 + 1) _ (X.l.map bv) _ hE2 (by kernel_rfl) Try.underlying34 rfl (idSize _) ?_))
      | ((with_reducible refine wpList_store_bk (t := 34) (b + 1) 34 idZ (X.l.map bv) b4'' (by kernel_rfl) (by kernel_rfl) (idSize _) (idLen _) (idOne _) ?_); intro w5 h5 g5 z5))
    try go_frame
    exact bodyPost_ret (results_id rfl _ _ (b + 1) X rfl h5) rfl ⟨rfl, gb_trans_new (gb_trans_new g' hg2 (by omega)) g5 (by omega)⟩
set_option maxHeartbeats 1000000 in
theorem ssum_any (c : Int) (v : Value) (l : List UInt8) (NB : Nat → Prop) (w : World) (hv : RdB NB w v l) (hNB : ∀ b, NB b → b < w.heap.size) (hlen : l.length ≤ 1125899906842624) :
    Calls Try.prog 21 #[.int .i64 c, v] w fun e w' => e = .returned (idv (sumC c l)) ∧ w.grownBy w' none := by
  go_enter Try.func21, Try.ntmps21
  obtain ⟨A, c9, rfl, hc⟩ := hv.form
  obtain ⟨W1, hW1⟩ : ∃ W1, W1 = w.alloc (.cells idZ.toArray 34) := ⟨_, rfl⟩
  have b1 : Bk W1 w.heap.size 34 idZ := by rw [hW1]; exact Bk.new w _ _
  have g1 : w.grownBy W1 none := by rw [hW1]; exact gb_alloc (gb_refl w none) _
  have hv1 : RdB (fun b => b < W1.heap.size) W1 (.slice A l.length c9) l := by rw [hW1]; exact Rd.mono (Rd.alloc hv _) (fun b hb => by rw [World.size_alloc]; have := hNB b hb; omega)
  obtain ⟨q, hq⟩ : ∃ q, q = l.length := ⟨_, rfl⟩
  have hr : RdBB (fun b => b < W1.heap.size + 1) (W1.alloc (.cells #[.slice A q c9] 27)) (.slice (some ⟨W1.heap.size, 0, none⟩) 1 1) [l] := RdBB.built1 27 (by rw [hq]; exact hv1) (fun b hb => Nat.lt_succ_of_lt hb) (Nat.lt_succ_self _)
  have hl : [l].flatten.length ≤ 1125899906842624 := by simpa using hlen
  have hNB3 : ∀ b, b < W1.heap.size + 1 → b < (W1.alloc (.cells #[.slice A q c9] 27)).heap.size := fun b hb => by rw [World.size_alloc]; exact hb
  have b3 : Bk (W1.alloc (.cells #[.slice A q c9] 27)) w.heap.size 34 idZ := b1.alloc _
  have g3 : w.grownBy (W1.alloc (.cells #[.slice A q c9] 27)) none := gb_alloc g1 _
  obtain ⟨X, hX⟩ : ∃ X, X = sumC c l := ⟨_, rfl⟩
  have hkeep : ∀ w : World, Calls Try.prog 45 #[.int .i64 c, idv (sha l)] w fun e w' => e = .returned (idv X) ∧ w.grownBy w' none := fun w => by rw [hX]; exact keep_any c (sha l) w
  rw [← hX, ← hq]
  have HW := Go.Lib.hid hW1
  clear hv hv1 b1 g1 hX hq hW1 hNB
  go_wp2_with (first
    | ((with_reducible refine wpList_alloc_row (E := 34) idZ infoId ?_); rw [← HW.out])
    | (go_at_call 46; ((with_reducible refine (of_any _ [l] (fun b => b < W1.heap.size + 1) _ hr hNB3 hl).mono ?_); rintro e w3 ⟨rfl, g4⟩; rw [show [l].flatten = l from by simp]; have b4 := b3.grown g4 (by simp)))
    | (go_at_call 45; ((with_reducible refine (hkeep _).mono ?_); rintro e w4 ⟨rfl, g5⟩; have b5 := b4.grown g5 (by simp)))
    | ((with_reducible refine wpList_store_bk (t := 34) w.heap.size 34 idZ (X.l.map bv) b5 (by kernel_rfl) (by kernel_rfl) (idSize _) (idLen _) (idOne _) ?_); intro w5 h5 g6 z5))
  try go_frame
  exact bodyPost_ret (results_id rfl _ _ w.heap.size X rfl h5) rfl ⟨rfl, gb_trans_new (gb_trans (gb_trans g3 g4) g5) g6 (Nat.le_refl _)⟩
theorem sleaf_any (v : Value) (l : List UInt8) (NB : Nat → Prop) (w : World) (hv : RdB NB w v l) (hlen : l.length ≤ 1000000) :
    Calls Try.prog 60 #[v] w fun e w' => ∃ v', e = .returned v' ∧ Ow w.heap.size w' 1 v' (0 :: l).length ((0 :: l).map bv) ∧ w.grownBy w' none := by
  go_enter Try.func60, Try.ntmps60
  obtain ⟨A, c9, rfl, hc⟩ := hv.form
  obtain ⟨q, hq⟩ : ∃ q, q = l.length := ⟨_, rfl⟩
  have hoe := Ow.new w 5 w.heap.size 1 1 [bv 0] rfl (by decide) (Nat.le_refl _)
  have hsrc : Src Try.prog 1 27 (.slice A q c9) q (l.map bv) (w.alloc (.cells [bv 0].toArray 5)) := by
    rw [hq]; exact src_rd (P := Try.prog) (k := 1) (tx := 27) Try.underlying27 (Rd.alloc hv _) (bytes_one _)
  have hB : w.heap.size ≤ (w.alloc (.cells [bv 0].toArray 5)).heap.size := by rw [World.size_alloc]; omega
  rw [← hq] at hlen
  have h63 : 1 + q ≤ maxLen := by simp only [maxLen]; omega
  have hby : (1 + q) * 1 ≤ 140737488355328 := by omega
  rw [← hq]
  clear hv hq
  go_wp2_with ((with_reducible refine wpList_append_ow (s := .tmp 3) (x := .tmp 4) (v := .slice (some ⟨w.heap.size, 0, none⟩) 1 1) (y := .slice A q c9) (by kernel_rfl) (by kernel_rfl) Try.underlying27 okU8 hoe hsrc hB h63 hby ?_); intro v3 w3 ho3 hg3 hb3; have g3 := Ow.gb (gb_alloc (gb_refl w none) _) hoe (Nat.le_refl _) hg3)
  go_ret
  rw [Nat.add_comm 1 q] at ho3
  exact ⟨_, rfl, ho3, g3⟩
set_option maxHeartbeats 2000000 in
theorem snode_any (x y : Sc.Id) (w : World) : Calls Try.prog 61 #[idv x, idv y] w fun e w' => ∃ v', e = .returned v' ∧ Ow w.heap.size w' 1 v' 65 ((1 :: (x.l ++ y.l)).map bv) ∧ w.grownBy w' none := by
  go_enter Try.func61, Try.ntmps61
  rw [show idv x = .agg (x.l.map bv).toArray from rfl, show idv y = .agg (y.l.map bv).toArray from rfl]
  go_wp2_with fail
  try go_frame
  obtain ⟨b, hb⟩ : ∃ b, b = w.heap.size := ⟨_, rfl⟩
  obtain ⟨W, hW⟩ : ∃ W, W = (w.alloc (.cells (x.l.map bv).toArray 34)).alloc (.cells (y.l.map bv).toArray 34) := ⟨_, rfl⟩
  have bx : Bk W b 34 (x.l.map bv) := by rw [hW, hb]; exact (Bk.new w _ _).alloc _
  have hby : Bk W (b + 1) 34 (y.l.map bv) := by
    have := Bk.new (w.alloc (.cells (x.l.map bv).toArray 34)) 34 (y.l.map bv)
    rw [World.size_alloc, ← hb] at this; rw [hW]; exact this
  have gW : w.grownBy W none := by rw [hW]; exact gb_alloc (gb_alloc (gb_refl w none) _) _
  have zW : W.heap.size = b + 2 := by rw [hW, World.size_alloc, World.size_alloc, hb]
  rw [← hW]
  try simp only [World.size_alloc]
  rw [← hb]
  have HB := Go.Lib.hid hb
  clear hW hb
  have hx32 := x.h
  have hy32 := y.h
  refine wp_region_specsI (Ra := noRa W.heap.size) (R := noR W.heap.size) (noRa_trans W.heap.size) (noR_Ra W.heap.size) 5 [5, 6, 7, 8, 9] (by kernel_rfl) (fun _ => below_drawn' _ _) (by kernel_rfl) (fun _ _ => false) (by kernel_rfl) (snodeφ W.heap.size x y b (b + 1)) (fun j i v w w' h1 _ _ h3 h4 => snode_st W.heap.size x y b (b + 1) j i v w w' h1 h3 h4) ?step ?fin
  case step =>
    intro i_ o_ ho hi_ u w' hg hd
    rcases (by omega : i_ = 0 ∨ i_ = 1 ∨ i_ = 2 ∨ i_ = 3 ∨ i_ = 4) with rfl | rfl | rfl | rfl | rfl <;> obtain rfl := Option.some.inj ho <;>
      simp (decide := true) only [fillAct, List.mapIdx_cons, List.mapIdx_nil, Nat.reduceAdd, if_true, if_false, List.getD_cons_zero, List.getD_cons_succ]
    · clear hd ho
      have hBs : W.heap.size ≤ w'.heap.size := (hg (Nat.le_refl _)).size
      go_wp2_with fail
      exact ⟨rfl, gb_alloc (gb_refl _ _) _, ⟨w'.heap.size, rfl, Ow.new w' 5 W.heap.size 1 1 [bv 1] rfl (by decide) hBs⟩⟩
    · clear hd ho
      go_wp2_with fail
      exact ⟨rfl, gb_refl _ _, rfl⟩
    · have h2 : ∃ b, (u 5) = .slice (some ⟨b, 0, none⟩) 1 1 ∧ Ow W.heap.size w' 1 (.slice (some ⟨b, 0, none⟩) 1 1) 1 [bv 1] := hd 0 (by kernel_rfl)
      have h3 : (u 6) = .slice (some ⟨b, 0, none⟩) 32 32 := hd 1 (by kernel_rfl)
      clear hd ho
      have hBW := hg (Nat.le_refl _)
      have hBs : W.heap.size ≤ w'.heap.size := hBW.size
      obtain ⟨b2, e2, ho2⟩ := h2
      rw [e2, h3]
      clear e2 h3
      have hrx : w'.rangeAt b 0 (x.l.map bv) := fun j z hz => (hBW.cell (p := ⟨b, 0 + j, none⟩) (by show b < W.heap.size; omega)).trans (bx.range j z hz)
      have hsrc : Src Try.prog 1 27 (.slice (some ⟨b, 0, none⟩) 32 32) 32 (x.l.map bv) w' := src_rd (P := Try.prog) (k := 1) (tx := 27) Try.underlying27 (Rd.mk' (NB := fun _ => True) (k := 1) hrx trivial (Nat.le_refl _) (by decide) (by rw [List.length_map, hx32])) (bytes_one _)
      have h1L : 1 < 1 + 32 := by decide
      have h63 : 1 + 32 ≤ maxLen := by decide
      have hby2 : (1 + 32) * 1 ≤ 140737488355328 := by decide
      go_wp2_with ((with_reducible refine wpList_append_grow_ow (s := .tmp 5) (x' := .tmp 6) (A := some ⟨b2, 0, none⟩) (by kernel_rfl) (by kernel_rfl) Try.underlying27 okU8 ho2 hsrc hBs h63 hby2 h1L ?_); intro c4 w4 ho4 hg4)
      exact ⟨rfl, hg4, ⟨_, c4, rfl, ho4⟩⟩
    · clear hd ho
      go_wp2_with fail
      exact ⟨rfl, gb_refl _ _, rfl⟩
    · have h2 : ∃ b c, (u 7) = .slice (some ⟨b, 0, none⟩) 33 c ∧ Ow W.heap.size w' 1 (.slice (some ⟨b, 0, none⟩) 33 c) 33 ((1 :: x.l).map bv) := hd 2 (by kernel_rfl)
      have h3 : (u 8) = .slice (some ⟨b + 1, 0, none⟩) 32 32 := hd 3 (by kernel_rfl)
      clear hd ho
      have hBW := hg (Nat.le_refl _)
      have hBs : W.heap.size ≤ w'.heap.size := hBW.size
      obtain ⟨b2, c2, e2, ho2⟩ := h2
      rw [e2, h3]
      clear e2 h3
      have hry : w'.rangeAt (b + 1) 0 (y.l.map bv) := fun j z hz => (hBW.cell (p := ⟨b + 1, 0 + j, none⟩) (by show b + 1 < W.heap.size; omega)).trans (hby.range j z hz)
      have hsrc : Src Try.prog 1 27 (.slice (some ⟨b + 1, 0, none⟩) 32 32) 32 (y.l.map bv) w' := src_rd (P := Try.prog) (k := 1) (tx := 27) Try.underlying27 (Rd.mk' (NB := fun _ => True) (k := 1) hry trivial (Nat.le_refl _) (by decide) (by rw [List.length_map, hy32])) (bytes_one _)
      have h63 : 33 + 32 ≤ maxLen := by decide
      have hby2 : (33 + 32) * 1 ≤ 140737488355328 := by decide
      have HCS : Hid ((1 :: x.l).map bv ++ y.l.map bv = (1 :: (x.l ++ y.l)).map bv) := Go.Lib.hid (by simp)
      by_cases hroom : c2 < 33 + 32
      · go_wp2_with ((with_reducible refine wpList_append_grow_ow (s := .tmp 7) (x' := .tmp 8) (A := some ⟨b2, 0, none⟩) (by kernel_rfl) (by kernel_rfl) Try.underlying27 okU8 ho2 hsrc hBs h63 hby2 hroom ?_); intro c4 w4 ho4 hg4)
        rw [HCS.out] at ho4
        exact ⟨rfl, .inl hg4, ho4⟩
      · have hroom' : 33 + 32 ≤ c2 := by omega
        have hR := R33.room ho2 (y.l.map bv)
        go_wp2_with ((with_reducible refine wpList_append_room_ow (s := .tmp 7) (x' := .tmp 8) b2 0 (by kernel_rfl) (by kernel_rfl) Try.underlying27 okU8 ho2 hsrc hroom' ?_); intro ho4)
        rw [HCS.out] at ho4
        exact ⟨rfl, hR, ho4⟩
  case fin =>
    intro u w' hg hφ
    have h9 : Ow W.heap.size w' 1 (u 9) 65 ((1 :: (x.l ++ y.l)).map bv) := hφ 4 (by omega) (fun _ _ => rfl)
    simp (decide := true) only [fillAct, List.mapIdx_cons, List.mapIdx_nil, Nat.reduceAdd, if_true, if_false, List.drop_succ_cons, List.drop_zero]
    clear hφ
    have hBW := hg (Nat.le_refl _)
    go_wp2_with fail
    go_ret
    have hws : w.heap.size ≤ W.heap.size := gW.size
    refine ⟨_, rfl, ?_, ?_⟩
    · obtain ⟨h1, A, c, e, h2, h3, h4, h5⟩ := h9
      exact ⟨h1, A, c, e, h2, h3, h4, fun ad had => by obtain ⟨b, o, e1, h6, h7⟩ := h5 ad had; exact ⟨b, o, e1, Nat.le_trans hws h6, h7⟩⟩
    · exact gb_trans gW ⟨hBW.os, hBW.tape, hBW.output, hBW.size, fun k hk _ => hBW.block k hk⟩
end Go.Proofs.Ytajgklomcapboaa
