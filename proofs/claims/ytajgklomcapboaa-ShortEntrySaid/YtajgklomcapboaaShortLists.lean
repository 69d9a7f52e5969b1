import Derived.Test.YtajgklomcapboaaShortTop
import Derived.Test.YtajgklomcapboaaShortPlain
import Derived.Test.YtajgklomcapboaaSame
import Derived.Deep.CutBlock
import Derived.Deep.LoopGhost
import Derived.Scope
/- short: Lists. -/
namespace Sc
open Go Go.RowKit
theorem neq_sv (t : TypeId) (l k : List UInt8) : binOp .neq t (sv l) (sv k) = pure (.bool (!(l == k))) := by
  unfold sv; rw [binOp_string_neq, sb_toList, sb_toList]
section
variable {P : Program} {w : World} {ops : Array Oper} {rest : List Oper} {a : Act} {Q : Exit → Act → World → Prop} {dst : Option Tmp} {ty : TypeId} {pos : String} {aft : Array Edge}
theorem wpList_neq_sv {t tr : TypeId} {x y : Operand} (X Y : List UInt8) (r : Bool) (hr : (!(X == Y)) = r) (hx : a.eval x = sv X) (hy : a.eval y = sv Y) (hk : wpList P ops Q rest (a.put dst (.bool r)) w) :
    wpList P ops Q (⟨dst, .binOp .neq t x y tr, ty, pos, aft, none⟩ :: rest) a w := by
  refine wpList_run rfl ?_ hk
  simp only [execOp, hx, hy, Sem.run_bind]
  rw [eqGuard_sv, neq_sv, hr]
  simp
end
theorem rdbb_of_seg {NB : Nat → Prop} {w : World} {v : Value} {n f t : Nat} {ls : List (List UInt8)} {vs : List Value} (hel : ∀ (j : Nat) l, ls[j]? = some l → ∃ u, vs[j]? = some u ∧ RdB NB w u l)
    (h : Rd NB w 1 v (t - f) ((vs.drop (f * 1)).take ((t - f) * 1))) (_hft : f ≤ t) (htn : t ≤ n) (hn : ls.length = n) (_hvl : vs.length = n) : RdBB NB w v (seg ls (f, t)) := by
  have e : (seg ls (f, t)).length = t - f := seg_len (by rw [hn]; exact htn)
  rw [Nat.mul_one, Nat.mul_one] at h
  refine ⟨(vs.drop f).take (t - f), by rw [e]; exact h, fun j l hj => ?_⟩
  simp only [seg] at hj
  rw [List.getElem?_take] at hj ⊢
  split at hj
  · rename_i hjt
    rw [if_pos hjt]
    rw [List.getElem?_drop] at hj ⊢
    exact hel _ _ hj
  · cases hj
theorem wp_scope_body {P : Program} {fn : Func} {R : Ending → World → Prop} {c : Code} {a : Act} {w : World} (h : c.wp P (bodyPost P fn R) a w) : (Code.scope c).wp P (bodyPost P fn R) a w :=
  wp_scope_straight (wp_mono h fun e a w h => by
    cases e
    case goto => exact h.elim
    all_goals exact h)
theorem RL.nil (w : World) : RL w (.slice none 0 0) [] := (Ow.nil 0 w 1).rd (fun b hb => by cases hb)
/-- What the search for two texts with one sum tells. -/
def LOut (c : Int) (la lb : List (List UInt8)) (l1 l2 : List UInt8) (ok : Bool) : Prop :=
  (ok = false ∧ l1 = [] ∧ l2 = [] ∧ (la.length = lb.length → rootH (sumC c) la = rootH (sumC c) lb → la = lb)) ∨
  (ok = true ∧ la.length = lb.length ∧ rootH (sumC c) la = rootH (sumC c) lb ∧ la ≠ lb ∧ l1 ≠ l2 ∧ sumC c l1 = sumC c l2 ∧ l1.length ≤ 1000001 ∧ l2.length ≤ 1000001)
def pairZ : List Value := [.slice none 0 0, .slice none 0 0]
theorem seg_mem {α : Type} {l : List α} {s : Nat × Nat} {x : α} (h : x ∈ seg l s) : x ∈ l := List.mem_of_mem_drop (List.mem_of_mem_take h)
end Sc
namespace Go.Proofs.Ytajgklomcapboaa
open Go.RowKit Go.Shelf Sc
theorem infoPair : ((Try.prog.info? 29).map fun i => (i.zero, i.size)) = some (some (.agg pairZ.toArray), pairZ.length) := by kernel_rfl
theorem pairSize (u v : Value) : (Try.prog.info? 29).map (·.size) = some [u, v].length := by kernel_rfl
theorem pairZSize : (Try.prog.info? 29).map (·.size) = some pairZ.length := by kernel_rfl
theorem pairZOne : ∀ v ∈ pairZ, v.oneCell' = true := by
  intro u hu
  simp only [pairZ, List.mem_cons, List.not_mem_nil, or_false, or_self] at hu
  rw [hu]; rfl
theorem pairOne (A1 A2 : Option Addr) (n1 c1 n2 c2 : Nat) : ∀ v ∈ [Value.slice A1 n1 c1, .slice A2 n2 c2], v.oneCell' = true := by
  intro u hu
  simp only [List.mem_cons, List.not_mem_nil, or_false] at hu
  rcases hu with rfl | rfl <;> rfl
theorem infoStr : ((Try.prog.info? 78).map fun i => (i.zero, i.size)) = some (some (.agg (stC (0, 0)).toArray), (stC (0, 0)).length) := by kernel_rfl
theorem strSize (s : Nat × Nat) : (Try.prog.info? 78).map (·.size) = some (stC s).length := by kernel_rfl
theorem okStr : InfoOk Try.prog 78 2 16 := by unfold InfoOk; kernel_rfl
theorem build_pair (A1 A2 : Option Addr) (n1 c1 n2 c2 : Nat) (w : World) : (Instr.build 29 #[(0, .slice A1 n1 c1), (1, .slice A2 n2 c2)]).run Try.prog w = .ok (.agg #[.slice A1 n1 c1, .slice A2 n2 c2]) w := run_build w _ _ _ (by kernel_rfl)
theorem build_pair0 (w : World) : (Instr.build 29 #[]).run Try.prog w = .ok (.agg pairZ.toArray) w := run_build w _ _ _ (by kernel_rfl)
theorem build_str (a b : Int) (w : World) : (Instr.build 78 #[(0, .int .i64 a), (1, .int .i64 b)]).run Try.prog w = .ok (.agg #[.int .i64 a, .int .i64 b]) w := run_build w _ _ _ (by kernel_rfl)
theorem build_st1 (s : Nat × Nat) (w : World) : (Instr.buildSlice 79 1 #[(0, .agg (stC s).toArray)]).run Try.prog w = .ok (.slice (some ⟨w.heap.size, 0, none⟩) 1 1) (w.alloc (.cells (stC s).toArray 78)) := by
  obtain ⟨a, b⟩ := s
  kernel_rfl
theorem build_st2 (s t : Nat × Nat) (w : World) : (Instr.buildSlice 79 2 #[(0, .agg (stC s).toArray), (1, .agg (stC t).toArray)]).run Try.prog w = .ok (.slice (some ⟨w.heap.size, 0, none⟩) 2 2) (w.alloc (.cells (stC s ++ stC t).toArray 78)) := by
  obtain ⟨a, b⟩ := s
  obtain ⟨c, d⟩ := t
  kernel_rfl
section
variable {w : World} {ops : Array Oper} {rest : List Oper} {a : Act} {Q : Exit → Act → World → Prop} {dst : Option Tmp} {ty : TypeId} {pos : String} {aft : Array Edge} {x y : Operand}
theorem wpList_build_pair0 (h : wpList Try.prog ops Q rest (a.put dst (.agg pairZ.toArray)) w) : wpList Try.prog ops Q (⟨dst, .build 29 #[], ty, pos, aft, none⟩ :: rest) a w := by
  refine wpList_run rfl ?_ h
  simp only [execOp, Sem.run_bind]
  rw [show (#[].map fun (p : Nat × Operand) => (p.1, a.eval p.2)) = #[] from by simp, build_pair0]
  rfl
theorem wpList_build_pair {A1 A2 : Option Addr} {n1 c1 n2 c2 : Nat} (hx : a.eval x = .slice A1 n1 c1) (hy : a.eval y = .slice A2 n2 c2) (h : wpList Try.prog ops Q rest (a.put dst (.agg #[.slice A1 n1 c1, .slice A2 n2 c2])) w) :
    wpList Try.prog ops Q (⟨dst, .build 29 #[(0, x), (1, y)], ty, pos, aft, none⟩ :: rest) a w := by
  refine wpList_run rfl ?_ h
  simp only [execOp, List.map_toArray, List.map_cons, List.map_nil, hx, hy, Sem.run_bind]
  rw [build_pair]
  rfl
theorem wpList_build_st1 (s : Nat × Nat) (hx : a.eval y = .agg (stC s).toArray) (h : wpList Try.prog ops Q rest (a.put dst (.slice (some ⟨w.heap.size, 0, none⟩) 1 1)) (w.alloc (.cells (stC s).toArray 78))) :
    wpList Try.prog ops Q (⟨dst, .buildSlice 79 1 #[(0, y)], ty, pos, aft, none⟩ :: rest) a w := by
  refine wpList_run rfl ?_ h
  simp only [execOp, List.map_toArray, List.map_cons, List.map_nil, hx, Sem.run_bind]
  rw [build_st1]
  rfl
theorem wpList_build_st2 (s t : Nat × Nat) (hx : a.eval x = .agg (stC s).toArray) (hy : a.eval y = .agg (stC t).toArray) (h : wpList Try.prog ops Q rest (a.put dst (.slice (some ⟨w.heap.size, 0, none⟩) 2 2)) (w.alloc (.cells (stC s ++ stC t).toArray 78))) :
    wpList Try.prog ops Q (⟨dst, .buildSlice 79 2 #[(0, x), (1, y)], ty, pos, aft, none⟩ :: rest) a w := by
  refine wpList_run rfl ?_ h
  simp only [execOp, List.map_toArray, List.map_cons, List.map_nil, hx, hy, Sem.run_bind]
  rw [build_st2]
  rfl
end
theorem results_pair {f : Func} {t u : Nat} (hf : f.results = #[.cell t 29, .tmp u]) (tmps : Array Value) (w : World) (b : Nat) (x y : Value) (ht : tmps.getD t undef = .pointer (some ⟨b, 0, none⟩)) (hb : Bk w b 29 [x, y]) :
    (results f tmps).run Try.prog w = .ok (.tuple #[.agg #[x, y], tmps.getD u undef]) w := by
  have ht' : tmps[t]?.getD undef = .pointer (some ⟨b, 0, none⟩) := by simpa using ht
  have hl := run_loadVar_row (P := Try.prog) w b 29 29 [x, y].toArray (0, 0) _ hb Try.underlying29 rfl (by simpa using pairSize x y)
  simp [results, hf, ht', asAddr, hl]
def LRes (c : Int) (la lb : List (List UInt8)) (w : World) (e : Ending) (w' : World) : Prop :=
  ∃ v1 v2 l1 l2 ok, e = .returned (.tuple #[.agg #[v1, v2], .bool ok]) ∧ RL w' v1 l1 ∧ RL w' v2 l2 ∧ LOut c la lb l1 l2 ok ∧ w.grownBy w' none
def slstφ (b9 f t n cA cB m2 : Nat) (A1 A2 : Option Addr) (xs ys : List (List UInt8)) (i : Nat) (v : Value) (w : World) : Prop := match i with
  | 0 => v = .slice A1 n cA
  | 1 => v = .pointer (some ⟨b9, 0, none⟩)
  | 2 => v = .int .i64 (f : Int)
  | 3 => v = .pointer (some ⟨b9, 1, none⟩)
  | 4 => v = .int .i64 (t : Int)
  | 5 => ∃ A2 c2, v = .slice A2 m2 c2 ∧ RLL w (.slice A2 m2 c2) xs
  | 6 => v = .slice A2 n cB
  | 7 => v = .pointer (some ⟨b9, 0, none⟩)
  | 8 => v = .int .i64 (f : Int)
  | 9 => v = .pointer (some ⟨b9, 1, none⟩)
  | 10 => v = .int .i64 (t : Int)
  | 11 => ∃ A2 c2, v = .slice A2 m2 c2 ∧ RLL w (.slice A2 m2 c2) ys
  | 12 => ∃ A2 c2, v = .slice A2 m2 c2 ∧ RLL w (.slice A2 m2 c2) xs
  | _ => True
theorem slstφ_gr (b9 f t n cA cB m2 : Nat) (A1 A2 : Option Addr) (xs ys : List (List UInt8)) : ∀ i v w w', slstφ b9 f t n cA cB m2 A1 A2 xs ys i v w → Gr w w' → slstφ b9 f t n cA cB m2 A1 A2 xs ys i v w' := by
  intro i v w w' h hg
  match i with
  | 0 => exact h
  | 1 => exact h
  | 2 => exact h
  | 3 => exact h
  | 4 => exact h
  | 5 => exact by obtain ⟨A2, c2, e, h⟩ := h; exact ⟨A2, c2, e, RLL.gr h hg⟩
  | 6 => exact h
  | 7 => exact h
  | 8 => exact h
  | 9 => exact h
  | 10 => exact h
  | 11 => exact by obtain ⟨A2, c2, e, h⟩ := h; exact ⟨A2, c2, e, RLL.gr h hg⟩
  | 12 => exact by obtain ⟨A2, c2, e, h⟩ := h; exact ⟨A2, c2, e, RLL.gr h hg⟩
  | i + 13 => exact h

set_option maxHeartbeats 8000000 in
set_option maxRecDepth 100000 in
theorem lists_any (c : Int) (va vb : Value) (la lb : List (List UInt8)) (w : World) (ha : RLL w va la) (hb : RLL w vb lb) (hla : ∀ l ∈ la, l.length ≤ 1000000) (hlb : ∀ l ∈ lb, l.length ≤ 1000000) (hna : la.length ≤ 1000000) (hnb : lb.length ≤ 1000000) :
    Calls Try.prog 17 #[.int .i64 c, va, vb] w (LRes c la lb w) := by
  go_enter Try.func17, Try.ntmps17
  obtain ⟨W1, hW1⟩ : ∃ W1, W1 = w.alloc (.cells pairZ.toArray 29) := ⟨_, rfl⟩
  have b1 : Bk W1 w.heap.size 29 pairZ := by rw [hW1]; exact Bk.new w _ _
  have g1 : w.grownBy W1 none := by rw [hW1]; exact gb_alloc (gb_refl w none) _
  have z1 : W1.heap.size = w.heap.size + 1 := by rw [hW1, World.size_alloc]
  have ha1 := RLL.gr ha g1
  have hb1 := RLL.gr hb g1
  obtain ⟨vsa, hrda, hela⟩ := ha
  obtain ⟨A1, cA, rfl, hcA⟩ := Rd.form hrda
  obtain ⟨vsb, hrdb, helb⟩ := hb
  obtain ⟨A2, cB, rfl, hcB⟩ := Rd.form hrdb
  obtain ⟨n, hn⟩ : ∃ n, n = la.length := ⟨_, rfl⟩
  obtain ⟨n2, hn2⟩ : ∃ n2, n2 = lb.length := ⟨_, rfl⟩
  rw [← hn] at ha1 hna hcA ⊢
  rw [← hn2] at hb1 hnb hcB ⊢
  have HLA1 := Go.Lib.hid ha1
  have HLB1 := Go.Lib.hid hb1
  have HW := Go.Lib.hid hW1
  have HN := Go.Lib.hid hn
  have HN2 := Go.Lib.hid hn2
  have HB1 := Go.Lib.hid b1
  have HG1 := Go.Lib.hid g1
  have HZ1 := Go.Lib.hid z1
  have HA := Go.Lib.hid hla
  have HB := Go.Lib.hid hlb
  have HNI : Hid (n ≤ 1000000 ∧ n2 ≤ 1000000) := Go.Lib.hid ⟨hna, hnb⟩
  clear hrda hela hrdb helb hn hn2 hW1 b1 g1 z1 hla hlb ha1 hb1
  by_cases hnn : n = n2
  case neg =>
    have d1 : ((n : Int) != (n2 : Int)) = true := by simp; omega
    have b1 := HB1.out
    go_wp2_with ((with_reducible refine wpList_alloc_row (E := 29) pairZ infoPair ?_); rw [← HW.out])
    refine wp_scope_body ?_
    go_wp2_with (first
      | ((with_reducible refine wpList_build_pair0 ?_))
      | ((with_reducible refine wpList_store_bk (t := 29) w.heap.size 29 pairZ pairZ b1 (by kernel_rfl) (by kernel_rfl) pairZSize rfl pairZOne ?_); intro w5 h5 g5 z5))
    try go_frame
    refine bodyPost_ret (results_pair rfl _ _ w.heap.size (.slice none 0 0) (.slice none 0 0) rfl h5) rfl ?_
    exact ⟨_, _, [], [], _, rfl, RL.nil _, RL.nil _, .inl ⟨rfl, rfl, rfl, fun e => absurd e (by rw [← HN.out, ← HN2.out]; exact hnn)⟩, gb_trans_new HG1.out g5 (Nat.le_refl _)⟩
  case pos =>
    subst hnn
    have d1 : ((n : Int) != (n : Int)) = false := bne_self_eq_false _
    obtain ⟨R1, hR1⟩ : ∃ R1, rootH (sumC c) la = R1 := ⟨_, rfl⟩
    obtain ⟨R2, hR2⟩ : ∃ R2, rootH (sumC c) lb = R2 := ⟨_, rfl⟩
    have HR1 := Go.Lib.hid hR1
    have HR2 := Go.Lib.hid hR2
    clear hR1 hR2
    go_wp2_with ((with_reducible refine wpList_alloc_row (E := 29) pairZ infoPair ?_); rw [← HW.out])
    refine wp_scope_body ?_
    go_wp2_with fail
    refine (sroot_any c _ la _ HLA1.out HA.out (by rw [← HN.out]; exact hna)).mono ?_
    rintro e w2 ⟨rfl, g2⟩
    rw [HR1.out]
    go_frame
    go_wp2_with fail
    refine (sroot_any c _ lb _ (RLL.gr HLB1.out g2) HB.out (by rw [← HN2.out]; exact hna)).mono ?_
    rintro e w3 ⟨rfl, g3⟩
    rw [HR2.out]
    have q1 : ∀ w, (eqGuard .neq 34 (.tmp 23) (.tmp 26) (idv R1) (idv R2)).run Try.prog w = .ok () w := fun _ => run_eqGuard_id idEq R1 R2
    have g13 := gb_trans HG1.out (gb_trans g2 g3)
    have b3 := HB1.out.grown (gb_trans g2 g3) (by simp)
    by_cases hx : R1 = R2
    case neg =>
      have hxb : (R1.l == R2.l) = false := beq_ids hx
      have q2 : ∀ w, (binOp .neq 34 (idv R1) (idv R2)).run Try.prog w = .ok (.bool true) w := fun w => (run_neq_id (w := w) idEq R1 R2).trans (by rw [hxb]; rfl)
      clear hxb
      go_frame
      go_wp2_with (first
        | ((with_reducible refine wpList_build_pair0 ?_))
        | ((with_reducible refine wpList_store_bk (t := 29) w.heap.size 29 pairZ pairZ b3 (by kernel_rfl) (by kernel_rfl) pairZSize rfl pairZOne ?_); intro w5 h5 g5 z5))
      try go_frame
      refine bodyPost_ret (results_pair rfl _ _ w.heap.size (.slice none 0 0) (.slice none 0 0) rfl h5) rfl ?_
      exact ⟨_, _, [], [], _, rfl, RL.nil _, RL.nil _, .inl ⟨rfl, rfl, rfl, fun _ e => absurd e (by rw [HR1.out, HR2.out]; exact hx)⟩, gb_trans_new g13 g5 (Nat.le_refl _)⟩
    case pos =>
      subst hx
      have hxb : (R1.l == R1.l) = true := beq_self_eq_true _
      have q2 : ∀ w, (binOp .neq 34 (idv R1) (idv R1)).run Try.prog w = .ok (.bool false) w := fun w => (run_neq_id (w := w) idEq R1 R1).trans (by rw [hxb]; rfl)
      clear hxb
      go_frame
      go_wp2_with (first
        | ((with_reducible refine wpList_build_row (stC (0, n)) (fun w => by simp only [List.map_toArray, List.map_cons, List.map_nil]; exact build_str 0 (n : Int) w) ?_))
        | ((with_reducible refine wpList_build_st1 (y := .tmp 32) (0, n) (by kernel_rfl) ?_)))
      obtain ⟨b6, hb6⟩ : ∃ b6, b6 = w.heap.size := ⟨_, rfl⟩
      obtain ⟨W4, hW4⟩ : ∃ W4, W4 = w3.alloc (.cells (stC (0, n)).toArray 78) := ⟨_, rfl⟩
      have HO0 : Hid (Ow W1.heap.size W4 2 (.slice (some ⟨w3.heap.size, 0, none⟩) 1 1) 1 (stCs [(0, n)])) := Go.Lib.hid (by rw [hW4]; exact Ow.new w3 _ _ 2 1 (stC (0, n)) rfl (by decide) (Nat.le_trans g2.size g3.size))
      have g34 : w3.grownBy W4 none := by rw [hW4]; exact gb_alloc (gb_refl _ _) _
      have HG4 := Go.Lib.hid (gb_trans g13 g34)
      have HK4 := Go.Lib.hid (b3.grown g34 (by simp))
      have HLI : Hid (LInv (sumC c) la lb [(0, n)]) := Go.Lib.hid (by rw [HN.out]; exact LInv.start (by rw [← HN.out, ← HN2.out]) (by rw [HR1.out, HR2.out]))
      have gW14 := gb_trans (gb_trans g2 g3) g34
      have HGW := Go.Lib.hid gW14
      obtain ⟨b3', hb3'⟩ : ∃ b, b = w3.heap.size := ⟨_, rfl⟩
      have HRR : Hid (rootH (sumC c) la = rootH (sumC c) lb) := Go.Lib.hid (by rw [HR1.out, HR2.out])
      rw [← hW4, ← hb6, ← hb3']
      rw [← hb6] at HK4
      rw [← hb3'] at HO0
      have HB6 : Hid (b6 = w.heap.size) := Go.Lib.hid hb6
      clear hW4 g34 g13 g2 g3 b3 q1 q2 d1 hb6 hb3' gW14
      refine wp_label ?_
      iterate 4 go_step
      go_loopg [8] (costs [(0, n)]) (fun g v8 wr => ∃ (S : List (Nat × Nat)) (m : Nat) (A8 : Option Addr) (c8 : Nat), v8 = .slice A8 m c8 ∧ Hid (m = S.length) ∧ Hid (g = costs S) ∧ Hid (LInv (sumC c) la lb S) ∧ m ≤ 3000000 ∧ Hid (m + costs S ≤ 2 * n + 2) ∧ Hid (Ow W1.heap.size wr 2 (.slice A8 m c8) m (stCs S)) ∧ Hid (w.grownBy wr none) ∧ Hid (W1.grownBy wr none) ∧ Hid (Bk wr b6 29 pairZ))
      case atStart => exact ⟨[(0, n)], 1, _, 1, rfl, Go.Lib.hid rfl, Go.Lib.hid rfl, HLI, by decide, Go.Lib.hid (by simp [costs, cost]; omega), HO0, HG4, HGW, HK4⟩
      case round =>
        clear HO0 HG4 HGW HK4 HLI
        obtain ⟨S, m, A8, c8, rfl, HMS, HGK, HLI, hm3, HMC, HO, HG, HGW, HK⟩ := hrel
        obtain ⟨wo, rfl⟩ : ∃ wo : World, wo = wr := ⟨_, rfl⟩
        have hmn : m ≤ 2 * n + 1 := by
          have h1 := HMC.out
          have h2 := HMS.out
          cases S with
          | nil => simp at h2; omega
          | cons s S => have := cost_pos s; simp only [costs, List.map_cons, List.sum_cons] at h1; omega
        by_cases hm0 : m = 0
        · obtain rfl : S = [] := List.eq_nil_of_length_eq_zero (by rw [← HMS.out]; exact hm0)
          have hd : decide ((m : Int) > 0) = false := decide_eq_false (by omega)
          have hd' : decide (0 < m) = false := decide_eq_false (by omega)
          have b3 := HK.out
          clear hm0
          go_wp2_with (first
            | ((with_reducible refine wpList_build_pair0 ?_))
            | ((with_reducible refine wpList_store_bk (t := 29) b6 29 pairZ pairZ b3 (by kernel_rfl) (by kernel_rfl) pairZSize rfl pairZOne ?_); intro w5 h5 g5 z5))
          try go_frame
          refine bodyPost_ret (results_pair rfl _ _ b6 (.slice none 0 0) (.slice none 0 0) rfl h5) rfl ?_
          exact ⟨_, _, [], [], _, rfl, RL.nil _, RL.nil _, .inl ⟨rfl, rfl, rfl, fun _ _ => HLI.out.done⟩, gb_trans_new HG.out g5 (by rw [HB6.out]; exact Nat.le_refl _)⟩
        · obtain ⟨S', s, rfl⟩ : ∃ S' s, S = S' ++ [s] := by
            rcases List.eq_nil_or_concat S with h | ⟨S', s, h⟩
            · exact absurd (by rw [HMS.out, h]; rfl) hm0
            · exact ⟨S', s, by rw [h]; simp⟩
          obtain ⟨p, hp⟩ : ∃ p, p = S'.length := ⟨_, rfl⟩
          have hmp1 : m = p + 1 := by rw [HMS.out, hp]; simp
          have hmp : (m : Int) - 1 = (p : Int) := by omega
          obtain ⟨f, t⟩ := s
          obtain ⟨hft, htn, hrr⟩ := HLI.out.ok (f, t) (by simp)
          dsimp only at hft htn
          rw [← HN.out] at htn
          obtain ⟨m2, hm2⟩ : ∃ m2, m2 = t - f := ⟨_, rfl⟩
          obtain ⟨xs, hxs⟩ : ∃ xs, seg la (f, t) = xs := ⟨_, rfl⟩
          obtain ⟨ys, hys⟩ : ∃ ys, seg lb (f, t) = ys := ⟨_, rfl⟩
          have hxl : xs.length = m2 := by rw [← hxs, seg_len (by rw [← HN.out]; exact htn), hm2]
          have hyl : ys.length = m2 := by rw [← hys, seg_len (by rw [← HN2.out]; exact htn), hm2]
          have HSEG : Hid (seg la (f, t) = xs ∧ seg lb (f, t) = ys ∧ xs.length = m2 ∧ ys.length = m2) := Go.Lib.hid ⟨hxs, hys, hxl, hyl⟩
          obtain ⟨b8, o8, c8', he, hB8, hb8, hnc8, hr8, _⟩ := HO.out.at (by omega)
          injection he with hA _ hcc
          subst hA hcc
          have hrs := range_last hr8
          rw [← hp] at hrs
          have bx0 := Bk.new wo 78 (stC (0, 0))
          have hd : decide ((m : Int) > 0) = true := decide_eq_true (by omega)
          have hd' : decide (0 < m) = true := decide_eq_true (by omega)
          have hpI : (0 : Int) ≤ (p : Int) ∧ (p : Int) < (m : Int) ∧ (m : Int) ≤ (c8 : Int) := by omega
          have HPM : Hid (m = p + 1 ∧ p = S'.length) := Go.Lib.hid ⟨hmp1, hp⟩
          have HM2 := Go.Lib.hid hm2
          have HB9b : Hid (W1.heap.size ≤ wo.heap.size) := Go.Lib.hid HGW.out.size
          have hHO : Ow W1.heap.size wo 2 (.slice (some ⟨b8, o8, none⟩) p c8) p (stCs S') := by
            have h := HO.out.takeTo p (by omega)
            rw [hp, stCs_pop, ← hp] at h
            exact h
          have HO' := Go.Lib.hid hHO
          clear hr8 hxs hys hxl hyl hm0 hp hmp1 hm2 hHO hB8 hb8 hnc8 hrr
          go_upto_region 7 with (first
            | ((with_reducible refine wpList_load_range (x := .tmp 41) (t := 78) b8 (o8 + p * 2) (stC (f, t)) _ hrs (by kernel_rfl) Try.underlying78 rfl (strSize _) ?_))
            | ((with_reducible refine wpList_alloc_row (E := 78) (stC (0, 0)) infoStr ?_))
            | ((with_reducible refine wpList_store_bk (t := 78) wo.heap.size 78 (stC (0, 0)) (stC (f, t)) bx0 (by kernel_rfl) (by kernel_rfl) (strSize _) rfl (stC_one _) ?_); intro w5 h5 g5 z5))
          have g15 := gb_trans_new (gb_alloc (gb_refl wo none) _) g5 (Nat.le_refl _)
          obtain ⟨b9, hb9⟩ : ∃ b9, b9 = wo.heap.size := ⟨_, rfl⟩
          rw [← hb9] at h5 ⊢
          have HB9 := Go.Lib.hid h5
          have HG15 := Go.Lib.hid g15
          have HLA : Hid (RLL w5 (.slice A1 n cA) la ∧ la.length = n) := Go.Lib.hid ⟨RLL.gr HLA1.out (gb_trans HGW.out g15), HN.out.symm⟩
          have HLB : Hid (RLL w5 (.slice A2 n cB) lb ∧ lb.length = n) := Go.Lib.hid ⟨RLL.gr HLB1.out (gb_trans HGW.out g15), HN2.out.symm⟩
          have hftI : (0 : Int) ≤ (f : Int) ∧ (f : Int) ≤ (t : Int) ∧ (t : Int) ≤ (n : Int) := by omega
          clear hrs bx0 h5 g5 z5 g15 hd hd' hb9 hmp hpI
          refine wp_region_specs 13 [48, 49, 50, 51, 52, 53, 54, 55, 56, 57, 58, 59, 10] (by kernel_rfl) (by kernel_rfl) (slstφ b9 f t n cA cB m2 A1 A2 xs ys) (slstφ_gr b9 f t n cA cB m2 A1 A2 xs ys) ?step ?fin
          case step =>
            intro i_ o_ ho hi_ u w' hg hd
            rcases (by omega : i_ = 0 ∨ i_ = 1 ∨ i_ = 2 ∨ i_ = 3 ∨ i_ = 4 ∨ i_ = 5 ∨ i_ = 6 ∨ i_ = 7 ∨ i_ = 8 ∨ i_ = 9 ∨ i_ = 10 ∨ i_ = 11 ∨ i_ = 12) with rfl | rfl | rfl | rfl | rfl | rfl | rfl | rfl | rfl | rfl | rfl | rfl | rfl <;> obtain rfl := Option.some.inj ho <;>
              simp (decide := true) only [fillAct, List.mapIdx_cons, List.mapIdx_nil, Nat.reduceAdd, if_true, if_false, List.getD_cons_zero, List.getD_cons_succ]
            · clear hd ho
              go_wp2_with fail
              exact ⟨rfl, gb_refl _ _, rfl⟩
            · clear hd ho
              go_wp2_with fail
              exact ⟨rfl, gb_refl _ _, rfl⟩
            · have h1 : u 49 = .pointer (some ⟨b9, 0, none⟩) := hd 1 (by kernel_rfl)
              clear hd ho
              rw [h1]
              have c90 := (HB9.out.grown hg (by simp)).cellAt (i := 0) rfl
              go_wp2_with fail
              exact ⟨rfl, gb_refl _ _, rfl⟩
            · clear hd ho
              go_wp2_with fail
              exact ⟨rfl, gb_refl _ _, rfl⟩
            · have h3 : u 51 = .pointer (some ⟨b9, 1, none⟩) := hd 3 (by kernel_rfl)
              clear hd ho
              rw [h3]
              have c91 := (HB9.out.grown hg (by simp)).cellAt (i := 1) rfl
              go_wp2_with fail
              exact ⟨rfl, gb_refl _ _, rfl⟩
            · have h0 : u 48 = .slice A1 n cA := hd 0 (by kernel_rfl)
              have h2 : u 50 = .int .i64 (f : Int) := hd 2 (by kernel_rfl)
              have h4 : u 52 = .int .i64 (t : Int) := hd 4 (by kernel_rfl)
              clear hd ho
              rw [h0, h2, h4]
              obtain ⟨vs, hrd, hel⟩ := RLL.gr HLA.out.1 hg
              have hvl : vs.length = n := by have := Rd.length hrd; rw [HLA.out.2] at this; omega
              rw [HLA.out.2] at hrd
              go_wp2_with ((with_reducible refine wpList_cut (x := .tmp 48) Try.underlying22 (by kernel_rfl) hrd (by kernel_rfl) f t (.inr ⟨_, rfl, by kernel_rfl⟩) (.inr ⟨_, rfl, by kernel_rfl⟩) hft htn ?_); intro v9 hv9)
              have h9 : RdBB (fun b => b < w'.heap.size) w' v9 xs := by
                rw [← HSEG.out.1]; exact rdbb_of_seg hel hv9 hft htn HLA.out.2 hvl
              have hdl : xs.length = m2 := HSEG.out.2.2.1
              obtain ⟨vs2, hrd2, hel2⟩ := h9
              obtain ⟨A2, c2, rfl, hcc⟩ := Rd.form hrd2
              rw [hdl] at hrd2 ⊢
              exact ⟨rfl, gb_refl _ _, ⟨A2, c2, rfl, vs2, by rw [hdl]; exact hrd2, hel2⟩⟩
            · clear hd ho
              go_wp2_with fail
              exact ⟨rfl, gb_refl _ _, rfl⟩
            · clear hd ho
              go_wp2_with fail
              exact ⟨rfl, gb_refl _ _, rfl⟩
            · have h7 : u 55 = .pointer (some ⟨b9, 0, none⟩) := hd 7 (by kernel_rfl)
              clear hd ho
              rw [h7]
              have c90 := (HB9.out.grown hg (by simp)).cellAt (i := 0) rfl
              go_wp2_with fail
              exact ⟨rfl, gb_refl _ _, rfl⟩
            · clear hd ho
              go_wp2_with fail
              exact ⟨rfl, gb_refl _ _, rfl⟩
            · have h9 : u 57 = .pointer (some ⟨b9, 1, none⟩) := hd 9 (by kernel_rfl)
              clear hd ho
              rw [h9]
              have c91 := (HB9.out.grown hg (by simp)).cellAt (i := 1) rfl
              go_wp2_with fail
              exact ⟨rfl, gb_refl _ _, rfl⟩
            · have h6 : u 54 = .slice A2 n cB := hd 6 (by kernel_rfl)
              have h8 : u 56 = .int .i64 (f : Int) := hd 8 (by kernel_rfl)
              have h10 : u 58 = .int .i64 (t : Int) := hd 10 (by kernel_rfl)
              clear hd ho
              rw [h6, h8, h10]
              obtain ⟨vs, hrd, hel⟩ := RLL.gr HLB.out.1 hg
              have hvl : vs.length = n := by have := Rd.length hrd; rw [HLB.out.2] at this; omega
              rw [HLB.out.2] at hrd
              go_wp2_with ((with_reducible refine wpList_cut (x := .tmp 54) Try.underlying22 (by kernel_rfl) hrd (by kernel_rfl) f t (.inr ⟨_, rfl, by kernel_rfl⟩) (.inr ⟨_, rfl, by kernel_rfl⟩) hft htn ?_); intro v9 hv9)
              have h9 : RdBB (fun b => b < w'.heap.size) w' v9 ys := by
                rw [← HSEG.out.2.1]; exact rdbb_of_seg hel hv9 hft htn HLB.out.2 hvl
              have hdl : ys.length = m2 := HSEG.out.2.2.2
              obtain ⟨vs2, hrd2, hel2⟩ := h9
              obtain ⟨A2, c2, rfl, hcc⟩ := Rd.form hrd2
              rw [hdl] at hrd2 ⊢
              exact ⟨rfl, gb_refl _ _, ⟨A2, c2, rfl, vs2, by rw [hdl]; exact hrd2, hel2⟩⟩
            · have h5 : ∃ A2 c2, (u 53) = .slice A2 m2 c2 ∧ RLL w' (.slice A2 m2 c2) xs := hd 5 (by kernel_rfl)
              clear hd ho
              obtain ⟨A2, c2, e2, hl2⟩ := h5
              rw [e2]
              go_wp2_with fail
              exact ⟨rfl, gb_refl _ _, ⟨A2, c2, rfl, hl2⟩⟩
          case fin =>
            intro u w6 hg hφ
            obtain ⟨A5, c5, e53, hl5⟩ : ∃ A2 c2, (u 10) = .slice A2 m2 c2 ∧ RLL w6 (.slice A2 m2 c2) xs := hφ 12 (by omega)
            obtain ⟨A6, c6, e59, hl6⟩ : ∃ A2 c2, (u 59) = .slice A2 m2 c2 ∧ RLL w6 (.slice A2 m2 c2) ys := hφ 11 (by omega)
            simp (decide := true) only [fillAct, List.mapIdx_cons, List.mapIdx_nil, Nat.reduceAdd, if_true, if_false, List.drop_succ_cons, List.drop_zero]
            rw [e53, e59]
            clear hφ e53 e59
            obtain ⟨T1, hT1⟩ : ∃ T1, topH (sumC c) xs = T1 := ⟨_, rfl⟩
            obtain ⟨T2, hT2⟩ : ∃ T2, topH (sumC c) ys = T2 := ⟨_, rfl⟩
            obtain ⟨r, hr⟩ : ∃ r, (!(T1 == T2)) = r := ⟨_, rfl⟩
            have HT1 := Go.Lib.hid hT1
            have HT2 := Go.Lib.hid hT2
            have HXB : Hid ((∀ l ∈ xs, l.length ≤ 1000000) ∧ xs.length ≤ 1000000 ∧ (∀ l ∈ ys, l.length ≤ 1000000) ∧ ys.length ≤ 1000000) := Go.Lib.hid ⟨fun l h => HA.out l (by rw [← HSEG.out.1] at h; exact seg_mem h), by rw [HSEG.out.2.2.1]; have := HM2.out; omega, fun l h => HB.out l (by rw [← HSEG.out.2.1] at h; exact seg_mem h), by rw [HSEG.out.2.2.2]; have := HM2.out; omega⟩
            have HG6 := Go.Lib.hid (gb_trans HG15.out hg)
            have HB96 := Go.Lib.hid (HB9.out.grown hg (by simp))
            have HR := Go.Lib.hid hr
            clear hT1 hT2 hg
            cases r with
            | true =>
              have hb3 := HK.out
              go_wp2_with (first
                | (go_at_call 42; ((with_reducible refine (stop_any c (.slice A5 m2 c5) xs _ hl5 HXB.out.1 HXB.out.2.1).mono ?_); rintro e w7 ⟨v7, rfl, ho7, g7⟩; rw [HT1.out] at ho7; have hl6' := RLL.gr hl6 g7; obtain ⟨A7, c7, rfl⟩ := ho7.form))
                | (go_at_call 42; ((with_reducible refine (stop_any c (.slice A6 m2 c6) ys _ hl6' HXB.out.2.2.1 HXB.out.2.2.2).mono ?_); rintro e w8 ⟨v8, rfl, ho8, g8⟩; rw [HT2.out] at ho8; obtain ⟨A9, c9, rfl⟩ := ho8.form)
                   have hr7 : RdB (fun b => b < w8.heap.size) w8 (.slice A7 T1.length c7) T1 := (ho7.grown g8 (fun _ _ => by simp)).rd (fun b hb => Nat.lt_of_lt_of_le (ho7.lt hb).2 g8.size)
                   have hr8 : RdB (fun b => b < w8.heap.size) w8 (.slice A9 T2.length c9) T2 := ho8.rd (fun b hb => (ho8.lt hb).2)
                   have hb8 : Bk w8 b6 29 pairZ := hb3.grown (gb_trans (gb_trans HG6.out g7) g8) (by simp))
                | ((with_reducible refine wpList_conv_bs (x := .tmp 67) (v := .slice A7 T1.length c7) Try.underlying27 Try.underlying5 Try.underlying9 T1 (by kernel_rfl) hr7 ?_))
                | ((with_reducible refine wpList_conv_bs (x := .tmp 69) (v := .slice A9 T2.length c9) Try.underlying27 Try.underlying5 Try.underlying9 T2 (by kernel_rfl) hr8 ?_))
                | ((with_reducible refine wpList_neq_sv (x := .tmp 68) (y := .tmp 70) T1 T2 true HR.out (by kernel_rfl) (by kernel_rfl) ?_))
                | ((with_reducible refine wpList_build_pair (x := .tmp 72) (y := .tmp 73) (A1 := A7) (A2 := A9) (n1 := T1.length) (n2 := T2.length) (c1 := c7) (c2 := c9) (by kernel_rfl) (by kernel_rfl) ?_))
                | ((with_reducible refine wpList_store_bk (t := 29) b6 29 pairZ [.slice A7 T1.length c7, .slice A9 T2.length c9] hb8 (by kernel_rfl) (by kernel_rfl) (pairSize _ _) rfl (pairOne _ _ _ _ _ _) ?_); intro w9 h9 g9 z9))
              try go_frame
              refine bodyPost_ret (results_pair rfl _ _ b6 _ _ rfl h9) rfl ?_
              have hne : T1 ≠ T2 := fun e => by have := HR.out; rw [e] at this; simp at this
              have hd := HLI.out.differ (by rw [HSEG.out.1, HSEG.out.2.1, HT1.out, HT2.out]; exact hne)
              rw [HSEG.out.1, HSEG.out.2.1, HT1.out, HT2.out] at hd
              have hg8 := gb_trans (gb_trans (gb_trans HG.out HG6.out) g7) g8
              have hb6b : b6 < W1.heap.size := by rw [HB6.out, HZ1.out]; omega
              refine ⟨_, _, T1, T2, _, rfl, ?_, ?_, .inr ⟨rfl, by rw [← HN.out, ← HN2.out], HRR.out, hd.1, hne, hd.2, by rw [← HT1.out]; exact topH_len c HXB.out.1, by rw [← HT2.out]; exact topH_len c HXB.out.2.2.1⟩, gb_trans_new hg8 g9 (by rw [HB6.out]; exact Nat.le_refl _)⟩
              · have hb7 : ∀ b, (Value.slice A7 T1.length c7).ownBlock = some b → b ≠ b6 := fun b hb => by have h1 := (ho7.lt hb).1; have := HG6.out.size; have := HB9b.out; omega
                exact ((ho7.grown g8 (fun _ _ => by simp)).grown g9 (fun b hb e => hb7 b hb (Option.some.inj e).symm)).rd (fun b hb => Nat.lt_of_lt_of_le (ho7.lt hb).2 (Nat.le_trans g8.size g9.size))
              · have hb7 : ∀ b, (Value.slice A9 T2.length c9).ownBlock = some b → b ≠ b6 := fun b hb => by have h1 := (ho8.lt hb).1; have := HG6.out.size; have := HB9b.out; have := g7.size; omega
                exact (ho8.grown g9 (fun b hb e => hb7 b hb (Option.some.inj e).symm)).rd (fun b hb => Nat.lt_of_lt_of_le (ho8.lt hb).2 g9.size)
            | false =>
              have HTE : Hid (T1 = T2) := Go.Lib.hid (by have := HR.out; simpa using this)
              have hg12 : ∀ (w8 : World), wo.grownBy w8 none → Hid (LInv (sumC c) la lb (S' ++ [(f, t)])) → True := fun _ _ _ => trivial
              clear hg12
              by_cases hs : m2 < 2
              · have hd3 : decide ((m2 : Int) < 2) = true := decide_eq_true (by omega)
                have hd3' : decide (m2 < 2) = true := decide_eq_true hs
                go_wp2_with (first
                | (go_at_call 42; ((with_reducible refine (stop_any c (.slice A5 m2 c5) xs _ hl5 HXB.out.1 HXB.out.2.1).mono ?_); rintro e w7 ⟨v7, rfl, ho7, g7⟩; rw [HT1.out] at ho7; have hl6' := RLL.gr hl6 g7; obtain ⟨A7, c7, rfl⟩ := ho7.form))
                | (go_at_call 42; ((with_reducible refine (stop_any c (.slice A6 m2 c6) ys _ hl6' HXB.out.2.2.1 HXB.out.2.2.2).mono ?_); rintro e w8 ⟨v8, rfl, ho8, g8⟩; rw [HT2.out] at ho8; obtain ⟨A9, c9, rfl⟩ := ho8.form)
                   have hr7 : RdB (fun b => b < w8.heap.size) w8 (.slice A7 T1.length c7) T1 := (ho7.grown g8 (fun _ _ => by simp)).rd (fun b hb => Nat.lt_of_lt_of_le (ho7.lt hb).2 g8.size)
                   have hr8 : RdB (fun b => b < w8.heap.size) w8 (.slice A9 T2.length c9) T2 := ho8.rd (fun b hb => (ho8.lt hb).2)
                   have hb98 := HB96.out.grown (gb_trans g7 g8) (by simp))
                | ((with_reducible refine wpList_conv_bs (x := .tmp 67) (v := .slice A7 T1.length c7) Try.underlying27 Try.underlying5 Try.underlying9 T1 (by kernel_rfl) hr7 ?_))
                | ((with_reducible refine wpList_conv_bs (x := .tmp 69) (v := .slice A9 T2.length c9) Try.underlying27 Try.underlying5 Try.underlying9 T2 (by kernel_rfl) hr8 ?_))
                | ((with_reducible refine wpList_neq_sv (x := .tmp 68) (y := .tmp 70) T1 T2 false HR.out (by kernel_rfl) (by kernel_rfl) ?_)))
                have hg8 := gb_trans (gb_trans HG6.out g7) g8
                go_roundg (costs S')
                case measure => rw [HGK.out]; exact costs_small
                case rel => exact ⟨S', p, _, c8, rfl, Go.Lib.hid HPM.out.2, Go.Lib.hid rfl, Go.Lib.hid (HLI.out.small (by rw [HSEG.out.1, HSEG.out.2.1, HT1.out, HT2.out]; exact HTE.out) (by rw [HSEG.out.1, HSEG.out.2.2.1]; exact hs)), by have := HPM.out.1; omega, Go.Lib.hid (by have := HMC.out; have := HPM.out.1; have := costs_small (S := S') (s := (f, t)); omega), Go.Lib.hid (HO'.out.grown hg8 (fun _ _ => by simp)), Go.Lib.hid (gb_trans HG.out hg8), Go.Lib.hid (gb_trans HGW.out hg8), Go.Lib.hid (HK.out.grown hg8 (by simp))⟩
              · obtain ⟨k, hk⟩ : ∃ k, k = half m2 := ⟨_, rfl⟩
                have hm22 : 2 ≤ m2 := by omega
                have hk1 : 1 ≤ k := by rw [hk]; exact half_pos m2
                have hk2 : k < m2 := by rw [hk]; exact half_lt hm22
                have hd3 : decide ((m2 : Int) < 2) = false := decide_eq_false (by omega)
                have hd3' : decide (m2 < 2) = false := decide_eq_false hs
                have hhalf : ∀ w : World, Calls Try.prog 43 #[.int .i64 (m2 : Int)] w fun e w' => e = .returned (.int .i64 (k : Int)) ∧ w' = w := fun w => by rw [hk]; exact shalf_any m2 hm22 (by have := HM2.out; omega) w
                have HKK := Go.Lib.hid hk
                have hfk : f + k < t := by have := HM2.out; omega
                have hfkI : (0 : Int) ≤ (k : Int) ∧ (k : Int) ≤ 1000000 ∧ (f : Int) + (k : Int) ≤ 1000000 := by omega
                clear hk
                go_upto_region 13 with (first
                | (go_at_call 42; ((with_reducible refine (stop_any c (.slice A5 m2 c5) xs _ hl5 HXB.out.1 HXB.out.2.1).mono ?_); rintro e w7 ⟨v7, rfl, ho7, g7⟩; rw [HT1.out] at ho7; have hl6' := RLL.gr hl6 g7; obtain ⟨A7, c7, rfl⟩ := ho7.form))
                | (go_at_call 42; ((with_reducible refine (stop_any c (.slice A6 m2 c6) ys _ hl6' HXB.out.2.2.1 HXB.out.2.2.2).mono ?_); rintro e w8 ⟨v8, rfl, ho8, g8⟩; rw [HT2.out] at ho8; obtain ⟨A9, c9, rfl⟩ := ho8.form)
                   have hr7 : RdB (fun b => b < w8.heap.size) w8 (.slice A7 T1.length c7) T1 := (ho7.grown g8 (fun _ _ => by simp)).rd (fun b hb => Nat.lt_of_lt_of_le (ho7.lt hb).2 g8.size)
                   have hr8 : RdB (fun b => b < w8.heap.size) w8 (.slice A9 T2.length c9) T2 := ho8.rd (fun b hb => (ho8.lt hb).2)
                   have hb98 := HB96.out.grown (gb_trans g7 g8) (by simp))
                | ((with_reducible refine wpList_conv_bs (x := .tmp 67) (v := .slice A7 T1.length c7) Try.underlying27 Try.underlying5 Try.underlying9 T1 (by kernel_rfl) hr7 ?_))
                | ((with_reducible refine wpList_conv_bs (x := .tmp 69) (v := .slice A9 T2.length c9) Try.underlying27 Try.underlying5 Try.underlying9 T2 (by kernel_rfl) hr8 ?_))
                | ((with_reducible refine wpList_neq_sv (x := .tmp 68) (y := .tmp 70) T1 T2 false HR.out (by kernel_rfl) (by kernel_rfl) ?_))
                | (go_at_call 43; ((with_reducible refine (hhalf _).mono ?_); rintro e w9 ⟨rfl, rfl⟩)))
                have hg8 := gb_trans (gb_trans HG6.out g7) g8
                have c90 := hb98.cellAt (i := 0) rfl
                have c91 := hb98.cellAt (i := 1) rfl
                dsimp only at c90 c91
                have ho1 := HO'.out.grown hg8 (fun _ _ => by simp)
                obtain ⟨F, hF⟩ : ∃ F, F = f + k := ⟨_, rfl⟩
                have hFI : (f : Int) + (k : Int) = (F : Int) := by omega
                have HF := Go.Lib.hid hF
                have HG8 := Go.Lib.hid hg8
                have ho5 := ho1.alloc (.cells (stC (F, t) ++ stC (f, F)).toArray 78)
                have hs5 : Src Try.prog 2 79 (.slice (some ⟨w9.heap.size, 0, none⟩) 2 2) 2 (stC (F, t) ++ stC (f, F)) (w9.alloc (.cells (stC (F, t) ++ stC (f, F)).toArray 78)) := src_new (P := Try.prog) Try.underlying79 w9 78 2 2 (stC (F, t) ++ stC (f, F)) rfl (by
                  intro u hu
                  rcases List.mem_append.1 hu with hu | hu
                  · exact stC_one _ u hu
                  · exact stC_one _ u hu)
                have hB5 : W1.heap.size ≤ (w9.alloc (.cells (stC (F, t) ++ stC (f, F)).toArray 78)).heap.size := by rw [World.size_alloc]; have := hg8.size; have := HB9b.out; omega
                have h63 : p + 2 ≤ maxLen := by simp only [maxLen]; have := HPM.out.1; have := HNI.out.1; omega
                have hby : (p + 2) * 16 ≤ 140737488355328 := by have := HPM.out.1; have := HNI.out.1; omega
                clear hF hg8 hd3 hd3' hhalf ho1
                go_wp2_with (first
                  | ((with_reducible refine wpList_build_row (stC (F, t)) (fun w => by simp only [List.map_toArray, List.map_cons, List.map_nil]; exact build_str (F : Int) (t : Int) w) ?_))
                  | ((with_reducible refine wpList_build_row (stC (f, F)) (fun w => by simp only [List.map_toArray, List.map_cons, List.map_nil]; exact build_str (f : Int) (F : Int) w) ?_))
                  | ((with_reducible refine wpList_build_st2 (x := .tmp 89) (y := .tmp 96) (F, t) (f, F) (by kernel_rfl) (by kernel_rfl) ?_))
                  | ((with_reducible refine wpList_append_ow (s := .tmp 82) (x := .tmp 97) (v := .slice (some ⟨b8, o8, none⟩) p c8) (y := .slice (some ⟨w9.heap.size, 0, none⟩) 2 2) (by kernel_rfl) (by kernel_rfl) Try.underlying79 okStr ho5 hs5 hB5 h63 hby ?_); intro v10 w10 ho10 hg10 hb10; obtain ⟨A10, c10, rfl⟩ := ho10.form))
                have hgN := gb_alloc (gb_refl w9 none) (.cells (stC (F, t) ++ stC (f, F)).toArray 78)
                have hgA := gb_trans (gb_trans HGW.out HG8.out) hgN
                have hg1 := Ow.gb hgA ho5 (Nat.le_refl _) hg10
                have hg0 := Ow.gb (gb_trans (gb_trans HG.out HG8.out) hgN) ho5 HG1.out.size hg10
                have hb6b : b6 < W1.heap.size := by rw [HB6.out, HZ1.out]; omega
                have hbk : Bk w10 b6 29 pairZ := ((HK.out.grown HG8.out (by simp)).grown hgN (by simp)).grown hg10 (fun e => by
                  have := (ho5.lt (b := b6) e.symm).1; omega)
                have hst : stCs S' ++ (stC (F, t) ++ stC (f, F)) = stCs (S' ++ [(F, t), (f, F)]) := by rw [stCs_append, stCs_two]
                rw [hst] at ho10
                have hcb : costs (S' ++ [(F, t), (f, F)]) < costs (S' ++ [(f, t)]) := by
                  rw [HF.out]; exact costs_big (s := (f, t)) hk1 hfk
                go_roundg (costs (S' ++ [(F, t), (f, F)]))
                case measure => rw [HGK.out]; exact hcb
                case rel => exact ⟨S' ++ [(F, t), (f, F)], p + 2, _, c10, rfl, Go.Lib.hid (by rw [List.length_append, ← HPM.out.2]; rfl), Go.Lib.hid rfl, Go.Lib.hid (by
                  rw [HF.out]
                  exact HLI.out.big (n := m2) (k := k) (by rw [HSEG.out.1, HSEG.out.2.1, HT1.out, HT2.out]; exact HTE.out) (by rw [HSEG.out.1, HSEG.out.2.2.1]) hm22 HKK.out), by have := HPM.out.1; have := HNI.out.1; omega, Go.Lib.hid (by have := HMC.out; have := HPM.out.1; omega), Go.Lib.hid ho10, Go.Lib.hid hg0, Go.Lib.hid hg1, Go.Lib.hid hbk⟩
end Go.Proofs.Ytajgklomcapboaa
