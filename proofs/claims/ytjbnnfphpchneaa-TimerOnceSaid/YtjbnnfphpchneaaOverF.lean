import Derived.Test.YtjbnnfphpchneaaOver
import Derived.Shelf.Abstract
/- scrivenerlaw15.over: the rounds and steps of the timers that are over. -/
namespace Go.Proofs.Ytjbnnfphpchneaa
open Go.RowKit Go.Shelf Sc
theorem run_append_two {P : Program} {B k n m by_ : Nat} {w : World} {v x : Value} {cs news : List Value} {t tx ty e : TypeId} (ht : P.underlying t = some (.slice e)) (hi : InfoOk P e k by_) (ho : Ow B w k v n cs) (hs : Src P k tx x m news w) (hB : B ≤ w.heap.size) (h63 : n + m ≤ maxLen) (hby : (n + m) * by_ ≤ 140737488355328) (hm : 0 < m) (hk : 0 < k) :
    ∃ v' w', (Builtin.append_ #[t, tx] ty #[v, x]).run P w = .ok v' w' ∧ Ow B w' k v' (n + m) (cs ++ news) ∧ ((w.grownBy w' none ∧ v'.ownBlock = some w.heap.size) ∨ (w.grownBy w' v.ownBlock ∧ v'.ownBlock = v.ownBlock ∧ ∀ b, v.ownBlock = some b → ∃ j, (w.cell? ⟨b, j, none⟩).isSome = true)) := by
  obtain ⟨A, c, rfl⟩ := ho.form
  rcases Nat.lt_or_ge c (n + m) with hc | hc
  · obtain ⟨c', w', hr, h1, h2⟩ := run_append_grow_ow (ty := ty) ht hi ho hs hB h63 hby hc
    exact ⟨_, w', hr, h1, .inl ⟨h2, rfl⟩⟩
  · obtain ⟨h1, A', c', he, h2, h3, h4, h5⟩ := id ho
    injection he with e1 _ e2
    subst e1 e2
    cases A with
    | none => have := h4 rfl; omega
    | some ad =>
      obtain ⟨b, o, rfl, hBb, hlt, hcc, hr'⟩ := h5 ad rfl
      obtain ⟨hr, h6⟩ := run_append_room_ow (P := P) (ty := ty) ht hi b o ho hs hc
      refine ⟨_, _, hr, h6, .inr ⟨gb_setCells b _ _ w, rfl, fun b' hb' => ?_⟩⟩
      cases hb'
      exact ⟨o + 0, (hcc 0 (Nat.mul_pos (by omega) hk)).1⟩
theorem wpListIn_append_two {F : Fence} {nn : Nat} {P : Program} {B k n m by_ : Nat} {w : World} {v y : Value} {cs news : List Value} {t tx e : TypeId} {ops : Array Oper} {rest : List Oper} {a : Act} {Q : Exit → Act → World → Prop} {dst : Option Tmp} {ty : TypeId} {pos : String} {aft : Array Edge} {s x : Operand}
    (hs : a.eval s = v) (hx : a.eval x = y) (ht : P.underlying t = some (.slice e)) (hi : InfoOk P e k by_) (ho : Ow B w k v n cs) (hsrc : Src P k tx y m news w)
    (hB : B ≤ w.heap.size) (h63 : n + m ≤ maxLen) (hby : (n + m) * by_ ≤ 140737488355328) (hm : 0 < m) (hk : 0 < k)
    (h : ∀ v' w', Ow B w' k v' (n + m) (cs ++ news) → ((w.grownBy w' none ∧ v'.ownBlock = some w.heap.size) ∨ (w.grownBy w' v.ownBlock ∧ v'.ownBlock = v.ownBlock ∧ ∀ b, v.ownBlock = some b → ∃ j, (w.cell? ⟨b, j, none⟩).isSome = true)) → wpListIn F nn P ops Q rest (a.put dst v') w') :
    wpListIn F nn P ops Q (⟨dst, .call { callee := .builtin .append, args := #[s, x], argTypes := #[t, tx] }, ty, pos, aft, none⟩ :: rest) a w := by
  obtain ⟨v', w', hr, h1, h2⟩ := run_append_two (ty := ty) ht hi ho hsrc hB h63 hby hm hk
  refine wpListIn_builtin ?_ (h v' w' h1 h2)
  simp only [execOp, resolve, invoke, builtin, Sem.run_bind, Sem.run_pure, Result.andThen_ok, List.map_toArray, List.map_cons, List.map_nil, hs, hx, hr]
/-- Behind an append: what is no row of cells is as it was. -/
theorem keeps_append {B : Nat} {W w' : World} {v v' : Value} (h : (W.grownBy w' none ∧ v'.ownBlock = some W.heap.size) ∨ (W.grownBy w' v.ownBlock ∧ v'.ownBlock = v.ownBlock ∧ ∀ b, v.ownBlock = some b → ∃ j, (W.cell? ⟨b, j, none⟩).isSome = true)) : KeepsFrom B W w' := by
  rcases h with ⟨h, _⟩ | ⟨h, _, hc⟩
  · exact KeepsFrom.of_grownBy h (fun j e => by cases e)
  · refine ⟨h.size, fun k o _ hk ho => ?_⟩
    refine (h.block k (Array.getElem?_eq_some_iff.1 hk).1 (fun e => ?_)).trans hk
    obtain ⟨j, hj⟩ := hc k e.symm
    unfold World.cell? at hj
    dsimp only at hj
    rw [hk] at hj
    cases o <;> simp_all [Obj.isCells]
theorem Ow.weaken {B B' k n : Nat} {w : World} {v : Value} {cs : List Value} (h : Ow B w k v n cs) (hB : B' ≤ B) : Ow B' w k v n cs := by
  obtain ⟨h1, A, c, e, h2, h3, h4, h5⟩ := h
  exact ⟨h1, A, c, e, h2, h3, h4, fun ad had => by obtain ⟨b, o, e1, h6, h7⟩ := h5 ad had; exact ⟨b, o, e1, Nat.le_trans hB h6, h7⟩⟩
theorem calls_marks {P : Program} {f : FuncId} {fn : Func} {c : Code} {args : Array Value} {w : World} {R : Ending → World → Prop}
    (hf : P.funcs[f]? = some fn) (hb : fn.body = some c)
    (h : c.wp P (bodyPostM Fence.wide 0 P fn R) { tmps := args ++ Array.replicate (fn.ntmps - args.size) undef, defers := [] } w) : Calls P f args w R :=
  callsIn_wide.1 (callsIn_of_wp_marks hf hb trivial (wpIn_wide.2 h) rfl)
attribute [local go_sem] Oper.semAt_some
theorem okPr : InfoOk Try.prog 33 2 16 := by unfold InfoOk; kernel_rfl
theorem build_pr (a b : Int) (w : World) : (Instr.build 33 #[(0, .int .i64 a), (1, .int .i64 b)]).run Try.prog w = .ok (.agg (prC (a, b)).toArray) w := run_build w _ _ _ (by kernel_rfl)
theorem build_pr1 (p : Pr) (w : World) : (Instr.buildSlice 30 1 #[(0, .agg (prC p).toArray)]).run Try.prog w = .ok (.slice (some ⟨w.heap.size, 0, none⟩) 1 1) (w.alloc (.cells (prC p).toArray 33)) := by
  obtain ⟨a, b⟩ := p
  kernel_rfl
theorem wpListIn_build_pr {F : Fence} {nn : Nat} {w : World} {ops : Array Oper} {rest : List Oper} {a : Act} {Q : Exit → Act → World → Prop} {dst : Option Tmp} {ty : TypeId} {pos : String} {aft : Array Edge} {y : Operand} (p : Pr) (hx : a.eval y = .agg (prC p).toArray)
    (h : wpListIn F nn Try.prog ops Q rest (a.put dst (.slice (some ⟨w.heap.size, 0, none⟩) 1 1)) (w.alloc (.cells (prC p).toArray 33))) :
    wpListIn F nn Try.prog ops Q (⟨dst, .buildSlice 30 1 #[(0, y)], ty, pos, aft, none⟩ :: rest) a w := by
  refine wpListIn_run rfl (by intro c h; cases h) (by intro c h; cases h) ?_ h
  simp only [execOp, List.map_toArray, List.map_cons, List.map_nil, hx, Sem.run_bind]
  rw [build_pr1]
  rfl
def ovA (bC : Nat) (x : Pr) (a : Act) : Prop := ∃ u0 u1 u2 u6 u7 u8 u9 u10 u11 u12 u13 u14 u15 u16, a = { tmps := #[u0, u1, u2, .pointer (some ⟨bC, 0, none⟩), .int .i64 x.1, .int .i64 x.2, u6, u7, u8, u9, u10, u11, u12, u13, u14, u15, u16], defers := [] }
set_option maxHeartbeats 4000000 in
theorem over_any {B r : Nat} {n0 : Int} {L : List Due} {lv : Value} (w : World) (hT : Tm w B r n0 L lv) (hL : L.length ≤ 1000) (hn : 0 ≤ n0 ∧ n0 ≤ 1000000) (hB : B ≤ w.heap.size) :
    Calls Try.prog 10 #[.pointer (some ⟨r, 0, none⟩)] w fun e w' => ∃ ov lv', e = .returned ov ∧ Tm w' B r (n0 + 1) (leftOf (n0 + 1) L) lv' ∧
      Ow w.heap.size w' 2 ov (overOf (n0 + 1) L).length (prCs ((overOf (n0 + 1) L).map (·.2))) ∧ Ch (fun k => k = r ∨ lv.ownBlock = some k) w w' ∧ lv'.ownBlock = lv.ownBlock := by
  refine calls_marks Try.func10 rfl ?_
  simp only [Try.ntmps10, List.size_toArray, List.length_cons, List.length_nil, Nat.reduceAdd, Nat.reduceSub, Array.replicate_succ, Array.replicate_zero, List.push_toArray, List.append_toArray, List.nil_append, List.cons_append]
  obtain ⟨W1, hW1⟩ : ∃ W1, W1 = w.alloc (.cells #[.slice none 0 0] 30) := ⟨_, rfl⟩
  have g1 : w.grownBy W1 none := by rw [hW1]; exact gb_alloc (gb_refl w none) _
  have bC1 : Bk W1 w.heap.size 30 [.slice none 0 0] := by rw [hW1]; exact Bk.new w _ [.slice none 0 0]
  have z1 : W1.heap.size = w.heap.size + 1 := by rw [hW1, World.size_alloc]
  have hT1 := hT.gr g1
  have hB1 : B ≤ W1.heap.size := by omega
  have hrw := hT.1.lt
  have hlw : ∀ b, lv.ownBlock = some b → b < w.heap.size := fun b hb => (hT.2.1.lt hb).2
  obtain ⟨bC, hbC⟩ : ∃ bC, bC = w.heap.size := ⟨_, rfl⟩
  rw [← hbC] at bC1
  have HW1 := Go.Lib.hid hW1
  have HBC := Go.Lib.hid hbC
  clear hW1 hbC
  go_wp2_with (go_at_call 12; (rw [← HW1.out]; (with_reducible refine (tick_any _ hT1 hL hn hB1).mono ?_); rintro e W0 ⟨bO, ov1, lv1, rfl, hbO, hT0, hBO, hO0, hov, hC0, hown⟩))
  rw [← HBC.out]
  obtain ⟨O, hO⟩ : ∃ O, O = overOf (n0 + 1) L := ⟨_, rfl⟩
  rw [← hO] at hO0
  obtain ⟨A, c, rfl⟩ := hO0.form
  have hbCW : bC < W1.heap.size := by rw [HBC.out]; omega
  have hCs := hC0.size
  have bC0 : Bk W0 bC 30 [.slice none 0 0] := hC0.bk bC1 (fun h => by
    rcases h with h | h
    · rw [HBC.out] at h; omega
    · have := hlw _ h; rw [HBC.out] at this; omega)
  have hbC0 : bC < W0.heap.size := by omega
  have hrd : Rd (fun b => (Value.slice A O.length c).ownBlock = some b) W0 3 (.slice A O.length c) O.length (dueCs O) := hO0.rd (fun b hb => hb)
  have hbOl := hBO.lt
  have hOl : O.length ≤ 1000000 := by
    have : O.length ≤ L.length := by rw [hO]; exact List.length_filter_le _ _
    omega
  have hseq := tick_seq bO A O.length c O (fun b => (Value.slice A O.length c).ownBlock = some b) (fun k => k = bC ∨ W0.heap.size ≤ k) W0 hBO (by intro h; rcases h with h | h <;> omega) hrd rfl (fun b hb => ⟨fun h => by
    have h1 := (hov b hb).1
    have h2 := (hO0.lt hb).2
    rcases h with h | h <;> omega, (hO0.lt hb).2⟩) hOl
  clear hrd bC1 z1 hBO hO0 hT1 hov hbOl
  refine (wpIn_wide (n := 0)).1 (range_law (gf := 20) (lb := #[.pointer (some ⟨bO, 0, none⟩)]) rfl (enters_of Try.func20 (by kernel_rfl) rfl)
    hseq (Below.refl _ _) (fun _ => rfl) (OvI 30 W0 bC) (fun _ _ _ _ => False)
    (fun x a _ => ovA bC x a)
    (OvI.abides hbC0) (fun _ => ⟨fun h _ => h, fun _ h => h, fun h _ _ => h⟩) (OvI.rec rfl) (fun _ => fun _ h _ _ _ _ => h)
    (fun _ h _ _ => h) ⟨.slice none 0 0, Ch.refl _ _, bC0, Ow.nil _ _ _, by simp⟩ ?assign ?body ?done (fun _ _ _ _ _ h => h.elim))
  case assign =>
    intro l pre own x W hi hlen
    simp only [encD, List.zip_toArray, List.zip_cons_cons, List.zip_nil_right, List.size_toArray, List.length_cons, List.length_nil, List.foldl_toArray', List.foldl_cons, List.foldl_nil, List.setIfInBounds_toArray, List.set_cons_zero, List.set_cons_succ]
    gi_wp2_with fail
    exact ⟨⟨_, _, _, _, _, _, _, _, _, _, _, _, _, _, rfl⟩, KeepsFrom.refl _ _, Kept.refl _ _ _⟩
  case body =>
    rintro l pre own ⟨x1, x2⟩ a₁ W ⟨ov, h1, h2, h3, h4⟩ ⟨u0, u1, u2, u6, u7, u8, u9, u10, u11, u12, u13, u14, u15, u16, rfl⟩ hlen
    obtain ⟨k, hk⟩ : ∃ k, k = pre.length := ⟨_, rfl⟩
    rw [← hk] at h3 hlen
    have HK := Go.Lib.hid hk
    clear hk
    obtain ⟨A4, c4, rfl⟩ := h3.form
    have hobC : ∀ b, (Value.slice A4 k c4).ownBlock = some b → W0.heap.size ≤ b := fun b hb => (h3.lt hb).1
    have c0 := h2.cellAt (i := 0) rfl
    have ho5 := h3.alloc (.cells (prC (x1, x2)).toArray 33)
    have hs5 : Src Try.prog 2 30 (.slice (some ⟨W.heap.size, 0, none⟩) 1 1) 1 (prC (x1, x2)) (W.alloc (.cells (prC (x1, x2)).toArray 33)) := src_new (P := Try.prog) Try.underlying30 W 33 2 1 (prC (x1, x2)) rfl (prC_one _)
    have hB5 : W0.heap.size ≤ (W.alloc (.cells (prC (x1, x2)).toArray 33)).heap.size := by rw [World.size_alloc]; have := h1.size; omega
    have h63 : k + 1 ≤ maxLen := by simp only [maxLen]; omega
    have hby : (k + 1) * 16 ≤ 140737488355328 := by omega
    have h01 : 0 < 1 := by decide
    have h02 : 0 < 2 := by decide
    dsimp only
    gi_wp2_with (first
      | ((with_reducible refine wpListIn_build_row (prC (x1, x2)) (fun w => by simp only [List.map_toArray, List.map_cons, List.map_nil]; exact build_pr x1 x2 w) ?_))
      | ((with_reducible refine wpListIn_build_pr (y := .tmp 13) (x1, x2) (by kernel_rfl) ?_))
      | ((with_reducible refine wpListIn_append_two (s := .tmp 10) (x := .tmp 14) (v := .slice A4 k c4) (by kernel_rfl) (by kernel_rfl) Try.underlying30 okPr ho5 hs5 hB5 h63 hby h01 h02 ?_); intro v3 w3 ho3 hgb; have hg3 := hgb.elim (fun h => gb_none h.1) (fun h => h.1); have hb3 := hgb.elim (fun h => Or.inr h.2) (fun h => Or.inl h.2.1); obtain ⟨A6, c6, rfl⟩ := ho3.form; have bk3 : Bk w3 bC 30 [.slice A4 k c4] := (h2.alloc _).grown hg3 (fun e => by have := hobC _ e.symm; omega); have c3 := bk3.cellAt (i := 0) rfl; have f3 := bk3.frozen 0))
    have g4 := gb_set1 w3 ⟨bC, 0, none⟩ (.slice A6 (k + 1) c6)
    have hne6 : ∀ b, (Value.slice A6 (k + 1) c6).ownBlock = some b → W0.heap.size ≤ b := fun b hb => (ho3.lt hb).1
    have hWl := h1.size
    have hg3s := hg3.size
    rw [World.size_alloc] at hg3s
    have gWa : W.grownBy w3 (Value.slice A4 k c4).ownBlock := gb_trans (gb_none (World.grownBy_alloc W _ none)) hg3
    have hK : Kept (fun k => k = bC ∨ W0.heap.size ≤ k) own W (w3.setCell ⟨bC, 0, none⟩ (.slice A6 (k + 1) c6)) := (Kept.grown gWa (fun q e => ⟨.inr (hobC q e), fun hq => (h4 q hq).2.2 e⟩)).trans (Kept.grown g4 (fun q e => by
      have e' : bC = q := Option.some.inj e
      subst e'
      exact ⟨.inl rfl, fun hq => by have := (h4 _ hq).1; omega⟩))
    refine ⟨?_, hK, .slice A6 (k + 1) c6, (h1.gb gWa (fun q e => .inr (hobC q e))).gb g4 (fun q e => .inl (Option.some.inj e).symm), bk3.set 0 _, ?_, fun q hq => ⟨(h4 q hq).1, ?_, ?_⟩⟩
    · exact ((KeepsFrom.of_grownBy (World.grownBy_alloc W _ none) (fun j e => by cases e)).trans (keeps_append hgb)).trans (KeepsFrom.of_grownBy g4 (fun j e => by have : bC = j := Option.some.inj e; omega))
    · rw [List.length_append, List.length_singleton, ← HK.out, prCs_append, prCs_one]
      exact ho3.grown g4 (fun b hb e => by have := hne6 b hb; have : bC = b := Option.some.inj e; omega)
    · have := (h4 q hq).2.1
      have := g4.size
      omega
    · intro e
      rcases hb3 with h | h
      · exact (h4 q hq).2.2 (h.symm.trans e)
      · rw [h, World.size_alloc] at e
        have h5 := Option.some.inj e
        have := (h4 q hq).2.1
        omega
  case done =>
    rintro xs own W rfl ⟨ov, h1, h2, h3, h4⟩ hK
    have c0 := h2.cellAt (i := 0) rfl
    have hxl : (O.map (·.2)).length = O.length := List.length_map _
    rw [hxl] at h3
    have hTW : Tm W B r (n0 + 1) (leftOf (n0 + 1) L) lv1 := ⟨h1.bk hT0.1 (by intro h; rw [HBC.out] at h; omega), h1.ow hT0.2.1 (fun b hb h => by rw [hown] at hb; have := hlw b hb; rw [HBC.out] at h; omega), hT0.2.2⟩
    have hCW : Ch (fun k => k = r ∨ lv.ownBlock = some k) w W := ((Ch.of (S := fun k => k = r ∨ lv.ownBlock = some k) g1 (fun _ h => by cases h)).trans hC0 (fun k h => .inl h)).trans h1 (fun k h => .inr (by rw [h, HBC.out]; exact Nat.le_refl _))
    have hw0 : w.heap.size ≤ W0.heap.size := Nat.le_trans g1.size hC0.size
    have hO1 := Go.Lib.hid hO
    have h3' := Go.Lib.hid h3
    have HTW := Go.Lib.hid hTW
    have HCW := Go.Lib.hid hCW
    obtain ⟨A8, c8, rfl⟩ := h3.form
    have HK := Go.Lib.hid hK
    clear h3 hTW hCW h1 h2 h4 hT0 hseq hO hxl bC0 hK
    go_wp2_with fail
    refine ⟨by simp, .inl ⟨_, _, rfl, run_takeDeferred HK.out, _, results_tmp rfl _ _ _, .slice A8 O.length c8, lv1, rfl, ⟨HTW.out.1.put _ HK.out rfl, HTW.out.2.1.put _ HK.out rfl, HTW.out.2.2⟩, ?_, HCW.out.putR _ hw0, hown⟩⟩
    rw [← hO1.out]
    have h5 := h3'.out.put (.deferred none) HK.out rfl
    exact Ow.weaken h5 hw0
end Go.Proofs.Ytjbnnfphpchneaa
