import Derived.Test.YtjbnnfphpchneaaOverF
import Derived.Test.YtjbnnfphpchneaaEql
/- scrivenerlaw15.runs: a timer of the first round is over behind three ticks. -/
namespace Sc
open Go Go.RowKit
section
variable {P : Program} (w : World)
theorem run_equalIn_pr (d : Nat) (t e : TypeId) (ht : P.underlying t = some (.array 2 e)) (he : P.underlying e = some (.int .i64)) (hsz : ∀ w, (Go.sizeOf e).run P w = .ok 1 w) (a b c f : Int) :
    (Op.equalIn (d + 2) t (.agg #[.int .i64 a, .int .i64 b]) (.agg #[.int .i64 c, .int .i64 f])).run P w = .ok ((a == c) && (b == f)) w := by
  rw [Op.equalIn]
  simp only [Sem.run_bind, run_underlying ht, Result.andThen_ok, hsz, Std.Legacy.Range.forIn_eq_forIn_range', Std.Legacy.Range.size, Nat.sub_zero, Nat.add_sub_cancel, Nat.div_one]
  have p0 : ∀ (x y : Int), (part e #[.int .i64 x, .int .i64 y] 0).run P w = .ok (.int .i64 x) w := fun x y => by simp [part, isAgg, run_underlying he]
  have p1 : ∀ (x y : Int), (part e #[.int .i64 x, .int .i64 y] 1).run P w = .ok (.int .i64 y) w := fun x y => by simp [part, isAgg, run_underlying he]
  have pe : ∀ (x y : Int), (Op.equalIn (d + 1) e (.int .i64 x) (.int .i64 y)).run P w = .ok ((x == y)) w := fun x y => by
    rw [run_equalIn_int w d e .i64 .i64 _ _ he]
  rw [show List.range' 0 2 1 = [0, 1] from rfl]
  simp only [List.forIn_cons, List.forIn_nil, Sem.run_bind, Nat.mul_one, p0, pe, Result.andThen_ok]
  cases h1 : (a == c) <;> cases h2 : (b == f) <;> simp [h2, Sem.run_bind, Sem.run_pure, p1, pe]
end
theorem run_neq_pr {P : Program} {t e : TypeId} (ht : P.underlying t = some (.array 2 e)) (he : P.underlying e = some (.int .i64)) (h3 : (P.info? e).map (·.size) = some 1) (a b c f : Int) (w : World) :
    (binOp .neq t (.agg #[.int .i64 a, .int .i64 b]) (.agg #[.int .i64 c, .int .i64 f])).run P w = .ok (.bool (!((a == c) && (b == f)))) w := by
  rw [run_neq_struct]
  rw [show (10000 : Nat) = 9998 + 2 from rfl]
  have := run_equalIn_pr (P := P) w 9998 t e ht he (fun _ => run_sizeOf' h3) a b c f
  erw [this]
  rfl
theorem wpList_neq_pr {P : Program} {w : World} {ops : Array Oper} {rest : List Oper} {a : Act} {Q : Exit → Act → World → Prop} {dst : Option Tmp} {ty : TypeId} {pos : String} {aft : Array Edge} {t e : TypeId} {x y : Operand} (ht : P.underlying t = some (.array 2 e)) (he : P.underlying e = some (.int .i64)) (h3 : (P.info? e).map (·.size) = some 1)
    (h4 : P.eqGuardType P.depth t = false) (p q : Pr) (hx : a.eval x = .agg (prC p).toArray) (hy : a.eval y = .agg (prC q).toArray) (hk : wpList P ops Q rest (a.put dst (.bool (!((p.1 == q.1) && (p.2 == q.2))))) w) :
    wpList P ops Q (⟨dst, .binOp .neq t x y t, ty, pos, aft, none⟩ :: rest) a w := by
  refine wpList_run rfl ?_ hk
  simp only [execOp, hx, hy, Sem.run_bind]
  rw [run_eqGuard_agg _ _ _ _ _ _ _ h4]
  have := run_neq_pr (w := w) ht he h3 p.1 p.2 q.1 q.2
  simp only [Result.andThen_ok]
  erw [this]
  rfl
end Sc
namespace Go.Proofs.Ytjbnnfphpchneaa
open Go.RowKit Go.Shelf Sc
theorem tm_gb {w w1 w2 : World} {r : Nat} {lv : Value} (g : w.grownBy w1 none) (hC : Ch (fun k => k = r ∨ lv.ownBlock = some k) w1 w2) (hr : w.heap.size ≤ r) (hl : ∀ b, lv.ownBlock = some b → w.heap.size ≤ b) : w.grownBy w2 none :=
  ((Ch.of (S := fun _ => False) g (fun _ h => by cases h)).trans hC (fun k hk => .inr (by
    rcases hk with h | h
    · rw [h]; exact hr
    · exact hl k h))).toGb (fun _ h => h.elim)
def tmZ : List Value := [.int .i64 0, .slice none 0 0]
theorem infoTm : ((Try.prog.info? 26).map fun i => (i.zero, i.size)) = some (some (.agg tmZ.toArray), tmZ.length) := by kernel_rfl
theorem tm_new (w : World) : Tm (w.alloc (.cells tmZ.toArray 26)) w.heap.size w.heap.size 0 [] (.slice none 0 0) := ⟨Bk.new w _ tmZ, Ow.nil _ _ _, by simp [Value.ownBlock]⟩
theorem prSize (p : Pr) : (Try.prog.info? 33).map (·.size) = some (prC p).length := by kernel_rfl
def prZ : List Value := prC (0, 0)
theorem infoPr : ((Try.prog.info? 33).map fun i => (i.zero, i.size)) = some (some (.agg prZ.toArray), prZ.length) := by kernel_rfl
theorem range_pr {w : World} {b o : Nat} {L : List Pr} (h : w.rangeAt b o (prCs L)) {i : Nat} {p : Pr} (hp : L[i]? = some p) : w.rangeAt b (o + i * 2) (prC p) := by
  have key : ∀ (L : List Pr) (i : Nat), L[i]? = some p → ∀ k, k < 2 → (prCs L)[i * 2 + k]? = (prC p)[k]? := by
    intro L
    induction L with
    | nil => intro i h; simp at h
    | cons x L ih =>
      intro i h k hk
      have e : prCs (x :: L) = prC x ++ prCs L := rfl
      cases i with
      | zero =>
        simp only [List.getElem?_cons_zero, Option.some.injEq] at h
        subst h
        rw [e, List.getElem?_append_left (by simp [prC]; omega), Nat.zero_mul, Nat.zero_add]
      | succ i =>
        rw [List.getElem?_cons_succ] at h
        rw [e, List.getElem?_append_right (by simp [prC]; omega), show (i + 1) * 2 + k - (prC x).length = i * 2 + k by simp [prC]; omega]
        exact ih i h k hk
  intro j u hu
  have hj : j < 2 := by have := (List.getElem?_eq_some_iff.1 hu).1; simpa [prC] using this
  rw [Nat.add_assoc]
  exact h _ _ ((key L i hp j hj).trans hu)
set_option maxHeartbeats 4000000 in
theorem runs_any (w : World) : Calls Try.prog 7 #[] w fun e w' => e = .returned (.bool true) ∧ w.grownBy w' none := by
  go_enter Try.func7, Try.ntmps7
  obtain ⟨W1, hW1⟩ : ∃ W1, W1 = w.alloc (.cells tmZ.toArray 26) := ⟨_, rfl⟩
  have g1 : w.grownBy W1 none := by rw [hW1]; exact gb_alloc (gb_refl w none) _
  have hT1 : Tm W1 w.heap.size w.heap.size 0 [] (.slice none 0 0) := by rw [hW1]; exact tm_new w
  obtain ⟨r, hr⟩ : ∃ r, r = w.heap.size := ⟨_, rfl⟩
  rw [← hr] at hT1
  have hL0 : ([] : List Due).length < 40 := by decide
  have hn0 : (0 : Int) ≤ 0 ∧ (0 : Int) ≤ 1000000 := by decide
  have hB1 : r ≤ W1.heap.size := by rw [hr]; exact g1.size
  have HW1 := Go.Lib.hid hW1
  have HR := Go.Lib.hid hr
  clear hW1 hr
  go_wp2_with (first
    | ((with_reducible refine wpList_alloc_row (E := 26) tmZ infoTm ?_))
    | (go_at_call 8; (rw [← HW1.out, ← HR.out]; (with_reducible refine (set_any 0 1 _ hT1 hL0 hn0 hB1).mono ?_); rintro e w2 ⟨rfl, lv2, hT2, hC2, hO2⟩)))
  have hT3 : Tm w2 r r 0 [(3, 0, 1)] lv2 := hT2
  refine (len_any _ hT3).mono ?_
  rintro e w3 ⟨rfl, rfl⟩
  rw [show ((List.length [((3 : Int), (0 : Int), (1 : Int))] : Nat) : Int) = 1 from rfl]
  have g3 : w.grownBy w3 none := tm_gb g1 hC2 (by rw [HR.out]; exact Nat.le_refl _) (fun b hb => by cases hb)
  have HT3 := Go.Lib.hid hT3
  have HG3 := Go.Lib.hid g3
  clear hT1 hT2 hC2 hO2 g1 hT3 g3 hL0 hn0 hB1
  go_frame
  go_wp2_with fail
  go_loopw [2, 3] (fun v2 v3 wr => ∃ (i : Nat) (n : Int) (L : List Due) (lv : Value), v2 = .int .i64 n ∧ v3 = .int .i64 (i : Int) ∧ 1 ≤ i ∧ i ≤ 4 ∧ n ≤ 1 ∧ Hid ((i ≤ 3 ∧ n = 0 ∧ L = [(3, 0, 1)]) ∨ (i = 4 ∧ n = 1 ∧ L = [])) ∧ Hid (Tm wr r r ((i : Int) - 1) L lv) ∧ Hid (w.grownBy wr none)) (fun _ v3 _ => 4 - (intOf v3).toNat)
  case atStart => exact ⟨1, 0, _, _, rfl, rfl, by omega, by omega, by omega, Go.Lib.hid (.inl ⟨by omega, rfl, rfl⟩), HT3, HG3⟩
  case round =>
    clear HT3 HG3
    obtain ⟨i, n, L, lv, rfl, rfl, hi1, hi4, hn1, HC, HT, HG⟩ := hrel
    obtain ⟨wo, rfl⟩ : ∃ wo : World, wo = wr := ⟨_, rfl⟩
    rcases (by omega : i ≤ 3 ∨ i = 4) with hi | hi
    · have hd : decide ((i : Int) ≤ 3) = true := decide_eq_true (by omega)
      have hd' : decide (i ≤ 3) = true := decide_eq_true hi
      obtain ⟨rfl, rfl⟩ : n = 0 ∧ L = [(3, 0, 1)] := by
        rcases HC.out with h | h
        · exact h.2
        · omega
      have hT := HT.out
      have hL1 : [((3 : Int), (0 : Int), (1 : Int))].length ≤ 1000 := by decide
      have hnb : (0 : Int) ≤ (i : Int) - 1 ∧ (i : Int) - 1 ≤ 1000000 := by omega
      have hBo : r ≤ wo.heap.size := by rw [HR.out]; exact HG.out.size
      obtain ⟨k, hk⟩ : ∃ k, k = (overOf (i : Int) [(3, 0, 1)]).length := ⟨_, rfl⟩
      have hk3 : (k = 0 ∧ i < 3 ∧ overOf (i : Int) [(3, 0, 1)] = [] ∧ leftOf (i : Int) [(3, 0, 1)] = [(3, 0, 1)]) ∨ (k = 1 ∧ i = 3 ∧ overOf (i : Int) [(3, 0, 1)] = [(3, 0, 1)] ∧ leftOf (i : Int) [(3, 0, 1)] = []) := by
        rcases (by omega : i < 3 ∨ i = 3) with h | h
        · have e : overOf (i : Int) [(3, 0, 1)] = [] := by simp [overOf]; omega
          exact .inl ⟨by rw [hk, e]; rfl, h, e, by simp [leftOf]; omega⟩
        · subst h; exact .inr ⟨by rw [hk]; rfl, rfl, rfl, rfl⟩
      have HK := Go.Lib.hid hk
      have HK3 := Go.Lib.hid hk3
      have hkb : (0 : Int) ≤ (k : Int) ∧ (k : Int) ≤ 1 := by omega
      clear hk hk3
      go_wp2_with (go_at_call 10; ((with_reducible refine (over_any _ hT hL1 hnb hBo).mono ?_); rintro e w4 ⟨ov, lv4, rfl, hT4, hO4, hC4, hw4⟩); rw [show (i : Int) - 1 + 1 = (i : Int) from by omega] at hT4 hO4; rw [← HK.out] at hO4; obtain ⟨A, c, rfl⟩ := hO4.form)
      have hO5 : Rd (fun b => b < w4.heap.size) w4 2 (.slice A k c) k (prCs ((overOf (i : Int) [(3, 0, 1)]).map (·.2))) := hO4.rd (fun b hb => (hO4.lt hb).2)
      have g4 : w.grownBy w4 none := tm_gb HG.out hC4 (by rw [HR.out]; exact Nat.le_refl _) (fun b hb => by rw [← HR.out]; exact (hT.2.1.lt hb).1)
      have HT4 := Go.Lib.hid hT4
      have HO5 := Go.Lib.hid hO5
      have HG4 := Go.Lib.hid g4
      clear hT hT4 hC4 hO4 hO5 g4 hw4
      go_loopw [2, 18] (fun v2 v18 wr => ∃ (j : Nat), v2 = .int .i64 (j : Int) ∧ v18 = .int .i64 (j : Int) ∧ j ≤ k ∧ Hid (Tm wr r r (i : Int) (leftOf (i : Int) [(3, 0, 1)]) lv4) ∧ Hid (Rd (fun b => b < wr.heap.size) wr 2 (.slice A k c) k (prCs ((overOf (i : Int) [(3, 0, 1)]).map (·.2)))) ∧ Hid (w.grownBy wr none)) (fun _ v18 _ => k - (intOf v18).toNat)
      case atStart => exact ⟨0, rfl, rfl, Nat.zero_le _, HT4, HO5, HG4⟩
      case round =>
        clear HT4 HO5 HG4 HT HG
        obtain ⟨j, rfl, rfl, hj, HT, HO, HG⟩ := hrel
        obtain ⟨wq, rfl⟩ : ∃ wq : World, wq = wr := ⟨_, rfl⟩
        by_cases hlt : j < k
        · have hd2 : decide ((j : Int) < (k : Int)) = true := decide_eq_true (by omega)
          have hd2' : decide (j < k) = true := decide_eq_true hlt
          obtain ⟨rfl, rfl, hov⟩ : j = 0 ∧ i = 3 ∧ overOf (i : Int) [(3, 0, 1)] = [(3, 0, 1)] := by
            rcases HK3.out with h | h
            · omega
            · exact ⟨by omega, h.2.1, h.2.2.1⟩
          obtain ⟨b, o, c1, he, hbb, hnc, hcm, hcell⟩ := HO.out.at hlt
          injection he with hA _ hcc
          subst hA hcc
          rw [hov] at hcell
          have hrx := range_pr hcell (i := 0) (p := (0, 1)) rfl
          have bx0 := Bk.new wq 33 prZ
          have h01 : ((0 : Int) == 0 && (1 : Int) == 1) = true := rfl
          clear hcell hov
          go_wp2_with (first
            | ((with_reducible refine wpList_load_range (x := .tmp 20) (t := 33) b (o + 0 * 2) (prC (0, 1)) _ hrx (by kernel_rfl) Try.underlying33 rfl (prSize _) ?_))
            | ((with_reducible refine wpList_alloc_row (E := 33) prZ infoPr ?_))
            | ((with_reducible refine wpList_store_bk (t := 33) wq.heap.size 33 prZ (prC (0, 1)) bx0 (by kernel_rfl) (by kernel_rfl) (prSize _) rfl (prC_one _) ?_); intro w5 h5 g5 z5)
            | ((with_reducible refine wpList_load_bk (x := .tmp 5) (t := 33) wq.heap.size 33 (prC (0, 1)) _ h5 (by kernel_rfl) Try.underlying33 rfl (prSize _) ?_))
            | ((with_reducible refine wpList_build_row (t := 33) (prC (0, 1)) (fun _ => by kernel_rfl) ?_))
            | ((with_reducible refine wpList_neq_pr (x := .tmp 22) (y := .tmp 23) Try.underlying33 Try.underlying3 (by kernel_rfl) (by kernel_rfl) (0, 1) (0, 1) (by kernel_rfl) (by kernel_rfl) ?_)))
          have g15 := gb_trans_new (gb_alloc (gb_refl wq none) _) g5 (Nat.le_refl _)
          exact ⟨⟨_, _, _, _, ⟨1, rfl, rfl, by omega, Go.Lib.hid (HT.out.gr g15), Go.Lib.hid (Rd.mono (Rd.grown HO.out g15 (by simp)) (fun b hb => Nat.lt_of_lt_of_le hb (by have := g15.size; omega))), Go.Lib.hid (gb_trans HG.out g15)⟩, rfl, rfl, rfl, rfl⟩, by simp only [intOf]; omega⟩
        · obtain rfl : j = k := by omega
          have hd2 : decide ((j : Int) < (j : Int)) = false := decide_eq_false (by omega)
          have hd2' : decide (j < j) = false := decide_eq_false (by omega)
          go_wp2_with fail
          go_roundw
          case rel => exact ⟨i + 1, (j : Int), _, lv4, rfl, by push_cast; rfl, by omega, by omega, by omega, Go.Lib.hid (by
            rcases HK3.out with h | h
            · exact .inl ⟨by omega, by omega, h.2.2.2⟩
            · exact .inr ⟨by omega, by omega, h.2.2.2⟩), Go.Lib.hid (by rw [show ((i + 1 : Nat) : Int) - 1 = (i : Int) by push_cast; omega]; exact HT.out), HG⟩
          case measure => simp only [intOf]; omega
    · subst hi
      obtain ⟨rfl, rfl⟩ : n = 1 ∧ L = [] := by
        rcases HC.out with h | h
        · omega
        · exact h.2
      have hT := HT.out
      have hg := HG.out
      go_wp2_with (first
        | (go_at_call 11; ((with_reducible refine (len_any _ hT).mono ?_); rintro e w3 ⟨rfl, rfl⟩))
        | (go_at_call 17; ((with_reducible refine (now_any _ hT).mono ?_); rintro e w3 ⟨rfl, rfl⟩)))
      go_ret
      exact ⟨rfl, hg⟩
end Go.Proofs.Ytjbnnfphpchneaa
