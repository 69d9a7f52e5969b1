import Derived.Test.YtjbnnfphpchneaaTick
import Derived.Test.YtjbnnfphpchneaaGi
import Derived.Test.YtjbnnfphpchneaaMemIn
import Derived.Deep.CutBlock
/- The iterator of Tick, and what the law keeps of it: scrivenerlaw15.over. -/
namespace Sc
open Go Go.RowKit
section
variable {F : Fence} {nn : Nat} {P : Program} {w : World} {ops : Array Oper} {rest : List Oper} {a : Act} {Q : Exit → Act → World → Prop} {dst : Option Tmp} {ty : TypeId} {pos : String} {aft : Array Edge}
theorem wpListIn_builtin {b : Builtin} {args : Array Operand} {ts : Array TypeId} {v : Value} {w' : World} (hr : (execOp a.eval ⟨dst, .call { callee := .builtin b, args := args, argTypes := ts }, ty, pos, aft, none⟩).run P w = .ok (.value v) w')
    (h : wpListIn F nn P ops Q rest (a.put dst v) w') : wpListIn F nn P ops Q (⟨dst, .call { callee := .builtin b, args := args, argTypes := ts }, ty, pos, aft, none⟩ :: rest) a w := by
  refine wpListIn_plain rfl fun K hK => ?_
  unfold Oper.wpIn
  refine ⟨?_, ?_⟩
  · intro f hf
    simp [Oper.about, resolve, Sem.run_pure, Target.leads] at hf
  · rw [Oper.semAt_plain F _ _ (by intro c hc; cases hc), hr]
    exact hK _ _ h
end
section
variable {F : Fence} {nn : Nat} {P : Program} {B k n m by_ : Nat} {w : World} {v y : Value} {cs news : List Value} {t tx e : TypeId} {ops : Array Oper} {rest : List Oper} {a : Act} {Q : Exit → Act → World → Prop} {dst : Option Tmp} {ty : TypeId} {pos : String} {aft : Array Edge}
theorem wpListIn_append_ow {s x : Operand} (hs : a.eval s = v) (hx : a.eval x = y) (ht : P.underlying t = some (.slice e)) (hi : InfoOk P e k by_) (ho : Ow B w k v n cs) (hsrc : Src P k tx y m news w)
    (hB : B ≤ w.heap.size) (h63 : n + m ≤ maxLen) (hby : (n + m) * by_ ≤ 140737488355328)
    (h : ∀ v' w', Ow B w' k v' (n + m) (cs ++ news) → w.grownBy w' v.ownBlock → (v'.ownBlock = v.ownBlock ∨ v'.ownBlock = some w.heap.size) → wpListIn F nn P ops Q rest (a.put dst v') w') :
    wpListIn F nn P ops Q (⟨dst, .call { callee := .builtin .append, args := #[s, x], argTypes := #[t, tx] }, ty, pos, aft, none⟩ :: rest) a w := by
  obtain ⟨v', w', hr, h1, h2, h3⟩ := run_append_ow (ty := ty) ht hi ho hsrc hB h63 hby
  refine wpListIn_builtin ?_ (h v' w' h1 h2 h3)
  simp only [execOp, resolve, invoke, builtin, Sem.run_bind, Sem.run_pure, Result.andThen_ok, List.map_toArray, List.map_cons, List.map_nil, hs, hx, hr]
end
theorem Ow.put {B k n : Nat} {W : World} {v : Value} {cs : List Value} {l : Nat} {o : Obj} (h : Ow B W k v n cs) (o' : Obj) (hl : W.heap[l]? = some o) (hr : isRec o = true) : Ow B (W.putObj l o') k v n cs := by
  obtain ⟨h1, A, c, rfl, h2, h3, h4, h5⟩ := h
  refine ⟨h1, A, c, rfl, h2, h3, h4, fun ad had => ?_⟩
  obtain ⟨b, of, rfl, hB, hlt, hc, hr'⟩ := h5 ad had
  have hne : ∀ j, j < c * k → b ≠ l := fun j hj => by
    rintro rfl
    have := (hc j hj).1
    unfold World.cell? at this
    dsimp only at this
    rw [hl] at this
    cases o <;> simp [isRec] at hr this
  have hsz : (W.putObj l o').heap.size = W.heap.size := by simp
  refine ⟨b, of, rfl, hB, by rw [hsz]; exact hlt, fun j hj => ?_, fun j u hu => ?_⟩
  · have hb : (W.putObj l o').heap[b]? = W.heap[b]? := World.putObj_heap_other (hne j hj)
    rw [World.cell?_of_block (a := ⟨b, of + j, none⟩) hb, World.frozen?_of_block (a := ⟨b, of + j, none⟩) hb]
    exact hc j hj
  · have hj : j < n * k := by have := (List.getElem?_eq_some_iff.1 hu).1; rwa [h1] at this
    have hb : (W.putObj l o').heap[b]? = W.heap[b]? := World.putObj_heap_other (hne j (Nat.lt_of_lt_of_le hj (Nat.mul_le_mul_right k h2)))
    rw [World.cell?_of_block (a := ⟨b, of + j, none⟩) hb]
    exact hr' j u hu
abbrev Pr := Int × Int
def prC (p : Pr) : List Value := [.int .i64 p.1, .int .i64 p.2]
def prCs (l : List Pr) : List Value := l.flatMap prC
theorem prCs_append (l m : List Pr) : prCs (l ++ m) = prCs l ++ prCs m := by simp [prCs]
theorem prCs_one (p : Pr) : prCs [p] = prC p := by simp [prCs]
theorem prC_one (p : Pr) : ∀ u ∈ prC p, u.oneCell' = true := by
  intro u hu
  simp only [prC, List.mem_cons, List.not_mem_nil, or_false] at hu
  rcases hu with rfl | rfl <;> rfl
/-- What the law holds between two yields: the list so far, in its cell bC. -/
def OvI (T : TypeId) (W0 : World) (bC : Nat) (pre : List Pr) (own : List Nat) (W : World) : Prop :=
  ∃ ov, Ch (fun k => k = bC) W0 W ∧ Bk W bC T [ov] ∧ Ow W0.heap.size W 2 ov pre.length (prCs pre) ∧ ∀ r ∈ own, W0.heap.size ≤ r ∧ r < W.heap.size ∧ ov.ownBlock ≠ some r
theorem Ch.putR {S : Nat → Prop} {a b : World} {l : Nat} (h : Ch S a b) (o' : Obj) (hl : a.heap.size ≤ l) : Ch S a (b.putObj l o') :=
  h.gb (grownBy_putObj' b l o') (fun r e => .inr (by injection e with e; omega))
theorem OvI.abides {T : TypeId} {W0 : World} {bC : Nat} (hC : bC < W0.heap.size) : Sc.Abides (OvI T W0 bC) := by
  refine ⟨?_, ?_, ?_⟩
  · rintro pre own W W' ⟨ov, h1, h2, h3, h4⟩ hg
    exact ⟨ov, h1.gb hg (fun _ h => by cases h), h2.grown hg (by simp), h3.grown hg (fun _ _ => by simp), fun r hr => ⟨(h4 r hr).1, Nat.lt_of_lt_of_le (h4 r hr).2.1 hg.size, (h4 r hr).2.2⟩⟩
  · rintro pre own W o ⟨ov, h1, h2, h3, h4⟩
    refine ⟨ov, h1.alloc o, h2.alloc o, h3.alloc o, fun r hr => ?_⟩
    rw [World.size_alloc]
    rcases List.mem_cons.1 hr with e | e
    · subst e
      exact ⟨h1.size, Nat.lt_succ_self _, fun e => by have := (h3.lt e).2; omega⟩
    · have := h4 r e
      exact ⟨this.1, by omega, this.2.2⟩
  · rintro pre own W W' r ⟨ov, h1, h2, h3, h4⟩ hr hg
    have h := h4 r hr
    exact ⟨ov, h1.gb hg (fun q e => .inr (by injection e with e; omega)), h2.grown hg (fun e => by have := Option.some.inj e; omega), h3.grown hg (fun b hb e => h.2.2 (hb.trans e.symm)), fun q hq => ⟨(h4 q hq).1, Nat.lt_of_lt_of_le (h4 q hq).2.1 hg.size, (h4 q hq).2.2⟩⟩
theorem OvI.rec {T : TypeId} {W0 : World} {bC B : Nat} (hB : B = W0.heap.size) : AbidesRec B (OvI T W0 bC) := by
  subst hB
  rintro pre own W l o o' ⟨ov, h1, h2, h3, h4⟩ hl ho hr _
  exact ⟨ov, h1.putR o' hl, h2.put o' ho hr, h3.put o' ho hr, fun r hr => ⟨(h4 r hr).1, by simpa using (h4 r hr).2.1, (h4 r hr).2.2⟩⟩
theorem map_take_snoc {O : List Due} {i : Nat} {d : Due} (h : O[i]? = some d) : (O.map (·.2)).take (i + 1) = (O.map (·.2)).take i ++ [d.2] := by
  rw [List.take_add_one, List.getElem?_map, h]; rfl
end Sc
namespace Go.Proofs.Ytjbnnfphpchneaa
open Go.RowKit Sc
def encD (x : Pr) : Array Value := #[.int .i64 x.1, .int .i64 x.2]
set_option maxHeartbeats 4000000 in
theorem tick_seq (bO : Nat) (A : Option Addr) (q c : Nat) (O : List Due) (NB Mut : Nat → Prop) (w : World) (hb : Bk w bO 24 [.slice A q c]) (_hm : ¬ Mut bO) (hr : Rd NB w 3 (.slice A q c) q (dueCs O)) (hq : O.length = q) (hNB : ∀ b, NB b → ¬ Mut b ∧ b < w.heap.size) (hq6 : q ≤ 1000000) :
    Seq Try.prog 20 #[.pointer (some ⟨bO, 0, none⟩)] encD Mut (fun xs => xs = O.map (·.2)) (fun pre => pre <+: O.map (·.2)) q w := by
  intro l J Jx W hW hJ hJx hY h0
  refine callsIn_wide.2 ?_
  have gW := gb_of_below hW
  have hbW := hb.grown gW (by simp)
  have hrW := Rd.grown hr gW (by simp)
  have HQ := Go.Lib.hid hq
  have HR0 := Go.Lib.hid hrW
  have HJ0 := Go.Lib.hid h0
  have hqc : q ≤ c := by obtain ⟨_, _, he, h⟩ := Rd.form hr; injection he with _ _ e; omega
  clear hq hr hrW h0 hW gW hb
  go_enter Try.func20, Try.ntmps20
  have c0 := hbW.cellAt (i := 0) rfl
  go_wp2_with fail
  clear c0 hbW
  go_loopw [7] (fun v7 wr => ∃ (i : Nat) (own : List Nat), v7 = .int .i64 (i : Int) ∧ i ≤ q ∧ Hid (J ((O.map (·.2)).take i) own wr) ∧ Hid (Rd NB wr 3 (.slice A q c) q (dueCs O))) (fun v7 _ => q - (intOf v7).toNat)
  case atStart => exact ⟨0, [], rfl, Nat.zero_le _, HJ0, HR0⟩
  case round =>
    clear HJ0 HR0
    obtain ⟨i, own, rfl, hi, HJ, HR⟩ := hrel
    obtain ⟨wo, rfl⟩ : ∃ wo : World, wo = wr := ⟨_, rfl⟩
    by_cases hlt : i < q
    · have hd : decide ((i : Int) < (q : Int)) = true := decide_eq_true (by omega)
      have hd' : decide (i < q) = true := decide_eq_true hlt
      have hiI : (0 : Int) ≤ (i : Int) ∧ (i : Int) < (q : Int) ∧ (q : Int) ≤ 1000000 := by omega
      obtain ⟨d, hx⟩ : ∃ d, O[i]? = some d := ⟨_, List.getElem?_eq_getElem (by rw [HQ.out]; exact hlt)⟩
      obtain ⟨b, o, c1, he, hbb, hnc, hcm, hcell⟩ := HR.out.at (by omega)
      injection he with hA _ hcc
      subst hA hcc
      have hrx := range_due hcell hx
      have bx0 := Bk.new wo 52 dueZ
      have HX := Go.Lib.hid hx
      have HT := Go.Lib.hid (map_take_snoc hx)
      obtain ⟨at_, rd, st⟩ := d
      clear hcell hx
      go_upto_region 3 with (first
        | ((with_reducible refine wpList_load_range (x := .tmp 9) (t := 52) b (o + i * 3) (dueC (at_, rd, st)) _ hrx (by kernel_rfl) Try.underlying52 rfl (dueSize _) ?_))
        | ((with_reducible refine wpList_alloc_row (E := 52) dueZ infoDue ?_))
        | ((with_reducible refine wpList_store_bk (t := 52) wo.heap.size 52 dueZ (dueC (at_, rd, st)) bx0 (by kernel_rfl) (by kernel_rfl) (dueSize _) rfl (dueC_one _) ?_); intro w5 h5 g5 z5))
      have g15 := gb_trans_new (gb_alloc (gb_refl wo none) _) g5 (Nat.le_refl _)
      have hJ5 := hJ.grown HJ.out g15
      have HR5 := Go.Lib.hid (Rd.grown HR.out g15 (by simp))
      have c1 := h5.cellAt (i := 1) rfl
      have c2 := h5.cellAt (i := 2) rfl
      obtain ⟨fn, tmps, assign, body, hy, hR⟩ := hY _ own (rd, st) _ hJ5 (by rw [List.length_take, List.length_map, HQ.out]; omega)
      dsimp only [encD] at hy
      dsimp only at c1 c2
      clear hJ5 g15 h5 g5 z5 bx0 hrx
      refine (wpIn_wide (n := 0)).1 ?_
      gi_wp2_with fail
      refine ⟨rfl, hR.mono ?_⟩
      clear hR hy
      rintro e W' (⟨rfl, hJn, hkp⟩ | ⟨rfl, hJn⟩)
      · have HR6 := Go.Lib.hid (HR5.out.kept hkp (fun b hb => (hNB b hb).1))
        have HJn := Go.Lib.hid hJn
        clear c1 c2 hkp hJn
        gi_wp2
        go_wp2_with fail
        go_roundw
        case rel => exact ⟨i + 1, own, by push_cast; rfl, by omega, Go.Lib.hid (by rw [HT.out]; exact HJn.out), HR6⟩
        case measure => simp only [intOf]; omega
      · gi_wp2
        go_wp2_with fail
        refine bodyPost_ret (results_none rfl _ _ _) rfl ?_
        exact ⟨⟨_, rfl⟩, .inr ⟨_, own, by rw [show (O.map (·.2)).take i ++ [(rd, st)] = (O.map (·.2)).take (i + 1) from HT.out.symm]; exact List.take_prefix _ _, hJn⟩⟩
    · obtain rfl : i = q := by omega
      have hd : decide ((i : Int) < (i : Int)) = false := decide_eq_false (by omega)
      have hd' : decide (i < i) = false := decide_eq_false (by omega)
      have hl : (O.map (·.2)).take i = O.map (·.2) := List.take_of_length_le (by rw [List.length_map, HQ.out]; exact Nat.le_refl _)
      have hj := HJ.out
      rw [hl] at hj
      have HJ2 := Go.Lib.hid hj
      clear hl hj HJ
      go_wp2_with fail
      go_end0
      exact ⟨⟨_, rfl⟩, .inl ⟨_, own, rfl, HJ2.out⟩⟩
end Go.Proofs.Ytjbnnfphpchneaa
