import Derived.RangeFuncNested
import Derived.RangeFuncBound
import Derived.RangeFuncCalls
import Derived.RangeFuncLeaves
import Derived.Test.YtajgklomcapboaaMem
/- A range over a function whose iterator keeps cells of its own: the contract of an iterator, and the law of the loop. -/
namespace Sc
open Go Go.RowKit

/-- A loop's record, or the block for the rounds' deferred calls. -/
def isRec : Obj → Bool
  | .loop _ => true
  | .deferred _ => true
  | _ => false

/-- What the caller holds abides what an iterator does: new blocks; a new block that it keeps for itself; a write to one that it has kept. -/
structure Abides {α : Type} (J : List α → List Nat → World → Prop) : Prop where
  grown : ∀ {pre own W W'}, J pre own W → W.grownBy W' none → J pre own W'
  made : ∀ {pre own W} (o : Obj), J pre own W → J pre (W.heap.size :: own) (W.alloc o)
  wrote : ∀ {pre own W W' r}, J pre own W → r ∈ own → W.grownBy W' (some r) → J pre own W'

/-- What a round keeps: the iterator's own blocks, and all but those of Mut. -/
def Kept (Mut : Nat → Prop) (own : List Nat) (W W' : World) : Prop := ∀ k o, (k ∈ own ∨ ¬ Mut k) → W.heap[k]? = some o → isRec o = false → W'.heap[k]? = some o

theorem Kept.refl (Mut : Nat → Prop) (own : List Nat) (W : World) : Kept Mut own W W := fun _ _ _ h _ => h
theorem Kept.trans {Mut : Nat → Prop} {own : List Nat} {A B C : World} (h : Kept Mut own A B) (k : Kept Mut own B C) : Kept Mut own A C := fun i o hi ho hr => k i o hi (h i o hi ho hr) hr
theorem Kept.grown {Mut : Nat → Prop} {own : List Nat} {W W' : World} {row : Option Nat} (hg : W.grownBy W' row) (hr : ∀ r, row = some r → Mut r ∧ r ∉ own) : Kept Mut own W W' := fun k o hk ho _ => by
  refine (hg.block k (Array.getElem?_eq_some_iff.1 ho).1 (fun e => ?_)).trans ho
  obtain ⟨h1, h2⟩ := hr k e.symm
  rcases hk with hk | hk
  · exact h2 hk
  · exact hk h1
theorem Kept.put {Mut : Nat → Prop} {own : List Nat} {W : World} {l : Nat} {o : Obj} (o' : Obj) (h : W.heap[l]? = some o) (hr : isRec o = true) : Kept Mut own W (W.putObj l o') := fun k u _ hu hn => by
  by_cases e : k = l
  · subst e; rw [h] at hu; cases hu; rw [hr] at hn; cases hn
  · exact (World.putObj_heap_other e).trans hu
theorem Kept.bk {Mut : Nat → Prop} {own : List Nat} {W W' : World} (h : Kept Mut own W W') {b : Nat} {t : TypeId} {l : List Value} (hb : b ∈ own ∨ ¬ Mut b) (hk : Bk W b t l) : Bk W' b t l := h b _ hb hk rfl
theorem Bk.put {W : World} {b l : Nat} {t : TypeId} {cs : List Value} {o : Obj} (hk : Bk W b t cs) (o' : Obj) (h : W.heap[l]? = some o) (hr : isRec o = true) : Bk (W.putObj l o') b t cs := by
  have e : b ≠ l := by
    rintro rfl; unfold Bk at hk; rw [hk] at h; cases h; cases hr
  exact (World.putObj_heap_other e).trans hk
theorem gb_put {w W : World} {row : Option Nat} {l : Nat} (h : w.grownBy W row) (o' : Obj) (hl : w.heap.size ≤ l) : w.grownBy (W.putObj l o') row := gb_trans_new h (grownBy_putObj' W l o') hl

/-- THE CONTRACT OF AN ITERATOR: it calls yield for each of a list of S, or for a beginning of Sp, where a round has said no. -/
def Seq {α : Type} (P : Program) (g : Nat) (lb : Array Value) (encs : α → Array Value) (Mut : Nat → Prop) (S Sp : List α → Prop) (N : Nat) (w : World) : Prop :=
  ∀ (l : Nat) (J Jx : List α → List Nat → World → Prop) (W : World), Below w.heap.size w W → Abides J → Abides Jx →
    (∀ pre own x W1, J pre own W1 → pre.length < N → YieldAt Fence.wide 0 P l (encs x) W1 fun e W' =>
      (e = .returned (.bool true) ∧ J (pre ++ [x]) own W' ∧ Kept Mut own W1 W') ∨ (e = .returned (.bool false) ∧ Jx (pre ++ [x]) own W')) →
    J [] [] W →
    CallsIn Fence.wide 0 P g (#[.func (.yield l) #[] #[]] ++ lb) W fun e W' => (∃ v, e = .returned v) ∧ ((∃ xs own, S xs ∧ J xs own W') ∨ (∃ pre own, Sp pre ∧ Jx pre own W'))

/-- How the body of a round may be left. -/
def leftBy {α : Type} (B : Nat) (Mut : Nat → Prop) (own : List Nat) (I : List α → List Nat → World → Prop) (Ix : Code → List α → List Nat → World → Prop) (xs : List α) (W : World) : Exit → Act → World → Prop
  | .normal, _, W' => KeepsFrom B W W' ∧ Kept Mut own W W' ∧ I xs own W'
  | .ret, _, W' => KeepsFrom B W W' ∧ Ix .ret xs own W'
  | .exit id, _, W' => KeepsFrom B W W' ∧ Ix (.exit id) xs own W'
  | .goto t, _, W' => KeepsFrom B W W' ∧ Ix (.goto t) xs own W'
  | .panic _, _, _ => False
  | .outgrown, _, _ => False

/-- What abides the turn of a loop's record. -/
def AbidesRec {α : Type} (B : Nat) (I : List α → List Nat → World → Prop) : Prop :=
  ∀ {pre own W l o} (o' : Obj), I pre own W → B ≤ l → W.heap[l]? = some o → isRec o = true → isRec o' = true → I pre own (W.putObj l o')

variable {P : Program}

theorem range_law {α : Type} {g : Operand} {ps : Array Tmp} {assign body : Code} {Q : Exit → Act → World → Prop} {a : Act} {w : World}
    {gf : Nat} {lb : Array Value} (hg : a.eval g = .func (.func gf) #[] lb) (eg : ∀ args w, (callFunc gf args).run P w = .ok (.enter gf args) w)
    {encs : α → Array Value} {Mut : Nat → Prop} {S Sp : List α → Prop} {N : Nat} {w0 : World} (hseq : Seq P gf lb encs Mut S Sp N w0) (hb0 : Below w0.heap.size w0 w) (hps : ∀ x, (encs x).size = ps.size)
    (I : List α → List Nat → World → Prop) (Ix : Code → List α → List Nat → World → Prop) (Ax : α → Act → World → Prop)
    (hI : Abides I) (hIx : ∀ c, Abides (Ix c)) (hIr : AbidesRec w.heap.size I) (hIxr : ∀ c, AbidesRec w.heap.size (Ix c))
    (hAx : ∀ {x a W l o} (o' : Obj), Ax x a W → W.heap[l]? = some o → isRec o = true → Ax x a (W.putObj l o'))
    (h0 : I [] [] w)
    (hassign : ∀ (l : Nat) (pre : List α) (own : List Nat) (x : α) (W : World), I pre own W → pre.length < N →
      assign.wpIn (Fence.wide.inRound l) 0 P (Exit.then (fun a₁ W₁ => I pre own W₁ ∧ Ax x a₁ W₁ ∧ KeepsFrom w.heap.size W W₁ ∧ Kept Mut own W W₁) (fun _ _ _ => False))
        { tmps := (ps.zip (encs x)).foldl (fun t (p, v) => t.setIfInBounds p v) a.tmps, defers := [] } W)
    (hbody : ∀ (l : Nat) (pre : List α) (own : List Nat) (x : α) (a₁ : Act) (W : World), I pre own W → Ax x a₁ W → pre.length < N →
      body.wpIn (Fence.wide.inRound l) 0 P (leftBy w.heap.size Mut own I Ix (pre ++ [x]) W) a₁ W)
    (hdone : ∀ (xs : List α) (own : List Nat) (W : World), S xs → I xs own W → W.heap[w.heap.size]? = some (.deferred (some [])) →
      Q .normal { a with defers := { target := .collected w.heap.size, args := #[] } :: a.defers } W)
    (hstop : ∀ (c : Code) (pre : List α) (own : List Nat) (W : World), Sp pre → Ix c pre own W → W.heap[w.heap.size]? = some (.deferred (some [])) →
      c.wpIn Fence.wide 0 P Q { a with defers := { target := .collected w.heap.size, args := #[] } :: a.defers } W) :
    (Code.rangeFunc g ps assign body).wpIn Fence.wide 0 P Q a w := by
  refine wpIn_rangeFunc ?_
  intro fn hfn
  obtain ⟨rec, hrec⟩ : ∃ rec : LoopState → Option Code → Loop, rec = fun st pe => { state := st, pending := pe, fn, tmps := a.tmps, params := ps, assign, body, defers := w.heap.size } := ⟨_, rfl⟩
  obtain ⟨W1, hW1⟩ : ∃ W1, (w.alloc (.deferred (some []))).alloc (.loop (rec .ready none)) = W1 := ⟨_, rfl⟩
  have hL1 : W1.heap[w.heap.size + 1]? = some (.loop (rec .ready none)) := by
    rw [← hW1]; have := World.alloc_heap_new (w.alloc (.deferred (some []))) (.loop (rec .ready none)); rwa [World.size_alloc] at this
  have hK1 : W1.heap[w.heap.size]? = some (.deferred (some [])) := by
    rw [← hW1]; exact (Below.heap_alloc _ _ _ (by simp)).trans (World.alloc_heap_new w _)
  have hg1 : w.grownBy W1 none := by rw [← hW1]; exact gb_alloc (gb_alloc (gb_refl w none) _) _
  have hs1 : W1.heap.size = w.heap.size + 2 := by rw [← hW1]; simp
  have hb1 : Below w0.heap.size w0 W1 := by
    rw [← hW1]; exact hb0.trans ((((Below.refl _ w).alloc (Nat.le_refl _) _).alloc (by simp) _).mono hb0.size)
  -- what the law holds besides: its two blocks, and that the iterator's own lie behind them
  have hab : ∀ {X : List α → List Nat → World → Prop} (st : LoopState) (pe : Option Code), Abides X →
      Abides (fun pre own W => X pre own W ∧ W.heap[w.heap.size + 1]? = some (.loop (rec st pe)) ∧ W.heap[w.heap.size]? = some (.deferred (some [])) ∧ (∀ r ∈ own, w.heap.size + 2 ≤ r)) := by
    intro X st pe hX
    refine ⟨?_, ?_, ?_⟩
    · rintro pre own W W' ⟨h1, h2, h3, h4⟩ hg'
      exact ⟨hX.grown h1 hg', (hg'.block _ (Array.getElem?_eq_some_iff.1 h2).1 (by simp)).trans h2, (hg'.block _ (Array.getElem?_eq_some_iff.1 h3).1 (by simp)).trans h3, h4⟩
    · rintro pre own W o ⟨h1, h2, h3, h4⟩
      have hl := (Array.getElem?_eq_some_iff.1 h2).1
      refine ⟨hX.made o h1, (Below.heap_alloc _ _ _ hl).trans h2, (Below.heap_alloc _ _ _ (Array.getElem?_eq_some_iff.1 h3).1).trans h3, ?_⟩
      intro r hr
      rcases List.mem_cons.1 hr with e | e
      · omega
      · exact h4 r e
    · rintro pre own W W' r ⟨h1, h2, h3, h4⟩ hr hg'
      have := h4 r hr
      exact ⟨hX.wrote h1 hr hg', (hg'.block _ (Array.getElem?_eq_some_iff.1 h2).1 (by simp; omega)).trans h2, (hg'.block _ (Array.getElem?_eq_some_iff.1 h3).1 (by simp; omega)).trans h3, h4⟩
  refine ⟨w.heap.size + 1, [{ target := .collected w.heap.size, args := #[] }], W1, { target := .fn (.func gf) lb, args := #[.func (.yield (w.heap.size + 1)) #[] #[]] }, W1, gf,
    #[.func (.yield (w.heap.size + 1)) #[] #[]] ++ lb, W1, ?_, ?_, fun _ _ => trivial, ?_, fun h => by simp [Fence.wide] at h, ?_⟩
  · rw [← hW1, hrec]; exact run_enterLoop_outer _ _ _ _ _
  · simp only [resolve, hg]
    simp [go_sem]
  · simp [invoke, go_sem, eg]
  · refine (hseq (w.heap.size + 1)
      (fun pre own W => I pre own W ∧ W.heap[w.heap.size + 1]? = some (.loop (rec .ready none)) ∧ W.heap[w.heap.size]? = some (.deferred (some [])) ∧ (∀ r ∈ own, w.heap.size + 2 ≤ r))
      (fun pre own W => ∃ c, Ix c pre own W ∧ W.heap[w.heap.size + 1]? = some (.loop (rec .done (some c))) ∧ W.heap[w.heap.size]? = some (.deferred (some [])) ∧ (∀ r ∈ own, w.heap.size + 2 ≤ r))
      W1 hb1 (hab .ready none hI)
      ⟨fun ⟨c, h⟩ hg' => ⟨c, (hab .done (some c) (hIx c)).grown h hg'⟩, fun o ⟨c, h⟩ => ⟨c, (hab .done (some c) (hIx c)).made o h⟩, fun ⟨c, h⟩ hr hg' => ⟨c, (hab .done (some c) (hIx c)).wrote h hr hg'⟩⟩
      ?_ ⟨hI.grown h0 hg1, hL1, hK1, by simp⟩).mono ?_
    · rintro pre own x W ⟨hi, hl, hk, hown⟩ hlen
      have hy := run_yield (P := P) (args := encs x) hl (by rw [hrec]; exact hps x)
      rw [hrec] at hy
      refine ⟨fn, _, assign, body, hy, roundIn_of_wpIn hfn (wpIn_mono (hassign _ pre own x W hi hlen) ?_)⟩
      intro e a₁ W₁ he
      cases e with
      | normal =>
        obtain ⟨hi1, hax, hkf1, hkp1⟩ := he
        have hl1 := hkf1.same _ _ (by omega) hl rfl
        have hk1 := hkf1.same _ _ (Nat.le_refl _) hk rfl
        have hlt : w.heap.size + 1 < W₁.heap.size := (Array.getElem?_eq_some_iff.1 hl1).1
        refine ⟨_, run_beginRound hl1 (by rw [hrec]), ?_⟩
        have hl2 : (W₁.putObj (w.heap.size + 1) (.loop { rec .ready none with state := .busy })).heap[w.heap.size + 1]? = some (.loop { rec .ready none with state := .busy }) := World.putObj_heap_same hlt
        have hk2 : (W₁.putObj (w.heap.size + 1) (.loop { rec .ready none with state := .busy })).heap[w.heap.size]? = some (.deferred (some [])) := (World.putObj_heap_other (by omega)).trans hk1
        have hw2 : Kept Mut own W (W₁.putObj (w.heap.size + 1) (.loop { rec .ready none with state := .busy })) := hkp1.trans (Kept.put _ hl1 rfl)
        refine wpIn_mono (hbody _ pre own x a₁ _ (hIr _ hi1 (by omega) hl1 rfl rfl) (hAx _ hax hl1 rfl) hlen) ?_
        have fin : ∀ (jump : Option Code) (W3 : World), KeepsFrom w.heap.size (W₁.putObj (w.heap.size + 1) (.loop { rec .ready none with state := .busy })) W3 →
            (Instr.endRound (w.heap.size + 1) jump).run P W3 = .ok (.bool jump.isNone) (W3.putObj (w.heap.size + 1) (.loop (rec (if jump.isNone then .ready else .done) jump))) ∧
            W3.heap[w.heap.size + 1]? = some (.loop { rec .ready none with state := .busy }) ∧
            (W3.putObj (w.heap.size + 1) (.loop (rec (if jump.isNone then .ready else .done) jump))).heap[w.heap.size + 1]? = some (.loop (rec (if jump.isNone then .ready else .done) jump)) ∧
            (W3.putObj (w.heap.size + 1) (.loop (rec (if jump.isNone then .ready else .done) jump))).heap[w.heap.size]? = some (.deferred (some [])) := fun jump W3 hk3 => by
          have hl3 := hk3.same _ _ (by omega) hl2 rfl
          have := run_endRound (P := P) jump hl3
          rw [hrec] at this ⊢
          exact ⟨this, by rw [hrec] at hl3; exact hl3, World.putObj_heap_same (Array.getElem?_eq_some_iff.1 hl3).1, (World.putObj_heap_other (by omega)).trans (hk3.same _ _ (Nat.le_refl _) hk2 rfl)⟩
        rintro e a3 W3 hp
        cases e with
        | normal =>
          obtain ⟨hk3, hkp3, hi3⟩ := hp
          obtain ⟨hr, hl3, hl4, hk4⟩ := fin none W3 hk3
          exact ⟨_, _, hr, .inl ⟨rfl, ⟨hIr _ hi3 (by omega) hl3 rfl rfl, hl4, hk4, hown⟩, (hw2.trans hkp3).trans (Kept.put _ hl3 rfl)⟩⟩
        | ret =>
          obtain ⟨hk3, hi3⟩ := hp
          obtain ⟨hr, hl3, hl4, hk4⟩ := fin (some .ret) W3 hk3
          exact ⟨_, _, hr, .inr ⟨rfl, .ret, hIxr _ _ hi3 (by omega) hl3 rfl rfl, hl4, hk4, hown⟩⟩
        | exit id =>
          obtain ⟨hk3, hi3⟩ := hp
          obtain ⟨hr, hl3, hl4, hk4⟩ := fin (some (.exit id)) W3 hk3
          exact ⟨_, _, hr, .inr ⟨rfl, .exit id, hIxr _ _ hi3 (by omega) hl3 rfl rfl, hl4, hk4, hown⟩⟩
        | goto t =>
          obtain ⟨hk3, hi3⟩ := hp
          obtain ⟨hr, hl3, hl4, hk4⟩ := fin (some (.goto t)) W3 hk3
          exact ⟨_, _, hr, .inr ⟨rfl, .goto t, hIxr _ _ hi3 (by omega) hl3 rfl rfl, hl4, hk4, hown⟩⟩
        | panic ch => exact hp.elim
        | outgrown => exact hp.elim
      | exit id => exact he.elim
      | goto t => exact he.elim
      | ret => exact he.elim
      | panic ch => exact he.elim
      | outgrown => exact he.elim
    · rintro e W2 ⟨⟨v, rfl⟩, (⟨xs, own, hS, hi, hl, hk, _⟩ | ⟨pre, own, hSp, c, hi, hl, hk, _⟩)⟩
      · exact ⟨none, _, by have := run_endLoop (P := P) hl (by rw [hrec]; simp); rw [hrec] at this; exact this,
          hdone xs own _ hS (hIr _ hi (by omega) hl rfl rfl) ((World.putObj_heap_other (by omega)).trans hk)⟩
      · exact ⟨some c, _, by have := run_endLoop (P := P) hl (by rw [hrec]; simp); rw [hrec] at this; exact this,
          hstop c pre own _ hSp (hIxr c _ hi (by omega) hl rfl rfl) ((World.putObj_heap_other (by omega)).trans hk)⟩

end Sc
