import Derived.Test.YtajgklomcapboaaMemIn
import Derived.StillTail
import Derived.StillTailTactics
/- A region that draws its order, whose operations may make new memory and call functions that do: each operation keeps a word of its own on what it yields, whatever the order. -/
namespace Sc
open Go Go.RowKit

/-- The frame a with the slots of ds as u says. -/
def fillAct (a : Act) (ds : List Nat) (u : Nat → Value) : Act := { tmps := (a.tmps.toList.mapIdx fun t c => if ds.contains t then u t else c).toArray, defers := a.defers }

def dstOf (ops : Array Oper) (j : Nat) : Nat := match ops[j]? with
  | some o => o.dst.getD 0
  | none => 0

/-- What an operation of the head leaves. -/
def SpecPost (R : World → World → Prop) (φ : Value → World → Prop) (d : Nat) (a : Act) (w : World) : Exit → Act → World → Prop
  | .normal, a', w' => a' = a.put (some d) (a'.tmps.getD d undef) ∧ R w w' ∧ φ (a'.tmps.getD d undef) w'
  | _, _, _ => False

/-- The look at the region: the first n operations each have a slot of their own; what each waits for stands ahead of it; the rest stands in one order, behind them all. -/
def specB (ops : Array Oper) (n : Nat) (ds : List Nat) (size : Nat) : Bool :=
  decide (n < ops.size) && Region.sinkB .any ops n && Region.chainB .any ops n && Region.seqB .any ops (ops.size - n) n ((List.range ops.size).map fun i => decide (i < n)).toArray &&
  ((List.range n).all fun i => match ops[i]? with
    | some o => (o.dst == some (ds.getD i 0)) && decide (ds.getD i 0 < size) && (o.after.all fun e => decide (e.on < i)) && ((List.range n).all fun j => decide (i = j) || (ds.getD i 0 != ds.getD j 0))
    | none => false) && decide (ds.length = n)

section
variable {P : Program} {ops : Array Oper}

theorem grownBy_refl' (w : World) : w.grownBy w none := ⟨rfl, rfl, rfl, Nat.le_refl _, fun _ _ _ => rfl⟩
theorem grownBy_trans' {a b c : World} (h : a.grownBy b none) (k : b.grownBy c none) : a.grownBy c none :=
  ⟨k.os.trans h.os, k.tape.trans h.tape, k.output.trans h.output, Nat.le_trans h.size k.size, fun i hi hne => (k.block i (Nat.lt_of_lt_of_le hi h.size) hne).trans (h.block i hi hne)⟩

/-- The invariant: which slots may have turned; what is listed holds. -/
structure SpecInv (R : World → World → Prop) (a : Act) (w : World) (ds : List Nat) (n : Nat) (φ : Nat → Value → World → Prop) (listed : Array Bool) (a' : Act) (w' : World) : Prop where
  size : a'.tmps.size = a.tmps.size
  defers : a'.defers = a.defers
  same : ∀ t, t ∉ ds → a'.tmps[t]? = a.tmps[t]?
  grown : R w w'
  holds : ∀ i, i < n → listed.getD i false = true → φ i (a'.tmps.getD (ds.getD i 0) undef) w'

theorem SpecInv.fill {R : World → World → Prop} {a : Act} {w : World} {ds : List Nat} {n : Nat} {φ : Nat → Value → World → Prop} {listed : Array Bool} {a' : Act} {w' : World} (h : SpecInv R a w ds n φ listed a' w') :
    a' = fillAct a ds (fun t => a'.tmps.getD t undef) := by
  obtain ⟨tm, df⟩ := a'
  have hd : df = a.defers := h.defers
  subst hd
  unfold fillAct
  congr 1
  apply Array.ext'
  apply List.ext_getElem?
  intro t
  simp only [List.getElem?_mapIdx, Array.getElem?_toList]
  by_cases ht : t ∈ ds
  · have hs : tm.size = a.tmps.size := h.size
    by_cases hl : t < a.tmps.size
    · rw [Array.getElem?_eq_getElem (by omega), Array.getElem?_eq_getElem hl]
      simp [ht, Array.getD_eq_getD_getElem?, Array.getElem?_eq_getElem (show t < tm.size by omega)]
    · rw [Array.getElem?_eq_none (by omega), Array.getElem?_eq_none (by omega)]; rfl
  · have := h.same t ht
    show tm[t]? = _
    rw [show tm[t]? = a.tmps[t]? from this]
    cases a.tmps[t]? <;> simp [ht]

theorem wp_noexit {o : Oper} {a : Act} {w : World} {K : Act → World → Prop} {Q Q' : Exit → Act → World → Prop} (hQ : ∀ e a w, e ≠ .normal → ¬ Q' e a w) (hh : o.wp P a w K Q') : o.wp P a w K Q := by
  unfold Oper.wp at *
  generalize (execOp a.eval o).run P w = r at *
  have ho : ¬ LetsOut Q' := fun ⟨a, w, h⟩ => hQ _ a w (by simp) h
  cases r with
  | ok n w' =>
    cases n <;> simp only [Oper.upon] at hh ⊢
    case enter f args =>
      refine hh.mono fun e w'' h => ?_
      cases e with
      | returned v => exact h
      | panicked c => exact absurd h (hQ _ _ _ (by simp))
      | outgrown => exact absurd h ho
    all_goals exact hh
  | halt x w' =>
    cases x <;> simp only [Oper.upon] at hh ⊢
    exact absurd hh (hQ _ _ _ (by simp))

theorem wpOp_noexit {i : Nat} {a : Act} {w : World} {K : Act → World → Prop} {Q Q' : Exit → Act → World → Prop} (hQ : ∀ e a w, e ≠ .normal → ¬ Q' e a w) (hh : wpOp P ops Q' i K a w) : wpOp P ops Q i K a w := by
  unfold wpOp at *
  cases hi : ops[i]? with
  | none => rw [hi] at hh; exact hh
  | some o =>
    rw [hi] at hh
    simp only at hh ⊢
    split
    · rename_i hw
      rw [if_pos hw] at hh
      rcases hh with h | ⟨_, a, w, h⟩
      · exact .inl (wp_noexit hQ h)
      · exact absurd h (hQ _ _ _ (by simp))
    · rename_i hw
      rw [if_neg hw] at hh
      exact hh

theorem specPost_noexit {R : World → World → Prop} {φ : Value → World → Prop} {d : Nat} {a : Act} {w : World} : ∀ e a' w', e ≠ .normal → ¬ SpecPost R φ d a w e a' w' := by
  intro e a' w' he h
  cases e <;> first | exact he rfl | exact h

theorem spec_any {R : World → World → Prop} (hRt : ∀ a b c, R a b → R b c → R a c) {n : Nat} {ds : List Nat} {a0 : Act} {w0 : World} {φ : Nat → Value → World → Prop} {Q : Exit → Act → World → Prop} (hB : specB ops n ds a0.tmps.size = true)
    (hφ : ∀ i v w w', φ i v w → R w w' → φ i v w')
    (hstep : ∀ i o, ops[i]? = some o → i < n → ∀ (u : Nat → Value) w', R w0 w' → (∀ j, Region.waitsFor .any ops i j = true → φ j (u (ds.getD j 0)) w') →
      wpOp P ops (SpecPost R (φ i) (ds.getD i 0) (fillAct a0 ds u) w') i (SpecPost R (φ i) (ds.getD i 0) (fillAct a0 ds u) w' .normal) (fillAct a0 ds u) w')
    (hend : ∀ listed a' w', SpecInv R a0 w0 ds n φ listed a' w' → (∀ i, i < n → listed.getD i false = true) → listed = ((List.range ops.size).map fun i => decide (i < n)).toArray → wpAny P .any ops Q (ops.size - n) listed a' w') :
    ∀ (f : Nat) (listed : Array Bool) (a' : Act) (w' : World), HeadInv .any ops n listed → SpecInv R a0 w0 ds n φ listed a' w' → ((List.range n).filter fun i => !listed.getD i false).length = f → wpAny P .any ops Q (f + (ops.size - n)) listed a' w' := by
  simp only [specB, Bool.and_eq_true, decide_eq_true_eq, List.all_eq_true, List.mem_range] at hB
  obtain ⟨⟨⟨⟨⟨hn, hs⟩, hc⟩, hseq⟩, hop⟩, hdl⟩ := hB
  intro f
  induction f with
  | zero =>
    intro listed a' w' inv J hf
    have hall : ∀ i, i < n → listed.getD i false = true := fun i hi => by
      have h := List.eq_nil_of_length_eq_zero hf
      have h2 : i ∉ (List.range n).filter fun i => !listed.getD i false := by rw [h]; simp
      rw [List.mem_filter] at h2
      cases hg : listed.getD i false with
      | true => rfl
      | false => exact absurd ⟨List.mem_range.2 hi, by rw [hg]; rfl⟩ h2
    rw [Nat.zero_add]
    refine hend listed a' w' J hall ?_
    apply Array.ext'
    apply List.ext_getElem
    · simp [inv.size]
    · intro t h1 h2
      have ht : t < listed.size := by simpa using h1
      simp only [Array.getElem_toList, List.getElem_map, List.getElem_range]
      by_cases htn : t < n
      · have := hall t htn
        rw [Array.getD_eq_getD_getElem?, Array.getElem?_eq_getElem ht] at this
        simpa [htn] using this
      · have := inv.tail t (by omega) (by rw [← inv.size]; exact ht)
        rw [Array.getD_eq_getD_getElem?, Array.getElem?_eq_getElem ht] at this
        simpa [htn] using this
  | succ f ih =>
    intro listed a' w' inv J hf
    -- the first that is not yet listed
    have hex : ∃ i, i < n ∧ listed.getD i false = false := by
      have : (List.range n).filter (fun i => !listed.getD i false) ≠ [] := fun h => by rw [h] at hf; cases hf
      obtain ⟨i, hi⟩ := List.exists_mem_of_ne_nil _ this
      rw [List.mem_filter, List.mem_range] at hi
      exact ⟨i, hi.1, by simpa using hi.2⟩
    obtain ⟨i0, hi0, hu0⟩ := hex
    have hinS : ∀ {i}, i < n → i < listed.size := fun hi => by rw [inv.size]; omega
    have hready : Region.ready .any ops listed ≠ [] := by
      -- the least
      have : ∃ i, (i < n ∧ listed.getD i false = false) ∧ ∀ j, j < i → ¬ (j < n ∧ listed.getD j false = false) := by
        clear hf
        induction i0 using Nat.strongRecOn with
        | _ k ihk =>
          by_cases h : ∃ j, j < k ∧ j < n ∧ listed.getD j false = false
          · obtain ⟨j, hj, a, b⟩ := h; exact ihk j hj a b
          · exact ⟨k, ⟨hi0, hu0⟩, fun j hj ⟨a, b⟩ => h ⟨j, hj, a, b⟩⟩
      obtain ⟨i, ⟨hi, hu⟩, hmin⟩ := this
      have ho := hop i hi
      cases hoi : ops[i]? with
      | none => rw [hoi] at ho; cases ho
      | some o =>
        rw [hoi] at ho
        simp only [Bool.and_eq_true, List.all_eq_true, decide_eq_true_eq] at ho
        have : i ∈ Region.ready .any ops listed := mem_ready.2 ⟨getD_in (hinS hi) hu, o, hoi, fun e he hb => by
          have h1 : e.on < i := by have := Array.all_eq_true_iff_forall_mem.1 ho.1.2 e he; simpa using this
          have := hmin e.on h1
          cases hg : listed.getD e.on false with
          | true => rfl
          | false => exact absurd ⟨by omega, hg⟩ this⟩
        intro h0; rw [h0] at this; cases this
    rw [show f + 1 + (ops.size - n) = (f + (ops.size - n)) + 1 by omega]
    refine ⟨fun h => absurd h hready, fun i hi => ?_⟩
    have hin : i < n := by
      rcases Nat.lt_or_ge i n with h | h
      · exact h
      · exact absurd hi (tail_waits hs hc hn inv _ i0 rfl hi0 (getD_in (hinS hi0) hu0) i h)
    obtain ⟨hiu, o, hoi, hall⟩ := mem_ready.1 hi
    have ho := hop i hin
    rw [hoi] at ho
    simp only [Bool.and_eq_true, List.all_eq_true, decide_eq_true_eq, beq_iff_eq, List.mem_range, Bool.or_eq_true, bne_iff_ne] at ho
    obtain ⟨⟨⟨hdst, hdsz⟩, haft⟩, hdist⟩ := ho
    have hfill := J.fill
    have hdep : ∀ j, Region.waitsFor .any ops i j = true → φ j ((fun t => a'.tmps.getD t undef) (ds.getD j 0)) w' := fun j hj => by
      obtain ⟨o', ho', e, he, hb, hon⟩ := Region.waitsFor_spec hj
      have : o' = o := Option.some.inj (ho'.symm.trans hoi)
      subst this
      have h1 := hall e he hb
      rw [hon] at h1
      have h2 : e.on < i := by have := Array.all_eq_true_iff_forall_mem.1 haft e he; simpa using this
      rw [hon] at h2
      exact J.holds j (by omega) h1
    have hst := hstep i o hoi hin (fun t => a'.tmps.getD t undef) w' J.grown hdep
    rw [← hfill] at hst
    refine wpOp_noexit specPost_noexit (wpOp_mono ?_ hst)
    rintro a'' w'' ⟨ha, hg, hp⟩
    have hmem : ds.getD i 0 ∈ ds := by
      rw [List.getD_eq_getElem?_getD, List.getElem?_eq_getElem (by omega)]; exact List.getElem_mem _
    have hsz : a''.tmps.size = a'.tmps.size := by rw [ha]; simp [Act.put]
    have hother : ∀ t, t ≠ ds.getD i 0 → a''.tmps[t]? = a'.tmps[t]? := fun t ht => by
      rw [ha]; simp only [Act.put]; rw [Array.getElem?_setIfInBounds_ne (Ne.symm ht)]
    refine ih (listed.setIfInBounds i true) a'' w'' (inv.set hi hin) ⟨hsz.trans J.size, by rw [ha]; exact J.defers, fun t ht => (hother t (fun e => ht (e ▸ hmem))).trans (J.same t ht), hRt _ _ _ J.grown hg, fun j hj hl => ?_⟩ ?_
    · by_cases hji : j = i
      · subst hji; exact hp
      · have hl' : listed.getD j false = true := by rwa [getD_set_ne false (Ne.symm hji)] at hl
        have hne : ds.getD j 0 ≠ ds.getD i 0 := fun e => by
          rcases hdist j hj with h | h
          · exact hji h.symm
          · exact h e.symm
        have := hφ j _ w' w'' (J.holds j hj hl') hg
        rw [Array.getD_eq_getD_getElem?, hother _ hne, ← Array.getD_eq_getD_getElem?]
        exact this
    · have e : ((List.range n).filter fun k => !(listed.setIfInBounds i true).getD k false) = ((List.range n).filter fun k => !listed.getD k false).filter fun k => k != i := by
        rw [List.filter_filter]
        apply List.filter_congr
        intro k hk
        by_cases hki : k = i
        · subst hki
          have : (listed.setIfInBounds k true).getD k false = true := by
            rw [Array.getD_eq_getD_getElem?, Array.getElem?_setIfInBounds_self_of_lt (hinS hin)]; rfl
          rw [this]; simp
        · rw [getD_set_ne false (fun e => hki e.symm)]; simp [hki]
      rw [e]
      have hnd : ((List.range n).filter fun k => !listed.getD k false).Nodup := (List.filter_sublist).nodup List.nodup_range
      have hmi : i ∈ (List.range n).filter fun k => !listed.getD k false := by
        rw [List.mem_filter, List.mem_range]; exact ⟨hin, by rw [getD_both hiu]; rfl⟩
      rw [← hnd.erase_eq_filter, List.length_erase_of_mem hmi, hf]; rfl

/-- **A REGION THAT DRAWS, BY A WORD FOR EACH OPERATION.** -/
theorem wp_region_specsR {R : World → World → Prop} (hRt : ∀ a b c, R a b → R b c → R a c) {id : Nat} {Q : Exit → Act → World → Prop} {a : Act} {w : World} {l : List Oper} (n : Nat) (ds : List Nat) (hm : P.follows .mixedOrders = true) (hR0 : R w { w with drawn := w.drawn + 1 }) (hB : specB l.toArray n ds a.tmps.size = true)
    (φ : Nat → Value → World → Prop) (hφ : ∀ i v w w', φ i v w → R w w' → φ i v w')
    (hstep : ∀ i o, l[i]? = some o → i < n → ∀ (u : Nat → Value) w', R w w' → (∀ j, Region.waitsFor .any l.toArray i j = true → φ j (u (ds.getD j 0)) w') →
      wpList P l.toArray (SpecPost R (φ i) (ds.getD i 0) (fillAct a ds u) w') [o] (fillAct a ds u) w')
    (hend : ∀ (u : Nat → Value) w', R w w' → (∀ i, i < n → φ i (u (ds.getD i 0)) w') → wpList P l.toArray Q (l.drop n) (fillAct a ds u) w') : (Code.region id l.toArray true).wp P Q a w := by
  have hB' := hB
  simp only [specB, Bool.and_eq_true, decide_eq_true_eq] at hB
  obtain ⟨⟨⟨⟨⟨hn, hs⟩, hc⟩, hseq⟩, hop⟩, hdl⟩ := hB
  have hdn : (l.drop n).length = l.toArray.size - n := by simp
  refine wp_region_any hm ?_
  have inv0 : HeadInv .any l.toArray n (Array.replicate l.toArray.size false) :=
    ⟨by simp, fun j oj _ hl => (by rw [getD_replicate_false] at hl; cases hl), fun t _ ht => getD_in (by simpa using ht) (getD_replicate_false _ _)⟩
  have J0 : SpecInv R a w ds n φ (Array.replicate l.toArray.size false) a { w with drawn := w.drawn + 1 } :=
    ⟨rfl, rfl, fun _ _ => rfl, hR0, fun i _ h => (by rw [getD_replicate_false] at h; cases h)⟩
  have hlen : ((List.range n).filter fun i => !(Array.replicate l.toArray.size false).getD i false).length = n := by
    rw [List.filter_eq_self.2 (fun i _ => by rw [getD_replicate_false]; rfl), List.length_range]
  have := spec_any hRt (P := P) (Q := Q) hB' hφ (fun i o ho hi u w' hg hd => by
    have h := hstep i o (by simpa using ho) hi u w' hg hd
    unfold wpOp
    simp only [ho]
    exact h) (fun listed a' w' J hall hl => by
      have h := hend (fun t => a'.tmps.getD t undef) w' J.grown (fun i hi => J.holds i hi (hall i hi))
      rw [← J.fill] at h
      have := wpAny_of_seq (P := P) (md := .any) (ops := l.toArray) (Q' := Q) (l.drop n) n listed a' w' (fun j => by simp [List.getElem?_drop]) (by rw [hdn, hl]; exact hseq) h
      rwa [hdn] at this) n _ a _ inv0 J0 hlen
  rwa [show n + (l.toArray.size - n) = l.toArray.size by omega] at this

/-- The world only grows. -/
def Gr (w w' : World) : Prop := w.grownBy w' none
theorem wp_region_specs {id : Nat} {Q : Exit → Act → World → Prop} {a : Act} {w : World} {l : List Oper} (n : Nat) (ds : List Nat) (hm : P.follows .mixedOrders = true) (hB : specB l.toArray n ds a.tmps.size = true)
    (φ : Nat → Value → World → Prop) (hφ : ∀ i v w w', φ i v w → Gr w w' → φ i v w')
    (hstep : ∀ i o, l[i]? = some o → i < n → ∀ (u : Nat → Value) w', Gr w w' → (∀ j, Region.waitsFor .any l.toArray i j = true → φ j (u (ds.getD j 0)) w') →
      wpList P l.toArray (SpecPost Gr (φ i) (ds.getD i 0) (fillAct a ds u) w') [o] (fillAct a ds u) w')
    (hend : ∀ (u : Nat → Value) w', Gr w w' → (∀ i, i < n → φ i (u (ds.getD i 0)) w') → wpList P l.toArray Q (l.drop n) (fillAct a ds u) w') : (Code.region id l.toArray true).wp P Q a w :=
  wp_region_specsR (R := Gr) (fun _ _ _ h k => gb_trans h k) n ds hm (gb_drew (gb_refl w none)) hB φ hφ hstep hend
end
end Sc
