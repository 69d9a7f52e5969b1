import Derived.Test.YtajgklomcapboaaSpecs
/- A region in its own order, by a word for each operation (as XSpecs does for those that draw their order). -/
namespace Sc
open Go Go.RowKit
/-- The look at the region. -/
def specBL (l : List Oper) (n : Nat) (ds : List Nat) (size : Nat) : Bool :=
  decide (n ≤ l.length) && ((List.range n).all fun i => match l[i]? with
    | some o => (o.dst == some (ds.getD i 0)) && decide (ds.getD i 0 < size) && ((List.range n).all fun j => decide (i = j) || (ds.getD i 0 != ds.getD j 0))
    | none => false) && decide (ds.length = n)
section
variable {P : Program}
theorem wpList_one_noexit {ops : Array Oper} {o : Oper} {rest : List Oper} {a : Act} {w : World} {Q Q' : Exit → Act → World → Prop} (hQ : ∀ e a w, e ≠ .normal → ¬ Q' e a w) (h : wpList P ops Q' [o] a w)
    (hk : ∀ a' w', Q' .normal a' w' → wpList P ops Q rest a' w') : wpList P ops Q (o :: rest) a w := by
  unfold wpList at h ⊢
  split
  · rename_i hw
    rw [if_pos hw] at h
    rcases h with h | ⟨_, a1, w1, h⟩
    · refine .inl (wp_noexit hQ (Oper.wp_mono (fun a' w' h' => hk a' w' ?_) h))
      exact h'
    · exact absurd h (hQ _ _ _ (by simp))
  · rename_i hw
    rw [if_neg hw] at h
    exact hk _ _ h
/-- **A REGION IN ITS OWN ORDER, BY A WORD FOR EACH OPERATION.** -/
theorem wp_region_specsL {id : Nat} {Q : Exit → Act → World → Prop} {a : Act} {w : World} {l : List Oper} (n : Nat) (ds : List Nat) (hB : specBL l n ds a.tmps.size = true)
    (φ : Nat → Value → World → Prop) (hφ : ∀ i v w w', φ i v w → Gr w w' → φ i v w')
    (hstep : ∀ i o, l[i]? = some o → i < n → ∀ (u : Nat → Value) w', Gr w w' → (∀ j, decide (j < i) = true → φ j (u (ds.getD j 0)) w') →
      wpList P l.toArray (SpecPost Gr (φ i) (ds.getD i 0) (fillAct a ds u) w') [o] (fillAct a ds u) w')
    (hend : ∀ (u : Nat → Value) w', Gr w w' → (∀ i, i < n → φ i (u (ds.getD i 0)) w') → wpList P l.toArray Q (l.drop n) (fillAct a ds u) w') : (Code.region id l.toArray false).wp P Q a w := by
  simp only [specBL, Bool.and_eq_true, decide_eq_true_eq, List.all_eq_true, List.mem_range] at hB
  obtain ⟨⟨hn, hop⟩, hdl⟩ := hB
  have key : ∀ k i, i + k = n → ∀ a' w', SpecInv Gr a w ds 0 φ #[] a' w' → (∀ j, j < i → φ j (a'.tmps.getD (ds.getD j 0) undef) w') → wpList P l.toArray Q (l.drop i) a' w' := by
    intro k
    induction k with
    | zero =>
      intro i hi a' w' J hh
      obtain rfl : i = n := by omega
      have h := hend (fun t => a'.tmps.getD t undef) w' J.grown hh
      rw [← J.fill] at h
      exact h
    | succ k ih =>
      intro i hi a' w' J hh
      have hil : i < l.length := by omega
      have ho := hop i (by omega)
      rw [List.getElem?_eq_getElem hil] at ho
      simp only [Bool.and_eq_true, List.all_eq_true, decide_eq_true_eq, beq_iff_eq, List.mem_range, Bool.or_eq_true, bne_iff_ne] at ho
      obtain ⟨⟨hdst, hdsz⟩, hdist⟩ := ho
      have hst := hstep i l[i] (List.getElem?_eq_getElem hil) (by omega) (fun t => a'.tmps.getD t undef) w' J.grown (fun j hj => hh j (of_decide_eq_true hj))
      rw [← J.fill] at hst
      rw [List.drop_eq_getElem_cons hil]
      refine wpList_one_noexit specPost_noexit hst ?_
      rintro a'' w'' ⟨ha, hg, hp⟩
      have hmem : ds.getD i 0 ∈ ds := by
        rw [List.getD_eq_getElem?_getD, List.getElem?_eq_getElem (by omega)]; exact List.getElem_mem _
      have hsz : a''.tmps.size = a'.tmps.size := by rw [ha]; simp [Act.put]
      have hother : ∀ t, t ≠ ds.getD i 0 → a''.tmps[t]? = a'.tmps[t]? := fun t ht => by
        rw [ha]; simp only [Act.put]; rw [Array.getElem?_setIfInBounds_ne (Ne.symm ht)]
      refine ih (i + 1) (by omega) a'' w'' ⟨hsz.trans J.size, by rw [ha]; exact J.defers, fun t ht => (hother t (fun e => ht (e ▸ hmem))).trans (J.same t ht), gb_trans J.grown hg, fun j hj => absurd hj (Nat.not_lt_zero j)⟩ ?_
      intro j hj
      by_cases hji : j = i
      · subst hji; exact hp
      · have hne : ds.getD j 0 ≠ ds.getD i 0 := fun e => by
          rcases hdist j (by omega) with h | h
          · exact hji h.symm
          · exact h e.symm
        have := hφ j _ w' w'' (hh j (by omega)) hg
        rw [Array.getD_eq_getD_getElem?, hother _ hne, ← Array.getD_eq_getD_getElem?]
        exact this
  refine wp_region_lit ?_
  have := key n 0 (Nat.zero_add n) a w ⟨rfl, rfl, fun _ _ => rfl, gb_refl w none, fun j hj => absurd hj (Nat.not_lt_zero j)⟩ (fun j hj => absurd hj (Nat.not_lt_zero j))
  simpa using this
end
end Sc
