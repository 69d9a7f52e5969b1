import Derived.Test.YtajgklomcapboaaSpecs
/- As XSpecs, each operation with a relation of its own between the worlds: what an operation keeps of those that do not wait for it. -/
namespace Sc
open Go Go.RowKit
/-- Whose word is no longer asked for once another is listed: 'dead j k'. -/
def deadB (ops : Array Oper) (n : Nat) (dead : Nat → Nat → Bool) : Bool :=
  (List.range n).all fun i => (List.range n).all fun j => (List.range n).all fun k => !Region.waitsFor .any ops i j || !dead j k || decide (k = i)
section
variable {P : Program} {ops : Array Oper}
structure SpecInvD (R : World → World → Prop) (dead : Nat → Nat → Bool) (a : Act) (w : World) (ds : List Nat) (n : Nat) (φ : Nat → Value → World → Prop) (listed : Array Bool) (a' : Act) (w' : World) : Prop where
  size : a'.tmps.size = a.tmps.size
  defers : a'.defers = a.defers
  same : ∀ t, t ∉ ds → a'.tmps[t]? = a.tmps[t]?
  grown : R w w'
  holds : ∀ i, i < n → listed.getD i false = true → (∀ k, k < n → dead i k = true → listed.getD k false = false) → φ i (a'.tmps.getD (ds.getD i 0) undef) w'
theorem SpecInvD.fill {R : World → World → Prop} {dead : Nat → Nat → Bool} {a : Act} {w : World} {ds : List Nat} {n : Nat} {φ : Nat → Value → World → Prop} {listed : Array Bool} {a' : Act} {w' : World} (h : SpecInvD R dead a w ds n φ listed a' w') :
    a' = fillAct a ds (fun t => a'.tmps.getD t undef) :=
  SpecInv.fill (R := R) (φ := fun _ _ _ => True) (n := n) (listed := listed) ⟨h.size, h.defers, h.same, h.grown, fun _ _ _ => trivial⟩
theorem dead_spec {n : Nat} {dead : Nat → Nat → Bool} (h : deadB ops n dead = true) {i j k : Nat} (hi : i < n) (hj : j < n) (hk : k < n) (hw : Region.waitsFor .any ops i j = true) (hd : dead j k = true) : k = i := by
  unfold deadB at h
  rw [List.all_eq_true] at h
  have h1 := h i (List.mem_range.2 hi)
  rw [List.all_eq_true] at h1
  have h2 := h1 j (List.mem_range.2 hj)
  rw [List.all_eq_true] at h2
  have h3 := h2 k (List.mem_range.2 hk)
  rw [hw, hd] at h3
  simpa using h3
theorem spec_anyI {Ra : World → World → Prop} {R : Nat → World → World → Prop} (hRt : ∀ a b c, Ra a b → Ra b c → Ra a c) (hRi : ∀ i a b, R i a b → Ra a b) {n : Nat} {ds : List Nat} {a0 : Act} {w0 : World} {φ : Nat → Value → World → Prop} {Q : Exit → Act → World → Prop} (hB : specB ops n ds a0.tmps.size = true) {dead : Nat → Nat → Bool} (hD : deadB ops n dead = true)
    (hφ : ∀ j i v w w', j ≠ i → Region.waitsFor .any ops j i = false → dead j i = false → φ j v w → R i w w' → φ j v w')
    (hstep : ∀ i o, ops[i]? = some o → i < n → ∀ (u : Nat → Value) w', Ra w0 w' → (∀ j, Region.waitsFor .any ops i j = true → φ j (u (ds.getD j 0)) w') →
      wpOp P ops (SpecPost (R i) (φ i) (ds.getD i 0) (fillAct a0 ds u) w') i (SpecPost (R i) (φ i) (ds.getD i 0) (fillAct a0 ds u) w' .normal) (fillAct a0 ds u) w')
    (hend : ∀ listed a' w', SpecInvD Ra dead a0 w0 ds n φ listed a' w' → (∀ i, i < n → listed.getD i false = true) → listed = ((List.range ops.size).map fun i => decide (i < n)).toArray → wpAny P .any ops Q (ops.size - n) listed a' w') :
    ∀ (f : Nat) (listed : Array Bool) (a' : Act) (w' : World), HeadInv .any ops n listed → SpecInvD Ra dead a0 w0 ds n φ listed a' w' → ((List.range n).filter fun i => !listed.getD i false).length = f → wpAny P .any ops Q (f + (ops.size - n)) listed a' w' := by
  simp only [specB, Bool.and_eq_true, decide_eq_true_eq, List.all_eq_true, List.mem_range] at hB
  obtain ⟨⟨⟨⟨⟨hn, hs⟩, hc⟩, hseq⟩, hop⟩, hdl⟩ := hB
  intro f
  induction f with
  | zero =>
    intro listed a' w' inv J hf
    have hall : ∀ i, i < n → listed.getD i false = true := fun i hi => by
      have h := List.eq_nil_of_length_eq_zero hf
      have h2 : i ∉ (List.range n).filter fun i => !listed.getD i false := by rw [h]; simp
      rw [List.mem_filter] at h2
      cases hg : listed.getD i false with
      | true => rfl
      | false => exact absurd ⟨List.mem_range.2 hi, by rw [hg]; rfl⟩ h2
    rw [Nat.zero_add]
    refine hend listed a' w' J hall ?_
    apply Array.ext'
    apply List.ext_getElem
    · simp [inv.size]
    · intro t h1 h2
      have ht : t < listed.size := by simpa using h1
      simp only [Array.getElem_toList, List.getElem_map, List.getElem_range]
      by_cases htn : t < n
      · have := hall t htn
        rw [Array.getD_eq_getD_getElem?, Array.getElem?_eq_getElem ht] at this
        simpa [htn] using this
      · have := inv.tail t (by omega) (by rw [← inv.size]; exact ht)
        rw [Array.getD_eq_getD_getElem?, Array.getElem?_eq_getElem ht] at this
        simpa [htn] using this
  | succ f ih =>
    intro listed a' w' inv J hf
    -- the first that is not yet listed
    have hex : ∃ i, i < n ∧ listed.getD i false = false := by
      have : (List.range n).filter (fun i => !listed.getD i false) ≠ [] := fun h => by rw [h] at hf; cases hf
      obtain ⟨i, hi⟩ := List.exists_mem_of_ne_nil _ this
      rw [List.mem_filter, List.mem_range] at hi
      exact ⟨i, hi.1, by simpa using hi.2⟩
    obtain ⟨i0, hi0, hu0⟩ := hex
    have hinS : ∀ {i}, i < n → i < listed.size := fun hi => by rw [inv.size]; omega
    have hready : Region.ready .any ops listed ≠ [] := by
      -- the least
      have : ∃ i, (i < n ∧ listed.getD i false = false) ∧ ∀ j, j < i → ¬ (j < n ∧ listed.getD j false = false) := by
        clear hf
        induction i0 using Nat.strongRecOn with
        | _ k ihk =>
          by_cases h : ∃ j, j < k ∧ j < n ∧ listed.getD j false = false
          · obtain ⟨j, hj, a, b⟩ := h; exact ihk j hj a b
          · exact ⟨k, ⟨hi0, hu0⟩, fun j hj ⟨a, b⟩ => h ⟨j, hj, a, b⟩⟩
      obtain ⟨i, ⟨hi, hu⟩, hmin⟩ := this
      have ho := hop i hi
      cases hoi : ops[i]? with
      | none => rw [hoi] at ho; cases ho
      | some o =>
        rw [hoi] at ho
        simp only [Bool.and_eq_true, List.all_eq_true, decide_eq_true_eq] at ho
        have : i ∈ Region.ready .any ops listed := mem_ready.2 ⟨getD_in (hinS hi) hu, o, hoi, fun e he hb => by
          have h1 : e.on < i := by have := Array.all_eq_true_iff_forall_mem.1 ho.1.2 e he; simpa using this
          have := hmin e.on h1
          cases hg : listed.getD e.on false with
          | true => rfl
          | false => exact absurd ⟨by omega, hg⟩ this⟩
        intro h0; rw [h0] at this; cases this
    rw [show f + 1 + (ops.size - n) = (f + (ops.size - n)) + 1 by omega]
    refine ⟨fun h => absurd h hready, fun i hi => ?_⟩
    have hin : i < n := by
      rcases Nat.lt_or_ge i n with h | h
      · exact h
      · exact absurd hi (tail_waits hs hc hn inv _ i0 rfl hi0 (getD_in (hinS hi0) hu0) i h)
    obtain ⟨hiu, o, hoi, hall⟩ := mem_ready.1 hi
    have ho := hop i hin
    rw [hoi] at ho
    simp only [Bool.and_eq_true, List.all_eq_true, decide_eq_true_eq, beq_iff_eq, List.mem_range, Bool.or_eq_true, bne_iff_ne] at ho
    obtain ⟨⟨⟨hdst, hdsz⟩, haft⟩, hdist⟩ := ho
    have hfill := J.fill
    have hdep : ∀ j, Region.waitsFor .any ops i j = true → φ j ((fun t => a'.tmps.getD t undef) (ds.getD j 0)) w' := fun j hj => by
      obtain ⟨o', ho', e, he, hb, hon⟩ := Region.waitsFor_spec hj
      have : o' = o := Option.some.inj (ho'.symm.trans hoi)
      subst this
      have h1 := hall e he hb
      rw [hon] at h1
      have h2 : e.on < i := by have := Array.all_eq_true_iff_forall_mem.1 haft e he; simpa using this
      rw [hon] at h2
      refine J.holds j (by omega) h1 fun k hk hdk => ?_
      have := dead_spec hD hin (show j < n by omega) hk hj hdk
      subst this
      exact getD_both hiu
    have hst := hstep i o hoi hin (fun t => a'.tmps.getD t undef) w' J.grown hdep
    rw [← hfill] at hst
    refine wpOp_noexit specPost_noexit (wpOp_mono ?_ hst)
    rintro a'' w'' ⟨ha, hg, hp⟩
    have hmem : ds.getD i 0 ∈ ds := by
      rw [List.getD_eq_getElem?_getD, List.getElem?_eq_getElem (by omega)]; exact List.getElem_mem _
    have hsz : a''.tmps.size = a'.tmps.size := by rw [ha]; simp [Act.put]
    have hother : ∀ t, t ≠ ds.getD i 0 → a''.tmps[t]? = a'.tmps[t]? := fun t ht => by
      rw [ha]; simp only [Act.put]; rw [Array.getElem?_setIfInBounds_ne (Ne.symm ht)]
    refine ih (listed.setIfInBounds i true) a'' w'' (inv.set hi hin) ⟨hsz.trans J.size, by rw [ha]; exact J.defers, fun t ht => (hother t (fun e => ht (e ▸ hmem))).trans (J.same t ht), hRt _ _ _ J.grown (hRi _ _ _ hg), fun j hj hl hdl => ?_⟩ ?_
    · by_cases hji : j = i
      · subst hji; exact hp
      · have hl' : listed.getD j false = true := by rwa [getD_set_ne false (Ne.symm hji)] at hl
        have hne : ds.getD j 0 ≠ ds.getD i 0 := fun e => by
          rcases hdist j hj with h | h
          · exact hji h.symm
          · exact h e.symm
        have hnw : Region.waitsFor .any ops j i = false := by
          cases hw : Region.waitsFor .any ops j i with
          | false => rfl
          | true =>
            obtain ⟨oj, hoj, e, he, hb, hon⟩ := Region.waitsFor_spec hw
            have h1 := inv.closed j oj hoj hl' e he hb
            rw [hon] at h1
            have h2 := getD_both hiu
            rw [h1] at h2; cases h2
        have hk0 : ∀ k, (listed.setIfInBounds i true).getD k false = false → listed.getD k false = false := fun k h => by
          by_cases e : k = i
          · subst e; exact getD_both hiu
          · rwa [getD_set_ne false (fun h => e h.symm)] at h
        have hdi : dead j i = false := by
          cases hd : dead j i with
          | false => rfl
          | true =>
            have := hdl i hin hd
            rw [Array.getD_eq_getD_getElem?, Array.getElem?_setIfInBounds_self_of_lt (hinS hin)] at this; cases this
        have := hφ j i _ w' w'' hji hnw hdi (J.holds j hj hl' fun k hk hdk => hk0 k (hdl k hk hdk)) hg
        rw [Array.getD_eq_getD_getElem?, hother _ hne, ← Array.getD_eq_getD_getElem?]
        exact this
    · have e : ((List.range n).filter fun k => !(listed.setIfInBounds i true).getD k false) = ((List.range n).filter fun k => !listed.getD k false).filter fun k => k != i := by
        rw [List.filter_filter]
        apply List.filter_congr
        intro k hk
        by_cases hki : k = i
        · subst hki
          have : (listed.setIfInBounds k true).getD k false = true := by
            rw [Array.getD_eq_getD_getElem?, Array.getElem?_setIfInBounds_self_of_lt (hinS hin)]; rfl
          rw [this]; simp
        · rw [getD_set_ne false (fun e => hki e.symm)]; simp [hki]
      rw [e]
      have hnd : ((List.range n).filter fun k => !listed.getD k false).Nodup := (List.filter_sublist).nodup List.nodup_range
      have hmi : i ∈ (List.range n).filter fun k => !listed.getD k false := by
        rw [List.mem_filter, List.mem_range]; exact ⟨hin, by rw [getD_both hiu]; rfl⟩
      rw [← hnd.erase_eq_filter, List.length_erase_of_mem hmi, hf]; rfl

/-- **A REGION THAT DRAWS, BY A WORD FOR EACH OPERATION.** -/
theorem wp_region_specsI {Ra : World → World → Prop} {R : Nat → World → World → Prop} (hRt : ∀ a b c, Ra a b → Ra b c → Ra a c) (hRi : ∀ i a b, R i a b → Ra a b) {id : Nat} {Q : Exit → Act → World → Prop} {a : Act} {w : World} {l : List Oper} (n : Nat) (ds : List Nat) (hm : P.follows .mixedOrders = true) (hR0 : Ra w { w with drawn := w.drawn + 1 }) (hB : specB l.toArray n ds a.tmps.size = true) (dead : Nat → Nat → Bool) (hD : deadB l.toArray n dead = true)
    (φ : Nat → Value → World → Prop) (hφ : ∀ j i v w w', j ≠ i → Region.waitsFor .any l.toArray j i = false → dead j i = false → φ j v w → R i w w' → φ j v w')
    (hstep : ∀ i o, l[i]? = some o → i < n → ∀ (u : Nat → Value) w', Ra w w' → (∀ j, Region.waitsFor .any l.toArray i j = true → φ j (u (ds.getD j 0)) w') →
      wpList P l.toArray (SpecPost (R i) (φ i) (ds.getD i 0) (fillAct a ds u) w') [o] (fillAct a ds u) w')
    (hend : ∀ (u : Nat → Value) w', Ra w w' → (∀ i, i < n → (∀ k, k < n → dead i k = false) → φ i (u (ds.getD i 0)) w') → wpList P l.toArray Q (l.drop n) (fillAct a ds u) w') : (Code.region id l.toArray true).wp P Q a w := by
  have hB' := hB
  simp only [specB, Bool.and_eq_true, decide_eq_true_eq] at hB
  obtain ⟨⟨⟨⟨⟨hn, hs⟩, hc⟩, hseq⟩, hop⟩, hdl⟩ := hB
  have hdn : (l.drop n).length = l.toArray.size - n := by simp
  refine wp_region_any hm ?_
  have inv0 : HeadInv .any l.toArray n (Array.replicate l.toArray.size false) :=
    ⟨by simp, fun j oj _ hl => (by rw [getD_replicate_false] at hl; cases hl), fun t _ ht => getD_in (by simpa using ht) (getD_replicate_false _ _)⟩
  have J0 : SpecInvD Ra dead a w ds n φ (Array.replicate l.toArray.size false) a { w with drawn := w.drawn + 1 } :=
    ⟨rfl, rfl, fun _ _ => rfl, hR0, fun i _ h _ => (by rw [getD_replicate_false] at h; cases h)⟩
  have hlen : ((List.range n).filter fun i => !(Array.replicate l.toArray.size false).getD i false).length = n := by
    rw [List.filter_eq_self.2 (fun i _ => by rw [getD_replicate_false]; rfl), List.length_range]
  have := spec_anyI hRt hRi (P := P) (Q := Q) hB' hD hφ (fun i o ho hi u w' hg hd => by
    have h := hstep i o (by simpa using ho) hi u w' hg hd
    unfold wpOp
    simp only [ho]
    exact h) (fun listed a' w' J hall hl => by
      have h := hend (fun t => a'.tmps.getD t undef) w' J.grown (fun i hi hd => J.holds i hi (hall i hi) fun k hk h => by rw [hd k hk] at h; cases h)
      rw [← J.fill] at h
      have := wpAny_of_seq (P := P) (md := .any) (ops := l.toArray) (Q' := Q) (l.drop n) n listed a' w' (fun j => by simp [List.getElem?_drop]) (by rw [hdn, hl]; exact hseq) h
      rwa [hdn] at this) n _ a _ inv0 J0 hlen
  rwa [show n + (l.toArray.size - n) = l.toArray.size by omega] at this

end
end Sc
