/- ShortLeads returns true for every input, and its arguments read as they did. Conditions: none. -/
import Derived.Test.YtajgklomcapboaaOwBB
import Derived.Test.YtajgklomcapboaaSpecs
import Derived.Test.YtajgklomcapboaaCuts
import Derived.Test.YtajgklomcapboaaRefTree
import Derived.Test.YtajgklomcapboaaGuard
import Derived.Laws.ResultCell
import Derived.Test.YtajgklomcapboaaOpen
/- An own list of bytes' slices, some of them made on the way. -/
namespace Sc
open Go Go.RowKit
def OwX (B : Nat) (w : World) (v : Value) (ls : List (List UInt8)) : Prop :=
  ∃ vs : List Value, Ow B w 1 v ls.length vs ∧ ∀ (j : Nat) (l : List UInt8), ls[j]? = some l → ∃ u, vs[j]? = some u ∧ RdB (fun b => b < w.heap.size ∧ v.ownBlock ≠ some b) w u l
section
variable {B : Nat} {w w' : World} {v v' : Value} {ls ms : List (List UInt8)}
theorem OwX.gr (h : OwX B w v ls) (hg : w.grownBy w' none) : OwX B w' v ls := by
  obtain ⟨vs, h1, h2⟩ := h
  refine ⟨vs, h1.grown hg (fun _ _ => by simp), fun j l hl => ?_⟩
  obtain ⟨u, hu, hb⟩ := h2 j l hl
  exact ⟨u, hu, Rd.mono (Rd.grown hb hg (by simp)) fun b hb => ⟨Nat.lt_of_lt_of_le hb.1 hg.size, hb.2⟩⟩
theorem OwX.rd (h : OwX B w v ls) : RdBB (fun b => b < w.heap.size) w v ls := by
  obtain ⟨vs, h1, h2⟩ := h
  refine ⟨vs, h1.rd (fun b hb => (h1.lt hb).2), fun j l hl => ?_⟩
  obtain ⟨u, hu, hb⟩ := h2 j l hl
  exact ⟨u, hu, Rd.mono hb fun b hb => hb.1⟩
/-- Behind an append: vs, us are the cells of before, and those that came. -/
theorem OwX.snocs {vs us : List Value} {n : Nat} (hl : vs.length = ls.length) (hn : n = ls.length + ms.length)
    (h : ∀ (j : Nat) (l : List UInt8), ls[j]? = some l → ∃ u, vs[j]? = some u ∧ RdB (fun b => b < w.heap.size ∧ v.ownBlock ≠ some b) w u l)
    (hu : ∀ (j : Nat) (l : List UInt8), ms[j]? = some l → ∃ u, us[j]? = some u ∧ RdB (fun b => b < w.heap.size ∧ v.ownBlock ≠ some b) w u l)
    (ho : Ow B w' 1 v' n (vs ++ us)) (hg : w.grownBy w' v.ownBlock) (hb : v'.ownBlock = v.ownBlock ∨ v'.ownBlock = some w.heap.size) : OwX B w' v' (ls ++ ms) := by
  have key : ∀ u l, RdB (fun b => b < w.heap.size ∧ v.ownBlock ≠ some b) w u l → RdB (fun b => b < w'.heap.size ∧ v'.ownBlock ≠ some b) w' u l := fun u l hr =>
    Rd.mono (Rd.grown hr hg (fun r hr h => h.2 hr)) fun b h => ⟨Nat.lt_of_lt_of_le h.1 hg.size, by
      rcases hb with e | e
      · rw [e]; exact h.2
      · rw [e]; intro e2; have := Option.some.inj e2; have := h.1; omega⟩
  refine ⟨vs ++ us, by rw [List.length_append, ← hn]; exact ho, fun j l hj => ?_⟩
  rw [List.getElem?_append] at hj
  split at hj
  · rename_i hlt
    obtain ⟨u, hu', hr⟩ := h j l hj
    exact ⟨u, by rw [List.getElem?_append_left (by omega)]; exact hu', key u l hr⟩
  · rename_i hge
    obtain ⟨u, hu', hr⟩ := hu (j - ls.length) l hj
    exact ⟨u, by rw [List.getElem?_append_right (by omega), hl]; exact hu', key u l hr⟩
end
def be4 (n : Nat) : List UInt8 := [UInt8.ofNat (n / 16777216), UInt8.ofNat (n / 65536), UInt8.ofNat (n / 256), UInt8.ofNat n]
theorem be4_cells (n : Nat) : ((be4 n).map bv).toArray = #[.int .u8 ((n : Int) / 16777216 % 256), .int .u8 ((n : Int) / 65536 % 256), .int .u8 ((n : Int) / 256 % 256), .int .u8 ((n : Int) % 256)] := by
  have h : ∀ m : Nat, bv (UInt8.ofNat m) = .int .u8 ((m : Int) % 256) := fun m => by unfold bv; rw [UInt8.toNat_ofNat']; rfl
  simp only [be4, List.map_cons, List.map_nil, h]
  rfl
/-- What is summed of parts. -/
def forParts (ls : List (List UInt8)) : List (List UInt8) := ls.flatMap fun l => [be4 l.length, l]
def forText (p : List UInt8) (ls : List (List UInt8)) : List UInt8 := p ++ [0] ++ (forParts ls).flatten
theorem forParts_snoc (ls : List (List UInt8)) (l : List UInt8) : forParts (ls ++ [l]) = forParts ls ++ [be4 l.length, l] := by simp [forParts]
theorem forParts_length (ls : List (List UInt8)) : (forParts ls).length = 2 * ls.length := by
  induction ls with
  | nil => rfl
  | cons l ls ih => simp only [forParts, List.flatMap_cons, List.length_append, List.length_cons, List.length_nil] at ih ⊢; omega
theorem forParts_each (ls : List (List UInt8)) (l : List UInt8) (h : l ∈ ls) : l.length ≤ (forParts ls).flatten.length := by
  induction ls with
  | nil => cases h
  | cons x ls ih =>
    simp only [forParts, List.flatMap_cons, List.flatten_append, List.flatten_cons, List.flatten_nil, List.append_nil, List.length_append] at ih ⊢
    rcases List.mem_cons.1 h with rfl | h
    · omega
    · have := ih h; omega
theorem forText_each (p : List UInt8) (ls : List (List UInt8)) (l : List UInt8) (h : l ∈ ls) : l.length ≤ (forText p ls).length := by
  have := forParts_each ls l h
  simp only [forText, List.length_append]; omega
theorem forText_eq (p : List UInt8) (ls : List (List UInt8)) : ([p, [0]] ++ forParts ls).flatten = forText p ls := by simp [forText]
end Sc
/- As XSpecs, where some operations make a new block each: their pointers differ. -/
namespace Sc
open Go Go.RowKit
section
variable {P : Program} {ops : Array Oper}
/-- The look at the region, of the edges that bind alone. -/
def specBP (ops : Array Oper) (n : Nat) (ds : List Nat) (size : Nat) : Bool :=
  decide (n < ops.size) && Region.sinkB .any ops n && Region.chainB .any ops n && Region.seqB .any ops (ops.size - n) n ((List.range ops.size).map fun i => decide (i < n)).toArray &&
  ((List.range n).all fun i => match ops[i]? with
    | some o => (o.dst == some (ds.getD i 0)) && decide (ds.getD i 0 < size) && (o.after.all fun e => !Region.binds .any e || decide (e.on < i)) && ((List.range n).all fun j => decide (i = j) || (ds.getD i 0 != ds.getD j 0))
    | none => false) && decide (ds.length = n)
/-- What an operation of the head leaves; one of D: a pointer to a new block. -/
def SpecPostP (R : World → World → Prop) (φ : Value → World → Prop) (D : Bool) (d : Nat) (a : Act) (w : World) : Exit → Act → World → Prop
  | .normal, a', w' => a' = a.put (some d) (a'.tmps.getD d undef) ∧ R w w' ∧ φ (a'.tmps.getD d undef) w' ∧ (D = true → a'.tmps.getD d undef = .pointer (some ⟨w.heap.size, 0, none⟩))
  | _, _, _ => False
structure SpecInvP (R : World → World → Prop) (D : Nat → Bool) (a : Act) (w : World) (ds : List Nat) (n : Nat) (φ : Nat → Value → World → Prop) (listed : Array Bool) (a' : Act) (w' : World) : Prop where
  size : a'.tmps.size = a.tmps.size
  defers : a'.defers = a.defers
  same : ∀ t, t ∉ ds → a'.tmps[t]? = a.tmps[t]?
  grown : R w w'
  holds : ∀ i, i < n → listed.getD i false = true → φ i (a'.tmps.getD (ds.getD i 0) undef) w'
  pair : ∀ i j, i < n → j < n → i ≠ j → D i = true → D j = true → listed.getD i false = true → listed.getD j false = true → a'.tmps.getD (ds.getD i 0) undef ≠ a'.tmps.getD (ds.getD j 0) undef
theorem SpecInvP.fill {R : World → World → Prop} {D : Nat → Bool} {a : Act} {w : World} {ds : List Nat} {n : Nat} {φ : Nat → Value → World → Prop} {listed : Array Bool} {a' : Act} {w' : World} (h : SpecInvP R D a w ds n φ listed a' w') :
    a' = fillAct a ds (fun t => a'.tmps.getD t undef) :=
  SpecInv.fill (R := R) (φ := fun _ _ _ => True) (n := n) (listed := listed) ⟨h.size, h.defers, h.same, h.grown, fun _ _ _ => trivial⟩
theorem specPostP_noexit {R : World → World → Prop} {φ : Value → World → Prop} {D : Bool} {d : Nat} {a : Act} {w : World} : ∀ e a' w', e ≠ .normal → ¬ SpecPostP R φ D d a w e a' w' := by
  intro e a' w' he h
  cases e <;> first | exact he rfl | exact h
theorem spec_anyP {R : World → World → Prop} (hRt : ∀ a b c, R a b → R b c → R a c) {n : Nat} {ds : List Nat} {a0 : Act} {w0 : World} {φ : Nat → Value → World → Prop} {Q : Exit → Act → World → Prop} (hB : specBP ops n ds a0.tmps.size = true) (D : Nat → Bool) (hlt : ∀ i v w, D i = true → φ i v w → ∃ q, v = .pointer (some ⟨q, 0, none⟩) ∧ q < w.heap.size)
    (hφ : ∀ i v w w', φ i v w → R w w' → φ i v w')
    (hstep : ∀ i o, ops[i]? = some o → i < n → ∀ (u : Nat → Value) w', R w0 w' → (∀ j, Region.waitsFor .any ops i j = true → φ j (u (ds.getD j 0)) w') →
      wpOp P ops (SpecPostP R (φ i) (D i) (ds.getD i 0) (fillAct a0 ds u) w') i (SpecPostP R (φ i) (D i) (ds.getD i 0) (fillAct a0 ds u) w' .normal) (fillAct a0 ds u) w')
    (hend : ∀ listed a' w', SpecInvP R D a0 w0 ds n φ listed a' w' → (∀ i, i < n → listed.getD i false = true) → listed = ((List.range ops.size).map fun i => decide (i < n)).toArray → wpAny P .any ops Q (ops.size - n) listed a' w') :
    ∀ (f : Nat) (listed : Array Bool) (a' : Act) (w' : World), HeadInv .any ops n listed → SpecInvP R D a0 w0 ds n φ listed a' w' → ((List.range n).filter fun i => !listed.getD i false).length = f → wpAny P .any ops Q (f + (ops.size - n)) listed a' w' := by
  simp only [specBP, Bool.and_eq_true, decide_eq_true_eq, List.all_eq_true, List.mem_range] at hB
  obtain ⟨⟨⟨⟨⟨hn, hs⟩, hc⟩, hseq⟩, hop⟩, hdl⟩ := hB
  intro f
  induction f with
  | zero =>
    intro listed a' w' inv J hf
    have hall : ∀ i, i < n → listed.getD i false = true := fun i hi => by
      have h := List.eq_nil_of_length_eq_zero hf
      have h2 : i ∉ (List.range n).filter fun i => !listed.getD i false := by rw [h]; simp
      rw [List.mem_filter] at h2
      cases hg : listed.getD i false with
      | true => rfl
      | false => exact absurd ⟨List.mem_range.2 hi, by rw [hg]; rfl⟩ h2
    rw [Nat.zero_add]
    refine hend listed a' w' J hall ?_
    apply Array.ext'
    apply List.ext_getElem
    · simp [inv.size]
    · intro t h1 h2
      have ht : t < listed.size := by simpa using h1
      simp only [Array.getElem_toList, List.getElem_map, List.getElem_range]
      by_cases htn : t < n
      · have := hall t htn
        rw [Array.getD_eq_getD_getElem?, Array.getElem?_eq_getElem ht] at this
        simpa [htn] using this
      · have := inv.tail t (by omega) (by rw [← inv.size]; exact ht)
        rw [Array.getD_eq_getD_getElem?, Array.getElem?_eq_getElem ht] at this
        simpa [htn] using this
  | succ f ih =>
    intro listed a' w' inv J hf
    -- the first that is not yet listed
    have hex : ∃ i, i < n ∧ listed.getD i false = false := by
      have : (List.range n).filter (fun i => !listed.getD i false) ≠ [] := fun h => by rw [h] at hf; cases hf
      obtain ⟨i, hi⟩ := List.exists_mem_of_ne_nil _ this
      rw [List.mem_filter, List.mem_range] at hi
      exact ⟨i, hi.1, by simpa using hi.2⟩
    obtain ⟨i0, hi0, hu0⟩ := hex
    have hinS : ∀ {i}, i < n → i < listed.size := fun hi => by rw [inv.size]; omega
    have hready : Region.ready .any ops listed ≠ [] := by
      -- the least
      have : ∃ i, (i < n ∧ listed.getD i false = false) ∧ ∀ j, j < i → ¬ (j < n ∧ listed.getD j false = false) := by
        clear hf
        induction i0 using Nat.strongRecOn with
        | _ k ihk =>
          by_cases h : ∃ j, j < k ∧ j < n ∧ listed.getD j false = false
          · obtain ⟨j, hj, a, b⟩ := h; exact ihk j hj a b
          · exact ⟨k, ⟨hi0, hu0⟩, fun j hj ⟨a, b⟩ => h ⟨j, hj, a, b⟩⟩
      obtain ⟨i, ⟨hi, hu⟩, hmin⟩ := this
      have ho := hop i hi
      cases hoi : ops[i]? with
      | none => rw [hoi] at ho; cases ho
      | some o =>
        rw [hoi] at ho
        simp only [Bool.and_eq_true, List.all_eq_true, decide_eq_true_eq] at ho
        have : i ∈ Region.ready .any ops listed := mem_ready.2 ⟨getD_in (hinS hi) hu, o, hoi, fun e he hb => by
          have h1 : e.on < i := by have := Array.all_eq_true_iff_forall_mem.1 ho.1.2 e he; simpa [hb] using this
          have := hmin e.on h1
          cases hg : listed.getD e.on false with
          | true => rfl
          | false => exact absurd ⟨by omega, hg⟩ this⟩
        intro h0; rw [h0] at this; cases this
    rw [show f + 1 + (ops.size - n) = (f + (ops.size - n)) + 1 by omega]
    refine ⟨fun h => absurd h hready, fun i hi => ?_⟩
    have hin : i < n := by
      rcases Nat.lt_or_ge i n with h | h
      · exact h
      · exact absurd hi (tail_waits hs hc hn inv _ i0 rfl hi0 (getD_in (hinS hi0) hu0) i h)
    obtain ⟨hiu, o, hoi, hall⟩ := mem_ready.1 hi
    have ho := hop i hin
    rw [hoi] at ho
    simp only [Bool.and_eq_true, List.all_eq_true, decide_eq_true_eq, beq_iff_eq, List.mem_range, Bool.or_eq_true, bne_iff_ne] at ho
    obtain ⟨⟨⟨hdst, hdsz⟩, haft⟩, hdist⟩ := ho
    have hfill := J.fill
    have hdep : ∀ j, Region.waitsFor .any ops i j = true → φ j ((fun t => a'.tmps.getD t undef) (ds.getD j 0)) w' := fun j hj => by
      obtain ⟨o', ho', e, he, hb, hon⟩ := Region.waitsFor_spec hj
      have : o' = o := Option.some.inj (ho'.symm.trans hoi)
      subst this
      have h1 := hall e he hb
      rw [hon] at h1
      have h2 : e.on < i := by have := Array.all_eq_true_iff_forall_mem.1 haft e he; simpa [hb] using this
      rw [hon] at h2
      exact J.holds j (by omega) h1
    have hst := hstep i o hoi hin (fun t => a'.tmps.getD t undef) w' J.grown hdep
    rw [← hfill] at hst
    refine wpOp_noexit specPostP_noexit (wpOp_mono ?_ hst)
    rintro a'' w'' ⟨ha, hg, hp, hnew⟩
    have hmem : ds.getD i 0 ∈ ds := by
      rw [List.getD_eq_getElem?_getD, List.getElem?_eq_getElem (by omega)]; exact List.getElem_mem _
    have hsz : a''.tmps.size = a'.tmps.size := by rw [ha]; simp [Act.put]
    have hother : ∀ t, t ≠ ds.getD i 0 → a''.tmps[t]? = a'.tmps[t]? := fun t ht => by
      rw [ha]; simp only [Act.put]; rw [Array.getElem?_setIfInBounds_ne (Ne.symm ht)]
    refine ih (listed.setIfInBounds i true) a'' w'' (inv.set hi hin) ⟨hsz.trans J.size, by rw [ha]; exact J.defers, fun t ht => (hother t (fun e => ht (e ▸ hmem))).trans (J.same t ht), hRt _ _ _ J.grown hg, fun j hj hl => ?_, ?_⟩ ?_
    · by_cases hji : j = i
      · subst hji; exact hp
      · have hl' : listed.getD j false = true := by rwa [getD_set_ne false (Ne.symm hji)] at hl
        have hne : ds.getD j 0 ≠ ds.getD i 0 := fun e => by
          rcases hdist j hj with h | h
          · exact hji h.symm
          · exact h e.symm
        have := hφ j _ w' w'' (J.holds j hj hl') hg
        rw [Array.getD_eq_getD_getElem?, hother _ hne, ← Array.getD_eq_getD_getElem?]
        exact this
    · have old : ∀ j, j < n → j ≠ i → a''.tmps.getD (ds.getD j 0) undef = a'.tmps.getD (ds.getD j 0) undef := fun j hj hji => by
        have hne : ds.getD j 0 ≠ ds.getD i 0 := fun e => by
          rcases hdist j hj with h | h
          · exact hji h.symm
          · exact h e.symm
        rw [Array.getD_eq_getD_getElem?, hother _ hne, ← Array.getD_eq_getD_getElem?]
      have far : ∀ j, j < n → j ≠ i → D i = true → D j = true → listed.getD j false = true → a''.tmps.getD (ds.getD i 0) undef ≠ a'.tmps.getD (ds.getD j 0) undef := fun j hj hji hDi hDj hl e => by
        obtain ⟨q, hq, hql⟩ := hlt j _ w' hDj (J.holds j hj hl)
        rw [hnew hDi, hq] at e
        injection e with e
        have e2 := congrArg Addr.block (Option.some.inj e)
        dsimp only at e2
        omega
      intro j k hj hk hjk hDj hDk hlj hlk
      by_cases hji : j = i
      · subst hji
        rw [getD_set_ne false hjk] at hlk
        rw [old k hk (Ne.symm hjk)]
        exact far k hk (Ne.symm hjk) hDj hDk hlk
      · rw [getD_set_ne false (Ne.symm hji)] at hlj
        rw [old j hj hji]
        by_cases hki : k = i
        · subst hki
          exact (far j hj hji hDk hDj hlj).symm
        · rw [getD_set_ne false (Ne.symm hki)] at hlk
          rw [old k hk hki]
          exact J.pair j k hj hk hjk hDj hDk hlj hlk
    · have e : ((List.range n).filter fun k => !(listed.setIfInBounds i true).getD k false) = ((List.range n).filter fun k => !listed.getD k false).filter fun k => k != i := by
        rw [List.filter_filter]
        apply List.filter_congr
        intro k hk
        by_cases hki : k = i
        · subst hki
          have : (listed.setIfInBounds k true).getD k false = true := by
            rw [Array.getD_eq_getD_getElem?, Array.getElem?_setIfInBounds_self_of_lt (hinS hin)]; rfl
          rw [this]; simp
        · rw [getD_set_ne false (fun e => hki e.symm)]; simp [hki]
      rw [e]
      have hnd : ((List.range n).filter fun k => !listed.getD k false).Nodup := (List.filter_sublist).nodup List.nodup_range
      have hmi : i ∈ (List.range n).filter fun k => !listed.getD k false := by
        rw [List.mem_filter, List.mem_range]; exact ⟨hin, by rw [getD_both hiu]; rfl⟩
      rw [← hnd.erase_eq_filter, List.length_erase_of_mem hmi, hf]; rfl

/-- **A REGION THAT DRAWS, BY A WORD FOR EACH OPERATION.** -/
theorem wp_region_specsP {R : World → World → Prop} (hRt : ∀ a b c, R a b → R b c → R a c) {id : Nat} {Q : Exit → Act → World → Prop} {a : Act} {w : World} {l : List Oper} (n : Nat) (ds : List Nat) (hm : P.follows .mixedOrders = true) (hR0 : R w { w with drawn := w.drawn + 1 }) (hB : specBP l.toArray n ds a.tmps.size = true) (D : Nat → Bool)
    (φ : Nat → Value → World → Prop) (hlt : ∀ i v w, D i = true → φ i v w → ∃ q, v = .pointer (some ⟨q, 0, none⟩) ∧ q < w.heap.size) (hφ : ∀ i v w w', φ i v w → R w w' → φ i v w')
    (hstep : ∀ i o, l[i]? = some o → i < n → ∀ (u : Nat → Value) w', R w w' → (∀ j, Region.waitsFor .any l.toArray i j = true → φ j (u (ds.getD j 0)) w') →
      wpList P l.toArray (SpecPostP R (φ i) (D i) (ds.getD i 0) (fillAct a ds u) w') [o] (fillAct a ds u) w')
    (hend : ∀ (u : Nat → Value) w', R w w' → (∀ i, i < n → φ i (u (ds.getD i 0)) w') → (∀ i j, i < n → j < n → i ≠ j → D i = true → D j = true → u (ds.getD i 0) ≠ u (ds.getD j 0)) → wpList P l.toArray Q (l.drop n) (fillAct a ds u) w') : (Code.region id l.toArray true).wp P Q a w := by
  have hB' := hB
  simp only [specBP, Bool.and_eq_true, decide_eq_true_eq] at hB
  obtain ⟨⟨⟨⟨⟨hn, hs⟩, hc⟩, hseq⟩, hop⟩, hdl⟩ := hB
  have hdn : (l.drop n).length = l.toArray.size - n := by simp
  refine wp_region_any hm ?_
  have inv0 : HeadInv .any l.toArray n (Array.replicate l.toArray.size false) :=
    ⟨by simp, fun j oj _ hl => (by rw [getD_replicate_false] at hl; cases hl), fun t _ ht => getD_in (by simpa using ht) (getD_replicate_false _ _)⟩
  have J0 : SpecInvP R D a w ds n φ (Array.replicate l.toArray.size false) a { w with drawn := w.drawn + 1 } :=
    ⟨rfl, rfl, fun _ _ => rfl, hR0, fun i _ h => (by rw [getD_replicate_false] at h; cases h), fun i _ _ _ _ _ _ h => (by rw [getD_replicate_false] at h; cases h)⟩
  have hlen : ((List.range n).filter fun i => !(Array.replicate l.toArray.size false).getD i false).length = n := by
    rw [List.filter_eq_self.2 (fun i _ => by rw [getD_replicate_false]; rfl), List.length_range]
  have := spec_anyP hRt (P := P) (Q := Q) hB' D hlt hφ (fun i o ho hi u w' hg hd => by
    have h := hstep i o (by simpa using ho) hi u w' hg hd
    unfold wpOp
    simp only [ho]
    exact h) (fun listed a' w' J hall hl => by
      have h := hend (fun t => a'.tmps.getD t undef) w' J.grown (fun i hi => J.holds i hi (hall i hi)) (fun i j hi hj hij hDi hDj => J.pair i j hi hj hij hDi hDj (hall i hi) (hall j hj))
      rw [← J.fill] at h
      have := wpAny_of_seq (P := P) (md := .any) (ops := l.toArray) (Q' := Q) (l.drop n) n listed a' w' (fun j => by simp [List.getElem?_drop]) (by rw [hdn, hl]; exact hseq) h
      rwa [hdn] at this) n _ a _ inv0 J0 hlen
  rwa [show n + (l.toArray.size - n) = l.toArray.size by omega] at this
end
end Sc
/- A region in its own order, by a word for each operation (as XSpecs does for those that draw their order). -/
namespace Sc
open Go Go.RowKit
/-- The look at the region. -/
def specBL (l : List Oper) (n : Nat) (ds : List Nat) (size : Nat) : Bool :=
  decide (n ≤ l.length) && ((List.range n).all fun i => match l[i]? with
    | some o => (o.dst == some (ds.getD i 0)) && decide (ds.getD i 0 < size) && ((List.range n).all fun j => decide (i = j) || (ds.getD i 0 != ds.getD j 0))
    | none => false) && decide (ds.length = n)
section
variable {P : Program}
theorem wpList_one_noexit {ops : Array Oper} {o : Oper} {rest : List Oper} {a : Act} {w : World} {Q Q' : Exit → Act → World → Prop} (hQ : ∀ e a w, e ≠ .normal → ¬ Q' e a w) (h : wpList P ops Q' [o] a w)
    (hk : ∀ a' w', Q' .normal a' w' → wpList P ops Q rest a' w') : wpList P ops Q (o :: rest) a w := by
  unfold wpList at h ⊢
  split
  · rename_i hw
    rw [if_pos hw] at h
    rcases h with h | ⟨_, a1, w1, h⟩
    · refine .inl (wp_noexit hQ (Oper.wp_mono (fun a' w' h' => hk a' w' ?_) h))
      exact h'
    · exact absurd h (hQ _ _ _ (by simp))
  · rename_i hw
    rw [if_neg hw] at h
    exact hk _ _ h
/-- **A REGION IN ITS OWN ORDER, BY A WORD FOR EACH OPERATION.** -/
theorem wp_region_specsL {id : Nat} {Q : Exit → Act → World → Prop} {a : Act} {w : World} {l : List Oper} (n : Nat) (ds : List Nat) (hB : specBL l n ds a.tmps.size = true)
    (φ : Nat → Value → World → Prop) (hφ : ∀ i v w w', φ i v w → Gr w w' → φ i v w')
    (hstep : ∀ i o, l[i]? = some o → i < n → ∀ (u : Nat → Value) w', Gr w w' → (∀ j, decide (j < i) = true → φ j (u (ds.getD j 0)) w') →
      wpList P l.toArray (SpecPost Gr (φ i) (ds.getD i 0) (fillAct a ds u) w') [o] (fillAct a ds u) w')
    (hend : ∀ (u : Nat → Value) w', Gr w w' → (∀ i, i < n → φ i (u (ds.getD i 0)) w') → wpList P l.toArray Q (l.drop n) (fillAct a ds u) w') : (Code.region id l.toArray false).wp P Q a w := by
  simp only [specBL, Bool.and_eq_true, decide_eq_true_eq, List.all_eq_true, List.mem_range] at hB
  obtain ⟨⟨hn, hop⟩, hdl⟩ := hB
  have key : ∀ k i, i + k = n → ∀ a' w', SpecInv Gr a w ds 0 φ #[] a' w' → (∀ j, j < i → φ j (a'.tmps.getD (ds.getD j 0) undef) w') → wpList P l.toArray Q (l.drop i) a' w' := by
    intro k
    induction k with
    | zero =>
      intro i hi a' w' J hh
      obtain rfl : i = n := by omega
      have h := hend (fun t => a'.tmps.getD t undef) w' J.grown hh
      rw [← J.fill] at h
      exact h
    | succ k ih =>
      intro i hi a' w' J hh
      have hil : i < l.length := by omega
      have ho := hop i (by omega)
      rw [List.getElem?_eq_getElem hil] at ho
      simp only [Bool.and_eq_true, List.all_eq_true, decide_eq_true_eq, beq_iff_eq, List.mem_range, Bool.or_eq_true, bne_iff_ne] at ho
      obtain ⟨⟨hdst, hdsz⟩, hdist⟩ := ho
      have hst := hstep i l[i] (List.getElem?_eq_getElem hil) (by omega) (fun t => a'.tmps.getD t undef) w' J.grown (fun j hj => hh j (of_decide_eq_true hj))
      rw [← J.fill] at hst
      rw [List.drop_eq_getElem_cons hil]
      refine wpList_one_noexit specPost_noexit hst ?_
      rintro a'' w'' ⟨ha, hg, hp⟩
      have hmem : ds.getD i 0 ∈ ds := by
        rw [List.getD_eq_getElem?_getD, List.getElem?_eq_getElem (by omega)]; exact List.getElem_mem _
      have hsz : a''.tmps.size = a'.tmps.size := by rw [ha]; simp [Act.put]
      have hother : ∀ t, t ≠ ds.getD i 0 → a''.tmps[t]? = a'.tmps[t]? := fun t ht => by
        rw [ha]; simp only [Act.put]; rw [Array.getElem?_setIfInBounds_ne (Ne.symm ht)]
      refine ih (i + 1) (by omega) a'' w'' ⟨hsz.trans J.size, by rw [ha]; exact J.defers, fun t ht => (hother t (fun e => ht (e ▸ hmem))).trans (J.same t ht), gb_trans J.grown hg, fun j hj => absurd hj (Nat.not_lt_zero j)⟩ ?_
      intro j hj
      by_cases hji : j = i
      · subst hji; exact hp
      · have hne : ds.getD j 0 ≠ ds.getD i 0 := fun e => by
          rcases hdist j (by omega) with h | h
          · exact hji h.symm
          · exact h e.symm
        have := hφ j _ w' w'' (hh j (by omega)) hg
        rw [Array.getD_eq_getD_getElem?, hother _ hne, ← Array.getD_eq_getD_getElem?]
        exact this
  refine wp_region_lit ?_
  have := key n 0 (Nat.zero_add n) a w ⟨rfl, rfl, fun _ _ => rfl, gb_refl w none, fun j hj => absurd hj (Nat.not_lt_zero j)⟩ (fun j hj => absurd hj (Nat.not_lt_zero j))
  simpa using this
end
end Sc
/- scrivenerlaw07.few: the first entries, cut, and their texts. Strings' slices; the reference's sums and roots. -/
namespace Sc
open Go Go.RowKit
/-- A slice of texts. -/
def RSS (w : World) (v : Value) (ls : List (List UInt8)) : Prop := Rd (fun b => b < w.heap.size) w 1 v ls.length (ls.map sv)
theorem RSS.gr {w w' : World} {v : Value} {ls : List (List UInt8)} (h : RSS w v ls) (hg : w.grownBy w' none) : RSS w' v ls :=
  Rd.mono (Rd.grown h hg (by simp)) fun _ hb => Nat.lt_of_lt_of_le hb hg.size
end Sc
namespace Go.Proofs.Ytajgklomcapboaa
open Go.RowKit Go.Shelf Sc
theorem okSl7 : InfoOk Try.prog 27 1 24 := by unfold InfoOk; kernel_rfl
theorem okStr7 : InfoOk Try.prog 9 1 16 := by unfold InfoOk; kernel_rfl
theorem build_str7 (s : ByteArray) (w : World) : (Instr.buildSlice 24 1 #[(0, .string s)]).run Try.prog w = .ok (.slice (some ⟨w.heap.size, 0, none⟩) 1 1) (w.alloc (.cells #[.string s] 9)) := by kernel_rfl
theorem wpList_build_str7 {w : World} {ops : Array Oper} {rest : List Oper} {a : Act} {Q : Exit → Act → World → Prop} {dst : Option Tmp} {ty : TypeId} {pos : String} {aft : Array Edge} {x : Operand} (l : List UInt8) (hx : a.eval x = sv l)
    (h : wpList Try.prog ops Q rest (a.put dst (.slice (some ⟨w.heap.size, 0, none⟩) 1 1)) (w.alloc (.cells #[sv l] 9))) :
    wpList Try.prog ops Q (⟨dst, .buildSlice 24 1 #[(0, x)], ty, pos, aft, none⟩ :: rest) a w := by
  refine wpList_run rfl ?_ h
  simp only [execOp, List.map_toArray, List.map_cons, List.map_nil, hx, Sem.run_bind]
  unfold sv
  rw [build_str7]
  rfl
def few (ls : List (List UInt8)) : List (List UInt8) := capped 20 100 ls
theorem few_len (ls : List (List UInt8)) : (few ls).length ≤ 20 := capped_length 20 100 ls
theorem few_each (ls : List (List UInt8)) : ∀ l ∈ few ls, l.length ≤ 100 := capped_each 20 100 ls
set_option maxHeartbeats 2000000 in
theorem few_any (v : Value) (ls : List (List UInt8)) (w : World) (hv : RLL w v ls) :
    Calls Try.prog 16 #[v] w fun e w' => ∃ A c A2 c2, e = .returned (.tuple #[.slice A (few ls).length c, .slice A2 (few ls).length c2]) ∧
      RLL w' (.slice A (few ls).length c) (few ls) ∧ RSS w' (.slice A2 (few ls).length c2) (few ls) ∧ w.grownBy w' none := by
  go_enter Try.func16, Try.ntmps16
  obtain ⟨vs0, hv1, hv2⟩ := id hv
  obtain ⟨A, c, rfl, hc⟩ := hv1.form
  have hm := hv1.le
  unfold maxLen at hm
  have H1 := Go.Lib.hid hv1
  have H2 := Go.Lib.hid hv2
  clear hv1 hv2 hv hc
  unfold few
  go_wp2_with fail
  go_loopw [4, 5, 10] (fun vo va n wr => ∃ k : Nat, k ≤ ls.length ∧ n = .int .i64 k ∧ Hid (OwBB w.heap.size (fun b => b < w.heap.size) wr vo (capped 20 100 (ls.take k))) ∧
      Hid (Ow w.heap.size wr 1 va (capped 20 100 (ls.take k)).length ((capped 20 100 (ls.take k)).map sv) ∧ (∀ b, va.ownBlock = some b → vo.ownBlock ≠ some b)) ∧ Hid (w.grownBy wr none))
    (fun _ _ n _ => ls.length - (intOf n).toNat)
  case atStart => exact ⟨0, Nat.zero_le _, rfl, Go.Lib.hid (OwBB.nil _ _ _), Go.Lib.hid ⟨Ow.nil _ _ _, by intro b hb; cases hb⟩, Go.Lib.hid (gb_refl _ _)⟩
  case round =>
    obtain ⟨k, hk, rfl, Ho, Ht, Hg⟩ := hrel
    by_cases hlt : k < ls.length
    · obtain ⟨b, o, c', he, hb, hnc, hcm, hcell⟩ := H1.out.at (by omega)
      injection he with hA _ hcc
      subst hA hcc
      obtain ⟨l, hl⟩ : ∃ l, ls[k]? = some l := ⟨_, List.getElem?_eq_getElem hlt⟩
      obtain ⟨u, hu, hru⟩ := H2.out k l hl
      obtain ⟨A1, c1, rfl, hc1⟩ := hru.form
      have c0 : wr.cell? ⟨b, o + k, none⟩ = some (.slice A1 l.length c1) := cell_grown Hg.out (hcell k _ hu) (by simp)
      have HL := Go.Lib.hid hl
      have HR := Go.Lib.hid (Rd.grown hru Hg.out (by simp))
      have hkI : (0 : Int) ≤ (k : Int) ∧ (k : Int) < 9223372036854775807 := by omega
      have hklt : decide (k < ls.length) = true := decide_eq_true hlt
      clear hl hu hru hcell
      by_cases h8 : k < 20
      · have h8' : decide ((k : Int) < 20) = true := decide_eq_true (by omega)
        obtain ⟨q, hq⟩ : ∃ q, min l.length 100 = q := ⟨_, rfl⟩
        have hrq := RdB.takeTo HR.out 100 q hq
        obtain ⟨T, hT⟩ : ∃ T, T = l.take 100 := ⟨_, rfl⟩
        rw [← hT] at hrq
        obtain ⟨ow, ho1, ho2⟩ := Ho.out
        obtain ⟨Ao, co, rfl⟩ := ho1.form
        obtain ⟨ht1, ht2⟩ := Ht.out
        obtain ⟨At, ct, rfl⟩ := ht1.form
        have hs1 : Src Try.prog 1 22 (.slice (some ⟨wr.heap.size, 0, none⟩) 1 1) 1 [.slice A1 q c1] (wr.alloc (.cells #[.slice A1 q c1] 27)) := src_new (P := Try.prog) Try.underlying22 wr 27 1 1 [.slice A1 q c1] rfl (by intro u hu; rw [List.mem_singleton.1 hu]; rfl)
        have hB1 : w.heap.size ≤ (wr.alloc (.cells #[.slice A1 q c1] 27)).heap.size := by rw [World.size_alloc]; have := Hg.out.size; omega
        have hcl := capped_length 20 100 (ls.take k)
        have h63 : (capped 20 100 (ls.take k)).length + 1 ≤ maxLen := Nat.le_trans (Nat.succ_le_succ hcl) (by decide)
        have hby : ((capped 20 100 (ls.take k)).length + 1) * 24 ≤ 140737488355328 := by omega
        have hby2 : ((capped 20 100 (ls.take k)).length + 1) * 16 ≤ 140737488355328 := by omega
        have OL := Go.Lib.hid ho1.len
        have OW := Go.Lib.hid ho2
        have HCS := Go.Lib.hid (capped_snoc 20 100 k ls l HL.out h8)
        rw [← hT] at HCS
        have Hrq := Go.Lib.hid hrq
        have hoa := ho1.alloc (.cells #[.slice A1 q c1] 27)
        have ho1' := Go.Lib.hid ho1
        have hta := Go.Lib.hid (ht1.alloc (.cells #[.slice A1 q c1] 27))
        have HT1 := Go.Lib.hid ht1
        have HT2 := Go.Lib.hid ht2
        clear ho1 ho2 hcl hrq ht1 ht2 hT
        go_wp2_with (first
          | ((with_reducible refine wpList_min (x := .tmp 19) l.length 100 q hq (by kernel_rfl) (by kernel_rfl) ?_))
          | ((with_reducible refine wpList_append_ow (s := .tmp 22) (x := .tmp 24) (v := .slice Ao (capped 20 100 (ls.take k)).length co) (y := .slice (some ⟨wr.heap.size, 0, none⟩) 1 1) (by kernel_rfl) (by kernel_rfl) Try.underlying22 okSl7 hoa hs1 hB1 h63 hby ?_)
             intro v3 w3 ho3 hg3 hb3
             have hno : ∀ r, (Value.slice Ao (capped 20 100 (ls.take k)).length co).ownBlock = some r → ¬ r < w.heap.size := fun r hr hN => by have := (ho1'.out.lt hr).1; omega
             have HNO := Go.Lib.hid hno
             have hr3 : RdB (fun b => b < w.heap.size) w3 (.slice A1 q c1) T := Rd.grown (Rd.alloc Hrq.out _) hg3 hno
             clear hno
             have ht3 : Ow w.heap.size w3 1 (.slice At (capped 20 100 (ls.take k)).length ct) (capped 20 100 (ls.take k)).length ((capped 20 100 (ls.take k)).map sv) := hta.out.grown hg3 (fun b hb => HT2.out b hb)
             have hg03 := Ow.gb (gb_alloc Hg.out _) hoa (Nat.le_refl _) hg3
             have hd3 : ∀ b, (Value.slice At (capped 20 100 (ls.take k)).length ct).ownBlock = some b → v3.ownBlock ≠ some b := by
               intro b hb e
               rcases hb3 with h | h
               · rw [h] at e; exact HT2.out b hb e
               · rw [h] at e; have := Option.some.inj e; have := (HT1.out.lt hb).2; rw [World.size_alloc] at *; omega
             obtain ⟨A3, c3, rfl⟩ := ho3.form
             have HG03 := Go.Lib.hid hg03
             have HO3 := Go.Lib.hid ho3
             have HD3 := Go.Lib.hid hd3
             have HG3 := Go.Lib.hid hg3
             have HHB3 := Go.Lib.hid hb3
             have hs5 : Src Try.prog 1 24 (.slice (some ⟨w3.heap.size, 0, none⟩) 1 1) 1 [sv T] (w3.alloc (.cells #[sv T] 9)) := src_new (P := Try.prog) Try.underlying24 w3 9 1 1 [sv T] rfl (by intro u hu; rw [List.mem_singleton.1 hu]; rfl)
             have hB5 : w.heap.size ≤ (w3.alloc (.cells #[sv T] 9)).heap.size := by rw [World.size_alloc]; have := hg03.size; omega
             have ht5 := ht3.alloc (.cells #[sv T] 9)
             have HT3 := Go.Lib.hid ht3
             clear ho3 hd3 hg3 hb3 hg03 ht3)
          | ((with_reducible refine wpList_conv_bs (x := .tmp 27) (v := .slice A1 q c1) Try.underlying27 Try.underlying5 Try.underlying9 T (by kernel_rfl) hr3 ?_))
          | ((with_reducible refine wpList_build_str7 (x := .tmp 28) T (by kernel_rfl) ?_))
          | ((with_reducible refine wpList_append_ow (s := .tmp 26) (x := .tmp 29) (v := .slice At (capped 20 100 (ls.take k)).length ct) (y := .slice (some ⟨w3.heap.size, 0, none⟩) 1 1) (by kernel_rfl) (by kernel_rfl) Try.underlying24 okStr7 ht5 hs5 hB5 h63 hby2 ?_)
             intro v5 w5 ho5 hg5 hb5
             obtain ⟨A5, c5, rfl⟩ := ho5.form))
        go_roundw
        case rel =>
          have hgA := Ow.gb (gb_alloc HG03.out _) ht5 (Nat.le_refl _) hg5
          refine ⟨k + 1, by omega, by go_num, Go.Lib.hid ?_, Go.Lib.hid ⟨?_, ?_⟩, Go.Lib.hid hgA⟩
          · rw [HCS.out]
            have h := OwBB.snoc OW.out (by have := OL.out; omega) Hrq.out HO3.out (gb_trans (gb_alloc (gb_refl wr _) _) HG3.out) HNO.out
            have hx : ∀ r, (Value.slice At (capped 20 100 (ls.take k)).length ct).ownBlock = some r → ¬ r < w.heap.size := fun r hr hN => by have := (HT1.out.lt hr).1; omega
            exact (h.gr (gb_alloc (gb_refl w3 _) _)).grown hg5 (fun b hb e => HD3.out b e hb) hx
          · rw [HCS.out, List.map_append, List.length_append]; exact ho5
          · intro b hb e
            rcases hb5 with h | h
            · rw [h] at hb; exact HD3.out b hb e
            · rw [h] at hb; have := Option.some.inj hb; have := (HO3.out.lt e).2; rw [World.size_alloc] at *; omega
        case measure => simp [intOf]; omega
      · have h8' : decide ((k : Int) < 20) = false := decide_eq_false (by omega)
        have HCS := Go.Lib.hid (capped_same 20 100 k ls (by omega))
        clear HL HR
        go_wp2_with fail
        go_roundw
        case rel =>
          refine ⟨k + 1, by omega, by go_num, ?_, ?_, Hg⟩
          · rw [HCS.out]; exact Ho
          · rw [HCS.out]; exact Ht
        case measure => simp [intOf]; omega
    · obtain rfl : k = ls.length := by omega
      have hl' : decide (ls.length < ls.length) = false := decide_eq_false (by omega)
      have hrd := Ho.out.rd (NB' := fun b => b < wr.heap.size) (fun b hb => Nat.lt_of_lt_of_le hb Hg.out.size) (fun b hb => by obtain ⟨vs, h1, _⟩ := Ho.out; exact (h1.lt hb).2)
      have hrt := Ht.out.1.rd (NB := fun b => b < wr.heap.size) (fun b hb => (Ht.out.1.lt hb).2)
      rw [List.take_of_length_le (Nat.le_refl _)] at hrd hrt
      obtain ⟨_, hx, _⟩ := id hrd
      obtain ⟨Ax, cx, rfl, _⟩ := Rd.form hx
      obtain ⟨Ay, cy, rfl, _⟩ := Rd.form hrt
      clear hx
      go_wp2_with fail
      go_ret2
      exact ⟨_, _, _, _, rfl, hrd, hrt, Hg.out⟩
end Go.Proofs.Ytajgklomcapboaa
/- scrivenerref07: Sum, Top, Root. -/
namespace Sc
open Go Go.RowKit
theorem rss_of_cut {w : World} {v : Value} {n k : Nat} {ls : List (List UInt8)} (h : Rd (fun b => b < w.heap.size) w 1 v (n - k) (((ls.map sv).drop (k * 1)).take ((n - k) * 1))) (hn : ls.length = n) : RSS w v (ls.drop k) := by
  unfold RSS
  rw [List.length_drop, hn, List.map_drop]
  rw [Nat.mul_one, Nat.mul_one, List.take_of_length_le (by rw [List.length_drop, List.length_map, hn]; exact Nat.le_refl _)] at h
  exact h
def cutP (n i : Nat) (l : List UInt8) : List UInt8 := l.take n ++ (List.replicate (i - n) 0 ++ l.drop i)
theorem cutP_start (n : Nat) (l : List UInt8) : cutP n n l = l := by unfold cutP; rw [Nat.sub_self]; simp
theorem cutP_len {n i : Nat} {l : List UInt8} (hi : i ≤ 32) (hn : n ≤ i) (hl : l.length = 32) : (cutP n i l).length = 32 := by
  unfold cutP; rw [List.length_append, List.length_append, List.length_take, List.length_replicate, List.length_drop]; omega
theorem cutP_step {n i : Nat} {l : List UInt8} (hi : i < 32) (hn : n ≤ i) (hl : l.length = 32) : (cutP n i l).set i 0 = cutP n (i + 1) l := by
  unfold cutP
  have ht : (l.take n).length = n := by rw [List.length_take]; omega
  rw [List.set_append_right _ _ (by omega), ht, List.set_append_right _ _ (by rw [List.length_replicate]; exact Nat.le_refl _), List.length_replicate, Nat.sub_self, List.drop_eq_getElem_cons (by omega : i < l.length), List.set_cons_zero,
    show i + 1 - n = (i - n) + 1 by omega, List.replicate_succ', List.append_assoc]
  rfl
theorem cutP_end {n i : Nat} {x : Id} (hi : i = max 32 n) : cutP n i x.l = (cutId (min n 32) x).l := by
  unfold cutP cutId
  have hx := x.h
  show _ = x.l.take (min n 32) ++ List.replicate (32 - min (min n 32) 32) 0
  rw [List.drop_of_length_le (by omega), List.append_nil]
  rcases Nat.le_total n 32 with h | h
  · rw [Nat.min_eq_left h, Nat.min_eq_left h, show i = 32 by omega]
  · rw [show i = n by omega, Nat.sub_self, Nat.min_eq_right h, List.take_of_length_le (by omega), List.take_of_length_le (by omega)]; rfl
end Sc
namespace Go.Proofs.Ytajgklomcapboaa
open Go.RowKit Go.Shelf Sc
set_option maxHeartbeats 2000000 in
set_option maxRecDepth 100000 in
theorem rsum_any (c : Int) (l : List UInt8) (hl : l.length ≤ 1000001) (w : World) : Calls Try.prog 28 #[.int .i64 c, sv l] w fun e w' => e = .returned (idv (sumC c l)) ∧ w.grownBy w' none := by
  go_enter Try.func28, Try.ntmps28
  obtain ⟨X, hX⟩ : ∃ X, X = sha l := ⟨_, rfl⟩
  obtain ⟨n, hn⟩ : ∃ n : Nat, n = (max 1 c).toNat := ⟨_, rfl⟩
  have hn1 : 1 ≤ n := by omega
  have HS : Hid (cutId (min n 32) X = sumC c l) := Go.Lib.hid (by rw [hX]; unfold sumC cutN; rw [hn]; congr 1; omega)
  have hof : ∀ w : World, Calls Try.prog 53 #[sv l] w fun e w' => e = .returned (idv X) ∧ w.grownBy w' none := fun w => by rw [hX]; exact refOf_any l (by omega) w
  obtain ⟨W1, hW1⟩ : ∃ W1, W1 = w.alloc (.cells idZ.toArray 34) := ⟨_, rfl⟩
  have b1 : Bk W1 w.heap.size 34 idZ := by rw [hW1]; exact Bk.new w _ _
  have g1 : w.grownBy W1 none := by rw [hW1]; exact gb_alloc (gb_refl w none) _
  have HW := Go.Lib.hid hW1
  rw [← HS.out]
  clear hW1 hX
  go_upto_region 2 with (first
    | ((with_reducible refine wpList_alloc_row (E := 34) idZ infoId ?_); first | rw [← HW.out] | skip)
    | (go_at_call 53; ((with_reducible refine (hof _).mono ?_); rintro e w2 ⟨rfl, g2⟩); have b2 := b1.grown g2 (by simp); have bx := Bk.new w2 34 idZ)
    | ((with_reducible refine wpList_store_bk (t := 34) w2.heap.size 34 idZ (X.l.map bv) bx (by kernel_rfl) (by kernel_rfl) (idSize _) (idLen _) (idOne _) ?_); intro w3 h3 g3 z3))
  have b3 := (b2.alloc (.cells idZ.toArray 34)).grown g3 (by have := b2.lt; simp; omega)
  have g03 := gb_trans_new (gb_alloc (gb_trans g1 g2) (.cells idZ.toArray 34)) g3 (Nat.le_trans g1.size g2.size)
  have hlt : w.heap.size < w2.heap.size := b2.lt
  obtain ⟨B, hB⟩ : ∃ B, B = w2.heap.size := ⟨_, rfl⟩
  rw [← hB] at h3 hlt ⊢
  have hxl := X.h
  clear g1 g2 g3 z3 b1 b2 bx hB hof
  have HB3 := Go.Lib.hid b3
  have HG3 := Go.Lib.hid g03
  have HX3 := Go.Lib.hid h3
  clear b3 g03 h3
  have fin : ∀ (i : Nat) (wr : World), i = max 32 n → Bk wr B 34 ((cutP n i X.l).map bv) → Bk wr B 34 ((cutId (min n 32) X).l.map bv) := fun i wr hi h => by rw [← cutP_end hi]; exact h
  by_cases hc : c < 1
  · have hd : decide (c < 1) = true := decide_eq_true hc
    have HM : Hid ((1 : Int) = (n : Int)) := Go.Lib.hid (by omega)
    clear hn
    go_wp2_with fail
    go_loopw [7] (fun v wr => ∃ i : Nat, n ≤ i ∧ i ≤ max 32 n ∧ v = .int .i64 (i : Int) ∧ Hid (Bk wr B 34 ((cutP n i X.l).map bv)) ∧ Hid (Bk wr w.heap.size 34 idZ) ∧ Hid (w.grownBy wr none)) (fun v _ => 32 - (intOf v).toNat)
    case atStart => exact ⟨n, Nat.le_refl _, Nat.le_max_right _ _, by rw [HM.out], by rw [cutP_start]; exact HX3, HB3, HG3⟩
    case round =>
      obtain ⟨i, hi1, hi2, rfl, HX, HB, HG⟩ := hrel
      clear HM HX3 HB3 HG3
      by_cases hlt2 : i < 32
      · have hI : (0 : Int) ≤ (i : Int) ∧ (i : Int) < 32 := by omega
        have c0 := HX.out.cellAt (i := i) (List.getElem?_eq_getElem (by rw [List.length_map, cutP_len (by omega) hi1 hxl]; omega))
        have f0 := HX.out.frozen i
        generalize ((cutP n i X.l).map bv)[i]'_ = y0 at c0
        go_wp2_with fail
        go_roundw
        case rel =>
          refine ⟨i + 1, by omega, by omega, by go_num, Go.Lib.hid ?_, Go.Lib.hid (HB.out.far (p := ⟨B, i, none⟩) (by show w.heap.size ≠ B; omega) _), Go.Lib.hid (gb_set_new HG.out _ _ (by show w.heap.size ≤ B; omega))⟩
          have h := HX.out.set i (bv 0)
          rw [← List.map_set, cutP_step hlt2 hi1 hxl] at h
          exact h
        case measure => simp [intOf]; omega
      · have hb := fin i wr (by omega) HX.out
        have hbz := HB.out
        obtain ⟨Y, hY⟩ : ∃ Y, cutId (min n 32) X = Y := ⟨_, rfl⟩
        rw [hY] at hb
        have HY := Go.Lib.hid hY
        clear hY
        clear HX
        go_wp2_with (first
          | ((with_reducible refine wpList_load_bk (x := .tmp 5) (t := 34) B _ (Y.l.map bv) _ hb (by kernel_rfl) Try.underlying34 rfl (idSize _) ?_))
          | ((with_reducible refine wpList_store_bk (t := 34) w.heap.size 34 idZ (Y.l.map bv) hbz (by kernel_rfl) (by kernel_rfl) (idSize _) (idLen _) (idOne _) ?_); intro w5 h5 g5 z5))
        try go_frame
        exact bodyPost_ret (results_id rfl _ _ w.heap.size Y rfl h5) rfl ⟨by rw [HY.out], gb_trans_new HG.out g5 (Nat.le_refl _)⟩
  · have hd : decide (c < 1) = false := decide_eq_false hc
    have HM : Hid (c = (n : Int)) := Go.Lib.hid (by omega)
    clear hn
    go_wp2_with fail
    go_loopw [7] (fun v wr => ∃ i : Nat, n ≤ i ∧ i ≤ max 32 n ∧ v = .int .i64 (i : Int) ∧ Hid (Bk wr B 34 ((cutP n i X.l).map bv)) ∧ Hid (Bk wr w.heap.size 34 idZ) ∧ Hid (w.grownBy wr none)) (fun v _ => 32 - (intOf v).toNat)
    case atStart => exact ⟨n, Nat.le_refl _, Nat.le_max_right _ _, by rw [HM.out], by rw [cutP_start]; exact HX3, HB3, HG3⟩
    case round =>
      obtain ⟨i, hi1, hi2, rfl, HX, HB, HG⟩ := hrel
      clear HM HX3 HB3 HG3
      by_cases hlt2 : i < 32
      · have hI : (0 : Int) ≤ (i : Int) ∧ (i : Int) < 32 := by omega
        have c0 := HX.out.cellAt (i := i) (List.getElem?_eq_getElem (by rw [List.length_map, cutP_len (by omega) hi1 hxl]; omega))
        have f0 := HX.out.frozen i
        generalize ((cutP n i X.l).map bv)[i]'_ = y0 at c0
        go_wp2_with fail
        go_roundw
        case rel =>
          refine ⟨i + 1, by omega, by omega, by go_num, Go.Lib.hid ?_, Go.Lib.hid (HB.out.far (p := ⟨B, i, none⟩) (by show w.heap.size ≠ B; omega) _), Go.Lib.hid (gb_set_new HG.out _ _ (by show w.heap.size ≤ B; omega))⟩
          have h := HX.out.set i (bv 0)
          rw [← List.map_set, cutP_step hlt2 hi1 hxl] at h
          exact h
        case measure => simp [intOf]; omega
      · have hb := fin i wr (by omega) HX.out
        have hbz := HB.out
        obtain ⟨Y, hY⟩ : ∃ Y, cutId (min n 32) X = Y := ⟨_, rfl⟩
        rw [hY] at hb
        have HY := Go.Lib.hid hY
        clear hY
        clear HX
        go_wp2_with (first
          | ((with_reducible refine wpList_load_bk (x := .tmp 5) (t := 34) B _ (Y.l.map bv) _ hb (by kernel_rfl) Try.underlying34 rfl (idSize _) ?_))
          | ((with_reducible refine wpList_store_bk (t := 34) w.heap.size 34 idZ (Y.l.map bv) hbz (by kernel_rfl) (by kernel_rfl) (idSize _) (idLen _) (idOne _) ?_); intro w5 h5 g5 z5))
        try go_frame
        exact bodyPost_ret (results_id rfl _ _ w.heap.size Y rfl h5) rfl ⟨by rw [HY.out], gb_trans_new HG.out g5 (Nat.le_refl _)⟩
def rtopφ (n k c9 m : Nat) (A : Option Addr) (c : Int) (ld : List (List UInt8)) (R1 R2 : Sc.Id) (i : Nat) (v : Value) (w : World) : Prop := match i with
  | 0 => v = .int .i64 c
  | 1 => v = .slice A n c9
  | 2 => v = .int .i64 (k : Int)
  | 3 => v = .slice A k c9
  | 4 => v = idv R1
  | 5 => v = sv R1.l
  | 6 => v = sv (1 :: R1.l)
  | 7 => v = .int .i64 c
  | 8 => v = .slice A n c9
  | 9 => v = .int .i64 (k : Int)
  | 10 => ∃ A2 c2, v = .slice A2 m c2 ∧ RSS w (.slice A2 m c2) ld
  | 11 => v = idv R2
  | 12 => v = sv R2.l
  | 13 => v = sv (1 :: (R1.l ++ R2.l))
  | _ => True
theorem rtopφ_gr (n k c9 m : Nat) (A : Option Addr) (c : Int) (ld : List (List UInt8)) (R1 R2 : Sc.Id) : ∀ i v w w', rtopφ n k c9 m A c ld R1 R2 i v w → Gr w w' → rtopφ n k c9 m A c ld R1 R2 i v w' := by
  intro i v w w' h hg
  match i with
  | 0 => exact h
  | 1 => exact h
  | 2 => exact h
  | 3 => exact h
  | 4 => exact h
  | 5 => exact h
  | 6 => exact h
  | 7 => exact h
  | 8 => exact h
  | 9 => exact h
  | 10 => exact by obtain ⟨A2, c2, e, h⟩ := h; exact ⟨A2, c2, e, RSS.gr h hg⟩
  | 11 => exact h
  | 12 => exact h
  | 13 => exact h
  | i + 14 => exact h
abbrev RRoot (c : Int) (n : Nat) : Prop := ∀ (v : Value) (ls : List (List UInt8)) (w : World), ls.length < n → RSS w v ls → (∀ l ∈ ls, l.length ≤ 1000000) →
  Calls Try.prog 18 #[.int .i64 c, v] w fun e w' => e = .returned (idv (rootH (sumC c) ls)) ∧ w.grownBy w' none
set_option maxHeartbeats 4000000 in
theorem rtop_of (c : Int) (v : Value) (ls : List (List UInt8)) (w : World) (hI : RRoot c ls.length) (hv : RSS w v ls) (hl : ∀ l ∈ ls, l.length ≤ 1000000) (hn0 : ls.length ≤ 1000000) :
    Calls Try.prog 44 #[.int .i64 c, v] w fun e w' => e = .returned (sv (topH (sumC c) ls)) ∧ w.grownBy w' none := by
  go_enter Try.func44, Try.ntmps44
  have HLS := Go.Lib.hid hv
  have hrd := hv
  unfold RSS at hrd
  obtain ⟨A, c9, rfl, hc⟩ := Rd.form hrd
  obtain ⟨n, hn⟩ : ∃ n, n = ls.length := ⟨_, rfl⟩
  have HI := Go.Lib.hid hI
  rw [← hn] at HLS HI hrd hc hn0 ⊢
  clear hI hv
  rcases (by omega : n = 0 ∨ n = 1 ∨ 2 ≤ n) with h0 | h0 | h0
  · subst h0
    obtain rfl : ls = [] := List.eq_nil_of_length_eq_zero hn.symm
    clear hrd hl HI HLS hn0 hn hc
    go_wp2_with fail
    go_ret
    rw [topH_nil]
    exact ⟨rfl, gb_refl _ _⟩
  · subst h0
    obtain ⟨x, rfl⟩ : ∃ x, ls = [x] := List.length_eq_one_iff.1 hn.symm
    obtain ⟨b, o, c', he, hb, hnc, hcm, hcell⟩ := hrd.at (by omega)
    injection he with hA _ hcc
    subst hA hcc
    have ce := hcell 0 (sv x) rfl
    rw [Nat.add_zero] at ce
    have hxl := hl x (by simp)
    have hal : [(0 : UInt8)].length + x.length ≤ 9223372036854775807 := by simp only [List.length_cons, List.length_nil]; omega
    obtain ⟨T, hT⟩ : ∃ T, T = topH (sumC c) [x] := ⟨_, rfl⟩
    have hT2 : T = 0 :: x := by rw [hT, topH_one]
    rw [← hT]
    have HT2 := Go.Lib.hid hT2
    clear hcell hl HI HLS hrd hT hT2 hn0 hn
    go_wp2_with ((with_reducible refine wpList_add_str (z := .tmp 14) [0] x (by kernel_rfl) (by kernel_rfl) hal ?_))
    go_ret
    rw [HT2.out]
    exact ⟨rfl, gb_refl _ _⟩
  · obtain ⟨k, hk⟩ : ∃ k, k = half n := ⟨_, rfl⟩
    have hk1 : 1 ≤ k := by rw [hk]; exact half_pos n
    have hk2 : k < n := by rw [hk]; exact half_lt h0
    have hkn : k ≤ n := by omega
    obtain ⟨lk, hlk⟩ : ∃ lk, ls.take k = lk := ⟨_, rfl⟩
    obtain ⟨ld, hld⟩ : ∃ ld, ls.drop k = ld := ⟨_, rfl⟩
    obtain ⟨R1, hR1⟩ : ∃ R1, rootH (sumC c) lk = R1 := ⟨_, rfl⟩
    obtain ⟨R2, hR2⟩ : ∃ R2, rootH (sumC c) ld = R2 := ⟨_, rfl⟩
    obtain ⟨m, hm⟩ : ∃ m, m = n - k := ⟨_, rfl⟩
    have hlkl : lk.length = k := by rw [← hlk, List.length_take]; omega
    have hldl : ld.length = m := by rw [← hld, List.length_drop, hm, hn]
    have HKL : Hid (lk.length < n ∧ (∀ l ∈ lk, l.length ≤ 1000000) ∧ ld.length < n ∧ ∀ l ∈ ld, l.length ≤ 1000000) :=
      Go.Lib.hid ⟨by omega, fun l h => hl l (by rw [← hlk] at h; exact List.mem_of_mem_take h), by omega, fun l h => hl l (by rw [← hld] at h; exact List.mem_of_mem_drop h)⟩
    have HLK : Hid (RSS w (.slice A k c9) lk) := Go.Lib.hid (by
      have h := Rd.takeTo hrd k hkn
      unfold RSS
      rw [hlkl, ← hlk, List.map_take]
      rw [Nat.mul_one] at h; exact h)
    have HTT : Hid (topH (sumC c) ls = 1 :: (R1.l ++ R2.l)) := Go.Lib.hid (by rw [topH_two _ (by omega), ← hn, ← hk, hlk, hld, hR1, hR2])
    have HLN : Hid (ls.length = n) := Go.Lib.hid hn.symm
    have HLD := Go.Lib.hid hld
    have HDL := Go.Lib.hid hldl
    have HR1 := Go.Lib.hid hR1
    have HR2 := Go.Lib.hid hR2
    have HM := Go.Lib.hid hm
    have hkI : (1 : Int) ≤ (k : Int) ∧ (k : Int) < (n : Int) := by omega
    have hncI : (n : Int) ≤ (c9 : Int) ∧ (n : Int) ≤ 1000000 := by omega
    have hal1 : [(1 : UInt8)].length + R1.l.length ≤ 9223372036854775807 := by rw [R1.h]; decide
    have hal2 : (1 :: R1.l).length + R2.l.length ≤ 9223372036854775807 := by rw [List.length_cons, R1.h, R2.h]; decide
    have hhalf : ∀ w : World, Calls Try.prog 48 #[.int .i64 (n : Int)] w fun e w' => e = .returned (.int .i64 (k : Int)) ∧ w' = w := fun w => by rw [hk]; exact refHalf_any n h0 (by omega) w
    clear hrd hl hk hlk hld hR1 hR2 hlkl hldl hn hm
    go_upto_region 6 with (go_at_call 48; ((with_reducible refine (hhalf _).mono ?_); rintro e w2 ⟨rfl, rfl⟩))
    refine wp_region_specs 14 [19, 20, 21, 22, 23, 24, 25, 26, 27, 28, 29, 30, 31, 32] (by kernel_rfl) (by kernel_rfl) (rtopφ n k c9 m A c ld R1 R2) (rtopφ_gr n k c9 m A c ld R1 R2) ?step ?fin
    case step =>
      intro i_ o_ ho hi_ u w' hg hd
      rcases (by omega : i_ = 0 ∨ i_ = 1 ∨ i_ = 2 ∨ i_ = 3 ∨ i_ = 4 ∨ i_ = 5 ∨ i_ = 6 ∨ i_ = 7 ∨ i_ = 8 ∨ i_ = 9 ∨ i_ = 10 ∨ i_ = 11 ∨ i_ = 12 ∨ i_ = 13) with rfl | rfl | rfl | rfl | rfl | rfl | rfl | rfl | rfl | rfl | rfl | rfl | rfl | rfl <;> obtain rfl := Option.some.inj ho <;>
        simp (decide := true) only [fillAct, List.mapIdx_cons, List.mapIdx_nil, Nat.reduceAdd, if_true, if_false, List.getD_cons_zero, List.getD_cons_succ]
      · clear hd ho
        go_wp2_with fail
        exact ⟨rfl, gb_refl _ _, rfl⟩
      · clear hd ho
        go_wp2_with fail
        exact ⟨rfl, gb_refl _ _, rfl⟩
      · clear hd ho
        go_wp2_with fail
        exact ⟨rfl, gb_refl _ _, rfl⟩
      · have h1 : u 20 = .slice A n c9 := hd 1 (by kernel_rfl)
        have h2 : u 21 = .int .i64 (k : Int) := hd 2 (by kernel_rfl)
        clear hd ho
        rw [h1, h2]
        go_wp2_with fail
        exact ⟨rfl, gb_refl _ _, rfl⟩
      · have h0 : u 19 = .int .i64 c := hd 0 (by kernel_rfl)
        have h3 : u 22 = .slice A k c9 := hd 3 (by kernel_rfl)
        clear hd ho
        rw [h0, h3]
        have hl1 := RSS.gr HLK.out hg
        go_wp2_with (go_at_call 18; ((with_reducible refine (HI.out _ lk _ HKL.out.1 hl1 HKL.out.2.1).mono ?_); rintro e w3 ⟨rfl, g3⟩; rw [HR1.out]))
        exact ⟨rfl, g3, rfl⟩
      · have h4 : u 23 = idv R1 := hd 4 (by kernel_rfl)
        clear hd ho
        rw [h4]
        go_wp2_with (go_at_call 49; ((with_reducible refine (text_any R1 _).mono ?_); rintro e w3 ⟨rfl, g3⟩))
        exact ⟨rfl, g3, rfl⟩
      · have h5 : u 24 = sv R1.l := hd 5 (by kernel_rfl)
        clear hd ho
        rw [h5]
        go_wp2_with ((with_reducible refine wpList_add_str (z := .tmp 24) [1] R1.l (by kernel_rfl) (by kernel_rfl) hal1 ?_))
        exact ⟨rfl, gb_refl _ _, rfl⟩
      · clear hd ho
        go_wp2_with fail
        exact ⟨rfl, gb_refl _ _, rfl⟩
      · clear hd ho
        go_wp2_with fail
        exact ⟨rfl, gb_refl _ _, rfl⟩
      · clear hd ho
        go_wp2_with fail
        exact ⟨rfl, gb_refl _ _, rfl⟩
      · have h8 : u 27 = .slice A n c9 := hd 8 (by kernel_rfl)
        have h9 : u 28 = .int .i64 (k : Int) := hd 9 (by kernel_rfl)
        clear hd ho
        rw [h8, h9]
        have hrd := RSS.gr HLS.out hg
        unfold RSS at hrd
        rw [HLN.out] at hrd
        go_wp2_with ((with_reducible refine wpList_cut (x := .tmp 27) Try.underlying24 (by kernel_rfl) hrd (by kernel_rfl) k n (.inr ⟨_, rfl, by kernel_rfl⟩) (.inl ⟨rfl, rfl⟩) hkn (Nat.le_refl _) ?_); intro v9 hv9)
        have h9 : RSS w' v9 ld := by
          rw [← HLD.out]; exact rss_of_cut hv9 HLN.out
        have hdl : ld.length = m := HDL.out
        unfold RSS at h9
        rw [hdl] at h9
        obtain ⟨A2, c2, rfl, hcc⟩ := Rd.form h9
        exact ⟨rfl, gb_refl _ _, ⟨A2, c2, rfl, by unfold RSS; rw [hdl]; exact h9⟩⟩
      · have h7 : u 26 = .int .i64 c := hd 7 (by kernel_rfl)
        have h10 : ∃ A2 c2, (u 29) = .slice A2 m c2 ∧ RSS w' (.slice A2 m c2) ld := hd 10 (by kernel_rfl)
        clear hd ho
        rw [h7]
        obtain ⟨A2, c2, e10, hl1⟩ := h10
        rw [e10]
        go_wp2_with (go_at_call 18; ((with_reducible refine (HI.out _ ld _ HKL.out.2.2.1 hl1 HKL.out.2.2.2).mono ?_); rintro e w3 ⟨rfl, g3⟩; rw [HR2.out]))
        exact ⟨rfl, g3, rfl⟩
      · have h11 : u 30 = idv R2 := hd 11 (by kernel_rfl)
        clear hd ho
        rw [h11]
        go_wp2_with (go_at_call 49; ((with_reducible refine (text_any R2 _).mono ?_); rintro e w3 ⟨rfl, g3⟩))
        exact ⟨rfl, g3, rfl⟩
      · have h6 : u 25 = sv (1 :: R1.l) := hd 6 (by kernel_rfl)
        have h12 : u 31 = sv R2.l := hd 12 (by kernel_rfl)
        clear hd ho
        rw [h6, h12]
        go_wp2_with ((with_reducible refine wpList_add_str (x := .tmp 25) (z := .tmp 31) (1 :: R1.l) R2.l (by kernel_rfl) (by kernel_rfl) hal2 ?_))
        exact ⟨rfl, gb_refl _ _, rfl⟩
    case fin =>
      intro u w5 hg hφ
      have h32 : u 32 = sv (1 :: (R1.l ++ R2.l)) := hφ 13 (by omega)
      simp (decide := true) only [fillAct, List.mapIdx_cons, List.mapIdx_nil, Nat.reduceAdd, if_true, if_false, List.drop_succ_cons, List.drop_zero]
      clear hφ
      rw [h32]
      go_wp2_with fail
      go_ret
      rw [HTT.out]
      exact ⟨rfl, hg⟩
set_option maxHeartbeats 1000000 in
theorem rroot_of (c : Int) (v : Value) (ls : List (List UInt8)) (w : World) (hI : RRoot c ls.length) (hv : RSS w v ls) (hl : ∀ l ∈ ls, l.length ≤ 1000000) (hn0 : ls.length ≤ 1000000) :
    Calls Try.prog 18 #[.int .i64 c, v] w fun e w' => e = .returned (idv (rootH (sumC c) ls)) ∧ w.grownBy w' none := by
  go_enter Try.func18, Try.ntmps18
  obtain ⟨T, hT⟩ : ∃ T, T = topH (sumC c) ls := ⟨_, rfl⟩
  obtain ⟨X, hX⟩ : ∃ X, X = sumC c T := ⟨_, rfl⟩
  have HX : Hid (rootH (sumC c) ls = X) := Go.Lib.hid (by rw [hX, hT]; rfl)
  have hTl : T.length ≤ 1000001 := by rw [hT]; exact topH_len c hl
  obtain ⟨W1, hW1⟩ : ∃ W1, W1 = w.alloc (.cells idZ.toArray 34) := ⟨_, rfl⟩
  have b1 : Bk W1 w.heap.size 34 idZ := by rw [hW1]; exact Bk.new w _ _
  have g1 : w.grownBy W1 none := by rw [hW1]; exact gb_alloc (gb_refl w none) _
  have hv1 := RSS.gr hv g1
  have htop : Calls Try.prog 44 #[.int .i64 c, v] W1 fun e w' => e = .returned (sv T) ∧ W1.grownBy w' none := by
    rw [hT]; exact rtop_of c v ls W1 hI hv1 hl hn0
  have hrd := hv
  unfold RSS at hrd
  obtain ⟨A, c9, rfl, hc⟩ := Rd.form hrd
  have hsum : ∀ (w : World), Calls Try.prog 28 #[.int .i64 c, sv T] w fun e w' => e = .returned (idv X) ∧ w.grownBy w' none := fun w => by
    rw [hX]; exact rsum_any c T hTl w
  rw [HX.out]
  obtain ⟨n, hn⟩ : ∃ n, n = ls.length := ⟨_, rfl⟩
  rw [← hn] at htop ⊢
  have HW := Go.Lib.hid hW1
  clear hv hv1 hrd hT hX hW1 hn hTl hc
  go_wp2_with (first
    | ((with_reducible refine wpList_alloc_row (E := 34) idZ infoId ?_); rw [← HW.out])
    | (go_at_call 44; ((with_reducible refine htop.mono ?_); rintro e w3 ⟨rfl, g3⟩; have b3 := b1.grown g3 (by simp)))
    | (go_at_call 28; ((with_reducible refine (hsum _).mono ?_); rintro e w4 ⟨rfl, g4⟩; have b4 := b3.grown g4 (by simp)))
    | ((with_reducible refine wpList_store_bk (t := 34) w.heap.size 34 idZ (X.l.map bv) b4 (by kernel_rfl) (by kernel_rfl) (idSize _) (idLen _) (idOne _) ?_); intro w5 h5 g5 z5))
  try go_frame
  exact bodyPost_ret (results_id rfl _ _ w.heap.size X rfl h5) rfl ⟨rfl, gb_trans_new (gb_trans (gb_trans g1 g3) g4) g5 (Nat.le_refl _)⟩
theorem rroot_all (c : Int) : ∀ n, n ≤ 1000001 → RRoot c n := by
  intro n
  induction n with
  | zero => intro _ v ls w h; exact absurd h (Nat.not_lt_zero _)
  | succ n ih =>
    intro hn v ls w h hv hl
    have hI : RRoot c ls.length := fun v ls' w h' => ih (by omega) v ls' w (by omega)
    exact rroot_of c v ls w hI hv hl (by omega)
theorem rroot_any (c : Int) (v : Value) (ls : List (List UInt8)) (w : World) (hv : RSS w v ls) (hl : ∀ l ∈ ls, l.length ≤ 1000000) (hn0 : ls.length ≤ 1000000) :
    Calls Try.prog 18 #[.int .i64 c, v] w fun e w' => e = .returned (idv (rootH (sumC c) ls)) ∧ w.grownBy w' none := rroot_all c 1000001 (Nat.le_refl _) v ls w (by omega) hv hl
end Go.Proofs.Ytajgklomcapboaa
/- scrivenerlaw07: pair, same. -/
namespace Go.Proofs.Ytajgklomcapboaa
open Go.RowKit Go.Shelf Sc
def pairφ (b n1 c1 n2 c2 : Nat) (A1 A2 : Option Addr) (c : Int) (l1 l2 : List UInt8) (R : Sc.Id) (i : Nat) (v : Value) (_w : World) : Prop := match i with
  | 0 => v = .pointer (some ⟨b, 0, none⟩)
  | 1 => v = .slice A1 n1 c1
  | 2 => v = sv l1
  | 3 => v = .pointer (some ⟨b, 1, none⟩)
  | 4 => v = .slice A2 n2 c2
  | 5 => v = sv l2
  | 6 => v = .bool true
  | 7 => v = .bool true
  | 8 => v = .int .i64 c
  | 9 => v = .pointer (some ⟨b, 0, none⟩)
  | 10 => v = .slice A1 n1 c1
  | 11 => v = sv l1
  | 12 => v = idv R
  | 13 => v = .int .i64 c
  | 14 => v = .pointer (some ⟨b, 1, none⟩)
  | 15 => v = .slice A2 n2 c2
  | 16 => v = sv l2
  | 17 => v = idv R
  | 18 => v = .bool true
  | 19 => v = .bool true
  | _ => True
theorem pairφ_gr (b n1 c1 n2 c2 : Nat) (A1 A2 : Option Addr) (c : Int) (l1 l2 : List UInt8) (R : Sc.Id) : ∀ i v w w', pairφ b n1 c1 n2 c2 A1 A2 c l1 l2 R i v w → Gr w w' → pairφ b n1 c1 n2 c2 A1 A2 c l1 l2 R i v w' := by
  intro i v w w' h hg
  match i with
  | 0 => exact h
  | 1 => exact h
  | 2 => exact h
  | 3 => exact h
  | 4 => exact h
  | 5 => exact h
  | 6 => exact h
  | 7 => exact h
  | 8 => exact h
  | 9 => exact h
  | 10 => exact h
  | 11 => exact h
  | 12 => exact h
  | 13 => exact h
  | 14 => exact h
  | 15 => exact h
  | 16 => exact h
  | 17 => exact h
  | 18 => exact h
  | 19 => exact h
  | i + 20 => exact h
def same7φ (b1 o1 c1 b2 o2 c2 n1 k : Nat) (x y : List UInt8) (i : Nat) (v : Value) (_w : World) : Prop := match i with
  | 0 => v = .slice (some ⟨b1, o1, none⟩) n1 c1
  | 1 => v = .int .i64 (k : Int)
  | 2 => v = .pointer (some ⟨b1, o1 + k, none⟩)
  | 3 => v = sv x
  | 4 => v = .slice (some ⟨b2, o2, none⟩) n1 c2
  | 5 => v = .int .i64 (k : Int)
  | 6 => v = .pointer (some ⟨b2, o2 + k, none⟩)
  | 7 => v = sv y
  | _ => True
theorem same7φ_gr (b1 o1 c1 b2 o2 c2 n1 k : Nat) (x y : List UInt8) : ∀ i v w w', same7φ b1 o1 c1 b2 o2 c2 n1 k x y i v w → Gr w w' → same7φ b1 o1 c1 b2 o2 c2 n1 k x y i v w' := by
  intro i v w w' h hg
  match i with
  | 0 => exact h
  | 1 => exact h
  | 2 => exact h
  | 3 => exact h
  | 4 => exact h
  | 5 => exact h
  | 6 => exact h
  | 7 => exact h
  | i + 8 => exact h

set_option maxHeartbeats 4000000 in
set_option maxRecDepth 100000 in
theorem pair_true (c : Int) (v1 v2 : Value) (l1 l2 : List UInt8) (w : World) (h1 : RL w v1 l1) (h2 : RL w v2 l2) (hl1 : l1.length ≤ 1000001) (hl2 : l2.length ≤ 1000001) (hne : l1 ≠ l2) (hs : sumC c l1 = sumC c l2) :
    Calls Try.prog 20 #[.int .i64 c, .agg #[v1, v2]] w fun e w' => e = .returned (.bool true) ∧ w.grownBy w' none := by
  go_enter Try.func20, Try.ntmps20
  obtain ⟨A1, c1, rfl, hc1⟩ := Rd.form h1
  obtain ⟨A2, c2, rfl, hc2⟩ := Rd.form h2
  obtain ⟨n1, hn1⟩ : ∃ n1, n1 = l1.length := ⟨_, rfl⟩
  obtain ⟨n2, hn2⟩ : ∃ n2, n2 = l2.length := ⟨_, rfl⟩
  rw [← hn1] at h1 ⊢
  rw [← hn2] at h2 ⊢
  obtain ⟨W, hW⟩ : ∃ W, W = w.alloc (.cells #[.slice A1 n1 c1, .slice A2 n2 c2] 29) := ⟨_, rfl⟩
  have b0 : Bk W w.heap.size 29 [.slice A1 n1 c1, .slice A2 n2 c2] := by rw [hW]; exact Bk.new w _ _
  have g0 : w.grownBy W none := by rw [hW]; exact gb_alloc (gb_refl w none) _
  have HW := Go.Lib.hid hW
  have HV1 := Go.Lib.hid (RL.gr h1 g0)
  have HV2 := Go.Lib.hid (RL.gr h2 g0)
  have HG0 := Go.Lib.hid g0
  obtain ⟨R, hR⟩ : ∃ R, sumC c l1 = R := ⟨_, rfl⟩
  have HR1 := Go.Lib.hid hR
  have HR2 : Hid (sumC c l2 = R) := Go.Lib.hid (by rw [← hs]; exact hR)
  have HLL := Go.Lib.hid (And.intro hl1 hl2)
  have HNE : Hid ((l1 == l2) = false) := Go.Lib.hid (beq_eq_false_iff_ne.2 hne)
  have q0 := Go.Lib.hid (b0.cellAt (i := 0) rfl)
  have q1 := Go.Lib.hid (b0.cellAt (i := 1) rfl)
  obtain ⟨b, hb⟩ : ∃ b, b = w.heap.size := ⟨_, rfl⟩
  rw [← hb] at q0 q1
  have HB := Go.Lib.hid hb
  clear h1 h2 hc1 hc2 hn1 hn2 hW b0 g0 hR hs hne hl1 hl2 hb
  go_upto_region 1 with fail
  rw [← HW.out, ← HB.out]
  refine wp_region_specs 20 [5, 6, 7, 8, 9, 10, 11, 12, 13, 14, 15, 16, 17, 18, 19, 20, 21, 22, 23, 24] (by kernel_rfl) (by kernel_rfl) (pairφ b n1 c1 n2 c2 A1 A2 c l1 l2 R) (pairφ_gr b n1 c1 n2 c2 A1 A2 c l1 l2 R) ?step ?fin
  case step =>
    intro i_ o_ ho hi_ u w' hg hd
    rcases (by omega : i_ = 0 ∨ i_ = 1 ∨ i_ = 2 ∨ i_ = 3 ∨ i_ = 4 ∨ i_ = 5 ∨ i_ = 6 ∨ i_ = 7 ∨ i_ = 8 ∨ i_ = 9 ∨ i_ = 10 ∨ i_ = 11 ∨ i_ = 12 ∨ i_ = 13 ∨ i_ = 14 ∨ i_ = 15 ∨ i_ = 16 ∨ i_ = 17 ∨ i_ = 18 ∨ i_ = 19) with rfl | rfl | rfl | rfl | rfl | rfl | rfl | rfl | rfl | rfl | rfl | rfl | rfl | rfl | rfl | rfl | rfl | rfl | rfl | rfl <;> obtain rfl := Option.some.inj ho <;>
      simp (decide := true) only [fillAct, List.mapIdx_cons, List.mapIdx_nil, Nat.reduceAdd, if_true, if_false, List.getD_cons_zero, List.getD_cons_succ]
    · clear hd ho
      go_wp2_with fail
      exact ⟨rfl, gb_refl _ _, rfl⟩
    · have h0 : u 5 = .pointer (some ⟨b, 0, none⟩) := hd 0 (by kernel_rfl)
      clear hd ho
      rw [h0]
      have c1 := cell_grown (row := none) hg q0.out (by simp)
      go_wp2_with fail
      exact ⟨rfl, gb_refl _ _, rfl⟩
    · have h1 : u 6 = .slice A1 n1 c1 := hd 1 (by kernel_rfl)
      clear hd ho
      rw [h1]
      have hv1 : RdB (fun b => b < w'.heap.size) w' (.slice A1 n1 c1) l1 := RL.gr HV1.out hg
      go_wp2_with ((with_reducible refine wpList_conv_bs (x := .tmp 6) (v := .slice A1 n1 c1) Try.underlying27 Try.underlying5 Try.underlying9 l1 (by kernel_rfl) hv1 ?_))
      exact ⟨rfl, gb_refl _ _, rfl⟩
    · clear hd ho
      go_wp2_with fail
      exact ⟨rfl, gb_refl _ _, rfl⟩
    · have h3 : u 8 = .pointer (some ⟨b, 1, none⟩) := hd 3 (by kernel_rfl)
      clear hd ho
      rw [h3]
      have c1 := cell_grown (row := none) hg q1.out (by simp)
      go_wp2_with fail
      exact ⟨rfl, gb_refl _ _, rfl⟩
    · have h4 : u 9 = .slice A2 n2 c2 := hd 4 (by kernel_rfl)
      clear hd ho
      rw [h4]
      have hv1 : RdB (fun b => b < w'.heap.size) w' (.slice A2 n2 c2) l2 := RL.gr HV2.out hg
      go_wp2_with ((with_reducible refine wpList_conv_bs (x := .tmp 9) (v := .slice A2 n2 c2) Try.underlying27 Try.underlying5 Try.underlying9 l2 (by kernel_rfl) hv1 ?_))
      exact ⟨rfl, gb_refl _ _, rfl⟩
    · have h2 : u 7 = sv l1 := hd 2 (by kernel_rfl)
      have h5 : u 10 = sv l2 := hd 5 (by kernel_rfl)
      clear hd ho
      rw [h2, h5]
      have q1 : ∀ w, (eqGuard .neq 9 (.tmp 7) (.tmp 10) (sv l1) (sv l2)).run Try.prog w = .ok () w := fun _ => by rw [eqGuard_sv]; rfl
      have q2 : ∀ w, (binOp .neq 9 (sv l1) (sv l2)).run Try.prog w = .ok (.bool true) w := fun _ => by rw [neq_sv, HNE.out]; rfl
      go_wp2_with fail
      exact ⟨rfl, gb_refl _ _, rfl⟩
    · have h6 : u 11 = .bool true := hd 6 (by kernel_rfl)
      clear hd ho
      rw [h6]
      go_wp2_with fail
      exact ⟨rfl, gb_refl _ _, rfl⟩
    · have h7 : u 12 = .bool true := hd 7 (by kernel_rfl)
      clear hd ho
      rw [h7]
      refine wpList_guard (by rfl) ?_
      go_wp2_with fail
      exact ⟨rfl, gb_refl _ _, rfl⟩
    · have h7 : u 12 = .bool true := hd 7 (by kernel_rfl)
      clear hd ho
      rw [h7]
      refine wpList_guard (by rfl) ?_
      go_wp2_with fail
      exact ⟨rfl, gb_refl _ _, rfl⟩
    · have h7 : u 12 = .bool true := hd 7 (by kernel_rfl)
      have h9 : u 14 = .pointer (some ⟨b, 0, none⟩) := hd 9 (by kernel_rfl)
      clear hd ho
      rw [h7, h9]
      refine wpList_guard (by rfl) ?_
      have c1 := cell_grown (row := none) hg q0.out (by simp)
      go_wp2_with fail
      exact ⟨rfl, gb_refl _ _, rfl⟩
    · have h7 : u 12 = .bool true := hd 7 (by kernel_rfl)
      have h10 : u 15 = .slice A1 n1 c1 := hd 10 (by kernel_rfl)
      clear hd ho
      rw [h7, h10]
      refine wpList_guard (by rfl) ?_
      have hv1 : RdB (fun b => b < w'.heap.size) w' (.slice A1 n1 c1) l1 := RL.gr HV1.out hg
      go_wp2_with ((with_reducible refine wpList_conv_bs (x := .tmp 15) (v := .slice A1 n1 c1) Try.underlying27 Try.underlying5 Try.underlying9 l1 (by kernel_rfl) hv1 ?_))
      exact ⟨rfl, gb_refl _ _, rfl⟩
    · have h7 : u 12 = .bool true := hd 7 (by kernel_rfl)
      have h8 : u 13 = .int .i64 c := hd 8 (by kernel_rfl)
      have h11 : u 16 = sv l1 := hd 11 (by kernel_rfl)
      clear hd ho
      rw [h7, h8, h11]
      refine wpList_guard (by rfl) ?_
      go_wp2_with (go_at_call 28; ((with_reducible refine (rsum_any c l1 HLL.out.1 _).mono ?_); rintro e w3 ⟨rfl, g3⟩; rw [HR1.out]))
      exact ⟨rfl, g3, rfl⟩
    · have h7 : u 12 = .bool true := hd 7 (by kernel_rfl)
      clear hd ho
      rw [h7]
      refine wpList_guard (by rfl) ?_
      go_wp2_with fail
      exact ⟨rfl, gb_refl _ _, rfl⟩
    · have h7 : u 12 = .bool true := hd 7 (by kernel_rfl)
      clear hd ho
      rw [h7]
      refine wpList_guard (by rfl) ?_
      go_wp2_with fail
      exact ⟨rfl, gb_refl _ _, rfl⟩
    · have h7 : u 12 = .bool true := hd 7 (by kernel_rfl)
      have h14 : u 19 = .pointer (some ⟨b, 1, none⟩) := hd 14 (by kernel_rfl)
      clear hd ho
      rw [h7, h14]
      refine wpList_guard (by rfl) ?_
      have c1 := cell_grown (row := none) hg q1.out (by simp)
      go_wp2_with fail
      exact ⟨rfl, gb_refl _ _, rfl⟩
    · have h7 : u 12 = .bool true := hd 7 (by kernel_rfl)
      have h15 : u 20 = .slice A2 n2 c2 := hd 15 (by kernel_rfl)
      clear hd ho
      rw [h7, h15]
      refine wpList_guard (by rfl) ?_
      have hv1 : RdB (fun b => b < w'.heap.size) w' (.slice A2 n2 c2) l2 := RL.gr HV2.out hg
      go_wp2_with ((with_reducible refine wpList_conv_bs (x := .tmp 20) (v := .slice A2 n2 c2) Try.underlying27 Try.underlying5 Try.underlying9 l2 (by kernel_rfl) hv1 ?_))
      exact ⟨rfl, gb_refl _ _, rfl⟩
    · have h7 : u 12 = .bool true := hd 7 (by kernel_rfl)
      have h13 : u 18 = .int .i64 c := hd 13 (by kernel_rfl)
      have h16 : u 21 = sv l2 := hd 16 (by kernel_rfl)
      clear hd ho
      rw [h7, h13, h16]
      refine wpList_guard (by rfl) ?_
      go_wp2_with (go_at_call 28; ((with_reducible refine (rsum_any c l2 HLL.out.2 _).mono ?_); rintro e w3 ⟨rfl, g3⟩; rw [HR2.out]))
      exact ⟨rfl, g3, rfl⟩
    · have h7 : u 12 = .bool true := hd 7 (by kernel_rfl)
      have h12 : u 17 = idv R := hd 12 (by kernel_rfl)
      have h17 : u 22 = idv R := hd 17 (by kernel_rfl)
      clear hd ho
      rw [h7, h12, h17]
      refine wpList_guard (by rfl) ?_
      go_wp2_with ((with_reducible refine wpList_eql_id (x := .tmp 17) (y := .tmp 22) idEq R R (by kernel_rfl) (by kernel_rfl) ?_); rw [beq_self_eq_true])
      exact ⟨rfl, gb_refl _ _, rfl⟩
    · have h7 : u 12 = .bool true := hd 7 (by kernel_rfl)
      have h18 : u 23 = .bool true := hd 18 (by kernel_rfl)
      clear hd ho
      rw [h7, h18]
      go_wp2_with fail
      exact ⟨rfl, gb_refl _ _, rfl⟩
  case fin =>
    intro u w5 hg hφ
    have hz : u 24 = .bool true := hφ 19 (by omega)
    simp (decide := true) only [fillAct, List.mapIdx_cons, List.mapIdx_nil, Nat.reduceAdd, if_true, if_false, List.drop_succ_cons, List.drop_zero]
    rw [hz]
    clear hφ
    go_wp2_with fail
    go_ret
    exact ⟨rfl, gb_trans HG0.out hg⟩
set_option maxHeartbeats 4000000 in
set_option maxRecDepth 100000 in
theorem same7_any (va vb : Value) (la lb : List (List UInt8)) (w : World) (ha : RSS w va la) (hb : RSS w vb lb) (hla : la.length ≤ 1000000) (hlb : lb.length ≤ 1000000) :
    Calls Try.prog 19 #[va, vb] w fun e w' => e = .returned (.bool (decide (la = lb))) ∧ w.grownBy w' none := by
  go_enter Try.func19, Try.ntmps19
  unfold RSS at ha hb
  obtain ⟨A1, c1, rfl, hc1⟩ := Rd.form ha
  obtain ⟨A2, c2, rfl, hc2⟩ := Rd.form hb
  obtain ⟨n1, hn1⟩ : ∃ n1, n1 = la.length := ⟨_, rfl⟩
  obtain ⟨n2, hn2⟩ : ∃ n2, n2 = lb.length := ⟨_, rfl⟩
  rw [← hn1] at ha hc1 hla ⊢
  rw [← hn2] at hb hc2 hlb ⊢
  have HA := Go.Lib.hid ha
  have HB := Go.Lib.hid hb
  have HN1 := Go.Lib.hid hn1
  have HN2 := Go.Lib.hid hn2
  obtain ⟨D, hD⟩ : ∃ D, D = decide (la = lb) := ⟨_, rfl⟩
  rw [← hD]
  have HD := Go.Lib.hid hD
  clear ha hb hn1 hn2 hc1 hc2 hD
  by_cases hne : n1 = n2
  · subst hne
    have q1 : decide (n1 = n1) = true := decide_eq_true rfl
    have q2 : decide ((n1 : Int) = (n1 : Int)) = true := decide_eq_true rfl
    go_wp2_with fail
    go_loopw [13] (fun n wr => ∃ k : Nat, k ≤ n1 ∧ n = .int .i64 k ∧ Hid (la.take k = lb.take k) ∧ Hid (w.grownBy wr none)) (fun n _ => n1 - (intOf n).toNat)
    case atStart => exact ⟨0, Nat.zero_le _, rfl, Go.Lib.hid rfl, Go.Lib.hid (gb_refl _ _)⟩
    case round =>
      obtain ⟨k, hk, rfl, HE, HG⟩ := hrel
      by_cases hlt : k < n1
      · have hkI : (0 : Int) ≤ (k : Int) ∧ (k : Int) < (n1 : Int) ∧ (n1 : Int) ≤ 1000000 := by omega
        have d1 : decide (k < n1) = true := decide_eq_true hlt
        obtain ⟨x, hx⟩ : ∃ x, la[k]? = some x := ⟨_, List.getElem?_eq_getElem (by rw [← HN1.out]; exact hlt)⟩
        obtain ⟨y, hy⟩ : ∃ y, lb[k]? = some y := ⟨_, List.getElem?_eq_getElem (by rw [← HN2.out]; exact hlt)⟩
        obtain ⟨b1, o1, c', he, hb1, hnc, hcm, hcell⟩ := HA.out.at (by omega)
        injection he with hA _ hcc
        subst hA hcc
        obtain ⟨b2, o2, c', he, hb2, hnc2, hcm2, hcell2⟩ := HB.out.at (by omega)
        injection he with hA _ hcc
        subst hA hcc
        have e1 : wr.cell? ⟨b1, o1 + k, none⟩ = some (sv x) := cell_grown HG.out (hcell k _ (by rw [List.getElem?_map, hx]; rfl)) (by simp)
        have e2 : wr.cell? ⟨b2, o2 + k, none⟩ = some (sv y) := cell_grown HG.out (hcell2 k _ (by rw [List.getElem?_map, hy]; rfl)) (by simp)
        have HX := Go.Lib.hid hx
        have HY := Go.Lib.hid hy
        have E1 := Go.Lib.hid e1
        have E2 := Go.Lib.hid e2
        clear hcell hcell2 hx hy e1 e2
        go_upto_region 6 with fail
        refine wp_region_specs 8 [16, 17, 18, 19, 20, 21, 22, 23] (by kernel_rfl) (by kernel_rfl) (same7φ b1 o1 c1 b2 o2 c2 n1 k x y) (same7φ_gr b1 o1 c1 b2 o2 c2 n1 k x y) ?step ?fin
        case step =>
          intro i_ o_ ho hi_ u w' hg hd
          rcases (by omega : i_ = 0 ∨ i_ = 1 ∨ i_ = 2 ∨ i_ = 3 ∨ i_ = 4 ∨ i_ = 5 ∨ i_ = 6 ∨ i_ = 7) with rfl | rfl | rfl | rfl | rfl | rfl | rfl | rfl <;> obtain rfl := Option.some.inj ho <;>
            simp (decide := true) only [fillAct, List.mapIdx_cons, List.mapIdx_nil, Nat.reduceAdd, if_true, if_false, List.getD_cons_zero, List.getD_cons_succ]
          · clear hd ho
            go_wp2_with fail
            exact ⟨rfl, gb_refl _ _, rfl⟩
          · clear hd ho
            go_wp2_with fail
            exact ⟨rfl, gb_refl _ _, rfl⟩
          · have h0 : u 16 = .slice (some ⟨b1, o1, none⟩) n1 c1 := hd 0 (by kernel_rfl)
            have h1 : u 17 = .int .i64 (k : Int) := hd 1 (by kernel_rfl)
            clear hd ho
            rw [h0, h1]
            go_wp2_with fail
            exact ⟨rfl, gb_refl _ _, rfl⟩
          · have h2 : u 18 = .pointer (some ⟨b1, o1 + k, none⟩) := hd 2 (by kernel_rfl)
            clear hd ho
            rw [h2]
            have r1 := cell_grown (row := none) hg E1.out (by simp)
            go_wp2_with fail
            exact ⟨rfl, gb_refl _ _, rfl⟩
          · clear hd ho
            go_wp2_with fail
            exact ⟨rfl, gb_refl _ _, rfl⟩
          · clear hd ho
            go_wp2_with fail
            exact ⟨rfl, gb_refl _ _, rfl⟩
          · have h4 : u 20 = .slice (some ⟨b2, o2, none⟩) n1 c2 := hd 4 (by kernel_rfl)
            have h5 : u 21 = .int .i64 (k : Int) := hd 5 (by kernel_rfl)
            clear hd ho
            rw [h4, h5]
            go_wp2_with fail
            exact ⟨rfl, gb_refl _ _, rfl⟩
          · have h6 : u 22 = .pointer (some ⟨b2, o2 + k, none⟩) := hd 6 (by kernel_rfl)
            clear hd ho
            rw [h6]
            have r1 := cell_grown (row := none) hg E2.out (by simp)
            go_wp2_with fail
            exact ⟨rfl, gb_refl _ _, rfl⟩
        case fin =>
          intro u w' hg hφ
          have h3 : u 19 = sv x := hφ 3 (by omega)
          have h7 : u 23 = sv y := hφ 7 (by omega)
          simp (decide := true) only [fillAct, List.mapIdx_cons, List.mapIdx_nil, Nat.reduceAdd, if_true, if_false, List.drop_succ_cons, List.drop_zero]
          rw [h3, h7]
          clear hφ
          have qg : ∀ w, (eqGuard .neq 9 (.tmp 19) (.tmp 23) (sv x) (sv y)).run Try.prog w = .ok () w := fun _ => by rw [eqGuard_sv]; rfl
          by_cases hxy : x = y
          · have qn : ∀ w, (binOp .neq 9 (sv x) (sv y)).run Try.prog w = .ok (.bool false) w := fun _ => by rw [neq_sv, beq_iff_eq.2 hxy]; rfl
            have HXY := Go.Lib.hid hxy
            clear hxy
            go_wp2_with fail
            go_roundw
            case rel => exact ⟨k + 1, by omega, by go_num, Go.Lib.hid (by rw [List.take_add_one, List.take_add_one, HE.out, HX.out, HY.out, HXY.out]), Go.Lib.hid (gb_trans HG.out hg)⟩
            case measure => simp [intOf]; omega
          · have qn : ∀ w, (binOp .neq 9 (sv x) (sv y)).run Try.prog w = .ok (.bool true) w := fun _ => by rw [neq_sv, beq_eq_false_iff_ne.2 hxy]; rfl
            have HXY := Go.Lib.hid hxy
            clear hxy
            go_wp2_with fail
            go_ret
            refine ⟨?_, gb_trans HG.out hg⟩
            have hd : D = false := by
              rw [HD.out]
              refine decide_eq_false fun e => ?_
              rw [e] at HX
              have := HX.out.symm.trans HY.out
              exact HXY.out (Option.some.inj this)
            rw [hd]; rfl
      · obtain rfl : k = n1 := by omega
        have d1 : decide (k < k) = false := decide_eq_false (by omega)
        have hd : D = true := by
          rw [HD.out]
          refine decide_eq_true ?_
          have h := HE.out
          have l1 := HN1.out
          have l2 := HN2.out
          rw [List.take_of_length_le (by omega), List.take_of_length_le (by omega)] at h
          exact h
        have HD2 := Go.Lib.hid hd
        clear hd
        go_wp2_with fail
        go_ret
        exact ⟨by rw [HD2.out]; rfl, HG.out⟩
  · have q1 : decide (n1 = n2) = false := decide_eq_false hne
    have q2 : decide ((n1 : Int) = (n2 : Int)) = false := decide_eq_false (by omega)
    have hd : D = false := by
      rw [HD.out]
      refine decide_eq_false fun e => ?_
      rw [HN1.out, HN2.out, e] at hne
      exact hne rfl
    rw [hd]
    go_wp2_with fail
    go_ret
    exact ⟨rfl, gb_refl _ _⟩
end Go.Proofs.Ytajgklomcapboaa
/- short: texts. -/
namespace Sc
open Go Go.RowKit
section
variable (H : List UInt8 → Id) (e : List UInt8)
/-- The texts to sum on the way from an entry to a root; the way is given backwards. -/
def textsR : Nat → Nat → List Id → Option (List (List UInt8))
  | _, n, [] => if n = 1 then some [0 :: e] else none
  | p, n, x :: rp => if n = 1 then none else if p < half n then (textsR p (half n) rp).map fun l => l ++ [1 :: ((H (l.getLastD [])).l ++ x.l)]
    else (textsR (p - half n) (n - half n) rp).map fun l => l ++ [1 :: (x.l ++ (H (l.getLastD [])).l)]
theorem textsR_len : ∀ (rp : List Id) (p n : Nat) (l : List (List UInt8)), textsR H e p n rp = some l → l.length = rp.length + 1 := by
  intro rp
  induction rp with
  | nil => intro p n l h; unfold textsR at h; split at h; cases h; rfl; cases h
  | cons x rp ih =>
    intro p n l h
    unfold textsR at h
    split at h
    · cases h
    · split at h
      all_goals
        obtain ⟨l', h1, rfl⟩ := Option.map_eq_some_iff.1 h
        have := ih _ _ _ h1
        simp [this]
theorem textsR_each : ∀ (rp : List Id) (p n : Nat) (l : List (List UInt8)), textsR H e p n rp = some l → ∀ t ∈ l, t.length ≤ e.length + 65 := by
  intro rp
  induction rp with
  | nil => intro p n l h t ht; unfold textsR at h; split at h; cases h; simp at ht; subst ht; simp; cases h
  | cons x rp ih =>
    intro p n l h t ht
    unfold textsR at h
    split at h
    · cases h
    · split at h
      all_goals
        obtain ⟨l', h1, rfl⟩ := Option.map_eq_some_iff.1 h
        rcases List.mem_append.1 ht with h2 | h2
        · exact ih _ _ _ h1 t h2
        · rw [List.mem_singleton] at h2
          subst h2
          rw [List.length_cons, List.length_append, Id.h, Id.h]; omega
end
end Sc
namespace Go.Proofs.Ytajgklomcapboaa
open Go.RowKit Go.Shelf Sc
def txhφ (n k q c9 b o B : Nat) (X : Sc.Id) (i : Nat) (v : Value) (w : World) : Prop := match i with
  | 0 => v = .int .i64 (n : Int)
  | 1 => v = .int .i64 (k : Int)
  | 2 => v = .slice (some ⟨b, o, none⟩) (q + 1) c9
  | 3 => v = .slice (some ⟨b, o, none⟩) (q + 1) c9
  | 4 => v = .int .i64 ((q : Int) + 1)
  | 5 => v = .int .i64 (q : Int)
  | 6 => v = .pointer (some ⟨b, o + q * 32, none⟩)
  | 7 => v = idv X
  | 8 => ∃ b13, v = .pointer (some ⟨b13, 0, none⟩) ∧ B ≤ b13 ∧ Bk w b13 34 idZ
  | 9 => v = .int .i64 (k : Int)
  | _ => True
theorem txhφ_gr (n k q c9 b o B : Nat) (X : Sc.Id) : ∀ i v w w', txhφ n k q c9 b o B X i v w → Gr w w' → txhφ n k q c9 b o B X i v w' := by
  intro i v w w' h hg
  match i with
  | 0 => exact h
  | 1 => exact h
  | 2 => exact h
  | 3 => exact h
  | 4 => exact h
  | 5 => exact h
  | 6 => exact h
  | 7 => exact h
  | 8 => exact by obtain ⟨b13, e, h1, h2⟩ := h; exact ⟨b13, e, h1, h2.grown hg (by simp)⟩
  | 9 => exact h
  | i + 10 => exact h
def txφ (b3 o3 r c3 nx cx B : Nat) (Ax : Option Addr) (c : Int) (S X : Sc.Id) (T : List UInt8) (i : Nat) (v : Value) (w : World) : Prop := match i with
  | 0 => v = .slice (some ⟨b3, o3, none⟩) (r + 1) c3
  | 1 => v = .int .i64 c
  | 2 => v = .slice (some ⟨b3, o3, none⟩) (r + 1) c3
  | 3 => v = .slice (some ⟨b3, o3, none⟩) (r + 1) c3
  | 4 => v = .int .i64 ((r : Int) + 1)
  | 5 => v = .int .i64 (r : Int)
  | 6 => v = .pointer (some ⟨b3, o3 + r, none⟩)
  | 7 => v = .slice Ax nx cx
  | 8 => v = idv S
  | 9 => v = idv X
  | 10 => ∃ A c, v = .slice A 65 c ∧ RdB (fun b => B ≤ b ∧ b < w.heap.size) w (.slice A 65 c) T
  | 11 => ∃ A c b, v = .slice (some ⟨b, 0, none⟩) 1 1 ∧ B ≤ b ∧ Bk w b 27 [.slice A 65 c] ∧ RdB (fun b => B ≤ b ∧ b < w.heap.size) w (.slice A 65 c) T
  | _ => True
theorem txφ_gr (b3 o3 r c3 nx cx B : Nat) (Ax : Option Addr) (c : Int) (S X : Sc.Id) (T : List UInt8) : ∀ i v w w', txφ b3 o3 r c3 nx cx B Ax c S X T i v w → Gr w w' → txφ b3 o3 r c3 nx cx B Ax c S X T i v w' := by
  intro i v w w' h hg
  match i with
  | 0 => exact h
  | 1 => exact h
  | 2 => exact h
  | 3 => exact h
  | 4 => exact h
  | 5 => exact h
  | 6 => exact h
  | 7 => exact h
  | 8 => exact h
  | 9 => exact h
  | 10 => exact by obtain ⟨A, c, e, h⟩ := h; exact ⟨A, c, e, Rd.mono (Rd.grown h hg (by simp)) fun b hb => ⟨hb.1, Nat.lt_of_lt_of_le hb.2 hg.size⟩⟩
  | 11 => exact by obtain ⟨A, c, b, e, h1, h2, h3⟩ := h; exact ⟨A, c, b, e, h1, h2.grown hg (by simp), Rd.mono (Rd.grown h3 hg (by simp)) fun b hb => ⟨hb.1, Nat.lt_of_lt_of_le hb.2 hg.size⟩⟩
  | i + 12 => exact h
def tyφ (b3 o3 r c3 nx cx B : Nat) (Ax : Option Addr) (c : Int) (S X : Sc.Id) (T : List UInt8) (i : Nat) (v : Value) (w : World) : Prop := match i with
  | 0 => v = .slice (some ⟨b3, o3, none⟩) (r + 1) c3
  | 1 => v = idv X
  | 2 => v = .int .i64 c
  | 3 => v = .slice (some ⟨b3, o3, none⟩) (r + 1) c3
  | 4 => v = .slice (some ⟨b3, o3, none⟩) (r + 1) c3
  | 5 => v = .int .i64 ((r : Int) + 1)
  | 6 => v = .int .i64 (r : Int)
  | 7 => v = .pointer (some ⟨b3, o3 + r, none⟩)
  | 8 => v = .slice Ax nx cx
  | 9 => v = idv S
  | 10 => ∃ A c, v = .slice A 65 c ∧ RdB (fun b => B ≤ b ∧ b < w.heap.size) w (.slice A 65 c) T
  | 11 => ∃ A c b, v = .slice (some ⟨b, 0, none⟩) 1 1 ∧ B ≤ b ∧ Bk w b 27 [.slice A 65 c] ∧ RdB (fun b => B ≤ b ∧ b < w.heap.size) w (.slice A 65 c) T
  | _ => True
theorem tyφ_gr (b3 o3 r c3 nx cx B : Nat) (Ax : Option Addr) (c : Int) (S X : Sc.Id) (T : List UInt8) : ∀ i v w w', tyφ b3 o3 r c3 nx cx B Ax c S X T i v w → Gr w w' → tyφ b3 o3 r c3 nx cx B Ax c S X T i v w' := by
  intro i v w w' h hg
  match i with
  | 0 => exact h
  | 1 => exact h
  | 2 => exact h
  | 3 => exact h
  | 4 => exact h
  | 5 => exact h
  | 6 => exact h
  | 7 => exact h
  | 8 => exact h
  | 9 => exact h
  | 10 => exact by obtain ⟨A, c, e, h⟩ := h; exact ⟨A, c, e, Rd.mono (Rd.grown h hg (by simp)) fun b hb => ⟨hb.1, Nat.lt_of_lt_of_le hb.2 hg.size⟩⟩
  | 11 => exact by obtain ⟨A, c, b, e, h1, h2, h3⟩ := h; exact ⟨A, c, b, e, h1, h2.grown hg (by simp), Rd.mono (Rd.grown h3 hg (by simp)) fun b hb => ⟨hb.1, Nat.lt_of_lt_of_le hb.2 hg.size⟩⟩
  | i + 12 => exact h

def TRes (c : Int) (e : List UInt8) (p n : Nat) (rp : List Sc.Id) (w : World) (E : Ending) (w' : World) : Prop :=
  ∃ A m c9 ok, E = .returned (.tuple #[.slice A m c9, .bool ok]) ∧ w.grownBy w' none ∧
    ((textsR (sumC c) e p n rp = none ∧ ok = false) ∨ ∃ l, textsR (sumC c) e p n rp = some l ∧ ok = true ∧ m = l.length ∧ OwX w.heap.size w' (.slice A m c9) l)
set_option maxHeartbeats 8000000 in
set_option maxRecDepth 100000 in
theorem texts_any (c : Int) (e : List UInt8) (he : e.length ≤ 1000000) : ∀ (rp : List Sc.Id) (p n : Nat) (ve vp : Value) (w : World), RL w ve e → RI w vp rp.reverse → 1 ≤ n → n ≤ 1099511627776 → p < n → rp.length ≤ 1000 →
    Calls Try.prog 47 #[.int .i64 c, ve, .int .i64 (p : Int), .int .i64 (n : Int), vp] w (TRes c e p n rp w) := by
  intro rp
  induction rp with
  | nil =>
    intro p n ve vp w hve hvp hn1 hn hpn hrl
    go_enter Try.func47, Try.ntmps47
    obtain ⟨Ae, ce, rfl, _⟩ := Rd.form hve
    obtain ⟨ne, hne⟩ : ∃ ne, ne = e.length := ⟨_, rfl⟩
    obtain ⟨Ap, cp, rfl, _⟩ := Rd.form hvp
    rw [← hne] at hve ⊢
    have HVE := Go.Lib.hid hve
    have hleaf : ∀ w, RL w (.slice Ae ne ce) e → Calls Try.prog 60 #[.slice Ae ne ce] w fun E w' => ∃ v', E = .returned v' ∧ Ow w.heap.size w' 1 v' (0 :: e).length ((0 :: e).map bv) ∧ w.grownBy w' none := fun w h => sleaf_any _ e _ w h he
    have HLF := Go.Lib.hid hleaf
    clear hve hvp hne he hrl hleaf
    by_cases h1 : n = 1
    · subst h1
      go_wp2_with (go_at_call 60; ((with_reducible refine (HLF.out _ HVE.out).mono ?_); rintro E w3 ⟨v3, rfl, ho3, g3⟩; obtain ⟨A3, c3, rfl⟩ := ho3.form))
      go_ret2
      refine ⟨_, _, _, _, rfl, gb_alloc g3 _, .inr ⟨[0 :: e], rfl, rfl, rfl, ?_⟩⟩
      refine ⟨[.slice A3 (0 :: e).length c3], Ow.new w3 _ _ 1 1 [_] rfl (by decide) g3.size, fun j l hj => ?_⟩
      match j, hj with
      | 0, hj =>
        cases hj
        refine ⟨_, rfl, ?_⟩
        have h3 := ho3.rd (NB := fun b => b < w3.heap.size) (fun b hb => (ho3.lt hb).2)
        exact Rd.mono (Rd.grown h3 (gb_alloc (gb_refl _ none) _) (by simp)) fun b hb => ⟨by rw [World.size_alloc]; omega, fun e => by have := Option.some.inj (show some w3.heap.size = some b from e); omega⟩
      | j + 1, hj => cases hj
    · have d1 : decide ((n : Int) = 1) = false := decide_eq_false (by omega)
      have d2 : decide (n = 1) = false := decide_eq_false h1
      go_wp2_with fail
      go_ret2
      exact ⟨_, _, _, _, rfl, gb_refl _ _, .inl ⟨by unfold textsR; rw [if_neg h1], rfl⟩⟩
  | cons X rp ih =>
    intro p n ve vp w hve hvp hn1 hn hpn hrl
    go_enter Try.func47, Try.ntmps47
    obtain ⟨Ae, ce, rfl, _⟩ := Rd.form hve
    obtain ⟨ne, hne⟩ : ∃ ne, ne = e.length := ⟨_, rfl⟩
    obtain ⟨q, hq⟩ : ∃ q, q = rp.length := ⟨_, rfl⟩
    have hq1 : (X :: rp).reverse.length = q + 1 := by rw [List.length_reverse, List.length_cons, hq]
    have hq2 : (X :: rp).reverse[q]? = some X := by rw [hq, List.reverse_cons, List.getElem?_append_right (by rw [List.length_reverse]; exact Nat.le_refl _), List.length_reverse, Nat.sub_self]; rfl
    have hq3 : (X :: rp).reverse.take q = rp.reverse := by rw [hq, List.reverse_cons, List.take_left' (by rw [List.length_reverse])]
    obtain ⟨b, o, c9, rfl, hb, hc9, hcm, hr⟩ := Rd.at hvp (by rw [hq1]; omega)
    have hrx := range_id hr hq2
    have hpi : RI w (.slice (some ⟨b, o, none⟩) q c9) rp.reverse := by
      have h := RdI.toTake hvp rfl (k := q) (by rw [hq1]; omega)
      rw [hq3] at h; exact h
    rw [hq1] at hc9 ⊢
    rw [← hne] at hve ⊢
    have HVE := Go.Lib.hid hve
    have HLF : Hid (∀ w, RL w (.slice Ae ne ce) e → Calls Try.prog 60 #[.slice Ae ne ce] w fun E w' => ∃ v', E = .returned v' ∧ Ow w.heap.size w' 1 v' (0 :: e).length ((0 :: e).map bv) ∧ w.grownBy w' none) := Go.Lib.hid fun w h => sleaf_any _ e _ w h he
    have HRX := Go.Lib.hid hrx
    have HPI := Go.Lib.hid hpi
    have HIH := Go.Lib.hid ih
    have HRL : Hid (rp.length ≤ 1000) := Go.Lib.hid (by rw [List.length_cons] at hrl; omega)
    have hqI : (0 : Int) ≤ (q : Int) ∧ (q : Int) < 1000 ∧ (q : Int) < (c9 : Int) := by rw [List.length_cons] at hrl; omega
    clear hve hvp hne hrl hq hq1 hq2 hq3 hr hrx hpi ih
    by_cases h1 : n = 1
    · subst h1
      go_wp2_with (go_at_call 60; ((with_reducible refine (HLF.out _ HVE.out).mono ?_); rintro E w3 ⟨v3, rfl, ho3, g3⟩; obtain ⟨A3, c3, rfl⟩ := ho3.form))
      go_ret2
      exact ⟨_, _, _, _, rfl, gb_alloc g3 _, .inl ⟨by unfold textsR; rw [if_pos rfl], rfl⟩⟩
    · have d1 : decide ((n : Int) = 1) = false := decide_eq_false (by omega)
      have d2 : decide (n = 1) = false := decide_eq_false h1
      obtain ⟨k, hk⟩ : ∃ k, k = half n := ⟨_, rfl⟩
      have hk1 : 1 ≤ k := by rw [hk]; exact half_pos n
      have hk2 : k < n := by rw [hk]; exact half_lt (by omega)
      have hhalf : ∀ w : World, Calls Try.prog 43 #[.int .i64 (n : Int)] w fun e w' => e = .returned (.int .i64 (k : Int)) ∧ w' = w := fun w => by rw [hk]; exact shalf_any n (by omega) hn w
      have d5 : ((n : Int) == 1) = false := by simp; omega
      have d6 : ((q : Int) + 1 == 0) = false := by simp; omega
      have HK := Go.Lib.hid hk
      have HH1 := Go.Lib.hid h1
      clear hk h1
      go_upto_region 5 with fail
      refine wp_region_specsP (R := Gr) (fun _ _ _ h k => gb_trans h k) 10 [29, 30, 31, 32, 33, 34, 35, 36, 13, 12] (by kernel_rfl) (gb_drew (gb_refl _ none)) (by kernel_rfl) (fun _ => false) (txhφ n k q c9 b o w.heap.size X) (fun _ _ _ h => by cases h) (txhφ_gr n k q c9 b o w.heap.size X) ?step ?fin
      case step =>
        intro i_ o_ ho hi_ u w' hg hd
        rcases (by omega : i_ = 0 ∨ i_ = 1 ∨ i_ = 2 ∨ i_ = 3 ∨ i_ = 4 ∨ i_ = 5 ∨ i_ = 6 ∨ i_ = 7 ∨ i_ = 8 ∨ i_ = 9) with rfl | rfl | rfl | rfl | rfl | rfl | rfl | rfl | rfl | rfl <;> obtain rfl := Option.some.inj ho <;>
          simp (decide := true) only [fillAct, List.mapIdx_cons, List.mapIdx_nil, Nat.reduceAdd, if_true, if_false, List.getD_cons_zero, List.getD_cons_succ]
        · clear hd ho
          go_wp2_with fail
          exact ⟨rfl, gb_refl _ _, rfl, fun h => by cases h⟩
        · have h0 : u 29 = .int .i64 (n : Int) := hd 0 (by kernel_rfl)
          clear hd ho
          rw [h0]
          go_wp2_with (go_at_call 43; ((with_reducible refine (hhalf _).mono ?_); rintro e w2 ⟨rfl, rfl⟩))
          exact ⟨rfl, gb_refl _ _, rfl, fun h => by cases h⟩
        · clear hd ho
          go_wp2_with fail
          exact ⟨rfl, gb_refl _ _, rfl, fun h => by cases h⟩
        · clear hd ho
          go_wp2_with fail
          exact ⟨rfl, gb_refl _ _, rfl, fun h => by cases h⟩
        · have h3 : u 32 = .slice (some ⟨b, o, none⟩) (q + 1) c9 := hd 3 (by kernel_rfl)
          clear hd ho
          rw [h3]
          go_wp2_with fail
          exact ⟨rfl, gb_refl _ _, rfl, fun h => by cases h⟩
        · have h4 : u 33 = .int .i64 ((q : Int) + 1) := hd 4 (by kernel_rfl)
          clear hd ho
          rw [h4]
          go_wp2_with fail
          exact ⟨rfl, gb_refl _ _, rfl, fun h => by cases h⟩
        · have h2 : u 31 = .slice (some ⟨b, o, none⟩) (q + 1) c9 := hd 2 (by kernel_rfl)
          have h5 : u 34 = .int .i64 (q : Int) := hd 5 (by kernel_rfl)
          clear hd ho
          rw [h2, h5]
          go_wp2_with fail
          exact ⟨rfl, gb_refl _ _, rfl, fun h => by cases h⟩
        · have h6 : u 35 = .pointer (some ⟨b, o + q * 32, none⟩) := hd 6 (by kernel_rfl)
          clear hd ho
          rw [h6]
          have r1 := rangeAt_grown HRX.out hg (by simp)
          go_wp2_with ((with_reducible refine wpList_load_range (t := 34) b (o + q * 32) (X.l.map bv) _ r1 (by kernel_rfl) Try.underlying34 rfl (idSize _) ?_))
          exact ⟨rfl, gb_refl _ _, rfl, fun h => by cases h⟩
        · clear hd ho
          have hgs := hg.size
          go_wp2_with ((with_reducible refine wpList_alloc_row (E := 34) idZ infoId ?_))
          exact ⟨rfl, gb_alloc (gb_refl _ _) _, ⟨_, rfl, hgs, Bk.new _ _ _⟩, fun h => by cases h⟩
        · have h1 : u 30 = .int .i64 (k : Int) := hd 1 (by kernel_rfl)
          clear hd ho
          rw [h1]
          go_wp2_with fail
          exact ⟨rfl, gb_refl _ _, rfl, fun h => by cases h⟩
      case fin =>
        intro u w5 hg hφ _
        have h30 : u 30 = .int .i64 (k : Int) := hφ 1 (by omega)
        have h12 : u 12 = .int .i64 (k : Int) := hφ 9 (by omega)
        have h36 : u 36 = idv X := hφ 7 (by omega)
        obtain ⟨b13, h13, hB13, hb13⟩ := (show ∃ b13, u 13 = .pointer (some ⟨b13, 0, none⟩) ∧ w.heap.size ≤ b13 ∧ Bk w5 b13 34 idZ from hφ 8 (by omega))
        simp (decide := true) only [fillAct, List.mapIdx_cons, List.mapIdx_nil, Nat.reduceAdd, if_true, if_false, List.drop_succ_cons, List.drop_zero]
        rw [h30, h36, h13, h12]
        clear hφ h30 h36 h13 h12
        go_upto_region 6 with ((with_reducible refine wpList_store_bk (t := 34) b13 34 idZ (X.l.map bv) hb13 (by kernel_rfl) (by kernel_rfl) (idSize _) (idLen _) (idOne _) ?_); intro w6 h6 g6 z6)
        have g06 := gb_trans_new hg g6 hB13
        have HG6 := Go.Lib.hid g06
        have HB6 := Go.Lib.hid h6
        have HVE6 := Go.Lib.hid (RL.gr HVE.out g06)
        have HPI6 := Go.Lib.hid (RI.gr HPI.out g06)
        have hpI : (0 : Int) ≤ (p : Int) ∧ (p : Int) < (n : Int) ∧ (n : Int) ≤ 1099511627776 ∧ (1 : Int) ≤ (k : Int) ∧ (k : Int) < (n : Int) := by omega
        clear g06 h6 g6 z6 hb13
        by_cases hpk : p < k
        · have d3 : decide (p < k) = true := decide_eq_true hpk
          have d4 : decide ((p : Int) < (k : Int)) = true := decide_eq_true (by omega)
          have HTX : Hid (textsR (sumC c) e p n (X :: rp) = (textsR (sumC c) e p k rp).map fun l => l ++ [1 :: ((sumC c (l.getLastD [])).l ++ X.l)]) := Go.Lib.hid (by rw [textsR, if_neg HH1.out, if_pos (by rw [← HK.out]; exact hpk), ← HK.out])
          go_upto_region 8 with (go_at_call 47; ((with_reducible refine (HIH.out p k _ _ _ HVE6.out HPI6.out hk1 (by omega) hpk HRL.out).mono ?_); rintro E w7 ⟨A3, m3, c3, ok, rfl, g7, hm⟩))
          rcases hm with ⟨hm, rfl⟩ | ⟨l, hm, rfl, rfl, hox⟩
          · go_wp2_with fail
            go_ret2
            exact ⟨_, _, _, _, rfl, gb_trans HG6.out g7, .inl ⟨by rw [HTX.out, hm]; rfl, rfl⟩⟩
          · obtain ⟨r, hr1⟩ : ∃ r, l.length = r + 1 := ⟨rp.length, textsR_len _ _ _ _ _ _ hm⟩
            have hll : l.length ≤ 1001 := by rw [textsR_len _ _ _ _ _ _ hm]; have := HRL.out; omega
            obtain ⟨x, hx⟩ : ∃ x, l[r]? = some x := ⟨_, List.getElem?_eq_getElem (by omega)⟩
            have hxl : x.length ≤ 1000065 := Nat.le_trans (textsR_each _ _ _ _ _ _ hm x (List.mem_of_getElem? hx)) (by omega)
            have hgl : l.getLastD [] = x := by rw [List.getLastD_eq_getLast?, List.getLast?_eq_getElem?, show l.length - 1 = r by omega, hx]; rfl
            obtain ⟨vs, hox1, hox2⟩ := id hox
            obtain ⟨ux, hux, hub⟩ := hox2 r x hx
            obtain ⟨Ax, cx, rfl, hxc⟩ := Rd.form hub
            obtain ⟨nx, hnx⟩ : ∃ nx, nx = x.length := ⟨_, rfl⟩
            rw [← hnx] at hub hux hxc
            obtain ⟨b3, o3, c3', he3, hB3, hb3, hc3, hr3, _⟩ := hox1.at (by rw [hr1]; omega)
            injection he3 with he3 _ hc3'
            subst he3 hc3'
            have hcx := hr3 r _ hux
            obtain ⟨S, hS⟩ : ∃ S, S = sumC c x := ⟨_, rfl⟩
            obtain ⟨T, hT⟩ : ∃ T, T = 1 :: (S.l ++ X.l) := ⟨_, rfl⟩
            have hTT : textsR (sumC c) e p n (X :: rp) = some (l ++ [T]) := by rw [HTX.out, hm, Option.map_some, hgl, ← hS, hT]
            have hsum : ∀ w, RL w (.slice Ax nx cx) x → Calls Try.prog 21 #[.int .i64 c, .slice Ax nx cx] w fun E w' => E = .returned (idv S) ∧ w.grownBy w' none := fun w h => by rw [hS]; exact ssum_any c _ x _ w h (fun _ h => h) (by omega)
            have hb13 := HB6.out.grown g7 (by simp)
            have hg07 := gb_trans HG6.out g7
            have hrI : (0 : Int) ≤ (r : Int) ∧ (r : Int) < 1001 ∧ (r : Int) < (c3 : Int) := by omega
            have HCX := Go.Lib.hid hcx
            have HLX : Hid (RL w7 (.slice Ax nx cx) x) := Go.Lib.hid (Rd.mono hub fun b hb => hb.1)
            have HSUM := Go.Lib.hid hsum
            have HB13 := Go.Lib.hid hb13
            have HT := Go.Lib.hid hT
            have HTT := Go.Lib.hid hTT
            have HOX1 := Go.Lib.hid hox1
            have HOX2 := Go.Lib.hid hox2
            have HR1 := Go.Lib.hid hr1
            have HG7 := Go.Lib.hid hg07
            have HB3 := Go.Lib.hid hb3
            have HG6' := HG6.out.size
            rw [hr1] at hc3 hox ⊢
            have HOX := Go.Lib.hid hox
            obtain ⟨B, hBB⟩ : ∃ B, B = w7.heap.size := ⟨_, rfl⟩
            have HBB := Go.Lib.hid hBB
            clear hBB
            clear hm hll hx hxl hgl hox hox1 hox2 hux hub hxc hnx hB3 hb3 hr3 hcx hS hT hTT hsum hb13 hg07 g7 hr1 HIH HLF HTX HPI HPI6 HVE HVE6 HRX hhalf HG6 HB6
            go_upto_region 10 with fail
            refine wp_region_specs 12 [55, 56, 57, 58, 59, 60, 61, 62, 63, 64, 65, 66] (by kernel_rfl) (by kernel_rfl) (txφ b3 o3 r c3 nx cx B Ax c S X T) (txφ_gr b3 o3 r c3 nx cx B Ax c S X T) ?step2 ?fin2
            case step2 =>
              intro i_ o_ ho hi_ u w' hg hd
              rcases (by omega : i_ = 0 ∨ i_ = 1 ∨ i_ = 2 ∨ i_ = 3 ∨ i_ = 4 ∨ i_ = 5 ∨ i_ = 6 ∨ i_ = 7 ∨ i_ = 8 ∨ i_ = 9 ∨ i_ = 10 ∨ i_ = 11) with rfl | rfl | rfl | rfl | rfl | rfl | rfl | rfl | rfl | rfl | rfl | rfl <;> obtain rfl := Option.some.inj ho <;>
                simp (decide := true) only [fillAct, List.mapIdx_cons, List.mapIdx_nil, Nat.reduceAdd, if_true, if_false, List.getD_cons_zero, List.getD_cons_succ]
              · clear hd ho
                go_wp2_with fail
                exact ⟨rfl, gb_refl _ _, rfl⟩
              · clear hd ho
                go_wp2_with fail
                exact ⟨rfl, gb_refl _ _, rfl⟩
              · clear hd ho
                go_wp2_with fail
                exact ⟨rfl, gb_refl _ _, rfl⟩
              · clear hd ho
                go_wp2_with fail
                exact ⟨rfl, gb_refl _ _, rfl⟩
              · have h3 : u 58 = .slice (some ⟨b3, o3, none⟩) (r + 1) c3 := hd 3 (by kernel_rfl)
                clear hd ho
                rw [h3]
                go_wp2_with fail
                exact ⟨rfl, gb_refl _ _, rfl⟩
              · have h4 : u 59 = .int .i64 ((r : Int) + 1) := hd 4 (by kernel_rfl)
                clear hd ho
                rw [h4]
                go_wp2_with fail
                exact ⟨rfl, gb_refl _ _, rfl⟩
              · have h2 : u 57 = .slice (some ⟨b3, o3, none⟩) (r + 1) c3 := hd 2 (by kernel_rfl)
                have h5 : u 60 = .int .i64 (r : Int) := hd 5 (by kernel_rfl)
                clear hd ho
                rw [h2, h5]
                go_wp2_with fail
                exact ⟨rfl, gb_refl _ _, rfl⟩
              · have h6 : u 61 = .pointer (some ⟨b3, o3 + r, none⟩) := hd 6 (by kernel_rfl)
                clear hd ho
                rw [h6]
                have c1 := cell_grown (row := none) hg HCX.out (by simp)
                go_wp2_with fail
                exact ⟨rfl, gb_refl _ _, rfl⟩
              · have h1 : u 56 = .int .i64 c := hd 1 (by kernel_rfl)
                have h7 : u 62 = .slice Ax nx cx := hd 7 (by kernel_rfl)
                clear hd ho
                rw [h1, h7]
                have hx1 := RL.gr HLX.out hg
                go_wp2_with (go_at_call 21; ((with_reducible refine (HSUM.out _ hx1).mono ?_); rintro e w3 ⟨rfl, g3⟩))
                exact ⟨rfl, g3, rfl⟩
              · clear hd ho
                have h1 := HB13.out.grown hg (by simp)
                go_wp2_with ((with_reducible refine wpList_load_bk (x := .tmp 13) (t := 34) b13 _ (X.l.map bv) _ h1 (by kernel_rfl) Try.underlying34 rfl (idSize _) ?_))
                exact ⟨rfl, gb_refl _ _, rfl⟩
              · have h8 : u 63 = idv S := hd 8 (by kernel_rfl)
                have h9 : u 64 = idv X := hd 9 (by kernel_rfl)
                clear hd ho
                rw [h8, h9]
                have hgs := hg.size
                rw [← HBB.out] at hgs
                go_wp2_with (go_at_call 61; ((with_reducible refine (snode_any S X _).mono ?_); rintro e w3 ⟨v3, rfl, ho3, g3⟩; obtain ⟨A4, c4, rfl⟩ := ho3.form))
                have h1 : RdB (fun b => B ≤ b ∧ b < w3.heap.size) w3 (.slice A4 65 c4) T := by
                  rw [HT.out]; unfold RdB; rw [show (1 :: (S.l ++ X.l)).length = 65 by rw [List.length_cons, List.length_append, S.h, X.h]]
                  exact ho3.rd (fun b hb => ⟨Nat.le_trans hgs (ho3.lt hb).1, (ho3.lt hb).2⟩)
                exact ⟨rfl, g3, ⟨A4, c4, rfl, h1⟩⟩
              · have h10 : ∃ A c, (u 65) = .slice A 65 c ∧ RdB (fun b => B ≤ b ∧ b < w'.heap.size) w' (.slice A 65 c) T := hd 10 (by kernel_rfl)
                clear hd ho
                have hgs := hg.size
                rw [← HBB.out] at hgs
                obtain ⟨A4, c4, e4, h4⟩ := h10
                rw [e4]
                go_wp2_with fail
                exact ⟨rfl, gb_alloc (gb_refl _ _) _, ⟨A4, c4, _, rfl, hgs, Bk.new _ _ [_], Rd.mono (Rd.grown h4 (gb_alloc (gb_refl _ none) _) (by simp)) fun b hb => ⟨hb.1, Nat.lt_of_lt_of_le hb.2 (by rw [World.size_alloc]; omega)⟩⟩⟩
            case fin2 =>
              intro u w8 hg hφ
              have h1 : u 55 = .slice (some ⟨b3, o3, none⟩) (r + 1) c3 := hφ 0 (by omega)
              obtain ⟨A4, c4, b4, h2, hB4, hb4, hr4⟩ := (show ∃ A c b, u 66 = .slice (some ⟨b, 0, none⟩) 1 1 ∧ B ≤ b ∧ Bk w8 b 27 [.slice A 65 c] ∧ RdB (fun b => B ≤ b ∧ b < w8.heap.size) w8 (.slice A 65 c) T from hφ 11 (by omega))
              simp (decide := true) only [fillAct, List.mapIdx_cons, List.mapIdx_nil, Nat.reduceAdd, if_true, if_false, List.drop_succ_cons, List.drop_zero]
              rw [h1, h2]
              clear hφ h1 h2
              have ho8 : Ow w6.heap.size w8 1 (.slice (some ⟨b3, o3, none⟩) (r + 1) c3) (r + 1) vs := by have h := HOX1.out.grown hg (fun _ _ => by simp); rw [HR1.out] at h; exact h
              have hs8 : Src Try.prog 1 22 (.slice (some ⟨b4, 0, none⟩) 1 1) 1 [.slice A4 65 c4] w8 := src_rd (P := Try.prog) (k := 1) (tx := 22) Try.underlying22 (Rd.mk' (NB := fun _ => True) (k := 1) (n := 1) (c := 1) hb4.range trivial (Nat.le_refl _) (by decide) rfl) (by intro u hu; rw [List.mem_singleton.1 hu]; rfl)
              have hB8 : w6.heap.size ≤ w8.heap.size := by have h1 := hg.size; have h2 : w6.heap.size ≤ b3 := (HOX1.out.lt rfl).1; have h3 := HB3.out; omega
              have h63 : r + 1 + 1 ≤ maxLen := Nat.le_trans (show r + 1 + 1 ≤ 1003 by omega) (by decide)
              have hby : (r + 1 + 1) * 24 ≤ 140737488355328 := by omega
              go_wp2_with ((with_reducible refine wpList_append_ow (s := .tmp 55) (x := .tmp 66) (v := .slice (some ⟨b3, o3, none⟩) (r + 1) c3) (y := .slice (some ⟨b4, 0, none⟩) 1 1) (by kernel_rfl) (by kernel_rfl) Try.underlying22 okSl7 ho8 hs8 hB8 h63 hby ?_)
                           intro v9 w9 ho9 hg9 hb9
                           obtain ⟨A9, c9', rfl⟩ := ho9.form)
              go_ret2
              have hrow : ∀ z, (Value.slice (some ⟨b3, o3, none⟩) (r + 1) c3).ownBlock = some z → w.heap.size ≤ z := fun z hz => Nat.le_trans HG6' (HOX1.out.lt hz).1
              refine ⟨_, _, _, _, rfl, gb_own (gb_trans HG7.out hg) hg9 hrow, .inr ⟨_, HTT.out, rfl, by rw [List.length_append, HR1.out]; rfl, ?_⟩⟩
              refine OwX.snocs (w := w8) (v := .slice (some ⟨b3, o3, none⟩) (r + 1) c3) (vs := vs) (us := [.slice A4 65 c4]) (ms := [T]) (by have := HOX1.out.len; rw [this, HR1.out]; omega) (by rw [HR1.out]; rfl) ?_ ?_ (Ow.wk ho9 HG6') hg9 hb9
              · intro j l' hj
                obtain ⟨u', hu', hr'⟩ := HOX2.out j l' hj
                exact ⟨u', hu', Rd.mono (Rd.grown hr' hg (by simp)) fun b hb => ⟨Nat.lt_of_lt_of_le hb.1 hg.size, by rw [HR1.out] at hb; exact hb.2⟩⟩
              · intro j l' hj
                match j, hj with
                | 0, hj =>
                  cases hj
                  refine ⟨_, rfl, Rd.mono hr4 fun b hb => ⟨hb.2, fun e => ?_⟩⟩
                  have e1 := Option.some.inj (show some b3 = some b from e)
                  have h1 := HB3.out; have h2 := hb.1; rw [HBB.out] at h2; omega
                | j + 1, hj => cases hj
        · have d3 : decide (p < k) = false := decide_eq_false hpk
          have d4 : decide ((p : Int) < (k : Int)) = false := decide_eq_false (by omega)
          have HTX : Hid (textsR (sumC c) e p n (X :: rp) = (textsR (sumC c) e (p - k) (n - k) rp).map fun l => l ++ [1 :: (X.l ++ (sumC c (l.getLastD [])).l)]) := Go.Lib.hid (by rw [textsR, if_neg HH1.out, if_neg (by rw [← HK.out]; exact hpk), ← HK.out])
          obtain ⟨p2, hp2⟩ : ∃ p2, p2 = p - k := ⟨_, rfl⟩
          obtain ⟨n2, hn2⟩ : ∃ n2, n2 = n - k := ⟨_, rfl⟩
          have hpe : (p : Int) - (k : Int) = (p2 : Int) := by omega
          have hne2 : (n : Int) - (k : Int) = (n2 : Int) := by omega
          rw [← hp2, ← hn2] at HTX
          have hpq : 1 ≤ n2 ∧ n2 ≤ 1099511627776 ∧ p2 < n2 := by omega
          have HPN := Go.Lib.hid hpq
          clear hp2 hn2 hpq
          go_upto_region 12 with (go_at_call 47; ((with_reducible refine (HIH.out p2 n2 _ _ _ HVE6.out HPI6.out HPN.out.1 HPN.out.2.1 HPN.out.2.2 HRL.out).mono ?_); rintro E w7 ⟨A3, m3, c3, ok, rfl, g7, hm⟩))
          rcases hm with ⟨hm, rfl⟩ | ⟨l, hm, rfl, rfl, hox⟩
          · go_wp2_with fail
            go_ret2
            exact ⟨_, _, _, _, rfl, gb_trans HG6.out g7, .inl ⟨by rw [HTX.out, hm]; rfl, rfl⟩⟩
          · obtain ⟨r, hr1⟩ : ∃ r, l.length = r + 1 := ⟨rp.length, textsR_len _ _ _ _ _ _ hm⟩
            have hll : l.length ≤ 1001 := by rw [textsR_len _ _ _ _ _ _ hm]; have := HRL.out; omega
            obtain ⟨x, hx⟩ : ∃ x, l[r]? = some x := ⟨_, List.getElem?_eq_getElem (by omega)⟩
            have hxl : x.length ≤ 1000065 := Nat.le_trans (textsR_each _ _ _ _ _ _ hm x (List.mem_of_getElem? hx)) (by omega)
            have hgl : l.getLastD [] = x := by rw [List.getLastD_eq_getLast?, List.getLast?_eq_getElem?, show l.length - 1 = r by omega, hx]; rfl
            obtain ⟨vs, hox1, hox2⟩ := id hox
            obtain ⟨ux, hux, hub⟩ := hox2 r x hx
            obtain ⟨Ax, cx, rfl, hxc⟩ := Rd.form hub
            obtain ⟨nx, hnx⟩ : ∃ nx, nx = x.length := ⟨_, rfl⟩
            rw [← hnx] at hub hux hxc
            obtain ⟨b3, o3, c3', he3, hB3, hb3, hc3, hr3, _⟩ := hox1.at (by rw [hr1]; omega)
            injection he3 with he3 _ hc3'
            subst he3 hc3'
            have hcx := hr3 r _ hux
            obtain ⟨S, hS⟩ : ∃ S, S = sumC c x := ⟨_, rfl⟩
            obtain ⟨T, hT⟩ : ∃ T, T = 1 :: (X.l ++ S.l) := ⟨_, rfl⟩
            have hTT : textsR (sumC c) e p n (X :: rp) = some (l ++ [T]) := by rw [HTX.out, hm, Option.map_some, hgl, ← hS, hT]
            have hsum : ∀ w, RL w (.slice Ax nx cx) x → Calls Try.prog 21 #[.int .i64 c, .slice Ax nx cx] w fun E w' => E = .returned (idv S) ∧ w.grownBy w' none := fun w h => by rw [hS]; exact ssum_any c _ x _ w h (fun _ h => h) (by omega)
            have hb13 := HB6.out.grown g7 (by simp)
            have hg07 := gb_trans HG6.out g7
            have hrI : (0 : Int) ≤ (r : Int) ∧ (r : Int) < 1001 ∧ (r : Int) < (c3 : Int) := by omega
            have HCX := Go.Lib.hid hcx
            have HLX : Hid (RL w7 (.slice Ax nx cx) x) := Go.Lib.hid (Rd.mono hub fun b hb => hb.1)
            have HSUM := Go.Lib.hid hsum
            have HB13 := Go.Lib.hid hb13
            have HT := Go.Lib.hid hT
            have HTT := Go.Lib.hid hTT
            have HOX1 := Go.Lib.hid hox1
            have HOX2 := Go.Lib.hid hox2
            have HR1 := Go.Lib.hid hr1
            have HG7 := Go.Lib.hid hg07
            have HB3 := Go.Lib.hid hb3
            have HG6' := HG6.out.size
            rw [hr1] at hc3 hox ⊢
            have HOX := Go.Lib.hid hox
            obtain ⟨B, hBB⟩ : ∃ B, B = w7.heap.size := ⟨_, rfl⟩
            have HBB := Go.Lib.hid hBB
            clear hBB
            clear hm hll hx hxl hgl hox hox1 hox2 hux hub hxc hnx hB3 hb3 hr3 hcx hS hT hTT hsum hb13 hg07 g7 hr1 HIH HLF HTX HPI HPI6 HVE HVE6 HRX hhalf HG6 HB6
            go_upto_region 14 with fail
            refine wp_region_specs 12 [87, 88, 89, 90, 91, 92, 93, 94, 95, 96, 97, 98] (by kernel_rfl) (by kernel_rfl) (tyφ b3 o3 r c3 nx cx B Ax c S X T) (tyφ_gr b3 o3 r c3 nx cx B Ax c S X T) ?step3 ?fin3
            case step3 =>
              intro i_ o_ ho hi_ u w' hg hd
              rcases (by omega : i_ = 0 ∨ i_ = 1 ∨ i_ = 2 ∨ i_ = 3 ∨ i_ = 4 ∨ i_ = 5 ∨ i_ = 6 ∨ i_ = 7 ∨ i_ = 8 ∨ i_ = 9 ∨ i_ = 10 ∨ i_ = 11) with rfl | rfl | rfl | rfl | rfl | rfl | rfl | rfl | rfl | rfl | rfl | rfl <;> obtain rfl := Option.some.inj ho <;>
                simp (decide := true) only [fillAct, List.mapIdx_cons, List.mapIdx_nil, Nat.reduceAdd, if_true, if_false, List.getD_cons_zero, List.getD_cons_succ]
              · clear hd ho
                go_wp2_with fail
                exact ⟨rfl, gb_refl _ _, rfl⟩
              · clear hd ho
                have h1 := HB13.out.grown hg (by simp)
                go_wp2_with ((with_reducible refine wpList_load_bk (x := .tmp 13) (t := 34) b13 _ (X.l.map bv) _ h1 (by kernel_rfl) Try.underlying34 rfl (idSize _) ?_))
                exact ⟨rfl, gb_refl _ _, rfl⟩
              · clear hd ho
                go_wp2_with fail
                exact ⟨rfl, gb_refl _ _, rfl⟩
              · clear hd ho
                go_wp2_with fail
                exact ⟨rfl, gb_refl _ _, rfl⟩
              · clear hd ho
                go_wp2_with fail
                exact ⟨rfl, gb_refl _ _, rfl⟩
              · have h4 : u 91 = .slice (some ⟨b3, o3, none⟩) (r + 1) c3 := hd 4 (by kernel_rfl)
                clear hd ho
                rw [h4]
                go_wp2_with fail
                exact ⟨rfl, gb_refl _ _, rfl⟩
              · have h5 : u 92 = .int .i64 ((r : Int) + 1) := hd 5 (by kernel_rfl)
                clear hd ho
                rw [h5]
                go_wp2_with fail
                exact ⟨rfl, gb_refl _ _, rfl⟩
              · have h3 : u 90 = .slice (some ⟨b3, o3, none⟩) (r + 1) c3 := hd 3 (by kernel_rfl)
                have h6 : u 93 = .int .i64 (r : Int) := hd 6 (by kernel_rfl)
                clear hd ho
                rw [h3, h6]
                go_wp2_with fail
                exact ⟨rfl, gb_refl _ _, rfl⟩
              · have h7 : u 94 = .pointer (some ⟨b3, o3 + r, none⟩) := hd 7 (by kernel_rfl)
                clear hd ho
                rw [h7]
                have c1 := cell_grown (row := none) hg HCX.out (by simp)
                go_wp2_with fail
                exact ⟨rfl, gb_refl _ _, rfl⟩
              · have h2 : u 89 = .int .i64 c := hd 2 (by kernel_rfl)
                have h8 : u 95 = .slice Ax nx cx := hd 8 (by kernel_rfl)
                clear hd ho
                rw [h2, h8]
                have hx1 := RL.gr HLX.out hg
                go_wp2_with (go_at_call 21; ((with_reducible refine (HSUM.out _ hx1).mono ?_); rintro e w3 ⟨rfl, g3⟩))
                exact ⟨rfl, g3, rfl⟩
              · have h1 : u 88 = idv X := hd 1 (by kernel_rfl)
                have h9 : u 96 = idv S := hd 9 (by kernel_rfl)
                clear hd ho
                rw [h1, h9]
                have hgs := hg.size
                rw [← HBB.out] at hgs
                go_wp2_with (go_at_call 61; ((with_reducible refine (snode_any X S _).mono ?_); rintro e w3 ⟨v3, rfl, ho3, g3⟩; obtain ⟨A4, c4, rfl⟩ := ho3.form))
                have h1 : RdB (fun b => B ≤ b ∧ b < w3.heap.size) w3 (.slice A4 65 c4) T := by
                  rw [HT.out]; unfold RdB; rw [show (1 :: (X.l ++ S.l)).length = 65 by rw [List.length_cons, List.length_append, S.h, X.h]]
                  exact ho3.rd (fun b hb => ⟨Nat.le_trans hgs (ho3.lt hb).1, (ho3.lt hb).2⟩)
                exact ⟨rfl, g3, ⟨A4, c4, rfl, h1⟩⟩
              · have h10 : ∃ A c, (u 97) = .slice A 65 c ∧ RdB (fun b => B ≤ b ∧ b < w'.heap.size) w' (.slice A 65 c) T := hd 10 (by kernel_rfl)
                clear hd ho
                have hgs := hg.size
                rw [← HBB.out] at hgs
                obtain ⟨A4, c4, e4, h4⟩ := h10
                rw [e4]
                go_wp2_with fail
                exact ⟨rfl, gb_alloc (gb_refl _ _) _, ⟨A4, c4, _, rfl, hgs, Bk.new _ _ [_], Rd.mono (Rd.grown h4 (gb_alloc (gb_refl _ none) _) (by simp)) fun b hb => ⟨hb.1, Nat.lt_of_lt_of_le hb.2 (by rw [World.size_alloc]; omega)⟩⟩⟩
            case fin3 =>
              intro u w8 hg hφ
              have h1 : u 87 = .slice (some ⟨b3, o3, none⟩) (r + 1) c3 := hφ 0 (by omega)
              obtain ⟨A4, c4, b4, h2, hB4, hb4, hr4⟩ := (show ∃ A c b, u 98 = .slice (some ⟨b, 0, none⟩) 1 1 ∧ B ≤ b ∧ Bk w8 b 27 [.slice A 65 c] ∧ RdB (fun b => B ≤ b ∧ b < w8.heap.size) w8 (.slice A 65 c) T from hφ 11 (by omega))
              simp (decide := true) only [fillAct, List.mapIdx_cons, List.mapIdx_nil, Nat.reduceAdd, if_true, if_false, List.drop_succ_cons, List.drop_zero]
              rw [h1, h2]
              clear hφ h1 h2
              have ho8 : Ow w6.heap.size w8 1 (.slice (some ⟨b3, o3, none⟩) (r + 1) c3) (r + 1) vs := by have h := HOX1.out.grown hg (fun _ _ => by simp); rw [HR1.out] at h; exact h
              have hs8 : Src Try.prog 1 22 (.slice (some ⟨b4, 0, none⟩) 1 1) 1 [.slice A4 65 c4] w8 := src_rd (P := Try.prog) (k := 1) (tx := 22) Try.underlying22 (Rd.mk' (NB := fun _ => True) (k := 1) (n := 1) (c := 1) hb4.range trivial (Nat.le_refl _) (by decide) rfl) (by intro u hu; rw [List.mem_singleton.1 hu]; rfl)
              have hB8 : w6.heap.size ≤ w8.heap.size := by have h1 := hg.size; have h2 : w6.heap.size ≤ b3 := (HOX1.out.lt rfl).1; have h3 := HB3.out; omega
              have h63 : r + 1 + 1 ≤ maxLen := Nat.le_trans (show r + 1 + 1 ≤ 1003 by omega) (by decide)
              have hby : (r + 1 + 1) * 24 ≤ 140737488355328 := by omega
              go_wp2_with ((with_reducible refine wpList_append_ow (s := .tmp 87) (x := .tmp 98) (v := .slice (some ⟨b3, o3, none⟩) (r + 1) c3) (y := .slice (some ⟨b4, 0, none⟩) 1 1) (by kernel_rfl) (by kernel_rfl) Try.underlying22 okSl7 ho8 hs8 hB8 h63 hby ?_)
                           intro v9 w9 ho9 hg9 hb9
                           obtain ⟨A9, c9', rfl⟩ := ho9.form)
              go_ret2
              have hrow : ∀ z, (Value.slice (some ⟨b3, o3, none⟩) (r + 1) c3).ownBlock = some z → w.heap.size ≤ z := fun z hz => Nat.le_trans HG6' (HOX1.out.lt hz).1
              refine ⟨_, _, _, _, rfl, gb_own (gb_trans HG7.out hg) hg9 hrow, .inr ⟨_, HTT.out, rfl, by rw [List.length_append, HR1.out]; rfl, ?_⟩⟩
              refine OwX.snocs (w := w8) (v := .slice (some ⟨b3, o3, none⟩) (r + 1) c3) (vs := vs) (us := [.slice A4 65 c4]) (ms := [T]) (by have := HOX1.out.len; rw [this, HR1.out]; omega) (by rw [HR1.out]; rfl) ?_ ?_ (Ow.wk ho9 HG6') hg9 hb9
              · intro j l' hj
                obtain ⟨u', hu', hr'⟩ := HOX2.out j l' hj
                exact ⟨u', hu', Rd.mono (Rd.grown hr' hg (by simp)) fun b hb => ⟨Nat.lt_of_lt_of_le hb.1 hg.size, by rw [HR1.out] at hb; exact hb.2⟩⟩
              · intro j l' hj
                match j, hj with
                | 0, hj =>
                  cases hj
                  refine ⟨_, rfl, Rd.mono hr4 fun b hb => ⟨hb.2, fun e => ?_⟩⟩
                  have e1 := Option.some.inj (show some b3 = some b from e)
                  have h1 := HB3.out; have h2 := hb.1; rw [HBB.out] at h2; omega
                | j + 1, hj => cases hj
end Go.Proofs.Ytajgklomcapboaa
/- short: Leads; scrivenerref07: Leads. -/
namespace Sc
open Go Go.RowKit
/-- Does a way lead from an entry to a root? -/
def leadsB (H : List UInt8 → Id) (e : List UInt8) (a n : Int) (path : List Id) (X : Id) : Bool :=
  if a < 0 ∨ n ≤ a ∨ 1099511627776 < n ∨ 64 < path.length then false else match textsR H e a.toNat n.toNat path.reverse with
    | none => false
    | some l => (H (l.getLastD [])).l == X.l
end Sc
namespace Go.Proofs.Ytajgklomcapboaa
open Go.RowKit Go.Shelf Sc
def sldφ (b3 o3 r c3 nx cx : Nat) (Ax : Option Addr) (c : Int) (S X : Sc.Id) (D : Bool) (i : Nat) (v : Value) (_w : World) : Prop := match i with
  | 0 => v = .bool true
  | 1 => v = .bool true
  | 2 => v = .int .i64 c
  | 3 => v = .slice (some ⟨b3, o3, none⟩) (r + 1) c3
  | 4 => v = .slice (some ⟨b3, o3, none⟩) (r + 1) c3
  | 5 => v = .int .i64 ((r : Int) + 1)
  | 6 => v = .int .i64 (r : Int)
  | 7 => v = .pointer (some ⟨b3, o3 + r, none⟩)
  | 8 => v = .slice Ax nx cx
  | 9 => v = idv S
  | 10 => v = idv X
  | 11 => v = .bool D
  | 12 => v = .bool D
  | _ => True
theorem sldφ_gr (b3 o3 r c3 nx cx : Nat) (Ax : Option Addr) (c : Int) (S X : Sc.Id) (D : Bool) : ∀ i v w w', sldφ b3 o3 r c3 nx cx Ax c S X D i v w → Gr w w' → sldφ b3 o3 r c3 nx cx Ax c S X D i v w' := by
  intro i v w w' h hg
  match i with
  | 0 => exact h
  | 1 => exact h
  | 2 => exact h
  | 3 => exact h
  | 4 => exact h
  | 5 => exact h
  | 6 => exact h
  | 7 => exact h
  | 8 => exact h
  | 9 => exact h
  | 10 => exact h
  | 11 => exact h
  | 12 => exact h
  | i + 13 => exact h
def slnφ (_n : Nat) (i : Nat) (v : Value) (_w : World) : Prop := match i with
  | 0 => v = .bool false
  | 1 => v = .bool false
  | 2 => v = undef
  | 3 => v = undef
  | 4 => v = undef
  | 5 => v = undef
  | 6 => v = undef
  | 7 => v = undef
  | 8 => v = undef
  | 9 => v = undef
  | 10 => v = undef
  | 11 => v = undef
  | 12 => v = .bool false
  | _ => True
theorem slnφ_gr (n : Nat) : ∀ i v w w', slnφ n i v w → Gr w w' → slnφ n i v w' := by
  intro i v w w' h hg
  match i with
  | 0 => exact h
  | 1 => exact h
  | 2 => exact h
  | 3 => exact h
  | 4 => exact h
  | 5 => exact h
  | 6 => exact h
  | 7 => exact h
  | 8 => exact h
  | 9 => exact h
  | 10 => exact h
  | 11 => exact h
  | 12 => exact h
  | i + 13 => exact h

set_option maxHeartbeats 8000000 in
set_option maxRecDepth 100000 in
theorem sleads_any (c a n : Int) (e : List UInt8) (path : List Sc.Id) (X : Sc.Id) (ve vp : Value) (w : World) (he : e.length ≤ 1000000) (hve : RL w ve e) (hvp : RI w vp path) :
    Calls Try.prog 22 #[.int .i64 c, ve, .int .i64 a, .int .i64 n, vp, idv X] w fun E w' => E = .returned (.bool (leadsB (sumC c) e a n path X)) ∧ w.grownBy w' none := by
  rw [show idv X = .agg (X.l.map bv).toArray from rfl]
  go_enter Try.func22, Try.ntmps22
  obtain ⟨Ae, ce, rfl, _⟩ := Rd.form hve
  obtain ⟨ne, hne⟩ : ∃ ne, ne = e.length := ⟨_, rfl⟩
  obtain ⟨Ap, cp, rfl, _⟩ := Rd.form hvp
  obtain ⟨np, hnp⟩ : ∃ np, np = path.length := ⟨_, rfl⟩
  have hmp := Rd.le hvp
  rw [← hne] at hve ⊢
  rw [← hnp] at hvp hmp ⊢
  obtain ⟨W, hW⟩ : ∃ W, W = w.alloc (.cells (X.l.map bv).toArray 34) := ⟨_, rfl⟩
  obtain ⟨b0, hb0⟩ : ∃ b0, b0 = w.heap.size := ⟨_, rfl⟩
  have hbk : Bk W b0 34 (X.l.map bv) := by rw [hW, hb0]; exact Bk.new w _ _
  have g0 : w.grownBy W none := by rw [hW]; exact gb_alloc (gb_refl w none) _
  have HVE := Go.Lib.hid (RL.gr hve g0)
  have HVP := Go.Lib.hid (RI.gr hvp g0)
  have HB0 := Go.Lib.hid hbk
  have HBE := Go.Lib.hid hb0
  have HW := Go.Lib.hid hW
  have HG0 := Go.Lib.hid g0
  have HNP := Go.Lib.hid hnp
  have HE := Go.Lib.hid he
  have hnpI : (0 : Int) ≤ (np : Int) ∧ (np : Int) ≤ 9223372036854775807 := by unfold maxLen at hmp; omega
  clear hve hvp hne hnp hW hb0 hbk g0 he hmp
  rcases (by omega : (a < 0 ∨ (0 ≤ a ∧ (n ≤ a ∨ (a < n ∧ (1099511627776 < n ∨ (n ≤ 1099511627776 ∧ 64 < np)))))) ∨ (0 ≤ a ∧ a < n ∧ n ≤ 1099511627776 ∧ np ≤ 64)) with hg | ⟨ha0, han, hn, hp⟩
  · have hv : leadsB (sumC c) e a n path X = false := by
      unfold leadsB
      rw [if_pos (by rw [← HNP.out]; omega)]
    rw [hv]
    clear hv
    rcases hg with h | ⟨h1, h | ⟨h2, h | ⟨h3, h⟩⟩⟩
    all_goals
      first
        | (have d1 : decide (a < 0) = true := decide_eq_true (by omega))
        | (have d1 : decide (a < 0) = false := decide_eq_false (by omega)
           first
             | (have d2 : decide (n ≤ a) = true := decide_eq_true (by omega)
                have d2' : decide (a ≥ n) = true := decide_eq_true (by omega))
             | (have d2 : decide (n ≤ a) = false := decide_eq_false (by omega)
                have d2' : decide (a ≥ n) = false := decide_eq_false (by omega)
                first
                  | (have d3 : decide (n > 1099511627776) = true := decide_eq_true (by omega)
                     have d3' : decide (1099511627776 < n) = true := decide_eq_true (by omega))
                  | (have d3 : decide (n > 1099511627776) = false := decide_eq_false (by omega)
                     have d3' : decide (1099511627776 < n) = false := decide_eq_false (by omega)
                     have d4 : decide ((np : Int) > 64) = true := decide_eq_true (by omega)
                     have d4' : decide ((64 : Int) < (np : Int)) = true := decide_eq_true (by omega)
                     have d4'' : decide (64 < np) = true := decide_eq_true (by omega))))
      go_wp2_with fail
      go_ret
      exact ⟨rfl, by rw [← HW.out]; exact HG0.out⟩
  · have d1 : decide (a < 0) = false := decide_eq_false (by omega)
    have d2 : decide (n ≤ a) = false := decide_eq_false (by omega)
    have d2' : decide (a ≥ n) = false := decide_eq_false (by omega)
    have d3 : decide (n > 1099511627776) = false := decide_eq_false (by omega)
    have d3' : decide (1099511627776 < n) = false := decide_eq_false (by omega)
    have d4 : decide ((np : Int) > 64) = false := decide_eq_false (by omega)
    have d4' : decide ((64 : Int) < (np : Int)) = false := decide_eq_false (by omega)
    have d4'' : decide (64 < np) = false := decide_eq_false (by omega)
    obtain ⟨p, rfl⟩ : ∃ p : Nat, a = (p : Int) := ⟨a.toNat, by omega⟩
    obtain ⟨m, rfl⟩ : ∃ m : Nat, n = (m : Int) := ⟨n.toNat, by omega⟩
    have hv : leadsB (sumC c) e (p : Int) (m : Int) path X = match textsR (sumC c) e p m path.reverse with | none => false | some l => (sumC c (l.getLastD [])).l == X.l := by
      unfold leadsB
      rw [if_neg (by rw [← HNP.out]; omega)]
      rfl
    have htx : ∀ w', RL w' (.slice Ae ne ce) e → RI w' (.slice Ap np cp) path → Calls Try.prog 47 #[.int .i64 c, .slice Ae ne ce, .int .i64 (p : Int), .int .i64 (m : Int), .slice Ap np cp] w' (TRes c e p m path.reverse w') := fun w' h h' =>
      texts_any c e HE.out path.reverse p m _ _ w' h (by rw [List.reverse_reverse]; exact h') (by omega) (by omega) (by omega) (by rw [List.length_reverse, ← HNP.out]; omega)
    have HTX := Go.Lib.hid htx
    obtain ⟨D, hD⟩ : ∃ D, D = leadsB (sumC c) e (p : Int) (m : Int) path X := ⟨_, rfl⟩
    rw [← hD]
    rw [hv] at hD
    have HDD := Go.Lib.hid hD
    clear hv hD htx
    go_upto_region 4 with (first
      | (go_at_call 47; (rw [← HW.out]; (with_reducible refine (HTX.out _ HVE.out HVP.out).mono ?_); rintro E w7 ⟨A3, m3, c3, ok, rfl, g7, hm⟩)))
    rw [← HBE.out]
    rcases hm with ⟨hm, rfl⟩ | ⟨l, hm, rfl, rfl, hox⟩
    · have hDf : D = false := by rw [HDD.out, hm]
      have HDF := Go.Lib.hid hDf
      clear hm hDf HDD
      refine wp_region_specs 13 [40, 41, 42, 43, 44, 45, 46, 47, 48, 49, 50, 51, 52] (by kernel_rfl) (by kernel_rfl) (slnφ 0) (slnφ_gr 0) ?step ?fin
      case step =>
        intro i_ o_ ho hi_ u w' hg hd
        rcases (by omega : i_ = 0 ∨ i_ = 1 ∨ i_ = 2 ∨ i_ = 3 ∨ i_ = 4 ∨ i_ = 5 ∨ i_ = 6 ∨ i_ = 7 ∨ i_ = 8 ∨ i_ = 9 ∨ i_ = 10 ∨ i_ = 11 ∨ i_ = 12) with rfl | rfl | rfl | rfl | rfl | rfl | rfl | rfl | rfl | rfl | rfl | rfl | rfl <;> obtain rfl := Option.some.inj ho <;>
          simp (decide := true) only [fillAct, List.mapIdx_cons, List.mapIdx_nil, Nat.reduceAdd, if_true, if_false, List.getD_cons_zero, List.getD_cons_succ]
        · clear hd ho
          go_wp2_with fail
          exact ⟨rfl, gb_refl _ _, rfl⟩
        · have h0 : u 40 = .bool false := hd 0 (by kernel_rfl)
          clear hd ho
          rw [h0]
          go_wp2_with fail
          exact ⟨rfl, gb_refl _ _, rfl⟩
        · have h1 : u 41 = .bool false := hd 1 (by kernel_rfl)
          clear hd ho
          rw [h1]
          refine wpList_unwanted (by rfl) ?_
          go_wp2_with fail
          exact ⟨rfl, gb_refl _ _, rfl⟩
        · have h1 : u 41 = .bool false := hd 1 (by kernel_rfl)
          clear hd ho
          rw [h1]
          refine wpList_unwanted (by rfl) ?_
          go_wp2_with fail
          exact ⟨rfl, gb_refl _ _, rfl⟩
        · have h1 : u 41 = .bool false := hd 1 (by kernel_rfl)
          clear hd ho
          rw [h1]
          refine wpList_unwanted (by rfl) ?_
          go_wp2_with fail
          exact ⟨rfl, gb_refl _ _, rfl⟩
        · have h1 : u 41 = .bool false := hd 1 (by kernel_rfl)
          clear hd ho
          rw [h1]
          refine wpList_unwanted (by rfl) ?_
          go_wp2_with fail
          exact ⟨rfl, gb_refl _ _, rfl⟩
        · have h1 : u 41 = .bool false := hd 1 (by kernel_rfl)
          clear hd ho
          rw [h1]
          refine wpList_unwanted (by rfl) ?_
          go_wp2_with fail
          exact ⟨rfl, gb_refl _ _, rfl⟩
        · have h1 : u 41 = .bool false := hd 1 (by kernel_rfl)
          clear hd ho
          rw [h1]
          refine wpList_unwanted (by rfl) ?_
          go_wp2_with fail
          exact ⟨rfl, gb_refl _ _, rfl⟩
        · have h1 : u 41 = .bool false := hd 1 (by kernel_rfl)
          clear hd ho
          rw [h1]
          refine wpList_unwanted (by rfl) ?_
          go_wp2_with fail
          exact ⟨rfl, gb_refl _ _, rfl⟩
        · have h1 : u 41 = .bool false := hd 1 (by kernel_rfl)
          clear hd ho
          rw [h1]
          refine wpList_unwanted (by rfl) ?_
          go_wp2_with fail
          exact ⟨rfl, gb_refl _ _, rfl⟩
        · have h1 : u 41 = .bool false := hd 1 (by kernel_rfl)
          clear hd ho
          rw [h1]
          refine wpList_unwanted (by rfl) ?_
          go_wp2_with fail
          exact ⟨rfl, gb_refl _ _, rfl⟩
        · have h1 : u 41 = .bool false := hd 1 (by kernel_rfl)
          clear hd ho
          rw [h1]
          refine wpList_unwanted (by rfl) ?_
          go_wp2_with fail
          exact ⟨rfl, gb_refl _ _, rfl⟩
        · have h1 : u 41 = .bool false := hd 1 (by kernel_rfl)
          clear hd ho
          rw [h1]
          go_wp2_with fail
          exact ⟨rfl, gb_refl _ _, rfl⟩
      case fin =>
        intro u w8 hg hφ
        have hz : u 52 = .bool false := hφ 12 (by omega)
        simp (decide := true) only [fillAct, List.mapIdx_cons, List.mapIdx_nil, Nat.reduceAdd, if_true, if_false, List.drop_succ_cons, List.drop_zero]
        rw [hz]
        clear hφ
        go_wp2_with fail
        go_ret
        exact ⟨by rw [HDF.out]; rfl, gb_trans (gb_trans HG0.out g7) hg⟩
    · have hl1 := textsR_len _ _ _ _ _ _ hm
      have hrl : path.reverse.length = np := by rw [List.length_reverse, HNP.out]
      obtain ⟨r, hr1⟩ : ∃ r, l.length = r + 1 := ⟨path.reverse.length, hl1⟩
      obtain ⟨x, hx⟩ : ∃ x, l[r]? = some x := ⟨_, List.getElem?_eq_getElem (by omega)⟩
      have hxl : x.length ≤ 1000065 := Nat.le_trans (textsR_each _ _ _ _ _ _ hm x (List.mem_of_getElem? hx)) (by have := HE.out; omega)
      have hgl : l.getLastD [] = x := by rw [List.getLastD_eq_getLast?, List.getLast?_eq_getElem?, show l.length - 1 = r by omega, hx]; rfl
      obtain ⟨vs, hox1, hox2⟩ := id hox
      obtain ⟨ux, hux, hub⟩ := hox2 r x hx
      obtain ⟨Ax, cx, rfl, hxc⟩ := Rd.form hub
      obtain ⟨nx, hnx⟩ : ∃ nx, nx = x.length := ⟨_, rfl⟩
      rw [← hnx] at hub hux hxc
      obtain ⟨b3, o3, c3', he3, hB3, hb3, hc3, hr3, _⟩ := hox1.at (by rw [hr1]; omega)
      injection he3 with he3 _ hc3'
      subst he3 hc3'
      have hcx := hr3 r _ hux
      obtain ⟨S, hS⟩ : ∃ S, S = sumC c x := ⟨_, rfl⟩
      have hD2 : D = (S.l == X.l) := by rw [HDD.out, hm]; show ((sumC c (l.getLastD [])).l == X.l) = _; rw [hgl, hS]
      have hsum : ∀ w, RL w (.slice Ax nx cx) x → Calls Try.prog 21 #[.int .i64 c, .slice Ax nx cx] w fun E w' => E = .returned (idv S) ∧ w.grownBy w' none := fun w h => by rw [hS]; exact ssum_any c _ x _ w h (fun _ h => h) (by omega)
      have hb13 := HB0.out.grown g7 (by simp)
      have hrI : (0 : Int) ≤ (r : Int) ∧ (r : Int) < 100 ∧ (r : Int) < (c3 : Int) := by omega
      have HCX := Go.Lib.hid hcx
      have HLX : Hid (RL w7 (.slice Ax nx cx) x) := Go.Lib.hid (Rd.mono hub fun b hb => hb.1)
      have HSUM := Go.Lib.hid hsum
      have HB0 := Go.Lib.hid hb13
      have HD := Go.Lib.hid hD2
      have HG7 := Go.Lib.hid (gb_trans HG0.out g7)
      rw [hr1] at hc3 hox ⊢
      clear hm hl1 hrl hx hxl hgl hox hox1 hox2 hux hub hxc hnx hB3 hb3 hr3 hcx hS hsum hb13 g7 hr1 hD2 HDD HTX HVE HVP
      refine wp_region_specs 13 [40, 41, 42, 43, 44, 45, 46, 47, 48, 49, 50, 51, 52] (by kernel_rfl) (by kernel_rfl) (sldφ b3 o3 r c3 nx cx Ax c S X D) (sldφ_gr b3 o3 r c3 nx cx Ax c S X D) ?step2 ?fin2
      case step2 =>
        intro i_ o_ ho hi_ u w' hg hd
        rcases (by omega : i_ = 0 ∨ i_ = 1 ∨ i_ = 2 ∨ i_ = 3 ∨ i_ = 4 ∨ i_ = 5 ∨ i_ = 6 ∨ i_ = 7 ∨ i_ = 8 ∨ i_ = 9 ∨ i_ = 10 ∨ i_ = 11 ∨ i_ = 12) with rfl | rfl | rfl | rfl | rfl | rfl | rfl | rfl | rfl | rfl | rfl | rfl | rfl <;> obtain rfl := Option.some.inj ho <;>
          simp (decide := true) only [fillAct, List.mapIdx_cons, List.mapIdx_nil, Nat.reduceAdd, if_true, if_false, List.getD_cons_zero, List.getD_cons_succ]
        · clear hd ho
          go_wp2_with fail
          exact ⟨rfl, gb_refl _ _, rfl⟩
        · have h0 : u 40 = .bool true := hd 0 (by kernel_rfl)
          clear hd ho
          rw [h0]
          go_wp2_with fail
          exact ⟨rfl, gb_refl _ _, rfl⟩
        · have h1 : u 41 = .bool true := hd 1 (by kernel_rfl)
          clear hd ho
          rw [h1]
          refine wpList_guard (by rfl) ?_
          go_wp2_with fail
          exact ⟨rfl, gb_refl _ _, rfl⟩
        · have h1 : u 41 = .bool true := hd 1 (by kernel_rfl)
          clear hd ho
          rw [h1]
          refine wpList_guard (by rfl) ?_
          go_wp2_with fail
          exact ⟨rfl, gb_refl _ _, rfl⟩
        · have h1 : u 41 = .bool true := hd 1 (by kernel_rfl)
          clear hd ho
          rw [h1]
          refine wpList_guard (by rfl) ?_
          go_wp2_with fail
          exact ⟨rfl, gb_refl _ _, rfl⟩
        · have h1 : u 41 = .bool true := hd 1 (by kernel_rfl)
          have h4 : u 44 = .slice (some ⟨b3, o3, none⟩) (r + 1) c3 := hd 4 (by kernel_rfl)
          clear hd ho
          rw [h1, h4]
          refine wpList_guard (by rfl) ?_
          go_wp2_with fail
          exact ⟨rfl, gb_refl _ _, rfl⟩
        · have h1 : u 41 = .bool true := hd 1 (by kernel_rfl)
          have h5 : u 45 = .int .i64 ((r : Int) + 1) := hd 5 (by kernel_rfl)
          clear hd ho
          rw [h1, h5]
          refine wpList_guard (by rfl) ?_
          go_wp2_with fail
          exact ⟨rfl, gb_refl _ _, rfl⟩
        · have h1 : u 41 = .bool true := hd 1 (by kernel_rfl)
          have h3 : u 43 = .slice (some ⟨b3, o3, none⟩) (r + 1) c3 := hd 3 (by kernel_rfl)
          have h6 : u 46 = .int .i64 (r : Int) := hd 6 (by kernel_rfl)
          clear hd ho
          rw [h1, h3, h6]
          refine wpList_guard (by rfl) ?_
          go_wp2_with fail
          exact ⟨rfl, gb_refl _ _, rfl⟩
        · have h1 : u 41 = .bool true := hd 1 (by kernel_rfl)
          have h7 : u 47 = .pointer (some ⟨b3, o3 + r, none⟩) := hd 7 (by kernel_rfl)
          clear hd ho
          rw [h1, h7]
          refine wpList_guard (by rfl) ?_
          have c1 := cell_grown (row := none) hg HCX.out (by simp)
          go_wp2_with fail
          exact ⟨rfl, gb_refl _ _, rfl⟩
        · have h1 : u 41 = .bool true := hd 1 (by kernel_rfl)
          have h2 : u 42 = .int .i64 c := hd 2 (by kernel_rfl)
          have h8 : u 48 = .slice Ax nx cx := hd 8 (by kernel_rfl)
          clear hd ho
          rw [h1, h2, h8]
          refine wpList_guard (by rfl) ?_
          have hx1 := RL.gr HLX.out hg
          go_wp2_with (go_at_call 21; ((with_reducible refine (HSUM.out _ hx1).mono ?_); rintro e w3 ⟨rfl, g3⟩))
          exact ⟨rfl, g3, rfl⟩
        · have h1 : u 41 = .bool true := hd 1 (by kernel_rfl)
          clear hd ho
          rw [h1]
          refine wpList_guard (by rfl) ?_
          have h1 := HB0.out.grown hg (by simp)
          go_wp2_with ((with_reducible refine wpList_load_bk (x := .tmp 11) (t := 34) b0 _ (X.l.map bv) _ h1 (by kernel_rfl) Try.underlying34 rfl (idSize _) ?_))
          exact ⟨rfl, gb_refl _ _, rfl⟩
        · have h1 : u 41 = .bool true := hd 1 (by kernel_rfl)
          have h9 : u 49 = idv S := hd 9 (by kernel_rfl)
          have h10 : u 50 = idv X := hd 10 (by kernel_rfl)
          clear hd ho
          rw [h1, h9, h10]
          refine wpList_guard (by rfl) ?_
          go_wp2_with ((with_reducible refine wpList_eql_id (x := .tmp 49) (y := .tmp 50) idEq S X (by kernel_rfl) (by kernel_rfl) ?_); rw [← HD.out])
          exact ⟨rfl, gb_refl _ _, rfl⟩
        · have h1 : u 41 = .bool true := hd 1 (by kernel_rfl)
          have h11 : u 51 = .bool D := hd 11 (by kernel_rfl)
          clear hd ho
          rw [h1, h11]
          go_wp2_with fail
          exact ⟨rfl, gb_refl _ _, rfl⟩
      case fin2 =>
        intro u w8 hg hφ
        have hz : u 52 = .bool D := hφ 12 (by omega)
        simp (decide := true) only [fillAct, List.mapIdx_cons, List.mapIdx_nil, Nat.reduceAdd, if_true, if_false, List.drop_succ_cons, List.drop_zero]
        rw [hz]
        clear hφ
        go_wp2_with fail
        go_ret
        exact ⟨rfl, gb_trans HG7.out hg⟩
end Go.Proofs.Ytajgklomcapboaa
/- scrivenerref07: Leads. -/
namespace Go.Proofs.Ytajgklomcapboaa
open Go.RowKit Go.Shelf Sc
theorem results_id_tmp7 {f : Func} {t u : Nat} (hf : f.results = #[.cell t 34, .tmp u]) (tmps : Array Value) (w : World) (b : Nat) (x : Sc.Id) (ht : tmps.getD t undef = .pointer (some ⟨b, 0, none⟩)) (hb : Bk w b 34 (x.l.map bv)) :
    (results f tmps).run Try.prog w = .ok (.tuple #[idv x, tmps.getD u undef]) w := by
  have ht' : tmps[t]?.getD undef = .pointer (some ⟨b, 0, none⟩) := by simpa using ht
  have hl := run_loadVar_row (P := Try.prog) w b 34 34 (x.l.map bv).toArray (0, 0) _ hb Try.underlying34 rfl (by simpa using idSize x)
  simp [results, hf, ht', asAddr, hl, idv]
theorem text_agg (x : Sc.Id) (w : World) : Calls Try.prog 49 #[.agg (x.l.map bv).toArray] w fun e w' => e = .returned (sv x.l) ∧ w.grownBy w' none := text_any x w
def RLds (c : Int) (e : List UInt8) (p n : Nat) (rp : List Sc.Id) (w : World) (E : Ending) (w' : World) : Prop :=
  ∃ y ok, E = .returned (.tuple #[idv y, .bool ok]) ∧ w.grownBy w' none ∧
    ((textsR (sumC c) e p n rp = none ∧ ok = false) ∨ ∃ l, textsR (sumC c) e p n rp = some l ∧ ok = true ∧ y = sumC c (l.getLastD []))
set_option maxHeartbeats 8000000 in
set_option maxRecDepth 100000 in
theorem rleads_any (c : Int) (e : List UInt8) (he : e.length ≤ 1000000) : ∀ (rp : List Sc.Id) (p n : Nat) (vp : Value) (w : World), RI w vp rp.reverse → 1 ≤ n → n ≤ 1099511627776 → p < n → rp.length ≤ 1000 →
    Calls Try.prog 23 #[.int .i64 c, sv e, .int .i64 (p : Int), .int .i64 (n : Int), vp] w (RLds c e p n rp w) := by
  intro rp
  induction rp with
  | nil =>
    intro p n vp w hvp hn1 hn hpn hrl
    go_enter Try.func23, Try.ntmps23
    obtain ⟨Ap, cp, rfl, _⟩ := Rd.form hvp
    obtain ⟨W, hW⟩ : ∃ W, W = w.alloc (.cells idZ.toArray 34) := ⟨_, rfl⟩
    obtain ⟨b0, hb0⟩ : ∃ b0, b0 = w.heap.size := ⟨_, rfl⟩
    have hbk : Bk W b0 34 idZ := by rw [hW, hb0]; exact Bk.new w _ _
    have g0 : w.grownBy W none := by rw [hW]; exact gb_alloc (gb_refl w none) _
    have hbw : w.heap.size ≤ b0 := by rw [hb0]; exact Nat.le_refl _
    have HW := Go.Lib.hid hW
    have HBE := Go.Lib.hid hb0
    have hal : [(0 : UInt8)].length + e.length ≤ 9223372036854775807 := by simp only [List.length_cons, List.length_nil]; omega
    obtain ⟨S, hS⟩ : ∃ S, S = sumC c (0 :: e) := ⟨_, rfl⟩
    have HSUM : Hid (∀ w, Calls Try.prog 28 #[.int .i64 c, sv (0 :: e)] w fun e w' => e = .returned (idv S) ∧ w.grownBy w' none) := Go.Lib.hid fun w => by rw [hS]; exact rsum_any c (0 :: e) (by rw [List.length_cons]; omega) w
    have HS := Go.Lib.hid hS
    clear hvp hrl hW hb0 hS he
    by_cases h1 : n = 1
    · subst h1
      go_upto_region 2 with ((with_reducible refine wpList_alloc_row (E := 34) idZ infoId ?_); rw [← HW.out])
      rw [← HBE.out]
      go_wp2_with (first
        | ((with_reducible refine wpList_add_str (z := .tmp 22) [0] e (by kernel_rfl) (by kernel_rfl) hal ?_))
        | (go_at_call 28; ((with_reducible refine (HSUM.out _).mono ?_); rintro E w3 ⟨rfl, g3⟩); have b3 := hbk.grown g3 (by simp))
        | ((with_reducible refine wpList_store_bk (t := 34) b0 34 idZ (S.l.map bv) b3 (by kernel_rfl) (by kernel_rfl) (idSize _) (idLen _) (idOne _) ?_); intro w5 h5 g5 z5))
      try go_frame
      exact bodyPost_ret (results_id_tmp7 rfl _ _ b0 S rfl h5) rfl ⟨_, _, rfl, gb_trans_new (gb_trans g0 g3) g5 hbw, .inr ⟨[0 :: e], rfl, rfl, by rw [HS.out]; rfl⟩⟩
    · have d1 : decide ((n : Int) = 1) = false := decide_eq_false (by omega)
      have d2 : decide (n = 1) = false := decide_eq_false h1
      go_upto_region 4 with ((with_reducible refine wpList_alloc_row (E := 34) idZ infoId ?_); rw [← HW.out])
      rw [← HBE.out]
      go_wp2_with (first
        | ((with_reducible refine wpList_build_row (id0.l.map bv) (fun w => by simp only [List.map_toArray, List.map_nil]; exact build_i0 w) ?_))
        | ((with_reducible refine wpList_store_bk (t := 34) b0 34 idZ (id0.l.map bv) hbk (by kernel_rfl) (by kernel_rfl) (idSize _) (idLen _) (idOne _) ?_); intro w5 h5 g5 z5))
      try go_frame
      exact bodyPost_ret (results_id_tmp7 rfl _ _ b0 id0 rfl h5) rfl ⟨_, _, rfl, gb_trans_new g0 g5 hbw, .inl ⟨by unfold textsR; rw [if_neg h1], rfl⟩⟩
  | cons X rp ih =>
    intro p n vp w hvp hn1 hn hpn hrl
    go_enter Try.func23, Try.ntmps23
    obtain ⟨q, hq⟩ : ∃ q, q = rp.length := ⟨_, rfl⟩
    have hq1 : (X :: rp).reverse.length = q + 1 := by rw [List.length_reverse, List.length_cons, hq]
    have hq2 : (X :: rp).reverse[q]? = some X := by rw [hq, List.reverse_cons, List.getElem?_append_right (by rw [List.length_reverse]; exact Nat.le_refl _), List.length_reverse, Nat.sub_self]; rfl
    have hq3 : (X :: rp).reverse.take q = rp.reverse := by rw [hq, List.reverse_cons, List.take_left' (by rw [List.length_reverse])]
    obtain ⟨b, o, c9, rfl, hb, hc9, hcm, hr⟩ := Rd.at hvp (by rw [hq1]; omega)
    have hrx := range_id hr hq2
    have hpi : RI w (.slice (some ⟨b, o, none⟩) q c9) rp.reverse := by
      have h := RdI.toTake hvp rfl (k := q) (by rw [hq1]; omega)
      rw [hq3] at h; exact h
    rw [hq1] at hc9 ⊢
    obtain ⟨W, hW⟩ : ∃ W, W = w.alloc (.cells idZ.toArray 34) := ⟨_, rfl⟩
    obtain ⟨b0, hb0⟩ : ∃ b0, b0 = w.heap.size := ⟨_, rfl⟩
    have hbk : Bk W b0 34 idZ := by rw [hW, hb0]; exact Bk.new w _ _
    have g0 : w.grownBy W none := by rw [hW]; exact gb_alloc (gb_refl w none) _
    have hbw : w.heap.size ≤ b0 := by rw [hb0]; exact Nat.le_refl _
    have HW := Go.Lib.hid hW
    have HBE := Go.Lib.hid hb0
    have HBK := Go.Lib.hid hbk
    have HRX := Go.Lib.hid (rangeAt_grown hrx g0 (by simp))
    have HPI := Go.Lib.hid (RI.gr hpi g0)
    have HIH := Go.Lib.hid ih
    have HRL : Hid (rp.length ≤ 1000) := Go.Lib.hid (by rw [List.length_cons] at hrl; omega)
    have hqI : (0 : Int) ≤ (q : Int) ∧ (q : Int) < 1000 ∧ (q : Int) < (c9 : Int) := by rw [List.length_cons] at hrl; omega
    have hal : [(0 : UInt8)].length + e.length ≤ 9223372036854775807 := by simp only [List.length_cons, List.length_nil]; omega
    obtain ⟨S, hS⟩ : ∃ S, S = sumC c (0 :: e) := ⟨_, rfl⟩
    have HSUM : Hid (∀ w, Calls Try.prog 28 #[.int .i64 c, sv (0 :: e)] w fun e w' => e = .returned (idv S) ∧ w.grownBy w' none) := Go.Lib.hid fun w => by rw [hS]; exact rsum_any c (0 :: e) (by rw [List.length_cons]; omega) w
    clear hvp hrl hq hq1 hq2 hq3 hr hrx hpi ih hW hb0 hbk hS he
    by_cases h1 : n = 1
    · subst h1
      have hbk := HBK.out
      go_upto_region 2 with ((with_reducible refine wpList_alloc_row (E := 34) idZ infoId ?_); rw [← HW.out])
      rw [← HBE.out]
      go_wp2_with (first
        | ((with_reducible refine wpList_add_str (z := .tmp 22) [0] e (by kernel_rfl) (by kernel_rfl) hal ?_))
        | (go_at_call 28; ((with_reducible refine (HSUM.out _).mono ?_); rintro E w3 ⟨rfl, g3⟩); have b3 := hbk.grown g3 (by simp))
        | ((with_reducible refine wpList_store_bk (t := 34) b0 34 idZ (S.l.map bv) b3 (by kernel_rfl) (by kernel_rfl) (idSize _) (idLen _) (idOne _) ?_); intro w5 h5 g5 z5))
      try go_frame
      exact bodyPost_ret (results_id_tmp7 rfl _ _ b0 S rfl h5) rfl ⟨_, _, rfl, gb_trans_new (gb_trans g0 g3) g5 hbw, .inl ⟨by unfold textsR; rw [if_pos rfl], rfl⟩⟩
    · have d1 : decide ((n : Int) = 1) = false := decide_eq_false (by omega)
      have d2 : decide (n = 1) = false := decide_eq_false h1
      have d5 : ((n : Int) == 1) = false := by simp; omega
      have d6 : ((q : Int) + 1 == 0) = false := by simp; omega
      obtain ⟨k, hk⟩ : ∃ k, k = half n := ⟨_, rfl⟩
      have hk1 : 1 ≤ k := by rw [hk]; exact half_pos n
      have hk2 : k < n := by rw [hk]; exact half_lt (by omega)
      have hhalf : ∀ w : World, Calls Try.prog 48 #[.int .i64 (n : Int)] w fun e w' => e = .returned (.int .i64 (k : Int)) ∧ w' = w := fun w => by rw [hk]; exact refHalf_any n (by omega) hn w
      have HK := Go.Lib.hid hk
      have HH1 := Go.Lib.hid h1
      have hrx := HRX.out
      clear hk h1
      have hpI : (0 : Int) ≤ (p : Int) ∧ (p : Int) < (n : Int) ∧ (n : Int) ≤ 1099511627776 ∧ (1 : Int) ≤ (k : Int) ∧ (k : Int) < (n : Int) := by omega
      go_upto_region 8 with (first
        | ((with_reducible refine wpList_alloc_row (E := 34) idZ infoId ?_); rw [← HW.out])
        | (go_at_call 48; ((with_reducible refine (hhalf _).mono ?_); rintro e w2 ⟨rfl, rfl⟩))
        | ((with_reducible refine wpList_load_range (t := 34) b (o + q * 32) (X.l.map bv) _ hrx (by kernel_rfl) Try.underlying34 rfl (idSize _) ?_))
        | (go_at_call 49; ((with_reducible refine (text_agg X _).mono ?_); rintro E w6 ⟨rfl, g6⟩)))
      rw [← HBE.out]
      have HB6 := Go.Lib.hid (HBK.out.grown g6 (by simp))
      have HPI6 := Go.Lib.hid (RI.gr HPI.out g6)
      have HG6 := Go.Lib.hid (gb_trans g0 g6)
      clear g6 hrx HRX HPI HBK
      by_cases hpk : p < k
      · have d3 : decide (p < k) = true := decide_eq_true hpk
        have d4 : decide ((p : Int) < (k : Int)) = true := decide_eq_true (by omega)
        have HTX : Hid (textsR (sumC c) e p n (X :: rp) = (textsR (sumC c) e p k rp).map fun l => l ++ [1 :: ((sumC c (l.getLastD [])).l ++ X.l)]) := Go.Lib.hid (by rw [textsR, if_neg HH1.out, if_pos (by rw [← HK.out]; exact hpk), ← HK.out])
        go_upto_region 10 with (first
          | (go_at_call 23; ((with_reducible refine (HIH.out p k _ _ HPI6.out hk1 (by omega) hpk HRL.out).mono ?_); rintro E w7 ⟨y, ok, rfl, g7, hm⟩); have bx := Bk.new w7 34 idZ)
          | ((with_reducible refine wpList_alloc_row (E := 34) idZ infoId ?_))
          | ((with_reducible refine wpList_store_bk (t := 34) w7.heap.size 34 idZ (y.l.map bv) bx (by kernel_rfl) (by kernel_rfl) (idSize _) (idLen _) (idOne _) ?_); intro w8 h8 g8 z8))
        have hba := HB6.out.grown g7 (by simp)
        have hg7 := gb_trans HG6.out g7
        obtain ⟨T, hT⟩ : ∃ T, T = sumC c (1 :: (y.l ++ X.l)) := ⟨_, rfl⟩
        have hsT : ∀ w, Calls Try.prog 28 #[.int .i64 c, sv (1 :: (y.l ++ X.l))] w fun e w' => e = .returned (idv T) ∧ w.grownBy w' none := fun w => by rw [hT]; exact rsum_any c _ (by rw [List.length_cons, List.length_append, Id.h, Id.h]; omega) w
        have HST := Go.Lib.hid hsT
        have hal1 : [(1 : UInt8)].length + y.l.length ≤ 9223372036854775807 := by rw [y.h]; decide
        have hal2 : (1 :: y.l).length + X.l.length ≤ 9223372036854775807 := by rw [List.length_cons, y.h, X.h]; decide
        have hres : (textsR (sumC c) e p n (X :: rp) = none ∧ ok = false) ∨ ∃ l, textsR (sumC c) e p n (X :: rp) = some l ∧ ok = true ∧ T = sumC c (l.getLastD []) := by
          rcases hm with ⟨hm, h⟩ | ⟨l, hm, h, hy⟩
          · exact .inl ⟨by rw [HTX.out, hm]; rfl, h⟩
          · exact .inr ⟨_, by rw [HTX.out, hm]; rfl, h, by rw [hT, hy]; simp⟩
        have HRES := Go.Lib.hid hres
        have hlt : b0 < w7.heap.size := hba.lt
        have hB8 := (hba.alloc (.cells idZ.toArray 34)).grown g8 (by simp; omega)
        have g08 := gb_trans_new (gb_alloc hg7 (.cells idZ.toArray 34)) g8 hg7.size
        have HG8 := Go.Lib.hid g08
        have HB8 := Go.Lib.hid hB8
        clear hm g7 hT hsT hres g08 hB8 g8 z8 bx hlt hba hg7
        go_wp2_with (first
          | ((with_reducible refine wpList_load_bk (x := .tmp 15) (t := 34) w7.heap.size _ (y.l.map bv) _ h8 (by kernel_rfl) Try.underlying34 rfl (idSize _) ?_))
          | (go_at_call 49; ((with_reducible refine (text_agg y _).mono ?_); rintro E w9 ⟨rfl, g9⟩))
          | ((with_reducible refine wpList_add_str (z := .tmp 60) [1] y.l (by kernel_rfl) (by kernel_rfl) hal1 ?_))
          | ((with_reducible refine wpList_add_str (x := .tmp 61) (z := .tmp 62) (1 :: y.l) X.l (by kernel_rfl) (by kernel_rfl) hal2 ?_))
          | (go_at_call 28; ((with_reducible refine (HST.out _).mono ?_); rintro E w10 ⟨rfl, g10⟩); have b10 := (HB8.out.grown g9 (by simp)).grown g10 (by simp))
          | ((with_reducible refine wpList_store_bk (t := 34) b0 34 idZ (T.l.map bv) b10 (by kernel_rfl) (by kernel_rfl) (idSize _) (idLen _) (idOne _) ?_); intro w11 h11 g11 z11))
        try go_frame
        exact bodyPost_ret (results_id_tmp7 rfl _ _ b0 T rfl h11) rfl ⟨_, _, rfl, gb_trans_new (gb_trans (gb_trans HG8.out g9) g10) g11 hbw, HRES.out⟩
      · have d3 : decide (p < k) = false := decide_eq_false hpk
        have d4 : decide ((p : Int) < (k : Int)) = false := decide_eq_false (by omega)
        have HTX : Hid (textsR (sumC c) e p n (X :: rp) = (textsR (sumC c) e (p - k) (n - k) rp).map fun l => l ++ [1 :: (X.l ++ (sumC c (l.getLastD [])).l)]) := Go.Lib.hid (by rw [textsR, if_neg HH1.out, if_neg (by rw [← HK.out]; exact hpk), ← HK.out])
        obtain ⟨p2, hp2⟩ : ∃ p2, p2 = p - k := ⟨_, rfl⟩
        obtain ⟨n2, hn2⟩ : ∃ n2, n2 = n - k := ⟨_, rfl⟩
        have hpe : (p : Int) - (k : Int) = (p2 : Int) := by omega
        have hne2 : (n : Int) - (k : Int) = (n2 : Int) := by omega
        rw [← hp2, ← hn2] at HTX
        have hpq : 1 ≤ n2 ∧ n2 ≤ 1099511627776 ∧ p2 < n2 := by omega
        have HPN := Go.Lib.hid hpq
        clear hp2 hn2 hpq
        go_upto_region 12 with (first
          | (go_at_call 23; ((with_reducible refine (HIH.out p2 n2 _ _ HPI6.out HPN.out.1 HPN.out.2.1 HPN.out.2.2 HRL.out).mono ?_); rintro E w7 ⟨y, ok, rfl, g7, hm⟩); have bx := Bk.new w7 34 idZ)
          | ((with_reducible refine wpList_alloc_row (E := 34) idZ infoId ?_))
          | ((with_reducible refine wpList_store_bk (t := 34) w7.heap.size 34 idZ (y.l.map bv) bx (by kernel_rfl) (by kernel_rfl) (idSize _) (idLen _) (idOne _) ?_); intro w8 h8 g8 z8))
        have hba := HB6.out.grown g7 (by simp)
        have hg7 := gb_trans HG6.out g7
        obtain ⟨T, hT⟩ : ∃ T, T = sumC c (1 :: (X.l ++ y.l)) := ⟨_, rfl⟩
        have hsT : ∀ w, Calls Try.prog 28 #[.int .i64 c, sv (1 :: (X.l ++ y.l))] w fun e w' => e = .returned (idv T) ∧ w.grownBy w' none := fun w => by rw [hT]; exact rsum_any c _ (by rw [List.length_cons, List.length_append, Id.h, Id.h]; omega) w
        have HST := Go.Lib.hid hsT
        have hal1 : [(1 : UInt8)].length + X.l.length ≤ 9223372036854775807 := by rw [X.h]; decide
        have hal2 : (1 :: X.l).length + y.l.length ≤ 9223372036854775807 := by rw [List.length_cons, X.h, y.h]; decide
        have hres : (textsR (sumC c) e p n (X :: rp) = none ∧ ok = false) ∨ ∃ l, textsR (sumC c) e p n (X :: rp) = some l ∧ ok = true ∧ T = sumC c (l.getLastD []) := by
          rcases hm with ⟨hm, h⟩ | ⟨l, hm, h, hy⟩
          · exact .inl ⟨by rw [HTX.out, hm]; rfl, h⟩
          · exact .inr ⟨_, by rw [HTX.out, hm]; rfl, h, by rw [hT, hy]; simp⟩
        have HRES := Go.Lib.hid hres
        have hlt : b0 < w7.heap.size := hba.lt
        have hB8 := (hba.alloc (.cells idZ.toArray 34)).grown g8 (by simp; omega)
        have g08 := gb_trans_new (gb_alloc hg7 (.cells idZ.toArray 34)) g8 hg7.size
        have HG8 := Go.Lib.hid g08
        have HB8 := Go.Lib.hid hB8
        clear hm g7 hT hsT hres g08 hB8 g8 z8 bx hlt hba hg7
        go_wp2_with (first
          | ((with_reducible refine wpList_load_bk (x := .tmp 17) (t := 34) w7.heap.size _ (y.l.map bv) _ h8 (by kernel_rfl) Try.underlying34 rfl (idSize _) ?_))
          | (go_at_call 49; ((with_reducible refine (text_agg y _).mono ?_); rintro E w9 ⟨rfl, g9⟩))
          | ((with_reducible refine wpList_add_str (z := .tmp 80) [1] X.l (by kernel_rfl) (by kernel_rfl) hal1 ?_))
          | ((with_reducible refine wpList_add_str (x := .tmp 81) (z := .tmp 83) (1 :: X.l) y.l (by kernel_rfl) (by kernel_rfl) hal2 ?_))
          | (go_at_call 28; ((with_reducible refine (HST.out _).mono ?_); rintro E w10 ⟨rfl, g10⟩); have b10 := (HB8.out.grown g9 (by simp)).grown g10 (by simp))
          | ((with_reducible refine wpList_store_bk (t := 34) b0 34 idZ (T.l.map bv) b10 (by kernel_rfl) (by kernel_rfl) (idSize _) (idLen _) (idOne _) ?_); intro w11 h11 g11 z11))
        try go_frame
        exact bodyPost_ret (results_id_tmp7 rfl _ _ b0 T rfl h11) rfl ⟨_, _, rfl, gb_trans_new (gb_trans (gb_trans HG8.out g9) g10) g11 hbw, HRES.out⟩
end Go.Proofs.Ytajgklomcapboaa
/- ShortLeads: the walk. -/
namespace Sc
open Go Go.RowKit
def way7 (a n : Int) (pv : Value) (X : Id) : List Value := [Value.int .i64 a, Value.int .i64 n, pv] ++ X.l.map bv
theorem way7_x {w : World} {b : Nat} {a n : Int} {X : Id} {pv : Value} (h : w.rangeAt b 0 (way7 a n pv X)) : w.rangeAt b 3 (X.l.map bv) := by
  intro j u hu
  have := h (3 + j) u (by
    unfold way7
    rw [List.getElem?_append_right (by simp)]
    simpa using hu)
  rwa [Nat.zero_add] at this
/-- What the reference says. -/
theorem leadsB_ok {H : List UInt8 → Id} {e : List UInt8} {p m : Nat} {path : List Id} {X : Id} (h : ¬ ((p : Int) < 0 ∨ (m : Int) ≤ (p : Int) ∨ 1099511627776 < (m : Int) ∨ 64 < path.length)) :
    leadsB H e (p : Int) (m : Int) path X = match textsR H e p m path.reverse with | none => false | some l => (H (l.getLastD [])).l == X.l := by
  unfold leadsB
  rw [if_neg h]
  rfl
end Sc
namespace Go.Proofs.Ytajgklomcapboaa
open Go.RowKit Go.Shelf Sc
theorem sleads_agg (c a n : Int) (e : List UInt8) (path : List Sc.Id) (X : Sc.Id) (ve vp : Value) (w : World) (he : e.length ≤ 1000000) (hve : RL w ve e) (hvp : RI w vp path) :
    Calls Try.prog 22 #[.int .i64 c, ve, .int .i64 a, .int .i64 n, vp, .agg (X.l.map bv).toArray] w fun E w' => E = .returned (.bool (leadsB (sumC c) e a n path X)) ∧ w.grownBy w' none := sleads_any c a n e path X ve vp w he hve hvp
def l7eφ (_b8 b5 : Nat) (y X : Sc.Id) (D : Bool) (i : Nat) (v : Value) (_w : World) : Prop := match i with
  | 0 => v = .bool D
  | 1 => v = .bool true
  | 2 => v = .bool true
  | 3 => v = idv y
  | 4 => v = .pointer (some ⟨b5, 3, none⟩)
  | 5 => v = idv X
  | 6 => v = .bool D
  | 7 => v = .bool D
  | 8 => v = .bool true
  | _ => True
theorem l7eφ_gr (b8 b5 : Nat) (y X : Sc.Id) (D : Bool) : ∀ i v w w', l7eφ b8 b5 y X D i v w → Gr w w' → l7eφ b8 b5 y X D i v w' := by
  intro i v w w' h hg
  match i with
  | 0 => exact h
  | 1 => exact h
  | 2 => exact h
  | 3 => exact h
  | 4 => exact h
  | 5 => exact h
  | 6 => exact h
  | 7 => exact h
  | 8 => exact h
  | i + 9 => exact h
set_option maxHeartbeats 8000000 in
set_option maxRecDepth 100000 in
theorem leads7_walk (c a n : Int) (ve : Value) (e0 : List UInt8) (NB NB2 : Nat → Prop) (pv : Value) (path : List Sc.Id) (X : Sc.Id) (w : World) (hve : RdB NB w ve e0) (hNB : ∀ b, NB b → b < w.heap.size) (hvp : RdI NB2 w pv path) (hNB2 : ∀ b, NB2 b → b < w.heap.size) :
    Calls Try.prog 5 #[.int .i64 c, ve, .agg (way7 a n pv X).toArray] w fun e w' => e = .returned (.bool true) ∧ w.grownBy w' none := by
  go_enter Try.func5, Try.ntmps5
  obtain ⟨Ae, ce, rfl, hce⟩ := Rd.form hve
  obtain ⟨Ap, cp, rfl, _⟩ := Rd.form hvp
  have hmp := Rd.le hvp
  have hme := Rd.le hve
  have hve' := RL.of hve hNB
  have hvp' := RI.of hvp hNB2
  obtain ⟨ne, hne⟩ : ∃ ne, ne = e0.length := ⟨_, rfl⟩
  obtain ⟨np, hnp⟩ : ∃ np, np = path.length := ⟨_, rfl⟩
  rw [← hnp] at hvp' hmp ⊢
  obtain ⟨q, hq⟩ : ∃ q, min e0.length 100 = q := ⟨_, rfl⟩
  obtain ⟨e, he⟩ : ∃ e, e = e0.take 100 := ⟨_, rfl⟩
  have hel : e.length = q := by rw [he, List.length_take, Nat.min_comm]; exact hq
  have hq100 : q ≤ 100 := by omega
  have hrq : RL w (.slice Ae q ce) e := by rw [he]; exact RdB.takeTo hve' 100 q hq
  rw [← hne] at hve' hq hce hme ⊢
  obtain ⟨cs, hcs⟩ : ∃ cs, cs = way7 a n (.slice Ap np cp) X := ⟨_, rfl⟩
  rw [← hcs]
  obtain ⟨W, hW⟩ : ∃ W, W = w.alloc (.cells cs.toArray 43) := ⟨_, rfl⟩
  obtain ⟨b5, hb5⟩ : ∃ b5, b5 = w.heap.size := ⟨_, rfl⟩
  have hbk : Bk W b5 43 cs := by rw [hW, hb5]; exact Bk.new w _ _
  have g0 : w.grownBy W none := by rw [hW]; exact gb_alloc (gb_refl w none) _
  have k0 : cs[0]? = some (Value.int .i64 a) := by rw [hcs]; rfl
  have k1 : cs[1]? = some (Value.int .i64 n) := by rw [hcs]; rfl
  have k2 : cs[2]? = some (.slice Ap np cp) := by rw [hcs]; rfl
  have HE := Go.Lib.hid (RL.gr hrq g0)
  have HP := Go.Lib.hid (RI.gr hvp' g0)
  have HW := Go.Lib.hid hW
  have HBE := Go.Lib.hid hb5
  have HG0 := Go.Lib.hid g0
  have HBK := Go.Lib.hid hbk
  have HNP := Go.Lib.hid hnp
  have HEL := Go.Lib.hid hel
  have HCS := Go.Lib.hid hcs
  have hnpI : (0 : Int) ≤ (np : Int) ∧ (np : Int) ≤ 9223372036854775807 ∧ (0 : Int) ≤ (ne : Int) ∧ (ne : Int) ≤ 9223372036854775807 := by unfold maxLen at hmp hme; omega
  have hqI : (0 : Int) ≤ (q : Int) ∧ (q : Int) ≤ (ne : Int) ∧ (ne : Int) ≤ (ce : Int) := by omega
  clear hve hvp hNB hNB2 hve' hvp' hne hnp he hrq hW hb5 g0 hbk hel hcs hmp hme
  by_cases h70 : 70 < np
  · have d0 : decide ((np : Int) > 70) = true := decide_eq_true (by omega)
    have d0' : decide ((70 : Int) < (np : Int)) = true := decide_eq_true (by omega)
    go_upto_region 3 with (go_at_call 15; (rw [← HW.out]; (with_reducible refine (cuts_any _).mono ?_); rintro E w1 ⟨rfl, g1⟩))
    rw [← HBE.out]
    have c2 := (HBK.out.grown g1 (by simp)).cellAt k2
    go_wp2_with fail
    go_ret
    exact ⟨rfl, gb_trans HG0.out g1⟩
  · have d0 : decide ((np : Int) > 70) = false := decide_eq_false (by omega)
    have d0' : decide ((70 : Int) < (np : Int)) = false := decide_eq_false (by omega)
    go_upto_region 3 with (go_at_call 15; (rw [← HW.out]; (with_reducible refine (cuts_any _).mono ?_); rintro E w1 ⟨rfl, g1⟩))
    rw [← HBE.out]
    have hb1 := HBK.out.grown g1 (by simp)
    have c0 := hb1.cellAt k0
    have c1 := hb1.cellAt k1
    have c2 := hb1.cellAt k2
    have rX : w1.rangeAt b5 3 (X.l.map bv) := by have := hb1.range; rw [HCS.out] at this; exact way7_x this
    have HB1 := Go.Lib.hid hb1
    have HE1 := Go.Lib.hid (RL.gr HE.out g1)
    have HP1 := Go.Lib.hid (RI.gr HP.out g1)
    have HG1 := Go.Lib.hid (gb_trans HG0.out g1)
    obtain ⟨D, hD⟩ : ∃ D, D = leadsB (sumC c) e a n path X := ⟨_, rfl⟩
    have hld : Calls Try.prog 22 #[.int .i64 c, .slice Ae q ce, .int .i64 a, .int .i64 n, .slice Ap np cp, .agg (X.l.map bv).toArray] w1 fun E w' => E = .returned (.bool D) ∧ w1.grownBy w' none := by
      rw [hD]; exact sleads_agg c a n e path X _ _ w1 (by rw [HEL.out]; omega) HE1.out HP1.out
    have HD := Go.Lib.hid hD
    clear hb1 HE HP HG0 g1 hD h70
    go_upto_region 7 with (first
      | ((with_reducible refine wpList_min (x := .tmp 18) ne 100 q hq (by kernel_rfl) (by kernel_rfl) ?_))
      | ((with_reducible refine wpList_load_range (t := 34) b5 3 (X.l.map bv) _ rX (by kernel_rfl) Try.underlying34 rfl (idSize _) ?_))
      | (go_at_call 22; ((with_reducible refine hld.mono ?_); rintro E w2 ⟨rfl, g2⟩)))
    have hb2 := HB1.out.grown g2 (by simp)
    have HB2 := Go.Lib.hid hb2
    have HE2 := Go.Lib.hid (RL.gr HE1.out g2)
    have HP2 := Go.Lib.hid (RI.gr HP1.out g2)
    have HG2 := Go.Lib.hid (gb_trans HG1.out g2)
    clear c0 c1 c2 rX HB1 HE1 HP1 HG1 g2 hld
    have c0 := hb2.cellAt k0
    have c1 := hb2.cellAt k1
    have c2 := hb2.cellAt k2
    rcases (by omega : (a < 0 ∨ (0 ≤ a ∧ (n ≤ a ∨ (a < n ∧ (1099511627776 < n ∨ (n ≤ 1099511627776 ∧ 64 < np)))))) ∨ (0 ≤ a ∧ a < n ∧ n ≤ 1099511627776 ∧ np ≤ 64)) with hg | ⟨ha0, han, hn, hp⟩
    · have hv : D = false := by
        rw [HD.out]; unfold leadsB
        rw [if_pos (by rw [← HNP.out]; omega)]
      subst hv
      rcases hg with h | ⟨h1, h | ⟨h2, h | ⟨h3, h⟩⟩⟩
      all_goals
        first
          | (have d1 : decide (a < 0) = true := decide_eq_true (by omega))
          | (have d1 : decide (a < 0) = false := decide_eq_false (by omega)
             first
               | (have d2 : decide (n ≤ a) = true := decide_eq_true (by omega)
                  have d2' : decide (a ≥ n) = true := decide_eq_true (by omega))
               | (have d2 : decide (n ≤ a) = false := decide_eq_false (by omega)
                  have d2' : decide (a ≥ n) = false := decide_eq_false (by omega)
                  first
                    | (have d3 : decide (n > 1099511627776) = true := decide_eq_true (by omega)
                       have d3' : decide (1099511627776 < n) = true := decide_eq_true (by omega))
                    | (have d3 : decide (n > 1099511627776) = false := decide_eq_false (by omega)
                       have d3' : decide (1099511627776 < n) = false := decide_eq_false (by omega)
                       have d4 : decide ((np : Int) > 64) = true := decide_eq_true (by omega)
                       have d4' : decide ((64 : Int) < (np : Int)) = true := decide_eq_true (by omega)
                       have d4'' : decide (64 < np) = true := decide_eq_true (by omega))))
        go_wp2_with fail
        go_ret
        exact ⟨rfl, HG2.out⟩
    · have d1 : decide (a < 0) = false := decide_eq_false (by omega)
      have d2 : decide (n ≤ a) = false := decide_eq_false (by omega)
      have d2' : decide (a ≥ n) = false := decide_eq_false (by omega)
      have d3 : decide (n > 1099511627776) = false := decide_eq_false (by omega)
      have d3' : decide (1099511627776 < n) = false := decide_eq_false (by omega)
      have d4 : decide ((np : Int) > 64) = false := decide_eq_false (by omega)
      have d4' : decide ((64 : Int) < (np : Int)) = false := decide_eq_false (by omega)
      have d4'' : decide (64 < np) = false := decide_eq_false (by omega)
      obtain ⟨p, rfl⟩ : ∃ p : Nat, a = (p : Int) := ⟨a.toNat, by omega⟩
      obtain ⟨m, rfl⟩ : ∃ m : Nat, n = (m : Int) := ⟨n.toNat, by omega⟩
      have hv := HD.out
      rw [leadsB_ok (by rw [← HNP.out]; omega)] at hv
      have HV := Go.Lib.hid hv
      have hrl : ∀ w', RI w' (.slice Ap np cp) path → Calls Try.prog 23 #[.int .i64 c, sv e, .int .i64 (p : Int), .int .i64 (m : Int), .slice Ap np cp] w' (RLds c e p m path.reverse w') := fun w' h =>
        rleads_any c e (by rw [HEL.out]; omega) path.reverse p m _ w' (by rw [List.reverse_reverse]; exact h) (by omega) (by omega) (by omega) (by rw [List.length_reverse, ← HNP.out]; omega)
      have HRL := Go.Lib.hid hrl
      have hr2 : RdB (fun b => b < w2.heap.size) w2 (.slice Ae q ce) e := HE2.out
      clear hv hrl HD
      go_upto_region 10 with (first
        | ((with_reducible refine wpList_conv_bs (x := .tmp 57) (v := .slice Ae q ce) Try.underlying27 Try.underlying5 Try.underlying9 e (by kernel_rfl) hr2 ?_))
        | (go_at_call 23; ((with_reducible refine (HRL.out _ HP2.out).mono ?_); rintro E w3 ⟨y, ok, rfl, g3, hm⟩); have bx := Bk.new w3 34 idZ)
        | ((with_reducible refine wpList_alloc_row (E := 34) idZ infoId ?_))
        | ((with_reducible refine wpList_store_bk (t := 34) w3.heap.size 34 idZ (y.l.map bv) bx (by kernel_rfl) (by kernel_rfl) (idSize _) (idLen _) (idOne _) ?_); intro w4 h4 g4 z4))
      have hlt : b5 < w3.heap.size := (hb2.grown g3 (by simp)).lt
      have hb4 := ((hb2.grown g3 (by simp)).alloc (.cells idZ.toArray 34)).grown g4 (by simp; omega)
      have g04 := gb_trans_new (gb_alloc (gb_trans HG2.out g3) (.cells idZ.toArray 34)) g4 (Nat.le_trans HG2.out.size g3.size)
      have rX4 : w4.rangeAt b5 3 (X.l.map bv) := by have := hb4.range; rw [HCS.out] at this; exact way7_x this
      obtain ⟨b8, hb8⟩ : ∃ b8, b8 = w3.heap.size := ⟨_, rfl⟩
      rw [← hb8] at h4 ⊢
      have HG4 := Go.Lib.hid g04
      clear hb8 bx z4 g4 g3 hlt hb4 g04 c0 c1 c2 hb2 HB2 HE2 HP2 HG2 hr2 HRL
      have L1 : (Instr.loadAt 34 (.pointer (some ⟨b8, 0, none⟩))).run Try.prog w4 = .ok (idv y) w4 := run_loadAt_mid w4 b8 0 34 (y.l.map bv) _ h4.range Try.underlying34 rfl (idSize _)
      have L2 : (Instr.loadAt 34 (.pointer (some ⟨b5, 3, none⟩))).run Try.prog w4 = .ok (idv X) w4 := run_loadAt_mid w4 b5 3 34 (X.l.map bv) _ rX4 Try.underlying34 rfl (idSize _)
      rcases hm with ⟨hm, rfl⟩ | ⟨l, hm, rfl, hy⟩
      · have hDf : D = false := by rw [HV.out, hm]
        subst hDf
        clear hm HV
        go_wp2_with fail
        go_ret
        exact ⟨rfl, HG4.out⟩
      · have hD2 : D = (y.l == X.l) := by rw [HV.out, hm, hy]
        have HD2 := Go.Lib.hid hD2
        have H4 := Go.Lib.hid h4
        have HRX := Go.Lib.hid rX4
        clear hm HV hy hD2 h4 rX4 L1 L2
        refine wp_region_specsL 9 [68, 69, 70, 71, 72, 73, 74, 75, 76] (by kernel_rfl) (l7eφ b8 b5 y X D) (l7eφ_gr b8 b5 y X D) ?step ?fin
        case step =>
          intro i_ o_ ho hi_ u w' hg hd
          rcases (by omega : i_ = 0 ∨ i_ = 1 ∨ i_ = 2 ∨ i_ = 3 ∨ i_ = 4 ∨ i_ = 5 ∨ i_ = 6 ∨ i_ = 7 ∨ i_ = 8) with rfl | rfl | rfl | rfl | rfl | rfl | rfl | rfl | rfl <;> obtain rfl := Option.some.inj ho <;>
            simp (decide := true) only [fillAct, List.mapIdx_cons, List.mapIdx_nil, Nat.reduceAdd, if_true, if_false, List.getD_cons_zero, List.getD_cons_succ]
          · clear hd ho
            go_wp2_with fail
            exact ⟨rfl, gb_refl _ _, rfl⟩
          · clear hd ho
            go_wp2_with fail
            exact ⟨rfl, gb_refl _ _, rfl⟩
          · have h1 : u 69 = .bool true := hd 1 (by kernel_rfl)
            clear hd ho
            rw [h1]
            go_wp2_with fail
            exact ⟨rfl, gb_refl _ _, rfl⟩
          · have h2 : u 70 = .bool true := hd 2 (by kernel_rfl)
            clear hd ho
            rw [h2]
            refine wpList_guard (by rfl) ?_
            have h1 := H4.out.grown hg (by simp)
            go_wp2_with ((with_reducible refine wpList_load_bk (x := .tmp 8) (t := 34) b8 _ (y.l.map bv) _ h1 (by kernel_rfl) Try.underlying34 rfl (idSize _) ?_))
            exact ⟨rfl, gb_refl _ _, rfl⟩
          · have h2 : u 70 = .bool true := hd 2 (by kernel_rfl)
            clear hd ho
            rw [h2]
            refine wpList_guard (by rfl) ?_
            go_wp2_with fail
            exact ⟨rfl, gb_refl _ _, rfl⟩
          · have h2 : u 70 = .bool true := hd 2 (by kernel_rfl)
            have h4 : u 72 = .pointer (some ⟨b5, 3, none⟩) := hd 4 (by kernel_rfl)
            clear hd ho
            rw [h2, h4]
            refine wpList_guard (by rfl) ?_
            have r1 := rangeAt_grown HRX.out hg (by simp)
            go_wp2_with ((with_reducible refine wpList_load_range (t := 34) b5 3 (X.l.map bv) _ r1 (by kernel_rfl) Try.underlying34 rfl (idSize _) ?_))
            exact ⟨rfl, gb_refl _ _, rfl⟩
          · have h2 : u 70 = .bool true := hd 2 (by kernel_rfl)
            have h3 : u 71 = idv y := hd 3 (by kernel_rfl)
            have h5 : u 73 = idv X := hd 5 (by kernel_rfl)
            clear hd ho
            rw [h2, h3, h5]
            refine wpList_guard (by rfl) ?_
            go_wp2_with ((with_reducible refine wpList_eql_id (x := .tmp 71) (y := .tmp 73) idEq y X (by kernel_rfl) (by kernel_rfl) ?_); rw [← HD2.out])
            exact ⟨rfl, gb_refl _ _, rfl⟩
          · have h2 : u 70 = .bool true := hd 2 (by kernel_rfl)
            have h6 : u 74 = .bool D := hd 6 (by kernel_rfl)
            clear hd ho
            rw [h2, h6]
            go_wp2_with fail
            exact ⟨rfl, gb_refl _ _, rfl⟩
          · have h0 : u 68 = .bool D := hd 0 (by kernel_rfl)
            have h7 : u 75 = .bool D := hd 7 (by kernel_rfl)
            clear hd ho
            rw [h0, h7]
            cases D
            all_goals
              go_wp2_with fail
              exact ⟨rfl, gb_refl _ _, rfl⟩
        case fin =>
          intro u w5 hg hφ
          have hz : u 76 = .bool true := hφ 8 (by omega)
          simp (decide := true) only [fillAct, List.mapIdx_cons, List.mapIdx_nil, Nat.reduceAdd, if_true, if_false, List.drop_succ_cons, List.drop_zero]
          rw [hz]
          clear hφ
          go_wp2_with fail
          go_ret
          exact ⟨rfl, gb_trans HG4.out hg⟩
end Go.Proofs.Ytajgklomcapboaa
/- Arguments opened: a way that somebody shows. -/
namespace Go.Proofs.Ytajgklomcapboaa
open Go.ChangeShapes Go.WideShapes Go.ChangeAt Go.RowKit Sc
section
variable {H : Type} {enc : TypeId × Value → H} {P : Program} {W : World} {spare : Nat → Bool} {held : Bool}
theorem trod_ids {t q e : TypeId} {fuel : Nat} {cs : List Value} {x : DataW H × List MemPlace} (ht : P.underlying t = some (.slice q)) (hq : P.underlying q = some (.array 32 e)) (he : P.underlying e = some (.int .u8)) (ce : P.cellsOf e = 1) (cq : P.cellsOf q = 32)
    (h : DataW.trod enc P W 0 spare held fuel t cs = some x) : ∃ v xs, cs = [v] ∧ RdI (fun b => b < W.heap.size) W v xs := by
  have key : ∀ v : Value, (∃ a len cap, v = .slice a len cap) → cs = [v] → ∃ v xs, cs = [v] ∧ RdI (fun b => b < W.heap.size) W v xs := by
    rintro v hv rfl
    have h0 : DataW.Trod enc P W 0 spare held t v x.1 x.2 := ⟨fuel, by
      obtain ⟨a, n, c, rfl⟩ := hv
      simpa [Value.cells] using h⟩
    obtain ⟨xs, hx⟩ := open_ids ht hq he ce cq h0 hv
    exact ⟨v, xs, rfl, hx⟩
  rcases Go.Deep.open_slice ht h with ⟨hcs, _⟩ | ⟨a, len', cap', m, n, D, Pl, hcs, _⟩
  · exact key _ ⟨_, _, _, rfl⟩ hcs
  · exact key _ ⟨_, _, _, rfl⟩ hcs
theorem take_parts {cs : List Value} {a b : Value} {x y : List Value} {s : List Value} (hl : cs.length = 67) (h0 : cs.take 1 = [a]) (h1 : (cs.drop 1).take 1 = [b]) (h2 : (cs.drop 2).take 32 = x) (h3 : (cs.drop 34).take 32 = y) (h4 : (cs.drop 66).take 1 = s) : cs = [a, b] ++ x ++ y ++ s := by
  subst h2 h3 h4
  have e4 : (cs.drop 66).take 1 = cs.drop 66 := List.take_of_length_le (by rw [List.length_drop]; omega)
  rw [e4]
  have e3 : (cs.drop 34).take 32 ++ cs.drop 66 = cs.drop 34 := by
    rw [show cs.drop 66 = (cs.drop 34).drop 32 by rw [List.drop_drop], List.take_append_drop]
  have e2 : (cs.drop 2).take 32 ++ cs.drop 34 = cs.drop 2 := by
    rw [show cs.drop 34 = (cs.drop 2).drop 32 by rw [List.drop_drop], List.take_append_drop]
  have e1 : cs = [a, b] ++ cs.drop 2 := by
    have h5 : cs.take 2 = [a, b] := by
      rw [show (2 : Nat) = 1 + 1 from rfl, List.take_add, h0, h1]; rfl
    rw [← h5, List.take_append_drop]
  rw [List.append_assoc, List.append_assoc, e3, e2]
  exact e1
theorem open_way {t ti q e ts : TypeId} {fs : Array Field} (ht : P.underlying t = some (.struct fs)) (hi : P.underlying ti = some (.int .i64)) (hq : P.underlying q = some (.array 32 e)) (he : P.underlying e = some (.int .u8)) (hs : P.underlying ts = some (.slice q)) (ct : P.cellsOf t = 67) (ci : P.cellsOf ti = 1) (ce : P.cellsOf e = 1) (cq : P.cellsOf q = 32) (cs_ : P.cellsOf ts = 1)
    (hf : fs.toList.map (fun f => (f.type, f.offset)) = [(ti, 0), (ti, 1), (q, 2), (q, 34), (ts, 66)]) {r : Reach} {b0 : Nat} {v : Value} {d : DataW H} {p : List MemPlace}
    (h0 : DataW.Trod enc P W 0 spare held t v d p) (hv : Value.okWide P W r b0 t v) :
    ∃ (a n : Int) (x y : Sc.Id) (pv : Value) (path : List Sc.Id), v = .agg ([Value.int .i64 a, Value.int .i64 n] ++ x.l.map bv ++ y.l.map bv ++ [pv]).toArray ∧ RdI (fun b => b < W.heap.size) W pv path := by
  unfold Value.okWide at hv
  rw [ht] at hv
  obtain ⟨cs, rfl, _, _⟩ := hv
  obtain ⟨fuel, hfu⟩ := h0
  obtain ⟨xs, m, _, _, hl, hxl, hx⟩ := DataW.trod_struct ht hfu
  rw [ct] at hl
  simp only [Value.cells] at hl hx
  have hfs : ∀ i ti' o, [(ti, 0), (ti, 1), (q, 2), (q, 34), (ts, 66)][i]? = some (ti', o) → ∃ y, DataW.trod enc P W 0 spare held m ti' ((cs.toList.drop o).take (P.cellsOf ti')) = some y := fun i ti' o h => by
    rw [← hf, List.getElem?_map] at h
    cases hq' : fs.toList[i]? with
    | none => rw [hq'] at h; cases h
    | some f =>
      rw [hq'] at h
      have h2 := hx i f (by simpa using hq')
      simp only [Option.map_some, Option.some.injEq, Prod.mk.injEq] at h
      rw [h.1, h.2] at h2
      have hil : i < xs.length := by rw [hxl]; exact (by have := (List.getElem?_eq_some_iff.1 hq').1; simpa using this)
      rw [List.getElem?_eq_getElem hil] at h2
      exact ⟨_, h2⟩
  obtain ⟨y0, g0⟩ := hfs 0 ti 0 rfl
  obtain ⟨y1, g1⟩ := hfs 1 ti 1 rfl
  obtain ⟨y2, g2⟩ := hfs 2 q 2 rfl
  obtain ⟨y3, g3⟩ := hfs 3 q 34 rfl
  obtain ⟨y4, g4⟩ := hfs 4 ts 66 rfl
  rw [ci] at g0 g1
  rw [cq] at g2 g3
  rw [cs_] at g4
  obtain ⟨a, ha, _, _⟩ := DataW.trod_int hi g0
  obtain ⟨n, hn, _, _⟩ := DataW.trod_int hi g1
  obtain ⟨x, hx'⟩ := trod_id hq he ce cq g2
  obtain ⟨y, hy'⟩ := trod_id hq he ce cq g3
  obtain ⟨pv, path, hpv, hR⟩ := trod_ids hs hq he ce cq g4
  refine ⟨a, n, x, y, pv, path, ?_, hR⟩
  have := take_parts hl (by simpa using ha) hn hx' hy' hpv
  rw [← this]
end
end Go.Proofs.Ytajgklomcapboaa
/- Arguments opened: a way, and an entry that is shown, of layer 7. -/
namespace Go.Proofs.Ytajgklomcapboaa
open Go.ChangeShapes Go.WideShapes Go.ChangeAt Go.RowKit Sc
section
variable {H : Type} {enc : TypeId × Value → H} {P : Program} {W : World} {spare : Nat → Bool} {held : Bool}
theorem trod_bytes_one {t e : TypeId} {fuel : Nat} {cs : List Value} {x : DataW H × List MemPlace} (ht : P.underlying t = some (.slice e)) (he : P.underlying e = some (.int .u8)) (ce : P.cellsOf e = 1)
    (h : DataW.trod enc P W 0 spare held fuel t cs = some x) : ∃ v l, cs = [v] ∧ RdB (fun b => b < W.heap.size) W v l := by
  rcases Go.Deep.open_slice ht h with ⟨hcs, _⟩ | ⟨a, len', cap', m, n, D, Pl, hcs, _⟩
  · subst hcs; obtain ⟨l, hl⟩ := trod_bytes ht he ce h; exact ⟨_, l, rfl, hl⟩
  · subst hcs; obtain ⟨l, hl⟩ := trod_bytes ht he ce h; exact ⟨_, l, rfl, hl⟩
theorem take_parts3 {cs : List Value} {a b d : Value} {s : List Value} (h0 : cs.take 1 = [a]) (h1 : (cs.drop 1).take 1 = [b]) (h2 : (cs.drop 2).take 1 = [d]) (h3 : cs.drop 3 = s) : cs = [a, b, d] ++ s := by
  have h5 : cs.take 3 = [a, b, d] := by
    rw [show (3 : Nat) = 1 + (1 + 1) from rfl, List.take_add, h0, List.take_add, h1, List.drop_drop, h2]; rfl
  rw [← h5, ← h3, List.take_append_drop]
theorem open_way7 {t ti q e ts : TypeId} {fs : Array Field} (ht : P.underlying t = some (.struct fs)) (hi : P.underlying ti = some (.int .i64)) (hq : P.underlying q = some (.array 32 e)) (he : P.underlying e = some (.int .u8)) (hs : P.underlying ts = some (.slice q)) (ct : P.cellsOf t = 35) (ci : P.cellsOf ti = 1) (ce : P.cellsOf e = 1) (cq : P.cellsOf q = 32) (cs_ : P.cellsOf ts = 1)
    (hf : fs.toList.map (fun f => (f.type, f.offset)) = [(ti, 0), (ti, 1), (ts, 2), (q, 3)]) {r : Reach} {b0 : Nat} {v : Value} {d : DataW H} {p : List MemPlace}
    (h0 : DataW.Trod enc P W 0 spare held t v d p) (hv : Value.okWide P W r b0 t v) :
    ∃ (a n : Int) (pv : Value) (x : Sc.Id) (path : List Sc.Id), v = .agg ([Value.int .i64 a, Value.int .i64 n, pv] ++ x.l.map bv).toArray ∧ RdI (fun b => b < W.heap.size) W pv path := by
  unfold Value.okWide at hv
  rw [ht] at hv
  obtain ⟨cs, rfl, _, _⟩ := hv
  obtain ⟨fuel, hfu⟩ := h0
  obtain ⟨xs, m, _, _, hl, hxl, hx⟩ := DataW.trod_struct ht hfu
  rw [ct] at hl
  simp only [Value.cells] at hl hx
  have hfs : ∀ i ti' o, [(ti, 0), (ti, 1), (ts, 2), (q, 3)][i]? = some (ti', o) → ∃ y, DataW.trod enc P W 0 spare held m ti' ((cs.toList.drop o).take (P.cellsOf ti')) = some y := fun i ti' o h => by
    rw [← hf, List.getElem?_map] at h
    cases hq' : fs.toList[i]? with
    | none => rw [hq'] at h; cases h
    | some f =>
      rw [hq'] at h
      have h2 := hx i f (by simpa using hq')
      simp only [Option.map_some, Option.some.injEq, Prod.mk.injEq] at h
      rw [h.1, h.2] at h2
      have hil : i < xs.length := by rw [hxl]; exact (by have := (List.getElem?_eq_some_iff.1 hq').1; simpa using this)
      rw [List.getElem?_eq_getElem hil] at h2
      exact ⟨_, h2⟩
  obtain ⟨y0, g0⟩ := hfs 0 ti 0 rfl
  obtain ⟨y1, g1⟩ := hfs 1 ti 1 rfl
  obtain ⟨y2, g2⟩ := hfs 2 ts 2 rfl
  obtain ⟨y3, g3⟩ := hfs 3 q 3 rfl
  rw [ci] at g0 g1
  rw [cs_] at g2
  rw [cq] at g3
  obtain ⟨a, ha, _, _⟩ := DataW.trod_int hi g0
  obtain ⟨n, hn, _, _⟩ := DataW.trod_int hi g1
  obtain ⟨pv, path, hpv, hR⟩ := trod_ids hs hq he ce cq g2
  obtain ⟨x, hx'⟩ := trod_id hq he ce cq g3
  refine ⟨a, n, pv, x, path, ?_, hR⟩
  have h3 : cs.toList.drop 3 = x.l.map bv := by rw [← hx', List.take_of_length_le (by rw [List.length_drop]; omega)]
  have := take_parts3 (by simpa using ha) hn hpv h3
  rw [← this]
theorem open_shown7 {t ti q e ts tb : TypeId} {fs : Array Field} (ht : P.underlying t = some (.struct fs)) (hi : P.underlying ti = some (.int .i64)) (hq : P.underlying q = some (.array 32 e)) (he : P.underlying e = some (.int .u8)) (hs : P.underlying ts = some (.slice q)) (hb : P.underlying tb = some (.slice e)) (ct : P.cellsOf t = 3) (ci : P.cellsOf ti = 1) (ce : P.cellsOf e = 1) (cq : P.cellsOf q = 32) (cs_ : P.cellsOf ts = 1) (cb : P.cellsOf tb = 1)
    (hf : fs.toList.map (fun f => (f.type, f.offset)) = [(ti, 0), (tb, 1), (ts, 2)]) {r : Reach} {b0 : Nat} {v : Value} {d : DataW H} {p : List MemPlace}
    (h0 : DataW.Trod enc P W 0 spare held t v d p) (hv : Value.okWide P W r b0 t v) :
    ∃ (a : Int) (ev pv : Value) (l : List UInt8) (path : List Sc.Id), v = .agg #[Value.int .i64 a, ev, pv] ∧ RdB (fun b => b < W.heap.size) W ev l ∧ RdI (fun b => b < W.heap.size) W pv path := by
  unfold Value.okWide at hv
  rw [ht] at hv
  obtain ⟨cs, rfl, _, _⟩ := hv
  obtain ⟨fuel, hfu⟩ := h0
  obtain ⟨xs, m, _, _, hl, hxl, hx⟩ := DataW.trod_struct ht hfu
  rw [ct] at hl
  simp only [Value.cells] at hl hx
  have hfs : ∀ i ti' o, [(ti, 0), (tb, 1), (ts, 2)][i]? = some (ti', o) → ∃ y, DataW.trod enc P W 0 spare held m ti' ((cs.toList.drop o).take (P.cellsOf ti')) = some y := fun i ti' o h => by
    rw [← hf, List.getElem?_map] at h
    cases hq' : fs.toList[i]? with
    | none => rw [hq'] at h; cases h
    | some f =>
      rw [hq'] at h
      have h2 := hx i f (by simpa using hq')
      simp only [Option.map_some, Option.some.injEq, Prod.mk.injEq] at h
      rw [h.1, h.2] at h2
      have hil : i < xs.length := by rw [hxl]; exact (by have := (List.getElem?_eq_some_iff.1 hq').1; simpa using this)
      rw [List.getElem?_eq_getElem hil] at h2
      exact ⟨_, h2⟩
  obtain ⟨y0, g0⟩ := hfs 0 ti 0 rfl
  obtain ⟨y1, g1⟩ := hfs 1 tb 1 rfl
  obtain ⟨y2, g2⟩ := hfs 2 ts 2 rfl
  rw [ci] at g0
  rw [cb] at g1
  rw [cs_] at g2
  obtain ⟨a, ha, _, _⟩ := DataW.trod_int hi g0
  obtain ⟨ev, l, hev, hL⟩ := trod_bytes_one hb he ce g1
  obtain ⟨pv, path, hpv, hR⟩ := trod_ids hs hq he ce cq g2
  refine ⟨a, ev, pv, l, path, ?_, hL, hR⟩
  have h3 : cs.toList.drop 3 = [] := List.drop_of_length_le (by omega)
  have := take_parts3 (by simpa using ha) hev hpv h3
  apply congrArg Value.agg
  apply Array.ext'
  rw [this]; rfl
end
end Go.Proofs.Ytajgklomcapboaa
namespace Go.Proofs.Ytajgklomcapboaa
open Go.ChangeShapes Go.WideShapes Go.ChangeAt Go.RowKit

set_option maxRecDepth 100000 in
theorem shortLeads_lifted (os : Os) (started : os.Started) (H : Type) (enc : TypeId × Value → H) :
    ReturnsInHanded {} Try.checked os 5 .any (Rows.shortLeadsSpec.pre6 enc Try.prog Try.f5 Rows.shortLeadsRow.domain false) (Rows.shortLeadsSpec.post enc Try.prog Try.f5 false true false false) := by
  refine returnsInHanded_of_change (C := Try.checked) ownk started (by kernel_rfl) Try.func5
    (ChangeSpec.witness6 (enc := enc) (C := Try.checked) false ⟨#[], #[.int .i64 0, .slice none 0 0, .agg (#[.int .i64 0, .int .i64 0, .slice none 0 0] ++ Array.replicate 32 (.int .u8 0))], []⟩ 8 (by kernel_rfl) (by kernel_rfl) (by kernel_rfl) (by kernel_rfl)) ?_
  intro W base args ds gs before hval0 hW _ _
  have hW' := hW
  have hval : ∀ (j : Nat) t v, Try.f5.params[j]? = some t → args[j]? = some v → Value.okWide Try.prog W .any base t v := hval0
  have hlt : ∀ x ∈ before, x.block < W.heap.size := fun x hx => by simpa using hW'.lt x hx
  obtain ⟨p, q, hA, hV, rfl, hfz, hnd⟩ := hW
  rw [Try.params5] at hA hval
  obtain ⟨v0, vs0, d0, ds0, p0, q0, hargs, rfl, rfl, h0, r0⟩ := trodAll_cons hA
  obtain ⟨v1, vs1, d1, ds1, p1, q1, rfl, rfl, rfl, h1, r1⟩ := trodAll_cons r0
  obtain ⟨v2, vs2, d2, ds2, p2, q2, rfl, rfl, rfl, h2, r2⟩ := trodAll_cons r1
  obtain ⟨rfl, rfl, rfl⟩ := trodAll_nil r2
  obtain rfl : args = #[v0, v1, v2] := by cases args; simp_all
  obtain ⟨rfl, rfl⟩ := trodVars_none hV
  obtain ⟨a0, rfl, rfl, rfl, w0⟩ := open_int Try.underlying3 (hval 0 3 v0 rfl rfl) h0
  obtain ⟨l1, b1⟩ := open_bytes Try.underlying27 Try.underlying5 (by kernel_rfl) h1 (okWide_slice Try.underlying27 (hval 1 27 v1 rfl rfl)) (fun x hx => hlt x (by simp [hx]))
  obtain ⟨a2, n2, pv2, x2, p2, rfl, b2⟩ := open_way7 Try.underlying43 Try.underlying3 Try.underlying34 Try.underlying5 Try.underlying41 (by kernel_rfl) (by kernel_rfl) (by kernel_rfl) (by kernel_rfl) (by kernel_rfl) (by kernel_rfl) h2 (hval 2 43 v2 rfl rfl)
  refine (leads7_walk a0 a2 n2 v1 l1 _ _ pv2 p2 x2 _ b1 (fun _ h => h) b2 (fun _ h => h)).mono fun e W' ⟨he, hg⟩ => ?_
  subst he
  exact ⟨_, rfl, post_true hW' rfl rfl rfl (by decide +kernel) rfl hg⟩

theorem shortLeads : Rows.ShortLeadsSaid :=
  OpenClaim.holds_of_wide 5 Try.f5 rfl rfl rfl rfl rfl rfl rfl ⟨rfl, rfl, rfl, rfl, rfl⟩ rfl rfl rfl rfl rfl (by kernel_rfl) Try.func5 (by kernel_rfl)
    (of_decide_eq_true (by kernel_rfl)) (by unfold Func.isWrapper; first | (rw [if_pos (by decide +kernel)]; kernel_rfl) | (rw [if_neg (by decide +kernel)]; exact ⟨rfl, rfl⟩))
    (fun os started H enc _ => shortLeads_lifted os started H enc)
end Go.Proofs.Ytajgklomcapboaa
