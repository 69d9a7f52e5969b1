/- short: Way. -/
import Derived.Test.YtajgklomcapboaaOwBB
import Derived.Test.YtajgklomcapboaaSpecs
import Derived.Test.YtajgklomcapboaaCuts
import Derived.Test.YtajgklomcapboaaRefTree
import Derived.Test.YtajgklomcapboaaGuard
import Derived.Laws.ResultCell
import Derived.Test.YtajgklomcapboaaSpecsS
import Derived.Test.YtajgklomcapboaaInc
/- An own list of bytes' slices, some of them made on the way. -/
namespace Sc
open Go Go.RowKit
def OwX (B : Nat) (w : World) (v : Value) (ls : List (List UInt8)) : Prop :=
  ∃ vs : List Value, Ow B w 1 v ls.length vs ∧ ∀ (j : Nat) (l : List UInt8), ls[j]? = some l → ∃ u, vs[j]? = some u ∧ RdB (fun b => b < w.heap.size ∧ v.ownBlock ≠ some b) w u l
section
variable {B : Nat} {w w' : World} {v v' : Value} {ls ms : List (List UInt8)}
theorem OwX.gr (h : OwX B w v ls) (hg : w.grownBy w' none) : OwX B w' v ls := by
  obtain ⟨vs, h1, h2⟩ := h
  refine ⟨vs, h1.grown hg (fun _ _ => by simp), fun j l hl => ?_⟩
  obtain ⟨u, hu, hb⟩ := h2 j l hl
  exact ⟨u, hu, Rd.mono (Rd.grown hb hg (by simp)) fun b hb => ⟨Nat.lt_of_lt_of_le hb.1 hg.size, hb.2⟩⟩
theorem OwX.rd (h : OwX B w v ls) : RdBB (fun b => b < w.heap.size) w v ls := by
  obtain ⟨vs, h1, h2⟩ := h
  refine ⟨vs, h1.rd (fun b hb => (h1.lt hb).2), fun j l hl => ?_⟩
  obtain ⟨u, hu, hb⟩ := h2 j l hl
  exact ⟨u, hu, Rd.mono hb fun b hb => hb.1⟩
/-- Behind an append: vs, us are the cells of before, and those that came. -/
theorem OwX.snocs {vs us : List Value} {n : Nat} (hl : vs.length = ls.length) (hn : n = ls.length + ms.length)
    (h : ∀ (j : Nat) (l : List UInt8), ls[j]? = some l → ∃ u, vs[j]? = some u ∧ RdB (fun b => b < w.heap.size ∧ v.ownBlock ≠ some b) w u l)
    (hu : ∀ (j : Nat) (l : List UInt8), ms[j]? = some l → ∃ u, us[j]? = some u ∧ RdB (fun b => b < w.heap.size ∧ v.ownBlock ≠ some b) w u l)
    (ho : Ow B w' 1 v' n (vs ++ us)) (hg : w.grownBy w' v.ownBlock) (hb : v'.ownBlock = v.ownBlock ∨ v'.ownBlock = some w.heap.size) : OwX B w' v' (ls ++ ms) := by
  have key : ∀ u l, RdB (fun b => b < w.heap.size ∧ v.ownBlock ≠ some b) w u l → RdB (fun b => b < w'.heap.size ∧ v'.ownBlock ≠ some b) w' u l := fun u l hr =>
    Rd.mono (Rd.grown hr hg (fun r hr h => h.2 hr)) fun b h => ⟨Nat.lt_of_lt_of_le h.1 hg.size, by
      rcases hb with e | e
      · rw [e]; exact h.2
      · rw [e]; intro e2; have := Option.some.inj e2; have := h.1; omega⟩
  refine ⟨vs ++ us, by rw [List.length_append, ← hn]; exact ho, fun j l hj => ?_⟩
  rw [List.getElem?_append] at hj
  split at hj
  · rename_i hlt
    obtain ⟨u, hu', hr⟩ := h j l hj
    exact ⟨u, by rw [List.getElem?_append_left (by omega)]; exact hu', key u l hr⟩
  · rename_i hge
    obtain ⟨u, hu', hr⟩ := hu (j - ls.length) l hj
    exact ⟨u, by rw [List.getElem?_append_right (by omega), hl]; exact hu', key u l hr⟩
end
def be4 (n : Nat) : List UInt8 := [UInt8.ofNat (n / 16777216), UInt8.ofNat (n / 65536), UInt8.ofNat (n / 256), UInt8.ofNat n]
theorem be4_cells (n : Nat) : ((be4 n).map bv).toArray = #[.int .u8 ((n : Int) / 16777216 % 256), .int .u8 ((n : Int) / 65536 % 256), .int .u8 ((n : Int) / 256 % 256), .int .u8 ((n : Int) % 256)] := by
  have h : ∀ m : Nat, bv (UInt8.ofNat m) = .int .u8 ((m : Int) % 256) := fun m => by unfold bv; rw [UInt8.toNat_ofNat']; rfl
  simp only [be4, List.map_cons, List.map_nil, h]
  rfl
/-- What is summed of parts. -/
def forParts (ls : List (List UInt8)) : List (List UInt8) := ls.flatMap fun l => [be4 l.length, l]
def forText (p : List UInt8) (ls : List (List UInt8)) : List UInt8 := p ++ [0] ++ (forParts ls).flatten
theorem forParts_snoc (ls : List (List UInt8)) (l : List UInt8) : forParts (ls ++ [l]) = forParts ls ++ [be4 l.length, l] := by simp [forParts]
theorem forParts_length (ls : List (List UInt8)) : (forParts ls).length = 2 * ls.length := by
  induction ls with
  | nil => rfl
  | cons l ls ih => simp only [forParts, List.flatMap_cons, List.length_append, List.length_cons, List.length_nil] at ih ⊢; omega
theorem forParts_each (ls : List (List UInt8)) (l : List UInt8) (h : l ∈ ls) : l.length ≤ (forParts ls).flatten.length := by
  induction ls with
  | nil => cases h
  | cons x ls ih =>
    simp only [forParts, List.flatMap_cons, List.flatten_append, List.flatten_cons, List.flatten_nil, List.append_nil, List.length_append] at ih ⊢
    rcases List.mem_cons.1 h with rfl | h
    · omega
    · have := ih h; omega
theorem forText_each (p : List UInt8) (ls : List (List UInt8)) (l : List UInt8) (h : l ∈ ls) : l.length ≤ (forText p ls).length := by
  have := forParts_each ls l h
  simp only [forText, List.length_append]; omega
theorem forText_eq (p : List UInt8) (ls : List (List UInt8)) : ([p, [0]] ++ forParts ls).flatten = forText p ls := by simp [forText]
end Sc
/- As XSpecs, where some operations make a new block each: their pointers differ. -/
namespace Sc
open Go Go.RowKit
section
variable {P : Program} {ops : Array Oper}
/-- The look at the region, of the edges that bind alone. -/
def specBP (ops : Array Oper) (n : Nat) (ds : List Nat) (size : Nat) : Bool :=
  decide (n < ops.size) && Region.sinkB .any ops n && Region.chainB .any ops n && Region.seqB .any ops (ops.size - n) n ((List.range ops.size).map fun i => decide (i < n)).toArray &&
  ((List.range n).all fun i => match ops[i]? with
    | some o => (o.dst == some (ds.getD i 0)) && decide (ds.getD i 0 < size) && (o.after.all fun e => !Region.binds .any e || decide (e.on < i)) && ((List.range n).all fun j => decide (i = j) || (ds.getD i 0 != ds.getD j 0))
    | none => false) && decide (ds.length = n)
/-- What an operation of the head leaves; one of D: a pointer to a new block. -/
def SpecPostP (R : World → World → Prop) (φ : Value → World → Prop) (D : Bool) (d : Nat) (a : Act) (w : World) : Exit → Act → World → Prop
  | .normal, a', w' => a' = a.put (some d) (a'.tmps.getD d undef) ∧ R w w' ∧ φ (a'.tmps.getD d undef) w' ∧ (D = true → a'.tmps.getD d undef = .pointer (some ⟨w.heap.size, 0, none⟩))
  | _, _, _ => False
structure SpecInvP (R : World → World → Prop) (D : Nat → Bool) (a : Act) (w : World) (ds : List Nat) (n : Nat) (φ : Nat → Value → World → Prop) (listed : Array Bool) (a' : Act) (w' : World) : Prop where
  size : a'.tmps.size = a.tmps.size
  defers : a'.defers = a.defers
  same : ∀ t, t ∉ ds → a'.tmps[t]? = a.tmps[t]?
  grown : R w w'
  holds : ∀ i, i < n → listed.getD i false = true → φ i (a'.tmps.getD (ds.getD i 0) undef) w'
  pair : ∀ i j, i < n → j < n → i ≠ j → D i = true → D j = true → listed.getD i false = true → listed.getD j false = true → a'.tmps.getD (ds.getD i 0) undef ≠ a'.tmps.getD (ds.getD j 0) undef
theorem SpecInvP.fill {R : World → World → Prop} {D : Nat → Bool} {a : Act} {w : World} {ds : List Nat} {n : Nat} {φ : Nat → Value → World → Prop} {listed : Array Bool} {a' : Act} {w' : World} (h : SpecInvP R D a w ds n φ listed a' w') :
    a' = fillAct a ds (fun t => a'.tmps.getD t undef) :=
  SpecInv.fill (R := R) (φ := fun _ _ _ => True) (n := n) (listed := listed) ⟨h.size, h.defers, h.same, h.grown, fun _ _ _ => trivial⟩
theorem specPostP_noexit {R : World → World → Prop} {φ : Value → World → Prop} {D : Bool} {d : Nat} {a : Act} {w : World} : ∀ e a' w', e ≠ .normal → ¬ SpecPostP R φ D d a w e a' w' := by
  intro e a' w' he h
  cases e <;> first | exact he rfl | exact h
theorem spec_anyP {R : World → World → Prop} (hRt : ∀ a b c, R a b → R b c → R a c) {n : Nat} {ds : List Nat} {a0 : Act} {w0 : World} {φ : Nat → Value → World → Prop} {Q : Exit → Act → World → Prop} (hB : specBP ops n ds a0.tmps.size = true) (D : Nat → Bool) (hlt : ∀ i v w, D i = true → φ i v w → ∃ q, v = .pointer (some ⟨q, 0, none⟩) ∧ q < w.heap.size)
    (hφ : ∀ i v w w', φ i v w → R w w' → φ i v w')
    (hstep : ∀ i o, ops[i]? = some o → i < n → ∀ (u : Nat → Value) w', R w0 w' → (∀ j, Region.waitsFor .any ops i j = true → φ j (u (ds.getD j 0)) w') →
      wpOp P ops (SpecPostP R (φ i) (D i) (ds.getD i 0) (fillAct a0 ds u) w') i (SpecPostP R (φ i) (D i) (ds.getD i 0) (fillAct a0 ds u) w' .normal) (fillAct a0 ds u) w')
    (hend : ∀ listed a' w', SpecInvP R D a0 w0 ds n φ listed a' w' → (∀ i, i < n → listed.getD i false = true) → listed = ((List.range ops.size).map fun i => decide (i < n)).toArray → wpAny P .any ops Q (ops.size - n) listed a' w') :
    ∀ (f : Nat) (listed : Array Bool) (a' : Act) (w' : World), HeadInv .any ops n listed → SpecInvP R D a0 w0 ds n φ listed a' w' → ((List.range n).filter fun i => !listed.getD i false).length = f → wpAny P .any ops Q (f + (ops.size - n)) listed a' w' := by
  simp only [specBP, Bool.and_eq_true, decide_eq_true_eq, List.all_eq_true, List.mem_range] at hB
  obtain ⟨⟨⟨⟨⟨hn, hs⟩, hc⟩, hseq⟩, hop⟩, hdl⟩ := hB
  intro f
  induction f with
  | zero =>
    intro listed a' w' inv J hf
    have hall : ∀ i, i < n → listed.getD i false = true := fun i hi => by
      have h := List.eq_nil_of_length_eq_zero hf
      have h2 : i ∉ (List.range n).filter fun i => !listed.getD i false := by rw [h]; simp
      rw [List.mem_filter] at h2
      cases hg : listed.getD i false with
      | true => rfl
      | false => exact absurd ⟨List.mem_range.2 hi, by rw [hg]; rfl⟩ h2
    rw [Nat.zero_add]
    refine hend listed a' w' J hall ?_
    apply Array.ext'
    apply List.ext_getElem
    · simp [inv.size]
    · intro t h1 h2
      have ht : t < listed.size := by simpa using h1
      simp only [Array.getElem_toList, List.getElem_map, List.getElem_range]
      by_cases htn : t < n
      · have := hall t htn
        rw [Array.getD_eq_getD_getElem?, Array.getElem?_eq_getElem ht] at this
        simpa [htn] using this
      · have := inv.tail t (by omega) (by rw [← inv.size]; exact ht)
        rw [Array.getD_eq_getD_getElem?, Array.getElem?_eq_getElem ht] at this
        simpa [htn] using this
  | succ f ih =>
    intro listed a' w' inv J hf
    -- the first that is not yet listed
    have hex : ∃ i, i < n ∧ listed.getD i false = false := by
      have : (List.range n).filter (fun i => !listed.getD i false) ≠ [] := fun h => by rw [h] at hf; cases hf
      obtain ⟨i, hi⟩ := List.exists_mem_of_ne_nil _ this
      rw [List.mem_filter, List.mem_range] at hi
      exact ⟨i, hi.1, by simpa using hi.2⟩
    obtain ⟨i0, hi0, hu0⟩ := hex
    have hinS : ∀ {i}, i < n → i < listed.size := fun hi => by rw [inv.size]; omega
    have hready : Region.ready .any ops listed ≠ [] := by
      -- the least
      have : ∃ i, (i < n ∧ listed.getD i false = false) ∧ ∀ j, j < i → ¬ (j < n ∧ listed.getD j false = false) := by
        clear hf
        induction i0 using Nat.strongRecOn with
        | _ k ihk =>
          by_cases h : ∃ j, j < k ∧ j < n ∧ listed.getD j false = false
          · obtain ⟨j, hj, a, b⟩ := h; exact ihk j hj a b
          · exact ⟨k, ⟨hi0, hu0⟩, fun j hj ⟨a, b⟩ => h ⟨j, hj, a, b⟩⟩
      obtain ⟨i, ⟨hi, hu⟩, hmin⟩ := this
      have ho := hop i hi
      cases hoi : ops[i]? with
      | none => rw [hoi] at ho; cases ho
      | some o =>
        rw [hoi] at ho
        simp only [Bool.and_eq_true, List.all_eq_true, decide_eq_true_eq] at ho
        have : i ∈ Region.ready .any ops listed := mem_ready.2 ⟨getD_in (hinS hi) hu, o, hoi, fun e he hb => by
          have h1 : e.on < i := by have := Array.all_eq_true_iff_forall_mem.1 ho.1.2 e he; simpa [hb] using this
          have := hmin e.on h1
          cases hg : listed.getD e.on false with
          | true => rfl
          | false => exact absurd ⟨by omega, hg⟩ this⟩
        intro h0; rw [h0] at this; cases this
    rw [show f + 1 + (ops.size - n) = (f + (ops.size - n)) + 1 by omega]
    refine ⟨fun h => absurd h hready, fun i hi => ?_⟩
    have hin : i < n := by
      rcases Nat.lt_or_ge i n with h | h
      · exact h
      · exact absurd hi (tail_waits hs hc hn inv _ i0 rfl hi0 (getD_in (hinS hi0) hu0) i h)
    obtain ⟨hiu, o, hoi, hall⟩ := mem_ready.1 hi
    have ho := hop i hin
    rw [hoi] at ho
    simp only [Bool.and_eq_true, List.all_eq_true, decide_eq_true_eq, beq_iff_eq, List.mem_range, Bool.or_eq_true, bne_iff_ne] at ho
    obtain ⟨⟨⟨hdst, hdsz⟩, haft⟩, hdist⟩ := ho
    have hfill := J.fill
    have hdep : ∀ j, Region.waitsFor .any ops i j = true → φ j ((fun t => a'.tmps.getD t undef) (ds.getD j 0)) w' := fun j hj => by
      obtain ⟨o', ho', e, he, hb, hon⟩ := Region.waitsFor_spec hj
      have : o' = o := Option.some.inj (ho'.symm.trans hoi)
      subst this
      have h1 := hall e he hb
      rw [hon] at h1
      have h2 : e.on < i := by have := Array.all_eq_true_iff_forall_mem.1 haft e he; simpa [hb] using this
      rw [hon] at h2
      exact J.holds j (by omega) h1
    have hst := hstep i o hoi hin (fun t => a'.tmps.getD t undef) w' J.grown hdep
    rw [← hfill] at hst
    refine wpOp_noexit specPostP_noexit (wpOp_mono ?_ hst)
    rintro a'' w'' ⟨ha, hg, hp, hnew⟩
    have hmem : ds.getD i 0 ∈ ds := by
      rw [List.getD_eq_getElem?_getD, List.getElem?_eq_getElem (by omega)]; exact List.getElem_mem _
    have hsz : a''.tmps.size = a'.tmps.size := by rw [ha]; simp [Act.put]
    have hother : ∀ t, t ≠ ds.getD i 0 → a''.tmps[t]? = a'.tmps[t]? := fun t ht => by
      rw [ha]; simp only [Act.put]; rw [Array.getElem?_setIfInBounds_ne (Ne.symm ht)]
    refine ih (listed.setIfInBounds i true) a'' w'' (inv.set hi hin) ⟨hsz.trans J.size, by rw [ha]; exact J.defers, fun t ht => (hother t (fun e => ht (e ▸ hmem))).trans (J.same t ht), hRt _ _ _ J.grown hg, fun j hj hl => ?_, ?_⟩ ?_
    · by_cases hji : j = i
      · subst hji; exact hp
      · have hl' : listed.getD j false = true := by rwa [getD_set_ne false (Ne.symm hji)] at hl
        have hne : ds.getD j 0 ≠ ds.getD i 0 := fun e => by
          rcases hdist j hj with h | h
          · exact hji h.symm
          · exact h e.symm
        have := hφ j _ w' w'' (J.holds j hj hl') hg
        rw [Array.getD_eq_getD_getElem?, hother _ hne, ← Array.getD_eq_getD_getElem?]
        exact this
    · have old : ∀ j, j < n → j ≠ i → a''.tmps.getD (ds.getD j 0) undef = a'.tmps.getD (ds.getD j 0) undef := fun j hj hji => by
        have hne : ds.getD j 0 ≠ ds.getD i 0 := fun e => by
          rcases hdist j hj with h | h
          · exact hji h.symm
          · exact h e.symm
        rw [Array.getD_eq_getD_getElem?, hother _ hne, ← Array.getD_eq_getD_getElem?]
      have far : ∀ j, j < n → j ≠ i → D i = true → D j = true → listed.getD j false = true → a''.tmps.getD (ds.getD i 0) undef ≠ a'.tmps.getD (ds.getD j 0) undef := fun j hj hji hDi hDj hl e => by
        obtain ⟨q, hq, hql⟩ := hlt j _ w' hDj (J.holds j hj hl)
        rw [hnew hDi, hq] at e
        injection e with e
        have e2 := congrArg Addr.block (Option.some.inj e)
        dsimp only at e2
        omega
      intro j k hj hk hjk hDj hDk hlj hlk
      by_cases hji : j = i
      · subst hji
        rw [getD_set_ne false hjk] at hlk
        rw [old k hk (Ne.symm hjk)]
        exact far k hk (Ne.symm hjk) hDj hDk hlk
      · rw [getD_set_ne false (Ne.symm hji)] at hlj
        rw [old j hj hji]
        by_cases hki : k = i
        · subst hki
          exact (far j hj hji hDk hDj hlj).symm
        · rw [getD_set_ne false (Ne.symm hki)] at hlk
          rw [old k hk hki]
          exact J.pair j k hj hk hjk hDj hDk hlj hlk
    · have e : ((List.range n).filter fun k => !(listed.setIfInBounds i true).getD k false) = ((List.range n).filter fun k => !listed.getD k false).filter fun k => k != i := by
        rw [List.filter_filter]
        apply List.filter_congr
        intro k hk
        by_cases hki : k = i
        · subst hki
          have : (listed.setIfInBounds k true).getD k false = true := by
            rw [Array.getD_eq_getD_getElem?, Array.getElem?_setIfInBounds_self_of_lt (hinS hin)]; rfl
          rw [this]; simp
        · rw [getD_set_ne false (fun e => hki e.symm)]; simp [hki]
      rw [e]
      have hnd : ((List.range n).filter fun k => !listed.getD k false).Nodup := (List.filter_sublist).nodup List.nodup_range
      have hmi : i ∈ (List.range n).filter fun k => !listed.getD k false := by
        rw [List.mem_filter, List.mem_range]; exact ⟨hin, by rw [getD_both hiu]; rfl⟩
      rw [← hnd.erase_eq_filter, List.length_erase_of_mem hmi, hf]; rfl

/-- **A REGION THAT DRAWS, BY A WORD FOR EACH OPERATION.** -/
theorem wp_region_specsP {R : World → World → Prop} (hRt : ∀ a b c, R a b → R b c → R a c) {id : Nat} {Q : Exit → Act → World → Prop} {a : Act} {w : World} {l : List Oper} (n : Nat) (ds : List Nat) (hm : P.follows .mixedOrders = true) (hR0 : R w { w with drawn := w.drawn + 1 }) (hB : specBP l.toArray n ds a.tmps.size = true) (D : Nat → Bool)
    (φ : Nat → Value → World → Prop) (hlt : ∀ i v w, D i = true → φ i v w → ∃ q, v = .pointer (some ⟨q, 0, none⟩) ∧ q < w.heap.size) (hφ : ∀ i v w w', φ i v w → R w w' → φ i v w')
    (hstep : ∀ i o, l[i]? = some o → i < n → ∀ (u : Nat → Value) w', R w w' → (∀ j, Region.waitsFor .any l.toArray i j = true → φ j (u (ds.getD j 0)) w') →
      wpList P l.toArray (SpecPostP R (φ i) (D i) (ds.getD i 0) (fillAct a ds u) w') [o] (fillAct a ds u) w')
    (hend : ∀ (u : Nat → Value) w', R w w' → (∀ i, i < n → φ i (u (ds.getD i 0)) w') → (∀ i j, i < n → j < n → i ≠ j → D i = true → D j = true → u (ds.getD i 0) ≠ u (ds.getD j 0)) → wpList P l.toArray Q (l.drop n) (fillAct a ds u) w') : (Code.region id l.toArray true).wp P Q a w := by
  have hB' := hB
  simp only [specBP, Bool.and_eq_true, decide_eq_true_eq] at hB
  obtain ⟨⟨⟨⟨⟨hn, hs⟩, hc⟩, hseq⟩, hop⟩, hdl⟩ := hB
  have hdn : (l.drop n).length = l.toArray.size - n := by simp
  refine wp_region_any hm ?_
  have inv0 : HeadInv .any l.toArray n (Array.replicate l.toArray.size false) :=
    ⟨by simp, fun j oj _ hl => (by rw [getD_replicate_false] at hl; cases hl), fun t _ ht => getD_in (by simpa using ht) (getD_replicate_false _ _)⟩
  have J0 : SpecInvP R D a w ds n φ (Array.replicate l.toArray.size false) a { w with drawn := w.drawn + 1 } :=
    ⟨rfl, rfl, fun _ _ => rfl, hR0, fun i _ h => (by rw [getD_replicate_false] at h; cases h), fun i _ _ _ _ _ _ h => (by rw [getD_replicate_false] at h; cases h)⟩
  have hlen : ((List.range n).filter fun i => !(Array.replicate l.toArray.size false).getD i false).length = n := by
    rw [List.filter_eq_self.2 (fun i _ => by rw [getD_replicate_false]; rfl), List.length_range]
  have := spec_anyP hRt (P := P) (Q := Q) hB' D hlt hφ (fun i o ho hi u w' hg hd => by
    have h := hstep i o (by simpa using ho) hi u w' hg hd
    unfold wpOp
    simp only [ho]
    exact h) (fun listed a' w' J hall hl => by
      have h := hend (fun t => a'.tmps.getD t undef) w' J.grown (fun i hi => J.holds i hi (hall i hi)) (fun i j hi hj hij hDi hDj => J.pair i j hi hj hij hDi hDj (hall i hi) (hall j hj))
      rw [← J.fill] at h
      have := wpAny_of_seq (P := P) (md := .any) (ops := l.toArray) (Q' := Q) (l.drop n) n listed a' w' (fun j => by simp [List.getElem?_drop]) (by rw [hdn, hl]; exact hseq) h
      rwa [hdn] at this) n _ a _ inv0 J0 hlen
  rwa [show n + (l.toArray.size - n) = l.toArray.size by omega] at this
end
end Sc
/- As XSpecsP, with stores among the drawn operations, and a relation of its own for each. -/
namespace Sc
open Go Go.RowKit
section
variable {P : Program} {ops : Array Oper}
/-- The look at the region, of the edges that bind alone. -/
def specBQ (ops : Array Oper) (n : Nat) (ds : List Nat) (S : Nat → Bool) (size : Nat) : Bool :=
  decide (n < ops.size) && Region.sinkB .any ops n && Region.chainB .any ops n && Region.seqB .any ops (ops.size - n) n ((List.range ops.size).map fun i => decide (i < n)).toArray &&
  ((List.range n).all fun i => match ops[i]? with
    | some o => (if S i then o.dst == none else o.dst == some (ds.getD i 0)) && decide (ds.getD i 0 < size) && (o.after.all fun e => !Region.binds .any e || decide (e.on < i)) && ((List.range n).all fun j => decide (i = j) || (ds.getD i 0 != ds.getD j 0) || S i || Region.waitsFor .any ops j i)
    | none => false) && decide (ds.length = n)
/-- What an operation of the head leaves; one of D: a pointer to a new block. -/
def SpecPostQ (R : World → World → Prop) (φ : Value → World → Prop) (D S : Bool) (d : Nat) (a : Act) (w : World) : Exit → Act → World → Prop
  | .normal, a', w' => (if S then a' = a else a' = a.put (some d) (a'.tmps.getD d undef)) ∧ R w w' ∧ φ (a'.tmps.getD d undef) w' ∧ (D = true → a'.tmps.getD d undef = .pointer (some ⟨w.heap.size, 0, none⟩))
  | _, _, _ => False
structure SpecInvQ (R : World → World → Prop) (D : Nat → Bool) (a : Act) (w : World) (ds : List Nat) (n : Nat) (φ : Nat → Value → World → Prop) (listed : Array Bool) (a' : Act) (w' : World) : Prop where
  size : a'.tmps.size = a.tmps.size
  defers : a'.defers = a.defers
  same : ∀ t, t ∉ ds → a'.tmps[t]? = a.tmps[t]?
  grown : R w w'
  holds : ∀ i, i < n → listed.getD i false = true → φ i (a'.tmps.getD (ds.getD i 0) undef) w'
  pair : ∀ i j, i < n → j < n → i ≠ j → D i = true → D j = true → listed.getD i false = true → listed.getD j false = true → a'.tmps.getD (ds.getD i 0) undef ≠ a'.tmps.getD (ds.getD j 0) undef
theorem SpecInvQ.fill {R : World → World → Prop} {D : Nat → Bool} {a : Act} {w : World} {ds : List Nat} {n : Nat} {φ : Nat → Value → World → Prop} {listed : Array Bool} {a' : Act} {w' : World} (h : SpecInvQ R D a w ds n φ listed a' w') :
    a' = fillAct a ds (fun t => a'.tmps.getD t undef) :=
  SpecInv.fill (R := R) (φ := fun _ _ _ => True) (n := n) (listed := listed) ⟨h.size, h.defers, h.same, h.grown, fun _ _ _ => trivial⟩
theorem specPostQ_noexit {R : World → World → Prop} {φ : Value → World → Prop} {D S : Bool} {d : Nat} {a : Act} {w : World} : ∀ e a' w', e ≠ .normal → ¬ SpecPostQ R φ D S d a w e a' w' := by
  intro e a' w' he h
  cases e <;> first | exact he rfl | exact h
theorem spec_anyQ {Ra : World → World → Prop} {R : Nat → World → World → Prop} (hRt : ∀ a b c, Ra a b → Ra b c → Ra a c) (hRi : ∀ i a b, R i a b → Ra a b) {n : Nat} {ds : List Nat} {a0 : Act} {w0 : World} {φ : Nat → Value → World → Prop} {Q : Exit → Act → World → Prop} {S : Nat → Bool} (hB : specBQ ops n ds S a0.tmps.size = true) (D : Nat → Bool) (hlt : ∀ i v w, D i = true → φ i v w → ∃ q, v = .pointer (some ⟨q, 0, none⟩) ∧ q < w.heap.size)
    (hφ : ∀ j i v w w', j ≠ i → φ j v w → R i w w' → φ j v w')
    (hstep : ∀ i o, ops[i]? = some o → i < n → ∀ (u : Nat → Value) w', Ra w0 w' → (∀ j, Region.waitsFor .any ops i j = true → φ j (u (ds.getD j 0)) w') →
      wpOp P ops (SpecPostQ (R i) (φ i) (D i) (S i) (ds.getD i 0) (fillAct a0 ds u) w') i (SpecPostQ (R i) (φ i) (D i) (S i) (ds.getD i 0) (fillAct a0 ds u) w' .normal) (fillAct a0 ds u) w')
    (hend : ∀ listed a' w', SpecInvQ Ra D a0 w0 ds n φ listed a' w' → (∀ i, i < n → listed.getD i false = true) → listed = ((List.range ops.size).map fun i => decide (i < n)).toArray → wpAny P .any ops Q (ops.size - n) listed a' w') :
    ∀ (f : Nat) (listed : Array Bool) (a' : Act) (w' : World), HeadInv .any ops n listed → SpecInvQ Ra D a0 w0 ds n φ listed a' w' → ((List.range n).filter fun i => !listed.getD i false).length = f → wpAny P .any ops Q (f + (ops.size - n)) listed a' w' := by
  simp only [specBQ, Bool.and_eq_true, decide_eq_true_eq, List.all_eq_true, List.mem_range] at hB
  obtain ⟨⟨⟨⟨⟨hn, hs⟩, hc⟩, hseq⟩, hop⟩, hdl⟩ := hB
  intro f
  induction f with
  | zero =>
    intro listed a' w' inv J hf
    have hall : ∀ i, i < n → listed.getD i false = true := fun i hi => by
      have h := List.eq_nil_of_length_eq_zero hf
      have h2 : i ∉ (List.range n).filter fun i => !listed.getD i false := by rw [h]; simp
      rw [List.mem_filter] at h2
      cases hg : listed.getD i false with
      | true => rfl
      | false => exact absurd ⟨List.mem_range.2 hi, by rw [hg]; rfl⟩ h2
    rw [Nat.zero_add]
    refine hend listed a' w' J hall ?_
    apply Array.ext'
    apply List.ext_getElem
    · simp [inv.size]
    · intro t h1 h2
      have ht : t < listed.size := by simpa using h1
      simp only [Array.getElem_toList, List.getElem_map, List.getElem_range]
      by_cases htn : t < n
      · have := hall t htn
        rw [Array.getD_eq_getD_getElem?, Array.getElem?_eq_getElem ht] at this
        simpa [htn] using this
      · have := inv.tail t (by omega) (by rw [← inv.size]; exact ht)
        rw [Array.getD_eq_getD_getElem?, Array.getElem?_eq_getElem ht] at this
        simpa [htn] using this
  | succ f ih =>
    intro listed a' w' inv J hf
    -- the first that is not yet listed
    have hex : ∃ i, i < n ∧ listed.getD i false = false := by
      have : (List.range n).filter (fun i => !listed.getD i false) ≠ [] := fun h => by rw [h] at hf; cases hf
      obtain ⟨i, hi⟩ := List.exists_mem_of_ne_nil _ this
      rw [List.mem_filter, List.mem_range] at hi
      exact ⟨i, hi.1, by simpa using hi.2⟩
    obtain ⟨i0, hi0, hu0⟩ := hex
    have hinS : ∀ {i}, i < n → i < listed.size := fun hi => by rw [inv.size]; omega
    have hready : Region.ready .any ops listed ≠ [] := by
      -- the least
      have : ∃ i, (i < n ∧ listed.getD i false = false) ∧ ∀ j, j < i → ¬ (j < n ∧ listed.getD j false = false) := by
        clear hf
        induction i0 using Nat.strongRecOn with
        | _ k ihk =>
          by_cases h : ∃ j, j < k ∧ j < n ∧ listed.getD j false = false
          · obtain ⟨j, hj, a, b⟩ := h; exact ihk j hj a b
          · exact ⟨k, ⟨hi0, hu0⟩, fun j hj ⟨a, b⟩ => h ⟨j, hj, a, b⟩⟩
      obtain ⟨i, ⟨hi, hu⟩, hmin⟩ := this
      have ho := hop i hi
      cases hoi : ops[i]? with
      | none => rw [hoi] at ho; cases ho
      | some o =>
        rw [hoi] at ho
        simp only [Bool.and_eq_true, List.all_eq_true, decide_eq_true_eq] at ho
        have : i ∈ Region.ready .any ops listed := mem_ready.2 ⟨getD_in (hinS hi) hu, o, hoi, fun e he hb => by
          have h1 : e.on < i := by have := Array.all_eq_true_iff_forall_mem.1 ho.1.2 e he; simpa [hb] using this
          have := hmin e.on h1
          cases hg : listed.getD e.on false with
          | true => rfl
          | false => exact absurd ⟨by omega, hg⟩ this⟩
        intro h0; rw [h0] at this; cases this
    rw [show f + 1 + (ops.size - n) = (f + (ops.size - n)) + 1 by omega]
    refine ⟨fun h => absurd h hready, fun i hi => ?_⟩
    have hin : i < n := by
      rcases Nat.lt_or_ge i n with h | h
      · exact h
      · exact absurd hi (tail_waits hs hc hn inv _ i0 rfl hi0 (getD_in (hinS hi0) hu0) i h)
    obtain ⟨hiu, o, hoi, hall⟩ := mem_ready.1 hi
    have ho := hop i hin
    rw [hoi] at ho
    simp only [Bool.and_eq_true, List.all_eq_true, decide_eq_true_eq, List.mem_range, Bool.or_eq_true, bne_iff_ne] at ho
    obtain ⟨⟨⟨hdst, hdsz⟩, haft⟩, hdist⟩ := ho
    have hfill := J.fill
    have hdep : ∀ j, Region.waitsFor .any ops i j = true → φ j ((fun t => a'.tmps.getD t undef) (ds.getD j 0)) w' := fun j hj => by
      obtain ⟨o', ho', e, he, hb, hon⟩ := Region.waitsFor_spec hj
      have : o' = o := Option.some.inj (ho'.symm.trans hoi)
      subst this
      have h1 := hall e he hb
      rw [hon] at h1
      have h2 : e.on < i := by have := Array.all_eq_true_iff_forall_mem.1 haft e he; simpa [hb] using this
      rw [hon] at h2
      exact J.holds j (by omega) h1
    have hst := hstep i o hoi hin (fun t => a'.tmps.getD t undef) w' J.grown hdep
    rw [← hfill] at hst
    refine wpOp_noexit specPostQ_noexit (wpOp_mono ?_ hst)
    rintro a'' w'' ⟨ha, hg, hp, hnew⟩
    have hmem : ds.getD i 0 ∈ ds := by
      rw [List.getD_eq_getElem?_getD, List.getElem?_eq_getElem (by omega)]; exact List.getElem_mem _
    have hsz : a''.tmps.size = a'.tmps.size := by
      by_cases hs : S i = true
      · rw [if_pos hs] at ha; rw [ha]
      · rw [if_neg hs] at ha; rw [ha]; simp [Act.put]
    have hdf : a''.defers = a'.defers := by
      by_cases hs : S i = true
      · rw [if_pos hs] at ha; rw [ha]
      · rw [if_neg hs] at ha; rw [ha]; rfl
    have hother : ∀ t, t ≠ ds.getD i 0 → a''.tmps[t]? = a'.tmps[t]? := fun t ht => by
      by_cases hs : S i = true
      · rw [if_pos hs] at ha; rw [ha]
      · rw [if_neg hs] at ha; rw [ha]; simp only [Act.put]; rw [Array.getElem?_setIfInBounds_ne (Ne.symm ht)]
    have keepv : ∀ j, j < n → j ≠ i → listed.getD j false = true → a''.tmps[ds.getD j 0]? = a'.tmps[ds.getD j 0]? := fun j hj hji hl => by
      rcases hdist j hj with ((h | h) | h) | h
      · exact absurd h.symm hji
      · exact hother _ (fun e => h e.symm)
      · rw [if_pos h] at ha; rw [ha]
      · obtain ⟨oj, hoj, e, he, hb, hon⟩ := Region.waitsFor_spec h
        have h1 := inv.closed j oj hoj hl e he hb
        rw [hon] at h1
        have h2 := getD_both hiu
        rw [h1] at h2; cases h2
    refine ih (listed.setIfInBounds i true) a'' w'' (inv.set hi hin) ⟨hsz.trans J.size, hdf.trans J.defers, fun t ht => (hother t (fun e => ht (e ▸ hmem))).trans (J.same t ht), hRt _ _ _ J.grown (hRi _ _ _ hg), fun j hj hl => ?_, ?_⟩ ?_
    · by_cases hji : j = i
      · subst hji; exact hp
      · have hl' : listed.getD j false = true := by rwa [getD_set_ne false (Ne.symm hji)] at hl
        have := hφ j i _ w' w'' hji (J.holds j hj hl') hg
        rw [Array.getD_eq_getD_getElem?, keepv j hj hji hl', ← Array.getD_eq_getD_getElem?]
        exact this
    · have old : ∀ j, j < n → j ≠ i → listed.getD j false = true → a''.tmps.getD (ds.getD j 0) undef = a'.tmps.getD (ds.getD j 0) undef := fun j hj hji hl => by
        rw [Array.getD_eq_getD_getElem?, keepv j hj hji hl, ← Array.getD_eq_getD_getElem?]
      have far : ∀ j, j < n → j ≠ i → D i = true → D j = true → listed.getD j false = true → a''.tmps.getD (ds.getD i 0) undef ≠ a'.tmps.getD (ds.getD j 0) undef := fun j hj hji hDi hDj hl e => by
        obtain ⟨q, hq, hql⟩ := hlt j _ w' hDj (J.holds j hj hl)
        rw [hnew hDi, hq] at e
        injection e with e
        have e2 := congrArg Addr.block (Option.some.inj e)
        dsimp only at e2
        omega
      intro j k hj hk hjk hDj hDk hlj hlk
      by_cases hji : j = i
      · subst hji
        rw [getD_set_ne false hjk] at hlk
        rw [old k hk (Ne.symm hjk) hlk]
        exact far k hk (Ne.symm hjk) hDj hDk hlk
      · rw [getD_set_ne false (Ne.symm hji)] at hlj
        rw [old j hj hji hlj]
        by_cases hki : k = i
        · subst hki
          exact (far j hj hji hDk hDj hlj).symm
        · rw [getD_set_ne false (Ne.symm hki)] at hlk
          rw [old k hk hki hlk]
          exact J.pair j k hj hk hjk hDj hDk hlj hlk
    · have e : ((List.range n).filter fun k => !(listed.setIfInBounds i true).getD k false) = ((List.range n).filter fun k => !listed.getD k false).filter fun k => k != i := by
        rw [List.filter_filter]
        apply List.filter_congr
        intro k hk
        by_cases hki : k = i
        · subst hki
          have : (listed.setIfInBounds k true).getD k false = true := by
            rw [Array.getD_eq_getD_getElem?, Array.getElem?_setIfInBounds_self_of_lt (hinS hin)]; rfl
          rw [this]; simp
        · rw [getD_set_ne false (fun e => hki e.symm)]; simp [hki]
      rw [e]
      have hnd : ((List.range n).filter fun k => !listed.getD k false).Nodup := (List.filter_sublist).nodup List.nodup_range
      have hmi : i ∈ (List.range n).filter fun k => !listed.getD k false := by
        rw [List.mem_filter, List.mem_range]; exact ⟨hin, by rw [getD_both hiu]; rfl⟩
      rw [← hnd.erase_eq_filter, List.length_erase_of_mem hmi, hf]; rfl

/-- **A REGION THAT DRAWS, BY A WORD FOR EACH OPERATION.** -/
theorem wp_region_specsQ {Ra : World → World → Prop} {R : Nat → World → World → Prop} (hRt : ∀ a b c, Ra a b → Ra b c → Ra a c) (hRi : ∀ i a b, R i a b → Ra a b) {id : Nat} {Q : Exit → Act → World → Prop} {a : Act} {w : World} {l : List Oper} (n : Nat) (ds : List Nat) (hm : P.follows .mixedOrders = true) (hR0 : Ra w { w with drawn := w.drawn + 1 }) (S : Nat → Bool) (hB : specBQ l.toArray n ds S a.tmps.size = true) (D : Nat → Bool)
    (φ : Nat → Value → World → Prop) (hlt : ∀ i v w, D i = true → φ i v w → ∃ q, v = .pointer (some ⟨q, 0, none⟩) ∧ q < w.heap.size) (hφ : ∀ j i v w w', j ≠ i → φ j v w → R i w w' → φ j v w')
    (hstep : ∀ i o, l[i]? = some o → i < n → ∀ (u : Nat → Value) w', Ra w w' → (∀ j, Region.waitsFor .any l.toArray i j = true → φ j (u (ds.getD j 0)) w') →
      wpList P l.toArray (SpecPostQ (R i) (φ i) (D i) (S i) (ds.getD i 0) (fillAct a ds u) w') [o] (fillAct a ds u) w')
    (hend : ∀ (u : Nat → Value) w', Ra w w' → (∀ i, i < n → φ i (u (ds.getD i 0)) w') → (∀ i j, i < n → j < n → i ≠ j → D i = true → D j = true → u (ds.getD i 0) ≠ u (ds.getD j 0)) → wpList P l.toArray Q (l.drop n) (fillAct a ds u) w') : (Code.region id l.toArray true).wp P Q a w := by
  have hB' := hB
  simp only [specBQ, Bool.and_eq_true, decide_eq_true_eq] at hB
  obtain ⟨⟨⟨⟨⟨hn, hs⟩, hc⟩, hseq⟩, hop⟩, hdl⟩ := hB
  have hdn : (l.drop n).length = l.toArray.size - n := by simp
  refine wp_region_any hm ?_
  have inv0 : HeadInv .any l.toArray n (Array.replicate l.toArray.size false) :=
    ⟨by simp, fun j oj _ hl => (by rw [getD_replicate_false] at hl; cases hl), fun t _ ht => getD_in (by simpa using ht) (getD_replicate_false _ _)⟩
  have J0 : SpecInvQ Ra D a w ds n φ (Array.replicate l.toArray.size false) a { w with drawn := w.drawn + 1 } :=
    ⟨rfl, rfl, fun _ _ => rfl, hR0, fun i _ h => (by rw [getD_replicate_false] at h; cases h), fun i _ _ _ _ _ _ h => (by rw [getD_replicate_false] at h; cases h)⟩
  have hlen : ((List.range n).filter fun i => !(Array.replicate l.toArray.size false).getD i false).length = n := by
    rw [List.filter_eq_self.2 (fun i _ => by rw [getD_replicate_false]; rfl), List.length_range]
  have := spec_anyQ hRt hRi (P := P) (Q := Q) hB' D hlt hφ (fun i o ho hi u w' hg hd => by
    have h := hstep i o (by simpa using ho) hi u w' hg hd
    unfold wpOp
    simp only [ho]
    exact h) (fun listed a' w' J hall hl => by
      have h := hend (fun t => a'.tmps.getD t undef) w' J.grown (fun i hi => J.holds i hi (hall i hi)) (fun i j hi hj hij hDi hDj => J.pair i j hi hj hij hDi hDj (hall i hi) (hall j hj))
      rw [← J.fill] at h
      have := wpAny_of_seq (P := P) (md := .any) (ops := l.toArray) (Q' := Q) (l.drop n) n listed a' w' (fun j => by simp [List.getElem?_drop]) (by rw [hdn, hl]; exact hseq) h
      rwa [hdn] at this) n _ a _ inv0 J0 hlen
  rwa [show n + (l.toArray.size - n) = l.toArray.size by omega] at this
end
end Sc
/- As XSpecsS, where some operations are stores; of the edges those that bind alone. -/
namespace Sc
open Go Go.RowKit
section
variable {P : Program} {ops : Array Oper}
/-- The look at the region, of the edges that bind alone; S are stores. -/
def specBU (ops : Array Oper) (n : Nat) (ds : List Nat) (S : Nat → Bool) (size : Nat) : Bool := specBQ ops n ds S size
/-- What an operation of the head leaves. -/
def SpecPostU (R : World → World → Prop) (φ : Value → World → Prop) (S : Bool) (d : Nat) (a : Act) (w : World) : Exit → Act → World → Prop
  | .normal, a', w' => (if S then a' = a else a' = a.put (some d) (a'.tmps.getD d undef)) ∧ R w w' ∧ φ (a'.tmps.getD d undef) w'
  | _, _, _ => False
theorem specPostU_noexit {R : World → World → Prop} {φ : Value → World → Prop} {S : Bool} {d : Nat} {a : Act} {w : World} : ∀ e a' w', e ≠ .normal → ¬ SpecPostU R φ S d a w e a' w' := by
  intro e a' w' he h
  cases e <;> first | exact he rfl | exact h
structure SpecInvU (s : Nat) (S : Nat → Bool) (Rb R : World → World → Prop) (dead : Nat → Nat → Bool) (a : Act) (w : World) (ds : List Nat) (n : Nat) (φ : Nat → Value → World → Prop) (listed : Array Bool) (a' : Act) (w' : World) : Prop where
  size : a'.tmps.size = a.tmps.size
  defers : a'.defers = a.defers
  same : ∀ t, t ∉ ds → a'.tmps[t]? = a.tmps[t]?
  grown : R w w'
  before : listed.getD s false = false → Rb w w'
  old : ∀ k, k < n → S k = false → (∀ j, j < n → j ≠ k → S j = false → ds.getD j 0 ≠ ds.getD k 0) → listed.getD k false = false → a'.tmps[ds.getD k 0]? = a.tmps[ds.getD k 0]?
  holds : ∀ i, i < n → listed.getD i false = true → (∀ k, k < n → dead i k = true → listed.getD k false = false) → φ i (a'.tmps.getD (ds.getD i 0) undef) w'
theorem SpecInvU.fill {s : Nat} {S : Nat → Bool} {Rb R : World → World → Prop} {dead : Nat → Nat → Bool} {a : Act} {w : World} {ds : List Nat} {n : Nat} {φ : Nat → Value → World → Prop} {listed : Array Bool} {a' : Act} {w' : World} (h : SpecInvU s S Rb R dead a w ds n φ listed a' w') :
    a' = fillAct a ds (fun t => a'.tmps.getD t undef) :=
  SpecInv.fill (R := R) (φ := fun _ _ _ => True) (n := n) (listed := listed) ⟨h.size, h.defers, h.same, h.grown, fun _ _ _ => trivial⟩
theorem spec_anyU {s : Nat} (S : Nat → Bool) {Ra Rb : World → World → Prop} {R : Nat → World → World → Prop} (hRt : ∀ a b c, Ra a b → Ra b c → Ra a c) (hRi : ∀ i a b, R i a b → Ra a b) (hRbt : ∀ a b c, Rb a b → Rb b c → Rb a c) (hRbi : ∀ i a b, i ≠ s → R i a b → Rb a b) {n : Nat} {ds : List Nat} {a0 : Act} {w0 : World} {φ : Nat → Value → World → Prop} {Q : Exit → Act → World → Prop} (hB : specBU ops n ds S a0.tmps.size = true) {dead : Nat → Nat → Bool}
    (hφ : ∀ j i v w w', j ≠ i → Region.waitsFor .any ops j i = false → dead j i = false → φ j v w → R i w w' → φ j v w')
    (hstep : ∀ i o, ops[i]? = some o → i < n → ∀ (u : Nat → Value) w', Ra w0 w' → (i = s ∨ Region.waitsFor .any ops s i = true → Rb w0 w') → (∀ j, j < n → S j = false → Region.waitsFor .any ops j i = true → (∀ k, k < n → k ≠ j → S k = false → ds.getD k 0 ≠ ds.getD j 0) → u (ds.getD j 0) = a0.tmps.getD (ds.getD j 0) undef) → (∀ j, Region.waitsFor .any ops i j = true → (∀ k, k < n → dead j k = true → k = i) → φ j (u (ds.getD j 0)) w') →
      wpOp P ops (SpecPostU (R i) (φ i) (S i) (ds.getD i 0) (fillAct a0 ds u) w') i (SpecPostU (R i) (φ i) (S i) (ds.getD i 0) (fillAct a0 ds u) w' .normal) (fillAct a0 ds u) w')
    (hend : ∀ listed a' w', SpecInvU s S Rb Ra dead a0 w0 ds n φ listed a' w' → (∀ i, i < n → listed.getD i false = true) → listed = ((List.range ops.size).map fun i => decide (i < n)).toArray → wpAny P .any ops Q (ops.size - n) listed a' w') :
    ∀ (f : Nat) (listed : Array Bool) (a' : Act) (w' : World), HeadInv .any ops n listed → SpecInvU s S Rb Ra dead a0 w0 ds n φ listed a' w' → ((List.range n).filter fun i => !listed.getD i false).length = f → wpAny P .any ops Q (f + (ops.size - n)) listed a' w' := by
  simp only [specBU, specBQ, Bool.and_eq_true, decide_eq_true_eq, List.all_eq_true, List.mem_range] at hB
  obtain ⟨⟨⟨⟨⟨hn, hs⟩, hc⟩, hseq⟩, hop⟩, hdl⟩ := hB
  intro f
  induction f with
  | zero =>
    intro listed a' w' inv J hf
    have hall : ∀ i, i < n → listed.getD i false = true := fun i hi => by
      have h := List.eq_nil_of_length_eq_zero hf
      have h2 : i ∉ (List.range n).filter fun i => !listed.getD i false := by rw [h]; simp
      rw [List.mem_filter] at h2
      cases hg : listed.getD i false with
      | true => rfl
      | false => exact absurd ⟨List.mem_range.2 hi, by rw [hg]; rfl⟩ h2
    rw [Nat.zero_add]
    refine hend listed a' w' J hall ?_
    apply Array.ext'
    apply List.ext_getElem
    · simp [inv.size]
    · intro t h1 h2
      have ht : t < listed.size := by simpa using h1
      simp only [Array.getElem_toList, List.getElem_map, List.getElem_range]
      by_cases htn : t < n
      · have := hall t htn
        rw [Array.getD_eq_getD_getElem?, Array.getElem?_eq_getElem ht] at this
        simpa [htn] using this
      · have := inv.tail t (by omega) (by rw [← inv.size]; exact ht)
        rw [Array.getD_eq_getD_getElem?, Array.getElem?_eq_getElem ht] at this
        simpa [htn] using this
  | succ f ih =>
    intro listed a' w' inv J hf
    -- the first that is not yet listed
    have hex : ∃ i, i < n ∧ listed.getD i false = false := by
      have : (List.range n).filter (fun i => !listed.getD i false) ≠ [] := fun h => by rw [h] at hf; cases hf
      obtain ⟨i, hi⟩ := List.exists_mem_of_ne_nil _ this
      rw [List.mem_filter, List.mem_range] at hi
      exact ⟨i, hi.1, by simpa using hi.2⟩
    obtain ⟨i0, hi0, hu0⟩ := hex
    have hinS : ∀ {i}, i < n → i < listed.size := fun hi => by rw [inv.size]; omega
    have hready : Region.ready .any ops listed ≠ [] := by
      -- the least
      have : ∃ i, (i < n ∧ listed.getD i false = false) ∧ ∀ j, j < i → ¬ (j < n ∧ listed.getD j false = false) := by
        clear hf
        induction i0 using Nat.strongRecOn with
        | _ k ihk =>
          by_cases h : ∃ j, j < k ∧ j < n ∧ listed.getD j false = false
          · obtain ⟨j, hj, a, b⟩ := h; exact ihk j hj a b
          · exact ⟨k, ⟨hi0, hu0⟩, fun j hj ⟨a, b⟩ => h ⟨j, hj, a, b⟩⟩
      obtain ⟨i, ⟨hi, hu⟩, hmin⟩ := this
      have ho := hop i hi
      cases hoi : ops[i]? with
      | none => rw [hoi] at ho; cases ho
      | some o =>
        rw [hoi] at ho
        simp only [Bool.and_eq_true, List.all_eq_true, decide_eq_true_eq] at ho
        have : i ∈ Region.ready .any ops listed := mem_ready.2 ⟨getD_in (hinS hi) hu, o, hoi, fun e he hb => by
          have h1 : e.on < i := by have := Array.all_eq_true_iff_forall_mem.1 ho.1.2 e he; simpa [hb] using this
          have := hmin e.on h1
          cases hg : listed.getD e.on false with
          | true => rfl
          | false => exact absurd ⟨by omega, hg⟩ this⟩
        intro h0; rw [h0] at this; cases this
    rw [show f + 1 + (ops.size - n) = (f + (ops.size - n)) + 1 by omega]
    refine ⟨fun h => absurd h hready, fun i hi => ?_⟩
    have hin : i < n := by
      rcases Nat.lt_or_ge i n with h | h
      · exact h
      · exact absurd hi (tail_waits hs hc hn inv _ i0 rfl hi0 (getD_in (hinS hi0) hu0) i h)
    obtain ⟨hiu, o, hoi, hall⟩ := mem_ready.1 hi
    have ho := hop i hin
    rw [hoi] at ho
    simp only [Bool.and_eq_true, List.all_eq_true, decide_eq_true_eq, List.mem_range, Bool.or_eq_true, bne_iff_ne] at ho
    obtain ⟨⟨⟨hdst, hdsz⟩, haft⟩, hdist⟩ := ho
    have hfill := J.fill
    have hdep : ∀ j, Region.waitsFor .any ops i j = true → (∀ k, k < n → dead j k = true → k = i) → φ j ((fun t => a'.tmps.getD t undef) (ds.getD j 0)) w' := fun j hj hjd => by
      obtain ⟨o', ho', e, he, hb, hon⟩ := Region.waitsFor_spec hj
      have : o' = o := Option.some.inj (ho'.symm.trans hoi)
      subst this
      have h1 := hall e he hb
      rw [hon] at h1
      have h2 : e.on < i := by have := Array.all_eq_true_iff_forall_mem.1 haft e he; simpa [hb] using this
      rw [hon] at h2
      refine J.holds j (by omega) h1 fun k hk hdk => ?_
      have := hjd k hk hdk
      subst this
      exact getD_both hiu
    have hus : i = s ∨ Region.waitsFor .any ops s i = true → listed.getD s false = false := fun h => by
      rcases h with h | h
      · subst h; exact getD_both hiu
      · cases hl : listed.getD s false with
        | false => rfl
        | true =>
          obtain ⟨oj, hoj, e, he, hb, hon⟩ := Region.waitsFor_spec h
          have h1 := inv.closed s oj hoj hl e he hb
          rw [hon, getD_both hiu] at h1; cases h1
    have hbef : i = s ∨ Region.waitsFor .any ops s i = true → Rb w0 w' := fun h => J.before (hus h)
    have hold : ∀ j, j < n → S j = false → Region.waitsFor .any ops j i = true → (∀ k, k < n → k ≠ j → S k = false → ds.getD k 0 ≠ ds.getD j 0) → (fun t => a'.tmps.getD t undef) (ds.getD j 0) = a0.tmps.getD (ds.getD j 0) undef := fun j hj hSj hw hu => by
      have hlj : listed.getD j false = false := by
        cases hl : listed.getD j false with
        | false => rfl
        | true =>
          obtain ⟨oj, hoj, e, he, hb, hon⟩ := Region.waitsFor_spec hw
          have h1 := inv.closed j oj hoj hl e he hb
          rw [hon, getD_both hiu] at h1; cases h1
      have := J.old j hj hSj hu hlj
      show a'.tmps.getD (ds.getD j 0) undef = _
      rw [Array.getD_eq_getD_getElem?, this, ← Array.getD_eq_getD_getElem?]
    have hst := hstep i o hoi hin (fun t => a'.tmps.getD t undef) w' J.grown hbef hold hdep
    rw [← hfill] at hst
    refine wpOp_noexit specPostU_noexit (wpOp_mono ?_ hst)
    rintro a'' w'' ⟨ha, hg, hp⟩
    have hmem : ds.getD i 0 ∈ ds := by
      rw [List.getD_eq_getElem?_getD, List.getElem?_eq_getElem (by omega)]; exact List.getElem_mem _
    have hsz : a''.tmps.size = a'.tmps.size := by
      by_cases hs : S i = true
      · rw [if_pos hs] at ha; rw [ha]
      · rw [if_neg hs] at ha; rw [ha]; simp [Act.put]
    have hdf : a''.defers = a'.defers := by
      by_cases hs : S i = true
      · rw [if_pos hs] at ha; rw [ha]
      · rw [if_neg hs] at ha; rw [ha]; rfl
    have hother : ∀ t, t ≠ ds.getD i 0 → a''.tmps[t]? = a'.tmps[t]? := fun t ht => by
      by_cases hs : S i = true
      · rw [if_pos hs] at ha; rw [ha]
      · rw [if_neg hs] at ha; rw [ha]; simp only [Act.put]; rw [Array.getElem?_setIfInBounds_ne (Ne.symm ht)]
    have keepv : ∀ j, j < n → j ≠ i → listed.getD j false = true → a''.tmps[ds.getD j 0]? = a'.tmps[ds.getD j 0]? := fun j hj hji hl => by
      rcases hdist j hj with ((h | h) | h) | h
      · exact absurd h.symm hji
      · exact hother _ (fun e => h e.symm)
      · rw [if_pos h] at ha; rw [ha]
      · obtain ⟨oj, hoj, e, he, hb, hon⟩ := Region.waitsFor_spec h
        have h1 := inv.closed j oj hoj hl e he hb
        rw [hon] at h1
        have h2 := getD_both hiu
        rw [h1] at h2; cases h2
    refine ih (listed.setIfInBounds i true) a'' w'' (inv.set hi hin) ⟨hsz.trans J.size, hdf.trans J.defers, fun t ht => (hother t (fun e => ht (e ▸ hmem))).trans (J.same t ht), hRt _ _ _ J.grown (hRi _ _ _ hg), fun hls => ?_, fun k hk hSk hu hlk => ?_, fun j hj hl hdl => ?_⟩ ?_
    · have his : i ≠ s := fun e => by
        subst e
        rw [Array.getD_eq_getD_getElem?, Array.getElem?_setIfInBounds_self_of_lt (hinS hin)] at hls; cases hls
      exact hRbt _ _ _ (J.before (by rwa [getD_set_ne false his] at hls)) (hRbi _ _ _ his hg)
    · have hki : k ≠ i := fun e => by
        subst e
        rw [Array.getD_eq_getD_getElem?, Array.getElem?_setIfInBounds_self_of_lt (hinS hin)] at hlk; cases hlk
      have hlk' : listed.getD k false = false := by rwa [getD_set_ne false (fun e => hki e.symm)] at hlk
      rw [← J.old k hk hSk hu hlk']
      by_cases hs : S i = true
      · rw [if_pos hs] at ha; rw [ha]
      · exact hother _ (fun e => hu i hin (fun e => hki e.symm) (by simpa using hs) e.symm)
    · by_cases hji : j = i
      · subst hji; exact hp
      · have hl' : listed.getD j false = true := by rwa [getD_set_ne false (Ne.symm hji)] at hl
        have hnw : Region.waitsFor .any ops j i = false := by
          cases hw : Region.waitsFor .any ops j i with
          | false => rfl
          | true =>
            obtain ⟨oj, hoj, e, he, hb, hon⟩ := Region.waitsFor_spec hw
            have h1 := inv.closed j oj hoj hl' e he hb
            rw [hon] at h1
            have h2 := getD_both hiu
            rw [h1] at h2; cases h2
        have hk0 : ∀ k, (listed.setIfInBounds i true).getD k false = false → listed.getD k false = false := fun k h => by
          by_cases e : k = i
          · subst e; exact getD_both hiu
          · rwa [getD_set_ne false (fun h => e h.symm)] at h
        have hdi : dead j i = false := by
          cases hd : dead j i with
          | false => rfl
          | true =>
            have := hdl i hin hd
            rw [Array.getD_eq_getD_getElem?, Array.getElem?_setIfInBounds_self_of_lt (hinS hin)] at this; cases this
        have := hφ j i _ w' w'' hji hnw hdi (J.holds j hj hl' fun k hk hdk => hk0 k (hdl k hk hdk)) hg
        rw [Array.getD_eq_getD_getElem?, keepv j hj hji hl', ← Array.getD_eq_getD_getElem?]
        exact this
    · have e : ((List.range n).filter fun k => !(listed.setIfInBounds i true).getD k false) = ((List.range n).filter fun k => !listed.getD k false).filter fun k => k != i := by
        rw [List.filter_filter]
        apply List.filter_congr
        intro k hk
        by_cases hki : k = i
        · subst hki
          have : (listed.setIfInBounds k true).getD k false = true := by
            rw [Array.getD_eq_getD_getElem?, Array.getElem?_setIfInBounds_self_of_lt (hinS hin)]; rfl
          rw [this]; simp
        · rw [getD_set_ne false (fun e => hki e.symm)]; simp [hki]
      rw [e]
      have hnd : ((List.range n).filter fun k => !listed.getD k false).Nodup := (List.filter_sublist).nodup List.nodup_range
      have hmi : i ∈ (List.range n).filter fun k => !listed.getD k false := by
        rw [List.mem_filter, List.mem_range]; exact ⟨hin, by rw [getD_both hiu]; rfl⟩
      rw [← hnd.erase_eq_filter, List.length_erase_of_mem hmi, hf]; rfl

/-- **A REGION THAT DRAWS, BY A WORD FOR EACH OPERATION.** -/
theorem wp_region_specsU (s : Nat) (S : Nat → Bool) {Ra Rb : World → World → Prop} {R : Nat → World → World → Prop} (hRt : ∀ a b c, Ra a b → Ra b c → Ra a c) (hRi : ∀ i a b, R i a b → Ra a b) (hRbt : ∀ a b c, Rb a b → Rb b c → Rb a c) (hRbi : ∀ i a b, i ≠ s → R i a b → Rb a b) {id : Nat} {Q : Exit → Act → World → Prop} {a : Act} {w : World} {l : List Oper} (n : Nat) (ds : List Nat) (hm : P.follows .mixedOrders = true) (hR0 : Ra w { w with drawn := w.drawn + 1 }) (hRb0 : Rb w { w with drawn := w.drawn + 1 }) (hB : specBU l.toArray n ds S a.tmps.size = true) (dead : Nat → Nat → Bool)
    (φ : Nat → Value → World → Prop) (hφ : ∀ j i v w w', j ≠ i → Region.waitsFor .any l.toArray j i = false → dead j i = false → φ j v w → R i w w' → φ j v w')
    (hstep : ∀ i o, l[i]? = some o → i < n → ∀ (u : Nat → Value) w', Ra w w' → (i = s ∨ Region.waitsFor .any l.toArray s i = true → Rb w w') → (∀ j, j < n → S j = false → Region.waitsFor .any l.toArray j i = true → (∀ k, k < n → k ≠ j → S k = false → ds.getD k 0 ≠ ds.getD j 0) → u (ds.getD j 0) = a.tmps.getD (ds.getD j 0) undef) → (∀ j, Region.waitsFor .any l.toArray i j = true → (∀ k, k < n → dead j k = true → k = i) → φ j (u (ds.getD j 0)) w') →
      wpList P l.toArray (SpecPostU (R i) (φ i) (S i) (ds.getD i 0) (fillAct a ds u) w') [o] (fillAct a ds u) w')
    (hend : ∀ (u : Nat → Value) w', Ra w w' → (∀ i, i < n → (∀ k, k < n → dead i k = false) → φ i (u (ds.getD i 0)) w') → wpList P l.toArray Q (l.drop n) (fillAct a ds u) w') : (Code.region id l.toArray true).wp P Q a w := by
  have hB' := hB
  simp only [specBU, specBQ, Bool.and_eq_true, decide_eq_true_eq] at hB
  obtain ⟨⟨⟨⟨⟨hn, hs⟩, hc⟩, hseq⟩, hop⟩, hdl⟩ := hB
  have hdn : (l.drop n).length = l.toArray.size - n := by simp
  refine wp_region_any hm ?_
  have inv0 : HeadInv .any l.toArray n (Array.replicate l.toArray.size false) :=
    ⟨by simp, fun j oj _ hl => (by rw [getD_replicate_false] at hl; cases hl), fun t _ ht => getD_in (by simpa using ht) (getD_replicate_false _ _)⟩
  have J0 : SpecInvU s S Rb Ra dead a w ds n φ (Array.replicate l.toArray.size false) a { w with drawn := w.drawn + 1 } :=
    ⟨rfl, rfl, fun _ _ => rfl, hR0, fun _ => hRb0, fun _ _ _ _ _ => rfl, fun i _ h _ => (by rw [getD_replicate_false] at h; cases h)⟩
  have hlen : ((List.range n).filter fun i => !(Array.replicate l.toArray.size false).getD i false).length = n := by
    rw [List.filter_eq_self.2 (fun i _ => by rw [getD_replicate_false]; rfl), List.length_range]
  have := spec_anyU S hRt hRi hRbt hRbi (P := P) (Q := Q) hB' hφ (fun i o ho hi u w' hg hgb hol hd => by
    have h := hstep i o (by simpa using ho) hi u w' hg hgb hol hd
    unfold wpOp
    simp only [ho]
    exact h) (fun listed a' w' J hall hl => by
      have h := hend (fun t => a'.tmps.getD t undef) w' J.grown (fun i hi hd => J.holds i hi (hall i hi) fun k hk h => by rw [hd k hk] at h; cases h)
      rw [← J.fill] at h
      have := wpAny_of_seq (P := P) (md := .any) (ops := l.toArray) (Q' := Q) (l.drop n) n listed a' w' (fun j => by simp [List.getElem?_drop]) (by rw [hdn, hl]; exact hseq) h
      rwa [hdn] at this) n _ a _ inv0 J0 hlen
  rwa [show n + (l.toArray.size - n) = l.toArray.size by omega] at this

end
end Sc
/- scrivenerlaw07.few: the first entries, cut, and their texts. Strings' slices; the reference's sums and roots. -/
namespace Sc
open Go Go.RowKit
/-- A slice of texts. -/
def RSS (w : World) (v : Value) (ls : List (List UInt8)) : Prop := Rd (fun b => b < w.heap.size) w 1 v ls.length (ls.map sv)
theorem RSS.gr {w w' : World} {v : Value} {ls : List (List UInt8)} (h : RSS w v ls) (hg : w.grownBy w' none) : RSS w' v ls :=
  Rd.mono (Rd.grown h hg (by simp)) fun _ hb => Nat.lt_of_lt_of_le hb hg.size
end Sc
namespace Go.Proofs.Ytajgklomcapboaa
open Go.RowKit Go.Shelf Sc
theorem okSl7 : InfoOk Try.prog 27 1 24 := by unfold InfoOk; kernel_rfl
theorem okStr7 : InfoOk Try.prog 9 1 16 := by unfold InfoOk; kernel_rfl
theorem build_str7 (s : ByteArray) (w : World) : (Instr.buildSlice 24 1 #[(0, .string s)]).run Try.prog w = .ok (.slice (some ⟨w.heap.size, 0, none⟩) 1 1) (w.alloc (.cells #[.string s] 9)) := by kernel_rfl
theorem wpList_build_str7 {w : World} {ops : Array Oper} {rest : List Oper} {a : Act} {Q : Exit → Act → World → Prop} {dst : Option Tmp} {ty : TypeId} {pos : String} {aft : Array Edge} {x : Operand} (l : List UInt8) (hx : a.eval x = sv l)
    (h : wpList Try.prog ops Q rest (a.put dst (.slice (some ⟨w.heap.size, 0, none⟩) 1 1)) (w.alloc (.cells #[sv l] 9))) :
    wpList Try.prog ops Q (⟨dst, .buildSlice 24 1 #[(0, x)], ty, pos, aft, none⟩ :: rest) a w := by
  refine wpList_run rfl ?_ h
  simp only [execOp, List.map_toArray, List.map_cons, List.map_nil, hx, Sem.run_bind]
  unfold sv
  rw [build_str7]
  rfl
def few (ls : List (List UInt8)) : List (List UInt8) := capped 20 100 ls
theorem few_len (ls : List (List UInt8)) : (few ls).length ≤ 20 := capped_length 20 100 ls
theorem few_each (ls : List (List UInt8)) : ∀ l ∈ few ls, l.length ≤ 100 := capped_each 20 100 ls
set_option maxHeartbeats 2000000 in
theorem few_any (v : Value) (ls : List (List UInt8)) (w : World) (hv : RLL w v ls) :
    Calls Try.prog 16 #[v] w fun e w' => ∃ A c A2 c2, e = .returned (.tuple #[.slice A (few ls).length c, .slice A2 (few ls).length c2]) ∧
      RLL w' (.slice A (few ls).length c) (few ls) ∧ RSS w' (.slice A2 (few ls).length c2) (few ls) ∧ w.grownBy w' none := by
  go_enter Try.func16, Try.ntmps16
  obtain ⟨vs0, hv1, hv2⟩ := id hv
  obtain ⟨A, c, rfl, hc⟩ := hv1.form
  have hm := hv1.le
  unfold maxLen at hm
  have H1 := Go.Lib.hid hv1
  have H2 := Go.Lib.hid hv2
  clear hv1 hv2 hv hc
  unfold few
  go_wp2_with fail
  go_loopw [4, 5, 10] (fun vo va n wr => ∃ k : Nat, k ≤ ls.length ∧ n = .int .i64 k ∧ Hid (OwBB w.heap.size (fun b => b < w.heap.size) wr vo (capped 20 100 (ls.take k))) ∧
      Hid (Ow w.heap.size wr 1 va (capped 20 100 (ls.take k)).length ((capped 20 100 (ls.take k)).map sv) ∧ (∀ b, va.ownBlock = some b → vo.ownBlock ≠ some b)) ∧ Hid (w.grownBy wr none))
    (fun _ _ n _ => ls.length - (intOf n).toNat)
  case atStart => exact ⟨0, Nat.zero_le _, rfl, Go.Lib.hid (OwBB.nil _ _ _), Go.Lib.hid ⟨Ow.nil _ _ _, by intro b hb; cases hb⟩, Go.Lib.hid (gb_refl _ _)⟩
  case round =>
    obtain ⟨k, hk, rfl, Ho, Ht, Hg⟩ := hrel
    by_cases hlt : k < ls.length
    · obtain ⟨b, o, c', he, hb, hnc, hcm, hcell⟩ := H1.out.at (by omega)
      injection he with hA _ hcc
      subst hA hcc
      obtain ⟨l, hl⟩ : ∃ l, ls[k]? = some l := ⟨_, List.getElem?_eq_getElem hlt⟩
      obtain ⟨u, hu, hru⟩ := H2.out k l hl
      obtain ⟨A1, c1, rfl, hc1⟩ := hru.form
      have c0 : wr.cell? ⟨b, o + k, none⟩ = some (.slice A1 l.length c1) := cell_grown Hg.out (hcell k _ hu) (by simp)
      have HL := Go.Lib.hid hl
      have HR := Go.Lib.hid (Rd.grown hru Hg.out (by simp))
      have hkI : (0 : Int) ≤ (k : Int) ∧ (k : Int) < 9223372036854775807 := by omega
      have hklt : decide (k < ls.length) = true := decide_eq_true hlt
      clear hl hu hru hcell
      by_cases h8 : k < 20
      · have h8' : decide ((k : Int) < 20) = true := decide_eq_true (by omega)
        obtain ⟨q, hq⟩ : ∃ q, min l.length 100 = q := ⟨_, rfl⟩
        have hrq := RdB.takeTo HR.out 100 q hq
        obtain ⟨T, hT⟩ : ∃ T, T = l.take 100 := ⟨_, rfl⟩
        rw [← hT] at hrq
        obtain ⟨ow, ho1, ho2⟩ := Ho.out
        obtain ⟨Ao, co, rfl⟩ := ho1.form
        obtain ⟨ht1, ht2⟩ := Ht.out
        obtain ⟨At, ct, rfl⟩ := ht1.form
        have hs1 : Src Try.prog 1 22 (.slice (some ⟨wr.heap.size, 0, none⟩) 1 1) 1 [.slice A1 q c1] (wr.alloc (.cells #[.slice A1 q c1] 27)) := src_new (P := Try.prog) Try.underlying22 wr 27 1 1 [.slice A1 q c1] rfl (by intro u hu; rw [List.mem_singleton.1 hu]; rfl)
        have hB1 : w.heap.size ≤ (wr.alloc (.cells #[.slice A1 q c1] 27)).heap.size := by rw [World.size_alloc]; have := Hg.out.size; omega
        have hcl := capped_length 20 100 (ls.take k)
        have h63 : (capped 20 100 (ls.take k)).length + 1 ≤ maxLen := Nat.le_trans (Nat.succ_le_succ hcl) (by decide)
        have hby : ((capped 20 100 (ls.take k)).length + 1) * 24 ≤ 140737488355328 := by omega
        have hby2 : ((capped 20 100 (ls.take k)).length + 1) * 16 ≤ 140737488355328 := by omega
        have OL := Go.Lib.hid ho1.len
        have OW := Go.Lib.hid ho2
        have HCS := Go.Lib.hid (capped_snoc 20 100 k ls l HL.out h8)
        rw [← hT] at HCS
        have Hrq := Go.Lib.hid hrq
        have hoa := ho1.alloc (.cells #[.slice A1 q c1] 27)
        have ho1' := Go.Lib.hid ho1
        have hta := Go.Lib.hid (ht1.alloc (.cells #[.slice A1 q c1] 27))
        have HT1 := Go.Lib.hid ht1
        have HT2 := Go.Lib.hid ht2
        clear ho1 ho2 hcl hrq ht1 ht2 hT
        go_wp2_with (first
          | ((with_reducible refine wpList_min (x := .tmp 19) l.length 100 q hq (by kernel_rfl) (by kernel_rfl) ?_))
          | ((with_reducible refine wpList_append_ow (s := .tmp 22) (x := .tmp 24) (v := .slice Ao (capped 20 100 (ls.take k)).length co) (y := .slice (some ⟨wr.heap.size, 0, none⟩) 1 1) (by kernel_rfl) (by kernel_rfl) Try.underlying22 okSl7 hoa hs1 hB1 h63 hby ?_)
             intro v3 w3 ho3 hg3 hb3
             have hno : ∀ r, (Value.slice Ao (capped 20 100 (ls.take k)).length co).ownBlock = some r → ¬ r < w.heap.size := fun r hr hN => by have := (ho1'.out.lt hr).1; omega
             have HNO := Go.Lib.hid hno
             have hr3 : RdB (fun b => b < w.heap.size) w3 (.slice A1 q c1) T := Rd.grown (Rd.alloc Hrq.out _) hg3 hno
             clear hno
             have ht3 : Ow w.heap.size w3 1 (.slice At (capped 20 100 (ls.take k)).length ct) (capped 20 100 (ls.take k)).length ((capped 20 100 (ls.take k)).map sv) := hta.out.grown hg3 (fun b hb => HT2.out b hb)
             have hg03 := Ow.gb (gb_alloc Hg.out _) hoa (Nat.le_refl _) hg3
             have hd3 : ∀ b, (Value.slice At (capped 20 100 (ls.take k)).length ct).ownBlock = some b → v3.ownBlock ≠ some b := by
               intro b hb e
               rcases hb3 with h | h
               · rw [h] at e; exact HT2.out b hb e
               · rw [h] at e; have := Option.some.inj e; have := (HT1.out.lt hb).2; rw [World.size_alloc] at *; omega
             obtain ⟨A3, c3, rfl⟩ := ho3.form
             have HG03 := Go.Lib.hid hg03
             have HO3 := Go.Lib.hid ho3
             have HD3 := Go.Lib.hid hd3
             have HG3 := Go.Lib.hid hg3
             have HHB3 := Go.Lib.hid hb3
             have hs5 : Src Try.prog 1 24 (.slice (some ⟨w3.heap.size, 0, none⟩) 1 1) 1 [sv T] (w3.alloc (.cells #[sv T] 9)) := src_new (P := Try.prog) Try.underlying24 w3 9 1 1 [sv T] rfl (by intro u hu; rw [List.mem_singleton.1 hu]; rfl)
             have hB5 : w.heap.size ≤ (w3.alloc (.cells #[sv T] 9)).heap.size := by rw [World.size_alloc]; have := hg03.size; omega
             have ht5 := ht3.alloc (.cells #[sv T] 9)
             have HT3 := Go.Lib.hid ht3
             clear ho3 hd3 hg3 hb3 hg03 ht3)
          | ((with_reducible refine wpList_conv_bs (x := .tmp 27) (v := .slice A1 q c1) Try.underlying27 Try.underlying5 Try.underlying9 T (by kernel_rfl) hr3 ?_))
          | ((with_reducible refine wpList_build_str7 (x := .tmp 28) T (by kernel_rfl) ?_))
          | ((with_reducible refine wpList_append_ow (s := .tmp 26) (x := .tmp 29) (v := .slice At (capped 20 100 (ls.take k)).length ct) (y := .slice (some ⟨w3.heap.size, 0, none⟩) 1 1) (by kernel_rfl) (by kernel_rfl) Try.underlying24 okStr7 ht5 hs5 hB5 h63 hby2 ?_)
             intro v5 w5 ho5 hg5 hb5
             obtain ⟨A5, c5, rfl⟩ := ho5.form))
        go_roundw
        case rel =>
          have hgA := Ow.gb (gb_alloc HG03.out _) ht5 (Nat.le_refl _) hg5
          refine ⟨k + 1, by omega, by go_num, Go.Lib.hid ?_, Go.Lib.hid ⟨?_, ?_⟩, Go.Lib.hid hgA⟩
          · rw [HCS.out]
            have h := OwBB.snoc OW.out (by have := OL.out; omega) Hrq.out HO3.out (gb_trans (gb_alloc (gb_refl wr _) _) HG3.out) HNO.out
            have hx : ∀ r, (Value.slice At (capped 20 100 (ls.take k)).length ct).ownBlock = some r → ¬ r < w.heap.size := fun r hr hN => by have := (HT1.out.lt hr).1; omega
            exact (h.gr (gb_alloc (gb_refl w3 _) _)).grown hg5 (fun b hb e => HD3.out b e hb) hx
          · rw [HCS.out, List.map_append, List.length_append]; exact ho5
          · intro b hb e
            rcases hb5 with h | h
            · rw [h] at hb; exact HD3.out b hb e
            · rw [h] at hb; have := Option.some.inj hb; have := (HO3.out.lt e).2; rw [World.size_alloc] at *; omega
        case measure => simp [intOf]; omega
      · have h8' : decide ((k : Int) < 20) = false := decide_eq_false (by omega)
        have HCS := Go.Lib.hid (capped_same 20 100 k ls (by omega))
        clear HL HR
        go_wp2_with fail
        go_roundw
        case rel =>
          refine ⟨k + 1, by omega, by go_num, ?_, ?_, Hg⟩
          · rw [HCS.out]; exact Ho
          · rw [HCS.out]; exact Ht
        case measure => simp [intOf]; omega
    · obtain rfl : k = ls.length := by omega
      have hl' : decide (ls.length < ls.length) = false := decide_eq_false (by omega)
      have hrd := Ho.out.rd (NB' := fun b => b < wr.heap.size) (fun b hb => Nat.lt_of_lt_of_le hb Hg.out.size) (fun b hb => by obtain ⟨vs, h1, _⟩ := Ho.out; exact (h1.lt hb).2)
      have hrt := Ht.out.1.rd (NB := fun b => b < wr.heap.size) (fun b hb => (Ht.out.1.lt hb).2)
      rw [List.take_of_length_le (Nat.le_refl _)] at hrd hrt
      obtain ⟨_, hx, _⟩ := id hrd
      obtain ⟨Ax, cx, rfl, _⟩ := Rd.form hx
      obtain ⟨Ay, cy, rfl, _⟩ := Rd.form hrt
      clear hx
      go_wp2_with fail
      go_ret2
      exact ⟨_, _, _, _, rfl, hrd, hrt, Hg.out⟩
end Go.Proofs.Ytajgklomcapboaa
/- scrivenerlaw07.few: what it gives lies elsewhere. -/
namespace Go.Proofs.Ytajgklomcapboaa
open Go.RowKit Go.Shelf Sc
set_option maxHeartbeats 2000000 in
theorem few_ow (v : Value) (ls : List (List UInt8)) (NB : Nat → Prop) (w : World) (hv : RdBB NB w v ls) (hNB : ∀ b, NB b → b < w.heap.size) :
    Calls Try.prog 16 #[v] w fun e w' => ∃ A c A2 c2, e = .returned (.tuple #[.slice A (few ls).length c, .slice A2 (few ls).length c2]) ∧
      OwBB w.heap.size NB w' (.slice A (few ls).length c) (few ls) ∧ Ow w.heap.size w' 1 (.slice A2 (few ls).length c2) (few ls).length ((few ls).map sv) ∧ w.grownBy w' none := by
  go_enter Try.func16, Try.ntmps16
  obtain ⟨vs0, hv1, hv2⟩ := id hv
  obtain ⟨A, c, rfl, hc⟩ := hv1.form
  have hm := hv1.le
  unfold maxLen at hm
  have H1 := Go.Lib.hid hv1
  have H2 := Go.Lib.hid hv2
  clear hv1 hv2 hv hc
  unfold few
  go_wp2_with fail
  go_loopw [4, 5, 10] (fun vo va n wr => ∃ k : Nat, k ≤ ls.length ∧ n = .int .i64 k ∧ Hid (OwBB w.heap.size NB wr vo (capped 20 100 (ls.take k))) ∧
      Hid (Ow w.heap.size wr 1 va (capped 20 100 (ls.take k)).length ((capped 20 100 (ls.take k)).map sv) ∧ (∀ b, va.ownBlock = some b → vo.ownBlock ≠ some b)) ∧ Hid (w.grownBy wr none))
    (fun _ _ n _ => ls.length - (intOf n).toNat)
  case atStart => exact ⟨0, Nat.zero_le _, rfl, Go.Lib.hid (OwBB.nil _ _ _), Go.Lib.hid ⟨Ow.nil _ _ _, by intro b hb; cases hb⟩, Go.Lib.hid (gb_refl _ _)⟩
  case round =>
    obtain ⟨k, hk, rfl, Ho, Ht, Hg⟩ := hrel
    by_cases hlt : k < ls.length
    · obtain ⟨b, o, c', he, hb, hnc, hcm, hcell⟩ := H1.out.at (by omega)
      injection he with hA _ hcc
      subst hA hcc
      obtain ⟨l, hl⟩ : ∃ l, ls[k]? = some l := ⟨_, List.getElem?_eq_getElem hlt⟩
      obtain ⟨u, hu, hru⟩ := H2.out k l hl
      obtain ⟨A1, c1, rfl, hc1⟩ := hru.form
      have c0 : wr.cell? ⟨b, o + k, none⟩ = some (.slice A1 l.length c1) := cell_grown Hg.out (hcell k _ hu) (by simp)
      have HL := Go.Lib.hid hl
      have HR := Go.Lib.hid (Rd.grown hru Hg.out (by simp))
      have hkI : (0 : Int) ≤ (k : Int) ∧ (k : Int) < 9223372036854775807 := by omega
      have hklt : decide (k < ls.length) = true := decide_eq_true hlt
      clear hl hu hru hcell
      by_cases h8 : k < 20
      · have h8' : decide ((k : Int) < 20) = true := decide_eq_true (by omega)
        obtain ⟨q, hq⟩ : ∃ q, min l.length 100 = q := ⟨_, rfl⟩
        have hrq := RdB.takeTo HR.out 100 q hq
        obtain ⟨T, hT⟩ : ∃ T, T = l.take 100 := ⟨_, rfl⟩
        rw [← hT] at hrq
        obtain ⟨ow, ho1, ho2⟩ := Ho.out
        obtain ⟨Ao, co, rfl⟩ := ho1.form
        obtain ⟨ht1, ht2⟩ := Ht.out
        obtain ⟨At, ct, rfl⟩ := ht1.form
        have hs1 : Src Try.prog 1 22 (.slice (some ⟨wr.heap.size, 0, none⟩) 1 1) 1 [.slice A1 q c1] (wr.alloc (.cells #[.slice A1 q c1] 27)) := src_new (P := Try.prog) Try.underlying22 wr 27 1 1 [.slice A1 q c1] rfl (by intro u hu; rw [List.mem_singleton.1 hu]; rfl)
        have hB1 : w.heap.size ≤ (wr.alloc (.cells #[.slice A1 q c1] 27)).heap.size := by rw [World.size_alloc]; have := Hg.out.size; omega
        have hcl := capped_length 20 100 (ls.take k)
        have h63 : (capped 20 100 (ls.take k)).length + 1 ≤ maxLen := Nat.le_trans (Nat.succ_le_succ hcl) (by decide)
        have hby : ((capped 20 100 (ls.take k)).length + 1) * 24 ≤ 140737488355328 := by omega
        have hby2 : ((capped 20 100 (ls.take k)).length + 1) * 16 ≤ 140737488355328 := by omega
        have OL := Go.Lib.hid ho1.len
        have OW := Go.Lib.hid ho2
        have HCS := Go.Lib.hid (capped_snoc 20 100 k ls l HL.out h8)
        rw [← hT] at HCS
        have Hrq := Go.Lib.hid hrq
        have hoa := ho1.alloc (.cells #[.slice A1 q c1] 27)
        have ho1' := Go.Lib.hid ho1
        have hta := Go.Lib.hid (ht1.alloc (.cells #[.slice A1 q c1] 27))
        have HT1 := Go.Lib.hid ht1
        have HT2 := Go.Lib.hid ht2
        clear ho1 ho2 hcl hrq ht1 ht2 hT
        go_wp2_with (first
          | ((with_reducible refine wpList_min (x := .tmp 19) l.length 100 q hq (by kernel_rfl) (by kernel_rfl) ?_))
          | ((with_reducible refine wpList_append_ow (s := .tmp 22) (x := .tmp 24) (v := .slice Ao (capped 20 100 (ls.take k)).length co) (y := .slice (some ⟨wr.heap.size, 0, none⟩) 1 1) (by kernel_rfl) (by kernel_rfl) Try.underlying22 okSl7 hoa hs1 hB1 h63 hby ?_)
             intro v3 w3 ho3 hg3 hb3
             have hno : ∀ r, (Value.slice Ao (capped 20 100 (ls.take k)).length co).ownBlock = some r → ¬ NB r := fun r hr hN => by have := (ho1'.out.lt hr).1; have := hNB r hN; omega
             have HNO := Go.Lib.hid hno
             have hr3 : RdB NB w3 (.slice A1 q c1) T := Rd.grown (Rd.alloc Hrq.out _) hg3 hno
             clear hno
             have ht3 : Ow w.heap.size w3 1 (.slice At (capped 20 100 (ls.take k)).length ct) (capped 20 100 (ls.take k)).length ((capped 20 100 (ls.take k)).map sv) := hta.out.grown hg3 (fun b hb => HT2.out b hb)
             have hg03 := Ow.gb (gb_alloc Hg.out _) hoa (Nat.le_refl _) hg3
             have hd3 : ∀ b, (Value.slice At (capped 20 100 (ls.take k)).length ct).ownBlock = some b → v3.ownBlock ≠ some b := by
               intro b hb e
               rcases hb3 with h | h
               · rw [h] at e; exact HT2.out b hb e
               · rw [h] at e; have := Option.some.inj e; have := (HT1.out.lt hb).2; rw [World.size_alloc] at *; omega
             obtain ⟨A3, c3, rfl⟩ := ho3.form
             have HG03 := Go.Lib.hid hg03
             have HO3 := Go.Lib.hid ho3
             have HD3 := Go.Lib.hid hd3
             have HG3 := Go.Lib.hid hg3
             have HHB3 := Go.Lib.hid hb3
             have hs5 : Src Try.prog 1 24 (.slice (some ⟨w3.heap.size, 0, none⟩) 1 1) 1 [sv T] (w3.alloc (.cells #[sv T] 9)) := src_new (P := Try.prog) Try.underlying24 w3 9 1 1 [sv T] rfl (by intro u hu; rw [List.mem_singleton.1 hu]; rfl)
             have hB5 : w.heap.size ≤ (w3.alloc (.cells #[sv T] 9)).heap.size := by rw [World.size_alloc]; have := hg03.size; omega
             have ht5 := ht3.alloc (.cells #[sv T] 9)
             have HT3 := Go.Lib.hid ht3
             clear ho3 hd3 hg3 hb3 hg03 ht3)
          | ((with_reducible refine wpList_conv_bs (x := .tmp 27) (v := .slice A1 q c1) Try.underlying27 Try.underlying5 Try.underlying9 T (by kernel_rfl) hr3 ?_))
          | ((with_reducible refine wpList_build_str7 (x := .tmp 28) T (by kernel_rfl) ?_))
          | ((with_reducible refine wpList_append_ow (s := .tmp 26) (x := .tmp 29) (v := .slice At (capped 20 100 (ls.take k)).length ct) (y := .slice (some ⟨w3.heap.size, 0, none⟩) 1 1) (by kernel_rfl) (by kernel_rfl) Try.underlying24 okStr7 ht5 hs5 hB5 h63 hby2 ?_)
             intro v5 w5 ho5 hg5 hb5
             obtain ⟨A5, c5, rfl⟩ := ho5.form))
        go_roundw
        case rel =>
          have hgA := Ow.gb (gb_alloc HG03.out _) ht5 (Nat.le_refl _) hg5
          refine ⟨k + 1, by omega, by go_num, Go.Lib.hid ?_, Go.Lib.hid ⟨?_, ?_⟩, Go.Lib.hid hgA⟩
          · rw [HCS.out]
            have h := OwBB.snoc OW.out (by have := OL.out; omega) Hrq.out HO3.out (gb_trans (gb_alloc (gb_refl wr _) _) HG3.out) HNO.out
            have hx : ∀ r, (Value.slice At (capped 20 100 (ls.take k)).length ct).ownBlock = some r → ¬ NB r := fun r hr hN => by have := (HT1.out.lt hr).1; have := hNB r hN; omega
            exact (h.gr (gb_alloc (gb_refl w3 _) _)).grown hg5 (fun b hb e => HD3.out b e hb) hx
          · rw [HCS.out, List.map_append, List.length_append]; exact ho5
          · intro b hb e
            rcases hb5 with h | h
            · rw [h] at hb; exact HD3.out b hb e
            · rw [h] at hb; have := Option.some.inj hb; have := (HO3.out.lt e).2; rw [World.size_alloc] at *; omega
        case measure => simp [intOf]; omega
      · have h8' : decide ((k : Int) < 20) = false := decide_eq_false (by omega)
        have HCS := Go.Lib.hid (capped_same 20 100 k ls (by omega))
        clear HL HR
        go_wp2_with fail
        go_roundw
        case rel =>
          refine ⟨k + 1, by omega, by go_num, ?_, ?_, Hg⟩
          · rw [HCS.out]; exact Ho
          · rw [HCS.out]; exact Ht
        case measure => simp [intOf]; omega
    · obtain rfl : k = ls.length := by omega
      have hl' : decide (ls.length < ls.length) = false := decide_eq_false (by omega)
      have hrd := Ho.out
      have hrt := Ht.out.1
      rw [List.take_of_length_le (Nat.le_refl _)] at hrd hrt
      obtain ⟨_, hx, _⟩ := id hrd
      obtain ⟨Ax, cx, rfl⟩ := hx.form
      obtain ⟨Ay, cy, rfl⟩ := hrt.form
      clear hx
      go_wp2_with fail
      go_ret2
      exact ⟨_, _, _, _, rfl, hrd, hrt, Hg.out⟩
end Go.Proofs.Ytajgklomcapboaa
/- scrivenerref07: Sum, Top, Root. -/
namespace Sc
open Go Go.RowKit
theorem rss_of_cut {w : World} {v : Value} {n k : Nat} {ls : List (List UInt8)} (h : Rd (fun b => b < w.heap.size) w 1 v (n - k) (((ls.map sv).drop (k * 1)).take ((n - k) * 1))) (hn : ls.length = n) : RSS w v (ls.drop k) := by
  unfold RSS
  rw [List.length_drop, hn, List.map_drop]
  rw [Nat.mul_one, Nat.mul_one, List.take_of_length_le (by rw [List.length_drop, List.length_map, hn]; exact Nat.le_refl _)] at h
  exact h
def cutP (n i : Nat) (l : List UInt8) : List UInt8 := l.take n ++ (List.replicate (i - n) 0 ++ l.drop i)
theorem cutP_start (n : Nat) (l : List UInt8) : cutP n n l = l := by unfold cutP; rw [Nat.sub_self]; simp
theorem cutP_len {n i : Nat} {l : List UInt8} (hi : i ≤ 32) (hn : n ≤ i) (hl : l.length = 32) : (cutP n i l).length = 32 := by
  unfold cutP; rw [List.length_append, List.length_append, List.length_take, List.length_replicate, List.length_drop]; omega
theorem cutP_step {n i : Nat} {l : List UInt8} (hi : i < 32) (hn : n ≤ i) (hl : l.length = 32) : (cutP n i l).set i 0 = cutP n (i + 1) l := by
  unfold cutP
  have ht : (l.take n).length = n := by rw [List.length_take]; omega
  rw [List.set_append_right _ _ (by omega), ht, List.set_append_right _ _ (by rw [List.length_replicate]; exact Nat.le_refl _), List.length_replicate, Nat.sub_self, List.drop_eq_getElem_cons (by omega : i < l.length), List.set_cons_zero,
    show i + 1 - n = (i - n) + 1 by omega, List.replicate_succ', List.append_assoc]
  rfl
theorem cutP_end {n i : Nat} {x : Id} (hi : i = max 32 n) : cutP n i x.l = (cutId (min n 32) x).l := by
  unfold cutP cutId
  have hx := x.h
  show _ = x.l.take (min n 32) ++ List.replicate (32 - min (min n 32) 32) 0
  rw [List.drop_of_length_le (by omega), List.append_nil]
  rcases Nat.le_total n 32 with h | h
  · rw [Nat.min_eq_left h, Nat.min_eq_left h, show i = 32 by omega]
  · rw [show i = n by omega, Nat.sub_self, Nat.min_eq_right h, List.take_of_length_le (by omega), List.take_of_length_le (by omega)]; rfl
end Sc
namespace Go.Proofs.Ytajgklomcapboaa
open Go.RowKit Go.Shelf Sc
set_option maxHeartbeats 2000000 in
set_option maxRecDepth 100000 in
theorem rsum_any (c : Int) (l : List UInt8) (hl : l.length ≤ 1000001) (w : World) : Calls Try.prog 28 #[.int .i64 c, sv l] w fun e w' => e = .returned (idv (sumC c l)) ∧ w.grownBy w' none := by
  go_enter Try.func28, Try.ntmps28
  obtain ⟨X, hX⟩ : ∃ X, X = sha l := ⟨_, rfl⟩
  obtain ⟨n, hn⟩ : ∃ n : Nat, n = (max 1 c).toNat := ⟨_, rfl⟩
  have hn1 : 1 ≤ n := by omega
  have HS : Hid (cutId (min n 32) X = sumC c l) := Go.Lib.hid (by rw [hX]; unfold sumC cutN; rw [hn]; congr 1; omega)
  have hof : ∀ w : World, Calls Try.prog 53 #[sv l] w fun e w' => e = .returned (idv X) ∧ w.grownBy w' none := fun w => by rw [hX]; exact refOf_any l (by omega) w
  obtain ⟨W1, hW1⟩ : ∃ W1, W1 = w.alloc (.cells idZ.toArray 34) := ⟨_, rfl⟩
  have b1 : Bk W1 w.heap.size 34 idZ := by rw [hW1]; exact Bk.new w _ _
  have g1 : w.grownBy W1 none := by rw [hW1]; exact gb_alloc (gb_refl w none) _
  have HW := Go.Lib.hid hW1
  rw [← HS.out]
  clear hW1 hX
  go_upto_region 2 with (first
    | ((with_reducible refine wpList_alloc_row (E := 34) idZ infoId ?_); first | rw [← HW.out] | skip)
    | (go_at_call 53; ((with_reducible refine (hof _).mono ?_); rintro e w2 ⟨rfl, g2⟩); have b2 := b1.grown g2 (by simp); have bx := Bk.new w2 34 idZ)
    | ((with_reducible refine wpList_store_bk (t := 34) w2.heap.size 34 idZ (X.l.map bv) bx (by kernel_rfl) (by kernel_rfl) (idSize _) (idLen _) (idOne _) ?_); intro w3 h3 g3 z3))
  have b3 := (b2.alloc (.cells idZ.toArray 34)).grown g3 (by have := b2.lt; simp; omega)
  have g03 := gb_trans_new (gb_alloc (gb_trans g1 g2) (.cells idZ.toArray 34)) g3 (Nat.le_trans g1.size g2.size)
  have hlt : w.heap.size < w2.heap.size := b2.lt
  obtain ⟨B, hB⟩ : ∃ B, B = w2.heap.size := ⟨_, rfl⟩
  rw [← hB] at h3 hlt ⊢
  have hxl := X.h
  clear g1 g2 g3 z3 b1 b2 bx hB hof
  have HB3 := Go.Lib.hid b3
  have HG3 := Go.Lib.hid g03
  have HX3 := Go.Lib.hid h3
  clear b3 g03 h3
  have fin : ∀ (i : Nat) (wr : World), i = max 32 n → Bk wr B 34 ((cutP n i X.l).map bv) → Bk wr B 34 ((cutId (min n 32) X).l.map bv) := fun i wr hi h => by rw [← cutP_end hi]; exact h
  by_cases hc : c < 1
  · have hd : decide (c < 1) = true := decide_eq_true hc
    have HM : Hid ((1 : Int) = (n : Int)) := Go.Lib.hid (by omega)
    clear hn
    go_wp2_with fail
    go_loopw [7] (fun v wr => ∃ i : Nat, n ≤ i ∧ i ≤ max 32 n ∧ v = .int .i64 (i : Int) ∧ Hid (Bk wr B 34 ((cutP n i X.l).map bv)) ∧ Hid (Bk wr w.heap.size 34 idZ) ∧ Hid (w.grownBy wr none)) (fun v _ => 32 - (intOf v).toNat)
    case atStart => exact ⟨n, Nat.le_refl _, Nat.le_max_right _ _, by rw [HM.out], by rw [cutP_start]; exact HX3, HB3, HG3⟩
    case round =>
      obtain ⟨i, hi1, hi2, rfl, HX, HB, HG⟩ := hrel
      clear HM HX3 HB3 HG3
      by_cases hlt2 : i < 32
      · have hI : (0 : Int) ≤ (i : Int) ∧ (i : Int) < 32 := by omega
        have c0 := HX.out.cellAt (i := i) (List.getElem?_eq_getElem (by rw [List.length_map, cutP_len (by omega) hi1 hxl]; omega))
        have f0 := HX.out.frozen i
        generalize ((cutP n i X.l).map bv)[i]'_ = y0 at c0
        go_wp2_with fail
        go_roundw
        case rel =>
          refine ⟨i + 1, by omega, by omega, by go_num, Go.Lib.hid ?_, Go.Lib.hid (HB.out.far (p := ⟨B, i, none⟩) (by show w.heap.size ≠ B; omega) _), Go.Lib.hid (gb_set_new HG.out _ _ (by show w.heap.size ≤ B; omega))⟩
          have h := HX.out.set i (bv 0)
          rw [← List.map_set, cutP_step hlt2 hi1 hxl] at h
          exact h
        case measure => simp [intOf]; omega
      · have hb := fin i wr (by omega) HX.out
        have hbz := HB.out
        obtain ⟨Y, hY⟩ : ∃ Y, cutId (min n 32) X = Y := ⟨_, rfl⟩
        rw [hY] at hb
        have HY := Go.Lib.hid hY
        clear hY
        clear HX
        go_wp2_with (first
          | ((with_reducible refine wpList_load_bk (x := .tmp 5) (t := 34) B _ (Y.l.map bv) _ hb (by kernel_rfl) Try.underlying34 rfl (idSize _) ?_))
          | ((with_reducible refine wpList_store_bk (t := 34) w.heap.size 34 idZ (Y.l.map bv) hbz (by kernel_rfl) (by kernel_rfl) (idSize _) (idLen _) (idOne _) ?_); intro w5 h5 g5 z5))
        try go_frame
        exact bodyPost_ret (results_id rfl _ _ w.heap.size Y rfl h5) rfl ⟨by rw [HY.out], gb_trans_new HG.out g5 (Nat.le_refl _)⟩
  · have hd : decide (c < 1) = false := decide_eq_false hc
    have HM : Hid (c = (n : Int)) := Go.Lib.hid (by omega)
    clear hn
    go_wp2_with fail
    go_loopw [7] (fun v wr => ∃ i : Nat, n ≤ i ∧ i ≤ max 32 n ∧ v = .int .i64 (i : Int) ∧ Hid (Bk wr B 34 ((cutP n i X.l).map bv)) ∧ Hid (Bk wr w.heap.size 34 idZ) ∧ Hid (w.grownBy wr none)) (fun v _ => 32 - (intOf v).toNat)
    case atStart => exact ⟨n, Nat.le_refl _, Nat.le_max_right _ _, by rw [HM.out], by rw [cutP_start]; exact HX3, HB3, HG3⟩
    case round =>
      obtain ⟨i, hi1, hi2, rfl, HX, HB, HG⟩ := hrel
      clear HM HX3 HB3 HG3
      by_cases hlt2 : i < 32
      · have hI : (0 : Int) ≤ (i : Int) ∧ (i : Int) < 32 := by omega
        have c0 := HX.out.cellAt (i := i) (List.getElem?_eq_getElem (by rw [List.length_map, cutP_len (by omega) hi1 hxl]; omega))
        have f0 := HX.out.frozen i
        generalize ((cutP n i X.l).map bv)[i]'_ = y0 at c0
        go_wp2_with fail
        go_roundw
        case rel =>
          refine ⟨i + 1, by omega, by omega, by go_num, Go.Lib.hid ?_, Go.Lib.hid (HB.out.far (p := ⟨B, i, none⟩) (by show w.heap.size ≠ B; omega) _), Go.Lib.hid (gb_set_new HG.out _ _ (by show w.heap.size ≤ B; omega))⟩
          have h := HX.out.set i (bv 0)
          rw [← List.map_set, cutP_step hlt2 hi1 hxl] at h
          exact h
        case measure => simp [intOf]; omega
      · have hb := fin i wr (by omega) HX.out
        have hbz := HB.out
        obtain ⟨Y, hY⟩ : ∃ Y, cutId (min n 32) X = Y := ⟨_, rfl⟩
        rw [hY] at hb
        have HY := Go.Lib.hid hY
        clear hY
        clear HX
        go_wp2_with (first
          | ((with_reducible refine wpList_load_bk (x := .tmp 5) (t := 34) B _ (Y.l.map bv) _ hb (by kernel_rfl) Try.underlying34 rfl (idSize _) ?_))
          | ((with_reducible refine wpList_store_bk (t := 34) w.heap.size 34 idZ (Y.l.map bv) hbz (by kernel_rfl) (by kernel_rfl) (idSize _) (idLen _) (idOne _) ?_); intro w5 h5 g5 z5))
        try go_frame
        exact bodyPost_ret (results_id rfl _ _ w.heap.size Y rfl h5) rfl ⟨by rw [HY.out], gb_trans_new HG.out g5 (Nat.le_refl _)⟩
def rtopφ (n k c9 m : Nat) (A : Option Addr) (c : Int) (ld : List (List UInt8)) (R1 R2 : Sc.Id) (i : Nat) (v : Value) (w : World) : Prop := match i with
  | 0 => v = .int .i64 c
  | 1 => v = .slice A n c9
  | 2 => v = .int .i64 (k : Int)
  | 3 => v = .slice A k c9
  | 4 => v = idv R1
  | 5 => v = sv R1.l
  | 6 => v = sv (1 :: R1.l)
  | 7 => v = .int .i64 c
  | 8 => v = .slice A n c9
  | 9 => v = .int .i64 (k : Int)
  | 10 => ∃ A2 c2, v = .slice A2 m c2 ∧ RSS w (.slice A2 m c2) ld
  | 11 => v = idv R2
  | 12 => v = sv R2.l
  | 13 => v = sv (1 :: (R1.l ++ R2.l))
  | _ => True
theorem rtopφ_gr (n k c9 m : Nat) (A : Option Addr) (c : Int) (ld : List (List UInt8)) (R1 R2 : Sc.Id) : ∀ i v w w', rtopφ n k c9 m A c ld R1 R2 i v w → Gr w w' → rtopφ n k c9 m A c ld R1 R2 i v w' := by
  intro i v w w' h hg
  match i with
  | 0 => exact h
  | 1 => exact h
  | 2 => exact h
  | 3 => exact h
  | 4 => exact h
  | 5 => exact h
  | 6 => exact h
  | 7 => exact h
  | 8 => exact h
  | 9 => exact h
  | 10 => exact by obtain ⟨A2, c2, e, h⟩ := h; exact ⟨A2, c2, e, RSS.gr h hg⟩
  | 11 => exact h
  | 12 => exact h
  | 13 => exact h
  | i + 14 => exact h
abbrev RRoot (c : Int) (n : Nat) : Prop := ∀ (v : Value) (ls : List (List UInt8)) (w : World), ls.length < n → RSS w v ls → (∀ l ∈ ls, l.length ≤ 1000000) →
  Calls Try.prog 18 #[.int .i64 c, v] w fun e w' => e = .returned (idv (rootH (sumC c) ls)) ∧ w.grownBy w' none
set_option maxHeartbeats 4000000 in
theorem rtop_of (c : Int) (v : Value) (ls : List (List UInt8)) (w : World) (hI : RRoot c ls.length) (hv : RSS w v ls) (hl : ∀ l ∈ ls, l.length ≤ 1000000) (hn0 : ls.length ≤ 1000000) :
    Calls Try.prog 44 #[.int .i64 c, v] w fun e w' => e = .returned (sv (topH (sumC c) ls)) ∧ w.grownBy w' none := by
  go_enter Try.func44, Try.ntmps44
  have HLS := Go.Lib.hid hv
  have hrd := hv
  unfold RSS at hrd
  obtain ⟨A, c9, rfl, hc⟩ := Rd.form hrd
  obtain ⟨n, hn⟩ : ∃ n, n = ls.length := ⟨_, rfl⟩
  have HI := Go.Lib.hid hI
  rw [← hn] at HLS HI hrd hc hn0 ⊢
  clear hI hv
  rcases (by omega : n = 0 ∨ n = 1 ∨ 2 ≤ n) with h0 | h0 | h0
  · subst h0
    obtain rfl : ls = [] := List.eq_nil_of_length_eq_zero hn.symm
    clear hrd hl HI HLS hn0 hn hc
    go_wp2_with fail
    go_ret
    rw [topH_nil]
    exact ⟨rfl, gb_refl _ _⟩
  · subst h0
    obtain ⟨x, rfl⟩ : ∃ x, ls = [x] := List.length_eq_one_iff.1 hn.symm
    obtain ⟨b, o, c', he, hb, hnc, hcm, hcell⟩ := hrd.at (by omega)
    injection he with hA _ hcc
    subst hA hcc
    have ce := hcell 0 (sv x) rfl
    rw [Nat.add_zero] at ce
    have hxl := hl x (by simp)
    have hal : [(0 : UInt8)].length + x.length ≤ 9223372036854775807 := by simp only [List.length_cons, List.length_nil]; omega
    obtain ⟨T, hT⟩ : ∃ T, T = topH (sumC c) [x] := ⟨_, rfl⟩
    have hT2 : T = 0 :: x := by rw [hT, topH_one]
    rw [← hT]
    have HT2 := Go.Lib.hid hT2
    clear hcell hl HI HLS hrd hT hT2 hn0 hn
    go_wp2_with ((with_reducible refine wpList_add_str (z := .tmp 14) [0] x (by kernel_rfl) (by kernel_rfl) hal ?_))
    go_ret
    rw [HT2.out]
    exact ⟨rfl, gb_refl _ _⟩
  · obtain ⟨k, hk⟩ : ∃ k, k = half n := ⟨_, rfl⟩
    have hk1 : 1 ≤ k := by rw [hk]; exact half_pos n
    have hk2 : k < n := by rw [hk]; exact half_lt h0
    have hkn : k ≤ n := by omega
    obtain ⟨lk, hlk⟩ : ∃ lk, ls.take k = lk := ⟨_, rfl⟩
    obtain ⟨ld, hld⟩ : ∃ ld, ls.drop k = ld := ⟨_, rfl⟩
    obtain ⟨R1, hR1⟩ : ∃ R1, rootH (sumC c) lk = R1 := ⟨_, rfl⟩
    obtain ⟨R2, hR2⟩ : ∃ R2, rootH (sumC c) ld = R2 := ⟨_, rfl⟩
    obtain ⟨m, hm⟩ : ∃ m, m = n - k := ⟨_, rfl⟩
    have hlkl : lk.length = k := by rw [← hlk, List.length_take]; omega
    have hldl : ld.length = m := by rw [← hld, List.length_drop, hm, hn]
    have HKL : Hid (lk.length < n ∧ (∀ l ∈ lk, l.length ≤ 1000000) ∧ ld.length < n ∧ ∀ l ∈ ld, l.length ≤ 1000000) :=
      Go.Lib.hid ⟨by omega, fun l h => hl l (by rw [← hlk] at h; exact List.mem_of_mem_take h), by omega, fun l h => hl l (by rw [← hld] at h; exact List.mem_of_mem_drop h)⟩
    have HLK : Hid (RSS w (.slice A k c9) lk) := Go.Lib.hid (by
      have h := Rd.takeTo hrd k hkn
      unfold RSS
      rw [hlkl, ← hlk, List.map_take]
      rw [Nat.mul_one] at h; exact h)
    have HTT : Hid (topH (sumC c) ls = 1 :: (R1.l ++ R2.l)) := Go.Lib.hid (by rw [topH_two _ (by omega), ← hn, ← hk, hlk, hld, hR1, hR2])
    have HLN : Hid (ls.length = n) := Go.Lib.hid hn.symm
    have HLD := Go.Lib.hid hld
    have HDL := Go.Lib.hid hldl
    have HR1 := Go.Lib.hid hR1
    have HR2 := Go.Lib.hid hR2
    have HM := Go.Lib.hid hm
    have hkI : (1 : Int) ≤ (k : Int) ∧ (k : Int) < (n : Int) := by omega
    have hncI : (n : Int) ≤ (c9 : Int) ∧ (n : Int) ≤ 1000000 := by omega
    have hal1 : [(1 : UInt8)].length + R1.l.length ≤ 9223372036854775807 := by rw [R1.h]; decide
    have hal2 : (1 :: R1.l).length + R2.l.length ≤ 9223372036854775807 := by rw [List.length_cons, R1.h, R2.h]; decide
    have hhalf : ∀ w : World, Calls Try.prog 48 #[.int .i64 (n : Int)] w fun e w' => e = .returned (.int .i64 (k : Int)) ∧ w' = w := fun w => by rw [hk]; exact refHalf_any n h0 (by omega) w
    clear hrd hl hk hlk hld hR1 hR2 hlkl hldl hn hm
    go_upto_region 6 with (go_at_call 48; ((with_reducible refine (hhalf _).mono ?_); rintro e w2 ⟨rfl, rfl⟩))
    refine wp_region_specs 14 [19, 20, 21, 22, 23, 24, 25, 26, 27, 28, 29, 30, 31, 32] (by kernel_rfl) (by kernel_rfl) (rtopφ n k c9 m A c ld R1 R2) (rtopφ_gr n k c9 m A c ld R1 R2) ?step ?fin
    case step =>
      intro i_ o_ ho hi_ u w' hg hd
      rcases (by omega : i_ = 0 ∨ i_ = 1 ∨ i_ = 2 ∨ i_ = 3 ∨ i_ = 4 ∨ i_ = 5 ∨ i_ = 6 ∨ i_ = 7 ∨ i_ = 8 ∨ i_ = 9 ∨ i_ = 10 ∨ i_ = 11 ∨ i_ = 12 ∨ i_ = 13) with rfl | rfl | rfl | rfl | rfl | rfl | rfl | rfl | rfl | rfl | rfl | rfl | rfl | rfl <;> obtain rfl := Option.some.inj ho <;>
        simp (decide := true) only [fillAct, List.mapIdx_cons, List.mapIdx_nil, Nat.reduceAdd, if_true, if_false, List.getD_cons_zero, List.getD_cons_succ]
      · clear hd ho
        go_wp2_with fail
        exact ⟨rfl, gb_refl _ _, rfl⟩
      · clear hd ho
        go_wp2_with fail
        exact ⟨rfl, gb_refl _ _, rfl⟩
      · clear hd ho
        go_wp2_with fail
        exact ⟨rfl, gb_refl _ _, rfl⟩
      · have h1 : u 20 = .slice A n c9 := hd 1 (by kernel_rfl)
        have h2 : u 21 = .int .i64 (k : Int) := hd 2 (by kernel_rfl)
        clear hd ho
        rw [h1, h2]
        go_wp2_with fail
        exact ⟨rfl, gb_refl _ _, rfl⟩
      · have h0 : u 19 = .int .i64 c := hd 0 (by kernel_rfl)
        have h3 : u 22 = .slice A k c9 := hd 3 (by kernel_rfl)
        clear hd ho
        rw [h0, h3]
        have hl1 := RSS.gr HLK.out hg
        go_wp2_with (go_at_call 18; ((with_reducible refine (HI.out _ lk _ HKL.out.1 hl1 HKL.out.2.1).mono ?_); rintro e w3 ⟨rfl, g3⟩; rw [HR1.out]))
        exact ⟨rfl, g3, rfl⟩
      · have h4 : u 23 = idv R1 := hd 4 (by kernel_rfl)
        clear hd ho
        rw [h4]
        go_wp2_with (go_at_call 49; ((with_reducible refine (text_any R1 _).mono ?_); rintro e w3 ⟨rfl, g3⟩))
        exact ⟨rfl, g3, rfl⟩
      · have h5 : u 24 = sv R1.l := hd 5 (by kernel_rfl)
        clear hd ho
        rw [h5]
        go_wp2_with ((with_reducible refine wpList_add_str (z := .tmp 24) [1] R1.l (by kernel_rfl) (by kernel_rfl) hal1 ?_))
        exact ⟨rfl, gb_refl _ _, rfl⟩
      · clear hd ho
        go_wp2_with fail
        exact ⟨rfl, gb_refl _ _, rfl⟩
      · clear hd ho
        go_wp2_with fail
        exact ⟨rfl, gb_refl _ _, rfl⟩
      · clear hd ho
        go_wp2_with fail
        exact ⟨rfl, gb_refl _ _, rfl⟩
      · have h8 : u 27 = .slice A n c9 := hd 8 (by kernel_rfl)
        have h9 : u 28 = .int .i64 (k : Int) := hd 9 (by kernel_rfl)
        clear hd ho
        rw [h8, h9]
        have hrd := RSS.gr HLS.out hg
        unfold RSS at hrd
        rw [HLN.out] at hrd
        go_wp2_with ((with_reducible refine wpList_cut (x := .tmp 27) Try.underlying24 (by kernel_rfl) hrd (by kernel_rfl) k n (.inr ⟨_, rfl, by kernel_rfl⟩) (.inl ⟨rfl, rfl⟩) hkn (Nat.le_refl _) ?_); intro v9 hv9)
        have h9 : RSS w' v9 ld := by
          rw [← HLD.out]; exact rss_of_cut hv9 HLN.out
        have hdl : ld.length = m := HDL.out
        unfold RSS at h9
        rw [hdl] at h9
        obtain ⟨A2, c2, rfl, hcc⟩ := Rd.form h9
        exact ⟨rfl, gb_refl _ _, ⟨A2, c2, rfl, by unfold RSS; rw [hdl]; exact h9⟩⟩
      · have h7 : u 26 = .int .i64 c := hd 7 (by kernel_rfl)
        have h10 : ∃ A2 c2, (u 29) = .slice A2 m c2 ∧ RSS w' (.slice A2 m c2) ld := hd 10 (by kernel_rfl)
        clear hd ho
        rw [h7]
        obtain ⟨A2, c2, e10, hl1⟩ := h10
        rw [e10]
        go_wp2_with (go_at_call 18; ((with_reducible refine (HI.out _ ld _ HKL.out.2.2.1 hl1 HKL.out.2.2.2).mono ?_); rintro e w3 ⟨rfl, g3⟩; rw [HR2.out]))
        exact ⟨rfl, g3, rfl⟩
      · have h11 : u 30 = idv R2 := hd 11 (by kernel_rfl)
        clear hd ho
        rw [h11]
        go_wp2_with (go_at_call 49; ((with_reducible refine (text_any R2 _).mono ?_); rintro e w3 ⟨rfl, g3⟩))
        exact ⟨rfl, g3, rfl⟩
      · have h6 : u 25 = sv (1 :: R1.l) := hd 6 (by kernel_rfl)
        have h12 : u 31 = sv R2.l := hd 12 (by kernel_rfl)
        clear hd ho
        rw [h6, h12]
        go_wp2_with ((with_reducible refine wpList_add_str (x := .tmp 25) (z := .tmp 31) (1 :: R1.l) R2.l (by kernel_rfl) (by kernel_rfl) hal2 ?_))
        exact ⟨rfl, gb_refl _ _, rfl⟩
    case fin =>
      intro u w5 hg hφ
      have h32 : u 32 = sv (1 :: (R1.l ++ R2.l)) := hφ 13 (by omega)
      simp (decide := true) only [fillAct, List.mapIdx_cons, List.mapIdx_nil, Nat.reduceAdd, if_true, if_false, List.drop_succ_cons, List.drop_zero]
      clear hφ
      rw [h32]
      go_wp2_with fail
      go_ret
      rw [HTT.out]
      exact ⟨rfl, hg⟩
set_option maxHeartbeats 1000000 in
theorem rroot_of (c : Int) (v : Value) (ls : List (List UInt8)) (w : World) (hI : RRoot c ls.length) (hv : RSS w v ls) (hl : ∀ l ∈ ls, l.length ≤ 1000000) (hn0 : ls.length ≤ 1000000) :
    Calls Try.prog 18 #[.int .i64 c, v] w fun e w' => e = .returned (idv (rootH (sumC c) ls)) ∧ w.grownBy w' none := by
  go_enter Try.func18, Try.ntmps18
  obtain ⟨T, hT⟩ : ∃ T, T = topH (sumC c) ls := ⟨_, rfl⟩
  obtain ⟨X, hX⟩ : ∃ X, X = sumC c T := ⟨_, rfl⟩
  have HX : Hid (rootH (sumC c) ls = X) := Go.Lib.hid (by rw [hX, hT]; rfl)
  have hTl : T.length ≤ 1000001 := by rw [hT]; exact topH_len c hl
  obtain ⟨W1, hW1⟩ : ∃ W1, W1 = w.alloc (.cells idZ.toArray 34) := ⟨_, rfl⟩
  have b1 : Bk W1 w.heap.size 34 idZ := by rw [hW1]; exact Bk.new w _ _
  have g1 : w.grownBy W1 none := by rw [hW1]; exact gb_alloc (gb_refl w none) _
  have hv1 := RSS.gr hv g1
  have htop : Calls Try.prog 44 #[.int .i64 c, v] W1 fun e w' => e = .returned (sv T) ∧ W1.grownBy w' none := by
    rw [hT]; exact rtop_of c v ls W1 hI hv1 hl hn0
  have hrd := hv
  unfold RSS at hrd
  obtain ⟨A, c9, rfl, hc⟩ := Rd.form hrd
  have hsum : ∀ (w : World), Calls Try.prog 28 #[.int .i64 c, sv T] w fun e w' => e = .returned (idv X) ∧ w.grownBy w' none := fun w => by
    rw [hX]; exact rsum_any c T hTl w
  rw [HX.out]
  obtain ⟨n, hn⟩ : ∃ n, n = ls.length := ⟨_, rfl⟩
  rw [← hn] at htop ⊢
  have HW := Go.Lib.hid hW1
  clear hv hv1 hrd hT hX hW1 hn hTl hc
  go_wp2_with (first
    | ((with_reducible refine wpList_alloc_row (E := 34) idZ infoId ?_); rw [← HW.out])
    | (go_at_call 44; ((with_reducible refine htop.mono ?_); rintro e w3 ⟨rfl, g3⟩; have b3 := b1.grown g3 (by simp)))
    | (go_at_call 28; ((with_reducible refine (hsum _).mono ?_); rintro e w4 ⟨rfl, g4⟩; have b4 := b3.grown g4 (by simp)))
    | ((with_reducible refine wpList_store_bk (t := 34) w.heap.size 34 idZ (X.l.map bv) b4 (by kernel_rfl) (by kernel_rfl) (idSize _) (idLen _) (idOne _) ?_); intro w5 h5 g5 z5))
  try go_frame
  exact bodyPost_ret (results_id rfl _ _ w.heap.size X rfl h5) rfl ⟨rfl, gb_trans_new (gb_trans (gb_trans g1 g3) g4) g5 (Nat.le_refl _)⟩
theorem rroot_all (c : Int) : ∀ n, n ≤ 1000001 → RRoot c n := by
  intro n
  induction n with
  | zero => intro _ v ls w h; exact absurd h (Nat.not_lt_zero _)
  | succ n ih =>
    intro hn v ls w h hv hl
    have hI : RRoot c ls.length := fun v ls' w h' => ih (by omega) v ls' w (by omega)
    exact rroot_of c v ls w hI hv hl (by omega)
theorem rroot_any (c : Int) (v : Value) (ls : List (List UInt8)) (w : World) (hv : RSS w v ls) (hl : ∀ l ∈ ls, l.length ≤ 1000000) (hn0 : ls.length ≤ 1000000) :
    Calls Try.prog 18 #[.int .i64 c, v] w fun e w' => e = .returned (idv (rootH (sumC c) ls)) ∧ w.grownBy w' none := rroot_all c 1000001 (Nat.le_refl _) v ls w (by omega) hv hl
end Go.Proofs.Ytajgklomcapboaa
/- scrivenerlaw07: pair, same. -/
namespace Go.Proofs.Ytajgklomcapboaa
open Go.RowKit Go.Shelf Sc
def pairφ (b n1 c1 n2 c2 : Nat) (A1 A2 : Option Addr) (c : Int) (l1 l2 : List UInt8) (R : Sc.Id) (i : Nat) (v : Value) (_w : World) : Prop := match i with
  | 0 => v = .pointer (some ⟨b, 0, none⟩)
  | 1 => v = .slice A1 n1 c1
  | 2 => v = sv l1
  | 3 => v = .pointer (some ⟨b, 1, none⟩)
  | 4 => v = .slice A2 n2 c2
  | 5 => v = sv l2
  | 6 => v = .bool true
  | 7 => v = .bool true
  | 8 => v = .int .i64 c
  | 9 => v = .pointer (some ⟨b, 0, none⟩)
  | 10 => v = .slice A1 n1 c1
  | 11 => v = sv l1
  | 12 => v = idv R
  | 13 => v = .int .i64 c
  | 14 => v = .pointer (some ⟨b, 1, none⟩)
  | 15 => v = .slice A2 n2 c2
  | 16 => v = sv l2
  | 17 => v = idv R
  | 18 => v = .bool true
  | 19 => v = .bool true
  | _ => True
theorem pairφ_gr (b n1 c1 n2 c2 : Nat) (A1 A2 : Option Addr) (c : Int) (l1 l2 : List UInt8) (R : Sc.Id) : ∀ i v w w', pairφ b n1 c1 n2 c2 A1 A2 c l1 l2 R i v w → Gr w w' → pairφ b n1 c1 n2 c2 A1 A2 c l1 l2 R i v w' := by
  intro i v w w' h hg
  match i with
  | 0 => exact h
  | 1 => exact h
  | 2 => exact h
  | 3 => exact h
  | 4 => exact h
  | 5 => exact h
  | 6 => exact h
  | 7 => exact h
  | 8 => exact h
  | 9 => exact h
  | 10 => exact h
  | 11 => exact h
  | 12 => exact h
  | 13 => exact h
  | 14 => exact h
  | 15 => exact h
  | 16 => exact h
  | 17 => exact h
  | 18 => exact h
  | 19 => exact h
  | i + 20 => exact h
def same7φ (b1 o1 c1 b2 o2 c2 n1 k : Nat) (x y : List UInt8) (i : Nat) (v : Value) (_w : World) : Prop := match i with
  | 0 => v = .slice (some ⟨b1, o1, none⟩) n1 c1
  | 1 => v = .int .i64 (k : Int)
  | 2 => v = .pointer (some ⟨b1, o1 + k, none⟩)
  | 3 => v = sv x
  | 4 => v = .slice (some ⟨b2, o2, none⟩) n1 c2
  | 5 => v = .int .i64 (k : Int)
  | 6 => v = .pointer (some ⟨b2, o2 + k, none⟩)
  | 7 => v = sv y
  | _ => True
theorem same7φ_gr (b1 o1 c1 b2 o2 c2 n1 k : Nat) (x y : List UInt8) : ∀ i v w w', same7φ b1 o1 c1 b2 o2 c2 n1 k x y i v w → Gr w w' → same7φ b1 o1 c1 b2 o2 c2 n1 k x y i v w' := by
  intro i v w w' h hg
  match i with
  | 0 => exact h
  | 1 => exact h
  | 2 => exact h
  | 3 => exact h
  | 4 => exact h
  | 5 => exact h
  | 6 => exact h
  | 7 => exact h
  | i + 8 => exact h

set_option maxHeartbeats 4000000 in
set_option maxRecDepth 100000 in
theorem pair_true (c : Int) (v1 v2 : Value) (l1 l2 : List UInt8) (w : World) (h1 : RL w v1 l1) (h2 : RL w v2 l2) (hl1 : l1.length ≤ 1000001) (hl2 : l2.length ≤ 1000001) (hne : l1 ≠ l2) (hs : sumC c l1 = sumC c l2) :
    Calls Try.prog 20 #[.int .i64 c, .agg #[v1, v2]] w fun e w' => e = .returned (.bool true) ∧ w.grownBy w' none := by
  go_enter Try.func20, Try.ntmps20
  obtain ⟨A1, c1, rfl, hc1⟩ := Rd.form h1
  obtain ⟨A2, c2, rfl, hc2⟩ := Rd.form h2
  obtain ⟨n1, hn1⟩ : ∃ n1, n1 = l1.length := ⟨_, rfl⟩
  obtain ⟨n2, hn2⟩ : ∃ n2, n2 = l2.length := ⟨_, rfl⟩
  rw [← hn1] at h1 ⊢
  rw [← hn2] at h2 ⊢
  obtain ⟨W, hW⟩ : ∃ W, W = w.alloc (.cells #[.slice A1 n1 c1, .slice A2 n2 c2] 29) := ⟨_, rfl⟩
  have b0 : Bk W w.heap.size 29 [.slice A1 n1 c1, .slice A2 n2 c2] := by rw [hW]; exact Bk.new w _ _
  have g0 : w.grownBy W none := by rw [hW]; exact gb_alloc (gb_refl w none) _
  have HW := Go.Lib.hid hW
  have HV1 := Go.Lib.hid (RL.gr h1 g0)
  have HV2 := Go.Lib.hid (RL.gr h2 g0)
  have HG0 := Go.Lib.hid g0
  obtain ⟨R, hR⟩ : ∃ R, sumC c l1 = R := ⟨_, rfl⟩
  have HR1 := Go.Lib.hid hR
  have HR2 : Hid (sumC c l2 = R) := Go.Lib.hid (by rw [← hs]; exact hR)
  have HLL := Go.Lib.hid (And.intro hl1 hl2)
  have HNE : Hid ((l1 == l2) = false) := Go.Lib.hid (beq_eq_false_iff_ne.2 hne)
  have q0 := Go.Lib.hid (b0.cellAt (i := 0) rfl)
  have q1 := Go.Lib.hid (b0.cellAt (i := 1) rfl)
  obtain ⟨b, hb⟩ : ∃ b, b = w.heap.size := ⟨_, rfl⟩
  rw [← hb] at q0 q1
  have HB := Go.Lib.hid hb
  clear h1 h2 hc1 hc2 hn1 hn2 hW b0 g0 hR hs hne hl1 hl2 hb
  go_upto_region 1 with fail
  rw [← HW.out, ← HB.out]
  refine wp_region_specs 20 [5, 6, 7, 8, 9, 10, 11, 12, 13, 14, 15, 16, 17, 18, 19, 20, 21, 22, 23, 24] (by kernel_rfl) (by kernel_rfl) (pairφ b n1 c1 n2 c2 A1 A2 c l1 l2 R) (pairφ_gr b n1 c1 n2 c2 A1 A2 c l1 l2 R) ?step ?fin
  case step =>
    intro i_ o_ ho hi_ u w' hg hd
    rcases (by omega : i_ = 0 ∨ i_ = 1 ∨ i_ = 2 ∨ i_ = 3 ∨ i_ = 4 ∨ i_ = 5 ∨ i_ = 6 ∨ i_ = 7 ∨ i_ = 8 ∨ i_ = 9 ∨ i_ = 10 ∨ i_ = 11 ∨ i_ = 12 ∨ i_ = 13 ∨ i_ = 14 ∨ i_ = 15 ∨ i_ = 16 ∨ i_ = 17 ∨ i_ = 18 ∨ i_ = 19) with rfl | rfl | rfl | rfl | rfl | rfl | rfl | rfl | rfl | rfl | rfl | rfl | rfl | rfl | rfl | rfl | rfl | rfl | rfl | rfl <;> obtain rfl := Option.some.inj ho <;>
      simp (decide := true) only [fillAct, List.mapIdx_cons, List.mapIdx_nil, Nat.reduceAdd, if_true, if_false, List.getD_cons_zero, List.getD_cons_succ]
    · clear hd ho
      go_wp2_with fail
      exact ⟨rfl, gb_refl _ _, rfl⟩
    · have h0 : u 5 = .pointer (some ⟨b, 0, none⟩) := hd 0 (by kernel_rfl)
      clear hd ho
      rw [h0]
      have c1 := cell_grown (row := none) hg q0.out (by simp)
      go_wp2_with fail
      exact ⟨rfl, gb_refl _ _, rfl⟩
    · have h1 : u 6 = .slice A1 n1 c1 := hd 1 (by kernel_rfl)
      clear hd ho
      rw [h1]
      have hv1 : RdB (fun b => b < w'.heap.size) w' (.slice A1 n1 c1) l1 := RL.gr HV1.out hg
      go_wp2_with ((with_reducible refine wpList_conv_bs (x := .tmp 6) (v := .slice A1 n1 c1) Try.underlying27 Try.underlying5 Try.underlying9 l1 (by kernel_rfl) hv1 ?_))
      exact ⟨rfl, gb_refl _ _, rfl⟩
    · clear hd ho
      go_wp2_with fail
      exact ⟨rfl, gb_refl _ _, rfl⟩
    · have h3 : u 8 = .pointer (some ⟨b, 1, none⟩) := hd 3 (by kernel_rfl)
      clear hd ho
      rw [h3]
      have c1 := cell_grown (row := none) hg q1.out (by simp)
      go_wp2_with fail
      exact ⟨rfl, gb_refl _ _, rfl⟩
    · have h4 : u 9 = .slice A2 n2 c2 := hd 4 (by kernel_rfl)
      clear hd ho
      rw [h4]
      have hv1 : RdB (fun b => b < w'.heap.size) w' (.slice A2 n2 c2) l2 := RL.gr HV2.out hg
      go_wp2_with ((with_reducible refine wpList_conv_bs (x := .tmp 9) (v := .slice A2 n2 c2) Try.underlying27 Try.underlying5 Try.underlying9 l2 (by kernel_rfl) hv1 ?_))
      exact ⟨rfl, gb_refl _ _, rfl⟩
    · have h2 : u 7 = sv l1 := hd 2 (by kernel_rfl)
      have h5 : u 10 = sv l2 := hd 5 (by kernel_rfl)
      clear hd ho
      rw [h2, h5]
      have q1 : ∀ w, (eqGuard .neq 9 (.tmp 7) (.tmp 10) (sv l1) (sv l2)).run Try.prog w = .ok () w := fun _ => by rw [eqGuard_sv]; rfl
      have q2 : ∀ w, (binOp .neq 9 (sv l1) (sv l2)).run Try.prog w = .ok (.bool true) w := fun _ => by rw [neq_sv, HNE.out]; rfl
      go_wp2_with fail
      exact ⟨rfl, gb_refl _ _, rfl⟩
    · have h6 : u 11 = .bool true := hd 6 (by kernel_rfl)
      clear hd ho
      rw [h6]
      go_wp2_with fail
      exact ⟨rfl, gb_refl _ _, rfl⟩
    · have h7 : u 12 = .bool true := hd 7 (by kernel_rfl)
      clear hd ho
      rw [h7]
      refine wpList_guard (by rfl) ?_
      go_wp2_with fail
      exact ⟨rfl, gb_refl _ _, rfl⟩
    · have h7 : u 12 = .bool true := hd 7 (by kernel_rfl)
      clear hd ho
      rw [h7]
      refine wpList_guard (by rfl) ?_
      go_wp2_with fail
      exact ⟨rfl, gb_refl _ _, rfl⟩
    · have h7 : u 12 = .bool true := hd 7 (by kernel_rfl)
      have h9 : u 14 = .pointer (some ⟨b, 0, none⟩) := hd 9 (by kernel_rfl)
      clear hd ho
      rw [h7, h9]
      refine wpList_guard (by rfl) ?_
      have c1 := cell_grown (row := none) hg q0.out (by simp)
      go_wp2_with fail
      exact ⟨rfl, gb_refl _ _, rfl⟩
    · have h7 : u 12 = .bool true := hd 7 (by kernel_rfl)
      have h10 : u 15 = .slice A1 n1 c1 := hd 10 (by kernel_rfl)
      clear hd ho
      rw [h7, h10]
      refine wpList_guard (by rfl) ?_
      have hv1 : RdB (fun b => b < w'.heap.size) w' (.slice A1 n1 c1) l1 := RL.gr HV1.out hg
      go_wp2_with ((with_reducible refine wpList_conv_bs (x := .tmp 15) (v := .slice A1 n1 c1) Try.underlying27 Try.underlying5 Try.underlying9 l1 (by kernel_rfl) hv1 ?_))
      exact ⟨rfl, gb_refl _ _, rfl⟩
    · have h7 : u 12 = .bool true := hd 7 (by kernel_rfl)
      have h8 : u 13 = .int .i64 c := hd 8 (by kernel_rfl)
      have h11 : u 16 = sv l1 := hd 11 (by kernel_rfl)
      clear hd ho
      rw [h7, h8, h11]
      refine wpList_guard (by rfl) ?_
      go_wp2_with (go_at_call 28; ((with_reducible refine (rsum_any c l1 HLL.out.1 _).mono ?_); rintro e w3 ⟨rfl, g3⟩; rw [HR1.out]))
      exact ⟨rfl, g3, rfl⟩
    · have h7 : u 12 = .bool true := hd 7 (by kernel_rfl)
      clear hd ho
      rw [h7]
      refine wpList_guard (by rfl) ?_
      go_wp2_with fail
      exact ⟨rfl, gb_refl _ _, rfl⟩
    · have h7 : u 12 = .bool true := hd 7 (by kernel_rfl)
      clear hd ho
      rw [h7]
      refine wpList_guard (by rfl) ?_
      go_wp2_with fail
      exact ⟨rfl, gb_refl _ _, rfl⟩
    · have h7 : u 12 = .bool true := hd 7 (by kernel_rfl)
      have h14 : u 19 = .pointer (some ⟨b, 1, none⟩) := hd 14 (by kernel_rfl)
      clear hd ho
      rw [h7, h14]
      refine wpList_guard (by rfl) ?_
      have c1 := cell_grown (row := none) hg q1.out (by simp)
      go_wp2_with fail
      exact ⟨rfl, gb_refl _ _, rfl⟩
    · have h7 : u 12 = .bool true := hd 7 (by kernel_rfl)
      have h15 : u 20 = .slice A2 n2 c2 := hd 15 (by kernel_rfl)
      clear hd ho
      rw [h7, h15]
      refine wpList_guard (by rfl) ?_
      have hv1 : RdB (fun b => b < w'.heap.size) w' (.slice A2 n2 c2) l2 := RL.gr HV2.out hg
      go_wp2_with ((with_reducible refine wpList_conv_bs (x := .tmp 20) (v := .slice A2 n2 c2) Try.underlying27 Try.underlying5 Try.underlying9 l2 (by kernel_rfl) hv1 ?_))
      exact ⟨rfl, gb_refl _ _, rfl⟩
    · have h7 : u 12 = .bool true := hd 7 (by kernel_rfl)
      have h13 : u 18 = .int .i64 c := hd 13 (by kernel_rfl)
      have h16 : u 21 = sv l2 := hd 16 (by kernel_rfl)
      clear hd ho
      rw [h7, h13, h16]
      refine wpList_guard (by rfl) ?_
      go_wp2_with (go_at_call 28; ((with_reducible refine (rsum_any c l2 HLL.out.2 _).mono ?_); rintro e w3 ⟨rfl, g3⟩; rw [HR2.out]))
      exact ⟨rfl, g3, rfl⟩
    · have h7 : u 12 = .bool true := hd 7 (by kernel_rfl)
      have h12 : u 17 = idv R := hd 12 (by kernel_rfl)
      have h17 : u 22 = idv R := hd 17 (by kernel_rfl)
      clear hd ho
      rw [h7, h12, h17]
      refine wpList_guard (by rfl) ?_
      go_wp2_with ((with_reducible refine wpList_eql_id (x := .tmp 17) (y := .tmp 22) idEq R R (by kernel_rfl) (by kernel_rfl) ?_); rw [beq_self_eq_true])
      exact ⟨rfl, gb_refl _ _, rfl⟩
    · have h7 : u 12 = .bool true := hd 7 (by kernel_rfl)
      have h18 : u 23 = .bool true := hd 18 (by kernel_rfl)
      clear hd ho
      rw [h7, h18]
      go_wp2_with fail
      exact ⟨rfl, gb_refl _ _, rfl⟩
  case fin =>
    intro u w5 hg hφ
    have hz : u 24 = .bool true := hφ 19 (by omega)
    simp (decide := true) only [fillAct, List.mapIdx_cons, List.mapIdx_nil, Nat.reduceAdd, if_true, if_false, List.drop_succ_cons, List.drop_zero]
    rw [hz]
    clear hφ
    go_wp2_with fail
    go_ret
    exact ⟨rfl, gb_trans HG0.out hg⟩
set_option maxHeartbeats 4000000 in
set_option maxRecDepth 100000 in
theorem same7_any (va vb : Value) (la lb : List (List UInt8)) (w : World) (ha : RSS w va la) (hb : RSS w vb lb) (hla : la.length ≤ 1000000) (hlb : lb.length ≤ 1000000) :
    Calls Try.prog 19 #[va, vb] w fun e w' => e = .returned (.bool (decide (la = lb))) ∧ w.grownBy w' none := by
  go_enter Try.func19, Try.ntmps19
  unfold RSS at ha hb
  obtain ⟨A1, c1, rfl, hc1⟩ := Rd.form ha
  obtain ⟨A2, c2, rfl, hc2⟩ := Rd.form hb
  obtain ⟨n1, hn1⟩ : ∃ n1, n1 = la.length := ⟨_, rfl⟩
  obtain ⟨n2, hn2⟩ : ∃ n2, n2 = lb.length := ⟨_, rfl⟩
  rw [← hn1] at ha hc1 hla ⊢
  rw [← hn2] at hb hc2 hlb ⊢
  have HA := Go.Lib.hid ha
  have HB := Go.Lib.hid hb
  have HN1 := Go.Lib.hid hn1
  have HN2 := Go.Lib.hid hn2
  obtain ⟨D, hD⟩ : ∃ D, D = decide (la = lb) := ⟨_, rfl⟩
  rw [← hD]
  have HD := Go.Lib.hid hD
  clear ha hb hn1 hn2 hc1 hc2 hD
  by_cases hne : n1 = n2
  · subst hne
    have q1 : decide (n1 = n1) = true := decide_eq_true rfl
    have q2 : decide ((n1 : Int) = (n1 : Int)) = true := decide_eq_true rfl
    go_wp2_with fail
    go_loopw [13] (fun n wr => ∃ k : Nat, k ≤ n1 ∧ n = .int .i64 k ∧ Hid (la.take k = lb.take k) ∧ Hid (w.grownBy wr none)) (fun n _ => n1 - (intOf n).toNat)
    case atStart => exact ⟨0, Nat.zero_le _, rfl, Go.Lib.hid rfl, Go.Lib.hid (gb_refl _ _)⟩
    case round =>
      obtain ⟨k, hk, rfl, HE, HG⟩ := hrel
      by_cases hlt : k < n1
      · have hkI : (0 : Int) ≤ (k : Int) ∧ (k : Int) < (n1 : Int) ∧ (n1 : Int) ≤ 1000000 := by omega
        have d1 : decide (k < n1) = true := decide_eq_true hlt
        obtain ⟨x, hx⟩ : ∃ x, la[k]? = some x := ⟨_, List.getElem?_eq_getElem (by rw [← HN1.out]; exact hlt)⟩
        obtain ⟨y, hy⟩ : ∃ y, lb[k]? = some y := ⟨_, List.getElem?_eq_getElem (by rw [← HN2.out]; exact hlt)⟩
        obtain ⟨b1, o1, c', he, hb1, hnc, hcm, hcell⟩ := HA.out.at (by omega)
        injection he with hA _ hcc
        subst hA hcc
        obtain ⟨b2, o2, c', he, hb2, hnc2, hcm2, hcell2⟩ := HB.out.at (by omega)
        injection he with hA _ hcc
        subst hA hcc
        have e1 : wr.cell? ⟨b1, o1 + k, none⟩ = some (sv x) := cell_grown HG.out (hcell k _ (by rw [List.getElem?_map, hx]; rfl)) (by simp)
        have e2 : wr.cell? ⟨b2, o2 + k, none⟩ = some (sv y) := cell_grown HG.out (hcell2 k _ (by rw [List.getElem?_map, hy]; rfl)) (by simp)
        have HX := Go.Lib.hid hx
        have HY := Go.Lib.hid hy
        have E1 := Go.Lib.hid e1
        have E2 := Go.Lib.hid e2
        clear hcell hcell2 hx hy e1 e2
        go_upto_region 6 with fail
        refine wp_region_specs 8 [16, 17, 18, 19, 20, 21, 22, 23] (by kernel_rfl) (by kernel_rfl) (same7φ b1 o1 c1 b2 o2 c2 n1 k x y) (same7φ_gr b1 o1 c1 b2 o2 c2 n1 k x y) ?step ?fin
        case step =>
          intro i_ o_ ho hi_ u w' hg hd
          rcases (by omega : i_ = 0 ∨ i_ = 1 ∨ i_ = 2 ∨ i_ = 3 ∨ i_ = 4 ∨ i_ = 5 ∨ i_ = 6 ∨ i_ = 7) with rfl | rfl | rfl | rfl | rfl | rfl | rfl | rfl <;> obtain rfl := Option.some.inj ho <;>
            simp (decide := true) only [fillAct, List.mapIdx_cons, List.mapIdx_nil, Nat.reduceAdd, if_true, if_false, List.getD_cons_zero, List.getD_cons_succ]
          · clear hd ho
            go_wp2_with fail
            exact ⟨rfl, gb_refl _ _, rfl⟩
          · clear hd ho
            go_wp2_with fail
            exact ⟨rfl, gb_refl _ _, rfl⟩
          · have h0 : u 16 = .slice (some ⟨b1, o1, none⟩) n1 c1 := hd 0 (by kernel_rfl)
            have h1 : u 17 = .int .i64 (k : Int) := hd 1 (by kernel_rfl)
            clear hd ho
            rw [h0, h1]
            go_wp2_with fail
            exact ⟨rfl, gb_refl _ _, rfl⟩
          · have h2 : u 18 = .pointer (some ⟨b1, o1 + k, none⟩) := hd 2 (by kernel_rfl)
            clear hd ho
            rw [h2]
            have r1 := cell_grown (row := none) hg E1.out (by simp)
            go_wp2_with fail
            exact ⟨rfl, gb_refl _ _, rfl⟩
          · clear hd ho
            go_wp2_with fail
            exact ⟨rfl, gb_refl _ _, rfl⟩
          · clear hd ho
            go_wp2_with fail
            exact ⟨rfl, gb_refl _ _, rfl⟩
          · have h4 : u 20 = .slice (some ⟨b2, o2, none⟩) n1 c2 := hd 4 (by kernel_rfl)
            have h5 : u 21 = .int .i64 (k : Int) := hd 5 (by kernel_rfl)
            clear hd ho
            rw [h4, h5]
            go_wp2_with fail
            exact ⟨rfl, gb_refl _ _, rfl⟩
          · have h6 : u 22 = .pointer (some ⟨b2, o2 + k, none⟩) := hd 6 (by kernel_rfl)
            clear hd ho
            rw [h6]
            have r1 := cell_grown (row := none) hg E2.out (by simp)
            go_wp2_with fail
            exact ⟨rfl, gb_refl _ _, rfl⟩
        case fin =>
          intro u w' hg hφ
          have h3 : u 19 = sv x := hφ 3 (by omega)
          have h7 : u 23 = sv y := hφ 7 (by omega)
          simp (decide := true) only [fillAct, List.mapIdx_cons, List.mapIdx_nil, Nat.reduceAdd, if_true, if_false, List.drop_succ_cons, List.drop_zero]
          rw [h3, h7]
          clear hφ
          have qg : ∀ w, (eqGuard .neq 9 (.tmp 19) (.tmp 23) (sv x) (sv y)).run Try.prog w = .ok () w := fun _ => by rw [eqGuard_sv]; rfl
          by_cases hxy : x = y
          · have qn : ∀ w, (binOp .neq 9 (sv x) (sv y)).run Try.prog w = .ok (.bool false) w := fun _ => by rw [neq_sv, beq_iff_eq.2 hxy]; rfl
            have HXY := Go.Lib.hid hxy
            clear hxy
            go_wp2_with fail
            go_roundw
            case rel => exact ⟨k + 1, by omega, by go_num, Go.Lib.hid (by rw [List.take_add_one, List.take_add_one, HE.out, HX.out, HY.out, HXY.out]), Go.Lib.hid (gb_trans HG.out hg)⟩
            case measure => simp [intOf]; omega
          · have qn : ∀ w, (binOp .neq 9 (sv x) (sv y)).run Try.prog w = .ok (.bool true) w := fun _ => by rw [neq_sv, beq_eq_false_iff_ne.2 hxy]; rfl
            have HXY := Go.Lib.hid hxy
            clear hxy
            go_wp2_with fail
            go_ret
            refine ⟨?_, gb_trans HG.out hg⟩
            have hd : D = false := by
              rw [HD.out]
              refine decide_eq_false fun e => ?_
              rw [e] at HX
              have := HX.out.symm.trans HY.out
              exact HXY.out (Option.some.inj this)
            rw [hd]; rfl
      · obtain rfl : k = n1 := by omega
        have d1 : decide (k < k) = false := decide_eq_false (by omega)
        have hd : D = true := by
          rw [HD.out]
          refine decide_eq_true ?_
          have h := HE.out
          have l1 := HN1.out
          have l2 := HN2.out
          rw [List.take_of_length_le (by omega), List.take_of_length_le (by omega)] at h
          exact h
        have HD2 := Go.Lib.hid hd
        clear hd
        go_wp2_with fail
        go_ret
        exact ⟨by rw [HD2.out]; rfl, HG.out⟩
  · have q1 : decide (n1 = n2) = false := decide_eq_false hne
    have q2 : decide ((n1 : Int) = (n2 : Int)) = false := decide_eq_false (by omega)
    have hd : D = false := by
      rw [HD.out]
      refine decide_eq_false fun e => ?_
      rw [HN1.out, HN2.out, e] at hne
      exact hne rfl
    rw [hd]
    go_wp2_with fail
    go_ret
    exact ⟨rfl, gb_refl _ _⟩
end Go.Proofs.Ytajgklomcapboaa
/- short: texts. -/
namespace Sc
open Go Go.RowKit
section
variable (H : List UInt8 → Id) (e : List UInt8)
/-- The texts to sum on the way from an entry to a root; the way is given backwards. -/
def textsR : Nat → Nat → List Id → Option (List (List UInt8))
  | _, n, [] => if n = 1 then some [0 :: e] else none
  | p, n, x :: rp => if n = 1 then none else if p < half n then (textsR p (half n) rp).map fun l => l ++ [1 :: ((H (l.getLastD [])).l ++ x.l)]
    else (textsR (p - half n) (n - half n) rp).map fun l => l ++ [1 :: (x.l ++ (H (l.getLastD [])).l)]
theorem textsR_len : ∀ (rp : List Id) (p n : Nat) (l : List (List UInt8)), textsR H e p n rp = some l → l.length = rp.length + 1 := by
  intro rp
  induction rp with
  | nil => intro p n l h; unfold textsR at h; split at h; cases h; rfl; cases h
  | cons x rp ih =>
    intro p n l h
    unfold textsR at h
    split at h
    · cases h
    · split at h
      all_goals
        obtain ⟨l', h1, rfl⟩ := Option.map_eq_some_iff.1 h
        have := ih _ _ _ h1
        simp [this]
theorem textsR_each : ∀ (rp : List Id) (p n : Nat) (l : List (List UInt8)), textsR H e p n rp = some l → ∀ t ∈ l, t.length ≤ e.length + 65 := by
  intro rp
  induction rp with
  | nil => intro p n l h t ht; unfold textsR at h; split at h; cases h; simp at ht; subst ht; simp; cases h
  | cons x rp ih =>
    intro p n l h t ht
    unfold textsR at h
    split at h
    · cases h
    · split at h
      all_goals
        obtain ⟨l', h1, rfl⟩ := Option.map_eq_some_iff.1 h
        rcases List.mem_append.1 ht with h2 | h2
        · exact ih _ _ _ h1 t h2
        · rw [List.mem_singleton] at h2
          subst h2
          rw [List.length_cons, List.length_append, Id.h, Id.h]; omega
end
end Sc
namespace Go.Proofs.Ytajgklomcapboaa
open Go.RowKit Go.Shelf Sc
def txhφ (n k q c9 b o B : Nat) (X : Sc.Id) (i : Nat) (v : Value) (w : World) : Prop := match i with
  | 0 => v = .int .i64 (n : Int)
  | 1 => v = .int .i64 (k : Int)
  | 2 => v = .slice (some ⟨b, o, none⟩) (q + 1) c9
  | 3 => v = .slice (some ⟨b, o, none⟩) (q + 1) c9
  | 4 => v = .int .i64 ((q : Int) + 1)
  | 5 => v = .int .i64 (q : Int)
  | 6 => v = .pointer (some ⟨b, o + q * 32, none⟩)
  | 7 => v = idv X
  | 8 => ∃ b13, v = .pointer (some ⟨b13, 0, none⟩) ∧ B ≤ b13 ∧ Bk w b13 34 idZ
  | 9 => v = .int .i64 (k : Int)
  | _ => True
theorem txhφ_gr (n k q c9 b o B : Nat) (X : Sc.Id) : ∀ i v w w', txhφ n k q c9 b o B X i v w → Gr w w' → txhφ n k q c9 b o B X i v w' := by
  intro i v w w' h hg
  match i with
  | 0 => exact h
  | 1 => exact h
  | 2 => exact h
  | 3 => exact h
  | 4 => exact h
  | 5 => exact h
  | 6 => exact h
  | 7 => exact h
  | 8 => exact by obtain ⟨b13, e, h1, h2⟩ := h; exact ⟨b13, e, h1, h2.grown hg (by simp)⟩
  | 9 => exact h
  | i + 10 => exact h
def txφ (b3 o3 r c3 nx cx B : Nat) (Ax : Option Addr) (c : Int) (S X : Sc.Id) (T : List UInt8) (i : Nat) (v : Value) (w : World) : Prop := match i with
  | 0 => v = .slice (some ⟨b3, o3, none⟩) (r + 1) c3
  | 1 => v = .int .i64 c
  | 2 => v = .slice (some ⟨b3, o3, none⟩) (r + 1) c3
  | 3 => v = .slice (some ⟨b3, o3, none⟩) (r + 1) c3
  | 4 => v = .int .i64 ((r : Int) + 1)
  | 5 => v = .int .i64 (r : Int)
  | 6 => v = .pointer (some ⟨b3, o3 + r, none⟩)
  | 7 => v = .slice Ax nx cx
  | 8 => v = idv S
  | 9 => v = idv X
  | 10 => ∃ A c, v = .slice A 65 c ∧ RdB (fun b => B ≤ b ∧ b < w.heap.size) w (.slice A 65 c) T
  | 11 => ∃ A c b, v = .slice (some ⟨b, 0, none⟩) 1 1 ∧ B ≤ b ∧ Bk w b 27 [.slice A 65 c] ∧ RdB (fun b => B ≤ b ∧ b < w.heap.size) w (.slice A 65 c) T
  | _ => True
theorem txφ_gr (b3 o3 r c3 nx cx B : Nat) (Ax : Option Addr) (c : Int) (S X : Sc.Id) (T : List UInt8) : ∀ i v w w', txφ b3 o3 r c3 nx cx B Ax c S X T i v w → Gr w w' → txφ b3 o3 r c3 nx cx B Ax c S X T i v w' := by
  intro i v w w' h hg
  match i with
  | 0 => exact h
  | 1 => exact h
  | 2 => exact h
  | 3 => exact h
  | 4 => exact h
  | 5 => exact h
  | 6 => exact h
  | 7 => exact h
  | 8 => exact h
  | 9 => exact h
  | 10 => exact by obtain ⟨A, c, e, h⟩ := h; exact ⟨A, c, e, Rd.mono (Rd.grown h hg (by simp)) fun b hb => ⟨hb.1, Nat.lt_of_lt_of_le hb.2 hg.size⟩⟩
  | 11 => exact by obtain ⟨A, c, b, e, h1, h2, h3⟩ := h; exact ⟨A, c, b, e, h1, h2.grown hg (by simp), Rd.mono (Rd.grown h3 hg (by simp)) fun b hb => ⟨hb.1, Nat.lt_of_lt_of_le hb.2 hg.size⟩⟩
  | i + 12 => exact h
def tyφ (b3 o3 r c3 nx cx B : Nat) (Ax : Option Addr) (c : Int) (S X : Sc.Id) (T : List UInt8) (i : Nat) (v : Value) (w : World) : Prop := match i with
  | 0 => v = .slice (some ⟨b3, o3, none⟩) (r + 1) c3
  | 1 => v = idv X
  | 2 => v = .int .i64 c
  | 3 => v = .slice (some ⟨b3, o3, none⟩) (r + 1) c3
  | 4 => v = .slice (some ⟨b3, o3, none⟩) (r + 1) c3
  | 5 => v = .int .i64 ((r : Int) + 1)
  | 6 => v = .int .i64 (r : Int)
  | 7 => v = .pointer (some ⟨b3, o3 + r, none⟩)
  | 8 => v = .slice Ax nx cx
  | 9 => v = idv S
  | 10 => ∃ A c, v = .slice A 65 c ∧ RdB (fun b => B ≤ b ∧ b < w.heap.size) w (.slice A 65 c) T
  | 11 => ∃ A c b, v = .slice (some ⟨b, 0, none⟩) 1 1 ∧ B ≤ b ∧ Bk w b 27 [.slice A 65 c] ∧ RdB (fun b => B ≤ b ∧ b < w.heap.size) w (.slice A 65 c) T
  | _ => True
theorem tyφ_gr (b3 o3 r c3 nx cx B : Nat) (Ax : Option Addr) (c : Int) (S X : Sc.Id) (T : List UInt8) : ∀ i v w w', tyφ b3 o3 r c3 nx cx B Ax c S X T i v w → Gr w w' → tyφ b3 o3 r c3 nx cx B Ax c S X T i v w' := by
  intro i v w w' h hg
  match i with
  | 0 => exact h
  | 1 => exact h
  | 2 => exact h
  | 3 => exact h
  | 4 => exact h
  | 5 => exact h
  | 6 => exact h
  | 7 => exact h
  | 8 => exact h
  | 9 => exact h
  | 10 => exact by obtain ⟨A, c, e, h⟩ := h; exact ⟨A, c, e, Rd.mono (Rd.grown h hg (by simp)) fun b hb => ⟨hb.1, Nat.lt_of_lt_of_le hb.2 hg.size⟩⟩
  | 11 => exact by obtain ⟨A, c, b, e, h1, h2, h3⟩ := h; exact ⟨A, c, b, e, h1, h2.grown hg (by simp), Rd.mono (Rd.grown h3 hg (by simp)) fun b hb => ⟨hb.1, Nat.lt_of_lt_of_le hb.2 hg.size⟩⟩
  | i + 12 => exact h

def TRes (c : Int) (e : List UInt8) (p n : Nat) (rp : List Sc.Id) (w : World) (E : Ending) (w' : World) : Prop :=
  ∃ A m c9 ok, E = .returned (.tuple #[.slice A m c9, .bool ok]) ∧ w.grownBy w' none ∧
    ((textsR (sumC c) e p n rp = none ∧ ok = false) ∨ ∃ l, textsR (sumC c) e p n rp = some l ∧ ok = true ∧ m = l.length ∧ OwX w.heap.size w' (.slice A m c9) l)
set_option maxHeartbeats 8000000 in
set_option maxRecDepth 100000 in
theorem texts_any (c : Int) (e : List UInt8) (he : e.length ≤ 1000000) : ∀ (rp : List Sc.Id) (p n : Nat) (ve vp : Value) (w : World), RL w ve e → RI w vp rp.reverse → 1 ≤ n → n ≤ 1099511627776 → p < n → rp.length ≤ 1000 →
    Calls Try.prog 47 #[.int .i64 c, ve, .int .i64 (p : Int), .int .i64 (n : Int), vp] w (TRes c e p n rp w) := by
  intro rp
  induction rp with
  | nil =>
    intro p n ve vp w hve hvp hn1 hn hpn hrl
    go_enter Try.func47, Try.ntmps47
    obtain ⟨Ae, ce, rfl, _⟩ := Rd.form hve
    obtain ⟨ne, hne⟩ : ∃ ne, ne = e.length := ⟨_, rfl⟩
    obtain ⟨Ap, cp, rfl, _⟩ := Rd.form hvp
    rw [← hne] at hve ⊢
    have HVE := Go.Lib.hid hve
    have hleaf : ∀ w, RL w (.slice Ae ne ce) e → Calls Try.prog 60 #[.slice Ae ne ce] w fun E w' => ∃ v', E = .returned v' ∧ Ow w.heap.size w' 1 v' (0 :: e).length ((0 :: e).map bv) ∧ w.grownBy w' none := fun w h => sleaf_any _ e _ w h he
    have HLF := Go.Lib.hid hleaf
    clear hve hvp hne he hrl hleaf
    by_cases h1 : n = 1
    · subst h1
      go_wp2_with (go_at_call 60; ((with_reducible refine (HLF.out _ HVE.out).mono ?_); rintro E w3 ⟨v3, rfl, ho3, g3⟩; obtain ⟨A3, c3, rfl⟩ := ho3.form))
      go_ret2
      refine ⟨_, _, _, _, rfl, gb_alloc g3 _, .inr ⟨[0 :: e], rfl, rfl, rfl, ?_⟩⟩
      refine ⟨[.slice A3 (0 :: e).length c3], Ow.new w3 _ _ 1 1 [_] rfl (by decide) g3.size, fun j l hj => ?_⟩
      match j, hj with
      | 0, hj =>
        cases hj
        refine ⟨_, rfl, ?_⟩
        have h3 := ho3.rd (NB := fun b => b < w3.heap.size) (fun b hb => (ho3.lt hb).2)
        exact Rd.mono (Rd.grown h3 (gb_alloc (gb_refl _ none) _) (by simp)) fun b hb => ⟨by rw [World.size_alloc]; omega, fun e => by have := Option.some.inj (show some w3.heap.size = some b from e); omega⟩
      | j + 1, hj => cases hj
    · have d1 : decide ((n : Int) = 1) = false := decide_eq_false (by omega)
      have d2 : decide (n = 1) = false := decide_eq_false h1
      go_wp2_with fail
      go_ret2
      exact ⟨_, _, _, _, rfl, gb_refl _ _, .inl ⟨by unfold textsR; rw [if_neg h1], rfl⟩⟩
  | cons X rp ih =>
    intro p n ve vp w hve hvp hn1 hn hpn hrl
    go_enter Try.func47, Try.ntmps47
    obtain ⟨Ae, ce, rfl, _⟩ := Rd.form hve
    obtain ⟨ne, hne⟩ : ∃ ne, ne = e.length := ⟨_, rfl⟩
    obtain ⟨q, hq⟩ : ∃ q, q = rp.length := ⟨_, rfl⟩
    have hq1 : (X :: rp).reverse.length = q + 1 := by rw [List.length_reverse, List.length_cons, hq]
    have hq2 : (X :: rp).reverse[q]? = some X := by rw [hq, List.reverse_cons, List.getElem?_append_right (by rw [List.length_reverse]; exact Nat.le_refl _), List.length_reverse, Nat.sub_self]; rfl
    have hq3 : (X :: rp).reverse.take q = rp.reverse := by rw [hq, List.reverse_cons, List.take_left' (by rw [List.length_reverse])]
    obtain ⟨b, o, c9, rfl, hb, hc9, hcm, hr⟩ := Rd.at hvp (by rw [hq1]; omega)
    have hrx := range_id hr hq2
    have hpi : RI w (.slice (some ⟨b, o, none⟩) q c9) rp.reverse := by
      have h := RdI.toTake hvp rfl (k := q) (by rw [hq1]; omega)
      rw [hq3] at h; exact h
    rw [hq1] at hc9 ⊢
    rw [← hne] at hve ⊢
    have HVE := Go.Lib.hid hve
    have HLF : Hid (∀ w, RL w (.slice Ae ne ce) e → Calls Try.prog 60 #[.slice Ae ne ce] w fun E w' => ∃ v', E = .returned v' ∧ Ow w.heap.size w' 1 v' (0 :: e).length ((0 :: e).map bv) ∧ w.grownBy w' none) := Go.Lib.hid fun w h => sleaf_any _ e _ w h he
    have HRX := Go.Lib.hid hrx
    have HPI := Go.Lib.hid hpi
    have HIH := Go.Lib.hid ih
    have HRL : Hid (rp.length ≤ 1000) := Go.Lib.hid (by rw [List.length_cons] at hrl; omega)
    have hqI : (0 : Int) ≤ (q : Int) ∧ (q : Int) < 1000 ∧ (q : Int) < (c9 : Int) := by rw [List.length_cons] at hrl; omega
    clear hve hvp hne hrl hq hq1 hq2 hq3 hr hrx hpi ih
    by_cases h1 : n = 1
    · subst h1
      go_wp2_with (go_at_call 60; ((with_reducible refine (HLF.out _ HVE.out).mono ?_); rintro E w3 ⟨v3, rfl, ho3, g3⟩; obtain ⟨A3, c3, rfl⟩ := ho3.form))
      go_ret2
      exact ⟨_, _, _, _, rfl, gb_alloc g3 _, .inl ⟨by unfold textsR; rw [if_pos rfl], rfl⟩⟩
    · have d1 : decide ((n : Int) = 1) = false := decide_eq_false (by omega)
      have d2 : decide (n = 1) = false := decide_eq_false h1
      obtain ⟨k, hk⟩ : ∃ k, k = half n := ⟨_, rfl⟩
      have hk1 : 1 ≤ k := by rw [hk]; exact half_pos n
      have hk2 : k < n := by rw [hk]; exact half_lt (by omega)
      have hhalf : ∀ w : World, Calls Try.prog 43 #[.int .i64 (n : Int)] w fun e w' => e = .returned (.int .i64 (k : Int)) ∧ w' = w := fun w => by rw [hk]; exact shalf_any n (by omega) hn w
      have d5 : ((n : Int) == 1) = false := by simp; omega
      have d6 : ((q : Int) + 1 == 0) = false := by simp; omega
      have HK := Go.Lib.hid hk
      have HH1 := Go.Lib.hid h1
      clear hk h1
      go_upto_region 5 with fail
      refine wp_region_specsP (R := Gr) (fun _ _ _ h k => gb_trans h k) 10 [29, 30, 31, 32, 33, 34, 35, 36, 13, 12] (by kernel_rfl) (gb_drew (gb_refl _ none)) (by kernel_rfl) (fun _ => false) (txhφ n k q c9 b o w.heap.size X) (fun _ _ _ h => by cases h) (txhφ_gr n k q c9 b o w.heap.size X) ?step ?fin
      case step =>
        intro i_ o_ ho hi_ u w' hg hd
        rcases (by omega : i_ = 0 ∨ i_ = 1 ∨ i_ = 2 ∨ i_ = 3 ∨ i_ = 4 ∨ i_ = 5 ∨ i_ = 6 ∨ i_ = 7 ∨ i_ = 8 ∨ i_ = 9) with rfl | rfl | rfl | rfl | rfl | rfl | rfl | rfl | rfl | rfl <;> obtain rfl := Option.some.inj ho <;>
          simp (decide := true) only [fillAct, List.mapIdx_cons, List.mapIdx_nil, Nat.reduceAdd, if_true, if_false, List.getD_cons_zero, List.getD_cons_succ]
        · clear hd ho
          go_wp2_with fail
          exact ⟨rfl, gb_refl _ _, rfl, fun h => by cases h⟩
        · have h0 : u 29 = .int .i64 (n : Int) := hd 0 (by kernel_rfl)
          clear hd ho
          rw [h0]
          go_wp2_with (go_at_call 43; ((with_reducible refine (hhalf _).mono ?_); rintro e w2 ⟨rfl, rfl⟩))
          exact ⟨rfl, gb_refl _ _, rfl, fun h => by cases h⟩
        · clear hd ho
          go_wp2_with fail
          exact ⟨rfl, gb_refl _ _, rfl, fun h => by cases h⟩
        · clear hd ho
          go_wp2_with fail
          exact ⟨rfl, gb_refl _ _, rfl, fun h => by cases h⟩
        · have h3 : u 32 = .slice (some ⟨b, o, none⟩) (q + 1) c9 := hd 3 (by kernel_rfl)
          clear hd ho
          rw [h3]
          go_wp2_with fail
          exact ⟨rfl, gb_refl _ _, rfl, fun h => by cases h⟩
        · have h4 : u 33 = .int .i64 ((q : Int) + 1) := hd 4 (by kernel_rfl)
          clear hd ho
          rw [h4]
          go_wp2_with fail
          exact ⟨rfl, gb_refl _ _, rfl, fun h => by cases h⟩
        · have h2 : u 31 = .slice (some ⟨b, o, none⟩) (q + 1) c9 := hd 2 (by kernel_rfl)
          have h5 : u 34 = .int .i64 (q : Int) := hd 5 (by kernel_rfl)
          clear hd ho
          rw [h2, h5]
          go_wp2_with fail
          exact ⟨rfl, gb_refl _ _, rfl, fun h => by cases h⟩
        · have h6 : u 35 = .pointer (some ⟨b, o + q * 32, none⟩) := hd 6 (by kernel_rfl)
          clear hd ho
          rw [h6]
          have r1 := rangeAt_grown HRX.out hg (by simp)
          go_wp2_with ((with_reducible refine wpList_load_range (t := 34) b (o + q * 32) (X.l.map bv) _ r1 (by kernel_rfl) Try.underlying34 rfl (idSize _) ?_))
          exact ⟨rfl, gb_refl _ _, rfl, fun h => by cases h⟩
        · clear hd ho
          have hgs := hg.size
          go_wp2_with ((with_reducible refine wpList_alloc_row (E := 34) idZ infoId ?_))
          exact ⟨rfl, gb_alloc (gb_refl _ _) _, ⟨_, rfl, hgs, Bk.new _ _ _⟩, fun h => by cases h⟩
        · have h1 : u 30 = .int .i64 (k : Int) := hd 1 (by kernel_rfl)
          clear hd ho
          rw [h1]
          go_wp2_with fail
          exact ⟨rfl, gb_refl _ _, rfl, fun h => by cases h⟩
      case fin =>
        intro u w5 hg hφ _
        have h30 : u 30 = .int .i64 (k : Int) := hφ 1 (by omega)
        have h12 : u 12 = .int .i64 (k : Int) := hφ 9 (by omega)
        have h36 : u 36 = idv X := hφ 7 (by omega)
        obtain ⟨b13, h13, hB13, hb13⟩ := (show ∃ b13, u 13 = .pointer (some ⟨b13, 0, none⟩) ∧ w.heap.size ≤ b13 ∧ Bk w5 b13 34 idZ from hφ 8 (by omega))
        simp (decide := true) only [fillAct, List.mapIdx_cons, List.mapIdx_nil, Nat.reduceAdd, if_true, if_false, List.drop_succ_cons, List.drop_zero]
        rw [h30, h36, h13, h12]
        clear hφ h30 h36 h13 h12
        go_upto_region 6 with ((with_reducible refine wpList_store_bk (t := 34) b13 34 idZ (X.l.map bv) hb13 (by kernel_rfl) (by kernel_rfl) (idSize _) (idLen _) (idOne _) ?_); intro w6 h6 g6 z6)
        have g06 := gb_trans_new hg g6 hB13
        have HG6 := Go.Lib.hid g06
        have HB6 := Go.Lib.hid h6
        have HVE6 := Go.Lib.hid (RL.gr HVE.out g06)
        have HPI6 := Go.Lib.hid (RI.gr HPI.out g06)
        have hpI : (0 : Int) ≤ (p : Int) ∧ (p : Int) < (n : Int) ∧ (n : Int) ≤ 1099511627776 ∧ (1 : Int) ≤ (k : Int) ∧ (k : Int) < (n : Int) := by omega
        clear g06 h6 g6 z6 hb13
        by_cases hpk : p < k
        · have d3 : decide (p < k) = true := decide_eq_true hpk
          have d4 : decide ((p : Int) < (k : Int)) = true := decide_eq_true (by omega)
          have HTX : Hid (textsR (sumC c) e p n (X :: rp) = (textsR (sumC c) e p k rp).map fun l => l ++ [1 :: ((sumC c (l.getLastD [])).l ++ X.l)]) := Go.Lib.hid (by rw [textsR, if_neg HH1.out, if_pos (by rw [← HK.out]; exact hpk), ← HK.out])
          go_upto_region 8 with (go_at_call 47; ((with_reducible refine (HIH.out p k _ _ _ HVE6.out HPI6.out hk1 (by omega) hpk HRL.out).mono ?_); rintro E w7 ⟨A3, m3, c3, ok, rfl, g7, hm⟩))
          rcases hm with ⟨hm, rfl⟩ | ⟨l, hm, rfl, rfl, hox⟩
          · go_wp2_with fail
            go_ret2
            exact ⟨_, _, _, _, rfl, gb_trans HG6.out g7, .inl ⟨by rw [HTX.out, hm]; rfl, rfl⟩⟩
          · obtain ⟨r, hr1⟩ : ∃ r, l.length = r + 1 := ⟨rp.length, textsR_len _ _ _ _ _ _ hm⟩
            have hll : l.length ≤ 1001 := by rw [textsR_len _ _ _ _ _ _ hm]; have := HRL.out; omega
            obtain ⟨x, hx⟩ : ∃ x, l[r]? = some x := ⟨_, List.getElem?_eq_getElem (by omega)⟩
            have hxl : x.length ≤ 1000065 := Nat.le_trans (textsR_each _ _ _ _ _ _ hm x (List.mem_of_getElem? hx)) (by omega)
            have hgl : l.getLastD [] = x := by rw [List.getLastD_eq_getLast?, List.getLast?_eq_getElem?, show l.length - 1 = r by omega, hx]; rfl
            obtain ⟨vs, hox1, hox2⟩ := id hox
            obtain ⟨ux, hux, hub⟩ := hox2 r x hx
            obtain ⟨Ax, cx, rfl, hxc⟩ := Rd.form hub
            obtain ⟨nx, hnx⟩ : ∃ nx, nx = x.length := ⟨_, rfl⟩
            rw [← hnx] at hub hux hxc
            obtain ⟨b3, o3, c3', he3, hB3, hb3, hc3, hr3, _⟩ := hox1.at (by rw [hr1]; omega)
            injection he3 with he3 _ hc3'
            subst he3 hc3'
            have hcx := hr3 r _ hux
            obtain ⟨S, hS⟩ : ∃ S, S = sumC c x := ⟨_, rfl⟩
            obtain ⟨T, hT⟩ : ∃ T, T = 1 :: (S.l ++ X.l) := ⟨_, rfl⟩
            have hTT : textsR (sumC c) e p n (X :: rp) = some (l ++ [T]) := by rw [HTX.out, hm, Option.map_some, hgl, ← hS, hT]
            have hsum : ∀ w, RL w (.slice Ax nx cx) x → Calls Try.prog 21 #[.int .i64 c, .slice Ax nx cx] w fun E w' => E = .returned (idv S) ∧ w.grownBy w' none := fun w h => by rw [hS]; exact ssum_any c _ x _ w h (fun _ h => h) (by omega)
            have hb13 := HB6.out.grown g7 (by simp)
            have hg07 := gb_trans HG6.out g7
            have hrI : (0 : Int) ≤ (r : Int) ∧ (r : Int) < 1001 ∧ (r : Int) < (c3 : Int) := by omega
            have HCX := Go.Lib.hid hcx
            have HLX : Hid (RL w7 (.slice Ax nx cx) x) := Go.Lib.hid (Rd.mono hub fun b hb => hb.1)
            have HSUM := Go.Lib.hid hsum
            have HB13 := Go.Lib.hid hb13
            have HT := Go.Lib.hid hT
            have HTT := Go.Lib.hid hTT
            have HOX1 := Go.Lib.hid hox1
            have HOX2 := Go.Lib.hid hox2
            have HR1 := Go.Lib.hid hr1
            have HG7 := Go.Lib.hid hg07
            have HB3 := Go.Lib.hid hb3
            have HG6' := HG6.out.size
            rw [hr1] at hc3 hox ⊢
            have HOX := Go.Lib.hid hox
            obtain ⟨B, hBB⟩ : ∃ B, B = w7.heap.size := ⟨_, rfl⟩
            have HBB := Go.Lib.hid hBB
            clear hBB
            clear hm hll hx hxl hgl hox hox1 hox2 hux hub hxc hnx hB3 hb3 hr3 hcx hS hT hTT hsum hb13 hg07 g7 hr1 HIH HLF HTX HPI HPI6 HVE HVE6 HRX hhalf HG6 HB6
            go_upto_region 10 with fail
            refine wp_region_specs 12 [55, 56, 57, 58, 59, 60, 61, 62, 63, 64, 65, 66] (by kernel_rfl) (by kernel_rfl) (txφ b3 o3 r c3 nx cx B Ax c S X T) (txφ_gr b3 o3 r c3 nx cx B Ax c S X T) ?step2 ?fin2
            case step2 =>
              intro i_ o_ ho hi_ u w' hg hd
              rcases (by omega : i_ = 0 ∨ i_ = 1 ∨ i_ = 2 ∨ i_ = 3 ∨ i_ = 4 ∨ i_ = 5 ∨ i_ = 6 ∨ i_ = 7 ∨ i_ = 8 ∨ i_ = 9 ∨ i_ = 10 ∨ i_ = 11) with rfl | rfl | rfl | rfl | rfl | rfl | rfl | rfl | rfl | rfl | rfl | rfl <;> obtain rfl := Option.some.inj ho <;>
                simp (decide := true) only [fillAct, List.mapIdx_cons, List.mapIdx_nil, Nat.reduceAdd, if_true, if_false, List.getD_cons_zero, List.getD_cons_succ]
              · clear hd ho
                go_wp2_with fail
                exact ⟨rfl, gb_refl _ _, rfl⟩
              · clear hd ho
                go_wp2_with fail
                exact ⟨rfl, gb_refl _ _, rfl⟩
              · clear hd ho
                go_wp2_with fail
                exact ⟨rfl, gb_refl _ _, rfl⟩
              · clear hd ho
                go_wp2_with fail
                exact ⟨rfl, gb_refl _ _, rfl⟩
              · have h3 : u 58 = .slice (some ⟨b3, o3, none⟩) (r + 1) c3 := hd 3 (by kernel_rfl)
                clear hd ho
                rw [h3]
                go_wp2_with fail
                exact ⟨rfl, gb_refl _ _, rfl⟩
              · have h4 : u 59 = .int .i64 ((r : Int) + 1) := hd 4 (by kernel_rfl)
                clear hd ho
                rw [h4]
                go_wp2_with fail
                exact ⟨rfl, gb_refl _ _, rfl⟩
              · have h2 : u 57 = .slice (some ⟨b3, o3, none⟩) (r + 1) c3 := hd 2 (by kernel_rfl)
                have h5 : u 60 = .int .i64 (r : Int) := hd 5 (by kernel_rfl)
                clear hd ho
                rw [h2, h5]
                go_wp2_with fail
                exact ⟨rfl, gb_refl _ _, rfl⟩
              · have h6 : u 61 = .pointer (some ⟨b3, o3 + r, none⟩) := hd 6 (by kernel_rfl)
                clear hd ho
                rw [h6]
                have c1 := cell_grown (row := none) hg HCX.out (by simp)
                go_wp2_with fail
                exact ⟨rfl, gb_refl _ _, rfl⟩
              · have h1 : u 56 = .int .i64 c := hd 1 (by kernel_rfl)
                have h7 : u 62 = .slice Ax nx cx := hd 7 (by kernel_rfl)
                clear hd ho
                rw [h1, h7]
                have hx1 := RL.gr HLX.out hg
                go_wp2_with (go_at_call 21; ((with_reducible refine (HSUM.out _ hx1).mono ?_); rintro e w3 ⟨rfl, g3⟩))
                exact ⟨rfl, g3, rfl⟩
              · clear hd ho
                have h1 := HB13.out.grown hg (by simp)
                go_wp2_with ((with_reducible refine wpList_load_bk (x := .tmp 13) (t := 34) b13 _ (X.l.map bv) _ h1 (by kernel_rfl) Try.underlying34 rfl (idSize _) ?_))
                exact ⟨rfl, gb_refl _ _, rfl⟩
              · have h8 : u 63 = idv S := hd 8 (by kernel_rfl)
                have h9 : u 64 = idv X := hd 9 (by kernel_rfl)
                clear hd ho
                rw [h8, h9]
                have hgs := hg.size
                rw [← HBB.out] at hgs
                go_wp2_with (go_at_call 61; ((with_reducible refine (snode_any S X _).mono ?_); rintro e w3 ⟨v3, rfl, ho3, g3⟩; obtain ⟨A4, c4, rfl⟩ := ho3.form))
                have h1 : RdB (fun b => B ≤ b ∧ b < w3.heap.size) w3 (.slice A4 65 c4) T := by
                  rw [HT.out]; unfold RdB; rw [show (1 :: (S.l ++ X.l)).length = 65 by rw [List.length_cons, List.length_append, S.h, X.h]]
                  exact ho3.rd (fun b hb => ⟨Nat.le_trans hgs (ho3.lt hb).1, (ho3.lt hb).2⟩)
                exact ⟨rfl, g3, ⟨A4, c4, rfl, h1⟩⟩
              · have h10 : ∃ A c, (u 65) = .slice A 65 c ∧ RdB (fun b => B ≤ b ∧ b < w'.heap.size) w' (.slice A 65 c) T := hd 10 (by kernel_rfl)
                clear hd ho
                have hgs := hg.size
                rw [← HBB.out] at hgs
                obtain ⟨A4, c4, e4, h4⟩ := h10
                rw [e4]
                go_wp2_with fail
                exact ⟨rfl, gb_alloc (gb_refl _ _) _, ⟨A4, c4, _, rfl, hgs, Bk.new _ _ [_], Rd.mono (Rd.grown h4 (gb_alloc (gb_refl _ none) _) (by simp)) fun b hb => ⟨hb.1, Nat.lt_of_lt_of_le hb.2 (by rw [World.size_alloc]; omega)⟩⟩⟩
            case fin2 =>
              intro u w8 hg hφ
              have h1 : u 55 = .slice (some ⟨b3, o3, none⟩) (r + 1) c3 := hφ 0 (by omega)
              obtain ⟨A4, c4, b4, h2, hB4, hb4, hr4⟩ := (show ∃ A c b, u 66 = .slice (some ⟨b, 0, none⟩) 1 1 ∧ B ≤ b ∧ Bk w8 b 27 [.slice A 65 c] ∧ RdB (fun b => B ≤ b ∧ b < w8.heap.size) w8 (.slice A 65 c) T from hφ 11 (by omega))
              simp (decide := true) only [fillAct, List.mapIdx_cons, List.mapIdx_nil, Nat.reduceAdd, if_true, if_false, List.drop_succ_cons, List.drop_zero]
              rw [h1, h2]
              clear hφ h1 h2
              have ho8 : Ow w6.heap.size w8 1 (.slice (some ⟨b3, o3, none⟩) (r + 1) c3) (r + 1) vs := by have h := HOX1.out.grown hg (fun _ _ => by simp); rw [HR1.out] at h; exact h
              have hs8 : Src Try.prog 1 22 (.slice (some ⟨b4, 0, none⟩) 1 1) 1 [.slice A4 65 c4] w8 := src_rd (P := Try.prog) (k := 1) (tx := 22) Try.underlying22 (Rd.mk' (NB := fun _ => True) (k := 1) (n := 1) (c := 1) hb4.range trivial (Nat.le_refl _) (by decide) rfl) (by intro u hu; rw [List.mem_singleton.1 hu]; rfl)
              have hB8 : w6.heap.size ≤ w8.heap.size := by have h1 := hg.size; have h2 : w6.heap.size ≤ b3 := (HOX1.out.lt rfl).1; have h3 := HB3.out; omega
              have h63 : r + 1 + 1 ≤ maxLen := Nat.le_trans (show r + 1 + 1 ≤ 1003 by omega) (by decide)
              have hby : (r + 1 + 1) * 24 ≤ 140737488355328 := by omega
              go_wp2_with ((with_reducible refine wpList_append_ow (s := .tmp 55) (x := .tmp 66) (v := .slice (some ⟨b3, o3, none⟩) (r + 1) c3) (y := .slice (some ⟨b4, 0, none⟩) 1 1) (by kernel_rfl) (by kernel_rfl) Try.underlying22 okSl7 ho8 hs8 hB8 h63 hby ?_)
                           intro v9 w9 ho9 hg9 hb9
                           obtain ⟨A9, c9', rfl⟩ := ho9.form)
              go_ret2
              have hrow : ∀ z, (Value.slice (some ⟨b3, o3, none⟩) (r + 1) c3).ownBlock = some z → w.heap.size ≤ z := fun z hz => Nat.le_trans HG6' (HOX1.out.lt hz).1
              refine ⟨_, _, _, _, rfl, gb_own (gb_trans HG7.out hg) hg9 hrow, .inr ⟨_, HTT.out, rfl, by rw [List.length_append, HR1.out]; rfl, ?_⟩⟩
              refine OwX.snocs (w := w8) (v := .slice (some ⟨b3, o3, none⟩) (r + 1) c3) (vs := vs) (us := [.slice A4 65 c4]) (ms := [T]) (by have := HOX1.out.len; rw [this, HR1.out]; omega) (by rw [HR1.out]; rfl) ?_ ?_ (Ow.wk ho9 HG6') hg9 hb9
              · intro j l' hj
                obtain ⟨u', hu', hr'⟩ := HOX2.out j l' hj
                exact ⟨u', hu', Rd.mono (Rd.grown hr' hg (by simp)) fun b hb => ⟨Nat.lt_of_lt_of_le hb.1 hg.size, by rw [HR1.out] at hb; exact hb.2⟩⟩
              · intro j l' hj
                match j, hj with
                | 0, hj =>
                  cases hj
                  refine ⟨_, rfl, Rd.mono hr4 fun b hb => ⟨hb.2, fun e => ?_⟩⟩
                  have e1 := Option.some.inj (show some b3 = some b from e)
                  have h1 := HB3.out; have h2 := hb.1; rw [HBB.out] at h2; omega
                | j + 1, hj => cases hj
        · have d3 : decide (p < k) = false := decide_eq_false hpk
          have d4 : decide ((p : Int) < (k : Int)) = false := decide_eq_false (by omega)
          have HTX : Hid (textsR (sumC c) e p n (X :: rp) = (textsR (sumC c) e (p - k) (n - k) rp).map fun l => l ++ [1 :: (X.l ++ (sumC c (l.getLastD [])).l)]) := Go.Lib.hid (by rw [textsR, if_neg HH1.out, if_neg (by rw [← HK.out]; exact hpk), ← HK.out])
          obtain ⟨p2, hp2⟩ : ∃ p2, p2 = p - k := ⟨_, rfl⟩
          obtain ⟨n2, hn2⟩ : ∃ n2, n2 = n - k := ⟨_, rfl⟩
          have hpe : (p : Int) - (k : Int) = (p2 : Int) := by omega
          have hne2 : (n : Int) - (k : Int) = (n2 : Int) := by omega
          rw [← hp2, ← hn2] at HTX
          have hpq : 1 ≤ n2 ∧ n2 ≤ 1099511627776 ∧ p2 < n2 := by omega
          have HPN := Go.Lib.hid hpq
          clear hp2 hn2 hpq
          go_upto_region 12 with (go_at_call 47; ((with_reducible refine (HIH.out p2 n2 _ _ _ HVE6.out HPI6.out HPN.out.1 HPN.out.2.1 HPN.out.2.2 HRL.out).mono ?_); rintro E w7 ⟨A3, m3, c3, ok, rfl, g7, hm⟩))
          rcases hm with ⟨hm, rfl⟩ | ⟨l, hm, rfl, rfl, hox⟩
          · go_wp2_with fail
            go_ret2
            exact ⟨_, _, _, _, rfl, gb_trans HG6.out g7, .inl ⟨by rw [HTX.out, hm]; rfl, rfl⟩⟩
          · obtain ⟨r, hr1⟩ : ∃ r, l.length = r + 1 := ⟨rp.length, textsR_len _ _ _ _ _ _ hm⟩
            have hll : l.length ≤ 1001 := by rw [textsR_len _ _ _ _ _ _ hm]; have := HRL.out; omega
            obtain ⟨x, hx⟩ : ∃ x, l[r]? = some x := ⟨_, List.getElem?_eq_getElem (by omega)⟩
            have hxl : x.length ≤ 1000065 := Nat.le_trans (textsR_each _ _ _ _ _ _ hm x (List.mem_of_getElem? hx)) (by omega)
            have hgl : l.getLastD [] = x := by rw [List.getLastD_eq_getLast?, List.getLast?_eq_getElem?, show l.length - 1 = r by omega, hx]; rfl
            obtain ⟨vs, hox1, hox2⟩ := id hox
            obtain ⟨ux, hux, hub⟩ := hox2 r x hx
            obtain ⟨Ax, cx, rfl, hxc⟩ := Rd.form hub
            obtain ⟨nx, hnx⟩ : ∃ nx, nx = x.length := ⟨_, rfl⟩
            rw [← hnx] at hub hux hxc
            obtain ⟨b3, o3, c3', he3, hB3, hb3, hc3, hr3, _⟩ := hox1.at (by rw [hr1]; omega)
            injection he3 with he3 _ hc3'
            subst he3 hc3'
            have hcx := hr3 r _ hux
            obtain ⟨S, hS⟩ : ∃ S, S = sumC c x := ⟨_, rfl⟩
            obtain ⟨T, hT⟩ : ∃ T, T = 1 :: (X.l ++ S.l) := ⟨_, rfl⟩
            have hTT : textsR (sumC c) e p n (X :: rp) = some (l ++ [T]) := by rw [HTX.out, hm, Option.map_some, hgl, ← hS, hT]
            have hsum : ∀ w, RL w (.slice Ax nx cx) x → Calls Try.prog 21 #[.int .i64 c, .slice Ax nx cx] w fun E w' => E = .returned (idv S) ∧ w.grownBy w' none := fun w h => by rw [hS]; exact ssum_any c _ x _ w h (fun _ h => h) (by omega)
            have hb13 := HB6.out.grown g7 (by simp)
            have hg07 := gb_trans HG6.out g7
            have hrI : (0 : Int) ≤ (r : Int) ∧ (r : Int) < 1001 ∧ (r : Int) < (c3 : Int) := by omega
            have HCX := Go.Lib.hid hcx
            have HLX : Hid (RL w7 (.slice Ax nx cx) x) := Go.Lib.hid (Rd.mono hub fun b hb => hb.1)
            have HSUM := Go.Lib.hid hsum
            have HB13 := Go.Lib.hid hb13
            have HT := Go.Lib.hid hT
            have HTT := Go.Lib.hid hTT
            have HOX1 := Go.Lib.hid hox1
            have HOX2 := Go.Lib.hid hox2
            have HR1 := Go.Lib.hid hr1
            have HG7 := Go.Lib.hid hg07
            have HB3 := Go.Lib.hid hb3
            have HG6' := HG6.out.size
            rw [hr1] at hc3 hox ⊢
            have HOX := Go.Lib.hid hox
            obtain ⟨B, hBB⟩ : ∃ B, B = w7.heap.size := ⟨_, rfl⟩
            have HBB := Go.Lib.hid hBB
            clear hBB
            clear hm hll hx hxl hgl hox hox1 hox2 hux hub hxc hnx hB3 hb3 hr3 hcx hS hT hTT hsum hb13 hg07 g7 hr1 HIH HLF HTX HPI HPI6 HVE HVE6 HRX hhalf HG6 HB6
            go_upto_region 14 with fail
            refine wp_region_specs 12 [87, 88, 89, 90, 91, 92, 93, 94, 95, 96, 97, 98] (by kernel_rfl) (by kernel_rfl) (tyφ b3 o3 r c3 nx cx B Ax c S X T) (tyφ_gr b3 o3 r c3 nx cx B Ax c S X T) ?step3 ?fin3
            case step3 =>
              intro i_ o_ ho hi_ u w' hg hd
              rcases (by omega : i_ = 0 ∨ i_ = 1 ∨ i_ = 2 ∨ i_ = 3 ∨ i_ = 4 ∨ i_ = 5 ∨ i_ = 6 ∨ i_ = 7 ∨ i_ = 8 ∨ i_ = 9 ∨ i_ = 10 ∨ i_ = 11) with rfl | rfl | rfl | rfl | rfl | rfl | rfl | rfl | rfl | rfl | rfl | rfl <;> obtain rfl := Option.some.inj ho <;>
                simp (decide := true) only [fillAct, List.mapIdx_cons, List.mapIdx_nil, Nat.reduceAdd, if_true, if_false, List.getD_cons_zero, List.getD_cons_succ]
              · clear hd ho
                go_wp2_with fail
                exact ⟨rfl, gb_refl _ _, rfl⟩
              · clear hd ho
                have h1 := HB13.out.grown hg (by simp)
                go_wp2_with ((with_reducible refine wpList_load_bk (x := .tmp 13) (t := 34) b13 _ (X.l.map bv) _ h1 (by kernel_rfl) Try.underlying34 rfl (idSize _) ?_))
                exact ⟨rfl, gb_refl _ _, rfl⟩
              · clear hd ho
                go_wp2_with fail
                exact ⟨rfl, gb_refl _ _, rfl⟩
              · clear hd ho
                go_wp2_with fail
                exact ⟨rfl, gb_refl _ _, rfl⟩
              · clear hd ho
                go_wp2_with fail
                exact ⟨rfl, gb_refl _ _, rfl⟩
              · have h4 : u 91 = .slice (some ⟨b3, o3, none⟩) (r + 1) c3 := hd 4 (by kernel_rfl)
                clear hd ho
                rw [h4]
                go_wp2_with fail
                exact ⟨rfl, gb_refl _ _, rfl⟩
              · have h5 : u 92 = .int .i64 ((r : Int) + 1) := hd 5 (by kernel_rfl)
                clear hd ho
                rw [h5]
                go_wp2_with fail
                exact ⟨rfl, gb_refl _ _, rfl⟩
              · have h3 : u 90 = .slice (some ⟨b3, o3, none⟩) (r + 1) c3 := hd 3 (by kernel_rfl)
                have h6 : u 93 = .int .i64 (r : Int) := hd 6 (by kernel_rfl)
                clear hd ho
                rw [h3, h6]
                go_wp2_with fail
                exact ⟨rfl, gb_refl _ _, rfl⟩
              · have h7 : u 94 = .pointer (some ⟨b3, o3 + r, none⟩) := hd 7 (by kernel_rfl)
                clear hd ho
                rw [h7]
                have c1 := cell_grown (row := none) hg HCX.out (by simp)
                go_wp2_with fail
                exact ⟨rfl, gb_refl _ _, rfl⟩
              · have h2 : u 89 = .int .i64 c := hd 2 (by kernel_rfl)
                have h8 : u 95 = .slice Ax nx cx := hd 8 (by kernel_rfl)
                clear hd ho
                rw [h2, h8]
                have hx1 := RL.gr HLX.out hg
                go_wp2_with (go_at_call 21; ((with_reducible refine (HSUM.out _ hx1).mono ?_); rintro e w3 ⟨rfl, g3⟩))
                exact ⟨rfl, g3, rfl⟩
              · have h1 : u 88 = idv X := hd 1 (by kernel_rfl)
                have h9 : u 96 = idv S := hd 9 (by kernel_rfl)
                clear hd ho
                rw [h1, h9]
                have hgs := hg.size
                rw [← HBB.out] at hgs
                go_wp2_with (go_at_call 61; ((with_reducible refine (snode_any X S _).mono ?_); rintro e w3 ⟨v3, rfl, ho3, g3⟩; obtain ⟨A4, c4, rfl⟩ := ho3.form))
                have h1 : RdB (fun b => B ≤ b ∧ b < w3.heap.size) w3 (.slice A4 65 c4) T := by
                  rw [HT.out]; unfold RdB; rw [show (1 :: (X.l ++ S.l)).length = 65 by rw [List.length_cons, List.length_append, S.h, X.h]]
                  exact ho3.rd (fun b hb => ⟨Nat.le_trans hgs (ho3.lt hb).1, (ho3.lt hb).2⟩)
                exact ⟨rfl, g3, ⟨A4, c4, rfl, h1⟩⟩
              · have h10 : ∃ A c, (u 97) = .slice A 65 c ∧ RdB (fun b => B ≤ b ∧ b < w'.heap.size) w' (.slice A 65 c) T := hd 10 (by kernel_rfl)
                clear hd ho
                have hgs := hg.size
                rw [← HBB.out] at hgs
                obtain ⟨A4, c4, e4, h4⟩ := h10
                rw [e4]
                go_wp2_with fail
                exact ⟨rfl, gb_alloc (gb_refl _ _) _, ⟨A4, c4, _, rfl, hgs, Bk.new _ _ [_], Rd.mono (Rd.grown h4 (gb_alloc (gb_refl _ none) _) (by simp)) fun b hb => ⟨hb.1, Nat.lt_of_lt_of_le hb.2 (by rw [World.size_alloc]; omega)⟩⟩⟩
            case fin3 =>
              intro u w8 hg hφ
              have h1 : u 87 = .slice (some ⟨b3, o3, none⟩) (r + 1) c3 := hφ 0 (by omega)
              obtain ⟨A4, c4, b4, h2, hB4, hb4, hr4⟩ := (show ∃ A c b, u 98 = .slice (some ⟨b, 0, none⟩) 1 1 ∧ B ≤ b ∧ Bk w8 b 27 [.slice A 65 c] ∧ RdB (fun b => B ≤ b ∧ b < w8.heap.size) w8 (.slice A 65 c) T from hφ 11 (by omega))
              simp (decide := true) only [fillAct, List.mapIdx_cons, List.mapIdx_nil, Nat.reduceAdd, if_true, if_false, List.drop_succ_cons, List.drop_zero]
              rw [h1, h2]
              clear hφ h1 h2
              have ho8 : Ow w6.heap.size w8 1 (.slice (some ⟨b3, o3, none⟩) (r + 1) c3) (r + 1) vs := by have h := HOX1.out.grown hg (fun _ _ => by simp); rw [HR1.out] at h; exact h
              have hs8 : Src Try.prog 1 22 (.slice (some ⟨b4, 0, none⟩) 1 1) 1 [.slice A4 65 c4] w8 := src_rd (P := Try.prog) (k := 1) (tx := 22) Try.underlying22 (Rd.mk' (NB := fun _ => True) (k := 1) (n := 1) (c := 1) hb4.range trivial (Nat.le_refl _) (by decide) rfl) (by intro u hu; rw [List.mem_singleton.1 hu]; rfl)
              have hB8 : w6.heap.size ≤ w8.heap.size := by have h1 := hg.size; have h2 : w6.heap.size ≤ b3 := (HOX1.out.lt rfl).1; have h3 := HB3.out; omega
              have h63 : r + 1 + 1 ≤ maxLen := Nat.le_trans (show r + 1 + 1 ≤ 1003 by omega) (by decide)
              have hby : (r + 1 + 1) * 24 ≤ 140737488355328 := by omega
              go_wp2_with ((with_reducible refine wpList_append_ow (s := .tmp 87) (x := .tmp 98) (v := .slice (some ⟨b3, o3, none⟩) (r + 1) c3) (y := .slice (some ⟨b4, 0, none⟩) 1 1) (by kernel_rfl) (by kernel_rfl) Try.underlying22 okSl7 ho8 hs8 hB8 h63 hby ?_)
                           intro v9 w9 ho9 hg9 hb9
                           obtain ⟨A9, c9', rfl⟩ := ho9.form)
              go_ret2
              have hrow : ∀ z, (Value.slice (some ⟨b3, o3, none⟩) (r + 1) c3).ownBlock = some z → w.heap.size ≤ z := fun z hz => Nat.le_trans HG6' (HOX1.out.lt hz).1
              refine ⟨_, _, _, _, rfl, gb_own (gb_trans HG7.out hg) hg9 hrow, .inr ⟨_, HTT.out, rfl, by rw [List.length_append, HR1.out]; rfl, ?_⟩⟩
              refine OwX.snocs (w := w8) (v := .slice (some ⟨b3, o3, none⟩) (r + 1) c3) (vs := vs) (us := [.slice A4 65 c4]) (ms := [T]) (by have := HOX1.out.len; rw [this, HR1.out]; omega) (by rw [HR1.out]; rfl) ?_ ?_ (Ow.wk ho9 HG6') hg9 hb9
              · intro j l' hj
                obtain ⟨u', hu', hr'⟩ := HOX2.out j l' hj
                exact ⟨u', hu', Rd.mono (Rd.grown hr' hg (by simp)) fun b hb => ⟨Nat.lt_of_lt_of_le hb.1 hg.size, by rw [HR1.out] at hb; exact hb.2⟩⟩
              · intro j l' hj
                match j, hj with
                | 0, hj =>
                  cases hj
                  refine ⟨_, rfl, Rd.mono hr4 fun b hb => ⟨hb.2, fun e => ?_⟩⟩
                  have e1 := Option.some.inj (show some b3 = some b from e)
                  have h1 := HB3.out; have h2 := hb.1; rw [HBB.out] at h2; omega
                | j + 1, hj => cases hj
end Go.Proofs.Ytajgklomcapboaa
/- short: Leads; scrivenerref07: Leads. -/
namespace Sc
open Go Go.RowKit
/-- Does a way lead from an entry to a root? -/
def leadsB (H : List UInt8 → Id) (e : List UInt8) (a n : Int) (path : List Id) (X : Id) : Bool :=
  if a < 0 ∨ n ≤ a ∨ 1099511627776 < n ∨ 64 < path.length then false else match textsR H e a.toNat n.toNat path.reverse with
    | none => false
    | some l => (H (l.getLastD [])).l == X.l
end Sc
namespace Go.Proofs.Ytajgklomcapboaa
open Go.RowKit Go.Shelf Sc
def sldφ (b3 o3 r c3 nx cx : Nat) (Ax : Option Addr) (c : Int) (S X : Sc.Id) (D : Bool) (i : Nat) (v : Value) (_w : World) : Prop := match i with
  | 0 => v = .bool true
  | 1 => v = .bool true
  | 2 => v = .int .i64 c
  | 3 => v = .slice (some ⟨b3, o3, none⟩) (r + 1) c3
  | 4 => v = .slice (some ⟨b3, o3, none⟩) (r + 1) c3
  | 5 => v = .int .i64 ((r : Int) + 1)
  | 6 => v = .int .i64 (r : Int)
  | 7 => v = .pointer (some ⟨b3, o3 + r, none⟩)
  | 8 => v = .slice Ax nx cx
  | 9 => v = idv S
  | 10 => v = idv X
  | 11 => v = .bool D
  | 12 => v = .bool D
  | _ => True
theorem sldφ_gr (b3 o3 r c3 nx cx : Nat) (Ax : Option Addr) (c : Int) (S X : Sc.Id) (D : Bool) : ∀ i v w w', sldφ b3 o3 r c3 nx cx Ax c S X D i v w → Gr w w' → sldφ b3 o3 r c3 nx cx Ax c S X D i v w' := by
  intro i v w w' h hg
  match i with
  | 0 => exact h
  | 1 => exact h
  | 2 => exact h
  | 3 => exact h
  | 4 => exact h
  | 5 => exact h
  | 6 => exact h
  | 7 => exact h
  | 8 => exact h
  | 9 => exact h
  | 10 => exact h
  | 11 => exact h
  | 12 => exact h
  | i + 13 => exact h
def slnφ (_n : Nat) (i : Nat) (v : Value) (_w : World) : Prop := match i with
  | 0 => v = .bool false
  | 1 => v = .bool false
  | 2 => v = undef
  | 3 => v = undef
  | 4 => v = undef
  | 5 => v = undef
  | 6 => v = undef
  | 7 => v = undef
  | 8 => v = undef
  | 9 => v = undef
  | 10 => v = undef
  | 11 => v = undef
  | 12 => v = .bool false
  | _ => True
theorem slnφ_gr (n : Nat) : ∀ i v w w', slnφ n i v w → Gr w w' → slnφ n i v w' := by
  intro i v w w' h hg
  match i with
  | 0 => exact h
  | 1 => exact h
  | 2 => exact h
  | 3 => exact h
  | 4 => exact h
  | 5 => exact h
  | 6 => exact h
  | 7 => exact h
  | 8 => exact h
  | 9 => exact h
  | 10 => exact h
  | 11 => exact h
  | 12 => exact h
  | i + 13 => exact h

set_option maxHeartbeats 8000000 in
set_option maxRecDepth 100000 in
theorem sleads_any (c a n : Int) (e : List UInt8) (path : List Sc.Id) (X : Sc.Id) (ve vp : Value) (w : World) (he : e.length ≤ 1000000) (hve : RL w ve e) (hvp : RI w vp path) :
    Calls Try.prog 22 #[.int .i64 c, ve, .int .i64 a, .int .i64 n, vp, idv X] w fun E w' => E = .returned (.bool (leadsB (sumC c) e a n path X)) ∧ w.grownBy w' none := by
  rw [show idv X = .agg (X.l.map bv).toArray from rfl]
  go_enter Try.func22, Try.ntmps22
  obtain ⟨Ae, ce, rfl, _⟩ := Rd.form hve
  obtain ⟨ne, hne⟩ : ∃ ne, ne = e.length := ⟨_, rfl⟩
  obtain ⟨Ap, cp, rfl, _⟩ := Rd.form hvp
  obtain ⟨np, hnp⟩ : ∃ np, np = path.length := ⟨_, rfl⟩
  have hmp := Rd.le hvp
  rw [← hne] at hve ⊢
  rw [← hnp] at hvp hmp ⊢
  obtain ⟨W, hW⟩ : ∃ W, W = w.alloc (.cells (X.l.map bv).toArray 34) := ⟨_, rfl⟩
  obtain ⟨b0, hb0⟩ : ∃ b0, b0 = w.heap.size := ⟨_, rfl⟩
  have hbk : Bk W b0 34 (X.l.map bv) := by rw [hW, hb0]; exact Bk.new w _ _
  have g0 : w.grownBy W none := by rw [hW]; exact gb_alloc (gb_refl w none) _
  have HVE := Go.Lib.hid (RL.gr hve g0)
  have HVP := Go.Lib.hid (RI.gr hvp g0)
  have HB0 := Go.Lib.hid hbk
  have HBE := Go.Lib.hid hb0
  have HW := Go.Lib.hid hW
  have HG0 := Go.Lib.hid g0
  have HNP := Go.Lib.hid hnp
  have HE := Go.Lib.hid he
  have hnpI : (0 : Int) ≤ (np : Int) ∧ (np : Int) ≤ 9223372036854775807 := by unfold maxLen at hmp; omega
  clear hve hvp hne hnp hW hb0 hbk g0 he hmp
  rcases (by omega : (a < 0 ∨ (0 ≤ a ∧ (n ≤ a ∨ (a < n ∧ (1099511627776 < n ∨ (n ≤ 1099511627776 ∧ 64 < np)))))) ∨ (0 ≤ a ∧ a < n ∧ n ≤ 1099511627776 ∧ np ≤ 64)) with hg | ⟨ha0, han, hn, hp⟩
  · have hv : leadsB (sumC c) e a n path X = false := by
      unfold leadsB
      rw [if_pos (by rw [← HNP.out]; omega)]
    rw [hv]
    clear hv
    rcases hg with h | ⟨h1, h | ⟨h2, h | ⟨h3, h⟩⟩⟩
    all_goals
      first
        | (have d1 : decide (a < 0) = true := decide_eq_true (by omega))
        | (have d1 : decide (a < 0) = false := decide_eq_false (by omega)
           first
             | (have d2 : decide (n ≤ a) = true := decide_eq_true (by omega)
                have d2' : decide (a ≥ n) = true := decide_eq_true (by omega))
             | (have d2 : decide (n ≤ a) = false := decide_eq_false (by omega)
                have d2' : decide (a ≥ n) = false := decide_eq_false (by omega)
                first
                  | (have d3 : decide (n > 1099511627776) = true := decide_eq_true (by omega)
                     have d3' : decide (1099511627776 < n) = true := decide_eq_true (by omega))
                  | (have d3 : decide (n > 1099511627776) = false := decide_eq_false (by omega)
                     have d3' : decide (1099511627776 < n) = false := decide_eq_false (by omega)
                     have d4 : decide ((np : Int) > 64) = true := decide_eq_true (by omega)
                     have d4' : decide ((64 : Int) < (np : Int)) = true := decide_eq_true (by omega)
                     have d4'' : decide (64 < np) = true := decide_eq_true (by omega))))
      go_wp2_with fail
      go_ret
      exact ⟨rfl, by rw [← HW.out]; exact HG0.out⟩
  · have d1 : decide (a < 0) = false := decide_eq_false (by omega)
    have d2 : decide (n ≤ a) = false := decide_eq_false (by omega)
    have d2' : decide (a ≥ n) = false := decide_eq_false (by omega)
    have d3 : decide (n > 1099511627776) = false := decide_eq_false (by omega)
    have d3' : decide (1099511627776 < n) = false := decide_eq_false (by omega)
    have d4 : decide ((np : Int) > 64) = false := decide_eq_false (by omega)
    have d4' : decide ((64 : Int) < (np : Int)) = false := decide_eq_false (by omega)
    have d4'' : decide (64 < np) = false := decide_eq_false (by omega)
    obtain ⟨p, rfl⟩ : ∃ p : Nat, a = (p : Int) := ⟨a.toNat, by omega⟩
    obtain ⟨m, rfl⟩ : ∃ m : Nat, n = (m : Int) := ⟨n.toNat, by omega⟩
    have hv : leadsB (sumC c) e (p : Int) (m : Int) path X = match textsR (sumC c) e p m path.reverse with | none => false | some l => (sumC c (l.getLastD [])).l == X.l := by
      unfold leadsB
      rw [if_neg (by rw [← HNP.out]; omega)]
      rfl
    have htx : ∀ w', RL w' (.slice Ae ne ce) e → RI w' (.slice Ap np cp) path → Calls Try.prog 47 #[.int .i64 c, .slice Ae ne ce, .int .i64 (p : Int), .int .i64 (m : Int), .slice Ap np cp] w' (TRes c e p m path.reverse w') := fun w' h h' =>
      texts_any c e HE.out path.reverse p m _ _ w' h (by rw [List.reverse_reverse]; exact h') (by omega) (by omega) (by omega) (by rw [List.length_reverse, ← HNP.out]; omega)
    have HTX := Go.Lib.hid htx
    obtain ⟨D, hD⟩ : ∃ D, D = leadsB (sumC c) e (p : Int) (m : Int) path X := ⟨_, rfl⟩
    rw [← hD]
    rw [hv] at hD
    have HDD := Go.Lib.hid hD
    clear hv hD htx
    go_upto_region 4 with (first
      | (go_at_call 47; (rw [← HW.out]; (with_reducible refine (HTX.out _ HVE.out HVP.out).mono ?_); rintro E w7 ⟨A3, m3, c3, ok, rfl, g7, hm⟩)))
    rw [← HBE.out]
    rcases hm with ⟨hm, rfl⟩ | ⟨l, hm, rfl, rfl, hox⟩
    · have hDf : D = false := by rw [HDD.out, hm]
      have HDF := Go.Lib.hid hDf
      clear hm hDf HDD
      refine wp_region_specs 13 [40, 41, 42, 43, 44, 45, 46, 47, 48, 49, 50, 51, 52] (by kernel_rfl) (by kernel_rfl) (slnφ 0) (slnφ_gr 0) ?step ?fin
      case step =>
        intro i_ o_ ho hi_ u w' hg hd
        rcases (by omega : i_ = 0 ∨ i_ = 1 ∨ i_ = 2 ∨ i_ = 3 ∨ i_ = 4 ∨ i_ = 5 ∨ i_ = 6 ∨ i_ = 7 ∨ i_ = 8 ∨ i_ = 9 ∨ i_ = 10 ∨ i_ = 11 ∨ i_ = 12) with rfl | rfl | rfl | rfl | rfl | rfl | rfl | rfl | rfl | rfl | rfl | rfl | rfl <;> obtain rfl := Option.some.inj ho <;>
          simp (decide := true) only [fillAct, List.mapIdx_cons, List.mapIdx_nil, Nat.reduceAdd, if_true, if_false, List.getD_cons_zero, List.getD_cons_succ]
        · clear hd ho
          go_wp2_with fail
          exact ⟨rfl, gb_refl _ _, rfl⟩
        · have h0 : u 40 = .bool false := hd 0 (by kernel_rfl)
          clear hd ho
          rw [h0]
          go_wp2_with fail
          exact ⟨rfl, gb_refl _ _, rfl⟩
        · have h1 : u 41 = .bool false := hd 1 (by kernel_rfl)
          clear hd ho
          rw [h1]
          refine wpList_unwanted (by rfl) ?_
          go_wp2_with fail
          exact ⟨rfl, gb_refl _ _, rfl⟩
        · have h1 : u 41 = .bool false := hd 1 (by kernel_rfl)
          clear hd ho
          rw [h1]
          refine wpList_unwanted (by rfl) ?_
          go_wp2_with fail
          exact ⟨rfl, gb_refl _ _, rfl⟩
        · have h1 : u 41 = .bool false := hd 1 (by kernel_rfl)
          clear hd ho
          rw [h1]
          refine wpList_unwanted (by rfl) ?_
          go_wp2_with fail
          exact ⟨rfl, gb_refl _ _, rfl⟩
        · have h1 : u 41 = .bool false := hd 1 (by kernel_rfl)
          clear hd ho
          rw [h1]
          refine wpList_unwanted (by rfl) ?_
          go_wp2_with fail
          exact ⟨rfl, gb_refl _ _, rfl⟩
        · have h1 : u 41 = .bool false := hd 1 (by kernel_rfl)
          clear hd ho
          rw [h1]
          refine wpList_unwanted (by rfl) ?_
          go_wp2_with fail
          exact ⟨rfl, gb_refl _ _, rfl⟩
        · have h1 : u 41 = .bool false := hd 1 (by kernel_rfl)
          clear hd ho
          rw [h1]
          refine wpList_unwanted (by rfl) ?_
          go_wp2_with fail
          exact ⟨rfl, gb_refl _ _, rfl⟩
        · have h1 : u 41 = .bool false := hd 1 (by kernel_rfl)
          clear hd ho
          rw [h1]
          refine wpList_unwanted (by rfl) ?_
          go_wp2_with fail
          exact ⟨rfl, gb_refl _ _, rfl⟩
        · have h1 : u 41 = .bool false := hd 1 (by kernel_rfl)
          clear hd ho
          rw [h1]
          refine wpList_unwanted (by rfl) ?_
          go_wp2_with fail
          exact ⟨rfl, gb_refl _ _, rfl⟩
        · have h1 : u 41 = .bool false := hd 1 (by kernel_rfl)
          clear hd ho
          rw [h1]
          refine wpList_unwanted (by rfl) ?_
          go_wp2_with fail
          exact ⟨rfl, gb_refl _ _, rfl⟩
        · have h1 : u 41 = .bool false := hd 1 (by kernel_rfl)
          clear hd ho
          rw [h1]
          refine wpList_unwanted (by rfl) ?_
          go_wp2_with fail
          exact ⟨rfl, gb_refl _ _, rfl⟩
        · have h1 : u 41 = .bool false := hd 1 (by kernel_rfl)
          clear hd ho
          rw [h1]
          go_wp2_with fail
          exact ⟨rfl, gb_refl _ _, rfl⟩
      case fin =>
        intro u w8 hg hφ
        have hz : u 52 = .bool false := hφ 12 (by omega)
        simp (decide := true) only [fillAct, List.mapIdx_cons, List.mapIdx_nil, Nat.reduceAdd, if_true, if_false, List.drop_succ_cons, List.drop_zero]
        rw [hz]
        clear hφ
        go_wp2_with fail
        go_ret
        exact ⟨by rw [HDF.out]; rfl, gb_trans (gb_trans HG0.out g7) hg⟩
    · have hl1 := textsR_len _ _ _ _ _ _ hm
      have hrl : path.reverse.length = np := by rw [List.length_reverse, HNP.out]
      obtain ⟨r, hr1⟩ : ∃ r, l.length = r + 1 := ⟨path.reverse.length, hl1⟩
      obtain ⟨x, hx⟩ : ∃ x, l[r]? = some x := ⟨_, List.getElem?_eq_getElem (by omega)⟩
      have hxl : x.length ≤ 1000065 := Nat.le_trans (textsR_each _ _ _ _ _ _ hm x (List.mem_of_getElem? hx)) (by have := HE.out; omega)
      have hgl : l.getLastD [] = x := by rw [List.getLastD_eq_getLast?, List.getLast?_eq_getElem?, show l.length - 1 = r by omega, hx]; rfl
      obtain ⟨vs, hox1, hox2⟩ := id hox
      obtain ⟨ux, hux, hub⟩ := hox2 r x hx
      obtain ⟨Ax, cx, rfl, hxc⟩ := Rd.form hub
      obtain ⟨nx, hnx⟩ : ∃ nx, nx = x.length := ⟨_, rfl⟩
      rw [← hnx] at hub hux hxc
      obtain ⟨b3, o3, c3', he3, hB3, hb3, hc3, hr3, _⟩ := hox1.at (by rw [hr1]; omega)
      injection he3 with he3 _ hc3'
      subst he3 hc3'
      have hcx := hr3 r _ hux
      obtain ⟨S, hS⟩ : ∃ S, S = sumC c x := ⟨_, rfl⟩
      have hD2 : D = (S.l == X.l) := by rw [HDD.out, hm]; show ((sumC c (l.getLastD [])).l == X.l) = _; rw [hgl, hS]
      have hsum : ∀ w, RL w (.slice Ax nx cx) x → Calls Try.prog 21 #[.int .i64 c, .slice Ax nx cx] w fun E w' => E = .returned (idv S) ∧ w.grownBy w' none := fun w h => by rw [hS]; exact ssum_any c _ x _ w h (fun _ h => h) (by omega)
      have hb13 := HB0.out.grown g7 (by simp)
      have hrI : (0 : Int) ≤ (r : Int) ∧ (r : Int) < 100 ∧ (r : Int) < (c3 : Int) := by omega
      have HCX := Go.Lib.hid hcx
      have HLX : Hid (RL w7 (.slice Ax nx cx) x) := Go.Lib.hid (Rd.mono hub fun b hb => hb.1)
      have HSUM := Go.Lib.hid hsum
      have HB0 := Go.Lib.hid hb13
      have HD := Go.Lib.hid hD2
      have HG7 := Go.Lib.hid (gb_trans HG0.out g7)
      rw [hr1] at hc3 hox ⊢
      clear hm hl1 hrl hx hxl hgl hox hox1 hox2 hux hub hxc hnx hB3 hb3 hr3 hcx hS hsum hb13 g7 hr1 hD2 HDD HTX HVE HVP
      refine wp_region_specs 13 [40, 41, 42, 43, 44, 45, 46, 47, 48, 49, 50, 51, 52] (by kernel_rfl) (by kernel_rfl) (sldφ b3 o3 r c3 nx cx Ax c S X D) (sldφ_gr b3 o3 r c3 nx cx Ax c S X D) ?step2 ?fin2
      case step2 =>
        intro i_ o_ ho hi_ u w' hg hd
        rcases (by omega : i_ = 0 ∨ i_ = 1 ∨ i_ = 2 ∨ i_ = 3 ∨ i_ = 4 ∨ i_ = 5 ∨ i_ = 6 ∨ i_ = 7 ∨ i_ = 8 ∨ i_ = 9 ∨ i_ = 10 ∨ i_ = 11 ∨ i_ = 12) with rfl | rfl | rfl | rfl | rfl | rfl | rfl | rfl | rfl | rfl | rfl | rfl | rfl <;> obtain rfl := Option.some.inj ho <;>
          simp (decide := true) only [fillAct, List.mapIdx_cons, List.mapIdx_nil, Nat.reduceAdd, if_true, if_false, List.getD_cons_zero, List.getD_cons_succ]
        · clear hd ho
          go_wp2_with fail
          exact ⟨rfl, gb_refl _ _, rfl⟩
        · have h0 : u 40 = .bool true := hd 0 (by kernel_rfl)
          clear hd ho
          rw [h0]
          go_wp2_with fail
          exact ⟨rfl, gb_refl _ _, rfl⟩
        · have h1 : u 41 = .bool true := hd 1 (by kernel_rfl)
          clear hd ho
          rw [h1]
          refine wpList_guard (by rfl) ?_
          go_wp2_with fail
          exact ⟨rfl, gb_refl _ _, rfl⟩
        · have h1 : u 41 = .bool true := hd 1 (by kernel_rfl)
          clear hd ho
          rw [h1]
          refine wpList_guard (by rfl) ?_
          go_wp2_with fail
          exact ⟨rfl, gb_refl _ _, rfl⟩
        · have h1 : u 41 = .bool true := hd 1 (by kernel_rfl)
          clear hd ho
          rw [h1]
          refine wpList_guard (by rfl) ?_
          go_wp2_with fail
          exact ⟨rfl, gb_refl _ _, rfl⟩
        · have h1 : u 41 = .bool true := hd 1 (by kernel_rfl)
          have h4 : u 44 = .slice (some ⟨b3, o3, none⟩) (r + 1) c3 := hd 4 (by kernel_rfl)
          clear hd ho
          rw [h1, h4]
          refine wpList_guard (by rfl) ?_
          go_wp2_with fail
          exact ⟨rfl, gb_refl _ _, rfl⟩
        · have h1 : u 41 = .bool true := hd 1 (by kernel_rfl)
          have h5 : u 45 = .int .i64 ((r : Int) + 1) := hd 5 (by kernel_rfl)
          clear hd ho
          rw [h1, h5]
          refine wpList_guard (by rfl) ?_
          go_wp2_with fail
          exact ⟨rfl, gb_refl _ _, rfl⟩
        · have h1 : u 41 = .bool true := hd 1 (by kernel_rfl)
          have h3 : u 43 = .slice (some ⟨b3, o3, none⟩) (r + 1) c3 := hd 3 (by kernel_rfl)
          have h6 : u 46 = .int .i64 (r : Int) := hd 6 (by kernel_rfl)
          clear hd ho
          rw [h1, h3, h6]
          refine wpList_guard (by rfl) ?_
          go_wp2_with fail
          exact ⟨rfl, gb_refl _ _, rfl⟩
        · have h1 : u 41 = .bool true := hd 1 (by kernel_rfl)
          have h7 : u 47 = .pointer (some ⟨b3, o3 + r, none⟩) := hd 7 (by kernel_rfl)
          clear hd ho
          rw [h1, h7]
          refine wpList_guard (by rfl) ?_
          have c1 := cell_grown (row := none) hg HCX.out (by simp)
          go_wp2_with fail
          exact ⟨rfl, gb_refl _ _, rfl⟩
        · have h1 : u 41 = .bool true := hd 1 (by kernel_rfl)
          have h2 : u 42 = .int .i64 c := hd 2 (by kernel_rfl)
          have h8 : u 48 = .slice Ax nx cx := hd 8 (by kernel_rfl)
          clear hd ho
          rw [h1, h2, h8]
          refine wpList_guard (by rfl) ?_
          have hx1 := RL.gr HLX.out hg
          go_wp2_with (go_at_call 21; ((with_reducible refine (HSUM.out _ hx1).mono ?_); rintro e w3 ⟨rfl, g3⟩))
          exact ⟨rfl, g3, rfl⟩
        · have h1 : u 41 = .bool true := hd 1 (by kernel_rfl)
          clear hd ho
          rw [h1]
          refine wpList_guard (by rfl) ?_
          have h1 := HB0.out.grown hg (by simp)
          go_wp2_with ((with_reducible refine wpList_load_bk (x := .tmp 11) (t := 34) b0 _ (X.l.map bv) _ h1 (by kernel_rfl) Try.underlying34 rfl (idSize _) ?_))
          exact ⟨rfl, gb_refl _ _, rfl⟩
        · have h1 : u 41 = .bool true := hd 1 (by kernel_rfl)
          have h9 : u 49 = idv S := hd 9 (by kernel_rfl)
          have h10 : u 50 = idv X := hd 10 (by kernel_rfl)
          clear hd ho
          rw [h1, h9, h10]
          refine wpList_guard (by rfl) ?_
          go_wp2_with ((with_reducible refine wpList_eql_id (x := .tmp 49) (y := .tmp 50) idEq S X (by kernel_rfl) (by kernel_rfl) ?_); rw [← HD.out])
          exact ⟨rfl, gb_refl _ _, rfl⟩
        · have h1 : u 41 = .bool true := hd 1 (by kernel_rfl)
          have h11 : u 51 = .bool D := hd 11 (by kernel_rfl)
          clear hd ho
          rw [h1, h11]
          go_wp2_with fail
          exact ⟨rfl, gb_refl _ _, rfl⟩
      case fin2 =>
        intro u w8 hg hφ
        have hz : u 52 = .bool D := hφ 12 (by omega)
        simp (decide := true) only [fillAct, List.mapIdx_cons, List.mapIdx_nil, Nat.reduceAdd, if_true, if_false, List.drop_succ_cons, List.drop_zero]
        rw [hz]
        clear hφ
        go_wp2_with fail
        go_ret
        exact ⟨rfl, gb_trans HG7.out hg⟩
end Go.Proofs.Ytajgklomcapboaa
/- scrivenerref07: Leads. -/
namespace Go.Proofs.Ytajgklomcapboaa
open Go.RowKit Go.Shelf Sc
theorem results_id_tmp7 {f : Func} {t u : Nat} (hf : f.results = #[.cell t 34, .tmp u]) (tmps : Array Value) (w : World) (b : Nat) (x : Sc.Id) (ht : tmps.getD t undef = .pointer (some ⟨b, 0, none⟩)) (hb : Bk w b 34 (x.l.map bv)) :
    (results f tmps).run Try.prog w = .ok (.tuple #[idv x, tmps.getD u undef]) w := by
  have ht' : tmps[t]?.getD undef = .pointer (some ⟨b, 0, none⟩) := by simpa using ht
  have hl := run_loadVar_row (P := Try.prog) w b 34 34 (x.l.map bv).toArray (0, 0) _ hb Try.underlying34 rfl (by simpa using idSize x)
  simp [results, hf, ht', asAddr, hl, idv]
theorem text_agg (x : Sc.Id) (w : World) : Calls Try.prog 49 #[.agg (x.l.map bv).toArray] w fun e w' => e = .returned (sv x.l) ∧ w.grownBy w' none := text_any x w
def RLds (c : Int) (e : List UInt8) (p n : Nat) (rp : List Sc.Id) (w : World) (E : Ending) (w' : World) : Prop :=
  ∃ y ok, E = .returned (.tuple #[idv y, .bool ok]) ∧ w.grownBy w' none ∧
    ((textsR (sumC c) e p n rp = none ∧ ok = false) ∨ ∃ l, textsR (sumC c) e p n rp = some l ∧ ok = true ∧ y = sumC c (l.getLastD []))
set_option maxHeartbeats 8000000 in
set_option maxRecDepth 100000 in
theorem rleads_any (c : Int) (e : List UInt8) (he : e.length ≤ 1000000) : ∀ (rp : List Sc.Id) (p n : Nat) (vp : Value) (w : World), RI w vp rp.reverse → 1 ≤ n → n ≤ 1099511627776 → p < n → rp.length ≤ 1000 →
    Calls Try.prog 23 #[.int .i64 c, sv e, .int .i64 (p : Int), .int .i64 (n : Int), vp] w (RLds c e p n rp w) := by
  intro rp
  induction rp with
  | nil =>
    intro p n vp w hvp hn1 hn hpn hrl
    go_enter Try.func23, Try.ntmps23
    obtain ⟨Ap, cp, rfl, _⟩ := Rd.form hvp
    obtain ⟨W, hW⟩ : ∃ W, W = w.alloc (.cells idZ.toArray 34) := ⟨_, rfl⟩
    obtain ⟨b0, hb0⟩ : ∃ b0, b0 = w.heap.size := ⟨_, rfl⟩
    have hbk : Bk W b0 34 idZ := by rw [hW, hb0]; exact Bk.new w _ _
    have g0 : w.grownBy W none := by rw [hW]; exact gb_alloc (gb_refl w none) _
    have hbw : w.heap.size ≤ b0 := by rw [hb0]; exact Nat.le_refl _
    have HW := Go.Lib.hid hW
    have HBE := Go.Lib.hid hb0
    have hal : [(0 : UInt8)].length + e.length ≤ 9223372036854775807 := by simp only [List.length_cons, List.length_nil]; omega
    obtain ⟨S, hS⟩ : ∃ S, S = sumC c (0 :: e) := ⟨_, rfl⟩
    have HSUM : Hid (∀ w, Calls Try.prog 28 #[.int .i64 c, sv (0 :: e)] w fun e w' => e = .returned (idv S) ∧ w.grownBy w' none) := Go.Lib.hid fun w => by rw [hS]; exact rsum_any c (0 :: e) (by rw [List.length_cons]; omega) w
    have HS := Go.Lib.hid hS
    clear hvp hrl hW hb0 hS he
    by_cases h1 : n = 1
    · subst h1
      go_upto_region 2 with ((with_reducible refine wpList_alloc_row (E := 34) idZ infoId ?_); rw [← HW.out])
      rw [← HBE.out]
      go_wp2_with (first
        | ((with_reducible refine wpList_add_str (z := .tmp 22) [0] e (by kernel_rfl) (by kernel_rfl) hal ?_))
        | (go_at_call 28; ((with_reducible refine (HSUM.out _).mono ?_); rintro E w3 ⟨rfl, g3⟩); have b3 := hbk.grown g3 (by simp))
        | ((with_reducible refine wpList_store_bk (t := 34) b0 34 idZ (S.l.map bv) b3 (by kernel_rfl) (by kernel_rfl) (idSize _) (idLen _) (idOne _) ?_); intro w5 h5 g5 z5))
      try go_frame
      exact bodyPost_ret (results_id_tmp7 rfl _ _ b0 S rfl h5) rfl ⟨_, _, rfl, gb_trans_new (gb_trans g0 g3) g5 hbw, .inr ⟨[0 :: e], rfl, rfl, by rw [HS.out]; rfl⟩⟩
    · have d1 : decide ((n : Int) = 1) = false := decide_eq_false (by omega)
      have d2 : decide (n = 1) = false := decide_eq_false h1
      go_upto_region 4 with ((with_reducible refine wpList_alloc_row (E := 34) idZ infoId ?_); rw [← HW.out])
      rw [← HBE.out]
      go_wp2_with (first
        | ((with_reducible refine wpList_build_row (id0.l.map bv) (fun w => by simp only [List.map_toArray, List.map_nil]; exact build_i0 w) ?_))
        | ((with_reducible refine wpList_store_bk (t := 34) b0 34 idZ (id0.l.map bv) hbk (by kernel_rfl) (by kernel_rfl) (idSize _) (idLen _) (idOne _) ?_); intro w5 h5 g5 z5))
      try go_frame
      exact bodyPost_ret (results_id_tmp7 rfl _ _ b0 id0 rfl h5) rfl ⟨_, _, rfl, gb_trans_new g0 g5 hbw, .inl ⟨by unfold textsR; rw [if_neg h1], rfl⟩⟩
  | cons X rp ih =>
    intro p n vp w hvp hn1 hn hpn hrl
    go_enter Try.func23, Try.ntmps23
    obtain ⟨q, hq⟩ : ∃ q, q = rp.length := ⟨_, rfl⟩
    have hq1 : (X :: rp).reverse.length = q + 1 := by rw [List.length_reverse, List.length_cons, hq]
    have hq2 : (X :: rp).reverse[q]? = some X := by rw [hq, List.reverse_cons, List.getElem?_append_right (by rw [List.length_reverse]; exact Nat.le_refl _), List.length_reverse, Nat.sub_self]; rfl
    have hq3 : (X :: rp).reverse.take q = rp.reverse := by rw [hq, List.reverse_cons, List.take_left' (by rw [List.length_reverse])]
    obtain ⟨b, o, c9, rfl, hb, hc9, hcm, hr⟩ := Rd.at hvp (by rw [hq1]; omega)
    have hrx := range_id hr hq2
    have hpi : RI w (.slice (some ⟨b, o, none⟩) q c9) rp.reverse := by
      have h := RdI.toTake hvp rfl (k := q) (by rw [hq1]; omega)
      rw [hq3] at h; exact h
    rw [hq1] at hc9 ⊢
    obtain ⟨W, hW⟩ : ∃ W, W = w.alloc (.cells idZ.toArray 34) := ⟨_, rfl⟩
    obtain ⟨b0, hb0⟩ : ∃ b0, b0 = w.heap.size := ⟨_, rfl⟩
    have hbk : Bk W b0 34 idZ := by rw [hW, hb0]; exact Bk.new w _ _
    have g0 : w.grownBy W none := by rw [hW]; exact gb_alloc (gb_refl w none) _
    have hbw : w.heap.size ≤ b0 := by rw [hb0]; exact Nat.le_refl _
    have HW := Go.Lib.hid hW
    have HBE := Go.Lib.hid hb0
    have HBK := Go.Lib.hid hbk
    have HRX := Go.Lib.hid (rangeAt_grown hrx g0 (by simp))
    have HPI := Go.Lib.hid (RI.gr hpi g0)
    have HIH := Go.Lib.hid ih
    have HRL : Hid (rp.length ≤ 1000) := Go.Lib.hid (by rw [List.length_cons] at hrl; omega)
    have hqI : (0 : Int) ≤ (q : Int) ∧ (q : Int) < 1000 ∧ (q : Int) < (c9 : Int) := by rw [List.length_cons] at hrl; omega
    have hal : [(0 : UInt8)].length + e.length ≤ 9223372036854775807 := by simp only [List.length_cons, List.length_nil]; omega
    obtain ⟨S, hS⟩ : ∃ S, S = sumC c (0 :: e) := ⟨_, rfl⟩
    have HSUM : Hid (∀ w, Calls Try.prog 28 #[.int .i64 c, sv (0 :: e)] w fun e w' => e = .returned (idv S) ∧ w.grownBy w' none) := Go.Lib.hid fun w => by rw [hS]; exact rsum_any c (0 :: e) (by rw [List.length_cons]; omega) w
    clear hvp hrl hq hq1 hq2 hq3 hr hrx hpi ih hW hb0 hbk hS he
    by_cases h1 : n = 1
    · subst h1
      have hbk := HBK.out
      go_upto_region 2 with ((with_reducible refine wpList_alloc_row (E := 34) idZ infoId ?_); rw [← HW.out])
      rw [← HBE.out]
      go_wp2_with (first
        | ((with_reducible refine wpList_add_str (z := .tmp 22) [0] e (by kernel_rfl) (by kernel_rfl) hal ?_))
        | (go_at_call 28; ((with_reducible refine (HSUM.out _).mono ?_); rintro E w3 ⟨rfl, g3⟩); have b3 := hbk.grown g3 (by simp))
        | ((with_reducible refine wpList_store_bk (t := 34) b0 34 idZ (S.l.map bv) b3 (by kernel_rfl) (by kernel_rfl) (idSize _) (idLen _) (idOne _) ?_); intro w5 h5 g5 z5))
      try go_frame
      exact bodyPost_ret (results_id_tmp7 rfl _ _ b0 S rfl h5) rfl ⟨_, _, rfl, gb_trans_new (gb_trans g0 g3) g5 hbw, .inl ⟨by unfold textsR; rw [if_pos rfl], rfl⟩⟩
    · have d1 : decide ((n : Int) = 1) = false := decide_eq_false (by omega)
      have d2 : decide (n = 1) = false := decide_eq_false h1
      have d5 : ((n : Int) == 1) = false := by simp; omega
      have d6 : ((q : Int) + 1 == 0) = false := by simp; omega
      obtain ⟨k, hk⟩ : ∃ k, k = half n := ⟨_, rfl⟩
      have hk1 : 1 ≤ k := by rw [hk]; exact half_pos n
      have hk2 : k < n := by rw [hk]; exact half_lt (by omega)
      have hhalf : ∀ w : World, Calls Try.prog 48 #[.int .i64 (n : Int)] w fun e w' => e = .returned (.int .i64 (k : Int)) ∧ w' = w := fun w => by rw [hk]; exact refHalf_any n (by omega) hn w
      have HK := Go.Lib.hid hk
      have HH1 := Go.Lib.hid h1
      have hrx := HRX.out
      clear hk h1
      have hpI : (0 : Int) ≤ (p : Int) ∧ (p : Int) < (n : Int) ∧ (n : Int) ≤ 1099511627776 ∧ (1 : Int) ≤ (k : Int) ∧ (k : Int) < (n : Int) := by omega
      go_upto_region 8 with (first
        | ((with_reducible refine wpList_alloc_row (E := 34) idZ infoId ?_); rw [← HW.out])
        | (go_at_call 48; ((with_reducible refine (hhalf _).mono ?_); rintro e w2 ⟨rfl, rfl⟩))
        | ((with_reducible refine wpList_load_range (t := 34) b (o + q * 32) (X.l.map bv) _ hrx (by kernel_rfl) Try.underlying34 rfl (idSize _) ?_))
        | (go_at_call 49; ((with_reducible refine (text_agg X _).mono ?_); rintro E w6 ⟨rfl, g6⟩)))
      rw [← HBE.out]
      have HB6 := Go.Lib.hid (HBK.out.grown g6 (by simp))
      have HPI6 := Go.Lib.hid (RI.gr HPI.out g6)
      have HG6 := Go.Lib.hid (gb_trans g0 g6)
      clear g6 hrx HRX HPI HBK
      by_cases hpk : p < k
      · have d3 : decide (p < k) = true := decide_eq_true hpk
        have d4 : decide ((p : Int) < (k : Int)) = true := decide_eq_true (by omega)
        have HTX : Hid (textsR (sumC c) e p n (X :: rp) = (textsR (sumC c) e p k rp).map fun l => l ++ [1 :: ((sumC c (l.getLastD [])).l ++ X.l)]) := Go.Lib.hid (by rw [textsR, if_neg HH1.out, if_pos (by rw [← HK.out]; exact hpk), ← HK.out])
        go_upto_region 10 with (first
          | (go_at_call 23; ((with_reducible refine (HIH.out p k _ _ HPI6.out hk1 (by omega) hpk HRL.out).mono ?_); rintro E w7 ⟨y, ok, rfl, g7, hm⟩); have bx := Bk.new w7 34 idZ)
          | ((with_reducible refine wpList_alloc_row (E := 34) idZ infoId ?_))
          | ((with_reducible refine wpList_store_bk (t := 34) w7.heap.size 34 idZ (y.l.map bv) bx (by kernel_rfl) (by kernel_rfl) (idSize _) (idLen _) (idOne _) ?_); intro w8 h8 g8 z8))
        have hba := HB6.out.grown g7 (by simp)
        have hg7 := gb_trans HG6.out g7
        obtain ⟨T, hT⟩ : ∃ T, T = sumC c (1 :: (y.l ++ X.l)) := ⟨_, rfl⟩
        have hsT : ∀ w, Calls Try.prog 28 #[.int .i64 c, sv (1 :: (y.l ++ X.l))] w fun e w' => e = .returned (idv T) ∧ w.grownBy w' none := fun w => by rw [hT]; exact rsum_any c _ (by rw [List.length_cons, List.length_append, Id.h, Id.h]; omega) w
        have HST := Go.Lib.hid hsT
        have hal1 : [(1 : UInt8)].length + y.l.length ≤ 9223372036854775807 := by rw [y.h]; decide
        have hal2 : (1 :: y.l).length + X.l.length ≤ 9223372036854775807 := by rw [List.length_cons, y.h, X.h]; decide
        have hres : (textsR (sumC c) e p n (X :: rp) = none ∧ ok = false) ∨ ∃ l, textsR (sumC c) e p n (X :: rp) = some l ∧ ok = true ∧ T = sumC c (l.getLastD []) := by
          rcases hm with ⟨hm, h⟩ | ⟨l, hm, h, hy⟩
          · exact .inl ⟨by rw [HTX.out, hm]; rfl, h⟩
          · exact .inr ⟨_, by rw [HTX.out, hm]; rfl, h, by rw [hT, hy]; simp⟩
        have HRES := Go.Lib.hid hres
        have hlt : b0 < w7.heap.size := hba.lt
        have hB8 := (hba.alloc (.cells idZ.toArray 34)).grown g8 (by simp; omega)
        have g08 := gb_trans_new (gb_alloc hg7 (.cells idZ.toArray 34)) g8 hg7.size
        have HG8 := Go.Lib.hid g08
        have HB8 := Go.Lib.hid hB8
        clear hm g7 hT hsT hres g08 hB8 g8 z8 bx hlt hba hg7
        go_wp2_with (first
          | ((with_reducible refine wpList_load_bk (x := .tmp 15) (t := 34) w7.heap.size _ (y.l.map bv) _ h8 (by kernel_rfl) Try.underlying34 rfl (idSize _) ?_))
          | (go_at_call 49; ((with_reducible refine (text_agg y _).mono ?_); rintro E w9 ⟨rfl, g9⟩))
          | ((with_reducible refine wpList_add_str (z := .tmp 60) [1] y.l (by kernel_rfl) (by kernel_rfl) hal1 ?_))
          | ((with_reducible refine wpList_add_str (x := .tmp 61) (z := .tmp 62) (1 :: y.l) X.l (by kernel_rfl) (by kernel_rfl) hal2 ?_))
          | (go_at_call 28; ((with_reducible refine (HST.out _).mono ?_); rintro E w10 ⟨rfl, g10⟩); have b10 := (HB8.out.grown g9 (by simp)).grown g10 (by simp))
          | ((with_reducible refine wpList_store_bk (t := 34) b0 34 idZ (T.l.map bv) b10 (by kernel_rfl) (by kernel_rfl) (idSize _) (idLen _) (idOne _) ?_); intro w11 h11 g11 z11))
        try go_frame
        exact bodyPost_ret (results_id_tmp7 rfl _ _ b0 T rfl h11) rfl ⟨_, _, rfl, gb_trans_new (gb_trans (gb_trans HG8.out g9) g10) g11 hbw, HRES.out⟩
      · have d3 : decide (p < k) = false := decide_eq_false hpk
        have d4 : decide ((p : Int) < (k : Int)) = false := decide_eq_false (by omega)
        have HTX : Hid (textsR (sumC c) e p n (X :: rp) = (textsR (sumC c) e (p - k) (n - k) rp).map fun l => l ++ [1 :: (X.l ++ (sumC c (l.getLastD [])).l)]) := Go.Lib.hid (by rw [textsR, if_neg HH1.out, if_neg (by rw [← HK.out]; exact hpk), ← HK.out])
        obtain ⟨p2, hp2⟩ : ∃ p2, p2 = p - k := ⟨_, rfl⟩
        obtain ⟨n2, hn2⟩ : ∃ n2, n2 = n - k := ⟨_, rfl⟩
        have hpe : (p : Int) - (k : Int) = (p2 : Int) := by omega
        have hne2 : (n : Int) - (k : Int) = (n2 : Int) := by omega
        rw [← hp2, ← hn2] at HTX
        have hpq : 1 ≤ n2 ∧ n2 ≤ 1099511627776 ∧ p2 < n2 := by omega
        have HPN := Go.Lib.hid hpq
        clear hp2 hn2 hpq
        go_upto_region 12 with (first
          | (go_at_call 23; ((with_reducible refine (HIH.out p2 n2 _ _ HPI6.out HPN.out.1 HPN.out.2.1 HPN.out.2.2 HRL.out).mono ?_); rintro E w7 ⟨y, ok, rfl, g7, hm⟩); have bx := Bk.new w7 34 idZ)
          | ((with_reducible refine wpList_alloc_row (E := 34) idZ infoId ?_))
          | ((with_reducible refine wpList_store_bk (t := 34) w7.heap.size 34 idZ (y.l.map bv) bx (by kernel_rfl) (by kernel_rfl) (idSize _) (idLen _) (idOne _) ?_); intro w8 h8 g8 z8))
        have hba := HB6.out.grown g7 (by simp)
        have hg7 := gb_trans HG6.out g7
        obtain ⟨T, hT⟩ : ∃ T, T = sumC c (1 :: (X.l ++ y.l)) := ⟨_, rfl⟩
        have hsT : ∀ w, Calls Try.prog 28 #[.int .i64 c, sv (1 :: (X.l ++ y.l))] w fun e w' => e = .returned (idv T) ∧ w.grownBy w' none := fun w => by rw [hT]; exact rsum_any c _ (by rw [List.length_cons, List.length_append, Id.h, Id.h]; omega) w
        have HST := Go.Lib.hid hsT
        have hal1 : [(1 : UInt8)].length + X.l.length ≤ 9223372036854775807 := by rw [X.h]; decide
        have hal2 : (1 :: X.l).length + y.l.length ≤ 9223372036854775807 := by rw [List.length_cons, X.h, y.h]; decide
        have hres : (textsR (sumC c) e p n (X :: rp) = none ∧ ok = false) ∨ ∃ l, textsR (sumC c) e p n (X :: rp) = some l ∧ ok = true ∧ T = sumC c (l.getLastD []) := by
          rcases hm with ⟨hm, h⟩ | ⟨l, hm, h, hy⟩
          · exact .inl ⟨by rw [HTX.out, hm]; rfl, h⟩
          · exact .inr ⟨_, by rw [HTX.out, hm]; rfl, h, by rw [hT, hy]; simp⟩
        have HRES := Go.Lib.hid hres
        have hlt : b0 < w7.heap.size := hba.lt
        have hB8 := (hba.alloc (.cells idZ.toArray 34)).grown g8 (by simp; omega)
        have g08 := gb_trans_new (gb_alloc hg7 (.cells idZ.toArray 34)) g8 hg7.size
        have HG8 := Go.Lib.hid g08
        have HB8 := Go.Lib.hid hB8
        clear hm g7 hT hsT hres g08 hB8 g8 z8 bx hlt hba hg7
        go_wp2_with (first
          | ((with_reducible refine wpList_load_bk (x := .tmp 17) (t := 34) w7.heap.size _ (y.l.map bv) _ h8 (by kernel_rfl) Try.underlying34 rfl (idSize _) ?_))
          | (go_at_call 49; ((with_reducible refine (text_agg y _).mono ?_); rintro E w9 ⟨rfl, g9⟩))
          | ((with_reducible refine wpList_add_str (z := .tmp 80) [1] X.l (by kernel_rfl) (by kernel_rfl) hal1 ?_))
          | ((with_reducible refine wpList_add_str (x := .tmp 81) (z := .tmp 83) (1 :: X.l) y.l (by kernel_rfl) (by kernel_rfl) hal2 ?_))
          | (go_at_call 28; ((with_reducible refine (HST.out _).mono ?_); rintro E w10 ⟨rfl, g10⟩); have b10 := (HB8.out.grown g9 (by simp)).grown g10 (by simp))
          | ((with_reducible refine wpList_store_bk (t := 34) b0 34 idZ (T.l.map bv) b10 (by kernel_rfl) (by kernel_rfl) (idSize _) (idLen _) (idOne _) ?_); intro w11 h11 g11 z11))
        try go_frame
        exact bodyPost_ret (results_id_tmp7 rfl _ _ b0 T rfl h11) rfl ⟨_, _, rfl, gb_trans_new (gb_trans (gb_trans HG8.out g9) g10) g11 hbw, HRES.out⟩
end Go.Proofs.Ytajgklomcapboaa
/- The way to a root of sums cut short, and the texts on it (plain). -/
namespace Sc
open Go Go.RowKit
section
variable (H : List UInt8 → Id)
/-- The way from an entry to the root of all. -/
def wayH : List (List UInt8) → Nat → List Id
  | [], _ => []
  | [_], _ => []
  | x :: y :: l, p => if p < half (l.length + 2) then wayH ((x :: y :: l).take (half (l.length + 2))) p ++ [rootH H ((x :: y :: l).drop (half (l.length + 2)))]
    else wayH ((x :: y :: l).drop (half (l.length + 2))) (p - half (l.length + 2)) ++ [rootH H ((x :: y :: l).take (half (l.length + 2)))]
termination_by l => l.length
decreasing_by
  all_goals
    have h1 := half_lt (n := l.length + 2) (by omega)
    have h2 := half_pos (l.length + 2)
    simp only [List.length_take, List.length_drop, List.length_cons]
    omega
theorem wayH_short {l : List (List UInt8)} {p : Nat} (h : l.length ≤ 1) : wayH H l p = [] := by
  match l, h with
  | [], _ => rw [wayH]
  | [_], _ => rw [wayH]
theorem wayH_lo {l : List (List UInt8)} {p : Nat} (h : 2 ≤ l.length) (hp : p < half l.length) : wayH H l p = wayH H (l.take (half l.length)) p ++ [rootH H (l.drop (half l.length))] := by
  match l, h with
  | x :: y :: l, _ =>
    have hp' : p < half (l.length + 2) := hp
    rw [wayH, if_pos hp']; rfl
theorem wayH_hi {l : List (List UInt8)} {p : Nat} (h : 2 ≤ l.length) (hp : ¬ p < half l.length) : wayH H l p = wayH H (l.drop (half l.length)) (p - half l.length) ++ [rootH H (l.take (half l.length))] := by
  match l, h with
  | x :: y :: l, _ =>
    have hp' : ¬ p < half (l.length + 2) := hp
    rw [wayH, if_neg hp']; rfl
theorem wayH_len : ∀ (n : Nat) (l : List (List UInt8)) (p : Nat), l.length ≤ n → (wayH H l p).length ≤ l.length := by
  intro n
  induction n with
  | zero => intro l p h; rw [wayH_short H (by omega)]; exact Nat.zero_le _
  | succ n ih =>
    intro l p h
    rcases Nat.lt_or_ge l.length 2 with h2 | h2
    · rw [wayH_short H (by omega)]; exact Nat.zero_le _
    · have h3 := half_lt h2
      have h4 := half_pos l.length
      by_cases hp : p < half l.length
      · rw [wayH_lo H h2 hp, List.length_append, List.length_singleton]
        have := ih (l.take (half l.length)) p (by rw [List.length_take]; omega)
        rw [List.length_take] at this; omega
      · rw [wayH_hi H h2 hp, List.length_append, List.length_singleton]
        have := ih (l.drop (half l.length)) (p - half l.length) (by rw [List.length_drop]; omega)
        rw [List.length_drop] at this; omega
theorem textsR_way : ∀ (n : Nat) (l : List (List UInt8)) (p : Nat) (e : List UInt8), l.length ≤ n → l[p]? = some e → ∃ ts, textsR H e p l.length (wayH H l p).reverse = some ts ∧ ts.getLastD [] = topH H l := by
  intro n
  induction n with
  | zero =>
    intro l p e h he
    have h0 : l = [] := List.eq_nil_of_length_eq_zero (by omega)
    subst h0
    cases he
  | succ n ih =>
    intro l p e h he
    have hp := (List.getElem?_eq_some_iff.1 he).1
    rcases Nat.lt_or_ge l.length 2 with h2 | h2
    · obtain ⟨x, rfl⟩ : ∃ x, l = [x] := List.length_eq_one_iff.1 (by omega)
      obtain rfl : p = 0 := by simpa using hp
      cases he
      rw [wayH_short H (by simp)]
      exact ⟨_, rfl, by rw [topH_one]; rfl⟩
    · have h3 := half_lt h2
      have h4 := half_pos l.length
      have h5 : ¬ l.length = 1 := by omega
      by_cases hpk : p < half l.length
      · obtain ⟨ts, h6, h7⟩ := ih (l.take (half l.length)) p e (by rw [List.length_take]; omega) (by rw [List.getElem?_take, if_pos hpk]; exact he)
        rw [show (l.take (half l.length)).length = half l.length by rw [List.length_take]; omega] at h6
        rw [wayH_lo H h2 hpk, List.reverse_append, List.reverse_singleton, List.singleton_append, textsR, if_neg h5, if_pos hpk, h6]
        refine ⟨_, rfl, ?_⟩
        show (ts ++ [_]).getLastD [] = _
        rw [h7, topH_two H h2]; simp [rootH]
      · obtain ⟨ts, h6, h7⟩ := ih (l.drop (half l.length)) (p - half l.length) e (by rw [List.length_drop]; omega) (by rw [List.getElem?_drop, show half l.length + (p - half l.length) = p by omega]; exact he)
        rw [show (l.drop (half l.length)).length = l.length - half l.length by rw [List.length_drop]] at h6
        rw [wayH_hi H h2 hpk, List.reverse_append, List.reverse_singleton, List.singleton_append, textsR, if_neg h5, if_neg hpk, h6]
        refine ⟨_, rfl, ?_⟩
        show (ts ++ [_]).getLastD [] = _
        rw [h7, topH_two H h2]; simp [rootH]
theorem textsR_lens (e1 e2 : List UInt8) : ∀ (r1 r2 : List Id) (p n : Nat) (l1 l2 : List (List UInt8)), textsR H e1 p n r1 = some l1 → textsR H e2 p n r2 = some l2 → r1.length = r2.length := by
  intro r1
  induction r1 with
  | nil =>
    intro r2 p n l1 l2 h1 h2
    cases r2 with
    | nil => rfl
    | cons y r2 =>
      unfold textsR at h1 h2
      split at h1
      · rename_i hn; rw [if_pos hn] at h2; cases h2
      · cases h1
  | cons x r1 ih =>
    intro r2 p n l1 l2 h1 h2
    cases r2 with
    | nil =>
      unfold textsR at h1 h2
      split at h2
      · rename_i hn; rw [if_pos hn] at h1; cases h1
      · cases h2
    | cons y r2 =>
      unfold textsR at h1 h2
      split at h1
      · cases h1
      · rename_i hn
        rw [if_neg hn] at h2
        split at h1
        · rename_i hp
          rw [if_pos hp] at h2
          obtain ⟨a, ha, _⟩ := Option.map_eq_some_iff.1 h1
          obtain ⟨b, hb, _⟩ := Option.map_eq_some_iff.1 h2
          rw [List.length_cons, List.length_cons, ih _ _ _ _ _ ha hb]
        · rename_i hp
          rw [if_neg hp] at h2
          obtain ⟨a, ha, _⟩ := Option.map_eq_some_iff.1 h1
          obtain ⟨b, hb, _⟩ := Option.map_eq_some_iff.1 h2
          rw [List.length_cons, List.length_cons, ih _ _ _ _ _ ha hb]
/-- One step of two ways at once. -/
theorem textsR_two (e1 e2 : List UInt8) {x y : Id} {r1 r2 : List Id} {p n : Nat} {l1 l2 : List (List UInt8)} (h1 : textsR H e1 p n (x :: r1) = some l1) (h2 : textsR H e2 p n (y :: r2) = some l2) :
    ∃ p' n' a b t1 t2, textsR H e1 p' n' r1 = some a ∧ textsR H e2 p' n' r2 = some b ∧ l1 = a ++ [t1] ∧ l2 = b ++ [t2] ∧ (t1 = t2 → x = y ∧ H (a.getLastD []) = H (b.getLastD [])) := by
  unfold textsR at h1 h2
  split at h1
  · cases h1
  · rename_i hn
    rw [if_neg hn] at h2
    split at h1
    · rename_i hp
      rw [if_pos hp] at h2
      obtain ⟨a, ha, rfl⟩ := Option.map_eq_some_iff.1 h1
      obtain ⟨b, hb, rfl⟩ := Option.map_eq_some_iff.1 h2
      refine ⟨_, _, a, b, _, _, ha, hb, rfl, rfl, fun h => ?_⟩
      injection h with _ h
      have := id_split h
      exact ⟨this.2, this.1⟩
    · rename_i hp
      rw [if_neg hp] at h2
      obtain ⟨a, ha, rfl⟩ := Option.map_eq_some_iff.1 h1
      obtain ⟨b, hb, rfl⟩ := Option.map_eq_some_iff.1 h2
      refine ⟨_, _, a, b, _, _, ha, hb, rfl, rfl, fun h => ?_⟩
      injection h with _ h
      have := id_split h
      exact ⟨this.1, this.2⟩
theorem textsR_same (e1 e2 : List UInt8) : ∀ (r1 r2 : List Id) (p n : Nat) (l : List (List UInt8)), textsR H e1 p n r1 = some l → textsR H e2 p n r2 = some l → e1 = e2 ∧ r1 = r2 := by
  intro r1
  induction r1 with
  | nil =>
    intro r2 p n l h1 h2
    have hl := textsR_lens H e1 e2 _ _ _ _ _ _ h1 h2
    obtain rfl : r2 = [] := List.eq_nil_of_length_eq_zero hl.symm
    unfold textsR at h1 h2
    split at h1
    · rename_i hn
      rw [if_pos hn] at h2
      cases h1
      injection h2 with h2
      injection h2 with h2 _
      injection h2 with _ h2
      exact ⟨h2.symm, rfl⟩
    · cases h1
  | cons x r1 ih =>
    intro r2 p n l h1 h2
    have hl := textsR_lens H e1 e2 _ _ _ _ _ _ h1 h2
    obtain ⟨y, r2, rfl⟩ : ∃ y r, r2 = y :: r := List.exists_cons_of_length_pos (by rw [← hl]; simp)
    obtain ⟨p', n', a, b, t1, t2, ha, hb, e1', e2', hx⟩ := textsR_two H e1 e2 h1 h2
    rw [e1'] at e2'
    have h3 := List.append_inj' e2' rfl
    have ht : t1 = t2 := by have := h3.2; injection this
    obtain ⟨rfl, -⟩ := hx ht
    rw [h3.1] at ha
    obtain ⟨q1, q2⟩ := ih _ _ _ _ ha hb
    exact ⟨q1, by rw [q2]⟩
theorem textsR_pair (e1 e2 : List UInt8) : ∀ (r1 r2 : List Id) (p n : Nat) (l1 l2 : List (List UInt8)), textsR H e1 p n r1 = some l1 → textsR H e2 p n r2 = some l2 → H (l1.getLastD []) = H (l2.getLastD []) →
    ∀ i, i < l1.length → (∀ j, i < j → j < l1.length → l1[j]? = l2[j]?) → H (l1.getD i []) = H (l2.getD i []) := by
  intro r1
  induction r1 with
  | nil =>
    intro r2 p n l1 l2 h1 h2 hr i hi _
    have hl := textsR_lens H e1 e2 _ _ _ _ _ _ h1 h2
    obtain rfl : r2 = [] := List.eq_nil_of_length_eq_zero hl.symm
    have k1 := textsR_len H e1 _ _ _ _ h1
    obtain rfl : i = 0 := by rw [k1] at hi; simpa using hi
    unfold textsR at h1 h2
    split at h1
    · rename_i hn
      rw [if_pos hn] at h2
      cases h1; cases h2
      exact hr
    · cases h1
  | cons x r1 ih =>
    intro r2 p n l1 l2 h1 h2 hr i hi hs
    have hl := textsR_lens H e1 e2 _ _ _ _ _ _ h1 h2
    obtain ⟨y, r2, rfl⟩ : ∃ y r, r2 = y :: r := List.exists_cons_of_length_pos (by rw [← hl]; simp)
    obtain ⟨p', n', a, b, t1, t2, ha, hb, rfl, rfl, hx⟩ := textsR_two H e1 e2 h1 h2
    have la := textsR_len H e1 _ _ _ _ ha
    have lb := textsR_len H e2 _ _ _ _ hb
    have lab : a.length = b.length := by rw [la, lb, textsR_lens H e1 e2 _ _ _ _ _ _ ha hb]
    rw [List.length_append, List.length_singleton] at hi hs
    rcases Nat.lt_or_ge i a.length with h | h
    · have ht : t1 = t2 := by
        have := hs a.length h (by omega)
        rw [List.getElem?_append_right (Nat.le_refl _), List.getElem?_append_right (by omega), Nat.sub_self, ← lab, Nat.sub_self] at this
        exact Option.some.inj this
      have h3 := ih r2 p' n' a b ha hb (hx ht).2 i h (fun j h4 h5 => by
        have := hs j h4 (by omega)
        rwa [List.getElem?_append_left h5, List.getElem?_append_left (by omega)] at this)
      rw [List.getD_eq_getElem?_getD, List.getD_eq_getElem?_getD, List.getElem?_append_left h, List.getElem?_append_left (by omega), ← List.getD_eq_getElem?_getD, ← List.getD_eq_getElem?_getD]
      exact h3
    · obtain rfl : i = a.length := by omega
      rw [List.getD_eq_getElem?_getD, List.getD_eq_getElem?_getD, List.getElem?_append_right (Nat.le_refl _), List.getElem?_append_right (by omega), Nat.sub_self, ← lab, Nat.sub_self]
      simpa using hr
end
end Sc
namespace Sc
open Go Go.RowKit
theorem RdBB.keep2 {B : Nat} {w w' : World} {v : Value} {ls : List (List UInt8)} {row : Option Nat} (h : RdBB (fun b => b < B) w v ls) (hg : w.grownBy w' row) (hr : ∀ r, row = some r → B ≤ r) : RdBB (fun b => b < B) w' v ls :=
  h.grown hg (fun r e h => by have := hr r e; omega)
theorem RdBB.lift {B : Nat} {w : World} {v : Value} {ls : List (List UInt8)} (h : RdBB (fun b => b < B) w v ls) (hB : B ≤ w.heap.size) : RLL w v ls := by
  obtain ⟨vs, h1, h2⟩ := h
  refine ⟨vs, h1.mono fun b hb => Nat.lt_of_lt_of_le hb hB, fun j l hl => ?_⟩
  obtain ⟨u, hu, hr⟩ := h2 j l hl
  exact ⟨u, hu, Rd.mono hr fun b hb => Nat.lt_of_lt_of_le hb hB⟩
theorem gb_any7 {own : Option Nat} {a b : World} (h : Gr a b) : a.grownBy b own := ⟨h.os, h.tape, h.output, h.size, fun k hk _ => h.block k hk (by simp)⟩
theorem Ow.setRow {B k n b o c : Nat} : ∀ (us : List Value) (p : Nat) (w : World) (cs : List Value), Ow B w k (.slice (some ⟨b, o, none⟩) n c) n cs → p + us.length ≤ n * k →
    Ow B (w.setCells b (o + p) us) k (.slice (some ⟨b, o, none⟩) n c) n (cs.take p ++ (us ++ cs.drop (p + us.length))) := by
  intro us
  induction us with
  | nil => intro p w cs h _; simpa [World.setCells] using h
  | cons u us ih =>
    intro p w cs h hp
    rw [List.length_cons] at hp
    have h1 := ih (p + 1) _ _ (h.set p u (by omega)) (by omega)
    have hl : p < cs.length := by rw [h.len]; omega
    have e : (cs.set p u).take (p + 1) ++ (us ++ (cs.set p u).drop (p + 1 + us.length)) = cs.take p ++ (u :: us ++ cs.drop (p + (u :: us).length)) := by
      rw [List.take_add_one, List.getElem?_set_self hl, List.take_set_of_le (Nat.le_refl p), List.drop_set_of_lt (by omega), List.length_cons, show p + 1 + us.length = p + (us.length + 1) by omega]
      simp
    rw [e] at h1
    exact h1
theorem idCells_set {xs : List Id} {i : Nat} {Y : Id} (hi : i < xs.length) : idCells (xs.set i Y) = (idCells xs).take (i * 32) ++ (Y.l.map bv ++ (idCells xs).drop (i * 32 + (Y.l.map bv).length)) := by
  rw [List.set_eq_take_append_cons_drop, if_pos hi, idCells_append, idCells_take, List.length_map, Y.h, show i * 32 + 32 = (i + 1) * 32 by omega, idCells_drop]
  congr 1
theorem Ow.there7 {B k n b o c : Nat} {w : World} {cs : List Value} (h : Ow B w k (.slice (some ⟨b, o, none⟩) n c) n cs) {j : Nat} (hj : j < n * k) : (w.cell? ⟨b, o + j, none⟩).isSome = true ∧ w.frozen? ⟨b, o + j, none⟩ = false := by
  obtain ⟨h1, A', c', he, h2, h3, h4, h5⟩ := h
  injection he with e1 _ e2
  subst e1 e2
  obtain ⟨b', o', e, hB, hlt, hc, hr⟩ := h5 _ rfl
  cases e
  exact hc j (Nat.lt_of_lt_of_le hj (Nat.mul_le_mul_right k h2))
section
variable {P : Program} {w : World} {ops : Array Oper} {rest : List Oper} {a : Act} {Q : Exit → Act → World → Prop} {dst : Option Tmp} {ty : TypeId} {pos : String} {aft : Array Edge}
theorem wpList_store_idrow {t : TypeId} {x y : Operand} {B b o n c : Nat} {xs : List Id} (i : Nat) (Y : Id) (ho : Ow B w 32 (.slice (some ⟨b, o, none⟩) n c) n (idCells xs)) (hi : i < n) (hn : xs.length = n)
    (hx : a.eval x = .pointer (some ⟨b, o + i * 32, none⟩)) (hy : a.eval y = idv Y) (hsz : (P.info? t).map (·.size) = some (Y.l.map bv).length)
    (h : ∀ w', Ow B w' 32 (.slice (some ⟨b, o, none⟩) n c) n (idCells (xs.set i Y)) → w.grownBy w' (some b) → wpList P ops Q rest (a.put dst undef) w') :
    wpList P ops Q (⟨dst, .store t x y, ty, pos, aft, none⟩ :: rest) a w := by
  have hl : (Y.l.map bv).length = 32 := by rw [List.length_map, Y.h]
  have hth : ∀ j, j < (Y.l.map bv).length → (w.cell? ⟨b, o + i * 32 + 0 + j, none⟩).isSome = true ∧ w.frozen? ⟨b, o + i * 32 + 0 + j, none⟩ = false := fun j hj => by
    rw [Nat.add_zero, Nat.add_assoc]
    exact ho.there7 (by rw [hl] at hj; omega)
  have hr := run_storeCells_cells (P := P) b (o + i * 32) (Y.l.map bv) 0 w (fun j hj => (hth j hj).1) (fun j hj => (hth j hj).2) (bytes_one _)
  have hc : (idv Y).cells = (Y.l.map bv).toArray := rfl
  have hst : (Instr.storeAt t (.pointer (some ⟨b, o + i * 32, none⟩)) (idv Y)).run P w = .ok () (w.setCells b (o + i * 32) (Y.l.map bv)) := by
    simp only [Instr.storeAt, Instr.sureAddr, storeVar, Sem.run_bind, Sem.run_pure, Result.andThen_ok, run_sizeOf' hsz, hc, List.size_toArray, ne_eq, not_true_eq_false, if_false]
    simpa using hr
  refine wpList_plain rfl fun K hK => ?_
  unfold Oper.wp execOp
  simp only [hx, hy, Sem.run_bind, Sem.run_pure, Result.andThen_ok, hst]
  refine hK _ _ (h _ ?_ (gb_setCells b _ _ w))
  have := Ow.setRow (Y.l.map bv) (i * 32) w _ ho (by rw [hl]; omega)
  rw [idCells_set (by omega)]
  exact this
end
def wyR (own : Option Nat) (i : Nat) (a b : World) : Prop := match i with
  | 7 => a.grownBy b own
  | _ => Gr a b
theorem wyR_own {own : Option Nat} {i : Nat} {a b : World} (h : wyR own i a b) : a.grownBy b own := by
  unfold wyR at h
  split at h
  · exact h
  · exact gb_any7 h
theorem wyR_gr {own : Option Nat} {i : Nat} {a b : World} (hi : i ≠ 7) (h : wyR own i a b) : Gr a b := by
  unfold wyR at h
  split at h
  · exact absurd rfl hi
  · exact h
def swR (own : Option Nat) (i : Nat) (a b : World) : Prop := match i with
  | 13 => a.grownBy b own
  | _ => Gr a b
theorem swR_own {own : Option Nat} {i : Nat} {a b : World} (h : swR own i a b) : a.grownBy b own := by
  unfold swR at h
  split at h
  · exact h
  · exact gb_any7 h
theorem swR_gr {own : Option Nat} {i : Nat} {a b : World} (hi : i ≠ 13) (h : swR own i a b) : Gr a b := by
  unfold swR at h
  split at h
  · exact absurd rfl hi
  · exact h
end Sc
namespace Go.Proofs.Ytajgklomcapboaa
open Go.RowKit Go.Shelf Sc
def wyaDead (j k : Nat) : Bool := j == 6 && k == 7
def wybDead (j k : Nat) : Bool := j == 6 && k == 7
def wyaφ (B n k c9 n6 c6 m _p W0 : Nat) (A A6 : Option Addr) (own : Option Nat) (c : Int) (ld : List (List UInt8)) (ups : List Sc.Id) (R : Sc.Id) (i : Nat) (v : Value) (w : World) : Prop := match i with
  | 0 => v = .slice A6 n6 c6
  | 1 => v = .int .i64 c
  | 2 => v = .slice A n c9
  | 3 => v = .int .i64 (k : Int)
  | 4 => ∃ A2 c2, v = .slice A2 m c2 ∧ m ≤ c2 ∧ RdBB (fun b => b < B) w (.slice A2 m c2) ld
  | 5 => v = idv R
  | 6 => ∃ nb, v = .slice (some ⟨nb, 0, none⟩) 1 1 ∧ w.rangeAt nb 0 (R.l.map bv)
  | 7 => Ow B w 32 v (n6 + 1) (idCells (ups ++ [R])) ∧ (v.ownBlock = own ∨ ∃ q, v.ownBlock = some q ∧ W0 ≤ q)
  | 8 => v = .slice A n c9
  | 9 => v = .int .i64 (k : Int)
  | 10 => v = .slice A k c9
  | 11 => Ow B w 32 v (n6 + 1) (idCells (ups ++ [R])) ∧ (v.ownBlock = own ∨ ∃ q, v.ownBlock = some q ∧ W0 ≤ q)
  | _ => True
theorem wya_st (B n k c9 n6 c6 m p W0 : Nat) (A A6 : Option Addr) (own : Option Nat) (c : Int) (ld : List (List UInt8)) (ups : List Sc.Id) (R : Sc.Id) (hown : ∀ r, own = some r → B ≤ r) : ∀ j i v wa wb, j ≠ i → (j = 11 → i ≠ 7) → wyaDead j i = false → wyaφ B n k c9 n6 c6 m p W0 A A6 own c ld ups R j v wa → wyR own i wa wb → wyaφ B n k c9 n6 c6 m p W0 A A6 own c ld ups R j v wb := by
  intro j i v wa wb hji hw hd h hR
  match j, hji, hw, hd, h with
  | 0, _, _, _, h => exact h
  | 1, _, _, _, h => exact h
  | 2, _, _, _, h => exact h
  | 3, _, _, _, h => exact h
  | 4, _, _, _, h =>
    obtain ⟨A2, c2, e, hc, hr⟩ := h
    exact ⟨A2, c2, e, hc, hr.keep2 (wyR_own hR) hown⟩
  | 5, _, _, _, h => exact h
  | 6, _, _, hd, h =>
    have hi : i ≠ 7 := by rintro rfl; cases hd
    obtain ⟨nb, e, hr⟩ := h
    exact ⟨nb, e, rangeAt_grown hr (wyR_gr hi hR) (by simp)⟩
  | 7, hji, _, _, h =>
    have hi : i ≠ 7 := fun e => hji e.symm
    exact ⟨h.1.grown (wyR_gr hi hR) (fun _ _ => by simp), h.2⟩
  | 8, _, _, _, h => exact h
  | 9, _, _, _, h => exact h
  | 10, _, _, _, h => exact h
  | 11, _, hw, _, h => exact ⟨h.1.grown (wyR_gr (hw rfl) hR) (fun _ _ => by simp), h.2⟩
  | j + 12, _, _, _, h => exact h
def wybφ (B n k c9 n6 c6 m p W0 : Nat) (A A6 : Option Addr) (own : Option Nat) (c : Int) (ld : List (List UInt8)) (ups : List Sc.Id) (R : Sc.Id) (i : Nat) (v : Value) (w : World) : Prop := match i with
  | 0 => v = .slice A6 n6 c6
  | 1 => v = .int .i64 c
  | 2 => v = .slice A n c9
  | 3 => v = .int .i64 (k : Int)
  | 4 => v = .slice A k c9
  | 5 => v = idv R
  | 6 => ∃ nb, v = .slice (some ⟨nb, 0, none⟩) 1 1 ∧ w.rangeAt nb 0 (R.l.map bv)
  | 7 => Ow B w 32 v (n6 + 1) (idCells (ups ++ [R])) ∧ (v.ownBlock = own ∨ ∃ q, v.ownBlock = some q ∧ W0 ≤ q)
  | 8 => v = .slice A n c9
  | 9 => v = .int .i64 (k : Int)
  | 10 => ∃ A2 c2, v = .slice A2 m c2 ∧ m ≤ c2 ∧ RdBB (fun b => b < B) w (.slice A2 m c2) ld
  | 11 => v = .int .i64 (p : Int)
  | 12 => v = .int .i64 (k : Int)
  | 13 => v = .int .i64 ((p : Int) - (k : Int))
  | 14 => Ow B w 32 v (n6 + 1) (idCells (ups ++ [R])) ∧ (v.ownBlock = own ∨ ∃ q, v.ownBlock = some q ∧ W0 ≤ q)
  | 15 => ∃ A2 c2, v = .slice A2 m c2 ∧ m ≤ c2 ∧ RdBB (fun b => b < B) w (.slice A2 m c2) ld
  | _ => True
theorem wyb_st (B n k c9 n6 c6 m p W0 : Nat) (A A6 : Option Addr) (own : Option Nat) (c : Int) (ld : List (List UInt8)) (ups : List Sc.Id) (R : Sc.Id) (hown : ∀ r, own = some r → B ≤ r) : ∀ j i v wa wb, j ≠ i → (j = 14 → i ≠ 7) → wybDead j i = false → wybφ B n k c9 n6 c6 m p W0 A A6 own c ld ups R j v wa → wyR own i wa wb → wybφ B n k c9 n6 c6 m p W0 A A6 own c ld ups R j v wb := by
  intro j i v wa wb hji hw hd h hR
  match j, hji, hw, hd, h with
  | 0, _, _, _, h => exact h
  | 1, _, _, _, h => exact h
  | 2, _, _, _, h => exact h
  | 3, _, _, _, h => exact h
  | 4, _, _, _, h => exact h
  | 5, _, _, _, h => exact h
  | 6, _, _, hd, h =>
    have hi : i ≠ 7 := by rintro rfl; cases hd
    obtain ⟨nb, e, hr⟩ := h
    exact ⟨nb, e, rangeAt_grown hr (wyR_gr hi hR) (by simp)⟩
  | 7, hji, _, _, h =>
    have hi : i ≠ 7 := fun e => hji e.symm
    exact ⟨h.1.grown (wyR_gr hi hR) (fun _ _ => by simp), h.2⟩
  | 8, _, _, _, h => exact h
  | 9, _, _, _, h => exact h
  | 10, _, _, _, h =>
    obtain ⟨A2, c2, e, hc, hr⟩ := h
    exact ⟨A2, c2, e, hc, hr.keep2 (wyR_own hR) hown⟩
  | 11, _, _, _, h => exact h
  | 12, _, _, _, h => exact h
  | 13, _, _, _, h => exact h
  | 14, _, hw, _, h => exact ⟨h.1.grown (wyR_gr (hw rfl) hR) (fun _ _ => by simp), h.2⟩
  | 15, _, _, _, h =>
    obtain ⟨A2, c2, e, hc, hr⟩ := h
    exact ⟨A2, c2, e, hc, hr.keep2 (wyR_own hR) hown⟩
  | j + 16, _, _, _, h => exact h
def swpφ (B b8 o8 n6 c6 si sj : Nat) (ups : List Sc.Id) (X Y : Sc.Id) (i : Nat) (v : Value) (w : World) : Prop := match i with
  | 0 => v = .slice (some ⟨b8, o8, none⟩) n6 c6
  | 1 => v = .int .i64 (si : Int)
  | 2 => v = .slice (some ⟨b8, o8, none⟩) n6 c6
  | 3 => v = .int .i64 (sj : Int)
  | 4 => v = .slice (some ⟨b8, o8, none⟩) n6 c6
  | 5 => v = .int .i64 (sj : Int)
  | 6 => v = .pointer (some ⟨b8, o8 + sj * 32, none⟩)
  | 7 => v = idv Y
  | 8 => v = .slice (some ⟨b8, o8, none⟩) n6 c6
  | 9 => v = .int .i64 (si : Int)
  | 10 => v = .pointer (some ⟨b8, o8 + si * 32, none⟩)
  | 11 => v = idv X
  | 12 => v = .pointer (some ⟨b8, o8 + si * 32, none⟩)
  | 13 => Ow B w 32 (.slice (some ⟨b8, o8, none⟩) n6 c6) n6 (idCells (ups.set si Y))
  | _ => True
theorem swp_st (B b8 o8 n6 c6 si sj : Nat) (ups : List Sc.Id) (X Y : Sc.Id) : ∀ j i v wa wb, j ≠ i → swpφ B b8 o8 n6 c6 si sj ups X Y j v wa → swR (some b8) i wa wb → swpφ B b8 o8 n6 c6 si sj ups X Y j v wb := by
  intro j i v wa wb hji h hR
  match j, hji, h with
  | 0, _, h => exact h
  | 1, _, h => exact h
  | 2, _, h => exact h
  | 3, _, h => exact h
  | 4, _, h => exact h
  | 5, _, h => exact h
  | 6, _, h => exact h
  | 7, _, h => exact h
  | 8, _, h => exact h
  | 9, _, h => exact h
  | 10, _, h => exact h
  | 11, _, h => exact h
  | 12, _, h => exact h
  | 13, hji, h => exact Ow.grown h (swR_gr (fun e => hji e.symm) hR) (fun _ _ => by simp)
  | j + 14, _, h => exact h
end Go.Proofs.Ytajgklomcapboaa
namespace Sc
open Go Go.RowKit
/-- The list with i of its elements turned round at each end. -/
def swp (ups : List Id) (i : Nat) : List Id := (List.range ups.length).map fun t => if t < i ∨ ups.length - i ≤ t then ups.getD (ups.length - 1 - t) id0 else ups.getD t id0
theorem swp_len (ups : List Id) (i : Nat) : (swp ups i).length = ups.length := by simp [swp]
theorem swp_at {ups : List Id} {i t : Nat} (h : t < ups.length) : (swp ups i)[t]? = some (if t < i ∨ ups.length - i ≤ t then ups.getD (ups.length - 1 - t) id0 else ups.getD t id0) := by
  simp only [swp]
  rw [List.getElem?_map, List.getElem?_range h]; rfl
theorem swp_zero (ups : List Id) : swp ups 0 = ups := by
  apply List.ext_getElem?
  intro t
  rcases Nat.lt_or_ge t ups.length with h | h
  · rw [swp_at h, if_neg (by omega), List.getD_eq_getElem?_getD, List.getElem?_eq_getElem h]; rfl
  · rw [List.getElem?_eq_none (by rw [swp_len]; exact h), List.getElem?_eq_none h]
theorem swp_end {ups : List Id} {i : Nat} (hi : ups.length ≤ 2 * i + 1) (h2 : 2 * i ≤ ups.length) : swp ups i = ups.reverse := by
  apply List.ext_getElem?
  intro t
  rcases Nat.lt_or_ge t ups.length with h | h
  · rw [swp_at h, List.getElem?_reverse h, List.getElem?_eq_getElem (by omega : ups.length - 1 - t < ups.length)]
    congr 1
    split
    · rw [List.getD_eq_getElem?_getD, List.getElem?_eq_getElem (by omega : ups.length - 1 - t < ups.length)]; rfl
    · rename_i hn
      have : t = ups.length - 1 - t := by omega
      rw [List.getD_eq_getElem?_getD, List.getElem?_eq_getElem h]
      simp only [Option.getD_some]
      congr 1
  · rw [List.getElem?_eq_none (by rw [swp_len]; exact h), List.getElem?_eq_none (by rw [List.length_reverse]; exact h)]
theorem swp_step {ups : List Id} {i j : Nat} {X Y : Id} (hij : 2 * i + 1 < ups.length) (hj : j = ups.length - 1 - i) (hX : ups[i]? = some X) (hY : ups[j]? = some Y) : ((swp ups i).set i Y).set j X = swp ups (i + 1) := by
  apply List.ext_getElem?
  intro t
  rcases Nat.lt_or_ge t ups.length with h | h
  · rw [swp_at h, List.getElem?_set, List.getElem?_set, List.length_set, swp_len]
    have gX : ups.getD i id0 = X := by rw [List.getD_eq_getElem?_getD, hX]; rfl
    have gY : ups.getD j id0 = Y := by rw [List.getD_eq_getElem?_getD, hY]; rfl
    by_cases h1 : j = t
    · subst h1
      rw [if_pos rfl, if_pos h, if_pos (by omega), show ups.length - 1 - j = i by omega, gX]
    · rw [if_neg h1]
      by_cases h2 : i = t
      · subst h2
        rw [if_pos rfl, if_pos (by omega), if_pos (by omega), ← hj, gY]
      · rw [if_neg h2, swp_at h]
        congr 1
        by_cases h3 : t < i ∨ ups.length - i ≤ t
        · rw [if_pos h3, if_pos (by omega)]
        · rw [if_neg h3, if_neg (by omega)]
  · rw [List.getElem?_eq_none (by rw [List.length_set, List.length_set, swp_len]; exact h), List.getElem?_eq_none (by rw [swp_len]; exact h)]
end Sc
namespace Go.Proofs.Ytajgklomcapboaa
open Go.RowKit Go.Shelf Sc
set_option maxHeartbeats 8000000 in
set_option maxRecDepth 100000 in
theorem sway_any (c : Int) (v : Value) (L : List (List UInt8)) (a0 : Nat) (w : World) (hv : RLL w v L) (hL : ∀ l ∈ L, l.length ≤ 1000000) (hn0 : L.length ≤ 1000000) (ha : a0 < L.length) :
    Calls Try.prog 27 #[.int .i64 c, v, .int .i64 (a0 : Int)] w fun e w' => ∃ A n c', e = .returned (.tuple #[.slice A n c', .int .i64 0]) ∧ n = (wayH (sumC c) L a0).length ∧ RI w' (.slice A n c') (wayH (sumC c) L a0) ∧ w.grownBy w' none := by
  go_enter Try.func27, Try.ntmps27
  obtain ⟨A, c9, rfl, hc⟩ := (show ∃ A c9, v = .slice A L.length c9 ∧ L.length ≤ c9 from by obtain ⟨vs, h1, _⟩ := hv; exact Rd.form h1)
  obtain ⟨Y, hY⟩ : ∃ Y, Y = wayH (sumC c) L a0 := ⟨_, rfl⟩
  rw [← hY]
  obtain ⟨B, hB⟩ : ∃ B, B = w.heap.size := ⟨_, rfl⟩
  obtain ⟨n0, hn⟩ : ∃ n0, n0 = L.length := ⟨_, rfl⟩
  have hv0 : RdBB (fun b => b < B) w (.slice A n0 c9) L := by rw [hB, hn]; exact hv
  rw [← hn] at ha hn0 hc ⊢
  have HY := Go.Lib.hid hY
  have HB := Go.Lib.hid hB
  have HV := Go.Lib.hid hv0
  have HN0 := Go.Lib.hid hn
  have HLL := Go.Lib.hid hL
  have haI : (0 : Int) ≤ (a0 : Int) ∧ (a0 : Int) < (n0 : Int) ∧ (n0 : Int) ≤ 1000000 := by omega
  have hd1 : decide ((a0 : Int) < 0) = false := decide_eq_false (by omega)
  have hd2 : decide ((n0 : Int) ≤ (a0 : Int)) = false := decide_eq_false (by omega)
  have hd2' : decide (n0 ≤ a0) = false := decide_eq_false (by omega)
  clear hY hB hv hv0 hn hL
  go_wp2_with fail
  go_loopw [1, 2, 8] (fun v1 v2 v8 wr => ∃ (l : List (List UInt8)) (n p : Nat) (ups : List Sc.Id) (A : Option Addr) (c9 : Nat) (A6 : Option Addr) (n6 c6 : Nat), v1 = .slice A n c9 ∧ v2 = .int .i64 (p : Int) ∧ v8 = .slice A6 n6 c6 ∧ p < n ∧ n ≤ n0 ∧ n ≤ c9 ∧ n6 + n ≤ n0 ∧
      Hid (l.length = n) ∧ Hid (ups.length = n6) ∧ Hid (∀ x ∈ l, x.length ≤ 1000000) ∧ Hid (RdBB (fun b => b < B) wr (.slice A n c9) l) ∧ Hid (Ow B wr 32 (.slice A6 n6 c6) n6 (idCells ups)) ∧ Hid (Y = wayH (sumC c) l p ++ ups.reverse) ∧ Hid (w.grownBy wr none))
    (fun v1 _ _ _ => sliceLen v1)
  case atStart => exact ⟨L, n0, a0, [], A, c9, none, 0, 0, rfl, rfl, rfl, ha, Nat.le_refl _, hc, by omega, Go.Lib.hid HN0.out.symm, Go.Lib.hid rfl, HLL, HV, Go.Lib.hid (Ow.nil _ _ _), Go.Lib.hid (by rw [HY.out]; simp), Go.Lib.hid (gb_refl _ _)⟩
  case round =>
    obtain ⟨l, n, p, ups, A, c9, A6, n6, c6, rfl, rfl, rfl, hpn, hnn, hnc, hn6, HLN, HUN, HLE, HRD, HOW, HWY, HGW⟩ := hrel
    clear HV HN0 hc hd1 hd2 hd2' HY HLL
    have hnI : (0 : Int) ≤ (p : Int) ∧ (p : Int) < (n : Int) ∧ (n : Int) ≤ 1000000 ∧ (n : Int) ≤ (c9 : Int) := by omega
    by_cases h1 : 1 < n
    · have hd1 : decide ((n : Int) > 1) = true := decide_eq_true (by omega)
      have hd1' : decide ((1 : Int) < (n : Int)) = true := decide_eq_true (by omega)
      obtain ⟨k, hk0⟩ : ∃ k, k = half n := ⟨_, rfl⟩
      have hhalf : ∀ w : World, Calls Try.prog 43 #[.int .i64 (n : Int)] w fun e w' => e = .returned (.int .i64 (k : Int)) ∧ w' = w := fun w => by rw [hk0]; exact shalf_any n (by omega) (by omega) w
      have hk1 : 1 ≤ k := by rw [hk0]; exact half_pos n
      have hk2 : k < n := by rw [hk0]; exact half_lt (by omega)
      have hkn : k ≤ n := Nat.le_of_lt hk2
      have hkI : (1 : Int) ≤ (k : Int) ∧ (k : Int) < (n : Int) := by omega
      have HK := Go.Lib.hid hk0
      obtain ⟨m, hm⟩ : ∃ m, m = n - k := ⟨_, rfl⟩
      obtain ⟨lk, hlk⟩ : ∃ lk, l.take k = lk := ⟨_, rfl⟩
      obtain ⟨ld, hld⟩ : ∃ ld, l.drop k = ld := ⟨_, rfl⟩
      have hlkl : lk.length = k := by rw [← hlk, List.length_take, HLN.out]; omega
      have hldl : ld.length = m := by rw [← hld, List.length_drop, HLN.out, hm]
      have HLD := Go.Lib.hid hld
      have HDL := Go.Lib.hid hldl
      have HLKL := Go.Lib.hid hlkl
      have HM := Go.Lib.hid hm
      have HEK : Hid (∀ x ∈ lk, x.length ≤ 1000000) := Go.Lib.hid fun x hx => HLE.out x (by rw [← hlk] at hx; exact List.mem_of_mem_take hx)
      have HED : Hid (∀ x ∈ ld, x.length ≤ 1000000) := Go.Lib.hid fun x hx => HLE.out x (by rw [← hld] at hx; exact List.mem_of_mem_drop hx)
      have HLK : Hid (RdBB (fun b => b < B) wr (.slice A k c9) lk) := Go.Lib.hid (by
        have h := HRD.out
        rw [← HLN.out] at h
        have h2 := rdbb_take h (q := k) (by rw [HLN.out]; exact hkn)
        rw [hlk] at h2; exact h2)
      have hBwr : B ≤ wr.heap.size := by rw [HB.out]; exact HGW.out.size
      obtain ⟨own, hown⟩ : ∃ own, (Value.slice A6 n6 c6).ownBlock = own := ⟨_, rfl⟩
      have HOWN := Go.Lib.hid hown
      have HOWB : Hid (∀ r, own = some r → B ≤ r) := Go.Lib.hid fun r hr => (HOW.out.lt (hown.trans hr)).1
      have HOWC : Hid (∀ r, own = some r → r < wr.heap.size) := Go.Lib.hid fun r hr => (HOW.out.lt (hown.trans hr)).2
      have HBW := Go.Lib.hid hBwr
      obtain ⟨W0, hW0⟩ : ∃ W0, W0 = wr.heap.size := ⟨_, rfl⟩
      have HWZ := Go.Lib.hid hW0
      rw [← hW0] at HBW
      have HLS := HRD
      have HLKE := Go.Lib.hid hlk
      have h63 : n6 + 1 ≤ maxLen := Nat.le_trans (show n6 + 1 ≤ 1000001 by omega) (by decide)
      have hby : (n6 + 1) * 32 ≤ 140737488355328 := by omega
      clear hk0 hm hlk hld hlkl hldl hBwr hown hW0
      by_cases hpk : p < k
      · have hd2 : decide ((p : Int) < (k : Int)) = true := decide_eq_true (by omega)
        have hd2' : decide (p < k) = true := decide_eq_true hpk
        obtain ⟨R, hR⟩ : ∃ R, rootH (sumC c) ld = R := ⟨_, rfl⟩
        have hwy : Y = wayH (sumC c) lk p ++ (ups ++ [R]).reverse := by
          have h := wayH_lo (sumC c) (l := l) (p := p) (by rw [HLN.out]; omega) (by rw [HLN.out, ← HK.out]; exact hpk)
          rw [HLN.out, ← HK.out, HLKE.out, HLD.out, hR] at h
          rw [HWY.out, h]; simp
        have HWY2 := Go.Lib.hid hwy
        have HRR := Go.Lib.hid hR
        have HROOT : Hid (∀ v w, RLL w v ld → Calls Try.prog 24 #[.int .i64 c, v] w fun e w' => e = .returned (idv (rootH (sumC c) ld)) ∧ w.grownBy w' none) := Go.Lib.hid fun v w h => sroot_any c v ld w h HED.out (by rw [HDL.out, HM.out]; omega)
        clear hwy hR
        go_upto_region 7 with (go_at_call 43; ((with_reducible refine (hhalf _).mono ?_); rintro e wr2 ⟨rfl, rfl⟩))
        refine wp_region_specsU 7 (fun _ => false) (Ra := fun a b => a.grownBy b own) (Rb := Gr) (R := wyR own) (fun _ _ _ h k => gb_trans h k) (fun i a b h => wyR_own h) (fun _ _ _ h k => gb_trans h k) (fun i a b hi h => wyR_gr hi h) 12 [29, 30, 31, 32, 33, 34, 35, 36, 37, 38, 39, 8] (by kernel_rfl) (gb_drew (gb_refl _ _)) (gb_drew (gb_refl _ _)) (by kernel_rfl) wyaDead (wyaφ B n k c9 n6 c6 m p W0 A A6 own c ld ups R) (fun j i v wa wb h1 hw h2 h3 h4 => wya_st B n k c9 n6 c6 m p W0 A A6 own c ld ups R HOWB.out j i v wa wb h1 (fun e1 e2 => by subst e1 e2; exact absurd (show false = true from hw.symm.trans (by kernel_rfl)) (by decide)) h2 h3 h4) ?stepwya ?finwya
        case stepwya =>
          intro i_ o_ ho hi_ u w' hg hgb hol hd
          rcases (by omega : i_ = 0 ∨ i_ = 1 ∨ i_ = 2 ∨ i_ = 3 ∨ i_ = 4 ∨ i_ = 5 ∨ i_ = 6 ∨ i_ = 7 ∨ i_ = 8 ∨ i_ = 9 ∨ i_ = 10 ∨ i_ = 11) with rfl | rfl | rfl | rfl | rfl | rfl | rfl | rfl | rfl | rfl | rfl | rfl <;> obtain rfl := Option.some.inj ho <;>
            simp (decide := true) only [fillAct, List.mapIdx_cons, List.mapIdx_nil, Nat.reduceAdd, if_true, if_false, List.getD_cons_zero, List.getD_cons_succ]
          · clear hd ho
            have e8 : u 8 = .slice A6 n6 c6 := hol 11 (by decide) rfl (by kernel_rfl) (by decide)
            rw [e8]
            go_wp2_with fail
            exact ⟨rfl, gb_refl _ _, rfl⟩
          · clear hd ho
            go_wp2_with fail
            exact ⟨rfl, gb_refl _ _, rfl⟩
          · clear hd ho
            go_wp2_with fail
            exact ⟨rfl, gb_refl _ _, rfl⟩
          · clear hd ho
            go_wp2_with fail
            exact ⟨rfl, gb_refl _ _, rfl⟩
          · have h2 : u 31 = .slice A n c9 := hd 2 (by kernel_rfl) (by decide)
            have h3 : u 32 = .int .i64 (k : Int) := hd 3 (by kernel_rfl) (by decide)
            clear hd ho
            rw [h2, h3]
            obtain ⟨vs, hrd, hel⟩ := HLS.out.keep2 hg HOWB.out
            have hvl : vs.length = n := by have := Rd.length hrd; rw [HLN.out] at this; omega
            rw [HLN.out] at hrd
            go_wp2_with ((with_reducible refine wpList_cut (x := .tmp 31) Try.underlying22 (by kernel_rfl) hrd (by kernel_rfl) k n (.inr ⟨_, rfl, by kernel_rfl⟩) (.inl ⟨rfl, rfl⟩) hkn (Nat.le_refl _) ?_); intro v9 hv9)
            have h9 : RdBB (fun b => b < B) w' v9 ld := by
              rw [← HLD.out]; exact rdbb_of_cut hel hv9 HLN.out hvl
            have hdl : ld.length = m := HDL.out
            obtain ⟨vs2, hrd2, hel2⟩ := h9
            obtain ⟨A2, c2, rfl, hcc⟩ := Rd.form hrd2
            rw [hdl] at hrd2 hcc ⊢
            exact ⟨rfl, gb_refl _ _, ⟨A2, c2, rfl, hcc, vs2, by rw [hdl]; exact hrd2, hel2⟩⟩
          · have h1 : u 30 = .int .i64 c := hd 1 (by kernel_rfl) (by decide)
            have h4 : ∃ A2 c2, (u 33) = .slice A2 m c2 ∧ m ≤ c2 ∧ RdBB (fun b => b < B) w' (.slice A2 m c2) ld := hd 4 (by kernel_rfl) (by decide)
            clear hd ho
            rw [h1]
            obtain ⟨A2, c2, e4, _, hl4⟩ := h4
            rw [e4]
            have hgr := hg
            have hr1 : RLL w' (.slice A2 m c2) ld := by exact hl4.lift (Nat.le_trans HBW.out (by rw [HWZ.out]; exact hgr.size))
            go_wp2_with (go_at_call 24; ((with_reducible refine (HROOT.out _ _ hr1).mono ?_); rintro e w3 ⟨rfl, g3⟩))
            rw [HRR.out]
            exact ⟨rfl, g3, rfl⟩
          · have h5 : u 34 = idv R := hd 5 (by kernel_rfl) (by decide)
            clear hd ho
            rw [h5]
            refine wpList_build_id (y := .tmp 34) R (by kernel_rfl) ?_
            go_wp2_with fail
            exact ⟨rfl, gb_alloc (gb_refl _ _) _, w'.heap.size, rfl, (Bk.new w' 34 (R.l.map bv)).range⟩
          · have h0 : u 29 = .slice A6 n6 c6 := hd 0 (by kernel_rfl) (by decide)
            have h6 : ∃ nb, (u 35) = .slice (some ⟨nb, 0, none⟩) 1 1 ∧ w'.rangeAt nb 0 (R.l.map bv) := hd 6 (by kernel_rfl) (by decide)
            clear hd ho
            rw [h0]
            obtain ⟨nb, e6, hr6⟩ := h6
            rw [e6]
            clear e6
            have hgr := hgb (.inl rfl)
            have hgs := hgr.size
            rw [← HWZ.out] at hgs
            have ho4 := HOW.out.grown hgr (fun _ _ => by simp)
            have hsrc : Src Try.prog 32 41 (.slice (some ⟨nb, 0, none⟩) 1 1) 1 (R.l.map bv) w' := src_rd (P := Try.prog) (k := 32) (tx := 41) Try.underlying41 (Rd.mk' (NB := fun _ => True) (k := 32) hr6 trivial (Nat.le_refl _) (by decide) (by rw [List.length_map, R.h])) (bytes_one _)
            have hBw : B ≤ w'.heap.size := Nat.le_trans HBW.out hgs
            go_wp2_with ((with_reducible refine wpList_append_ow (s := .tmp 29) (x := .tmp 35) (v := .slice A6 n6 c6) (y := .slice (some ⟨nb, 0, none⟩) 1 1) (by kernel_rfl) (by kernel_rfl) Try.underlying41 okId ho4 hsrc hBw h63 hby ?_); intro v3 w3 ho3 hg3 hb3)
            rw [← idCells_one, ← idCells_append] at ho3
            rw [HOWN.out] at hg3 hb3
            exact ⟨rfl, hg3, ho3, hb3.imp id fun h => ⟨_, h, hgs⟩⟩
          · clear hd ho
            go_wp2_with fail
            exact ⟨rfl, gb_refl _ _, rfl⟩
          · clear hd ho
            go_wp2_with fail
            exact ⟨rfl, gb_refl _ _, rfl⟩
          · have h8 : u 37 = .slice A n c9 := hd 8 (by kernel_rfl) (by decide)
            have h9 : u 38 = .int .i64 (k : Int) := hd 9 (by kernel_rfl) (by decide)
            clear hd ho
            rw [h8, h9]
            go_wp2_with fail
            exact ⟨rfl, gb_refl _ _, rfl⟩
          · have h7 : Ow B w' 32 (u 36) (n6 + 1) (idCells (ups ++ [R])) ∧ ((u 36).ownBlock = own ∨ ∃ q, (u 36).ownBlock = some q ∧ W0 ≤ q) := hd 7 (by kernel_rfl) (by decide)
            clear hd ho
            go_wp2_with fail
            exact ⟨rfl, gb_refl _ _, h7⟩
        case finwya =>
          intro u w5 hg hφ
          have h8 : Ow B w5 32 (u 8) (n6 + 1) (idCells (ups ++ [R])) ∧ ((u 8).ownBlock = own ∨ ∃ q, (u 8).ownBlock = some q ∧ W0 ≤ q) := hφ 11 (by omega) (by decide)
          have h39 : u 39 = .slice A k c9 := hφ 10 (by omega) (by decide)
          simp (decide := true) only [fillAct, List.mapIdx_cons, List.mapIdx_nil, Nat.reduceAdd, if_true, if_false, List.drop_succ_cons, List.drop_zero]
          obtain ⟨ho8, _⟩ := h8
          obtain ⟨A8, c8, e8⟩ := ho8.form
          rw [e8] at ho8
          rw [h39, e8]
          clear hφ h39 e8
          have gw5 := gb_own HGW.out hg (fun r hr => by rw [← HB.out]; exact HOWB.out r hr)
          have hl5 := HLK.out.keep2 hg HOWB.out
          go_wp2_with fail
          go_roundw
          case rel => exact ⟨lk, k, p, ups ++ [R], A, c9, A8, n6 + 1, c8, rfl, rfl, rfl, hpk, by omega, by omega, by omega, HLKL, Go.Lib.hid (by rw [List.length_append, HUN.out]; rfl), HEK, Go.Lib.hid hl5, Go.Lib.hid ho8, HWY2, Go.Lib.hid gw5⟩
          case measure => simp only [sliceLen]; omega
      · have hd2 : decide ((p : Int) < (k : Int)) = false := decide_eq_false (by omega)
        have hd2' : decide (p < k) = false := decide_eq_false hpk
        obtain ⟨R, hR⟩ : ∃ R, rootH (sumC c) lk = R := ⟨_, rfl⟩
        have hwy : Y = wayH (sumC c) ld (p - k) ++ (ups ++ [R]).reverse := by
          have h := wayH_hi (sumC c) (l := l) (p := p) (by rw [HLN.out]; omega) (by rw [HLN.out, ← HK.out]; exact hpk)
          rw [HLN.out, ← HK.out, HLKE.out, HLD.out, hR] at h
          rw [HWY.out, h]; simp
        have HWY2 := Go.Lib.hid hwy
        have HRR := Go.Lib.hid hR
        have HROOT : Hid (∀ v w, RLL w v lk → Calls Try.prog 24 #[.int .i64 c, v] w fun e w' => e = .returned (idv (rootH (sumC c) lk)) ∧ w.grownBy w' none) := Go.Lib.hid fun v w h => sroot_any c v lk w h HEK.out (by rw [HLKL.out]; omega)
        clear hwy hR
        go_upto_region 8 with (go_at_call 43; ((with_reducible refine (hhalf _).mono ?_); rintro e wr2 ⟨rfl, rfl⟩))
        refine wp_region_specsU 7 (fun _ => false) (Ra := fun a b => a.grownBy b own) (Rb := Gr) (R := wyR own) (fun _ _ _ h k => gb_trans h k) (fun i a b h => wyR_own h) (fun _ _ _ h k => gb_trans h k) (fun i a b hi h => wyR_gr hi h) 16 [40, 41, 42, 43, 44, 45, 46, 47, 48, 49, 50, 51, 52, 53, 8, 1] (by kernel_rfl) (gb_drew (gb_refl _ _)) (gb_drew (gb_refl _ _)) (by kernel_rfl) wybDead (wybφ B n k c9 n6 c6 m p W0 A A6 own c ld ups R) (fun j i v wa wb h1 hw h2 h3 h4 => wyb_st B n k c9 n6 c6 m p W0 A A6 own c ld ups R HOWB.out j i v wa wb h1 (fun e1 e2 => by subst e1 e2; exact absurd (show false = true from hw.symm.trans (by kernel_rfl)) (by decide)) h2 h3 h4) ?stepwyb ?finwyb
        case stepwyb =>
          intro i_ o_ ho hi_ u w' hg hgb hol hd
          rcases (by omega : i_ = 0 ∨ i_ = 1 ∨ i_ = 2 ∨ i_ = 3 ∨ i_ = 4 ∨ i_ = 5 ∨ i_ = 6 ∨ i_ = 7 ∨ i_ = 8 ∨ i_ = 9 ∨ i_ = 10 ∨ i_ = 11 ∨ i_ = 12 ∨ i_ = 13 ∨ i_ = 14 ∨ i_ = 15) with rfl | rfl | rfl | rfl | rfl | rfl | rfl | rfl | rfl | rfl | rfl | rfl | rfl | rfl | rfl | rfl <;> obtain rfl := Option.some.inj ho <;>
            simp (decide := true) only [fillAct, List.mapIdx_cons, List.mapIdx_nil, Nat.reduceAdd, if_true, if_false, List.getD_cons_zero, List.getD_cons_succ]
          · clear hd ho
            have e8 : u 8 = .slice A6 n6 c6 := hol 14 (by decide) rfl (by kernel_rfl) (by decide)
            rw [e8]
            go_wp2_with fail
            exact ⟨rfl, gb_refl _ _, rfl⟩
          · clear hd ho
            go_wp2_with fail
            exact ⟨rfl, gb_refl _ _, rfl⟩
          · clear hd ho
            have e1 : u 1 = .slice A n c9 := hol 15 (by decide) rfl (by kernel_rfl) (by decide)
            rw [e1]
            go_wp2_with fail
            exact ⟨rfl, gb_refl _ _, rfl⟩
          · clear hd ho
            go_wp2_with fail
            exact ⟨rfl, gb_refl _ _, rfl⟩
          · have h2 : u 42 = .slice A n c9 := hd 2 (by kernel_rfl) (by decide)
            have h3 : u 43 = .int .i64 (k : Int) := hd 3 (by kernel_rfl) (by decide)
            clear hd ho
            rw [h2, h3]
            go_wp2_with fail
            exact ⟨rfl, gb_refl _ _, rfl⟩
          · have h1 : u 41 = .int .i64 c := hd 1 (by kernel_rfl) (by decide)
            have h4 : u 44 = .slice A k c9 := hd 4 (by kernel_rfl) (by decide)
            clear hd ho
            rw [h1, h4]
            have hgr := hg
            have hr1 : RLL w' (.slice A k c9) lk := by exact (HLK.out.keep2 hgr HOWB.out).lift (Nat.le_trans HBW.out (by rw [HWZ.out]; exact hgr.size))
            go_wp2_with (go_at_call 24; ((with_reducible refine (HROOT.out _ _ hr1).mono ?_); rintro e w3 ⟨rfl, g3⟩))
            rw [HRR.out]
            exact ⟨rfl, g3, rfl⟩
          · have h5 : u 45 = idv R := hd 5 (by kernel_rfl) (by decide)
            clear hd ho
            rw [h5]
            refine wpList_build_id (y := .tmp 45) R (by kernel_rfl) ?_
            go_wp2_with fail
            exact ⟨rfl, gb_alloc (gb_refl _ _) _, w'.heap.size, rfl, (Bk.new w' 34 (R.l.map bv)).range⟩
          · have h0 : u 40 = .slice A6 n6 c6 := hd 0 (by kernel_rfl) (by decide)
            have h6 : ∃ nb, (u 46) = .slice (some ⟨nb, 0, none⟩) 1 1 ∧ w'.rangeAt nb 0 (R.l.map bv) := hd 6 (by kernel_rfl) (by decide)
            clear hd ho
            rw [h0]
            obtain ⟨nb, e6, hr6⟩ := h6
            rw [e6]
            clear e6
            have hgr := hgb (.inl rfl)
            have hgs := hgr.size
            rw [← HWZ.out] at hgs
            have ho4 := HOW.out.grown hgr (fun _ _ => by simp)
            have hsrc : Src Try.prog 32 41 (.slice (some ⟨nb, 0, none⟩) 1 1) 1 (R.l.map bv) w' := src_rd (P := Try.prog) (k := 32) (tx := 41) Try.underlying41 (Rd.mk' (NB := fun _ => True) (k := 32) hr6 trivial (Nat.le_refl _) (by decide) (by rw [List.length_map, R.h])) (bytes_one _)
            have hBw : B ≤ w'.heap.size := Nat.le_trans HBW.out hgs
            go_wp2_with ((with_reducible refine wpList_append_ow (s := .tmp 40) (x := .tmp 46) (v := .slice A6 n6 c6) (y := .slice (some ⟨nb, 0, none⟩) 1 1) (by kernel_rfl) (by kernel_rfl) Try.underlying41 okId ho4 hsrc hBw h63 hby ?_); intro v3 w3 ho3 hg3 hb3)
            rw [← idCells_one, ← idCells_append] at ho3
            rw [HOWN.out] at hg3 hb3
            exact ⟨rfl, hg3, ho3, hb3.imp id fun h => ⟨_, h, hgs⟩⟩
          · clear hd ho
            have e1 : u 1 = .slice A n c9 := hol 15 (by decide) rfl (by kernel_rfl) (by decide)
            rw [e1]
            go_wp2_with fail
            exact ⟨rfl, gb_refl _ _, rfl⟩
          · clear hd ho
            go_wp2_with fail
            exact ⟨rfl, gb_refl _ _, rfl⟩
          · have h8 : u 48 = .slice A n c9 := hd 8 (by kernel_rfl) (by decide)
            have h9 : u 49 = .int .i64 (k : Int) := hd 9 (by kernel_rfl) (by decide)
            clear hd ho
            rw [h8, h9]
            obtain ⟨vs, hrd, hel⟩ := HLS.out.keep2 hg HOWB.out
            have hvl : vs.length = n := by have := Rd.length hrd; rw [HLN.out] at this; omega
            rw [HLN.out] at hrd
            go_wp2_with ((with_reducible refine wpList_cut (x := .tmp 48) Try.underlying22 (by kernel_rfl) hrd (by kernel_rfl) k n (.inr ⟨_, rfl, by kernel_rfl⟩) (.inl ⟨rfl, rfl⟩) hkn (Nat.le_refl _) ?_); intro v9 hv9)
            have h9 : RdBB (fun b => b < B) w' v9 ld := by
              rw [← HLD.out]; exact rdbb_of_cut hel hv9 HLN.out hvl
            have hdl : ld.length = m := HDL.out
            obtain ⟨vs2, hrd2, hel2⟩ := h9
            obtain ⟨A2, c2, rfl, hcc⟩ := Rd.form hrd2
            rw [hdl] at hrd2 hcc ⊢
            exact ⟨rfl, gb_refl _ _, ⟨A2, c2, rfl, hcc, vs2, by rw [hdl]; exact hrd2, hel2⟩⟩
          · clear hd ho
            go_wp2_with fail
            exact ⟨rfl, gb_refl _ _, rfl⟩
          · clear hd ho
            go_wp2_with fail
            exact ⟨rfl, gb_refl _ _, rfl⟩
          · have h11 : u 51 = .int .i64 (p : Int) := hd 11 (by kernel_rfl) (by decide)
            have h12 : u 52 = .int .i64 (k : Int) := hd 12 (by kernel_rfl) (by decide)
            clear hd ho
            rw [h11, h12]
            go_wp2_with fail
            exact ⟨rfl, gb_refl _ _, rfl⟩
          · have h7 : Ow B w' 32 (u 47) (n6 + 1) (idCells (ups ++ [R])) ∧ ((u 47).ownBlock = own ∨ ∃ q, (u 47).ownBlock = some q ∧ W0 ≤ q) := hd 7 (by kernel_rfl) (by decide)
            clear hd ho
            go_wp2_with fail
            exact ⟨rfl, gb_refl _ _, h7⟩
          · have h10 : ∃ A2 c2, (u 50) = .slice A2 m c2 ∧ m ≤ c2 ∧ RdBB (fun b => b < B) w' (.slice A2 m c2) ld := hd 10 (by kernel_rfl) (by decide)
            clear hd ho
            go_wp2_with fail
            exact ⟨rfl, gb_refl _ _, h10⟩
        case finwyb =>
          intro u w5 hg hφ
          have h8 : Ow B w5 32 (u 8) (n6 + 1) (idCells (ups ++ [R])) ∧ ((u 8).ownBlock = own ∨ ∃ q, (u 8).ownBlock = some q ∧ W0 ≤ q) := hφ 14 (by omega) (by decide)
          obtain ⟨A2, c2, h1, hc2, hl5⟩ := (show ∃ A2 c2, u 1 = .slice A2 m c2 ∧ m ≤ c2 ∧ RdBB (fun b => b < B) w5 (.slice A2 m c2) ld from hφ 15 (by omega) (by decide))
          have h53 : u 53 = .int .i64 ((p : Int) - (k : Int)) := hφ 13 (by omega) (by decide)
          simp (decide := true) only [fillAct, List.mapIdx_cons, List.mapIdx_nil, Nat.reduceAdd, if_true, if_false, List.drop_succ_cons, List.drop_zero]
          obtain ⟨ho8, _⟩ := h8
          obtain ⟨A8, c8, e8⟩ := ho8.form
          rw [e8] at ho8
          rw [h53, e8, h1]
          clear hφ h53 e8 h1
          have gw5 := gb_own HGW.out hg (fun r hr => by rw [← HB.out]; exact HOWB.out r hr)
          have hme := HM.out
          go_wp2_with fail
          go_roundw
          case rel => exact ⟨ld, m, p - k, ups ++ [R], A2, c2, A8, n6 + 1, c8, rfl, by rw [show ((p - k : Nat) : Int) = (p : Int) - (k : Int) from by omega], rfl, by omega, by omega, hc2, by omega, HDL, Go.Lib.hid (by rw [List.length_append, HUN.out]; rfl), HED, Go.Lib.hid hl5, Go.Lib.hid ho8, HWY2, Go.Lib.hid gw5⟩
          case measure => simp only [sliceLen]; omega
    · have hn1 : n = 1 := by omega
      subst hn1
      have hY2 : Y = ups.reverse := by rw [HWY.out, wayH_short _ (by rw [HLN.out]; exact Nat.le_refl _), List.nil_append]
      have HY2 := Go.Lib.hid hY2
      have how := HOW.out
      have hgw := HGW.out
      have hn6I : (0 : Int) ≤ (n6 : Int) ∧ (n6 : Int) ≤ 1000000 := by omega
      have HO6 : Hid (Ow B wr 32 (.slice A6 n6 c6) n6 (idCells (swp ups 0))) := Go.Lib.hid (by rw [swp_zero]; exact how)
      have HG6 := Go.Lib.hid hgw
      clear hY2 how hgw HOW HGW HRD HLE HWY HLN
      go_wp2_with fail
      go_loopw [10, 11] (fun v10 v11 wo => ∃ i : Nat, v10 = .int .i64 (i : Int) ∧ v11 = .int .i64 ((n6 : Int) - 1 - (i : Int)) ∧ 2 * i ≤ n6 ∧ Hid (Ow B wo 32 (.slice A6 n6 c6) n6 (idCells (swp ups i))) ∧ Hid (w.grownBy wo none)) (fun v10 _ _ => n6 - (intOf v10).toNat)
      case atStart => exact ⟨0, rfl, by simp, by omega, HO6, HG6⟩
      case round =>
        clear HO6 HG6
        obtain ⟨si, rfl, rfl, hi2, HOW, HGW⟩ := hrel
        by_cases hij : 2 * si + 1 < n6
        · obtain ⟨sj, hj⟩ : ∃ sj, sj = n6 - 1 - si := ⟨_, rfl⟩
          have hje : (n6 : Int) - 1 - (si : Int) = (sj : Int) := by omega
          have hij2 : si < sj ∧ sj < n6 := by omega
          have hdij : decide ((si : Int) < (sj : Int)) = true := decide_eq_true (by omega)
          have hdij2 : decide (si < sj) = true := decide_eq_true hij2.1
          rw [hje]
          obtain ⟨X, hX⟩ : ∃ X, (swp ups si)[si]? = some X := ⟨_, List.getElem?_eq_getElem (by rw [swp_len, HUN.out]; omega)⟩
          obtain ⟨Z, hZ⟩ : ∃ Z, (swp ups si)[sj]? = some Z := ⟨_, List.getElem?_eq_getElem (by rw [swp_len, HUN.out]; omega)⟩
          obtain ⟨b8, o8, c8, hv8, hB8, hl8, hc8, hr8, _⟩ := HOW.out.at (by omega)
          injection hv8 with hA8 _ hcc8
          subst hA8 hcc8
          have HRX := Go.Lib.hid (range_id hr8 hX)
          have HRY := Go.Lib.hid (range_id hr8 hZ)
          have HIL : Hid (si < n6 ∧ (swp ups si).length = n6) := Go.Lib.hid ⟨by omega, by rw [swp_len]; exact HUN.out⟩
          have hsx : ups[si]? = some X := by
            rw [swp_at (by rw [HUN.out]; omega), if_neg (by rw [HUN.out]; omega), List.getD_eq_getElem?_getD, List.getElem?_eq_getElem (by rw [HUN.out]; omega)] at hX
            rw [List.getElem?_eq_getElem (by rw [HUN.out]; omega)]; exact hX
          have hsz : ups[sj]? = some Z := by
            rw [swp_at (by rw [HUN.out]; omega), if_neg (by rw [HUN.out]; omega), List.getD_eq_getElem?_getD, List.getElem?_eq_getElem (by rw [HUN.out]; omega)] at hZ
            rw [List.getElem?_eq_getElem (by rw [HUN.out]; omega)]; exact hZ
          have HST := Go.Lib.hid (swp_step (ups := ups) (i := si) (j := sj) (X := X) (Y := Z) (by rw [HUN.out]; exact hij) (by rw [HUN.out]; exact hj) hsx hsz)
          have HJ := Go.Lib.hid hj
          have hijI : (0 : Int) ≤ (si : Int) ∧ (si : Int) < (sj : Int) ∧ (sj : Int) < (n6 : Int) ∧ (n6 : Int) ≤ (c6 : Int) := by omega
          clear hX hZ hr8 hsx hsz hj
          go_upto_region 12 with fail
          refine wp_region_specsU 13 (fun i => i == 13) (Ra := fun a b => a.grownBy b (some b8)) (Rb := Gr) (R := swR (some b8)) (fun _ _ _ h k => gb_trans h k) (fun i a b h => swR_own h) (fun _ _ _ h k => gb_trans h k) (fun i a b hi h => swR_gr hi h) 14 [64, 65, 66, 67, 68, 69, 70, 71, 72, 73, 74, 75, 76, 71] (by kernel_rfl) (gb_drew (gb_refl _ _)) (gb_drew (gb_refl _ _)) (by kernel_rfl) (fun _ _ => false) (swpφ B b8 o8 n6 c6 si sj (swp ups si) X Z) (fun j i v wa wb h1 _ h2 h3 h4 => swp_st B b8 o8 n6 c6 si sj (swp ups si) X Z j i v wa wb h1 h3 h4) ?stepS ?finS
          case stepS =>
            intro i_ o_ ho hi_ u w' hg hgb hol hd
            rcases (by omega : i_ = 0 ∨ i_ = 1 ∨ i_ = 2 ∨ i_ = 3 ∨ i_ = 4 ∨ i_ = 5 ∨ i_ = 6 ∨ i_ = 7 ∨ i_ = 8 ∨ i_ = 9 ∨ i_ = 10 ∨ i_ = 11 ∨ i_ = 12 ∨ i_ = 13) with rfl | rfl | rfl | rfl | rfl | rfl | rfl | rfl | rfl | rfl | rfl | rfl | rfl | rfl <;> obtain rfl := Option.some.inj ho <;>
              simp (decide := true) only [fillAct, List.mapIdx_cons, List.mapIdx_nil, Nat.reduceAdd, if_true, if_false, List.getD_cons_zero, List.getD_cons_succ]
            · clear hd ho
              go_wp2_with fail
              exact ⟨rfl, gb_refl _ _, rfl⟩
            · clear hd ho
              go_wp2_with fail
              exact ⟨rfl, gb_refl _ _, rfl⟩
            · clear hd ho
              go_wp2_with fail
              exact ⟨rfl, gb_refl _ _, rfl⟩
            · clear hd ho
              go_wp2_with fail
              exact ⟨rfl, gb_refl _ _, rfl⟩
            · clear hd ho
              go_wp2_with fail
              exact ⟨rfl, gb_refl _ _, rfl⟩
            · clear hd ho
              go_wp2_with fail
              exact ⟨rfl, gb_refl _ _, rfl⟩
            · have h4 : u 68 = .slice (some ⟨b8, o8, none⟩) n6 c6 := hd 4 (by kernel_rfl) (by decide)
              have h5 : u 69 = .int .i64 (sj : Int) := hd 5 (by kernel_rfl) (by decide)
              clear hd ho
              rw [h4, h5]
              go_wp2_with fail
              exact ⟨rfl, gb_refl _ _, rfl⟩
            · have h6 : u 70 = .pointer (some ⟨b8, o8 + sj * 32, none⟩) := hd 6 (by kernel_rfl) (by decide)
              clear hd ho
              rw [h6]
              have r1 := rangeAt_grown HRY.out (hgb (.inr (by kernel_rfl))) (by simp)
              go_wp2_with ((with_reducible refine wpList_load_range (t := 34) b8 (o8 + sj * 32) (Z.l.map bv) _ r1 (by kernel_rfl) Try.underlying34 rfl (idSize _) ?_))
              exact ⟨rfl, gb_refl _ _, rfl⟩
            · clear hd ho
              go_wp2_with fail
              exact ⟨rfl, gb_refl _ _, rfl⟩
            · clear hd ho
              go_wp2_with fail
              exact ⟨rfl, gb_refl _ _, rfl⟩
            · have h8 : u 72 = .slice (some ⟨b8, o8, none⟩) n6 c6 := hd 8 (by kernel_rfl) (by decide)
              have h9 : u 73 = .int .i64 (si : Int) := hd 9 (by kernel_rfl) (by decide)
              clear hd ho
              rw [h8, h9]
              go_wp2_with fail
              exact ⟨rfl, gb_refl _ _, rfl⟩
            · have h10 : u 74 = .pointer (some ⟨b8, o8 + si * 32, none⟩) := hd 10 (by kernel_rfl) (by decide)
              clear hd ho
              rw [h10]
              have r1 := rangeAt_grown HRX.out (hgb (.inr (by kernel_rfl))) (by simp)
              go_wp2_with ((with_reducible refine wpList_load_range (t := 34) b8 (o8 + si * 32) (X.l.map bv) _ r1 (by kernel_rfl) Try.underlying34 rfl (idSize _) ?_))
              exact ⟨rfl, gb_refl _ _, rfl⟩
            · have h0 : u 64 = .slice (some ⟨b8, o8, none⟩) n6 c6 := hd 0 (by kernel_rfl) (by decide)
              have h1 : u 65 = .int .i64 (si : Int) := hd 1 (by kernel_rfl) (by decide)
              clear hd ho
              rw [h0, h1]
              go_wp2_with fail
              exact ⟨rfl, gb_refl _ _, rfl⟩
            · have h7 : u 71 = idv Z := hd 7 (by kernel_rfl) (by decide)
              have h12 : u 76 = .pointer (some ⟨b8, o8 + si * 32, none⟩) := hd 12 (by kernel_rfl) (by decide)
              clear hd ho
              rw [h7, h12]
              have ho := HOW.out.grown (hgb (.inl rfl)) (fun _ _ => by simp)
              go_wp2_with ((with_reducible refine wpList_store_idrow (t := 34) si Z ho HIL.out.1 HIL.out.2 (by kernel_rfl) (by kernel_rfl) (idSize _) ?_); intro w3 ho3 hg3)
              exact ⟨rfl, hg3, ho3⟩
          case finS =>
            intro u w5 hg hφ
            have h66 : u 66 = .slice (some ⟨b8, o8, none⟩) n6 c6 := hφ 2 (by omega) (by decide)
            have h67 : u 67 = .int .i64 (sj : Int) := hφ 3 (by omega) (by decide)
            have h75 : u 75 = idv X := hφ 11 (by omega) (by decide)
            have ho5 : Ow B w5 32 (.slice (some ⟨b8, o8, none⟩) n6 c6) n6 (idCells ((swp ups si).set si Z)) := hφ 13 (by omega) (by decide)
            simp (decide := true) only [fillAct, List.mapIdx_cons, List.mapIdx_nil, Nat.reduceAdd, if_true, if_false, List.drop_succ_cons, List.drop_zero]
            rw [h66, h67, h75]
            clear hφ h66 h67 h75
            have gw5 := gb_own HGW.out hg (fun r hr => by cases hr; rw [← HB.out]; exact hB8)
            go_wp2_with ((with_reducible refine wpList_store_idrow (t := 34) sj X ho5 hij2.2 (by rw [List.length_set]; exact HIL.out.2) (by kernel_rfl) (by kernel_rfl) (idSize _) ?_); intro w6 ho6 hg6)
            rw [HST.out] at ho6
            have gw6 := gb_own gw5 hg6 (fun r hr => by cases hr; rw [← HB.out]; exact hB8)
            have hjo := HJ.out
            go_roundw
            case rel => exact ⟨si + 1, by go_num, by rw [show (n6 : Int) - 1 - ((si + 1 : Nat) : Int) = (sj : Int) - 1 from by omega], by omega, Go.Lib.hid ho6, Go.Lib.hid gw6⟩
            case measure => simp [intOf]; omega
        · have hd3 : decide ((si : Int) < (n6 : Int) - 1 - (si : Int)) = false := decide_eq_false (by omega)
          have hfin : swp ups si = ups.reverse := swp_end (by rw [HUN.out]; omega) (by rw [HUN.out]; omega)
          have hrd := HOW.out.rd (NB := fun b => b < wr.heap.size) (fun b hb => (HOW.out.lt hb).2)
          rw [hfin, ← HY2.out] at hrd
          have hyl : n6 = Y.length := by rw [HY2.out, List.length_reverse, HUN.out]
          have HYL := Go.Lib.hid hyl
          have HRF : Hid (RI wr (.slice A6 n6 c6) Y) := Go.Lib.hid (by unfold RI RdI; rw [← hyl]; exact hrd)
          clear hfin hrd hyl
          go_wp2_with fail
          go_ret2
          exact ⟨_, _, _, rfl, HYL.out, HRF.out, HGW.out⟩
end Go.Proofs.Ytajgklomcapboaa
