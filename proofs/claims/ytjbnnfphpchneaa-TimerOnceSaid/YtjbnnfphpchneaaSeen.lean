import Derived.Test.YtjbnnfphpchneaaRunsT
import Derived.Maps.OwnSet
import Derived.Maps.Views
/- TimerOnce: which steps were seen. -/
namespace Go.Proofs.Ytjbnnfphpchneaa
open Go.RowKit Go.Shelf Sc Go.Maps
abbrev DM := DataW Unit
def okD (l : List Int) (d : Due) : Prop := ∃ (i : Nat) (r : Int), l[i]? = some r ∧ d = ((delay r : Int), r, (i : Int))
def onceL (l : List Int) : List Due := l.zipIdx.map fun p => ((delay p.1 : Int), p.1, (p.2 : Int))
def kI (s : Int) : Lit := .int .i64 s
theorem kI_ne {a b : Int} (h : a ≠ b) : kI a ≠ kI b := fun e => by
  unfold kI at e
  injection e with _ e
  exact h e
structure OnceI (l : List Int) (M : List Due) (D : DM) : Prop where
  tidy : Tidy D
  ok : ∀ d ∈ M, okD l d
  pw : M.Pairwise (fun a b => a.2.2 ≠ b.2.2)
  new : ∀ d ∈ M, has D (kI d.2.2) = false
  sz : size D + M.length = l.length
theorem onceL_len (l : List Int) : (onceL l).length = l.length := by simp [onceL]
theorem onceL_snoc {l : List Int} {i : Nat} {x : Int} (h : l[i]? = some x) : onceL (l.take (i + 1)) = onceL (l.take i) ++ [((delay x : Int), x, (i : Int))] := by
  have hi : i < l.length := (List.getElem?_eq_some_iff.1 h).1
  rw [List.take_add_one, h]
  simp only [onceL, Option.toList_some, List.zipIdx_append, List.map_append, List.length_take, Nat.min_eq_left (Nat.le_of_lt hi)]
  simp
theorem once_init (l : List Int) : OnceI l (onceL l) (.map []) where
  tidy := tidy_empty
  ok := fun d hd => by
    obtain ⟨⟨r, i⟩, hp, rfl⟩ := List.mem_map.1 hd
    exact ⟨i, r, List.mem_zipIdx_iff_getElem?.1 hp, rfl⟩
  pw := by
    rw [onceL, List.pairwise_map, List.pairwise_iff_getElem]
    intro i j hi hj hij
    simp only [List.getElem_zipIdx]
    omega
  new := fun d _ => rfl
  sz := by rw [onceL_len]; simp [size]
theorem okD_eq {l : List Int} {a b : Due} (ha : okD l a) (hb : okD l b) (h : a.2.2 = b.2.2) : a = b := by
  obtain ⟨i, r, h1, rfl⟩ := ha
  obtain ⟨j, s, h2, rfl⟩ := hb
  have e : i = j := by have : (i : Int) = (j : Int) := h; omega
  subst e
  rw [h1] at h2
  injection h2 with e
  rw [e]
theorem split_len (n : Int) (L : List Due) : (overOf n L).length + (leftOf n L).length = L.length := by
  unfold overOf leftOf
  induction L with
  | nil => rfl
  | cons d L ih =>
    by_cases h : d.1 ≤ n
    · simp [h]; omega
    · simp [h]; omega
theorem once_split {l : List Int} {L : List Due} {D : DM} (n : Int) (h : OnceI l L D) : OnceI l (overOf n L ++ leftOf n L) D where
  tidy := h.tidy
  ok := fun d hd => by
    rcases List.mem_append.1 hd with hd | hd
    · exact h.ok d (List.mem_filter.1 hd).1
    · exact h.ok d (List.mem_filter.1 hd).1
  pw := by
    refine List.pairwise_append.2 ⟨h.pw.filter _, h.pw.filter _, fun a ha b hb e => ?_⟩
    obtain ⟨ha, hna⟩ := List.mem_filter.1 ha
    obtain ⟨hb, hnb⟩ := List.mem_filter.1 hb
    rw [okD_eq (h.ok a ha) (h.ok b hb) e] at hna
    simp only [hna, Bool.not_true, Bool.false_eq_true] at hnb
  new := fun d hd => by
    rcases List.mem_append.1 hd with hd | hd
    · exact h.new d (List.mem_filter.1 hd).1
    · exact h.new d (List.mem_filter.1 hd).1
  sz := by rw [List.length_append, split_len]; exact h.sz
theorem once_step {l : List Int} {d : Due} {M : List Due} {D : DM} (h : OnceI l (d :: M) D) : OnceI l M (D.put (kI d.2.2) (.lit (.bool true))) where
  tidy := h.tidy.put (k := kI d.2.2) (show WideAt.IsKeyLit (.int .i64 d.2.2) from trivial) _
  ok := fun e he => h.ok e (List.mem_cons_of_mem _ he)
  pw := (List.pairwise_cons.1 h.pw).2
  new := fun e he => by
    rw [has_put_other (kI_ne (Ne.symm ((List.pairwise_cons.1 h.pw).1 e he)))]
    exact h.new e (List.mem_cons_of_mem _ he)
  sz := by
    rw [size_put h.tidy, h.new d (List.mem_cons_self ..)]
    have := h.sz
    simp only [List.length_cons] at this
    simp only [Bool.false_eq_true, if_false]
    omega
/-- Block b is a set of steps. -/
def Seen (w : World) (b : Nat) (D : DM) : Prop := w.ownsMap Try.prog 3 (plainElem Try.prog 4) b (size D) D
theorem seen_tight {w : World} {b n : Nat} {D : DM} (h : w.ownsMap Try.prog 3 (plainElem Try.prog 4) b n D) : Seen w b D := by
  obtain ⟨es, clock, hb, F, hs, rfl⟩ := h
  exact ⟨es, clock, hb, F, by simp [size, length_sorted], rfl⟩
theorem Seen.ch {w w' : World} {S : Nat → Prop} {b : Nat} {D : DM} (h : Seen w b D) (hc : Ch S w w') (hn : ¬ S b) : Seen w' b D := by
  have hlt := World.ownsMap.lt h
  obtain ⟨es, clock, hb, F, hs, hD⟩ := h
  exact ⟨es, clock, (hc.block b hlt hn).trans hb, F, hs, hD⟩
theorem Seen.grown {w w' : World} {row : Option Nat} {b : Nat} {D : DM} (h : Seen w b D) (hg : w.grownBy w' row) (hne : some b ≠ row) : Seen w' b D := World.ownsMap.kept h hg hne
theorem seen_new (w : World) : Seen (w.alloc (.map #[] 0)) w.heap.size (.map []) := World.ownsMap_made w _ _ _
theorem keyI {s : Int} (h : 0 ≤ s ∧ s ≤ 1000) : keyOf Try.prog 3 (.int .i64 s) = some (kI s) :=
  keyOf_int_mk Try.underlying3 (by
    have h1 : IntKind.i64.min ≤ s := by rw [show IntKind.i64.min = -9223372036854775808 from by decide]; omega
    have h2 : s ≤ IntKind.i64.max := by rw [show IntKind.i64.max = 9223372036854775807 from by decide]; omega
    simp only [Lit.wf, decide_eq_true h1, decide_eq_true h2, Bool.and_self])
theorem zeroB (w : World) : (zeroValue 4).run Try.prog w = .ok (.bool false) w := by kernel_rfl
/-- A step that was not seen is told so. -/
theorem Seen.look {w : World} {b : Nat} {D : DM} (h : Seen w b D) {s : Int} (hs : 0 ≤ s ∧ s ≤ 1000) (hh : has D (kI s) = false) : (Instr.lookup 29 (.map (some b)) (.int .i64 s) false).run Try.prog w = .ok (.bool false) w := by
  obtain ⟨v, ps, hr, hv⟩ := World.ownsMap.lookup (t := 29) h (int_keyed Try.underlying3) Try.underlying29 (zeroB w) (plainElem_bool Try.underlying4 false) (keyI hs)
  rw [atKey_of_not_has hh] at hv
  rw [hr]
  obtain rfl : v = .bool false := by
    unfold plainElem at hv
    rw [Try.underlying4] at hv
    cases v <;> simp_all
  rfl
section
variable {w : World} {ops : Array Oper} {rest : List Oper} {a : Act} {Q : Exit → Act → World → Prop} {dst : Option Tmp} {ty : TypeId} {pos : String} {aft : Array Edge} {m x : Operand} {b : Nat} {D : DM} {s : Int}
theorem wpList_seen (hm : a.eval m = .map (some b)) (hx : a.eval x = .int .i64 s) (hs : 0 ≤ s ∧ s ≤ 1000) (h : Seen w b D) (hz : size D ≤ 1000)
    (hk : ∀ w', Seen w' b (D.put (kI s) (.lit (.bool true))) → w.grownBy w' (some b) → wpList Try.prog ops Q rest (a.put dst undef) w') :
    wpList Try.prog ops Q (⟨dst, .mapUpdate 29 m x (.const (.bool true)), ty, pos, aft, none⟩ :: rest) a w :=
  wpList_mapUpdate_own (H := Unit) w rfl m x (.const (.bool true)) 29 rfl 3 4 (int_keyed Try.underlying3) Try.underlying29 _ b (size D) D hm h (by simp only [maxLen]; omega) _ _ (kI s) hx rfl (keyI hs)
    (.lit (.bool true)) [] (plainElem_bool Try.underlying4 true) (fun w' h1 h2 => hk w' (seen_tight h1) h2)
theorem wpList_seen_len {n : Int} (hm : a.eval m = .map (some b)) (h : Seen w b D) (hn : (size D : Int) = n) (hk : wpList Try.prog ops Q rest (a.put dst (.int .i64 n)) w) :
    wpList Try.prog ops Q (⟨dst, .call { callee := .builtin .len, args := #[m], argTypes := #[29] }, ty, pos, aft, none⟩ :: rest) a w :=
  wpList_len_own (H := Unit) w rfl m 29 rfl 3 4 Try.underlying29 _ b (size D) D hm h (by rw [hn]; exact hk)
end
end Go.Proofs.Ytjbnnfphpchneaa
