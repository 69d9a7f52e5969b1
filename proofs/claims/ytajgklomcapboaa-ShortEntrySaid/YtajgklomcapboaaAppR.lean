import Derived.Test.YtajgklomcapboaaApp
/- append to an own slice, by whether there is room: where it then lies. -/
namespace Sc
open Go Go.RowKit
section
variable {P : Program} {B k n m by_ c : Nat} {A : Option Addr} {w : World} {x : Value} {cs news : List Value} {t tx ty e : TypeId}
theorem run_append_grow_ow (ht : P.underlying t = some (.slice e)) (hi : InfoOk P e k by_) (ho : Ow B w k (.slice A n c) n cs) (hs : Src P k tx x m news w) (hB : B ≤ w.heap.size) (h63 : n + m ≤ maxLen) (hby : (n + m) * by_ ≤ 140737488355328) (hc : c < n + m) :
    ∃ c' w', (Builtin.append_ #[t, tx] ty #[.slice A n c, x]).run P w = .ok (.slice (some ⟨w.heap.size, 0, none⟩) (n + m) c') w' ∧ Ow B w' k (.slice (some ⟨w.heap.size, 0, none⟩) (n + m) c') (n + m) (cs ++ news) ∧ w.grownBy w' none := by
  unfold InfoOk at hi
  cases hq : P.info? e with
  | none => rw [hq] at hi; cases hi
  | some i =>
    rw [hq] at hi
    simp only [Option.map_some, Option.some.injEq, Prod.mk.injEq] at hi
    obtain ⟨hz, hk, hb⟩ := hi
    cases hz' : i.zero with
    | none => rw [hz'] at hz; cases hz
    | some z =>
      rw [hz'] at hz
      simp only [Option.map_some, Option.some.injEq] at hz
      subst hk; subst hb
      have hlen : (cs ++ news).length = (n + m) * i.size := by rw [List.length_append, ho.1, hs.newsLen, Nat.add_mul]
      have h63' : ((n + m : Nat) : Int) ≤ 9223372036854775807 := by simp only [maxLen] at h63; omega
      have hold : (Builtin.firstCells i.size n (.slice A n c)).run P w.drew = .ok cs.toArray w.drew := by
        obtain ⟨h1, A', c', he, h2, h3, h4, h5⟩ := ho
        injection he with e1 _ e2
        subst e1 e2
        cases A with
        | none =>
          have hc0 : c = 0 := h4 rfl
          subst hc0
          have hn0 : n = 0 := by omega
          subst hn0
          have hcs : cs = [] := List.eq_nil_of_length_eq_zero (by simpa using h1)
          subst hcs
          exact run_firstCells_none w.drew i.size 0 0 0
        | some ad =>
          obtain ⟨b, o, rfl, hBb, hlt, hcc, hr⟩ := h5 ad rfl
          exact run_firstCells_some w.drew i.size n ⟨b, o, none⟩ n c cs h1 (fun j u hu => by rw [Addr.add_mid]; exact hr j u hu)
      have hr := run_append_grow_src (P := P) w t tx ty e i z ht hq hz' A n c cs hold x m news hs hc h63' (growslice_fits hc hby)
      refine ⟨_, _, hr, ⟨hlen, _, _, rfl, grownCap_ge w (n + m) c e, grownCap_le_maxLen w (n + m) c e h63, (fun h => by cases h), fun ad had => ?_⟩, gb_alloc (gb_drew (gb_refl w _)) _⟩
      cases had
      have hbk := Bk.new w.drew e ((cs ++ news) ++ (Builtin.zeroCells z.cells (grownCap w (n + m) c e - (n + m))).toList)
      have ea : ((cs ++ news) ++ (Builtin.zeroCells z.cells (grownCap w (n + m) c e - (n + m))).toList).toArray = (cs ++ news).toArray ++ Builtin.zeroCells z.cells (grownCap w (n + m) c e - (n + m)) := by
        apply Array.ext'; simp
      rw [ea] at hbk
      have hge := grownCap_ge w (n + m) c e
      refine ⟨w.heap.size, 0, rfl, hB, by rw [World.size_alloc]; exact Nat.lt_succ_self _, fun j hj => ⟨?_, hbk.frozen _⟩, fun j u hu => ?_⟩
      · rw [Nat.zero_add]
        have hlt : j < ((cs ++ news) ++ (Builtin.zeroCells z.cells (grownCap w (n + m) c e - (n + m))).toList).length := by
          rw [List.length_append, hlen, Array.length_toList, size_zeroCells, hz, ← Nat.add_mul]
          rwa [show n + m + (grownCap w (n + m) c e - (n + m)) = grownCap w (n + m) c e by omega]
        have := hbk.cellAt (List.getElem?_eq_getElem hlt)
        exact Option.isSome_iff_exists.2 ⟨_, this⟩
      · rw [Nat.zero_add]
        refine hbk.cellAt ?_
        rw [List.getElem?_append_left (List.getElem?_eq_some_iff.1 hu).1]; exact hu
/-- Nothing is appended. -/
theorem run_append_no_ow (ht : P.underlying t = some (.slice e)) (hi : InfoOk P e k by_) (b o : Nat) (ho : Ow B w k (.slice (some ⟨b, o, none⟩) n c) n cs) (hs : Src P k tx x 0 [] w) :
    (Builtin.append_ #[t, tx] ty #[.slice (some ⟨b, o, none⟩) n c, x]).run P w = .ok (.slice (some ⟨b, o, none⟩) n c) w := by
  unfold InfoOk at hi
  cases hq : P.info? e with
  | none => rw [hq] at hi; cases hi
  | some i =>
    rw [hq] at hi
    simp only [Option.map_some, Option.some.injEq, Prod.mk.injEq] at hi
    obtain ⟨hz, hk, hb⟩ := hi
    subst hk
    obtain ⟨h1, A', c', he, h2, h3, h4, h5⟩ := ho
    injection he with e1 _ e2
    subst e1 e2
    have := run_append_room_src (P := P) w t tx ty e i ht hq b o n c x 0 [] hs h2 (fun j hj => by simp at hj) (fun j hj => by simp at hj)
    exact this
/-- There is room. -/
theorem run_append_room_ow (ht : P.underlying t = some (.slice e)) (hi : InfoOk P e k by_) (b o : Nat) (ho : Ow B w k (.slice (some ⟨b, o, none⟩) n c) n cs) (hs : Src P k tx x m news w) (hroom : n + m ≤ c) :
    (Builtin.append_ #[t, tx] ty #[.slice (some ⟨b, o, none⟩) n c, x]).run P w = .ok (.slice (some ⟨b, o, none⟩) (n + m) c) (w.setCells b (o + n * k) news) ∧
      Ow B (w.setCells b (o + n * k) news) k (.slice (some ⟨b, o, none⟩) (n + m) c) (n + m) (cs ++ news) := by
  unfold InfoOk at hi
  cases hq : P.info? e with
  | none => rw [hq] at hi; cases hi
  | some i =>
    rw [hq] at hi
    simp only [Option.map_some, Option.some.injEq, Prod.mk.injEq] at hi
    obtain ⟨hz, hk, hb⟩ := hi
    subst hk
    obtain ⟨h1, A', c', he, h2, h3, h4, h5⟩ := ho
    injection he with e1 _ e2
    subst e1 e2
    obtain ⟨b', o', hbo, hBb, hlt, hc, hr⟩ := h5 _ rfl
    injection hbo with hb1 ho1 _
    subst hb1 ho1
    have hlen : (cs ++ news).length = (n + m) * i.size := by rw [List.length_append, h1, hs.newsLen, Nat.add_mul]
    have hfit : n * i.size + news.length ≤ c * i.size := by rw [hs.newsLen, ← Nat.add_mul]; exact Nat.mul_le_mul_right _ hroom
    have e1 : ∀ j, o + n * i.size + j = o + (n * i.size + j) := fun j => by omega
    have hthere : ∀ j, j < news.length → (w.cell? ⟨b, o + n * i.size + j, none⟩).isSome = true := fun j hj => by rw [e1]; exact (hc _ (by omega)).1
    have hr' := run_append_room_src (P := P) w t tx ty e i ht hq b o n c x m news hs hroom hthere (fun j hj => by rw [e1]; exact (hc _ (by omega)).2)
    have gs := gb_setCells b news (o + n * i.size) w
    refine ⟨hr', hlen, _, c, rfl, hroom, h3, (fun h => by cases h), fun ad had => ?_⟩
    cases had
    refine ⟨b, o, rfl, hBb, Nat.lt_of_lt_of_le hlt gs.size, fun j hj => ⟨?_, ?_⟩, fun j u hu => ?_⟩
    · exact World.isSome_setCells b news _ w _ (hc j hj).1
    · rw [World.frozen?_setCells]; exact (hc j hj).2
    · by_cases hj : j < cs.length
      · rw [List.getElem?_append_left hj] at hu
        rw [World.cell?_setCells_out b news _ w _ (fun _ _ => .inl (by show o + j < o + n * i.size; rw [← h1]; omega))]
        exact hr j u hu
      · rw [List.getElem?_append_right (by omega)] at hu
        have hj' : j - cs.length < news.length := (List.getElem?_eq_some_iff.1 hu).1
        have := World.cell?_setCells_in b news (o + n * i.size) w hthere (j - cs.length) hj'
        rw [List.getElem?_eq_getElem hj'] at hu
        rw [show o + n * i.size + (j - cs.length) = o + j by omega, hu] at this
        exact this
variable {ops : Array Oper} {rest : List Oper} {a : Act} {Q : Exit → Act → World → Prop} {dst : Option Tmp} {pos : String} {aft : Array Edge}
theorem wpList_append_grow_ow {s x' : Operand} (hss : a.eval s = .slice A n c) (hx : a.eval x' = x) (ht : P.underlying t = some (.slice e)) (hi : InfoOk P e k by_) (ho : Ow B w k (.slice A n c) n cs) (hsrc : Src P k tx x m news w)
    (hB : B ≤ w.heap.size) (h63 : n + m ≤ maxLen) (hby : (n + m) * by_ ≤ 140737488355328) (hc : c < n + m)
    (h : ∀ c' w', Ow B w' k (.slice (some ⟨w.heap.size, 0, none⟩) (n + m) c') (n + m) (cs ++ news) → w.grownBy w' none → wpList P ops Q rest (a.put dst (.slice (some ⟨w.heap.size, 0, none⟩) (n + m) c')) w') :
    wpList P ops Q (⟨dst, .call { callee := .builtin .append, args := #[s, x'], argTypes := #[t, tx] }, ty, pos, aft, none⟩ :: rest) a w := by
  obtain ⟨c', w', hr, h1, h2⟩ := run_append_grow_ow (P := P) (ty := ty) ht hi ho hsrc hB h63 hby hc
  refine wpList_run rfl ?_ (h c' w' h1 h2)
  simp only [execOp, resolve, invoke, builtin, Sem.run_bind, Sem.run_pure, Result.andThen_ok, List.map_toArray, List.map_cons, List.map_nil, hss, hx, hr]
theorem wpList_append_no_ow {s x' : Operand} (b o : Nat) (hss : a.eval s = .slice (some ⟨b, o, none⟩) n c) (hx : a.eval x' = x) (ht : P.underlying t = some (.slice e)) (hi : InfoOk P e k by_) (ho : Ow B w k (.slice (some ⟨b, o, none⟩) n c) n cs) (hsrc : Src P k tx x 0 [] w)
    (h : wpList P ops Q rest (a.put dst (.slice (some ⟨b, o, none⟩) n c)) w) :
    wpList P ops Q (⟨dst, .call { callee := .builtin .append, args := #[s, x'], argTypes := #[t, tx] }, ty, pos, aft, none⟩ :: rest) a w := by
  refine wpList_run rfl ?_ h
  simp only [execOp, resolve, invoke, builtin, Sem.run_bind, Sem.run_pure, Result.andThen_ok, List.map_toArray, List.map_cons, List.map_nil, hss, hx, run_append_no_ow ht hi b o ho hsrc]
theorem wpList_append_room_ow {s x' : Operand} (b o : Nat) (hss : a.eval s = .slice (some ⟨b, o, none⟩) n c) (hx : a.eval x' = x) (ht : P.underlying t = some (.slice e)) (hi : InfoOk P e k by_) (ho : Ow B w k (.slice (some ⟨b, o, none⟩) n c) n cs) (hsrc : Src P k tx x m news w)
    (hroom : n + m ≤ c) (h : Ow B (w.setCells b (o + n * k) news) k (.slice (some ⟨b, o, none⟩) (n + m) c) (n + m) (cs ++ news) → wpList P ops Q rest (a.put dst (.slice (some ⟨b, o, none⟩) (n + m) c)) (w.setCells b (o + n * k) news)) :
    wpList P ops Q (⟨dst, .call { callee := .builtin .append, args := #[s, x'], argTypes := #[t, tx] }, ty, pos, aft, none⟩ :: rest) a w := by
  obtain ⟨hr, h1⟩ := run_append_room_ow (P := P) (ty := ty) ht hi b o ho hsrc hroom
  refine wpList_run rfl ?_ (h h1)
  simp only [execOp, resolve, invoke, builtin, Sem.run_bind, Sem.run_pure, Result.andThen_ok, List.map_toArray, List.map_cons, List.map_nil, hss, hx, hr]
end
end Sc
