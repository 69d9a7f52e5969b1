import Derived.Test.YtjbnnfphpchneaaDel
/- slices.IndexFunc and slices.DeleteFunc, with the closure that tells whether a timer is over. -/
namespace Sc
open Go Go.RowKit
def SO (bO : Nat) (ov : Value) : Nat → Prop := fun k => k = bO ∨ ov.ownBlock = some k
def OwnRel (w : World) (ov ov' : Value) : Prop := ov'.ownBlock = ov.ownBlock ∨ ∃ k, ov'.ownBlock = some k ∧ w.heap.size ≤ k
theorem own_step {w w1 : World} {ov ov1 ov2 : Value} (hs : w.heap.size ≤ w1.heap.size) (h : OwnRel w ov ov1) (h2 : OwnRel w1 ov1 ov2) : OwnRel w ov ov2 := by
  rcases h2 with e | ⟨k, e, hk⟩
  · rcases h with e' | ⟨k, e', hk⟩
    · exact .inl (e.trans e')
    · exact .inr ⟨k, e.trans e', hk⟩
  · exact .inr ⟨k, e, by omega⟩
theorem so_step {w w1 w2 : World} {bO : Nat} {ov ov1 : Value} (h : Ch (SO bO ov) w w1) (ho : OwnRel w ov ov1) (h2 : Ch (SO bO ov1) w1 w2) : Ch (SO bO ov) w w2 :=
  h.trans h2 (fun k hk => by
    rcases hk with hk | hk
    · exact .inl (.inl hk)
    · rcases ho with e | ⟨q, e, hq⟩
      · exact .inl (.inr (e ▸ hk))
      · rw [e] at hk; cases hk; exact .inr hq)
theorem dueCs_set (L : List Due) (i : Nat) (d : Due) (h : i < L.length) : (((dueCs L).set (i * 3) (.int .i64 d.1)).set (i * 3 + 1) (.int .i64 d.2.1)).set (i * 3 + 2) (.int .i64 d.2.2) = dueCs (L.set i d) := by
  induction L generalizing i with
  | nil => simp at h
  | cons x L ih =>
    obtain ⟨a, b, c⟩ := x
    cases i with
    | zero => obtain ⟨x, y, z⟩ := d; rfl
    | succ i =>
      have := ih i (by simpa using h)
      rw [List.set_cons_succ, dueCs_cons, dueCs_cons, ← this]
      rw [show (i + 1) * 3 = i * 3 + 3 by omega]
      rfl
theorem Ow.due {B : Nat} {w : World} {b o n c : Nat} {L : List Due} (h : Ow B w 3 (.slice (some ⟨b, o, none⟩) n c) n (dueCs L)) (hn : n = L.length) (i : Nat) (d : Due) (hi : i < n) : Ow B (w.setCells b (o + i * 3) (dueC d)) 3 (.slice (some ⟨b, o, none⟩) n c) n (dueCs (L.set i d)) := by
  have h1 := h.set (i * 3) (.int .i64 d.1) (by omega)
  have h2 := h1.set (i * 3 + 1) (.int .i64 d.2.1) (by omega)
  have h3 := h2.set (i * 3 + 2) (.int .i64 d.2.2) (by omega)
  rw [dueCs_set L i d (by omega)] at h3
  exact h3
theorem Ow.there {B k : Nat} {w : World} {b o n c : Nat} {cs : List Value} (h : Ow B w k (.slice (some ⟨b, o, none⟩) n c) n cs) (j m : Nat) (hj : j + m ≤ n * k) : w.there b (o + j) m := fun i hi => by
  obtain ⟨h1, A', c', he, h2, h3, h4, h5⟩ := h
  injection he with e1 _ e2
  subst e1 e2
  obtain ⟨b', o', e, hB, hlt, hc, hr⟩ := h5 _ rfl
  cases e
  have := hc (j + i) (Nat.lt_of_lt_of_le (by omega) (Nat.mul_le_mul_right k h2))
  rw [← Nat.add_assoc] at this
  exact this
theorem Ow.clearTail {B k : Nat} {w : World} {b o n c i : Nat} {cs us : List Value} (h : Ow B w k (.slice (some ⟨b, o, none⟩) n c) n cs) (hi : i ≤ n) : Ow B (w.setCells b (o + i * k) us) k (.slice (some ⟨b, o, none⟩) i c) i (cs.take (i * k)) := by
  obtain ⟨h1, A', c', he, h2, h3, h4, h5⟩ := h.takeTo i hi
  injection he with e1 _ e2
  subst e1 e2
  obtain ⟨b', o', e, hB, hlt, hc, hr⟩ := h5 _ rfl
  cases e
  refine ⟨h1, _, c, rfl, h2, h3, (fun h => by cases h), fun ad had => ?_⟩
  cases had
  refine ⟨b, o, rfl, hB, Nat.lt_of_lt_of_le hlt (gb_setCells b us _ w).size, fun j hj => ⟨World.isSome_setCells b us _ w _ (hc j hj).1, by rw [World.frozen?_setCells]; exact (hc j hj).2⟩, fun j u hu => ?_⟩
  have hj : j < i * k := by have := (List.getElem?_eq_some_iff.1 hu).1; rw [h1] at this; exact this
  rw [World.cell?_setCells_out b us _ w _ (fun _ _ => .inl (by show o + j < o + i * k; omega))]
  exact hr j u hu
section
variable {P : Program} {w : World} {ops : Array Oper} {rest : List Oper} {a : Act} {Q : Exit → Act → World → Prop} {dst : Option Tmp} {ty : TypeId} {pos : String} {aft : Array Edge} {t e : TypeId} {x : Operand}
theorem wpList_clear0 {A : Option Addr} {c : Nat} (ht : P.underlying t = some (.slice e)) (hx : a.eval x = .slice A 0 c) (h : wpList P ops Q rest (a.put dst (.tuple #[])) w) :
    wpList P ops Q (⟨dst, .call { callee := .builtin .clear, args := #[x], argTypes := #[t] }, ty, pos, aft, none⟩ :: rest) a w := by
  refine wpList_run rfl ?_ h
  cases A <;> simp [execOp, resolve, invoke, builtin, Builtin.clear_, run_underlying ht, hx]
theorem wpList_clear_mid {b o m c k by_ : Nat} (ht : P.underlying t = some (.slice e)) (hi : InfoOk P e k by_) (hx : a.eval x = .slice (some ⟨b, o, none⟩) (m + 1) c) (hth : w.there b o ((m + 1) * k)) (hz : ∀ i z, P.info? e = some i → i.zero = some z → ∀ u ∈ z.cells.toList, u.oneCell' = true)
    (h : ∀ us : List Value, us.length = (m + 1) * k → wpList P ops Q rest (a.put dst (.tuple #[])) (w.setCells b o us)) :
    wpList P ops Q (⟨dst, .call { callee := .builtin .clear, args := #[x], argTypes := #[t] }, ty, pos, aft, none⟩ :: rest) a w := by
  unfold InfoOk at hi
  cases hq : P.info? e with
  | none => rw [hq] at hi; cases hi
  | some i =>
    rw [hq] at hi
    simp only [Option.map_some, Option.some.injEq, Prod.mk.injEq] at hi
    obtain ⟨hzz, hk, hb⟩ := hi
    cases hz' : i.zero with
    | none => rw [hz'] at hzz; cases hzz
    | some z =>
      rw [hz'] at hzz
      simp only [Option.map_some, Option.some.injEq] at hzz
      have hlen : (Builtin.zeroCells z.cells (m + 1)).toList.length = (m + 1) * k := by rw [Array.length_toList, size_zeroCells, hzz]
      have hone : ∀ u ∈ (Builtin.zeroCells z.cells (m + 1)).toList, u.oneCell' = true := fun u hu => hz i z hq hz' u (by
        simp only [Builtin.zeroCells, Array.toList_map, Array.toList_range, List.mem_map, List.mem_range] at hu
        obtain ⟨q, hq2, rfl⟩ := hu
        have hp : 0 < z.cells.size := Nat.pos_of_ne_zero fun e => by rw [e] at hq2; omega
        have hl : q % z.cells.size < z.cells.size := Nat.mod_lt _ hp
        rw [getElem!_pos z.cells _ hl]
        exact Array.getElem_mem_toList hl)
      have hr := run_storeCells_cells (P := P) b o (Builtin.zeroCells z.cells (m + 1)).toList 0 w (fun j hj => by rw [hlen] at hj; simpa using (hth j hj).1) (fun j hj => by rw [hlen] at hj; simpa using (hth j hj).2) hone
      rw [Nat.add_zero] at hr
      refine wpList_run rfl ?_ (h _ hlen)
      simp [execOp, resolve, invoke, builtin, Builtin.clear_, run_underlying ht, hx, zeroValue, typeInfo, hq, hz', hr]
end
end Sc
namespace Go.Proofs.Ytjbnnfphpchneaa
open Go.RowKit Sc
theorem over_snoc {n : Int} {L : List Due} {i : Nat} {d : Due} (h : L[i]? = some d) : overOf n (L.take (i + 1)) = overOf n (L.take i) ++ overOf n [d] := by
  rw [List.take_add_one, h]; simp [overOf]
theorem left_snoc {n : Int} {L : List Due} {i : Nat} {d : Due} (h : L[i]? = some d) : leftOf n (L.take (i + 1)) = leftOf n (L.take i) ++ leftOf n [d] := by
  rw [List.take_add_one, h]; simp [leftOf]
theorem left_of_none {n : Int} {L : List Due} (h : overOf n L = []) : leftOf n L = L := by
  unfold leftOf
  unfold overOf at h
  rw [List.filter_eq_self]
  intro d hd
  have := List.filter_eq_nil_iff.1 h d hd
  simpa using this
set_option maxHeartbeats 4000000 in
theorem idx_any {B bT bO r : Nat} {n : Int} {lv ov : Value} {O : List Due} (A : Option Addr) (c q : Nat) (L : List Due) (NB : Nat → Prop) (w : World) (hL : Rd NB w 3 (.slice A q c) q (dueCs L)) (hq : L.length = q) (hNB : ∀ b, NB b → b ≠ bO ∧ ov.ownBlock ≠ some b ∧ b < w.heap.size)
    (hS : DS w B bT bO r n lv O ov) (hB : B ≤ w.heap.size) (hO : O.length ≤ 1000000) (hq40 : q ≤ 1000000) :
    Calls Try.prog 21 #[.slice A q c, .func (.func 19) #[] #[.pointer (some ⟨bT, 0, none⟩), .pointer (some ⟨bO, 0, none⟩)]] w fun e w' => ∃ ov', Ch (SO bO ov) w w' ∧ OwnRel w ov ov' ∧
      ((e = .returned (.int .i64 (-1)) ∧ overOf n L = [] ∧ DS w' B bT bO r n lv O ov') ∨ (∃ (k : Nat) (d : Due), e = .returned (.int .i64 (k : Int)) ∧ L[k]? = some d ∧ k < q ∧ overOf n (L.take k) = [] ∧ overOf n [d] = [d] ∧ DS w' B bT bO r n lv (O ++ [d]) ov')) := by
  go_enter Try.func21, Try.ntmps21
  have HL := Go.Lib.hid hL
  have HQ := Go.Lib.hid hq
  have HS0 := Go.Lib.hid hS
  have HNB := Go.Lib.hid hNB
  obtain ⟨A', c', he, hqc⟩ := Rd.form hL
  injection he with e1 _ e2
  subst e1 e2
  clear hL hq hS hNB
  go_wp2_with fail
  go_loopw [8] (fun v8 wr => ∃ (i : Nat) (ov1 : Value), v8 = .int .i64 (i : Int) ∧ i ≤ q ∧ Hid (overOf n (L.take i) = []) ∧ Hid (DS wr B bT bO r n lv O ov1) ∧ Hid (Ch (SO bO ov) w wr) ∧ Hid (OwnRel w ov ov1)) (fun v8 _ => q - (intOf v8).toNat)
  case atStart => exact ⟨0, ov, rfl, Nat.zero_le _, Go.Lib.hid (by simp [overOf]), HS0, Go.Lib.hid (Ch.refl _ _), Go.Lib.hid (.inl rfl)⟩
  case round =>
    clear HS0
    obtain ⟨i, ov1, rfl, hi, HOV, HS, HC, HR⟩ := hrel
    obtain ⟨wo, rfl⟩ : ∃ wo : World, wo = wr := ⟨_, rfl⟩
    by_cases hlt : i < q
    · have hd : decide ((i : Int) < (q : Int)) = true := decide_eq_true (by omega)
      have hd' : decide (i < q) = true := decide_eq_true hlt
      have hiI : (0 : Int) ≤ (i : Int) ∧ (i : Int) < (q : Int) := by omega
      obtain ⟨d, hx⟩ : ∃ d, L[i]? = some d := ⟨_, List.getElem?_eq_getElem (by rw [HQ.out]; exact hlt)⟩
      have hrd := HC.out.rd HL.out (fun b hb hs => by
        have h := HNB.out b hb
        rcases hs with h1 | h1
        · exact h.1 h1
        · exact h.2.1 h1)
      obtain ⟨b, o, c1, he, hb, hnc, hcm, hcell⟩ := hrd.at (by omega)
      injection he with hA _ hcc
      subst hA hcc
      have hrx := range_due hcell hx
      have hs1 := HS.out
      have hB1 : B ≤ wo.heap.size := Nat.le_trans hB HC.out.size
      have hsn := over_snoc (n := n) hx
      rw [HOV.out, List.nil_append] at hsn
      have HSN := Go.Lib.hid hsn
      have HX := Go.Lib.hid hx
      obtain ⟨at_, rd, st⟩ := d
      clear hcell hrd hsn hx
      by_cases h : at_ ≤ n
      · have hd2 : decide (at_ ≤ n) = true := decide_eq_true h
        have hov : overOf n [(at_, rd, st)] = [(at_, rd, st)] := by simp [overOf, h]
        have HOD := Go.Lib.hid hov
        clear hov h
        go_wp2_with (first
          | ((with_reducible refine wpList_load_range (t := 52) b (o + i * 3) (dueC (at_, rd, st)) _ hrx (by kernel_rfl) Try.underlying52 rfl (dueSize _) ?_))
          | (go_at_call 19; ((with_reducible refine (del_any (at_, rd, st) _ hs1 hB1 hO).mono ?_); rintro e w2 ⟨rfl, ov2, hS2, hC2, hR2⟩; rw [hd2])))
        go_ret
        rw [HOD.out] at hS2
        exact ⟨ov2, so_step HC.out HR.out hC2, own_step HC.out.size HR.out hR2, .inr ⟨i, _, rfl, HX.out, hlt, HOV.out, HOD.out, hS2⟩⟩
      · have hd2 : decide (at_ ≤ n) = false := decide_eq_false h
        have hov : overOf n [(at_, rd, st)] = [] := by simp [overOf, h]
        have HOD := Go.Lib.hid hov
        clear hov h
        go_wp2_with (first
          | ((with_reducible refine wpList_load_range (t := 52) b (o + i * 3) (dueC (at_, rd, st)) _ hrx (by kernel_rfl) Try.underlying52 rfl (dueSize _) ?_))
          | (go_at_call 19; ((with_reducible refine (del_any (at_, rd, st) _ hs1 hB1 hO).mono ?_); rintro e w2 ⟨rfl, ov2, hS2, hC2, hR2⟩; rw [hd2])))
        rw [HOD.out, List.append_nil] at hS2
        exact ⟨⟨i + 1, ov2, by push_cast; rfl, by omega, Go.Lib.hid (HSN.out.trans HOD.out), Go.Lib.hid hS2, Go.Lib.hid (so_step HC.out HR.out hC2), Go.Lib.hid (own_step HC.out.size HR.out hR2)⟩, by simp only [intOf]; omega⟩
    · obtain rfl : i = q := by omega
      have hd : decide ((i : Int) < (i : Int)) = false := decide_eq_false (by omega)
      have hd' : decide (i < i) = false := decide_eq_false (by omega)
      have hov : overOf n L = [] := by
        have h := HOV.out
        rw [List.take_of_length_le (by rw [HQ.out]; exact Nat.le_refl _)] at h
        exact h
      have HO := Go.Lib.hid hov
      clear hov
      go_wp2_with fail
      go_ret
      exact ⟨ov1, HC.out, HR.out, .inl ⟨rfl, HO.out, HS.out⟩⟩
end Go.Proofs.Ytjbnnfphpchneaa
