import Derived.Test.YtajgklomcapboaaApp
/- Parts of slices, as one step. -/
namespace Sc
open Go Go.RowKit

section
variable {P : Program} {w : World} {k n : Nat} {v : Value} {cs : List Value} {t e : TypeId}

theorem run_cut (hu : P.underlying t = some (.slice e)) (hk : (P.info? e).map (·.size) = some k) (A : Option Addr) (n c i j : Nat) (lo hi : Option Value) (hlo : lo = none ∧ i = 0 ∨ lo = some (.int .i64 (i : Int)))
    (hhi : hi = none ∧ j = n ∨ hi = some (.int .i64 (j : Int))) (hij : i ≤ j) (hj : j ≤ c) (w : World) :
    (Instr.sliceAt t (.slice A n c) lo hi none).run P w = .ok (.slice (if c = i then A else A.map (·.add (i * k))) (j - i) (c - i)) w := by
  have h1 : 0 ≤ (i : Int) ∧ (i : Int) ≤ (j : Int) := by omega
  have h2 : 0 ≤ (j : Int) ∧ (j : Int) ≤ (c : Int) := by omega
  unfold Instr.sliceAt
  rcases hlo with ⟨rfl, rfl⟩ | rfl <;> rcases hhi with ⟨rfl, rfl⟩ | rfl <;>
    simp_all [Sem.run_bind, run_underlying hu w, Instr.slice, Instr.sliceBounds, Instr.sliceBound, asIntOf, run_sizeOf' hk]

/-- 'arr[:]' -/
theorem run_cut_all {len : Nat} (hu : P.underlying t = some (.array len e)) (hk : (P.info? e).map (·.size) = some k) (_hl : 0 < len) (b : Nat) (w : World) :
    (Instr.sliceAt t (.pointer (some ⟨b, 0, none⟩)) none none none).run P w = .ok (.slice (some ⟨b, 0, none⟩) len len) w := by
  unfold Instr.sliceAt
  simp [Sem.run_bind, run_underlying hu w, Instr.sureAddr, Instr.sliceBounds, run_sizeOf' hk, Addr.add]

theorem run_conv_bs {NB : Nat → Prop} {d : TypeId} (ht : P.underlying t = some (.slice e)) (he : P.underlying e = some (.int .u8)) (hd : P.underlying d = some .string) (l : List UInt8) (hv : RdB NB w v l) : (convert t d v).run P w = .ok (sv l) w := by
  obtain ⟨A, c, rfl, hmc, hc, hl, hr⟩ := hv
  cases A with
  | none =>
    have hm : l = [] := by
      rcases Nat.eq_zero_or_pos l.length with e | e
      · exact List.eq_nil_of_length_eq_zero e
      · obtain ⟨_, _, h, _⟩ := hr e; cases h
    subst hm
    rw [run_convert_bytes_string w t d e none _ c ht he hd]
    simp [Conv.bytesToString, Sem.run_pure, sv]; rfl
  | some ad =>
    refine run_convert_bytes_back w t d e ad c l ht he hd (fun j hj => ?_)
    obtain ⟨b, o, e', _, hr2⟩ := hr (by omega)
    cases e'
    rw [Addr.add_mid]
    exact hr2 j _ (by rw [List.getElem?_map, List.getElem?_eq_getElem hj]; rfl)

variable {ops : Array Oper} {rest : List Oper} {a : Act} {Q : Exit → Act → World → Prop} {dst : Option Tmp} {ty : TypeId} {pos : String} {aft : Array Edge} {NB : Nat → Prop}

theorem wpList_cut {x : Operand} {lo hi : Option Operand} (hu : P.underlying t = some (.slice e)) (hk : (P.info? e).map (·.size) = some k) (hr : Rd NB w k v n cs) (hx : a.eval x = v) (i j : Nat)
    (hlo : lo = none ∧ i = 0 ∨ ∃ o, lo = some o ∧ a.eval o = .int .i64 (i : Int)) (hhi : hi = none ∧ j = n ∨ ∃ o, hi = some o ∧ a.eval o = .int .i64 (j : Int)) (hij : i ≤ j) (hj : j ≤ n)
    (h : ∀ v', Rd NB w k v' (j - i) ((cs.drop (i * k)).take ((j - i) * k)) → wpList P ops Q rest (a.put dst v') w) : wpList P ops Q (⟨dst, .slice t x lo hi none, ty, pos, aft, none⟩ :: rest) a w := by
  obtain ⟨A, c, rfl, hc⟩ := hr.form
  refine wpList_run rfl ?_ (h _ (hr.cut hij hj rfl))
  have h1 : lo.map a.eval = none ∧ i = 0 ∨ lo.map a.eval = some (.int .i64 (i : Int)) := by
    rcases hlo with ⟨rfl, e⟩ | ⟨o, rfl, e⟩
    · exact .inl ⟨rfl, e⟩
    · exact .inr (by rw [Option.map_some, e])
  have h2 : hi.map a.eval = none ∧ j = n ∨ hi.map a.eval = some (.int .i64 (j : Int)) := by
    rcases hhi with ⟨rfl, e⟩ | ⟨o, rfl, e⟩
    · exact .inl ⟨rfl, e⟩
    · exact .inr (by rw [Option.map_some, e])
  simp only [execOp, hx, Sem.run_bind, Option.map_none, run_cut hu hk A n c i j _ _ h1 h2 hij (Nat.le_trans hj hc), Result.andThen_ok, Sem.run_pure]

theorem wpStill_cut {K : Act → Prop} {x : Operand} {lo hi : Option Operand} (hu : P.underlying t = some (.slice e)) (hk : (P.info? e).map (·.size) = some k) (hr : Rd NB w k v n cs) (hx : a.eval x = v) (i j : Nat)
    (hlo : lo = none ∧ i = 0 ∨ ∃ o, lo = some o ∧ a.eval o = .int .i64 (i : Int)) (hhi : hi = none ∧ j = n ∨ ∃ o, hi = some o ∧ a.eval o = .int .i64 (j : Int)) (hij : i ≤ j) (hj : j ≤ n)
    (h : ∀ v', Rd NB w k v' (j - i) ((cs.drop (i * k)).take ((j - i) * k)) → wpStill P ops w K rest (a.put dst v')) : wpStill P ops w K (⟨dst, .slice t x lo hi none, ty, pos, aft, none⟩ :: rest) a := by
  obtain ⟨A, c, rfl, hc⟩ := hr.form
  refine wpStill_run rfl ?_ (h _ (hr.cut hij hj rfl))
  have h1 : lo.map a.eval = none ∧ i = 0 ∨ lo.map a.eval = some (.int .i64 (i : Int)) := by
    rcases hlo with ⟨rfl, e⟩ | ⟨o, rfl, e⟩
    · exact .inl ⟨rfl, e⟩
    · exact .inr (by rw [Option.map_some, e])
  have h2 : hi.map a.eval = none ∧ j = n ∨ hi.map a.eval = some (.int .i64 (j : Int)) := by
    rcases hhi with ⟨rfl, e⟩ | ⟨o, rfl, e⟩
    · exact .inl ⟨rfl, e⟩
    · exact .inr (by rw [Option.map_some, e])
  simp only [execOp, hx, Sem.run_bind, Option.map_none, run_cut hu hk A n c i j _ _ h1 h2 hij (Nat.le_trans hj hc), Result.andThen_ok, Sem.run_pure]
end

theorem cut_bytes (l : List UInt8) (i j : Nat) : ((l.map bv).drop (i * 1)).take ((j - i) * 1) = ((l.drop i).take (j - i)).map bv := by
  rw [Nat.mul_one, Nat.mul_one, ← List.map_drop, ← List.map_take]
theorem RdB.of_cut {NB : Nat → Prop} {w : World} {v : Value} {l : List UInt8} {i j : Nat} (hij : i ≤ j) (hj : j ≤ l.length) (h : Rd NB w 1 v (j - i) (((l.map bv).drop (i * 1)).take ((j - i) * 1))) : RdB NB w v ((l.drop i).take (j - i)) := by
  rw [cut_bytes] at h
  unfold RdB
  rw [show ((l.drop i).take (j - i)).length = j - i by rw [List.length_take, List.length_drop]; omega]
  exact h
theorem run_min2 {P : Program} {ts : Array TypeId} {ty : TypeId} (m k q : Nat) (hq : min m k = q) (w : World) : (Builtin.min_ ts ty #[.int .i64 (m : Int), .int .i64 (k : Int)]).run P w = .ok (.int .i64 (q : Int)) w := by
  subst hq
  by_cases h : m ≤ k
  · rw [Nat.min_eq_left h]
    simp [Builtin.min_, Builtin.min2, Nat.not_lt.2 h]
  · rw [Nat.min_eq_right (by omega)]
    simp [Builtin.min_, Builtin.min2, Nat.lt_of_not_le h]
theorem wpList_min {P : Program} {w : World} {ops : Array Oper} {rest : List Oper} {a : Act} {Q : Exit → Act → World → Prop} {dst : Option Tmp} {ty : TypeId} {pos : String} {aft : Array Edge} {ts : Array TypeId} {x y : Operand}
    (m k q : Nat) (hq : min m k = q) (hx : a.eval x = .int .i64 (m : Int)) (hy : a.eval y = .int .i64 (k : Int)) (h : wpList P ops Q rest (a.put dst (.int .i64 (q : Int))) w) :
    wpList P ops Q (⟨dst, .call { callee := .builtin .min, args := #[x, y], argTypes := ts }, ty, pos, aft, none⟩ :: rest) a w := by
  refine wpList_run rfl ?_ h
  simp only [execOp, resolve, invoke, builtin, Sem.run_bind, Sem.run_pure, Result.andThen_ok, List.map_toArray, List.map_cons, List.map_nil, hx, hy, run_min2 m k q hq]
theorem cut_form {NB : Nat → Prop} {w : World} {v : Value} {l : List UInt8} {i j : Nat} (h : Rd NB w 1 v (j - i) (((l.map bv).drop (i * 1)).take ((j - i) * 1))) (hij : i ≤ j) (hj : j ≤ l.length) (L : List UInt8) (q : Nat) (hL : L = (l.drop i).take (j - i)) (hq : q = j - i) :
    ∃ A c, v = .slice A q c ∧ q ≤ c ∧ RdB NB w (.slice A q c) L := by
  have hr := RdB.of_cut hij hj h
  rw [← hL] at hr
  obtain ⟨A, c, rfl, hc⟩ := hr.form
  have : L.length = q := by rw [hL, hq, List.length_take, List.length_drop]; omega
  rw [this] at hr hc ⊢
  exact ⟨A, c, rfl, hc, hr⟩

section
variable {P : Program} {w : World} {v : Value} {t e : TypeId}
variable {ops : Array Oper} {rest : List Oper} {a : Act} {Q : Exit → Act → World → Prop} {dst : Option Tmp} {ty : TypeId} {pos : String} {aft : Array Edge} {NB : Nat → Prop}
/-- Of bytes: the part is L, of q bytes. -/
theorem wpList_cutB {x : Operand} {lo hi : Option Operand} (hu : P.underlying t = some (.slice e)) (hk : (P.info? e).map (·.size) = some 1) {l : List UInt8} (hr : RdB NB w v l) (hx : a.eval x = v) (i j : Nat)
    (hlo : lo = none ∧ i = 0 ∨ ∃ o, lo = some o ∧ a.eval o = .int .i64 (i : Int)) (hhi : hi = none ∧ j = l.length ∨ ∃ o, hi = some o ∧ a.eval o = .int .i64 (j : Int)) (hij : i ≤ j) (hj : j ≤ l.length)
    (L : List UInt8) (q : Nat) (hL : L = (l.drop i).take (j - i)) (hq : q = j - i)
    (h : ∀ A c, q ≤ c → RdB NB w (.slice A q c) L → wpList P ops Q rest (a.put dst (.slice A q c)) w) : wpList P ops Q (⟨dst, .slice t x lo hi none, ty, pos, aft, none⟩ :: rest) a w :=
  wpList_cut hu hk hr hx i j hlo hhi hij hj (fun v' hr' => by
    obtain ⟨A, c, rfl, hc, hB⟩ := cut_form hr' hij hj L q hL hq
    exact h A c hc hB)
theorem wpStill_cutB {K : Act → Prop} {x : Operand} {lo hi : Option Operand} (hu : P.underlying t = some (.slice e)) (hk : (P.info? e).map (·.size) = some 1) {l : List UInt8} (hr : RdB NB w v l) (hx : a.eval x = v) (i j : Nat)
    (hlo : lo = none ∧ i = 0 ∨ ∃ o, lo = some o ∧ a.eval o = .int .i64 (i : Int)) (hhi : hi = none ∧ j = l.length ∨ ∃ o, hi = some o ∧ a.eval o = .int .i64 (j : Int)) (hij : i ≤ j) (hj : j ≤ l.length)
    (L : List UInt8) (q : Nat) (hL : L = (l.drop i).take (j - i)) (hq : q = j - i)
    (h : ∀ A c, q ≤ c → RdB NB w (.slice A q c) L → wpStill P ops w K rest (a.put dst (.slice A q c))) : wpStill P ops w K (⟨dst, .slice t x lo hi none, ty, pos, aft, none⟩ :: rest) a :=
  wpStill_cut hu hk hr hx i j hlo hhi hij hj (fun v' hr' => by
    obtain ⟨A, c, rfl, hc, hB⟩ := cut_form hr' hij hj L q hL hq
    exact h A c hc hB)
end
theorem run_add_sv {P : Program} {t : TypeId} (l1 l2 : List UInt8) (hl : l1.length + l2.length ≤ 9223372036854775807) (w : World) : (binOp .add t (sv l1) (sv l2)).run P w = .ok (sv (l1 ++ l2)) w := by
  have := run_string_add_sum (P := P) w (sb l1) (sb l2) (by rw [sb_size, sb_size]; exact hl)
  rw [sb_append] at this
  simp only [sv, binOp, this]
section
variable {P : Program} {w : World} {v : Value} {t e : TypeId}
variable {ops : Array Oper} {rest : List Oper} {a : Act} {dst : Option Tmp} {ty : TypeId} {pos : String} {aft : Array Edge} {NB : Nat → Prop}
theorem wpStill_conv_bs {K : Act → Prop} {x : Operand} {d : TypeId} (ht : P.underlying t = some (.slice e)) (he : P.underlying e = some (.int .u8)) (hd : P.underlying d = some .string) (l : List UInt8) (hx : a.eval x = v) (hv : RdB NB w v l)
    (h : wpStill P ops w K rest (a.put dst (sv l))) : wpStill P ops w K (⟨dst, .convert t d x, ty, pos, aft, none⟩ :: rest) a := by
  refine wpStill_run rfl ?_ h
  simp only [execOp, hx, Sem.run_bind, run_conv_bs ht he hd l hv, Result.andThen_ok, Sem.run_pure]
theorem wpStill_add_str {K : Act → Prop} {tx : TypeId} {x z : Operand} (l1 l2 : List UInt8) (hx : a.eval x = sv l1) (hz : a.eval z = sv l2) (hl : l1.length + l2.length ≤ 9223372036854775807)
    (h : wpStill P ops w K rest (a.put dst (sv (l1 ++ l2)))) : wpStill P ops w K (⟨dst, .binOp .add t x z tx, ty, pos, aft, none⟩ :: rest) a := by
  refine wpStill_run rfl ?_ h
  have := run_string_add_sum (P := P) w (sb l1) (sb l2) (by rw [sb_size, sb_size]; exact hl)
  rw [sb_append] at this
  simp only [execOp, hx, hz, sv, Sem.run_bind, eqGuard_at_string, Sem.run_pure, Result.andThen_ok, binOp, this]
end
theorem run_store_sv {P : Program} {w : World} {b o : Nat} {y : Value} (hc : w.cell? ⟨b, o, none⟩ = some y) (hf : w.frozen? ⟨b, o, none⟩ = false) (u : List UInt8) :
    (storeCells ⟨b, o, none⟩ [sv u]).run P w = .ok () (w.setCell ⟨b, o, none⟩ (sv u)) := by
  have h1 : ∀ j, j < [sv u].length → (w.cell? ⟨b, o + 0 + j, none⟩).isSome = true := by
    intro j hj
    obtain rfl : j = 0 := by simpa using hj
    simp [hc]
  have h2 : ∀ j, j < [sv u].length → w.frozen? ⟨b, o + 0 + j, none⟩ = false := by
    intro j hj
    obtain rfl : j = 0 := by simpa using hj
    simpa using hf
  have := run_storeCells_cells (P := P) b o [sv u] 0 w h1 h2 (fun v hv => by rw [List.mem_singleton.1 hv]; rfl)
  simpa [World.setCells] using this
theorem run_storeAt_sv {P : Program} {w : World} {t : TypeId} {b o : Nat} {y : Value} (hi : (P.info? t).map (·.size) = some 1) (hc : w.cell? ⟨b, o, none⟩ = some y) (hf : w.frozen? ⟨b, o, none⟩ = false) (u : List UInt8) :
    (Instr.storeAt t (.pointer (some ⟨b, o, none⟩)) (sv u)).run P w = .ok () (w.setCell ⟨b, o, none⟩ (sv u)) := by
  have h1 : (sv u).cells = #[sv u] := rfl
  simp only [Instr.storeAt, Instr.sureAddr, storeVar, Sem.run_bind, Sem.run_pure, Result.andThen_ok, run_sizeOf' hi, h1, List.size_toArray, List.length_cons, List.length_nil, Nat.zero_add, ne_eq, not_true_eq_false, if_false]
  exact run_store_sv hc hf u
section
variable {P : Program} {w : World} {ops : Array Oper} {rest : List Oper} {a : Act} {Q : Exit → Act → World → Prop} {dst : Option Tmp} {ty : TypeId} {pos : String} {aft : Array Edge} {F : Fence} {n : Nat}
theorem wpList_store_sv {x y : Operand} {t : TypeId} {z : Value} (b o : Nat) (u : List UInt8) (hi : (P.info? t).map (·.size) = some 1) (hc : w.cell? ⟨b, o, none⟩ = some z) (hf : w.frozen? ⟨b, o, none⟩ = false)
    (hx : a.eval x = .pointer (some ⟨b, o, none⟩)) (hy : a.eval y = sv u) (h : wpList P ops Q rest (a.put dst undef) (w.setCell ⟨b, o, none⟩ (sv u))) : wpList P ops Q (⟨dst, .store t x y, ty, pos, aft, none⟩ :: rest) a w := by
  refine wpList_plain rfl fun K hK => ?_
  unfold Oper.wp execOp
  simp only [hx, hy, Sem.run_bind, Sem.run_pure, Result.andThen_ok, run_storeAt_sv hi hc hf u]
  exact hK _ _ h
theorem wpListIn_store_sv {x y : Operand} {t : TypeId} {z : Value} (b o : Nat) (u : List UInt8) (hi : (P.info? t).map (·.size) = some 1) (hc : w.cell? ⟨b, o, none⟩ = some z) (hf : w.frozen? ⟨b, o, none⟩ = false)
    (hx : a.eval x = .pointer (some ⟨b, o, none⟩)) (hy : a.eval y = sv u) (h : wpListIn F n P ops Q rest (a.put dst undef) (w.setCell ⟨b, o, none⟩ (sv u))) : wpListIn F n P ops Q (⟨dst, .store t x y, ty, pos, aft, none⟩ :: rest) a w := by
  refine wpListIn_plain rfl fun K hK => ?_
  unfold Oper.wpIn
  refine ⟨by intro f hf; simp [Oper.about] at hf, ?_⟩
  rw [Oper.semAt_plain F _ _ (by intro c hc; cases hc)]
  unfold execOp
  simp only [hx, hy, Sem.run_bind, Sem.run_pure, Result.andThen_ok, run_storeAt_sv hi hc hf u]
  exact hK _ _ h
end
theorem sb_extract (l : List UInt8) (i j : Nat) : (sb l).extract i j = sb ((l.drop i).take (j - i)) := by
  apply ByteArray.ext
  simp [sb, ByteArray.data_extract]
theorem run_cut_sv {P : Program} {t : TypeId} (ht : P.underlying t = some .string) (l : List UInt8) (i j : Nat) (lo hi : Option Value) (hlo : lo = none ∧ i = 0 ∨ lo = some (.int .i64 (i : Int))) (hhi : hi = none ∧ j = l.length ∨ hi = some (.int .i64 (j : Int)))
    (hij : i ≤ j) (hj : j ≤ l.length) (w : World) : (Instr.sliceAt t (sv l) lo hi none).run P w = .ok (sv ((l.drop i).take (j - i))) w := by
  have h1 : 0 ≤ (i : Int) ∧ (i : Int) ≤ (j : Int) := by omega
  have h2 : 0 ≤ (j : Int) ∧ (j : Int) ≤ (l.length : Int) := by omega
  have e := sb_extract l i j
  have hs := sb_size l
  unfold Instr.sliceAt
  rcases hlo with ⟨rfl, rfl⟩ | rfl <;> rcases hhi with ⟨rfl, rfl⟩ | rfl <;>
    simp_all [Sem.run_bind, run_underlying ht w, Instr.slice, Instr.sliceBounds, Instr.sliceBound, asIntOf, sv]
theorem eql_sv (t : TypeId) (l k : List UInt8) : binOp .eql t (sv l) (sv k) = pure (.bool (l == k)) := by
  unfold sv; rw [binOp_string_eql, sb_toList, sb_toList]
theorem eqGuard_sv (op : BinOp) (t : TypeId) (x y : Operand) (l : List UInt8) (v : Value) : eqGuard op t x y (sv l) v = pure () := by
  unfold sv; exact eqGuard_at_string (op := op) (t := t) (x := x) (y := y) (v := v) _
end Sc
