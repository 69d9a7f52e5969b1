/- ProofWrong returns true for every input, and its arguments read as they did. Conditions: none. -/
import Derived.Test.YtajgklomcapboaaOpen
import Derived.Test.YtajgklomcapboaaChecks
import Derived.Test.YtajgklomcapboaaRefTree
import Derived.Deep.CutBlock
/- Arguments opened: two ints. -/
namespace Go.Proofs.Ytajgklomcapboaa
open Go.ChangeShapes Go.WideShapes Go.ChangeAt Go.RowKit Sc
section
variable {H : Type} {enc : TypeId × Value → H} {P : Program} {W : World} {spare : Nat → Bool} {held : Bool}
theorem open_ints2 {t ti : TypeId} (ht : P.underlying t = some (.array 2 ti)) (hi : P.underlying ti = some (.int .i64)) (ci : P.cellsOf ti = 1) (ct : P.cellsOf t = 2) {r : Reach} {b0 : Nat} {v : Value} {d : DataW H} {p : List MemPlace}
    (h0 : DataW.Trod enc P W 0 spare held t v d p) (hv : Value.okWide P W r b0 t v) : ∃ a n : Int, v = .agg #[.int .i64 a, .int .i64 n] := by
  unfold Value.okWide at hv
  rw [ht] at hv
  obtain ⟨cs, rfl, _, _⟩ := hv
  obtain ⟨fuel, hf⟩ := h0
  obtain ⟨xs, m, _, _, hl, hxl, hx⟩ := DataW.trod_array ht hf
  rw [ct] at hl
  have a0 := hx 0 (by omega)
  have a1 := hx 1 (by omega)
  rw [ci, List.getElem?_eq_getElem (by omega)] at a0 a1
  obtain ⟨a, ha, _, _⟩ := DataW.trod_int hi a0
  obtain ⟨n, hn, _, _⟩ := DataW.trod_int hi a1
  refine ⟨a, n, ?_⟩
  simp only [Value.cells] at hl ha hn
  have h2 : cs.toList = [.int .i64 a, .int .i64 n] := by
    rw [show cs.toList = cs.toList.take 1 ++ (cs.toList.drop 1).take 1 from by
      rw [List.take_of_length_le (l := cs.toList.drop 1) (by rw [List.length_drop]; omega), List.take_append_drop]]
    rw [show cs.toList.take 1 = [Value.int .i64 a] by simpa using ha, show (cs.toList.drop 1).take 1 = [Value.int .i64 n] by simpa using hn]
    rfl
  rw [← h2]
end
end Go.Proofs.Ytajgklomcapboaa
/- Ways in memory: what a store turns. -/
namespace Sc
open Go Go.RowKit
theorem wayCells_length (a n : Int) (x y : Sc.Id) (pv : Value) : (wayCells a n x y pv).length = 67 := by simp [wayCells, x.h, y.h]
theorem way_set0 (a n m : Int) (x y : Sc.Id) (pv : Value) : (wayCells a n x y pv).set 0 (.int .i64 m) = wayCells m n x y pv := rfl
theorem way_set1 (a n m : Int) (x y : Sc.Id) (pv : Value) : (wayCells a n x y pv).set 1 (.int .i64 m) = wayCells a m x y pv := rfl
theorem way_set66 (a n : Int) (x y : Sc.Id) (pv qv : Value) : (wayCells a n x y pv).set 66 qv = wayCells a n x y qv := by
  unfold wayCells
  rw [List.set_append_right _ _ (by simp [x.h, y.h])]
  simp [x.h, y.h]
def Id.set (x : Sc.Id) (i : Nat) (b : UInt8) : Sc.Id := ⟨x.l.set i b, by rw [List.length_set]; exact x.h⟩
theorem way_set2 (a n : Int) (x y : Sc.Id) (pv : Value) (z : UInt8) : (wayCells a n x y pv).set 2 (bv z) = wayCells a n (x.set 0 z) y pv := by
  unfold wayCells Id.set
  rw [List.append_assoc, List.append_assoc, List.append_assoc, List.append_assoc]
  show Value.int .i64 a :: Value.int .i64 n :: ((x.l.map bv ++ (y.l.map bv ++ [pv])).set 0 (bv z)) = _
  rw [List.set_append_left _ _ (by simp [x.h]), ← List.map_set]
  rfl
theorem way_get2 (a n : Int) (x y : Sc.Id) (pv : Value) : (wayCells a n x y pv)[2]? = some (bv (x.l.getD 0 0)) := by
  unfold wayCells
  rw [List.append_assoc, List.append_assoc]
  show (x.l.map bv ++ (y.l.map bv ++ [pv]))[0]? = _
  rw [List.getElem?_append_left (by simp [x.h]), List.getElem?_map, List.getD_eq_getElem?_getD, List.getElem?_eq_getElem (by rw [x.h]; decide)]
  rfl
theorem xor8 (z : UInt8) : bits .xor .u8 (z.toNat : Int) 1 = ((z ^^^ 1).toNat : Int) := by
  have key : ∀ k : Fin 256, bits .xor .u8 (k.val : Int) 1 = (((UInt8.ofNat k.val) ^^^ 1).toNat : Int) := by decide +kernel
  have := key ⟨z.toNat, z.toNat_lt⟩
  simpa using this
theorem idCells_set (xs : List Sc.Id) (i k : Nat) (hi : i < xs.length) (hk : k < 32) (z : UInt8) : ∃ ys, (idCells xs).set (i * 32 + k) (bv z) = idCells ys ∧ ys.length = xs.length := by
  induction xs generalizing i with
  | nil => cases hi
  | cons x xs ih =>
    have e : idCells (x :: xs) = x.l.map bv ++ idCells xs := rfl
    cases i with
    | zero =>
      refine ⟨x.set k z :: xs, ?_, rfl⟩
      rw [e, List.set_append_left _ _ (by simp [x.h]; omega), Nat.zero_mul, Nat.zero_add, ← List.map_set]
      rfl
    | succ i =>
      obtain ⟨ys, h1, h2⟩ := ih i (by simpa using hi)
      refine ⟨x :: ys, ?_, by simp [h2]⟩
      rw [e, List.set_append_right _ _ (by simp [x.h]; omega)]
      rw [show (i + 1) * 32 + k - (x.l.map bv).length = i * 32 + k by simp [x.h]; omega, h1]
      rfl
section
variable {P : Program} {B k n m by_ c : Nat} {A : Option Addr} {w : World} {x : Value} {cs news : List Value} {t tx ty e : TypeId}
theorem run_append_grow_ty (ht : P.underlying t = some (.slice e)) (hi : InfoOk P e k by_) (ho : Ow B w k (.slice A n c) n cs) (hs : Src P k tx x m news w) (hB : B ≤ w.heap.size) (h63 : n + m ≤ maxLen) (hby : (n + m) * by_ ≤ 140737488355328) (hc : c < n + m) :
    ∃ c' w', (Builtin.append_ #[t, tx] ty #[.slice A n c, x]).run P w = .ok (.slice (some ⟨w.heap.size, 0, none⟩) (n + m) c') w' ∧ Ow B w' k (.slice (some ⟨w.heap.size, 0, none⟩) (n + m) c') (n + m) (cs ++ news) ∧ w.grownBy w' none ∧ ∃ l, Bk w' w.heap.size e l := by
  unfold InfoOk at hi
  cases hq : P.info? e with
  | none => rw [hq] at hi; cases hi
  | some i =>
    rw [hq] at hi
    simp only [Option.map_some, Option.some.injEq, Prod.mk.injEq] at hi
    obtain ⟨hz, hk, hb⟩ := hi
    cases hz' : i.zero with
    | none => rw [hz'] at hz; cases hz
    | some z =>
      rw [hz'] at hz
      simp only [Option.map_some, Option.some.injEq] at hz
      subst hk; subst hb
      have hlen : (cs ++ news).length = (n + m) * i.size := by rw [List.length_append, ho.1, hs.newsLen, Nat.add_mul]
      have h63' : ((n + m : Nat) : Int) ≤ 9223372036854775807 := by simp only [maxLen] at h63; omega
      have hold : (Builtin.firstCells i.size n (.slice A n c)).run P w.drew = .ok cs.toArray w.drew := by
        obtain ⟨h1, A', c', he, h2, h3, h4, h5⟩ := ho
        injection he with e1 _ e2
        subst e1 e2
        cases A with
        | none =>
          have hc0 : c = 0 := h4 rfl
          subst hc0
          have hn0 : n = 0 := by omega
          subst hn0
          have hcs : cs = [] := List.eq_nil_of_length_eq_zero (by simpa using h1)
          subst hcs
          exact run_firstCells_none w.drew i.size 0 0 0
        | some ad =>
          obtain ⟨b, o, rfl, hBb, hlt, hcc, hr⟩ := h5 ad rfl
          exact run_firstCells_some w.drew i.size n ⟨b, o, none⟩ n c cs h1 (fun j u hu => by rw [Addr.add_mid]; exact hr j u hu)
      have hr := run_append_grow_src (P := P) w t tx ty e i z ht hq hz' A n c cs hold x m news hs hc h63' (growslice_fits hc hby)
      have hbk := Bk.new w.drew e ((cs ++ news) ++ (Builtin.zeroCells z.cells (grownCap w (n + m) c e - (n + m))).toList)
      have ea : ((cs ++ news) ++ (Builtin.zeroCells z.cells (grownCap w (n + m) c e - (n + m))).toList).toArray = (cs ++ news).toArray ++ Builtin.zeroCells z.cells (grownCap w (n + m) c e - (n + m)) := by
        apply Array.ext'; simp
      rw [ea] at hbk
      refine ⟨_, _, hr, ⟨hlen, _, _, rfl, grownCap_ge w (n + m) c e, grownCap_le_maxLen w (n + m) c e h63, (fun h => by cases h), fun ad had => ?_⟩, gb_alloc (gb_drew (gb_refl w _)) _, ⟨(cs ++ news) ++ (Builtin.zeroCells z.cells (grownCap w (n + m) c e - (n + m))).toList, by have h := hbk; rw [← ea] at h; first | exact h | (rw [← ea]; exact h)⟩⟩
      cases had
      have hge := grownCap_ge w (n + m) c e
      refine ⟨w.heap.size, 0, rfl, hB, by rw [World.size_alloc]; exact Nat.lt_succ_self _, fun j hj => ⟨?_, hbk.frozen _⟩, fun j u hu => ?_⟩
      · rw [Nat.zero_add]
        have hlt : j < ((cs ++ news) ++ (Builtin.zeroCells z.cells (grownCap w (n + m) c e - (n + m))).toList).length := by
          rw [List.length_append, hlen, Array.length_toList, size_zeroCells, hz, ← Nat.add_mul]
          rwa [show n + m + (grownCap w (n + m) c e - (n + m)) = grownCap w (n + m) c e by omega]
        have := hbk.cellAt (List.getElem?_eq_getElem hlt)
        exact Option.isSome_iff_exists.2 ⟨_, this⟩
      · rw [Nat.zero_add]
        refine hbk.cellAt ?_
        rw [List.getElem?_append_left (List.getElem?_eq_some_iff.1 hu).1]; exact hu
theorem run_append_no_ty (ht : P.underlying t = some (.slice e)) (hi : InfoOk P e k by_) (b o : Nat) (ho : Ow B w k (.slice (some ⟨b, o, none⟩) n c) n cs) (hs : Src P k tx x 0 [] w) :
    (Builtin.append_ #[t, tx] ty #[.slice (some ⟨b, o, none⟩) n c, x]).run P w = .ok (.slice (some ⟨b, o, none⟩) n c) w := by
  unfold InfoOk at hi
  cases hq : P.info? e with
  | none => rw [hq] at hi; cases hi
  | some i =>
    rw [hq] at hi
    simp only [Option.map_some, Option.some.injEq, Prod.mk.injEq] at hi
    obtain ⟨hz, hk, hb⟩ := hi
    subst hk
    obtain ⟨h1, A', c', he, h2, h3, h4, h5⟩ := ho
    injection he with e1 _ e2
    subst e1 e2
    have := run_append_room_src (P := P) w t tx ty e i ht hq b o n c x 0 [] hs h2 (fun j hj => by simp at hj) (fun j hj => by simp at hj)
    exact this
variable {ops : Array Oper} {rest : List Oper} {a : Act} {Q : Exit → Act → World → Prop} {dst : Option Tmp} {pos : String} {aft : Array Edge}
theorem wpList_append_grow_ty {s x' : Operand} (hss : a.eval s = .slice A n c) (hx : a.eval x' = x) (ht : P.underlying t = some (.slice e)) (hi : InfoOk P e k by_) (ho : Ow B w k (.slice A n c) n cs) (hsrc : Src P k tx x m news w)
    (hB : B ≤ w.heap.size) (h63 : n + m ≤ maxLen) (hby : (n + m) * by_ ≤ 140737488355328) (hc : c < n + m)
    (h : ∀ c' w', Ow B w' k (.slice (some ⟨w.heap.size, 0, none⟩) (n + m) c') (n + m) (cs ++ news) → w.grownBy w' none → (∃ l, Bk w' w.heap.size e l) → wpList P ops Q rest (a.put dst (.slice (some ⟨w.heap.size, 0, none⟩) (n + m) c')) w') :
    wpList P ops Q (⟨dst, .call { callee := .builtin .append, args := #[s, x'], argTypes := #[t, tx] }, ty, pos, aft, none⟩ :: rest) a w := by
  obtain ⟨c', w', hr, h1, h2, h3⟩ := run_append_grow_ty (P := P) (ty := ty) ht hi ho hsrc hB h63 hby hc
  refine wpList_run rfl ?_ (h c' w' h1 h2 h3)
  simp only [execOp, resolve, invoke, builtin, Sem.run_bind, Sem.run_pure, Result.andThen_ok, List.map_toArray, List.map_cons, List.map_nil, hss, hx, hr]
theorem wpList_append_no_ty {s x' : Operand} (b o : Nat) (hss : a.eval s = .slice (some ⟨b, o, none⟩) n c) (hx : a.eval x' = x) (ht : P.underlying t = some (.slice e)) (hi : InfoOk P e k by_) (ho : Ow B w k (.slice (some ⟨b, o, none⟩) n c) n cs) (hsrc : Src P k tx x 0 [] w)
    (h : wpList P ops Q rest (a.put dst (.slice (some ⟨b, o, none⟩) n c)) w) :
    wpList P ops Q (⟨dst, .call { callee := .builtin .append, args := #[s, x'], argTypes := #[t, tx] }, ty, pos, aft, none⟩ :: rest) a w := by
  refine wpList_run rfl ?_ h
  simp only [execOp, resolve, invoke, builtin, Sem.run_bind, Sem.run_pure, Result.andThen_ok, List.map_toArray, List.map_cons, List.map_nil, hss, hx, run_append_no_ty ht hi b o ho hsrc]
end
end Sc
namespace Go.Proofs.Ytajgklomcapboaa
open Go.RowKit Go.Shelf Sc
theorem inc_out (A : Option Addr) (n c : Nat) (a : Int) (w : World) (h : a < 0 ∨ (n : Int) ≤ a) :
    Calls Try.prog 33 #[.slice A n c, .int .i64 a] w fun e w' => e = .returned (.tuple #[.slice none 0 0, .int .i64 1]) ∧ w' = w := by
  go_enter Try.func33, Try.ntmps33
  rcases (by omega : a < 0 ∨ (0 ≤ a ∧ (n : Int) ≤ a)) with h | h
  · have hd1 : decide (a < 0) = true := decide_eq_true h
    go_wp2_with fail
    go_ret2
    exact ⟨rfl, rfl⟩
  · have hd1 : decide (a < 0) = false := decide_eq_false (by omega)
    have hd2 : decide ((n : Int) ≤ a) = true := decide_eq_true h.2
    go_wp2_with fail
    go_ret2
    exact ⟨rfl, rfl⟩
set_option maxHeartbeats 4000000 in
theorem build_way' (a n : Int) (A : Option Addr) (k c : Nat) (x0 x1 x2 x3 x4 x5 x6 x7 x8 x9 x10 x11 x12 x13 x14 x15 x16 x17 x18 x19 x20 x21 x22 x23 x24 x25 x26 x27 x28 x29 x30 x31 y0 y1 y2 y3 y4 y5 y6 y7 y8 y9 y10 y11 y12 y13 y14 y15 y16 y17 y18 y19 y20 y21 y22 y23 y24 y25 y26 y27 y28 y29 y30 y31 : UInt8) (w : World) :
    (Instr.build 69 #[(0, .int .i64 a), (1, .int .i64 n), (2, .agg ([x0, x1, x2, x3, x4, x5, x6, x7, x8, x9, x10, x11, x12, x13, x14, x15, x16, x17, x18, x19, x20, x21, x22, x23, x24, x25, x26, x27, x28, x29, x30, x31].map bv).toArray), (3, .agg ([y0, y1, y2, y3, y4, y5, y6, y7, y8, y9, y10, y11, y12, y13, y14, y15, y16, y17, y18, y19, y20, y21, y22, y23, y24, y25, y26, y27, y28, y29, y30, y31].map bv).toArray), (4, .slice A k c)]).run Try.prog w
      = .ok (.agg ([Value.int .i64 a, Value.int .i64 n] ++ [x0, x1, x2, x3, x4, x5, x6, x7, x8, x9, x10, x11, x12, x13, x14, x15, x16, x17, x18, x19, x20, x21, x22, x23, x24, x25, x26, x27, x28, x29, x30, x31].map bv ++ [y0, y1, y2, y3, y4, y5, y6, y7, y8, y9, y10, y11, y12, y13, y14, y15, y16, y17, y18, y19, y20, y21, y22, y23, y24, y25, y26, y27, y28, y29, y30, y31].map bv ++ [Value.slice A k c]).toArray) w :=
  run_build w _ _ _ (by kernel_rfl)
theorem build_way (a n : Int) (x y : Sc.Id) (A : Option Addr) (k c : Nat) (w : World) :
    (Instr.build 69 #[(0, .int .i64 a), (1, .int .i64 n), (2, idv x), (3, idv y), (4, .slice A k c)]).run Try.prog w = .ok (.agg (wayCells a n x y (.slice A k c)).toArray) w := by
  obtain ⟨b0, b1, b2, b3, b4, b5, b6, b7, b8, b9, b10, b11, b12, b13, b14, b15, b16, b17, b18, b19, b20, b21, b22, b23, b24, b25, b26, b27, b28, b29, b30, b31, hl⟩ := list32 x.l x.h
  obtain ⟨c0, c1, c2, c3, c4, c5, c6, c7, c8, c9, c10, c11, c12, c13, c14, c15, c16, c17, c18, c19, c20, c21, c22, c23, c24, c25, c26, c27, c28, c29, c30, c31, hm⟩ := list32 y.l y.h
  unfold idv wayCells
  rw [hl, hm]
  apply build_way'
end Go.Proofs.Ytajgklomcapboaa
/- ProofWrong: the walk. -/
namespace Go.Proofs.Ytajgklomcapboaa
open Go.RowKit Go.Shelf Sc
theorem refRoot_ri {v : Value} (l : List Sc.Id) (w : World) (hv : RI w v l) (hsz : l.length ≤ 1099511627776) :
    Calls Try.prog 36 #[v] w fun e w' => e = .returned (idv (root nd e0 l)) ∧ w.grownBy w' none := refRoot_any v l _ w hv (fun _ h => h) hsz
theorem way_size (a n : Int) (x y : Sc.Id) (pv : Value) : (Try.prog.info? 69).map (·.size) = some (wayCells a n x y pv).length := by rw [wayCells_length]; kernel_rfl
def wayZ : List Value := wayCells 0 0 ⟨List.replicate 32 0, rfl⟩ ⟨List.replicate 32 0, rfl⟩ (.slice none 0 0)
theorem infoWay : ((Try.prog.info? 69).map fun i => (i.zero, i.size)) = some (some (.agg wayZ.toArray), wayZ.length) := by kernel_rfl
theorem way_one (a n : Int) (x y : Sc.Id) (A : Option Addr) (k c : Nat) : ∀ v ∈ wayCells a n x y (.slice A k c), v.oneCell' = true := by
  intro v hv
  unfold wayCells at hv
  simp only [List.mem_append, List.mem_cons, List.not_mem_nil, or_false] at hv
  rcases hv with ((h | h) | h) | h
  · rcases h with rfl | rfl <;> rfl
  · exact idOne x v h
  · exact idOne y v h
  · subst h; rfl
def id9 : Sc.Id := ⟨9 :: List.replicate 31 0, rfl⟩
theorem rp_of {B n c : Nat} {A : Option Addr} {W : World} {Y : List Sc.Id} (h : Ow B W 32 (.slice A n c) n (idCells Y)) (hn : n = Y.length) : RdI (fun b => b < W.heap.size) W (.slice A n c) Y := by
  have h1 : Rd (fun b => b < W.heap.size) W 32 (.slice A n c) n (idCells Y) := Ow.rd h (fun b hb => (h.lt hb).2)
  unfold RdI; rw [← hn]; exact h1
def pwφ (bL oL q c p nP cP B : Nat) (AP : Option Addr) (x R : Sc.Id) (Y : List Sc.Id) (i : Nat) (v : Value) (w : World) : Prop := match i with
  | 0 => v = .int .i64 (p : Int)
  | 1 => v = .slice (some ⟨bL, oL, none⟩) q c
  | 2 => v = .int .i64 (q : Int)
  | 3 => v = .slice (some ⟨bL, oL, none⟩) q c
  | 4 => v = .int .i64 (p : Int)
  | 5 => v = .pointer (some ⟨bL, oL + p * 32, none⟩)
  | 6 => v = idv x
  | 7 => v = .slice (some ⟨bL, oL, none⟩) q c
  | 8 => v = idv R
  | 9 => ∃ b, v = .slice (some ⟨b, 0, none⟩) 0 0 ∧ Ow B w 32 v 0 [] ∧ Bk w b 34 []
  | 10 => v = .slice AP nP cP
  | 11 => Ow B w 32 v nP (idCells Y) ∧ (∃ b l, v.ownBlock = some b ∧ Bk w b 34 l)
  | 12 => ∃ A3 c3, v = .agg (wayCells p q x R (.slice A3 nP c3)).toArray ∧ Ow B w 32 (.slice A3 nP c3) nP (idCells Y) ∧ (∃ b l, (Value.slice A3 nP c3).ownBlock = some b ∧ Bk w b 34 l)
  | 13 => ∃ b, v = .pointer (some ⟨b, 0, none⟩) ∧ Bk w b 69 wayZ ∧ B ≤ b
  | _ => True
theorem pwφ_gr (bL oL q c p nP cP B : Nat) (AP : Option Addr) (x R : Sc.Id) (Y : List Sc.Id) : ∀ i v w w', pwφ bL oL q c p nP cP B AP x R Y i v w → Gr w w' → pwφ bL oL q c p nP cP B AP x R Y i v w' := by
  intro i v w w' h hg
  match i with
  | 0 => exact h
  | 1 => exact h
  | 2 => exact h
  | 3 => exact h
  | 4 => exact h
  | 5 => exact h
  | 6 => exact h
  | 7 => exact h
  | 8 => exact h
  | 9 => exact (by obtain ⟨b, e, ho, hb⟩ := h; exact ⟨b, e, ho.grown hg (fun _ _ => by simp), hb.grown hg (by simp)⟩)
  | 10 => exact h
  | 11 => exact (by obtain ⟨ho, b, l, e, hb⟩ := h; exact ⟨ho.grown hg (fun _ _ => by simp), b, l, e, hb.grown hg (by simp)⟩)
  | 12 => exact (by obtain ⟨A3, c3, e, ho, b, l, eb, hb⟩ := h; exact ⟨A3, c3, e, ho.grown hg (fun _ _ => by simp), b, l, eb, hb.grown hg (by simp)⟩)
  | 13 => exact (by obtain ⟨b, e, hb, hB⟩ := h; exact ⟨b, e, hb.grown hg (by simp), hB⟩)
  | i + 14 => exact h
def pyφ (bW bP oP nP c3 m : Nat) (z z2 : UInt8) (i : Nat) (v : Value) (_w : World) : Prop := match i with
  | 0 => v = .pointer (some ⟨bW, 66, none⟩)
  | 1 => v = .slice (some ⟨bP, oP, none⟩) nP c3
  | 2 => v = .int .i64 (m : Int)
  | 3 => v = .pointer (some ⟨bP, oP + m * 32, none⟩)
  | 4 => v = .pointer (some ⟨bP, oP + m * 32 + 5, none⟩)
  | 5 => v = .int .u8 (z.toNat : Int)
  | 6 => v = .int .u8 (z2.toNat : Int)
  | 7 => v = .pointer (some ⟨bP, oP + m * 32, none⟩)
  | 8 => v = .pointer (some ⟨bP, oP + m * 32 + 5, none⟩)
  | _ => True
theorem pyφ_gr (bW bP oP nP c3 m : Nat) (z z2 : UInt8) : ∀ i v w w', pyφ bW bP oP nP c3 m z z2 i v w → Gr w w' → pyφ bW bP oP nP c3 m z z2 i v w' := by
  intro i v w w' h hg
  match i with
  | 0 => exact h
  | 1 => exact h
  | 2 => exact h
  | 3 => exact h
  | 4 => exact h
  | 5 => exact h
  | 6 => exact h
  | 7 => exact h
  | 8 => exact h
  | i + 9 => exact h

set_option maxHeartbeats 4000000 in
set_option maxRecDepth 100000 in
theorem wrong_walk (v : Value) (l0 : List Sc.Id) (a k0 n0 : Int) (NB : Nat → Prop) (w : World) (hv : RdI NB w v l0) (hNB : ∀ b, NB b → b < w.heap.size) :
    Calls Try.prog 12 #[v, .int .i64 a, .agg #[.int .i64 k0, .int .i64 n0]] w fun e w' => e = .returned (.bool true) ∧ w.grownBy w' none := by
  go_enter Try.func12, Try.ntmps12
  obtain ⟨A, c, rfl, hc⟩ := Rd.form hv
  have hm := Rd.le hv
  obtain ⟨q, hq⟩ : ∃ q, min l0.length 30 = q := ⟨_, rfl⟩
  obtain ⟨W, hW⟩ : ∃ W, W = w.alloc (.cells #[.int .i64 k0, .int .i64 n0] 73) := ⟨_, rfl⟩
  have bk0 : Bk W w.heap.size 73 [.int .i64 k0, .int .i64 n0] := by rw [hW]; exact Bk.new w _ [.int .i64 k0, .int .i64 n0]
  have g0 : w.grownBy W none := by rw [hW]; exact gb_alloc (gb_refl w none) _
  have HW := Go.Lib.hid hW
  have HV := Go.Lib.hid (RI.gr (RI.of (RdI.takeTo hv 30 q hq) hNB) g0)
  obtain ⟨b0, hb0⟩ : ∃ b0, b0 = w.heap.size := ⟨_, rfl⟩
  rw [← hb0] at bk0
  have HB0 := Go.Lib.hid hb0
  clear hW hb0
  have hq30 : q ≤ 30 := by omega
  have hlq : (l0.take 30).length = q := by rw [List.length_take, Nat.min_comm]; exact hq
  obtain ⟨l, hle⟩ : ∃ l, l = l0.take 30 := ⟨_, rfl⟩
  rw [← hle] at HV hlq
  clear hv hle
  have HL := Go.Lib.hid hlq
  clear hlq
  have hqc : q ≤ c := by omega
  have hqI : (0 : Int) ≤ (q : Int) ∧ (q : Int) ≤ (c : Int) := by omega
  rcases (by omega : (a < 0 ∨ (q : Int) ≤ a) ∨ (0 ≤ a ∧ a < (q : Int))) with ha | ha
  · have HA := Go.Lib.hid ha
    clear ha
    go_wp2_with (first
      | (go_at_call 32; (rw [← HW.out]; (with_reducible refine (proves_any _).mono ?_); rintro e w1 ⟨rfl, g1⟩))
      | ((with_reducible refine wpList_min (x := .tmp 15) l0.length 30 q hq (by kernel_rfl) (by kernel_rfl) ?_))
      | (go_at_call 33; ((with_reducible refine (inc_out A q c a _ HA.out).mono ?_); rintro e w1 ⟨rfl, rfl⟩)))
    go_ret
    exact ⟨rfl, gb_trans g0 g1⟩
  · obtain ⟨p, rfl⟩ : ∃ p : Nat, a = (p : Int) := ⟨a.toNat, by omega⟩
    have hpq : p < q := by omega
    obtain ⟨x, hx⟩ : ∃ x, l[p]? = some x := ⟨_, List.getElem?_eq_getElem (by rw [HL.out]; exact hpq)⟩
    obtain ⟨Y, hY⟩ : ∃ Y, Y = way nd e0 l p := ⟨_, rfl⟩
    obtain ⟨R, hR⟩ : ∃ R, R = root nd e0 l := ⟨_, rfl⟩
    have hl40 : l.length ≤ 1099511627776 := by rw [HL.out]; omega
    have hY40 : Y.length ≤ 40 := by rw [hY]; exact way_len40 hl40
    have hv0 : RdI (fun b => b < W.heap.size) W (.slice A q c) l := HV.out
    obtain ⟨bL, oL, cL, hvL, hbL, -, -, hrL⟩ := (show Rd (fun b => b < W.heap.size) W 32 (.slice A q c) q (idCells l) from by have h := hv0; unfold RdI at h; rw [HL.out] at h; exact h).at (by omega)
    injection hvL with hA _ hcL
    subst hA hcL
    have rx0 := range_id hrL hx
    obtain ⟨nP, hnP⟩ : ∃ nP, nP = Y.length := ⟨_, rfl⟩
    have HY := Go.Lib.hid hY
    have HR := Go.Lib.hid hR
    have HNP := Go.Lib.hid hnP
    have HL40 := Go.Lib.hid hl40
    have HAL : Hid (p < l.length) := Go.Lib.hid (by rw [HL.out]; exact hpq)
    have hnP40 : nP ≤ 40 := by omega
    have HP40 := Go.Lib.hid hnP40
    have hpI : (0 : Int) ≤ (p : Int) ∧ (p : Int) < (q : Int) := by omega
    clear hY hR hnP hx hrL
    go_upto_region 7 with (first
      | (go_at_call 32; (rw [← HW.out]; (with_reducible refine (proves_any _).mono ?_); rintro e w1 ⟨rfl, g1⟩)
         have hv1 : RdI (fun b => b < w1.heap.size) w1 (.slice (some ⟨bL, oL, none⟩) q c) l := RI.gr HV.out g1
         have hN1 := lt_self w1)
      | ((with_reducible refine wpList_min (x := .tmp 15) l0.length 30 q hq (by kernel_rfl) (by kernel_rfl) ?_))
      | (go_at_call 33; ((with_reducible refine (inc_any _ l p _ _ hv1 hN1 HAL.out HL40.out).mono ?_); rintro e w2 ⟨vP, rfl, hoP, g2⟩)
         rw [← HY.out, ← HNP.out] at hoP
         obtain ⟨AP, cP, rfl⟩ := hoP.form))
    have HPW : Hid (RI w2 (.slice AP nP cP) Y) := Go.Lib.hid (by
      have h : Rd (fun b => b < w2.heap.size) w2 32 (.slice AP nP cP) nP (idCells Y) := Ow.rd hoP (fun b hb => (hoP.lt hb).2)
      unfold RI RdI; rw [← HNP.out]; exact h)
    have HLW : Hid (RI w2 (.slice (some ⟨bL, oL, none⟩) q c) l) := Go.Lib.hid (RI.gr (RI.gr HV.out g1) g2)
    have rx := rangeAt_grown (rangeAt_grown rx0 g1 (by simp)) g2 (by simp)
    have gW := gb_trans g0 (gb_trans g1 g2)
    obtain ⟨B, hB⟩ : ∃ B, B = w2.heap.size := ⟨_, rfl⟩
    have HB := Go.Lib.hid hB
    have bk2 := (bk0.grown g1 (by simp)).grown g2 (by simp)
    rw [← HB0.out]
    clear hoP hv0 hv1 rx0 hN1 hB bk0 g1 g2 g0
    refine wp_region_specs 14 [26, 27, 28, 29, 30, 31, 32, 33, 34, 35, 36, 37, 38, 9] (by kernel_rfl) (by kernel_rfl) (pwφ bL oL q c p nP cP B AP x R Y) (pwφ_gr bL oL q c p nP cP B AP x R Y) ?step ?fin
    case step =>
      intro i_ o_ ho hi_ u w' hg hd
      rcases (by omega : i_ = 0 ∨ i_ = 1 ∨ i_ = 2 ∨ i_ = 3 ∨ i_ = 4 ∨ i_ = 5 ∨ i_ = 6 ∨ i_ = 7 ∨ i_ = 8 ∨ i_ = 9 ∨ i_ = 10 ∨ i_ = 11 ∨ i_ = 12 ∨ i_ = 13) with rfl | rfl | rfl | rfl | rfl | rfl | rfl | rfl | rfl | rfl | rfl | rfl | rfl | rfl <;> obtain rfl := Option.some.inj ho <;>
        simp (decide := true) only [fillAct, List.mapIdx_cons, List.mapIdx_nil, Nat.reduceAdd, if_true, if_false, List.getD_cons_zero, List.getD_cons_succ]
      · clear hd ho
        go_wp2_with fail
        exact ⟨rfl, gb_refl _ _, rfl⟩
      · clear hd ho
        go_wp2_with fail
        exact ⟨rfl, gb_refl _ _, rfl⟩
      · have h1 : u 27 = .slice (some ⟨bL, oL, none⟩) q c := hd 1 (by kernel_rfl)
        clear hd ho
        rw [h1]
        go_wp2_with fail
        exact ⟨rfl, gb_refl _ _, rfl⟩
      · clear hd ho
        go_wp2_with fail
        exact ⟨rfl, gb_refl _ _, rfl⟩
      · clear hd ho
        go_wp2_with fail
        exact ⟨rfl, gb_refl _ _, rfl⟩
      · have h3 : u 29 = .slice (some ⟨bL, oL, none⟩) q c := hd 3 (by kernel_rfl)
        have h4 : u 30 = .int .i64 (p : Int) := hd 4 (by kernel_rfl)
        clear hd ho
        rw [h3, h4]
        go_wp2_with fail
        exact ⟨rfl, gb_refl _ _, rfl⟩
      · have h5 : u 31 = .pointer (some ⟨bL, oL + p * 32, none⟩) := hd 5 (by kernel_rfl)
        clear hd ho
        rw [h5]
        have r1 := rangeAt_grown rx hg (by simp)
        go_wp2_with ((with_reducible refine wpList_load_range (t := 34) bL (oL + p * 32) (x.l.map bv) _ r1 (by kernel_rfl) Try.underlying34 rfl (idSize _) ?_))
        exact ⟨rfl, gb_refl _ _, rfl⟩
      · clear hd ho
        go_wp2_with fail
        exact ⟨rfl, gb_refl _ _, rfl⟩
      · have h7 : u 33 = .slice (some ⟨bL, oL, none⟩) q c := hd 7 (by kernel_rfl)
        clear hd ho
        rw [h7]
        have hl1 := RI.gr HLW.out hg
        go_wp2_with (go_at_call 36; ((with_reducible refine (refRoot_ri l _ hl1 HL40.out).mono ?_); rintro e w3 ⟨rfl, g3⟩; rw [← HR.out]))
        exact ⟨rfl, g3, rfl⟩
      · clear hd ho
        go_wp2_with fail
        exact ⟨rfl, gb_alloc (gb_refl _ _) _, _, rfl, Ow.new _ _ _ _ _ [] rfl (by decide) (by rw [HB.out]; exact hg.size), Bk.new _ _ _⟩
      · clear hd ho
        go_wp2_with fail
        exact ⟨rfl, gb_refl _ _, rfl⟩
      · have h9 : ∃ b, (u 35) = .slice (some ⟨b, 0, none⟩) 0 0 ∧ Ow B w' 32 (u 35) 0 [] ∧ Bk w' b 34 [] := hd 9 (by kernel_rfl)
        have h10 : u 36 = .slice AP nP cP := hd 10 (by kernel_rfl)
        clear hd ho
        rw [h10]
        obtain ⟨b9, e9, ho9, hk9⟩ := h9
        rw [e9] at ho9
        rw [e9]
        have hsrc : Src Try.prog 32 41 (.slice AP nP cP) nP (idCells Y) w' := src_rd Try.underlying41 (show Rd (fun b => b < w'.heap.size) w' 32 (.slice AP nP cP) nP (idCells Y) from by have h := RI.gr HPW.out hg; unfold RI RdI at h; rw [← HNP.out] at h; exact h) (idCells_oneCell Y)
        have hBw : B ≤ w'.heap.size := by rw [HB.out]; exact hg.size
        rcases Nat.eq_zero_or_pos nP with hz | hz
        · subst hz
          have hY0 : idCells Y = [] := List.eq_nil_of_length_eq_zero (by rw [idCells_length, ← HNP.out])
          rw [hY0] at hsrc
          refine wpList_append_no_ty (s := .tmp 35) (x' := .tmp 36) b9 0 (by kernel_rfl) (by kernel_rfl) Try.underlying41 okId ho9 hsrc ?_
          go_wp2_with fail
          exact ⟨rfl, gb_refl _ _, show Ow B w' 32 _ 0 (idCells Y) from by rw [hY0]; exact ho9, b9, [], rfl, hk9⟩
        · have h63 : 0 + nP ≤ maxLen := by rw [Nat.zero_add]; exact Nat.le_trans HP40.out (by decide)
          have hby : (0 + nP) * 32 ≤ 140737488355328 := by have := HP40.out; omega
          have hone : 0 < 0 + nP := by omega
          refine wpList_append_grow_ty (s := .tmp 35) (x' := .tmp 36) (A := some ⟨b9, 0, none⟩) (by kernel_rfl) (by kernel_rfl) Try.underlying41 okId ho9 hsrc hBw h63 hby hone ?_
          intro c4 w4 ho4 hg4 hk4
          obtain ⟨l4, hk4⟩ := hk4
          rw [List.nil_append, Nat.zero_add] at ho4
          rw [Nat.zero_add]
          go_wp2_with fail
          exact ⟨rfl, hg4, ho4, _, l4, rfl, hk4⟩
      · have h0 : u 26 = .int .i64 (p : Int) := hd 0 (by kernel_rfl)
        have h2 : u 28 = .int .i64 (q : Int) := hd 2 (by kernel_rfl)
        have h6 : u 32 = idv x := hd 6 (by kernel_rfl)
        have h8 : u 34 = idv R := hd 8 (by kernel_rfl)
        have h11 : Ow B w' 32 (u 37) nP (idCells Y) ∧ (∃ b l, (u 37).ownBlock = some b ∧ Bk w' b 34 l) := hd 11 (by kernel_rfl)
        clear hd ho
        rw [h0, h2, h6, h8]
        obtain ⟨h11, k11⟩ := h11
        obtain ⟨A3, c3, e3⟩ := h11.form
        rw [e3] at h11 k11
        rw [e3]
        refine wpList_build_row (wayCells p q x R (.slice A3 nP c3)) (fun w => by simp only [List.map_toArray, List.map_cons, List.map_nil]; exact build_way p q x R A3 nP c3 w) ?_
        go_wp2_with fail
        exact ⟨rfl, gb_refl _ _, A3, c3, rfl, h11, k11⟩
      · clear hd ho
        go_wp2_with ((with_reducible refine wpList_alloc_row (E := 69) wayZ infoWay ?_))
        exact ⟨rfl, gb_alloc (gb_refl _ _) _, _, rfl, Bk.new _ _ _, by rw [HB.out]; exact hg.size⟩
    case fin =>
      intro u w5 hg hφ
      obtain ⟨A3, c3, h38, ho3, bA, lA, ebA, hbA⟩ : ∃ A3 c3, u 38 = .agg (wayCells p q x R (.slice A3 nP c3)).toArray ∧ Ow B w5 32 (.slice A3 nP c3) nP (idCells Y) ∧ (∃ b l, (Value.slice A3 nP c3).ownBlock = some b ∧ Bk w5 b 34 l) := hφ 12 (by omega)
      obtain ⟨bW, h9, bx5, hBs⟩ : ∃ b, u 9 = .pointer (some ⟨b, 0, none⟩) ∧ Bk w5 b 69 wayZ ∧ B ≤ b := hφ 13 (by omega)
      have hapart : ∀ b, (Value.slice A3 nP c3).ownBlock = some b → b ≠ bW := fun b hb e => by
        rw [hb] at ebA
        have e2 := Option.some.inj ebA
        subst e2 e
        unfold Bk at hbA bx5
        rw [hbA] at bx5
        have h := Option.some.inj bx5
        injection h with _ h2
        exact absurd h2 (by decide)
      simp (decide := true) only [fillAct, List.mapIdx_cons, List.mapIdx_nil, Nat.reduceAdd, if_true, if_false, List.drop_succ_cons, List.drop_zero]
      rw [h38, h9]
      clear hφ
      refine wpList_store_bk (t := 69) bW 69 wayZ (wayCells p q x R (.slice A3 nP c3)) bx5 (by kernel_rfl) (by kernel_rfl) (way_size _ _ _ _ _) (by rw [wayCells_length]; rfl) (way_one _ _ _ _ _ _ _) ?_
      intro w6 h6 g6 z6
      go_upto_region 8 with fail
      have g5 := gb_trans gW hg
      have BK : Bk w6 bW 69 (wayCells p q x R (.slice A3 nP c3)) := h6
      have hwB : w.heap.size ≤ B := by rw [HB.out]; exact gW.size
      have GW : w.grownBy w6 none := gb_trans_new g5 g6 (by omega)
      have OW : Ow B w6 32 (.slice A3 nP c3) nP (idCells Y) := ho3.grown g6 (fun b hb e => hapart b hb (Option.some.inj e).symm)
      have hb5 := (bk2.grown hg (by simp))
      have hbo : b0 ≠ bW := fun e => by
        have h1 := bk2.lt
        rw [← HB.out] at h1
        omega
      have BS : Bk w6 b0 73 [.int .i64 k0, .int .i64 n0] := hb5.grown g6 (fun e => hbo (Option.some.inj e))
      have hsz : w6.heap.size = w5.heap.size := z6
      have HAP := Go.Lib.hid hapart
      have HSZ := Go.Lib.hid hsz
      have HBK := Go.Lib.hid BK
      have HOW := Go.Lib.hid OW
      have HGW := Go.Lib.hid GW
      have hc0 := BS.cellAt (i := 0) rfl
      have hc1 := BS.cellAt (i := 1) rfl
      clear ho3 bx5 h6 g6 z6 hg gW g5 h38 h9 bk2 hapart hsz BK OW GW rx hbA ebA hb5
      have hwW : w.heap.size ≤ bW := Nat.le_trans hwB hBs
      rcases (by omega : k0 = 0 ∨ k0 = 1 ∨ k0 = 2 ∨ k0 = 3 ∨ k0 = 4 ∨ k0 = 5 ∨ (k0 ≠ 0 ∧ k0 ≠ 1 ∧ k0 ≠ 2 ∧ k0 ≠ 3 ∧ k0 ≠ 4 ∧ k0 ≠ 5)) with rfl | rfl | rfl | rfl | rfl | rfl | hk
      · have ce0 := HBK.out.cellAt (way_get2 p q x R (.slice A3 nP c3))
        obtain ⟨z, hz⟩ : ∃ z, z = x.l.getD 0 0 := ⟨_, rfl⟩
        rw [← hz] at ce0
        have ce : w6.cell? ⟨bW, 2, none⟩ = some (.int .u8 (z.toNat : Int)) := ce0
        have fe : w6.frozen? ⟨bW, 2, none⟩ = false := HBK.out.frozen _
        clear hz ce0
        go_upto_region 24 with fail
        rw [xor8 z]
        have GX : w6.grownBy (w6.setCell ⟨bW, 2, none⟩ (.int .u8 ((z ^^^ 1).toNat : Int))) (some bW) := gb_set1 _ _ _
        have BK : Bk (w6.setCell ⟨bW, 2, none⟩ (.int .u8 ((z ^^^ 1).toNat : Int))) bW 69 (wayCells p q (x.set 0 (z ^^^ 1)) R (.slice A3 nP c3)) := by
          have h := HBK.out.set 2 (bv (z ^^^ 1))
          rw [way_set2] at h; exact h
        have RP := rp_of (HOW.out.grown GX (fun b hb e => HAP.out b hb (Option.some.inj e).symm)) HNP.out
        have GW := gb_trans_new HGW.out GX hwW
        obtain ⟨x', hx'⟩ : ∃ x', x' = x.set 0 (z ^^^ 1) := ⟨_, rfl⟩
        rw [← hx'] at BK
        obtain ⟨w8, hw8⟩ : ∃ w8, w8 = w6.setCell ⟨bW, 2, none⟩ (.int .u8 ((z ^^^ 1).toNat : Int)) := ⟨_, rfl⟩
        rw [← hw8] at BK RP GW ⊢
        clear hx' hw8 GX ce fe
        go_wp2_with (first
          | ((with_reducible refine wpList_load_bk (x := .tmp 9) (t := 69) bW 69 _ _ BK (by kernel_rfl) Try.underlying69 rfl (way_size _ _ _ _ _) ?_))
          | (go_at_call 10; ((with_reducible refine (checks_walk _ _ _ _ _ _ _ _ RP (lt_self _)).mono ?_); rintro e wE ⟨rfl, gE⟩)))
        go_ret
        exact ⟨rfl, gb_trans GW gE⟩
      · have ce : w6.cell? ⟨bW, 66, none⟩ = some (.slice A3 nP c3) := HBK.out.cellAt way_at.2.2
        have fe : w6.frozen? ⟨bW, 66, none⟩ = false := HBK.out.frozen _
        have ho5 : Ow B (w6.alloc (.cells #[Value.int IntKind.u8 9, Value.int IntKind.u8 0, Value.int IntKind.u8 0, Value.int IntKind.u8 0, Value.int IntKind.u8 0, Value.int IntKind.u8 0, Value.int IntKind.u8 0, Value.int IntKind.u8 0, Value.int IntKind.u8 0, Value.int IntKind.u8 0, Value.int IntKind.u8 0, Value.int IntKind.u8 0, Value.int IntKind.u8 0, Value.int IntKind.u8 0, Value.int IntKind.u8 0, Value.int IntKind.u8 0, Value.int IntKind.u8 0, Value.int IntKind.u8 0, Value.int IntKind.u8 0, Value.int IntKind.u8 0, Value.int IntKind.u8 0, Value.int IntKind.u8 0, Value.int IntKind.u8 0, Value.int IntKind.u8 0, Value.int IntKind.u8 0, Value.int IntKind.u8 0, Value.int IntKind.u8 0, Value.int IntKind.u8 0, Value.int IntKind.u8 0, Value.int IntKind.u8 0, Value.int IntKind.u8 0, Value.int IntKind.u8 0] 34)) 32 (.slice A3 nP c3) nP (idCells Y) := HOW.out.alloc _
        have hs5 : Src Try.prog 32 41 (.slice (some ⟨w6.heap.size, 0, none⟩) 1 1) 1 (id9.l.map bv) (w6.alloc (.cells #[Value.int IntKind.u8 9, Value.int IntKind.u8 0, Value.int IntKind.u8 0, Value.int IntKind.u8 0, Value.int IntKind.u8 0, Value.int IntKind.u8 0, Value.int IntKind.u8 0, Value.int IntKind.u8 0, Value.int IntKind.u8 0, Value.int IntKind.u8 0, Value.int IntKind.u8 0, Value.int IntKind.u8 0, Value.int IntKind.u8 0, Value.int IntKind.u8 0, Value.int IntKind.u8 0, Value.int IntKind.u8 0, Value.int IntKind.u8 0, Value.int IntKind.u8 0, Value.int IntKind.u8 0, Value.int IntKind.u8 0, Value.int IntKind.u8 0, Value.int IntKind.u8 0, Value.int IntKind.u8 0, Value.int IntKind.u8 0, Value.int IntKind.u8 0, Value.int IntKind.u8 0, Value.int IntKind.u8 0, Value.int IntKind.u8 0, Value.int IntKind.u8 0, Value.int IntKind.u8 0, Value.int IntKind.u8 0, Value.int IntKind.u8 0] 34)) := src_new (P := Try.prog) Try.underlying41 w6 34 32 1 (id9.l.map bv) (by rw [List.length_map, id9.h]) (bytes_one _)
        have hB5 : B ≤ (w6.alloc (.cells #[Value.int IntKind.u8 9, Value.int IntKind.u8 0, Value.int IntKind.u8 0, Value.int IntKind.u8 0, Value.int IntKind.u8 0, Value.int IntKind.u8 0, Value.int IntKind.u8 0, Value.int IntKind.u8 0, Value.int IntKind.u8 0, Value.int IntKind.u8 0, Value.int IntKind.u8 0, Value.int IntKind.u8 0, Value.int IntKind.u8 0, Value.int IntKind.u8 0, Value.int IntKind.u8 0, Value.int IntKind.u8 0, Value.int IntKind.u8 0, Value.int IntKind.u8 0, Value.int IntKind.u8 0, Value.int IntKind.u8 0, Value.int IntKind.u8 0, Value.int IntKind.u8 0, Value.int IntKind.u8 0, Value.int IntKind.u8 0, Value.int IntKind.u8 0, Value.int IntKind.u8 0, Value.int IntKind.u8 0, Value.int IntKind.u8 0, Value.int IntKind.u8 0, Value.int IntKind.u8 0, Value.int IntKind.u8 0, Value.int IntKind.u8 0] 34)).heap.size := by have := HBK.out.lt; rw [World.size_alloc]; omega
        have h63 : nP + 1 ≤ maxLen := Nat.le_trans (Nat.succ_le_succ HP40.out) (by decide)
        have hby : (nP + 1) * 32 ≤ 140737488355328 := by have := HP40.out; omega
        have bk5 : Bk (w6.alloc (.cells #[Value.int IntKind.u8 9, Value.int IntKind.u8 0, Value.int IntKind.u8 0, Value.int IntKind.u8 0, Value.int IntKind.u8 0, Value.int IntKind.u8 0, Value.int IntKind.u8 0, Value.int IntKind.u8 0, Value.int IntKind.u8 0, Value.int IntKind.u8 0, Value.int IntKind.u8 0, Value.int IntKind.u8 0, Value.int IntKind.u8 0, Value.int IntKind.u8 0, Value.int IntKind.u8 0, Value.int IntKind.u8 0, Value.int IntKind.u8 0, Value.int IntKind.u8 0, Value.int IntKind.u8 0, Value.int IntKind.u8 0, Value.int IntKind.u8 0, Value.int IntKind.u8 0, Value.int IntKind.u8 0, Value.int IntKind.u8 0, Value.int IntKind.u8 0, Value.int IntKind.u8 0, Value.int IntKind.u8 0, Value.int IntKind.u8 0, Value.int IntKind.u8 0, Value.int IntKind.u8 0, Value.int IntKind.u8 0, Value.int IntKind.u8 0] 34)) bW 69 (wayCells p q x R (.slice A3 nP c3)) := HBK.out.grown (gb_alloc (gb_refl w6 none) _) (by simp)
        have gw5 : w.grownBy (w6.alloc (.cells #[Value.int IntKind.u8 9, Value.int IntKind.u8 0, Value.int IntKind.u8 0, Value.int IntKind.u8 0, Value.int IntKind.u8 0, Value.int IntKind.u8 0, Value.int IntKind.u8 0, Value.int IntKind.u8 0, Value.int IntKind.u8 0, Value.int IntKind.u8 0, Value.int IntKind.u8 0, Value.int IntKind.u8 0, Value.int IntKind.u8 0, Value.int IntKind.u8 0, Value.int IntKind.u8 0, Value.int IntKind.u8 0, Value.int IntKind.u8 0, Value.int IntKind.u8 0, Value.int IntKind.u8 0, Value.int IntKind.u8 0, Value.int IntKind.u8 0, Value.int IntKind.u8 0, Value.int IntKind.u8 0, Value.int IntKind.u8 0, Value.int IntKind.u8 0, Value.int IntKind.u8 0, Value.int IntKind.u8 0, Value.int IntKind.u8 0, Value.int IntKind.u8 0, Value.int IntKind.u8 0, Value.int IntKind.u8 0, Value.int IntKind.u8 0] 34)) none := gb_alloc HGW.out _
        go_upto_region 24 with ((with_reducible refine wpList_append_ow (s := .tmp 54) (x := .tmp 56) (v := .slice A3 nP c3) (y := .slice (some ⟨w6.heap.size, 0, none⟩) 1 1) (by kernel_rfl) (by kernel_rfl) Try.underlying41 okId ho5 hs5 hB5 h63 hby ?_); intro v3 w3 ho3 hg3 hb3; obtain ⟨A4, c4, rfl⟩ := ho3.form; have bk3 := bk5.grown hg3 (fun e => HAP.out bW e.symm rfl); have ce3 : w3.cell? ⟨bW, 66, none⟩ = some (.slice A3 nP c3) := bk3.cellAt way_at.2.2; have fe3 : w3.frozen? ⟨bW, 66, none⟩ = false := bk3.frozen _)
        have hap : ∀ b, (Value.slice A4 (nP + 1) c4).ownBlock = some b → b ≠ bW := fun b hb e => by
          rcases hb3 with h | h
          · rw [h] at hb; exact HAP.out b hb e
          · rw [h] at hb
            have h1 := Option.some.inj hb
            have h2 := HBK.out.lt
            rw [World.size_alloc] at h1
            omega
        have GX : w3.grownBy (w3.setCell ⟨bW, 66, none⟩ (.slice A4 (nP + 1) c4)) (some bW) := gb_set1 _ _ _
        have BK : Bk (w3.setCell ⟨bW, 66, none⟩ (.slice A4 (nP + 1) c4)) bW 69 (wayCells p q x R (.slice A4 (nP + 1) c4)) := by
          have h := bk3.set 66 (.slice A4 (nP + 1) c4)
          rw [way_set66] at h; exact h
        rw [← idCells_one, ← idCells_append] at ho3
        have RP := rp_of (ho3.grown GX (fun b hb e => hap b hb (Option.some.inj e).symm)) (by rw [List.length_append, HNP.out]; rfl)
        have GW := gb_trans_new (Ow.gb gw5 ho5 hwB hg3) GX hwW
        go_wp2_with (first
          | ((with_reducible refine wpList_load_bk (x := .tmp 9) (t := 69) bW 69 _ _ BK (by kernel_rfl) Try.underlying69 rfl (way_size _ _ _ _ _) ?_))
          | (go_at_call 10; ((with_reducible refine (checks_walk _ _ _ _ _ _ _ _ RP (lt_self _)).mono ?_); rintro e wE ⟨rfl, gE⟩)))
        go_ret
        exact ⟨rfl, gb_trans GW gE⟩
      · have ce : w6.cell? ⟨bW, 66, none⟩ = some (.slice A3 nP c3) := HBK.out.cellAt way_at.2.2
        have fe : w6.frozen? ⟨bW, 66, none⟩ = false := HBK.out.frozen _
        by_cases hz : nP = 0
        · subst hz
          go_upto_region 24 with fail
          have BK := HBK.out
          have RP := rp_of HOW.out HNP.out
          have GW := HGW.out
          go_wp2_with (first
            | ((with_reducible refine wpList_load_bk (x := .tmp 9) (t := 69) bW 69 _ _ BK (by kernel_rfl) Try.underlying69 rfl (way_size _ _ _ _ _) ?_))
            | (go_at_call 10; ((with_reducible refine (checks_walk _ _ _ _ _ _ _ _ RP (lt_self _)).mono ?_); rintro e wE ⟨rfl, gE⟩)))
          go_ret
          exact ⟨rfl, gb_trans GW gE⟩
        · have hd1 : decide ((nP : Int) > 0) = true := decide_eq_true (by omega)
          obtain ⟨k, hk⟩ : ∃ k, k + 1 = nP := ⟨nP - 1, by omega⟩
          have hkI : (nP : Int) - 1 = (k : Int) := by omega
          have hnc : nP ≤ c3 := by obtain ⟨_, _, _, e, h, _⟩ := HOW.out; injection e with _ _ e; omega
          have hcI : (k : Int) ≤ (c3 : Int) ∧ (0 : Int) ≤ (k : Int) := by omega
          have hkc : k ≤ c3 := by omega
          clear hz
          go_upto_region 24 with fail
          have GX : w6.grownBy (w6.setCell ⟨bW, 66, none⟩ (.slice A3 k c3)) (some bW) := gb_set1 _ _ _
          have BK : Bk (w6.setCell ⟨bW, 66, none⟩ (.slice A3 k c3)) bW 69 (wayCells p q x R (.slice A3 k c3)) := by
            have h := HBK.out.set 66 (.slice A3 k c3)
            rw [way_set66] at h; exact h
          have RP := RdI.toTake (rp_of (HOW.out.grown GX (fun b hb e => HAP.out b hb (Option.some.inj e).symm)) HNP.out) HNP.out.symm (by omega : k ≤ nP)
          have GW := gb_trans_new HGW.out GX hwW
          go_wp2_with (first
            | ((with_reducible refine wpList_load_bk (x := .tmp 9) (t := 69) bW 69 _ _ BK (by kernel_rfl) Try.underlying69 rfl (way_size _ _ _ _ _) ?_))
            | (go_at_call 10; ((with_reducible refine (checks_walk _ _ _ _ _ _ _ _ RP (lt_self _)).mono ?_); rintro e wE ⟨rfl, gE⟩)))
          go_ret
          exact ⟨rfl, gb_trans GW gE⟩
      · have ce : w6.cell? ⟨bW, 66, none⟩ = some (.slice A3 nP c3) := HBK.out.cellAt way_at.2.2
        rcases (by omega : n0 < 0 ∨ (0 ≤ n0 ∧ (nP : Int) ≤ n0) ∨ (0 ≤ n0 ∧ n0 < (nP : Int))) with hn | hn | hn
        · have hd1 : decide (n0 ≥ 0) = false := decide_eq_false (by omega)
          go_upto_region 24 with fail
          have BK := HBK.out
          have RP := rp_of HOW.out HNP.out
          have GW := HGW.out
          go_wp2_with (first
            | ((with_reducible refine wpList_load_bk (x := .tmp 9) (t := 69) bW 69 _ _ BK (by kernel_rfl) Try.underlying69 rfl (way_size _ _ _ _ _) ?_))
            | (go_at_call 10; ((with_reducible refine (checks_walk _ _ _ _ _ _ _ _ RP (lt_self _)).mono ?_); rintro e wE ⟨rfl, gE⟩)))
          go_ret
          exact ⟨rfl, gb_trans GW gE⟩
        · have hd1 : decide (n0 ≥ 0) = true := decide_eq_true hn.1
          have hd2 : decide (n0 < (nP : Int)) = false := decide_eq_false (by omega)
          go_upto_region 24 with fail
          have BK := HBK.out
          have RP := rp_of HOW.out HNP.out
          have GW := HGW.out
          go_wp2_with (first
            | ((with_reducible refine wpList_load_bk (x := .tmp 9) (t := 69) bW 69 _ _ BK (by kernel_rfl) Try.underlying69 rfl (way_size _ _ _ _ _) ?_))
            | (go_at_call 10; ((with_reducible refine (checks_walk _ _ _ _ _ _ _ _ RP (lt_self _)).mono ?_); rintro e wE ⟨rfl, gE⟩)))
          go_ret
          exact ⟨rfl, gb_trans GW gE⟩
        · obtain ⟨m, rfl⟩ : ∃ m : Nat, n0 = (m : Int) := ⟨n0.toNat, by omega⟩
          have hd1 : decide ((m : Int) ≥ 0) = true := decide_eq_true hn.1
          have hd2 : decide ((m : Int) < (nP : Int)) = true := decide_eq_true hn.2
          have hd2' : decide (m < nP) = true := decide_eq_true (by omega)
          have how := HOW.out
          obtain ⟨bP, oP, cP3, hvP, -, -, hnc, hrP, hfP⟩ := how.at (by omega)
          injection hvP with hA3 _ hcc
          subst hA3 hcc
          have hmy : m < Y.length := by rw [← HNP.out]; omega
          obtain ⟨z, hz⟩ : ∃ z, (idCells Y)[m * 32 + 5]? = some (bv z) := ⟨_, idCells_at Y m 5 hmy (by decide)⟩
          obtain ⟨z2, hz2⟩ : ∃ z2, z2 = z ^^^ 1 := ⟨_, rfl⟩
          have HXR : Hid (bits .xor .u8 (z.toNat : Int) 1 = (z2.toNat : Int)) := Go.Lib.hid (by rw [hz2]; exact xor8 z)
          clear hz2
          obtain ⟨ys, hys, hyl⟩ := idCells_set Y m 5 hmy (by decide) z2
          have HZ : Hid ((idCells Y)[m * 32 + 5]? = some (.int .u8 (z.toNat : Int))) := Go.Lib.hid hz
          have HYS := Go.Lib.hid hys
          have HYL := Go.Lib.hid hyl
          have HRP := Go.Lib.hid hrP
          have HF := Go.Lib.hid (hfP (m * 32 + 5) (by omega))
          have HM : Hid (m * 32 + 5 < nP * 32) := Go.Lib.hid (by omega)
          have HBO : Hid (bW ≠ bP) := Go.Lib.hid (fun e => HAP.out bP rfl e.symm)
          clear hz hys hyl hrP hfP how
          go_upto_region 19 with fail
          refine wp_region_specs 9 [81, 82, 83, 84, 85, 86, 87, 88, 89] (by kernel_rfl) (by kernel_rfl) (pyφ bW bP oP nP c3 m z z2) (pyφ_gr bW bP oP nP c3 m z z2) ?step19 ?fin
          case step19 =>
            intro i_ o_ ho hi_ u w' hg hd
            rcases (by omega : i_ = 0 ∨ i_ = 1 ∨ i_ = 2 ∨ i_ = 3 ∨ i_ = 4 ∨ i_ = 5 ∨ i_ = 6 ∨ i_ = 7 ∨ i_ = 8) with rfl | rfl | rfl | rfl | rfl | rfl | rfl | rfl | rfl <;> obtain rfl := Option.some.inj ho <;>
              simp (decide := true) only [fillAct, List.mapIdx_cons, List.mapIdx_nil, Nat.reduceAdd, if_true, if_false, List.getD_cons_zero, List.getD_cons_succ]
            · clear hd ho
              go_wp2_with fail
              exact ⟨rfl, gb_refl _ _, rfl⟩
            · have h0 : u 81 = .pointer (some ⟨bW, 66, none⟩) := hd 0 (by kernel_rfl)
              clear hd ho
              rw [h0]
              have c1 : w'.cell? ⟨bW, 66, none⟩ = some (.slice (some ⟨bP, oP, none⟩) nP c3) := (HBK.out.grown hg (by simp)).cellAt way_at.2.2
              go_wp2_with fail
              exact ⟨rfl, gb_refl _ _, rfl⟩
            · clear hd ho
              go_wp2_with fail
              exact ⟨rfl, gb_refl _ _, rfl⟩
            · have h1 : u 82 = .slice (some ⟨bP, oP, none⟩) nP c3 := hd 1 (by kernel_rfl)
              have h2 : u 83 = .int .i64 (m : Int) := hd 2 (by kernel_rfl)
              clear hd ho
              rw [h1, h2]
              go_wp2_with fail
              exact ⟨rfl, gb_refl _ _, rfl⟩
            · have h3 : u 84 = .pointer (some ⟨bP, oP + m * 32, none⟩) := hd 3 (by kernel_rfl)
              clear hd ho
              rw [h3]
              go_wp2_with fail
              exact ⟨rfl, gb_refl _ _, rfl⟩
            · have h4 : u 85 = .pointer (some ⟨bP, oP + m * 32 + 5, none⟩) := hd 4 (by kernel_rfl)
              clear hd ho
              rw [h4]
              have c1 : w'.cell? ⟨bP, oP + m * 32 + 5, none⟩ = some (.int .u8 (z.toNat : Int)) := rangeAt_grown HRP.out hg (by simp) _ _ HZ.out
              go_wp2_with fail
              exact ⟨rfl, gb_refl _ _, rfl⟩
            · have h5 : u 86 = .int .u8 (z.toNat : Int) := hd 5 (by kernel_rfl)
              clear hd ho
              rw [h5]
              go_wp2_with fail
              exact ⟨rfl, gb_refl _ _, congrArg (Value.int .u8) HXR.out⟩
            · have h1 : u 82 = .slice (some ⟨bP, oP, none⟩) nP c3 := hd 1 (by kernel_rfl)
              have h2 : u 83 = .int .i64 (m : Int) := hd 2 (by kernel_rfl)
              clear hd ho
              rw [h1, h2]
              go_wp2_with fail
              exact ⟨rfl, gb_refl _ _, rfl⟩
            · have h7 : u 88 = .pointer (some ⟨bP, oP + m * 32, none⟩) := hd 7 (by kernel_rfl)
              clear hd ho
              rw [h7]
              go_wp2_with fail
              exact ⟨rfl, gb_refl _ _, rfl⟩
          case fin =>
            intro u w7 hg hφ
            have h87 : u 87 = .int .u8 (z2.toNat : Int) := hφ 6 (by omega)
            have h89 : u 89 = .pointer (some ⟨bP, oP + m * 32 + 5, none⟩) := hφ 8 (by omega)
            simp (decide := true) only [fillAct, List.mapIdx_cons, List.mapIdx_nil, Nat.reduceAdd, if_true, if_false, List.drop_succ_cons, List.drop_zero]
            rw [h87, h89]
            clear hφ h87 h89
            have ho7 := HOW.out.grown hg (fun _ _ => by simp)
            have c7 : w7.cell? ⟨bP, oP + m * 32 + 5, none⟩ = some (.int .u8 (z.toNat : Int)) := rangeAt_grown HRP.out hg (by simp) _ _ HZ.out
            have f7 : w7.frozen? ⟨bP, oP + m * 32 + 5, none⟩ = false := by
              obtain ⟨b', o', c', e, -, -, -, -, h⟩ := ho7.at (by have := HM.out; omega)
              cases e
              exact h _ HM.out
            go_upto_region 24 with fail
            have hs := ho7.set (m * 32 + 5) (bv z2) HM.out
            rw [HYS.out] at hs
            have BK := (HBK.out.grown hg (by simp)).far (p := ⟨bP, oP + (m * 32 + 5), none⟩) HBO.out (bv z2)
            have RP := rp_of hs (by rw [HYL.out]; exact HNP.out)
            have GW := gb_trans_new (gb_trans HGW.out hg) (gb_set1 w7 ⟨bP, oP + (m * 32 + 5), none⟩ (bv z2)) (Nat.le_trans hwB (HOW.out.lt rfl).1)
            obtain ⟨w8, hw8⟩ : ∃ w8, w8 = w7.setCell ⟨bP, oP + (m * 32 + 5), none⟩ (bv z2) := ⟨_, rfl⟩
            have hw8' : w7.setCell ⟨bP, oP + m * 32 + 5, none⟩ (.int .u8 (z2.toNat : Int)) = w8 := by rw [hw8]; rfl
            rw [← hw8] at BK RP GW
            rw [hw8']
            clear hw8 hw8' hs c7 f7 ho7
            go_wp2_with (first
              | ((with_reducible refine wpList_load_bk (x := .tmp 9) (t := 69) bW 69 _ _ BK (by kernel_rfl) Try.underlying69 rfl (way_size _ _ _ _ _) ?_))
              | (go_at_call 10; ((with_reducible refine (checks_walk _ _ _ _ _ _ _ _ RP (lt_self _)).mono ?_); rintro e wE ⟨rfl, gE⟩)))
            go_ret
            exact ⟨rfl, gb_trans GW gE⟩
      · have ce : w6.cell? ⟨bW, 0, none⟩ = some (.int .i64 (p : Int)) := HBK.out.cellAt way_at.1
        have fe : w6.frozen? ⟨bW, 0, none⟩ = false := HBK.out.frozen _
        go_upto_region 24 with fail
        have GX : w6.grownBy (w6.setCell ⟨bW, 0, none⟩ (.int .i64 n0)) (some bW) := gb_set1 _ _ _
        have BK : Bk (w6.setCell ⟨bW, 0, none⟩ (.int .i64 n0)) bW 69 (wayCells n0 q x R (.slice A3 nP c3)) := HBK.out.set 0 (.int .i64 n0)
        have RP := rp_of (HOW.out.grown GX (fun b hb e => HAP.out b hb (Option.some.inj e).symm)) HNP.out
        have GW := gb_trans_new HGW.out GX hwW
        go_wp2_with (first
          | ((with_reducible refine wpList_load_bk (x := .tmp 9) (t := 69) bW 69 _ _ BK (by kernel_rfl) Try.underlying69 rfl (way_size _ _ _ _ _) ?_))
          | (go_at_call 10; ((with_reducible refine (checks_walk _ _ _ _ _ _ _ _ RP (lt_self _)).mono ?_); rintro e wE ⟨rfl, gE⟩)))
        go_ret
        exact ⟨rfl, gb_trans GW gE⟩
      · have ce : w6.cell? ⟨bW, 1, none⟩ = some (.int .i64 (q : Int)) := HBK.out.cellAt way_at.2.1
        have fe : w6.frozen? ⟨bW, 1, none⟩ = false := HBK.out.frozen _
        go_upto_region 24 with fail
        have GX : w6.grownBy (w6.setCell ⟨bW, 1, none⟩ (.int .i64 n0)) (some bW) := gb_set1 _ _ _
        have BK : Bk (w6.setCell ⟨bW, 1, none⟩ (.int .i64 n0)) bW 69 (wayCells p n0 x R (.slice A3 nP c3)) := HBK.out.set 1 (.int .i64 n0)
        have RP := rp_of (HOW.out.grown GX (fun b hb e => HAP.out b hb (Option.some.inj e).symm)) HNP.out
        have GW := gb_trans_new HGW.out GX hwW
        go_wp2_with (first
          | ((with_reducible refine wpList_load_bk (x := .tmp 9) (t := 69) bW 69 _ _ BK (by kernel_rfl) Try.underlying69 rfl (way_size _ _ _ _ _) ?_))
          | (go_at_call 10; ((with_reducible refine (checks_walk _ _ _ _ _ _ _ _ RP (lt_self _)).mono ?_); rintro e wE ⟨rfl, gE⟩)))
        go_ret
        exact ⟨rfl, gb_trans GW gE⟩
      · have hk0 : decide (k0 = 0) = false := decide_eq_false hk.1
        have hk1 : decide (k0 = 1) = false := decide_eq_false hk.2.1
        have hk2 : decide (k0 = 2) = false := decide_eq_false hk.2.2.1
        have hk3 : decide (k0 = 3) = false := decide_eq_false hk.2.2.2.1
        have hk4 : decide (k0 = 4) = false := decide_eq_false hk.2.2.2.2.1
        have hk5 : decide (k0 = 5) = false := decide_eq_false hk.2.2.2.2.2
        go_upto_region 24 with fail
        have BK := HBK.out
        have RP := rp_of HOW.out HNP.out
        have GW := HGW.out
        go_wp2_with (first
          | ((with_reducible refine wpList_load_bk (x := .tmp 9) (t := 69) bW 69 _ _ BK (by kernel_rfl) Try.underlying69 rfl (way_size _ _ _ _ _) ?_))
          | (go_at_call 10; ((with_reducible refine (checks_walk _ _ _ _ _ _ _ _ RP (lt_self _)).mono ?_); rintro e wE ⟨rfl, gE⟩)))
        go_ret
        exact ⟨rfl, gb_trans GW gE⟩
end Go.Proofs.Ytajgklomcapboaa
namespace Go.Proofs.Ytajgklomcapboaa
open Go.ChangeShapes Go.WideShapes Go.ChangeAt Go.RowKit

set_option maxRecDepth 100000 in
theorem proofWrong_lifted (os : Os) (started : os.Started) (H : Type) (enc : TypeId × Value → H) :
    ReturnsInHanded {} Try.checked os 12 .any (Rows.proofWrongSpec.pre6 enc Try.prog Try.f12 Rows.proofWrongRow.domain false) (Rows.proofWrongSpec.post enc Try.prog Try.f12 false true false false) := by
  refine returnsInHanded_of_change (C := Try.checked) ownk started (by kernel_rfl) Try.func12
    (ChangeSpec.witness6 (enc := enc) (C := Try.checked) false ⟨#[], #[.slice none 0 0, .int .i64 0, .agg #[.int .i64 0, .int .i64 0]], []⟩ 8 (by kernel_rfl) (by kernel_rfl) (by kernel_rfl) (by kernel_rfl)) ?_
  intro W base args ds gs before hval0 hW _ _
  have hW' := hW
  have hval : ∀ (j : Nat) t v, Try.f12.params[j]? = some t → args[j]? = some v → Value.okWide Try.prog W .any base t v := hval0
  have hlt : ∀ x ∈ before, x.block < W.heap.size := fun x hx => by simpa using hW'.lt x hx
  obtain ⟨p, q, hA, hV, rfl, hfz, hnd⟩ := hW
  rw [Try.params12] at hA hval
  obtain ⟨v0, vs0, d0, ds0, p0, q0, hargs, rfl, rfl, h0, r0⟩ := trodAll_cons hA
  obtain ⟨v1, vs1, d1, ds1, p1, q1, rfl, rfl, rfl, h1, r1⟩ := trodAll_cons r0
  obtain ⟨v2, vs2, d2, ds2, p2, q2, rfl, rfl, rfl, h2, r2⟩ := trodAll_cons r1
  obtain ⟨rfl, rfl, rfl⟩ := trodAll_nil r2
  obtain rfl : args = #[v0, v1, v2] := by cases args; simp_all
  obtain ⟨rfl, rfl⟩ := trodVars_none hV
  obtain ⟨l0, b0⟩ := open_ids Try.underlying41 Try.underlying34 Try.underlying5 (by kernel_rfl) (by kernel_rfl) h0 (okWide_slice Try.underlying41 (hval 0 41 v0 rfl rfl))
  obtain ⟨a1, rfl, rfl, rfl, w1⟩ := open_int Try.underlying3 (hval 1 3 v1 rfl rfl) h1
  obtain ⟨a2, n2, rfl⟩ := open_ints2 Try.underlying73 Try.underlying3 (by kernel_rfl) (by kernel_rfl) h2 (hval 2 73 v2 rfl rfl)
  refine (wrong_walk _ l0 a1 a2 n2 _ W b0 (fun _ h => h)).mono fun e W' ⟨he, hg⟩ => ?_
  subst he
  exact ⟨_, rfl, post_true hW' rfl rfl rfl (by decide +kernel) rfl hg⟩

theorem proofWrong : Rows.ProofWrongSaid :=
  OpenClaim.holds_of_wide 12 Try.f12 rfl rfl rfl rfl rfl rfl rfl ⟨rfl, rfl, rfl, rfl, rfl⟩ rfl rfl rfl rfl rfl (by kernel_rfl) Try.func12 (by kernel_rfl)
    (of_decide_eq_true (by kernel_rfl)) (by unfold Func.isWrapper; first | (rw [if_pos (by decide +kernel)]; kernel_rfl) | (rw [if_neg (by decide +kernel)]; exact ⟨rfl, rfl⟩))
    (fun os started H enc _ => proofWrong_lifted os started H enc)
end Go.Proofs.Ytajgklomcapboaa
