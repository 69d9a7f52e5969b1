import Derived.Test.YtajgklomcapboaaProg
import Derived.Test.YtajgklomcapboaaRead
import Derived.Test.YtajgklomcapboaaBlocks
/- The iterator of sum.Blocks: it yields the blocks of the parts' bytes. -/
namespace Go.Proofs.Ytajgklomcapboaa
open Go.RowKit Sc

abbrev B64 := { l : List UInt8 // l.length = 64 }
def encB (x : B64) : Array Value := #[.agg (x.1.map bv).toArray]

/-- Between two bytes: n have come; the block that is being filled lies in block B. -/
def BI (J : List B64 → List Nat → World → Prop) (NB : Nat → Prop) (v : Value) (parts : List (List UInt8)) (B : Nat) (n : Nat) (wr : World) : Prop :=
  ∃ cs pre, J pre [B] wr ∧ Bk wr B 105 cs ∧ cs.length = 64 ∧ cs.take (n % 64) = (rest (parts.flatten.take n)).map bv ∧ pre.map (·.1) = chunks (n / 64) parts.flatten ∧ RdBB NB wr v parts

def zCells : List Value := List.replicate 64 (bv 0)
theorem infoBlk : ((Try.prog.info? 105).map fun i => (i.zero, i.size)) = some (some (.agg zCells.toArray), zCells.length) := by kernel_rfl

theorem blkSize (x : B64) : (Try.prog.info? 105).map (·.size) = some (x.1.map bv).length := by rw [List.length_map, x.2]; kernel_rfl

theorem zSize : (Try.prog.info? 105).map (·.size) = some zCells.length := by kernel_rfl
theorem zOne : ∀ v ∈ zCells, v.oneCell' = true := by intro v hv; rw [zCells, List.mem_replicate] at hv; rw [hv.2]; rfl
theorem bOne (l : List UInt8) : ∀ v ∈ l.map bv, v.oneCell' = true := by
  intro v hv
  obtain ⟨x, _, rfl⟩ := List.mem_map.1 hv
  rfl

theorem flat_at' (l1 : List (List UInt8)) (p : List UInt8) (l2 : List (List UInt8)) (j : Nat) (hj : j < p.length) : (l1 ++ p :: l2).flatten[l1.flatten.length + j]? = p[j]? := by
  rw [List.flatten_append, List.getElem?_append_right (by omega), List.flatten_cons, List.getElem?_append_left (by omega)]
  congr 1
  omega
theorem split_at {α : Type} (l : List α) (i : Nat) (x : α) (h : l[i]? = some x) : l.take i ++ x :: l.drop (i + 1) = l := by
  obtain ⟨hi, rfl⟩ := List.getElem?_eq_some_iff.1 h
  rw [List.getElem_cons_drop, List.take_append_drop]
theorem flat_at (parts : List (List UInt8)) (i j : Nat) (p : List UInt8) (hp : parts[i]? = some p) (hj : j < p.length) : parts.flatten[(parts.take i).flatten.length + j]? = p[j]? := by
  have := flat_at' (parts.take i) p (parts.drop (i + 1)) j hj
  rw [split_at parts i p hp] at this
  exact this
theorem flat_step (parts : List (List UInt8)) (i : Nat) (p : List UInt8) (hp : parts[i]? = some p) : (parts.take (i + 1)).flatten.length = (parts.take i).flatten.length + p.length := by
  rw [List.take_add_one, hp]; simp
theorem flat_le (parts : List (List UInt8)) (i : Nat) : (parts.take i).flatten.length ≤ parts.flatten.length := by
  have : parts.flatten.length = (parts.take i).flatten.length + (parts.drop i).flatten.length := by
    rw [← List.length_append, ← List.flatten_append, List.take_append_drop]
  omega

theorem rest_zero (l : List UInt8) (h : l.length % 64 = 0) : rest l = [] := by
  apply List.eq_nil_of_length_eq_zero; rw [rest_length, h]
theorem rest_more (all : List UInt8) (n : Nat) (x : UInt8) (hx : all[n]? = some x) (h : (n + 1) % 64 ≠ 0) : rest (all.take (n + 1)) = rest (all.take n) ++ [x] := by
  have hn := (List.getElem?_eq_some_iff.1 hx).1
  unfold rest
  rw [List.length_take, List.length_take, Nat.min_eq_left (by omega), Nat.min_eq_left (by omega), show (n + 1) / 64 = n / 64 by omega, List.take_add_one, hx]
  rw [List.drop_append_of_le_length (by simp; omega)]; rfl
theorem rest_full (all : List UInt8) (n : Nat) (x : UInt8) (hx : all[n]? = some x) (h : (n + 1) % 64 = 0) : rest (all.take n) ++ [x] = (all.drop (64 * (n / 64))).take 64 := by
  have hn := (List.getElem?_eq_some_iff.1 hx).1
  obtain ⟨q, rfl⟩ : ∃ q, n = 64 * q + 63 := ⟨n / 64, by omega⟩
  unfold rest
  rw [List.length_take, Nat.min_eq_left (by omega), show (64 * q + 63) / 64 = q by omega, List.drop_take, show 64 * q + 63 - 64 * q = 63 by omega, List.take_add_one (i := 63) (l := all.drop (64 * q)), List.getElem?_drop, hx]
  rfl


/-- A block behind i bytes of its count. -/
def fin (H : List UInt8) (N i : Nat) : List UInt8 := H.take (64 - i) ++ (be64 (8 * N)).drop (8 - i)
theorem fin_zero (H : List UInt8) (N : Nat) (h : H.length = 64) : fin H N 0 = H := by
  unfold fin; rw [List.take_of_length_le (by omega), List.drop_of_length_le (by rw [be64_length]; omega), List.append_nil]
theorem fin_length (H : List UInt8) (N i : Nat) (h : H.length = 64) (hi : i ≤ 8) : (fin H N i).length = 64 := by
  unfold fin; rw [List.length_append, List.length_take, List.length_drop, be64_length]; omega
theorem fin_set (H : List UInt8) (N i : Nat) (h : H.length = 64) (hi : i < 8) : (fin H N i).set (63 - i) (UInt8.ofNat (8 * N / 256 ^ i)) = fin H N (i + 1) := by
  unfold fin
  have e1 : (H.take (63 - i + 1)).drop (63 - i + 1) = [] := by simp
  rw [List.set_append_left _ _ (by rw [List.length_take]; omega), show 64 - i = (63 - i) + 1 by omega, List.set_eq_take_append_cons_drop, if_pos (by rw [List.length_take]; omega),
    List.take_take, show min (63 - i) (63 - i + 1) = 63 - i by omega, e1, show 64 - (i + 1) = 63 - i by omega, List.append_assoc, List.cons_append, List.nil_append]
  congr 1
  rw [show 8 - (i + 1) = 7 - i by omega, List.drop_eq_getElem_cons (i := 7 - i) (l := be64 (8 * N)) (by rw [be64_length]; omega), show 7 - i + 1 = 8 - i by omega]
  congr 1
  have := be64_at (8 * N) i hi
  rw [List.getElem?_eq_getElem (by rw [be64_length]; omega)] at this
  exact (Option.some.inj this).symm

theorem cnt_byte (N i : Nat) : Value.int .u8 ((N : Int) * 8 / 2 ^ (8 * i) % 256) = bv (UInt8.ofNat (8 * N / 256 ^ i)) := by
  unfold bv
  rw [UInt8.toNat_ofNat', show (256 : Nat) ^ i = 2 ^ (8 * i) by rw [Nat.pow_mul], Nat.mul_comm 8 N]
  simp

def BPost (J Jx : List B64 → List Nat → World → Prop) (all : List UInt8) (e : Ending) (W' : World) : Prop :=
  (∃ v, e = .returned v) ∧ ((∃ xs own, xs.map (·.1) = blocks all ∧ J xs own W') ∨ (∃ pre own, pre.map (·.1) <+: blocks all ∧ Jx pre own W'))

set_option maxHeartbeats 2000000 in
set_option maxRecDepth 100000 in
theorem blocks_tail (l : Nat) (J Jx : List B64 → List Nat → World → Prop) (Mut : Nat → Prop) (all : List UInt8) (hJ : Sc.Abides J)
    (hY : ∀ pre own x W1, J pre own W1 → pre.length < (blocks all).length → YieldAt Fence.wide 0 Try.prog l (encB x) W1 fun e W' =>
      (e = .returned (.bool true) ∧ J (pre ++ [x]) own W' ∧ Kept Mut own W1 W') ∨ (e = .returned (.bool false) ∧ Jx (pre ++ [x]) own W'))
    (N : Nat) (hN : N ≤ 1125899906842624) (H : List UInt8) (hH : H.length = 64) (own : List Nat) (E : Nat) (hEo : E ∈ own) (pre : List B64) (wX : World) (h0 : J pre own wX)
    (hE : Bk wX E 105 (H.map bv)) (hpre : Hid (pre.map (·.1) ++ [H.take 56 ++ be64 (8 * N)] = blocks all)) (v1 v2 v3 v5 v6 v7 v8 v10 v11 v12 v13 v14 v15 v16 v17 v18 v19 v20 v21 v22 v23 v24 v25 v26 v27 v28 v29 v30 v31 v32 v33 v34 v35 v36 v37 v38 v39 v40 v41 v42 v43 v44 v45 v46 v47 v48 v49 v50 v51 v52 v53 v54 v55 v56 v57 v58 v59 v60 v61 v62 v63 v64 v65 v66 v67 v68 v69 v70 v71 v72 v73 : Value) :
    (tl (tl (tl (tl (tl (tl (tl (bodyOf Try.f68)))))))).wp Try.prog (bodyPost Try.prog Try.f68 (BPost J Jx all))
      { tmps := #[.func (.yield l) #[] #[], v1, v2, v3, .int .i64 N, v5, v6, v7, v8, .pointer (some ⟨E, 0, none⟩), v10, v11, v12, v13, v14, v15, v16, v17, v18, v19, v20, v21, v22, v23, v24, v25, v26, v27, v28, v29, v30, v31, v32, v33, v34, v35, v36, v37, v38, v39, v40, v41, v42, v43, v44, v45, v46, v47, v48, v49, v50, v51, v52, v53, v54, v55, v56, v57, v58, v59, v60, v61, v62, v63, v64, v65, v66, v67, v68, v69, v70, v71, v72, v73], defers := [] } wX := by
  dsimp only [tl, bodyOf, Try.f68, Option.getD]
  go_wp2_with fail
  go_loopw [57] (fun v wr => ∃ i : Nat, i ≤ 8 ∧ v = .int .i64 i ∧ J pre own wr ∧ Bk wr E 105 ((fin H N i).map bv)) (fun v _ => 8 - (intOf v).toNat)
  case atStart => exact ⟨0, by omega, rfl, h0, by rw [fin_zero H N hH]; exact hE⟩
  case round =>
    clear h0 hE
    obtain ⟨i, hi, rfl, hj, hb⟩ := hrel
    by_cases hlt : i < 8
    · have f0 : wr.cell? ⟨E, 63 - i, none⟩ = some (((fin H N i).map bv)[63 - i]'(by rw [List.length_map, fin_length H N i hH hi]; omega)) := hb.cellAt (List.getElem?_eq_getElem _)
      have f1 := hb.frozen (63 - i)
      have t0 : (63 - (i : Int)).toNat = 63 - i := by omega
      obtain ⟨u0, hu0⟩ : ∃ u, u = ((fin H N i).map bv)[63 - i]'(by rw [List.length_map, fin_length H N i hH hi]; omega) := ⟨_, rfl⟩
      rw [← hu0] at f0
      clear hu0
      have Hh := Go.Lib.hid hH
      clear hH
      go_wp2_with fail
      go_roundw
      case rel =>
        rw [cnt_byte]
        refine ⟨i + 1, by omega, by go_num, hJ.wrote hj hEo (gb_set1 _ _ _), ?_⟩
        have := hb.set (63 - i) (bv (UInt8.ofNat (8 * N / 256 ^ i)))
        rw [← List.map_set, fin_set H N i Hh.out hlt] at this
        exact this
      case measure => simp [intOf]; omega
    · obtain rfl : i = 8 := by omega
      go_upto_region 24 with (fail)
      obtain ⟨xb, hxb⟩ : ∃ xb : B64, xb.1 = fin H N 8 := ⟨⟨fin H N 8, fin_length H N 8 hH (by omega)⟩, rfl⟩
      rw [← hxb] at hb
      have hp := hpre.out
      have hx8 : xb.1 = H.take 56 ++ be64 (8 * N) := hxb
      rw [← hx8] at hp
      have hpl : pre.length < (blocks all).length := by rw [← hp]; simp
      obtain ⟨fn, tmps, assign, body, hy, hR⟩ := hY pre own xb _ hj hpl
      have Hp := Go.Lib.hid hp
      clear hp hpl hxb hx8
      dsimp only [encB] at hy
      refine (wpIn_wide (n := 0)).1 ?_
      gi_wp2_with ((with_reducible refine wpListIn_load_bk (t := 105) E _ (xb.1.map bv) _ hb (by kernel_rfl) Try.underlying105 rfl (blkSize xb) ?_))
      refine ⟨rfl, hR.mono ?_⟩
      clear hR hy
      rintro e W' (⟨rfl, hJn, hkp⟩ | ⟨rfl, hJn⟩)
      · gi_wp2
        go_wp2_with fail
        go_end0
        exact ⟨⟨_, rfl⟩, .inl ⟨pre ++ [xb], own, by rw [List.map_append]; exact Hp.out, hJn⟩⟩
      · gi_wp2
        go_wp2_with fail
        go_end0
        exact ⟨⟨_, rfl⟩, .inr ⟨pre ++ [xb], own, by rw [List.map_append, show [xb].map (·.1) = [xb.1] from rfl, Hp.out]; exact List.prefix_refl _, hJn⟩⟩

set_option maxHeartbeats 4000000 in
set_option maxRecDepth 100000 in
theorem blocks_seq (bp : Nat) (v : Value) (parts : List (List UInt8)) (NB Mut : Nat → Prop) (w : World) (hbp : Bk w bp 22 [v]) (_hm : ¬ Mut bp) (hv : RdBB NB w v parts) (hNB : ∀ b, NB b → b < w.heap.size ∧ ¬ Mut b)
    (_hMut : ∀ b, Mut b → b < w.heap.size) (hlen : parts.flatten.length ≤ 1125899906842624) :
    Seq Try.prog 68 #[.pointer (some ⟨bp, 0, none⟩)] encB Mut (fun xs => xs.map (·.1) = blocks parts.flatten) (fun pre => pre.map (·.1) <+: blocks parts.flatten) (blocks parts.flatten).length w := by
  intro l J Jx W hW hJ hJx hY h0
  refine callsIn_wide.2 ?_
  have hbpW := hbp.below hW hbp.lt
  have hvW : RdBB NB W v parts := hv.keep fun b o u hb hc => (hW.cell (p := ⟨b, o, none⟩) (hNB b hb).1).trans hc
  have hWs := hW.size
  obtain ⟨vs, hv1, hv2⟩ := id hvW
  obtain ⟨A, c, rfl, hc⟩ := hv1.form
  have hlm := hv1.le
  unfold maxLen at hlm
  have hc0 := (hbpW.alloc (.cells zCells.toArray 105)).cellAt (i := 0) rfl
  have hb0 : BI J NB (.slice A parts.length c) parts W.heap.size 0 (W.alloc (.cells zCells.toArray 105)) :=
    ⟨zCells, [], hJ.made _ h0, Bk.new _ _ _, rfl, by simp [rest], rfl, hvW.grown (World.grownBy_alloc W _ none) (by simp)⟩
  clear hbp hW hv hbpW hvW hv1 hv2
  go_enter Try.func68, Try.ntmps68
  go_wp2_with ((with_reducible refine wpList_alloc_row zCells infoBlk ?_))
  clear hc0
  go_loopw [4, 13] (fun a b wr => ∃ i n : Nat, i ≤ parts.length ∧ b = .int .i64 i ∧ a = .int .i64 n ∧ n = (parts.take i).flatten.length ∧ BI J NB (.slice A parts.length c) parts W.heap.size n wr)
    (fun _ b _ => parts.length - (intOf b).toNat)
  case atStart => exact ⟨0, 0, by omega, rfl, rfl, rfl, hb0⟩
  case round =>
    clear hb0
    obtain ⟨i, n, hi, rfl, rfl, hn, hbi⟩ := hrel
    obtain ⟨_, _, _, _, _, _, _, hrd⟩ := id hbi
    obtain ⟨vs, hv1, hv2⟩ := hrd
    by_cases hlt : i < parts.length
    · obtain ⟨b, o, c', hv', -, -, -, hr⟩ := hv1.at (by omega)
      cases hv'
      obtain ⟨p, hp⟩ : ∃ p, parts[i]? = some p := ⟨_, List.getElem?_eq_getElem hlt⟩
      obtain ⟨u, hu, hub⟩ := hv2 i p hp
      obtain ⟨Ap, cp, rfl, hcp⟩ := hub.form
      have hcu := hr i _ hu
      have hpl := hub.le
      unfold maxLen at hpl
      have hst := Go.Lib.hid (flat_step parts i p hp)
      have hle := flat_le parts (i + 1)
      have hat := Go.Lib.hid (flat_at parts i)
      clear hv1 hv2 hr hu
      have Hn := Go.Lib.hid hn
      clear hn
      go_wp2_with fail
      have hub0 : RdB NB wr (.slice Ap p.length cp) p := hub
      clear hub
      go_loopw [4, 19] (fun q r wr => ∃ j m : Nat, j ≤ p.length ∧ r = .int .i64 j ∧ q = .int .i64 m ∧ m = n + j ∧ BI J NB (.slice (some ⟨b, o, none⟩) parts.length c) parts W.heap.size m wr ∧ RdB NB wr (.slice Ap p.length cp) p)
        (fun _ r _ => p.length - (intOf r).toNat)
      case atStart => exact ⟨0, n, by omega, rfl, rfl, rfl, hbi, hub0⟩
      case round =>
        clear hbi hcu hub0
        obtain ⟨j, m, hj, rfl, rfl, hm', hbi, hub⟩ := hrel
        by_cases hlt2 : j < p.length
        · obtain ⟨cs, pre, hJp, hBk, hcl, hct, hpre, hrd⟩ := hbi
          obtain ⟨x, hx⟩ : ∃ x, p[j]? = some x := ⟨_, List.getElem?_eq_getElem hlt2⟩
          have hxa := hat.out j p hp hlt2
          rw [← Hn.out, ← hm', hx] at hxa
          obtain ⟨bq, oq, cq, hvq, -, -, -, hrq⟩ := hub.at (by omega)
          cases hvq
          have c0 : wr.cell? ⟨bq, oq + j, none⟩ = some (.int .u8 (x.toNat : Int)) := hrq j _ (by rw [List.getElem?_map, hx]; rfl)
          have f0 : wr.cell? ⟨W.heap.size, m % 64, none⟩ = some cs[m % 64] := hBk.cellAt (List.getElem?_eq_getElem _)
          have f1 := hBk.frozen (m % 64)
          have Hst := hst
          have hml : m < parts.flatten.length := (List.getElem?_eq_some_iff.1 hxa).1
          have hub' : RdB NB (wr.setCell ⟨W.heap.size, m % 64, none⟩ (.int .u8 (x.toNat : Int))) (.slice (some ⟨bq, oq, none⟩) p.length cp) p :=
            Rd.grown hub (gb_set1 _ _ _) (fun r hr hb => by cases hr; have := (hNB _ hb).1; have := hWs; dsimp only at *; omega)
          have hrd' : RdBB NB (wr.setCell ⟨W.heap.size, m % 64, none⟩ (.int .u8 (x.toNat : Int))) (.slice (some ⟨b, o, none⟩) parts.length c) parts :=
            RdBB.grown hrd (gb_set1 _ _ _) (fun r hr hb => by cases hr; have := (hNB _ hb).1; have := hWs; dsimp only at *; omega)
          have hBk' : Bk (wr.setCell ⟨W.heap.size, m % 64, none⟩ (.int .u8 (x.toNat : Int))) W.heap.size 105 (cs.set (m % 64) (bv x)) := hBk.set (m % 64) (bv x)
          have hJ' : J pre [W.heap.size] (wr.setCell ⟨W.heap.size, m % 64, none⟩ (.int .u8 (x.toNat : Int))) := hJ.wrote hJp (r := W.heap.size) (by simp) (gb_set1 wr ⟨W.heap.size, m % 64, none⟩ (bv x))
          clear hrq hBk hrd hub hJp
          by_cases h64 : (m + 1) % 64 = 0
          · have t0 : (((m : Int) + 1) % 64 == 0) = true := by rw [beq_iff_eq]; omega
            have H64 := Go.Lib.hid h64
            have Hm' := Go.Lib.hid hm'
            have Hct := Go.Lib.hid hct
            have Hpre := Go.Lib.hid hpre
            have Hxa := Go.Lib.hid hxa
            clear hx hxa h64 hm' hct hpre
            go_upto_region 10 with (fail)
            have hfl := rest_full _ _ _ Hxa.out H64.out
            obtain ⟨xb, hxb⟩ : ∃ xb : B64, xb.1 = (parts.flatten.drop (64 * (m / 64))).take 64 :=
              ⟨⟨(parts.flatten.drop (64 * (m / 64))).take 64, by rw [← hfl, List.length_append, rest_length, List.length_take, Nat.min_eq_left (by omega)]; have := H64.out; simp; omega⟩, rfl⟩
            have hcs : cs.set (m % 64) (bv x) = xb.1.map bv := by
              rw [hxb, ← hfl, List.map_append, ← Hct.out]
              have h63 : m % 64 = 63 := by have := H64.out; omega
              rw [h63, List.set_eq_take_append_cons_drop, if_pos (by omega), List.drop_of_length_le (by omega)]; rfl
            rw [hcs] at hBk'
            have hpl2 : pre.length = m / 64 := by have := congrArg List.length Hpre.out; rw [List.length_map, chunks_length] at this; exact this
            obtain ⟨fn, tmps, assign, body, hy, hR⟩ := hY pre [W.heap.size] xb _ hJ' (by rw [blocks_length, hpl2]; omega)
            have Hcs := Go.Lib.hid hcs
            have Hfl := Go.Lib.hid hfl
            have Hxb := Go.Lib.hid hxb
            have Hpl := Go.Lib.hid hpl2
            clear hcs hfl hxb hpl2 f0
            dsimp only [encB] at hy
            refine (wpIn_wide (n := 0)).1 ?_
            gi_wp2_with ((with_reducible refine wpListIn_load_bkG (t := 105) W.heap.size _ (xb.1.map bv) _ hBk' (by kernel_rfl) Try.underlying105 rfl (blkSize xb) (by kernel_rfl) ?_))
            refine ⟨rfl, hR.mono ?_⟩
            clear hR hy
            rintro e W' (⟨rfl, hJn, hkp⟩ | ⟨rfl, hJn⟩)
            · have hNM : ∀ b, NB b → ¬ Mut b := fun b hb => (hNB b hb).2
              have hub2 : RdB NB W' (.slice (some ⟨bq, oq, none⟩) p.length cp) p := Rd.kept hub' hkp hNM
              have hrd2 := RdBB.kept hrd' hkp hNM
              have hBk2 := hkp.bk (.inl (by simp)) hBk'
              clear hub' hrd' hBk' hJ' hkp c0 f1
              gi_wp2
              go_wp2_with fail
              go_roundw
              case rel =>
                refine ⟨j + 1, m + 1, by omega, by go_num, by go_num, by rw [Hm'.out]; omega, ⟨_, pre ++ [xb], hJn, hBk2, by rw [List.length_map, xb.2], ?_, ?_, hrd2⟩, hub2⟩
                · have := H64.out
                  rw [this, rest_zero _ (by rw [List.length_take]; omega)]; rfl
                · have := H64.out
                  rw [show (m + 1) / 64 = m / 64 + 1 by omega, chunks_succ, List.map_append, Hpre.out, ← Hxb.out]; rfl
              case measure => simp [intOf]; omega
            · gi_wp2
              go_wp2_with fail
              refine bodyPost_ret (results_none rfl _ _ _) rfl ?_
              refine ⟨⟨_, rfl⟩, .inr ⟨pre ++ [xb], _, ?_, hJn⟩⟩
              have e : (pre ++ [xb]).map (·.1) = chunks (m / 64 + 1) parts.flatten := by
                rw [chunks_succ, List.map_append, Hpre.out, ← Hxb.out]; rfl
              rw [e]
              exact chunks_prefix _ _ (by have := H64.out; omega)
          · have t0 : (((m : Int) + 1) % 64 == 0) = false := by rw [beq_eq_false_iff_ne]; omega
            have H64 := Go.Lib.hid h64
            have Hm' := Go.Lib.hid hm'
            have Hct := Go.Lib.hid hct
            have Hpre := Go.Lib.hid hpre
            have Hxa := Go.Lib.hid hxa
            clear hx hxa h64 hm' hct hpre
            go_wp2_with fail
            go_roundw
            case rel =>
              refine ⟨j + 1, m + 1, by omega, by go_num, by go_num, by rw [Hm'.out]; omega, ⟨cs.set (m % 64) (bv x), pre, hJ', hBk', by simp [hcl], ?_, ?_, hrd'⟩, hub'⟩
              · have := H64.out
                rw [rest_more _ _ _ Hxa.out this, List.map_append, ← Hct.out, show (m + 1) % 64 = m % 64 + 1 by omega, List.take_add_one, List.take_set_of_le (by omega), List.getElem?_set_self (by omega)]
                rfl
              · have := H64.out
                rw [show (m + 1) / 64 = m / 64 by omega]; exact Hpre.out
            case measure => simp [intOf]; omega
        · obtain rfl : j = p.length := by omega
          have Hm' := Go.Lib.hid hm'
          clear hm'
          go_wp2_with fail
          go_roundw
          case rel => exact ⟨i + 1, m, by omega, by go_num, rfl, by rw [Hm'.out, Hn.out, hst.out], hbi⟩
          case measure => simp [intOf]; omega
    · obtain rfl : i = parts.length := by omega
      have hn2 : n = parts.flatten.length := by rw [hn, List.take_length]
      clear hn hv1 hv2 hi hlt
      obtain ⟨cs, pre, hJp, hBk, hcl, hct, hpre, hrd⟩ := hbi
      rw [show parts.flatten.take n = parts.flatten by rw [hn2, List.take_length]] at hct
      have Hn := Go.Lib.hid hn2
      have hnb : n ≤ 1125899906842624 := by rw [hn2]; exact hlen
      clear hn2 hlen
      obtain ⟨N, hN⟩ : ∃ N, N = n := ⟨_, rfl⟩
      subst hN
      have Hct := Go.Lib.hid hct
      have Hpre := Go.Lib.hid hpre
      clear hct hpre hrd
      have f0 := hBk.range
      go_wp2_with (first
        | ((with_reducible refine wpList_build_row zCells (fun _ => by kernel_rfl) ?_))
        | ((with_reducible refine wpList_alloc_row zCells infoBlk ?_))
        | ((with_reducible refine wpList_store_bk (t := 105) wr.heap.size 105 zCells zCells (Bk.new _ _ _) (by kernel_rfl) (by kernel_rfl) zSize rfl zOne ?_); intro w1 hE hg1 hz1))
      simp only [Act.put, List.setIfInBounds_toArray, List.set_cons_zero, List.set_cons_succ]
      have hM' : N % 64 < 64 := by omega
      have wM : ((N : Int) % 64).toNat = N % 64 := by omega
      have bM : 0 ≤ (N : Int) % 64 ∧ (N : Int) % 64 ≤ ((64 : Nat) : Int) := by omega
      have tM : (N : Int).tmod 64 = (N : Int) % 64 := Int.tmod_eq_emod_of_nonneg (by omega)
      go_still_tail 4, (by kernel_rfl)
      with_reducible refine wpStill_slice_hi (t := 105) (len := 64) Try.underlying105 (k := 1) (by kernel_rfl) W.heap.size ((N : Int) % 64) (by kernel_rfl) (by kernel_rfl) bM.1 bM.2 ?_
      refine wpStill_nil ?_
      rw [wM]
      have hBk1 := (hBk.alloc (.cells zCells.toArray 105)).grown hg1 (by have := hBk.lt; simp; omega)
      have hE' : Bk { w1 with drawn := w1.drawn + 1 } wr.heap.size 105 zCells := hE
      have hB' : Bk { w1 with drawn := w1.drawn + 1 } W.heap.size 105 cs := hBk1
      with_reducible refine wpList_copy_bk 5 Try.underlying27 (by kernel_rfl) (some ⟨wr.heap.size, 0, none⟩) (some ⟨W.heap.size, 0, none⟩) 64 64 (N % 64) 64 (by kernel_rfl) (by kernel_rfl) wr.heap.size 0 105 zCells hE' (cs.take (N % 64)) ?_ ?_ ?_ ?_ ?_
      · rw [List.length_take, hcl]
      · intro _
        refine ⟨rfl, _, rfl, fun j v hv => ?_⟩
        rw [Addr.add_mid, Nat.zero_add]
        rw [List.getElem?_take] at hv
        split at hv
        · exact hB'.cellAt hv
        · cases hv
      · rw [List.length_take, hcl]; show 0 + min (N % 64) 64 ≤ 64; omega
      · rw [Hct.out]; exact bOne _
      intro w2 hE2 hg2 hz2
      have hJ2 : J pre [wr.heap.size, W.heap.size] w2 :=
        hJ.wrote (hJ.grown (hJ.wrote (hJ.made (.cells zCells.toArray 105) hJp) (by simp) hg1) (gb_drew (gb_refl w1 none))) (by simp) hg2
      rw [Hct.out] at hE2
      have hl1 : (rest parts.flatten).length = N % 64 := by rw [rest_length, Hn.out]
      have hE3 : Bk w2 wr.heap.size 105 ((rest parts.flatten ++ List.replicate (64 - N % 64) 0).map bv) := by
        have e : zCells.take 0 ++ ((rest parts.flatten).map bv ++ zCells.drop (0 + ((rest parts.flatten).map bv).length)) = (rest parts.flatten ++ List.replicate (64 - N % 64) 0).map bv := by
          rw [List.length_map, hl1, zCells, List.drop_replicate, List.map_append, List.map_replicate]; simp
        rw [e] at hE2; exact hE2
      clear hE hE' hB' hBk1 hE2 hJp hBk f0 hg1 hz1 hg2 hz2 Hct tM wM bM
      have f0 : w2.cell? ⟨wr.heap.size, N % 64, none⟩ = some (bv 0) := hE3.cellAt (by
        rw [List.getElem?_map, List.getElem?_append_right (by omega), hl1, Nat.sub_self, List.getElem?_replicate, if_pos (by omega)]; rfl)
      have f1 := hE3.frozen (N % 64)
      have wM : ((N : Int) % 64).toNat = N % 64 := by omega
      have hE4 : Bk (w2.setCell ⟨wr.heap.size, N % 64, none⟩ (.int .u8 128)) wr.heap.size 105 ((rest parts.flatten ++ 0x80 :: List.replicate (63 - N % 64) 0).map bv) := by
        have := hE3.set (N % 64) (bv 0x80)
        rw [← List.map_set, List.set_append_right _ _ (by omega), hl1, Nat.sub_self, show 64 - N % 64 = (63 - N % 64) + 1 by omega, List.replicate_succ, List.set_cons_zero] at this
        exact this
      have hJ4 : J pre [wr.heap.size, W.heap.size] (w2.setCell ⟨wr.heap.size, N % 64, none⟩ (.int .u8 128)) := hJ.wrote hJ2 (r := wr.heap.size) (by simp) (gb_set1 _ _ _)
      have hH3 : (rest parts.flatten ++ 0x80 :: List.replicate (63 - N % 64) 0).length = 64 := by simp [hl1]; omega
      have Hl1 := Go.Lib.hid hl1
      clear hE3 hJ2 hl1
      by_cases h56 : N % 64 < 56
      · have t0 : ¬ (56 : Int) ≤ (N : Int) % 64 := by omega
        have hfin : Hid (pre.map (·.1) ++ [(rest parts.flatten ++ 0x80 :: List.replicate (63 - N % 64) 0).take 56 ++ be64 (8 * N)] = blocks parts.flatten) := by
          refine Go.Lib.hid ?_
          rw [blocks_lo _ (by rw [← Hn.out]; exact h56), Hpre.out, ← Hn.out]
          congr 2
          have := Hl1.out
          unfold lastOne
          rw [← Hn.out, List.take_append, List.take_of_length_le (by omega), this, show 56 - N % 64 = (55 - N % 64) + 1 by omega, List.take_succ_cons, List.take_replicate, show min (55 - N % 64) (63 - N % 64) = 55 - N % 64 by omega]
          simp
        go_upto_region 16 with (fail)
        iterate 17 go_step
        exact blocks_tail l J Jx Mut parts.flatten hJ hY N hnb _ hH3 _ wr.heap.size (by simp) pre _ hJ4 hE4 hfin _ _ _ _ _ _ _ _ _ _ _ _ _ _ _ _ _ _ _ _ _ _ _ _ _ _ _ _ _ _ _ _ _ _ _ _ _ _ _ _ _ _ _ _ _ _ _ _ _ _ _ _ _ _ _ _ _ _ _ _ _ _ _ _ _ _ _ _ _ _ _
      · have t0 : (56 : Int) ≤ (N : Int) % 64 := by omega
        obtain ⟨xb, hxb⟩ : ∃ xb : B64, xb.1 = rest parts.flatten ++ 0x80 :: List.replicate (63 - N % 64) 0 := ⟨⟨_, hH3⟩, rfl⟩
        rw [← hxb] at hE4
        have hbl := blocks_hi parts.flatten (by rw [← Hn.out]; omega)
        have hxA : xb.1 = lastA parts.flatten := by rw [hxb, lastA, ← Hn.out]
        have hpl2 : pre.length = N / 64 := by have := congrArg List.length Hpre.out; rw [List.length_map, chunks_length] at this; exact this
        obtain ⟨fn, tmps, assign, body, hy, hR⟩ := hY pre [wr.heap.size, W.heap.size] xb _ hJ4 (by rw [hbl, List.length_append, chunks_length, ← Hn.out, hpl2]; simp)
        have HxA := Go.Lib.hid hxA
        have Hbl := Go.Lib.hid hbl
        clear hxA hbl hpl2 hxb hH3
        dsimp only [encB] at hy
        go_upto_region 17 with (fail)
        clear f0 f1 wM t0
        refine (wpIn_wide (n := 0)).1 ?_
        gi_wp2_with ((with_reducible refine wpListIn_load_bk (t := 105) wr.heap.size _ (xb.1.map bv) _ hE4 (by kernel_rfl) Try.underlying105 rfl (blkSize xb) ?_))
        refine ⟨rfl, hR.mono ?_⟩
        clear hR hy
        rintro e W' (⟨rfl, hJn, hkp⟩ | ⟨rfl, hJn⟩)
        · have hE5 := hkp.bk (.inl (by simp)) hE4
          have h5 : (xb.1.map bv).length = zCells.length := by rw [List.length_map, xb.2]; rfl
          clear hE4 hJ4 hkp
          gi_wp2
          go_upto_region 18 with (fail)
          go_step
          with_reducible refine wpList_build_row zCells (fun _ => by kernel_rfl) ?_
          with_reducible refine wpList_store_bk (t := 105) wr.heap.size 105 (xb.1.map bv) zCells hE5 (by kernel_rfl) (by kernel_rfl) zSize h5 zOne ?_
          intro w6 hE6 hg6 hz6
          simp only [Act.put, List.setIfInBounds_toArray, List.set_cons_zero, List.set_cons_succ]
          iterate 3 go_step
          have hfin : Hid ((pre ++ [xb]).map (·.1) ++ [(List.replicate 64 (0 : UInt8)).take 56 ++ be64 (8 * N)] = blocks parts.flatten) := by
            refine Go.Lib.hid ?_
            rw [List.map_append, Hpre.out, Hbl.out, show [xb].map (·.1) = [xb.1] from rfl, HxA.out, ← Hn.out, lastB, ← Hn.out]
            simp
          exact blocks_tail l J Jx Mut parts.flatten hJ hY N hnb (List.replicate 64 0) (by simp) _ wr.heap.size (by simp) (pre ++ [xb]) _ (hJ.wrote hJn (by simp) hg6) hE6 hfin _ _ _ _ _ _ _ _ _ _ _ _ _ _ _ _ _ _ _ _ _ _ _ _ _ _ _ _ _ _ _ _ _ _ _ _ _ _ _ _ _ _ _ _ _ _ _ _ _ _ _ _ _ _ _ _ _ _ _ _ _ _ _ _ _ _ _ _ _ _ _
        · gi_wp2
          go_wp2_with fail
          refine bodyPost_ret (results_none rfl _ _ _) rfl ?_
          refine ⟨⟨_, rfl⟩, .inr ⟨pre ++ [xb], _, ?_, hJn⟩⟩
          rw [List.map_append, Hpre.out, Hbl.out, show [xb].map (·.1) = [xb.1] from rfl, HxA.out, ← Hn.out]
          exact ⟨[lastB parts.flatten], by simp⟩

end Go.Proofs.Ytajgklomcapboaa
