import Derived.Test.YtajgklomcapboaaTake
import Derived.Test.YtajgklomcapboaaBlk1
import Derived.Shelf.Abstract
/- The walk of sum.Of: the standard's sum of the parts' bytes. -/
namespace Go.Proofs.Ytajgklomcapboaa
open Go.RowKit Go.Shelf Sc
attribute [local go_sem] Oper.semAt_some

theorem calls_marks {P : Program} {f : FuncId} {fn : Func} {c : Code} {args : Array Value} {w : World} {R : Ending → World → Prop}
    (hf : P.funcs[f]? = some fn) (hb : fn.body = some c)
    (h : c.wp P (bodyPostM Fence.wide 0 P fn R) { tmps := args ++ Array.replicate (fn.ntmps - args.size) undef, defers := [] } w) : Calls P f args w R :=
  callsIn_wide.1 (callsIn_of_wp_marks hf hb trivial (wpIn_wide.2 h) rfl)

theorem blocks_call (A : Option Addr) (n c : Nat) (w : World) : Calls Try.prog 62 #[.slice A n c] w fun e w' => e = .returned (.func (.func 68) #[] #[.pointer (some ⟨w.heap.size, 0, none⟩)]) ∧ w' = w.alloc (.cells #[.slice A n c] 22) := by
  go_enter Try.func62, Try.ntmps62
  go_wp2
  go_ret
  exact ⟨rfl, rfl⟩

def idZ : List Value := List.replicate 32 (bv 0)
theorem infoId : ((Try.prog.info? 34).map fun i => (i.zero, i.size)) = some (some (.agg idZ.toArray), idZ.length) := by kernel_rfl

theorem zLen (x : B64) : zCells.length = (x.1.map bv).length := by rw [List.length_map, x.2]; rfl

/-- Between two blocks. -/
def OfI (w : World) (v : Value) (pre : List B64) (own : List Nat) (W : World) : Prop :=
  w.grownBy W none ∧ Bk W w.heap.size 34 idZ ∧ Bk W (w.heap.size + 1) 101 (((pre.map (·.1)).foldl comp init).list.map wd) ∧ Bk W (w.heap.size + 2) 22 [v] ∧ ∀ r ∈ own, w.heap.size + 2 < r

theorem ofI_abides (w : World) (v : Value) : Sc.Abides (OfI w v) := by
  refine ⟨?_, ?_, ?_⟩
  · rintro pre own W W' ⟨h1, h2, h3, h4, h5⟩ hg
    exact ⟨gb_trans h1 hg, h2.grown hg (by simp), h3.grown hg (by simp), h4.grown hg (by simp), h5⟩
  · rintro pre own W o ⟨h1, h2, h3, h4, h5⟩
    refine ⟨gb_alloc h1 o, h2.alloc o, h3.alloc o, h4.alloc o, fun r hr => ?_⟩
    rcases List.mem_cons.1 hr with e | e
    · rw [e]; exact h4.lt
    · exact h5 r e
  · rintro pre own W W' r ⟨h1, h2, h3, h4, h5⟩ hr hg
    have := h5 r hr
    exact ⟨gb_trans_new h1 hg (by omega), h2.grown hg (by simp; omega), h3.grown hg (by simp; omega), h4.grown hg (by simp; omega), h5⟩
theorem ofI_rec (w : World) (v : Value) (B : Nat) (hB : w.heap.size ≤ B) : AbidesRec B (OfI w v) := by
  rintro pre own W l o o' ⟨h1, h2, h3, h4, h5⟩ hl ho hr _
  exact ⟨gb_put h1 o' (by omega), h2.put o' ho hr, h3.put o' ho hr, h4.put o' ho hr, h5⟩

/-- The frame of a round. -/
def OfA (w : World) (A : Option Addr) (n c : Nat) (x : B64) (a : Act) (W : World) : Prop :=
  ∃ B, w.heap.size + 2 < B ∧ Bk W B 105 (x.1.map bv) ∧ a = { tmps := #[.slice A n c, undef, .pointer (some ⟨w.heap.size, 0, none⟩), .pointer (some ⟨w.heap.size + 1, 0, none⟩), .pointer (some ⟨B, 0, none⟩), undef, undef,
      .agg (init.list.map wd).toArray, .slice A n c, .func (.func 68) #[] #[.pointer (some ⟨w.heap.size + 2, 0, none⟩)], .agg (x.1.map bv).toArray, undef, undef, undef, undef, undef, undef, undef, undef, undef, undef, undef, undef, undef, undef, undef, undef, undef, undef], defers := [] }

/-- A sum behind i bytes. -/
def idl (s : St) (i : Nat) : List Value := (s.id.l.take i ++ List.replicate (32 - i) 0).map bv
theorem idl_zero (s : St) : idl s 0 = idZ := rfl
theorem idl_full (s : St) : idl s 32 = s.id.l.map bv := by
  unfold idl; rw [List.take_of_length_le (by rw [s.id.h]; omega)]; simp
theorem idl_length (s : St) (i : Nat) (h : i ≤ 32) : (idl s i).length = 32 := by
  unfold idl; rw [List.length_map, List.length_append, List.length_take, s.id.h, List.length_replicate]; omega
theorem idl_free (s : St) (i : Nat) (h : i < 32) : (idl s i)[i]? = some (bv 0) := by
  unfold idl
  have := s.id.h
  rw [List.getElem?_map, List.getElem?_append_right (by rw [List.length_take]; omega), List.length_take, List.getElem?_replicate, if_pos (by omega)]; rfl
theorem idl_set (s : St) (i : Nat) (h : i < 32) : (idl s i).set i (bv (s.id.l.getD i 0)) = idl s (i + 1) := by
  unfold idl
  have := s.id.h
  have hl : (s.id.l.take i).length = i := by rw [List.length_take]; omega
  rw [← List.map_set, List.set_append_right _ _ (by omega), hl, Nat.sub_self, show 32 - i = (32 - (i + 1)) + 1 by omega, List.replicate_succ, List.set_cons_zero, List.take_add_one,
    List.getElem?_eq_getElem (by omega), List.getD_eq_getElem?_getD, List.getElem?_eq_getElem (by omega), show 32 - (i + 1) = 31 - i by omega, Option.getD_some, Option.toList_some, List.append_assoc, List.singleton_append]

theorem idOne (x : Sc.Id) : ∀ v ∈ x.l.map bv, v.oneCell' = true := bOne _
theorem idSize (x : Sc.Id) : (Try.prog.info? 34).map (·.size) = some (x.l.map bv).length := by rw [List.length_map, x.h]; kernel_rfl
theorem idLen (x : Sc.Id) : idZ.length = (x.l.map bv).length := by rw [List.length_map, x.h]; rfl

theorem id_val (s : St) (i : Nat) (h : i < 32) : Value.int .u8 (wn (s.list.getD (i / 4) 0) / 2 ^ (24 - 8 * (i % 4)) % 256) = bv (s.id.l.getD i 0) := by
  rw [id_byte s i h]
  unfold bv wbyte wn
  rw [UInt8.toNat_ofNat', show (256 : Nat) ^ (3 - i % 4) = 2 ^ (24 - 8 * (i % 4)) by rw [show 24 - 8 * (i % 4) = 8 * (3 - i % 4) by omega, Nat.pow_mul]]
  simp

set_option maxHeartbeats 2000000 in
theorem of_any (v : Value) (parts : List (List UInt8)) (NB : Nat → Prop) (w : World) (hv : RdBB NB w v parts) (hNB : ∀ b, NB b → b < w.heap.size) (hlen : parts.flatten.length ≤ 1125899906842624) :
    Calls Try.prog 46 #[v] w fun e w' => e = .returned (idv (sha parts.flatten)) ∧ w.grownBy w' none := by
  refine calls_marks Try.func46 rfl ?_
  simp only [Try.ntmps46, List.size_toArray, List.length_cons, List.length_nil, Nat.reduceAdd, Nat.reduceSub, Array.replicate_succ, Array.replicate_zero, List.push_toArray, List.append_toArray, List.nil_append, List.cons_append]
  obtain ⟨vs, hv1, hv2⟩ := id hv
  obtain ⟨A, c, rfl, hc⟩ := hv1.form
  clear hv1 hv2 hc
  have hst := Bk.new (w.alloc (.cells idZ.toArray 34)) 101 sCells
  go_wp2_with (first
    | ((with_reducible refine wpList_build_row (init.list.map wd) (fun _ => by kernel_rfl) ?_))
    | ((with_reducible refine wpList_alloc_row (E := 34) idZ infoId ?_))
    | ((with_reducible refine wpList_alloc_row (E := 101) sCells infoSt ?_))
    | ((with_reducible refine wpList_store_bk (t := 101) (w.alloc (.cells idZ.toArray 34)).heap.size 101 sCells (init.list.map wd) hst (by kernel_rfl) (by kernel_rfl) (stSize _) (stLen _) (stOne _) ?_); intro w1 hs1 hg1 hz1)
    | (go_at_call 62; ((with_reducible refine (blocks_call _ _ _ _).mono ?_); rintro e w' ⟨rfl, rfl⟩)))
  rw [World.size_alloc] at hs1 hg1
  have hI0 : OfI w (.slice A parts.length c) [] [] (w1.alloc (.cells #[.slice A parts.length c] 22)) := by
    have hz : w1.heap.size = w.heap.size + 2 := by rw [hz1]; simp
    refine ⟨gb_alloc (gb_trans_new (gb_alloc (gb_alloc (gb_refl w none) _) _) hg1 (by omega)) _, ?_, (hs1.alloc _), ?_, by simp⟩
    · exact Bk.alloc (((Bk.new w 34 idZ).alloc _).grown hg1 (by simp)) _
    · have := Bk.new w1 22 [.slice A parts.length c]
      rwa [hz] at this
  have hz : w1.heap.size = w.heap.size + 2 := by rw [hz1]; simp
  rw [show w.heap.size + 1 + 1 = w.heap.size + 2 from rfl]
  have hz0 : (w1.alloc (.cells #[.slice A parts.length c] 22)).heap.size = w.heap.size + 3 := by rw [World.size_alloc, hz]
  clear hs1 hg1 hst hz hz1
  generalize w1.alloc (.cells #[.slice A parts.length c] 22) = W0 at *
  have hv0 : RdBB NB W0 (.slice A parts.length c) parts := hv.grown hI0.1 (by simp)
  have hseq := blocks_seq (w.heap.size + 2) (.slice A parts.length c) parts NB (fun k => k = w.heap.size + 1) W0 hI0.2.2.2.1 (by simp) hv0
    (fun b hb => ⟨by have := hNB b hb; omega, by have := hNB b hb; show b ≠ _; omega⟩) (fun b hb => by rw [hb, hz0]; omega) hlen
  have Hz0 := Go.Lib.hid hz0
  clear hz0 hv0
  refine (wpIn_wide (n := 0)).1 (range_law (gf := 68) (lb := #[.pointer (some ⟨w.heap.size + 2, 0, none⟩)]) rfl (enters_of Try.func68 (by kernel_rfl) rfl)
    hseq (Below.refl _ _) (fun _ => rfl) (OfI w (.slice A parts.length c)) (fun _ _ _ _ => False)
    (OfA w A parts.length c)
    (ofI_abides w _) (fun _ => ⟨fun h _ => h, fun _ h => h, fun h _ _ => h⟩) (ofI_rec w _ _ (by rw [Hz0.out]; omega)) (fun _ => fun _ h _ _ _ _ => h)
    (fun o' ⟨B, h1, h2, h3⟩ ho hr => ⟨B, h1, h2.put o' ho hr, h3⟩) hI0 ?assign ?body ?done ?stop)
  case assign =>
    intro l pre own x W hi hlen2
    simp only [encB, List.zip_toArray, List.zip_cons_cons, List.zip_nil_right, List.size_toArray, List.length_cons, List.length_nil, List.foldl_toArray', List.foldl_cons, List.foldl_nil, List.setIfInBounds_toArray, List.set_cons_zero, List.set_cons_succ]
    gi_wp2_with (first
      | ((with_reducible refine wpListIn_alloc_row (E := 105) zCells infoBlk ?_))
      | ((with_reducible refine wpListIn_store_bk (t := 105) W.heap.size 105 zCells (x.1.map bv) (Bk.new _ _ _) (by kernel_rfl) (by kernel_rfl) (blkSize x) (zLen x) (bOne _) ?_); intro w2 hs2 hg2 hz2))
    have hg3 : W.grownBy w2 none := gb_trans_new (gb_alloc (gb_refl W none) _) hg2 (Nat.le_refl _)
    exact ⟨(ofI_abides w _).grown hi hg3, ⟨W.heap.size, hi.2.2.2.1.lt, hs2, rfl⟩, KeepsFrom.of_grownBy hg3 (fun j e => by cases e), Kept.grown hg3 (fun r e => by cases e)⟩
  case body =>
    rintro l pre own x a₁ W hi ⟨B, hB, hBk, rfl⟩ hlen2
    have hst := hi.2.2.1
    gi_wp2_with ((refine ⟨trivial, rfl, ?_⟩; gi_at_call 63; refine (CallsIn.inRound l (callsIn_wide.2 (take_any (w.heap.size + 1) B _ x.1 x.2 W hst hBk))).mono ?_; rintro e w' ⟨rfl, hg, hb⟩))
    have hown : w.heap.size + 1 ∉ own := fun h => by have := hi.2.2.2.2 _ h; omega
    refine ⟨KeepsFrom.of_grownBy hg (fun j e => by cases e; rw [Hz0.out]; omega), Kept.grown hg (fun r e => by cases e; exact ⟨rfl, hown⟩), ?_⟩
    refine ⟨gb_trans_new hi.1 hg (by omega), hi.2.1.grown hg (by simp), ?_, hi.2.2.2.1.grown hg (by simp), hi.2.2.2.2⟩
    rw [List.map_append, List.foldl_append]
    exact hb
  case done =>
    intro xs own W hS hi hK
    obtain ⟨g1, b1, b2, _, _⟩ := hi
    rw [hS] at b2
    obtain ⟨st, hst⟩ : ∃ st, st = (blocks parts.flatten).foldl comp init := ⟨_, rfl⟩
    rw [← hst] at b2
    have Hst := Go.Lib.hid hst
    have HK := Go.Lib.hid hK
    clear hst hK hS hseq hI0 hv
    go_wp2_with ((with_reducible refine wpList_alloc_row (E := 34) idZ infoId ?_))
    have b3 := Bk.new W 34 idZ
    have hKa : (W.alloc (.cells idZ.toArray 34)).heap[W0.heap.size]? = some (.deferred (some [])) := (Below.heap_alloc _ _ _ (Array.getElem?_eq_some_iff.1 HK.out).1).trans HK.out
    have g2 := gb_alloc g1 (.cells idZ.toArray 34)
    have b4 := b1.alloc (.cells idZ.toArray 34)
    have b5 := b2.alloc (.cells idZ.toArray 34)
    have hlt0 : w.heap.size + 1 < W.heap.size := b2.lt
    have HKa := Go.Lib.hid hKa
    clear hKa g1 b1 b2
    go_loopw [12] (fun v wr => ∃ i : Nat, i ≤ 32 ∧ v = .int .i64 i ∧ w.grownBy wr none ∧ Bk wr w.heap.size 34 idZ ∧ Bk wr (w.heap.size + 1) 101 (st.list.map wd) ∧ Bk wr W.heap.size 34 (idl st i) ∧ Hid (wr.heap[W0.heap.size]? = some (.deferred (some []))))
      (fun v _ => 32 - (intOf v).toNat)
    case atStart => exact ⟨0, by omega, rfl, g2, b4, b5, b3, HKa⟩
    case round =>
      clear g2 b4 b5 b3 HKa
      obtain ⟨i, hi, rfl, g2, b4, b5, b3, HKa⟩ := hrel
      by_cases hlt : i < 32
      · have c0 : wr.cell? ⟨w.heap.size + 1, i / 4, none⟩ = some (.int .u32 (wn (st.list.getD (i / 4) 0))) := b5.cellAt (stAt st (i / 4) (by omega))
        obtain ⟨xw, hxw⟩ : ∃ x, x = st.list.getD (i / 4) 0 := ⟨_, rfl⟩
        rw [← hxw] at c0
        have Hxw := Go.Lib.hid hxw
        clear hxw
        have f0 := b3.cellAt (idl_free st i hlt)
        have f1 := b3.frozen i
        have hx0 := wn_bd xw
        have t0 : ((i : Int) / 4).toNat = i / 4 := by omega
        go_wp2_with fail
        go_roundw
        case rel =>
          rw [Hxw.out, id_val st i hlt]
          refine ⟨i + 1, by omega, by go_num, gb_set_new g2 _ _ (by simp; omega), b4.far (by simp; omega) _, b5.far (by simp; omega) _, ?_, ?_⟩
          · rw [← idl_set st i hlt]; exact b3.set i _
          · exact Go.Lib.hid ((Below.heap_setCell _ _ _ _ (by have := HKa.out; intro e; dsimp only at e; rw [e] at this; unfold Bk at b3; rw [b3] at this; cases this)).trans HKa.out)
        case measure => simp [intOf]; omega
      · obtain rfl : i = 32 := by omega
        rw [idl_full] at b3
        go_wp2_with (first
          | ((with_reducible refine wpList_load_bk (t := 34) W.heap.size _ (st.id.l.map bv) _ b3 (by kernel_rfl) Try.underlying34 rfl (idSize _) ?_))
          | ((with_reducible refine wpList_store_bk (t := 34) w.heap.size 34 idZ (st.id.l.map bv) b4 (by kernel_rfl) (by kernel_rfl) (idSize _) (idLen _) (idOne _) ?_); intro w5 h5 g5 z5))
        simp only [Act.put, List.setIfInBounds_toArray, List.set_cons_zero, List.set_cons_succ]
        have hK5 : w5.heap[W0.heap.size]? = some (.deferred (some [])) := (g5.block _ (Array.getElem?_eq_some_iff.1 HKa.out).1 (by rw [Hz0.out]; simp)).trans HKa.out
        have h6 : Bk (w5.putObj W0.heap.size (.deferred none)) w.heap.size 34 (st.id.l.map bv) := h5.put _ hK5 rfl
        refine ⟨by simp, .inl ⟨_, _, rfl, run_takeDeferred hK5, ?_⟩⟩
        refine ⟨_, results_cell_row rfl _ _ w.heap.size 34 (st.id.l.map bv).toArray (0, 0) _ rfl h6 Try.underlying34 rfl (by simpa using idSize st.id), ?_⟩
        refine ⟨?_, gb_put (gb_trans_new g2 g5 (Nat.le_refl _)) _ (by rw [Hz0.out]; omega)⟩
        rw [Hst.out]; rfl
  case stop =>
    intro c pre own W _ h _
    exact h.elim

end Go.Proofs.Ytajgklomcapboaa
