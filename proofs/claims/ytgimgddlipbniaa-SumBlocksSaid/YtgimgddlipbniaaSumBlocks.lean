import Derived.Test.YtgimgddlipbniaaKnown
import Derived.Test.YtgimgddlipbniaaGi
import Derived.Test.YtgimgddlipbniaaCut
import Derived.Test.YtgimgddlipbniaaRegionIn
import Derived.Test.YtgimgddlipbniaaFilled
/- SumBlocks: the walk. -/
namespace Go.Proofs.Ytgimgddlipbniaa
open Go.RowKit Go.Shelf Sc

attribute [local go_sem] Oper.semAt_some

def sbJoin (pre : List B64) : List UInt8 := (pre.map (·.1)).flatten
theorem sbJoin_snoc (pre : List B64) (x : B64) : sbJoin (pre ++ [x]) = sbJoin pre ++ x.1 := by simp [sbJoin]
theorem sbJoin_length (pre : List B64) : (sbJoin pre).length = 64 * pre.length := by
  induction pre with
  | nil => rfl
  | cons x pre ih => simp only [sbJoin, List.map_cons, List.flatten_cons, List.length_append, x.2, List.length_cons] at ih ⊢; omega
theorem chunks_flatten (n : Nat) (l : List UInt8) : (chunks n l).flatten = l.take (64 * n) := by
  induction n with
  | zero => simp [chunks]
  | succ n ih => rw [chunks_succ, List.flatten_append, ih, show 64 * (n + 1) = 64 * n + 64 by omega, List.take_add]; simp
theorem join_prefix (pre : List B64) (L : List UInt8) (h : pre.map (·.1) <+: blocks L) : sbJoin pre = (padded L).take (64 * pre.length) := by
  have hl : pre.length ≤ (L.length + 72) / 64 := by have := h.length_le; rwa [List.length_map, blocks_length] at this
  have e : pre.map (·.1) = chunks pre.length (padded L) := by
    have h1 := List.prefix_iff_eq_take.1 h
    rw [List.length_map] at h1
    rw [h1]
    unfold blocks
    conv => lhs; rw [show (L.length + 72) / 64 = pre.length + ((L.length + 72) / 64 - pre.length) by omega, chunks_add]
    rw [List.take_left' (chunks_length _ _)]
  unfold sbJoin
  rw [e, chunks_flatten]
theorem join_all (pre : List B64) (L : List UInt8) (h : pre.map (·.1) = blocks L) : sbJoin pre = padded L := by
  rw [join_prefix pre L (h ▸ List.prefix_refl _)]
  have : pre.length = (L.length + 72) / 64 := by have := congrArg List.length h; rwa [List.length_map, blocks_length] at this
  rw [this, List.take_of_length_le (by rw [padded_length]; omega)]
def sbB (m g n : Nat) (most : Int) (pre : List B64) : List (Nat × TypeId × List Value) := [(g, 9, [sv (sbJoin pre)]), (n, 3, [.int .i64 (pre.length : Int)]), (m, 3, [.int .i64 most])]
def sbP (most : Int) (pre : List B64) : Prop := ¬ (1 ≤ most ∧ most ≤ (pre.length : Int))
def sbX (B : Nat) (w : World) (m g n : Nat) (most : Int) (c : Code) (pre : List B64) (own : List Nat) (W : World) : Prop := c = .exit 0 ∧ ((pre.length : Int) = most ∧ 1 ≤ most) ∧ GI B w (sbB m g n most) pre own W
theorem sbX_abides {B : Nat} {w : World} {m g n : Nat} {most : Int} (hB : w.heap.size ≤ B) (c : Code) : Sc.Abides (sbX B w m g n most c) :=
  ⟨fun h hg => ⟨h.1, h.2.1, (GI.abides hB).grown h.2.2 hg⟩, fun o h => ⟨h.1, h.2.1, (GI.abides hB).made o h.2.2⟩, fun h hr hg => ⟨h.1, h.2.1, (GI.abides hB).wrote h.2.2 hr hg⟩⟩
theorem sbX_rec {B : Nat} {w : World} {m g n : Nat} {most : Int} (B' : Nat) (hB : w.heap.size ≤ B') (c : Code) : AbidesRec B' (sbX B w m g n most c) :=
  fun o' h hl ho hr hr' => ⟨h.1, h.2.1, GI.rec B' hB o' h.2.2 hl ho hr hr'⟩

def sbA (A2 A A3 A4 : Option Addr) (c2 c c3 c4 q n z q2 p g : Nat) (most : Int) (L : List UInt8) (x : B64) (a : Act) (W : World) : Prop :=
  ∃ b, g + 1 < b ∧ Bk W b 34 (x.1.map bv) ∧ a = { tmps := #[.slice A2 q c2, .int .i64 most, undef, .pointer (some ⟨p, 0, none⟩), .bool false, sv (padded L), .pointer (some ⟨g, 0, none⟩), .pointer (some ⟨g + 1, 0, none⟩), .pointer (some ⟨b, 0, none⟩), .bool true, .bool false,
    .slice A n c, .slice A n c, .int .i64 n, .int .i64 q, .slice A2 q c2, .slice A2 q c2, sv L, sv (padded L), .slice A2 q c2, .slice A2 q c2, .int .i64 q, .int .i64 z, .slice A3 z c3, .slice A2 q c2, .slice A2 q c2, .int .i64 q, .int .i64 z, .slice A4 q2 c4,
    .slice (some ⟨g + 2, 0, none⟩) 2 2, .func (.func 43) #[] #[.pointer (some ⟨g + 2 + 1, 0, none⟩)], .agg (x.1.map bv).toArray, undef, undef, undef, undef, undef, undef, undef, undef, undef, undef, undef, undef, undef, undef, undef, undef, undef, undef, undef, undef, undef, undef, undef, undef, undef, undef, undef], defers := [] }

set_option maxHeartbeats 1000000 in
theorem sumBlocks_walk (v : Value) (l : List UInt8) (most : Int) (NB : Nat → Prop) (w : World) (hv : RdB NB w v l) (hNB : ∀ b, NB b → b < w.heap.size) :
    Calls Try.prog 4 #[v, .int .i64 most] w fun e w' => e = .returned (.bool true) ∧ w.grownBy w' none := by
  refine calls_marks Try.func4 rfl ?_
  simp only [Try.ntmps4, List.size_toArray, List.length_cons, List.length_nil, Nat.reduceAdd, Nat.reduceSub, Array.replicate_succ, Array.replicate_zero, List.push_toArray, List.append_toArray, List.nil_append, List.cons_append]
  obtain ⟨A, c, rfl, hc⟩ := hv.form
  obtain ⟨q, hq⟩ : ∃ q, q = min l.length 500 := ⟨_, rfl⟩
  have hmin : min l.length 500 = q := hq.symm
  have hql : q ≤ l.length := by omega
  have hq5 : q ≤ 500 := by omega
  clear hq
  obtain ⟨L, hL⟩ : ∃ L, L = (l.drop 0).take (q - 0) := ⟨_, rfl⟩
  have hLl : L.length = q := by rw [hL, List.length_take, List.length_drop]; omega
  have HL := Go.Lib.hid hL
  clear hL
  have hLt : L.length ≤ 1099511627776 := by omega
  go_wp2_with (first
    | (go_at_call 15; ((with_reducible refine (known_any _).mono ?_); rintro e w1 ⟨rfl, g1⟩)
       have hv1 : RdB NB w1 (.slice A l.length c) l := Rd.grown (Rd.alloc hv _) g1 (by simp))
    | ((with_reducible refine wpList_min (x := .tmp 13) l.length 500 q hmin (by kernel_rfl) (by kernel_rfl) ?_))
    | ((with_reducible refine wpList_cutB (x := .tmp 11) Try.underlying24 (by kernel_rfl) hv1 (by kernel_rfl) 0 q (.inl ⟨rfl, rfl⟩) (.inr ⟨_, rfl, by kernel_rfl⟩) (Nat.zero_le _) hql L q HL.out (Nat.sub_zero q).symm ?_)
       intro A2 c2 hc2 hv2)
    | ((with_reducible refine wpList_conv_bs (x := .tmp 16) (v := .slice A2 q c2) Try.underlying24 Try.underlying5 Try.underlying9 L (by kernel_rfl) hv2 ?_))
    | (go_at_call 18; ((with_reducible refine (filled_any L hLt _).mono ?_); rintro e w2 ⟨rfl, g2⟩)))
  obtain ⟨W3, hW3⟩ : ∃ W3, W3 = (w2.alloc (.cells #[.string ⟨#[]⟩] 9)).alloc (.cells #[.int .i64 0] 3) := ⟨_, rfl⟩
  have z3 : W3.heap.size = w2.heap.size + 2 := by rw [hW3, World.size_alloc, World.size_alloc]
  have hv3 : RdB NB W3 (.slice A2 q c2) L := by rw [hW3]; exact Rd.alloc (Rd.alloc (Rd.grown hv2 g2 (by simp)) _) _
  have bg : Bk W3 w2.heap.size 9 [sv []] := by rw [hW3]; exact (Bk.new w2 9 [sv []]).alloc _
  have bn : Bk W3 (w2.heap.size + 1) 3 [.int .i64 0] := by
    have := Bk.new (w2.alloc (.cells #[.string ⟨#[]⟩] 9)) 3 [.int .i64 0]
    rw [World.size_alloc] at this; rw [hW3]; exact this
  have bm : Bk W3 w.heap.size 3 [.int .i64 most] := by
    rw [hW3]; exact ((((Bk.new w 3 [.int .i64 most]).grown g1 (by simp)).grown g2 (by simp)).alloc _).alloc _
  have g0 : w.grownBy W3 none := by rw [hW3]; exact gb_alloc (gb_alloc (gb_trans (gb_trans (gb_alloc (gb_refl w none) _) g1) g2) _) _
  have hw2 : w.heap.size < w2.heap.size := by have := g1.size; rw [World.size_alloc] at this; have := g2.size; omega
  obtain ⟨z, hz⟩ : ∃ z, z = q / 3 := ⟨_, rfl⟩
  have hzq : z ≤ q := by omega
  have d1 : (q : Int).tdiv 3 = (z : Int) := by rw [hz, Int.ofNat_tdiv]; rfl
  have d2 : (q : Int) / 3 = (z : Int) := by omega
  have d3 : IntKind.i64.wrap (z : Int) = (z : Int) := IntWalk.i64_in _ (by omega)
  obtain ⟨L1, hL1⟩ : ∃ L1, L1 = (L.drop 0).take (z - 0) := ⟨_, rfl⟩
  obtain ⟨L2, hL2⟩ : ∃ L2, L2 = (L.drop z).take (q - z) := ⟨_, rfl⟩
  obtain ⟨q2, hq2⟩ : ∃ q2, q2 = q - z := ⟨_, rfl⟩
  have HZ := Go.Lib.hid hz
  have HL1 := Go.Lib.hid hL1
  have HL2 := Go.Lib.hid hL2
  have HQ2 := Go.Lib.hid hq2
  have HLl := Go.Lib.hid hLl
  have hzL : z ≤ L.length := by omega
  have hqL : q ≤ L.length := by omega
  clear hz hL1 hL2 hq2 hLl hv1 hv2 g1 g2 hc
  rw [← hW3]
  clear hW3
  have hv3d : RdB NB { W3 with drawn := W3.drawn + 1 } (.slice A2 q c2) L := hv3
  go_still_tail 10, (by kernel_rfl)
  with_reducible refine wpStill_cutB (x := .tmp 19) Try.underlying24 (by kernel_rfl) hv3d (by kernel_rfl) 0 z (.inl ⟨rfl, rfl⟩) (.inr ⟨_, rfl, by kernel_rfl⟩) (Nat.zero_le _) hzL L1 z HL1.out (Nat.sub_zero z).symm ?_
  intro A3 c3 hc3 hv4
  go_frame
  iterate 4 still_step
  with_reducible refine wpStill_cutB (x := .tmp 24) Try.underlying24 (by kernel_rfl) hv3d (by kernel_rfl) z q (.inr ⟨_, rfl, by kernel_rfl⟩) (.inl ⟨rfl, HLl.out.symm⟩) hzq hqL L2 q2 HL2.out HQ2.out ?_
  intro A4 c4 hc4 hv5
  go_frame
  refine wpStill_nil ?_
  obtain ⟨W4, hW4⟩ : ∃ W4, W4 = ({ W3 with drawn := W3.drawn + 1 } : World) := ⟨_, rfl⟩
  rw [← hW4] at hv4 hv5 ⊢
  have z4 : W4.heap.size = w2.heap.size + 2 := by rw [hW4]; exact z3
  have bg4 : Bk W4 w2.heap.size 9 [sv []] := by rw [hW4]; exact bg
  have bn4 : Bk W4 (w2.heap.size + 1) 3 [.int .i64 0] := by rw [hW4]; exact bn
  have bm4 : Bk W4 w.heap.size 3 [.int .i64 most] := by rw [hW4]; exact bm
  have g4 : w.grownBy W4 none := by rw [hW4]; exact gb_drew g0
  clear hW4 hv3 hv3d bg bn bm g0 z3 hv
  go_wp2_with (go_at_call 19; ((with_reducible refine (blocks_call _ _ _ _).mono ?_); rintro e w' ⟨rfl, rfl⟩))
  obtain ⟨g, hg⟩ : ∃ g, g = w2.heap.size := ⟨_, rfl⟩
  rw [← hg] at z4 bg4 bn4 hw2 ⊢
  clear hg
  obtain ⟨W0, hW0⟩ : ∃ W0, W0 = (W4.alloc (.cells #[.slice A3 z c3, .slice A4 q2 c4] 24)).alloc (.cells #[.slice (some ⟨g + 2, 0, none⟩) 2 2] 22) := ⟨_, rfl⟩
  have s5 : (W4.alloc (.cells #[.slice A3 z c3, .slice A4 q2 c4] 24)).heap.size = g + 3 := by rw [World.size_alloc, z4]
  have z0 : W0.heap.size = g + 4 := by rw [hW0, World.size_alloc, s5]
  have r2 := RdBB.built2 (NB' := fun b => b < w.heap.size ∨ b = g + 2) 24 hv4 hv5 (fun b hb => .inl (hNB b hb)) (.inr z4)
  rw [z4] at r2
  have r3 : RdBB (fun b => b < w.heap.size ∨ b = g + 2) W0 (.slice (some ⟨g + 2, 0, none⟩) 2 2) [L1, L2] := by rw [hW0]; exact r2.alloc _
  have bp : Bk W0 (g + 3) 22 [.slice (some ⟨g + 2, 0, none⟩) 2 2] := by
    have := Bk.new (W4.alloc (.cells #[.slice A3 z c3, .slice A4 q2 c4] 24)) 22 [.slice (some ⟨g + 2, 0, none⟩) 2 2]
    rw [s5] at this; rw [hW0]; exact this
  have bg : Bk W0 g 9 [sv []] := by rw [hW0]; exact (bg4.alloc _).alloc _
  have bn : Bk W0 (g + 1) 3 [.int .i64 0] := by rw [hW0]; exact (bn4.alloc _).alloc _
  have bm : Bk W0 w.heap.size 3 [.int .i64 most] := by rw [hW0]; exact (bm4.alloc _).alloc _
  have g0 : w.grownBy W0 none := by rw [hW0]; exact gb_alloc (gb_alloc g4 _) _
  have hf : [L1, L2].flatten = L := by
    simp only [List.flatten_cons, List.flatten_nil, List.append_nil]
    rw [HL1.out, HL2.out, List.drop_zero, Nat.sub_zero, ← HLl.out]
    conv => rhs; rw [← List.take_append_drop z L]
    congr 1
    rw [List.take_of_length_le (by rw [List.length_drop]; omega)]
  rw [← hW0]
  have hseq := blocks_seq (g + 3) _ [L1, L2] _ (fun k => k = g ∨ k = g + 1) W0 bp (by omega) r3 (fun b hb => ⟨by omega, by omega⟩) (fun b hb => by omega) (by rw [hf]; omega)
  rw [hf] at hseq
  clear s5 r2 r3 hf hW0 bp bg4 bn4 bm4 g4 z4 hv4 hv5
  refine (wpIn_wide (n := 0)).1 (range_law (gf := 43) (lb := #[.pointer (some ⟨g + 2 + 1, 0, none⟩)]) rfl (enters_of Try.func43 (by kernel_rfl) rfl)
    hseq (Below.refl _ _) (fun _ => rfl) (GIp (sbP most) (g + 2) w (sbB w.heap.size g (g + 1) most)) (sbX (g + 2) w w.heap.size g (g + 1) most)
    (sbA A2 A A3 A4 c2 c c3 c4 q l.length z q2 w.heap.size g most L)
    (GIp.abides (by omega)) (fun c => sbX_abides (by omega) c) (GIp.rec _ g0.size) (fun c => sbX_rec _ g0.size c)
    (fun o' ⟨B, h1, h2, h3⟩ ho hr => ⟨B, h1, h2.put o' ho hr, h3⟩) ⟨?base, g0, ?blk, by omega, by simp⟩ ?assign ?body ?done ?stop)
  case base => unfold sbP; simp; omega
  case blk => simp [sbB, sbJoin, bg, bn, bm]; omega
  case assign =>
    intro l pre own x W hi hlen
    simp only [encB, List.zip_toArray, List.zip_cons_cons, List.zip_nil_right, List.size_toArray, List.length_cons, List.length_nil, List.foldl_toArray', List.foldl_cons, List.foldl_nil, List.setIfInBounds_toArray, List.set_cons_zero, List.set_cons_succ]
    gi_wp2_with (first
      | ((with_reducible refine wpListIn_alloc_row (E := 34) zCells infoBlk ?_))
      | ((with_reducible refine wpListIn_store_bk (t := 34) W.heap.size 34 zCells (x.1.map bv) (Bk.new _ _ _) (by kernel_rfl) (by kernel_rfl) (blkSize x) (zLen x) (bOne _) ?_); intro w2 hs2 hg2 hz2))
    have hg3 : W.grownBy w2 none := gb_trans_new (gb_alloc (gb_refl W none) _) hg2 (Nat.le_refl _)
    exact ⟨(GIp.abides (by omega)).grown hi hg3, ⟨W.heap.size, hi.2.2.2.1, hs2, rfl⟩, KeepsFrom.of_grownBy hg3 (fun j e => by cases e), Kept.grown hg3 (fun r e => by cases e)⟩
  case body =>
    rintro l pre own x a₁ W hi ⟨B, hB, hBk, rfl⟩ hlen
    have c0 : W.cell? ⟨g, 0, none⟩ = some (sv (sbJoin pre)) := (hi.2.2.1 (g, 9, _) (List.mem_cons_self ..)).1.cellAt rfl
    have c1 : W.cell? ⟨g + 1, 0, none⟩ = some (.int .i64 (pre.length : Int)) := (hi.2.2.1 (g + 1, 3, _) (List.mem_cons_of_mem _ (List.mem_cons_self ..))).1.cellAt rfl
    have c2 : W.cell? ⟨w.heap.size, 0, none⟩ = some (.int .i64 most) := (hi.2.2.1 (w.heap.size, 3, _) (List.mem_cons_of_mem _ (List.mem_cons_of_mem _ (List.mem_cons_self ..)))).1.cellAt rfl
    have f0 : W.frozen? ⟨g, 0, none⟩ = false := (hi.2.2.1 (g, 9, _) (List.mem_cons_self ..)).1.frozen 0
    have f1 : W.frozen? ⟨g + 1, 0, none⟩ = false := (hi.2.2.1 (g + 1, 3, _) (List.mem_cons_of_mem _ (List.mem_cons_self ..))).1.frozen 0
    have hB' : Bk ({ W with drawn := W.drawn + 1 } : World) B 34 (x.1.map bv) := hBk
    have hrb : RdB (fun _ => True) { W with drawn := W.drawn + 1 } (.slice (some ⟨B, 0, none⟩) 64 64) x.1 := by
      have := Rd.mk' (NB := fun _ => True) (k := 1) (n := 64) (c := 64) hB'.range trivial (Nat.le_refl _) (by decide) (by rw [List.length_map, x.2])
      unfold RdB; rw [x.2]; exact this
    have hjl : (sbJoin pre).length + x.1.length ≤ 9223372036854775807 := by
      rw [sbJoin_length, x.2]; rw [blocks_length] at hlen; omega
    have c0' : ({ W with drawn := W.drawn + 1 } : World).cell? ⟨g, 0, none⟩ = some (sv (sbJoin pre)) := c0
    have f0' : ({ W with drawn := W.drawn + 1 } : World).frozen? ⟨g, 0, none⟩ = false := f0
    dsimp only
    gi_wp2_with fail
    refine wpIn_region_still_tail' 4 (by kernel_rfl) (by kernel_rfl) ?_
    simp only [List.take_succ_cons, List.take_zero, List.drop_succ_cons, List.drop_zero]
    iterate 2 still_step
    with_reducible refine wpStill_conv_bs Try.underlying24 Try.underlying5 Try.underlying9 x.1 (by kernel_rfl) hrb ?_
    with_reducible refine wpStill_add_str (sbJoin pre) x.1 (by kernel_rfl) (by kernel_rfl) hjl ?_
    refine wpStill_nil ?_
    go_frame
    with_reducible refine wpListIn_store_sv g 0 (sbJoin pre ++ x.1) (by kernel_rfl) c0' f0' (by kernel_rfl) (by kernel_rfl) ?_
    obtain ⟨W1, hW1⟩ : ∃ W1, W1 = ({ W with drawn := W.drawn + 1 } : World).setCell ⟨g, 0, none⟩ (sv (sbJoin pre ++ x.1)) := ⟨_, rfl⟩
    rw [← hW1]
    have gW1 : W.grownBy W1 (some g) := by rw [hW1]; exact gb_trans (gb_drew (gb_refl W _)) (gb_set1 _ _ _)
    have d0 : Bk W1 g 9 [sv (sbJoin pre ++ x.1)] := by
      have h := (hi.2.2.1 (g, 9, _) (List.mem_cons_self ..)).1
      have h2 : Bk ({ W with drawn := W.drawn + 1 } : World) g 9 [sv (sbJoin pre)] := h
      rw [hW1]; exact h2.set 0 _
    have d1 : Bk W1 (g + 1) 3 [.int .i64 (pre.length : Int)] := (hi.2.2.1 (g + 1, 3, _) (List.mem_cons_of_mem _ (List.mem_cons_self ..))).1.grown gW1 (by simp)
    have d2 : Bk W1 w.heap.size 3 [.int .i64 most] := (hi.2.2.1 (w.heap.size, 3, _) (List.mem_cons_of_mem _ (List.mem_cons_of_mem _ (List.mem_cons_self ..)))).1.grown gW1 (by simp; omega)
    clear hW1 c0 c1 c2 f0 f1 c0' f0' hrb hB' hBk
    have c1 := d1.cellAt (i := 0) rfl
    have f1 := d1.frozen 0
    have hl : pre.length < (L.length + 72) / 64 := by rwa [blocks_length] at hlen
    have hwr : IntKind.i64.wrap ((pre.length : Int) + 1) = (pre.length : Int) + 1 := IntWalk.i64_in _ (by omega)
    have c2 : (W1.setCell ⟨g + 1, 0, none⟩ (.int .i64 ((pre.length : Int) + 1))).cell? ⟨w.heap.size, 0, none⟩ = some (.int .i64 most) := (d2.far (by simp; omega) _).cellAt rfl
    have gW2 : W1.grownBy (W1.setCell ⟨g + 1, 0, none⟩ (.int .i64 ((pre.length : Int) + 1))) (some (g + 1)) := gb_set1 _ _ _
    have hsz : w.heap.size ≤ W.heap.size := hi.2.1.size
    have hKF : KeepsFrom W0.heap.size W (W1.setCell ⟨g + 1, 0, none⟩ (.int .i64 ((pre.length : Int) + 1))) :=
      KeepsFrom.trans (KeepsFrom.of_grownBy gW1 (fun j e => by have : g = j := Option.some.inj e; omega)) (KeepsFrom.of_grownBy gW2 (fun j e => by have : g + 1 = j := Option.some.inj e; omega))
    have hown : ∀ k, k = g ∨ k = g + 1 → k ∉ own := fun k hk h => by have := hi.2.2.2.2 _ h; omega
    have hKp : Kept (fun k => k = g ∨ k = g + 1) own W (W1.setCell ⟨g + 1, 0, none⟩ (.int .i64 ((pre.length : Int) + 1))) :=
      Kept.trans (Kept.grown gW1 (fun r e => by have : g = r := Option.some.inj e; exact ⟨.inl this.symm, hown _ (.inl this.symm)⟩)) (Kept.grown gW2 (fun r e => by have : g + 1 = r := Option.some.inj e; exact ⟨.inr this.symm, hown _ (.inr this.symm)⟩))
    have hGI : GI (g + 2) w (sbB w.heap.size g (g + 1) most) (pre ++ [x]) own (W1.setCell ⟨g + 1, 0, none⟩ (.int .i64 ((pre.length : Int) + 1))) := by
      refine ⟨gb_trans_new (gb_trans_new hi.2.1 gW1 (by omega)) gW2 (by omega), ?_, Nat.le_trans hi.2.2.2.1 (Nat.le_trans gW1.size gW2.size), hi.2.2.2.2⟩
      intro e he
      simp only [sbB, List.mem_cons, List.not_mem_nil, or_false] at he
      rcases he with rfl | rfl | rfl
      · exact ⟨by rw [sbJoin_snoc]; exact d0.far (by simp) _, by simp⟩
      · refine ⟨?_, by simp⟩
        have := d1.set 0 (.int .i64 ((pre.length : Int) + 1))
        rw [List.length_append, List.length_singleton]; exact this
      · exact ⟨d2.far (by simp; omega) _, by simp; omega⟩
    have hp : sbP most pre := hi.1
    clear hi
    by_cases hm : (pre.length : Int) + 1 = most
    · subst hm
      gi_wp2_with fail
      exact ⟨hKF, rfl, ⟨by rw [List.length_append, List.length_singleton]; rfl, by omega⟩, hGI⟩
    · gi_wp2_with fail
      refine ⟨hKF, hKp, ?_, hGI⟩
      unfold sbP at hp ⊢
      rw [List.length_append, List.length_singleton]; omega
  case done =>
    intro xs own W hS hi hK
    have c0 := (hi.2.2.1 (g, 9, _) (List.mem_cons_self ..)).1.cellAt (i := 0) rfl
    have c2 := (hi.2.2.1 (w.heap.size, 3, _) (List.mem_cons_of_mem _ (List.mem_cons_of_mem _ (List.mem_cons_self ..)))).1.cellAt (i := 0) rfl
    rw [join_all _ _ hS] at c0
    have hn : xs.length = (L.length + 72) / 64 := by have := congrArg List.length hS; rwa [List.length_map, blocks_length] at this
    have hp : ¬ (1 ≤ most ∧ most ≤ (xs.length : Int)) := hi.1
    have gW := hi.2.1
    have hlen9 := run_len_sv (P := Try.prog) (ty := 3) Try.underlying9 (padded L)
    have hpl : (padded L).length = 64 * ((L.length + 72) / 64) := padded_length L
    have heq := eql_sv 9
    have heg := fun (x y : Operand) (l : List UInt8) (v : Value) => eqGuard_sv .eql 9 x y l v
    rw [z0] at hK
    clear hseq hS hi
    obtain ⟨N, hN⟩ : ∃ N, N = (L.length + 72) / 64 := ⟨_, rfl⟩
    rw [← hN] at hn hpl
    have hNb : N ≤ 100 := by have := HLl.out; omega
    clear hN
    by_cases h1 : 1 ≤ most
    · have h2 : (N : Int) < most := by omega
      clear hp
      go_wp2_with fail
      exact ⟨by simp, .inl ⟨_, _, rfl, run_takeDeferred hK, _, results_tmp rfl _ _ _, rfl, gb_put gW _ (by omega)⟩⟩
    · clear hp
      go_wp2_with fail
      exact ⟨by simp, .inl ⟨_, _, rfl, run_takeDeferred hK, _, results_tmp rfl _ _ _, rfl, gb_put gW _ (by omega)⟩⟩
  case stop =>
    rintro c' pre own W hS ⟨rfl, ⟨hm, h1⟩, gW, hb, hB2, ho2⟩ hK
    have c0 := (hb (g, 9, _) (List.mem_cons_self ..)).1.cellAt (i := 0) rfl
    have c2 := (hb (w.heap.size, 3, _) (List.mem_cons_of_mem _ (List.mem_cons_of_mem _ (List.mem_cons_self ..)))).1.cellAt (i := 0) rfl
    rw [join_prefix _ _ hS] at c0
    have hn : pre.length ≤ (L.length + 72) / 64 := by have := hS.length_le; rwa [List.length_map, blocks_length] at this
    have hlen9 := run_len_sv (P := Try.prog) (ty := 3) Try.underlying9 (padded L)
    have hpl : (padded L).length = 64 * ((L.length + 72) / 64) := padded_length L
    have heq := eql_sv 9
    have heg := fun (x y : Operand) (l : List UInt8) (v : Value) => eqGuard_sv .eql 9 x y l v
    rw [z0] at hK
    obtain ⟨N, hN⟩ : ∃ N, N = (L.length + 72) / 64 := ⟨_, rfl⟩
    rw [← hN] at hn hpl
    have hNb : N ≤ 100 := by have := HLl.out; omega
    clear hN hseq hS hb
    obtain ⟨k, hk⟩ : ∃ k, k = pre.length := ⟨_, rfl⟩
    rw [← hk] at hm c0 hn
    clear hk
    subst hm
    refine wpIn_wide.2 ?_
    by_cases hlt : k < N
    · have hcut : ∀ W' : World, (Instr.sliceAt 9 (sv (padded L)) none (some (.int .i64 (64 * (k : Int)))) none).run Try.prog W' = .ok (sv ((padded L).take (64 * k))) W' := fun W' => by
        have := run_cut_sv (P := Try.prog) Try.underlying9 (padded L) 0 (64 * k) none (some (.int .i64 ((64 * k : Nat) : Int))) (.inl ⟨rfl, rfl⟩) (.inr rfl) (Nat.zero_le _) (by omega) W'
        rw [List.drop_zero, Nat.sub_zero] at this
        exact this
      have hwr : IntKind.i64.wrap (64 * (k : Int)) = 64 * (k : Int) := IntWalk.i64_in _ (by omega)
      have hself : ∀ x : List UInt8, (x == x) = true := fun x => beq_self_eq_true x
      go_wp2_with fail
      go_still_tail 6, (by kernel_rfl)
      go_wp2_with fail
      exact ⟨by simp, .inl ⟨_, _, rfl, run_takeDeferred hK, _, results_tmp rfl _ _ _, rfl, gb_put (gb_drew gW) _ (by omega)⟩⟩
    · obtain rfl : k = N := by omega
      rw [List.take_of_length_le (by omega)] at c0
      clear hlt hn
      go_wp2_with fail
      exact ⟨by simp, .inl ⟨_, _, rfl, run_takeDeferred hK, _, results_tmp rfl _ _ _, rfl, gb_put gW _ (by omega)⟩⟩
end Go.Proofs.Ytgimgddlipbniaa
