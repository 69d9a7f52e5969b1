import Derived.Test.YtgimgddlipbniaaGc
import Derived.Test.YtgimgddlipbniaaGrows
/- TreePeaks: the walk. -/
namespace Go.Proofs.Ytgimgddlipbniaa
open Go.RowKit Go.Shelf Sc
attribute [local go_sem] Oper.semAt_some
def tpB (m p5 : Nat) (most : Int) (va vc : Value) (pre : List (Nat × Nat)) : List (Nat × TypeId × List Value) :=
  [(p5 + 2, 3, [.int .i64 (pre.length : Int)]), (m, 3, [.int .i64 most]), (p5, 61, [va]), (p5 + 1, 61, [vc]), (m + 1, 4, [.bool false])]
def tpP (P0 : List (Nat × Nat)) (most : Int) (pre : List (Nat × Nat)) : Prop := pre <+: P0 ∧ ¬ (1 ≤ most ∧ most ≤ (pre.length : Int))
def tpX (P0 : List (Nat × Nat)) (most : Int) (c : Code) (pre : List (Nat × Nat)) : Prop := (c = .exit 0 ∧ (pre.length : Int) = most) ∨ (c = .ret ∧ ¬ pre <+: P0)
def tpBX (m p5 : Nat) (most : Int) (va vc : Value) (c : Code) (pre : List (Nat × Nat)) : List (Nat × TypeId × List Value) := match c with
  | .exit _ => tpB m p5 most va vc pre
  | _ => []
theorem prefix_snoc {α : Type} {pre P0 : List α} {x : α} (h : pre <+: P0) (hx : P0[pre.length]? = some x) : pre ++ [x] <+: P0 := by
  obtain ⟨tl, rfl⟩ := h
  rw [List.getElem?_append_right (Nat.le_refl _), Nat.sub_self] at hx
  cases tl with
  | nil => cases hx
  | cons y tl =>
    have e : y = x := by simpa using hx
    exact ⟨tl, by rw [e]; simp⟩
def tpA (n m p5 : Nat) (most : Int) (x : Nat × Nat) (a : Act) : Prop := ∃ u2 u10 u11 u12 u13 u14 u15 u16 u17 u18 u19 u20 u21 u22 u23 u24 u25 u26 u27 u28 u29 u30 u31 u32 u33 u34 u35 u36 u37 u38 u39 u40 u41 u42 u43 u44 u45 u46 u47 u48 u49 u50 u51 u52 u53 u54 u55 u56 u57 u58 u59 u60, a = { tmps := #[.int .i64 (n : Int), .int .i64 most, u2, .pointer (some ⟨m, 0, none⟩), .pointer (some ⟨m + 1, 0, none⟩), .pointer (some ⟨p5, 0, none⟩), .pointer (some ⟨p5 + 1, 0, none⟩), .pointer (some ⟨p5 + 2, 0, none⟩), .int .i64 (x.1 : Int), .int .i64 (x.2 : Int), u10, u11, u12, u13, u14, u15, u16, u17, u18, u19, u20, u21, u22, u23, u24, u25, u26, u27, u28, u29, u30, u31, u32, u33, u34, u35, u36, u37, u38, u39, u40, u41, u42, u43, u44, u45, u46, u47, u48, u49, u50, u51, u52, u53, u54, u55, u56, u57, u58, u59, u60], defers := [] }

set_option maxHeartbeats 4000000 in
theorem treePeaks_walk (size most : Int) (w : World) :
    Calls Try.prog 12 #[.int .i64 size, .int .i64 most] w fun e w' => e = .returned (.bool true) ∧ w.grownBy w' none := by
  refine calls_marks Try.func12 rfl ?_
  simp only [Try.ntmps12, List.size_toArray, List.length_cons, List.length_nil, Nat.reduceAdd, Nat.reduceSub, Array.replicate_succ, Array.replicate_zero, List.push_toArray, List.append_toArray, List.nil_append, List.cons_append]
  have hb0 := Bk.new w 3 [.int .i64 most]
  have hr0 := Bk.new (w.alloc (.cells #[.int .i64 most] 3)) 4 [.bool false]
  have g0 := gb_alloc (gb_alloc (gb_refl w none) (.cells #[.int .i64 most] 3)) (.cells #[.bool false] 4)
  obtain ⟨W1, hW1⟩ : ∃ W1, W1 = (w.alloc (.cells #[.int .i64 most] 3)).alloc (.cells #[.bool false] 4) := ⟨_, rfl⟩
  have z1 : W1.heap.size = w.heap.size + 2 := by rw [hW1, World.size_alloc, World.size_alloc]
  have bm1 : Bk W1 w.heap.size 3 [.int .i64 most] := by rw [hW1]; exact hb0.alloc _
  have br1 : Bk W1 (w.heap.size + 1) 4 [.bool false] := by rw [hW1]; rw [World.size_alloc] at hr0; exact hr0
  rw [← hW1] at g0
  have HW1 := Go.Lib.hid hW1
  clear hW1 hb0 hr0
  rcases (by omega : (size < 0 ∨ 1099511627776 < size) ∨ (0 ≤ size ∧ size ≤ 1099511627776)) with hs | hs
  · have hd : (decide (size < 0) || decide (1099511627776 < size)) = true := by simp; omega
    rcases hs with hs | hs
    all_goals
      first | (have hd1 : decide (size < 0) = true := decide_eq_true hs) | (have hd1 : decide (size < 0) = false := decide_eq_false (by omega); have hd2 : decide (1099511627776 < size) = true := decide_eq_true hs)
      go_wp2_with (go_at_call 26; (rw [← HW1.out]; (with_reducible refine (grows_any _).mono ?_); rintro e w1 ⟨rfl, g1⟩; have br2 := br1.grown g1 (by simp); have c1 := br2.cellAt (i := 0) rfl; have f1 := br2.frozen 0))
      have b3 := br2.set 0 (.bool true)
      have gW := gb_trans_new (gb_trans g0 g1) (gb_set1 w1 ⟨w.heap.size + 1, 0, none⟩ (.bool true)) (by simp)
      exact ⟨_, results_scalar _ rfl _ _ (w.heap.size + 1) (.bool true) rfl (b3.cellAt (i := 0) rfl) Try.underlying4 rfl, rfl, gW⟩
  · obtain ⟨n, rfl⟩ : ∃ n : Nat, size = (n : Int) := ⟨size.toNat, by omega⟩
    have hn : n ≤ 1099511627776 := by omega
    have hd1 : decide ((n : Int) < 0) = false := decide_eq_false (by omega)
    have hd2 : decide ((1099511627776 : Int) < (n : Int)) = false := decide_eq_false (by omega)
    obtain ⟨P0, hP0⟩ : ∃ P0, P0 = pks 0 n := ⟨_, rfl⟩
    have hPl := pks_len n
    have hon := ones_le_log 41 n (by omega)
    rw [← hP0] at hPl
    have HP0 := Go.Lib.hid hP0
    have HPl := Go.Lib.hid hPl
    have hPm : P0.length ≤ 41 := by omega
    clear hP0 hPl
    go_wp2_with (first
      | (go_at_call 26; (rw [← HW1.out]; (with_reducible refine (grows_any _).mono ?_); rintro e w1 ⟨rfl, g1⟩))
      | (go_at_call 37; (with_reducible refine (refPeaks_any n hn _).mono ?_); rintro e w2 ⟨va, vc, rfl, hoa, hoc, g2⟩; rw [← HP0.out] at hoa hoc; obtain ⟨Aa, ca, rfl⟩ := hoa.form; obtain ⟨Ac, cc, rfl⟩ := hoc.form)
      | (go_at_call 38; ((with_reducible refine (peaks_call _ _).mono ?_); rintro e w' ⟨rfl, rfl⟩)))
    have bm2 := (bm1.grown g1 (by simp)).grown g2 (by simp)
    have br2 := (br1.grown g1 (by simp)).grown g2 (by simp)
    obtain ⟨p5, hp5⟩ : ∃ p5, p5 = w2.heap.size := ⟨_, rfl⟩
    obtain ⟨m, hm⟩ : ∃ m, m = w.heap.size := ⟨_, rfl⟩
    obtain ⟨W0, hW0⟩ : ∃ W0, W0 = (((w2.alloc (.cells #[.slice Aa P0.length ca] 61)).alloc (.cells #[.slice Ac P0.length cc] 61)).alloc (.cells #[.int .i64 0] 3)).alloc (.cells #[.int .i64 (n : Int)] 3) := ⟨_, rfl⟩
    have z0 : W0.heap.size = p5 + 4 := by rw [hW0, World.size_alloc, World.size_alloc, World.size_alloc, World.size_alloc, hp5]
    have b5 : Bk W0 p5 61 [.slice Aa P0.length ca] := by rw [hW0, hp5]; exact (((Bk.new w2 _ _).alloc _).alloc _).alloc _
    have b6 : Bk W0 (p5 + 1) 61 [.slice Ac P0.length cc] := by
      have := Bk.new (w2.alloc (.cells #[.slice Aa P0.length ca] 61)) 61 [.slice Ac P0.length cc]
      rw [World.size_alloc, ← hp5] at this; rw [hW0]; exact (this.alloc _).alloc _
    have b7 : Bk W0 (p5 + 2) 3 [.int .i64 0] := by
      have := Bk.new ((w2.alloc (.cells #[.slice Aa P0.length ca] 61)).alloc (.cells #[.slice Ac P0.length cc] 61)) 3 [.int .i64 0]
      rw [World.size_alloc, World.size_alloc, ← hp5] at this; rw [hW0]; exact this.alloc _
    have b8 : Bk W0 (p5 + 3) 3 [ic n] := by
      have := Bk.new (((w2.alloc (.cells #[.slice Aa P0.length ca] 61)).alloc (.cells #[.slice Ac P0.length cc] 61)).alloc (.cells #[.int .i64 0] 3)) 3 [ic n]
      rw [World.size_alloc, World.size_alloc, World.size_alloc, ← hp5] at this; rw [hW0]; exact this
    have bm0 : Bk W0 m 3 [.int .i64 most] := by rw [hW0, hm]; exact (((bm2.alloc _).alloc _).alloc _).alloc _
    have br0 : Bk W0 (m + 1) 4 [.bool false] := by rw [hW0, hm]; exact (((br2.alloc _).alloc _).alloc _).alloc _
    have ha0 : Ow w1.heap.size W0 1 (.slice Aa P0.length ca) P0.length (P0.map fun p => ic p.1) := by rw [hW0]; exact (((hoa.alloc _).alloc _).alloc _).alloc _
    have hc0 : Ow w1.heap.size W0 1 (.slice Ac P0.length cc) P0.length (P0.map fun p => ic p.2) := by rw [hW0]; exact (((hoc.alloc _).alloc _).alloc _).alloc _
    have gW0 : w.grownBy W0 none := by rw [hW0]; exact gb_alloc (gb_alloc (gb_alloc (gb_alloc (gb_trans (gb_trans g0 g1) g2) _) _) _) _
    have s1 := g1.size
    have s2 := g2.size
    have hla : ∀ r, (Value.slice Aa P0.length ca).ownBlock = some r → r < p5 ∧ m + 2 ≤ r := fun r h => by have := hoa.lt h; omega
    have hlc : ∀ r, (Value.slice Ac P0.length cc).ownBlock = some r → r < p5 ∧ m + 2 ≤ r := fun r h => by have := hoc.lt h; omega
    rw [← hm] at z1
    have hmp : m + 2 ≤ p5 := by omega
    rw [← hW0, ← hp5, ← hm]
    have hseq := peaks_seq (p5 + 3) n (fun k => k = m + 1 ∨ k = p5 + 2) W0 b8 (by omega) hn
    rw [← HP0.out] at hseq
    have HM := Go.Lib.hid hm
    clear hW0 hoa hoc bm2 br2 bm1 br1 HW1 g0 g1 g2 b8 hm hp5 z1 s1 s2
    refine (wpIn_wide (n := 0)).1 (range_law (gf := 46) (lb := #[.pointer (some ⟨p5 + 3, 0, none⟩)]) rfl (enters_of Try.func46 (by kernel_rfl) rfl)
      hseq (Below.refl _ _) (fun _ => rfl) (GC W0 (fun k => k = m + 1 ∨ k = p5 + 2) (tpP P0 most) (tpB m p5 most (.slice Aa P0.length ca) (.slice Ac P0.length cc)))
      (fun c => GC W0 (fun k => k = m + 1 ∨ k = p5 + 2) (tpX P0 most c) (tpBX m p5 most (.slice Aa P0.length ca) (.slice Ac P0.length cc) c))
      (fun x a _ => tpA n m p5 most x a)
      GC.abides (fun _ => GC.abides) (GC.rec rfl) (fun _ => GC.rec rfl) (fun _ h _ _ => h)
      ⟨⟨List.nil_prefix, by simp; omega⟩, Ch.refl _ _, ?base, by simp⟩ ?assign ?body ?done ?stop)
    case base => simp [tpB, b5, b6, b7, bm0, br0]; omega
    case assign =>
      intro l pre own x W hi hlen
      simp only [encP, List.zip_toArray, List.zip_cons_cons, List.zip_nil_right, List.size_toArray, List.length_cons, List.length_nil, List.foldl_toArray', List.foldl_cons, List.foldl_nil, List.setIfInBounds_toArray, List.set_cons_zero, List.set_cons_succ]
      gi_wp2_with fail
      exact ⟨hi, ⟨_, _, _, _, _, _, _, _, _, _, _, _, _, _, _, _, _, _, _, _, _, _, _, _, _, _, _, _, _, _, _, _, _, _, _, _, _, _, _, _, _, _, _, _, _, _, _, _, _, _, _, _, rfl⟩, KeepsFrom.refl _ _, Kept.refl _ _ _⟩
    case body =>
      rintro l pre own x a₁ W ⟨⟨hp1, hp2⟩, hi1, hi2, hi3⟩ ⟨u2, u10, u11, u12, u13, u14, u15, u16, u17, u18, u19, u20, u21, u22, u23, u24, u25, u26, u27, u28, u29, u30, u31, u32, u33, u34, u35, u36, u37, u38, u39, u40, u41, u42, u43, u44, u45, u46, u47, u48, u49, u50, u51, u52, u53, u54, u55, u56, u57, u58, u59, u60, rfl⟩ hlen
      obtain ⟨k, hk⟩ : ∃ k, k = pre.length := ⟨_, rfl⟩
      have d7 : Bk W (p5 + 2) 3 [.int .i64 (k : Int)] := by rw [hk]; exact (hi2 (p5 + 2, 3, [.int .i64 (pre.length : Int)]) (by simp [tpB])).1
      have dm : Bk W m 3 [.int .i64 most] := (hi2 (m, 3, [.int .i64 most]) (by simp [tpB])).1
      have dr : Bk W (m + 1) 4 [.bool false] := (hi2 (m + 1, 4, [.bool false]) (by simp [tpB])).1
      have d5 : Bk W p5 61 [.slice Aa P0.length ca] := (hi2 (p5, 61, [.slice Aa P0.length ca]) (by simp [tpB])).1
      have d6 : Bk W (p5 + 1) 61 [.slice Ac P0.length cc] := (hi2 (p5 + 1, 61, [.slice Ac P0.length cc]) (by simp [tpB])).1
      rw [← hk] at hlen hp2
      obtain ⟨ba, oa, ca', hva, -, -, hca, hra, -⟩ := (hi1.ow ha0 (fun r h e => by have := hla r h; omega)).at (by omega)
      obtain ⟨bc, oc, cc', hvc, -, -, hcc, hrc, -⟩ := (hi1.ow hc0 (fun r h e => by have := hlc r h; omega)).at (by omega)
      obtain ⟨y, hy⟩ : ∃ y, P0[k]? = some y := ⟨_, List.getElem?_eq_getElem hlen⟩
      have e1 : W.cell? ⟨ba, oa + k, none⟩ = some (.int .i64 (y.1 : Int)) := hra k _ (by rw [List.getElem?_map, hy]; rfl)
      have e2 : W.cell? ⟨bc, oc + k, none⟩ = some (.int .i64 (y.2 : Int)) := hrc k _ (by rw [List.getElem?_map, hy]; rfl)
      have c5 := d5.cellAt (i := 0) rfl
      have c6 := d6.cellAt (i := 0) rfl
      rw [hva] at c5
      rw [hvc] at c6
      have c7 := d7.cellAt (i := 0) rfl
      have f7 := d7.frozen 0
      have cr := dr.cellAt (i := 0) rfl
      have fr := dr.frozen 0
      have hsz : W0.heap.size ≤ W.heap.size := hi1.size
      have hlI : (0 : Int) ≤ (k : Int) ∧ (k : Int) < (P0.length : Int) ∧ (P0.length : Int) ≤ 41 := by omega
      have hd3 : decide ((P0.length : Int) ≤ (k : Int)) = false := decide_eq_false (by omega)
      have hwr : IntKind.i64.wrap ((k : Int) + 1) = (k : Int) + 1 := IntWalk.i64_in _ (by omega)
      have HD5 := Go.Lib.hid d5
      have HD6 := Go.Lib.hid d6
      have HY := Go.Lib.hid hy
      have HK := Go.Lib.hid hk
      have HP1 := Go.Lib.hid hp1
      have HP2 := Go.Lib.hid hp2
      have HI1 := Go.Lib.hid hi1
      have HI2 := Go.Lib.hid hi2
      have HI3 := Go.Lib.hid hi3
      have HOWN : Hid (∀ r, r = m + 1 ∨ r = p5 + 2 → r ∉ own) := Go.Lib.hid (fun r hr h => by have := hi3 r h; omega)
      clear hy hk hp1 hp2 hi1 hi2 hi3 hra hrc hva hvc hseq b5 b6 b7 bm0 br0 ha0 hc0 hla hlc d5 d6
      have hbad : Hid ((x.1 = y.1 ∧ x.2 = y.2) ∨ ¬ (pre ++ [x] <+: P0)) := Go.Lib.hid (by
        rcases Classical.em (x.1 = y.1 ∧ x.2 = y.2) with h | h
        · exact .inl h
        · refine .inr fun hq => h ?_
          obtain ⟨tl, htl⟩ := hq
          have h1 := HY.out
          rw [← htl, HK.out, List.getElem?_append_left (by simp), List.getElem?_append_right (Nat.le_refl _), Nat.sub_self] at h1
          have h2 : x = y := Option.some.inj h1
          rw [h2]; exact ⟨rfl, rfl⟩)
      have hret : Hid (∀ aX, ¬ (x.1 = y.1 ∧ x.2 = y.2) → leftBy (p5 + 4) (fun k => k = m + 1 ∨ k = p5 + 2) own (GC W0 (fun k => k = m + 1 ∨ k = p5 + 2) (tpP P0 most) (tpB m p5 most (.slice Aa P0.length ca) (.slice Ac P0.length cc)))
          (fun c => GC W0 (fun k => k = m + 1 ∨ k = p5 + 2) (tpX P0 most c) (tpBX m p5 most (.slice Aa P0.length ca) (.slice Ac P0.length cc) c)) (pre ++ [x]) W .ret aX (W.setCell ⟨m + 1, 0, none⟩ (.bool false))) := Go.Lib.hid (fun aX hne => by
        have gWr : W.grownBy (W.setCell ⟨m + 1, 0, none⟩ (.bool false)) (some (m + 1)) := gb_set1 _ _ _
        exact ⟨KeepsFrom.of_grownBy gWr (fun j e => by have : m + 1 = j := Option.some.inj e; omega), .inr ⟨rfl, hbad.out.resolve_left hne⟩, HI1.out.gb gWr (fun r e => .inl (.inl (Option.some.inj e).symm)), (by intro e he; cases he), HI3.out⟩)
      have hblk : Hid (∀ e ∈ tpB m p5 most (.slice Aa P0.length ca) (.slice Ac P0.length cc) (pre ++ [x]), Bk (W.setCell ⟨p5 + 2, 0, none⟩ (.int .i64 ((k : Int) + 1))) e.1 e.2.1 e.2.2 ∧ e.1 < W0.heap.size) := Go.Lib.hid (by
        have b7 := d7.set 0 (.int .i64 ((k : Int) + 1))
        intro e he
        simp only [tpB, List.mem_cons, List.not_mem_nil, or_false] at he
        rcases he with rfl | rfl | rfl | rfl | rfl
        · refine ⟨?_, by show p5 + 2 < _; omega⟩
          rw [List.length_append, List.length_singleton, ← HK.out]; exact b7
        · exact ⟨dm.far (by simp; omega) _, by show m < _; omega⟩
        · exact ⟨HD5.out.far (by simp) _, by show p5 < _; omega⟩
        · exact ⟨HD6.out.far (by simp) _, by show p5 + 1 < _; omega⟩
        · exact ⟨dr.far (by simp; omega) _, by show m + 1 < _; omega⟩)
      obtain ⟨x1, x2⟩ := x
      obtain ⟨y1, y2⟩ := y
      dsimp only at e1 e2 ⊢
      by_cases h1 : x1 = y1
      · by_cases h2 : x2 = y2
        · subst h1 h2
          have q1 : ((x1 : Int) == (x1 : Int)) = true := beq_self_eq_true _
          have q2 : ((x2 : Int) == (x2 : Int)) = true := beq_self_eq_true _
          have c2 : (W.setCell ⟨p5 + 2, 0, none⟩ (.int .i64 ((k : Int) + 1))).cell? ⟨m, 0, none⟩ = some (.int .i64 most) := (dm.far (by simp; omega) _).cellAt rfl
          have gWn : W.grownBy (W.setCell ⟨p5 + 2, 0, none⟩ (.int .i64 ((k : Int) + 1))) (some (p5 + 2)) := gb_set1 _ _ _
          clear hret hbad
          by_cases hm2 : (k : Int) + 1 = most
          · subst hm2
            gi_wp2_with fail
            exact ⟨KeepsFrom.of_grownBy gWn (fun j e => by have : p5 + 2 = j := Option.some.inj e; omega), .inl ⟨rfl, by rw [List.length_append, List.length_singleton, ← HK.out]; rfl⟩, HI1.out.gb gWn (fun r e => .inl (.inr (Option.some.inj e).symm)), hblk.out, HI3.out⟩
          · have q3 : ((k : Int) + 1 == most) = false := by simpa using hm2
            gi_wp2_with fail
            refine ⟨KeepsFrom.of_grownBy gWn (fun j e => by have : p5 + 2 = j := Option.some.inj e; omega), Kept.grown gWn (fun r e => ⟨.inr (Option.some.inj e).symm, HOWN.out _ (.inr (Option.some.inj e).symm)⟩),
              ⟨prefix_snoc HP1.out (by rw [← HK.out]; exact HY.out), ?_⟩, HI1.out.gb gWn (fun r e => .inl (.inr (Option.some.inj e).symm)), hblk.out, HI3.out⟩
            have := HP2.out
            rw [List.length_append, List.length_singleton, ← HK.out]; omega
        · have q2 : ((x2 : Int) != (y2 : Int)) = true := by simp; omega
          subst h1
          have q1 : ((x1 : Int) == (x1 : Int)) = true := beq_self_eq_true _
          gi_wp2_with fail
          exact hret.out _ (fun h => h2 h.2)
      · have q1 : ((x1 : Int) != (y1 : Int)) = true := by simp; omega
        gi_wp2_with fail
        exact hret.out _ (fun h => h1 h.1)
    case done =>
      rintro xs own W rfl ⟨⟨hp1, hp2⟩, hi1, hi2, hi3⟩ hK
      have c7 : W.cell? ⟨p5 + 1 + 1, 0, none⟩ = some (.int .i64 (xs.length : Int)) := (hi2 (p5 + 2, 3, [.int .i64 (xs.length : Int)]) (by simp [tpB])).1.cellAt (i := 0) rfl
      have c5 : W.cell? ⟨p5, 0, none⟩ = some (.slice Aa xs.length ca) := (hi2 (p5, 61, [.slice Aa xs.length ca]) (by simp [tpB])).1.cellAt (i := 0) rfl
      have dr : Bk W (m + 1) 4 [.bool false] := (hi2 (m + 1, 4, [.bool false]) (by simp [tpB])).1
      have cr := dr.cellAt (i := 0) rfl
      have fr := dr.frozen 0
      have hml := HM.out
      have gW : w.grownBy W none := ((Ch.of (S := fun k => k = m + 1 ∨ k = p5 + 2) gW0 (fun _ h => by cases h)).trans hi1 (fun r h => .inl h)).toGb (fun r h => by omega)
      have gWs := gb_set1 W ⟨m + 1, 0, none⟩ (.bool true)
      have hlK := (Array.getElem?_eq_some_iff.1 hK).1
      have hK2 : (W.setCell ⟨m + 1, 0, none⟩ (.bool true)).heap[W0.heap.size]? = some (.deferred (some [])) := (gWs.block _ hlK (by simp; omega)).trans hK
      have dr2 : Bk ((W.setCell ⟨m + 1, 0, none⟩ (.bool true)).putObj W0.heap.size (.deferred none)) (m + 1) 4 [.bool true] := (dr.set 0 (.bool true)).put _ hK2 rfl
      have gW2 := gb_put (gb_trans_new gW gWs (by simp; omega)) (.deferred none) gW0.size
      clear z0
      clear hseq hi1 hi2 hi3 hK b5 b6 b7 bm0 br0 ha0 hc0 gWs hml dr hp1 hp2
      go_wp2_with fail
      exact ⟨by simp, .inl ⟨_, _, rfl, run_takeDeferred hK2, _, results_scalar _ rfl _ _ (m + 1) (.bool true) rfl (dr2.cellAt (i := 0) rfl) Try.underlying4 rfl, rfl, gW2⟩⟩
    case stop =>
      rintro c' pre own W hS ⟨hx, hi1, hi2, hi3⟩ hK
      rcases hx with ⟨rfl, hm2⟩ | ⟨rfl, hx⟩
      · obtain ⟨k, hk⟩ : ∃ k, k = pre.length := ⟨_, rfl⟩
        have hkl : k ≤ P0.length := by rw [hk]; exact hS.length_le
        have c7 : W.cell? ⟨p5 + 1 + 1, 0, none⟩ = some (.int .i64 (k : Int)) := by rw [hk]; exact (hi2 (p5 + 2, 3, [.int .i64 (pre.length : Int)]) (by simp [tpBX, tpB])).1.cellAt (i := 0) rfl
        have c5 : W.cell? ⟨p5, 0, none⟩ = some (.slice Aa P0.length ca) := (hi2 (p5, 61, [.slice Aa P0.length ca]) (by simp [tpBX, tpB])).1.cellAt (i := 0) rfl
        have c3 : W.cell? ⟨m, 0, none⟩ = some (.int .i64 most) := (hi2 (m, 3, [.int .i64 most]) (by simp [tpBX, tpB])).1.cellAt (i := 0) rfl
        have dr : Bk W (m + 1) 4 [.bool false] := (hi2 (m + 1, 4, [.bool false]) (by simp [tpBX, tpB])).1
        have cr := dr.cellAt (i := 0) rfl
        have fr := dr.frozen 0
        have hml := HM.out
        have gW : w.grownBy W none := ((Ch.of (S := fun k => k = m + 1 ∨ k = p5 + 2) gW0 (fun _ h => by cases h)).trans hi1 (fun r h => .inl h)).toGb (fun r h => by omega)
        have gWs := gb_set1 W ⟨m + 1, 0, none⟩ (.bool true)
        have hlK := (Array.getElem?_eq_some_iff.1 hK).1
        have hK2 : (W.setCell ⟨m + 1, 0, none⟩ (.bool true)).heap[W0.heap.size]? = some (.deferred (some [])) := (gWs.block _ hlK (by simp; omega)).trans hK
        have dr2 : Bk ((W.setCell ⟨m + 1, 0, none⟩ (.bool true)).putObj W0.heap.size (.deferred none)) (m + 1) 4 [.bool true] := (dr.set 0 (.bool true)).put _ hK2 rfl
        have gW2 := gb_put (gb_trans_new gW gWs (by simp; omega)) (.deferred none) gW0.size
        rw [← hk] at hm2
        subst hm2
        clear z0
        clear hseq hi1 hi2 hi3 hK b5 b6 b7 bm0 br0 ha0 hc0 gWs hml dr hS hk
        refine wpIn_wide.2 ?_
        by_cases hq : k = P0.length
        · have q1 : ((k : Int) == (P0.length : Int)) = true := by rw [hq]; exact beq_self_eq_true _
          clear hq
          go_wp2_with fail
          exact ⟨by simp, .inl ⟨_, _, rfl, run_takeDeferred hK2, _, results_scalar _ rfl _ _ (m + 1) (.bool true) rfl (dr2.cellAt (i := 0) rfl) Try.underlying4 rfl, rfl, gW2⟩⟩
        · have q1 : ((k : Int) == (P0.length : Int)) = false := by simp; omega
          have q2 : ((k : Int) == (k : Int)) = true := beq_self_eq_true _
          clear hq
          go_wp2_with fail
          exact ⟨by simp, .inl ⟨_, _, rfl, run_takeDeferred hK2, _, results_scalar _ rfl _ _ (m + 1) (.bool true) rfl (dr2.cellAt (i := 0) rfl) Try.underlying4 rfl, rfl, gW2⟩⟩
      · exact absurd hS hx
end Go.Proofs.Ytgimgddlipbniaa
