import Derived.Deep.CutBlock
import Derived.Test.YtajgklomcapboaaParts
import Derived.Test.YtajgklomcapboaaFilled
import Derived.Test.YtajgklomcapboaaRefAdds
import Derived.Test.YtajgklomcapboaaLeaf
/- scrivenerref01.Of: the reference's sum is the standard's. -/
namespace Go.Proofs.Ytajgklomcapboaa
open Go.RowKit Go.Shelf Sc

theorem make_u64 (w : World) : (Instr.makeSlice 112 (.int .i64 64) (.int .i64 64)).run Try.prog w = .ok (.slice (some ⟨w.heap.size, 0, none⟩) 64 64) (w.alloc (.cells (List.replicate 64 (wq 0)).toArray 114)) := by
  kernel_rfl
theorem okU64 : InfoOk Try.prog 114 1 8 := by unfold InfoOk; kernel_rfl
theorem wq_one (l : List Wd) : ∀ u ∈ l.map wq, u.oneCell' = true := by
  intro u hu; obtain ⟨x, _, rfl⟩ := List.mem_map.1 hu; rfl
theorem list_len (s : St) : s.list.length = 8 := rfl
theorem at_block {id : Nat} {P : Program} {c : Code} {Q : Exit → Act → World → Prop} {a : Act} {w : World} (h : (Code.block id c).wp P Q a w) : (Code.block id c).wp P Q a w := h
theorem fold_step (Pl : List UInt8) (j : Nat) : (chunks (j + 1) Pl).foldl comp init = comp ((chunks j Pl).foldl comp init) ((Pl.drop (64 * j)).take 64) := by
  rw [chunks_succ, List.foldl_append]; rfl
theorem id_val64 (s : St) (i : Nat) (h : i < 32) : (wn (s.list.getD (i / 4) 0) / 2 ^ (24 - 8 * (i % 4))).tmod 256 % 256 = ((s.id.l.getD i 0).toNat : Int) := by
  have := id_val s i h
  unfold bv at this
  injection this with _ this
  have h0 : 0 ≤ wn (s.list.getD (i / 4) 0) / 2 ^ (24 - 8 * (i % 4)) := Int.ediv_nonneg (wn_bd _).1 (Int.pow_nonneg (by decide))
  rw [← this, Int.tmod_eq_emod_of_nonneg h0]; omega

set_option maxHeartbeats 4000000 in
set_option maxRecDepth 100000 in
theorem refOf_any (l : List UInt8) (hl : l.length ≤ 1099511627776) (w : World) : Calls Try.prog 53 #[sv l] w fun e w' => e = .returned (idv (sha l)) ∧ w.grownBy w' none := by
  go_enter Try.func53, Try.ntmps53
  go_wp2_with (first
    | ((with_reducible refine wpList_alloc_row (E := 34) idZ infoId ?_))
    | (go_at_call 65; ((with_reducible refine (filled_any l hl _).mono ?_); rintro e w1 ⟨rfl, g1⟩))
    | (go_at_call 66; ((with_reducible refine (parts_any _).mono ?_); rintro e w2 ⟨rfl, rfl⟩)))
  obtain ⟨Pl, hPl⟩ : ∃ Pl, Pl = padded l := ⟨_, rfl⟩
  rw [← hPl]
  obtain ⟨n, hn⟩ : ∃ n, n = (l.length + 72) / 64 := ⟨_, rfl⟩
  have hPn : Pl.length = 64 * n := by rw [hPl, hn]; exact padded_length l
  have hn1 : 64 * n ≤ 1099511627900 := by omega
  have HF := Go.Lib.hid (show blocks l = chunks n Pl by rw [hPl, hn]; rfl)
  clear hPl hn
  have b0 : Bk w1 w.heap.size 34 idZ := (Bk.new w _ idZ).grown g1 (by simp)
  have gA : w.grownBy w1 none := gb_trans (gb_alloc (gb_refl w none) _) g1
  clear g1
  obtain ⟨W2, hW2⟩ : ∃ W2, W2 = w1.alloc (.cells (kTab.map wq).toArray 114) := ⟨_, rfl⟩
  have bk : Bk W2 w1.heap.size 114 (kTab.map wq) := by rw [hW2]; exact Bk.new _ _ _
  have z2 : W2.heap.size = w1.heap.size + 1 := by rw [hW2, World.size_alloc]
  have bh : Bk (W2.alloc (.cells (init.list.map wq).toArray 114)) (w1.heap.size + 1) 114 (init.list.map wq) := by
    have := Bk.new W2 114 (init.list.map wq); rw [z2] at this; exact this
  have b0' : Bk (W2.alloc (.cells (init.list.map wq).toArray 114)) w.heap.size 34 idZ := by rw [hW2]; exact (b0.alloc _).alloc _
  have gW : w.grownBy (W2.alloc (.cells (init.list.map wq).toArray 114)) none := by rw [hW2]; exact gb_alloc (gb_alloc gA _) _
  have bk' := bk.alloc (.cells (init.list.map wq).toArray 114)
  rw [← hW2]
  have hlt1 : w.heap.size < w1.heap.size := b0.lt
  rw [show (#[Value.int .u64 1779033703, .int .u64 3144134277, .int .u64 1013904242, .int .u64 2773480762, .int .u64 1359893119, .int .u64 2600822924, .int .u64 528734635, .int .u64 1541459225] : Array Value) = (init.list.map wq).toArray by rfl]
  clear hW2 bk b0 z2 gA
  generalize W2.alloc (.cells (init.list.map wq).toArray 114) = W0 at *
  generalize w1.heap.size = kb at *
  have hlen := run_len_sv (P := Try.prog) (ty := 3) Try.underlying9 Pl
  go_loopw [7] (fun v wr => ∃ at0 j : Nat, v = .int .i64 (at0 : Int) ∧ Hid (at0 = 64 * j) ∧ j ≤ n ∧ Hid (w.grownBy wr none) ∧ Hid (Bk wr w.heap.size 34 idZ) ∧ Hid (Bk wr kb 114 (kTab.map wq)) ∧ Hid (Bk wr (kb + 1) 114 (((chunks j Pl).foldl comp init).list.map wq)))
    (fun v _ => 64 * n - (intOf v).toNat)
  case atStart => exact ⟨0, 0, rfl, Go.Lib.hid rfl, Nat.zero_le _, Go.Lib.hid gW, Go.Lib.hid b0', Go.Lib.hid bk', Go.Lib.hid bh⟩
  case round =>
    clear gW b0' bk' bh W2 W0
    obtain ⟨at0, j, rfl, Hat, hj, Hg, H0, Hk, Hh⟩ := hrel
    have hat := Hat.out
    by_cases hlt : j < n
    · have hlt' : decide ((at0 : Int) < (Pl.length : Int)) = true := decide_eq_true (by omega)
      have hatI : (0 : Int) ≤ (at0 : Int) ∧ (at0 : Int) < 1099511627900 := by omega
      have hplt : at0 + 64 ≤ Pl.length := by omega
      have hplm : Pl.length ≤ 2199023255552 := by omega
      have hmk := make_u64
      have hgr : w.heap.size ≤ wr.heap.size := Hg.out.size
      obtain ⟨s, hs⟩ : ∃ s, s = (chunks j Pl).foldl comp init := ⟨_, rfl⟩
      have Hfs := Go.Lib.hid (fold_step Pl j)
      rw [← hs] at Hh Hfs
      clear hs hat hj hPn
      obtain ⟨blk, hblk⟩ : ∃ blk, blk = (Pl.drop at0).take 64 := ⟨_, rfl⟩
      have HB := Go.Lib.hid hblk
      clear hblk
      go_upto_block 2 with fail
      refine ref_sched l Pl blk at0 wr.heap.size _ _ hplt hplm HB.out (Bk.new wr 114 (List.replicate 64 (wq 0))) _ _ _ _ _ _ _ _ _ _ _ _ _ _ _ _ _ _ _ _ _ _ _ _ _ _ _ _ _ _ _ _ _ _ _ _ _ _ _ _ _ _ _ _ _ _ _ _ _ _ _ _ _ _ _ _ _ _ _ _ _ _ _ _ _ _ _ _ _ _ _ _ _ _ _ _ _ _ _ _ _ _ _ _ _ _ _ _ _ _ _ _ _ _ _ _ _ _ _ _ _ _ _ _ _ _ _ _ _ _ _ _ _ _ _ _ _ _ _ _ _ _ _ _ _ _ _ _ _ _ _ _ _ _ _ _ _ _ _ _ _ _ _ _ _ _ _ _ _ _ _ _ _ _ _ _ _ _ _ _ _ _ _ _ _ _ _ _ _ _ _ _ _ _ _ _ _ _ _ _ _ _ _ _ _ _ _ _ _ _ _ _ _ _ _ _ _ _ _ _ _ _ _ _ _ _ _ _ _ _ _ _ _ _ _ _ _ _ _ _ _ _ _ _ _ _ _ _ _ _ _ _ _ _ _ _ _ _ _ _ _ _ _ _ _ _ _ _ _ _ _ _ _ _ _ _ _ _ _ _ _ _ _ _ _ _ ?_
      intro W3 u9 u10 u11 u12 u13 u14 u35 u36 u37 u38 u39 u40 u41 u42 u43 u44 u45 u46 u47 u48 u49 u50 u51 u52 u53 u54 u55 u56 u57 u58 u59 u60 u61 u62 u63 u64 u65 u66 u67 u68 u69 u70 u71 u72 u73 u74 u75 u76 u77 u78 u79 u80 u81 u82 u83 u84 u85 u86 u87 u88 u89 u90 u91 u92 u93 u94 u95 u96 u97 u98 u99 u100 u101 u102 u103 u104 u105 u106 u107 u108 g3 bw3 z3
      dsimp only
      have gA : w.grownBy W3 none := gb_trans_new (gb_alloc Hg.out _) g3 hgr
      have z3' : W3.heap.size = wr.heap.size + 1 := by rw [z3, World.size_alloc]
      have l0 := H0.out.lt
      have lk := Hk.out.lt
      have lh := Hh.out.lt
      have H03 := Go.Lib.hid ((H0.out.alloc (.cells (List.replicate 64 (wq 0)).toArray 114)).grown g3 (by simp; omega))
      have Hk3 := Go.Lib.hid ((Hk.out.alloc (.cells (List.replicate 64 (wq 0)).toArray 114)).grown g3 (by simp; omega))
      have Hh3 := Go.Lib.hid ((Hh.out.alloc (.cells (List.replicate 64 (wq 0)).toArray 114)).grown g3 (by simp; omega))
      have Hw3 := Go.Lib.hid bw3
      have Z3 := Go.Lib.hid z3'
      have GA := Go.Lib.hid gA
      clear bw3 z3 z3' g3 hmk hlen gA
      -- v
      have ho := Ow.new W3 114 w.heap.size 1 0 [] rfl (by decide) GA.out.size
      have hsrc := src_rd (P := Try.prog) (k := 1) (tx := 112) Try.underlying112 (Rd.mk' (NB := fun _ => True) (k := 1) (n := 8) (c := 8) ((Hh3.out.alloc (.cells #[] 114)).range) trivial (Nat.le_refl _) (by decide) rfl) (wq_one _)
      have hBv : w.heap.size ≤ (W3.alloc (.cells #[] 114)).heap.size := by rw [World.size_alloc]; have := GA.out.size; omega
      go_upto_block 6 with (first
        | ((with_reducible refine wpList_append_ow (s := .tmp 109) (x := .tmp 110) (v := .slice (some ⟨W3.heap.size, 0, none⟩) 0 0) (y := .slice (some ⟨kb + 1, 0, none⟩) 8 8) (by kernel_rfl) (by kernel_rfl) Try.underlying112 okU64 ho hsrc hBv (by decide) (by decide) ?_)
           intro v4 W4 ho4 hg4 hb4))
      simp only [Nat.zero_add, List.nil_append] at ho4
      obtain ⟨b4, o4, c4, rfl, hB4, hl4, hc4, hr4, _⟩ := ho4.at (by decide)
      have hb5 : W3.heap.size ≤ b4 := by
        rcases hb4 with h | h
        · have := Option.some.inj (show some b4 = some W3.heap.size from h); omega
        · rw [World.size_alloc] at h
          have := Option.some.inj (show some b4 = some (W3.heap.size + 1) from h); omega
      have z3 := Z3.out
      have H04 := Go.Lib.hid ((H03.out.alloc (.cells #[] 114)).grown hg4 (by simp [Value.ownBlock]; omega))
      have Hk4 := Go.Lib.hid ((Hk3.out.alloc (.cells #[] 114)).grown hg4 (by simp [Value.ownBlock]; omega))
      have Hh4 := Go.Lib.hid ((Hh3.out.alloc (.cells #[] 114)).grown hg4 (by simp [Value.ownBlock]; omega))
      have Hw4 := Go.Lib.hid ((Hw3.out.alloc (.cells #[] 114)).grown hg4 (by simp [Value.ownBlock]; omega))
      have GB : Hid (w.grownBy W4 none) := Go.Lib.hid (gb_trans_new (gb_alloc GA.out _) hg4 (by have := GA.out.size; exact this))
      have hbk : b4 ≠ kb + 1 := by omega
      clear hb4 hg4 hB4 ho4 ho hsrc hBv H03 Hk3 Hh3 Hw3 GA hlt'
      refine ref_rounds s (sched blk 64) (sched_length _ _) kb wr.heap.size b4 o4 c4 hc4 W4 _ Hk4.out Hw4.out hr4 hl4 _ _ _ _ _ _ _ _ _ _ _ _ _ _ _ _ _ _ _ _ _ _ _ _ _ _ _ _ _ _ _ _ _ _ _ _ _ _ _ _ _ _ _ _ _ _ _ _ _ _ _ _ _ _ _ _ _ _ _ _ _ _ _ _ _ _ _ _ _ _ _ _ _ _ _ _ _ _ _ _ _ _ _ _ _ _ _ _ _ _ _ _ _ _ _ _ _ _ _ _ _ _ _ _ _ _ _ _ _ _ _ _ _ _ _ _ _ _ _ _ _ _ _ _ _ _ _ _ _ _ _ _ _ _ _ _ _ _ _ _ _ _ _ _ _ _ _ _ _ _ _ _ _ _ _ _ _ _ _ _ _ _ _ _ _ _ _ _ _ _ _ _ _ _ _ _ _ _ _ _ _ _ _ _ _ _ _ _ _ _ _ _ _ _ _ _ _ _ _ _ _ _ _ _ _ _ _ _ _ _ _ _ _ _ _ _ _ _ _ _ _ _ _ _ _ _ _ _ _ _ _ _ _ _ _ _ _ _ _ _ _ _ _ _ _ _ _ _ _ _ _ _ _ _ _ _ _ _ _ _ _ _ _ _ _ _ _ ?_
      intro W5 vb vo vc u16 u17 u18 u19 u20 u112 u113 u114 u115 u116 u117 u118 u119 u120 u121 u122 u123 u124 u125 u126 u127 u128 u129 u130 u131 u132 u133 u134 u135 u136 u137 u138 u139 u140 u141 u142 u143 u144 u145 u146 u147 u148 u149 u150 u151 u152 u153 u154 u155 u156 u157 u158 u159 u160 u161 u162 u163 u164 u165 u166 u167 u168 u169 u170 u171 u172 u173 u174 u175 u176 u177 u178 u179 u180 u181 u182 u183 u184 u185 u186 u187 u188 u189 u190 u191 u192 u193 u194 u195 u196 u197 u198 u199 u200 u201 u202 u203 u204 u205 u206 u207 u208 u209 u210 u211 u212 u213 u214 u215 u216 u217 u218 u219 u220 u221 u222 u223 u224 u225 u226 u227 u228 u229 u230 u231 u232 u233 g5 r5 l5 hc5
      dsimp only
      have hlk : kb + 1 < W4.heap.size := Hh4.out.lt
      have hvb : vb ≠ kb + 1 := by omega
      have H05 := Go.Lib.hid (H04.out.grown g5 (by simp))
      have Hk5 := Go.Lib.hid (Hk4.out.grown g5 (by simp))
      have Hh5 := Go.Lib.hid (Hh4.out.grown g5 (by simp))
      have GC : Hid (w.grownBy W5 none) := Go.Lib.hid (gb_trans GB.out g5)
      have R5 := Go.Lib.hid r5
      clear g5 r5 l5 hr4 H04 Hk4 Hh4 Hw4 GB hl4 hc4 hbk hb5
      go_upto_block 8 with fail
      refine ref_adds s (rnds (sched blk 64) s 64) (kb + 1) vb vo vc hc5 hvb W5 _ Hh5.out R5.out _ _ _ _ _ _ _ _ _ _ _ _ _ _ _ _ _ _ _ _ _ _ _ _ _ _ _ _ _ _ _ _ _ _ _ _ _ _ _ _ _ _ _ _ _ _ _ _ _ _ _ _ _ _ _ _ _ _ _ _ _ _ _ _ _ _ _ _ _ _ _ _ _ _ _ _ _ _ _ _ _ _ _ _ _ _ _ _ _ _ _ _ _ _ _ _ _ _ _ _ _ _ _ _ _ _ _ _ _ _ _ _ _ _ _ _ _ _ _ _ _ _ _ _ _ _ _ _ _ _ _ _ _ _ _ _ _ _ _ _ _ _ _ _ _ _ _ _ _ _ _ _ _ _ _ _ _ _ _ _ _ _ _ _ _ _ _ _ _ _ _ _ _ _ _ _ _ _ _ _ _ _ _ _ _ _ _ _ _ _ _ _ _ _ _ _ _ _ _ _ _ _ _ _ _ _ _ _ _ _ _ _ _ _ _ _ _ _ _ _ _ _ _ _ _ _ _ _ _ _ _ _ _ _ _ _ _ _ _ _ _ _ _ _ _ _ _ _ _ _ _ _ _ _ _ _ _ _ _ _ _ _ _ _ _ _ _ _ ?_
      intro W6 u21 u234 u235 u236 u237 u238 u239 u240 u241 u242 u243 u244 u245 u246 u247 u248 u249 u250 u251 g6 b6 z6
      dsimp only
      have GD : Hid (w.grownBy W6 none) := Go.Lib.hid (gb_trans_new GC.out g6 (by have := hlt1; omega))
      have H06 := Go.Lib.hid (H05.out.grown g6 (by simp; omega))
      have Hk6 := Go.Lib.hid (Hk5.out.grown g6 (by simp))
      have Hh6 := Go.Lib.hid b6
      clear g6 b6 z6 GC H05 Hk5 Hh5 R5
      go_wp2_with fail
      go_roundw
      case rel =>
        refine ⟨at0 + 64, j + 1, by go_num, Go.Lib.hid (by have := Hat.out; omega), by omega, GD, H06, Hk6, Go.Lib.hid ?_⟩
        rw [Hfs.out, ← Hat.out, ← HB.out]
        exact Hh6.out
      case measure => simp [intOf]; have := Hat.out; omega
    · obtain rfl : j = n := by omega
      have hlt' : decide (at0 < Pl.length) = false := decide_eq_false (by omega)
      have HPn := Go.Lib.hid hPn
      clear hPn hat hlt hj
      rw [show chunks j Pl = blocks l from HF.out.symm] at Hh
      obtain ⟨st, hst⟩ : ∃ st, st = (blocks l).foldl comp init := ⟨_, rfl⟩
      rw [← hst] at Hh
      have HST := Go.Lib.hid hst
      clear hst
      go_wp2_with (first
        | ((with_reducible refine wpList_build_row (t := 34) idZ (fun _ => by kernel_rfl) ?_))
        | ((with_reducible refine wpList_alloc_row (E := 34) idZ infoId ?_); have bz := Bk.new wr 34 idZ)
        | ((with_reducible refine wpList_store_bk (t := 34) wr.heap.size 34 idZ idZ bz (by kernel_rfl) (by kernel_rfl) (by kernel_rfl) rfl (by decide) ?_); intro w5 h5 g5 z5))
      clear hlen hlt' bz hn1
      have GA : Hid (w.grownBy w5 none) := Go.Lib.hid (gb_trans_new (gb_alloc Hg.out _) g5 Hg.out.size)
      have l0 := H0.out.lt
      have lh := Hh.out.lt
      have H05 := Go.Lib.hid ((H0.out.alloc (.cells idZ.toArray 34)).grown g5 (by simp; omega))
      have Hh5 := Go.Lib.hid ((Hh.out.alloc (.cells idZ.toArray 34)).grown g5 (by simp; omega))
      have Hb5 := Go.Lib.hid h5
      have hob : w.heap.size ≠ wr.heap.size := by omega
      have hob2 : kb + 1 ≠ wr.heap.size := by omega
      have hob3 : w.heap.size ≤ wr.heap.size := by omega
      generalize wr.heap.size = ob at *
      clear g5 z5 h5 Hg H0 Hh Hk l0 lh
      go_loopw [23] (fun v wr => ∃ i : Nat, i ≤ 32 ∧ v = .int .i64 i ∧ Hid (w.grownBy wr none) ∧ Hid (Bk wr w.heap.size 34 idZ) ∧ Hid (Bk wr (kb + 1) 114 (st.list.map wq)) ∧ Hid (Bk wr ob 34 (idl st i)))
        (fun v _ => 32 - (intOf v).toNat)
      case atStart => exact ⟨0, by omega, rfl, GA, H05, Hh5, Hb5⟩
      case round =>
        clear GA H05 Hh5 Hb5
        obtain ⟨i, hi, rfl, GA, H05, Hh5, Hb5⟩ := hrel
        by_cases hlt : i < 32
        · have c0 : wr.cell? ⟨kb + 1, i / 4, none⟩ = some (.int .u64 (wn (st.list.getD (i / 4) 0))) := Hh5.out.cellAt (wqAt _ _ (by rw [list_len]; omega))
          have hid := Go.Lib.hid (id_val64 st i hlt)
          obtain ⟨xw, hxw⟩ : ∃ x, x = st.list.getD (i / 4) 0 := ⟨_, rfl⟩
          rw [← hxw] at c0 hid
          clear hxw
          have f0 := Hb5.out.cellAt (idl_free st i hlt)
          have f1 := Hb5.out.frozen i
          have hx0 := wn_bd xw
          have t0 : ((i : Int) / 4).toNat = i / 4 := by omega
          have hltI : (0 : Int) ≤ (i : Int) ∧ (i : Int) < 32 := by omega
          go_wp2_with fail
          go_roundw
          case rel =>
            rw [hid.out]
            refine ⟨i + 1, by omega, by go_num, Go.Lib.hid (gb_set_new GA.out _ _ hob3), Go.Lib.hid (H05.out.far (by simpa using hob) _), Go.Lib.hid (Hh5.out.far (by simpa using hob2) _), Go.Lib.hid ?_⟩
            rw [← idl_set st i hlt]; exact Hb5.out.set i _
          case measure => simp [intOf]; omega
        · obtain rfl : i = 32 := by omega
          rw [idl_full] at Hb5
          clear hlt hi
          have b3 := Hb5.out
          have b4 := H05.out
          go_wp2_with (first
            | ((with_reducible refine wpList_load_bk (t := 34) ob _ (st.id.l.map bv) _ b3 (by kernel_rfl) Try.underlying34 rfl (idSize _) ?_))
            | ((with_reducible refine wpList_store_bk (t := 34) w.heap.size 34 idZ (st.id.l.map bv) b4 (by kernel_rfl) (by kernel_rfl) (idSize _) (idLen _) (idOne _) ?_); intro w5 h5 g5 z5))
          go_frame
          refine bodyPost_ret (results_id rfl _ _ w.heap.size st.id rfl h5) rfl ⟨?_, gb_trans_new GA.out g5 (Nat.le_refl _)⟩
          rw [HST.out]; rfl
end Go.Proofs.Ytajgklomcapboaa
