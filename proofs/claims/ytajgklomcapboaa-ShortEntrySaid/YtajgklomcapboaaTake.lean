import Derived.Test.YtajgklomcapboaaProg
import Derived.Test.YtajgklomcapboaaWord
/- The walk of sum.take: a block taken into a state is 'comp'. -/
namespace Go.Proofs.Ytajgklomcapboaa
open Go.RowKit Sc

def rotOk (k : Int) : Bool := decide (-31 ≤ k ∧ k ≤ -1)

theorem rot_count (k : Int) (h : rotOk k = true) : bits BinOp.and IntKind.u64 (IntKind.u64.wrap k) 31 = (((32 - (-k).toNat) : Nat) : Int) := by
  have h' : -31 ≤ k ∧ k ≤ -1 := of_decide_eq_true h
  obtain ⟨m, hm⟩ : ∃ m : Fin 31, k = -((m.1 : Int) + 1) := ⟨⟨(-k - 1).toNat, by omega⟩, by simp; omega⟩
  subst hm
  clear h h'
  revert m
  decide +kernel

set_option maxHeartbeats 400000 in
theorem rot_any (x : Wd) (k : Int) (w : World) (h : rotOk k = true) :
    Calls Try.prog 69 #[.int .u32 (wn x), .int .i64 k] w fun e w' => e = .returned (.int .u32 (wn (rotr x (-k).toNat))) ∧ w' = w := by
  have hb := rot_count k h
  have h' : -31 ≤ k ∧ k ≤ -1 := of_decide_eq_true h
  have hx := wn_bd x
  have hr := wn_rot x (-k).toNat (by omega) (by omega)
  clear h
  obtain ⟨n, hn⟩ : ∃ n : Nat, n = (-k).toNat := ⟨_, rfl⟩
  have h1 : 1 ≤ n := by omega
  have h2 : n ≤ 31 := by omega
  rw [← hn] at hb hr ⊢
  clear hn h'
  have e1 : 32 - (32 - n) = n := by omega
  go_enter Try.func69, Try.ntmps69
  go_wp2
  go_ret
  exact ⟨rfl, rfl⟩

/-- The table of the standard's words, made. -/
def kCells : List Value := kTab.map wd
/-- 64 noughts. -/
def wCells : List Value := List.replicate 64 (wd 0)
theorem infoTab : ((Try.prog.info? 118).map fun i => (i.zero, i.size)) = some (some (.agg wCells.toArray), wCells.length) := by kernel_rfl
theorem sizeTab : (Try.prog.info? 118).map (·.size) = some kCells.length := by kernel_rfl
def sCells : List Value := List.replicate 8 (wd 0)
theorem infoSt : ((Try.prog.info? 101).map fun i => (i.zero, i.size)) = some (some (.agg sCells.toArray), sCells.length) := by kernel_rfl
theorem stSize (s : St) : (Try.prog.info? 101).map (·.size) = some (s.list.map wd).length := by kernel_rfl
theorem stLen (s : St) : sCells.length = (s.list.map wd).length := by kernel_rfl
theorem stLen2 (s t : St) : (s.list.map wd).length = (t.list.map wd).length := by kernel_rfl
theorem kLen : wCells.length = kCells.length := by kernel_rfl
theorem stOne (s : St) : ∀ v ∈ s.list.map wd, v.oneCell' = true := by
  intro v hv
  obtain ⟨x, _, rfl⟩ := List.mem_map.1 hv
  rfl
theorem kAt (i : Nat) (h : i < 64) : kCells[i]? = some (wd (kTab.getD i 0)) := by
  unfold kCells
  rw [List.getElem?_map, List.getD_eq_getElem?_getD, List.getElem?_eq_getElem (by exact h)]; rfl
/-- The state behind i words that have been added. -/
def mix (s v : St) (i : Nat) : List Value := ((s.add v).list.take i ++ s.list.drop i).map wd
theorem mix_free (s v : St) (i : Nat) (h : i < 8) : (mix s v i)[i]? = some (wd (s.list.getD i 0)) := by
  match i, h with
  | 0, _ => rfl
  | 1, _ => rfl
  | 2, _ => rfl
  | 3, _ => rfl
  | 4, _ => rfl
  | 5, _ => rfl
  | 6, _ => rfl
  | 7, _ => rfl
theorem mix_set (s v : St) (i : Nat) (h : i < 8) : (mix s v i).set i (wd (s.list.getD i 0 + v.list.getD i 0)) = mix s v (i + 1) := by
  match i, h with
  | 0, _ => rfl
  | 1, _ => rfl
  | 2, _ => rfl
  | 3, _ => rfl
  | 4, _ => rfl
  | 5, _ => rfl
  | 6, _ => rfl
  | 7, _ => rfl
theorem stAt (v : St) (i : Nat) (h : i < 8) : (v.list.map wd)[i]? = some (wd (v.list.getD i 0)) := by
  match i, h with
  | 0, _ => rfl
  | 1, _ => rfl
  | 2, _ => rfl
  | 3, _ => rfl
  | 4, _ => rfl
  | 5, _ => rfl
  | 6, _ => rfl
  | 7, _ => rfl
theorem kOne : ∀ v ∈ kCells, v.oneCell' = true := by
  intro v hv
  obtain ⟨x, _, rfl⟩ := List.mem_map.1 hv
  rfl

/-- The schedule's array behind i words. -/
def wl (blk : List UInt8) (i : Nat) : List Value := (sched blk i).map wd ++ List.replicate (64 - i) (wd 0)

theorem wl_zero (blk : List UInt8) : wl blk 0 = wCells := rfl
theorem wl_at (blk : List UInt8) (i j : Nat) (h : j < i) : (wl blk i)[j]? = some (wd ((sched blk i).getD j 0)) := by
  unfold wl
  have hl := sched_length blk i
  rw [List.getElem?_append_left (by simp; omega), List.getElem?_map, List.getD_eq_getElem?_getD, List.getElem?_eq_getElem (by omega)]; rfl
theorem wl_free (blk : List UInt8) (i : Nat) (h : i < 64) : (wl blk i)[i]? = some (wd 0) := by
  unfold wl
  have hl := sched_length blk i
  rw [List.getElem?_append_right (by simp; omega), List.length_map, hl, Nat.sub_self, List.getElem?_replicate]; simp; omega
theorem wl_set (blk : List UInt8) (i : Nat) (h : i < 64) : (wl blk i).set i (wd (wNext blk (sched blk i))) = wl blk (i + 1) := by
  unfold wl
  have hl := sched_length blk i
  rw [List.set_append_right _ _ (by simp; omega), List.length_map, hl, Nat.sub_self, show 64 - i = (64 - (i + 1)) + 1 by omega, List.replicate_succ, List.set_cons_zero]
  simp [sched]
theorem next_lo (blk : List UInt8) (i : Nat) (h : i < 16) : wNext blk (sched blk i) = be32 (blk.getD (4 * i) 0) (blk.getD (4 * i + 1) 0) (blk.getD (4 * i + 2) 0) (blk.getD (4 * i + 3) 0) := by
  unfold wNext; rw [sched_length, if_pos h]
theorem next_hi (blk : List UInt8) (i : Nat) (h : 16 ≤ i) : wNext blk (sched blk i) = (sched blk i).getD (i - 16) 0 + low ((sched blk i).getD (i - 15) 0) + (sched blk i).getD (i - 7) 0 + high ((sched blk i).getD (i - 2) 0) := by
  unfold wNext; rw [sched_length, if_neg (by omega)]
theorem low_bits (x : Wd) : bits BinOp.xor IntKind.u32 (wn (rotr x 7 ^^^ rotr x 18)) (wn x / 8) = wn (low x) := by rw [wn_shr3, wn_xor]; rfl
theorem high_bits (x : Wd) : bits BinOp.xor IntKind.u32 (wn (rotr x 17 ^^^ rotr x 19)) (wn x / 1024) = wn (high x) := by rw [wn_shr10, wn_xor]; rfl
theorem byte_at {w : World} {bb : Nat} {t : TypeId} {blk : List UInt8} (h : Bk w bb t (blk.map bv)) {j : Nat} (hj : j < blk.length) : w.cell? ⟨bb, j, none⟩ = some (.int .u8 ((blk.getD j 0).toNat : Int)) :=
  h.cellAt (by rw [List.getElem?_map, List.getD_eq_getElem?_getD, List.getElem?_eq_getElem hj]; rfl)

set_option maxHeartbeats 4000000 in
set_option maxRecDepth 100000 in
theorem take_rest (bs bb : Nat) (s : St) (blk : List UInt8) (w wr : World) (hs : Bk w bs 101 (s.list.map wd))
    (hg : w.grownBy wr none) (Hz : Hid (wr.heap.size = w.heap.size + 2)) (hk : Bk wr w.heap.size 118 kCells) (hw : Bk wr (w.heap.size + 1) 118 (wl blk 64))
    (v2 v3 v6 v7 v8 v9 v10 v11 v12 v13 v14 v15 v16 v17 v18 v19 v20 v21 v22 v23 v24 v25 v26 v27 v28 v29 v30 v31 v32 v33 v34 v35 v36 v37 v38 v39 v40 v41 v42 v43 v44 v45 v46 v47 v48 v49 v50 v51 v52 v53 v54 v55 v56 v57 v58 v59 v60 v61 v62 v63 v64 v65 v66 v67 v68 v69 v70 v71 v72 v73 v74 v75 v76 v77 v78 v79 v80 v81 v82 v83 v84 v85 v86 v87 v88 v89 v90 v91 v92 v93 v94 v95 v96 v97 v98 v99 v100 v101 v102 v103 v104 v105 v106 v107 v108 v109 v110 v111 v112 v113 v114 v115 v116 v117 v118 v119 v120 v121 v122 v123 v124 v125 v126 v127 v128 v129 v130 v131 v132 v133 v134 v135 v136 v137 v138 v139 v140 v141 v142 v143 v144 v145 v146 v147 v148 v149 v150 v151 v152 v153 v154 v155 v156 v157 v158 v159 v160 v161 v162 v163 v164 v165 v166 v167 v168 v169 v170 v171 v172 v173 v174 v175 v176 v177 v178 v179 v180 v181 v182 v183 v184 v185 v186 v187 v188 v189 v190 v191 v192 v193 v194 v195 v196 v197 : Value) :
    (tl (tl (tl (bodyOf Try.f63)))).wp Try.prog
      (bodyPost Try.prog Try.f63 fun e w' => e = .returned (.tuple #[]) ∧ w.grownBy w' (some bs) ∧ Bk w' bs 101 ((comp s blk).list.map wd))
      { tmps := #[.pointer (some ⟨bs, 0, none⟩), .pointer (some ⟨bb, 0, none⟩), v2, v3, .pointer (some ⟨w.heap.size, 0, none⟩), .pointer (some ⟨w.heap.size + 1, 0, none⟩), v6, v7, v8, v9, v10, v11, v12, v13, v14, v15, v16, v17, v18, v19, v20, v21, v22, v23, v24, v25, v26, v27, v28, v29, v30, v31, v32, v33, v34, v35, v36, v37, v38, v39, v40, v41, v42, v43, v44, v45, v46, v47, v48, v49, v50, v51, v52, v53, v54, v55, v56, v57, v58, v59, v60, v61, v62, v63, v64, v65, v66, v67, v68, v69, v70, v71, v72, v73, v74, v75, v76, v77, v78, v79, v80, v81, v82, v83, v84, v85, v86, v87, v88, v89, v90, v91, v92, v93, v94, v95, v96, v97, v98, v99, v100, v101, v102, v103, v104, v105, v106, v107, v108, v109, v110, v111, v112, v113, v114, v115, v116, v117, v118, v119, v120, v121, v122, v123, v124, v125, v126, v127, v128, v129, v130, v131, v132, v133, v134, v135, v136, v137, v138, v139, v140, v141, v142, v143, v144, v145, v146, v147, v148, v149, v150, v151, v152, v153, v154, v155, v156, v157, v158, v159, v160, v161, v162, v163, v164, v165, v166, v167, v168, v169, v170, v171, v172, v173, v174, v175, v176, v177, v178, v179, v180, v181, v182, v183, v184, v185, v186, v187, v188, v189, v190, v191, v192, v193, v194, v195, v196, v197], defers := [] } wr := by
  dsimp only [tl, bodyOf, Try.f63, Option.getD]
  have hsr := hs.grown hg (by simp)
  go_wp2_with (first
    | ((with_reducible refine wpList_load_bk (t := 101) bs _ (s.list.map wd) _ hsr (by kernel_rfl) Try.underlying101 rfl (stSize s) ?_))
    | ((with_reducible refine wpList_alloc_row sCells infoSt ?_))
    | ((with_reducible refine wpList_store_bk (t := 101) wr.heap.size _ sCells (s.list.map wd) (Bk.new _ _ _) (by kernel_rfl) (by kernel_rfl) (stSize s) (stLen s) (stOne s) ?_); intro w2 hv2 hg2 hz2))
  have hgv : w.grownBy w2 none := gb_trans_new (gb_alloc hg _) hg2 (by rw [Hz.out]; omega)
  have Hzv : Hid (w2.heap.size = w.heap.size + 3) := Go.Lib.hid (by rw [hz2, World.size_alloc, Hz.out])
  have hkv := (hk.alloc (.cells sCells.toArray 101)).grown hg2 (by rw [Hz.out]; simp)
  have hwv := (hw.alloc (.cells sCells.toArray 101)).grown hg2 (by rw [Hz.out]; simp)
  rw [Hz.out] at hv2
  rw [Hz.out]
  clear hg hk hw Hz hsr hz2 hg2
  go_loopw [106] (fun v wr => ∃ i : Nat, i ≤ 64 ∧ v = .int .i64 i ∧ w.grownBy wr none ∧ wr.heap.size = w.heap.size + 3 ∧ Bk wr w.heap.size 118 kCells ∧ Bk wr (w.heap.size + 1) 118 (wl blk 64) ∧
      Bk wr (w.heap.size + 2) 101 ((rnds (sched blk 64) s i).list.map wd))
    (fun v _ => 64 - (intOf v).toNat)
  case atStart => exact ⟨0, by omega, rfl, hgv, Hzv.out, hkv, hwv, hv2⟩
  case round =>
    clear hgv Hzv hkv hwv hv2
    obtain ⟨i, hi, rfl, hg, hz, hk, hw, hv⟩ := hrel
    have Hz := Go.Lib.hid hz
    clear hz
    by_cases hlt : i < 64
    · obtain ⟨v, hvv⟩ : ∃ v, v = rnds (sched blk 64) s i := ⟨_, rfl⟩
      rw [← hvv] at hv
      have Hv := Go.Lib.hid hvv
      clear hvv
      have c0 := hv.cellAt (i := 0) (v := .int .u32 (wn v.a)) rfl
      have c4 := hv.cellAt (i := 4) (v := .int .u32 (wn v.e)) rfl
      go_wp2_with fail
      go_quiet (fail)
      clear c0 c4
      replace hg := gb_drewN hg nq
      replace hk := hk.drewN nq
      replace hw := hw.drewN nq
      replace hv := hv.drewN nq
      replace Hz : Hid ((wr.drewN nq).heap.size = w.heap.size + 3) := Hz
      generalize wr.drewN nq = wq at *
      have c5 := hv.cellAt (i := 5) (v := .int .u32 (wn v.f)) rfl
      have c6 := hv.cellAt (i := 6) (v := .int .u32 (wn v.g)) rfl
      have c7 := hv.cellAt (i := 7) (v := .int .u32 (wn v.h)) rfl
      obtain ⟨kk, hkk⟩ : ∃ x, x = kTab.getD i 0 := ⟨_, rfl⟩
      obtain ⟨ww, hww⟩ : ∃ x, x = (sched blk 64).getD i 0 := ⟨_, rfl⟩
      have ck : wq.cell? ⟨w.heap.size, i, none⟩ = some (.int .u32 (wn kk)) := hk.cellAt (by rw [hkk]; exact kAt i hlt)
      have cw : wq.cell? ⟨w.heap.size + 1, i, none⟩ = some (.int .u32 (wn ww)) := hw.cellAt (by rw [hww]; exact wl_at blk 64 i hlt)
      have Hk := Go.Lib.hid hkk
      have Hw := Go.Lib.hid hww
      clear hkk hww
      have wx := wn_xor
      have wy := wn_and
      have wo := wn_or
      have wa := wn_add'
      have wb := wn_add
      have bi : 0 ≤ (i : Int) ∧ (i : Int) < 64 := by omega
      have ti : ((i : Int)).toNat = i := by omega
      go_wp2_with fail
      go_quiet ((go_at_call 69; exact Calls.quiet_of_same (rot_any _ _ _ (by decide))))
      clear c5 c7 ck cw
      replace hg := gb_drewN hg nq
      replace hk := hk.drewN nq
      replace hw := hw.drewN nq
      replace hv := hv.drewN nq
      replace Hz : Hid ((wq.drewN nq).heap.size = w.heap.size + 3) := Hz
      clear c6
      generalize wq.drewN nq = wp at *
      have c1 := hv.cellAt (i := 1) (v := .int .u32 (wn v.b)) rfl
      have c2 := hv.cellAt (i := 2) (v := .int .u32 (wn v.c)) rfl
      go_wp2_with fail
      go_quiet ((go_at_call 69; exact Calls.quiet_of_same (rot_any _ _ _ (by decide))))
      clear c1 c2
      replace hg := gb_drewN hg nq
      replace hk := hk.drewN nq
      replace hw := hw.drewN nq
      replace hv := hv.drewN nq
      replace Hz : Hid ((wp.drewN nq).heap.size = w.heap.size + 3) := Hz
      generalize wp.drewN nq = wo at *
      have c1 := hv.cellAt (i := 1) (v := .int .u32 (wn v.b)) rfl
      have c2 := hv.cellAt (i := 2) (v := .int .u32 (wn v.c)) rfl
      have c3 := hv.cellAt (i := 3) (v := .int .u32 (wn v.d)) rfl
      have c5 := hv.cellAt (i := 5) (v := .int .u32 (wn v.f)) rfl
      have c6 := hv.cellAt (i := 6) (v := .int .u32 (wn v.g)) rfl
      go_wp2_with (first
        | ((with_reducible refine wpList_build_row ((rnd v kk ww).list.map wd) (fun _ => by kernel_rfl) ?_))
        | ((with_reducible refine wpList_store_bk (t := 101) (w.heap.size + 2) _ (v.list.map wd) ((rnd v kk ww).list.map wd) hv (by kernel_rfl) (by kernel_rfl) (stSize _) (stLen2 _ _) (stOne _) ?_); intro w3 hv3 hg3 hz3))
      have hlt' := hs.lt
      go_roundw
      case rel =>
        refine ⟨i + 1, by omega, by go_num, gb_trans_new hg hg3 (by omega), by rw [hz3, Hz.out], hk.grown hg3 (by simp), hw.grown hg3 (by simp), ?_⟩
        rw [Hv.out, Hk.out, Hw.out] at hv3
        exact hv3
      case measure => simp [intOf]; omega
    · obtain rfl : i = 64 := by omega
      clear hlt hi
      have hsl := hs.lt
      have hs3 := hs.grown hg (by simp)
      have hgs := gb_none (row := some bs) hg
      obtain ⟨V, hV⟩ : ∃ V, V = rnds (sched blk 64) s 64 := ⟨_, rfl⟩
      rw [← hV] at hv
      have HV := Go.Lib.hid hV
      clear hV hg hk hw
      go_wp2_with fail
      go_loopw [183] (fun v wr => ∃ i : Nat, i ≤ 8 ∧ v = .int .i64 i ∧ w.grownBy wr (some bs) ∧ Bk wr (w.heap.size + 2) 101 (V.list.map wd) ∧ Bk wr bs 101 (mix s V i))
        (fun v _ => 8 - (intOf v).toNat)
      case atStart => exact ⟨0, by omega, rfl, hgs, hv, hs3⟩
      case round =>
        clear hgs hv hs3
        obtain ⟨i, hi, rfl, hg, hv, hx⟩ := hrel
        by_cases hlt : i < 8
        · have c0 : wr.cell? ⟨bs, i, none⟩ = some (.int .u32 (wn (s.list.getD i 0))) := hx.cellAt (mix_free s V i hlt)
          have c1 : wr.cell? ⟨w.heap.size + 2, i, none⟩ = some (.int .u32 (wn (V.list.getD i 0))) := hv.cellAt (stAt V i hlt)
          have f0 := hx.frozen i
          obtain ⟨xs, hxs⟩ : ∃ x, x = s.list.getD i 0 := ⟨_, rfl⟩
          obtain ⟨xv, hxv⟩ : ∃ x, x = V.list.getD i 0 := ⟨_, rfl⟩
          rw [← hxs] at c0
          rw [← hxv] at c1
          have Hxs := Go.Lib.hid hxs
          have Hxv := Go.Lib.hid hxv
          clear hxs hxv
          have wa := wn_add'
          have wb := wn_add
          have bi : 0 ≤ (i : Int) ∧ (i : Int) < 8 := by omega
          have ti : ((i : Int)).toNat = i := by omega
          go_wp2_with fail
          go_still_tail 11, (by kernel_rfl)
          clear wa wb bi ti c1
          go_wp2_with fail
          go_roundw
          case rel =>
            (repeat apply Exists.intro)
            refine ⟨?_, rfl⟩
            refine ⟨i + 1, by omega, by go_num, gb_drew (gb_set hg _ _ rfl), Bk.drew (hv.far (by simp; omega) _), ?_⟩
            have := hx.set i (wd (xs + xv))
            rw [Hxs.out, Hxv.out, mix_set s V i hlt] at this
            rw [Hxs.out, Hxv.out]
            exact this.drew
          case measure => simp [intOf]; omega
        · obtain rfl : i = 8 := by omega
          go_wp2_with fail
          go_end0
          refine ⟨rfl, hg, ?_⟩
          have : comp s blk = s.add V := by rw [HV.out]; rfl
          rw [this]
          exact hx


set_option maxHeartbeats 8000000 in
set_option maxRecDepth 100000 in
theorem take_any (bs bb : Nat) (s : St) (blk : List UInt8) (hl : blk.length = 64) (w : World) (hs : Bk w bs 101 (s.list.map wd)) (hb : Bk w bb 105 (blk.map bv)) :
    Calls Try.prog 63 #[.pointer (some ⟨bs, 0, none⟩), .pointer (some ⟨bb, 0, none⟩)] w fun e w' => e = .returned (.tuple #[]) ∧ w.grownBy w' (some bs) ∧ Bk w' bs 101 ((comp s blk).list.map wd) := by
  go_enter Try.func63, Try.ntmps63
  go_wp2_with (first
    | ((with_reducible refine wpList_build_row kCells (fun _ => by kernel_rfl) ?_))
    | ((with_reducible refine wpList_alloc_row wCells infoTab ?_))
    | ((with_reducible refine wpList_store_bk (t := 118) w.heap.size _ wCells kCells (Bk.new _ _ _) (by kernel_rfl) (by kernel_rfl) sizeTab kLen kOne ?_); intro w1 hk1 hg1 hz1))
  have hg0 : w.grownBy (w1.alloc (.cells wCells.toArray 118)) none := gb_alloc (gb_trans_new (gb_alloc (gb_refl w none) _) hg1 (Nat.le_refl _)) _
  have hz0 : (w1.alloc (.cells wCells.toArray 118)).heap.size = w.heap.size + 2 := by simp [hz1]
  have hw0 : Bk (w1.alloc (.cells wCells.toArray 118)) (w.heap.size + 1) 118 (wl blk 0) := by
    have := Bk.new w1 118 wCells
    rw [hz1, World.size_alloc] at this
    exact this
  have hk0 := hk1.alloc (.cells wCells.toArray 118)
  clear hk1 hg1 hz1
  go_loopw [19] (fun v wr => ∃ i : Nat, i ≤ 64 ∧ v = .int .i64 i ∧ w.grownBy wr none ∧ wr.heap.size = w.heap.size + 2 ∧ Bk wr w.heap.size 118 kCells ∧ Bk wr (w.heap.size + 1) 118 (wl blk i))
    (fun v _ => 64 - (intOf v).toNat)
  case atStart => exact ⟨0, by omega, rfl, hg0, hz0, hk0, hw0⟩
  case round =>
    clear hg0 hz0 hk0 hw0
    obtain ⟨i, hi, rfl, hg, hz, hk, hw⟩ := hrel
    have Hz := Go.Lib.hid hz; clear hz
    by_cases hlt : i < 64
    · by_cases h16 : i < 16
      · have hbr := hb.grown hg (by simp)
        have c0 := byte_at hbr (j := 4 * i) (by omega)
        have c1 := byte_at hbr (j := 4 * i + 1) (by omega)
        have c2 := byte_at hbr (j := 4 * i + 2) (by omega)
        have c3 := byte_at hbr (j := 4 * i + 3) (by omega)
        have f0 := hw.cellAt (wl_free blk i hlt)
        have f1 := hw.frozen i
        clear hbr
        have a0 : IntKind.i64.wrap (4 * (i : Int)) = 4 * (i : Int) := IntWalk.i64_in _ (by omega)
        have a1 : IntKind.i64.wrap (4 * (i : Int) + 1) = 4 * (i : Int) + 1 := IntWalk.i64_in _ (by omega)
        have a2 : IntKind.i64.wrap (4 * (i : Int) + 2) = 4 * (i : Int) + 2 := IntWalk.i64_in _ (by omega)
        have a3 : IntKind.i64.wrap (4 * (i : Int) + 3) = 4 * (i : Int) + 3 := IntWalk.i64_in _ (by omega)
        have t0 : (4 * (i : Int)).toNat = 4 * i := by omega
        have t1 : (4 * (i : Int) + 1).toNat = 4 * i + 1 := by omega
        have t2 : (4 * (i : Int) + 2).toNat = 4 * i + 2 := by omega
        have t3 : (4 * (i : Int) + 3).toNat = 4 * i + 3 := by omega
        have b0 : 0 ≤ 4 * (i : Int) ∧ 4 * (i : Int) < 64 := by omega
        have b1 : 0 ≤ 4 * (i : Int) + 1 ∧ 4 * (i : Int) + 1 < 64 := by omega
        have b2 : 0 ≤ 4 * (i : Int) + 2 ∧ 4 * (i : Int) + 2 < 64 := by omega
        have b3 : 0 ≤ 4 * (i : Int) + 3 ∧ 4 * (i : Int) + 3 < 64 := by omega
        go_wp2_with fail
        go_still_tail 39, (by kernel_rfl)
        go_wp2_with fail
        go_roundw
        case rel =>
          refine ⟨i + 1, by omega, by go_num, gb_drew (gb_set_new hg _ _ (by simp)), by simp [Hz.out], Bk.drew (hk.far (by simp) _), ?_⟩
          have := hw.set i (wd (wNext blk (sched blk i)))
          rw [wl_set blk i hlt, next_lo blk i h16] at this
          unfold wd at this
          rw [← wn_be32] at this
          simp only [List.getD_eq_getElem?_getD] at this
          exact this.drew
        case measure => simp [intOf]; omega
      · have c0 := hw.cellAt (wl_at blk i (i - 15) (by omega))
        have c1 := hw.cellAt (wl_at blk i (i - 2) (by omega))
        have c2 := hw.cellAt (wl_at blk i (i - 16) (by omega))
        have c3 := hw.cellAt (wl_at blk i (i - 7) (by omega))
        have hwn := Go.Lib.hid (next_hi blk i (by omega))
        obtain ⟨x0, h0⟩ : ∃ x, x = (sched blk i).getD (i - 15) 0 := ⟨_, rfl⟩
        obtain ⟨x1, h1⟩ : ∃ x, x = (sched blk i).getD (i - 2) 0 := ⟨_, rfl⟩
        obtain ⟨x2, h2⟩ : ∃ x, x = (sched blk i).getD (i - 16) 0 := ⟨_, rfl⟩
        obtain ⟨x3, h3⟩ : ∃ x, x = (sched blk i).getD (i - 7) 0 := ⟨_, rfl⟩
        rw [← h0, ← h1, ← h2, ← h3] at hwn
        rw [← h0] at c0
        rw [← h1] at c1
        rw [← h2] at c2
        rw [← h3] at c3
        clear h0 h1 h2 h3
        unfold wd at c0 c1 c2 c3
        have f0 := hw.cellAt (wl_free blk i hlt)
        have f1 := hw.frozen i
        have a0 : IntKind.i64.wrap ((i : Int) - 15) = (i : Int) - 15 := IntWalk.i64_in _ (by omega)
        have a1 : IntKind.i64.wrap ((i : Int) - 2) = (i : Int) - 2 := IntWalk.i64_in _ (by omega)
        have t0 : ((i : Int) - 15).toNat = i - 15 := by omega
        have t1 : ((i : Int) - 2).toNat = i - 2 := by omega
        have b0 : 0 ≤ (i : Int) - 15 ∧ (i : Int) - 15 < 64 := by omega
        have b1 : 0 ≤ (i : Int) - 2 ∧ (i : Int) - 2 < 64 := by omega
        have C2 := Go.Lib.hid c2
        have C3 := Go.Lib.hid c3
        have F0 := Go.Lib.hid f0
        have F1 := Go.Lib.hid f1
        clear c2 c3 f0 f1
        go_wp2_with fail
        go_quiet (fail)
        clear a0 a1 t0 t1 b0 b1 c0 c1
        have hx0 := wn_bd x0
        have hx1 := wn_bd x1
        have wx := wn_xor
        go_wp2_with (go_at_call 69; refine (rot_any _ _ _ (by decide)).mono ?_; rintro e w' ⟨rfl, rfl⟩)
        clear wx hx0 hx1
        rw [low_bits x0, high_bits x1]
        have c2 : (wr.drewN nq).cell? _ = _ := C2.out
        have c3 : (wr.drewN nq).cell? _ = _ := C3.out
        have f0 : (wr.drewN nq).cell? _ = _ := F0.out
        have f1 : (wr.drewN nq).frozen? _ = _ := F1.out
        have Hz' : Hid ((wr.drewN nq).heap.size = w.heap.size + 2) := Hz
        replace hg := gb_drewN hg nq
        replace hk := hk.drewN nq
        replace hw := hw.drewN nq
        clear C2 C3 F0 F1 Hz
        generalize wr.drewN nq = wq at *
        have a2 : IntKind.i64.wrap ((i : Int) - 16) = (i : Int) - 16 := IntWalk.i64_in _ (by omega)
        have a3 : IntKind.i64.wrap ((i : Int) - 7) = (i : Int) - 7 := IntWalk.i64_in _ (by omega)
        have t2 : ((i : Int) - 16).toNat = i - 16 := by omega
        have t3 : ((i : Int) - 7).toNat = i - 7 := by omega
        have b2 : 0 ≤ (i : Int) - 16 ∧ (i : Int) - 16 < 64 := by omega
        have b3 : 0 ≤ (i : Int) - 7 ∧ (i : Int) - 7 < 64 := by omega
        have b4 : (7 : Int) ≤ (i : Int) ∧ (16 : Int) ≤ (i : Int) := by omega
        have wa := wn_add
        have wa' := wn_add'
        go_still_tail 15, (by kernel_rfl)
        clear a2 a3 t2 t3 b2 b3 b4 c2 c3 wa wa'
        go_wp2_with fail
        go_roundw
        case rel =>
          refine ⟨i + 1, by omega, by go_num, gb_drew (gb_set_new hg _ _ (by simp)), by simp [Hz'.out], Bk.drew (hk.far (by simp) _), ?_⟩
          have := hw.set i (wd (wNext blk (sched blk i)))
          rw [wl_set blk i hlt, hwn.out] at this
          exact this.drew
        case measure => simp [intOf]; omega
    · obtain rfl : i = 64 := by omega
      clear hlt hi
      iterate 16 (first | go_step | skip)
      exact take_rest bs bb s blk w wr hs hg Hz hk hw _ _ _ _ _ _ _ _ _ _ _ _ _ _ _ _ _ _ _ _ _ _ _ _ _ _ _ _ _ _ _ _ _ _ _ _ _ _ _ _ _ _ _ _ _ _ _ _ _ _ _ _ _ _ _ _ _ _ _ _ _ _ _ _ _ _ _ _ _ _ _ _ _ _ _ _ _ _ _ _ _ _ _ _ _ _ _ _ _ _ _ _ _ _ _ _ _ _ _ _ _ _ _ _ _ _ _ _ _ _ _ _ _ _ _ _ _ _ _ _ _ _ _ _ _ _ _ _ _ _ _ _ _ _ _ _ _ _ _ _ _ _ _ _ _ _ _ _ _ _ _ _ _ _ _ _ _ _ _ _ _ _ _ _ _ _ _ _ _ _ _ _ _ _ _ _ _ _ _ _ _ _ _ _ _ _ _ _ _ _ _ _ _ _

end Go.Proofs.Ytajgklomcapboaa
