import Derived.Test.YtajgklomcapboaaWord64
import Derived.Test.YtajgklomcapboaaApp
import Derived.Test.YtajgklomcapboaaBlocks
import Derived.Test.YtajgklomcapboaaTake
import Derived.Lib.Hide
import Derived.StillTailTactics
/- scrivenerref01.Of: its schedule of a block. -/
namespace Go.Proofs.Ytajgklomcapboaa
open Go.RowKit Sc

def cL : Code → Code
  | .seq a _ => a
  | c => c
def cR : Code → Code
  | .seq _ b => b
  | c => c
def cI : Code → Code
  | .loop c => c
  | .block _ c => c
  | c => c
/-- The outer loop's body, behind its test. -/
def refY (f : Func) : Code := cI (cL (cR (cI (cI (cR (cL (cR (cR (cR (cR (cR (bodyOf f))))))))))))
/-- Draws, one behind the other. -/
theorem drew_chain {w0 w1 w2 : World} {n : Nat} (h : Hid (∃ n, w1 = w0.drewN n)) (k : w2 = w1.drewN n) : Hid (∃ n, w2 = w0.drewN n) := by
  obtain ⟨m, hm⟩ := h.out
  exact Go.Lib.hid ⟨m + n, by rw [k, hm]; simp⟩
theorem drew_open {w0 w1 : World} (h : Hid (∃ n, w1 = w0.drewN n)) : (∀ a, w1.cell? a = w0.cell? a) ∧ (∀ a, w1.frozen? a = w0.frozen? a) ∧ w1.heap = w0.heap ∧ ∀ (a : World) row, a.grownBy w0 row → a.grownBy w1 row := by
  obtain ⟨m, rfl⟩ := h.out
  exact ⟨fun _ => rfl, fun _ => rfl, rfl, fun _ _ hg => gb_drewN hg m⟩
def wqE (i : Nat) (blk : List UInt8) (p : Int) : List Value := (sched blk i).map wq ++ .int .u64 p :: List.replicate (63 - i) (wq 0)
def wql (blk : List UInt8) (i : Nat) : List Value := (sched blk i).map wq ++ List.replicate (64 - i) (wq 0)
theorem wql_at (blk : List UInt8) (i j : Nat) (h : j < i) : (wql blk i)[j]? = some (wq ((sched blk i).getD j 0)) := by
  unfold wql
  have hl := sched_length blk i
  rw [List.getElem?_append_left (by simp; omega), List.getElem?_map, List.getD_eq_getElem?_getD, List.getElem?_eq_getElem (by omega)]; rfl
theorem wql_open (blk : List UInt8) (i : Nat) (h : i < 64) : wql blk i = wqE i blk 0 := by
  unfold wql wqE
  rw [show 64 - i = (63 - i) + 1 by omega, List.replicate_succ]; rfl
theorem wqE_len (blk : List UInt8) (i : Nat) : ((sched blk i).map wq).length = i := by rw [List.length_map, sched_length]
theorem wqE_at (blk : List UInt8) (i : Nat) (p : Int) : (wqE i blk p)[i]? = some (.int .u64 p) := by
  unfold wqE
  rw [List.getElem?_append_right (by rw [wqE_len]; exact Nat.le_refl _), wqE_len, Nat.sub_self]; rfl
theorem wqE_set (blk : List UInt8) (i : Nat) (p q : Int) : (wqE i blk p).set i (.int .u64 q) = wqE i blk q := by
  unfold wqE
  rw [List.set_append_right _ _ (by rw [wqE_len]; exact Nat.le_refl _), wqE_len, Nat.sub_self]; rfl
theorem wqE_done (blk : List UInt8) (i : Nat) (h : i < 64) : wqE i blk (wn (wNext blk (sched blk i))) = wql blk (i + 1) := by
  unfold wqE wql
  rw [show 64 - (i + 1) = 63 - i by omega]
  simp [sched, wq]
/-- A word, c of its bytes in. -/
def part4 (blk : List UInt8) (i c : Nat) : Nat := match c with
  | 0 => 0
  | c + 1 => part4 blk i c * 256 + (blk.getD (4 * i + c) 0).toNat
theorem part4_lt (blk : List UInt8) (i c : Nat) : part4 blk i c < 256 ^ c := by
  induction c with
  | zero => simp [part4]
  | succ c ih => have := (blk.getD (4 * i + c) 0).toNat_lt; unfold part4; rw [Nat.pow_succ]; omega
theorem part4_all (blk : List UInt8) (i : Nat) (h : i < 16) : ((part4 blk i 4 : Nat) : Int) = wn (wNext blk (sched blk i)) := by
  have h4 := part4_lt blk i 4
  rw [next_lo blk i h]
  unfold be32 wn
  rw [BitVec.toNat_ofNat]
  simp only [part4, Nat.add_zero] at h4 ⊢
  omega
theorem run_index_sv {P : Program} {t : TypeId} (ht : P.underlying t = some .string) (l : List UInt8) (i : Int) (j : Nat) (hi : i = j) (hj : j < l.length) (w : World) : (Instr.index t (sv l) (.int .i64 i)).run P w = .ok (bv (l.getD j 0)) w := by
  subst hi
  unfold sv
  rw [run_index_string (P := P) w t (sb l) .i64 (j : Int) ht]
  have hs := sb_size l
  rw [dif_pos (by omega)]
  congr 1
  unfold bv
  congr 2
  rw [List.getD_eq_getElem?_getD, List.getElem?_eq_getElem hj]
  rfl

set_option maxHeartbeats 4000000 in
set_option maxRecDepth 100000 in
theorem ref_sched (l0 Pl blk : List UInt8) (at0 wb : Nat) (W : World) (Q : Exit → Act → World → Prop) (hP : at0 + 64 ≤ Pl.length) (hPm : Pl.length ≤ 2199023255552) (hblk : blk = (Pl.drop at0).take 64) (hw : Bk W wb 114 (List.replicate 64 (wq 0)))
    (v1 v2 v4 v6 v10 v11 v12 v13 v14 v15 v16 v17 v18 v19 v20 v21 v22 v23 v24 v25 v26 v27 v28 v29 v30 v31 v32 v33 v34 v35 v36 v37 v38 v39 v40 v41 v42 v43 v44 v45 v46 v47 v48 v49 v50 v51 v52 v53 v54 v55 v56 v57 v58 v59 v60 v61 v62 v63 v64 v65 v66 v67 v68 v69 v70 v71 v72 v73 v74 v75 v76 v77 v78 v79 v80 v81 v82 v83 v84 v85 v86 v87 v88 v89 v90 v91 v92 v93 v94 v95 v96 v97 v98 v99 v100 v101 v102 v103 v104 v105 v106 v107 v108 v109 v110 v111 v112 v113 v114 v115 v116 v117 v118 v119 v120 v121 v122 v123 v124 v125 v126 v127 v128 v129 v130 v131 v132 v133 v134 v135 v136 v137 v138 v139 v140 v141 v142 v143 v144 v145 v146 v147 v148 v149 v150 v151 v152 v153 v154 v155 v156 v157 v158 v159 v160 v161 v162 v163 v164 v165 v166 v167 v168 v169 v170 v171 v172 v173 v174 v175 v176 v177 v178 v179 v180 v181 v182 v183 v184 v185 v186 v187 v188 v189 v190 v191 v192 v193 v194 v195 v196 v197 v198 v199 v200 v201 v202 v203 v204 v205 v206 v207 v208 v209 v210 v211 v212 v213 v214 v215 v216 v217 v218 v219 v220 v221 v222 v223 v224 v225 v226 v227 v228 v229 v230 v231 v232 v233 v234 v235 v236 v237 v238 v239 v240 v241 v242 v243 v244 v245 v246 v247 v248 v249 v250 v251 v252 v253 v254 v255 v256 v257 v258 v259 v260 v261 v262 v263 v264 v265 v266 v267 v268 v269 v270 v271 : Value)
    (hQ : ∀ (W' : World) (u9 u10 u11 u12 u13 u14 u35 u36 u37 u38 u39 u40 u41 u42 u43 u44 u45 u46 u47 u48 u49 u50 u51 u52 u53 u54 u55 u56 u57 u58 u59 u60 u61 u62 u63 u64 u65 u66 u67 u68 u69 u70 u71 u72 u73 u74 u75 u76 u77 u78 u79 u80 u81 u82 u83 u84 u85 u86 u87 u88 u89 u90 u91 u92 u93 u94 u95 u96 u97 u98 u99 u100 u101 u102 u103 u104 u105 u106 u107 u108 : Value), W.grownBy W' (some wb) → Bk W' wb 114 ((sched blk 64).map wq) → W'.heap.size = W.heap.size → Q .normal { tmps := #[sv l0, v1, v2, sv Pl, v4, .int .u64 4294967296, v6, .int .i64 (at0 : Int), .slice (some ⟨wb, 0, none⟩) 64 64, u9, u10, u11, u12, u13, u14, v15, v16, v17, v18, v19, v20, v21, v22, v23, v24, v25, v26, v27, v28, v29, v30, v31, v32, v33, v34, u35, u36, u37, u38, u39, u40, u41, u42, u43, u44, u45, u46, u47, u48, u49, u50, u51, u52, u53, u54, u55, u56, u57, u58, u59, u60, u61, u62, u63, u64, u65, u66, u67, u68, u69, u70, u71, u72, u73, u74, u75, u76, u77, u78, u79, u80, u81, u82, u83, u84, u85, u86, u87, u88, u89, u90, u91, u92, u93, u94, u95, u96, u97, u98, u99, u100, u101, u102, u103, u104, u105, u106, u107, u108, v109, v110, v111, v112, v113, v114, v115, v116, v117, v118, v119, v120, v121, v122, v123, v124, v125, v126, v127, v128, v129, v130, v131, v132, v133, v134, v135, v136, v137, v138, v139, v140, v141, v142, v143, v144, v145, v146, v147, v148, v149, v150, v151, v152, v153, v154, v155, v156, v157, v158, v159, v160, v161, v162, v163, v164, v165, v166, v167, v168, v169, v170, v171, v172, v173, v174, v175, v176, v177, v178, v179, v180, v181, v182, v183, v184, v185, v186, v187, v188, v189, v190, v191, v192, v193, v194, v195, v196, v197, v198, v199, v200, v201, v202, v203, v204, v205, v206, v207, v208, v209, v210, v211, v212, v213, v214, v215, v216, v217, v218, v219, v220, v221, v222, v223, v224, v225, v226, v227, v228, v229, v230, v231, v232, v233, v234, v235, v236, v237, v238, v239, v240, v241, v242, v243, v244, v245, v246, v247, v248, v249, v250, v251, v252, v253, v254, v255, v256, v257, v258, v259, v260, v261, v262, v263, v264, v265, v266, v267, v268, v269, v270, v271], defers := [] } W') :
    (cR (cL (cR (refY Try.f53)))).wp Try.prog Q
      { tmps := #[sv l0, v1, v2, sv Pl, v4, .int .u64 4294967296, v6, .int .i64 (at0 : Int), .slice (some ⟨wb, 0, none⟩) 64 64, .int .i64 0, v10, v11, v12, v13, v14, v15, v16, v17, v18, v19, v20, v21, v22, v23, v24, v25, v26, v27, v28, v29, v30, v31, v32, v33, v34, v35, v36, v37, v38, v39, v40, v41, v42, v43, v44, v45, v46, v47, v48, v49, v50, v51, v52, v53, v54, v55, v56, v57, v58, v59, v60, v61, v62, v63, v64, v65, v66, v67, v68, v69, v70, v71, v72, v73, v74, v75, v76, v77, v78, v79, v80, v81, v82, v83, v84, v85, v86, v87, v88, v89, v90, v91, v92, v93, v94, v95, v96, v97, v98, v99, v100, v101, v102, v103, v104, v105, v106, v107, v108, v109, v110, v111, v112, v113, v114, v115, v116, v117, v118, v119, v120, v121, v122, v123, v124, v125, v126, v127, v128, v129, v130, v131, v132, v133, v134, v135, v136, v137, v138, v139, v140, v141, v142, v143, v144, v145, v146, v147, v148, v149, v150, v151, v152, v153, v154, v155, v156, v157, v158, v159, v160, v161, v162, v163, v164, v165, v166, v167, v168, v169, v170, v171, v172, v173, v174, v175, v176, v177, v178, v179, v180, v181, v182, v183, v184, v185, v186, v187, v188, v189, v190, v191, v192, v193, v194, v195, v196, v197, v198, v199, v200, v201, v202, v203, v204, v205, v206, v207, v208, v209, v210, v211, v212, v213, v214, v215, v216, v217, v218, v219, v220, v221, v222, v223, v224, v225, v226, v227, v228, v229, v230, v231, v232, v233, v234, v235, v236, v237, v238, v239, v240, v241, v242, v243, v244, v245, v246, v247, v248, v249, v250, v251, v252, v253, v254, v255, v256, v257, v258, v259, v260, v261, v262, v263, v264, v265, v266, v267, v268, v269, v270, v271], defers := [] } W := by
  dsimp only [cL, cR, cI, refY, bodyOf, Try.f53, Option.getD]
  go_wp2_with fail
  have hbl : blk.length = 64 := by rw [hblk, List.length_take, List.length_drop]; omega
  have hba : ∀ j, j < 64 → blk.getD j 0 = Pl.getD (at0 + j) 0 := fun j hj => by
    rw [hblk, List.getD_eq_getElem?_getD, List.getElem?_take_of_lt hj, List.getElem?_drop, ← List.getD_eq_getElem?_getD]
  have Hba := Go.Lib.hid hba
  clear hblk hba
  go_loopw [9] (fun v wr => ∃ i : Nat, i ≤ 64 ∧ v = .int .i64 i ∧ W.grownBy wr (some wb) ∧ Bk wr wb 114 (wql blk i) ∧ Hid (wr.heap.size = W.heap.size)) (fun v _ => 64 - (intOf v).toNat)
  case atStart => exact ⟨0, by omega, rfl, gb_refl _ _, hw, Go.Lib.hid rfl⟩
  case round =>
    obtain ⟨i, hi, rfl, hg, hb, Hz⟩ := hrel
    by_cases hlt : i < 64
    · have hltI : (0 : Int) ≤ (i : Int) ∧ (i : Int) < 64 := by omega
      have hlt' : decide ((i : Int) < 64) = true := decide_eq_true (by omega)
      by_cases h16 : i < 16
      · have hb0 : Bk wr wb 114 (wqE i blk ((part4 blk i 0 : Nat) : Int)) := by rw [wql_open blk i hlt] at hb; exact hb
        have h16' : decide ((i : Int) < 16) = true := decide_eq_true (by omega)
        go_wp2_with fail
        clear h16' hlt'
        go_loopw [10] (fun v wq => ∃ c : Nat, c ≤ 4 ∧ v = .int .i64 c ∧ W.grownBy wq (some wb) ∧ Bk wq wb 114 (wqE i blk ((part4 blk i c : Nat) : Int)) ∧ Hid (wq.heap.size = W.heap.size)) (fun v _ => 4 - (intOf v).toNat)
        case atStart => exact ⟨0, by omega, rfl, hg, hb0, Hz⟩
        case round =>
          clear hb0 hb hg Hz
          obtain ⟨c, hc, rfl, hg, hb, Hz⟩ := hrel
          by_cases hc4 : c < 4
          · have c0 := hb.cellAt (wqE_at blk i _)
            have f0 := hb.frozen i
            have hp4 := part4_lt blk i c
            have hp5 : part4 blk i c < 4294967296 := Nat.lt_of_lt_of_le hp4 (Nat.le_trans (Nat.pow_le_pow_right (by decide) (show c ≤ 4 by omega)) (by decide))
            obtain ⟨p, hp⟩ : ∃ p, p = part4 blk i c := ⟨_, rfl⟩
            rw [← hp] at c0 hp5
            have HP := Go.Lib.hid hp
            have hidx := fun W' => run_index_sv (P := Try.prog) Try.underlying9 Pl ((at0 : Int) + 4 * (i : Int) + (c : Int)) (at0 + 4 * i + c) (by omega) (by omega) W'
            obtain ⟨y, hy⟩ : ∃ y, y = Pl.getD (at0 + 4 * i + c) 0 := ⟨_, rfl⟩
            rw [← hy] at hidx
            have HY := Go.Lib.hid hy
            clear hp hy hp4
            unfold bv at hidx
            have hyl := y.toNat_lt
            obtain ⟨yn, hyn⟩ : ∃ yn, yn = y.toNat := ⟨_, rfl⟩
            rw [← hyn] at hidx hyl
            have HYN := Go.Lib.hid hyn
            clear hyn
            have a1 : IntKind.i64.wrap (4 * (i : Int)) = 4 * (i : Int) := IntWalk.i64_in _ (by omega)
            have a2 : IntKind.i64.wrap ((at0 : Int) + 4 * (i : Int)) = (at0 : Int) + 4 * (i : Int) := IntWalk.i64_in _ (by omega)
            have a3 : IntKind.i64.wrap ((at0 : Int) + 4 * (i : Int) + (c : Int)) = (at0 : Int) + 4 * (i : Int) + (c : Int) := IntWalk.i64_in _ (by omega)
            have b1 : IntKind.u64.wrap ((p : Int) * 256) = (p : Int) * 256 := by rw [IntKind.wrap_u64]; omega
            have b2 : IntKind.u64.wrap (yn : Int) = (yn : Int) := by rw [IntKind.wrap_u64]; omega
            have b3 : IntKind.u64.wrap ((p : Int) * 256 + (yn : Int)) = (p : Int) * 256 + (yn : Int) := by rw [IntKind.wrap_u64]; omega
            go_wp2_with fail
            go_still_tail 18, (by kernel_rfl)
            clear a1 a2 a3 b1 b2 b3 hidx
            go_wp2_with fail
            go_roundw
            case rel =>
              refine ⟨c + 1, by omega, by go_num, gb_trans hg (gb_trans (gb_drew (gb_refl _ _)) (gb_set1 _ ⟨wb, i, none⟩ _)), ?_, Go.Lib.hid (by simpa using Hz.out)⟩
              have hb2 : Bk wr.drew wb 114 (wqE i blk ((part4 blk i c : Nat) : Int)) := hb
              have := hb2.set i (.int .u64 ((p : Int) * 256 + (yn : Int)))
              rw [wqE_set] at this
              have e : ((part4 blk i (c + 1) : Nat) : Int) = (p : Int) * 256 + (yn : Int) := by
                have e1 : blk.getD (4 * i + c) 0 = y := by rw [Hba.out _ (by omega), HY.out, Nat.add_assoc]
                show ((part4 blk i c * 256 + (blk.getD (4 * i + c) 0).toNat : Nat) : Int) = _
                rw [e1, ← HP.out, ← HYN.out]; omega
              rw [e]; exact this
            case measure => simp [intOf]; omega
          · obtain rfl : c = 4 := by omega
            rw [part4_all blk i h16, wqE_done blk i hlt] at hb
            clear hc hc4
            have a1 : IntKind.i64.wrap ((i : Int) + 1) = (i : Int) + 1 := IntWalk.i64_in _ (by omega)
            go_wp2_with fail
            go_roundw
            case rel => exact ⟨i + 1, by omega, by go_num, hg, hb, Hz⟩
            case measure => simp [intOf]; omega
      · have c0 := hb.cellAt (wql_at blk i (i - 15) (by omega))
        have c1 := hb.cellAt (wql_at blk i (i - 2) (by omega))
        have c2 := hb.cellAt (wql_at blk i (i - 16) (by omega))
        have c3 := hb.cellAt (wql_at blk i (i - 7) (by omega))
        have hwn := Go.Lib.hid (next_hi blk i (by omega))
        obtain ⟨x0, h0⟩ : ∃ x, x = (sched blk i).getD (i - 15) 0 := ⟨_, rfl⟩
        obtain ⟨x1, h1⟩ : ∃ x, x = (sched blk i).getD (i - 2) 0 := ⟨_, rfl⟩
        obtain ⟨x2, h2⟩ : ∃ x, x = (sched blk i).getD (i - 16) 0 := ⟨_, rfl⟩
        obtain ⟨x3, h3⟩ : ∃ x, x = (sched blk i).getD (i - 7) 0 := ⟨_, rfl⟩
        rw [← h0, ← h1, ← h2, ← h3] at hwn
        rw [← h0] at c0
        rw [← h1] at c1
        rw [← h2] at c2
        rw [← h3] at c3
        clear h0 h1 h2 h3
        unfold wq at c0 c1 c2 c3
        have hb0 : Bk wr wb 114 (wqE i blk 0) := by rw [wql_open blk i hlt] at hb; exact hb
        have f0 := hb0.cellAt (wqE_at blk i 0)
        have f1 := hb0.frozen i
        have a0 : IntKind.i64.wrap ((i : Int) - 15) = (i : Int) - 15 := IntWalk.i64_in _ (by omega)
        have a1 : IntKind.i64.wrap ((i : Int) - 2) = (i : Int) - 2 := IntWalk.i64_in _ (by omega)
        have t0 : ((i : Int) - 15).toNat = i - 15 := by omega
        have t1 : ((i : Int) - 2).toNat = i - 2 := by omega
        have b0 : 0 ≤ (i : Int) - 15 ∧ (i : Int) - 15 < 64 := by omega
        have b1 : 0 ≤ (i : Int) - 2 ∧ (i : Int) - 2 < 64 := by omega
        have C2 := Go.Lib.hid c2
        have C3 := Go.Lib.hid c3
        have F0 := Go.Lib.hid f0
        have F1 := Go.Lib.hid f1
        have HB0 := Go.Lib.hid hb0
        clear c2 c3 f0 f1 hb0 hb
        have h16' : decide ((i : Int) < 16) = false := decide_eq_false (by omega)
        go_wp2_with fail
        clear h16' hlt'
        go_quiet (fail)
        clear a0 a1 t0 t1 b0 b1 c0 c1
        have hx0 := wn_bd x0
        have hx1 := wn_bd x1
        have wx := wq_xor
        have Hd : Hid (∃ n, wr.drewN nq = wr.drewN n) := Go.Lib.hid ⟨nq, rfl⟩
        have s3 := wn_shr3 x0
        have s10 := wn_shr10 x1
        go_wp2_with (go_at_call 67; refine (turn_any _ _ (by decide) _).mono ?_; rintro e w' ⟨rfl, nn, hw⟩; replace Hd := drew_chain Hd hw; clear hw)
        rw [show x0.rotateRight 7 ^^^ x0.rotateRight 18 ^^^ x0 >>> 3 = low x0 from rfl, show x1.rotateRight 17 ^^^ x1.rotateRight 19 ^^^ x1 >>> 10 = high x1 from rfl]
        clear wx s3 s10 hx0 hx1
        obtain ⟨e1, e2, e3, e4⟩ := drew_open Hd
        have c2 := (e1 _).trans C2.out
        have c3 := (e1 _).trans C3.out
        have f0 := (e1 _).trans F0.out
        have f1 := (e2 _).trans F1.out
        have hg1 := e4 _ _ hg
        have E3 := Go.Lib.hid e3
        clear C2 C3 F0 F1 e1 e2 e3 e4 Hd hg
        have hx2 := wn_bd x2
        have hx3 := wn_bd x3
        have hxl := wn_bd (low x0)
        have hxh := wn_bd (high x1)
        have a2 : IntKind.i64.wrap ((i : Int) - 16) = (i : Int) - 16 := IntWalk.i64_in _ (by omega)
        have a3 : IntKind.i64.wrap ((i : Int) - 7) = (i : Int) - 7 := IntWalk.i64_in _ (by omega)
        have t2 : ((i : Int) - 16).toNat = i - 16 := by omega
        have t3 : ((i : Int) - 7).toNat = i - 7 := by omega
        have b2 : 0 ≤ (i : Int) - 16 ∧ (i : Int) - 16 < 64 := by omega
        have b3 : 0 ≤ (i : Int) - 7 ∧ (i : Int) - 7 < 64 := by omega
        have b4 : (7 : Int) ≤ (i : Int) ∧ (16 : Int) ≤ (i : Int) := by omega
        have d1 : IntKind.u64.wrap (wn x2 + wn (low x0)) = wn x2 + wn (low x0) := by rw [IntKind.wrap_u64]; omega
        have d2 : IntKind.u64.wrap (wn x2 + wn (low x0) + wn x3) = wn x2 + wn (low x0) + wn x3 := by rw [IntKind.wrap_u64]; omega
        have d3 : IntKind.u64.wrap (wn x2 + wn (low x0) + wn x3 + wn (high x1)) = wn x2 + wn (low x0) + wn x3 + wn (high x1) := by rw [IntKind.wrap_u64]; omega
        have d4 : (wn x2 + wn (low x0) + wn x3 + wn (high x1)).tmod 4294967296 = wn (x2 + low x0 + x3 + high x1) := by rw [Int.tmod_eq_emod_of_nonneg (by omega), add_mod4]
        have d5 : (wn x2 + wn (low x0) + wn x3 + wn (high x1)) % 4294967296 = wn (x2 + low x0 + x3 + high x1) := add_mod4 _ _ _ _
        clear hx2 hx3 hxl hxh
        go_still_tail 20, (by kernel_rfl)
        clear a2 a3 t2 t3 b2 b3 b4 c2 c3 d1 d2 d3 d4 d5
        go_wp2_with fail
        go_roundw
        case rel =>
          refine ⟨i + 1, by omega, by go_num, gb_trans hg1 (gb_trans (gb_drew (gb_refl _ _)) (gb_set1 _ ⟨wb, i, none⟩ _)), ?_, Go.Lib.hid (by simp [E3.out, Hz.out])⟩
          have hb2 : Bk w'.drew wb 114 (wqE i blk 0) := by have := HB0.out; unfold Bk at this ⊢; rw [← this, ← E3.out]; rfl
          have := hb2.set i (.int .u64 (wn (x2 + low x0 + x3 + high x1)))
          rw [wqE_set, ← hwn.out, wqE_done blk i hlt, hwn.out] at this
          exact this
        case measure => simp [intOf]; omega
    · obtain rfl : i = 64 := by omega
      clear hlt hi
      have hlt' : decide ((64 : Int) < 64) = false := rfl
      have hb' : Bk wr wb 114 ((sched blk 64).map wq) := by have := hb; unfold wql at this; simpa using this
      clear hb
      go_wp2_with fail
      exact hQ wr _ _ _ _ _ _ _ _ _ _ _ _ _ _ _ _ _ _ _ _ _ _ _ _ _ _ _ _ _ _ _ _ _ _ _ _ _ _ _ _ _ _ _ _ _ _ _ _ _ _ _ _ _ _ _ _ _ _ _ _ _ _ _ _ _ _ _ _ _ _ _ _ _ _ _ _ _ _ _ _ hg hb' Hz.out
end Go.Proofs.Ytajgklomcapboaa
