import Derived.Test.YtajgklomcapboaaRefRounds
/- scrivenerref01.Of: the state behind a block's rounds. -/
namespace Go.Proofs.Ytajgklomcapboaa
open Go.RowKit Sc

def addl (s v : St) (i : Nat) : List Wd := (s.add v).list.take i ++ s.list.drop i
theorem addl_zero (s v : St) : addl s v 0 = s.list := rfl
theorem addl_all (s v : St) : addl s v 8 = (s.add v).list := rfl
theorem addl_at (s v : St) (i : Nat) (h : i < 8) : ((addl s v i).map wq)[i]? = some (.int .u64 (wn (s.list.getD i 0))) := by
  rcases (by omega : i = 0 ∨ i = 1 ∨ i = 2 ∨ i = 3 ∨ i = 4 ∨ i = 5 ∨ i = 6 ∨ i = 7) with rfl | rfl | rfl | rfl | rfl | rfl | rfl | rfl <;> rfl
theorem addl_set (s v : St) (i : Nat) (h : i < 8) : ((addl s v i).map wq).set i (.int .u64 (wn (s.list.getD i 0 + v.list.getD i 0))) = (addl s v (i + 1)).map wq := by
  rcases (by omega : i = 0 ∨ i = 1 ∨ i = 2 ∨ i = 3 ∨ i = 4 ∨ i = 5 ∨ i = 6 ∨ i = 7) with rfl | rfl | rfl | rfl | rfl | rfl | rfl | rfl <;> rfl
theorem list_at (v : St) (i : Nat) (h : i < 8) : (v.list.map wq)[i]? = some (.int .u64 (wn (v.list.getD i 0))) := wqAt _ _ h

set_option maxHeartbeats 4000000 in
set_option maxRecDepth 100000 in
theorem ref_adds (s v : St) (hb vb vo vc : Nat) (_hvc : 8 ≤ vc) (hne : vb ≠ hb) (W : World) (Q : Exit → Act → World → Prop) (hh : Bk W hb 114 (s.list.map wq)) (hv : W.rangeAt vb vo (v.list.map wq))
    (v0 v1 v2 v3 v4 v7 v8 v9 v10 v11 v12 v13 v14 v16 v17 v18 v19 v20 v22 v23 v24 v25 v26 v27 v28 v29 v30 v31 v32 v33 v34 v35 v36 v37 v38 v39 v40 v41 v42 v43 v44 v45 v46 v47 v48 v49 v50 v51 v52 v53 v54 v55 v56 v57 v58 v59 v60 v61 v62 v63 v64 v65 v66 v67 v68 v69 v70 v71 v72 v73 v74 v75 v76 v77 v78 v79 v80 v81 v82 v83 v84 v85 v86 v87 v88 v89 v90 v91 v92 v93 v94 v95 v96 v97 v98 v99 v100 v101 v102 v103 v104 v105 v106 v107 v108 v109 v110 v111 v112 v113 v114 v115 v116 v117 v118 v119 v120 v121 v122 v123 v124 v125 v126 v127 v128 v129 v130 v131 v132 v133 v134 v135 v136 v137 v138 v139 v140 v141 v142 v143 v144 v145 v146 v147 v148 v149 v150 v151 v152 v153 v154 v155 v156 v157 v158 v159 v160 v161 v162 v163 v164 v165 v166 v167 v168 v169 v170 v171 v172 v173 v174 v175 v176 v177 v178 v179 v180 v181 v182 v183 v184 v185 v186 v187 v188 v189 v190 v191 v192 v193 v194 v195 v196 v197 v198 v199 v200 v201 v202 v203 v204 v205 v206 v207 v208 v209 v210 v211 v212 v213 v214 v215 v216 v217 v218 v219 v220 v221 v222 v223 v224 v225 v226 v227 v228 v229 v230 v231 v232 v233 v234 v235 v236 v237 v238 v239 v240 v241 v242 v243 v244 v245 v246 v247 v248 v249 v250 v251 v252 v253 v254 v255 v256 v257 v258 v259 v260 v261 v262 v263 v264 v265 v266 v267 v268 v269 v270 v271 : Value)
    (hQ : ∀ (W' : World) (u21 u234 u235 u236 u237 u238 u239 u240 u241 u242 u243 u244 u245 u246 u247 u248 u249 u250 u251 : Value), W.grownBy W' (some hb) → Bk W' hb 114 ((s.add v).list.map wq) → W'.heap.size = W.heap.size → Q .normal { tmps := #[v0, v1, v2, v3, v4, .int .u64 4294967296, .slice (some ⟨hb, 0, none⟩) 8 8, v7, v8, v9, v10, v11, v12, v13, v14, .slice (some ⟨vb, vo, none⟩) 8 vc, v16, v17, v18, v19, v20, u21, v22, v23, v24, v25, v26, v27, v28, v29, v30, v31, v32, v33, v34, v35, v36, v37, v38, v39, v40, v41, v42, v43, v44, v45, v46, v47, v48, v49, v50, v51, v52, v53, v54, v55, v56, v57, v58, v59, v60, v61, v62, v63, v64, v65, v66, v67, v68, v69, v70, v71, v72, v73, v74, v75, v76, v77, v78, v79, v80, v81, v82, v83, v84, v85, v86, v87, v88, v89, v90, v91, v92, v93, v94, v95, v96, v97, v98, v99, v100, v101, v102, v103, v104, v105, v106, v107, v108, v109, v110, v111, v112, v113, v114, v115, v116, v117, v118, v119, v120, v121, v122, v123, v124, v125, v126, v127, v128, v129, v130, v131, v132, v133, v134, v135, v136, v137, v138, v139, v140, v141, v142, v143, v144, v145, v146, v147, v148, v149, v150, v151, v152, v153, v154, v155, v156, v157, v158, v159, v160, v161, v162, v163, v164, v165, v166, v167, v168, v169, v170, v171, v172, v173, v174, v175, v176, v177, v178, v179, v180, v181, v182, v183, v184, v185, v186, v187, v188, v189, v190, v191, v192, v193, v194, v195, v196, v197, v198, v199, v200, v201, v202, v203, v204, v205, v206, v207, v208, v209, v210, v211, v212, v213, v214, v215, v216, v217, v218, v219, v220, v221, v222, v223, v224, v225, v226, v227, v228, v229, v230, v231, v232, v233, u234, u235, u236, u237, u238, u239, u240, u241, u242, u243, u244, u245, u246, u247, u248, u249, u250, u251, v252, v253, v254, v255, v256, v257, v258, v259, v260, v261, v262, v263, v264, v265, v266, v267, v268, v269, v270, v271], defers := [] } W') :
    (cR (cR (cR (cR (cR (refY Try.f53)))))).wp Try.prog Q
      { tmps := #[v0, v1, v2, v3, v4, .int .u64 4294967296, .slice (some ⟨hb, 0, none⟩) 8 8, v7, v8, v9, v10, v11, v12, v13, v14, .slice (some ⟨vb, vo, none⟩) 8 vc, v16, v17, v18, v19, v20, .int .i64 0, v22, v23, v24, v25, v26, v27, v28, v29, v30, v31, v32, v33, v34, v35, v36, v37, v38, v39, v40, v41, v42, v43, v44, v45, v46, v47, v48, v49, v50, v51, v52, v53, v54, v55, v56, v57, v58, v59, v60, v61, v62, v63, v64, v65, v66, v67, v68, v69, v70, v71, v72, v73, v74, v75, v76, v77, v78, v79, v80, v81, v82, v83, v84, v85, v86, v87, v88, v89, v90, v91, v92, v93, v94, v95, v96, v97, v98, v99, v100, v101, v102, v103, v104, v105, v106, v107, v108, v109, v110, v111, v112, v113, v114, v115, v116, v117, v118, v119, v120, v121, v122, v123, v124, v125, v126, v127, v128, v129, v130, v131, v132, v133, v134, v135, v136, v137, v138, v139, v140, v141, v142, v143, v144, v145, v146, v147, v148, v149, v150, v151, v152, v153, v154, v155, v156, v157, v158, v159, v160, v161, v162, v163, v164, v165, v166, v167, v168, v169, v170, v171, v172, v173, v174, v175, v176, v177, v178, v179, v180, v181, v182, v183, v184, v185, v186, v187, v188, v189, v190, v191, v192, v193, v194, v195, v196, v197, v198, v199, v200, v201, v202, v203, v204, v205, v206, v207, v208, v209, v210, v211, v212, v213, v214, v215, v216, v217, v218, v219, v220, v221, v222, v223, v224, v225, v226, v227, v228, v229, v230, v231, v232, v233, v234, v235, v236, v237, v238, v239, v240, v241, v242, v243, v244, v245, v246, v247, v248, v249, v250, v251, v252, v253, v254, v255, v256, v257, v258, v259, v260, v261, v262, v263, v264, v265, v266, v267, v268, v269, v270, v271], defers := [] } W := by
  dsimp only [cL, cR, cI, refY, bodyOf, Try.f53, Option.getD]
  go_wp2_with fail
  go_loopw [21] (fun n wr => ∃ i : Nat, i ≤ 8 ∧ n = .int .i64 i ∧ Hid (W.grownBy wr (some hb)) ∧ Hid (wr.heap.size = W.heap.size) ∧ Hid (Bk wr hb 114 ((addl s v i).map wq))) (fun n _ => 8 - (intOf n).toNat)
  case atStart => exact ⟨0, by omega, rfl, Go.Lib.hid (gb_refl _ _), Go.Lib.hid rfl, Go.Lib.hid hh⟩
  case round =>
    obtain ⟨i, hi, rfl, Hg, Hz, Hb⟩ := hrel
    by_cases hlt : i < 8
    · have hltI : (0 : Int) ≤ (i : Int) ∧ (i : Int) < 8 := by omega
      have hlt' : decide ((i : Int) < 8) = true := decide_eq_true hltI.2
      go_wp2_with fail
      clear hlt'
      have c0 := Hb.out.cellAt (addl_at s v i hlt)
      have f0 := Hb.out.frozen i
      have c1 : wr.cell? ⟨vb, vo + i, none⟩ = _ := cell_grown Hg.out (hv i _ (list_at v i hlt)) (by simp; exact fun e => hne e.symm)
      obtain ⟨x, hx⟩ : ∃ x, x = s.list.getD i 0 := ⟨_, rfl⟩
      obtain ⟨y, hy⟩ : ∃ y, y = v.list.getD i 0 := ⟨_, rfl⟩
      rw [← hx] at c0
      rw [← hy] at c1
      have HX := Go.Lib.hid hx
      have HY := Go.Lib.hid hy
      clear hx hy
      have hx0 := wn_bd x
      have hx1 := wn_bd y
      have p1 : IntKind.u64.wrap (wn x + wn y) = wn x + wn y := by rw [IntKind.wrap_u64]; omega
      have p2 : (wn x + wn y).tmod 4294967296 = wn (x + y) := by rw [Int.tmod_eq_emod_of_nonneg (by omega), add_mod2]
      have p3 : (wn x + wn y) % 4294967296 = wn (x + y) := by rw [add_mod2]
      clear hx0 hx1
      go_still_tail 14, (by kernel_rfl)
      clear p1 p2 p3 c1
      go_wp2_with fail
      go_roundw
      case rel =>
        refine ⟨i + 1, by omega, by go_num, Go.Lib.hid (gb_trans Hg.out (gb_trans (gb_drew (gb_refl _ _)) (gb_set1 _ ⟨hb, i, none⟩ _))), Go.Lib.hid (by simpa using Hz.out), Go.Lib.hid ?_⟩
        have h2 : Bk wr.drew hb 114 ((addl s v i).map wq) := Hb.out
        have := h2.set i (.int .u64 (wn (x + y)))
        rw [HX.out, HY.out, addl_set s v i hlt, ← HX.out, ← HY.out] at this
        exact this
      case measure => simp [intOf]; omega
    · obtain rfl : i = 8 := by omega
      clear hlt hi
      have hlt' : decide ((8 : Int) < 8) = false := rfl
      go_wp2_with fail
      exact hQ wr _ _ _ _ _ _ _ _ _ _ _ _ _ _ _ _ _ _ _ Hg.out Hb.out Hz.out
end Go.Proofs.Ytajgklomcapboaa
