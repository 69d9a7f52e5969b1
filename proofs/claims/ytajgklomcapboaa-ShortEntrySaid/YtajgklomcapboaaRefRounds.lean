import Derived.Test.YtajgklomcapboaaRefSched
/- scrivenerref01.Of: the 64 rounds over a block's schedule. -/
namespace Go.Proofs.Ytajgklomcapboaa
open Go.RowKit Sc

theorem fold_is (x : Wd) (p q r : Nat) : x.rotateRight p ^^^ x.rotateRight q ^^^ x.rotateRight r = rotr x p ^^^ rotr x q ^^^ rotr x r := rfl
theorem rng8 {w : World} {b o : Nat} {a0 a1 a2 a3 a4 a5 a6 a7 : Wd} (h : w.rangeAt b o ([a0, a1, a2, a3, a4, a5, a6, a7].map wq)) :
    w.cell? ⟨b, o, none⟩ = some (.int .u64 (wn a0)) ∧ w.cell? ⟨b, o + 1, none⟩ = some (.int .u64 (wn a1)) ∧ w.cell? ⟨b, o + 2, none⟩ = some (.int .u64 (wn a2)) ∧ w.cell? ⟨b, o + 3, none⟩ = some (.int .u64 (wn a3)) ∧
    w.cell? ⟨b, o + 4, none⟩ = some (.int .u64 (wn a4)) ∧ w.cell? ⟨b, o + 5, none⟩ = some (.int .u64 (wn a5)) ∧ w.cell? ⟨b, o + 6, none⟩ = some (.int .u64 (wn a6)) ∧ w.cell? ⟨b, o + 7, none⟩ = some (.int .u64 (wn a7)) :=
  ⟨h 0 _ rfl, h 1 _ rfl, h 2 _ rfl, h 3 _ rfl, h 4 _ rfl, h 5 _ rfl, h 6 _ rfl, h 7 _ rfl⟩
theorem wqAt (ws : List Wd) (i : Nat) (h : i < ws.length) : (ws.map wq)[i]? = some (.int .u64 (wn (ws.getD i 0))) := by
  rw [List.getElem?_map, List.getD_eq_getElem?_getD, List.getElem?_eq_getElem h]; rfl
theorem wq_wrap (x : Wd) : IntKind.u64.wrap (wn x) = wn x := by rw [IntKind.wrap_u64]; have := wn_bd x; omega
theorem kTab_length : kTab.length = 64 := by decide

theorem rangeAt_drew {w0 w1 : World} {b o : Nat} {cs : List Value} (h : Hid (∃ n, w1 = w0.drewN n)) (k : w0.rangeAt b o cs) : w1.rangeAt b o cs := by
  obtain ⟨n, rfl⟩ := h.out; exact k

set_option maxHeartbeats 4000000 in
set_option maxRecDepth 100000 in
theorem ref_rounds (s : St) (ws : List Wd) (hws : ws.length = 64) (kb wb vb0 vo0 vc0 : Nat) (hvc : 8 ≤ vc0) (W : World) (Q : Exit → Act → World → Prop) (hk : Bk W kb 114 (kTab.map wq)) (hw : Bk W wb 114 (ws.map wq)) (hv : W.rangeAt vb0 vo0 (s.list.map wq)) (hvl : vb0 < W.heap.size)
    (v0 v1 v2 v3 v6 v7 v9 v10 v11 v12 v13 v14 v17 v18 v19 v20 v21 v22 v23 v24 v25 v26 v27 v28 v29 v30 v31 v32 v33 v34 v35 v36 v37 v38 v39 v40 v41 v42 v43 v44 v45 v46 v47 v48 v49 v50 v51 v52 v53 v54 v55 v56 v57 v58 v59 v60 v61 v62 v63 v64 v65 v66 v67 v68 v69 v70 v71 v72 v73 v74 v75 v76 v77 v78 v79 v80 v81 v82 v83 v84 v85 v86 v87 v88 v89 v90 v91 v92 v93 v94 v95 v96 v97 v98 v99 v100 v101 v102 v103 v104 v105 v106 v107 v108 v109 v110 v111 v112 v113 v114 v115 v116 v117 v118 v119 v120 v121 v122 v123 v124 v125 v126 v127 v128 v129 v130 v131 v132 v133 v134 v135 v136 v137 v138 v139 v140 v141 v142 v143 v144 v145 v146 v147 v148 v149 v150 v151 v152 v153 v154 v155 v156 v157 v158 v159 v160 v161 v162 v163 v164 v165 v166 v167 v168 v169 v170 v171 v172 v173 v174 v175 v176 v177 v178 v179 v180 v181 v182 v183 v184 v185 v186 v187 v188 v189 v190 v191 v192 v193 v194 v195 v196 v197 v198 v199 v200 v201 v202 v203 v204 v205 v206 v207 v208 v209 v210 v211 v212 v213 v214 v215 v216 v217 v218 v219 v220 v221 v222 v223 v224 v225 v226 v227 v228 v229 v230 v231 v232 v233 v234 v235 v236 v237 v238 v239 v240 v241 v242 v243 v244 v245 v246 v247 v248 v249 v250 v251 v252 v253 v254 v255 v256 v257 v258 v259 v260 v261 v262 v263 v264 v265 v266 v267 v268 v269 v270 v271 : Value)
    (hQ : ∀ (W' : World) (vb vo vc : Nat) (u16 u17 u18 u19 u20 u112 u113 u114 u115 u116 u117 u118 u119 u120 u121 u122 u123 u124 u125 u126 u127 u128 u129 u130 u131 u132 u133 u134 u135 u136 u137 u138 u139 u140 u141 u142 u143 u144 u145 u146 u147 u148 u149 u150 u151 u152 u153 u154 u155 u156 u157 u158 u159 u160 u161 u162 u163 u164 u165 u166 u167 u168 u169 u170 u171 u172 u173 u174 u175 u176 u177 u178 u179 u180 u181 u182 u183 u184 u185 u186 u187 u188 u189 u190 u191 u192 u193 u194 u195 u196 u197 u198 u199 u200 u201 u202 u203 u204 u205 u206 u207 u208 u209 u210 u211 u212 u213 u214 u215 u216 u217 u218 u219 u220 u221 u222 u223 u224 u225 u226 u227 u228 u229 u230 u231 u232 u233 : Value), W.grownBy W' none → W'.rangeAt vb vo ((rnds ws s 64).list.map wq) → (vb = vb0 ∨ W.heap.size ≤ vb) → 8 ≤ vc → Q .normal { tmps := #[v0, v1, v2, v3, .slice (some ⟨kb, 0, none⟩) 64 64, .int .u64 4294967296, v6, v7, .slice (some ⟨wb, 0, none⟩) 64 64, v9, v10, v11, v12, v13, v14, .slice (some ⟨vb, vo, none⟩) 8 vc, u16, u17, u18, u19, u20, v21, v22, v23, v24, v25, v26, v27, v28, v29, v30, v31, v32, v33, v34, v35, v36, v37, v38, v39, v40, v41, v42, v43, v44, v45, v46, v47, v48, v49, v50, v51, v52, v53, v54, v55, v56, v57, v58, v59, v60, v61, v62, v63, v64, v65, v66, v67, v68, v69, v70, v71, v72, v73, v74, v75, v76, v77, v78, v79, v80, v81, v82, v83, v84, v85, v86, v87, v88, v89, v90, v91, v92, v93, v94, v95, v96, v97, v98, v99, v100, v101, v102, v103, v104, v105, v106, v107, v108, v109, v110, v111, u112, u113, u114, u115, u116, u117, u118, u119, u120, u121, u122, u123, u124, u125, u126, u127, u128, u129, u130, u131, u132, u133, u134, u135, u136, u137, u138, u139, u140, u141, u142, u143, u144, u145, u146, u147, u148, u149, u150, u151, u152, u153, u154, u155, u156, u157, u158, u159, u160, u161, u162, u163, u164, u165, u166, u167, u168, u169, u170, u171, u172, u173, u174, u175, u176, u177, u178, u179, u180, u181, u182, u183, u184, u185, u186, u187, u188, u189, u190, u191, u192, u193, u194, u195, u196, u197, u198, u199, u200, u201, u202, u203, u204, u205, u206, u207, u208, u209, u210, u211, u212, u213, u214, u215, u216, u217, u218, u219, u220, u221, u222, u223, u224, u225, u226, u227, u228, u229, u230, u231, u232, u233, v234, v235, v236, v237, v238, v239, v240, v241, v242, v243, v244, v245, v246, v247, v248, v249, v250, v251, v252, v253, v254, v255, v256, v257, v258, v259, v260, v261, v262, v263, v264, v265, v266, v267, v268, v269, v270, v271], defers := [] } W') :
    (cR (cL (cR (cR (cR (refY Try.f53)))))).wp Try.prog Q
      { tmps := #[v0, v1, v2, v3, .slice (some ⟨kb, 0, none⟩) 64 64, .int .u64 4294967296, v6, v7, .slice (some ⟨wb, 0, none⟩) 64 64, v9, v10, v11, v12, v13, v14, .slice (some ⟨vb0, vo0, none⟩) 8 vc0, .int .i64 0, v17, v18, v19, v20, v21, v22, v23, v24, v25, v26, v27, v28, v29, v30, v31, v32, v33, v34, v35, v36, v37, v38, v39, v40, v41, v42, v43, v44, v45, v46, v47, v48, v49, v50, v51, v52, v53, v54, v55, v56, v57, v58, v59, v60, v61, v62, v63, v64, v65, v66, v67, v68, v69, v70, v71, v72, v73, v74, v75, v76, v77, v78, v79, v80, v81, v82, v83, v84, v85, v86, v87, v88, v89, v90, v91, v92, v93, v94, v95, v96, v97, v98, v99, v100, v101, v102, v103, v104, v105, v106, v107, v108, v109, v110, v111, v112, v113, v114, v115, v116, v117, v118, v119, v120, v121, v122, v123, v124, v125, v126, v127, v128, v129, v130, v131, v132, v133, v134, v135, v136, v137, v138, v139, v140, v141, v142, v143, v144, v145, v146, v147, v148, v149, v150, v151, v152, v153, v154, v155, v156, v157, v158, v159, v160, v161, v162, v163, v164, v165, v166, v167, v168, v169, v170, v171, v172, v173, v174, v175, v176, v177, v178, v179, v180, v181, v182, v183, v184, v185, v186, v187, v188, v189, v190, v191, v192, v193, v194, v195, v196, v197, v198, v199, v200, v201, v202, v203, v204, v205, v206, v207, v208, v209, v210, v211, v212, v213, v214, v215, v216, v217, v218, v219, v220, v221, v222, v223, v224, v225, v226, v227, v228, v229, v230, v231, v232, v233, v234, v235, v236, v237, v238, v239, v240, v241, v242, v243, v244, v245, v246, v247, v248, v249, v250, v251, v252, v253, v254, v255, v256, v257, v258, v259, v260, v261, v262, v263, v264, v265, v266, v267, v268, v269, v270, v271], defers := [] } W := by
  dsimp only [cL, cR, cI, refY, bodyOf, Try.f53, Option.getD]
  go_wp2_with fail
  go_loopw [15, 16] (fun v n wr => ∃ i vb vo vc : Nat, i ≤ 64 ∧ n = .int .i64 i ∧ v = .slice (some ⟨vb, vo, none⟩) 8 vc ∧ 8 ≤ vc ∧ Hid (vb < wr.heap.size ∧ (vb = vb0 ∨ W.heap.size ≤ vb)) ∧ Hid (W.grownBy wr none) ∧ Hid (wr.rangeAt vb vo ((rnds ws s i).list.map wq))) (fun _ n _ => 64 - (intOf n).toNat)
  case atStart => exact ⟨0, vb0, vo0, vc0, by omega, rfl, rfl, hvc, Go.Lib.hid ⟨hvl, .inl rfl⟩, Go.Lib.hid (gb_refl _ _), Go.Lib.hid hv⟩
  case round =>
    obtain ⟨i, vb, vo, vc, hi, rfl, rfl, hvc1, Hvl, Hg, Hr⟩ := hrel
    by_cases hlt : i < 64
    · have hltI : (0 : Int) ≤ (i : Int) ∧ (i : Int) < 64 := by omega
      have Hst := Go.Lib.hid (show rnds ws s (i + 1) = rnd (rnds ws s i) (kTab.getD i 0) (ws.getD i 0) from rfl)
      have Hk : Hid (wr.cell? ⟨kb, i, none⟩ = some (.int .u64 (wn (kTab.getD i 0)))) := Go.Lib.hid ((hk.grown Hg.out (by simp)).cellAt (wqAt kTab i (by rw [kTab_length]; exact hlt)))
      have Hw : Hid (wr.cell? ⟨wb, i, none⟩ = some (.int .u64 (wn (ws.getD i 0)))) := Go.Lib.hid ((hw.grown Hg.out (by simp)).cellAt (wqAt ws i (by rw [hws]; exact hlt)))
      obtain ⟨ki, hki⟩ : ∃ x, x = kTab.getD i 0 := ⟨_, rfl⟩
      obtain ⟨wi, hwi⟩ : ∃ x, x = ws.getD i 0 := ⟨_, rfl⟩
      obtain ⟨st, hst⟩ : ∃ x, x = rnds ws s i := ⟨_, rfl⟩
      rw [← hki] at Hk Hst
      rw [← hwi] at Hw Hst
      rw [← hst] at Hr Hst
      clear hki hwi hst
      obtain ⟨a0, a1, a2, a3, a4, a5, a6, a7⟩ := st
      have Hd : Hid (∃ n, wr = wr.drewN n) := Go.Lib.hid ⟨0, rfl⟩
      have hlt' : decide ((i : Int) < 64) = true := decide_eq_true hltI.2
      go_wp2_with fail
      clear hlt'
      -- choose
      obtain ⟨c0, c1, c2, c3, c4, c5, c6, c7⟩ := rng8 Hr.out
      have xa := wq_and
      have xo := wq_or
      have xw := wq_wrap
      have n2 : 4294967295 - wn a4 = wn (~~~a4) := wq_not a4
      go_quiet (fail)
      clear xa xo xw n2 c0 c1 c2 c3 c4 c5 c6 c7
      rw [choose_is]
      generalize hwn : wr.drewN nq = wr1
      replace Hd := drew_chain Hd hwn.symm
      clear hwn nq
      go_wp2_with fail
      -- most
      obtain ⟨d0, d1, d2, d3, d4, d5, d6, d7⟩ := rng8 (rangeAt_drew Hd Hr.out)
      have xa := wq_and
      have xo := wq_or
      go_quiet (fail)
      clear xa xo d0 d1 d2 d3 d4 d5 d6 d7
      rw [most_is]
      generalize hwn : wr1.drewN nq = wr2
      replace Hd := drew_chain Hd hwn.symm
      clear hwn nq
      go_wp2_with fail
      -- one
      obtain ⟨d0, d1, d2, d3, d4, d5, d6, d7⟩ := rng8 (rangeAt_drew Hd Hr.out)
      have dk : wr2.cell? _ = _ := ((drew_open Hd).1 _).trans Hk.out
      have dw : wr2.cell? _ = _ := ((drew_open Hd).1 _).trans Hw.out
      have xx := wq_xor
      obtain ⟨ch, hch⟩ : ∃ ch, ch = Sc.choose a4 a5 a6 := ⟨_, rfl⟩
      rw [← hch]
      obtain ⟨s1, hs1⟩ : ∃ s1, s1 = sum1 a4 := ⟨_, rfl⟩
      have xs : a4.rotateRight 6 ^^^ a4.rotateRight 11 ^^^ a4.rotateRight 25 = s1 := hs1.symm
      have HCH := Go.Lib.hid hch
      have HS1 := Go.Lib.hid hs1
      clear hch hs1
      have hx0 := wn_bd a7
      have hx1 := wn_bd s1
      have hx2 := wn_bd ch
      have hx3 := wn_bd ki
      have hx4 := wn_bd wi
      have p1 : IntKind.u64.wrap (wn a7 + wn s1) = wn a7 + wn s1 := by rw [IntKind.wrap_u64]; omega
      have p2 : IntKind.u64.wrap (wn a7 + wn s1 + wn ch) = wn a7 + wn s1 + wn ch := by rw [IntKind.wrap_u64]; omega
      have p3 : IntKind.u64.wrap (wn a7 + wn s1 + wn ch + wn ki) = wn a7 + wn s1 + wn ch + wn ki := by rw [IntKind.wrap_u64]; omega
      have p4 : IntKind.u64.wrap (wn a7 + wn s1 + wn ch + wn ki + wn wi) = wn a7 + wn s1 + wn ch + wn ki + wn wi := by rw [IntKind.wrap_u64]; omega
      clear hx0 hx1 hx2 hx3 hx4
      go_quiet ((go_at_call 67; exact Calls.quiet_of (turn_any _ _ (by decide) _)))
      clear xx xs p1 p2 p3 p4 d0 d1 d2 d3 d4 d5 d6 d7 dk dw
      generalize hwn : wr2.drewN nq = wr3
      replace Hd := drew_chain Hd hwn.symm
      clear hwn nq
      go_wp2_with fail
      -- two
      obtain ⟨d0, d1, d2, d3, d4, d5, d6, d7⟩ := rng8 (rangeAt_drew Hd Hr.out)
      have xx := wq_xor
      obtain ⟨mj, hmj⟩ : ∃ mj, mj = most a0 a1 a2 := ⟨_, rfl⟩
      rw [← hmj]
      obtain ⟨s0, hs0⟩ : ∃ s0, s0 = sum0 a0 := ⟨_, rfl⟩
      have xs : a0.rotateRight 2 ^^^ a0.rotateRight 13 ^^^ a0.rotateRight 22 = s0 := hs0.symm
      have HMJ := Go.Lib.hid hmj
      have HS0 := Go.Lib.hid hs0
      clear hmj hs0
      have hx0 := wn_bd s0
      have hx1 := wn_bd mj
      have p1 : IntKind.u64.wrap (wn s0 + wn mj) = wn s0 + wn mj := by rw [IntKind.wrap_u64]; omega
      clear hx0 hx1
      go_quiet ((go_at_call 67; exact Calls.quiet_of (turn_any _ _ (by decide) _)))
      clear xx xs p1 d0 d1 d2 d3 d4 d5 d6 d7
      generalize hwn : wr3.drewN nq = wr4
      replace Hd := drew_chain Hd hwn.symm
      clear hwn nq
      go_wp2_with fail
      -- the words turn round
      obtain ⟨d0, d1, d2, d3, d4, d5, d6, d7⟩ := rng8 (rangeAt_drew Hd Hr.out)
      have hx0 := wn_bd s0
      have hx1 := wn_bd mj
      have hx2 := wn_bd a7
      have hx3 := wn_bd s1
      have hx4 := wn_bd ch
      have hx5 := wn_bd ki
      have hx6 := wn_bd wi
      have hx7 := wn_bd a3
      obtain ⟨A, hA⟩ : ∃ A, A = wn a7 + wn s1 + wn ch + wn ki + wn wi := ⟨_, rfl⟩
      rw [← hA]
      have p1 : IntKind.u64.wrap (A + (wn s0 + wn mj)) = A + (wn s0 + wn mj) := by rw [IntKind.wrap_u64]; omega
      have p2 : IntKind.u64.wrap (wn a3 + A) = wn a3 + A := by rw [IntKind.wrap_u64]; omega
      have p3 : (A + (wn s0 + wn mj)).tmod 4294967296 = wn (a7 + s1 + ch + ki + wi + (s0 + mj)) := by rw [Int.tmod_eq_emod_of_nonneg (by omega), hA, add_mod7]
      have p4 : (A + (wn s0 + wn mj)) % 4294967296 = wn (a7 + s1 + ch + ki + wi + (s0 + mj)) := by rw [hA, add_mod7]
      have p5 : (wn a3 + A).tmod 4294967296 = wn (a3 + (a7 + s1 + ch + ki + wi)) := by rw [Int.tmod_eq_emod_of_nonneg (by omega), hA, add_mod6]
      have p6 : (wn a3 + A) % 4294967296 = wn (a3 + (a7 + s1 + ch + ki + wi)) := by rw [hA, add_mod6]
      have HA := Go.Lib.hid hA
      clear hx0 hx1 hx2 hx3 hx4 hx5 hx6 hx7 hA
      go_still_tail 30, (by kernel_rfl)
      clear p1 p2 p3 p4 p5 p6 d0 d1 d2 d3 d4 d5 d6 d7
      go_wp2_with fail
      go_roundw
      case rel =>
        have hs : rnds ws s (i + 1) = ⟨a7 + s1 + ch + ki + wi + (s0 + mj), a0, a1, a2, a3 + (a7 + s1 + ch + ki + wi), a4, a5, a6⟩ := by rw [Hst.out, HCH.out, HS1.out, HMJ.out, HS0.out]; rfl
        refine ⟨i + 1, wr4.heap.size, 0, 8, by omega, by go_num, rfl, Nat.le_refl _, Go.Lib.hid ?_, Go.Lib.hid ?_, Go.Lib.hid ?_⟩
        · refine ⟨?_, .inr ((drew_open Hd).2.2.2 _ _ Hg.out).size⟩
          show _ < (World.alloc wr4 _).heap.size
          rw [World.size_alloc]; exact Nat.lt_succ_self _
        · exact gb_drew (gb_alloc ((drew_open Hd).2.2.2 _ _ Hg.out) _)
        · rw [hs]
          exact (Bk.new wr4 114 ([a7 + s1 + ch + ki + wi + (s0 + mj), a0, a1, a2, a3 + (a7 + s1 + ch + ki + wi), a4, a5, a6].map wq)).drew.range
      case measure => simp [intOf]; omega
    · obtain rfl : i = 64 := by omega
      clear hlt hi
      have hlt' : decide ((64 : Int) < 64) = false := rfl
      go_wp2_with fail
      exact hQ wr vb vo vc _ _ _ _ _ _ _ _ _ _ _ _ _ _ _ _ _ _ _ _ _ _ _ _ _ _ _ _ _ _ _ _ _ _ _ _ _ _ _ _ _ _ _ _ _ _ _ _ _ _ _ _ _ _ _ _ _ _ _ _ _ _ _ _ _ _ _ _ _ _ _ _ _ _ _ _ _ _ _ _ _ _ _ _ _ _ _ _ _ _ _ _ _ _ _ _ _ _ _ _ _ _ _ _ _ _ _ _ _ _ _ _ _ _ _ _ _ _ _ _ _ _ _ _ _ _ _ Hg.out Hr.out Hvl.out.2 hvc1
end Go.Proofs.Ytajgklomcapboaa
