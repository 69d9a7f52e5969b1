import Derived.Test.YtjbnnfphpchneaaRunsT
/- scrivenerref15: Delay, Set, Tick. -/
namespace Sc
open Go Go.RowKit
def decD (d : Due) : Due := (d.1 - 1, d.2)
def refOver (R : List Due) : List Due := (R.map decD).filter fun d => decide (d.1 ≤ 0)
def refLeft (R : List Due) : List Due := (R.map decD).filter fun d => !decide (d.1 ≤ 0)
theorem refOver_snoc {R : List Due} {i : Nat} {d : Due} (h : R[i]? = some d) : refOver (R.take (i + 1)) = refOver (R.take i) ++ refOver [d] := by
  rw [List.take_add_one, h]; simp [refOver]
theorem refLeft_snoc {R : List Due} {i : Nat} {d : Due} (h : R[i]? = some d) : refLeft (R.take (i + 1)) = refLeft (R.take i) ++ refLeft [d] := by
  rw [List.take_add_one, h]; simp [refLeft]
theorem refOver_le (R : List Due) : (refOver R).length ≤ R.length := by
  have := List.length_filter_le (fun d : Due => decide (d.1 ≤ 0)) (R.map decD)
  rwa [List.length_map] at this
theorem refLeft_le (R : List Due) : (refLeft R).length ≤ R.length := by
  have := List.length_filter_le (fun d : Due => !decide (d.1 ≤ 0)) (R.map decD)
  rwa [List.length_map] at this
end Sc
namespace Go.Proofs.Ytjbnnfphpchneaa
open Go.RowKit Go.Shelf Sc
theorem okRD : InfoOk Try.prog 49 3 24 := by unfold InfoOk; kernel_rfl
theorem rdSize (d : Due) : (Try.prog.info? 49).map (·.size) = some (dueC d).length := by kernel_rfl
theorem infoRD : ((Try.prog.info? 49).map fun i => (i.zero, i.size)) = some (some (.agg dueZ.toArray), dueZ.length) := by kernel_rfl
theorem build_rd (a b c : Int) (w : World) : (Instr.build 49 #[(0, .int .i64 a), (1, .int .i64 b), (2, .int .i64 c)]).run Try.prog w = .ok (.agg (dueC (a, b, c)).toArray) w := run_build w _ _ _ (by kernel_rfl)
theorem build_rd1 (d : Due) (w : World) : (Instr.buildSlice 41 1 #[(0, .agg (dueC d).toArray)]).run Try.prog w = .ok (.slice (some ⟨w.heap.size, 0, none⟩) 1 1) (w.alloc (.cells (dueC d).toArray 49)) := by
  obtain ⟨a, b, c⟩ := d
  kernel_rfl
theorem wpList_build_rd {w : World} {ops : Array Oper} {rest : List Oper} {a : Act} {Q : Exit → Act → World → Prop} {dst : Option Tmp} {ty : TypeId} {pos : String} {aft : Array Edge} {y : Operand} (d : Due) (hx : a.eval y = .agg (dueC d).toArray)
    (h : wpList Try.prog ops Q rest (a.put dst (.slice (some ⟨w.heap.size, 0, none⟩) 1 1)) (w.alloc (.cells (dueC d).toArray 49))) :
    wpList Try.prog ops Q (⟨dst, .buildSlice 41 1 #[(0, y)], ty, pos, aft, none⟩ :: rest) a w := by
  refine wpList_run rfl ?_ h
  simp only [execOp, List.map_toArray, List.map_cons, List.map_nil, hx, Sem.run_bind]
  rw [build_rd1]
  rfl
theorem refDelay_any (r : Int) (w : World) : Calls Try.prog 14 #[.int .i64 r] w fun e w' => e = .returned (.int .i64 (delay r : Int)) ∧ w' = w := by
  go_enter Try.func14, Try.ntmps14
  obtain ⟨D, hD⟩ : ∃ D, D = delay r := ⟨_, rfl⟩
  rw [← hD]
  rcases (by omega : r < 0 ∨ 1000 < r ∨ (0 ≤ r ∧ r ≤ 1000)) with h | h | h
  · have d1 : decide (r < 0) = true := decide_eq_true h
    have hD3 : D = 3 := by rw [hD]; unfold delay dn; omega
    subst hD3
    clear hD
    go_wp2_with fail
    go_ret
    exact ⟨rfl, rfl⟩
  · have d1 : decide (r < 0) = false := decide_eq_false (by omega)
    have d2 : decide (r > 1000) = true := decide_eq_true h
    have hD3 : D = 2003 := by rw [hD]; unfold delay dn; omega
    subst hD3
    clear hD
    go_wp2_with fail
    go_ret
    exact ⟨rfl, rfl⟩
  · have d1 : decide (r < 0) = false := decide_eq_false (by omega)
    have d2 : decide (r > 1000) = false := decide_eq_false (by omega)
    obtain ⟨m, rfl⟩ : ∃ m : Nat, r = (m : Int) := ⟨r.toNat, by omega⟩
    have hmI : (0 : Int) ≤ (m : Int) ∧ (m : Int) ≤ 1000 := by omega
    have hD3 : D = 3 + 2 * m := by rw [hD]; unfold delay dn; omega
    have HD := Go.Lib.hid hD3
    clear hD hD3
    go_wp2_with fail
    go_ret
    exact ⟨by rw [HD.out]; push_cast; rfl, rfl⟩
theorem refSet_full {NB : Nat → Prop} (R : List Due) (v : Value) (rd st : Int) (w : World) (hv : Rd NB w 3 v R.length (dueCs R)) (hR : 40 ≤ R.length) :
    Calls Try.prog 13 #[v, .int .i64 rd, .int .i64 st] w fun e w' => e = .returned (.tuple #[v, .bool false]) ∧ w' = w := by
  go_enter Try.func13, Try.ntmps13
  obtain ⟨A, c, rfl, hc⟩ := Rd.form hv
  have hd : decide ((40 : Int) ≤ (R.length : Int)) = true := decide_eq_true (by omega)
  have hd' : decide (40 ≤ R.length) = true := decide_eq_true hR
  clear hv
  go_wp2_with fail
  go_ret2
  exact ⟨rfl, rfl⟩
set_option maxHeartbeats 2000000 in
theorem refSet_any {NB : Nat → Prop} (R : List Due) (v : Value) (rd st : Int) (w : World) (hv : Rd NB w 3 v R.length (dueCs R)) (hR : R.length < 40) :
    Calls Try.prog 13 #[v, .int .i64 rd, .int .i64 st] w fun e w' => ∃ v', e = .returned (.tuple #[v', .bool true]) ∧ Ow w.heap.size w' 3 v' (R.length + 1) (dueCs (R ++ [((delay rd : Int), rd, st)])) ∧ w.grownBy w' none := by
  go_enter Try.func13, Try.ntmps13
  obtain ⟨A, c, rfl, hc⟩ := Rd.form hv
  obtain ⟨q, hq⟩ : ∃ q, q = R.length := ⟨_, rfl⟩
  obtain ⟨D, hD⟩ : ∃ D, D = delay rd := ⟨_, rfl⟩
  rw [← hq] at hv hc hR ⊢
  rw [← hD]
  have HD := Go.Lib.hid hD
  have hd : decide ((40 : Int) ≤ (q : Int)) = false := decide_eq_false (by omega)
  have hd' : decide (40 ≤ q) = false := decide_eq_false (by omega)
  have hoe := Ow.new w 49 w.heap.size 3 0 [] rfl (by decide) (Nat.le_refl _)
  have hsrc := src_rd (P := Try.prog) (k := 3) (tx := 41) Try.underlying41 (Rd.alloc hv (.cells #[] 49)) (dueCs_oneCell _)
  have hB : w.heap.size ≤ (w.alloc (.cells #[] 49)).heap.size := by rw [World.size_alloc]; omega
  have h63 : 0 + q ≤ maxLen := by simp only [maxLen]; omega
  have hby : (0 + q) * 24 ≤ 140737488355328 := by omega
  have h63' : q + 1 ≤ maxLen := by simp only [maxLen]; omega
  have hby' : (q + 1) * 24 ≤ 140737488355328 := by omega
  clear hv hq hD
  go_wp2_with (first
    | ((with_reducible refine wpList_append_ow (s := .tmp 13) (x := .tmp 14) (v := .slice (some ⟨w.heap.size, 0, none⟩) 0 0) (y := .slice A q c) (by kernel_rfl) (by kernel_rfl) Try.underlying41 okRD hoe hsrc hB h63 hby ?_); intro v3 w3 ho3 hg3 hb3; simp only [Nat.zero_add, List.nil_append] at ho3; have g3 := Ow.gb (gb_alloc (gb_refl w none) _) hoe (Nat.le_refl _) hg3; obtain ⟨A3, c3, rfl⟩ := ho3.form)
    | (go_at_call 14; ((with_reducible refine (refDelay_any rd _).mono ?_); rintro e w4 ⟨rfl, rfl⟩; rw [← HD.out])
       have ho5 := ho3.alloc (.cells (dueC ((D : Int), rd, st)).toArray 49)
       have hs5 : Src Try.prog 3 41 (.slice (some ⟨w4.heap.size, 0, none⟩) 1 1) 1 (dueC ((D : Int), rd, st)) (w4.alloc (.cells (dueC ((D : Int), rd, st)).toArray 49)) := src_new (P := Try.prog) Try.underlying41 w4 49 3 1 (dueC ((D : Int), rd, st)) rfl (dueC_one _)
       have hB5 : w.heap.size ≤ (w4.alloc (.cells (dueC ((D : Int), rd, st)).toArray 49)).heap.size := by rw [World.size_alloc]; have := g3.size; omega)
    | ((with_reducible refine wpList_build_row (dueC ((D : Int), rd, st)) (fun w => by simp only [List.map_toArray, List.map_cons, List.map_nil]; exact build_rd _ _ _ w) ?_))
    | ((with_reducible refine wpList_build_rd (y := .tmp 21) ((D : Int), rd, st) (by kernel_rfl) ?_))
    | ((with_reducible refine wpList_append_ow (s := .tmp 16) (x := .tmp 22) (v := .slice A3 q c3) (by kernel_rfl) (by kernel_rfl) Try.underlying41 okRD ho5 hs5 hB5 h63' hby' ?_); intro v6 w6 ho6 hg6 hb6; obtain ⟨A6, c6, rfl⟩ := ho6.form))
  go_ret2
  have g6 := Ow.gb (gb_alloc g3 _) ho5 (Nat.le_refl _) hg6
  rw [← dueCs_one, ← dueCs_append] at ho6
  exact ⟨_, rfl, ho6, g6⟩
set_option maxHeartbeats 4000000 in
theorem refTick_any {NB : Nat → Prop} (R : List Due) (v : Value) (w : World) (hv : Rd NB w 3 v R.length (dueCs R)) (hR : R.length ≤ 1000) (hb : ∀ d ∈ R, -1000000 ≤ d.1 ∧ d.1 ≤ 1000000) :
    Calls Try.prog 15 #[v] w fun e w' => ∃ v1 v2, e = .returned (.tuple #[v1, v2]) ∧ Ow w.heap.size w' 3 v1 (refLeft R).length (dueCs (refLeft R)) ∧ Ow w.heap.size w' 3 v2 (refOver R).length (dueCs (refOver R)) ∧ w.grownBy w' none := by
  go_enter Try.func15, Try.ntmps15
  obtain ⟨A, c, rfl, hc⟩ := Rd.form hv
  obtain ⟨q, hq⟩ : ∃ q, q = R.length := ⟨_, rfl⟩
  rw [← hq] at hv hc hR ⊢
  have HV := Go.Lib.hid hv
  have HQ := Go.Lib.hid hq
  have HBD := Go.Lib.hid hb
  clear hv hq hb
  go_wp2_with fail
  go_loopw [4, 5, 6] (fun v4 v5 v6 wr => ∃ (i n4 n5 : Nat) (A4 A5 : Option Addr) (c4 c5 : Nat), v4 = .slice A4 n4 c4 ∧ v5 = .slice A5 n5 c5 ∧ v6 = .int .i64 (i : Int) ∧ i ≤ q ∧ n4 ≤ i ∧ n5 ≤ i ∧ Hid (n4 = (refLeft (R.take i)).length) ∧ Hid (n5 = (refOver (R.take i)).length) ∧
      Hid (Ow w.heap.size wr 3 (.slice A4 n4 c4) n4 (dueCs (refLeft (R.take i)))) ∧ Hid (Ow w.heap.size wr 3 (.slice A5 n5 c5) n5 (dueCs (refOver (R.take i)))) ∧ Hid (∀ b, (Value.slice A4 n4 c4).ownBlock = some b → (Value.slice A5 n5 c5).ownBlock ≠ some b) ∧ Hid (w.grownBy wr none)) (fun _ _ v6 _ => q - (intOf v6).toNat)
  case atStart => exact ⟨0, 0, 0, none, none, 0, 0, rfl, rfl, rfl, Nat.zero_le _, Nat.le_refl _, Nat.le_refl _, Go.Lib.hid rfl, Go.Lib.hid rfl, Go.Lib.hid (Ow.nil _ _ _), Go.Lib.hid (Ow.nil _ _ _), Go.Lib.hid (by simp [Value.ownBlock]), Go.Lib.hid (gb_refl _ _)⟩
  case round =>
    obtain ⟨i, n4, n5, A4, A5, c4, c5, rfl, rfl, rfl, hi, hn4, hn5, HN4, HN5, HO4, HO5, HAP, HG⟩ := hrel
    obtain ⟨wo, rfl⟩ : ∃ wo : World, wo = wr := ⟨_, rfl⟩
    by_cases hlt : i < q
    · have hd : decide ((i : Int) < (q : Int)) = true := decide_eq_true (by omega)
      have hd' : decide (i < q) = true := decide_eq_true hlt
      have hiI : (0 : Int) ≤ (i : Int) ∧ (i : Int) < (q : Int) ∧ (q : Int) ≤ 1000 := by omega
      obtain ⟨d, hx⟩ : ∃ d, R[i]? = some d := ⟨_, List.getElem?_eq_getElem (by rw [← HQ.out]; exact hlt)⟩
      have hdb := HBD.out d (List.mem_of_getElem? hx)
      obtain ⟨b, o, c1, he, hbb, hnc, hcm, hcell⟩ := (Rd.grown HV.out HG.out (by simp)).at (by omega)
      injection he with hA _ hcc
      subst hA hcc
      have hrx := range_due hcell hx
      have bx0 := Bk.new wo 49 dueZ
      have HLS := Go.Lib.hid (refLeft_snoc hx)
      have HVS := Go.Lib.hid (refOver_snoc hx)
      obtain ⟨at_, rd, st⟩ := d
      dsimp only at hdb
      have h4l : ∀ b, (Value.slice A4 n4 c4).ownBlock = some b → b < wo.heap.size := fun b hb => (HO4.out.lt hb).2
      have h5l : ∀ b, (Value.slice A5 n5 c5).ownBlock = some b → b < wo.heap.size := fun b hb => (HO5.out.lt hb).2
      have hgs := HG.out.size
      clear hcell hx
      by_cases h : at_ - 1 ≤ 0
      · have hd2 : decide (at_ - 1 ≤ 0) = true := decide_eq_true h
        have hov : refOver [(at_, rd, st)] = [(at_ - 1, rd, st)] := by simp only [refOver, decD, List.map_cons, List.map_nil, List.filter_cons, hd2, List.filter_nil, if_true]
        have hle : refLeft [(at_, rd, st)] = [] := by simp [refLeft, decD, hd2]
        have HOD := Go.Lib.hid hov
        have HLE := Go.Lib.hid hle
        have h63 : n5 + 1 ≤ maxLen := by simp only [maxLen]; omega
        have hby : (n5 + 1) * 24 ≤ 140737488355328 := by omega
        clear hov hle h
        go_wp2_with (first
          | ((with_reducible refine wpList_load_range (x := .tmp 16) (t := 49) b (o + i * 3) (dueC (at_, rd, st)) _ hrx (by kernel_rfl) Try.underlying49 rfl (rdSize _) ?_))
          | ((with_reducible refine wpList_alloc_row (E := 49) dueZ infoRD ?_))
          | ((with_reducible refine wpList_store_bk (t := 49) wo.heap.size 49 dueZ (dueC (at_, rd, st)) bx0 (by kernel_rfl) (by kernel_rfl) (rdSize _) rfl (dueC_one _) ?_); intro w5 h5 g5 z5; have c0 := h5.cellAt (i := 0) rfl; have f0 := h5.frozen 0; have h6 : Bk (w5.setCell ⟨wo.heap.size, 0, none⟩ (.int .i64 (at_ - 1))) wo.heap.size 49 (dueC (at_ - 1, rd, st)) := h5.set 0 (.int .i64 (at_ - 1)); have g16 : wo.grownBy (w5.setCell ⟨wo.heap.size, 0, none⟩ (.int .i64 (at_ - 1))) none := gb_trans_new (gb_trans_new (gb_alloc (gb_refl wo none) _) g5 (Nat.le_refl _)) (gb_set1 w5 ⟨wo.heap.size, 0, none⟩ (.int .i64 (at_ - 1))) (Nat.le_refl _); have c6 := h6.cellAt (i := 0) rfl; have ho7 := (HO5.out.grown g16 (fun _ _ => by simp)).alloc (.cells (dueC (at_ - 1, rd, st)).toArray 49); have hs7 : Src Try.prog 3 41 (.slice (some ⟨(w5.setCell ⟨wo.heap.size, 0, none⟩ (.int .i64 (at_ - 1))).heap.size, 0, none⟩) 1 1) 1 (dueC (at_ - 1, rd, st)) ((w5.setCell ⟨wo.heap.size, 0, none⟩ (.int .i64 (at_ - 1))).alloc (.cells (dueC (at_ - 1, rd, st)).toArray 49)) := src_new (P := Try.prog) Try.underlying41 _ 49 3 1 (dueC (at_ - 1, rd, st)) rfl (dueC_one _); have hB7 : w.heap.size ≤ ((w5.setCell ⟨wo.heap.size, 0, none⟩ (.int .i64 (at_ - 1))).alloc (.cells (dueC (at_ - 1, rd, st)).toArray 49)).heap.size := by rw [World.size_alloc]; have := g16.size; omega)
          | ((with_reducible refine wpList_load_bk (x := .tmp 7) (t := 49) wo.heap.size 49 (dueC (at_ - 1, rd, st)) _ h6 (by kernel_rfl) Try.underlying49 rfl (rdSize _) ?_))
          | ((with_reducible refine wpList_build_rd (y := .tmp 26) (at_ - 1, rd, st) (by kernel_rfl) ?_))
          | ((with_reducible refine wpList_append_ow (s := .tmp 25) (x := .tmp 27) (v := .slice A5 n5 c5) (by kernel_rfl) (by kernel_rfl) Try.underlying41 okRD ho7 hs7 hB7 h63 hby ?_); intro v8 w8 ho8 hg8 hb8; obtain ⟨A8, c8, rfl⟩ := ho8.form))
        have hg9 : w.grownBy w8 none := Ow.gb (gb_alloc (gb_trans HG.out g16) _) ho7 (by omega) hg8
        have hO9 := ((HO4.out.grown g16 (fun _ _ => by simp)).alloc (.cells (dueC (at_ - 1, rd, st)).toArray 49)).grown hg8 (fun b hb e => HAP.out b hb e)
        have hg16 := g16.size
        exact ⟨⟨i + 1, n4, n5 + 1, A4, A8, c4, c8, rfl, rfl, by push_cast; rfl, by omega, by omega, by omega, Go.Lib.hid (by rw [HLS.out, HLE.out, List.append_nil]; exact HN4.out), Go.Lib.hid (by rw [HVS.out, HOD.out, List.length_append, ← HN5.out]; rfl),
          Go.Lib.hid (by rw [HLS.out, HLE.out, List.append_nil]; exact hO9), Go.Lib.hid (by rw [HVS.out, HOD.out, dueCs_append, dueCs_one]; exact ho8), Go.Lib.hid (fun b hb e => by
            rcases hb8 with h | h
            · exact HAP.out b hb (h.symm.trans e)
            · rw [h, World.size_alloc] at e; have h1 := Option.some.inj e; have := h4l b hb; omega), Go.Lib.hid hg9⟩, by simp only [intOf]; omega⟩
      · have hd2 : decide (at_ - 1 ≤ 0) = false := decide_eq_false h
        have hov : refOver [(at_, rd, st)] = [] := by simp [refOver, decD, hd2]
        have hle : refLeft [(at_, rd, st)] = [(at_ - 1, rd, st)] := by simp only [refLeft, decD, List.map_cons, List.map_nil, List.filter_cons, hd2, List.filter_nil, Bool.not_false, if_true]
        have HOD := Go.Lib.hid hov
        have HLE := Go.Lib.hid hle
        have h63 : n4 + 1 ≤ maxLen := by simp only [maxLen]; omega
        have hby : (n4 + 1) * 24 ≤ 140737488355328 := by omega
        clear hov hle h
        go_wp2_with (first
          | ((with_reducible refine wpList_load_range (x := .tmp 16) (t := 49) b (o + i * 3) (dueC (at_, rd, st)) _ hrx (by kernel_rfl) Try.underlying49 rfl (rdSize _) ?_))
          | ((with_reducible refine wpList_alloc_row (E := 49) dueZ infoRD ?_))
          | ((with_reducible refine wpList_store_bk (t := 49) wo.heap.size 49 dueZ (dueC (at_, rd, st)) bx0 (by kernel_rfl) (by kernel_rfl) (rdSize _) rfl (dueC_one _) ?_); intro w5 h5 g5 z5; have c0 := h5.cellAt (i := 0) rfl; have f0 := h5.frozen 0; have h6 : Bk (w5.setCell ⟨wo.heap.size, 0, none⟩ (.int .i64 (at_ - 1))) wo.heap.size 49 (dueC (at_ - 1, rd, st)) := h5.set 0 (.int .i64 (at_ - 1)); have g16 : wo.grownBy (w5.setCell ⟨wo.heap.size, 0, none⟩ (.int .i64 (at_ - 1))) none := gb_trans_new (gb_trans_new (gb_alloc (gb_refl wo none) _) g5 (Nat.le_refl _)) (gb_set1 w5 ⟨wo.heap.size, 0, none⟩ (.int .i64 (at_ - 1))) (Nat.le_refl _); have c6 := h6.cellAt (i := 0) rfl; have ho7 := (HO4.out.grown g16 (fun _ _ => by simp)).alloc (.cells (dueC (at_ - 1, rd, st)).toArray 49); have hs7 : Src Try.prog 3 41 (.slice (some ⟨(w5.setCell ⟨wo.heap.size, 0, none⟩ (.int .i64 (at_ - 1))).heap.size, 0, none⟩) 1 1) 1 (dueC (at_ - 1, rd, st)) ((w5.setCell ⟨wo.heap.size, 0, none⟩ (.int .i64 (at_ - 1))).alloc (.cells (dueC (at_ - 1, rd, st)).toArray 49)) := src_new (P := Try.prog) Try.underlying41 _ 49 3 1 (dueC (at_ - 1, rd, st)) rfl (dueC_one _); have hB7 : w.heap.size ≤ ((w5.setCell ⟨wo.heap.size, 0, none⟩ (.int .i64 (at_ - 1))).alloc (.cells (dueC (at_ - 1, rd, st)).toArray 49)).heap.size := by rw [World.size_alloc]; have := g16.size; omega)
          | ((with_reducible refine wpList_load_bk (x := .tmp 7) (t := 49) wo.heap.size 49 (dueC (at_ - 1, rd, st)) _ h6 (by kernel_rfl) Try.underlying49 rfl (rdSize _) ?_))
          | ((with_reducible refine wpList_build_rd (y := .tmp 30) (at_ - 1, rd, st) (by kernel_rfl) ?_))
          | ((with_reducible refine wpList_append_ow (s := .tmp 29) (x := .tmp 31) (v := .slice A4 n4 c4) (by kernel_rfl) (by kernel_rfl) Try.underlying41 okRD ho7 hs7 hB7 h63 hby ?_); intro v8 w8 ho8 hg8 hb8; obtain ⟨A8, c8, rfl⟩ := ho8.form))
        have hg9 : w.grownBy w8 none := Ow.gb (gb_alloc (gb_trans HG.out g16) _) ho7 (by omega) hg8
        have hO9 := ((HO5.out.grown g16 (fun _ _ => by simp)).alloc (.cells (dueC (at_ - 1, rd, st)).toArray 49)).grown hg8 (fun b hb e => HAP.out b e hb)
        have hg16 := g16.size
        exact ⟨⟨i + 1, n4 + 1, n5, A8, A5, c8, c5, rfl, rfl, by push_cast; rfl, by omega, by omega, by omega, Go.Lib.hid (by rw [HLS.out, HLE.out, List.length_append, ← HN4.out]; rfl), Go.Lib.hid (by rw [HVS.out, HOD.out, List.append_nil]; exact HN5.out),
          Go.Lib.hid (by rw [HLS.out, HLE.out, dueCs_append, dueCs_one]; exact ho8), Go.Lib.hid (by rw [HVS.out, HOD.out, List.append_nil]; exact hO9), Go.Lib.hid (fun b hb e => by
            rcases hb8 with h | h
            · exact HAP.out b (h.symm.trans hb) e
            · rw [h, World.size_alloc] at hb; have h1 := Option.some.inj hb; have := h5l b e; omega), Go.Lib.hid hg9⟩, by simp only [intOf]; omega⟩
    · obtain rfl : i = q := by omega
      have hd : decide ((i : Int) < (i : Int)) = false := decide_eq_false (by omega)
      have hd' : decide (i < i) = false := decide_eq_false (by omega)
      have hR : R.take i = R := List.take_of_length_le (by rw [HQ.out]; exact Nat.le_refl _)
      have h4 := HO4.out
      have h5 := HO5.out
      have e4 := HN4.out
      have e5 := HN5.out
      rw [hR] at h4 h5 e4 e5
      have H4 := Go.Lib.hid h4
      have H5 := Go.Lib.hid h5
      have E4 := Go.Lib.hid e4
      have E5 := Go.Lib.hid e5
      clear hR h4 h5 e4 e5 HO4 HO5 HN4 HN5
      go_wp2_with fail
      go_ret2
      exact ⟨_, _, rfl, by rw [← E4.out]; exact H4.out, by rw [← E5.out]; exact H5.out, HG.out⟩
end Go.Proofs.Ytjbnnfphpchneaa
