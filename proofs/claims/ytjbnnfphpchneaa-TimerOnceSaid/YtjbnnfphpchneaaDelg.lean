import Derived.Test.YtjbnnfphpchneaaDelf
import Derived.Deep.CutBlock
/- slices.DeleteFunc, with the closure that tells whether a timer is over. -/
namespace Go.Proofs.Ytjbnnfphpchneaa
open Go.RowKit Sc
def SA (bO : Nat) (ov : Value) (A : Option Addr) : Nat → Prop := fun k => SO bO ov k ∨ (Value.slice A 0 0).ownBlock = some k
theorem left_one {n : Int} {d : Due} (h : overOf n [d] = [d]) : leftOf n [d] = [] := by
  unfold overOf at h
  unfold leftOf
  by_cases e : d.1 ≤ n
  · simp [e]
  · simp [e] at h
theorem take_set_succ {α : Type} {M : List α} {i : Nat} {d : α} (h : i < M.length) : (M.set i d).take (i + 1) = M.take i ++ [d] := by
  rw [List.take_add_one, List.getElem?_set_self h, List.take_set_of_le (Nat.le_refl _)]; rfl
theorem drop_set_lt {α : Type} {M : List α} {i j : Nat} {d : α} (h : i < j) : (M.set i d).drop j = M.drop j := by
  rw [List.drop_set_of_lt h]
def dueZ : List Value := dueC (0, 0, 0)
theorem infoDue : ((Try.prog.info? 52).map fun i => (i.zero, i.size)) = some (some (.agg dueZ.toArray), dueZ.length) := by kernel_rfl
theorem due_zero : ∀ i z, Try.prog.info? 52 = some i → i.zero = some z → ∀ u ∈ z.cells.toList, u.oneCell' = true := by
  intro i z hi hz u hu
  have h := infoDue
  rw [hi] at h
  simp only [Option.map_some, Option.some.injEq, Prod.mk.injEq] at h
  rw [hz] at h
  have h1 := Option.some.inj h.1
  subst h1
  exact dueC_one (0, 0, 0) u hu
theorem wpList_clear_due {w : World} {ops : Array Oper} {rest : List Oper} {a : Act} {Q : Exit → Act → World → Prop} {dst : Option Tmp} {ty : TypeId} {pos : String} {aft : Array Edge} {x : Operand} {b o N c : Nat} (hN : 0 < N)
    (hx : a.eval x = .slice (some ⟨b, o, none⟩) N c) (hth : w.there b o (N * 3)) (h : ∀ us : List Value, us.length = N * 3 → wpList Try.prog ops Q rest (a.put dst (.tuple #[])) (w.setCells b o us)) :
    wpList Try.prog ops Q (⟨dst, .call { callee := .builtin .clear, args := #[x], argTypes := #[24] }, ty, pos, aft, none⟩ :: rest) a w := by
  obtain ⟨m, rfl⟩ : ∃ m, N = m + 1 := ⟨N - 1, by omega⟩
  exact wpList_clear_mid Try.underlying24 okDue hx hth due_zero h
set_option maxHeartbeats 4000000 in
theorem delf_any {B bT bO r : Nat} {n : Int} {lv ov : Value} {O : List Due} (A : Option Addr) (c q : Nat) (L : List Due) (w : World) (ho : Ow B w 3 (.slice A q c) q (dueCs L)) (hq : L.length = q)
    (hap : ∀ b, (Value.slice A q c).ownBlock = some b → b ≠ bT ∧ b ≠ bO ∧ b ≠ r ∧ ov.ownBlock ≠ some b) (hS : DS w B bT bO r n lv O ov) (hB : B ≤ w.heap.size) (hO : O.length + q ≤ 1000000) :
    Calls Try.prog 18 #[.slice A q c, .func (.func 19) #[] #[.pointer (some ⟨bT, 0, none⟩), .pointer (some ⟨bO, 0, none⟩)]] w fun e w' => ∃ ov' m, e = .returned (.slice A m c) ∧ m = (leftOf n L).length ∧
      Ow B w' 3 (.slice A m c) m (dueCs (leftOf n L)) ∧ DS w' B bT bO r n lv (O ++ overOf n L) ov' ∧ Ch (SA bO ov A) w w' ∧ OwnRel w ov ov' := by
  go_enter Try.func18, Try.ntmps18
  have HO0 := Go.Lib.hid ho
  have HQ := Go.Lib.hid hq
  have HAP := Go.Lib.hid hap
  have hqc : q ≤ c := by obtain ⟨_, _, _, e, h, _⟩ := ho; injection e with _ _ e; omega
  have hrd : Rd (fun b => (Value.slice A q c).ownBlock = some b) w 3 (.slice A q c) q (dueCs L) := ho.rd (fun b hb => hb)
  have hNB : ∀ b, (fun b => (Value.slice A q c).ownBlock = some b) b → b ≠ bO ∧ ov.ownBlock ≠ some b ∧ b < w.heap.size := fun b hb => ⟨(hap b hb).2.1, (hap b hb).2.2.2, (ho.lt hb).2⟩
  have hO1 : O.length ≤ 1000000 := by omega
  have hq1 : q ≤ 1000000 := by omega
  have HOL := Go.Lib.hid hO
  clear ho hap
  go_upto_region 2 with (go_at_call 21; ((with_reducible refine (idx_any A c q L _ w hrd hq hNB hS hB hO1 hq1).mono ?_); rintro e w1 ⟨ov1, hC1, hR1, (⟨rfl, ho1, hS1⟩ | ⟨k, d, rfl, hx, hk, hov, hod, hS1⟩)⟩))
  · have HO1 := Go.Lib.hid ho1
    have how : Ow B w1 3 (.slice A q c) q (dueCs L) := hC1.ow HO0.out (fun b hb hs => by
      have h := HAP.out b hb
      rcases hs with h1 | h1
      · exact h.2.1 h1
      · exact h.2.2.2 h1)
    have HW1 := Go.Lib.hid how
    have HS1 := Go.Lib.hid hS1
    clear ho1 how hS1 hrd hNB hS
    go_wp2_with fail
    go_ret
    refine ⟨ov1, q, rfl, by rw [left_of_none HO1.out, HQ.out], by rw [left_of_none HO1.out]; exact HW1.out, by rw [HO1.out, List.append_nil]; exact HS1.out, hC1.mono (fun _ h => .inl (.inl h)), hR1⟩
  · have hkI : (0 : Int) ≤ (k : Int) ∧ (k : Int) < (q : Int) ∧ (q : Int) ≤ 1000000 := by omega
    have hd1 : decide ((k : Int) = -1) = false := decide_eq_false (by omega)
    have how : Ow B w1 3 (.slice A q c) q (dueCs L) := hC1.ow HO0.out (fun b hb hs => by
      have h := HAP.out b hb
      rcases hs with h1 | h1
      · exact h.2.1 h1
      · exact h.2.2.2 h1)
    obtain ⟨bA, oA, cA, he, hbB, hbA, -, -, -⟩ := how.at (by omega)
    injection he with hA _ hcc
    subst hA hcc
    have hovs : overOf n (L.take (k + 1)) = [d] := by rw [over_snoc hx, hov, List.nil_append, hod]
    have hlft : leftOf n (L.take (k + 1)) = L.take k := by rw [left_snoc hx, left_of_none hov, left_one hod, List.append_nil]
    have HOW0 := Go.Lib.hid how
    have HS0 : Hid (DS w1 B bT bO r n lv (O ++ overOf n (L.take (k + 1))) ov1) := Go.Lib.hid (by rw [hovs]; exact hS1)
    have HLF := Go.Lib.hid hlft
    have HC0 : Hid (Ch (SA bO ov (some ⟨bA, oA, none⟩)) w w1) := Go.Lib.hid (hC1.mono (fun _ h => .inl (.inl h)))
    have HR0 := Go.Lib.hid hR1
    have hbw : bA < w.heap.size := (HO0.out.lt rfl).2
    have HAX : Hid (bA ≠ bT ∧ bA ≠ bO ∧ bA ≠ r ∧ ov.ownBlock ≠ some bA) := Go.Lib.hid (HAP.out bA rfl)
    clear hx hov hod hS1 hovs hlft how hrd hNB hS hC1 hR1 hO1
    go_wp2_with fail
    clear hd1
    go_loopw [5, 6] (fun v5 v6 wr => ∃ (i j : Nat) (M : List Due) (ov2 : Value), v5 = .int .i64 (i : Int) ∧ v6 = .int .i64 (j : Int) ∧ i < j ∧ j ≤ q ∧ Hid (M.length = q) ∧ Hid (M.take i = leftOf n (L.take j)) ∧ Hid (M.drop j = L.drop j) ∧ Hid (Ow B wr 3 (.slice (some ⟨bA, oA, none⟩) q c) q (dueCs M)) ∧
        Hid (DS wr B bT bO r n lv (O ++ overOf n (L.take j)) ov2) ∧ Hid (Ch (SA bO ov (some ⟨bA, oA, none⟩)) w wr) ∧ Hid (OwnRel w ov ov2)) (fun _ v6 _ => q - (intOf v6).toNat)
    case atStart => exact ⟨k, k + 1, L, ov1, rfl, by push_cast; rfl, by omega, by omega, HQ, Go.Lib.hid HLF.out.symm, Go.Lib.hid rfl, HOW0, HS0, HC0, HR0⟩
    case round =>
      clear HOW0 HS0 HC0 HR0 HLF
      obtain ⟨i, j, M, ov2, rfl, rfl, hij, hj, HM, HT, HD, HOW, HS, HC, HR⟩ := hrel
      obtain ⟨wo, rfl⟩ : ∃ wo : World, wo = wr := ⟨_, rfl⟩
      by_cases hlt : j < q
      · have hd : decide ((j : Int) < (q : Int)) = true := decide_eq_true (by omega)
        have hd' : decide (j < q) = true := decide_eq_true hlt
        have hijI : (0 : Int) ≤ (i : Int) ∧ (i : Int) < (j : Int) ∧ (j : Int) < (q : Int) := by omega
        have hiq : i < q := by omega
        obtain ⟨x, hx⟩ : ∃ x, L[j]? = some x := ⟨_, List.getElem?_eq_getElem (by rw [HQ.out]; exact hlt)⟩
        have hMx : M[j]? = some x := by
          have h := congrArg (fun l => l[0]?) HD.out
          simp only [List.getElem?_drop, Nat.add_zero] at h
          rw [h, hx]
        obtain ⟨b1, o1, c1, he, hh1, hh2, hh3, hrA, hh4⟩ := HOW.out.at (by omega)
        cases he
        clear hh1 hh2 hh3 hh4
        have hrx := range_due hrA hMx
        have bx0 := Bk.new wo 52 dueZ
        have hLS := left_snoc (n := n) hx
        have hVS := over_snoc (n := n) hx
        have hdr : M.drop (j + 1) = L.drop (j + 1) := by
          have h := congrArg (List.drop 1) HD.out
          rwa [List.drop_drop, List.drop_drop] at h
        have hol : (O ++ overOf n (L.take j)).length ≤ 1000000 := by
          rw [List.length_append]
          have h1 : (overOf n (L.take j)).length ≤ (L.take j).length := List.length_filter_le _ _
          rw [List.length_take] at h1
          omega
        have hov2 : ov2.ownBlock ≠ some bA := fun e => by
          rcases HR.out with h | ⟨k', h, hk'⟩
          · exact HAX.out.2.2.2 (h ▸ e)
          · rw [h] at e; have := Option.some.inj e; omega
        have HLS := Go.Lib.hid hLS
        have HVS := Go.Lib.hid hVS
        have HDR := Go.Lib.hid hdr
        have hBo : B ≤ wo.heap.size := Nat.le_trans hB HC.out.size
        have hbAo : bA < wo.heap.size := Nat.lt_of_lt_of_le hbw HC.out.size
        have hbOo : bO < wo.heap.size := HS.out.2.2.1.lt
        have hovo : ∀ b, ov2.ownBlock = some b → b < wo.heap.size := fun b hb => (HS.out.2.2.2.1.lt hb).2
        clear hx hMx hrA hLS hVS hdr
        obtain ⟨at_, rd, st⟩ := x
        by_cases h : at_ ≤ n
        · have hd2 : decide (at_ ≤ n) = true := decide_eq_true h
          have hov : overOf n [(at_, rd, st)] = [(at_, rd, st)] := by simp [overOf, h]
          have HOD := Go.Lib.hid hov
          clear hov h
          go_wp2_with (first
            | ((with_reducible refine wpList_load_range (x := .tmp 24) (t := 52) bA (oA + j * 3) (dueC (at_, rd, st)) _ hrx (by kernel_rfl) Try.underlying52 rfl (dueSize _) ?_))
            | ((with_reducible refine wpList_alloc_row (E := 52) dueZ infoDue ?_))
            | ((with_reducible refine wpList_store_bk (t := 52) wo.heap.size 52 dueZ (dueC (at_, rd, st)) bx0 (by kernel_rfl) (by kernel_rfl) (dueSize _) rfl (dueC_one _) ?_); intro w5 h5 g5 z5; have g15 := gb_trans_new (gb_alloc (gb_refl wo none) _) g5 (Nat.le_refl _); have hs5 := HS.out.gr g15; have hB5 := Nat.le_trans hBo g15.size)
            | ((with_reducible refine wpList_load_bk (x := .tmp 7) (t := 52) wo.heap.size 52 (dueC (at_, rd, st)) _ h5 (by kernel_rfl) Try.underlying52 rfl (dueSize _) ?_))
            | (go_at_call 19; ((with_reducible refine (del_any (at_, rd, st) _ hs5 hB5 hol).mono ?_); rintro e w6 ⟨rfl, ov3, hS6, hC6, hR6⟩; rw [hd2])))
          rw [List.append_assoc, ← HVS.out] at hS6
          have how6 := hC6.ow (HOW.out.grown g15 (fun _ _ => by simp)) (fun b hb hs => by
            cases hb
            rcases hs with h1 | h1
            · exact HAX.out.2.1 h1
            · exact hov2 h1)
          have hC16 : Ch (SA bO ov (some ⟨bA, oA, none⟩)) w w6 := (HC.out.gb g15 (fun _ h => by cases h)).trans hC6 (fun k' hk' => by
            rcases hk' with h1 | h1
            · exact .inl (.inl (.inl h1))
            · rcases HR.out with e | ⟨k2, e, hk2⟩
              · exact .inl (.inl (.inr (e ▸ h1)))
              · rw [e] at h1; cases h1; exact .inr hk2)
          exact ⟨⟨i, j + 1, M, ov3, rfl, by push_cast; rfl, by omega, by omega, HM, Go.Lib.hid (by rw [HLS.out, left_one HOD.out, List.append_nil]; exact HT.out), HDR, Go.Lib.hid how6, Go.Lib.hid hS6, Go.Lib.hid hC16, Go.Lib.hid (own_step (Nat.le_trans HC.out.size g15.size) HR.out hR6)⟩, by simp only [intOf]; omega⟩
        · have hd2 : decide (at_ ≤ n) = false := decide_eq_false h
          have hov : overOf n [(at_, rd, st)] = [] := by simp [overOf, h]
          have hle : leftOf n [(at_, rd, st)] = [(at_, rd, st)] := by simp [leftOf, h]
          have HOD := Go.Lib.hid hov
          have HLE := Go.Lib.hid hle
          have hone : (dueC (at_, rd, st)).toArray.all (·.oneCell') = true := all_oneCell_toArray (dueC_one _)
          clear hov hle h
          go_wp2_with (first
            | ((with_reducible refine wpList_load_range (x := .tmp 24) (t := 52) bA (oA + j * 3) (dueC (at_, rd, st)) _ hrx (by kernel_rfl) Try.underlying52 rfl (dueSize _) ?_))
            | ((with_reducible refine wpList_alloc_row (E := 52) dueZ infoDue ?_))
            | ((with_reducible refine wpList_store_bk (t := 52) wo.heap.size 52 dueZ (dueC (at_, rd, st)) bx0 (by kernel_rfl) (by kernel_rfl) (dueSize _) rfl (dueC_one _) ?_); intro w5 h5 g5 z5; have g15 := gb_trans_new (gb_alloc (gb_refl wo none) _) g5 (Nat.le_refl _); have hs5 := HS.out.gr g15; have hB5 := Nat.le_trans hBo g15.size)
            | ((with_reducible refine wpList_load_bk (x := .tmp 7) (t := 52) wo.heap.size 52 (dueC (at_, rd, st)) _ h5 (by kernel_rfl) Try.underlying52 rfl (dueSize _) ?_))
            | (go_at_call 19; ((with_reducible refine (del_any (at_, rd, st) _ hs5 hB5 hol).mono ?_); rintro e w6 ⟨rfl, ov3, hS6, hC6, hR6⟩; rw [hd2])
               have how6 := hC6.ow (HOW.out.grown g15 (fun _ _ => by simp)) (fun b hb hs => by
                 cases hb
                 rcases hs with h1 | h1
                 · exact HAX.out.2.1 h1
                 · exact hov2 h1)
               have h6 := hC6.bk h5 (fun hs => by
                 rcases hs with h1 | h1
                 · omega
                 · have := hovo _ h1; omega)
               have hth : w6.there bA (oA + i * 3) (dueC (at_, rd, st)).toArray.size := how6.there (i * 3) 3 (by omega))
            | ((with_reducible refine wpList_load_bk (x := .tmp 7) (t := 52) wo.heap.size 52 (dueC (at_, rd, st)) _ h6 (by kernel_rfl) Try.underlying52 rfl (dueSize _) ?_))
            | ((with_reducible refine wpList_store_mid rfl 52 (.tmp 33) (.tmp 32) rfl bA (oA + i * 3) (dueC (at_, rd, st)).toArray (by kernel_rfl) (by kernel_rfl) hth (dueSize _) hone ?_)))
          have hiM : i < M.length := by rw [HM.out]; omega
          have how7 := how6.due HM.out.symm i (at_, rd, st) hiq
          have g67 : w6.grownBy (w6.setCells bA (oA + i * 3) (dueC (at_, rd, st))) (some bA) := gb_setCells bA _ _ w6
          rw [HOD.out, List.append_nil] at hS6
          have hs3 := hS6.ch (Ch.of (S := fun q => q = bA) g67 (fun q h => (Option.some.inj h).symm)) (fun e => HAX.out.1 e.symm) (fun e => HAX.out.2.2.1 e.symm) (fun e => HAX.out.2.1 e.symm) (fun b hb e => by
            subst e
            rcases own_step (Nat.le_trans HC.out.size g15.size) HR.out hR6 with h | ⟨k', h, hk'⟩
            · exact HAX.out.2.2.2 (h ▸ hb)
            · rw [h] at hb; have := Option.some.inj hb; omega)
          have hC16 : Ch (SA bO ov (some ⟨bA, oA, none⟩)) w w6 := (HC.out.gb g15 (fun _ h => by cases h)).trans hC6 (fun k' hk' => by
            rcases hk' with h1 | h1
            · exact .inl (.inl (.inl h1))
            · rcases HR.out with e | ⟨k2, e, hk2⟩
              · exact .inl (.inl (.inr (e ▸ h1)))
              · rw [e] at h1; cases h1; exact .inr hk2)
          have hC17 := hC16.gb g67 (fun q h => .inl (.inr h))
          exact ⟨⟨i + 1, j + 1, M.set i (at_, rd, st), ov3, by push_cast; rfl, by push_cast; rfl, by omega, by omega, Go.Lib.hid (by rw [List.length_set]; exact HM.out), Go.Lib.hid (by rw [take_set_succ hiM, HT.out, HLS.out, HLE.out]), Go.Lib.hid (by rw [drop_set_lt (by omega), HDR.out]),
            Go.Lib.hid how7, Go.Lib.hid (by rw [HVS.out, HOD.out, List.append_nil]; exact hs3), Go.Lib.hid hC17, Go.Lib.hid (own_step (Nat.le_trans HC.out.size g15.size) HR.out hR6)⟩, by simp only [intOf]; omega⟩
      · obtain rfl : j = q := by omega
        have hd : decide ((j : Int) < (j : Int)) = false := decide_eq_false (by omega)
        have hd' : decide (j < j) = false := decide_eq_false (by omega)
        have hijI : (0 : Int) ≤ (i : Int) ∧ (i : Int) < (j : Int) := by omega
        have hN : 0 < j - i := by omega
        have how := HOW.out
        have hth : wo.there bA (oA + i * 3) ((j - i) * 3) := how.there (i * 3) ((j - i) * 3) (by omega)
        have hci : ¬ c = i := by omega
        have hic : i ≤ c := by omega
        go_wp2_with ((with_reducible refine wpList_clear_due (x := .tmp 38) (b := bA) (o := oA + i * 3) (N := j - i) (c := c - i) hN (by kernel_rfl) hth ?_); intro us hus)
        go_ret
        have hLj : L.take j = L := List.take_of_length_le (by rw [HQ.out]; exact Nat.le_refl _)
        have hMi : M.take i = leftOf n L := by have h := HT.out; rwa [hLj] at h
        have hil : i = (leftOf n L).length := by rw [← hMi, List.length_take, HM.out]; omega
        have how2 := how.clearTail (i := i) (us := us) (by omega)
        rw [dueCs_take, hMi] at how2
        have g9 : wo.grownBy (wo.setCells bA (oA + i * 3) us) (some bA) := gb_setCells bA _ _ wo
        have hs3 := HS.out.ch (Ch.of (S := fun q => q = bA) g9 (fun q h => (Option.some.inj h).symm)) (fun e => HAX.out.1 e.symm) (fun e => HAX.out.2.2.1 e.symm) (fun e => HAX.out.2.1 e.symm) (fun b hb e => by
          subst e
          rcases HR.out with h | ⟨k', h, hk'⟩
          · exact HAX.out.2.2.2 (h ▸ hb)
          · rw [h] at hb; have := Option.some.inj hb; omega)
        rw [hLj] at hs3
        exact ⟨ov2, i, rfl, hil, how2, hs3, HC.out.gb g9 (fun q h => .inl (.inr h)), HR.out⟩
end Go.Proofs.Ytjbnnfphpchneaa
