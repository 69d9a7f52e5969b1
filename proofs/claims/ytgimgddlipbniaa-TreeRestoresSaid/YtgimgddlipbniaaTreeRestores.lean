import Derived.Test.YtgimgddlipbniaaRestore
import Derived.Test.YtgimgddlipbniaaRoots
/- TreeRestores: the walk. -/
namespace Go.Proofs.Ytgimgddlipbniaa
open Go.RowKit Go.Shelf Sc

theorem restore_all (z : Int) (v : Value) (ts : List Sc.Id) (NB : Nat → Prop) (w : World) (hv : RdI NB w v ts) (hNB : ∀ b, NB b → b < w.heap.size) (hts : ts.length ≤ 1000000) :
    Calls Try.prog 39 #[.int .i64 z, v] w fun e w' => w.grownBy w' none ∧
      (((z < 0 ∨ 1099511627776 < z) ∧ e = .returned (.tuple #[.pointer none, .int .i64 1])) ∨
       (∃ n : Nat, z = (n : Int) ∧ n ≤ 1099511627776 ∧ ones n = ts.length ∧ ∃ r, e = .returned (.tuple #[.pointer (some ⟨r, 0, none⟩), .int .i64 0])) ∨
       (∃ n : Nat, z = (n : Int) ∧ n ≤ 1099511627776 ∧ ones n ≠ ts.length ∧ e = .returned (.tuple #[.pointer none, .int .i64 60]))) := by
  rcases (by omega : (z < 0 ∨ 1099511627776 < z) ∨ (0 ≤ z ∧ z ≤ 1099511627776)) with hz | hz
  · refine (restore_out z v w hz).mono ?_
    rintro e w' ⟨rfl, rfl⟩
    exact ⟨gb_refl _ _, .inl ⟨hz, rfl⟩⟩
  · obtain ⟨n, rfl⟩ : ∃ n : Nat, z = (n : Int) := ⟨z.toNat, by omega⟩
    have hn : n ≤ 1099511627776 := by omega
    refine (restore_any n v ts NB w hv hNB hn hts).mono ?_
    rintro e w' ⟨g, h⟩
    by_cases ho : ones n = ts.length
    · rw [if_pos ho] at h
      obtain ⟨r, he, _⟩ := h
      exact ⟨g, .inr (.inl ⟨n, rfl, hn, ho, r, he⟩)⟩
    · rw [if_neg ho] at h
      exact ⟨g, .inr (.inr ⟨n, rfl, hn, ho, h⟩)⟩

set_option maxHeartbeats 4000000 in
theorem restores_walk (u v : Value) (l0 m0 : List Sc.Id) (z : Int) (NB : Nat → Prop) (w : World) (hu : RdI NB w u l0) (hv : RdI NB w v m0) (hNB : ∀ b, NB b → b < w.heap.size) :
    Calls Try.prog 13 #[u, v, .int .i64 z] w fun e w' => e = .returned (.bool true) ∧ w.grownBy w' none := by
  go_enter Try.func13, Try.ntmps13
  obtain ⟨A, c, rfl, hc⟩ := Rd.form hu
  have hm := Rd.le hu
  obtain ⟨q, hq⟩ : ∃ q, min l0.length 60 = q := ⟨_, rfl⟩
  have HV := Go.Lib.hid (RI.of (RdI.takeTo hu 60 q hq) hNB)
  have hq60 : q ≤ 60 := by omega
  have hlq : (l0.take 60).length = q := by rw [List.length_take, Nat.min_comm]; exact hq
  obtain ⟨l, hle⟩ : ∃ l, l = l0.take 60 := ⟨_, rfl⟩
  rw [← hle] at HV hlq
  obtain ⟨A2, c2, rfl, hc2⟩ := Rd.form hv
  have hm2 := Rd.le hv
  obtain ⟨q2, hq2⟩ : ∃ q2, min m0.length 30 = q2 := ⟨_, rfl⟩
  have HV2 := Go.Lib.hid (RI.of (RdI.takeTo hv 30 q2 hq2) hNB)
  have hq30 : q2 ≤ 30 := by omega
  have hlq2 : (m0.take 30).length = q2 := by rw [List.length_take, Nat.min_comm]; exact hq2
  obtain ⟨m, hme⟩ : ∃ m, m = m0.take 30 := ⟨_, rfl⟩
  rw [← hme] at HV2 hlq2
  clear hu hv hle hme
  have HL := Go.Lib.hid hlq
  have HM := Go.Lib.hid hlq2
  clear hlq hlq2
  have hqc : q ≤ c := by omega
  have hqc2 : q2 ≤ c2 := by omega
  have hl40 : l.length ≤ 1099511627776 := by rw [HL.out]; omega
  have hlj : RdI (fun b => b < w.heap.size) w (.slice A q c) l := HV.out
  have htl : (tops nd e0 l).length = ones q := by rw [tops_len, HL.out]
  have hot : ones q ≤ 7 := ones_le_log 7 q (by omega)
  have htm : (tops nd e0 l).length ≤ 1000000 := by rw [htl]; omega
  go_wp2_with (first
    | (go_at_call 26; ((with_reducible refine (grows_any _).mono ?_); rintro e w1 ⟨rfl, g1⟩; have hlj1 : RdI (fun b => b < w1.heap.size) w1 (.slice A q c) l := RI.gr hlj g1; have hN1 := lt_self w1))
    | (go_at_call 27; (first | ((with_reducible refine (cut_lit A l0.length c 60 q 60 rfl _ hq hm hc).mono ?_); rintro e w2 ⟨rfl, rfl⟩) | ((with_reducible refine (cut_lit A2 m0.length c2 30 q2 30 rfl _ hq2 hm2 hc2).mono ?_); rintro e w2 ⟨rfl, rfl⟩)))
    | (go_at_call 28; ((with_reducible refine (treeOf_any _ l _ _ hlj1 hN1 hl40).mono ?_); rintro e w3 ⟨rfl, g3, tv, hR⟩; rw [HL.out] at hR; have gW3 := gb_trans g1 g3))
    | (go_at_call 34; ((with_reducible refine (tops_any _ _ tv _ _ _ hR htm).mono ?_); rintro e w4 ⟨va, rfl, hoa, g4⟩; replace hR := Rng.gr hR g4; replace gW3 := gb_trans gW3 g4)))
  have hIa : RdI (fun b => b < w4.heap.size) w4 va (tops nd e0 l) := Ow.rd hoa (fun b hb => (hoa.lt hb).2)
  have hN4 := lt_self w4
  have hq40 : q ≤ 1099511627776 := by omega
  have hoq : ones q = (tops nd e0 l).length := htl.symm
  have hRlt : ∀ k, tv.ownBlock = some k → w2.heap.size ≤ k ∧ k < w4.heap.size := fun k h => hR.2.1.lt h
  have s34 := g4.size
  have s23 := g3.size
  have s12 := g1.size
  have hr4 : w2.heap.size < w4.heap.size := hR.1.lt
  go_wp2_with (go_at_call 39; ((with_reducible refine (restore_any q va (tops nd e0 l) _ _ hIa hN4 hq40 htm).mono ?_); rintro e w5 ⟨g5, h5⟩; rw [if_pos hoq] at h5; obtain ⟨rs, rfl, ⟨tv2, hS⟩, hrs⟩ := h5))
  replace hR := Rng.gr hR g5
  replace gW3 := gb_trans gW3 g5
  have hSlt : ∀ k, tv2.ownBlock = some k → w4.heap.size ≤ k ∧ k < w5.heap.size := fun k h => hS.2.1.lt h
  have hs5 : rs < w5.heap.size := hS.1.lt
  have s45 := g5.size
  have hv5 : RdI (fun b => b < w.heap.size) w5 (.slice A2 q2 c2) m := Rd.grown (show RdI (fun b => b < w.heap.size) w (.slice A2 q2 c2) m from HV2.out) gW3 (by simp)
  have hNd : ∀ b, (fun b => b < w.heap.size) b → b < w5.heap.size ∧ b ≠ w2.heap.size ∧ tv.ownBlock ≠ some b := fun b hb => by
    have hb' : b < w.heap.size := hb
    exact ⟨by omega, by omega, fun h => by have := hRlt _ h; omega⟩
  have hsz5 : q + m.length ≤ 1099511627776 := by rw [HM.out]; omega
  have hB5 : w2.heap.size ≤ w5.heap.size := by omega
  go_wp2_with (go_at_call 29; ((with_reducible refine (append_any _ _ tv _ q (tops nd e0 l) m _ _ hR htl hv5 hNd hsz5 hB5).mono ?_); rintro e w6 ⟨rfl, tv3, hR6, hC6, hO6⟩))
  have hRlt6 : ∀ k, tv3.ownBlock = some k → (w2.heap.size ≤ k ∧ k < w4.heap.size) ∨ w5.heap.size ≤ k := fun k h => by
    rcases hO6 with h' | ⟨k', h', hk'⟩
    · rw [h] at h'; exact .inl (hRlt k h'.symm)
    · rw [h] at h'; injection h' with h'; exact .inr (by omega)
  have hS6 := Rng.ch hS hC6 (by rintro (h | h); · omega
                                · have := hRlt _ h; omega) (by rintro k h (h' | h'); · have := hSlt _ h; omega
                                                               · have := hSlt _ h; have := hRlt _ h'; omega)
  have gW6 : w.grownBy w6 none := ((Ch.of (S := fun _ => False) gW3 (fun _ h => by cases h)).trans hC6 (fun r h => .inr (by
    rcases h with h | h
    · omega
    · have := hRlt _ h; omega))).toGb (fun _ h => h.elim)
  have hv6 : RdI (fun b => b < w.heap.size) w6 (.slice A2 q2 c2) m := Rd.grown (show RdI (fun b => b < w.heap.size) w (.slice A2 q2 c2) m from HV2.out) gW6 (by simp)
  have s56 := hC6.size
  have hNe : ∀ b, (fun b => b < w.heap.size) b → b < w6.heap.size ∧ b ≠ rs ∧ tv2.ownBlock ≠ some b := fun b hb => by
    have hb' : b < w.heap.size := hb
    exact ⟨by omega, by omega, fun h => by have := hSlt _ h; omega⟩
  have hB6 : w4.heap.size ≤ w6.heap.size := by omega
  go_wp2_with (go_at_call 29; ((with_reducible refine (append_any _ _ tv2 _ q (tops nd e0 l) m _ _ hS6 htl hv6 hNe hsz5 hB6).mono ?_); rintro e w7 ⟨rfl, tv4, hS7, hC7, hO7⟩))
  have hR7 := Rng.ch hR6 hC7 (by rintro (h | h); · omega
                                 · have := hSlt _ h; omega) (by rintro k h (h' | h'); · have := hRlt6 _ h; omega
                                                                · have := hSlt _ h'; have := hRlt6 _ h; omega)
  have gW7 : w.grownBy w7 none := ((Ch.of (S := fun _ => False) gW6 (fun _ h => by cases h)).trans hC7 (fun r h => .inr (by
    rcases h with h | h
    · omega
    · have := hSlt _ h; omega))).toGb (fun _ h => h.elim)
  have hpt := pushes_tops l m
  rw [HL.out] at hpt
  obtain ⟨L, hLe⟩ : ∃ L, L = l ++ m := ⟨_, rfl⟩
  rw [← hLe] at hpt
  have hLl : L.length = q + m.length := by rw [hLe, List.length_append, HL.out]
  rw [hpt, ← hLl] at hR7 hS7
  rw [HM.out] at hLl
  have hL40 : L.length ≤ 1099511627776 := by omega
  have htL : (tops nd e0 L).length = ones (q + q2) := by rw [tops_len, hLl]
  have hoL : ones (q + q2) ≤ 7 := ones_le_log 7 _ (by omega)
  have htLm : (tops nd e0 L).length ≤ 1000000 := by omega
  have hll : ((root nd e0 L).l == (root nd e0 L).l) = true := beq_self_eq_true _
  have q1 : ∀ w, (eqGuard .neq 26 (.tmp 52) (.tmp 54) (idv (root nd e0 L)) (idv (root nd e0 L))).run Try.prog w = .ok () w := fun _ => run_eqGuard_id idEq _ _
  have q2' : ∀ w, (binOp .neq 26 (idv (root nd e0 L)) (idv (root nd e0 L))).run Try.prog w = .ok (.bool false) w := fun w => (run_neq_id (w := w) idEq (root nd e0 L) (root nd e0 L)).trans (by rw [hll]; rfl)
  have hR7' : Rng w7 w2.heap.size w2.heap.size tv3 (q + q2) (tops nd e0 L) := by rw [hLl] at hR7; exact hR7
  have hS7' : Rng w7 w4.heap.size rs tv4 (q + q2) (tops nd e0 L) := by rw [hLl] at hS7; exact hS7
  have HLL := Go.Lib.hid hLl
  clear hR hS hR6 hS6 hS7' hC6 hC7 hO6 hO7 hNd hNe hv5 hv6 hpt hLe hLl hlj hlj1 hoa hIa
  go_wp2_with (first
    | (go_at_call 30; (first
        | ((with_reducible refine (rootM_any _ w2.heap.size tv3 L _ hR7 hL40).mono ?_); rintro e w8 ⟨rfl, g8⟩; replace hR7 := Rng.gr hR7 g8; replace hS7 := Rng.gr hS7 g8; replace gW7 := gb_trans gW7 g8)
        | ((with_reducible refine (rootM_any _ rs tv4 L _ hS7 hL40).mono ?_); rintro e w8 ⟨rfl, g8⟩; replace hR7 := Rng.gr hR7 g8; replace hS7 := Rng.gr hS7 g8; replace gW7 := gb_trans gW7 g8)))
    | (go_at_call 32; ((with_reducible refine (size_any _ _ tv4 _ _ _ hS7).mono ?_); rintro e w8 ⟨rfl, rfl⟩; rw [HLL.out, Int.natCast_add]))
    | (go_at_call 34; ((with_reducible refine (tops_any _ _ tv3 _ _ _ hR7 htLm).mono ?_); rintro e w9 ⟨vb, rfl, hob, g9⟩; replace hR7 := Rng.gr hR7 g9; replace gW7 := gb_trans gW7 g9)))
  have hIb : RdI (fun b => b < w9.heap.size) w9 vb (tops nd e0 L) := Ow.rd hob (fun b hb => (hob.lt hb).2)
  have hN9 := lt_self w9
  obtain ⟨T, hT⟩ : ∃ T, T = tops nd e0 L := ⟨_, rfl⟩
  rw [← hT] at hIb htLm hR7
  obtain ⟨tl, htl9⟩ : ∃ tl, tl = T.length := ⟨_, rfl⟩
  have HR7 := Go.Lib.hid hR7
  clear hob hT hS7 hR7 hR7' hll q1 q2' htL htl HL HM HLL HV HV2 hsz5 hoq hq hq2
  go_at_call 39
  refine (restore_all z vb T _ _ hIb hN9 htLm).mono ?_
  rintro e w10 ⟨g10, (⟨hz, rfl⟩ | ⟨n, rfl, hn, ho, rr, rfl⟩ | ⟨n, rfl, hn, ho, rfl⟩)⟩
  · have gWz := gb_trans gW7 g10
    clear hIb hN9 htLm
    rcases hz with hz | hz
    · have hd1 : decide (z < 0) = true := decide_eq_true hz
      go_wp2_with fail
      go_ret
      exact ⟨rfl, gWz⟩
    · have hd1 : decide (z < 0) = false := decide_eq_false (by omega)
      have hd2 : decide ((1099511627776 : Int) < z) = true := decide_eq_true hz
      go_wp2_with fail
      go_ret
      exact ⟨rfl, gWz⟩
  · have gWz := gb_trans gW7 g10
    have hRz := Rng.gr HR7.out g10
    have hd1 : decide ((n : Int) < 0) = false := decide_eq_false (by omega)
    have hd2 : decide ((1099511627776 : Int) < (n : Int)) = false := decide_eq_false (by omega)
    have hpl : (pks 0 n).length = T.length := by rw [pks_len]; exact ho
    have hee : ((T.length : Int) == (T.length : Int)) = true := beq_self_eq_true _
    have HO := Go.Lib.hid ho
    clear hIb hN9 HR7 ho
    go_wp2_with (first
      | (go_at_call 37; (with_reducible refine (refPeaks_any n hn _).mono ?_); rintro e w11 ⟨v1, v2, rfl, ho1, ho2, g11⟩; rw [hpl] at ho1 ho2; replace hRz := Rng.gr hRz g11; replace gWz := gb_trans gWz g11; obtain ⟨A1, c1, rfl⟩ := ho1.form; obtain ⟨A2, c2, rfl⟩ := ho2.form; clear hpl ho1 ho2)
      | (go_at_call 34; ((with_reducible refine (tops_any _ _ tv3 _ _ _ hRz htLm).mono ?_); rintro e w12 ⟨vd, rfl, hod, g12⟩; replace gWz := gb_trans gWz g12; obtain ⟨A3, c3, rfl⟩ := hod.form; clear hod)))
    go_ret
    exact ⟨rfl, gWz⟩
  · have gWz := gb_trans gW7 g10
    have hRz := Rng.gr HR7.out g10
    have hd1 : decide ((n : Int) < 0) = false := decide_eq_false (by omega)
    have hd2 : decide ((1099511627776 : Int) < (n : Int)) = false := decide_eq_false (by omega)
    obtain ⟨k, hk⟩ : ∃ k, k = (pks 0 n).length := ⟨_, rfl⟩
    have hee : ((k : Int) == (T.length : Int)) = false := by rw [hk, pks_len]; simp; omega
    have HO := Go.Lib.hid ho
    clear hIb hN9 HR7 ho
    go_wp2_with (first
      | (go_at_call 37; (with_reducible refine (refPeaks_any n hn _).mono ?_); rintro e w11 ⟨v1, v2, rfl, ho1, ho2, g11⟩; rw [← hk] at ho1 ho2; replace hRz := Rng.gr hRz g11; replace gWz := gb_trans gWz g11; obtain ⟨A1, c1, rfl⟩ := ho1.form; obtain ⟨A2, c2, rfl⟩ := ho2.form; clear hk ho1 ho2)
      | (go_at_call 34; ((with_reducible refine (tops_any _ _ tv3 _ _ _ hRz htLm).mono ?_); rintro e w12 ⟨vd, rfl, hod, g12⟩; replace gWz := gb_trans gWz g12; obtain ⟨A3, c3, rfl⟩ := hod.form; clear hod)))
    go_ret
    exact ⟨rfl, gWz⟩
end Go.Proofs.Ytgimgddlipbniaa
