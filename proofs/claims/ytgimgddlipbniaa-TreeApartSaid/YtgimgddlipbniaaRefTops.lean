import Derived.Test.YtgimgddlipbniaaTopsLaw
/- scrivenerref05.Tops: the sums of the whole trees. -/
namespace Go.Proofs.Ytgimgddlipbniaa
open Go.RowKit Go.Shelf Sc

def topφ (bp op bq oq m ca cc n c ii z k W0 : Nat) (A : Option Addr) (R : Sc.Id) (sub : List Sc.Id) (i : Nat) (v : Value) (w : World) : Prop := match i with
  | 0 => v = .slice A n c
  | 1 => v = .slice (some ⟨bp, op, none⟩) m ca
  | 2 => v = .int .i64 (ii : Int)
  | 3 => v = .pointer (some ⟨bp, op + ii, none⟩)
  | 4 => v = .int .i64 (z : Int)
  | 5 => v = .slice (some ⟨bp, op, none⟩) m ca
  | 6 => v = .int .i64 (ii : Int)
  | 7 => v = .pointer (some ⟨bp, op + ii, none⟩)
  | 8 => v = .int .i64 (z : Int)
  | 9 => v = .slice (some ⟨bq, oq, none⟩) m cc
  | 10 => v = .int .i64 (ii : Int)
  | 11 => v = .pointer (some ⟨bq, oq + ii, none⟩)
  | 12 => v = .int .i64 (k : Int)
  | 13 => v = .int .i64 ((z + k : Nat) : Int)
  | 14 => RdI (fun b => b < w.heap.size) w v sub
  | 15 => v = idv R
  | 16 => ∃ r, v = .pointer (some ⟨r, 0, none⟩) ∧ Bk w r 26 idZ ∧ W0 ≤ r
  | _ => True
theorem topφ_gr (bp op bq oq m ca cc n c ii z k W0 : Nat) (A : Option Addr) (R : Sc.Id) (sub : List Sc.Id) : ∀ i v w w', topφ bp op bq oq m ca cc n c ii z k W0 A R sub i v w → Gr w w' → topφ bp op bq oq m ca cc n c ii z k W0 A R sub i v w' := by
  intro i v w w' h hg
  match i with
  | 0 => exact h
  | 1 => exact h
  | 2 => exact h
  | 3 => exact h
  | 4 => exact h
  | 5 => exact h
  | 6 => exact h
  | 7 => exact h
  | 8 => exact h
  | 9 => exact h
  | 10 => exact h
  | 11 => exact h
  | 12 => exact h
  | 13 => exact h
  | 14 => exact RI.gr h hg
  | 15 => exact h
  | 16 => exact by obtain ⟨r, e, hb, hr⟩ := h; exact ⟨r, e, hb.grown hg (by simp), hr⟩
  | i + 17 => exact h

theorem take_atT (l : List Sc.Id) (i : Nat) (x : Sc.Id) (h : l[i]? = some x) : l.take (i + 1) = l.take i ++ [x] := by rw [List.take_add_one, h]; rfl

set_option maxHeartbeats 4000000 in
theorem refTops_any (v : Value) (xs : List Sc.Id) (NB : Nat → Prop) (w : World) (hv : RdI NB w v xs) (hNB : ∀ b, NB b → b < w.heap.size) (hsz : xs.length ≤ 1099511627776) :
    Calls Try.prog 35 #[v] w fun e w' => ∃ v', e = .returned v' ∧ Ow w.heap.size w' 32 v' (tops nd e0 xs).length (idCells (tops nd e0 xs)) ∧ w.grownBy w' none := by
  go_enter Try.func35, Try.ntmps35
  obtain ⟨A, c, rfl, hc⟩ := Rd.form hv
  have hV := Go.Lib.hid (RI.of hv hNB)
  obtain ⟨n, hn⟩ : ∃ n, n = xs.length := ⟨_, rfl⟩
  rw [← hn] at hV hsz hc ⊢
  have hI : (0 : Int) ≤ (n : Int) ∧ (n : Int) ≤ (c : Int) ∧ (n : Int) ≤ 1099511627776 := by omega
  obtain ⟨ts, hts⟩ : ∃ ts, ts = tops nd e0 xs := ⟨_, rfl⟩
  rw [← hts]
  rw [tops_eq, ← hn] at hts
  obtain ⟨ps, hps⟩ : ∃ ps, ps = pks 0 n := ⟨_, rfl⟩
  rw [← hps] at hts
  have HTS := Go.Lib.hid hts
  have HPS := Go.Lib.hid hps
  have HN := Go.Lib.hid hn
  have hpk := refPeaks_any n hsz
  rw [← hps] at hpk
  have hlt0 : ts.length = ps.length := by rw [hts, List.length_map]
  have hpn : ps.length ≤ 41 := by rw [hps, pks_len]; exact ones_le_log 41 n (by omega)
  obtain ⟨m, hm⟩ : ∃ m, m = ps.length := ⟨_, rfl⟩
  rw [← hm] at hpk hlt0 hpn
  have HM := Go.Lib.hid hm
  have HLT := Go.Lib.hid hlt0
  clear hv hts hps hn hm hlt0
  rw [HLT.out]
  go_wp2_with (go_at_call 37; ((with_reducible refine (hpk _).mono ?_); rintro e w1 ⟨va, vc, rfl, hoa, hoc, g1⟩; obtain ⟨Aa, ca, rfl⟩ := hoa.form; obtain ⟨Ac, cc, rfl⟩ := hoc.form))
  go_loopw [5, 6, 7] (fun vo vi _vp wr => ∃ ii : Nat, vi = .int .i64 (ii : Int) ∧ ii ≤ m ∧ Hid (Ow w1.heap.size wr 32 vo ii (idCells (ts.take ii))) ∧ Hid (w1.grownBy wr none)) (fun _ vi _ _ => m - (intOf vi).toNat)
  case atStart => exact ⟨0, rfl, Nat.zero_le _, Go.Lib.hid (by rw [List.take_zero]; exact Ow.nil _ _ _), Go.Lib.hid (gb_refl _ _)⟩
  case round =>
    clear hpk
    obtain ⟨ii, rfl, hi, HO, HG⟩ := hrel
    obtain ⟨wo, rfl⟩ : ∃ wo : World, wo = wr := ⟨_, rfl⟩
    obtain ⟨Ao, co, rfl⟩ := HO.out.form
    by_cases hlt : ii < m
    · have hd : decide ((ii : Int) < (m : Int)) = true := decide_eq_true (by omega)
      have hd' : decide (ii < m) = true := decide_eq_true hlt
      obtain ⟨bp, op, cp, he1, _, hbp, hmc1, hpa0, _⟩ := hoa.at (by omega)
      injection he1 with hA1 _ hc1
      subst hA1 hc1
      obtain ⟨bq, oq, cq, he2, _, hbq, hmc2, hqa0, _⟩ := hoc.at (by omega)
      injection he2 with hA2 _ hc2
      subst hA2 hc2
      have hpa := rangeAt_grown hpa0 HG.out (by simp)
      have hqa := rangeAt_grown hqa0 HG.out (by simp)
      obtain ⟨p, hp⟩ : ∃ p, ps[ii]? = some p := ⟨_, List.getElem?_eq_getElem (by rw [← HM.out]; exact hlt)⟩
      obtain ⟨z, k⟩ := p
      have hga : (ps.map fun p => ic p.1)[ii]? = some (.int .i64 (z : Int)) := by rw [List.getElem?_map, hp]; rfl
      have hgq : (ps.map fun p => ic p.2)[ii]? = some (.int .i64 (k : Int)) := by rw [List.getElem?_map, hp]; rfl
      have hin := pks_in n 0 n (Nat.le_refl _) (z, k) (by rw [← HPS.out]; exact List.mem_of_getElem? hp)
      have hzk : z + k ≤ n := by have := hin.2.2; omega
      obtain ⟨sub, hsub⟩ : ∃ sub, sub = (xs.drop z).take k := ⟨_, rfl⟩
      have hsl : sub.length = k := by rw [hsub, List.length_take, List.length_drop, ← HN.out]; omega
      obtain ⟨R, hR0⟩ : ∃ R, R = root nd e0 sub := ⟨_, rfl⟩
      have htR : ts[ii]? = some R := by rw [HTS.out, List.getElem?_map, hp, hR0, hsub]; rfl
      have HTK := Go.Lib.hid (take_atT ts ii R htR)
      have HSB := Go.Lib.hid hsub
      have HSL := Go.Lib.hid hsl
      have HR := Go.Lib.hid hR0.symm
      have hs40 : sub.length ≤ 1099511627776 := by omega
      have hzI : (0 : Int) ≤ (z : Int) ∧ (0 : Int) ≤ (k : Int) ∧ (z : Int) + (k : Int) ≤ (n : Int) := by omega
      have hl : RI wo (.slice A n c) xs := RI.gr (RI.gr hV.out g1) HG.out
      clear hpa0 hqa0 hp hin hsub hsl hR0 htR
      go_wp2_with fail
      refine wp_region_specs 17 [20, 21, 22, 23, 24, 25, 26, 27, 28, 29, 30, 31, 32, 33, 34, 35, 7] (by kernel_rfl) (by kernel_rfl) (topφ bp op bq oq m ca cc n c ii z k wo.heap.size A R sub) (topφ_gr bp op bq oq m ca cc n c ii z k wo.heap.size A R sub) ?step ?fin
      case step =>
        intro i_ o_ ho hi_ u w' hg hd
        rcases (by omega : i_ = 0 ∨ i_ = 1 ∨ i_ = 2 ∨ i_ = 3 ∨ i_ = 4 ∨ i_ = 5 ∨ i_ = 6 ∨ i_ = 7 ∨ i_ = 8 ∨ i_ = 9 ∨ i_ = 10 ∨ i_ = 11 ∨ i_ = 12 ∨ i_ = 13 ∨ i_ = 14 ∨ i_ = 15 ∨ i_ = 16) with rfl | rfl | rfl | rfl | rfl | rfl | rfl | rfl | rfl | rfl | rfl | rfl | rfl | rfl | rfl | rfl | rfl <;> obtain rfl := Option.some.inj ho <;>
          simp (decide := true) only [fillAct, List.mapIdx_cons, List.mapIdx_nil, Nat.reduceAdd, if_true, if_false, List.getD_cons_zero, List.getD_cons_succ]
        · clear hd ho
          go_wp2_with fail
          exact ⟨rfl, gb_refl _ _, rfl⟩
        · clear hd ho
          go_wp2_with fail
          exact ⟨rfl, gb_refl _ _, rfl⟩
        · clear hd ho
          go_wp2_with fail
          exact ⟨rfl, gb_refl _ _, rfl⟩
        · have h1 : u 21 = .slice (some ⟨bp, op, none⟩) m ca := hd 1 (by kernel_rfl)
          have h2 : u 22 = .int .i64 (ii : Int) := hd 2 (by kernel_rfl)
          clear hd ho
          rw [h1, h2]
          go_wp2_with fail
          exact ⟨rfl, gb_refl _ _, rfl⟩
        · have h3 : u 23 = .pointer (some ⟨bp, op + ii, none⟩) := hd 3 (by kernel_rfl)
          clear hd ho
          rw [h3]
          have hc1 : w'.cell? ⟨bp, op + ii, none⟩ = some (.int .i64 (z : Int)) := rangeAt_grown hpa hg (by simp) ii _ hga
          go_wp2_with fail
          exact ⟨rfl, gb_refl _ _, rfl⟩
        · clear hd ho
          go_wp2_with fail
          exact ⟨rfl, gb_refl _ _, rfl⟩
        · clear hd ho
          go_wp2_with fail
          exact ⟨rfl, gb_refl _ _, rfl⟩
        · have h5 : u 25 = .slice (some ⟨bp, op, none⟩) m ca := hd 5 (by kernel_rfl)
          have h6 : u 26 = .int .i64 (ii : Int) := hd 6 (by kernel_rfl)
          clear hd ho
          rw [h5, h6]
          go_wp2_with fail
          exact ⟨rfl, gb_refl _ _, rfl⟩
        · have h7 : u 27 = .pointer (some ⟨bp, op + ii, none⟩) := hd 7 (by kernel_rfl)
          clear hd ho
          rw [h7]
          have hc1 : w'.cell? ⟨bp, op + ii, none⟩ = some (.int .i64 (z : Int)) := rangeAt_grown hpa hg (by simp) ii _ hga
          go_wp2_with fail
          exact ⟨rfl, gb_refl _ _, rfl⟩
        · clear hd ho
          go_wp2_with fail
          exact ⟨rfl, gb_refl _ _, rfl⟩
        · clear hd ho
          go_wp2_with fail
          exact ⟨rfl, gb_refl _ _, rfl⟩
        · have h9 : u 29 = .slice (some ⟨bq, oq, none⟩) m cc := hd 9 (by kernel_rfl)
          have h10 : u 30 = .int .i64 (ii : Int) := hd 10 (by kernel_rfl)
          clear hd ho
          rw [h9, h10]
          go_wp2_with fail
          exact ⟨rfl, gb_refl _ _, rfl⟩
        · have h11 : u 31 = .pointer (some ⟨bq, oq + ii, none⟩) := hd 11 (by kernel_rfl)
          clear hd ho
          rw [h11]
          have hc1 : w'.cell? ⟨bq, oq + ii, none⟩ = some (.int .i64 (k : Int)) := rangeAt_grown hqa hg (by simp) ii _ hgq
          go_wp2_with fail
          exact ⟨rfl, gb_refl _ _, rfl⟩
        · have h8 : u 28 = .int .i64 (z : Int) := hd 8 (by kernel_rfl)
          have h12 : u 32 = .int .i64 (k : Int) := hd 12 (by kernel_rfl)
          clear hd ho
          rw [h8, h12]
          go_wp2_with fail
          exact ⟨rfl, gb_refl _ _, by show Value.int _ _ = Value.int _ _; push_cast; rfl⟩
        · have h0 : u 20 = .slice A n c := hd 0 (by kernel_rfl)
          have h4 : u 24 = .int .i64 (z : Int) := hd 4 (by kernel_rfl)
          have h13 : u 33 = .int .i64 ((z + k : Nat) : Int) := hd 13 (by kernel_rfl)
          clear hd ho
          rw [h0, h4, h13]
          have hl1 := rd_of_ri (RI.gr hl hg) HN.out
          go_wp2_with ((with_reducible refine wpList_cut (x := .tmp 20) Try.underlying46 (by kernel_rfl) hl1 (by kernel_rfl) z (z + k) (.inr ⟨_, rfl, by kernel_rfl⟩) (.inr ⟨_, rfl, by kernel_rfl⟩) (Nat.le_add_right _ _) hzk ?_); intro v9 hv9)
          refine ⟨rfl, gb_refl _ _, ?_⟩
          unfold topφ RdI
          rw [HSL.out, HSB.out, ← idCells_take, ← idCells_drop]; rwa [Nat.add_sub_cancel_left] at hv9
        · have h14 : RdI (fun b => b < w'.heap.size) w' (u 34) sub := hd 14 (by kernel_rfl)
          clear hd ho
          obtain ⟨A9, c9, e9, _⟩ := Rd.form h14
          rw [e9] at h14 ⊢
          go_wp2_with (go_at_call 31; ((with_reducible refine (refRoot_any _ sub _ _ h14 (fun _ h => h) hs40).mono ?_); rintro e w3 ⟨rfl, g3⟩))
          exact ⟨rfl, g3, by simp only [topφ]; rw [HR.out]; rfl⟩
        · clear hd ho
          have hW0 := hg.size
          go_wp2_with ((with_reducible refine wpList_alloc_row (E := 26) idZ infoId ?_))
          exact ⟨rfl, gb_alloc (gb_refl _ _) _, _, rfl, Bk.new _ _ _, hW0⟩
      case fin =>
        intro u w' hg hφ
        have h15 : u 35 = idv R := hφ 15 (by omega)
        have h16 : ∃ r, u 7 = .pointer (some ⟨r, 0, none⟩) ∧ Bk w' r 26 idZ ∧ wo.heap.size ≤ r := hφ 16 (by omega)
        obtain ⟨r, e7, br, hr⟩ := h16
        simp (decide := true) only [fillAct, List.mapIdx_cons, List.mapIdx_nil, Nat.reduceAdd, if_true, if_false, List.drop_succ_cons, List.drop_zero]
        rw [h15, e7]
        clear hφ h15 e7
        have h63 : ii + 1 ≤ maxLen := Nat.le_trans (show ii + 1 ≤ 1099511627777 from by omega) (by decide)
        have hby : (ii + 1) * 32 ≤ 140737488355328 := by omega
        have hRl := R.2
        go_wp2_with (first
          | ((with_reducible refine wpList_store_bk (t := 26) r 26 idZ (R.l.map bv) br (by kernel_rfl) (by kernel_rfl) (idSize _) (idLen _) (idOne _) ?_)
             intro w5 h5 g5 z5
             have ho5 := ((HO.out.grown hg (fun _ _ => by simp)).grown g5 (fun b hb h => by have := (HO.out.lt hb).2; injection h with h; omega)).alloc (.cells (R.l.map bv).toArray 26)
             have gW5 := gb_alloc (gb_trans_new (gb_trans HG.out hg) g5 (Nat.le_trans HG.out.size hr)) (.cells (R.l.map bv).toArray 26)
             have hBw := gW5.size
             have hsrc : Src Try.prog 32 46 (.slice (some ⟨w5.heap.size, 0, none⟩) 1 1) 1 (R.l.map bv) (w5.alloc (.cells (R.l.map bv).toArray 26)) := src_new (P := Try.prog) Try.underlying46 w5 26 32 1 (R.l.map bv) (by rw [List.length_map, hRl]) (fun u hu => by obtain ⟨y, _, rfl⟩ := List.mem_map.1 hu; rfl))
          | ((with_reducible refine wpList_load_bk (x := .tmp 7) (t := 26) r _ (R.l.map bv) _ h5 (by kernel_rfl) Try.underlying26 rfl (idSize _) ?_))
          | ((with_reducible refine wpList_build_id R (by kernel_rfl) ?_))
          | ((with_reducible refine wpList_append_ow (s := .tmp 36) (x := .tmp 38) (v := .slice Ao ii co) (y := .slice (some ⟨w5.heap.size, 0, none⟩) 1 1) (by kernel_rfl) (by kernel_rfl) Try.underlying46 okId ho5 hsrc hBw h63 hby ?_)
             intro v6 w6 ho6 hg6 hb6
             have gW6 := Ow.gb gW5 ho5 (Nat.le_refl _) hg6
             obtain ⟨A6, c6, rfl⟩ := ho6.form))
        refine ⟨⟨ii + 1, by push_cast; rfl, by omega, Go.Lib.hid ?_, Go.Lib.hid gW6⟩, by simp only [intOf]; omega⟩
        rw [HTK.out, idCells_append, idCells_one]; exact ho6
    · obtain rfl : ii = m := by omega
      have hd : decide ((ii : Int) < (ii : Int)) = false := decide_eq_false (by omega)
      have htk : ts.take ii = ts := List.take_of_length_le (by rw [HLT.out]; exact Nat.le_refl _)
      have ho := HO.out
      rw [htk] at ho
      go_wp2_with fail
      go_ret
      exact ⟨_, rfl, Ow.weaken ho g1.size, gb_trans g1 HG.out⟩
end Go.Proofs.Ytgimgddlipbniaa
