import Derived.Test.YtgimgddlipbniaaTaR
/- TreeApart: the walk. -/
namespace Go.Proofs.Ytgimgddlipbniaa
open Go.RowKit Go.Shelf Sc

def incφ (bo oo n co p : Nat) (z : UInt8) (i : Nat) (v : Value) (_w : World) : Prop := match i with
  | 0 => v = .slice (some ⟨bo, oo, none⟩) n co
  | 1 => v = .int .i64 (p : Int)
  | 2 => v = .pointer (some ⟨bo, oo + p * 32, none⟩)
  | 3 => v = .pointer (some ⟨bo, oo + p * 32, none⟩)
  | 4 => v = .int .u8 (z.toNat : Int)
  | 5 => ∃ z' : UInt8, v = .int .u8 (z'.toNat : Int)
  | 6 => v = .pointer (some ⟨bo, oo + p * 32, none⟩)
  | 7 => v = .pointer (some ⟨bo, oo + p * 32, none⟩)
  | _ => True
theorem incφ_gr (bo oo n co p : Nat) (z : UInt8) : ∀ i v w w', incφ bo oo n co p z i v w → Gr w w' → incφ bo oo n co p z i v w' := by
  intro i v w w' h hg
  match i with
  | 0 => exact h
  | 1 => exact h
  | 2 => exact h
  | 3 => exact h
  | 4 => exact h
  | 5 => exact h
  | 6 => exact h
  | 7 => exact h
  | i + 8 => exact h

set_option maxHeartbeats 4000000 in
set_option maxRecDepth 100000 in
theorem treeApart_walk (u : Value) (l0 : List Sc.Id) (x y : Sc.Id) (NB : Nat → Prop) (w : World) (hu : RdI NB w u l0) (hNB : ∀ b, NB b → b < w.heap.size) :
    Calls Try.prog 14 #[u, .agg (x.l.map bv).toArray, .agg (y.l.map bv).toArray] w fun e w' => e = .returned (.bool true) ∧ w.grownBy w' none := by
  go_enter Try.func14, Try.ntmps14
  obtain ⟨A, c, rfl, hc⟩ := Rd.form hu
  have hm := Rd.le hu
  obtain ⟨q, hq⟩ : ∃ q, min l0.length 60 = q := ⟨_, rfl⟩
  have HV := Go.Lib.hid (RI.of (RdI.takeTo hu 60 q hq) hNB)
  have hq60 : q ≤ 60 := by omega
  have hlq : (l0.take 60).length = q := by rw [List.length_take, Nat.min_comm]; exact hq
  obtain ⟨l, hle⟩ : ∃ l, l = l0.take 60 := ⟨_, rfl⟩
  rw [← hle] at HV hlq
  clear hu hle
  have HL := Go.Lib.hid hlq
  clear hlq
  have hqc : q ≤ c := by omega
  have hl40 : l.length ≤ 1099511627776 := by rw [HL.out]; omega
  have hlj : RdI (fun b => b < w.heap.size) w (.slice A q c) l := HV.out
  have htl : (tops nd e0 l).length = ones q := by rw [tops_len, HL.out]
  have hot : ones q ≤ 7 := ones_le_log 7 q (by omega)
  have htm : (tops nd e0 l).length ≤ 1000000 := by rw [htl]; omega
  obtain ⟨T, hT⟩ : ∃ T, T = tops nd e0 l := ⟨_, rfl⟩
  rw [← hT] at htl htm
  obtain ⟨n, hn⟩ : ∃ n, n = T.length := ⟨_, rfl⟩
  have HT := Go.Lib.hid hT
  have HN := Go.Lib.hid hn
  have hn7 : n ≤ 7 := by omega
  clear hT hn
  obtain ⟨W1, hW1⟩ : ∃ W1, W1 = (w.alloc (.cells (x.l.map bv).toArray 26)).alloc (.cells (y.l.map bv).toArray 26) := ⟨_, rfl⟩
  have bx1 : Bk W1 w.heap.size 26 (x.l.map bv) := by rw [hW1]; exact (Bk.new w 26 (x.l.map bv)).alloc _
  have by1 : Bk W1 (w.heap.size + 1) 26 (y.l.map bv) := by
    have := Bk.new (w.alloc (.cells (x.l.map bv).toArray 26)) 26 (y.l.map bv)
    rw [World.size_alloc] at this; rw [hW1]; exact this
  have gW1 : w.grownBy W1 none := by rw [hW1]; exact gb_alloc (gb_alloc (gb_refl w none) _) _
  have z1 : W1.heap.size = w.heap.size + 2 := by rw [hW1, World.size_alloc, World.size_alloc]
  have HW1 := Go.Lib.hid hW1
  clear hW1
  go_wp2_with (first
    | (go_at_call 26; (rw [← HW1.out]; (with_reducible refine (grows_any _).mono ?_); rintro e w1 ⟨rfl, g2⟩; have gW2 := gb_trans gW1 g2; have hlj1 : RdI (fun b => b < w1.heap.size) w1 (.slice A q c) l := RI.gr hlj gW2; have hN1 := lt_self w1))
    | (go_at_call 27; ((with_reducible refine (cut_lit A l0.length c 60 q 60 rfl _ hq hm hc).mono ?_); rintro e w2 ⟨rfl, rfl⟩))
    | (go_at_call 28; ((with_reducible refine (treeOf_any _ l _ _ hlj1 hN1 hl40).mono ?_); rintro e w3 ⟨rfl, g3, tv, hR⟩; rw [HL.out, ← HT.out] at hR; have hRlt : ∀ k, tv.ownBlock = some k → w2.heap.size ≤ k ∧ k < w3.heap.size := fun k h => hR.2.1.lt h; have hr3' : w2.heap.size < w3.heap.size := hR.1.lt; have gW3 := gb_trans gW2 g3))
    | (go_at_call 34; ((with_reducible refine (tops_any _ _ tv _ _ _ hR htm).mono ?_); rintro e w4 ⟨va, rfl, hoa, g4⟩; rw [← HN.out] at hoa; obtain ⟨Ao, co, rfl⟩ := hoa.form; replace hR := Rng.gr hR g4; have gW4 := gb_trans gW3 g4)))
  have hoa4 : ∀ k, (Value.slice Ao n co).ownBlock = some k → w3.heap.size ≤ k ∧ k < w4.heap.size := fun k h => hoa.lt h
  have hnc : n ≤ co := by
    obtain ⟨_, A', c', he, h2, _⟩ := id hoa
    injection he with _ _ e2
    omega
  have hIa : RdI (fun b => b < w4.heap.size) w4 (.slice Ao n co) T := by
    unfold RdI; rw [← HN.out]; exact Ow.rd hoa (fun b hb => (hoa.lt hb).2)
  have hN4 := lt_self w4
  have hq40 : q ≤ 1099511627776 := by omega
  have hoq : ones q = T.length := htl.symm
  have hr3 : w2.heap.size < w3.heap.size := hr3'
  have s34 := g4.size
  have s23 := g3.size
  have s12 := g2.size
  have hr4 : w2.heap.size < w4.heap.size := hR.1.lt
  go_wp2_with (go_at_call 39; ((with_reducible refine (restore_any q (.slice Ao n co) T _ _ hIa hN4 hq40 htm).mono ?_); rintro e w5 ⟨g5, h5⟩; rw [if_pos hoq] at h5; obtain ⟨ra, rfl, ⟨tva, hRa⟩, hra⟩ := h5; have hra5' : ra < w5.heap.size := hRa.1.lt; have hRa5' : ∀ k, tva.ownBlock = some k → k < w5.heap.size := fun k h => (hRa.2.1.lt h).2))
  replace hIa := RI.gr hIa g5
  replace hIa := rgr_refl hIa
  have hN5 := lt_self w5
  replace hR := Rng.gr hR g5
  replace hoa := hoa.grown g5 (fun _ _ => by simp)
  replace gW4 := gb_trans gW4 g5
  go_wp2_with (go_at_call 39; ((with_reducible refine (restore_any q (.slice Ao n co) T _ _ hIa hN5 hq40 htm).mono ?_); rintro e w6 ⟨g6, h6⟩; rw [if_pos hoq] at h6; obtain ⟨rb, rfl, ⟨tvb, hRb⟩, hrb⟩ := h6))
  replace hR := Rng.gr hR g6
  replace hRa := Rng.gr hRa g6
  replace hoa := hoa.grown g6 (fun _ _ => by simp)
  replace gW4 := gb_trans gW4 g6
  have hob : ∀ j, j < n * 32 → ∃ z : UInt8, (idCells T)[j]? = some (bv z) := fun j hj => by
    have h := idCells_at T (j / 32) (j % 32) (by rw [← HN.out]; omega) (Nat.mod_lt _ (by decide))
    rw [show j / 32 * 32 + j % 32 = j from by omega] at h
    exact ⟨_, h⟩
  go_loopw [54] (fun v wr => ∃ (p : Nat) (cs : List Value), v = .int .i64 (p : Int) ∧ p ≤ n ∧ Hid (Ow w3.heap.size wr 32 (.slice Ao n co) n cs) ∧ Hid (∀ j, j < n * 32 → ∃ z : UInt8, cs[j]? = some (bv z)) ∧ Hid (Ch (fun k => (Value.slice Ao n co).ownBlock = some k) w6 wr)) (fun v _ => n - (intOf v).toNat)
  case atStart => exact ⟨0, idCells T, rfl, Nat.zero_le _, Go.Lib.hid hoa, Go.Lib.hid hob, Go.Lib.hid (Ch.refl _ _)⟩
  case round =>
    obtain ⟨p, cs, rfl, hin, HO, HB, HC⟩ := hrel
    by_cases hlt : p < n
    · obtain ⟨bo, oo, co', hvo, hBo, hbl, hcc, hro, hfo⟩ := HO.out.at (by omega)
      cases hvo
      obtain ⟨z, hz⟩ := HB.out (p * 32) (by omega)
      have hcz : wr.cell? ⟨bo, oo + p * 32, none⟩ = some (.int .u8 (z.toNat : Int)) := hro _ _ hz
      have hiI : (0 : Int) ≤ (p : Int) ∧ (p : Int) < (n : Int) ∧ (n : Int) ≤ 7 := by omega
      have hd : decide ((p : Int) < (n : Int)) = true := decide_eq_true (by omega)
      go_wp2_with fail
      refine wp_region_specs 8 [57, 58, 59, 60, 61, 62, 63, 64] (by kernel_rfl) (by kernel_rfl) (incφ bo oo n co p z) (incφ_gr bo oo n co p z) ?step ?fin
      case step =>
        intro i_ o_ ho hi_ u w' hg hd
        rcases (by omega : i_ = 0 ∨ i_ = 1 ∨ i_ = 2 ∨ i_ = 3 ∨ i_ = 4 ∨ i_ = 5 ∨ i_ = 6 ∨ i_ = 7) with rfl | rfl | rfl | rfl | rfl | rfl | rfl | rfl <;> obtain rfl := Option.some.inj ho <;>
          simp (decide := true) only [fillAct, List.mapIdx_cons, List.mapIdx_nil, Nat.reduceAdd, if_true, if_false, List.getD_cons_zero, List.getD_cons_succ]
        · clear hd ho
          go_wp2_with fail
          exact ⟨rfl, gb_refl _ _, rfl⟩
        · clear hd ho
          go_wp2_with fail
          exact ⟨rfl, gb_refl _ _, rfl⟩
        · have h0 : u 57 = .slice (some ⟨bo, oo, none⟩) n co := hd 0 (by kernel_rfl)
          have h1 : u 58 = .int .i64 (p : Int) := hd 1 (by kernel_rfl)
          clear hd ho
          rw [h0, h1]
          go_wp2_with fail
          exact ⟨rfl, gb_refl _ _, rfl⟩
        · have h2 : u 59 = .pointer (some ⟨bo, oo + p * 32, none⟩) := hd 2 (by kernel_rfl)
          clear hd ho
          rw [h2]
          go_wp2_with fail
          exact ⟨rfl, gb_refl _ _, rfl⟩
        · have h3 : u 60 = .pointer (some ⟨bo, oo + p * 32, none⟩) := hd 3 (by kernel_rfl)
          clear hd ho
          rw [h3]
          have c1 := cell_grown (row := none) hg hcz (by simp)
          go_wp2_with fail
          exact ⟨rfl, gb_refl _ _, rfl⟩
        · have h4 : u 61 = .int .u8 (z.toNat : Int) := hd 4 (by kernel_rfl)
          clear hd ho
          rw [h4]
          go_wp2_with fail
          refine ⟨rfl, gb_refl _ _, UInt8.ofNat ((z.toNat + 1) % 256), ?_⟩
          refine congrArg (Value.int .u8) (?_ : _ = (((UInt8.ofNat ((z.toNat + 1) % 256)).toNat : Nat) : Int))
          rw [UInt8.toNat_ofNat', Nat.mod_eq_of_lt (Nat.mod_lt _ (by decide))]
          omega
        · have h0 : u 57 = .slice (some ⟨bo, oo, none⟩) n co := hd 0 (by kernel_rfl)
          have h1 : u 58 = .int .i64 (p : Int) := hd 1 (by kernel_rfl)
          clear hd ho
          rw [h0, h1]
          go_wp2_with fail
          exact ⟨rfl, gb_refl _ _, rfl⟩
        · have h6 : u 63 = .pointer (some ⟨bo, oo + p * 32, none⟩) := hd 6 (by kernel_rfl)
          clear hd ho
          rw [h6]
          go_wp2_with fail
          exact ⟨rfl, gb_refl _ _, rfl⟩

      case fin =>
        intro u w' hg hφ
        obtain ⟨z', h5⟩ : ∃ z' : UInt8, u 62 = .int .u8 (z'.toNat : Int) := hφ 5 (by omega)
        have h7 : u 64 = .pointer (some ⟨bo, oo + p * 32, none⟩) := hφ 7 (by omega)
        simp (decide := true) only [fillAct, List.mapIdx_cons, List.mapIdx_nil, Nat.reduceAdd, if_true, if_false, List.drop_succ_cons, List.drop_zero]
        have ho1 := HO.out.grown hg (fun _ _ => by simp)
        obtain ⟨_, _, _, he1, -, -, -, hr1, hf1⟩ := ho1.at (by omega)
        cases he1
        have c1 : w'.cell? ⟨bo, oo + p * 32, none⟩ = some (.int .u8 (z.toNat : Int)) := hr1 _ _ hz
        have f1 := hf1 (p * 32) (by omega)
        rw [h5, h7]
        clear hφ hr1 hf1
        go_wp2_with fail
        go_roundw
        case rel =>
          refine ⟨p + 1, cs.set (p * 32) (bv z'), by push_cast; rfl, by omega, Go.Lib.hid (ho1.set (p * 32) (bv z') (by omega)), Go.Lib.hid ?_, Go.Lib.hid ?_⟩
          · intro j hj
            by_cases hji : p * 32 = j
            · subst hji
              exact ⟨z', List.getElem?_set_self (by rw [HO.out.1]; exact hj)⟩
            · rw [List.getElem?_set_ne hji]; exact HB.out j hj
          · exact (HC.out.gb hg (fun _ h => by cases h)).gb (gb_set1 w' ⟨bo, oo + p * 32, none⟩ (bv z')) (fun r e => .inl (by cases e; rfl))
        case measure => simp only [intOf]; omega
    · have hd : decide ((p : Int) < (n : Int)) = false := decide_eq_false (by omega)
      have hoLt : ∀ k, (Value.slice Ao n co).ownBlock = some k → w3.heap.size ≤ k ∧ k < w4.heap.size := fun k h => hoa4 k h
      have hIn := hin
      obtain rfl : p = n := by omega
      have hxw : Bk wr w.heap.size 26 (x.l.map bv) := HC.out.bk (((((bx1.grown g2 (by simp)).grown g3 (by simp)).grown g4 (by simp)).grown g5 (by simp)).grown g6 (by simp)) (fun h => by have := hoLt _ h; omega)
      have hyw : Bk wr (w.heap.size + 1) 26 (y.l.map bv) := HC.out.bk (((((by1.grown g2 (by simp)).grown g3 (by simp)).grown g4 (by simp)).grown g5 (by simp)).grown g6 (by simp)) (fun h => by have := hoLt _ h; omega)
      have hC := HC.out
      have s45 := g5.size
      have s56 := g6.size
      have s6r := hC.size
      have hRalt : ∀ k, tva.ownBlock = some k → w4.heap.size ≤ k ∧ k < w6.heap.size := fun k h => hRa.2.1.lt h
      have hRblt : ∀ k, tvb.ownBlock = some k → w5.heap.size ≤ k ∧ k < w6.heap.size := fun k h => hRb.2.1.lt h
      have hra5 : ra < w5.heap.size := hra5'
      have hRa5 : ∀ k, tva.ownBlock = some k → k < w5.heap.size := hRa5'
      have hrb6 : rb < w6.heap.size := hRb.1.lt
      have hRw := Rng.ch hR hC (fun h => by have := hoLt _ h; omega) (fun k h h' => by have := hoLt _ h'; have := hRlt _ h; omega)
      have hRaw := Rng.ch hRa hC (fun h => by have := hoLt _ h; omega) (fun k h h' => by have := hoLt _ h'; have := hRalt _ h; omega)
      have hRbw := Rng.ch hRb hC (fun h => by have := hoLt _ h; omega) (fun k h h' => by have := hoLt _ h'; have := hRblt _ h; omega)
      have gWr : w.grownBy wr none := ((Ch.of (S := fun _ => False) gW4 (fun _ h => by cases h)).trans hC (fun r h => .inr (by have := hoLt _ h; omega))).toGb (fun _ h => h.elim)
      have hqT : T.length = ones q := htl
      have hsz1 : ∀ z : Sc.Id, q + [z].length ≤ 1099511627776 := fun z => by simp; omega
      -- a.Append(x)
      have hva : RdI (fun b => b = wr.heap.size) (wr.alloc (.cells (x.l.map bv).toArray 26)) (.slice (some ⟨wr.heap.size, 0, none⟩) 1 1) [x] :=
        Rd.mk' (NB := fun b => b = wr.heap.size) (k := 32) (by rw [idCells_one]; exact (Bk.new wr 26 (x.l.map bv)).range) rfl (Nat.le_refl _) (by decide) (by rw [idCells_one, List.length_map, x.h])
      have hNa : ∀ b, (fun b => b = wr.heap.size) b → b < (wr.alloc (.cells (x.l.map bv).toArray 26)).heap.size ∧ b ≠ ra ∧ tva.ownBlock ≠ some b := fun b hb => by
        have hb' : b = wr.heap.size := hb
        rw [World.size_alloc]
        exact ⟨by omega, by omega, fun h => by have := hRalt _ h; omega⟩
      have hRax := Rng.gr hRaw (World.grownBy_alloc wr (.cells (x.l.map bv).toArray 26) none)
      have hBa : w4.heap.size ≤ (wr.alloc (.cells (x.l.map bv).toArray 26)).heap.size := by rw [World.size_alloc]; omega
      have hszx := hsz1 x
      have hszy := hsz1 y
      go_wp2_with (first
        | ((with_reducible refine wpList_load_bk (t := 26) (x := .tmp 4) w.heap.size _ (x.l.map bv) _ hxw (by kernel_rfl) Try.underlying26 rfl (idSize _) ?_))
        | ((with_reducible refine wpList_build_id (y := .tmp 67) x (by kernel_rfl) ?_))
        | (go_at_call 29; ((with_reducible refine (append_any _ _ tva _ q T [x] _ _ hRax hqT hva hNa hszx hBa).mono ?_); rintro e w7 ⟨rfl, tva7, hRa7, hC7, hO7⟩)
           have hC7' : Ch (fun k => k = ra ∨ tva.ownBlock = some k) wr w7 := (Ch.of (S := fun k => k = ra ∨ tva.ownBlock = some k) (World.grownBy_alloc wr (.cells (x.l.map bv).toArray 26) none) (fun _ h => by cases h)).trans hC7 (fun r h => .inl h)
           have s7r := hC7'.size
           have hyw7 := hC7'.bk hyw (by rintro (h | h)
                                        · omega
                                        · have := hRalt _ h; omega)
           have hxw7 := hC7'.bk hxw (by rintro (h | h)
                                        · omega
                                        · have := hRalt _ h; omega)
           have hRw7 := Rng.ch hRw hC7' (by rintro (h | h)
                                            · omega
                                            · have := hRalt _ h; omega) (by rintro k h (h' | h')
                                                                            · have := hRlt _ h; omega
                                                                            · have := hRlt _ h; have := hRalt _ h'; omega)
           have hRb7 := Rng.ch hRbw hC7' (by rintro (h | h)
                                             · omega
                                             · have := hRa5 _ h; omega) (by rintro k h (h' | h')
                                                                            · have := hRblt _ h; omega
                                                                            · have := hRblt _ h; have := hRa5 _ h'; omega)
           have gW7 : w.grownBy w7 none := ((Ch.of (S := fun _ => False) gWr (fun _ h => by cases h)).trans hC7' (fun r h => .inr (by
             rcases h with h | h
             · omega
             · have := hRalt _ h; omega))).toGb (fun _ h => h.elim)
           have hRa7lt : ∀ k, tva7.ownBlock = some k → (w4.heap.size ≤ k ∧ k < w5.heap.size) ∨ wr.heap.size ≤ k := fun k h => by
             rcases hO7 with h' | ⟨k', h', hk'⟩
             · rw [h] at h'; exact .inl ⟨(hRalt _ h'.symm).1, hRa5 _ h'.symm⟩
             · rw [h] at h'; injection h' with h'; rw [World.size_alloc] at hk'; exact .inr (by omega)
           have hvb : RdI (fun b => b = w7.heap.size) (w7.alloc (.cells (y.l.map bv).toArray 26)) (.slice (some ⟨w7.heap.size, 0, none⟩) 1 1) [y] :=
             Rd.mk' (NB := fun b => b = w7.heap.size) (k := 32) (by rw [idCells_one]; exact (Bk.new w7 26 (y.l.map bv)).range) rfl (Nat.le_refl _) (by decide) (by rw [idCells_one, List.length_map, y.h])
           have hNb : ∀ b, (fun b => b = w7.heap.size) b → b < (w7.alloc (.cells (y.l.map bv).toArray 26)).heap.size ∧ b ≠ rb ∧ tvb.ownBlock ≠ some b := fun b hb => by
             have hb' : b = w7.heap.size := hb
             rw [World.size_alloc]
             exact ⟨by omega, by omega, fun h => by have := hRblt _ h; omega⟩
           have hRby := Rng.gr hRb7 (World.grownBy_alloc w7 (.cells (y.l.map bv).toArray 26) none)
           have hBb : w5.heap.size ≤ (w7.alloc (.cells (y.l.map bv).toArray 26)).heap.size := by rw [World.size_alloc]; omega
           clear hC7 hO7)
        | ((with_reducible refine wpList_load_bk (t := 26) (x := .tmp 5) (w.heap.size + 1) _ (y.l.map bv) _ hyw7 (by kernel_rfl) Try.underlying26 rfl (idSize _) ?_))
        | ((with_reducible refine wpList_build_id (y := .tmp 71) y (by kernel_rfl) ?_))
        | (go_at_call 29; ((with_reducible refine (append_any _ _ tvb _ q T [y] _ _ hRby hqT hvb hNb hszy hBb).mono ?_); rintro e w8 ⟨rfl, tvb8, hRb8, hC8, hO8⟩)))
      have hC8' : Ch (fun k => k = rb ∨ tvb.ownBlock = some k) w7 w8 := (Ch.of (S := fun k => k = rb ∨ tvb.ownBlock = some k) (World.grownBy_alloc w7 (.cells (y.l.map bv).toArray 26) none) (fun _ h => by cases h)).trans hC8 (fun r h => .inl h)
      have s78 := hC8'.size
      have hRb5 : ∀ k, tvb.ownBlock = some k → w5.heap.size ≤ k ∧ k < w6.heap.size := hRblt
      have fx := hC8'.bk hxw7 (by rintro (h | h)
                                  · omega
                                  · have := hRb5 _ h; omega)
      have fy := hC8'.bk hyw7 (by rintro (h | h)
                                  · omega
                                  · have := hRb5 _ h; omega)
      have fRr := Rng.ch hRw7 hC8' (by rintro (h | h)
                                       · omega
                                       · have := hRb5 _ h; omega) (by rintro k h (h' | h')
                                                                      · have := hRlt _ h; omega
                                                                      · have := hRlt _ h; have := hRb5 _ h'; omega)
      have fRa := Rng.ch hRa7 hC8' (by rintro (h | h)
                                       · omega
                                       · have := hRb5 _ h; omega) (by rintro k h (h' | h')
                                                                      · have := hRa7lt _ h; omega
                                                                      · have := hRa7lt _ h; have := hRb5 _ h'; omega)
      have fRb := hRb8
      have gW8 : w.grownBy w8 none := ((Ch.of (S := fun _ => False) gW7 (fun _ h => by cases h)).trans hC8' (fun r h => .inr (by
        rcases h with h | h
        · omega
        · have := hRb5 _ h; omega))).toGb (fun _ h => h.elim)
      obtain ⟨B, hBe⟩ : ∃ B, B = w8.heap.size := ⟨_, rfl⟩
      have hpx := pushes_tops l [x]
      have hpy := pushes_tops l [y]
      have hlq : l.length = q := HL.out
      rw [hlq, ← HT.out] at hpx hpy
      have hlx : (l ++ [x]).length = q + [x].length := by rw [List.length_append, hlq]
      have hly : (l ++ [y]).length = q + [y].length := by rw [List.length_append, hlq]
      rw [hpx, ← hlx] at fRa
      rw [hpy, ← hly] at fRb
      rw [HT.out, ← hlq] at fRr
      have hlx40 : (l ++ [x]).length ≤ 1099511627776 := by rw [hlx]; simp; omega
      have hly40 : (l ++ [y]).length ≤ 1099511627776 := by rw [hly]; simp; omega
      have hfx1 := fx.lt
      have hfy1 := fy.lt
      have hfRr1 := fRr.1.lt
      have hfRa1 := fRa.1.lt
      have hfRb1 := fRb.1.lt
      have hfRr2 : ∀ k, tv.ownBlock = some k → k < w8.heap.size := fun k h => (fRr.2.1.lt h).2
      have hfRa2 : ∀ k, tva7.ownBlock = some k → k < w8.heap.size := fun k h => (fRa.2.1.lt h).2
      have hfRb2 : ∀ k, tvb8.ownBlock = some k → k < w8.heap.size := fun k h => (fRb.2.1.lt h).2
      have fl : RdI (fun b => b < B) w8 (.slice A q c) l := by
        rw [hBe]; exact RI.gr HV.out gW8
      obtain ⟨r0, hr0⟩ : ∃ r0, r0 = w2.heap.size := ⟨_, rfl⟩
      obtain ⟨px, hpxe⟩ : ∃ px, px = w.heap.size := ⟨_, rfl⟩
      obtain ⟨py, hpye⟩ : ∃ py, py = w.heap.size + 1 := ⟨_, rfl⟩
      rw [← hBe] at hfx1 hfy1 hfRr1 hfRa1 hfRb1 hfRr2 hfRa2 hfRb2
      rw [← hpxe] at fx hfx1
      rw [← hpye] at fy hfy1
      rw [← hr0] at fRr hfRr1
      rw [← hr0, ← hpye, ← hpxe]
      clear hC8' hC8 hO8 hRb8 hRa7 hRw7 hRb7 hxw7 hyw7 gW7 hRby hvb hNb hBb hC hxw hyw hRw hRaw hRbw hRax hva hNa hBa gWr hszx hszy hoa hob hR hRa hRb hIa HO HB HC bx1 by1 hpx hpy hlx hly hpxe hpye hr0
      have HBE := Go.Lib.hid hBe
      clear hBe
      refine wp_region_specsT (Ra := taRa B) (R := taR B q) (taRa_trans B) (taR_Ra B q) 29 [74, 75, 76, 77, 78, 79, 80, 81, 82, 83, 84, 85, 86, 87, 88, 89, 90, 91, 92, 93, 94, 95, 96, 97, 98, 99, 100, 101, 102] (by kernel_rfl) (fun _ => ta_drawn _ _) (by kernel_rfl) taDead (by kernel_rfl) (taφ B q c A l x y ra rb r0) (fun j i v w w' h1 h2 h3 _ h5 h6 => ta_st B q c A l x y ra rb r0 j i v w w' h1 (fun e1 e2 => by subst e1 e2; exact h3 8 (by decide) rfl (.more (m := 10) (by kernel_rfl) (.more (m := 9) (by kernel_rfl) (.one (by kernel_rfl))))) (fun e1 e2 => by subst e1 e2; exact h2 (.more (m := 10) (by kernel_rfl) (.more (m := 9) (by kernel_rfl) (.more (m := 8) (by kernel_rfl) (.one (by kernel_rfl)))))) h5 h6) ?step ?fin
      case step =>
        intro i_ o_ ho hi_ u w' hg hd
        rcases (by omega : i_ = 0 ∨ i_ = 1 ∨ i_ = 2 ∨ i_ = 3 ∨ i_ = 4 ∨ i_ = 5 ∨ i_ = 6 ∨ i_ = 7 ∨ i_ = 8 ∨ i_ = 9 ∨ i_ = 10 ∨ i_ = 11 ∨ i_ = 12 ∨ i_ = 13 ∨ i_ = 14 ∨ i_ = 15 ∨ i_ = 16 ∨ i_ = 17 ∨ i_ = 18 ∨ i_ = 19 ∨ i_ = 20 ∨ i_ = 21 ∨ i_ = 22 ∨ i_ = 23 ∨ i_ = 24 ∨ i_ = 25 ∨ i_ = 26 ∨ i_ = 27 ∨ i_ = 28) with rfl | rfl | rfl | rfl | rfl | rfl | rfl | rfl | rfl | rfl | rfl | rfl | rfl | rfl | rfl | rfl | rfl | rfl | rfl | rfl | rfl | rfl | rfl | rfl | rfl | rfl | rfl | rfl | rfl <;> obtain rfl := Option.some.inj ho <;>
          simp (decide := true) only [fillAct, List.mapIdx_cons, List.mapIdx_nil, Nat.reduceAdd, if_true, if_false, List.getD_cons_zero, List.getD_cons_succ]
        · clear hd ho
          go_wp2_with fail
          exact ⟨rfl, gb_refl _ _, rfl⟩
        · have h0 : u 74 = .pointer (some ⟨ra, 0, none⟩) := hd 0 (by kernel_rfl)
          clear hd ho
          rw [h0]
          have hBW := hg (Nat.le_of_eq HBE.out)
          have hBs : B ≤ w'.heap.size := Nat.le_trans (Nat.le_of_eq HBE.out) hBW.size
          have hRx := rng_below fRa hBW hfRa1 hfRa2
          go_wp2_with (go_at_call 30; ((with_reducible refine (rootM_any _ ra tva7 (l ++ [x]) _ hRx hlx40).mono ?_); rintro e w3 ⟨rfl, g3⟩))
          exact ⟨rfl, g3, rfl⟩
        · clear hd ho
          have hBW := hg (Nat.le_of_eq HBE.out)
          have hBs : B ≤ w'.heap.size := Nat.le_trans (Nat.le_of_eq HBE.out) hBW.size
          go_wp2_with fail
          exact ⟨rfl, gb_alloc (gb_refl _ _) _, ⟨w'.heap.size, rfl, Ow.new w' 26 B 32 0 [] rfl (by decide) hBs⟩⟩
        · clear hd ho
          go_wp2_with fail
          exact ⟨rfl, gb_refl _ _, rfl⟩
        · have h2 : ∃ b, (u 76) = .slice (some ⟨b, 0, none⟩) 0 0 ∧ Ow B w' 32 (.slice (some ⟨b, 0, none⟩) 0 0) 0 [] := hd 2 (by kernel_rfl)
          have h3 : u 77 = .slice A q c := hd 3 (by kernel_rfl)
          clear hd ho
          rw [h3]
          have hBW := hg (Nat.le_of_eq HBE.out)
          have hBs : B ≤ w'.heap.size := Nat.le_trans (Nat.le_of_eq HBE.out) hBW.size
          have hl' : RdI (fun b => b < B) w' (.slice A q c) l := fl.keep fun b o z hb hc => (hBW.cell (p := ⟨b, o, none⟩) hb).trans hc
          unfold RdI at hl'
          rw [hlq] at hl'
          obtain ⟨b2, e2, ho2⟩ := h2
          have hsrc : Src Try.prog 32 46 (.slice A q c) q (idCells l) w' := src_rd (P := Try.prog) (k := 32) (tx := 46) Try.underlying46 hl' (idCells_oneCell _)
          rw [e2]
          clear e2 hl'
          have h63 : 0 + q ≤ maxLen := Nat.le_trans (show 0 + q ≤ 60 by omega) (by decide)
          have hby : (0 + q) * 32 ≤ 140737488355328 := by omega
          by_cases hq0 : q = 0
          · have hln : l = [] := List.eq_nil_of_length_eq_zero (by omega)
            subst hq0 hln
            go_wp2_with ((with_reducible refine wpList_append_no_ow (s := .tmp 76) (x' := .tmp 77) b2 0 (by kernel_rfl) (by kernel_rfl) Try.underlying46 okId ho2 hsrc ?_))
            exact ⟨rfl, gb_refl _ _, b2, 0, rfl, ho2, fun _ => rfl⟩
          have h1L : 0 < 0 + q := by omega
          go_wp2_with ((with_reducible refine wpList_append_grow_ow (s := .tmp 76) (x' := .tmp 77) (A := some ⟨b2, 0, none⟩) (by kernel_rfl) (by kernel_rfl) Try.underlying46 okId ho2 hsrc hBs h63 hby h1L ?_); intro c4 w4 ho4 hg4)
          simp only [Nat.zero_add, List.nil_append] at ho4
          refine ⟨rfl, hg4, w'.heap.size, c4, ?_, ho4, fun h => absurd h hq0⟩
          show Value.slice _ (0 + q) _ = _
          rw [Nat.zero_add]
        · clear hd ho
          have hBW := hg (Nat.le_of_eq HBE.out)
          have hBs : B ≤ w'.heap.size := Nat.le_trans (Nat.le_of_eq HBE.out) hBW.size
          have hbx := fx.below hBW hfx1
          go_wp2_with ((with_reducible refine wpList_load_bk (t := 26) px _ (x.l.map bv) _ hbx (by kernel_rfl) Try.underlying26 rfl (idSize _) ?_))
          exact ⟨rfl, gb_refl _ _, rfl⟩
        · have h5 : u 79 = idv x := hd 5 (by kernel_rfl)
          clear hd ho
          rw [h5]
          have hBW := hg (Nat.le_of_eq HBE.out)
          have hBs : B ≤ w'.heap.size := Nat.le_trans (Nat.le_of_eq HBE.out) hBW.size
          go_wp2_with ((with_reducible refine wpList_build_id x (by kernel_rfl) ?_))
          exact ⟨rfl, gb_alloc (gb_refl _ _) _, ⟨w'.heap.size, rfl, hBs, (Bk.new w' 26 (x.l.map bv)).range⟩⟩
        · have h4 : ∃ b c', (u 78) = .slice (some ⟨b, 0, none⟩) q c' ∧ Ow B w' 32 (.slice (some ⟨b, 0, none⟩) q c') q (idCells l) ∧ (q = 0 → c' = 0) := hd 4 (by kernel_rfl)
          have h6 : ∃ b, (u 80) = .slice (some ⟨b, 0, none⟩) 1 1 ∧ B ≤ b ∧ w'.rangeAt b 0 (x.l.map bv) := hd 6 (by kernel_rfl)
          clear hd ho
          have hBW := hg (Nat.le_of_eq HBE.out)
          have hBs : B ≤ w'.heap.size := Nat.le_trans (Nat.le_of_eq HBE.out) hBW.size
          obtain ⟨b4, c4, e4, ho4, hc4⟩ := h4
          obtain ⟨b6, e6, hB6, hr6⟩ := h6
          have hsrc : Src Try.prog 32 46 (.slice (some ⟨b6, 0, none⟩) 1 1) 1 (x.l.map bv) w' := src_rd (P := Try.prog) (k := 32) (tx := 46) Try.underlying46 (Rd.mk' (NB := fun _ => True) (k := 32) hr6 trivial (Nat.le_refl _) (by decide) (by rw [List.length_map, x.h])) (bytes_one _)
          rw [e4, e6]
          clear e4 e6
          have h63 : q + 1 ≤ maxLen := Nat.le_trans (show q + 1 ≤ 61 by omega) (by decide)
          have hby : (q + 1) * 32 ≤ 140737488355328 := by omega
          have hcs : idCells l ++ x.l.map bv = idCells (l ++ [x]) := by rw [idCells_append, idCells_one]
          have hll1 : (l ++ [x]).length = q + 1 := by rw [List.length_append, hlq]; rfl
          by_cases hroom : q + 1 ≤ c4
          · go_wp2_with ((with_reducible refine wpList_append_room_ow (s := .tmp 78) (x' := .tmp 80) b4 0 (by kernel_rfl) (by kernel_rfl) Try.underlying46 okId ho4 hsrc hroom ?_); intro ho5)
            have hq1 : 1 ≤ q := by
              rcases Nat.eq_zero_or_pos q with h | h
              · have := hc4 h; omega
              · exact h
            refine ⟨rfl, RI1.room ho4 hq1 _, ?_⟩
            rw [hcs] at ho5
            have := ho5.rd (NB := fun b => b < (w'.setCells b4 (0 + q * 32) (x.l.map bv)).heap.size) (fun b hb => (ho5.lt hb).2)
            unfold taφ RdI
            rw [hll1]; exact this
          have hc65 : c4 < q + 1 := by omega
          go_wp2_with ((with_reducible refine wpList_append_grow_ow (s := .tmp 78) (x' := .tmp 80) (A := some ⟨b4, 0, none⟩) (by kernel_rfl) (by kernel_rfl) Try.underlying46 okId ho4 hsrc hBs h63 hby hc65 ?_); intro c5 w4 ho5 hg4)
          refine ⟨rfl, .inl hg4, ?_⟩
          rw [hcs] at ho5
          have := ho5.rd (NB := fun b => b < w4.heap.size) (fun b hb => (ho5.lt hb).2)
          unfold taφ RdI
          rw [hll1]; exact this
        · have h7 : RdI (fun b => b < w'.heap.size) w' (u 81) (l ++ [x]) := hd 7 (by kernel_rfl)
          clear hd ho
          have hNl := lt_self w'
          go_wp2_with (go_at_call 31; ((with_reducible refine (refRoot_any _ (l ++ [x]) _ _ h7 hNl hlx40).mono ?_); rintro e w3 ⟨rfl, g3⟩))
          exact ⟨rfl, g3, rfl⟩
        · have h1 : u 75 = idv (root nd e0 (l ++ [x])) := hd 1 (by kernel_rfl)
          have h8 : u 82 = idv (root nd e0 (l ++ [x])) := hd 8 (by kernel_rfl)
          clear hd ho
          rw [h1, h8]
          go_wp2_with ((with_reducible refine wpList_eql_id idEq (root nd e0 (l ++ [x])) (root nd e0 (l ++ [x])) (by kernel_rfl) (by kernel_rfl) ?_))
          refine ⟨rfl, gb_refl _ _, ?_⟩
          show Value.bool _ = .bool true
          rw [beq_self_eq_true]
        · have h9 : u 83 = .bool true := hd 9 (by kernel_rfl)
          clear hd ho
          rw [h9]
          go_wp2_with fail
          exact ⟨rfl, gb_refl _ _, rfl⟩
        · have h10 : u 84 = .bool true := hd 10 (by kernel_rfl)
          clear hd ho
          rw [h10]
          refine wpList_guard (by rfl) ?_
          go_wp2_with fail
          exact ⟨rfl, gb_refl _ _, rfl⟩
        · have h10 : u 84 = .bool true := hd 10 (by kernel_rfl)
          have h11 : u 85 = .pointer (some ⟨rb, 0, none⟩) := hd 11 (by kernel_rfl)
          clear hd ho
          rw [h10, h11]
          refine wpList_guard (by rfl) ?_
          have hBW := hg (Nat.le_of_eq HBE.out)
          have hBs : B ≤ w'.heap.size := Nat.le_trans (Nat.le_of_eq HBE.out) hBW.size
          have hRx := rng_below fRb hBW hfRb1 hfRb2
          go_wp2_with (go_at_call 30; ((with_reducible refine (rootM_any _ rb tvb8 (l ++ [y]) _ hRx hly40).mono ?_); rintro e w3 ⟨rfl, g3⟩))
          exact ⟨rfl, g3, rfl⟩
        · have h10 : u 84 = .bool true := hd 10 (by kernel_rfl)
          clear hd ho
          rw [h10]
          refine wpList_guard (by rfl) ?_
          have hBW := hg (Nat.le_of_eq HBE.out)
          have hBs : B ≤ w'.heap.size := Nat.le_trans (Nat.le_of_eq HBE.out) hBW.size
          go_wp2_with fail
          exact ⟨rfl, gb_alloc (gb_refl _ _) _, ⟨w'.heap.size, rfl, Ow.new w' 26 B 32 0 [] rfl (by decide) hBs⟩⟩
        · have h10 : u 84 = .bool true := hd 10 (by kernel_rfl)
          clear hd ho
          rw [h10]
          refine wpList_guard (by rfl) ?_
          go_wp2_with fail
          exact ⟨rfl, gb_refl _ _, rfl⟩
        · have h10 : u 84 = .bool true := hd 10 (by kernel_rfl)
          have h13 : ∃ b, (u 87) = .slice (some ⟨b, 0, none⟩) 0 0 ∧ Ow B w' 32 (.slice (some ⟨b, 0, none⟩) 0 0) 0 [] := hd 13 (by kernel_rfl)
          have h14 : u 88 = .slice A q c := hd 14 (by kernel_rfl)
          clear hd ho
          rw [h10, h14]
          refine wpList_guard (by rfl) ?_
          have hBW := hg (Nat.le_of_eq HBE.out)
          have hBs : B ≤ w'.heap.size := Nat.le_trans (Nat.le_of_eq HBE.out) hBW.size
          have hl' : RdI (fun b => b < B) w' (.slice A q c) l := fl.keep fun b o z hb hc => (hBW.cell (p := ⟨b, o, none⟩) hb).trans hc
          unfold RdI at hl'
          rw [hlq] at hl'
          obtain ⟨b2, e2, ho2⟩ := h13
          have hsrc : Src Try.prog 32 46 (.slice A q c) q (idCells l) w' := src_rd (P := Try.prog) (k := 32) (tx := 46) Try.underlying46 hl' (idCells_oneCell _)
          rw [e2]
          clear e2 hl'
          have h63 : 0 + q ≤ maxLen := Nat.le_trans (show 0 + q ≤ 60 by omega) (by decide)
          have hby : (0 + q) * 32 ≤ 140737488355328 := by omega
          by_cases hq0 : q = 0
          · have hln : l = [] := List.eq_nil_of_length_eq_zero (by omega)
            subst hq0 hln
            go_wp2_with ((with_reducible refine wpList_append_no_ow (s := .tmp 87) (x' := .tmp 88) b2 0 (by kernel_rfl) (by kernel_rfl) Try.underlying46 okId ho2 hsrc ?_))
            exact ⟨rfl, gb_refl _ _, b2, 0, rfl, ho2, fun _ => rfl⟩
          have h1L : 0 < 0 + q := by omega
          go_wp2_with ((with_reducible refine wpList_append_grow_ow (s := .tmp 87) (x' := .tmp 88) (A := some ⟨b2, 0, none⟩) (by kernel_rfl) (by kernel_rfl) Try.underlying46 okId ho2 hsrc hBs h63 hby h1L ?_); intro c4 w4 ho4 hg4)
          simp only [Nat.zero_add, List.nil_append] at ho4
          refine ⟨rfl, hg4, w'.heap.size, c4, ?_, ho4, fun h => absurd h hq0⟩
          show Value.slice _ (0 + q) _ = _
          rw [Nat.zero_add]
        · have h10 : u 84 = .bool true := hd 10 (by kernel_rfl)
          clear hd ho
          rw [h10]
          refine wpList_guard (by rfl) ?_
          have hBW := hg (Nat.le_of_eq HBE.out)
          have hBs : B ≤ w'.heap.size := Nat.le_trans (Nat.le_of_eq HBE.out) hBW.size
          have hbx := fy.below hBW hfy1
          go_wp2_with ((with_reducible refine wpList_load_bk (t := 26) py _ (y.l.map bv) _ hbx (by kernel_rfl) Try.underlying26 rfl (idSize _) ?_))
          exact ⟨rfl, gb_refl _ _, rfl⟩
        · have h10 : u 84 = .bool true := hd 10 (by kernel_rfl)
          have h16 : u 90 = idv y := hd 16 (by kernel_rfl)
          clear hd ho
          rw [h10, h16]
          refine wpList_guard (by rfl) ?_
          have hBW := hg (Nat.le_of_eq HBE.out)
          have hBs : B ≤ w'.heap.size := Nat.le_trans (Nat.le_of_eq HBE.out) hBW.size
          go_wp2_with ((with_reducible refine wpList_build_id y (by kernel_rfl) ?_))
          exact ⟨rfl, gb_alloc (gb_refl _ _) _, ⟨w'.heap.size, rfl, hBs, (Bk.new w' 26 (y.l.map bv)).range⟩⟩
        · have h10 : u 84 = .bool true := hd 10 (by kernel_rfl)
          have h15 : ∃ b c', (u 89) = .slice (some ⟨b, 0, none⟩) q c' ∧ Ow B w' 32 (.slice (some ⟨b, 0, none⟩) q c') q (idCells l) ∧ (q = 0 → c' = 0) := hd 15 (by kernel_rfl)
          have h17 : ∃ b, (u 91) = .slice (some ⟨b, 0, none⟩) 1 1 ∧ B ≤ b ∧ w'.rangeAt b 0 (y.l.map bv) := hd 17 (by kernel_rfl)
          clear hd ho
          rw [h10]
          refine wpList_guard (by rfl) ?_
          have hBW := hg (Nat.le_of_eq HBE.out)
          have hBs : B ≤ w'.heap.size := Nat.le_trans (Nat.le_of_eq HBE.out) hBW.size
          obtain ⟨b4, c4, e4, ho4, hc4⟩ := h15
          obtain ⟨b6, e6, hB6, hr6⟩ := h17
          have hsrc : Src Try.prog 32 46 (.slice (some ⟨b6, 0, none⟩) 1 1) 1 (y.l.map bv) w' := src_rd (P := Try.prog) (k := 32) (tx := 46) Try.underlying46 (Rd.mk' (NB := fun _ => True) (k := 32) hr6 trivial (Nat.le_refl _) (by decide) (by rw [List.length_map, y.h])) (bytes_one _)
          rw [e4, e6]
          clear e4 e6
          have h63 : q + 1 ≤ maxLen := Nat.le_trans (show q + 1 ≤ 61 by omega) (by decide)
          have hby : (q + 1) * 32 ≤ 140737488355328 := by omega
          have hcs : idCells l ++ y.l.map bv = idCells (l ++ [y]) := by rw [idCells_append, idCells_one]
          have hll1 : (l ++ [y]).length = q + 1 := by rw [List.length_append, hlq]; rfl
          by_cases hroom : q + 1 ≤ c4
          · go_wp2_with ((with_reducible refine wpList_append_room_ow (s := .tmp 89) (x' := .tmp 91) b4 0 (by kernel_rfl) (by kernel_rfl) Try.underlying46 okId ho4 hsrc hroom ?_); intro ho5)
            have hq1 : 1 ≤ q := by
              rcases Nat.eq_zero_or_pos q with h | h
              · have := hc4 h; omega
              · exact h
            refine ⟨rfl, RI1.room ho4 hq1 _, ?_⟩
            rw [hcs] at ho5
            have := ho5.rd (NB := fun b => b < (w'.setCells b4 (0 + q * 32) (y.l.map bv)).heap.size) (fun b hb => (ho5.lt hb).2)
            unfold taφ RdI
            rw [hll1]; exact this
          have hc65 : c4 < q + 1 := by omega
          go_wp2_with ((with_reducible refine wpList_append_grow_ow (s := .tmp 89) (x' := .tmp 91) (A := some ⟨b4, 0, none⟩) (by kernel_rfl) (by kernel_rfl) Try.underlying46 okId ho4 hsrc hBs h63 hby hc65 ?_); intro c5 w4 ho5 hg4)
          refine ⟨rfl, .inl hg4, ?_⟩
          rw [hcs] at ho5
          have := ho5.rd (NB := fun b => b < w4.heap.size) (fun b hb => (ho5.lt hb).2)
          unfold taφ RdI
          rw [hll1]; exact this
        · have h10 : u 84 = .bool true := hd 10 (by kernel_rfl)
          have h18 : RdI (fun b => b < w'.heap.size) w' (u 92) (l ++ [y]) := hd 18 (by kernel_rfl)
          clear hd ho
          rw [h10]
          refine wpList_guard (by rfl) ?_
          have hNl := lt_self w'
          go_wp2_with (go_at_call 31; ((with_reducible refine (refRoot_any _ (l ++ [y]) _ _ h18 hNl hly40).mono ?_); rintro e w3 ⟨rfl, g3⟩))
          exact ⟨rfl, g3, rfl⟩
        · have h10 : u 84 = .bool true := hd 10 (by kernel_rfl)
          have h12 : u 86 = idv (root nd e0 (l ++ [y])) := hd 12 (by kernel_rfl)
          have h19 : u 93 = idv (root nd e0 (l ++ [y])) := hd 19 (by kernel_rfl)
          clear hd ho
          rw [h10, h12, h19]
          refine wpList_guard (by rfl) ?_
          go_wp2_with ((with_reducible refine wpList_eql_id idEq (root nd e0 (l ++ [y])) (root nd e0 (l ++ [y])) (by kernel_rfl) (by kernel_rfl) ?_))
          refine ⟨rfl, gb_refl _ _, ?_⟩
          show Value.bool _ = .bool true
          rw [beq_self_eq_true]
        · have h10 : u 84 = .bool true := hd 10 (by kernel_rfl)
          have h20 : u 94 = .bool true := hd 20 (by kernel_rfl)
          clear hd ho
          rw [h10, h20]
          go_wp2_with fail
          exact ⟨rfl, gb_refl _ _, rfl⟩
        · have h21 : u 95 = .bool true := hd 21 (by kernel_rfl)
          clear hd ho
          rw [h21]
          go_wp2_with fail
          exact ⟨rfl, gb_refl _ _, rfl⟩
        · have h22 : u 96 = .bool true := hd 22 (by kernel_rfl)
          clear hd ho
          rw [h22]
          refine wpList_guard (by rfl) ?_
          go_wp2_with fail
          exact ⟨rfl, gb_refl _ _, rfl⟩
        · have h22 : u 96 = .bool true := hd 22 (by kernel_rfl)
          have h23 : u 97 = .pointer (some ⟨r0, 0, none⟩) := hd 23 (by kernel_rfl)
          clear hd ho
          rw [h22, h23]
          refine wpList_guard (by rfl) ?_
          have hBW := hg (Nat.le_of_eq HBE.out)
          have hBs : B ≤ w'.heap.size := Nat.le_trans (Nat.le_of_eq HBE.out) hBW.size
          have hRx := rng_below fRr hBW hfRr1 hfRr2
          go_wp2_with (go_at_call 30; ((with_reducible refine (rootM_any _ r0 tv l _ hRx hl40).mono ?_); rintro e w3 ⟨rfl, g3⟩))
          exact ⟨rfl, g3, rfl⟩
        · have h22 : u 96 = .bool true := hd 22 (by kernel_rfl)
          clear hd ho
          rw [h22]
          refine wpList_guard (by rfl) ?_
          go_wp2_with fail
          exact ⟨rfl, gb_refl _ _, rfl⟩
        · have h22 : u 96 = .bool true := hd 22 (by kernel_rfl)
          have h25 : u 99 = .slice A q c := hd 25 (by kernel_rfl)
          clear hd ho
          rw [h22, h25]
          refine wpList_guard (by rfl) ?_
          have hBW := hg (Nat.le_of_eq HBE.out)
          have hBs : B ≤ w'.heap.size := Nat.le_trans (Nat.le_of_eq HBE.out) hBW.size
          have hl' : RdI (fun b => b < B) w' (.slice A q c) l := fl.keep fun b o z hb hc => (hBW.cell (p := ⟨b, o, none⟩) hb).trans hc
          have hNB' : ∀ b, (fun b => b < B) b → b < w'.heap.size := fun b h => Nat.lt_of_lt_of_le h hBs
          go_wp2_with (go_at_call 31; ((with_reducible refine (refRoot_any _ l _ _ hl' hNB' hl40).mono ?_); rintro e w3 ⟨rfl, g3⟩))
          exact ⟨rfl, g3, rfl⟩
        · have h22 : u 96 = .bool true := hd 22 (by kernel_rfl)
          have h24 : u 98 = idv (root nd e0 l) := hd 24 (by kernel_rfl)
          have h26 : u 100 = idv (root nd e0 l) := hd 26 (by kernel_rfl)
          clear hd ho
          rw [h22, h24, h26]
          refine wpList_guard (by rfl) ?_
          go_wp2_with ((with_reducible refine wpList_eql_id idEq (root nd e0 l) (root nd e0 l) (by kernel_rfl) (by kernel_rfl) ?_))
          refine ⟨rfl, gb_refl _ _, ?_⟩
          show Value.bool _ = .bool true
          rw [beq_self_eq_true]
        · have h22 : u 96 = .bool true := hd 22 (by kernel_rfl)
          have h27 : u 101 = .bool true := hd 27 (by kernel_rfl)
          clear hd ho
          rw [h22, h27]
          go_wp2_with fail
          exact ⟨rfl, gb_refl _ _, rfl⟩

      case fin =>
        intro u w' hg hφ
        have h9 : u 102 = .bool true := hφ 28 (by omega) (fun _ _ => rfl)
        have hBW := hg (Nat.le_of_eq HBE.out)
        rw [HBE.out] at hBW
        simp (decide := true) only [fillAct, List.mapIdx_cons, List.mapIdx_nil, Nat.reduceAdd, if_true, if_false, List.drop_succ_cons, List.drop_zero]
        rw [h9]
        clear hφ
        go_wp2_with fail
        go_ret
        exact ⟨rfl, gb_trans gW8 (gb_of_below hBW)⟩
end Go.Proofs.Ytgimgddlipbniaa
