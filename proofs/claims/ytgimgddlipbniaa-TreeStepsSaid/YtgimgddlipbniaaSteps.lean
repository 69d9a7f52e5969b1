import Derived.Test.YtgimgddlipbniaaSame
/- TreeSteps: the walk. -/
namespace Go.Proofs.Ytgimgddlipbniaa
open Go.RowKit Go.Shelf Sc

theorem take_at (l : List Sc.Id) (i : Nat) (x : Sc.Id) (h : l[i]? = some x) : l.take (i + 1) = l.take i ++ [x] := by rw [List.take_add_one, h]; rfl
theorem ones_half (m : Nat) : ones m = m % 2 + ones (m / 2) := ones_step m

set_option maxHeartbeats 4000000 in
theorem steps_walk (v : Value) (l0 : List Sc.Id) (NB : Nat → Prop) (w : World) (hv : RdI NB w v l0) (hNB : ∀ b, NB b → b < w.heap.size) :
    Calls Try.prog 11 #[v] w fun e w' => e = .returned (.bool true) ∧ w.grownBy w' none := by
  go_enter Try.func11, Try.ntmps11
  obtain ⟨A, c, rfl, hc⟩ := Rd.form hv
  have hm := Rd.le hv
  obtain ⟨q, hq⟩ : ∃ q, min l0.length 80 = q := ⟨_, rfl⟩
  have HV := Go.Lib.hid (RI.of (RdI.takeTo hv 80 q hq) hNB)
  have hq80 : q ≤ 80 := by omega
  have hlq : (l0.take 80).length = q := by rw [List.length_take, Nat.min_comm]; exact hq
  obtain ⟨l, hle⟩ : ∃ l, l = l0.take 80 := ⟨_, rfl⟩
  rw [← hle] at HV hlq
  clear hv hle
  have HL := Go.Lib.hid hlq
  clear hlq
  have hs0 : ([] : List Sc.Id).length ≤ 1099511627776 := by decide
  go_wp2_with (first
    | (go_at_call 26; ((with_reducible refine (grows_any _).mono ?_); rintro e w1 ⟨rfl, g1⟩))
    | (go_at_call 27; ((with_reducible refine (cut_lit A l0.length c 80 q 80 rfl _ hq hm hc).mono ?_); rintro e w1 ⟨rfl, rfl⟩))
    | (go_at_call 28; ((with_reducible refine (treeOf_any (.slice none 0 0) [] (fun _ => False) _ (rdi_nil _) (noN _) hs0).mono ?_); rintro e w2 ⟨rfl, g2, tv0, hR0⟩)))
  rw [tops_nil, List.length_nil] at hR0
  have hra : w.heap.size ≤ w1.heap.size := g1.size
  have gW := gb_trans g1 g2
  obtain ⟨ra, hrae⟩ : ∃ ra, ra = w1.heap.size := ⟨_, rfl⟩
  rw [← hrae] at hR0 hra ⊢
  have HR0 : Hid (Rng w2 ra ra tv0 0 (tops nd e0 (l.take 0))) := Go.Lib.hid (by rw [List.take_zero, tops_nil]; exact hR0)
  have HG0 := Go.Lib.hid gW
  have hlI : (0 : Int) ≤ (q : Int) ∧ (q : Int) ≤ 80 := by omega
  clear g1 g2 hrae hR0 gW hs0
  go_loopw [18] (fun iv wr => ∃ (i : Nat) (tv : Value), iv = .int .i64 (i : Int) ∧ i ≤ q ∧ Hid (Rng wr ra ra tv i (tops nd e0 (l.take i))) ∧ Hid (w.grownBy wr none)) (fun iv _ => q - (intOf iv).toNat)
  case atStart => exact ⟨0, tv0, rfl, Nat.zero_le _, HR0, HG0⟩
  case round =>
    clear HR0 HG0 w2
    obtain ⟨i, tv, rfl, hi, HR, HG⟩ := hrel
    obtain ⟨wo, rfl⟩ : ∃ wo : World, wo = wr := ⟨_, rfl⟩
    by_cases hlt : i < q
    · have hd : decide ((i : Int) < (q : Int)) = true := decide_eq_true (by omega)
      have hd' : decide (i < q) = true := decide_eq_true hlt
      have hiI : (0 : Int) ≤ (i : Int) ∧ (i : Int) < 80 := by omega
      have hrd : Rd (fun b => b < w.heap.size) wo 32 (.slice A q c) q (idCells l) := by
        have := Rd.grown HV.out HG.out (by simp)
        rw [HL.out] at this; exact this
      obtain ⟨b, o, c', he, hb, hnc, hcm, hcell⟩ := hrd.at (by omega)
      injection he with hA _ hcc
      subst hA hcc
      obtain ⟨x, hx⟩ : ∃ x, l[i]? = some x := ⟨_, List.getElem?_eq_getElem (by rw [HL.out]; exact hlt)⟩
      have hrx := range_id hcell hx
      have HT := Go.Lib.hid (take_at l i x hx)
      have hlen : (tops nd e0 (l.take i)).length = ones i := by rw [tops_len, List.length_take, HL.out, Nat.min_eq_left (by omega)]
      have htk : (l.take i).length = i := by rw [List.length_take, HL.out]; omega
      have hpt := pushes_tops (l.take i) [x]
      rw [htk, ← HT.out] at hpt
      have bx0 := Bk.new wo 26 idZ
      have HP := Go.Lib.hid hpt
      have HLN := Go.Lib.hid hlen
      clear hx hcell hpt hlen htk hrd
      go_wp2_with (first
        | ((with_reducible refine wpList_load_range (t := 26) b (o + i * 32) (x.l.map bv) _ hrx (by kernel_rfl) Try.underlying26 rfl (idSize _) ?_))
        | ((with_reducible refine wpList_alloc_row (E := 26) idZ infoId ?_))
        | ((with_reducible refine wpList_store_bk (t := 26) wo.heap.size 26 idZ (x.l.map bv) bx0 (by kernel_rfl) (by kernel_rfl) (idSize _) (idLen _) (idOne _) ?_); intro w5 h5 g5 z5)
        | ((with_reducible refine wpList_load_bk (t := 26) wo.heap.size _ (x.l.map bv) _ h5 (by kernel_rfl) Try.underlying26 rfl (idSize _) ?_))
        | ((with_reducible refine wpList_build_id x (by kernel_rfl) ?_)))
      have hlt1 := HR.out.1.lt
      have gW7 : w.grownBy (w5.alloc (.cells (x.l.map bv).toArray 26)) none := gb_alloc (gb_trans_new (gb_alloc HG.out _) g5 HG.out.size) _
      have z5' : w5.heap.size = wo.heap.size + 1 := by rw [z5, World.size_alloc]
      have hR7 : Rng (w5.alloc (.cells (x.l.map bv).toArray 26)) ra ra tv i (tops nd e0 (l.take i)) :=
        ⟨((HR.out.1.alloc _).grown g5 (by simp; omega)).alloc _, ((HR.out.2.1.alloc _).grown g5 (fun b hb => by have := HR.out.2.1.lt hb; simp; omega)).alloc _, HR.out.2.2⟩
      have hv7 : RdI (fun b => b = wo.heap.size + 1) (w5.alloc (.cells (x.l.map bv).toArray 26)) (.slice (some ⟨wo.heap.size + 1, 0, none⟩) 1 1) [x] := by
        have h := (Bk.new w5 26 (x.l.map bv)).range
        rw [z5'] at h
        unfold RdI
        rw [idCells_one]
        exact Rd.mk' h rfl (Nat.le_refl _) (by decide) (by simp [x.2])
      have hN7 : ∀ b, b = wo.heap.size + 1 → b < (w5.alloc (.cells (x.l.map bv).toArray 26)).heap.size ∧ b ≠ ra ∧ tv.ownBlock ≠ some b := fun b hb => by
        subst hb
        refine ⟨by rw [World.size_alloc]; omega, by omega, fun h => ?_⟩
        have := HR.out.2.1.lt h; omega
      have hs7 : i + [x].length ≤ 1099511627776 := by simp only [List.length_cons, List.length_nil]; omega
      have hB7 : ra ≤ (w5.alloc (.cells (x.l.map bv).toArray 26)).heap.size := by rw [World.size_alloc]; omega
      have hln := HLN.out
      obtain ⟨w7, hw7⟩ : ∃ w7, w7 = w5.alloc (.cells (x.l.map bv).toArray 26) := ⟨_, rfl⟩
      rw [← hw7] at gW7 hR7 hv7 hN7 hB7 ⊢
      clear hw7
      go_wp2_with (go_at_call 29; ((with_reducible refine (append_any ra ra tv _ i (tops nd e0 (l.take i)) [x] _ _ hR7 hln hv7 hN7 hs7 hB7).mono ?_); rintro e w8 ⟨rfl, tv', hR8', hC8, _⟩))
      have hR8 : Rng w8 ra ra tv' (i + 1) (tops nd e0 (l.take (i + 1))) := by rw [← HP.out]; exact hR8'
      have gW8 : w.grownBy w8 none := ((Ch.of (S := fun _ => False) gW7 (fun _ h => by cases h)).trans hC8 (fun r h => .inr (by
        rcases h with h | h
        · omega
        · have := hR7.2.1.lt h; omega))).toGb (fun _ h => h.elim)
      clear hR8' hC8 hR7 hv7 hN7 hs7 hB7 gW7 hln h5 g5 z5 z5' bx0
      have hlen8 : (tops nd e0 (l.take (i + 1))).length = ones (i + 1) := by rw [tops_len, List.length_take, HL.out, Nat.min_eq_left (by omega)]
      have hon : ones (i + 1) ≤ 7 := ones_le_log 7 (i + 1) (by omega)
      have HL8 := Go.Lib.hid hlen8
      have HR8 := Go.Lib.hid hR8
      have HG8 := Go.Lib.hid gW8
      clear hlen8 hR8 gW8
      go_loop [6, 7] (fun sv nv => ∃ (s m : Nat), sv = .int .i64 (s : Int) ∧ nv = .int .i64 (m : Int) ∧ Hid (s + ones m = ones (i + 1)) ∧ m ≤ 81) (fun _ nv => (intOf nv).toNat)
      case atStart => exact ⟨0, i + 1, rfl, by go_num, Go.Lib.hid (by omega), by omega⟩
      case round =>
        obtain ⟨s, m, rfl, rfl, HS, hm81⟩ := hrel
        have hs7 : s ≤ 7 := by have := HS.out; omega
        by_cases hm0 : 0 < m
        · have hd3 : decide ((m : Int) > 0) = true := decide_eq_true (by omega)
          go_wp2_with fail
          exact ⟨⟨s + m % 2, m / 2, by push_cast; rfl, by push_cast; rfl, Go.Lib.hid (by have := HS.out; rw [ones_half m] at this; omega), by omega⟩, by simp only [intOf]; omega⟩
        · obtain rfl : m = 0 := by omega
          have hse : s = ones (i + 1) := by have := HS.out; rw [ones_zero] at this; omega
          subst hse
          have hts : (tops nd e0 (l.take (i + 1))).length ≤ 1000000 := by have := HL8.out; omega
          have hR8 := HR8.out
          have hne : decide ((ones (i + 1) : Int) = (ones (i + 1) : Int)) = true := decide_eq_true rfl
          clear hd hd'
          go_wp2_with (first
            | (go_at_call 34; ((with_reducible refine (tops_any _ ra tv' _ _ _ hR8 hts).mono ?_); rintro e w9 ⟨v9, rfl, ho9, g9⟩; obtain ⟨A9, c9, rfl⟩ := ho9.form; rw [HL8.out]; replace hR8 := Rng.gr hR8 g9))
            | (go_at_call 32; ((with_reducible refine (size_any _ _ tv' _ _ _ hR8).mono ?_); rintro e w3 ⟨rfl, rfl⟩)))
          exact ⟨⟨i + 1, tv', by push_cast; rfl, by omega, Go.Lib.hid hR8, Go.Lib.hid (gb_trans HG8.out g9)⟩, by simp only [intOf]; omega⟩
    · obtain rfl : i = q := by omega
      have hd : decide ((i : Int) < (i : Int)) = false := decide_eq_false (by omega)
      have hd' : decide (i < i) = false := decide_eq_false (by omega)
      have htk : l.take i = l := List.take_of_length_le (by rw [HL.out]; exact Nat.le_refl _)
      have hRa : Rng wo ra ra tv l.length (tops nd e0 l) := by have := HR.out; rw [htk] at this; rw [HL.out]; exact this
      have hl : RdI (fun b => b < wo.heap.size) wo (.slice A i c) l := RI.gr HV.out HG.out
      have hNw : ∀ b, (fun b => b < wo.heap.size) b → b < wo.heap.size := fun _ h => h
      have hl40 : l.length ≤ 1099511627776 := by rw [HL.out]; omega
      have hon : ones l.length ≤ 7 := ones_le_log 7 _ (by rw [HL.out]; omega)
      have hts : (tops nd e0 l).length ≤ 1000000 := by rw [tops_len]; omega
      have hgW := HG.out
      have hll : (((root nd e0 l).l == (root nd e0 l).l)) = true := beq_self_eq_true _
      have q1 : ∀ w, (eqGuard .eql 26 (.tmp 57) (.tmp 59) (idv (root nd e0 l)) (idv (root nd e0 l))).run Try.prog w = .ok () w := fun _ => run_eqGuard_id idEq _ _
      have q2 : ∀ w, (binOp .eql 26 (idv (root nd e0 l)) (idv (root nd e0 l))).run Try.prog w = .ok (.bool true) w := fun _ => by rw [run_eql_id idEq, hll]
      clear hd' htk
      go_wp2_with (first
        | (go_at_call 28; ((with_reducible refine (treeOf_any _ l _ _ hl hNw hl40).mono ?_); rintro e w2 ⟨rfl, g2, tv2, hRb⟩; replace hRa := Rng.gr hRa g2; replace hgW := gb_trans hgW g2))
        | (go_at_call 30; ((with_reducible refine (rootM_any _ _ tv l _ hRa hl40).mono ?_); rintro e w3 ⟨rfl, g3⟩; replace hRa := Rng.gr hRa g3; replace hRb := Rng.gr hRb g3; replace hgW := gb_trans hgW g3))
        | (go_at_call 30; ((with_reducible refine (rootM_any _ _ tv2 l _ hRb hl40).mono ?_); rintro e w3 ⟨rfl, g3⟩; replace hRa := Rng.gr hRa g3; replace hRb := Rng.gr hRb g3; replace hgW := gb_trans hgW g3)))
      clear q1 q2 hl hNw
      go_wp2_with (go_at_call 34; ((with_reducible refine (tops_any _ ra tv _ _ _ hRa hts).mono ?_); rintro e w4 ⟨va, rfl, hoa, g4⟩; replace hRb := Rng.gr hRb g4; replace hgW := gb_trans hgW g4))
      have hIa : RI w4 va (tops nd e0 l) := Ow.rd hoa (fun b hb => (hoa.lt hb).2)
      obtain ⟨Aa, ca, rfl⟩ := hoa.form
      clear hoa hRa
      go_wp2_with (go_at_call 34; ((with_reducible refine (tops_any _ _ tv2 _ _ _ hRb hts).mono ?_); rintro e w5 ⟨vb, rfl, hob, g5⟩; replace hgW := gb_trans hgW g5))
      have hIb : RI w5 vb (tops nd e0 l) := Ow.rd hob (fun b hb => (hob.lt hb).2)
      replace hIa := RI.gr hIa g5
      obtain ⟨Ab, cb, rfl⟩ := hob.form
      clear hob hRb
      go_wp2_with (go_at_call 33; ((with_reducible refine (same_any _ _ _ _ _ hIa hIb hts hts).mono ?_); rintro e w6 ⟨rfl, g6⟩; rw [sameB_refl]; replace hgW := gb_trans hgW g6))
      go_ret
      exact ⟨rfl, hgW⟩
end Go.Proofs.Ytgimgddlipbniaa
