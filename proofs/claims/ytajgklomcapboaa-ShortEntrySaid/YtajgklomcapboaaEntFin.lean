/- ShortEntry returns true for every input, and its arguments read as they did. Conditions: none. -/
import Derived.Test.YtajgklomcapboaaEntA
import Derived.Test.YtajgklomcapboaaOpen
/- short: Way out of range; scrivenerref07: Way. -/
namespace Go.Proofs.Ytajgklomcapboaa
open Go.RowKit Go.Shelf Sc
set_option maxHeartbeats 2000000 in
set_option maxRecDepth 100000 in
theorem sway_out (c : Int) (v : Value) (L : List (List UInt8)) (a : Int) (w : World) (hv : RLL w v L) (_hn0 : L.length ≤ 1000000) (ha : a < 0 ∨ (L.length : Int) ≤ a) :
    Calls Try.prog 27 #[.int .i64 c, v, .int .i64 a] w fun e w' => e = .returned (.tuple #[.slice none 0 0, .int .i64 1]) ∧ w.grownBy w' none := by
  go_enter Try.func27, Try.ntmps27
  obtain ⟨A, c9, rfl, hc⟩ := (show ∃ A c9, v = .slice A L.length c9 ∧ L.length ≤ c9 from by obtain ⟨vs, h1, _⟩ := hv; exact Rd.form h1)
  obtain ⟨n0, hn⟩ : ∃ n0, n0 = L.length := ⟨_, rfl⟩
  rw [← hn] at ha hc ⊢
  clear hv hn
  rcases (by omega : a < 0 ∨ (0 ≤ a ∧ (n0 : Int) ≤ a)) with h | ⟨h1, h⟩
  all_goals
    first
      | (have d1 : decide (a < 0) = true := decide_eq_true h)
      | (have d1 : decide (a < 0) = false := decide_eq_false (by omega)
         have d2 : decide ((n0 : Int) ≤ a) = true := decide_eq_true h
         have d2' : decide (a ≥ (n0 : Int)) = true := decide_eq_true h)
    go_wp2_with fail
    go_ret2
    exact ⟨rfl, gb_refl _ _⟩
set_option maxHeartbeats 8000000 in
set_option maxRecDepth 100000 in
theorem rway_lt (c : Int) : ∀ (m : Nat) (v : Value) (ls : List (List UInt8)) (p : Nat) (w : World), ls.length < m → RSS w v ls → (∀ l ∈ ls, l.length ≤ 1000000) → ls.length ≤ 1000000 → p < ls.length + 1 →
    Calls Try.prog 30 #[.int .i64 c, v, .int .i64 (p : Int)] w fun e w' => ∃ v', e = .returned v' ∧ Ow w.heap.size w' 32 v' (wayH (sumC c) ls p).length (idCells (wayH (sumC c) ls p)) ∧ w.grownBy w' none := by
  intro m
  induction m with
  | zero => intro v ls p w h; exact absurd h (Nat.not_lt_zero _)
  | succ m ih =>
    intro v ls p w hm hv hl hn0 hp0
    go_enter Try.func30, Try.ntmps30
    have hrd := hv
    unfold RSS at hrd
    obtain ⟨A, c9, rfl, hc⟩ := Rd.form hrd
    obtain ⟨n, hn⟩ : ∃ n, n = ls.length := ⟨_, rfl⟩
    rw [← hn] at hrd hc hn0 hp0 ⊢
    by_cases h2 : n < 2
    · have d1 : decide ((n : Int) < 2) = true := decide_eq_true (by omega)
      have d1' : decide (n < 2) = true := decide_eq_true h2
      have hw : wayH (sumC c) ls p = [] := wayH_short _ (by omega)
      rw [hw]
      clear ih hm hv hl hrd hn hw
      go_wp2_with fail
      go_ret
      exact ⟨_, rfl, Ow.nil _ _ _, gb_refl _ _⟩
    · have d1 : decide ((n : Int) < 2) = false := decide_eq_false (by omega)
      have d1' : decide (n < 2) = false := decide_eq_false h2
      obtain ⟨k, hk⟩ : ∃ k, k = half n := ⟨_, rfl⟩
      have hk1 : 1 ≤ k := by rw [hk]; exact half_pos n
      have hk2 : k < n := by rw [hk]; exact half_lt (by omega)
      have hkn : k ≤ n := Nat.le_of_lt hk2
      have hhalf : ∀ w : World, Calls Try.prog 48 #[.int .i64 (n : Int)] w fun e w' => e = .returned (.int .i64 (k : Int)) ∧ w' = w := fun w => by rw [hk]; exact refHalf_any n (by omega) (by omega) w
      obtain ⟨lk, hlk⟩ : ∃ lk, ls.take k = lk := ⟨_, rfl⟩
      obtain ⟨ld, hld⟩ : ∃ ld, ls.drop k = ld := ⟨_, rfl⟩
      obtain ⟨q, hq⟩ : ∃ q, q = n - k := ⟨_, rfl⟩
      have hlkl : lk.length = k := by rw [← hlk, List.length_take]; omega
      have hldl : ld.length = q := by rw [← hld, List.length_drop, hq, hn]
      have HLK : Hid (RSS w (.slice A k c9) lk) := Go.Lib.hid (by
        have h := Rd.takeTo hrd k hkn
        unfold RSS
        rw [hlkl, ← hlk, List.map_take]
        rw [Nat.mul_one] at h; exact h)
      have HEK : Hid (∀ x ∈ lk, x.length ≤ 1000000) := Go.Lib.hid fun x hx => hl x (by rw [← hlk] at hx; exact List.mem_of_mem_take hx)
      have HED : Hid (∀ x ∈ ld, x.length ≤ 1000000) := Go.Lib.hid fun x hx => hl x (by rw [← hld] at hx; exact List.mem_of_mem_drop hx)
      have HI := Go.Lib.hid ih
      have HM := Go.Lib.hid hm
      have HN := Go.Lib.hid hn
      have HQ := Go.Lib.hid hq
      have HK := Go.Lib.hid hk
      have HLKE := Go.Lib.hid hlk
      have HLDE := Go.Lib.hid hld
      have HLKL := Go.Lib.hid hlkl
      have HLDL := Go.Lib.hid hldl
      have HRD := Go.Lib.hid hrd
      have hkI : (1 : Int) ≤ (k : Int) ∧ (k : Int) < (n : Int) ∧ (n : Int) ≤ (c9 : Int) ∧ (n : Int) ≤ 1000000 := by omega
      have h63 : ∀ z : List Sc.Id, z.length ≤ 1000000 → z.length + 1 ≤ maxLen := fun z hz => Nat.le_trans (Nat.succ_le_succ hz) (by decide)
      have hwl : ∀ (l : List (List UInt8)) p, l.length ≤ 1000000 → (wayH (sumC c) l p).length ≤ 1000000 := fun l p h => Nat.le_trans (wayH_len _ _ l p (Nat.le_refl _)) h
      have HWL := Go.Lib.hid hwl
      clear ih hm hv hl hrd hn hk hlk hld hlkl hldl hq hwl
      by_cases hpk : p < k
      · have d2 : decide ((p : Int) < (k : Int)) = true := decide_eq_true (by omega)
        have d2' : decide (p < k) = true := decide_eq_true hpk
        obtain ⟨R, hR⟩ : ∃ R, rootH (sumC c) ld = R := ⟨_, rfl⟩
        obtain ⟨Z, hZ⟩ : ∃ Z, wayH (sumC c) lk p = Z := ⟨_, rfl⟩
        have HWY : Hid (wayH (sumC c) ls p = Z ++ [R]) := Go.Lib.hid (by
          have h := wayH_lo (sumC c) (l := ls) (p := p) (by rw [← HN.out]; omega) (by rw [← HN.out, ← HK.out]; exact hpk)
          rw [← HN.out, ← HK.out, HLKE.out, HLDE.out, hR, hZ] at h; exact h)
        have HZL : Hid (Z.length ≤ 1000000) := Go.Lib.hid (by rw [← hZ]; exact HWL.out lk p (by rw [HLKL.out]; omega))
        have hih : Calls Try.prog 30 #[.int .i64 c, .slice A k c9, .int .i64 (p : Int)] w fun e w' => ∃ v', e = .returned v' ∧ Ow w.heap.size w' 32 v' Z.length (idCells Z) ∧ w.grownBy w' none := by
          rw [← hZ]; exact HI.out _ lk p w (by rw [HLKL.out]; have := HM.out; have := HN.out; omega) HLK.out HEK.out (by rw [HLKL.out]; omega) (by rw [HLKL.out]; omega)
        have hroot : ∀ v w, RSS w v ld → Calls Try.prog 18 #[.int .i64 c, v] w fun e w' => e = .returned (idv R) ∧ w.grownBy w' none := fun v w h => by rw [← hR]; exact rroot_any c v ld w h HED.out (by rw [HLDL.out, HQ.out]; omega)
        have HROOT := Go.Lib.hid hroot
        clear hR hZ hroot
        go_upto_region 7 with (first
          | (go_at_call 48; ((with_reducible refine (hhalf _).mono ?_); rintro e w2 ⟨rfl, rfl⟩))
          | (go_at_call 30; ((with_reducible refine hih.mono ?_); rintro e w3 ⟨v3, rfl, ho3, g3⟩); obtain ⟨A3, c3, rfl⟩ := ho3.form
             have hrd3 := Rd.grown HRD.out g3 (by simp))
          | ((with_reducible refine wpList_cut (x := .tmp 28) Try.underlying24 (by kernel_rfl) hrd3 (by kernel_rfl) k n (.inr ⟨_, rfl, by kernel_rfl⟩) (.inl ⟨rfl, rfl⟩) hkn (Nat.le_refl _) ?_); intro v9 hv9
             have h9 : RSS w3 v9 ld := by
               rw [← HLDE.out]
               unfold RSS
               have h := Rd.mono hv9 (fun b hb => Nat.lt_of_lt_of_le hb g3.size)
               rw [List.length_drop, ← HN.out, List.map_drop]
               rw [Nat.mul_one, Nat.mul_one, List.take_of_length_le (by rw [List.length_drop, List.length_map, HN.out]; exact Nat.le_refl _)] at h
               exact h)
          | (go_at_call 18; ((with_reducible refine (HROOT.out _ _ h9).mono ?_); rintro e w4 ⟨rfl, g4⟩); have bx := Bk.new w4 34 idZ)
          | ((with_reducible refine wpList_alloc_row (E := 34) idZ infoId ?_))
          | ((with_reducible refine wpList_store_bk (t := 34) w4.heap.size 34 idZ (R.l.map bv) bx (by kernel_rfl) (by kernel_rfl) (idSize _) (idLen _) (idOne _) ?_); intro w5 h5 g5 z5))
        have g45 := gb_trans_new (gb_alloc (gb_refl w4 none) (.cells idZ.toArray 34)) g5 (Nat.le_refl _)
        have ho5 := (ho3.grown g4 (fun _ _ => by simp)).grown g45 (fun _ _ => by simp)
        have g05 := gb_trans (gb_trans g3 g4) g45
        have how := ho5.alloc (.cells (R.l.map bv).toArray 34)
        have hs5 : Src Try.prog 32 41 (.slice (some ⟨w5.heap.size, 0, none⟩) 1 1) 1 (R.l.map bv) (w5.alloc (.cells (R.l.map bv).toArray 34)) := src_new (P := Try.prog) Try.underlying41 w5 34 32 1 (R.l.map bv) (by rw [List.length_map, R.h]) (bytes_one _)
        have hB5 := Nat.le_trans g05.size (show w5.heap.size ≤ (w5.alloc (.cells (R.l.map bv).toArray 34)).heap.size by rw [World.size_alloc]; omega)
        have hz63 := h63 Z HZL.out
        have hby : (Z.length + 1) * 32 ≤ 140737488355328 := by have := HZL.out; omega
        clear g45 g3 g4 g5 z5 bx ho3
        go_wp2_with (first
          | ((with_reducible refine wpList_load_bk (x := .tmp 9) (t := 34) w4.heap.size _ (R.l.map bv) _ h5 (by kernel_rfl) Try.underlying34 rfl (idSize _) ?_))
          | ((with_reducible refine wpList_build_id (y := .tmp 33) R (by kernel_rfl) ?_))
          | ((with_reducible refine wpList_append_ow (s := .tmp 32) (x := .tmp 34) (v := .slice A3 Z.length c3) (y := .slice (some ⟨w5.heap.size, 0, none⟩) 1 1) (by kernel_rfl) (by kernel_rfl) Try.underlying41 okId how hs5 hB5 hz63 hby ?_); intro v6 w6 ho6 hg6 hb6; obtain ⟨A6, c6, rfl⟩ := ho6.form))
        go_ret
        rw [HWY.out]
        rw [← idCells_one, ← idCells_append] at ho6
        exact ⟨_, rfl, by rw [List.length_append]; exact ho6, Ow.gb (gb_alloc g05 _) how (Nat.le_refl _) hg6⟩
      · have d2 : decide ((p : Int) < (k : Int)) = false := decide_eq_false (by omega)
        have d2' : decide (p < k) = false := decide_eq_false hpk
        obtain ⟨R, hR⟩ : ∃ R, rootH (sumC c) lk = R := ⟨_, rfl⟩
        obtain ⟨p2, hp2⟩ : ∃ p2, p2 = p - k := ⟨_, rfl⟩
        obtain ⟨Z, hZ⟩ : ∃ Z, wayH (sumC c) ld p2 = Z := ⟨_, rfl⟩
        have HWY : Hid (wayH (sumC c) ls p = Z ++ [R]) := Go.Lib.hid (by
          have h := wayH_hi (sumC c) (l := ls) (p := p) (by rw [← HN.out]; omega) (by rw [← HN.out, ← HK.out]; exact hpk)
          rw [← HN.out, ← HK.out, HLKE.out, HLDE.out, hR, ← hp2, hZ] at h; exact h)
        have HZL : Hid (Z.length ≤ 1000000) := Go.Lib.hid (by rw [← hZ]; exact HWL.out ld p2 (by rw [HLDL.out, HQ.out]; omega))
        have hpe : (p : Int) - (k : Int) = (p2 : Int) := by omega
        have hih : ∀ v w, RSS w v ld → Calls Try.prog 30 #[.int .i64 c, v, .int .i64 (p2 : Int)] w fun e w' => ∃ v', e = .returned v' ∧ Ow w.heap.size w' 32 v' Z.length (idCells Z) ∧ w.grownBy w' none := fun v w h => by
          rw [← hZ]; exact HI.out v ld p2 w (by rw [HLDL.out, HQ.out]; have := HM.out; have := HN.out; omega) h HED.out (by rw [HLDL.out, HQ.out]; omega) (by rw [HLDL.out, HQ.out]; omega)
        have hroot : ∀ w, RSS w (.slice A k c9) lk → Calls Try.prog 18 #[.int .i64 c, .slice A k c9] w fun e w' => e = .returned (idv R) ∧ w.grownBy w' none := fun w h => by rw [← hR]; exact rroot_any c _ lk w h HEK.out (by rw [HLKL.out]; omega)
        have HROOT := Go.Lib.hid hroot
        have HIH := Go.Lib.hid hih
        have hrd3 := HRD.out
        clear hR hZ hroot hih hp2
        go_upto_region 10 with (first
          | (go_at_call 48; ((with_reducible refine (hhalf _).mono ?_); rintro e w2 ⟨rfl, rfl⟩))
          | ((with_reducible refine wpList_cut (x := .tmp 37) Try.underlying24 (by kernel_rfl) hrd3 (by kernel_rfl) k n (.inr ⟨_, rfl, by kernel_rfl⟩) (.inl ⟨rfl, rfl⟩) hkn (Nat.le_refl _) ?_); intro v9 hv9
             have h9 := rss_of_cut hv9 HN.out.symm
             rw [HLDE.out] at h9)
          | (go_at_call 30; ((with_reducible refine (HIH.out _ _ h9).mono ?_); rintro e w3 ⟨v3, rfl, ho3, g3⟩); obtain ⟨A3, c3, rfl⟩ := ho3.form)
          | (go_at_call 18; ((with_reducible refine (HROOT.out _ (RSS.gr HLK.out g3)).mono ?_); rintro e w4 ⟨rfl, g4⟩); have bx := Bk.new w4 34 idZ)
          | ((with_reducible refine wpList_alloc_row (E := 34) idZ infoId ?_))
          | ((with_reducible refine wpList_store_bk (t := 34) w4.heap.size 34 idZ (R.l.map bv) bx (by kernel_rfl) (by kernel_rfl) (idSize _) (idLen _) (idOne _) ?_); intro w5 h5 g5 z5))
        have g45 := gb_trans_new (gb_alloc (gb_refl w4 none) (.cells idZ.toArray 34)) g5 (Nat.le_refl _)
        have ho5 := (ho3.grown g4 (fun _ _ => by simp)).grown g45 (fun _ _ => by simp)
        have g05 := gb_trans (gb_trans g3 g4) g45
        have how := ho5.alloc (.cells (R.l.map bv).toArray 34)
        have hs5 : Src Try.prog 32 41 (.slice (some ⟨w5.heap.size, 0, none⟩) 1 1) 1 (R.l.map bv) (w5.alloc (.cells (R.l.map bv).toArray 34)) := src_new (P := Try.prog) Try.underlying41 w5 34 32 1 (R.l.map bv) (by rw [List.length_map, R.h]) (bytes_one _)
        have hB5 := Nat.le_trans g05.size (show w5.heap.size ≤ (w5.alloc (.cells (R.l.map bv).toArray 34)).heap.size by rw [World.size_alloc]; omega)
        have hz63 := h63 Z HZL.out
        have hby : (Z.length + 1) * 32 ≤ 140737488355328 := by have := HZL.out; omega
        clear g45 g3 g4 g5 z5 bx ho3
        go_wp2_with (first
          | ((with_reducible refine wpList_load_bk (x := .tmp 11) (t := 34) w4.heap.size _ (R.l.map bv) _ h5 (by kernel_rfl) Try.underlying34 rfl (idSize _) ?_))
          | ((with_reducible refine wpList_build_id (y := .tmp 50) R (by kernel_rfl) ?_))
          | ((with_reducible refine wpList_append_ow (s := .tmp 49) (x := .tmp 51) (v := .slice A3 Z.length c3) (y := .slice (some ⟨w5.heap.size, 0, none⟩) 1 1) (by kernel_rfl) (by kernel_rfl) Try.underlying41 okId how hs5 hB5 hz63 hby ?_); intro v6 w6 ho6 hg6 hb6; obtain ⟨A6, c6, rfl⟩ := ho6.form))
        go_ret
        rw [HWY.out]
        rw [← idCells_one, ← idCells_append] at ho6
        exact ⟨_, rfl, by rw [List.length_append]; exact ho6, Ow.gb (gb_alloc g05 _) how (Nat.le_refl _) hg6⟩
theorem rway_any (c : Int) (v : Value) (ls : List (List UInt8)) (p : Nat) (w : World) (hv : RSS w v ls) (hl : ∀ l ∈ ls, l.length ≤ 1000000) (hn0 : ls.length ≤ 1000000) (hp : p < ls.length) :
    Calls Try.prog 30 #[.int .i64 c, v, .int .i64 (p : Int)] w fun e w' => ∃ v', e = .returned v' ∧ RI w' v' (wayH (sumC c) ls p) ∧ w.grownBy w' none :=
  (rway_lt c _ v ls p w (Nat.lt_succ_self _) hv hl hn0 (by omega)).mono fun _ _ ⟨v', e, ho, g⟩ => ⟨v', e, ho.rd (fun b hb => (ho.lt hb).2), g⟩
end Go.Proofs.Ytajgklomcapboaa
/- short: Entry. -/
namespace Sc
open Go Go.RowKit
/-- What is told of an entry that is shown. -/
def EOut (c : Int) (ls : List (List UInt8)) (e : List UInt8) (a : Int) (path : List Id) (l1 l2 : List UInt8) (ok : Bool) : Prop :=
  (ok = true → (∃ p : Nat, a = (p : Int) ∧ p < ls.length) ∧ leadsB (sumC c) e a (ls.length : Int) path (rootH (sumC c) ls) = true ∧ l1 ≠ l2 ∧ sumC c l1 = sumC c l2 ∧ l1.length ≤ 1000001 ∧ l2.length ≤ 1000001) ∧
  (ok = false → ∀ p : Nat, a = (p : Int) → p < ls.length → leadsB (sumC c) e a (ls.length : Int) path (rootH (sumC c) ls) = true → ls[p]? = some e ∧ path = wayH (sumC c) ls p)
theorem leadsB_ok7 {H : List UInt8 → Id} {e : List UInt8} {p m : Nat} {path : List Id} {X : Id} (h : ¬ ((p : Int) < 0 ∨ (m : Int) ≤ (p : Int) ∨ 1099511627776 < (m : Int) ∨ 64 < path.length)) :
    leadsB H e (p : Int) (m : Int) path X = match textsR H e p m path.reverse with | none => false | some l => (H (l.getLastD [])).l == X.l := by
  unfold leadsB
  rw [if_neg h]
  rfl
theorem RL.apart {w : World} {v : Value} {l : List UInt8} {b0 : Nat} {t : TypeId} (h : RL w v l) (hb0 : Bk w b0 t pairZ) : RdB (fun b => b < w.heap.size ∧ b ≠ b0) w v l := by
  obtain ⟨A, c, rfl, h1, h2, h3, h4⟩ := h
  refine ⟨A, c, rfl, h1, h2, h3, fun hn => ?_⟩
  obtain ⟨b, o, rfl, hb, hc⟩ := h4 hn
  refine ⟨b, o, rfl, ⟨hb, ?_⟩, hc⟩
  rintro rfl
  have h5 := hc 0 (bv l[0]) (by rw [List.getElem?_map, List.getElem?_eq_getElem hn]; rfl)
  rw [Nat.add_zero, hb0.cell] at h5
  match o, h5 with
  | 0, h5 => cases h5
  | 1, h5 => cases h5
  | o + 2, h5 => cases h5
theorem RL.past {w w' : World} {v : Value} {l : List UInt8} {b0 : Nat} {t : TypeId} (h : RL w v l) (hb0 : Bk w b0 t pairZ) (hg : w.grownBy w' (some b0)) : RL w' v l :=
  Rd.mono (Rd.grown (h.apart hb0) hg (fun r e h => by cases e; exact h.2 rfl)) fun b hb => Nat.lt_of_lt_of_le hb.1 hg.size
theorem OwX.el {B : Nat} {w : World} {v : Value} {l : List (List UInt8)} (h : OwX B w v l) : RLL w v l := h.rd
end Sc
namespace Go.Proofs.Ytajgklomcapboaa
open Go.RowKit Go.Shelf Sc
def ERes (c : Int) (ls : List (List UInt8)) (e : List UInt8) (a : Int) (path : List Sc.Id) (w : World) (E : Ending) (w' : World) : Prop :=
  ∃ v1 v2 l1 l2 ok, E = .returned (.tuple #[.agg #[v1, v2], .bool ok]) ∧ RL w' v1 l1 ∧ RL w' v2 l2 ∧ EOut c ls e a path l1 l2 ok ∧ w.grownBy w' none
def en9φ (b3 o3 c3 b4 o4 c4 m q nx cx ny cy : Nat) (Ax Ay : Option Addr) (tx ty : List UInt8) (i : Nat) (v : Value) (_w : World) : Prop := match i with
  | 0 => v = .slice (some ⟨b3, o3, none⟩) m c3
  | 1 => v = .int .i64 (q : Int)
  | 2 => v = .pointer (some ⟨b3, o3 + q, none⟩)
  | 3 => v = .slice Ax nx cx
  | 4 => v = sv tx
  | 5 => v = .slice (some ⟨b4, o4, none⟩) m c4
  | 6 => v = .int .i64 (q : Int)
  | 7 => v = .pointer (some ⟨b4, o4 + q, none⟩)
  | 8 => v = .slice Ay ny cy
  | 9 => v = sv ty
  | _ => True
theorem en9φ_gr (b3 o3 c3 b4 o4 c4 m q nx cx ny cy : Nat) (Ax Ay : Option Addr) (tx ty : List UInt8) : ∀ i v w w', en9φ b3 o3 c3 b4 o4 c4 m q nx cx ny cy Ax Ay tx ty i v w → Gr w w' → en9φ b3 o3 c3 b4 o4 c4 m q nx cx ny cy Ax Ay tx ty i v w' := by
  intro i v w w' h hg
  match i with
  | 0 => exact h
  | 1 => exact h
  | 2 => exact h
  | 3 => exact h
  | 4 => exact h
  | 5 => exact h
  | 6 => exact h
  | 7 => exact h
  | 8 => exact h
  | 9 => exact h
  | i + 10 => exact h
def en10φ (b3 o3 c3 b4 o4 c4 m q nx cx ny cy : Nat) (Ax Ay : Option Addr) (i : Nat) (v : Value) (_w : World) : Prop := match i with
  | 0 => v = .slice (some ⟨b3, o3, none⟩) m c3
  | 1 => v = .int .i64 (q : Int)
  | 2 => v = .pointer (some ⟨b3, o3 + q, none⟩)
  | 3 => v = .slice Ax nx cx
  | 4 => v = .slice (some ⟨b4, o4, none⟩) m c4
  | 5 => v = .int .i64 (q : Int)
  | 6 => v = .pointer (some ⟨b4, o4 + q, none⟩)
  | 7 => v = .slice Ay ny cy
  | 8 => v = .agg #[.slice Ax nx cx, .slice Ay ny cy]
  | _ => True
theorem en10φ_gr (b3 o3 c3 b4 o4 c4 m q nx cx ny cy : Nat) (Ax Ay : Option Addr) : ∀ i v w w', en10φ b3 o3 c3 b4 o4 c4 m q nx cx ny cy Ax Ay i v w → Gr w w' → en10φ b3 o3 c3 b4 o4 c4 m q nx cx ny cy Ax Ay i v w' := by
  intro i v w w' h hg
  match i with
  | 0 => exact h
  | 1 => exact h
  | 2 => exact h
  | 3 => exact h
  | 4 => exact h
  | 5 => exact h
  | 6 => exact h
  | 7 => exact h
  | 8 => exact h
  | i + 9 => exact h

set_option maxHeartbeats 8000000 in
set_option maxRecDepth 100000 in
theorem sentry_any (c a : Int) (v ve vp : Value) (ls : List (List UInt8)) (e : List UInt8) (path : List Sc.Id) (w : World) (hv : RLL w v ls) (hve : RL w ve e) (hvp : RI w vp path) (hls : ∀ l ∈ ls, l.length ≤ 100) (hn0 : ls.length ≤ 20) (he : e.length ≤ 100) (hpl : path.length ≤ 70) :
    Calls Try.prog 31 #[.int .i64 c, v, ve, .int .i64 a, vp] w (ERes c ls e a path w) := by
  go_enter Try.func31, Try.ntmps31
  obtain ⟨A0, c0, rfl, hc0⟩ := (show ∃ A c9, v = .slice A ls.length c9 ∧ ls.length ≤ c9 from by obtain ⟨vs, h1, _⟩ := hv; exact Rd.form h1)
  obtain ⟨Ae, ce, rfl, _⟩ := Rd.form hve
  obtain ⟨Ap, cp, rfl, _⟩ := Rd.form hvp
  obtain ⟨n, hn⟩ : ∃ n, n = ls.length := ⟨_, rfl⟩
  obtain ⟨ne, hne⟩ : ∃ ne, ne = e.length := ⟨_, rfl⟩
  obtain ⟨np, hnp⟩ : ∃ np, np = path.length := ⟨_, rfl⟩
  have hnn : n ≤ 20 := by omega
  obtain ⟨W, hW⟩ : ∃ W, W = w.alloc (.cells pairZ.toArray 29) := ⟨_, rfl⟩
  obtain ⟨b0, hb0⟩ : ∃ b0, b0 = w.heap.size := ⟨_, rfl⟩
  have hbk : Bk W b0 29 pairZ := by rw [hW, hb0]; exact Bk.new w _ _
  have g0 : w.grownBy W none := by rw [hW]; exact gb_alloc (gb_refl w none) _
  have hbw : w.heap.size ≤ b0 := by rw [hb0]; exact Nat.le_refl _
  have HV := Go.Lib.hid (RLL.gr hv g0)
  have HVE := Go.Lib.hid (RL.gr hve g0)
  have HVP := Go.Lib.hid (RI.gr hvp g0)
  rw [← hn] at HV hc0 ⊢
  rw [← hne] at HVE ⊢
  rw [← hnp] at HVP ⊢
  have HN := Go.Lib.hid hn
  have HNP := Go.Lib.hid hnp
  have HW := Go.Lib.hid hW
  have HBE := Go.Lib.hid hb0
  have HBK := Go.Lib.hid hbk
  have HG0 := Go.Lib.hid g0
  have HLE := Go.Lib.hid (show (∀ l ∈ ls, l.length ≤ 1000000) ∧ ls.length ≤ 1000000 from ⟨fun l hl => Nat.le_trans (hls l hl) (by decide), Nat.le_trans hn0 (by decide)⟩)
  have HL1 := Go.Lib.hid hls
  have HEE := Go.Lib.hid he
  have HPL := Go.Lib.hid hpl
  obtain ⟨X, hX⟩ : ∃ X, X = rootH (sumC c) ls := ⟨_, rfl⟩
  have HX := Go.Lib.hid hX
  have HROOT : Hid (∀ w', RLL w' (.slice A0 n c0) ls → Calls Try.prog 24 #[.int .i64 c, .slice A0 n c0] w' fun e w2 => e = .returned (idv X) ∧ w'.grownBy w2 none) := Go.Lib.hid fun w' h => by rw [hX]; exact sroot_any c _ ls w' h HLE.out.1 HLE.out.2
  obtain ⟨D, hD⟩ : ∃ D, D = leadsB (sumC c) e a (n : Int) path X := ⟨_, rfl⟩
  have HD := Go.Lib.hid hD
  have HLEADS : Hid (∀ w', RL w' (.slice Ae ne ce) e → RI w' (.slice Ap np cp) path → Calls Try.prog 22 #[.int .i64 c, .slice Ae ne ce, .int .i64 a, .int .i64 (n : Int), .slice Ap np cp, idv X] w' fun E w2 => E = .returned (.bool D) ∧ w'.grownBy w2 none) := Go.Lib.hid fun w' h h' => by
    rw [hD]; exact sleads_any c a n e path X _ _ w' (by have := HEE.out; omega) h h'
  have hnI : (0 : Int) ≤ (n : Int) ∧ (n : Int) ≤ 20 ∧ (n : Int) ≤ (c0 : Int) := by omega
  clear hv hve hvp hls hn0 he hpl hn hne hnp hW hb0 hbk g0 hX hD
  by_cases hin : 0 ≤ a ∧ a < (n : Int)
  · obtain ⟨p, rfl⟩ : ∃ p : Nat, a = (p : Int) := ⟨a.toNat, by omega⟩
    have hpn : p < n := by omega
    obtain ⟨Y, hY⟩ : ∃ Y, Y = wayH (sumC c) ls p := ⟨_, rfl⟩
    have hway : Calls Try.prog 27 #[.int .i64 c, .slice A0 n c0, .int .i64 (p : Int)] W fun e w' => ∃ A n c', e = .returned (.tuple #[.slice A n c', .int .i64 0]) ∧ n = Y.length ∧ RI w' (.slice A n c') Y ∧ W.grownBy w' none := by
      rw [hY]; exact sway_any c _ ls p W HV.out HLE.out.1 HLE.out.2 (by rw [← HN.out]; exact hpn)
    have HY := Go.Lib.hid hY
    clear hY
    go_upto_region 2 with (first
      | ((with_reducible refine wpList_alloc_row (E := 29) pairZ infoPair ?_); rw [← HW.out])
      | (go_at_call 27; ((with_reducible refine hway.mono ?_); rintro E w5 ⟨A9, n9, c9, rfl, hn9, hw9, g5⟩); clear hn9))
    rw [← HBE.out]
    have HV5 := Go.Lib.hid (RLL.gr HV.out g5)
    have HW9 := Go.Lib.hid hw9
    have HE5 := Go.Lib.hid (RL.gr HVE.out g5)
    have HP5 := Go.Lib.hid (RI.gr HVP.out g5)
    have HB5 := Go.Lib.hid (HBK.out.grown g5 (by simp))
    have HG5 := Go.Lib.hid (gb_trans HG0.out g5)
    clear hw9 g5 hway
    go_wp2_with fail
    refine (HROOT.out _ HV5.out).mono ?_
    rintro E w6 ⟨rfl, g6⟩
    have he6 := RL.gr HE5.out g6
    have hp6 := RI.gr HP5.out g6
    go_frame
    go_wp2_with fail
    refine (HLEADS.out _ he6 hp6).mono ?_
    rintro E w7 ⟨rfl, g7⟩
    have HV7 := Go.Lib.hid (RLL.gr HV5.out (gb_trans g6 g7))
    have HW7 := Go.Lib.hid (RI.gr HW9.out (gb_trans g6 g7))
    have HE7 := Go.Lib.hid (RL.gr he6 g7)
    have HP7 := Go.Lib.hid (RI.gr hp6 g7)
    have HB7 := Go.Lib.hid (HB5.out.grown (gb_trans g6 g7) (by simp))
    have HG7 := Go.Lib.hid (gb_trans HG5.out (gb_trans g6 g7))
    clear g6 g7 he6 hp6 HV5 HW9 HE5 HP5 HB5 HG5
    go_frame
    cases D with
    | false =>
      have hb7 := HB7.out
      go_wp2_with (first
        | ((with_reducible refine wpList_build_pair0 ?_))
        | ((with_reducible refine wpList_store_bk (t := 29) b0 29 pairZ pairZ hb7 (by kernel_rfl) (by kernel_rfl) pairZSize rfl pairZOne ?_); intro w8 h8 g8 z8))
      try go_frame
      refine bodyPost_ret (results_pair rfl _ _ b0 (.slice none 0 0) (.slice none 0 0) rfl h8) rfl ⟨_, _, [], [], false, rfl, RL.nil _, RL.nil _, ⟨(fun h => by cases h), fun _ q _ _ hl => ?_⟩, gb_trans_new HG7.out g8 hbw⟩
      have := HD.out
      rw [HN.out, HX.out, hl] at this; cases this
    | true =>
      have hlb : leadsB (sumC c) e (p : Int) (n : Int) path X = true := HD.out.symm
      have hnl := HN.out
      obtain ⟨x, hx⟩ : ∃ x, ls[p]? = some x := ⟨_, List.getElem?_eq_getElem (by rw [← HN.out]; exact hpn)⟩
      have hxl : x.length ≤ 100 := HL1.out x (List.mem_of_getElem? hx)
      obtain ⟨ts1, ht1, hl1⟩ := textsR_way (sumC c) ls.length ls p x (Nat.le_refl _) hx
      rw [← HY.out, ← HN.out] at ht1
      have hr1 : sumC c (ts1.getLastD []) = X := by rw [hl1, HX.out]; rfl
      have hp64 : path.length ≤ 64 := by
        unfold leadsB at hlb
        split at hlb
        · cases hlb
        · rename_i h; omega
      rw [leadsB_ok7 (by omega)] at hlb
      obtain ⟨ts2, ht2, hr2⟩ : ∃ ts2, textsR (sumC c) e p n path.reverse = some ts2 ∧ sumC c (ts2.getLastD []) = X := by
        cases h : textsR (sumC c) e p n path.reverse with
        | none => rw [h] at hlb; cases hlb
        | some ts2 => rw [h] at hlb; exact ⟨ts2, rfl, Sc.Id.ext' (eq_of_beq hlb)⟩
      obtain ⟨m, hm⟩ : ∃ m, m = ts1.length := ⟨_, rfl⟩
      have hm2 : ts2.length = m := by rw [hm, textsR_len _ _ _ _ _ _ ht1, textsR_len _ _ _ _ _ _ ht2, textsR_lens _ _ _ _ _ _ _ _ _ ht1 ht2]
      have hm1 : 1 ≤ m := by rw [hm, textsR_len _ _ _ _ _ _ ht1]; omega
      have hm71 : m ≤ 71 := by rw [← hm2, textsR_len _ _ _ _ _ _ ht2, List.length_reverse]; omega
      have hYl : Y.length ≤ 1000 := by rw [HY.out]; exact Nat.le_trans (wayH_len _ _ ls p (Nat.le_refl _)) (by have := HLE.out; omega)
      obtain ⟨vs, hrd, hel⟩ := HV7.out
      obtain ⟨ux, hux, hub⟩ := hel p x hx
      obtain ⟨Aw, cw, rfl, _⟩ := Rd.form hub
      obtain ⟨nw, hnw⟩ : ∃ nw, nw = x.length := ⟨_, rfl⟩
      rw [← hnw] at hub hux
      obtain ⟨b1, o1, c1', he1, _, hc1, _, hcell⟩ := hrd.at (by rw [← HN.out]; omega)
      injection he1 with hA1 hnn1 hcc1
      subst hA1 hcc1
      clear hnn1
      have hcx := hcell p _ hux
      have htx1 : Calls Try.prog 47 #[.int .i64 c, .slice Aw nw cw, .int .i64 (p : Int), .int .i64 (n : Int), .slice A9 n9 c9] w7 fun E w' => ∃ A c', E = .returned (.tuple #[.slice A m c', .bool true]) ∧ RLL w' (.slice A m c') ts1 ∧ w7.grownBy w' none := by
        refine (texts_any c x (by omega) Y.reverse p n (.slice Aw nw cw) (.slice A9 n9 c9) w7 hub (by rw [List.reverse_reverse]; exact HW7.out) (by omega) (by omega) hpn (by rw [List.length_reverse]; exact hYl)).mono ?_
        rintro E w' ⟨A, m', c', ok, rfl, g, ⟨h, _⟩ | ⟨l, h, rfl, rfl, hox⟩⟩
        · rw [ht1] at h; cases h
        · rw [ht1] at h
          cases h
          rw [← hm] at hox ⊢
          exact ⟨A, c', rfl, hox.el, g⟩
      have htx2 : ∀ w8, RL w8 (.slice Ae ne ce) e → RI w8 (.slice Ap np cp) path → Calls Try.prog 47 #[.int .i64 c, .slice Ae ne ce, .int .i64 (p : Int), .int .i64 (n : Int), .slice Ap np cp] w8 fun E w' => ∃ A c', E = .returned (.tuple #[.slice A m c', .bool true]) ∧ RLL w' (.slice A m c') ts2 ∧ w8.grownBy w' none := fun w8 h8 h9 => by
        refine (texts_any c e (by have := HEE.out; omega) path.reverse p n (.slice Ae ne ce) (.slice Ap np cp) w8 h8 (by rw [List.reverse_reverse]; exact h9) (by omega) (by omega) hpn (by rw [List.length_reverse]; omega)).mono ?_
        rintro E w' ⟨A, m', c', ok, rfl, g, ⟨h, _⟩ | ⟨l, h, rfl, rfl, hox⟩⟩
        · rw [ht2] at h; cases h
        · rw [ht2] at h
          cases h
          rw [hm2] at hox ⊢
          exact ⟨A, c', rfl, hox.el, g⟩
      have HTX2 := Go.Lib.hid htx2
      have HT1 := Go.Lib.hid ht1
      have HT2 := Go.Lib.hid ht2
      have HR12 : Hid (sumC c (ts1.getLastD []) = sumC c (ts2.getLastD [])) := Go.Lib.hid (by rw [hr1, hr2])
      have HM1 := Go.Lib.hid hm.symm
      have HM2 := Go.Lib.hid hm2
      have HXX := Go.Lib.hid hx
      have HXL := Go.Lib.hid hxl
      have hpI : (0 : Int) ≤ (p : Int) ∧ (p : Int) < (n : Int) := by omega
      clear hlb hnl hl1 hr1 hp64 hr2 hm hm2 hYl hrd hel hux hub hcell htx2 ht1 ht2 hx hxl hnw
      go_upto_region 6 with (first
        | (go_at_call 47; ((with_reducible refine htx1.mono ?_); rintro E w8 ⟨A3, c3, rfl, hx8, g8⟩); have he8 := RL.gr HE7.out g8; have hp8 := RI.gr HP7.out g8)
        | (go_at_call 47; ((with_reducible refine (HTX2.out _ he8 hp8).mono ?_); rintro E w9 ⟨A4, c4, rfl, hy9, g9⟩)))
      obtain ⟨vs1, hrd1, hel1⟩ := RLL.gr hx8 g9
      obtain ⟨vs2, hrd2, hel2⟩ := hy9
      rw [HM1.out] at hrd1
      rw [HM2.out] at hrd2
      obtain ⟨b3, o3, c3', he3, _, hc3, _, hcel1⟩ := hrd1.at (by omega)
      injection he3 with he3 _ hc3'
      subst he3 hc3'
      obtain ⟨b4, o4, c4', he4, _, hc4, _, hcel2⟩ := hrd2.at (by omega)
      injection he4 with he4 _ hc4'
      subst he4 hc4'
      have HC1 := Go.Lib.hid hcel1
      have HC2 := Go.Lib.hid hcel2
      have HEL1 := Go.Lib.hid hel1
      have HEL2 := Go.Lib.hid hel2
      have HB9 := Go.Lib.hid ((HB7.out.grown g8 (by simp)).grown g9 (by simp))
      have HG9 := Go.Lib.hid (gb_trans (gb_trans HG7.out g8) g9)
      have hmI : (1 : Int) ≤ (m : Int) ∧ (m : Int) ≤ 71 ∧ (m : Int) ≤ (c3 : Int) ∧ (m : Int) ≤ (c4 : Int) := by omega
      clear g8 g9 hx8 he8 hp8 hrd1 hrd2 hcel1 hcel2 hel1 hel2 htx1 HB7 HG7 HE7 HP7 HV7 HW7 HTX2 hcx
      go_wp2_with fail
      go_loopw [18] (fun v18 wr => ∃ j : Nat, v18 = .int .i64 ((j : Int) - 1) ∧ j ≤ m ∧ Hid (∀ t, j ≤ t → t < m → ts1[t]? = ts2[t]?) ∧ Hid (w9.grownBy wr none)) (fun v18 _ => (intOf v18 + 1).toNat)
      case atStart => exact ⟨m, rfl, Nat.le_refl _, Go.Lib.hid fun t h1 h2 => by omega, Go.Lib.hid (gb_refl _ _)⟩
      case round =>
        obtain ⟨j, rfl, hjm, HSM, HGW⟩ := hrel
        rcases j with _ | q
        · have h0 : ((0 : Nat) : Int) - 1 = -1 := by omega
          rw [h0]
          have hbk := HB9.out.grown HGW.out (by simp)
          go_wp2_with (first
            | ((with_reducible refine wpList_build_pair0 ?_))
            | ((with_reducible refine wpList_store_bk (t := 29) b0 29 pairZ pairZ hbk (by kernel_rfl) (by kernel_rfl) pairZSize rfl pairZOne ?_); intro w12 h12 g12 z12))
          try go_frame
          refine bodyPost_ret (results_pair rfl _ _ b0 (.slice none 0 0) (.slice none 0 0) rfl h12) rfl ⟨_, _, [], [], false, rfl, RL.nil _, RL.nil _, ⟨(fun h => by cases h), fun _ r hr hrl _ => ?_⟩, gb_trans_new (gb_trans HG9.out HGW.out) g12 hbw⟩
          obtain rfl : p = r := by omega
          have hts : ts1 = ts2 := by
            apply List.ext_getElem?
            intro t
            rcases Nat.lt_or_ge t m with h | h
            · exact HSM.out t (Nat.zero_le _) h
            · rw [List.getElem?_eq_none (by rw [HM1.out]; exact h), List.getElem?_eq_none (by rw [HM2.out]; exact h)]
          have h2 := HT2.out
          rw [← hts] at h2
          obtain ⟨q1, q2⟩ := textsR_same (sumC c) x e _ _ _ _ _ HT1.out h2
          refine ⟨by rw [HXX.out, q1], ?_⟩
          have := congrArg List.reverse q2
          rw [List.reverse_reverse, List.reverse_reverse] at this
          rw [← this, HY.out]
        · have hidx : ((q + 1 : Nat) : Int) - 1 = (q : Int) := by omega
          rw [hidx]
          have hqm : q < m := by omega
          obtain ⟨tx, htx⟩ : ∃ tx, ts1[q]? = some tx := ⟨_, List.getElem?_eq_getElem (by rw [HM1.out]; exact hqm)⟩
          obtain ⟨ty, hty⟩ : ∃ ty, ts2[q]? = some ty := ⟨_, List.getElem?_eq_getElem (by rw [HM2.out]; exact hqm)⟩
          obtain ⟨u1, hu1, hb1⟩ := HEL1.out q tx htx
          obtain ⟨u2, hu2, hb2⟩ := HEL2.out q ty hty
          obtain ⟨Ax, cx, rfl, _⟩ := Rd.form hb1
          obtain ⟨Ay, cy, rfl, _⟩ := Rd.form hb2
          obtain ⟨nx, hnx⟩ : ∃ nx, nx = tx.length := ⟨_, rfl⟩
          obtain ⟨ny, hny⟩ : ∃ ny, ny = ty.length := ⟨_, rfl⟩
          rw [← hnx] at hb1 hu1
          rw [← hny] at hb2 hu2
          have HCX := Go.Lib.hid (cell_grown (row := none) HGW.out (HC1.out q _ hu1) (by simp))
          have HCY := Go.Lib.hid (cell_grown (row := none) HGW.out (HC2.out q _ hu2) (by simp))
          have HLX : Hid (RL wr (.slice Ax nx cx) tx) := Go.Lib.hid (RL.gr hb1 HGW.out)
          have HLY : Hid (RL wr (.slice Ay ny cy) ty) := Go.Lib.hid (RL.gr hb2 HGW.out)
          have HTX := Go.Lib.hid htx
          have HTY := Go.Lib.hid hty
          have hqI : (0 : Int) ≤ (q : Int) ∧ (q : Int) < (m : Int) := by omega
          have hd0 : decide ((q : Int) ≥ 0) = true := decide_eq_true (by omega)
          clear htx hty hu1 hu2 hb1 hb2 hnx hny
          go_upto_region 9 with fail
          refine wp_region_specs 10 [72, 73, 74, 75, 76, 77, 78, 79, 80, 81] (by kernel_rfl) (by kernel_rfl) (en9φ b3 o3 c3 b4 o4 c4 m q nx cx ny cy Ax Ay tx ty) (en9φ_gr b3 o3 c3 b4 o4 c4 m q nx cx ny cy Ax Ay tx ty) ?step9 ?fin9
          case step9 =>
            intro i_ o_ ho hi_ u w' hg hd
            rcases (by omega : i_ = 0 ∨ i_ = 1 ∨ i_ = 2 ∨ i_ = 3 ∨ i_ = 4 ∨ i_ = 5 ∨ i_ = 6 ∨ i_ = 7 ∨ i_ = 8 ∨ i_ = 9) with rfl | rfl | rfl | rfl | rfl | rfl | rfl | rfl | rfl | rfl <;> obtain rfl := Option.some.inj ho <;>
              simp (decide := true) only [fillAct, List.mapIdx_cons, List.mapIdx_nil, Nat.reduceAdd, if_true, if_false, List.getD_cons_zero, List.getD_cons_succ]
            · clear hd ho
              go_wp2_with fail
              exact ⟨rfl, gb_refl _ _, rfl⟩
            · clear hd ho
              go_wp2_with fail
              exact ⟨rfl, gb_refl _ _, rfl⟩
            · have h0 : u 72 = .slice (some ⟨b3, o3, none⟩) m c3 := hd 0 (by kernel_rfl)
              have h1 : u 73 = .int .i64 (q : Int) := hd 1 (by kernel_rfl)
              clear hd ho
              rw [h0, h1]
              go_wp2_with fail
              exact ⟨rfl, gb_refl _ _, rfl⟩
            · have h2 : u 74 = .pointer (some ⟨b3, o3 + q, none⟩) := hd 2 (by kernel_rfl)
              clear hd ho
              rw [h2]
              have e1 := cell_grown (row := none) hg HCX.out (by simp)
              go_wp2_with fail
              exact ⟨rfl, gb_refl _ _, rfl⟩
            · have h3 : u 75 = .slice Ax nx cx := hd 3 (by kernel_rfl)
              clear hd ho
              rw [h3]
              have hv1 : RdB (fun b => b < w'.heap.size) w' (.slice Ax nx cx) tx := RL.gr HLX.out hg
              go_wp2_with ((with_reducible refine wpList_conv_bs (x := .tmp 75) (v := .slice Ax nx cx) Try.underlying27 Try.underlying5 Try.underlying9 tx (by kernel_rfl) hv1 ?_))
              exact ⟨rfl, gb_refl _ _, rfl⟩
            · clear hd ho
              go_wp2_with fail
              exact ⟨rfl, gb_refl _ _, rfl⟩
            · clear hd ho
              go_wp2_with fail
              exact ⟨rfl, gb_refl _ _, rfl⟩
            · have h5 : u 77 = .slice (some ⟨b4, o4, none⟩) m c4 := hd 5 (by kernel_rfl)
              have h6 : u 78 = .int .i64 (q : Int) := hd 6 (by kernel_rfl)
              clear hd ho
              rw [h5, h6]
              go_wp2_with fail
              exact ⟨rfl, gb_refl _ _, rfl⟩
            · have h7 : u 79 = .pointer (some ⟨b4, o4 + q, none⟩) := hd 7 (by kernel_rfl)
              clear hd ho
              rw [h7]
              have e1 := cell_grown (row := none) hg HCY.out (by simp)
              go_wp2_with fail
              exact ⟨rfl, gb_refl _ _, rfl⟩
            · have h8 : u 80 = .slice Ay ny cy := hd 8 (by kernel_rfl)
              clear hd ho
              rw [h8]
              have hv1 : RdB (fun b => b < w'.heap.size) w' (.slice Ay ny cy) ty := RL.gr HLY.out hg
              go_wp2_with ((with_reducible refine wpList_conv_bs (x := .tmp 80) (v := .slice Ay ny cy) Try.underlying27 Try.underlying5 Try.underlying9 ty (by kernel_rfl) hv1 ?_))
              exact ⟨rfl, gb_refl _ _, rfl⟩
          case fin9 =>
            intro u w10 hg hφ
            have h76 : u 76 = sv tx := hφ 4 (by omega)
            have h81 : u 81 = sv ty := hφ 9 (by omega)
            simp (decide := true) only [fillAct, List.mapIdx_cons, List.mapIdx_nil, Nat.reduceAdd, if_true, if_false, List.drop_succ_cons, List.drop_zero]
            rw [h76, h81]
            clear hφ
            have HGA := Go.Lib.hid (gb_trans HGW.out hg)
            by_cases hxy : tx = ty
            · have hne : (!(tx == ty)) = false := by rw [hxy, beq_self_eq_true]; rfl
              have HXY := Go.Lib.hid hxy
              clear hxy
              go_wp2_with ((with_reducible refine wpList_neq_sv (x := .tmp 76) (y := .tmp 81) tx ty false hne (by kernel_rfl) (by kernel_rfl) ?_))
              go_roundw
              case rel =>
                refine ⟨q, rfl, by omega, Go.Lib.hid fun t h1 h2 => ?_, HGA⟩
                rcases Nat.eq_or_lt_of_le h1 with h | h
                · subst h; rw [HTX.out, HTY.out, HXY.out]
                · exact HSM.out t h h2
              case measure => simp only [intOf]; omega
            · have hne : (!(tx == ty)) = true := by rw [beq_eq_false_iff_ne.2 hxy]; rfl
              have HXY := Go.Lib.hid hxy
              have HCXa := Go.Lib.hid (cell_grown (row := none) hg HCX.out (by simp))
              have HCYa := Go.Lib.hid (cell_grown (row := none) hg HCY.out (by simp))
              have HLXa := Go.Lib.hid (RL.gr HLX.out hg)
              have HLYa := Go.Lib.hid (RL.gr HLY.out hg)
              clear hxy HCX HCY HLX HLY
              go_upto_region 10 with ((with_reducible refine wpList_neq_sv (x := .tmp 76) (y := .tmp 81) tx ty true hne (by kernel_rfl) (by kernel_rfl) ?_))
              simp only [Act.put, List.setIfInBounds_toArray, List.set_cons_zero, List.set_cons_succ]
              clear hne h76 h81 hd0
              refine wp_region_specs 9 [83, 84, 85, 86, 87, 88, 89, 90, 91] (by kernel_rfl) (by kernel_rfl) (en10φ b3 o3 c3 b4 o4 c4 m q nx cx ny cy Ax Ay) (en10φ_gr b3 o3 c3 b4 o4 c4 m q nx cx ny cy Ax Ay) ?step10 ?fin10
              case step10 =>
                intro i_ o_ ho hi_ u w' hg hd
                rcases (by omega : i_ = 0 ∨ i_ = 1 ∨ i_ = 2 ∨ i_ = 3 ∨ i_ = 4 ∨ i_ = 5 ∨ i_ = 6 ∨ i_ = 7 ∨ i_ = 8) with rfl | rfl | rfl | rfl | rfl | rfl | rfl | rfl | rfl <;> obtain rfl := Option.some.inj ho <;>
                  simp (decide := true) only [fillAct, List.mapIdx_cons, List.mapIdx_nil, Nat.reduceAdd, if_true, if_false, List.getD_cons_zero, List.getD_cons_succ]
                · clear hd ho
                  go_wp2_with fail
                  exact ⟨rfl, gb_refl _ _, rfl⟩
                · clear hd ho
                  go_wp2_with fail
                  exact ⟨rfl, gb_refl _ _, rfl⟩
                · have h0 : u 83 = .slice (some ⟨b3, o3, none⟩) m c3 := hd 0 (by kernel_rfl)
                  have h1 : u 84 = .int .i64 (q : Int) := hd 1 (by kernel_rfl)
                  clear hd ho
                  rw [h0, h1]
                  go_wp2_with fail
                  exact ⟨rfl, gb_refl _ _, rfl⟩
                · have h2 : u 85 = .pointer (some ⟨b3, o3 + q, none⟩) := hd 2 (by kernel_rfl)
                  clear hd ho
                  rw [h2]
                  have e1 := cell_grown (row := none) hg HCXa.out (by simp)
                  go_wp2_with fail
                  exact ⟨rfl, gb_refl _ _, rfl⟩
                · clear hd ho
                  go_wp2_with fail
                  exact ⟨rfl, gb_refl _ _, rfl⟩
                · clear hd ho
                  go_wp2_with fail
                  exact ⟨rfl, gb_refl _ _, rfl⟩
                · have h4 : u 87 = .slice (some ⟨b4, o4, none⟩) m c4 := hd 4 (by kernel_rfl)
                  have h5 : u 88 = .int .i64 (q : Int) := hd 5 (by kernel_rfl)
                  clear hd ho
                  rw [h4, h5]
                  go_wp2_with fail
                  exact ⟨rfl, gb_refl _ _, rfl⟩
                · have h6 : u 89 = .pointer (some ⟨b4, o4 + q, none⟩) := hd 6 (by kernel_rfl)
                  clear hd ho
                  rw [h6]
                  have e1 := cell_grown (row := none) hg HCYa.out (by simp)
                  go_wp2_with fail
                  exact ⟨rfl, gb_refl _ _, rfl⟩
                · have h3 : u 86 = .slice Ax nx cx := hd 3 (by kernel_rfl)
                  have h7 : u 90 = .slice Ay ny cy := hd 7 (by kernel_rfl)
                  clear hd ho
                  rw [h3, h7]
                  go_wp2_with ((with_reducible refine wpList_build_pair (x := .tmp 86) (y := .tmp 90) (A1 := Ax) (A2 := Ay) (n1 := nx) (n2 := ny) (c1 := cx) (c2 := cy) (by kernel_rfl) (by kernel_rfl) ?_))
                  exact ⟨rfl, gb_refl _ _, rfl⟩
              case fin10 =>
                intro u' w11 hg' hφ
                have h91 : u' 91 = .agg #[.slice Ax nx cx, .slice Ay ny cy] := hφ 8 (by omega)
                simp (decide := true) only [fillAct, List.mapIdx_cons, List.mapIdx_nil, Nat.reduceAdd, if_true, if_false, List.drop_succ_cons, List.drop_zero]
                rw [h91]
                clear hφ
                have hbk := (HB9.out.grown HGA.out (by simp)).grown hg' (by simp)
                go_wp2_with ((with_reducible refine wpList_store_bk (t := 29) b0 29 pairZ [.slice Ax nx cx, .slice Ay ny cy] hbk (by kernel_rfl) (by kernel_rfl) (pairSize _ _) rfl (pairOne _ _ _ _ _ _) ?_); intro w12 h12 g12 z12)
                try go_frame
                have hkeep : ∀ (A : Option Addr) (k cc : Nat) (l : List UInt8), RL w10 (.slice A k cc) l → RL w12 (.slice A k cc) l := fun A k cc l h => (RL.gr h hg').past hbk g12
                refine bodyPost_ret (results_pair rfl _ _ b0 _ _ rfl h12) rfl ⟨_, _, tx, ty, true, rfl, hkeep _ _ _ _ HLXa.out, hkeep _ _ _ _ HLYa.out, ⟨fun _ => ⟨⟨p, rfl, by rw [← HN.out]; exact hpn⟩, ?_, HXY.out, ?_, ?_, ?_⟩, fun h => by cases h⟩, gb_trans_new (gb_trans (gb_trans HG9.out HGA.out) hg') g12 hbw⟩
                · have := HD.out; rw [HN.out, HX.out] at this; exact this.symm
                · have := textsR_pair (sumC c) x e _ _ _ _ _ _ HT1.out HT2.out HR12.out q (by rw [HM1.out]; exact hqm) (fun t h1 h2 => HSM.out t h1 (by rw [← HM1.out]; exact h2))
                  rw [List.getD_eq_getElem?_getD, List.getD_eq_getElem?_getD, HTX.out, HTY.out] at this
                  exact this
                · have := textsR_each _ _ _ _ _ _ HT1.out tx (List.mem_of_getElem? HTX.out); have := HXL.out; omega
                · have := textsR_each _ _ _ _ _ _ HT2.out ty (List.mem_of_getElem? HTY.out); have := HEE.out; omega
  · have hout : a < 0 ∨ (n : Int) ≤ a := by omega
    have hway : Calls Try.prog 27 #[.int .i64 c, .slice A0 n c0, .int .i64 a] W fun e w' => e = .returned (.tuple #[.slice none 0 0, .int .i64 1]) ∧ W.grownBy w' none :=
      sway_out c (.slice A0 n c0) ls a W HV.out HLE.out.2 (by rw [← HN.out]; exact hout)
    have hbk := HBK.out
    go_wp2_with (first
      | ((with_reducible refine wpList_alloc_row (E := 29) pairZ infoPair ?_); rw [← HW.out])
      | (go_at_call 27; ((with_reducible refine hway.mono ?_); rintro E w5 ⟨rfl, g5⟩); have hb5 := hbk.grown g5 (by simp))
      | ((with_reducible refine wpList_build_pair0 ?_))
      | (rw [← HBE.out]; (with_reducible refine wpList_store_bk (t := 29) b0 29 pairZ pairZ hb5 (by kernel_rfl) (by kernel_rfl) pairZSize rfl pairZOne ?_); intro w8 h8 g8 z8))
    try go_frame
    refine bodyPost_ret (results_pair rfl _ _ b0 (.slice none 0 0) (.slice none 0 0) rfl h8) rfl ⟨_, _, [], [], false, rfl, RL.nil _, RL.nil _, ⟨(fun h => by cases h), fun _ q hq hql _ => ?_⟩, gb_trans_new (gb_trans HG0.out g5) g8 hbw⟩
    exact absurd ⟨by omega, by rw [hq, HN.out]; omega⟩ hin
end Go.Proofs.Ytajgklomcapboaa
/- ShortEntry: the walk. -/
namespace Sc
open Go Go.RowKit
theorem RdBB.mono7 {NB NB' : Nat → Prop} {w : World} {v : Value} {ls : List (List UInt8)} (h : RdBB NB w v ls) (hN : ∀ b, NB b → NB' b) : RdBB NB' w v ls := by
  obtain ⟨vs, h1, h2⟩ := h
  refine ⟨vs, h1.mono hN, fun j l hl => ?_⟩
  obtain ⟨u, hu, hr⟩ := h2 j l hl
  exact ⟨u, hu, Rd.mono hr hN⟩
end Sc
namespace Go.Proofs.Ytajgklomcapboaa
open Go.RowKit Go.Shelf Sc
def sh1φ (_b10 nA c2 : Nat) (A2 : Option Addr) (c : Int) (y X : Sc.Id) (D2 : Bool) (i : Nat) (v : Value) (_w : World) : Prop := match i with
  | 0 => v = .bool true
  | 1 => v = .bool false
  | 2 => v = .bool false
  | 3 => v = idv y
  | 4 => v = .int .i64 c
  | 5 => v = .slice A2 nA c2
  | 6 => v = idv X
  | 7 => v = .bool D2
  | _ => True
theorem sh1φ_gr (b10 nA c2 : Nat) (A2 : Option Addr) (c : Int) (y X : Sc.Id) (D2 : Bool) : ∀ i v w w', sh1φ b10 nA c2 A2 c y X D2 i v w → Gr w w' → sh1φ b10 nA c2 A2 c y X D2 i v w' := by
  intro i v w w' h hg
  match i with
  | 0 => exact h
  | 1 => exact h
  | 2 => exact h
  | 3 => exact h
  | 4 => exact h
  | 5 => exact h
  | 6 => exact h
  | 7 => exact h
  | i + 8 => exact h
def sh0φ (_n : Nat) (i : Nat) (v : Value) (_w : World) : Prop := match i with
  | 0 => v = .bool false
  | 1 => v = .bool true
  | 2 => v = .bool true
  | 3 => v = undef
  | 4 => v = undef
  | 5 => v = undef
  | 6 => v = undef
  | 7 => v = undef
  | _ => True
theorem sh0φ_gr (n : Nat) : ∀ i v w w', sh0φ n i v w → Gr w w' → sh0φ n i v w' := by
  intro i v w w' h hg
  match i with
  | 0 => exact h
  | 1 => exact h
  | 2 => exact h
  | 3 => exact h
  | 4 => exact h
  | 5 => exact h
  | 6 => exact h
  | 7 => exact h
  | i + 8 => exact h
def sh5φ (b5 q ce b2 o2 nA c2 p np cp : Nat) (Ae Ap : Option Addr) (c : Int) (e : List UInt8) (path : List Sc.Id) (i : Nat) (v : Value) (w : World) : Prop := match i with
  | 0 => v = .pointer (some ⟨b5, 1, none⟩)
  | 1 => v = .slice Ae q ce
  | 2 => v = sv e
  | 3 => v = .slice (some ⟨b2, o2, none⟩) nA c2
  | 4 => v = .pointer (some ⟨b5, 0, none⟩)
  | 5 => v = .int .i64 (p : Int)
  | 6 => v = .pointer (some ⟨b2, o2 + p, none⟩)
  | 7 => v = sv e
  | 8 => v = .bool true
  | 9 => v = .bool true
  | 10 => v = .pointer (some ⟨b5, 2, none⟩)
  | 11 => v = .slice Ap np cp
  | 12 => v = .int .i64 c
  | 13 => v = .slice (some ⟨b2, o2, none⟩) nA c2
  | 14 => v = .pointer (some ⟨b5, 0, none⟩)
  | 15 => v = .int .i64 (p : Int)
  | 16 => ∃ A n c, v = .slice A n c ∧ RI w (.slice A n c) path
  | 17 => v = .bool true
  | 18 => v = .bool true
  | _ => True
theorem sh5φ_gr (b5 q ce b2 o2 nA c2 p np cp : Nat) (Ae Ap : Option Addr) (c : Int) (e : List UInt8) (path : List Sc.Id) : ∀ i v w w', sh5φ b5 q ce b2 o2 nA c2 p np cp Ae Ap c e path i v w → Gr w w' → sh5φ b5 q ce b2 o2 nA c2 p np cp Ae Ap c e path i v w' := by
  intro i v w w' h hg
  match i with
  | 0 => exact h
  | 1 => exact h
  | 2 => exact h
  | 3 => exact h
  | 4 => exact h
  | 5 => exact h
  | 6 => exact h
  | 7 => exact h
  | 8 => exact h
  | 9 => exact h
  | 10 => exact h
  | 11 => exact h
  | 12 => exact h
  | 13 => exact h
  | 14 => exact h
  | 15 => exact h
  | 16 => exact by obtain ⟨A, n, c, e, h⟩ := h; exact ⟨A, n, c, e, RI.gr h hg⟩
  | 17 => exact h
  | 18 => exact h
  | i + 19 => exact h

set_option maxHeartbeats 8000000 in
set_option maxRecDepth 100000 in
theorem shown7_walk (c a : Int) (va ve pv : Value) (la : List (List UInt8)) (e0 : List UInt8) (path : List Sc.Id) (w : World) (ha : RLL w va la) (hve : RL w ve e0) (hvp : RI w pv path) :
    Calls Try.prog 7 #[.int .i64 c, va, .agg #[.int .i64 a, ve, pv]] w fun e w' => e = .returned (.bool true) ∧ w.grownBy w' none := by
  go_enter Try.func7, Try.ntmps7
  obtain ⟨A0, c0, rfl, _⟩ := (show ∃ A c9, va = .slice A la.length c9 ∧ la.length ≤ c9 from by obtain ⟨vs, h1, _⟩ := ha; exact Rd.form h1)
  obtain ⟨Ae, ce, rfl, hce⟩ := Rd.form hve
  obtain ⟨Ap, cp, rfl, _⟩ := Rd.form hvp
  have hmp := Rd.le hvp
  have hme := Rd.le hve
  obtain ⟨n0, hn0⟩ : ∃ n0, n0 = la.length := ⟨_, rfl⟩
  obtain ⟨ne, hne⟩ : ∃ ne, ne = e0.length := ⟨_, rfl⟩
  obtain ⟨np, hnp⟩ : ∃ np, np = path.length := ⟨_, rfl⟩
  obtain ⟨q, hq⟩ : ∃ q, min e0.length 100 = q := ⟨_, rfl⟩
  obtain ⟨e, he⟩ : ∃ e, e = e0.take 100 := ⟨_, rfl⟩
  have hel : e.length = q := by rw [he, List.length_take, Nat.min_comm]; exact hq
  have hq100 : q ≤ 100 := by omega
  have hrq : RL w (.slice Ae q ce) e := by rw [he]; exact RdB.takeTo hve 100 q hq
  rw [← hn0] at ha ⊢
  rw [← hne] at hq hce hme ⊢
  rw [← hnp] at hvp hmp ⊢
  obtain ⟨W, hW⟩ : ∃ W, W = w.alloc (.cells #[.int .i64 a, .slice Ae ne ce, .slice Ap np cp] 59) := ⟨_, rfl⟩
  obtain ⟨b5, hb5⟩ : ∃ b5, b5 = w.heap.size := ⟨_, rfl⟩
  have hbk : Bk W b5 59 [.int .i64 a, .slice Ae ne ce, .slice Ap np cp] := by rw [hW, hb5]; exact Bk.new w _ _
  have g0 : w.grownBy W none := by rw [hW]; exact gb_alloc (gb_refl w none) _
  have HA : Hid (RdBB (fun b => b < b5) W (.slice A0 n0 c0) la) := Go.Lib.hid (by rw [hb5]; exact RdBB.grown ha g0 (by simp))
  have HE : Hid (RdB (fun b => b < b5) W (.slice Ae q ce) e) := Go.Lib.hid (by rw [hb5]; exact Rd.grown hrq g0 (by simp))
  have HP : Hid (RdI (fun b => b < b5) W (.slice Ap np cp) path) := Go.Lib.hid (by rw [hb5]; exact Rd.grown hvp g0 (by simp))
  have HW := Go.Lib.hid hW
  have HBE := Go.Lib.hid hb5
  have HG0 := Go.Lib.hid g0
  have HBK := Go.Lib.hid hbk
  have HNP := Go.Lib.hid hnp
  have HEL := Go.Lib.hid hel
  have hnpI : (0 : Int) ≤ (np : Int) ∧ (np : Int) ≤ 9223372036854775807 ∧ (0 : Int) ≤ (ne : Int) ∧ (ne : Int) ≤ 9223372036854775807 := by unfold maxLen at hmp hme; omega
  have hqI : (0 : Int) ≤ (q : Int) ∧ (q : Int) ≤ (ne : Int) ∧ (ne : Int) ≤ (ce : Int) := by omega
  clear hve hvp ha hne hnp he hrq hW hb5 g0 hbk hel hmp hme
  obtain ⟨fa, hfa⟩ : ∃ fa, fa = few la := ⟨_, rfl⟩
  have HFA := Go.Lib.hid (by rw [hfa]; exact ⟨few_len la, few_each la⟩ : fa.length ≤ 20 ∧ ∀ l ∈ fa, l.length ≤ 100)
  have hfew : ∀ w', b5 ≤ w'.heap.size → RdBB (fun b => b < b5) w' (.slice A0 n0 c0) la → Calls Try.prog 16 #[.slice A0 n0 c0] w' fun E w2 => ∃ A c A2 c2, E = .returned (.tuple #[.slice A fa.length c, .slice A2 fa.length c2]) ∧
      OwBB w'.heap.size (fun b => b < b5) w2 (.slice A fa.length c) fa ∧ Ow w'.heap.size w2 1 (.slice A2 fa.length c2) fa.length (fa.map sv) ∧ w'.grownBy w2 none := fun w' hb h => by rw [hfa]; exact few_ow _ la _ w' h (fun b hb' => Nat.lt_of_lt_of_le hb' hb)
  obtain ⟨nA, hnA⟩ : ∃ n, n = fa.length := ⟨_, rfl⟩
  rw [← hnA] at hfew
  have HNA := Go.Lib.hid hnA
  have HFEW := Go.Lib.hid hfew
  have hnI : (0 : Int) ≤ (nA : Int) ∧ (nA : Int) ≤ 20 := by have := HFA.out.1; omega
  clear hfa hnA hfew hn0
  by_cases h70 : 70 < np
  · have d0 : decide ((np : Int) > 70) = true := decide_eq_true (by omega)
    have d0' : decide ((70 : Int) < (np : Int)) = true := decide_eq_true (by omega)
    go_upto_region 3 with (go_at_call 15; (rw [← HW.out]; (with_reducible refine (cuts_any _).mono ?_); rintro E w1 ⟨rfl, g1⟩))
    rw [← HBE.out]
    have k2 := (HBK.out.grown g1 (by simp)).cellAt (i := 2) rfl
    go_wp2_with fail
    go_ret
    exact ⟨rfl, gb_trans HG0.out g1⟩
  · have d0 : decide ((np : Int) > 70) = false := decide_eq_false (by omega)
    have d0' : decide ((70 : Int) < (np : Int)) = false := decide_eq_false (by omega)
    go_upto_region 3 with (go_at_call 15; (rw [← HW.out]; (with_reducible refine (cuts_any _).mono ?_); rintro E w1 ⟨rfl, g1⟩))
    rw [← HBE.out]
    have hb1 := HBK.out.grown g1 (by simp)
    have hbs := hb1.lt
    have hfc := HFEW.out w1 (Nat.le_of_lt hbs) (RdBB.grown HA.out g1 (by simp))
    have HB1 := Go.Lib.hid hb1
    have k2 := hb1.cellAt (i := 2) rfl
    go_upto_region 6 with (go_at_call 16; ((with_reducible refine hfc.mono ?_); rintro E w2 ⟨A1, c1, A2, c2, rfl, hl2, ht2, g2⟩))
    have hb2 := HB1.out.grown g2 (by simp)
    have hl2' : RdBB (fun b => b ≠ b5 ∧ b < w2.heap.size) w2 (.slice A1 nA c1) fa := hl2.rd (fun b hb => ⟨by omega, Nat.lt_of_lt_of_le hb (Nat.le_trans (Nat.le_of_lt hbs) g2.size)⟩) (fun b hb => by obtain ⟨vs, h1, _⟩ := hl2; have := h1.lt hb; exact ⟨by omega, this.2⟩)
    have ht2' : Rd (fun b => b ≠ b5 ∧ b < w2.heap.size) w2 1 (.slice A2 nA c2) nA (fa.map sv) := ht2.rd (fun b hb => by have := ht2.lt hb; exact ⟨by omega, this.2⟩)
    have he2 : RdB (fun b => b ≠ b5 ∧ b < w2.heap.size) w2 (.slice Ae q ce) e := Rd.mono (Rd.grown (Rd.grown HE.out g1 (by simp)) g2 (by simp)) fun b hb => ⟨by omega, Nat.lt_of_lt_of_le hb (Nat.le_trans (Nat.le_of_lt hbs) g2.size)⟩
    have hp2 : RdI (fun b => b ≠ b5 ∧ b < w2.heap.size) w2 (.slice Ap np cp) path := Rd.mono (Rd.grown (Rd.grown HP.out g1 (by simp)) g2 (by simp)) fun b hb => ⟨by omega, Nat.lt_of_lt_of_le hb (Nat.le_trans (Nat.le_of_lt hbs) g2.size)⟩
    have HL2 := Go.Lib.hid hl2'
    have HT2 := Go.Lib.hid ht2'
    have HE2 := Go.Lib.hid he2
    have HP2 := Go.Lib.hid hp2
    have HG2 := Go.Lib.hid (gb_trans (gb_trans HG0.out g1) g2)
    have HB2 := Go.Lib.hid hb2
    have k1 := hb2.cellAt (i := 1) rfl
    have f1 := hb2.frozen 1
    clear k2 hl2 ht2 hl2' ht2' he2 hp2 hb1 hbs hfc g1 g2 HFEW HA HE HP HB1 hb2
    go_upto_region 7 with ((with_reducible refine wpList_min (x := .tmp 27) ne 100 q hq (by kernel_rfl) (by kernel_rfl) ?_))
    obtain ⟨w3, hw3⟩ : ∃ w3, w3 = w2.setCell ⟨b5, 1, none⟩ (.slice Ae q ce) := ⟨_, rfl⟩
    rw [← hw3]
    have g3 : w2.grownBy w3 (some b5) := by rw [hw3]; exact gb_set1 w2 ⟨b5, 1, none⟩ _
    have hb3 : Bk w3 b5 59 [.int .i64 a, .slice Ae q ce, .slice Ap np cp] := by rw [hw3]; exact HB2.out.set 1 _
    have hS := g3.size
    have HL3 : Hid (RLL w3 (.slice A1 nA c1) fa) := Go.Lib.hid ((RdBB.grown HL2.out g3 (fun r e h => by cases e; exact h.1 rfl)).mono7 fun b hb => Nat.lt_of_lt_of_le hb.2 hS)
    have HT3 : Hid (RSS w3 (.slice A2 nA c2) fa) := Go.Lib.hid (by unfold RSS; rw [← HNA.out]; exact Rd.mono (Rd.grown HT2.out g3 (fun r e h => by cases e; exact h.1 rfl)) fun b hb => Nat.lt_of_lt_of_le hb.2 hS)
    have HE3 : Hid (RL w3 (.slice Ae q ce) e) := Go.Lib.hid (Rd.mono (Rd.grown HE2.out g3 (fun r e h => by cases e; exact h.1 rfl)) fun b hb => Nat.lt_of_lt_of_le hb.2 hS)
    have HP3 : Hid (RI w3 (.slice Ap np cp) path) := Go.Lib.hid (Rd.mono (Rd.grown HP2.out g3 (fun r e h => by cases e; exact h.1 rfl)) fun b hb => Nat.lt_of_lt_of_le hb.2 hS)
    have HG3 := Go.Lib.hid (gb_trans_new HG2.out g3 (by rw [HBE.out]; exact Nat.le_refl _))
    have HB3 := Go.Lib.hid hb3
    have c0 := hb3.cellAt (i := 0) rfl
    have c1' := hb3.cellAt (i := 1) rfl
    have c2' := hb3.cellAt (i := 2) rfl
    have hent : Calls Try.prog 31 #[.int .i64 c, .slice A1 nA c1, .slice Ae q ce, .int .i64 a, .slice Ap np cp] w3 (ERes c fa e a path w3) :=
      sentry_any c a _ _ _ fa e path w3 HL3.out HE3.out HP3.out HFA.out.2 HFA.out.1 (by rw [HEL.out]; exact hq100) (by rw [← HNP.out]; omega)
    clear hw3 g3 hb3 hS HL2 HT2 HE2 HP2 HG2 HB2 k1 f1
    go_upto_region 8 with (first
      | (go_at_call 31; ((with_reducible refine hent.mono ?_); rintro E w4 ⟨v1, v2, l1, l2, ok, rfl, r1, r2, ho, g4⟩); obtain ⟨B1, e1, rfl, _⟩ := Rd.form r1; obtain ⟨B2, e2, rfl, _⟩ := Rd.form r2; have bx := Bk.new w4 29 pairZ)
      | ((with_reducible refine wpList_alloc_row (E := 29) pairZ infoPair ?_))
      | ((with_reducible refine wpList_store_bk (t := 29) w4.heap.size 29 pairZ [.slice B1 l1.length e1, .slice B2 l2.length e2] bx (by kernel_rfl) (by kernel_rfl) (pairSize _ _) rfl (pairOne _ _ _ _ _ _) ?_); intro w5 h5 g5 z5))
    have gx := gb_trans_new (gb_alloc (gb_refl w4 none) (.cells pairZ.toArray 29)) g5 (Nat.le_refl _)
    have g35 := gb_trans g4 gx
    have hr1 := RL.gr r1 gx
    have hr2 := RL.gr r2 gx
    obtain ⟨m1, hm1⟩ : ∃ m, m = l1.length := ⟨_, rfl⟩
    obtain ⟨m2, hm2⟩ : ∃ m, m = l2.length := ⟨_, rfl⟩
    rw [← hm1] at hr1 h5 ⊢
    rw [← hm2] at hr2 h5 ⊢
    obtain ⟨b8, hb8⟩ : ∃ b, b = w4.heap.size := ⟨_, rfl⟩
    rw [← hb8] at h5 ⊢
    have HT5 := Go.Lib.hid (RSS.gr HT3.out g35)
    have HL5 := Go.Lib.hid (RLL.gr HL3.out g35)
    have HE5 := Go.Lib.hid (RL.gr HE3.out g35)
    have HP5 := Go.Lib.hid (RI.gr HP3.out g35)
    have HG5 := Go.Lib.hid (gb_trans HG3.out g35)
    have hb5' := HB3.out.grown g35 (by simp)
    have HB5 := Go.Lib.hid hb5'
    have HPR := Go.Lib.hid h5
    have HR1 := Go.Lib.hid hr1
    have HR2 := Go.Lib.hid hr2
    have HO := Go.Lib.hid ho
    clear gx g35 g4 g5 z5 bx r1 r2 hr1 hr2 hm1 hm2 hb8 h5 ho hent HL3 HT3 HE3 HP3 HG3 HB3 c0 c1' c2'
    have c0 := hb5'.cellAt (i := 0) rfl
    have c1' := hb5'.cellAt (i := 1) rfl
    have c2' := hb5'.cellAt (i := 2) rfl
    rcases (by omega : (a < 0 ∨ (0 ≤ a ∧ ((nA : Int) ≤ a ∨ (a < (nA : Int) ∧ 64 < np)))) ∨ (0 ≤ a ∧ a < (nA : Int) ∧ np ≤ 64)) with hg | ⟨ha0, han, hp⟩
    · have hok : ok = false := by
        cases ok with
        | false => rfl
        | true =>
          obtain ⟨⟨p, hp1, hp2⟩, hl, _⟩ := HO.out.1 rfl
          unfold leadsB at hl
          rw [if_pos (by rw [← HNP.out, ← HNA.out]; rw [← HNA.out] at hp2; omega)] at hl
          cases hl
      subst hok
      rcases hg with h | ⟨h1, h | ⟨h2, h⟩⟩
      all_goals
        first
          | (have d1 : decide (a < 0) = true := decide_eq_true (by omega))
          | (have d1 : decide (a < 0) = false := decide_eq_false (by omega)
             first
               | (have d2 : decide ((nA : Int) ≤ a) = true := decide_eq_true (by omega)
                  have d2' : decide (a ≥ (nA : Int)) = true := decide_eq_true (by omega))
               | (have d2 : decide ((nA : Int) ≤ a) = false := decide_eq_false (by omega)
                  have d2' : decide (a ≥ (nA : Int)) = false := decide_eq_false (by omega)
                  have d4 : decide ((np : Int) > 64) = true := decide_eq_true (by omega)
                  have d4' : decide ((64 : Int) < (np : Int)) = true := decide_eq_true (by omega)
                  have d4'' : decide (64 < np) = true := decide_eq_true (by omega)))
        go_wp2_with fail
        go_ret
        exact ⟨rfl, HG5.out⟩
    · obtain ⟨p, rfl⟩ : ∃ p : Nat, a = (p : Int) := ⟨a.toNat, by omega⟩
      have hpn : p < nA := by omega
      have d1 : decide ((p : Int) < 0) = false := decide_eq_false (by omega)
      have d2 : decide ((nA : Int) ≤ (p : Int)) = false := decide_eq_false (by omega)
      have d2' : decide ((p : Int) ≥ (nA : Int)) = false := decide_eq_false (by omega)
      have d4 : decide ((np : Int) > 64) = false := decide_eq_false (by omega)
      have d4' : decide ((64 : Int) < (np : Int)) = false := decide_eq_false (by omega)
      have d4'' : decide (64 < np) = false := decide_eq_false (by omega)
      obtain ⟨X, hX⟩ : ∃ X, X = rootH (sumC c) fa := ⟨_, rfl⟩
      have HX := Go.Lib.hid hX
      have hlb : leadsB (sumC c) e (p : Int) (nA : Int) path X = match textsR (sumC c) e p nA path.reverse with | none => false | some l => (sumC c (l.getLastD [])).l == X.l := leadsB_ok7 (by rw [← HNP.out]; omega)
      have HLB := Go.Lib.hid hlb
      have HRL : Hid (∀ w', RI w' (.slice Ap np cp) path → Calls Try.prog 23 #[.int .i64 c, sv e, .int .i64 (p : Int), .int .i64 (nA : Int), .slice Ap np cp] w' (RLds c e p nA path.reverse w')) := Go.Lib.hid fun w' h =>
        rleads_any c e (by rw [HEL.out]; omega) path.reverse p nA _ w' (by rw [List.reverse_reverse]; exact h) (by omega) (by omega) (by omega) (by rw [List.length_reverse, ← HNP.out]; omega)
      have HRROOT : Hid (∀ w', RSS w' (.slice A2 nA c2) fa → Calls Try.prog 18 #[.int .i64 c, .slice A2 nA c2] w' fun E w2 => E = .returned (idv X) ∧ w'.grownBy w2 none) := Go.Lib.hid fun w' h => by
        rw [hX]; exact rroot_any c _ fa w' h (fun l hl => Nat.le_trans (HFA.out.2 l hl) (by decide)) (Nat.le_trans HFA.out.1 (by decide))
      have hr5 : RdB (fun b => b < w5.heap.size) w5 (.slice Ae q ce) e := HE5.out
      clear hX hlb
      go_upto_region 11 with (first
        | ((with_reducible refine wpList_conv_bs (x := .tmp 64) (v := .slice Ae q ce) Try.underlying27 Try.underlying5 Try.underlying9 e (by kernel_rfl) hr5 ?_))
        | (go_at_call 23; ((with_reducible refine (HRL.out _ HP5.out).mono ?_); rintro E w6 ⟨y, ok2, rfl, g6, hm⟩); have bx := Bk.new w6 34 idZ)
        | ((with_reducible refine wpList_alloc_row (E := 34) idZ infoId ?_))
        | ((with_reducible refine wpList_store_bk (t := 34) w6.heap.size 34 idZ (y.l.map bv) bx (by kernel_rfl) (by kernel_rfl) (idSize _) (idLen _) (idOne _) ?_); intro w7 h7 g7 z7))
      have gy := gb_trans_new (gb_alloc (gb_refl w6 none) (.cells idZ.toArray 34)) g7 (Nat.le_refl _)
      have g57 := gb_trans g6 gy
      obtain ⟨b10, hb10⟩ : ∃ b, b = w6.heap.size := ⟨_, rfl⟩
      rw [← hb10] at h7 ⊢
      have hB5 := HB5.out.grown g57 (by simp)
      have hPR := HPR.out.grown g57 (by simp)
      have hTS := RSS.gr HT5.out g57
      have HTS := Go.Lib.hid hTS
      have HLE := Go.Lib.hid (RL.gr HE5.out g57)
      have HPW := Go.Lib.hid (RI.gr HP5.out g57)
      have HR1a := Go.Lib.hid (RL.gr HR1.out g57)
      have HR2a := Go.Lib.hid (RL.gr HR2.out g57)
      have HG7 := Go.Lib.hid (gb_trans HG5.out g57)
      have HC0 := Go.Lib.hid (hB5.cellAt (i := 0) rfl)
      have HC1 := Go.Lib.hid (hB5.cellAt (i := 1) rfl)
      have HC2 := Go.Lib.hid (hB5.cellAt (i := 2) rfl)
      have HPR7 := Go.Lib.hid hPR
      have H10 := Go.Lib.hid h7
      have HM := Go.Lib.hid hm
      clear gy g57 g6 g7 z7 bx hb10 h7 hB5 hPR hTS hm c0 c1' c2' hb5' HB5 HPR HT5 HE5 HP5 HR1 HR2 HG5 hr5 HL5 HRL
      cases ok2 with
      | false =>
        have hok : ok = false := by
          cases ok with
          | false => rfl
          | true =>
            obtain ⟨_, hl, _⟩ := HO.out.1 rfl
            rw [← HNA.out, ← HX.out, HLB.out] at hl
            rcases HM.out with ⟨h, _⟩ | ⟨l, _, h, _⟩
            · rw [h] at hl; cases hl
            · cases h
        subst hok
        refine wp_region_specs 8 [75, 76, 77, 78, 79, 80, 81, 82] (by kernel_rfl) (by kernel_rfl) (sh0φ 0) (sh0φ_gr 0) ?step0 ?fin0
        case step0 =>
          intro i_ o_ ho hi_ u w' hg hd
          rcases (by omega : i_ = 0 ∨ i_ = 1 ∨ i_ = 2 ∨ i_ = 3 ∨ i_ = 4 ∨ i_ = 5 ∨ i_ = 6 ∨ i_ = 7) with rfl | rfl | rfl | rfl | rfl | rfl | rfl | rfl <;> obtain rfl := Option.some.inj ho <;>
            simp (decide := true) only [fillAct, List.mapIdx_cons, List.mapIdx_nil, Nat.reduceAdd, if_true, if_false, List.getD_cons_zero, List.getD_cons_succ]
          · clear hd ho
            go_wp2_with fail
            exact ⟨rfl, gb_refl _ _, rfl⟩
          · have h0 : u 75 = .bool false := hd 0 (by kernel_rfl)
            clear hd ho
            rw [h0]
            go_wp2_with fail
            exact ⟨rfl, gb_refl _ _, rfl⟩
          · have h1 : u 76 = .bool true := hd 1 (by kernel_rfl)
            clear hd ho
            rw [h1]
            go_wp2_with fail
            exact ⟨rfl, gb_refl _ _, rfl⟩
          · have h2 : u 77 = .bool true := hd 2 (by kernel_rfl)
            clear hd ho
            rw [h2]
            refine wpList_unwanted (by rfl) ?_
            go_wp2_with fail
            exact ⟨rfl, gb_refl _ _, rfl⟩
          · have h2 : u 77 = .bool true := hd 2 (by kernel_rfl)
            clear hd ho
            rw [h2]
            refine wpList_unwanted (by rfl) ?_
            go_wp2_with fail
            exact ⟨rfl, gb_refl _ _, rfl⟩
          · have h2 : u 77 = .bool true := hd 2 (by kernel_rfl)
            clear hd ho
            rw [h2]
            refine wpList_unwanted (by rfl) ?_
            go_wp2_with fail
            exact ⟨rfl, gb_refl _ _, rfl⟩
          · have h2 : u 77 = .bool true := hd 2 (by kernel_rfl)
            clear hd ho
            rw [h2]
            refine wpList_unwanted (by rfl) ?_
            go_wp2_with fail
            exact ⟨rfl, gb_refl _ _, rfl⟩
          · have h2 : u 77 = .bool true := hd 2 (by kernel_rfl)
            clear hd ho
            rw [h2]
            refine wpList_unwanted (by rfl) ?_
            go_wp2_with fail
            exact ⟨rfl, gb_refl _ _, rfl⟩
        case fin0 =>
          intro u w8 hg hφ
          have hz : u 77 = .bool true := hφ 2 (by omega)
          have hz2 : u 82 = undef := hφ 7 (by omega)
          simp (decide := true) only [fillAct, List.mapIdx_cons, List.mapIdx_nil, Nat.reduceAdd, if_true, if_false, List.drop_succ_cons, List.drop_zero]
          rw [hz, hz2]
          clear hφ
          go_wp2_with fail
          go_ret
          exact ⟨rfl, gb_trans HG7.out hg⟩
      | true =>
        obtain ⟨ts, hts, hy⟩ : ∃ ts, textsR (sumC c) e p nA path.reverse = some ts ∧ y = sumC c (ts.getLastD []) := by
          rcases HM.out with ⟨_, h⟩ | ⟨l, h, _, h2⟩
          · cases h
          · exact ⟨l, h, h2⟩
        have hlv : leadsB (sumC c) e (p : Int) (nA : Int) path X = (y.l == X.l) := by rw [HLB.out, hts, hy]
        have HLV := Go.Lib.hid hlv
        clear hts hy hlv
        obtain ⟨D2, hD2⟩ : ∃ D2, (!(y.l == X.l)) = D2 := ⟨_, rfl⟩
        have HD2 := Go.Lib.hid hD2
        clear hD2
        refine wp_region_specs 8 [75, 76, 77, 78, 79, 80, 81, 82] (by kernel_rfl) (by kernel_rfl) (sh1φ b10 nA c2 A2 c y X D2) (sh1φ_gr b10 nA c2 A2 c y X D2) ?step1 ?fin1
        case step1 =>
          intro i_ o_ ho hi_ u w' hg hd
          rcases (by omega : i_ = 0 ∨ i_ = 1 ∨ i_ = 2 ∨ i_ = 3 ∨ i_ = 4 ∨ i_ = 5 ∨ i_ = 6 ∨ i_ = 7) with rfl | rfl | rfl | rfl | rfl | rfl | rfl | rfl <;> obtain rfl := Option.some.inj ho <;>
            simp (decide := true) only [fillAct, List.mapIdx_cons, List.mapIdx_nil, Nat.reduceAdd, if_true, if_false, List.getD_cons_zero, List.getD_cons_succ]
          · clear hd ho
            go_wp2_with fail
            exact ⟨rfl, gb_refl _ _, rfl⟩
          · have h0 : u 75 = .bool true := hd 0 (by kernel_rfl)
            clear hd ho
            rw [h0]
            go_wp2_with fail
            exact ⟨rfl, gb_refl _ _, rfl⟩
          · have h1 : u 76 = .bool false := hd 1 (by kernel_rfl)
            clear hd ho
            rw [h1]
            go_wp2_with fail
            exact ⟨rfl, gb_refl _ _, rfl⟩
          · have h2 : u 77 = .bool false := hd 2 (by kernel_rfl)
            clear hd ho
            rw [h2]
            refine wpList_guard (by rfl) ?_
            have h1 := H10.out.grown hg (by simp)
            go_wp2_with ((with_reducible refine wpList_load_bk (x := .tmp 10) (t := 34) b10 _ (y.l.map bv) _ h1 (by kernel_rfl) Try.underlying34 rfl (idSize _) ?_))
            exact ⟨rfl, gb_refl _ _, rfl⟩
          · have h2 : u 77 = .bool false := hd 2 (by kernel_rfl)
            clear hd ho
            rw [h2]
            refine wpList_guard (by rfl) ?_
            go_wp2_with fail
            exact ⟨rfl, gb_refl _ _, rfl⟩
          · have h2 : u 77 = .bool false := hd 2 (by kernel_rfl)
            clear hd ho
            rw [h2]
            refine wpList_guard (by rfl) ?_
            go_wp2_with fail
            exact ⟨rfl, gb_refl _ _, rfl⟩
          · have h2 : u 77 = .bool false := hd 2 (by kernel_rfl)
            have h4 : u 79 = .int .i64 c := hd 4 (by kernel_rfl)
            have h5 : u 80 = .slice A2 nA c2 := hd 5 (by kernel_rfl)
            clear hd ho
            rw [h2, h4, h5]
            refine wpList_guard (by rfl) ?_
            have hs1 := RSS.gr HTS.out hg
            go_wp2_with (go_at_call 18; ((with_reducible refine (HRROOT.out _ hs1).mono ?_); rintro e w3 ⟨rfl, g3⟩))
            exact ⟨rfl, g3, rfl⟩
          · have h2 : u 77 = .bool false := hd 2 (by kernel_rfl)
            have h3 : u 78 = idv y := hd 3 (by kernel_rfl)
            have h6 : u 81 = idv X := hd 6 (by kernel_rfl)
            clear hd ho
            rw [h2, h3, h6]
            refine wpList_guard (by rfl) ?_
            go_wp2_with ((with_reducible refine wpList_neq_id (x := .tmp 78) (y := .tmp 81) idEq y X (by kernel_rfl) (by kernel_rfl) ?_); rw [HD2.out])
            exact ⟨rfl, gb_refl _ _, rfl⟩
        case fin1 =>
          intro u w8 hg hφ
          have hz : u 77 = .bool false := hφ 2 (by omega)
          have hz2 : u 82 = .bool D2 := hφ 7 (by omega)
          simp (decide := true) only [fillAct, List.mapIdx_cons, List.mapIdx_nil, Nat.reduceAdd, if_true, if_false, List.drop_succ_cons, List.drop_zero]
          rw [hz, hz2]
          clear hφ hz hz2
          cases D2 with
          | true =>
            have hok : ok = false := by
              cases ok with
              | false => rfl
              | true =>
                obtain ⟨_, hl, _⟩ := HO.out.1 rfl
                rw [← HNA.out, ← HX.out, HLV.out] at hl
                have := HD2.out
                rw [hl] at this; cases this
            subst hok
            go_wp2_with fail
            go_ret
            exact ⟨rfl, gb_trans HG7.out hg⟩
          | false =>
            have hlt : leadsB (sumC c) e (p : Int) (fa.length : Int) path (rootH (sumC c) fa) = true := by
              have := HD2.out
              rw [← HNA.out, ← HX.out, HLV.out]
              cases h : (y.l == X.l) with
              | true => rfl
              | false => rw [h] at this; cases this
            cases ok with
            | true =>
              obtain ⟨_, _, z1, z2, z3, z4⟩ := HO.out.1 rfl
              have HPT : Hid (∀ w', RL w' (.slice B1 m1 e1) l1 → RL w' (.slice B2 m2 e2) l2 → Calls Try.prog 20 #[.int .i64 c, .agg #[.slice B1 m1 e1, .slice B2 m2 e2]] w' fun E w2 => E = .returned (.bool true) ∧ w'.grownBy w2 none) := Go.Lib.hid fun w' h h' => pair_true c _ _ l1 l2 w' h h' z3 z4 z1 z2
              have hp8 := HPR7.out.grown hg (by simp)
              have x1 := RL.gr HR1a.out hg
              have x2 := RL.gr HR2a.out hg
              have q0 := hp8.cellAt (i := 0) rfl
              have q1 := hp8.cellAt (i := 1) rfl
              clear z1 z2 z3 z4 hlt
              go_wp2_with (first | ((with_reducible refine wpList_load_bk (x := .tmp 8) (t := 29) b8 _ [.slice B1 m1 e1, .slice B2 m2 e2] _ hp8 (by kernel_rfl) Try.underlying29 rfl (pairSize _ _) ?_)) | (go_at_call 20; ((with_reducible refine (HPT.out _ x1 x2).mono ?_); rintro E w9 ⟨rfl, g9⟩)))
              go_ret
              exact ⟨rfl, gb_trans (gb_trans HG7.out hg) g9⟩
            | false =>
              obtain ⟨hpe, hpw⟩ := HO.out.2 rfl p rfl (by rw [← HNA.out]; exact hpn) hlt
              have hts := RSS.gr HTS.out hg
              have HTSa := Go.Lib.hid hts
              unfold RSS at hts
              rw [← HNA.out] at hts
              obtain ⟨b2, o2, c2x, he2, _, hc2, _, hr2⟩ := hts.at (by omega)
              injection he2 with hA2 _ hcc2
              subst hA2 hcc2
              have HCT := Go.Lib.hid (hr2 p (sv e) (by rw [List.getElem?_map, hpe]; rfl))
              have HC0 := Go.Lib.hid (cell_grown (row := none) hg HC0.out (by simp))
              have HC1 := Go.Lib.hid (cell_grown (row := none) hg HC1.out (by simp))
              have HC2 := Go.Lib.hid (cell_grown (row := none) hg HC2.out (by simp))
              have HTS := HTSa
              have HLE := Go.Lib.hid (RL.gr HLE.out hg)
              have HPW := Go.Lib.hid (RI.gr HPW.out hg)
              have HRWAY : Hid (∀ w', RSS w' (.slice (some ⟨b2, o2, none⟩) nA c2) fa → Calls Try.prog 30 #[.int .i64 c, .slice (some ⟨b2, o2, none⟩) nA c2, .int .i64 (p : Int)] w' fun E w2 => ∃ v', E = .returned v' ∧ RI w2 v' path ∧ w'.grownBy w2 none) := Go.Lib.hid fun w' h => by
                rw [hpw]; exact rway_any c _ fa p w' h (fun l hl => Nat.le_trans (HFA.out.2 l hl) (by decide)) (Nat.le_trans HFA.out.1 (by decide)) (by rw [← HNA.out]; exact hpn)
              have HSAME : Hid (∀ u v w', RI w' u path → RI w' v path → Calls Try.prog 29 #[u, v] w' fun E w2 => E = .returned (.bool true) ∧ w'.grownBy w2 none) := Go.Lib.hid fun u v w' h h' => by
                have := same_any u v path path w' h h' (by rw [← HNP.out]; omega) (by rw [← HNP.out]; omega)
                rw [sameB_refl] at this; exact this
              have hpI : (0 : Int) ≤ (p : Int) ∧ (p : Int) < (nA : Int) ∧ (nA : Int) ≤ (c2 : Int) := by omega
              have HG8 := Go.Lib.hid (gb_trans HG7.out hg)
              clear hts hr2 hpe hpw hlt
              go_upto_region 15 with fail
              refine wp_region_specs 19 [90, 91, 92, 93, 94, 95, 96, 97, 98, 99, 100, 101, 102, 103, 104, 105, 106, 107, 108] (by kernel_rfl) (by kernel_rfl) (sh5φ b5 q ce b2 o2 nA c2 p np cp Ae Ap c e path) (sh5φ_gr b5 q ce b2 o2 nA c2 p np cp Ae Ap c e path) ?step5 ?fin5
              case step5 =>
                intro i_ o_ ho hi_ u w' hg hd
                rcases (by omega : i_ = 0 ∨ i_ = 1 ∨ i_ = 2 ∨ i_ = 3 ∨ i_ = 4 ∨ i_ = 5 ∨ i_ = 6 ∨ i_ = 7 ∨ i_ = 8 ∨ i_ = 9 ∨ i_ = 10 ∨ i_ = 11 ∨ i_ = 12 ∨ i_ = 13 ∨ i_ = 14 ∨ i_ = 15 ∨ i_ = 16 ∨ i_ = 17 ∨ i_ = 18) with rfl | rfl | rfl | rfl | rfl | rfl | rfl | rfl | rfl | rfl | rfl | rfl | rfl | rfl | rfl | rfl | rfl | rfl | rfl <;> obtain rfl := Option.some.inj ho <;>
                  simp (decide := true) only [fillAct, List.mapIdx_cons, List.mapIdx_nil, Nat.reduceAdd, if_true, if_false, List.getD_cons_zero, List.getD_cons_succ]
                · clear hd ho
                  go_wp2_with fail
                  exact ⟨rfl, gb_refl _ _, rfl⟩
                · have h0 : u 90 = .pointer (some ⟨b5, 1, none⟩) := hd 0 (by kernel_rfl)
                  clear hd ho
                  rw [h0]
                  have e1 := cell_grown (row := none) hg HC1.out (by simp)
                  go_wp2_with fail
                  exact ⟨rfl, gb_refl _ _, rfl⟩
                · have h1 : u 91 = .slice Ae q ce := hd 1 (by kernel_rfl)
                  clear hd ho
                  rw [h1]
                  have hv1 : RdB (fun b => b < w'.heap.size) w' (.slice Ae q ce) e := RL.gr HLE.out hg
                  go_wp2_with ((with_reducible refine wpList_conv_bs (x := .tmp 91) (v := .slice Ae q ce) Try.underlying27 Try.underlying5 Try.underlying9 e (by kernel_rfl) hv1 ?_))
                  exact ⟨rfl, gb_refl _ _, rfl⟩
                · clear hd ho
                  go_wp2_with fail
                  exact ⟨rfl, gb_refl _ _, rfl⟩
                · clear hd ho
                  go_wp2_with fail
                  exact ⟨rfl, gb_refl _ _, rfl⟩
                · have h4 : u 94 = .pointer (some ⟨b5, 0, none⟩) := hd 4 (by kernel_rfl)
                  clear hd ho
                  rw [h4]
                  have e1 := cell_grown (row := none) hg HC0.out (by simp)
                  go_wp2_with fail
                  exact ⟨rfl, gb_refl _ _, rfl⟩
                · have h3 : u 93 = .slice (some ⟨b2, o2, none⟩) nA c2 := hd 3 (by kernel_rfl)
                  have h5 : u 95 = .int .i64 (p : Int) := hd 5 (by kernel_rfl)
                  clear hd ho
                  rw [h3, h5]
                  go_wp2_with fail
                  exact ⟨rfl, gb_refl _ _, rfl⟩
                · have h6 : u 96 = .pointer (some ⟨b2, o2 + p, none⟩) := hd 6 (by kernel_rfl)
                  clear hd ho
                  rw [h6]
                  have e1 := cell_grown (row := none) hg HCT.out (by simp)
                  go_wp2_with fail
                  exact ⟨rfl, gb_refl _ _, rfl⟩
                · have h2 : u 92 = sv e := hd 2 (by kernel_rfl)
                  have h7 : u 97 = sv e := hd 7 (by kernel_rfl)
                  clear hd ho
                  rw [h2, h7]
                  have q1 : ∀ w, (eqGuard .eql 9 (.tmp 92) (.tmp 97) (sv e) (sv e)).run Try.prog w = .ok () w := fun _ => by rw [eqGuard_sv]; rfl
                  have q2 : ∀ w, (binOp .eql 9 (sv e) (sv e)).run Try.prog w = .ok (.bool true) w := fun _ => by rw [eql_sv, beq_self_eq_true]; rfl
                  go_wp2_with fail
                  exact ⟨rfl, gb_refl _ _, rfl⟩
                · have h8 : u 98 = .bool true := hd 8 (by kernel_rfl)
                  clear hd ho
                  rw [h8]
                  go_wp2_with fail
                  exact ⟨rfl, gb_refl _ _, rfl⟩
                · have h9 : u 99 = .bool true := hd 9 (by kernel_rfl)
                  clear hd ho
                  rw [h9]
                  refine wpList_guard (by rfl) ?_
                  go_wp2_with fail
                  exact ⟨rfl, gb_refl _ _, rfl⟩
                · have h9 : u 99 = .bool true := hd 9 (by kernel_rfl)
                  have h10 : u 100 = .pointer (some ⟨b5, 2, none⟩) := hd 10 (by kernel_rfl)
                  clear hd ho
                  rw [h9, h10]
                  refine wpList_guard (by rfl) ?_
                  have e1 := cell_grown (row := none) hg HC2.out (by simp)
                  go_wp2_with fail
                  exact ⟨rfl, gb_refl _ _, rfl⟩
                · have h9 : u 99 = .bool true := hd 9 (by kernel_rfl)
                  clear hd ho
                  rw [h9]
                  refine wpList_guard (by rfl) ?_
                  go_wp2_with fail
                  exact ⟨rfl, gb_refl _ _, rfl⟩
                · have h9 : u 99 = .bool true := hd 9 (by kernel_rfl)
                  clear hd ho
                  rw [h9]
                  refine wpList_guard (by rfl) ?_
                  go_wp2_with fail
                  exact ⟨rfl, gb_refl _ _, rfl⟩
                · have h9 : u 99 = .bool true := hd 9 (by kernel_rfl)
                  clear hd ho
                  rw [h9]
                  refine wpList_guard (by rfl) ?_
                  go_wp2_with fail
                  exact ⟨rfl, gb_refl _ _, rfl⟩
                · have h9 : u 99 = .bool true := hd 9 (by kernel_rfl)
                  have h14 : u 104 = .pointer (some ⟨b5, 0, none⟩) := hd 14 (by kernel_rfl)
                  clear hd ho
                  rw [h9, h14]
                  refine wpList_guard (by rfl) ?_
                  have e1 := cell_grown (row := none) hg HC0.out (by simp)
                  go_wp2_with fail
                  exact ⟨rfl, gb_refl _ _, rfl⟩
                · have h9 : u 99 = .bool true := hd 9 (by kernel_rfl)
                  have h12 : u 102 = .int .i64 c := hd 12 (by kernel_rfl)
                  have h13 : u 103 = .slice (some ⟨b2, o2, none⟩) nA c2 := hd 13 (by kernel_rfl)
                  have h15 : u 105 = .int .i64 (p : Int) := hd 15 (by kernel_rfl)
                  clear hd ho
                  rw [h9, h12, h13, h15]
                  refine wpList_guard (by rfl) ?_
                  have hs1 := RSS.gr HTS.out hg
                  go_wp2_with (go_at_call 30; ((with_reducible refine (HRWAY.out _ hs1).mono ?_); rintro E w3 ⟨v3, rfl, hr3, g3⟩; obtain ⟨A3, c3, rfl, _⟩ := Rd.form hr3))
                  exact ⟨rfl, g3, ⟨_, _, _, rfl, hr3⟩⟩
                · have h9 : u 99 = .bool true := hd 9 (by kernel_rfl)
                  have h11 : u 101 = .slice Ap np cp := hd 11 (by kernel_rfl)
                  have h16 : ∃ A n c, (u 106) = .slice A n c ∧ RI w' (.slice A n c) path := hd 16 (by kernel_rfl)
                  clear hd ho
                  rw [h9, h11]
                  refine wpList_guard (by rfl) ?_
                  obtain ⟨A3, n3, c3, e3, hr3⟩ := h16
                  rw [e3]
                  have hw1 := RI.gr HPW.out hg
                  go_wp2_with (go_at_call 29; ((with_reducible refine (HSAME.out _ _ _ hw1 hr3).mono ?_); rintro E w3 ⟨rfl, g3⟩))
                  exact ⟨rfl, g3, rfl⟩
                · have h9 : u 99 = .bool true := hd 9 (by kernel_rfl)
                  have h17 : u 107 = .bool true := hd 17 (by kernel_rfl)
                  clear hd ho
                  rw [h9, h17]
                  go_wp2_with fail
                  exact ⟨rfl, gb_refl _ _, rfl⟩
              case fin5 =>
                intro u' w9 hg' hφ
                have hz : u' 108 = .bool true := hφ 18 (by omega)
                simp (decide := true) only [fillAct, List.mapIdx_cons, List.mapIdx_nil, Nat.reduceAdd, if_true, if_false, List.drop_succ_cons, List.drop_zero]
                rw [hz]
                clear hφ
                go_wp2_with fail
                go_ret
                exact ⟨rfl, gb_trans HG8.out hg'⟩
end Go.Proofs.Ytajgklomcapboaa
/- Arguments opened: a way that somebody shows. -/
namespace Go.Proofs.Ytajgklomcapboaa
open Go.ChangeShapes Go.WideShapes Go.ChangeAt Go.RowKit Sc
section
variable {H : Type} {enc : TypeId × Value → H} {P : Program} {W : World} {spare : Nat → Bool} {held : Bool}
theorem trod_ids {t q e : TypeId} {fuel : Nat} {cs : List Value} {x : DataW H × List MemPlace} (ht : P.underlying t = some (.slice q)) (hq : P.underlying q = some (.array 32 e)) (he : P.underlying e = some (.int .u8)) (ce : P.cellsOf e = 1) (cq : P.cellsOf q = 32)
    (h : DataW.trod enc P W 0 spare held fuel t cs = some x) : ∃ v xs, cs = [v] ∧ RdI (fun b => b < W.heap.size) W v xs := by
  have key : ∀ v : Value, (∃ a len cap, v = .slice a len cap) → cs = [v] → ∃ v xs, cs = [v] ∧ RdI (fun b => b < W.heap.size) W v xs := by
    rintro v hv rfl
    have h0 : DataW.Trod enc P W 0 spare held t v x.1 x.2 := ⟨fuel, by
      obtain ⟨a, n, c, rfl⟩ := hv
      simpa [Value.cells] using h⟩
    obtain ⟨xs, hx⟩ := open_ids ht hq he ce cq h0 hv
    exact ⟨v, xs, rfl, hx⟩
  rcases Go.Deep.open_slice ht h with ⟨hcs, _⟩ | ⟨a, len', cap', m, n, D, Pl, hcs, _⟩
  · exact key _ ⟨_, _, _, rfl⟩ hcs
  · exact key _ ⟨_, _, _, rfl⟩ hcs
theorem take_parts {cs : List Value} {a b : Value} {x y : List Value} {s : List Value} (hl : cs.length = 67) (h0 : cs.take 1 = [a]) (h1 : (cs.drop 1).take 1 = [b]) (h2 : (cs.drop 2).take 32 = x) (h3 : (cs.drop 34).take 32 = y) (h4 : (cs.drop 66).take 1 = s) : cs = [a, b] ++ x ++ y ++ s := by
  subst h2 h3 h4
  have e4 : (cs.drop 66).take 1 = cs.drop 66 := List.take_of_length_le (by rw [List.length_drop]; omega)
  rw [e4]
  have e3 : (cs.drop 34).take 32 ++ cs.drop 66 = cs.drop 34 := by
    rw [show cs.drop 66 = (cs.drop 34).drop 32 by rw [List.drop_drop], List.take_append_drop]
  have e2 : (cs.drop 2).take 32 ++ cs.drop 34 = cs.drop 2 := by
    rw [show cs.drop 34 = (cs.drop 2).drop 32 by rw [List.drop_drop], List.take_append_drop]
  have e1 : cs = [a, b] ++ cs.drop 2 := by
    have h5 : cs.take 2 = [a, b] := by
      rw [show (2 : Nat) = 1 + 1 from rfl, List.take_add, h0, h1]; rfl
    rw [← h5, List.take_append_drop]
  rw [List.append_assoc, List.append_assoc, e3, e2]
  exact e1
theorem open_way {t ti q e ts : TypeId} {fs : Array Field} (ht : P.underlying t = some (.struct fs)) (hi : P.underlying ti = some (.int .i64)) (hq : P.underlying q = some (.array 32 e)) (he : P.underlying e = some (.int .u8)) (hs : P.underlying ts = some (.slice q)) (ct : P.cellsOf t = 67) (ci : P.cellsOf ti = 1) (ce : P.cellsOf e = 1) (cq : P.cellsOf q = 32) (cs_ : P.cellsOf ts = 1)
    (hf : fs.toList.map (fun f => (f.type, f.offset)) = [(ti, 0), (ti, 1), (q, 2), (q, 34), (ts, 66)]) {r : Reach} {b0 : Nat} {v : Value} {d : DataW H} {p : List MemPlace}
    (h0 : DataW.Trod enc P W 0 spare held t v d p) (hv : Value.okWide P W r b0 t v) :
    ∃ (a n : Int) (x y : Sc.Id) (pv : Value) (path : List Sc.Id), v = .agg ([Value.int .i64 a, Value.int .i64 n] ++ x.l.map bv ++ y.l.map bv ++ [pv]).toArray ∧ RdI (fun b => b < W.heap.size) W pv path := by
  unfold Value.okWide at hv
  rw [ht] at hv
  obtain ⟨cs, rfl, _, _⟩ := hv
  obtain ⟨fuel, hfu⟩ := h0
  obtain ⟨xs, m, _, _, hl, hxl, hx⟩ := DataW.trod_struct ht hfu
  rw [ct] at hl
  simp only [Value.cells] at hl hx
  have hfs : ∀ i ti' o, [(ti, 0), (ti, 1), (q, 2), (q, 34), (ts, 66)][i]? = some (ti', o) → ∃ y, DataW.trod enc P W 0 spare held m ti' ((cs.toList.drop o).take (P.cellsOf ti')) = some y := fun i ti' o h => by
    rw [← hf, List.getElem?_map] at h
    cases hq' : fs.toList[i]? with
    | none => rw [hq'] at h; cases h
    | some f =>
      rw [hq'] at h
      have h2 := hx i f (by simpa using hq')
      simp only [Option.map_some, Option.some.injEq, Prod.mk.injEq] at h
      rw [h.1, h.2] at h2
      have hil : i < xs.length := by rw [hxl]; exact (by have := (List.getElem?_eq_some_iff.1 hq').1; simpa using this)
      rw [List.getElem?_eq_getElem hil] at h2
      exact ⟨_, h2⟩
  obtain ⟨y0, g0⟩ := hfs 0 ti 0 rfl
  obtain ⟨y1, g1⟩ := hfs 1 ti 1 rfl
  obtain ⟨y2, g2⟩ := hfs 2 q 2 rfl
  obtain ⟨y3, g3⟩ := hfs 3 q 34 rfl
  obtain ⟨y4, g4⟩ := hfs 4 ts 66 rfl
  rw [ci] at g0 g1
  rw [cq] at g2 g3
  rw [cs_] at g4
  obtain ⟨a, ha, _, _⟩ := DataW.trod_int hi g0
  obtain ⟨n, hn, _, _⟩ := DataW.trod_int hi g1
  obtain ⟨x, hx'⟩ := trod_id hq he ce cq g2
  obtain ⟨y, hy'⟩ := trod_id hq he ce cq g3
  obtain ⟨pv, path, hpv, hR⟩ := trod_ids hs hq he ce cq g4
  refine ⟨a, n, x, y, pv, path, ?_, hR⟩
  have := take_parts hl (by simpa using ha) hn hx' hy' hpv
  rw [← this]
end
end Go.Proofs.Ytajgklomcapboaa
/- Arguments opened: a way, and an entry that is shown, of layer 7. -/
namespace Go.Proofs.Ytajgklomcapboaa
open Go.ChangeShapes Go.WideShapes Go.ChangeAt Go.RowKit Sc
section
variable {H : Type} {enc : TypeId × Value → H} {P : Program} {W : World} {spare : Nat → Bool} {held : Bool}
theorem trod_bytes_one {t e : TypeId} {fuel : Nat} {cs : List Value} {x : DataW H × List MemPlace} (ht : P.underlying t = some (.slice e)) (he : P.underlying e = some (.int .u8)) (ce : P.cellsOf e = 1)
    (h : DataW.trod enc P W 0 spare held fuel t cs = some x) : ∃ v l, cs = [v] ∧ RdB (fun b => b < W.heap.size) W v l := by
  rcases Go.Deep.open_slice ht h with ⟨hcs, _⟩ | ⟨a, len', cap', m, n, D, Pl, hcs, _⟩
  · subst hcs; obtain ⟨l, hl⟩ := trod_bytes ht he ce h; exact ⟨_, l, rfl, hl⟩
  · subst hcs; obtain ⟨l, hl⟩ := trod_bytes ht he ce h; exact ⟨_, l, rfl, hl⟩
theorem take_parts3 {cs : List Value} {a b d : Value} {s : List Value} (h0 : cs.take 1 = [a]) (h1 : (cs.drop 1).take 1 = [b]) (h2 : (cs.drop 2).take 1 = [d]) (h3 : cs.drop 3 = s) : cs = [a, b, d] ++ s := by
  have h5 : cs.take 3 = [a, b, d] := by
    rw [show (3 : Nat) = 1 + (1 + 1) from rfl, List.take_add, h0, List.take_add, h1, List.drop_drop, h2]; rfl
  rw [← h5, ← h3, List.take_append_drop]
theorem open_way7 {t ti q e ts : TypeId} {fs : Array Field} (ht : P.underlying t = some (.struct fs)) (hi : P.underlying ti = some (.int .i64)) (hq : P.underlying q = some (.array 32 e)) (he : P.underlying e = some (.int .u8)) (hs : P.underlying ts = some (.slice q)) (ct : P.cellsOf t = 35) (ci : P.cellsOf ti = 1) (ce : P.cellsOf e = 1) (cq : P.cellsOf q = 32) (cs_ : P.cellsOf ts = 1)
    (hf : fs.toList.map (fun f => (f.type, f.offset)) = [(ti, 0), (ti, 1), (ts, 2), (q, 3)]) {r : Reach} {b0 : Nat} {v : Value} {d : DataW H} {p : List MemPlace}
    (h0 : DataW.Trod enc P W 0 spare held t v d p) (hv : Value.okWide P W r b0 t v) :
    ∃ (a n : Int) (pv : Value) (x : Sc.Id) (path : List Sc.Id), v = .agg ([Value.int .i64 a, Value.int .i64 n, pv] ++ x.l.map bv).toArray ∧ RdI (fun b => b < W.heap.size) W pv path := by
  unfold Value.okWide at hv
  rw [ht] at hv
  obtain ⟨cs, rfl, _, _⟩ := hv
  obtain ⟨fuel, hfu⟩ := h0
  obtain ⟨xs, m, _, _, hl, hxl, hx⟩ := DataW.trod_struct ht hfu
  rw [ct] at hl
  simp only [Value.cells] at hl hx
  have hfs : ∀ i ti' o, [(ti, 0), (ti, 1), (ts, 2), (q, 3)][i]? = some (ti', o) → ∃ y, DataW.trod enc P W 0 spare held m ti' ((cs.toList.drop o).take (P.cellsOf ti')) = some y := fun i ti' o h => by
    rw [← hf, List.getElem?_map] at h
    cases hq' : fs.toList[i]? with
    | none => rw [hq'] at h; cases h
    | some f =>
      rw [hq'] at h
      have h2 := hx i f (by simpa using hq')
      simp only [Option.map_some, Option.some.injEq, Prod.mk.injEq] at h
      rw [h.1, h.2] at h2
      have hil : i < xs.length := by rw [hxl]; exact (by have := (List.getElem?_eq_some_iff.1 hq').1; simpa using this)
      rw [List.getElem?_eq_getElem hil] at h2
      exact ⟨_, h2⟩
  obtain ⟨y0, g0⟩ := hfs 0 ti 0 rfl
  obtain ⟨y1, g1⟩ := hfs 1 ti 1 rfl
  obtain ⟨y2, g2⟩ := hfs 2 ts 2 rfl
  obtain ⟨y3, g3⟩ := hfs 3 q 3 rfl
  rw [ci] at g0 g1
  rw [cs_] at g2
  rw [cq] at g3
  obtain ⟨a, ha, _, _⟩ := DataW.trod_int hi g0
  obtain ⟨n, hn, _, _⟩ := DataW.trod_int hi g1
  obtain ⟨pv, path, hpv, hR⟩ := trod_ids hs hq he ce cq g2
  obtain ⟨x, hx'⟩ := trod_id hq he ce cq g3
  refine ⟨a, n, pv, x, path, ?_, hR⟩
  have h3 : cs.toList.drop 3 = x.l.map bv := by rw [← hx', List.take_of_length_le (by rw [List.length_drop]; omega)]
  have := take_parts3 (by simpa using ha) hn hpv h3
  rw [← this]
theorem open_shown7 {t ti q e ts tb : TypeId} {fs : Array Field} (ht : P.underlying t = some (.struct fs)) (hi : P.underlying ti = some (.int .i64)) (hq : P.underlying q = some (.array 32 e)) (he : P.underlying e = some (.int .u8)) (hs : P.underlying ts = some (.slice q)) (hb : P.underlying tb = some (.slice e)) (ct : P.cellsOf t = 3) (ci : P.cellsOf ti = 1) (ce : P.cellsOf e = 1) (cq : P.cellsOf q = 32) (cs_ : P.cellsOf ts = 1) (cb : P.cellsOf tb = 1)
    (hf : fs.toList.map (fun f => (f.type, f.offset)) = [(ti, 0), (tb, 1), (ts, 2)]) {r : Reach} {b0 : Nat} {v : Value} {d : DataW H} {p : List MemPlace}
    (h0 : DataW.Trod enc P W 0 spare held t v d p) (hv : Value.okWide P W r b0 t v) :
    ∃ (a : Int) (ev pv : Value) (l : List UInt8) (path : List Sc.Id), v = .agg #[Value.int .i64 a, ev, pv] ∧ RdB (fun b => b < W.heap.size) W ev l ∧ RdI (fun b => b < W.heap.size) W pv path := by
  unfold Value.okWide at hv
  rw [ht] at hv
  obtain ⟨cs, rfl, _, _⟩ := hv
  obtain ⟨fuel, hfu⟩ := h0
  obtain ⟨xs, m, _, _, hl, hxl, hx⟩ := DataW.trod_struct ht hfu
  rw [ct] at hl
  simp only [Value.cells] at hl hx
  have hfs : ∀ i ti' o, [(ti, 0), (tb, 1), (ts, 2)][i]? = some (ti', o) → ∃ y, DataW.trod enc P W 0 spare held m ti' ((cs.toList.drop o).take (P.cellsOf ti')) = some y := fun i ti' o h => by
    rw [← hf, List.getElem?_map] at h
    cases hq' : fs.toList[i]? with
    | none => rw [hq'] at h; cases h
    | some f =>
      rw [hq'] at h
      have h2 := hx i f (by simpa using hq')
      simp only [Option.map_some, Option.some.injEq, Prod.mk.injEq] at h
      rw [h.1, h.2] at h2
      have hil : i < xs.length := by rw [hxl]; exact (by have := (List.getElem?_eq_some_iff.1 hq').1; simpa using this)
      rw [List.getElem?_eq_getElem hil] at h2
      exact ⟨_, h2⟩
  obtain ⟨y0, g0⟩ := hfs 0 ti 0 rfl
  obtain ⟨y1, g1⟩ := hfs 1 tb 1 rfl
  obtain ⟨y2, g2⟩ := hfs 2 ts 2 rfl
  rw [ci] at g0
  rw [cb] at g1
  rw [cs_] at g2
  obtain ⟨a, ha, _, _⟩ := DataW.trod_int hi g0
  obtain ⟨ev, l, hev, hL⟩ := trod_bytes_one hb he ce g1
  obtain ⟨pv, path, hpv, hR⟩ := trod_ids hs hq he ce cq g2
  refine ⟨a, ev, pv, l, path, ?_, hL, hR⟩
  have h3 : cs.toList.drop 3 = [] := List.drop_of_length_le (by omega)
  have := take_parts3 (by simpa using ha) hev hpv h3
  apply congrArg Value.agg
  apply Array.ext'
  rw [this]; rfl
end
end Go.Proofs.Ytajgklomcapboaa
namespace Go.Proofs.Ytajgklomcapboaa
open Go.ChangeShapes Go.WideShapes Go.ChangeAt Go.RowKit

set_option maxRecDepth 100000 in
theorem shortEntry_lifted (os : Os) (started : os.Started) (H : Type) (enc : TypeId × Value → H) :
    ReturnsInHanded {} Try.checked os 7 .any (Rows.shortEntrySpec.pre6 enc Try.prog Try.f7 Rows.shortEntryRow.domain false) (Rows.shortEntrySpec.post enc Try.prog Try.f7 false true false false) := by
  refine returnsInHanded_of_change (C := Try.checked) ownk started (by kernel_rfl) Try.func7
    (ChangeSpec.witness6 (enc := enc) (C := Try.checked) false ⟨#[], #[.int .i64 0, .slice none 0 0, .agg #[.int .i64 0, .slice none 0 0, .slice none 0 0]], []⟩ 8 (by kernel_rfl) (by kernel_rfl) (by kernel_rfl) (by kernel_rfl)) ?_
  intro W base args ds gs before hval0 hW _ _
  have hW' := hW
  have hval : ∀ (j : Nat) t v, Try.f7.params[j]? = some t → args[j]? = some v → Value.okWide Try.prog W .any base t v := hval0
  have hlt : ∀ x ∈ before, x.block < W.heap.size := fun x hx => by simpa using hW'.lt x hx
  obtain ⟨p, q, hA, hV, rfl, hfz, hnd⟩ := hW
  rw [Try.params7] at hA hval
  obtain ⟨v0, vs0, d0, ds0, p0, q0, hargs, rfl, rfl, h0, r0⟩ := trodAll_cons hA
  obtain ⟨v1, vs1, d1, ds1, p1, q1, rfl, rfl, rfl, h1, r1⟩ := trodAll_cons r0
  obtain ⟨v2, vs2, d2, ds2, p2, q2, rfl, rfl, rfl, h2, r2⟩ := trodAll_cons r1
  obtain ⟨rfl, rfl, rfl⟩ := trodAll_nil r2
  obtain rfl : args = #[v0, v1, v2] := by cases args; simp_all
  obtain ⟨rfl, rfl⟩ := trodVars_none hV
  obtain ⟨a0, rfl, rfl, rfl, w0⟩ := open_int Try.underlying3 (hval 0 3 v0 rfl rfl) h0
  obtain ⟨l1, b1⟩ := open_bytess Try.underlying22 Try.underlying27 Try.underlying5 (by kernel_rfl) (by kernel_rfl) h1 (okWide_slice Try.underlying22 (hval 1 22 v1 rfl rfl))
  obtain ⟨a2, ev2, pv2, l2, p2, rfl, b2, c2⟩ := open_shown7 Try.underlying59 Try.underlying3 Try.underlying34 Try.underlying5 Try.underlying41 Try.underlying27 (by kernel_rfl) (by kernel_rfl) (by kernel_rfl) (by kernel_rfl) (by kernel_rfl) (by kernel_rfl) (by kernel_rfl) h2 (hval 2 59 v2 rfl rfl)
  refine (shown7_walk a0 a2 v1 ev2 pv2 l1 l2 p2 _ b1 b2 c2).mono fun e W' ⟨he, hg⟩ => ?_
  subst he
  exact ⟨_, rfl, post_true hW' rfl rfl rfl (by decide +kernel) rfl hg⟩

theorem shortEntry : Rows.ShortEntrySaid :=
  OpenClaim.holds_of_wide 7 Try.f7 rfl rfl rfl rfl rfl rfl rfl ⟨rfl, rfl, rfl, rfl, rfl⟩ rfl rfl rfl rfl rfl (by kernel_rfl) Try.func7 (by kernel_rfl)
    (of_decide_eq_true (by kernel_rfl)) (by unfold Func.isWrapper; first | (rw [if_pos (by decide +kernel)]; kernel_rfl) | (rw [if_neg (by decide +kernel)]; exact ⟨rfl, rfl⟩))
    (fun os started H enc _ => shortEntry_lifted os started H enc)
end Go.Proofs.Ytajgklomcapboaa
