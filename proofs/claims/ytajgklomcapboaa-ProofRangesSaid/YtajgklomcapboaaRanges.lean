import Derived.Test.YtajgklomcapboaaProves
/- ProofRanges: the walk. -/
namespace Sc
open Go Go.RowKit
theorem ckInc_nil {r : Sc.Id} {a n : Int} (h0 : 0 ≤ a) (h1 : a < n) (h2 : 2 ≤ n) (h3 : n ≤ 1099511627776) : ckInc r a n [] r = 60 := by
  obtain ⟨a, rfl⟩ : ∃ k : Nat, a = (k : Int) := ⟨a.toNat, by omega⟩
  obtain ⟨n, rfl⟩ : ∃ k : Nat, n = (k : Int) := ⟨n.toNat, by omega⟩
  rw [ckInc_in (by omega) (by omega), lead_nil nd r a n (by omega)]; rfl
theorem ckCon_same {r : Sc.Id} {a n : Int} (h0 : 1 ≤ a) (h1 : a = n) (h3 : n ≤ 1099511627776) : ckCon r r a n [] = 0 := by
  subst h1
  obtain ⟨a, rfl⟩ : ∃ k : Nat, a = (k : Int) := ⟨a.toNat, by omega⟩
  rw [ckCon_in (by omega) (by omega) (by omega), links_end_whole]; rw [if_pos rfl, if_pos rfl]
theorem ckCon_same1 {r : Sc.Id} {a n : Int} (h0 : 1 ≤ a) (h1 : a = n) (h3 : n ≤ 1099511627776) : ckCon r r a n [r] = 60 := by
  subst h1
  obtain ⟨a, rfl⟩ : ∃ k : Nat, a = (k : Int) := ⟨a.toNat, by omega⟩
  rw [ckCon_in (by omega) (by omega) (by omega), links_end_whole]; rfl
theorem ckCon_nil {r : Sc.Id} {a n : Int} (h0 : 1 ≤ a) (h1 : a < n) (h3 : n ≤ 1099511627776) : ckCon r r a n [] = 60 := by
  obtain ⟨a, rfl⟩ : ∃ k : Nat, a = (k : Int) := ⟨a.toNat, by omega⟩
  obtain ⟨n, rfl⟩ : ∃ k : Nat, n = (k : Int) := ⟨n.toNat, by omega⟩
  rw [ckCon_in (by omega) (by omega) (by omega), links_nil nd r true (by omega) (by omega)]; rfl
end Sc
namespace Go.Proofs.Ytajgklomcapboaa
open Go.RowKit Go.Shelf Sc

set_option maxHeartbeats 4000000 in
set_option maxRecDepth 100000 in
theorem ranges_walk (a n : Int) (r : Sc.Id) (w : World) :
    Calls Try.prog 14 #[.int .i64 a, .int .i64 n, .agg (r.l.map bv).toArray] w fun e w' => e = .returned (.bool true) ∧ w.grownBy w' none := by
  go_enter Try.func14, Try.ntmps14
  obtain ⟨W, hW⟩ : ∃ W, W = w.alloc (.cells (r.l.map bv).toArray 34) := ⟨_, rfl⟩
  have b0 : Bk W w.heap.size 34 (r.l.map bv) := by rw [hW]; exact Bk.new w _ _
  have g0 : w.grownBy W none := by rw [hW]; exact gb_alloc (gb_refl w none) _
  have HW := Go.Lib.hid hW
  clear hW
  rcases (by omega : (a < 0 ∧ 1099511627776 < n) ∨ (a < 0 ∧ n ≤ 1099511627776) ∨ (a = 0 ∧ n ≤ 0) ∨ (a = 0 ∧ n = 1) ∨ (a = 0 ∧ 2 ≤ n ∧ n ≤ 1099511627776) ∨ (a = 0 ∧ 1099511627776 < n) ∨ (1 ≤ a ∧ n < a) ∨ (1 ≤ a ∧ a = n ∧ n ≤ 1099511627776) ∨ (1 ≤ a ∧ a = n ∧ 1099511627776 < n) ∨ (1 ≤ a ∧ a < n ∧ n ≤ 1099511627776) ∨ (1 ≤ a ∧ a < n ∧ 1099511627776 < n)) with hs | hs | hs | hs | hs | hs | hs | hs | hs | hs | hs
  · obtain ⟨h0, h1⟩ := hs
    have hge0 : decide ((0 : Int) ≤ a) = false := decide_eq_false (by omega)
    have hge1 : decide ((1 : Int) ≤ a) = false := decide_eq_false (by omega)
    have he : ckInc r a n [] r = 1 := ckInc_out (by omega)
    have hf : ckCon r r a n [] = 1 := ckCon_out (by omega)
    have HE := Go.Lib.hid he
    have HF := Go.Lib.hid hf
    clear he hf
    clear h0 h1
    go_wp2_with (first
      | (go_at_call 32; (rw [← HW.out]; (with_reducible refine (proves_any _).mono ?_); rintro e w1 ⟨rfl, g1⟩); have b1 := b0.grown g1 (by simp); have hn1 : RdI (fun _ => False) w1 (.slice none 0 0) [] := Rd.nil _ _ _; have hN1 : ∀ b, (fun _ : Nat => False) b → b < w1.heap.size := fun _ h => h.elim)
      | ((with_reducible refine wpList_load_bk (x := .tmp 5) (t := 34) w.heap.size _ (r.l.map bv) _ b1 (by kernel_rfl) Try.underlying34 rfl (idSize _) ?_))
      | (go_at_call 35; ((with_reducible refine (ckInc_any r r a n _ [] _ _ hn1 hN1).mono ?_); rintro e w2 ⟨rfl, g2⟩; rw [HE.out]); have b2 := b1.grown g2 (by simp); have hn2 : RdI (fun _ => False) w2 (.slice none 0 0) [] := Rd.nil _ _ _; have hN2 : ∀ b, (fun _ : Nat => False) b → b < w2.heap.size := fun _ h => h.elim)
      | ((with_reducible refine wpList_load_bk (x := .tmp 5) (t := 34) w.heap.size _ (r.l.map bv) _ b2 (by kernel_rfl) Try.underlying34 rfl (idSize _) ?_))
      | (go_at_call 39; ((with_reducible refine (ckCon_any r r a n _ [] _ _ hn2 hN2).mono ?_); rintro e w3 ⟨rfl, g3⟩; rw [HF.out]); have b3 := b2.grown g3 (by simp); have gW := gb_trans (gb_trans (gb_trans g0 g1) g2) g3))
    go_ret
    exact ⟨rfl, gW⟩
  · obtain ⟨h0, h1⟩ := hs
    have hge0 : decide ((0 : Int) ≤ a) = false := decide_eq_false (by omega)
    have hge1 : decide ((1 : Int) ≤ a) = false := decide_eq_false (by omega)
    have he : ckInc r a n [] r = 1 := ckInc_out (by omega)
    have hf : ckCon r r a n [] = 1 := ckCon_out (by omega)
    have HE := Go.Lib.hid he
    have HF := Go.Lib.hid hf
    clear he hf
    clear h0 h1
    go_wp2_with (first
      | (go_at_call 32; (rw [← HW.out]; (with_reducible refine (proves_any _).mono ?_); rintro e w1 ⟨rfl, g1⟩); have b1 := b0.grown g1 (by simp); have hn1 : RdI (fun _ => False) w1 (.slice none 0 0) [] := Rd.nil _ _ _; have hN1 : ∀ b, (fun _ : Nat => False) b → b < w1.heap.size := fun _ h => h.elim)
      | ((with_reducible refine wpList_load_bk (x := .tmp 5) (t := 34) w.heap.size _ (r.l.map bv) _ b1 (by kernel_rfl) Try.underlying34 rfl (idSize _) ?_))
      | (go_at_call 35; ((with_reducible refine (ckInc_any r r a n _ [] _ _ hn1 hN1).mono ?_); rintro e w2 ⟨rfl, g2⟩; rw [HE.out]); have b2 := b1.grown g2 (by simp); have hn2 : RdI (fun _ => False) w2 (.slice none 0 0) [] := Rd.nil _ _ _; have hN2 : ∀ b, (fun _ : Nat => False) b → b < w2.heap.size := fun _ h => h.elim)
      | ((with_reducible refine wpList_load_bk (x := .tmp 5) (t := 34) w.heap.size _ (r.l.map bv) _ b2 (by kernel_rfl) Try.underlying34 rfl (idSize _) ?_))
      | (go_at_call 39; ((with_reducible refine (ckCon_any r r a n _ [] _ _ hn2 hN2).mono ?_); rintro e w3 ⟨rfl, g3⟩; rw [HF.out]); have b3 := b2.grown g3 (by simp); have gW := gb_trans (gb_trans (gb_trans g0 g1) g2) g3))
    go_ret
    exact ⟨rfl, gW⟩
  · obtain ⟨h0, h1⟩ := hs
    have hge0 : decide ((0 : Int) ≤ a) = true := decide_eq_true (by omega)
    have hlt : decide (a < n) = false := decide_eq_false (by omega)
    have hge1 : decide ((1 : Int) ≤ a) = false := decide_eq_false (by omega)
    have he : ckInc r a n [] r = 1 := ckInc_out (by omega)
    have hf : ckCon r r a n [] = 1 := ckCon_out (by omega)
    have HE := Go.Lib.hid he
    have HF := Go.Lib.hid hf
    clear he hf
    clear h0 h1
    go_wp2_with (first
      | (go_at_call 32; (rw [← HW.out]; (with_reducible refine (proves_any _).mono ?_); rintro e w1 ⟨rfl, g1⟩); have b1 := b0.grown g1 (by simp); have hn1 : RdI (fun _ => False) w1 (.slice none 0 0) [] := Rd.nil _ _ _; have hN1 : ∀ b, (fun _ : Nat => False) b → b < w1.heap.size := fun _ h => h.elim)
      | ((with_reducible refine wpList_load_bk (x := .tmp 5) (t := 34) w.heap.size _ (r.l.map bv) _ b1 (by kernel_rfl) Try.underlying34 rfl (idSize _) ?_))
      | (go_at_call 35; ((with_reducible refine (ckInc_any r r a n _ [] _ _ hn1 hN1).mono ?_); rintro e w2 ⟨rfl, g2⟩; rw [HE.out]); have b2 := b1.grown g2 (by simp); have hn2 : RdI (fun _ => False) w2 (.slice none 0 0) [] := Rd.nil _ _ _; have hN2 : ∀ b, (fun _ : Nat => False) b → b < w2.heap.size := fun _ h => h.elim)
      | ((with_reducible refine wpList_load_bk (x := .tmp 5) (t := 34) w.heap.size _ (r.l.map bv) _ b2 (by kernel_rfl) Try.underlying34 rfl (idSize _) ?_))
      | (go_at_call 39; ((with_reducible refine (ckCon_any r r a n _ [] _ _ hn2 hN2).mono ?_); rintro e w3 ⟨rfl, g3⟩; rw [HF.out]); have b3 := b2.grown g3 (by simp); have gW := gb_trans (gb_trans (gb_trans g0 g1) g2) g3))
    go_ret
    exact ⟨rfl, gW⟩
  · obtain ⟨h0, h1⟩ := hs
    have hge0 : decide ((0 : Int) ≤ a) = true := decide_eq_true (by omega)
    have hlt : decide (a < n) = true := decide_eq_true (by omega)
    have hle40 : decide (n ≤ (1099511627776 : Int)) = true := decide_eq_true (by omega)
    have hge1 : decide ((1 : Int) ≤ a) = false := decide_eq_false (by omega)
    have heq1 : ((n : Int) == 1) = true := by simp; omega
    have he : ckInc r a n [] r = 0 := by
      subst h0 h1
      rw [show (0 : Int) = ((0 : Nat) : Int) from rfl, show (1 : Int) = ((1 : Nat) : Int) from rfl, ckInc_in (by decide) (by decide), lead_one nd r _ _ (Nat.le_refl _), if_pos rfl, if_pos rfl]
    have hf : ckCon r r a n [] = 1 := ckCon_out (by omega)
    have HE := Go.Lib.hid he
    have HF := Go.Lib.hid hf
    clear he hf
    clear h0 h1
    go_wp2_with (first
      | (go_at_call 32; (rw [← HW.out]; (with_reducible refine (proves_any _).mono ?_); rintro e w1 ⟨rfl, g1⟩); have b1 := b0.grown g1 (by simp); have hn1 : RdI (fun _ => False) w1 (.slice none 0 0) [] := Rd.nil _ _ _; have hN1 : ∀ b, (fun _ : Nat => False) b → b < w1.heap.size := fun _ h => h.elim)
      | ((with_reducible refine wpList_load_bk (x := .tmp 5) (t := 34) w.heap.size _ (r.l.map bv) _ b1 (by kernel_rfl) Try.underlying34 rfl (idSize _) ?_))
      | (go_at_call 35; ((with_reducible refine (ckInc_any r r a n _ [] _ _ hn1 hN1).mono ?_); rintro e w2 ⟨rfl, g2⟩; rw [HE.out]); have b2 := b1.grown g2 (by simp); have hn2 : RdI (fun _ => False) w2 (.slice none 0 0) [] := Rd.nil _ _ _; have hN2 : ∀ b, (fun _ : Nat => False) b → b < w2.heap.size := fun _ h => h.elim)
      | ((with_reducible refine wpList_load_bk (x := .tmp 5) (t := 34) w.heap.size _ (r.l.map bv) _ b2 (by kernel_rfl) Try.underlying34 rfl (idSize _) ?_))
      | (go_at_call 39; ((with_reducible refine (ckCon_any r r a n _ [] _ _ hn2 hN2).mono ?_); rintro e w3 ⟨rfl, g3⟩; rw [HF.out]); have b3 := b2.grown g3 (by simp); have gW := gb_trans (gb_trans (gb_trans g0 g1) g2) g3))
    go_ret
    exact ⟨rfl, gW⟩
  · obtain ⟨h0, h1, h2⟩ := hs
    have hge0 : decide ((0 : Int) ≤ a) = true := decide_eq_true (by omega)
    have hlt : decide (a < n) = true := decide_eq_true (by omega)
    have hle40 : decide (n ≤ (1099511627776 : Int)) = true := decide_eq_true (by omega)
    have hge1 : decide ((1 : Int) ≤ a) = false := decide_eq_false (by omega)
    have heq1 : ((n : Int) == 1) = false := by simp; omega
    have he : ckInc r a n [] r = 60 := ckInc_nil (by omega) (by omega) (by omega) (by omega)
    have hf : ckCon r r a n [] = 1 := ckCon_out (by omega)
    have HE := Go.Lib.hid he
    have HF := Go.Lib.hid hf
    clear he hf
    clear h0 h1 h2
    go_wp2_with (first
      | (go_at_call 32; (rw [← HW.out]; (with_reducible refine (proves_any _).mono ?_); rintro e w1 ⟨rfl, g1⟩); have b1 := b0.grown g1 (by simp); have hn1 : RdI (fun _ => False) w1 (.slice none 0 0) [] := Rd.nil _ _ _; have hN1 : ∀ b, (fun _ : Nat => False) b → b < w1.heap.size := fun _ h => h.elim)
      | ((with_reducible refine wpList_load_bk (x := .tmp 5) (t := 34) w.heap.size _ (r.l.map bv) _ b1 (by kernel_rfl) Try.underlying34 rfl (idSize _) ?_))
      | (go_at_call 35; ((with_reducible refine (ckInc_any r r a n _ [] _ _ hn1 hN1).mono ?_); rintro e w2 ⟨rfl, g2⟩; rw [HE.out]); have b2 := b1.grown g2 (by simp); have hn2 : RdI (fun _ => False) w2 (.slice none 0 0) [] := Rd.nil _ _ _; have hN2 : ∀ b, (fun _ : Nat => False) b → b < w2.heap.size := fun _ h => h.elim)
      | ((with_reducible refine wpList_load_bk (x := .tmp 5) (t := 34) w.heap.size _ (r.l.map bv) _ b2 (by kernel_rfl) Try.underlying34 rfl (idSize _) ?_))
      | (go_at_call 39; ((with_reducible refine (ckCon_any r r a n _ [] _ _ hn2 hN2).mono ?_); rintro e w3 ⟨rfl, g3⟩; rw [HF.out]); have b3 := b2.grown g3 (by simp); have gW := gb_trans (gb_trans (gb_trans g0 g1) g2) g3))
    go_ret
    exact ⟨rfl, gW⟩
  · obtain ⟨h0, h1⟩ := hs
    have hge0 : decide ((0 : Int) ≤ a) = true := decide_eq_true (by omega)
    have hlt : decide (a < n) = true := decide_eq_true (by omega)
    have hle40 : decide (n ≤ (1099511627776 : Int)) = false := decide_eq_false (by omega)
    have hge1 : decide ((1 : Int) ≤ a) = false := decide_eq_false (by omega)
    have he : ckInc r a n [] r = 1 := ckInc_out (by omega)
    have hf : ckCon r r a n [] = 1 := ckCon_out (by omega)
    have HE := Go.Lib.hid he
    have HF := Go.Lib.hid hf
    clear he hf
    clear h0 h1
    go_wp2_with (first
      | (go_at_call 32; (rw [← HW.out]; (with_reducible refine (proves_any _).mono ?_); rintro e w1 ⟨rfl, g1⟩); have b1 := b0.grown g1 (by simp); have hn1 : RdI (fun _ => False) w1 (.slice none 0 0) [] := Rd.nil _ _ _; have hN1 : ∀ b, (fun _ : Nat => False) b → b < w1.heap.size := fun _ h => h.elim)
      | ((with_reducible refine wpList_load_bk (x := .tmp 5) (t := 34) w.heap.size _ (r.l.map bv) _ b1 (by kernel_rfl) Try.underlying34 rfl (idSize _) ?_))
      | (go_at_call 35; ((with_reducible refine (ckInc_any r r a n _ [] _ _ hn1 hN1).mono ?_); rintro e w2 ⟨rfl, g2⟩; rw [HE.out]); have b2 := b1.grown g2 (by simp); have hn2 : RdI (fun _ => False) w2 (.slice none 0 0) [] := Rd.nil _ _ _; have hN2 : ∀ b, (fun _ : Nat => False) b → b < w2.heap.size := fun _ h => h.elim)
      | ((with_reducible refine wpList_load_bk (x := .tmp 5) (t := 34) w.heap.size _ (r.l.map bv) _ b2 (by kernel_rfl) Try.underlying34 rfl (idSize _) ?_))
      | (go_at_call 39; ((with_reducible refine (ckCon_any r r a n _ [] _ _ hn2 hN2).mono ?_); rintro e w3 ⟨rfl, g3⟩; rw [HF.out]); have b3 := b2.grown g3 (by simp); have gW := gb_trans (gb_trans (gb_trans g0 g1) g2) g3))
    go_ret
    exact ⟨rfl, gW⟩
  · obtain ⟨h0, h1⟩ := hs
    have hge0 : decide ((0 : Int) ≤ a) = true := decide_eq_true (by omega)
    have hlt : decide (a < n) = false := decide_eq_false (by omega)
    have hge1 : decide ((1 : Int) ≤ a) = true := decide_eq_true (by omega)
    have hle : decide (a ≤ n) = false := decide_eq_false (by omega)
    have he : ckInc r a n [] r = 1 := ckInc_out (by omega)
    have hf : ckCon r r a n [] = 1 := ckCon_out (by omega)
    have HE := Go.Lib.hid he
    have HF := Go.Lib.hid hf
    clear he hf
    clear h0 h1
    go_wp2_with (first
      | (go_at_call 32; (rw [← HW.out]; (with_reducible refine (proves_any _).mono ?_); rintro e w1 ⟨rfl, g1⟩); have b1 := b0.grown g1 (by simp); have hn1 : RdI (fun _ => False) w1 (.slice none 0 0) [] := Rd.nil _ _ _; have hN1 : ∀ b, (fun _ : Nat => False) b → b < w1.heap.size := fun _ h => h.elim)
      | ((with_reducible refine wpList_load_bk (x := .tmp 5) (t := 34) w.heap.size _ (r.l.map bv) _ b1 (by kernel_rfl) Try.underlying34 rfl (idSize _) ?_))
      | (go_at_call 35; ((with_reducible refine (ckInc_any r r a n _ [] _ _ hn1 hN1).mono ?_); rintro e w2 ⟨rfl, g2⟩; rw [HE.out]); have b2 := b1.grown g2 (by simp); have hn2 : RdI (fun _ => False) w2 (.slice none 0 0) [] := Rd.nil _ _ _; have hN2 : ∀ b, (fun _ : Nat => False) b → b < w2.heap.size := fun _ h => h.elim)
      | ((with_reducible refine wpList_load_bk (x := .tmp 5) (t := 34) w.heap.size _ (r.l.map bv) _ b2 (by kernel_rfl) Try.underlying34 rfl (idSize _) ?_))
      | (go_at_call 39; ((with_reducible refine (ckCon_any r r a n _ [] _ _ hn2 hN2).mono ?_); rintro e w3 ⟨rfl, g3⟩; rw [HF.out]); have b3 := b2.grown g3 (by simp); have gW := gb_trans (gb_trans (gb_trans g0 g1) g2) g3))
    go_ret
    exact ⟨rfl, gW⟩
  · obtain ⟨h0, h1, h2⟩ := hs
    have hge0 : decide ((0 : Int) ≤ a) = true := decide_eq_true (by omega)
    have hlt : decide (a < n) = false := decide_eq_false (by omega)
    have hge1 : decide ((1 : Int) ≤ a) = true := decide_eq_true (by omega)
    have hle : decide (a ≤ n) = true := decide_eq_true (by omega)
    have hle40 : decide (n ≤ (1099511627776 : Int)) = true := decide_eq_true (by omega)
    have heq : ((a : Int) == n) = true := by simp; omega
    have heqn : ((a : Int) != n) = false := by simp; omega
    have he : ckInc r a n [] r = 1 := ckInc_out (by omega)
    have hf : ckCon r r a n [] = 0 := ckCon_same (by omega) (by omega) (by omega)
    have HE := Go.Lib.hid he
    have HF := Go.Lib.hid hf
    clear he hf
    have hf2 : ckCon r r a n [r] = 60 := ckCon_same1 (by omega) (by omega) (by omega)
    have HF2 := Go.Lib.hid hf2
    clear hf2 h0 h1 h2
    go_upto_region 11 with (first
      | (go_at_call 32; (rw [← HW.out]; (with_reducible refine (proves_any _).mono ?_); rintro e w1 ⟨rfl, g1⟩); have b1 := b0.grown g1 (by simp); have hn1 : RdI (fun _ => False) w1 (.slice none 0 0) [] := Rd.nil _ _ _; have hN1 : ∀ b, (fun _ : Nat => False) b → b < w1.heap.size := fun _ h => h.elim)
      | ((with_reducible refine wpList_load_bk (x := .tmp 5) (t := 34) w.heap.size _ (r.l.map bv) _ b1 (by kernel_rfl) Try.underlying34 rfl (idSize _) ?_))
      | (go_at_call 35; ((with_reducible refine (ckInc_any r r a n _ [] _ _ hn1 hN1).mono ?_); rintro e w2 ⟨rfl, g2⟩; rw [HE.out]); have b2 := b1.grown g2 (by simp); have hn2 : RdI (fun _ => False) w2 (.slice none 0 0) [] := Rd.nil _ _ _; have hN2 : ∀ b, (fun _ : Nat => False) b → b < w2.heap.size := fun _ h => h.elim)
      | ((with_reducible refine wpList_load_bk (x := .tmp 5) (t := 34) w.heap.size _ (r.l.map bv) _ b2 (by kernel_rfl) Try.underlying34 rfl (idSize _) ?_))
      | (go_at_call 39; ((with_reducible refine (ckCon_any r r a n _ [] _ _ hn2 hN2).mono ?_); rintro e w3 ⟨rfl, g3⟩; rw [HF.out]); have b3 := b2.grown g3 (by simp); have gW := gb_trans (gb_trans (gb_trans g0 g1) g2) g3))
    iterate 10 go_step
    refine wpList_guard (by rfl) ?_
    iterate 3 go_step
    refine wpList_guard (by rfl) ?_
    iterate 3 go_step
    refine wpList_guard (by rfl) ?_
    iterate 3 go_step
    iterate 6 go_step
    refine wpList_guard (by rfl) ?_
    iterate 3 go_step
    refine wpList_guard (by rfl) ?_
    iterate 3 go_step
    refine wpList_guard (by rfl) ?_
    with_reducible refine wpList_load_bk (x := .tmp 5) (t := 34) w.heap.size _ (r.l.map bv) _ b3 (by kernel_rfl) Try.underlying34 rfl (idSize _) ?_
    try go_frame
    refine wpList_guard (by rfl) ?_
    with_reducible refine wpList_load_bk (x := .tmp 5) (t := 34) w.heap.size _ (r.l.map bv) _ b3 (by kernel_rfl) Try.underlying34 rfl (idSize _) ?_
    try go_frame
    refine wpList_guard (by rfl) ?_
    with_reducible refine wpList_load_bk (x := .tmp 5) (t := 34) w.heap.size _ (r.l.map bv) _ b3 (by kernel_rfl) Try.underlying34 rfl (idSize _) ?_
    try go_frame
    refine wpList_guard (by rfl) ?_
    with_reducible refine wpList_build_id (y := .tmp 86) r (by kernel_rfl) ?_
    try go_frame
    have hv : RdI (fun b => b < (w3.alloc (.cells (r.l.map bv).toArray 34)).heap.size) (w3.alloc (.cells (r.l.map bv).toArray 34)) (.slice (some ⟨w3.heap.size, 0, none⟩) 1 1) [r] :=
      Rd.mk' (k := 32) (by rw [idCells_one]; exact (Bk.new w3 34 (r.l.map bv)).range) (by rw [World.size_alloc]; exact Nat.lt_succ_self _) (Nat.le_refl _) (by decide) (by rw [idCells_one, List.length_map, r.h])
    have hNv := fun (b : Nat) (h : b < (w3.alloc (.cells (r.l.map bv).toArray 34)).heap.size) => h
    go_wp2_with (go_at_call 39; ((with_reducible refine (ckCon_any r r a n _ [r] _ _ hv hNv).mono ?_); rintro e w4 ⟨rfl, g4⟩; rw [HF2.out]))
    go_ret
    exact ⟨rfl, gb_trans (gb_alloc gW _) g4⟩
  · obtain ⟨h0, h1, h2⟩ := hs
    have hge0 : decide ((0 : Int) ≤ a) = true := decide_eq_true (by omega)
    have hlt : decide (a < n) = false := decide_eq_false (by omega)
    have hge1 : decide ((1 : Int) ≤ a) = true := decide_eq_true (by omega)
    have hle : decide (a ≤ n) = true := decide_eq_true (by omega)
    have hle40 : decide (n ≤ (1099511627776 : Int)) = false := decide_eq_false (by omega)
    have he : ckInc r a n [] r = 1 := ckInc_out (by omega)
    have hf : ckCon r r a n [] = 1 := ckCon_out (by omega)
    have HE := Go.Lib.hid he
    have HF := Go.Lib.hid hf
    clear he hf
    clear h0 h1 h2
    go_wp2_with (first
      | (go_at_call 32; (rw [← HW.out]; (with_reducible refine (proves_any _).mono ?_); rintro e w1 ⟨rfl, g1⟩); have b1 := b0.grown g1 (by simp); have hn1 : RdI (fun _ => False) w1 (.slice none 0 0) [] := Rd.nil _ _ _; have hN1 : ∀ b, (fun _ : Nat => False) b → b < w1.heap.size := fun _ h => h.elim)
      | ((with_reducible refine wpList_load_bk (x := .tmp 5) (t := 34) w.heap.size _ (r.l.map bv) _ b1 (by kernel_rfl) Try.underlying34 rfl (idSize _) ?_))
      | (go_at_call 35; ((with_reducible refine (ckInc_any r r a n _ [] _ _ hn1 hN1).mono ?_); rintro e w2 ⟨rfl, g2⟩; rw [HE.out]); have b2 := b1.grown g2 (by simp); have hn2 : RdI (fun _ => False) w2 (.slice none 0 0) [] := Rd.nil _ _ _; have hN2 : ∀ b, (fun _ : Nat => False) b → b < w2.heap.size := fun _ h => h.elim)
      | ((with_reducible refine wpList_load_bk (x := .tmp 5) (t := 34) w.heap.size _ (r.l.map bv) _ b2 (by kernel_rfl) Try.underlying34 rfl (idSize _) ?_))
      | (go_at_call 39; ((with_reducible refine (ckCon_any r r a n _ [] _ _ hn2 hN2).mono ?_); rintro e w3 ⟨rfl, g3⟩; rw [HF.out]); have b3 := b2.grown g3 (by simp); have gW := gb_trans (gb_trans (gb_trans g0 g1) g2) g3))
    go_ret
    exact ⟨rfl, gW⟩
  · obtain ⟨h0, h1, h2⟩ := hs
    have hge0 : decide ((0 : Int) ≤ a) = true := decide_eq_true (by omega)
    have hlt : decide (a < n) = true := decide_eq_true (by omega)
    have hge1 : decide ((1 : Int) ≤ a) = true := decide_eq_true (by omega)
    have hle : decide (a ≤ n) = true := decide_eq_true (by omega)
    have hle40 : decide (n ≤ (1099511627776 : Int)) = true := decide_eq_true (by omega)
    have heq1 : ((n : Int) == 1) = false := by simp; omega
    have heq : ((a : Int) == n) = false := by simp; omega
    have heqn : ((a : Int) != n) = true := by simp; omega
    have he : ckInc r a n [] r = 60 := ckInc_nil (by omega) (by omega) (by omega) (by omega)
    have hf : ckCon r r a n [] = 60 := ckCon_nil (by omega) (by omega) (by omega)
    have HE := Go.Lib.hid he
    have HF := Go.Lib.hid hf
    clear he hf
    clear h0 h1 h2
    go_wp2_with (first
      | (go_at_call 32; (rw [← HW.out]; (with_reducible refine (proves_any _).mono ?_); rintro e w1 ⟨rfl, g1⟩); have b1 := b0.grown g1 (by simp); have hn1 : RdI (fun _ => False) w1 (.slice none 0 0) [] := Rd.nil _ _ _; have hN1 : ∀ b, (fun _ : Nat => False) b → b < w1.heap.size := fun _ h => h.elim)
      | ((with_reducible refine wpList_load_bk (x := .tmp 5) (t := 34) w.heap.size _ (r.l.map bv) _ b1 (by kernel_rfl) Try.underlying34 rfl (idSize _) ?_))
      | (go_at_call 35; ((with_reducible refine (ckInc_any r r a n _ [] _ _ hn1 hN1).mono ?_); rintro e w2 ⟨rfl, g2⟩; rw [HE.out]); have b2 := b1.grown g2 (by simp); have hn2 : RdI (fun _ => False) w2 (.slice none 0 0) [] := Rd.nil _ _ _; have hN2 : ∀ b, (fun _ : Nat => False) b → b < w2.heap.size := fun _ h => h.elim)
      | ((with_reducible refine wpList_load_bk (x := .tmp 5) (t := 34) w.heap.size _ (r.l.map bv) _ b2 (by kernel_rfl) Try.underlying34 rfl (idSize _) ?_))
      | (go_at_call 39; ((with_reducible refine (ckCon_any r r a n _ [] _ _ hn2 hN2).mono ?_); rintro e w3 ⟨rfl, g3⟩; rw [HF.out]); have b3 := b2.grown g3 (by simp); have gW := gb_trans (gb_trans (gb_trans g0 g1) g2) g3))
    go_ret
    exact ⟨rfl, gW⟩
  · obtain ⟨h0, h1, h2⟩ := hs
    have hge0 : decide ((0 : Int) ≤ a) = true := decide_eq_true (by omega)
    have hlt : decide (a < n) = true := decide_eq_true (by omega)
    have hge1 : decide ((1 : Int) ≤ a) = true := decide_eq_true (by omega)
    have hle : decide (a ≤ n) = true := decide_eq_true (by omega)
    have hle40 : decide (n ≤ (1099511627776 : Int)) = false := decide_eq_false (by omega)
    have he : ckInc r a n [] r = 1 := ckInc_out (by omega)
    have hf : ckCon r r a n [] = 1 := ckCon_out (by omega)
    have HE := Go.Lib.hid he
    have HF := Go.Lib.hid hf
    clear he hf
    clear h0 h1 h2
    go_wp2_with (first
      | (go_at_call 32; (rw [← HW.out]; (with_reducible refine (proves_any _).mono ?_); rintro e w1 ⟨rfl, g1⟩); have b1 := b0.grown g1 (by simp); have hn1 : RdI (fun _ => False) w1 (.slice none 0 0) [] := Rd.nil _ _ _; have hN1 : ∀ b, (fun _ : Nat => False) b → b < w1.heap.size := fun _ h => h.elim)
      | ((with_reducible refine wpList_load_bk (x := .tmp 5) (t := 34) w.heap.size _ (r.l.map bv) _ b1 (by kernel_rfl) Try.underlying34 rfl (idSize _) ?_))
      | (go_at_call 35; ((with_reducible refine (ckInc_any r r a n _ [] _ _ hn1 hN1).mono ?_); rintro e w2 ⟨rfl, g2⟩; rw [HE.out]); have b2 := b1.grown g2 (by simp); have hn2 : RdI (fun _ => False) w2 (.slice none 0 0) [] := Rd.nil _ _ _; have hN2 : ∀ b, (fun _ : Nat => False) b → b < w2.heap.size := fun _ h => h.elim)
      | ((with_reducible refine wpList_load_bk (x := .tmp 5) (t := 34) w.heap.size _ (r.l.map bv) _ b2 (by kernel_rfl) Try.underlying34 rfl (idSize _) ?_))
      | (go_at_call 39; ((with_reducible refine (ckCon_any r r a n _ [] _ _ hn2 hN2).mono ?_); rintro e w3 ⟨rfl, g3⟩; rw [HF.out]); have b3 := b2.grown g3 (by simp); have gW := gb_trans (gb_trans (gb_trans g0 g1) g2) g3))
    go_ret
    exact ⟨rfl, gW⟩
end Go.Proofs.Ytajgklomcapboaa
