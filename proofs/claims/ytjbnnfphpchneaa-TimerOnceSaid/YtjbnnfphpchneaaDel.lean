import Derived.Test.YtjbnnfphpchneaaSet
import Derived.Deep.CutBlock
/- The closure that tells whether a timer is over, and keeps it if so: (*timer.Timer).Tick$1. -/
namespace Go.Proofs.Ytjbnnfphpchneaa
open Go.RowKit Sc
/-- What the closure holds: the timers' place, and those that are over. -/
def DS (w : World) (B bT bO r : Nat) (n : Int) (lv : Value) (O : List Due) (ov : Value) : Prop :=
  Bk w bT 32 [.pointer (some ⟨r, 0, none⟩)] ∧ Bk w r 26 [.int .i64 n, lv] ∧ Bk w bO 24 [ov] ∧ Ow B w 3 ov O.length (dueCs O) ∧ (∀ b, ov.ownBlock = some b → b ≠ bT ∧ b ≠ bO ∧ b ≠ r) ∧ bT ≠ bO ∧ bT ≠ r ∧ bO ≠ r
theorem DS.gr {w w' : World} {B bT bO r : Nat} {n : Int} {lv ov : Value} {O : List Due} (h : DS w B bT bO r n lv O ov) (hg : w.grownBy w' none) : DS w' B bT bO r n lv O ov :=
  ⟨h.1.grown hg (by simp), h.2.1.grown hg (by simp), h.2.2.1.grown hg (by simp), h.2.2.2.1.grown hg (fun _ _ => by simp), h.2.2.2.2⟩
/-- A change of rows that the closure does not hold. -/
theorem DS.ch {w w' : World} {S : Nat → Prop} {B bT bO r : Nat} {n : Int} {lv ov : Value} {O : List Due} (h : DS w B bT bO r n lv O ov) (hc : Ch S w w') (h1 : ¬ S bT) (h2 : ¬ S r) (h3 : ¬ S bO) (h4 : ∀ b, ov.ownBlock = some b → ¬ S b) : DS w' B bT bO r n lv O ov :=
  ⟨hc.bk h.1 h1, hc.bk h.2.1 h2, hc.bk h.2.2.1 h3, hc.ow h.2.2.2.1 h4, h.2.2.2.2⟩
def overOf (n : Int) (L : List Due) : List Due := L.filter fun d => decide (d.1 ≤ n)
def leftOf (n : Int) (L : List Due) : List Due := L.filter fun d => !decide (d.1 ≤ n)
set_option maxHeartbeats 2000000 in
theorem del_any {B bT bO r : Nat} {n : Int} {lv ov : Value} {O : List Due} (d : Due) (w : World) (hS : DS w B bT bO r n lv O ov) (hB : B ≤ w.heap.size) (hO : O.length ≤ 1000000) :
    Calls Try.prog 19 #[.agg (dueC d).toArray, .pointer (some ⟨bT, 0, none⟩), .pointer (some ⟨bO, 0, none⟩)] w fun e w' => e = .returned (.bool (decide (d.1 ≤ n))) ∧
      ∃ ov', DS w' B bT bO r n lv (O ++ overOf n [d]) ov' ∧ Ch (fun k => k = bO ∨ ov.ownBlock = some k) w w' ∧ (ov'.ownBlock = ov.ownBlock ∨ ∃ k, ov'.ownBlock = some k ∧ w.heap.size ≤ k) := by
  obtain ⟨at_, rd, st⟩ := d
  go_enter Try.func19, Try.ntmps19
  obtain ⟨W, hW⟩ : ∃ W, W = w.alloc (.cells (dueC (at_, rd, st)).toArray 52) := ⟨_, rfl⟩
  have bd : Bk W w.heap.size 52 (dueC (at_, rd, st)) := by rw [hW]; exact Bk.new w _ _
  have g0 : w.grownBy W none := by rw [hW]; exact gb_alloc (gb_refl w none) _
  have zW : W.heap.size = w.heap.size + 1 := by rw [hW, World.size_alloc]
  have hS0 := hS.gr g0
  obtain ⟨bD, hbD⟩ : ∃ bD, bD = w.heap.size := ⟨_, rfl⟩
  have hoD : ∀ b, ov.ownBlock = some b → b ≠ bD := fun b hb => by have := hS.2.2.2.1.lt hb; omega
  have hbs : bT < bD ∧ bO < bD ∧ r < bD := by have := hS.1.lt; have := hS.2.1.lt; have := hS.2.2.1.lt; omega
  have HW := Go.Lib.hid hW
  have c0 : W.cell? ⟨bD, 0, none⟩ = some (.int .i64 at_) := by rw [hbD]; exact bd.cellAt rfl
  have cT : W.cell? ⟨bT, 0, none⟩ = some (.pointer (some ⟨r, 0, none⟩)) := hS0.1.cellAt rfl
  have cN : W.cell? ⟨r, 0, none⟩ = some (.int .i64 n) := hS0.2.1.cellAt rfl
  rw [← hbD] at bd
  have HBD := Go.Lib.hid hbD
  have HS := Go.Lib.hid hS0
  clear hW hbD hS
  go_upto_region 1 with fail
  rw [← HW.out, ← HBD.out]
  go_quiet (fail)
  obtain ⟨W1, hW1⟩ : ∃ W1, W1 = W.drewN nq := ⟨_, rfl⟩
  have gW1 : W.grownBy W1 none := by rw [hW1]; exact gb_drewN (gb_refl W none) nq
  rw [← hW1]
  have HS1 := Go.Lib.hid (HS.out.gr gW1)
  have bd1 := bd.grown gW1 (by simp)
  have g01 := gb_trans g0 gW1
  clear c0 cT cN hS0 hW1 bd HS zW
  by_cases h : at_ ≤ n
  · have hd : decide (at_ ≤ n) = true := decide_eq_true h
    have hov : overOf n [(at_, rd, st)] = [(at_, rd, st)] := by simp [overOf, h]
    have HOV := Go.Lib.hid hov
    have HD := Go.Lib.hid hd
    obtain ⟨q, hq⟩ : ∃ q, q = O.length := ⟨_, rfl⟩
    have HQ := Go.Lib.hid hq
    have ho0 := HS1.out.2.2.2.1
    rw [← hq] at ho0 hO
    obtain ⟨A, c, rfl⟩ := ho0.form
    have cO : W1.cell? ⟨bO, 0, none⟩ = some (.slice A q c) := HS1.out.2.2.1.cellAt rfl
    have fO := HS1.out.2.2.1.frozen 0
    have ho5 := ho0.alloc (.cells (dueC (at_, rd, st)).toArray 52)
    have hs5 : Src Try.prog 3 24 (.slice (some ⟨W1.heap.size, 0, none⟩) 1 1) 1 (dueC (at_, rd, st)) (W1.alloc (.cells (dueC (at_, rd, st)).toArray 52)) := src_new (P := Try.prog) Try.underlying24 W1 52 3 1 (dueC (at_, rd, st)) rfl (dueC_one _)
    have hB5 : B ≤ (W1.alloc (.cells (dueC (at_, rd, st)).toArray 52)).heap.size := by rw [World.size_alloc]; have := g01.size; omega
    have h63 : q + 1 ≤ maxLen := by simp only [maxLen]; omega
    have hby : (q + 1) * 24 ≤ 140737488355328 := by omega
    clear ho0 hq hov h
    rw [hd]
    go_upto_region 3 with (first
      | ((with_reducible refine wpList_load_bk (x := .tmp 3) (t := 52) bD 52 (dueC (at_, rd, st)) _ bd1 (by kernel_rfl) Try.underlying52 rfl (dueSize _) ?_))
      | ((with_reducible refine wpList_build_due (y := .tmp 13) (at_, rd, st) (by kernel_rfl) ?_))
      | ((with_reducible refine wpList_append_ow (s := .tmp 12) (x := .tmp 14) (v := .slice A q c) (by kernel_rfl) (by kernel_rfl) Try.underlying24 okDue ho5 hs5 hB5 h63 hby ?_); intro v3 w3 ho3 hg3 hb3; obtain ⟨A4, c4, rfl⟩ := ho3.form; have f3 : w3.frozen? ⟨bO, 0, none⟩ = false := ((HS1.out.2.2.1.alloc _).grown hg3 (fun e => (HS1.out.2.2.2.2.1 _ e.symm).2.1 rfl)).frozen 0; have c3 : w3.cell? ⟨bO, 0, none⟩ = some (.slice A q c) := ((HS1.out.2.2.1.alloc _).grown hg3 (fun e => (HS1.out.2.2.2.2.1 _ e.symm).2.1 rfl)).cellAt rfl))
    have gw3 : w.grownBy w3 (Value.slice A q c).ownBlock := gb_trans (gb_none (gb_alloc g01 _)) hg3
    have hne5 : ∀ b, (Value.slice A4 (q + 1) c4).ownBlock = some b → b ≠ bT ∧ b ≠ bO ∧ b ≠ r ∧ b ≠ bD := fun b hb => by
      rcases hb3 with h | h
      · rw [h] at hb
        have h1 := HS1.out.2.2.2.2.1 b hb
        exact ⟨h1.1, h1.2.1, h1.2.2, hoD b hb⟩
      · rw [h] at hb
        have h1 := Option.some.inj hb
        rw [World.size_alloc] at h1
        have := bd1.lt
        omega
    have hS3 : Bk w3 bT 32 [.pointer (some ⟨r, 0, none⟩)] ∧ Bk w3 r 26 [.int .i64 n, lv] ∧ Bk w3 bO 24 [.slice A q c] ∧ Bk w3 bD 52 (dueC (at_, rd, st)) := by
      have h := HS1.out
      have hx := h.2.2.2.2.1
      exact ⟨(h.1.alloc _).grown hg3 (fun e => (hx _ e.symm).1 rfl), (h.2.1.alloc _).grown hg3 (fun e => (hx _ e.symm).2.2 rfl), (h.2.2.1.alloc _).grown hg3 (fun e => (hx _ e.symm).2.1 rfl), (bd1.alloc _).grown hg3 (fun e => hoD _ e.symm rfl)⟩
    obtain ⟨w4, hw4⟩ : ∃ w4, w4 = w3.setCell ⟨bO, 0, none⟩ (.slice A4 (q + 1) c4) := ⟨_, rfl⟩
    have g34 : w3.grownBy w4 (some bO) := by rw [hw4]; exact gb_set1 _ _ _
    have hS4 : DS w4 B bT bO r n lv (O ++ [(at_, rd, st)]) (.slice A4 (q + 1) c4) := by
      have hx := HS1.out.2.2.2.2.2
      refine ⟨hS3.1.grown g34 (fun e => hx.1 (Option.some.inj e)), hS3.2.1.grown g34 (fun e => hx.2.2 (Option.some.inj e).symm), by rw [hw4]; exact hS3.2.2.1.set 0 _, ?_, fun b hb => ⟨(hne5 b hb).1, (hne5 b hb).2.1, (hne5 b hb).2.2.1⟩, hx⟩
      rw [List.length_append, List.length_singleton, ← HQ.out, dueCs_append, dueCs_one]
      exact ho3.grown g34 (fun b hb e => (hne5 b hb).2.1 (Option.some.inj e).symm)
    have bd4 := hS3.2.2.2.grown g34 (fun e => by have := Option.some.inj e; omega)
    have hC4 : Ch (fun k => k = bO ∨ (Value.slice A q c).ownBlock = some k) w w4 := (Ch.of (S := fun k => k = bO ∨ (Value.slice A q c).ownBlock = some k) gw3 (fun k h => .inr h)).gb g34 (fun k h => .inl (.inl (Option.some.inj h).symm))
    have hO4 : (Value.slice A4 (q + 1) c4).ownBlock = (Value.slice A q c).ownBlock ∨ ∃ k, (Value.slice A4 (q + 1) c4).ownBlock = some k ∧ w.heap.size ≤ k := hb3.imp id fun h => ⟨_, h, by rw [World.size_alloc]; have := g01.size; omega⟩
    rw [← hw4]
    have c0 : w4.cell? ⟨bD, 0, none⟩ = some (.int .i64 at_) := bd4.cellAt rfl
    have cT : w4.cell? ⟨bT, 0, none⟩ = some (.pointer (some ⟨r, 0, none⟩)) := hS4.1.cellAt rfl
    have cN : w4.cell? ⟨r, 0, none⟩ = some (.int .i64 n) := hS4.2.1.cellAt rfl
    have HS4 := Go.Lib.hid hS4
    have HC4 := Go.Lib.hid hC4
    have HO4 := Go.Lib.hid hO4
    clear f3 c3 hS3 hS4 hC4 hO4 hw4 hne5 ho3 hb3 gw3 g34 bd4 cO fO ho5 hs5 hg3 hB5 h63 hby hd
    go_quiet (fail)
    go_wp2_with fail
    go_ret
    try rw [HOV.out]
    rw [HD.out]
    have g5 := gb_drewN (gb_refl w4 none) nq
    exact ⟨rfl, _, HS4.out.gr g5, HC4.out.gb g5 (fun _ h => by cases h), HO4.out⟩
  · have hd : decide (at_ ≤ n) = false := decide_eq_false h
    have hov : overOf n [(at_, rd, st)] = [] := by simp [overOf, h]
    have HOV := Go.Lib.hid hov
    rw [hd]
    go_upto_region 3 with fail
    have c0 : W1.cell? ⟨bD, 0, none⟩ = some (.int .i64 at_) := bd1.cellAt rfl
    have cT : W1.cell? ⟨bT, 0, none⟩ = some (.pointer (some ⟨r, 0, none⟩)) := HS1.out.1.cellAt rfl
    have cN : W1.cell? ⟨r, 0, none⟩ = some (.int .i64 n) := HS1.out.2.1.cellAt rfl
    go_quiet (fail)
    go_wp2_with fail
    go_ret
    try rw [HOV.out, List.append_nil]
    have g5 := gb_trans g01 (gb_drewN (gb_refl W1 none) nq)
    exact ⟨rfl, _, HS1.out.gr (gb_drewN (gb_refl W1 none) nq), Ch.of g5 (fun _ h => by cases h), .inl rfl⟩
end Go.Proofs.Ytjbnnfphpchneaa
