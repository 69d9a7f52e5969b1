import Derived.Test.YtebnkakgepaieaaRi
/- The guard of layer 5's statements: two leaves are a node (for a seat without Tops). -/
namespace Go.Proofs.Ytebnkakgepaieaa
open Go.RowKit Go.Shelf Sc
theorem size_any (B r : Nat) (tv : Value) (n : Nat) (ts : List Sc.Id) (w : World) (hR : Rng w B r tv n ts) :
    Calls Try.prog 9 #[.pointer (some ⟨r, 0, none⟩)] w fun e w' => e = .returned (.int .i64 (n : Int)) ∧ w' = w := by
  go_enter Try.func9, Try.ntmps9
  have c0 := hR.1.cellAt (i := 0) rfl
  clear hR
  go_wp2_with fail
  go_ret
  exact ⟨rfl, rfl⟩
set_option maxHeartbeats 2000000 in
theorem grows_any (w : World) : Calls Try.prog 4 #[] w fun e w' => e = .returned (.bool true) ∧ w.grownBy w' none := by
  go_enter Try.func4, Try.ntmps4
  have hv : RdI (fun b => b < (w.alloc (.cells (idCells [id1, id2]).toArray 28)).heap.size) (w.alloc (.cells (idCells [id1, id2]).toArray 28)) (.slice (some ⟨w.heap.size, 0, none⟩) 2 2) [id1, id2] :=
    Rd.mk' (Bk.new w 28 (idCells [id1, id2])).range (by rw [World.size_alloc]; omega) (Nat.le_refl _) (by decide) rfl
  have hsz : [id1, id2].length ≤ 1099511627776 := by decide
  have hs0 : ([] : List Sc.Id).length ≤ 1099511627776 := by decide
  have hs1 : ([] : List (List UInt8)).flatten.length ≤ 1125899906842624 := by decide
  have g0 := gb_alloc (gb_refl w none) (.cells (idCells [id1, id2]).toArray 28)
  obtain ⟨W, hW⟩ : ∃ W, W = w.alloc (.cells (idCells [id1, id2]).toArray 28) := ⟨_, rfl⟩
  have hWs : W.heap.size = w.heap.size + 1 := by rw [hW, World.size_alloc]
  rw [← hW] at hv g0
  have HW := Go.Lib.hid hW
  clear hW
  have HWS := Go.Lib.hid hWs
  clear hWs
  have q1 : ∀ w, (eqGuard .eql 28 (.tmp 15) (.tmp 18) (idv (root nd e0 [id1, id2])) (idv (sha (1 :: (id1.l ++ id2.l))))).run Try.prog w = .ok () w := fun _ => run_eqGuard_id idEq _ _
  have q2 : ∀ w, (binOp .eql 28 (idv (root nd e0 [id1, id2])) (idv (sha (1 :: (id1.l ++ id2.l))))).run Try.prog w = .ok (.bool true) w := fun _ => by rw [run_eql_id idEq, eq12]
  have q3 : ∀ w, (eqGuard .neq 28 (.tmp 23) (.tmp 24) (idv (root nd e0 [id1, id2])) (.agg #[.int .u8 0, .int .u8 0, .int .u8 0, .int .u8 0, .int .u8 0, .int .u8 0, .int .u8 0, .int .u8 0, .int .u8 0, .int .u8 0, .int .u8 0, .int .u8 0, .int .u8 0, .int .u8 0, .int .u8 0, .int .u8 0, .int .u8 0, .int .u8 0, .int .u8 0, .int .u8 0, .int .u8 0, .int .u8 0, .int .u8 0, .int .u8 0, .int .u8 0, .int .u8 0, .int .u8 0, .int .u8 0, .int .u8 0, .int .u8 0, .int .u8 0, .int .u8 0])).run Try.prog w = .ok () w := fun _ => run_eqGuard_id idEq _ idz
  have q4 : ∀ w, (binOp .neq 28 (idv (root nd e0 [id1, id2])) (.agg #[.int .u8 0, .int .u8 0, .int .u8 0, .int .u8 0, .int .u8 0, .int .u8 0, .int .u8 0, .int .u8 0, .int .u8 0, .int .u8 0, .int .u8 0, .int .u8 0, .int .u8 0, .int .u8 0, .int .u8 0, .int .u8 0, .int .u8 0, .int .u8 0, .int .u8 0, .int .u8 0, .int .u8 0, .int .u8 0, .int .u8 0, .int .u8 0, .int .u8 0, .int .u8 0, .int .u8 0, .int .u8 0, .int .u8 0, .int .u8 0, .int .u8 0, .int .u8 0])).run Try.prog w = .ok (.bool true) w := fun w => (run_neq_id (w := w) idEq (root nd e0 [id1, id2]) idz).trans (by rw [ne12])
  have q5 : ∀ w, (eqGuard .eql 28 (.tmp 28) (.tmp 29) (idv (root nd e0 [])) (idv (sha []))).run Try.prog w = .ok () w := fun _ => run_eqGuard_id idEq _ _
  have q6 : ∀ w, (binOp .eql 28 (idv (root nd e0 [])) (idv (sha []))).run Try.prog w = .ok (.bool true) w := fun _ => by rw [run_eql_id idEq]; rw [show ((root nd e0 []).l == (sha []).l) = true from eq00]
  go_wp2_with (first
    | ((with_reducible refine wpList_guard (by rfl) ?_))
    | ((with_reducible refine wpList_build_row (t := 28) (parts := #[(0, .const (.int .u8 1))]) (id1.l.map bv) (fun _ => by kernel_rfl) ?_))
    | ((with_reducible refine wpList_build_row (t := 28) (parts := #[(0, .const (.int .u8 2))]) (id2.l.map bv) (fun _ => by kernel_rfl) ?_))
    | ((with_reducible refine wpList_build_row (t := 28) (parts := #[]) (idz.l.map bv) (fun _ => by kernel_rfl) ?_))
    | ((with_reducible refine wpList_build_two (y := .tmp 2) (z := .tmp 3) (by kernel_rfl) (by kernel_rfl) ?_); rw [← HW.out])
    | (go_at_call 8; ((with_reducible refine (treeOf_any _ [id1, id2] _ _ hv (fun _ h => h) hsz).mono ?_); rintro e w2 ⟨rfl, g2, tv, hR2⟩; replace g0 := gb_trans g0 g2))
    | (go_at_call 9; ((with_reducible refine (size_any _ _ tv _ _ _ hR2).mono ?_); rintro e w3 ⟨rfl, rfl⟩))
    | (go_at_call 10; ((with_reducible refine (rootM_any _ _ tv [id1, id2] _ hR2 hsz).mono ?_); rintro e w3 ⟨rfl, g3⟩; replace hR2 := Rng.gr hR2 g3; replace g0 := gb_trans g0 g3))
    | (go_at_call 11; ((with_reducible refine (node12 _).mono ?_); rintro e w3 ⟨rfl, g3⟩; replace hR2 := Rng.gr hR2 g3; replace g0 := gb_trans g0 g3))
    | ((with_reducible refine wpList_eql_id (x := .tmp 15) (y := .tmp 18) idEq (root nd e0 [id1, id2]) (sha (1 :: (id1.l ++ id2.l))) (by kernel_rfl) (by kernel_rfl) ?_); rw [eq12])
    | ((with_reducible refine wpList_neq_id (x := .tmp 23) (y := .tmp 24) idEq (root nd e0 [id1, id2]) idz (by kernel_rfl) (by kernel_rfl) ?_); rw [ne12])
    | (go_at_call 7; ((with_reducible refine (treeRoot_any (.slice none 0 0) [] (fun _ => False) _ (rdi_nil _) (noN _) hs0).mono ?_); rintro e w3 ⟨rfl, g3⟩; replace g0 := gb_trans g0 g3))
    | (go_at_call 12; ((with_reducible refine (of_any (.slice none 0 0) [] (fun _ => False) _ (rdbb_nil _) (noN _) hs1).mono ?_); rintro e w3 ⟨rfl, g3⟩; replace g0 := gb_trans g0 g3))
    | ((with_reducible refine wpList_eql_id (x := .tmp 28) (y := .tmp 29) idEq (root nd e0 []) (sha [].flatten) (by kernel_rfl) (by kernel_rfl) ?_); rw [eq00]))
  go_ret
  exact ⟨rfl, g0⟩
end Go.Proofs.Ytebnkakgepaieaa
