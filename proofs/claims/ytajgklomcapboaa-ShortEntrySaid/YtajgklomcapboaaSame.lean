import Derived.Test.YtajgklomcapboaaRi
/- scrivenerref05.Same: are two lists of sums the same? -/
namespace Sc
open Go Go.RowKit
def sameB (xs ys : List Sc.Id) : Bool := xs.map (·.l) == ys.map (·.l)
theorem sameB_refl (xs : List Sc.Id) : sameB xs xs = true := beq_self_eq_true _
theorem sameB_eq {xs ys : List Sc.Id} (h : sameB xs ys = true) : xs = ys := by
  unfold sameB at h
  have := eq_of_beq h
  induction xs generalizing ys with
  | nil => cases ys with
    | nil => rfl
    | cons y ys => simp at this
  | cons x xs ih => cases ys with
    | nil => simp at this
    | cons y ys =>
      simp only [List.map_cons, List.cons.injEq] at this
      rw [Sc.Id.ext' this.1, ih (by rw [this.2]; exact beq_self_eq_true _) this.2]
theorem sameB_ne {xs ys : List Sc.Id} (h : xs ≠ ys) : sameB xs ys = false := by
  cases hs : sameB xs ys with
  | false => rfl
  | true => exact absurd (sameB_eq hs) h
theorem ne_of_at {xs ys : List Sc.Id} {i : Nat} {x y : Sc.Id} (hx : xs[i]? = some x) (hy : ys[i]? = some y) (h : x ≠ y) : xs ≠ ys := fun e => by
  subst e; rw [hx] at hy; exact h (Option.some.inj hy)
theorem take_same {xs ys : List Sc.Id} {i : Nat} {x : Sc.Id} (hx : xs[i]? = some x) (hy : ys[i]? = some x) (h : xs.take i = ys.take i) : xs.take (i + 1) = ys.take (i + 1) := by
  rw [List.take_add_one, List.take_add_one, hx, hy, h]
theorem beq_ids {x y : Sc.Id} (h : x ≠ y) : (x.l == y.l) = false := by
  cases hb : x.l == y.l with
  | false => rfl
  | true => exact absurd (Sc.Id.ext' (eq_of_beq hb)) h
end Sc
namespace Go.Proofs.Ytajgklomcapboaa
open Go.RowKit Go.Shelf Sc

def samφ (b1 o1 c1 b2 o2 c2 n m p : Nat) (x y : Sc.Id) (i : Nat) (v : Value) (_w : World) : Prop := match i with
  | 0 => v = .slice (some ⟨b1, o1, none⟩) n c1
  | 1 => v = .int .i64 (p : Int)
  | 2 => v = .pointer (some ⟨b1, o1 + p * 32, none⟩)
  | 3 => v = idv x
  | 4 => v = .slice (some ⟨b2, o2, none⟩) m c2
  | 5 => v = .int .i64 (p : Int)
  | 6 => v = .pointer (some ⟨b2, o2 + p * 32, none⟩)
  | 7 => v = idv y
  | _ => True
theorem samφ_gr (b1 o1 c1 b2 o2 c2 n m p : Nat) (x y : Sc.Id) : ∀ i v w w', samφ b1 o1 c1 b2 o2 c2 n m p x y i v w → Gr w w' → samφ b1 o1 c1 b2 o2 c2 n m p x y i v w' := by
  intro i v w w' h hg
  match i with
  | 0 => exact h
  | 1 => exact h
  | 2 => exact h
  | 3 => exact h
  | 4 => exact h
  | 5 => exact h
  | 6 => exact h
  | 7 => exact h
  | i + 8 => exact h

set_option maxHeartbeats 2000000 in
theorem same_any (u v : Value) (xs ys : List Sc.Id) (w : World) (hu : RI w u xs) (hv : RI w v ys) (hn : xs.length ≤ 1000000) (hm : ys.length ≤ 1000000) :
    Calls Try.prog 29 #[u, v] w fun e w' => e = .returned (.bool (sameB xs ys)) ∧ w.grownBy w' none := by
  go_enter Try.func29, Try.ntmps29
  obtain ⟨A1, c1, rfl, hc1⟩ := Rd.form hu
  obtain ⟨A2, c2, rfl, hc2⟩ := Rd.form hv
  have HU := Go.Lib.hid hu
  have HV := Go.Lib.hid hv
  clear hu hv
  have hI : (0 : Int) ≤ (xs.length : Int) ∧ (xs.length : Int) ≤ 1000000 ∧ (ys.length : Int) ≤ 1000000 := by omega
  by_cases hl : xs.length = ys.length
  · have hl1 : decide (xs.length = ys.length) = true := decide_eq_true hl
    have hl2 : ((xs.length : Int) != (ys.length : Int)) = false := by rw [hl]; simp
    go_wp2_with fail
    clear hl1 hl2
    go_loopw [5] (fun iv wr => ∃ i : Nat, iv = .int .i64 (i : Int) ∧ i ≤ xs.length ∧ Hid (xs.take i = ys.take i) ∧ Hid (w.grownBy wr none)) (fun iv _ => xs.length - (intOf iv).toNat)
    case atStart => exact ⟨0, rfl, Nat.zero_le _, Go.Lib.hid rfl, Go.Lib.hid (gb_refl _ _)⟩
    case round =>
      obtain ⟨i, rfl, hi, HT, HG⟩ := hrel
      by_cases hlt : i < xs.length
      · have hd : decide (i < xs.length) = true := decide_eq_true hlt
        have hiI : (0 : Int) ≤ (i : Int) ∧ (i : Int) < (xs.length : Int) ∧ (i : Int) < (ys.length : Int) := by omega
        obtain ⟨b1, o1, c1', e1, _, _, _, hr1⟩ := (RI.gr HU.out HG.out).at (by omega)
        obtain ⟨b2, o2, c2', e2, _, _, _, hr2⟩ := (RI.gr HV.out HG.out).at (by omega)
        injection e1 with e1 _ e1c
        injection e2 with e2 _ e2c
        subst e1 e2 e1c e2c
        obtain ⟨x, hx⟩ : ∃ x, xs[i]? = some x := ⟨_, List.getElem?_eq_getElem hlt⟩
        obtain ⟨y, hy⟩ : ∃ y, ys[i]? = some y := ⟨_, List.getElem?_eq_getElem (by omega)⟩
        have hrx := range_id hr1 hx
        have hry := range_id hr2 hy
        have HX := Go.Lib.hid hx
        have HY := Go.Lib.hid hy
        clear hx hy hr1 hr2
        have HGi := HG.out
        have HL := Go.Lib.hid hl
        clear hl
        go_wp2_with fail
        refine wp_region_specs 8 [17, 18, 19, 20, 21, 22, 23, 24] (by kernel_rfl) (by kernel_rfl) (samφ b1 o1 c1 b2 o2 c2 xs.length ys.length i x y) (samφ_gr b1 o1 c1 b2 o2 c2 xs.length ys.length i x y) ?step ?fin
        case step =>
          intro i_ o_ ho hi_ u w' hg hd
          rcases (by omega : i_ = 0 ∨ i_ = 1 ∨ i_ = 2 ∨ i_ = 3 ∨ i_ = 4 ∨ i_ = 5 ∨ i_ = 6 ∨ i_ = 7) with rfl | rfl | rfl | rfl | rfl | rfl | rfl | rfl <;> obtain rfl := Option.some.inj ho <;>
            simp (decide := true) only [fillAct, List.mapIdx_cons, List.mapIdx_nil, Nat.reduceAdd, if_true, if_false, List.getD_cons_zero, List.getD_cons_succ]
          · clear hd ho
            go_wp2_with fail
            exact ⟨rfl, gb_refl _ _, rfl⟩
          · clear hd ho
            go_wp2_with fail
            exact ⟨rfl, gb_refl _ _, rfl⟩
          · have h0 : u 17 = .slice (some ⟨b1, o1, none⟩) xs.length c1 := hd 0 (by kernel_rfl)
            have h1 : u 18 = .int .i64 (i : Int) := hd 1 (by kernel_rfl)
            clear hd ho
            rw [h0, h1]
            go_wp2_with fail
            exact ⟨rfl, gb_refl _ _, rfl⟩
          · have h2 : u 19 = .pointer (some ⟨b1, o1 + i * 32, none⟩) := hd 2 (by kernel_rfl)
            clear hd ho
            rw [h2]
            have r1 := rangeAt_grown hrx hg (by simp)
            go_wp2_with ((with_reducible refine wpList_load_range (t := 34) b1 (o1 + i * 32) (x.l.map bv) _ r1 (by kernel_rfl) Try.underlying34 rfl (idSize _) ?_))
            exact ⟨rfl, gb_refl _ _, rfl⟩
          · clear hd ho
            go_wp2_with fail
            exact ⟨rfl, gb_refl _ _, rfl⟩
          · clear hd ho
            go_wp2_with fail
            exact ⟨rfl, gb_refl _ _, rfl⟩
          · have h4 : u 21 = .slice (some ⟨b2, o2, none⟩) ys.length c2 := hd 4 (by kernel_rfl)
            have h5 : u 22 = .int .i64 (i : Int) := hd 5 (by kernel_rfl)
            clear hd ho
            rw [h4, h5]
            go_wp2_with fail
            exact ⟨rfl, gb_refl _ _, rfl⟩
          · have h6 : u 23 = .pointer (some ⟨b2, o2 + i * 32, none⟩) := hd 6 (by kernel_rfl)
            clear hd ho
            rw [h6]
            have r1 := rangeAt_grown hry hg (by simp)
            go_wp2_with ((with_reducible refine wpList_load_range (t := 34) b2 (o2 + i * 32) (y.l.map bv) _ r1 (by kernel_rfl) Try.underlying34 rfl (idSize _) ?_))
            exact ⟨rfl, gb_refl _ _, rfl⟩

        case fin =>
          intro u w' hg hφ
          have h3 : u 20 = idv x := hφ 3 (by omega)
          have h7 : u 24 = idv y := hφ 7 (by omega)
          simp (decide := true) only [fillAct, List.mapIdx_cons, List.mapIdx_nil, Nat.reduceAdd, if_true, if_false, List.drop_succ_cons, List.drop_zero]
          rw [h3, h7]
          clear hφ
          by_cases hxy : x = y
          · subst hxy
            go_wp2_with ((with_reducible refine wpList_neq_id (x := .tmp 20) (y := .tmp 24) idEq x x (by kernel_rfl) (by kernel_rfl) ?_); rw [beq_self_eq_true, Bool.not_true])
            go_roundw
            case rel => exact ⟨i + 1, by go_num, by omega, Go.Lib.hid (take_same HX.out HY.out HT.out), Go.Lib.hid (gb_trans HGi hg)⟩
            case measure => simp [intOf]; omega
          · have hb := beq_ids hxy
            have hs := sameB_ne (ne_of_at HX.out HY.out hxy)
            have HS := Go.Lib.hid hs
            clear hs
            go_wp2_with ((with_reducible refine wpList_neq_id (x := .tmp 20) (y := .tmp 24) idEq x y (by kernel_rfl) (by kernel_rfl) ?_); rw [hb, Bool.not_false])
            go_ret
            exact ⟨by rw [HS.out]; rfl, gb_trans HGi hg⟩
      · obtain rfl : i = xs.length := by omega
        have hd : decide (xs.length < xs.length) = false := decide_eq_false (by omega)
        have hs : sameB xs ys = true := by
          have := HT.out
          rw [List.take_length, hl, List.take_length] at this
          rw [this]; exact sameB_refl _
        have HS := Go.Lib.hid hs
        clear hl hs
        go_wp2_with fail
        go_ret
        exact ⟨by rw [HS.out]; rfl, HG.out⟩
  · have hl1 : decide (xs.length = ys.length) = false := decide_eq_false hl
    have hl2 : ((xs.length : Int) != (ys.length : Int)) = true := by simp; omega
    have hs : sameB xs ys = false := sameB_ne (fun e => hl (by rw [e]))
    rw [hs]
    go_wp2_with fail
    go_ret
    exact ⟨rfl, gb_refl _ _⟩
end Go.Proofs.Ytajgklomcapboaa
