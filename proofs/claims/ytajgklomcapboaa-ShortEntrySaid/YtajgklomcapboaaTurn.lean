import Derived.Test.YtajgklomcapboaaProg
import Derived.Test.YtajgklomcapboaaWord
/- scrivenerref01.turn: a word turned to the right. -/
namespace Go.Proofs.Ytajgklomcapboaa
open Go.RowKit Sc

theorem or64' (x y : BitVec 64) : bits .or .u64 (x.toNat : Int) (y.toNat : Int) = ((x ||| y).toNat : Int) := by
  unfold bits
  simp only [IntKind.bits, BitVec.ofInt_natCast, BitVec.ofNat_toNat, BitVec.setWidth_eq]
  rw [IntKind.wrap_u64]
  exact Int.emod_eq_of_lt (by omega) (by have := (x ||| y).isLt; omega)
theorem or64 (m n : Nat) (hm : m < 18446744073709551616) (hn : n < 18446744073709551616) : bits .or .u64 (m : Int) (n : Int) = ((m ||| n : Nat) : Int) := by
  have := or64' (BitVec.ofNat 64 m) (BitVec.ofNat 64 n)
  rw [BitVec.toNat_or, BitVec.toNat_ofNat, BitVec.toNat_ofNat, Nat.mod_eq_of_lt hm, Nat.mod_eq_of_lt hn] at this
  exact this
theorem turn_is (x : Wd) (k : Nat) (hk : 1 ≤ k ∧ k ≤ 31) : (bits .or .u64 (wn x / 2 ^ k) (IntKind.u64.wrap (wn x * 2 ^ (32 - k)))).tmod 4294967296 = wn (x.rotateRight k) := by
  have hx := x.isLt
  have e1 : (wn x / 2 ^ k : Int) = ((x.toNat >>> k : Nat) : Int) := by
    unfold wn; rw [Nat.shiftRight_eq_div_pow, Int.natCast_ediv, Int.natCast_pow]; rfl
  have hp : 2 ^ (32 - k) ≤ 2147483648 := by
    have : 2 ^ (32 - k) ≤ 2 ^ 31 := Nat.pow_le_pow_right (by omega) (by omega)
    omega
  have hq : x.toNat * 2 ^ (32 - k) ≤ 4294967296 * 2147483648 := Nat.mul_le_mul (by omega) hp
  have e2 : IntKind.u64.wrap (wn x * 2 ^ (32 - k)) = ((x.toNat <<< (32 - k) : Nat) : Int) := by
    rw [Nat.shiftLeft_eq, IntKind.wrap_u64]
    have : (wn x * 2 ^ (32 - k) : Int) = ((x.toNat * 2 ^ (32 - k) : Nat) : Int) := by
      unfold wn; rw [Int.natCast_mul, Int.natCast_pow]; rfl
    rw [this]; omega
  have h1 : x.toNat >>> k < 18446744073709551616 := by
    rw [Nat.shiftRight_eq_div_pow]; exact Nat.lt_of_le_of_lt (Nat.div_le_self _ _) (by omega)
  rw [e1, e2, or64 _ _ h1 (by rw [Nat.shiftLeft_eq]; omega), Int.tmod_eq_emod_of_nonneg (by omega)]
  unfold wn
  rw [BitVec.rotateRight_def, Nat.mod_eq_of_lt (by omega : k < 32), BitVec.toNat_or, BitVec.toNat_ushiftRight, BitVec.toNat_shiftLeft]
  have := Nat.or_mod_two_pow (a := x.toNat >>> k) (b := x.toNat <<< (32 - k)) (n := 32)
  have h3 : x.toNat >>> k % 2 ^ 32 = x.toNat >>> k := Nat.mod_eq_of_lt (by rw [Nat.shiftRight_eq_div_pow]; exact Nat.lt_of_le_of_lt (Nat.div_le_self _ _) hx)
  rw [h3] at this
  rw [← this]; rfl

theorem turn_any (x : Wd) (k : Nat) (hk : 1 ≤ k ∧ k ≤ 31) (w : World) : Calls Try.prog 67 #[.int .u64 (wn x), .int .i64 (k : Int)] w fun e w' => e = .returned (.int .u64 (wn (x.rotateRight k))) ∧ ∃ n, w' = w.drewN n := by
  go_enter Try.func67, Try.ntmps67
  have hx := wn_bd x
  have a1 : IntKind.i64.wrap (32 - (k : Int)) = ((32 - k : Nat) : Int) := by rw [IntWalk.i64_in _ (by omega)]; omega
  go_wp2_with fail
  go_quiet (fail)
  go_wp2_with fail
  go_ret
  exact ⟨by rw [← turn_is x k hk]; rfl, _, rfl⟩
end Go.Proofs.Ytajgklomcapboaa
