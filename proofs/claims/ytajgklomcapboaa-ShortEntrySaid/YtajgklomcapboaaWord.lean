import Derived.Test.YtajgklomcapboaaSha
import Derived.Test.YtajgklomcapboaaMem
/- Words and bytes as the model's values; what its operations do to them. -/
namespace Sc
open Go Go.RowKit

/-- A word as a number: a plain definition, so that no rule of simp looks into it. -/
def wn (x : Wd) : Int := (x.toNat : Int)
theorem wn_bd (x : Wd) : 0 ≤ wn x ∧ wn x ≤ 4294967295 := by unfold wn; have := x.isLt; omega
def wd (x : Wd) : Value := .int .u32 (wn x)
/-- The same word, where the reference holds it. -/
def wq (x : Wd) : Value := .int .u64 (wn x)
def bv (x : UInt8) : Value := .int .u8 (x.toNat : Int)
def idv (x : Id) : Value := .agg (x.l.map bv).toArray

theorem wd_lt (x : Wd) : (x.toNat : Int) < 4294967296 := by have := x.isLt; omega
theorem wd_le (x : Wd) : (x.toNat : Int) ≤ 4294967295 := by have := x.isLt; omega

theorem wd_xor (x y : Wd) : bits .xor .u32 (x.toNat : Int) (y.toNat : Int) = ((x ^^^ y).toNat : Int) := by
  unfold bits
  simp only [IntKind.bits, BitVec.ofInt_natCast, BitVec.ofNat_toNat, BitVec.setWidth_eq]
  rw [IntKind.wrap_u32]
  exact Int.emod_eq_of_lt (by omega) (wd_lt (x ^^^ y))
theorem wd_and (x y : Wd) : bits .and .u32 (x.toNat : Int) (y.toNat : Int) = ((x &&& y).toNat : Int) := by
  unfold bits
  simp only [IntKind.bits, BitVec.ofInt_natCast, BitVec.ofNat_toNat, BitVec.setWidth_eq]
  rw [IntKind.wrap_u32]
  exact Int.emod_eq_of_lt (by omega) (wd_lt (x &&& y))
theorem wd_or (x y : Wd) : bits .or .u32 (x.toNat : Int) (y.toNat : Int) = ((x ||| y).toNat : Int) := by
  unfold bits
  simp only [IntKind.bits, BitVec.ofInt_natCast, BitVec.ofNat_toNat, BitVec.setWidth_eq]
  rw [IntKind.wrap_u32]
  exact Int.emod_eq_of_lt (by omega) (wd_lt (x ||| y))
theorem wd_add (x y : Wd) : ((x.toNat : Int) + (y.toNat : Int)) % 4294967296 = ((x + y).toNat : Int) := by
  rw [BitVec.toNat_add]; omega
theorem wd_add' (x y : Wd) : IntKind.u32.wrap ((x.toNat : Int) + (y.toNat : Int)) = ((x + y).toNat : Int) := by
  rw [IntKind.wrap_u32, wd_add]
theorem wd_shr3 (x : Wd) : (x.toNat : Int) / 8 = ((x >>> 3).toNat : Int) := by
  rw [BitVec.toNat_ushiftRight, Nat.shiftRight_eq_div_pow]; omega
theorem wd_shr10 (x : Wd) : (x.toNat : Int) / 1024 = ((x >>> 10).toNat : Int) := by
  rw [BitVec.toNat_ushiftRight, Nat.shiftRight_eq_div_pow]; omega

theorem or_nat (m n : Nat) (hm : m < 4294967296) (hn : n < 4294967296) : bits .or .u32 (m : Int) (n : Int) = ((m ||| n : Nat) : Int) := by
  have := wd_or (BitVec.ofNat 32 m) (BitVec.ofNat 32 n)
  rw [BitVec.toNat_or, BitVec.toNat_ofNat, BitVec.toNat_ofNat, Nat.mod_eq_of_lt hm, Nat.mod_eq_of_lt hn] at this
  exact this

theorem or_add (a b j : Nat) (h : b < 2 ^ j) : a * 2 ^ j ||| b = a * 2 ^ j + b := by
  have := Nat.shiftLeft_add_eq_or_of_lt h a
  rw [Nat.shiftLeft_eq] at this
  exact this.symm

/-- Four bytes, shifted and joined, are their word. -/
theorem be32_or (a b c d : UInt8) :
    bits .or .u32 (bits .or .u32 (bits .or .u32 ((a.toNat : Int) % 4294967296 * 16777216 % 4294967296) ((b.toNat : Int) % 4294967296 * 65536 % 4294967296)) ((c.toNat : Int) % 4294967296 * 256 % 4294967296)) ((d.toNat : Int) % 4294967296) = ((be32 a b c d).toNat : Int) := by
  have ha := a.toNat_lt
  have hb := b.toNat_lt
  have hc := c.toNat_lt
  have hd := d.toNat_lt
  have e1 : ((a.toNat : Int) % 4294967296 * 16777216 % 4294967296) = ((a.toNat * 2 ^ 24 : Nat) : Int) := by omega
  have e2 : ((b.toNat : Int) % 4294967296 * 65536 % 4294967296) = ((b.toNat * 65536 : Nat) : Int) := by omega
  have e3 : ((c.toNat : Int) % 4294967296 * 256 % 4294967296) = ((c.toNat * 256 : Nat) : Int) := by omega
  have e4 : ((d.toNat : Int) % 4294967296) = ((d.toNat : Nat) : Int) := by omega
  rw [e1, e2, e3, e4, or_nat _ _ (by omega) (by omega), or_add _ _ _ (by omega), show a.toNat * 2 ^ 24 + b.toNat * 65536 = (a.toNat * 256 + b.toNat) * 2 ^ 16 by omega,
    or_nat _ _ (by omega) (by omega), or_add _ _ _ (by omega), show (a.toNat * 256 + b.toNat) * 2 ^ 16 + c.toNat * 256 = ((a.toNat * 256 + b.toNat) * 256 + c.toNat) * 2 ^ 8 by omega,
    or_nat _ _ (by omega) (by omega), or_add _ _ _ (by omega)]
  unfold be32
  rw [BitVec.toNat_ofNat]
  omega

theorem wd_rot (x : Wd) (n : Nat) (h1 : 1 ≤ n) (h2 : n ≤ 31) :
    bits .or .u32 ((x.toNat : Int) * 2 ^ (32 - n) % 4294967296) ((x.toNat : Int) / 2 ^ n) = ((rotr x n).toNat : Int) := by
  have e1 : ((x.toNat : Int) * 2 ^ (32 - n) % 4294967296) = ((x <<< (32 - n)).toNat : Int) := by
    rw [BitVec.toNat_shiftLeft, Nat.shiftLeft_eq]; simp
  have e2 : ((x.toNat : Int) / 2 ^ n) = ((x >>> n).toNat : Int) := by
    rw [BitVec.toNat_ushiftRight, Nat.shiftRight_eq_div_pow]; simp
  rw [e1, e2, wd_or, rotr, BitVec.rotateRight_def, Nat.mod_eq_of_lt (by omega : n < 32), BitVec.or_comm]
theorem wn_xor (x y : Wd) : bits .xor .u32 (wn x) (wn y) = wn (x ^^^ y) := wd_xor x y
theorem wn_and (x y : Wd) : bits .and .u32 (wn x) (wn y) = wn (x &&& y) := wd_and x y
theorem wn_or (x y : Wd) : bits .or .u32 (wn x) (wn y) = wn (x ||| y) := wd_or x y
theorem wn_add (x y : Wd) : (wn x + wn y) % (4294967296 : Int) = wn (x + y) := wd_add x y
theorem wn_add' (x y : Wd) : IntKind.u32.wrap (wn x + wn y) = wn (x + y) := wd_add' x y
theorem wn_shr3 (x : Wd) : wn x / (8 : Int) = wn (x >>> 3) := wd_shr3 x
theorem wn_shr10 (x : Wd) : wn x / (1024 : Int) = wn (x >>> 10) := wd_shr10 x
theorem wn_rot (x : Wd) (n : Nat) (h1 : 1 ≤ n) (h2 : n ≤ 31) :
    bits .or .u32 (wn x * 2 ^ (32 - n) % 4294967296) (wn x / 2 ^ n) = wn (rotr x n) := wd_rot x n h1 h2
theorem wn_be32 (a b c d : UInt8) :
    bits .or .u32 (bits .or .u32 (bits .or .u32 ((a.toNat : Int) % 4294967296 * 16777216 % 4294967296) ((b.toNat : Int) % 4294967296 * 65536 % 4294967296)) ((c.toNat : Int) % 4294967296 * 256 % 4294967296)) ((d.toNat : Int) % 4294967296) = wn (be32 a b c d) := be32_or a b c d
end Sc
