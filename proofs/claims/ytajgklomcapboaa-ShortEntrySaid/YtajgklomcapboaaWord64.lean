import Derived.Test.YtajgklomcapboaaTurn
/- Words of 32 bits, held in numbers of 64: what the reference's operations do to them. -/
namespace Sc
open Go Go.RowKit

theorem b64 (x : Wd) : (wn x : Int) = (((x.setWidth 64).toNat : Nat) : Int) := by
  unfold wn; rw [BitVec.toNat_setWidth, Nat.mod_eq_of_lt (by have := x.isLt; omega)]
theorem and64' (x y : BitVec 64) : bits .and .u64 (x.toNat : Int) (y.toNat : Int) = ((x &&& y).toNat : Int) := by
  unfold bits
  simp only [IntKind.bits, BitVec.ofInt_natCast, BitVec.ofNat_toNat, BitVec.setWidth_eq]
  rw [IntKind.wrap_u64]
  exact Int.emod_eq_of_lt (by omega) (by have := (x &&& y).isLt; omega)
theorem or64'' (x y : BitVec 64) : bits .or .u64 (x.toNat : Int) (y.toNat : Int) = ((x ||| y).toNat : Int) := by
  unfold bits
  simp only [IntKind.bits, BitVec.ofInt_natCast, BitVec.ofNat_toNat, BitVec.setWidth_eq]
  rw [IntKind.wrap_u64]
  exact Int.emod_eq_of_lt (by omega) (by have := (x ||| y).isLt; omega)
theorem xor64' (x y : BitVec 64) : bits .xor .u64 (x.toNat : Int) (y.toNat : Int) = ((x ^^^ y).toNat : Int) := by
  unfold bits
  simp only [IntKind.bits, BitVec.ofInt_natCast, BitVec.ofNat_toNat, BitVec.setWidth_eq]
  rw [IntKind.wrap_u64]
  exact Int.emod_eq_of_lt (by omega) (by have := (x ^^^ y).isLt; omega)
theorem wq_and (x y : Wd) : bits .and .u64 (wn x) (wn y) = wn (x &&& y) := by
  rw [b64 x, b64 y, and64', b64, BitVec.setWidth_and]
theorem wq_or (x y : Wd) : bits .or .u64 (wn x) (wn y) = wn (x ||| y) := by
  rw [b64 x, b64 y, or64'', b64, BitVec.setWidth_or]
theorem wq_xor (x y : Wd) : bits .xor .u64 (wn x) (wn y) = wn (x ^^^ y) := by
  rw [b64 x, b64 y, xor64', b64, BitVec.setWidth_xor]
theorem wq_not (x : Wd) : 4294967295 - wn x = wn (~~~ x) := by
  unfold wn; rw [BitVec.toNat_not]; have := x.isLt; omega
theorem choose_is (e f g : Wd) : (e &&& f) ||| (~~~ e &&& g) = choose e f g := by
  unfold choose
  ext i hi
  simp only [BitVec.getElem_or, BitVec.getElem_and, BitVec.getElem_not, BitVec.getElem_xor]
  cases e[i] <;> cases f[i] <;> cases g[i] <;> rfl
theorem most_is (a b c : Wd) : (a &&& b) ||| (a &&& c) ||| (b &&& c) = most a b c := by
  unfold most
  ext i hi
  simp only [BitVec.getElem_or, BitVec.getElem_and]
  cases a[i] <;> cases b[i] <;> cases c[i] <;> rfl
theorem wn_mod (x : Wd) : wn x % 4294967296 = wn x := by have := wn_bd x; omega
theorem add_mod2 (x y : Wd) : (wn x + wn y) % 4294967296 = wn (x + y) := by
  unfold wn; rw [BitVec.toNat_add]; omega
theorem add_mod4 (a b c d : Wd) : (wn a + wn b + wn c + wn d) % 4294967296 = wn (a + b + c + d) := by
  rw [← add_mod2 (a + b + c) d, ← add_mod2 (a + b) c, ← add_mod2 a b]; omega
theorem add_mod6 (d a b c e f : Wd) : (wn d + (wn a + wn b + wn c + wn e + wn f)) % 4294967296 = wn (d + (a + b + c + e + f)) := by
  rw [← add_mod2 d, ← add_mod2 (a + b + c + e) f, ← add_mod2 (a + b + c) e, ← add_mod2 (a + b) c, ← add_mod2 a b]; omega
theorem add_mod7 (a b c e f g h : Wd) : (wn a + wn b + wn c + wn e + wn f + (wn g + wn h)) % 4294967296 = wn (a + b + c + e + f + (g + h)) := by
  rw [← add_mod2 (a + b + c + e + f) (g + h), ← add_mod2 g h, ← add_mod2 (a + b + c + e) f, ← add_mod2 (a + b + c) e, ← add_mod2 (a + b) c, ← add_mod2 a b]; omega
end Sc
