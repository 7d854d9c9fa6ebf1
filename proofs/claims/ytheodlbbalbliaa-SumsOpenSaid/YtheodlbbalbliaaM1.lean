import Derived.RowKit
import Derived.Laws.BitsAllLaws
import Derived.Laws.BitsLemmas
namespace Go.Proofs.Ytheodlbbalbliaa
open Go

/-! Plain arithmetic of sums: no program in sight. -/

theorem ofInt_toNat (x : BitVec 32) : BitVec.ofInt 32 (x.toNat : Int) = x := by
  rw [BitVec.ofInt_natCast]; simp

theorem b_xor (x y : BitVec 32) : bits .xor .u32 (x.toNat : Int) (y.toNat : Int) = ((x ^^^ y).toNat : Int) := by
  show IntKind.u32.wrap ((BitVec.ofInt 32 (x.toNat : Int) ^^^ BitVec.ofInt 32 (y.toNat : Int)).toNat : Int) = _
  rw [ofInt_toNat, ofInt_toNat, IntKind.wrap_u32]
  have := (x ^^^ y).isLt
  omega

theorem b_and (x y : BitVec 32) : bits .and .u32 (x.toNat : Int) (y.toNat : Int) = ((x &&& y).toNat : Int) := by
  show IntKind.u32.wrap ((BitVec.ofInt 32 (x.toNat : Int) &&& BitVec.ofInt 32 (y.toNat : Int)).toNat : Int) = _
  rw [ofInt_toNat, ofInt_toNat, IntKind.wrap_u32]
  have := (x &&& y).isLt
  omega

theorem b_neg (x : BitVec 32) : (-(x.toNat : Int)) % 4294967296 = ((-x).toNat : Int) := by
  rw [BitVec.toNat_neg]
  have := x.isLt
  omega

theorem b_shr1 (x : BitVec 32) : (x.toNat : Int) / (2 : Int) = ((x >>> 1).toNat : Int) := by
  rw [BitVec.toNat_ushiftRight, Nat.shiftRight_eq_div_pow]; omega

theorem b_shr4 (x : BitVec 32) : (x.toNat : Int) / (16 : Int) = ((x >>> 4).toNat : Int) := by
  rw [BitVec.toNat_ushiftRight, Nat.shiftRight_eq_div_pow]; omega

/-- one bit of the remainder -/
def hs (x : BitVec 32) : BitVec 32 := (x >>> 1) ^^^ (0xEDB88320#32 &&& -(x &&& 1#32))

def hs4 (x : BitVec 32) : BitVec 32 := hs (hs (hs (hs x)))

def hsN : Nat → BitVec 32 → BitVec 32
  | 0, x => x
  | n + 1, x => hs (hsN n x)

theorem b_hs (x : BitVec 32) : bits .xor .u32 ((x.toNat : Int) / (2 : Int)) (bits .and .u32 3988292384 (-bits .and .u32 (x.toNat : Int) 1 % 4294967296)) = ((hs x).toNat : Int) := by
  have h1 := b_and x 1#32
  have e1 : ((1#32).toNat : Int) = 1 := by decide
  have e2 : ((0xEDB88320#32).toNat : Int) = 3988292384 := by decide
  rw [e1] at h1
  rw [h1, b_neg, b_shr1, ← e2, b_and, b_xor]
  rfl

end Go.Proofs.Ytheodlbbalbliaa
