import Derived.Test.YtheodlbbalbliaaM1
import Derived.Below
import Derived.Test.YtheodlbbalbliaaK
namespace Go.Proofs.Ytheodlbbalbliaa
open Go Go.RowKit
/-- half a byte more -/
def nib (r : BitVec 32) : BitVec 32 := (r >>> 4) ^^^ hs4 (r &&& 15#32)
/-- a byte more, by the table -/
def stp (r : BitVec 32) (b : UInt8) : BitVec 32 := nib (nib (r ^^^ BitVec.ofNat 32 b.toNat))
theorem b_byte (x : BitVec 32) (b : UInt8) : bits .xor .u32 (x.toNat : Int) (b.toNat : Int) = ((x ^^^ BitVec.ofNat 32 b.toNat).toNat : Int) := by
  have h := b_xor x (BitVec.ofNat 32 b.toNat)
  have hb := b.toNat_lt
  have e : (((BitVec.ofNat 32 b.toNat).toNat : Nat) : Int) = (b.toNat : Int) := by rw [BitVec.toNat_ofNat]; omega
  rw [e] at h
  exact h
theorem b_and15 (x : BitVec 32) : bits .and .u32 (x.toNat : Int) 15 = ((x &&& 15#32).toNat : Int) := b_and x 15#32
theorem and15_lt (x : BitVec 32) : (x &&& 15#32).toNat < 16 := by
  rw [BitVec.toNat_and]
  exact Nat.and_lt_two_pow (n := 4) _ (by decide)
def thr (r : BitVec 32) (l : List UInt8) : BitVec 32 := l.foldl stp r
def jn (s : BitVec 32) (l : List UInt8) : BitVec 32 := ~~~ thr (~~~ s) l

theorem thr_take (r : BitVec 32) (l : List UInt8) (k : Nat) (h : k < l.length) : thr r (l.take (k + 1)) = stp (thr r (l.take k)) (l.getD k 0) := by
  rw [List.take_succ_eq_append_getElem h, thr, List.foldl_append]
  simp [thr, h]
/-- A slice's bytes: from the address on lie the cells of l (its length is n). -/
def Reads (w : World) (a : Option Addr) (l : List UInt8) : Prop :=
  ∀ i, i < l.length → ∃ b off, a = some ⟨b, off, none⟩ ∧ w.cell? ⟨b, off + i, none⟩ = some (.int .u8 ((l.getD i 0).toNat : Int))

end Go.Proofs.Ytheodlbbalbliaa
