import Derived.Test.YtheodlbbalbliaaQ2
namespace Go.Proofs.Ytheodlbbalbliaa
open Go.RowKit
/-- A remainder as Go's number, kept whole before the walk. -/
def U (x : BitVec 32) : Int := (x.toNat : Int)
theorem U_lo (x : BitVec 32) : 0 ≤ U x := by unfold U; omega
theorem U_hi (x : BitVec 32) : U x ≤ 4294967295 := by unfold U; have := x.isLt; omega
theorem U_xor (x y : BitVec 32) : bits .xor .u32 (U x) (U y) = U (x ^^^ y) := b_xor x y
theorem U_not (x : BitVec 32) : bits .xor .u32 4294967295 (U x) = U (~~~ x) := by
  have h := b_xor (BitVec.allOnes 32) x
  have e : (((BitVec.allOnes 32).toNat : Nat) : Int) = 4294967295 := by decide
  rw [e, BitVec.allOnes_xor] at h
  exact h
theorem through_U (r : BitVec 32) (a : Option Addr) (l : List UInt8) (n : Int) (hn : n = l.length) (c : Nat) (w : World) (hr : Reads w a l) (hl : l.length ≤ 4294967296) :
    Calls Try.prog 34 #[.int .u32 (U r), .slice a l.length c] w fun e w' => e = .returned (.int .u32 (U (thr r l))) ∧ Below w.heap.size w w' := through_any r a l c w hr hl
set_option maxHeartbeats 400000 in
theorem join_any (s : BitVec 32) (a : Option Addr) (l : List UInt8) (c : Nat) (w : World) (hr : Reads w a l) (hl : l.length ≤ 4294967296) :
    Calls Try.prog 11 #[.int .u32 (U s), .slice a l.length c] w fun e w' => e = .returned (.int .u32 (U (jn s l))) ∧ Below w.heap.size w w' := by
  have h1 : IntKind.u32.signed = false := rfl
  have h2 : IntKind.u32.max = 4294967295 := rfl
  have h3 := U_not s
  have h4 := U_not (thr (~~~ s) l)
  have h5 : U (~~~ thr (~~~ s) l) = U (jn s l) := rfl
  go_enter Try.func11, Try.ntmps11
  go_wp2_with (go_at_call 34; refine (through_U _ _ _ _ rfl _ _ hr hl).mono ?_; rintro e w1 ⟨rfl, hb⟩)
  go_ret
  exact ⟨rfl, hb⟩
set_option maxHeartbeats 400000 in
theorem sum_any (a : Option Addr) (l : List UInt8) (c : Nat) (w : World) (hr : Reads w a l) (hl : l.length ≤ 4294967296) :
    Calls Try.prog 12 #[.slice a l.length c] w fun e w' => e = .returned (.int .u32 (U (jn 0 l))) ∧ Below w.heap.size w w' := by
  have h0 : ((0 : Int)) = U 0 := rfl
  have H := hidd h0
  clear h0
  go_enter Try.func12, Try.ntmps12
  go_wp2_with (go_at_call 11; rw [H.out]; refine (join_any _ _ _ _ _ hr hl).mono ?_; rintro e w1 ⟨rfl, hb⟩)
  go_ret
  exact ⟨rfl, hb⟩
end Go.Proofs.Ytheodlbbalbliaa
