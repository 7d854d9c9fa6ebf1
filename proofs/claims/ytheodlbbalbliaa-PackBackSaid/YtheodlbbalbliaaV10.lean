import Derived.Test.YtheodlbbalbliaaV9
import Derived.Test.YtheodlbbalbliaaP6
namespace Go.Proofs.Ytheodlbbalbliaa
open Go.RowKit
def valL (l : List UInt8) : List UInt8 := if l.length = 8 then l else List.replicate 8 0
def valE (l : List UInt8) : Int := if l.length = 8 then 0 else 2
theorem valL_len (l : List UInt8) : (valL l).length = 8 := by unfold valL; split <;> simp_all
theorem value_any (a : Option Addr) (n c : Nat) (l : List UInt8) (W : World) (hb : Bs W a n c l) (hm : n ≤ 8000) :
    Calls Try.prog 29 #[.slice a n c] W fun e w' => e = .returned (.tuple #[.agg (bs (valL l)).toArray, .int .i64 (valE l)]) ∧ Below W.heap.size W w' := by
  have hl := hb.len
  by_cases h : n = 8
  · subst h
    rw [show valL l = l by simp [valL, hl], show valE l = 0 by simp [valE, hl]]
    exact value_yes a c l W hb
  · rw [show valL l = List.replicate 8 0 by simp [valL, hl, h], show valE l = 2 by simp [valE, hl, h]]
    exact value_no a n c W h (by omega)
theorem rvalue_any (a : Option Addr) (n c : Nat) (l : List UInt8) (W : World) (hb : Bs W a n c l) (hm : n ≤ 8000) :
    Calls Try.prog 30 #[.slice a n c] W fun e w' => e = .returned (.tuple #[.agg (bs (valL l)).toArray, .int .i64 (valE l)]) ∧ Below W.heap.size W w' := by
  have hl := hb.len
  by_cases h : n = 8
  · subst h
    rw [show valL l = l by simp [valL, hl], show valE l = 0 by simp [valE, hl]]
    exact rvalue_yes a c l W hb
  · rw [show valL l = List.replicate 8 0 by simp [valL, hl, h], show valE l = 2 by simp [valE, hl, h]]
    exact rvalue_no a n c W h (by omega)
end Go.Proofs.Ytheodlbbalbliaa
