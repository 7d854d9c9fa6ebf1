import Derived.Test.YtheodlbbalbliaaV7
namespace Go.Proofs.Ytheodlbbalbliaa
open Go.RowKit
set_option maxHeartbeats 1000000 in
theorem read_no (a : Option Addr) (n c : Nat) (W : World) (hn : n % 8 ≠ 0) (hm : n ≤ 8000) :
    Calls Try.prog 27 #[.slice a n c] W fun e w' => e = .returned (.tuple #[.slice none 0 0, .int .i64 40]) ∧ Below W.heap.size W w' := by
  have e1 : (n : Int) / 8 = ((n / 8 : Nat) : Int) := by omega
  obtain ⟨d, hd⟩ : ∃ d, d = n / 8 := ⟨_, rfl⟩
  rw [← hd] at e1
  have e2 : IntKind.i64.wrap ((d : Int) * 8) = (d : Int) * 8 := IntWalk.i64_in _ (by omega)
  have e3 : ((d : Int) * 8 != (n : Int)) = true := by simp; omega
  clear hd hn
  go_enter Try.func27, Try.ntmps27
  go_wp2
  go_ret2
  exact ⟨rfl, Below.refl _ _⟩
end Go.Proofs.Ytheodlbbalbliaa
