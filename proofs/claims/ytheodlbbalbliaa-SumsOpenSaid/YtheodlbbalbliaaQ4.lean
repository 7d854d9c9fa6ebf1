import Derived.Test.YtheodlbbalbliaaQ3
import Derived.Lib.SlBytesConst
namespace Go.Proofs.Ytheodlbbalbliaa
open Go.RowKit
def nine : List UInt8 := [49, 50, 51, 52, 53, 54, 55, 56, 57]
theorem sum_nil : U (jn 0 []) = 0 := by decide
theorem sum_nine : U (jn 0 nine) = 3421780262 := by kernel_rfl
theorem reads_nine (w : World) : Reads (w.alloc (Obj.cells #[Value.int IntKind.u8 49, Value.int IntKind.u8 50, Value.int IntKind.u8 51, Value.int IntKind.u8 52, Value.int IntKind.u8 53, Value.int IntKind.u8 54, Value.int IntKind.u8 55, Value.int IntKind.u8 56, Value.int IntKind.u8 57] 5 (9, 10))) (some ⟨w.heap.size, 0, none⟩) nine := by
  intro i hi
  refine ⟨_, _, rfl, ?_⟩
  rw [World.cell?_alloc_mark]
  have hi' : i < 9 := hi
  match i, hi' with
  | 0, _ | 1, _ | 2, _ | 3, _ | 4, _ | 5, _ | 6, _ | 7, _ | 8, _ => rfl
set_option maxHeartbeats 400000 in
theorem wakes_any (w : World) :
    Calls Try.prog 10 #[] w fun e w' => e = .returned (.bool true) ∧ Below w.heap.size w w' := by
  go_enter Try.func10, Try.ntmps10
  go_wp2_with fail
  refine (sum_any none [] 0 w (by intro i hi; simp at hi) (by simp)).mono ?_
  rintro e w1 ⟨rfl, hb⟩
  rw [sum_nil]
  have kc := fun (w : World) (C : Array Value) (n c : Nat) => Lib.run_convert_bytes_const (P := Try.prog) w 22 5 C n c Try.underlying22 Try.underlying5
  go_wp2_with fail
  refine (sum_any (some ⟨w1.heap.size, 0, none⟩) nine 9 _ (reads_nine w1) (by decide)).mono ?_
  rintro e w2 ⟨rfl, hb2⟩
  rw [sum_nine]
  go_wp2
  go_ret
  refine ⟨rfl, ?_⟩
  exact (hb.alloc hb.size _).trans (hb2.mono (by have := hb.size; simp; omega))
end Go.Proofs.Ytheodlbbalbliaa
