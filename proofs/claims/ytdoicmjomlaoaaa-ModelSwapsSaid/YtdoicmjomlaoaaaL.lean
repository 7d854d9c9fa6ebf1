/- Small naturals as float64, parts of complex128. -/
import Derived.Test.YtdoicmjomlaoaaaG
import Derived.Laws.ComplexArith
import Derived.Laws.Cover2
import Derived.WalkLawsBesides
namespace Go.Proofs.Ytdoicmjomlaoaaa
open Go Go.RowKit
/-- the bits of a small natural -/
def fb (n : Nat) : Nat := FloatKind.f64.nearest (n : Int)
theorem fb_zero : fb 0 = 0 := by decide +kernel
theorem fb_one : fb 1 = 4607182418800017408 := by decide +kernel
theorem fb_add1 : ∀ n, n < 40 → floatBits .add .f64 (fb n) 4607182418800017408 = some (fb (n + 1)) := by decide +kernel
theorem fb_add0 : ∀ n, n < 40 → floatBits .add .f64 (fb n) 0 = some (fb n) := by decide +kernel
theorem fb_order : ∀ a, a < 10 → ∀ b, b < 10 → FloatKind.f64.format.order (fb a) (fb b) = some (compare a b) := by decide +kernel
theorem fb_int : ∀ n, n < 40 → floatToIntVal .f64 (fb n) .i64 = some (n : Int) := by decide +kernel
theorem fb_sub : ∀ a, a < 10 → ∀ b, b < 10 → b ≤ a → floatBits .sub .f64 (fb a) (fb b) = some (fb (a - b)) := by decide +kernel
theorem fb_subs : ∀ a, a < 10 → ∀ b, b < 10 → (floatBits .sub .f64 (fb a) (fb b)).isSome = true := by decide +kernel
section
variable {P : Program}
theorem run_f_int (src dst : TypeId) (n : Nat) (w : World) (hs : P.underlying src = some (.float .f64)) (hd : P.underlying dst = some (.int .i64)) (h : n < 40) : (convert src dst (.float .f64 (fb n))).run P w = .ok (.int .i64 (n : Int)) w :=
  run_convert_float_int w src dst .f64 .i64 (fb n) n (by rw [hs]; rfl) hd (fb_int n h)
theorem run_f_add1 (t : TypeId) (n : Nat) (w : World) (h : n < 40) : (binOp .add t (.float .f64 (fb n)) (.float .f64 4607182418800017408)).run P w = .ok (.float .f64 (fb (n + 1))) w :=
  run_float_arith w .add t .f64 _ _ _ (fb_add1 n h)
theorem run_c_addi (t : TypeId) (n m : Nat) (w : World) (h : n < 40) (h2 : m < 40) : (binOp .add t (.complex .f64 (fb n) (fb m)) (.complex .f64 0 4607182418800017408)).run P w = .ok (.complex .f64 (fb n) (fb (m + 1))) w :=
  run_complex_sum w .add (.inl rfl) t .f64 _ _ _ _ _ _ (by simp [cSumBits, fb_add0 n h, fb_add1 m h2])
theorem run_c_sub (t : TypeId) (a b i j : Nat) (ha : a < 10) (hb : b < 10) (hi : i < 10) (hj : j < 10) (hab : b ≤ a) : ∃ r, ∀ w, (binOp .sub t (.complex .f64 (fb a) (fb i)) (.complex .f64 (fb b) (fb j))).run P w = .ok (.complex .f64 (fb (a - b)) r) w := by
  obtain ⟨r, hr⟩ := Option.isSome_iff_exists.1 (fb_subs i hi j hj)
  exact ⟨r, fun w => run_complex_sum w .sub (.inr rfl) t .f64 _ _ _ _ _ _ (by simp [cSumBits, fb_sub a ha b hb hab, hr])⟩
theorem run_store_complex (w : World) (a : Addr) (m : Mode) (k : FloatKind) (x y : Nat) : (store a (.complex k x y) m).run P w = stored P w a (.complex k x y) m := run_store P w a _ m rfl
end
end Go.Proofs.Ytdoicmjomlaoaaa
