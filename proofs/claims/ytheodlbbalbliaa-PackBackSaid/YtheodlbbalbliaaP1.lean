import Derived.Test.YtheodlbbalbliaaRows
import Derived.Test.YtheodlbbalbliaaK
import Derived.WalkSpells
import Derived.WalkLawsBesides
namespace Go.Proofs.Ytheodlbbalbliaa
open Go.RowKit
theorem bT : ElT Try.prog 22 5 (.int .u8 0) 1 1 := ⟨Try.underlying22, by kernel_rfl, rfl, by decide⟩

/-- Does a number have so many bytes? -/
def fits (n w : Int) : Bool := decide (1 ≤ w) && decide (w ≤ 6) && decide (0 ≤ n) && decide (n < 256 ^ w.toNat)
theorem ret_b {a b : Bool} (h : a = b) : Ending.returned (.bool a) = Ending.returned (.bool b) := by rw [h]
theorem ret_i {k : IntKind} {a b : Int} (h : a = b) : Ending.returned (.int k a) = Ending.returned (.int k b) := by rw [h]
theorem fits_w (n : Int) (h : 0 ≤ n) : (n / 256 == 0) = fits n 1 ∧ (n / 65536 == 0) = fits n 2 ∧ (n / 16777216 == 0) = fits n 3 ∧ (n / 4294967296 == 0) = fits n 4 ∧ (n / 1099511627776 == 0) = fits n 5 ∧ (n / 281474976710656 == 0) = fits n 6 := by
  refine ⟨?_, ?_, ?_, ?_, ?_, ?_⟩ <;> (rw [Bool.eq_iff_iff]; simp [fits]; omega)
theorem fits_l (n : Int) (h : 0 ≤ n) : decide (n < 256) = fits n 1 ∧ decide (n < 65536) = fits n 2 ∧ decide (n < 16777216) = fits n 3 ∧ decide (n < 4294967296) = fits n 4 ∧ decide (n < 1099511627776) = fits n 5 ∧ decide (n < 281474976710656) = fits n 6 := by
  refine ⟨?_, ?_, ?_, ?_, ?_, ?_⟩ <;> (rw [Bool.eq_iff_iff]; simp [fits]; omega)
theorem fits_no {n w : Int} (h : ¬ (1 ≤ w ∧ w ≤ 6 ∧ 0 ≤ n)) : false = fits n w := by
  unfold fits
  by_cases h1 : 1 ≤ w
  · by_cases h2 : w ≤ 6
    · simp [show ¬ 0 ≤ n from fun h3 => h ⟨h1, h2, h3⟩]
    · simp [h2]
  · simp [h1]
set_option maxHeartbeats 1000000 in
theorem fits_any (n w : Int) (W : World) (hn0 : -9223372036854775808 ≤ n) (hn1 : n ≤ 9223372036854775807) (hw0 : -9223372036854775808 ≤ w) (hw1 : w ≤ 9223372036854775807) :
    Calls Try.prog 19 #[.int .i64 n, .int .i64 w] W fun e w' => e = .returned (.bool (fits n w)) ∧ W = w' := by
  by_cases h1 : 1 ≤ w
  · by_cases h2 : w ≤ 6
    · by_cases h3 : 0 ≤ n
      · have HF := hidd (fits_w n h3)
        obtain rfl | rfl | rfl | rfl | rfl | rfl : w = 1 ∨ w = 2 ∨ w = 3 ∨ w = 4 ∨ w = 5 ∨ w = 6 := by omega
        all_goals
          go_enter Try.func19, Try.ntmps19
          go_wp2
          go_ret
          refine ⟨ret_b ?_, rfl⟩
        · exact HF.out.1
        · exact HF.out.2.1
        · exact HF.out.2.2.1
        · exact HF.out.2.2.2.1
        · exact HF.out.2.2.2.2.1
        · exact HF.out.2.2.2.2.2
      · go_enter Try.func19, Try.ntmps19
        go_wp2
        go_ret
        exact ⟨ret_b (fits_no (by omega)), rfl⟩
    · go_enter Try.func19, Try.ntmps19
      go_wp2
      go_ret
      exact ⟨ret_b (fits_no (by omega)), rfl⟩
  · go_enter Try.func19, Try.ntmps19
    go_wp2
    go_ret
    exact ⟨ret_b (fits_no (by omega)), rfl⟩
set_option maxHeartbeats 1000000 in
theorem rfits_any (n w : Int) (W : World) (hn0 : -9223372036854775808 ≤ n) (hn1 : n ≤ 9223372036854775807) (hw0 : -9223372036854775808 ≤ w) (hw1 : w ≤ 9223372036854775807) :
    Calls Try.prog 20 #[.int .i64 n, .int .i64 w] W fun e w' => e = .returned (.bool (fits n w)) ∧ W = w' := by
  by_cases h1 : 1 ≤ w
  · by_cases h2 : w ≤ 6
    · by_cases h3 : 0 ≤ n
      · have HF := hidd (fits_l n h3)
        obtain rfl | rfl | rfl | rfl | rfl | rfl : w = 1 ∨ w = 2 ∨ w = 3 ∨ w = 4 ∨ w = 5 ∨ w = 6 := by omega
        all_goals
          go_enter Try.func20, Try.ntmps20
          go_wp2
          go_ret
          refine ⟨ret_b ?_, rfl⟩
        · exact HF.out.1
        · exact HF.out.2.1
        · exact HF.out.2.2.1
        · exact HF.out.2.2.2.1
        · exact HF.out.2.2.2.2.1
        · exact HF.out.2.2.2.2.2
      · go_enter Try.func20, Try.ntmps20
        go_wp2
        go_ret
        exact ⟨ret_b (fits_no (by omega)), rfl⟩
    · go_enter Try.func20, Try.ntmps20
      go_wp2
      go_ret
      exact ⟨ret_b (fits_no (by omega)), rfl⟩
  · go_enter Try.func20, Try.ntmps20
    go_wp2
    go_ret
    exact ⟨ret_b (fits_no (by omega)), rfl⟩
set_option maxHeartbeats 1000000 in
theorem bytes_any (a b : Option Addr) (n c m d : Nat) (l k : List UInt8) (W : World) (h1 : Bs W a n c l) (h2 : Bs W b m d k) :
    Calls Try.prog 18 #[.slice a n c, .slice b m d] W fun e w' => e = .returned (.bool (l == k)) ∧ W = w' := by
  go_enter Try.func18, Try.ntmps18
  go_wp2_with (first | (with_reducible refine wpList_conv 22 9 5 Try.underlying22 Try.underlying5 Try.underlying9 rfl (.tmp 5) rfl a n c l rfl h1 ?_) | (with_reducible refine wpList_conv 22 9 5 Try.underlying22 Try.underlying5 Try.underlying9 rfl (.tmp 7) rfl b m d k rfl h2 ?_))
  go_ret
  exact ⟨rfl, rfl⟩
end Go.Proofs.Ytheodlbbalbliaa
