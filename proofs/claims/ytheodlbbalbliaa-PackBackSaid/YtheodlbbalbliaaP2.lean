import Derived.Test.YtheodlbbalbliaaP1
namespace Go.Proofs.Ytheodlbbalbliaa
open Go.RowKit
/-- the i-th byte of a number, the lowest first -/
def byteOf (N i : Nat) : UInt8 := UInt8.ofNat (N / 256 ^ i)
def le (w N : Nat) : List UInt8 := (List.range w).map (byteOf N)
theorem le_len (w N : Nat) : (le w N).length = w := by simp [le]
theorem le_succ (w N : Nat) : le (w + 1) N = le w N ++ [byteOf N w] := by simp [le, List.range_succ]
theorem byteOf_int (N k : Nat) : (N : Int) / 2 ^ (8 * k) % 256 = ((byteOf N k).toNat : Int) := by
  unfold byteOf
  rw [UInt8.toNat_ofNat', Int.pow_mul]
  have : ((2 : Int) ^ 8) ^ k = ((256 ^ k : Nat) : Int) := by rw [Int.natCast_pow]; rfl
  rw [this]
  omega
theorem bs_le (l : List UInt8) (k N : Nat) : bs (l ++ le (k + 1) N) = bs (l ++ le k N) ++ [Value.int .u8 ((N : Int) / 2 ^ (8 * k) % 256)] := by
  rw [le_succ, ← List.append_assoc, bs_append, byteOf_int]
  rfl
theorem fits_nat {N w : Nat} (h : fits N w = true) : 1 ≤ w ∧ w ≤ 6 ∧ N < 256 ^ w := by
  simp only [fits, Bool.and_eq_true, decide_eq_true_eq, Int.toNat_natCast] at h
  obtain ⟨⟨⟨h1, h2⟩, _⟩, h3⟩ := h
  refine ⟨by omega, by omega, ?_⟩
  have e : ((N : Int)) < ((256 ^ w : Nat) : Int) := by rw [Int.natCast_pow]; exact h3
  omega
set_option maxHeartbeats 1000000 in
theorem put_yes (a : Option Addr) (n c : Nat) (l : List UInt8) (N w : Nat) (W : World) (hb : Bs W a n c l) (hn : n ≤ 100000) (hf : fits N w = true) :
    Calls Try.prog 14 #[.slice a n c, .int .i64 N, .int .i64 w] W fun e w' => ∃ a' c', e = .returned (.tuple #[.slice a' (n + w) c', .int .i64 0]) ∧ w'.ownsRow W.heap.size 5 1 (.slice a' (n + w) c') (n + w) (bs (l ++ le w N)) ∧ Below W.heap.size W w' := by
  obtain ⟨h1, h2, h3⟩ := fits_nat hf
  have h4 : N < 281474976710656 := Nat.lt_of_lt_of_le h3 (by
    have : 256 ^ w ≤ 256 ^ 6 := Nat.pow_le_pow_right (by decide) h2
    omega)
  have HF := hidd hf
  have HB := hidd hb
  have H3 := hidd h3
  clear hf hb h3
  go_enter Try.func14, Try.ntmps14
  go_wp2_with (first | (go_at_call 19; refine (fits_any _ _ _ (by omega) (by omega) (by omega) (by omega)).mono ?_; rintro e w1 ⟨rfl, rfl⟩; rw [HF.out]) | (with_reducible refine wpList_make bT rfl (.tmp 15) (.tmp 19) rfl .i64 .i64 _ _ n (n + w) rfl rfl (by omega) (by omega) (by omega) (by omega) (by omega) ?_) | (with_reducible refine wpList_copy_fill bT rfl (.tmp 21) (.tmp 22) rfl n (n + w) _ rfl (made_size _ _) (by omega) (by omega) a c (bs l) rfl HB.out (bs_one l) ?_; intro w1 hown hbel))
  go_loopw [8, 9, 25] (fun v _ i wr => ∃ k : Nat, k ≤ w ∧ i = .int .i64 k ∧ wr.ownsRow W.heap.size 5 1 v (n + k) (bs (l ++ le k N)) ∧ Below W.heap.size W wr) (fun _ _ i _ => w - (intOf i).toNat)
  case atStart => exact ⟨0, by omega, rfl, by simpa [le] using hown, hbel⟩
  case round =>
    clear hown
    obtain ⟨k, hk, rfl, ho, hbel⟩ := hrel
    have hsz := hbel.size
    by_cases hlt : k < w
    · go_wp2_with (first | (at_builtin; refine wpList_app bT rfl (.tmp 28) (.tmp 34) rfl W.heap.size _ (n + k) (bs (l ++ le k N)) rfl (ho.alloc _) _ 1 1 _ rfl (Sl.fresh wr [_] 5 1 1 rfl (by decide)) (one_int _ _) (by omega) (by omega) (by simp; omega) ?_; intro v' w' hown' _ hbel'))
      go_roundw
      case rel => exact ⟨k + 1, by omega, by go_num, by rw [bs_le, ← Nat.add_assoc]; exact hown', (hbel.alloc hsz _).trans hbel'⟩
      case measure => simp [intOf]; omega
    · obtain rfl : k = w := by omega
      go_wp2
      obtain ⟨a', c', rfl, _⟩ := own_Sl ho
      go_ret2
      exact ⟨_, _, rfl, ho, hbel⟩
set_option maxHeartbeats 1000000 in
theorem put_no (a : Option Addr) (n c : Nat) (N w : Int) (W : World) (hn0 : -9223372036854775808 ≤ N) (hn1 : N ≤ 9223372036854775807) (hw0 : -9223372036854775808 ≤ w) (hw1 : w ≤ 9223372036854775807) (hf : fits N w = false) :
    Calls Try.prog 14 #[.slice a n c, .int .i64 N, .int .i64 w] W fun e w' => e = .returned (.tuple #[.slice none 0 0, .int .i64 2]) ∧ W = w' := by
  have HF := hidd hf
  clear hf
  go_enter Try.func14, Try.ntmps14
  go_wp2_with (go_at_call 19; refine (fits_any _ _ _ (by omega) (by omega) (by omega) (by omega)).mono ?_; rintro e w1 ⟨rfl, rfl⟩; rw [HF.out])
  go_ret2
  exact ⟨rfl, rfl⟩
end Go.Proofs.Ytheodlbbalbliaa
