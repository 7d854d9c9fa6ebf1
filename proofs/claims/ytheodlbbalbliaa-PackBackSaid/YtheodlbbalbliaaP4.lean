import Derived.Test.YtheodlbbalbliaaP3
namespace Go.Proofs.Ytheodlbbalbliaa
open Go.RowKit
/-- bytes as a number, the lowest first -/
def num : List UInt8 → Nat
  | [] => 0
  | b :: r => b.toNat + 256 * num r
theorem num_lt : ∀ l : List UInt8, num l < 256 ^ l.length
  | [] => by simp [num]
  | b :: r => by
    have h := num_lt r
    have hb := b.toNat_lt
    simp only [num, List.length_cons, Nat.pow_succ]
    omega
theorem num_snoc : ∀ (l : List UInt8) (b : UInt8), num (l ++ [b]) = num l + b.toNat * 256 ^ l.length
  | [], b => by simp [num]
  | c :: r, b => by
    have h := num_snoc r b
    simp only [num, List.cons_append, h, List.length_cons, Nat.pow_succ, Nat.mul_add]
    rw [Nat.add_assoc, Nat.mul_left_comm, Nat.mul_comm (256 ^ r.length) 256]
theorem take_snoc (l : List UInt8) (at' k : Nat) (h : at' + k < l.length) : (l.drop at').take (k + 1) = (l.drop at').take k ++ [l.getD (at' + k) 0] := by
  rw [List.take_succ_eq_append_getElem (by simp; omega)]
  simp [h]
theorem or_step (x y k : Nat) (hx : x < 256 ^ k) (hy : y < 256) (hk : k ≤ 5) : bits .or .i64 (x : Int) (wrap64 ((y : Int) * 2 ^ (8 * k))) = ((x + y * 256 ^ k : Nat) : Int) := by
  have e : (y : Int) * 2 ^ (8 * k) = ((y * 256 ^ k : Nat) : Int) := by
    rw [Int.natCast_mul, Int.natCast_pow, Int.pow_mul]
    rfl
  have hp : 256 ^ k ≤ 256 ^ 5 := Nat.pow_le_pow_right (by decide) hk
  have hp5 : 256 ^ 5 = 1099511627776 := by decide
  have h1 : y * 256 ^ k ≤ 255 * 1099511627776 := Nat.mul_le_mul (by omega) (by omega)
  rw [e, IntWalk.wrap64_in _ ⟨by omega, by omega⟩, i64_or_nat _ _ (by omega) (by omega)]
  have h2 : x < 2 ^ (8 * k) := by rw [Nat.pow_mul]; exact hx
  have h3 := Nat.shiftLeft_add_eq_or_of_lt h2 y
  rw [Nat.shiftLeft_eq, Nat.pow_mul] at h3
  congr 1
  rw [Nat.or_comm, Nat.add_comm]
  exact h3.symm
set_option maxHeartbeats 1000000 in
theorem get_yes (a : Option Addr) (n c : Nat) (l : List UInt8) (p w : Nat) (W : World) (hb : Bs W a n c l) (hn : n ≤ 100000) (h1 : 1 ≤ w) (h2 : w ≤ 6) (hp : p + w ≤ n) :
    Calls Try.prog 16 #[.slice a n c, .int .i64 p, .int .i64 w] W fun e w' => e = .returned (.tuple #[.int .i64 (num ((l.drop p).take w)), .int .i64 0]) ∧ W = w' := by
  have hlen := hb.len
  have HB := hidd hb
  have HL := hidd hlen
  clear hb hlen
  go_enter Try.func16, Try.ntmps16
  go_wp2
  go_loop [6, 8, 34] (fun v _ i => ∃ k : Nat, k ≤ w ∧ i = .int .i64 k ∧ v = .int .i64 (num ((l.drop p).take k))) (fun _ _ i => w - (intOf i).toNat)
  case atStart => exact ⟨0, by omega, rfl, by simp [num]⟩
  case round =>
    obtain ⟨k, hk, rfl, rfl⟩ := hrel
    by_cases hlt : k < w
    · obtain ⟨b, off, rfl, hc⟩ := HB.out.at (p + k) (by omega)
      have hy := (l.getD (p + k) 0).toNat_lt
      generalize hyy : l.getD (p + k) 0 = y at hc hy
      generalize hx : num ((l.drop p).take k) = x
      go_wp2
      go_round
      case rel =>
        have hd := HL.out
        refine ⟨k + 1, by omega, by go_num, ?_⟩
        rw [take_snoc l p k (by omega), num_snoc, hx, hyy]
        have hlen : ((l.drop p).take k).length = k := by simp; omega
        rw [hlen, or_step x y.toNat k (by rw [← hx]; have := num_lt ((l.drop p).take k); rwa [hlen] at this) (by omega) (by omega)]
      case measure => simp [intOf]; omega
    · obtain rfl : k = w := by omega
      go_wp2
      go_ret2
      exact ⟨rfl, rfl⟩
set_option maxHeartbeats 1000000 in
theorem get_arg (a : Option Addr) (n c : Nat) (p w : Int) (W : World) (hw : w < 1 ∨ 6 < w) :
    Calls Try.prog 16 #[.slice a n c, .int .i64 p, .int .i64 w] W fun e w' => e = .returned (.tuple #[.int .i64 0, .int .i64 2]) ∧ W = w' := by
  rcases Int.lt_or_le w 1 with h | h
  · clear hw
    go_enter Try.func16, Try.ntmps16
    go_wp2
    go_ret2
    exact ⟨rfl, rfl⟩
  · have h' : 6 < w := by omega
    clear hw
    go_enter Try.func16, Try.ntmps16
    go_wp2
    go_ret2
    exact ⟨rfl, rfl⟩
set_option maxHeartbeats 1000000 in
theorem get_code (a : Option Addr) (n c : Nat) (p w : Int) (W : World) (hn : n ≤ 100000) (h1 : 1 ≤ w) (h2 : w ≤ 6) (hp0 : -9223372036854775808 ≤ p) (hp1 : p ≤ 9223372036854775807) (hp : p < 0 ∨ (n : Int) < p + w) :
    Calls Try.prog 16 #[.slice a n c, .int .i64 p, .int .i64 w] W fun e w' => e = .returned (.tuple #[.int .i64 0, .int .i64 40]) ∧ W = w' := by
  rcases Int.lt_or_le p 0 with h | h
  · clear hp
    go_enter Try.func16, Try.ntmps16
    go_wp2
    go_ret2
    exact ⟨rfl, rfl⟩
  · have h' : (n : Int) < p + w := by omega
    clear hp
    rcases Int.lt_or_le (n : Int) w with h3 | h3
    · go_enter Try.func16, Try.ntmps16
      go_wp2
      go_ret2
      exact ⟨rfl, rfl⟩
    · have h4 : (n : Int) - w < p := by omega
      go_enter Try.func16, Try.ntmps16
      go_wp2
      go_ret2
      exact ⟨rfl, rfl⟩
set_option maxHeartbeats 1000000 in
theorem rget_arg (a : Option Addr) (n c : Nat) (p w : Int) (W : World) (hw : w < 1 ∨ 6 < w) :
    Calls Try.prog 17 #[.slice a n c, .int .i64 p, .int .i64 w] W fun e w' => e = .returned (.tuple #[.int .i64 0, .int .i64 2]) ∧ W = w' := by
  rcases Int.lt_or_le w 1 with h | h
  · clear hw
    go_enter Try.func17, Try.ntmps17
    go_wp2
    go_ret2
    exact ⟨rfl, rfl⟩
  · have h' : 6 < w := by omega
    clear hw
    go_enter Try.func17, Try.ntmps17
    go_wp2
    go_ret2
    exact ⟨rfl, rfl⟩
set_option maxHeartbeats 1000000 in
theorem rget_code (a : Option Addr) (n c : Nat) (p w : Int) (W : World) (hn : n ≤ 100000) (h1 : 1 ≤ w) (h2 : w ≤ 6) (hp0 : -9223372036854775808 ≤ p) (hp1 : p ≤ 9223372036854775807) (hp : p < 0 ∨ (n : Int) < p + w) :
    Calls Try.prog 17 #[.slice a n c, .int .i64 p, .int .i64 w] W fun e w' => e = .returned (.tuple #[.int .i64 0, .int .i64 40]) ∧ W = w' := by
  rcases Int.lt_or_le p 0 with h | h
  · clear hp
    go_enter Try.func17, Try.ntmps17
    go_wp2
    go_ret2
    exact ⟨rfl, rfl⟩
  · have h' : (n : Int) - w < p := by omega
    clear hp
    go_enter Try.func17, Try.ntmps17
    go_wp2
    go_ret2
    exact ⟨rfl, rfl⟩
theorem drop_cons (l : List UInt8) (i m : Nat) (h : i < l.length) : (l.drop i).take (m + 1) = l.getD i 0 :: (l.drop (i + 1)).take m := by
  rw [List.drop_eq_getElem_cons h, List.take_succ_cons]
  simp [h]
theorem or_low (x y : Nat) (hx : x < 1099511627776) (hy : y < 256) : bits .or .i64 ((x : Int) * 256) (y : Int) = ((y + 256 * x : Nat) : Int) := by
  rw [show (x : Int) * 256 = ((x * 256 : Nat) : Int) by omega, i64_or_nat _ _ (by omega) (by omega)]
  have h3 := Nat.shiftLeft_add_eq_or_of_lt (show y < 2 ^ 8 by omega) x
  rw [Nat.shiftLeft_eq] at h3
  congr 1
  rw [← h3]
  omega
set_option maxHeartbeats 1000000 in
theorem rget_yes (a : Option Addr) (n c : Nat) (l : List UInt8) (p w : Nat) (W : World) (hb : Bs W a n c l) (hn : n ≤ 100000) (h1 : 1 ≤ w) (h2 : w ≤ 6) (hp : p + w ≤ n) :
    Calls Try.prog 17 #[.slice a n c, .int .i64 p, .int .i64 w] W fun e w' => e = .returned (.tuple #[.int .i64 (num ((l.drop p).take w)), .int .i64 0]) ∧ W = w' := by
  have hlen := hb.len
  have HB := hidd hb
  have HL := hidd hlen
  clear hb hlen
  go_enter Try.func17, Try.ntmps17
  go_wp2
  go_loop [8, 9] (fun v i => ∃ k : Nat, k ≤ w ∧ i = .int .i64 ((k : Int) - 1) ∧ v = .int .i64 (num ((l.drop (p + k)).take (w - k)))) (fun _ i => (intOf i + 1).toNat)
  case atStart => exact ⟨w, by omega, rfl, by simp [num]⟩
  case round =>
    obtain ⟨k, hk, rfl, rfl⟩ := hrel
    by_cases hlt : 1 ≤ k
    · obtain ⟨j, rfl⟩ : ∃ j, k = j + 1 := ⟨k - 1, by omega⟩
      obtain ⟨b, off, rfl, hc⟩ := HB.out.at (p + j) (by omega)
      have hlen := HL.out
      have hy := (l.getD (p + j) 0).toNat_lt
      have hcons := drop_cons l (p + j) (w - (j + 1)) (by omega)
      have hxl : num ((l.drop (p + (j + 1))).take (w - (j + 1))) < 1099511627776 := by
        have h := num_lt ((l.drop (p + (j + 1))).take (w - (j + 1)))
        have h3 : ((l.drop (p + (j + 1))).take (w - (j + 1))).length ≤ 5 := by simp; omega
        exact Nat.lt_of_lt_of_le h (Nat.le_trans (Nat.pow_le_pow_right (by decide) h3) (by decide))
      have hnum : num ((l.drop (p + j)).take (w - j)) = (l.getD (p + j) 0).toNat + 256 * num ((l.drop (p + (j + 1))).take (w - (j + 1))) := by
        rw [show w - j = w - (j + 1) + 1 by omega, hcons]
        rfl
      have HN := hidd hnum
      generalize l.getD (p + j) 0 = y at hc hy HN
      generalize num ((l.drop (p + (j + 1))).take (w - (j + 1))) = x at hxl HN
      have hor := or_low x y.toNat hxl hy
      clear hnum hcons
      go_wp2
      go_round
      case rel => exact ⟨j, by omega, rfl, by rw [HN.out]; go_num⟩
      case measure => simp [intOf]
    · obtain rfl : k = 0 := by omega
      go_wp2
      go_ret2
      exact ⟨rfl, rfl⟩
end Go.Proofs.Ytheodlbbalbliaa
