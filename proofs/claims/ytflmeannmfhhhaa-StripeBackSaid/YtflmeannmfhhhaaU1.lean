import Derived.Test.YtflmeannmfhhhaaS9
import Derived.WalkSpells
import Derived.WalkLawsBesides
namespace Go.Proofs.Ytflmeannmfhhhaa
open Go.RowKit
theorem bT : ElT Try.prog 51 5 (.int .u8 0) 1 1 := ⟨Try.underlying51, by kernel_rfl, rfl, by decide⟩
def fits (n w : Int) : Bool := decide (1 ≤ w) && decide (w ≤ 6) && decide (0 ≤ n) && decide (n < 256 ^ w.toNat)
theorem fits_w (n : Int) (h : 0 ≤ n) : (n / 256 == 0) = fits n 1 ∧ (n / 65536 == 0) = fits n 2 ∧ (n / 16777216 == 0) = fits n 3 ∧ (n / 4294967296 == 0) = fits n 4 ∧ (n / 1099511627776 == 0) = fits n 5 ∧ (n / 281474976710656 == 0) = fits n 6 := by
  refine ⟨?_, ?_, ?_, ?_, ?_, ?_⟩ <;> (rw [Bool.eq_iff_iff]; simp [fits]; omega)
theorem fits_no {n w : Int} (h : ¬ (1 ≤ w ∧ w ≤ 6 ∧ 0 ≤ n)) : false = fits n w := by
  unfold fits
  by_cases h1 : 1 ≤ w
  · by_cases h2 : w ≤ 6
    · simp [show ¬ 0 ≤ n from fun h3 => h ⟨h1, h2, h3⟩]
    · simp [h2]
  · simp [h1]
theorem fits_any (n w : Int) (W : World) (hn0 : -9223372036854775808 ≤ n) (hn1 : n ≤ 9223372036854775807) (hw0 : -9223372036854775808 ≤ w) (hw1 : w ≤ 9223372036854775807) :
    Calls Try.prog 35 #[.int .i64 n, .int .i64 w] W fun e w' => e = .returned (.bool (fits n w)) ∧ W = w' := by
  by_cases h1 : 1 ≤ w
  · by_cases h2 : w ≤ 6
    · by_cases h3 : 0 ≤ n
      · have HF := hidd (fits_w n h3)
        obtain rfl | rfl | rfl | rfl | rfl | rfl : w = 1 ∨ w = 2 ∨ w = 3 ∨ w = 4 ∨ w = 5 ∨ w = 6 := by omega
        all_goals
          go_enter Try.func35, Try.ntmps35
          go_wp2
          go_ret
          refine ⟨ret_b ?_, rfl⟩
        · exact HF.out.1
        · exact HF.out.2.1
        · exact HF.out.2.2.1
        · exact HF.out.2.2.2.1
        · exact HF.out.2.2.2.2.1
        · exact HF.out.2.2.2.2.2
      · go_enter Try.func35, Try.ntmps35
        go_wp2
        go_ret
        exact ⟨ret_b (fits_no (by omega)), rfl⟩
    · go_enter Try.func35, Try.ntmps35
      go_wp2
      go_ret
      exact ⟨ret_b (fits_no (by omega)), rfl⟩
  · go_enter Try.func35, Try.ntmps35
    go_wp2
    go_ret
    exact ⟨ret_b (fits_no (by omega)), rfl⟩
def byteOf (N i : Nat) : UInt8 := UInt8.ofNat (N / 256 ^ i)
def le (w N : Nat) : List UInt8 := (List.range w).map (byteOf N)
theorem le_len (w N : Nat) : (le w N).length = w := by simp [le]
theorem le_succ (w N : Nat) : le (w + 1) N = le w N ++ [byteOf N w] := by simp [le, List.range_succ]
theorem byteOf_int (N k : Nat) : (N : Int) / 2 ^ (8 * k) % 256 = ((byteOf N k).toNat : Int) := by
  unfold byteOf
  rw [UInt8.toNat_ofNat', Int.pow_mul]
  have : ((2 : Int) ^ 8) ^ k = ((256 ^ k : Nat) : Int) := by rw [Int.natCast_pow]; rfl
  rw [this]
  omega
theorem bs_le (l : List UInt8) (k N : Nat) : bs (l ++ le (k + 1) N) = bs (l ++ le k N) ++ [Value.int .u8 ((N : Int) / 2 ^ (8 * k) % 256)] := by
  rw [le_succ, ← List.append_assoc, bs_append, byteOf_int]
  rfl
theorem fits_nat {N w : Nat} (h : fits N w = true) : 1 ≤ w ∧ w ≤ 6 ∧ N < 256 ^ w := by
  simp only [fits, Bool.and_eq_true, decide_eq_true_eq, Int.toNat_natCast] at h
  obtain ⟨⟨⟨h1, h2⟩, _⟩, h3⟩ := h
  refine ⟨by omega, by omega, ?_⟩
  have e : ((N : Int)) < ((256 ^ w : Nat) : Int) := by rw [Int.natCast_pow]; exact h3
  omega
theorem put_yes (a : Option Addr) (n c : Nat) (l : List UInt8) (N w : Nat) (W : World) (hb : Bs W a n c l) (hn : n ≤ 100000) (hf : fits N w = true) :
    Calls Try.prog 33 #[.slice a n c, .int .i64 N, .int .i64 w] W fun e w' => ∃ a' c', e = .returned (.tuple #[.slice a' (n + w) c', .int .i64 0]) ∧ w'.ownsRow W.heap.size 5 1 (.slice a' (n + w) c') (n + w) (bs (l ++ le w N)) ∧ Below W.heap.size W w' := by
  obtain ⟨h1, h2, h3⟩ := fits_nat hf
  have h4 : N < 281474976710656 := Nat.lt_of_lt_of_le h3 (by
    have : 256 ^ w ≤ 256 ^ 6 := Nat.pow_le_pow_right (by decide) h2
    omega)
  have HF := hidd hf
  have HB := hidd hb
  have H3 := hidd h3
  clear hf hb h3
  go_enter Try.func33, Try.ntmps33
  go_wp2_with (first | (go_at_call 35; refine (fits_any _ _ _ (by omega) (by omega) (by omega) (by omega)).mono ?_; rintro e w1 ⟨rfl, rfl⟩; rw [HF.out]) | (with_reducible refine wpList_make bT rfl (.tmp 15) (.tmp 19) rfl .i64 .i64 _ _ n (n + w) rfl rfl (by omega) (by omega) (by omega) (by omega) (by omega) ?_) | (with_reducible refine wpList_copy_fill bT rfl (.tmp 21) (.tmp 22) rfl n (n + w) _ rfl (made_size _ _) (by omega) (by omega) a c (bs l) rfl HB.out (bs_one l) ?_; intro w1 hown hbel))
  go_loopw [8, 9, 25] (fun v _ i wr => ∃ k : Nat, k ≤ w ∧ i = .int .i64 k ∧ wr.ownsRow W.heap.size 5 1 v (n + k) (bs (l ++ le k N)) ∧ Below W.heap.size W wr) (fun _ _ i _ => w - (intOf i).toNat)
  case atStart => exact ⟨0, by omega, rfl, by simpa [le] using hown, hbel⟩
  case round =>
    clear hown
    obtain ⟨k, hk, rfl, ho, hbel⟩ := hrel
    have hsz := hbel.size
    by_cases hlt : k < w
    · go_wp2_with (first | (at_builtin; refine wpList_app bT rfl (.tmp 28) (.tmp 34) rfl W.heap.size _ (n + k) (bs (l ++ le k N)) rfl (ho.alloc _) _ 1 1 _ rfl (Sl.fresh wr [_] 5 1 1 rfl (by decide)) (one_int _ _) (by omega) (by omega) (by simp; omega) ?_; intro v' w' hown' _ hbel'))
      go_roundw
      case rel => exact ⟨k + 1, by omega, by go_num, by rw [bs_le, ← Nat.add_assoc]; exact hown', (hbel.alloc hsz _).trans hbel'⟩
      case measure => simp [intOf]; omega
    · obtain rfl : k = w := by omega
      go_wp2
      obtain ⟨a', c', rfl, _⟩ := own_Sl ho
      go_ret2
      exact ⟨_, _, rfl, ho, hbel⟩
theorem ofInt_i64 (a : Nat) (ha : a < 9223372036854775808) : (BitVec.ofInt 64 (a : Int)).toNat = a := by
  rw [BitVec.ofInt_natCast, BitVec.toNat_ofNat]; exact Nat.mod_eq_of_lt (by omega)
theorem i64_or_nat (a b : Nat) (ha : a < 9223372036854775808) (hb : b < 9223372036854775808) : bits .or .i64 (a : Int) (b : Int) = ((a ||| b : Nat) : Int) := by
  have hx : a ||| b < 2 ^ 63 := Nat.or_lt_two_pow (by omega) (by omega)
  show IntKind.i64.wrap ((BitVec.ofInt 64 (a : Int) ||| BitVec.ofInt 64 (b : Int)).toNat : Int) = _
  rw [BitVec.toNat_or, ofInt_i64 a ha, ofInt_i64 b hb, IntKind.wrap_i64]
  omega
def num : List UInt8 → Nat
  | [] => 0
  | b :: r => b.toNat + 256 * num r
theorem num_lt : ∀ l : List UInt8, num l < 256 ^ l.length
  | [] => by simp [num]
  | b :: r => by
    have h := num_lt r
    have hb := b.toNat_lt
    simp only [num, List.length_cons, Nat.pow_succ]
    omega
theorem num_snoc : ∀ (l : List UInt8) (b : UInt8), num (l ++ [b]) = num l + b.toNat * 256 ^ l.length
  | [], b => by simp [num]
  | c :: r, b => by
    have h := num_snoc r b
    simp only [num, List.cons_append, h, List.length_cons, Nat.pow_succ, Nat.mul_add]
    rw [Nat.add_assoc, Nat.mul_left_comm, Nat.mul_comm (256 ^ r.length) 256]
theorem take_snoc (l : List UInt8) (at' k : Nat) (h : at' + k < l.length) : (l.drop at').take (k + 1) = (l.drop at').take k ++ [l.getD (at' + k) 0] := by
  rw [List.take_succ_eq_append_getElem (by simp; omega)]
  simp [h]
theorem or_step (x y k : Nat) (hx : x < 256 ^ k) (hy : y < 256) (hk : k ≤ 5) : bits .or .i64 (x : Int) (wrap64 ((y : Int) * 2 ^ (8 * k))) = ((x + y * 256 ^ k : Nat) : Int) := by
  have e : (y : Int) * 2 ^ (8 * k) = ((y * 256 ^ k : Nat) : Int) := by
    rw [Int.natCast_mul, Int.natCast_pow, Int.pow_mul]
    rfl
  have hp : 256 ^ k ≤ 256 ^ 5 := Nat.pow_le_pow_right (by decide) hk
  have hp5 : 256 ^ 5 = 1099511627776 := by decide
  have h1 : y * 256 ^ k ≤ 255 * 1099511627776 := Nat.mul_le_mul (by omega) (by omega)
  rw [e, IntWalk.wrap64_in _ ⟨by omega, by omega⟩, i64_or_nat _ _ (by omega) (by omega)]
  have h2 : x < 2 ^ (8 * k) := by rw [Nat.pow_mul]; exact hx
  have h3 := Nat.shiftLeft_add_eq_or_of_lt h2 y
  rw [Nat.shiftLeft_eq, Nat.pow_mul] at h3
  congr 1
  rw [Nat.or_comm, Nat.add_comm]
  exact h3.symm
theorem get_yes (a : Option Addr) (n c : Nat) (l : List UInt8) (p w : Nat) (W : World) (hb : Bs W a n c l) (hn : n ≤ 100000) (h1 : 1 ≤ w) (h2 : w ≤ 6) (hp : p + w ≤ n) :
    Calls Try.prog 34 #[.slice a n c, .int .i64 p, .int .i64 w] W fun e w' => e = .returned (.tuple #[.int .i64 (num ((l.drop p).take w)), .int .i64 0]) ∧ W = w' := by
  have hlen := hb.len
  have HB := hidd hb
  have HL := hidd hlen
  clear hb hlen
  go_enter Try.func34, Try.ntmps34
  go_wp2
  go_loop [6, 8, 34] (fun v _ i => ∃ k : Nat, k ≤ w ∧ i = .int .i64 k ∧ v = .int .i64 (num ((l.drop p).take k))) (fun _ _ i => w - (intOf i).toNat)
  case atStart => exact ⟨0, by omega, rfl, by simp [num]⟩
  case round =>
    obtain ⟨k, hk, rfl, rfl⟩ := hrel
    by_cases hlt : k < w
    · obtain ⟨b, off, rfl, hc⟩ := HB.out.at (p + k) (by omega)
      have hy := (l.getD (p + k) 0).toNat_lt
      generalize hyy : l.getD (p + k) 0 = y at hc hy
      generalize hx : num ((l.drop p).take k) = x
      go_wp2
      go_round
      case rel =>
        have hd := HL.out
        refine ⟨k + 1, by omega, by go_num, ?_⟩
        rw [take_snoc l p k (by omega), num_snoc, hx, hyy]
        have hlen : ((l.drop p).take k).length = k := by simp; omega
        rw [hlen, or_step x y.toNat k (by rw [← hx]; have := num_lt ((l.drop p).take k); rwa [hlen] at this) (by omega) (by omega)]
      case measure => simp [intOf]; omega
    · obtain rfl : k = w := by omega
      go_wp2
      go_ret2
      exact ⟨rfl, rfl⟩
theorem num_le : ∀ (w N : Nat), N < 256 ^ w → num (le w N) = N := by
  intro w
  induction w with
  | zero => intro N h; simp [le, num]; omega
  | succ w ih =>
    intro N h
    have e : le (w + 1) N = byteOf N 0 :: le w (N / 256) := by
      simp only [le, List.range_succ_eq_map, List.map_cons, List.map_map]
      congr 1
      apply List.map_congr_left
      intro k _
      unfold byteOf
      simp only [Function.comp]
      congr 1
      rw [Nat.div_div_eq_div_mul, Nat.pow_succ, Nat.mul_comm]
    rw [e, num, ih (N / 256) (by rw [Nat.pow_succ] at h; omega)]
    unfold byteOf
    simp
    omega
theorem fits_lt {N w : Nat} (h : fits N w = true) : N < 256 ^ w := by
  unfold fits at h
  simp only [Bool.and_eq_true, decide_eq_true_eq] at h
  obtain ⟨⟨⟨h1, h2⟩, h3⟩, h4⟩ := h
  rw [Int.toNat_natCast] at h4
  rw [show (256 : Int) = ((256 : Nat) : Int) from rfl, ← Int.natCast_pow] at h4
  exact Int.ofNat_lt.1 h4
theorem put_got (l : List UInt8) (N w : Nat) (h : fits N w = true) : num (((l ++ le w N).drop l.length).take w) = N := by
  rw [List.drop_left, List.take_of_length_le (by rw [le_len]; omega)]
  exact num_le w N (fits_lt h)
end Go.Proofs.Ytflmeannmfhhhaa
