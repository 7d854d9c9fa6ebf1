import Derived.Test.YtheodlbbalbliaaP2
import Derived.Laws.BitsAllLaws
namespace Go.Proofs.Ytheodlbbalbliaa
open Go.RowKit
theorem ofInt_i64 (a : Nat) (ha : a < 9223372036854775808) : (BitVec.ofInt 64 (a : Int)).toNat = a := by
  rw [BitVec.ofInt_natCast, BitVec.toNat_ofNat]; exact Nat.mod_eq_of_lt (by omega)
theorem i64_and_nat (a b : Nat) (ha : a < 9223372036854775808) (hb : b < 9223372036854775808) : bits .and .i64 (a : Int) (b : Int) = ((a &&& b : Nat) : Int) := by
  have hx : a &&& b < 2 ^ 63 := Nat.and_lt_two_pow _ (by omega)
  show IntKind.i64.wrap ((BitVec.ofInt 64 (a : Int) &&& BitVec.ofInt 64 (b : Int)).toNat : Int) = _
  rw [BitVec.toNat_and, ofInt_i64 a ha, ofInt_i64 b hb, IntKind.wrap_i64]
  omega
theorem i64_or_nat (a b : Nat) (ha : a < 9223372036854775808) (hb : b < 9223372036854775808) : bits .or .i64 (a : Int) (b : Int) = ((a ||| b : Nat) : Int) := by
  have hx : a ||| b < 2 ^ 63 := Nat.or_lt_two_pow (by omega) (by omega)
  show IntKind.i64.wrap ((BitVec.ofInt 64 (a : Int) ||| BitVec.ofInt 64 (b : Int)).toNat : Int) = _
  rw [BitVec.toNat_or, ofInt_i64 a ha, ofInt_i64 b hb, IntKind.wrap_i64]
  omega
theorem and255 (N k : Nat) (h : N < 281474976710656) : bits .and .i64 ((N / 256 ^ k : Nat) : Int) 255 = ((byteOf N k).toNat : Int) := by
  have hle : N / 256 ^ k ≤ N := Nat.div_le_self _ _
  have := i64_and_nat (N / 256 ^ k) 255 (by omega) (by decide)
  refine Eq.trans this ?_
  rw [show (255 : Nat) = 2 ^ 8 - 1 by decide, Nat.and_two_pow_sub_one_eq_mod]
  unfold byteOf
  rw [UInt8.toNat_ofNat']
theorem bs_le' (l : List UInt8) (k N : Nat) : bs (l ++ le (k + 1) N) = bs (l ++ le k N) ++ [Value.int .u8 ((byteOf N k).toNat : Int)] := by
  rw [le_succ, ← List.append_assoc, bs_append]
  rfl
set_option maxHeartbeats 1000000 in
theorem rput_yes (a : Option Addr) (n c : Nat) (l : List UInt8) (N w : Nat) (W : World) (hb : Bs W a n c l) (hn : n ≤ 100000) (hf : fits N w = true) :
    Calls Try.prog 15 #[.slice a n c, .int .i64 N, .int .i64 w] W fun e w' => ∃ a' c', e = .returned (.tuple #[.slice a' (n + w) c', .int .i64 0]) ∧ w'.ownsRow W.heap.size 5 1 (.slice a' (n + w) c') (n + w) (bs (l ++ le w N)) ∧ Below W.heap.size W w' := by
  obtain ⟨h1, h2, h3⟩ := fits_nat hf
  have h4 : N < 281474976710656 := Nat.lt_of_lt_of_le h3 (by
    have : 256 ^ w ≤ 256 ^ 6 := Nat.pow_le_pow_right (by decide) h2
    omega)
  have HF := hidd hf
  have HB := hidd hb
  have H3 := hidd h3
  clear hf hb h3
  go_enter Try.func15, Try.ntmps15
  go_wp2_with (first | (go_at_call 20; refine (rfits_any _ _ _ (by omega) (by omega) (by omega) (by omega)).mono ?_; rintro e w1 ⟨rfl, rfl⟩; rw [HF.out]) | (at_builtin; refine wpList_app bT rfl (.tmp 14) (.tmp 15) rfl W.heap.size (.slice none 0 0) 0 [] rfl (World.ownsRow_nil _ _ _ _) a n c (bs l) rfl HB.out (bs_one l) (by omega) (by omega) (Nat.le_refl _) ?_; intro v' w1 hown _ hbel))
  rw [Nat.zero_add, List.nil_append] at hown
  go_loopw [1, 8, 9] (fun m v i wr => ∃ k : Nat, k ≤ w ∧ i = .int .i64 k ∧ m = .int .i64 ((N / 256 ^ k : Nat) : Int) ∧ wr.ownsRow W.heap.size 5 1 v (n + k) (bs (l ++ le k N)) ∧ Below W.heap.size W wr) (fun _ _ i _ => w - (intOf i).toNat)
  case atStart => exact ⟨0, by omega, rfl, by simp, by simpa [le] using hown, hbel⟩
  case round =>
    clear hown hbel
    obtain ⟨k, hk, rfl, rfl, ho, hbel⟩ := hrel
    have hsz := hbel.size
    by_cases hlt : k < w
    · have e1 := and255 N k h4
      have e2 : ((N / 256 ^ k : Nat) : Int) / (256 : Int) = ((N / 256 ^ (k + 1) : Nat) : Int) := by rw [Nat.pow_succ, ← Nat.div_div_eq_div_mul]; omega
      have hm : N / 256 ^ k ≤ N := Nat.div_le_self _ _
      have hm2 : N / 256 ^ (k + 1) ≤ N := Nat.div_le_self _ _
      have hy := (byteOf N k).toNat_lt
      have ho' := ho
      generalize hx : N / 256 ^ k = x at e1 e2 hm
      generalize hx2 : N / 256 ^ (k + 1) = x2 at e2 hm2
      have HX := hidd hx2
      have HL := bs_le' l k N
      have HL' := hidd HL
      generalize byteOf N k = y at e1 hy HL'
      clear hx hx2 HL ho'
      go_wp2_with (first | (at_builtin; refine wpList_app bT rfl (.tmp 22) (.tmp 26) rfl W.heap.size _ (n + k) (bs (l ++ le k N)) rfl (ho.alloc _) _ 1 1 _ rfl (Sl.fresh wr [_] 5 1 1 rfl (by decide)) (one_int _ _) (by omega) (by omega) (by simp; omega) ?_; intro v' w' hown' _ hbel'))
      go_roundw
      case rel => exact ⟨k + 1, by omega, by go_num, by rw [HX.out], by rw [HL'.out, ← Nat.add_assoc]; exact hown', (hbel.alloc hsz _).trans hbel'⟩
      case measure => simp [intOf]; omega
    · obtain rfl : k = w := by omega
      go_wp2
      obtain ⟨a', c', rfl, _⟩ := own_Sl ho
      go_ret2
      exact ⟨_, _, rfl, ho, hbel⟩
set_option maxHeartbeats 1000000 in
theorem rput_no (a : Option Addr) (n c : Nat) (N w : Int) (W : World) (hn0 : -9223372036854775808 ≤ N) (hn1 : N ≤ 9223372036854775807) (hw0 : -9223372036854775808 ≤ w) (hw1 : w ≤ 9223372036854775807) (hf : fits N w = false) :
    Calls Try.prog 15 #[.slice a n c, .int .i64 N, .int .i64 w] W fun e w' => e = .returned (.tuple #[.slice none 0 0, .int .i64 2]) ∧ W = w' := by
  have HF := hidd hf
  clear hf
  go_enter Try.func15, Try.ntmps15
  go_wp2_with (go_at_call 20; refine (rfits_any _ _ _ (by omega) (by omega) (by omega) (by omega)).mono ?_; rintro e w1 ⟨rfl, rfl⟩; rw [HF.out])
  go_ret2
  exact ⟨rfl, rfl⟩
end Go.Proofs.Ytheodlbbalbliaa
