import Derived.Test.YtheodlbbalbliaaM4
import Derived.Test.YtheodlbbalbliaaA3
namespace Go.Proofs.Ytheodlbbalbliaa
open Go
theorem u8_ext {a b : UInt8} (h : ∀ i, i < 8 → a.toNat.testBit i = b.toNat.testBit i) : a = b := by
  apply UInt8.toNat_inj.1
  apply Nat.eq_of_testBit_eq
  intro i
  rcases Nat.lt_or_ge i 8 with hi | hi
  · exact h i hi
  · rw [Nat.testBit_lt_two_pow (Nat.lt_of_lt_of_le a.toNat_lt (Nat.pow_le_pow_right (by decide) hi)), Nat.testBit_lt_two_pow (Nat.lt_of_lt_of_le b.toNat_lt (Nat.pow_le_pow_right (by decide) hi))]
/-- the byte of eight bits -/
def byteG (h : Nat → Bool) : UInt8 := ⟨BitVec.ofBoolListLE [h 0, h 1, h 2, h 3, h 4, h 5, h 6, h 7]⟩
theorem byteG_bit (h : Nat → Bool) (i : Nat) (hi : i < 8) : (byteG h).toNat.testBit i = h i := by
  unfold byteG
  rw [UInt8.toNat_ofBitVec, BitVec.testBit_toNat, BitVec.getLsbD_ofBoolListLE]
  match i, hi with
  | 0, _ | 1, _ | 2, _ | 3, _ | 4, _ | 5, _ | 6, _ | 7, _ => rfl
theorem bits8_byteG (h : Nat → Bool) : bits8 (byteG h) = (List.range 8).map h := by
  unfold bits8
  apply List.map_congr_left
  intro i hi
  exact byteG_bit h i (by simpa using hi)
def errb (g : Nat → Bool) (n : Nat) : List UInt8 := (List.range n).map fun j => byteG fun m => g (8 * j + m)
theorem bitsOf_errb (g : Nat → Bool) : ∀ n, bitsOf (errb g n) = (List.range (8 * n)).map g
  | 0 => rfl
  | n + 1 => by
    have h1 : errb g (n + 1) = errb g n ++ [byteG fun m => g (8 * n + m)] := by simp [errb, List.range_succ]
    have h2 : bitsOf (errb g n ++ [byteG fun m => g (8 * n + m)]) = bitsOf (errb g n) ++ bits8 (byteG fun m => g (8 * n + m)) := by simp [bitsOf]
    rw [h1, h2, bitsOf_errb g n, bits8_byteG, Nat.mul_succ, List.range_add, List.map_append, List.map_map]
    rfl
/-- which bits are changed, when i of the 32 were gone through -/
def gI (at' : Nat) (f : Nat → Bool) (i q : Nat) : Bool := decide (at' ≤ q) && decide (q < at' + i) && f (q - at')
theorem range_burst (at' N : Nat) (f : Nat → Bool) (h : at' + 32 ≤ N) :
    (List.range N).map (gI at' f 32) = List.replicate at' false ++ (List.range 32).map f ++ List.replicate (N - at' - 32) false := by
  obtain ⟨q, rfl⟩ : ∃ q, N = at' + 32 + q := ⟨N - at' - 32, by omega⟩
  rw [List.range_add, List.range_add, List.map_append, List.map_append, List.map_map, List.map_map, show at' + 32 + q - at' - 32 = q by omega]
  congr 1
  · congr 1
    · rw [List.eq_replicate_iff]
      refine ⟨by simp, ?_⟩
      intro b hb
      simp only [List.mem_map, List.mem_range] at hb
      obtain ⟨x, hx, rfl⟩ := hb
      simp [gI, show ¬ at' ≤ x by omega]
    · apply List.map_congr_left
      intro x hx
      simp at hx
      simp [gI, hx]
  · rw [List.eq_replicate_iff]
    refine ⟨by simp, ?_⟩
    intro b hb
    simp only [List.mem_map, List.mem_range] at hb
    obtain ⟨x, hx, rfl⟩ := hb
    simp [gI, show ¬ (at' + 32 + x < at' + 32) by omega]
theorem errb_ne (at' n : Nat) (f : Nat → Bool) (h : at' + 32 ≤ 8 * n) (h0 : f 0 = true) : thr 0#32 (errb (gI at' f 32) n) ≠ 0#32 := by
  rw [thr_bits, bitsOf_errb, range_burst at' (8 * n) f h]
  exact burst _ _ _ (by simp) (by simp [h0])
theorem byteOf_w8 (x : BitVec 32) (k i : Nat) (hi : i < 8) : (byteOf x.toNat k).toNat.testBit i = x.getLsbD (8 * k + i) := by
  unfold byteOf
  rw [UInt8.toNat_ofNat', Nat.testBit_mod_two_pow]
  have : 256 ^ k = 2 ^ (8 * k) := by rw [Nat.pow_mul]
  rw [this, ← Nat.shiftRight_eq_div_pow, Nat.testBit_shiftRight, BitVec.testBit_toNat]
  simp [hi]
theorem bitsOf_le4 (x : BitVec 32) : bitsOf (le 4 x.toNat) = (List.range 32).map fun i => x.getLsbD i := by
  have h : ∀ k, bits8 (byteOf x.toNat k) = (List.range 8).map fun i => x.getLsbD (8 * k + i) := by
    intro k
    apply List.map_congr_left
    intro i hi
    exact byteOf_w8 x k i (by simpa using hi)
  show bits8 (byteOf x.toNat 0) ++ (bits8 (byteOf x.toNat 1) ++ (bits8 (byteOf x.toNat 2) ++ (bits8 (byteOf x.toNat 3) ++ []))) = _
  rw [h, h, h, h]
  rfl
theorem thr_le4 (r x : BitVec 32) : thr r (le 4 x.toNat) = hsN 32 (r ^^^ x) := by
  rw [thr_bits, bitsOf_le4, bitsT_wd _ _ (by simp)]
  simp only [List.length_map, List.length_range]
  congr 2
  apply BitVec.eq_of_getLsbD_eq
  intro i hi
  rw [wd_bit]
  simp [hi]
theorem le4_xor (x y : BitVec 32) : le 4 (x ^^^ y).toNat = List.zipWith (· ^^^ ·) (le 4 x.toNat) (le 4 y.toNat) := by
  have h : ∀ k, byteOf (x ^^^ y).toNat k = byteOf x.toNat k ^^^ byteOf y.toNat k := by
    intro k
    apply u8_ext
    intro i hi
    rw [byteOf_w8 _ k i hi, UInt8.toNat_xor, Nat.testBit_xor, byteOf_w8 _ k i hi, byteOf_w8 _ k i hi, BitVec.getLsbD_xor]
  show [_, _, _, _] = [_, _, _, _]
  rw [h, h, h, h]
theorem xor_cancel (a b c : UInt8) (h : a ^^^ b = a ^^^ c) : b = c := by
  have : a ^^^ (a ^^^ b) = a ^^^ (a ^^^ c) := by rw [h]
  rwa [← UInt8.xor_assoc, ← UInt8.xor_assoc, UInt8.xor_self, UInt8.zero_xor, UInt8.zero_xor] at this
theorem zip_cancel : ∀ (a b c : List UInt8), a.length = b.length → a.length = c.length → List.zipWith (· ^^^ ·) a b = List.zipWith (· ^^^ ·) a c → b = c
  | [], [], [], _, _, _ => rfl
  | x :: a, y :: b, z :: c, h1, h2, h => by
    simp only [List.zipWith_cons_cons, List.cons.injEq] at h
    rw [xor_cancel x y z h.1, zip_cancel a b c (by simpa using h1) (by simpa using h2) h.2]
/-- what is sealed, and then changed by an error whose own remainder is not nought, is sealed no more -/
theorem burst_told (l e : List UInt8) (he : e.length = l.length + 4) (hz : thr 0#32 e ≠ 0#32) : opensB (List.zipWith (· ^^^ ·) (sealL l) e) = false := by
  have hlen : (List.zipWith (· ^^^ ·) (sealL l) e).length = l.length + 4 := by simp [sealL, le, he]
  cases hb : opensB (List.zipWith (· ^^^ ·) (sealL l) e)
  · rfl
  · exfalso
    unfold opensB at hb
    rw [decide_eq_true (by omega), Bool.true_and, hlen, show l.length + 4 - 4 = l.length by omega] at hb
    have h := eq_of_beq hb
    rw [List.take_zipWith, List.drop_zipWith] at h
    have ht : (sealL l).take l.length = l := by simp [sealL]
    have hd : (sealL l).drop l.length = le 4 (jn 0 l).toNat := by simp [sealL]
    rw [ht, hd] at h
    have hj : jn 0 (List.zipWith (· ^^^ ·) l (e.take l.length)) = jn 0 l ^^^ thr 0#32 (e.take l.length) := by
      unfold jn
      have h1 := thr_xor l (e.take l.length) (~~~ 0#32) 0#32 (by simp; omega)
      rw [BitVec.xor_zero] at h1
      show ~~~ thr (~~~ 0#32) _ = _
      rw [h1]
      apply BitVec.eq_of_getLsbD_eq
      intro i hi
      simp only [BitVec.getLsbD_not, BitVec.getLsbD_xor, hi, decide_true, Bool.true_and]
      cases (thr (~~~ 0#32) l).getLsbD i <;> cases (thr 0#32 (e.take l.length)).getLsbD i <;> rfl
    rw [hj, le4_xor] at h
    have he2 := zip_cancel _ _ _ (by simp [le]) (by simp [le]; omega) h
    apply hz
    have hsplit : e = e.take l.length ++ e.drop l.length := (List.take_append_drop _ _).symm
    rw [hsplit, thr_append, ← he2, thr_le4, BitVec.xor_self, hsN_zero]
end Go.Proofs.Ytheodlbbalbliaa
