import Derived.Test.YtheodlbbalbliaaM3
namespace Go.Proofs.Ytheodlbbalbliaa
open Go
/-! A burst within 32 bits changes the remainder. -/
theorem hs_inj {x y : BitVec 32} (h : hs x = hs y) : x = y := by
  have h0 : hs (x ^^^ y) = 0#32 := by rw [hs_xor, h, BitVec.xor_self]
  have key : ∀ z : BitVec 32, hs z = 0#32 → z = 0#32 := by
    intro z hz
    rw [hs_if] at hz
    cases hb : z.getLsbD 0
    · rw [hb] at hz
      simp at hz
      apply BitVec.eq_of_getLsbD_eq
      intro i hi
      rw [BitVec.getLsbD_zero]
      cases i with
      | zero => exact hb
      | succ j =>
        have := congrArg (fun v => v.getLsbD j) hz
        simp only [BitVec.getLsbD_ushiftRight, BitVec.getLsbD_zero] at this
        rw [Nat.add_comm]; exact this
    · rw [hb] at hz
      simp at hz
      have := congrArg (fun v => v.getLsbD 31) hz
      simp only [BitVec.getLsbD_xor, BitVec.getLsbD_ushiftRight, BitVec.getLsbD_zero] at this
      rw [BitVec.getLsbD_of_ge z (1 + 31) (by omega)] at this
      exact absurd this (by decide)
  have h1 := key _ h0
  have h2 : (x ^^^ y) ^^^ y = 0#32 ^^^ y := by rw [h1]
  rw [BitVec.xor_assoc, BitVec.xor_self, BitVec.xor_zero, BitVec.zero_xor] at h2
  exact h2
theorem hsN_inj : ∀ (n : Nat) {x y : BitVec 32}, hsN n x = hsN n y → x = y
  | 0, _, _, h => h
  | n + 1, _, _, h => hsN_inj n (hs_inj h)
theorem hsN_zero : ∀ n, hsN n 0#32 = 0#32
  | 0 => rfl
  | n + 1 => by rw [hsN, hsN_zero n, hs_zero]
theorem hsN_xor : ∀ (n : Nat) (x y : BitVec 32), hsN n (x ^^^ y) = hsN n x ^^^ hsN n y
  | 0, _, _ => rfl
  | n + 1, x, y => by rw [hsN, hsN_xor n, hs_xor]; rfl
theorem hsN_add (m : Nat) : ∀ (n : Nat) (x : BitVec 32), hsN (m + n) x = hsN m (hsN n x) := by
  intro n
  induction m with
  | zero => intro x; simp [hsN]
  | succ m ih => intro x; rw [Nat.succ_add, hsN, ih, hsN]
/-- a byte as a word -/
def w8 (b : UInt8) : BitVec 32 := BitVec.ofNat 32 b.toNat
theorem w8_bit (b : UInt8) (i : Nat) : (w8 b).getLsbD i = (b.toNat.testBit i) := by
  unfold w8
  rw [BitVec.getLsbD_ofNat]
  rcases Nat.lt_or_ge i 32 with h | h
  · simp [h]
  · have : b.toNat.testBit i = false := Nat.testBit_lt_two_pow (Nat.lt_of_lt_of_le b.toNat_lt (Nat.pow_le_pow_right (by decide) (by omega)))
    rw [this]
    simp
theorem w8_xor (a b : UInt8) : w8 (a ^^^ b) = w8 a ^^^ w8 b := by
  apply BitVec.eq_of_getLsbD_eq
  intro i hi
  rw [BitVec.getLsbD_xor, w8_bit, w8_bit, w8_bit, UInt8.toNat_xor, Nat.testBit_xor]
theorem stp_eq (r : BitVec 32) (b : UInt8) : stp r b = hsN 8 (r ^^^ w8 b) := by
  rw [stp_hs, hs4_hsN]
  rfl
theorem thr_nil (r : BitVec 32) : thr r [] = r := rfl
theorem thr_cons (r : BitVec 32) (b : UInt8) (l : List UInt8) : thr r (b :: l) = thr (stp r b) l := rfl
theorem thr_append (r : BitVec 32) (l m : List UInt8) : thr r (l ++ m) = thr (thr r l) m := by simp [thr, List.foldl_append]
/-- the error's own remainder -/
theorem thr_xor : ∀ (l e : List UInt8) (r s : BitVec 32), l.length = e.length → thr (r ^^^ s) (List.zipWith (· ^^^ ·) l e) = thr r l ^^^ thr s e
  | [], [], r, s, _ => rfl
  | a :: l, b :: e, r, s, h => by
    rw [List.zipWith_cons_cons, thr_cons, thr_cons, thr_cons, stp_eq, stp_eq, stp_eq, w8_xor]
    have : (r ^^^ s) ^^^ (w8 a ^^^ w8 b) = (r ^^^ w8 a) ^^^ (s ^^^ w8 b) := by
      apply BitVec.eq_of_getLsbD_eq
      intro i _
      simp only [BitVec.getLsbD_xor]
      cases r.getLsbD i <;> cases s.getLsbD i <;> cases (w8 a).getLsbD i <;> cases (w8 b).getLsbD i <;> rfl
    rw [this, hsN_xor]
    exact thr_xor l e _ _ (by simpa using h)
/-- bits, one at a time -/
def bitw (b : Bool) : BitVec 32 := if b then 1#32 else 0#32
def bitsT (r : BitVec 32) (l : List Bool) : BitVec 32 := l.foldl (fun r b => hs (r ^^^ bitw b)) r
theorem bitsT_append (r : BitVec 32) (l m : List Bool) : bitsT r (l ++ m) = bitsT (bitsT r l) m := by simp [bitsT, List.foldl_append]
theorem bitsT_inj : ∀ (l : List Bool) {r s : BitVec 32}, bitsT r l = bitsT s l → r = s
  | [], _, _, h => h
  | b :: l, r, s, h => by
    have h1 := hs_inj (bitsT_inj l (r := hs (r ^^^ bitw b)) (s := hs (s ^^^ bitw b)) h)
    have h2 : (r ^^^ bitw b) ^^^ bitw b = (s ^^^ bitw b) ^^^ bitw b := by rw [h1]
    rw [BitVec.xor_assoc, BitVec.xor_assoc, BitVec.xor_self, BitVec.xor_zero, BitVec.xor_zero] at h2
    exact h2
theorem bitsT_false : ∀ (n : Nat) (r : BitVec 32), bitsT r (List.replicate n false) = hsN n r
  | 0, r => rfl
  | n + 1, r => by
    rw [List.replicate_succ]
    show bitsT (hs (r ^^^ bitw false)) _ = _
    rw [bitsT_false n, show r ^^^ bitw false = r by simp [bitw]]
    exact (hsN_add n 1 r).symm
/-- the word of some bits, the lowest first -/
def wd : List Bool → BitVec 32
  | [] => 0#32
  | b :: l => bitw b ^^^ (wd l <<< 1)
theorem bitw_bit (b : Bool) (i : Nat) : (bitw b).getLsbD i = (b && decide (i = 0)) := by
  unfold bitw
  cases b
  · simp
  · cases i <;> simp
theorem wd_bit : ∀ (l : List Bool) (i : Nat), (wd l).getLsbD i = (decide (i < 32) && l.getD i false)
  | [], i => by simp [wd]
  | b :: l, 0 => by
    rw [wd, BitVec.getLsbD_xor, bitw_bit, BitVec.getLsbD_shiftLeft]
    simp
  | b :: l, i + 1 => by
    rw [wd, BitVec.getLsbD_xor, bitw_bit, BitVec.getLsbD_shiftLeft]
    rw [show i + 1 - 1 = i by omega, wd_bit l i]
    rcases Nat.lt_or_ge (i + 1) 32 with h | h
    · simp [h, show i < 32 by omega]
    · simp [show ¬ (i + 1 < 32) by omega]
theorem hs_wd (l : List Bool) (h : l.length ≤ 31) : hs (wd l <<< 1) = wd l := by
  rw [hs_even _ (by rw [BitVec.getLsbD_shiftLeft]; simp)]
  apply BitVec.eq_of_getLsbD_eq
  intro i hi
  rw [BitVec.getLsbD_ushiftRight, BitVec.getLsbD_shiftLeft]
  rcases Nat.lt_or_ge (1 + i) 32 with h1 | h1
  · simp [h1]
  · have e : (wd l).getLsbD i = false := by
      rw [wd_bit, List.getD_eq_getElem?_getD, List.getElem?_eq_none (by omega)]
      simp
    rw [e]
    simp [show ¬ (1 + i < 32) by omega]
theorem bitsT_wd : ∀ (l : List Bool) (r : BitVec 32), l.length ≤ 32 → bitsT r l = hsN l.length (r ^^^ wd l)
  | [], r, _ => by simp [bitsT, wd, hsN]
  | b :: l, r, h => by
    have h1 : l.length ≤ 31 := by simp at h; omega
    show bitsT (hs (r ^^^ bitw b)) l = _
    rw [bitsT_wd l _ (by omega), List.length_cons, show l.length + 1 = l.length + 1 from rfl, hsN_add l.length 1, wd]
    congr 1
    show hs (r ^^^ bitw b) ^^^ wd l = hs (r ^^^ (bitw b ^^^ wd l <<< 1))
    rw [← BitVec.xor_assoc, hs_xor (r ^^^ bitw b), hs_wd l h1]
def bits8 (b : UInt8) : List Bool := (List.range 8).map fun i => b.toNat.testBit i
def bitsOf (l : List UInt8) : List Bool := l.flatMap bits8
theorem bits8_get (b : UInt8) (i : Nat) (h : i < 8) : (bits8 b).getD i false = b.toNat.testBit i := by simp [bits8, h]
theorem wd_bits8 (b : UInt8) : wd (bits8 b) = w8 b := by
  apply BitVec.eq_of_getLsbD_eq
  intro i hi
  rw [wd_bit, w8_bit, decide_eq_true hi, Bool.true_and]
  rcases Nat.lt_or_ge i 8 with h | h
  · exact bits8_get b i h
  · rw [List.getD_eq_getElem?_getD, List.getElem?_eq_none (by simp [bits8]; omega)]
    exact (Nat.testBit_lt_two_pow (Nat.lt_of_lt_of_le b.toNat_lt (Nat.pow_le_pow_right (by decide) h))).symm
theorem thr_bits : ∀ (l : List UInt8) (r : BitVec 32), thr r l = bitsT r (bitsOf l)
  | [], r => rfl
  | b :: l, r => by
    rw [thr_cons, thr_bits l, show bitsOf (b :: l) = bits8 b ++ bitsOf l from rfl, bitsT_append, bitsT_wd (bits8 b) r (by simp [bits8]), wd_bits8, stp_eq]
    rfl
/-- a burst -/
theorem burst (p q : Nat) (B : List Bool) (hB : B.length = 32) (h0 : B.getD 0 false = true) : bitsT 0#32 (List.replicate p false ++ B ++ List.replicate q false) ≠ 0#32 := by
  rw [bitsT_append, bitsT_append, bitsT_false, bitsT_false, hsN_zero, bitsT_wd B _ (by omega), BitVec.zero_xor]
  intro h
  have h1 := hsN_inj q (h.trans (hsN_zero q).symm)
  have h2 := hsN_inj _ (h1.trans (hsN_zero _).symm)
  have := congrArg (fun v => v.getLsbD 0) h2
  simp only [wd_bit, h0, BitVec.getLsbD_zero] at this
  simp at this
end Go.Proofs.Ytheodlbbalbliaa
