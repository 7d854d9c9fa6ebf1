import Derived.Test.YtheodlbbalbliaaN2
namespace Go.Proofs.Ytheodlbbalbliaa
open Go
theorem neg_low (x : BitVec 32) : -(x &&& 1#32) = if x.getLsbD 0 then BitVec.allOnes 32 else 0#32 := by
  have h : x &&& 1#32 = if x.getLsbD 0 then 1#32 else 0#32 := by
    apply BitVec.eq_of_getLsbD_eq
    intro i hi
    cases hx : x.getLsbD 0
    · cases i <;> simp_all
    · cases i <;> simp_all
  rw [h]
  split
  · decide
  · decide
theorem hs_if (x : BitVec 32) : hs x = (x >>> 1) ^^^ (if x.getLsbD 0 then 0xEDB88320#32 else 0#32) := by
  unfold hs
  rw [neg_low]
  split
  · congr 1
  · congr 1
theorem hs_even (x : BitVec 32) (h : x.getLsbD 0 = false) : hs x = x >>> 1 := by
  rw [hs_if, h]
  simp
theorem hs_xor (x y : BitVec 32) : hs (x ^^^ y) = hs x ^^^ hs y := by
  rw [hs_if, hs_if, hs_if, BitVec.ushiftRight_xor_distrib, BitVec.getLsbD_xor]
  cases x.getLsbD 0 <;> cases y.getLsbD 0
  · simp
  · simp [BitVec.xor_assoc]
  · simp
    rw [BitVec.xor_assoc, BitVec.xor_assoc, BitVec.xor_comm (y >>> 1)]
  · simp
    apply BitVec.eq_of_getLsbD_eq
    intro i _
    simp only [BitVec.getLsbD_xor]
    cases (x >>> 1).getLsbD i <;> cases (y >>> 1).getLsbD i <;> cases (3988292384#32).getLsbD i <;> rfl
theorem hs_zero : hs 0#32 = 0#32 := by decide
theorem hs4_xor (x y : BitVec 32) : hs4 (x ^^^ y) = hs4 x ^^^ hs4 y := by simp only [hs4, hs_xor]
theorem hs4_high (x : BitVec 32) : hs4 (x &&& ~~~15#32) = x >>> 4 := by
  have h15 : ∀ i, (~~~15#32).getLsbD i = (decide (4 ≤ i) && decide (i < 32)) := by
    intro i
    rcases Nat.lt_or_ge i 32 with h | h
    · have : ∀ j : Fin 32, (~~~15#32).getLsbD j.val = (decide (4 ≤ j.val) && decide (j.val < 32)) := by decide
      exact this ⟨i, h⟩
    · rw [BitVec.getLsbD_of_ge _ _ h]
      simp; omega
  have b : ∀ i, (x &&& ~~~15#32).getLsbD i = (x.getLsbD i && decide (4 ≤ i)) := by
    intro i
    rw [BitVec.getLsbD_and, h15]
    rcases Nat.lt_or_ge i 32 with h | h
    · simp [h]
    · simp [BitVec.getLsbD_of_ge x i h]
  have e1 := hs_even (x &&& ~~~15#32) (by rw [b]; simp)
  have e2 := hs_even ((x &&& ~~~15#32) >>> 1) (by rw [BitVec.getLsbD_ushiftRight, b]; simp)
  have e3 := hs_even ((x &&& ~~~15#32) >>> 1 >>> 1) (by rw [BitVec.getLsbD_ushiftRight, BitVec.getLsbD_ushiftRight, b]; simp)
  have e4 := hs_even ((x &&& ~~~15#32) >>> 1 >>> 1 >>> 1) (by rw [BitVec.getLsbD_ushiftRight, BitVec.getLsbD_ushiftRight, BitVec.getLsbD_ushiftRight, b]; simp)
  rw [hs4, e1, e2, e3, e4]
  apply BitVec.eq_of_getLsbD_eq
  intro i hi
  simp only [BitVec.getLsbD_ushiftRight, b]
  rw [show 1 + (1 + (1 + (1 + i))) = 4 + i by omega]
  simp
theorem nib_hs4 (x : BitVec 32) : nib x = hs4 x := by
  have e : x = (x &&& ~~~15#32) ^^^ (x &&& 15#32) := by
    apply BitVec.eq_of_getLsbD_eq
    intro i hi
    rw [BitVec.getLsbD_xor, BitVec.getLsbD_and, BitVec.getLsbD_and, BitVec.getLsbD_not]
    rw [decide_eq_true hi]
    cases x.getLsbD i <;> cases (15#32).getLsbD i <;> rfl
  unfold nib
  rw [← hs4_high x, ← hs4_xor, ← e]
theorem stp_hs (r : BitVec 32) (b : UInt8) : stp r b = hs4 (hs4 (r ^^^ BitVec.ofNat 32 b.toNat)) := by
  unfold stp
  rw [nib_hs4, nib_hs4]
theorem hs4_hsN (x : BitVec 32) : hs4 (hs4 x) = hsN 8 x := rfl
end Go.Proofs.Ytheodlbbalbliaa
