import Derived.Test.YtflmeannmfhhhaaR12a
import Derived.Laws.BitsAllLaws
namespace Go.Proofs.Ytflmeannmfhhhaa
open Go.RowKit
theorem i64_and_nat (a b : Nat) (ha : a < 4611686018427387904) (hb : b < 4611686018427387904) : bits .and .i64 (a : Int) (b : Int) = ((a &&& b : Nat) : Int) := by
  have hx : a &&& b < 2 ^ 62 := Nat.and_lt_two_pow _ (by omega)
  show IntKind.i64.wrap ((BitVec.ofInt 64 (a : Int) &&& BitVec.ofInt 64 (b : Int)).toNat : Int) = _
  rw [BitVec.toNat_and, ofInt_u64 a (by omega), ofInt_u64 b (by omega)]
  exact IntWalk.i64_in _ (by omega)
theorem i64_or_nat (a b : Nat) (ha : a < 4611686018427387904) (hb : b < 4611686018427387904) : bits .or .i64 (a : Int) (b : Int) = ((a ||| b : Nat) : Int) := by
  have hx : a ||| b < 2 ^ 62 := Nat.or_lt_two_pow (by omega) (by omega)
  show IntKind.i64.wrap ((BitVec.ofInt 64 (a : Int) ||| BitVec.ofInt 64 (b : Int)).toNat : Int) = _
  rw [BitVec.toNat_or, ofInt_u64 a (by omega), ofInt_u64 b (by omega)]
  exact IntWalk.i64_in _ (by omega)
def ownP (p : Int → Bool) : List Int → Nat
  | [] => 0
  | x :: r => (if p x = true then 1 else 0) + 2 * ownP p r
theorem ownP_bit (p : Int → Bool) : ∀ (l : List Int) (k : Nat), (ownP p l).testBit k = (match l[k]? with | some x => p x | none => false)
  | [], k => by simp [ownP]
  | x :: r, 0 => by
    simp only [ownP, Nat.testBit_zero, List.getElem?_cons_zero]
    cases p x <;> simp <;> omega
  | x :: r, k + 1 => by
    rw [Nat.testBit_succ, List.getElem?_cons_succ, ← ownP_bit p r k]
    congr 1
    simp only [ownP]
    split <;> omega
theorem ownP_lt (p : Int → Bool) : ∀ (l : List Int), ownP p l < 2 ^ l.length
  | [] => by simp [ownP]
  | x :: r => by
    have := ownP_lt p r
    simp only [ownP, List.length_cons, Nat.pow_succ]
    split <;> omega
def upTo (z : List Int) (j : Nat) : Nat := ownP (fun x => decide (1 ≤ x ∧ x ≤ (j : Int))) z
theorem upTo_zero (z : List Int) : upTo z 0 = 0 := by
  apply Nat.eq_of_testBit_eq
  intro i
  unfold upTo
  rw [ownP_bit, Nat.zero_testBit]
  cases z[i]? with
  | none => rfl
  | some x => simp; omega
theorem upTo_and (z : List Int) (j : Nat) : own z ((j : Int) + 1) &&& upTo z j = 0 := by
  apply Nat.eq_of_testBit_eq
  intro i
  unfold upTo
  rw [Nat.testBit_and, own_bit, ownP_bit, Nat.zero_testBit]
  cases z[i]? with
  | none => simp
  | some x => simp; omega
theorem upTo_or (z : List Int) (j : Nat) : upTo z j ||| own z ((j : Int) + 1) = upTo z (j + 1) := by
  apply Nat.eq_of_testBit_eq
  intro i
  unfold upTo
  rw [Nat.testBit_or, own_bit, ownP_bit, ownP_bit]
  cases z[i]? with
  | none => simp
  | some x =>
    simp only [Option.some.injEq]
    rw [Bool.eq_iff_iff]
    simp
    omega
theorem upTo_all (z : List Int) (hz : z.length = 8) (ha : z.all shardB = true) : upTo z 4 = 255 := by
  apply Nat.eq_of_testBit_eq
  intro i
  unfold upTo
  rw [ownP_bit, show (255 : Nat) = 2 ^ 8 - 1 by decide, Nat.testBit_two_pow_sub_one]
  rcases Nat.lt_or_ge i 8 with h | h
  · rw [List.getElem?_eq_getElem (by omega)]
    have := shard_nat z i z[i] (List.getElem?_eq_getElem (by omega)) ha
    simp only [shardB, Bool.and_eq_true, decide_eq_true_eq] at this
    simp [h]
    omega
  · rw [List.getElem?_eq_none (by omega)]
    simp
    omega
theorem upTo_lt (z : List Int) (hz : z.length = 8) (j : Nat) : upTo z j < 256 := by
  have := ownP_lt (fun x => decide (1 ≤ x ∧ x ≤ (j : Int))) z
  rw [hz] at this
  exact this
end Go.Proofs.Ytflmeannmfhhhaa
