import Derived.Test.YtheodlbbalbliaaRows
import Derived.Test.YtheodlbbalbliaaM1
import Derived.WalkKit
import Derived.WalkSpells
import Derived.WalkLawsBesides
namespace Go.Proofs.Ytheodlbbalbliaa
open Go.RowKit
set_option maxHeartbeats 400000 in
theorem half_any (r : BitVec 32) (w : World) :
    Calls Try.prog 38 #[.int .u32 (r.toNat : Int)] w fun e w' => e = .returned (.int .u32 ((hs4 r).toNat : Int)) ∧ w = w' := by
  go_enter Try.func38, Try.ntmps38
  go_wp2
  go_loop [0, 3] (fun t i => ∃ k : Nat, k ≤ 4 ∧ i = .int .i64 k ∧ t = .int .u32 ((hsN k r).toNat : Int)) (fun _ i => 4 - (intOf i).toNat)
  case atStart => exact ⟨0, by omega, rfl, rfl⟩
  case round =>
    obtain ⟨k, hk, rfl, rfl⟩ := hrel
    have hz := (hsN k r).isLt
    by_cases hlt : k < 4
    · go_wp2
      go_round
      case rel => exact ⟨k + 1, by omega, by go_num, by rw [b_hs]; rfl⟩
      case measure => simp [intOf]; omega
    · go_wp2
      obtain rfl : k = 4 := by omega
      go_ret
      exact ⟨rfl, rfl⟩

theorem half_nat (k : Nat) (hk : k < 4294967296) (w : World) :
    Calls Try.prog 38 #[.int .u32 (k : Int)] w fun e w' => e = .returned (.int .u32 ((hs4 (BitVec.ofNat 32 k)).toNat : Int)) ∧ w = w' := by
  have h := half_any (BitVec.ofNat 32 k) w
  have ek : (((BitVec.ofNat 32 k).toNat : Nat) : Int) = (k : Int) := by rw [BitVec.toNat_ofNat]; omega
  rw [ek] at h
  exact h
def tabA (k : Nat) : Array Value := ((List.range 16).map fun j => Value.int .u32 (if j < k then ((hs4 (BitVec.ofNat 32 j)).toNat : Int) else 0)).toArray
theorem tabA_get (k j : Nat) (h : j < 16) : (tabA k)[j]? = some (Value.int .u32 (if j < k then ((hs4 (BitVec.ofNat 32 j)).toNat : Int) else 0)) := by
  unfold tabA
  simp [h]
theorem tabA_size (k : Nat) : (tabA k).size = 16 := by simp [tabA]
theorem tabA_set (k : Nat) (h : k < 16) : (tabA k).setIfInBounds k (Value.int IntKind.u32 ↑(hs4 (BitVec.ofNat 32 k)).toNat) = tabA (k + 1) := by
  apply Array.ext
  · simp [tabA]
  · intro i h1 h2
    have hi : i < 16 := by simpa [tabA_size] using h2
    have e2 := tabA_get (k + 1) i hi
    have e1 := tabA_get k i hi
    rw [Array.getElem?_eq_getElem (by rw [tabA_size]; exact hi)] at e1 e2
    injection e1 with e1
    injection e2 with e2
    rw [Array.getElem_setIfInBounds (by rw [tabA_size]; exact hi), e2]
    by_cases hk : k = i
    · subst hk
      simp
    · rw [if_neg hk, e1]
      congr 2
      have : (i < k) = (i < k + 1) := by apply propext; omega
      simp only [this]
theorem tabA_0 : tabA 0 = #[Value.int IntKind.u32 0, Value.int IntKind.u32 0, Value.int IntKind.u32 0, Value.int IntKind.u32 0,
          Value.int IntKind.u32 0, Value.int IntKind.u32 0, Value.int IntKind.u32 0, Value.int IntKind.u32 0,
          Value.int IntKind.u32 0, Value.int IntKind.u32 0, Value.int IntKind.u32 0, Value.int IntKind.u32 0,
          Value.int IntKind.u32 0, Value.int IntKind.u32 0, Value.int IntKind.u32 0, Value.int IntKind.u32 0] := rfl

theorem tabA_16 : tabA 16 = #[Value.int IntKind.u32 0, Value.int IntKind.u32 498536548, Value.int IntKind.u32 997073096, Value.int IntKind.u32 651767980, Value.int IntKind.u32 1994146192, Value.int IntKind.u32 1802195444, Value.int IntKind.u32 1303535960, Value.int IntKind.u32 1342533948, Value.int IntKind.u32 3988292384, Value.int IntKind.u32 4027552580, Value.int IntKind.u32 3604390888, Value.int IntKind.u32 3412177804, Value.int IntKind.u32 2607071920, Value.int IntKind.u32 2262029012, Value.int IntKind.u32 2685067896, Value.int IntKind.u32 3183342108] := by kernel_rfl
set_option maxHeartbeats 1000000 in
theorem table_any (w : World) :
    Calls Try.prog 37 #[] w fun e w' => e = .returned (.agg (tabA 16)) ∧ Below w.heap.size w w' := by
  go_enter Try.func37, Try.ntmps37
  go_wp2
  go_loopw [4] (fun i wr => ∃ k : Nat, k ≤ 16 ∧ i = .int .i64 k ∧ wr = (w.alloc (.cells (tabA 0) 60)).alloc (.cells (tabA k) 60)) (fun i _ => 16 - (intOf i).toNat)
  case atStart => exact ⟨0, by omega, rfl, rfl⟩
  case round =>
    obtain ⟨k, hk, rfl, rfl⟩ := hrel
    by_cases hlt : k < 16
    · go_wp2_with fail
      refine (half_nat k (by omega) _).mono ?_
      rintro e w' ⟨rfl, rfl⟩
      have hc : (tabA k)[k]? = some (Value.int .u32 0) := by rw [tabA_get k k hlt]; simp
      go_wp2
      go_roundw
      case rel => exact ⟨k + 1, by omega, by go_num, by rw [tabA_set k hlt]⟩
      case measure => simp [intOf]; omega
    · obtain rfl : k = 16 := by omega
      rw [tabA_16, tabA_0]
      go_wp2
      refine bodyPost_ret (v := .agg (tabA 16)) (by rw [tabA_16]; simp [results, Try.results37, go_sem]) rfl ⟨rfl, ?_⟩
      exact ((Below.refl _ _).alloc (Nat.le_refl _) _).alloc (by simp) _
end Go.Proofs.Ytheodlbbalbliaa
