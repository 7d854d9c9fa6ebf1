import Derived.Test.YtfmadgaknaflfaaRows
import Derived.Test.YtfmadgaknaflfaaK
import Derived.WalkSpells
import Derived.WalkLawsBesides
import Derived.Deep.QuietTactic
import Derived.BigQuiet
namespace Go.Proofs.Ytfmadgaknaflfaa
open Go.RowKit
def is (l : List Int) : List Value := l.map (Value.int .i64)
def riseB (l : List Int) : Bool := decide (∀ j, j < l.length → 1 ≤ j → l.getD (j - 1) 0 ≤ l.getD j 0)
set_option maxHeartbeats 1000000 in
theorem rising_any (a : Option Addr) (n c : Nat) (l : List Int) (w : World) (h : Sl w a n c 1 (is l)) (hn : n ≤ 1000) :
    Calls Try.prog 21 #[.slice a n c] w fun e w' => e = .returned (.bool (riseB l)) ∧ Below w.heap.size w w' := by
  have hlen : l.length = n := by have := h.len; simp [is] at this; omega
  have HL := hidd hlen
  have HH := hidd h
  clear h hlen
  go_enter Try.func21, Try.ntmps21
  go_wp2
  go_loopw [3] (fun i wr => ∃ k q : Nat, 1 ≤ k ∧ i = .int .i64 k ∧ wr = w.drewN q ∧ ∀ j, j < k → j < n → 1 ≤ j → l.getD (j - 1) 0 ≤ l.getD j 0) (fun i _ => (n : Int) - (intOf i) |>.toNat)
  case atStart => exact ⟨1, 0, by omega, rfl, rfl, by omega⟩
  case round =>
    obtain ⟨k, q, hk, rfl, rfl, hr⟩ := hrel
    have HR := hidd hr
    clear hr
    by_cases hlt : k < n
    · obtain ⟨b, off, rfl, hc⟩ := HH.out.cells k (by rw [HH.out.len]; omega)
      obtain ⟨b', off', hb', hc'⟩ := HH.out.cells (k - 1) (by rw [HH.out.len]; omega)
      injection hb' with hb'
      injection hb' with q1 q2
      subst q1
      subst q2
      have hg : ∀ i, i < n → (is l)[i]? = some (.int .i64 (l.getD i 0)) := by
        intro i hi
        have := HL.out
        simp [is, show i < l.length by omega]
      rw [hg k hlt] at hc
      rw [hg (k - 1) (by omega)] at hc'
      obtain ⟨x, hx⟩ : ∃ x, x = l.getD k 0 := ⟨_, rfl⟩
      obtain ⟨y, hy⟩ : ∃ y, y = l.getD (k - 1) 0 := ⟨_, rfl⟩
      rw [← hx] at hc
      rw [← hy] at hc'
      have HX := hidd hx
      have HY := hidd hy
      clear hx hy hg
      have i0 : (0 : Int) ≤ (k : Int) := by omega
      have i1 : (k : Int) < (n : Int) := by omega
      have i2 : IntKind.i64.wrap ((k : Int) - 1) = (k : Int) - 1 := IntWalk.i64_in _ (by omega)
      have i3 : (0 : Int) ≤ (k : Int) - 1 := by omega
      have i4 : (k : Int) - 1 < (n : Int) := by omega
      have i5 : ((k : Int) - 1).toNat = k - 1 := by omega
      by_cases hxy : x < y
      · have hd : decide (x < y) = true := by simpa using hxy
        go_wp2_with fail
        go_quiet (fail)
        clear i0 i1 i2 i3 i4 i5
        go_wp2
        go_ret
        refine ⟨?_, by first | exact bdN (Below.refl _ w) _ | exact bdN (bdN (Below.refl _ w) _) _⟩
        rw [show riseB l = false from by
          unfold riseB
          rw [decide_eq_false_iff_not]
          intro hall
          have := hall k (by rw [HL.out]; exact hlt) hk
          rw [← HX.out, ← HY.out] at this
          omega]
        rfl
      · have hd : decide (x < y) = false := by simpa using hxy
        go_wp2_with fail
        go_quiet (fail)
        clear i0 i1 i2 i3 i4 i5
        go_wp2
        go_roundw
        case rel =>
          refine ⟨k + 1, q + nq, by omega, by go_num, rfl, ?_⟩
          intro j hj hjn hj1
          rcases Nat.lt_or_ge j k with hjk | hjk
          · exact HR.out j hjk hjn hj1
          · obtain rfl : j = k := by omega
            rw [← HX.out, ← HY.out]
            omega
        case measure => simp [intOf]; omega
    · go_wp2
      go_ret
      refine ⟨?_, by first | exact bdN (Below.refl _ w) _ | exact bdN (bdN (Below.refl _ w) _) _⟩
      rw [show riseB l = true from by
        unfold riseB
        rw [decide_eq_true_iff]
        intro j hj hj1
        exact HR.out j (by have := HL.out; omega) (by have := HL.out; omega) hj1]
      rfl
/-- may a clock be? -/
def mayB (n b : Int) : Bool := decide (1 ≤ n ∧ n ≤ b ∧ b ≤ 1048577)
theorem rise_may (n b : Int) : riseB [1, n, b, 1048577] = mayB n b := by
  unfold riseB mayB
  apply decide_eq_decide.2
  constructor
  · intro h
    have h1 := h 1 (by simp) (by omega)
    have h2 := h 2 (by simp) (by omega)
    have h3 := h 3 (by simp) (by omega)
    simp at h1 h2 h3
    exact ⟨h1, h2, h3⟩
  · rintro ⟨h1, h2, h3⟩ j hj hj1
    simp at hj
    match j, hj, hj1 with
    | 1, _, _ => simpa using h1
    | 2, _, _ => simpa using h2
    | 3, _, _ => simpa using h3
set_option maxHeartbeats 1000000 in
theorem may_any (n b : Int) (w : World) :
    Calls Try.prog 17 #[.agg #[.int .i64 n, .int .i64 b]] w fun e w' => e = .returned (.bool (mayB n b)) ∧ Below w.heap.size w w' := by
  have HR := hidd (rise_may n b)
  go_enter Try.func17, Try.ntmps17
  go_wp2_with (go_at_call 21; refine (rising_any _ 4 4 [1, n, b, 1048577] _ (Sl.fresh_at (w.alloc _) [.int .i64 1, .int .i64 n, .int .i64 b, .int .i64 1048577] 3 4 1 (w.heap.size + 1) (by simp) rfl (by decide)) (by decide)).mono ?_; rintro e w1 ⟨rfl, hb1⟩; rw [HR.out])
  go_ret
  exact ⟨rfl, (((Below.refl _ w).alloc (Nat.le_refl _) _).alloc (by simp) _).trans (hb1.mono (by simp; omega))⟩
end Go.Proofs.Ytfmadgaknaflfaa
