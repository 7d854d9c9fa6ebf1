import Derived.Test.YtflmeannmfhhhaaR4
namespace Go.Proofs.Ytflmeannmfhhhaa
open Go.RowKit
def cx (p : Nat × Nat) : Value := .complex .f64 (fb p.1) (fb p.2)
set_option maxHeartbeats 1000000 in
theorem more_any (p q : Nat × Nat) (W : World) (hp : p.1 < 10) (hq : q.1 < 10) :
    Calls Try.prog 29 #[cx p, cx q] W fun e w' => e = .returned (.bool (decide (q.1 < p.1))) ∧ W = w' := by
  obtain ⟨a, i⟩ := p
  obtain ⟨b, j⟩ := q
  have h := fb_order a hp b hq
  have he : (some (compare a b) == some Ordering.gt) = decide (b < a) := by
    rcases Nat.lt_trichotomy a b with h | h | h
    · simp [Nat.compare_eq_lt.2 h]; omega
    · subst h; simp
    · simp [Nat.compare_eq_gt.2 h, h]
  have HE := hidd he
  unfold cx
  clear he
  go_enter Try.func29, Try.ntmps29
  go_wp2
  go_ret
  exact ⟨ret_b HE.out, rfl⟩
set_option maxHeartbeats 1000000 in
theorem fewer_any (p q : Nat × Nat) (W : World) (hp : p.1 < 10) (hq : q.1 < 10) :
    Calls Try.prog 30 #[cx p, cx q] W fun e w' => e = .returned (.bool (decide (p.1 < q.1))) ∧ W = w' := by
  obtain ⟨a, i⟩ := p
  obtain ⟨b, j⟩ := q
  have h := fb_order a hp b hq
  have he : (some (compare a b) == some Ordering.lt) = decide (a < b) := by
    rcases Nat.lt_trichotomy a b with h | h | h
    · simp [Nat.compare_eq_lt.2 h, h]
    · subst h; simp
    · simp [Nat.compare_eq_gt.2 h]; omega
  have HE := hidd he
  unfold cx
  clear he
  go_enter Try.func30, Try.ntmps30
  go_wp2
  go_ret
  exact ⟨ret_b HE.out, rfl⟩
end Go.Proofs.Ytflmeannmfhhhaa
