import Derived.Test.YtflmeannmfhhhaaR15
namespace Go.Proofs.Ytflmeannmfhhhaa
open Go.RowKit
theorem nextO_some (z : List Int) (s i t : Nat) (hz : z.length = 8) (ha : z.all shardB = true) (s1 : 0 < s) (s4 : s ≤ 4) (h : nextO z s = some (i, t)) :
    i < 8 ∧ (∃ q : Nat, z[i]? = some (q : Int) ∧ q ≠ t) ∧ 1 ≤ t ∧ t ≤ s ∧ phi (z.set i (t : Int)) s + 1 = phi z s := by
  obtain ⟨hl, hm⟩ := lo_spec z hz ha s s1 s4
  obtain ⟨hh, hx, hd⟩ := hi_spec z hz ha s s1 s4
  unfold nextO at h
  cases hf : farI (ldN z 8) s with
  | some p =>
    rw [hf] at h
    simp only [Option.some.injEq, Prod.mk.injEq] at h
    obtain ⟨h1, h2⟩ := h
    obtain ⟨p8, q, hq1, hq2, hq3⟩ := far_some z hz ha s p hf
    subst h1
    have ht : t = loI (ldN z 8) s + 1 := by omega
    refine ⟨p8, ⟨q, hq3, by omega⟩, by omega, by omega, ?_⟩
    exact phi_step z s p.2 q t hz ha s1 s4 hq3 (by omega) hq2 (by omega) (by omega) (by rw [ht]; exact hm) (.inl hq1)
  | none =>
    rw [hf] at h
    simp only at h
    split at h
    · cases h
    · rename_i hdif
      simp only [Option.some.injEq, Prod.mk.injEq] at h
      obtain ⟨h1, h2⟩ := h
      have ht : t = loI (ldN z 8) s + 1 := by omega
      rw [hd, ← ht] at hdif
      rw [take_getD _ _ _ hh] at h1
      have h3 := LL_cnt z hz ha (hiI (ldN z 8) s) (by omega)
      obtain ⟨h4, h5⟩ := h3.2 (by rw [h3.1]; omega)
      rw [h1] at h4 h5
      have h5' : z[i]? = some ((hiI (ldN z 8) s + 1 : Nat) : Int) := by rw [h5]; rfl
      have hne : hiI (ldN z 8) s + 1 ≠ t := by
        intro e
        rw [e] at hdif
        omega
      refine ⟨h4, ⟨_, h5', hne⟩, by omega, by omega, ?_⟩
      exact phi_step z s i _ t hz ha s1 s4 h5' (by omega) (by omega) (by omega) (by omega) (by rw [ht]; exact hm) (.inr ⟨far_none z hz ha s hf, by omega, hx⟩)
theorem nextO_none (z : List Int) (s : Nat) (hz : z.length = 8) (ha : z.all shardB = true) (s1 : 0 < s) (s4 : s ≤ 4) (h : nextO z s = none) :
    (∀ j, s < j → j ≤ 4 → cnt z j = 0) ∧ ∀ j k, 1 ≤ j → j ≤ s → 1 ≤ k → k ≤ s → cnt z j ≤ cnt z k + 1 := by
  obtain ⟨hl, hm⟩ := lo_spec z hz ha s s1 s4
  obtain ⟨hh, hx, hd⟩ := hi_spec z hz ha s s1 s4
  unfold nextO at h
  cases hf : farI (ldN z 8) s with
  | some p => rw [hf] at h; cases h
  | none =>
    rw [hf] at h
    simp only at h
    split at h
    · rename_i hdif
      rw [hd] at hdif
      refine ⟨far_none z hz ha s hf, fun j k j1 j2 k1 k2 => ?_⟩
      have := hx j j1 j2
      have := hm k k1 k2
      omega
    · cases h
theorem phi_le (z : List Int) (s : Nat) (hz : z.length = 8) (ha : z.all shardB = true) : phi z s ≤ 8 := by
  have hsum := cnt_sum z ha
  rw [hz] at hsum
  unfold phi term
  split <;> split <;> split <;> split <;> omega
def nxB (z : List Int) (s : Nat) : Bool := (nextO z s).isSome
theorem next_some_any (z : List Int) (s i t : Nat) (hz : z.length = 8) (W : World) (ha : z.all shardB = true) (s1 : 0 < s) (s4 : s ≤ 4) (h : nextO z s = some (i, t)) :
    Calls Try.prog 13 #[.agg (is .i64 z).toArray, .int .i64 s] W fun e w' => e = .returned (.tuple #[.agg #[.int .i64 (i : Nat), .int .i64 (t : Nat)], .bool true]) ∧ Below W.heap.size W w' := by
  unfold nextO at h
  cases hf : farI (ldN z 8) s with
  | some p =>
    rw [hf] at h
    simp only [Option.some.injEq, Prod.mk.injEq] at h
    obtain ⟨rfl, rfl⟩ := h
    refine (next_far z s p hf hz W ha s1 s4).mono ?_
    rintro e w1 ⟨rfl, hb⟩
    exact ⟨by simp, hb⟩
  | none =>
    rw [hf] at h
    simp only at h
    split at h
    · cases h
    · rename_i hdif
      simp only [Option.some.injEq, Prod.mk.injEq] at h
      obtain ⟨rfl, rfl⟩ := h
      refine (next_move z s hf (by unfold dif at hdif; omega) hz W ha s1 s4).mono ?_
      rintro e w1 ⟨rfl, hb⟩
      exact ⟨by simp, hb⟩
theorem next_none_any (z : List Int) (s : Nat) (hz : z.length = 8) (W : World) (ha : z.all shardB = true) (s1 : 0 < s) (s4 : s ≤ 4) (h : nextO z s = none) :
    Calls Try.prog 13 #[.agg (is .i64 z).toArray, .int .i64 s] W fun e w' => e = .returned (.tuple #[.agg #[.int .i64 0, .int .i64 0], .bool false]) ∧ Below W.heap.size W w' := by
  unfold nextO at h
  cases hf : farI (ldN z 8) s with
  | some p => rw [hf] at h; cases h
  | none =>
    rw [hf] at h
    simp only at h
    split at h
    · rename_i hdif
      exact next_even z s hf hdif hz W ha s1 s4
    · cases h
theorem own_cnt0 : ∀ (z : List Int) (k : Int), own z k = 0 → z.count k = 0
  | [], _, _ => rfl
  | x :: r, k, h => by
    simp only [own] at h
    by_cases hx : x = k
    · simp [hx] at h
    · rw [if_neg hx] at h
      have := own_cnt0 r k (by omega)
      simp [List.count_cons, this, hx]
def mxN (z : List Int) (s : Nat) : Nat → Nat
  | 0 => 0
  | j + 1 => if j + 1 ≤ s then max (mxN z s j) (cnt z (j + 1)) else mxN z s j
def mnN (z : List Int) (s : Nat) : Nat → Nat
  | 0 => 8
  | j + 1 => if j + 1 ≤ s then min (mnN z s j) (cnt z (j + 1)) else mnN z s j
theorem mx_le (z : List Int) (s M : Nat) (h : ∀ j, 1 ≤ j → j ≤ s → cnt z j ≤ M) : ∀ n, mxN z s n ≤ M
  | 0 => Nat.zero_le _
  | n + 1 => by
    have := mx_le z s M h n
    simp only [mxN]
    split
    · have := h (n + 1) (by omega) (by assumption)
      omega
    · omega
theorem mn_ge (z : List Int) (s m : Nat) (h : ∀ j, 1 ≤ j → j ≤ s → m ≤ cnt z j) (h8 : m ≤ 8) : ∀ n, m ≤ mnN z s n
  | 0 => h8
  | n + 1 => by
    have := mn_ge z s m h h8 n
    simp only [mnN]
    split
    · have := h (n + 1) (by omega) (by assumption)
      omega
    · omega
theorem even_fin (z : List Int) (s : Nat) (hz : z.length = 8) (ha : z.all shardB = true) (s1 : 0 < s) (s4 : s ≤ 4) (h : nextO z s = none) : mxN z s 4 ≤ mnN z s 4 + 1 := by
  obtain ⟨h0, hc⟩ := nextO_none z s hz ha s1 s4 h
  refine mx_le z s _ (fun j j1 j2 => ?_) 4
  have h8 : cnt z j ≤ 8 := by unfold cnt; rw [← hz]; exact List.count_le_length
  have := mn_ge z s (cnt z j - 1) (fun k k1 k2 => by have := hc j k j1 j2 k1 k2; omega) (by omega) 4
  omega
theorem mxN_le (z : List Int) (s : Nat) (hz : z.length = 8) : ∀ j, mxN z s j ≤ 8
  | 0 => by simp [mxN]
  | j + 1 => by
    have := mxN_le z s hz j
    have h2 : cnt z (j + 1) ≤ 8 := by unfold cnt; rw [← hz]; exact List.count_le_length
    simp only [mxN]
    split <;> omega
theorem mnN_le (z : List Int) (s : Nat) : ∀ j, mnN z s j ≤ 8
  | 0 => by simp [mnN]
  | j + 1 => by
    have := mnN_le z s j
    simp only [mnN]
    split <;> omega
theorem own_drop (z : List Int) (k : Int) (i : Nat) (x : Int) (hx : z[i]? = some x) : own (z.drop i) k = (if x = k then 1 else 0) + 2 * own (z.drop (i + 1)) k := by
  obtain ⟨h, e⟩ := List.getElem?_eq_some_iff.1 hx
  rw [List.drop_eq_getElem_cons h, e]
  rfl
theorem cnt_take (z : List Int) (k : Int) (i : Nat) (x : Int) (hx : z[i]? = some x) : (z.take (i + 1)).count k = (z.take i).count k + if x = k then 1 else 0 := by
  rw [List.take_add_one, hx]
  show (z.take i ++ [x]).count k = _
  rw [List.count_append]
  congr 1
  by_cases h : x = k
  · simp [h]
  · simp [h]
theorem cnt_done (z : List Int) (k : Int) (i : Nat) (h : own (z.drop i) k = 0) : (z.take i).count k = z.count k := by
  have h1 := own_cnt0 _ _ h
  have h2 : (z.take i ++ z.drop i).count k = (z.take i).count k + (z.drop i).count k := List.count_append
  rw [List.take_append_drop, h1] at h2
  omega
end Go.Proofs.Ytflmeannmfhhhaa
