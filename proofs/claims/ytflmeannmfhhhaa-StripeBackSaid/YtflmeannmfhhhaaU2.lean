import Derived.Test.YtflmeannmfhhhaaU1
namespace Go.Proofs.Ytflmeannmfhhhaa
open Go.RowKit
/-- how many of the first k blocks are a shard's (nobody's count as none) -/
def mF (z : List Int) (k s : Nat) : Nat := if s = 0 then 0 else 4 * (z.take (k / 4)).count (s : Int) + if z[k / 4]? = some (s : Int) then k % 4 else 0
theorem mF_zero (z : List Int) (s : Nat) : mF z 0 s = 0 := by
  unfold mF
  simp
theorem mF_step {z : List Int} {k s : Nat} (x : Nat) (hx : z[k / 4]? = some (x : Int)) : mF z (k + 1) s = if s = x ∧ s ≠ 0 then mF z k s + 1 else mF z k s := by
  unfold mF
  by_cases h0 : s = 0
  · rw [if_pos h0, if_pos h0, if_neg (fun h => h.2 h0)]
  rw [if_neg h0, if_neg h0]
  rcases Nat.lt_or_ge (k % 4) 3 with h3 | h3
  · have e1 : (k + 1) / 4 = k / 4 := by omega
    have e2 : (k + 1) % 4 = k % 4 + 1 := by omega
    rw [e1, e2, hx]
    by_cases hs : s = x
    · subst hs
      rw [if_pos rfl, if_pos rfl, if_pos ⟨rfl, h0⟩]
      omega
    · have hne : ¬ (some (x : Int) = some (s : Int)) := by
        intro h
        injection h with h
        omega
      rw [if_neg hne, if_neg hne, if_neg (fun h => hs h.1)]
  · have e1 : (k + 1) / 4 = k / 4 + 1 := by omega
    have e2 : (k + 1) % 4 = 0 := by omega
    rw [e1, e2, List.take_add_one, hx]
    have e3 : (z.take (k / 4) ++ (some (x : Int)).toList).count (s : Int) = (z.take (k / 4)).count (s : Int) + if s = x then 1 else 0 := by
      show (z.take (k / 4) ++ [(x : Int)]).count (s : Int) = _
      rw [List.count_append]
      congr 1
      by_cases hs : s = x
      · subst hs
        simp
      · have hne : ¬ (x : Int) = (s : Int) := by omega
        simp [hs, hne]
    rw [e3]
    by_cases hs : s = x
    · subst hs
      rw [if_pos (show s = s from rfl), if_pos (show s = s ∧ s ≠ 0 from ⟨rfl, h0⟩), if_pos (show some (s : Int) = some (s : Int) from rfl)]
      split <;> omega
    · have hne : ¬ (some (x : Int) = some (s : Int)) := by
        intro h
        injection h with h
        omega
      rw [if_neg hs, if_neg (show ¬ (s = x ∧ s ≠ 0) from fun h => hs h.1), if_neg hne]
      split <;> omega
theorem mF_mono_step (z : List Int) (k s : Nat) (hz : ∀ i, i < 8 → ∃ x : Nat, z[i]? = some (x : Int)) (hk : k < 32) : mF z k s ≤ mF z (k + 1) s ∧ mF z (k + 1) s ≤ mF z k s + 1 := by
  obtain ⟨x, hx⟩ := hz (k / 4) (by omega)
  rw [mF_step x hx]
  split <;> omega
theorem mF_mono (z : List Int) (s : Nat) (hz : ∀ i, i < 8 → ∃ x : Nat, z[i]? = some (x : Int)) (j : Nat) : ∀ d, j + d ≤ 32 → mF z j s ≤ mF z (j + d) s := by
  intro d
  induction d with
  | zero => intro _; exact Nat.le_refl _
  | succ d ih =>
    intro h
    exact Nat.le_trans (ih (by omega)) (mF_mono_step z (j + d) s hz (by omega)).1
theorem mF_le (z : List Int) (s : Nat) (hz : ∀ i, i < 8 → ∃ x : Nat, z[i]? = some (x : Int)) : ∀ k, k ≤ 32 → mF z k s ≤ k := by
  intro k
  induction k with
  | zero => intro _; rw [mF_zero]; exact Nat.le_refl _
  | succ k ih =>
    intro h
    have := (mF_mono_step z k s hz (by omega)).2
    have := ih (by omega)
    omega
theorem plc_mF {z : List Int} {k x : Nat} (hx : z[k / 4]? = some (x : Int)) (h0 : x ≠ 0) : plc z k = (x, mF z k x) := by
  unfold plc mF
  rw [List.getD_eq_getElem?_getD, hx, if_neg h0, if_pos rfl]
  rfl
/-- a block's place is this one's alone -/
theorem place_own {V : Int} {z : List Int} (hc : chE V z = 0) (hz : z.length = 8) {k x : Nat} (hk : k < 32) (hx : z[k / 4]? = some (x : Int)) (h0 : x ≠ 0) :
    plE V z k = ((x : Int), (mF z k x : Int), 0) ∧ blE V z x (mF z k x) = ((k : Int), 0) := by
  have hr := ent_range (chE_V hc).2.2
  have hzz : ∀ i, i < 8 → ∃ x : Nat, z[i]? = some (x : Int) := by
    intro i hi
    have hl : i < z.length := by omega
    have := hr _ (List.getElem_mem hl)
    exact ⟨z[i].toNat, by rw [List.getElem?_eq_getElem hl]; congr 1; omega⟩
  have hp : plE V z k = ((x : Int), (mF z k x : Int), 0) := by
    rw [plE_ok hc k hk, plc_mF hx h0]
    exact if_neg h0
  refine ⟨hp, blE_some hc hk (by unfold plB; rw [hp]; simp) ?_⟩
  intro j hj
  unfold plB
  obtain ⟨y, hy⟩ := hzz (j / 4) (by omega)
  rw [plE_ok hc j (by omega)]
  by_cases hy0 : y = 0
  · have : (plc z j).1 = 0 := by
      unfold plc
      rw [List.getD_eq_getElem?_getD, hy]
      simp [hy0]
    rw [if_pos this]
    show ((0 : Int) == (x : Int) && ((0 : Int) == _ && (4 : Int) == 0)) = false
    simp
  · rw [plc_mF hy hy0, if_neg hy0]
    show ((y : Int) == (x : Int) && ((mF z j y : Int) == (mF z k x : Int) && (0 : Int) == 0)) = false
    by_cases hyx : y = x
    · subst hyx
      have h1 := mF_step (s := y) y hy
      rw [if_pos ⟨rfl, hy0⟩] at h1
      have h2 := mF_mono z y hzz (j + 1) (k - (j + 1)) (by omega)
      rw [show j + 1 + (k - (j + 1)) = k by omega] at h2
      have h3 : ((mF z j y : Int) == (mF z k y : Int)) = false := by simp; omega
      rw [h3]
      simp
    · have h3 : ((y : Int) == (x : Int)) = false := by simp; omega
      rw [h3]
      rfl
theorem place_none {V : Int} {z : List Int} (hc : chE V z = 0) {k : Nat} (hk : k < 32) (hx : z[k / 4]? = some 0) : plE V z k = (0, 0, 4) := by
  have : (plc z k).1 = 0 := by
    unfold plc
    rw [List.getD_eq_getElem?_getD, hx]
    simp
  rw [plE_ok hc k hk, if_pos this]
end Go.Proofs.Ytflmeannmfhhhaa
