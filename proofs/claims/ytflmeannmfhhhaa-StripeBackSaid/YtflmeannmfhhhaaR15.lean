import Derived.Test.YtflmeannmfhhhaaR12a
namespace Go.Proofs.Ytflmeannmfhhhaa
open Go.RowKit
/-- how many stripes a shard has -/
def cnt (z : List Int) (j : Nat) : Nat := z.count (j : Int)
theorem ldN_cnt (z : List Int) (hz : z.length = 8) (ha : z.all shardB = true) : ∀ k, k ≤ 8 → ∀ j, j < 4 → ((ldN z k).getD j (0, 0)).1 = (z.take k).count ((j : Int) + 1) ∧ (0 < ((ldN z k).getD j (0, 0)).1 → ((ldN z k).getD j (0, 0)).2 < 8 ∧ z[((ldN z k).getD j (0, 0)).2]? = some ((j : Int) + 1))
  | 0, _, j, hj => by
    match j, hj with
    | 0, _ => simp [ldN]
    | 1, _ => simp [ldN]
    | 2, _ => simp [ldN]
    | 3, _ => simp [ldN]
  | k + 1, hk, j, hj => by
    obtain ⟨ih1, ih2⟩ := ldN_cnt z hz ha k (by omega) j hj
    have hx : z[k]? = some z[k] := List.getElem?_eq_getElem (by omega)
    have hs := shard_nat z k _ hx ha
    obtain ⟨x, hxe⟩ : ∃ x, x = z[k] := ⟨_, rfl⟩
    rw [← hxe] at hx hs
    obtain ⟨m, rfl, hm⟩ : ∃ m : Nat, x = (m : Int) + 1 ∧ m < 4 := by
      simp only [shardB, Bool.and_eq_true, decide_eq_true_eq] at hs
      exact ⟨(x - 1).toNat, by omega, by omega⟩
    have hl := ldN_len z k
    have e1 : z.getD k 1 - 1 = (m : Int) := by rw [List.getD_eq_getElem?_getD, hx]; simp
    have e2 : ldN z (k + 1) = (ldN z k).set m (((ldN z k).getD m (0, 0)).1 + 1, k) := by simp only [ldN, e1, Int.toNat_natCast]
    have e3 : (z.take (k + 1)).count ((j : Int) + 1) = (z.take k).count ((j : Int) + 1) + if m = j then 1 else 0 := by
      rw [List.take_add_one, hx]
      show (z.take k ++ [(m : Int) + 1]).count ((j : Int) + 1) = _
      rw [List.count_append]
      congr 1
      by_cases h : m = j
      · subst h; simp
      · have h' : ¬ (m : Int) = (j : Int) := by omega
        simp [h, h']
    rw [e2, e3]
    by_cases h : m = j
    · subst h
      have eg : ((ldN z k).set m (((ldN z k).getD m (0, 0)).1 + 1, k)).getD m (0, 0) = (((ldN z k).getD m (0, 0)).1 + 1, k) := by
        rw [List.getD_eq_getElem?_getD, List.getElem?_set_self (by omega)]
        rfl
      rw [eg]
      simp only [if_true]
      refine ⟨by omega, fun _ => ⟨by omega, hx⟩⟩
    · have eg : ((ldN z k).set m (((ldN z k).getD m (0, 0)).1 + 1, k)).getD j (0, 0) = (ldN z k).getD j (0, 0) := by
        rw [List.getD_eq_getElem?_getD, List.getElem?_set_ne h, List.getD_eq_getElem?_getD]
      rw [eg, if_neg h]
      exact ⟨by omega, ih2⟩
theorem LL_cnt (z : List Int) (hz : z.length = 8) (ha : z.all shardB = true) (j : Nat) (hj : j < 4) : ((ldN z 8).getD j (0, 0)).1 = cnt z (j + 1) ∧ (0 < ((ldN z 8).getD j (0, 0)).1 → ((ldN z 8).getD j (0, 0)).2 < 8 ∧ z[((ldN z 8).getD j (0, 0)).2]? = some ((j : Int) + 1)) := by
  have h := ldN_cnt z hz ha 8 (Nat.le_refl _) j hj
  rw [List.take_of_length_le (by omega)] at h
  exact h
theorem cnt_sum : ∀ (z : List Int), z.all shardB = true → cnt z 1 + cnt z 2 + cnt z 3 + cnt z 4 = z.length
  | [], _ => rfl
  | x :: r, h => by
    simp only [List.all_cons, Bool.and_eq_true] at h
    have ih := cnt_sum r h.2
    have hs := h.1
    simp only [shardB, Bool.and_eq_true, decide_eq_true_eq] at hs
    simp only [cnt, List.count_cons, List.length_cons] at ih ⊢
    have hx : x = 1 ∨ x = 2 ∨ x = 3 ∨ x = 4 := by omega
    rcases hx with rfl | rfl | rfl | rfl <;> simp at ih ⊢ <;> omega
theorem cnt_set (z : List Int) (i q t j : Nat) (hi : z[i]? = some (q : Int)) : cnt (z.set i (t : Int)) j = (cnt z j - if q = j then 1 else 0) + if t = j then 1 else 0 := by
  obtain ⟨h, e⟩ := List.getElem?_eq_some_iff.1 hi
  unfold cnt
  rw [List.count_set h, e]
  have e1 : ((q : Int) == (j : Int)) = decide (q = j) := by rw [Bool.eq_iff_iff]; simp; omega
  have e2 : ((t : Int) == (j : Int)) = decide (t = j) := by rw [Bool.eq_iff_iff]; simp; omega
  rw [e1, e2]
  simp
theorem cnt_pos (z : List Int) (i q : Nat) (hi : z[i]? = some (q : Int)) : 1 ≤ cnt z q := by
  unfold cnt
  exact List.count_pos_iff.2 (List.mem_of_getElem? hi)
def cs (s : Nat) : Nat := if s = 1 then 8 else if s = 2 then 4 else if s = 3 then 3 else 2
def term (z : List Int) (s j : Nat) : Nat := if j ≤ s then cnt z j - cs s else cnt z j
/-- how many moves are left at most -/
def phi (z : List Int) (s : Nat) : Nat := term z s 1 + term z s 2 + term z s 3 + term z s 4
def dif (z : List Int) (s : Nat) : Nat := (((ldN z 8).take s).getD (hiI (ldN z 8) s) (0, 0)).1 - (((ldN z 8).take s).getD (loI (ldN z 8) s) (0, 0)).1
def nextO (z : List Int) (s : Nat) : Option (Nat × Nat) := match farI (ldN z 8) s with
  | some p => some (p.2, 1 + loI (ldN z 8) s)
  | none => if dif z s ≤ 1 then none else some ((((ldN z 8).take s).getD (hiI (ldN z 8) s) (0, 0)).2, 1 + loI (ldN z 8) s)
theorem take_getD (L : List (Nat × Nat)) (s m : Nat) (h : m < s) : (L.take s).getD m (0, 0) = L.getD m (0, 0) := by
  rw [List.getD_eq_getElem?_getD, List.getD_eq_getElem?_getD, List.getElem?_take, if_pos h]
theorem lo_spec (z : List Int) (hz : z.length = 8) (ha : z.all shardB = true) (s : Nat) (s1 : 0 < s) (s4 : s ≤ 4) : loI (ldN z 8) s < s ∧ ∀ j, 1 ≤ j → j ≤ s → cnt z (loI (ldN z 8) s + 1) ≤ cnt z j := by
  have hl : ((ldN z 8).take s).length = s := by rw [List.length_take, ldN_len]; omega
  have h1 : loI (ldN z 8) s < s := by
    have := bestK_lt (fun x y => decide (x < y)) ((ldN z 8).take s) s (by omega) (by omega)
    rw [hl] at this
    exact this
  refine ⟨h1, fun j j1 j2 => ?_⟩
  have h2 : (((ldN z 8).take s).getD (loI (ldN z 8) s) (0, 0)).1 ≤ (((ldN z 8).take s).getD (j - 1) (0, 0)).1 := bestK_min ((ldN z 8).take s) s (j - 1) (by omega)
  rw [take_getD _ _ _ h1, take_getD _ _ _ (by omega : j - 1 < s), (LL_cnt z hz ha _ (by omega)).1, (LL_cnt z hz ha (j - 1) (by omega)).1, Nat.sub_add_cancel j1] at h2
  exact h2
theorem hi_spec (z : List Int) (hz : z.length = 8) (ha : z.all shardB = true) (s : Nat) (s1 : 0 < s) (s4 : s ≤ 4) : hiI (ldN z 8) s < s ∧ (∀ j, 1 ≤ j → j ≤ s → cnt z j ≤ cnt z (hiI (ldN z 8) s + 1)) ∧ dif z s = cnt z (hiI (ldN z 8) s + 1) - cnt z (loI (ldN z 8) s + 1) := by
  have hl : ((ldN z 8).take s).length = s := by rw [List.length_take, ldN_len]; omega
  have h1 : hiI (ldN z 8) s < s := by
    have := bestK_lt (fun x y => decide (y < x)) ((ldN z 8).take s) s (by omega) (by omega)
    rw [hl] at this
    exact this
  have h0 := (lo_spec z hz ha s s1 s4).1
  refine ⟨h1, fun j j1 j2 => ?_, ?_⟩
  · have h2 : (((ldN z 8).take s).getD (j - 1) (0, 0)).1 ≤ (((ldN z 8).take s).getD (hiI (ldN z 8) s) (0, 0)).1 := bestK_max ((ldN z 8).take s) s (j - 1) (by omega)
    rw [take_getD _ _ _ h1, take_getD _ _ _ (by omega : j - 1 < s), (LL_cnt z hz ha (j - 1) (by omega)).1, (LL_cnt z hz ha (hiI (ldN z 8) s) (by omega)).1, Nat.sub_add_cancel j1] at h2
    exact h2
  · unfold dif
    rw [take_getD _ _ _ h1, take_getD _ _ _ h0, (LL_cnt z hz ha _ (by omega)).1, (LL_cnt z hz ha _ (by omega)).1]
theorem far_none (z : List Int) (hz : z.length = 8) (ha : z.all shardB = true) (s : Nat) (h : farI (ldN z 8) s = none) : ∀ j, s < j → j ≤ 4 → cnt z j = 0 := by
  intro j j1 j2
  unfold farI at h
  rw [List.find?_eq_none] at h
  have hl := ldN_len z 8
  have hm : (ldN z 8).getD (j - 1) (0, 0) ∈ (ldN z 8).drop s := by
    rw [List.getD_eq_getElem?_getD, List.getElem?_eq_getElem (by omega), Option.getD_some, List.mem_iff_getElem?]
    exact ⟨j - 1 - s, by rw [List.getElem?_drop, show s + (j - 1 - s) = j - 1 by omega, List.getElem?_eq_getElem (by omega)]⟩
  have h2 := h _ hm
  rw [(LL_cnt z hz ha (j - 1) (by omega)).1, Nat.sub_add_cancel (by omega)] at h2
  simp at h2
  exact h2
theorem far_some (z : List Int) (hz : z.length = 8) (ha : z.all shardB = true) (s : Nat) (p : Nat × Nat) (h : farI (ldN z 8) s = some p) : p.2 < 8 ∧ ∃ q, s < q ∧ q ≤ 4 ∧ z[p.2]? = some (q : Int) := by
  unfold farI at h
  have hp := List.find?_some h
  have hm := List.mem_of_find?_eq_some h
  have hl := ldN_len z 8
  obtain ⟨i, hi⟩ := List.mem_iff_getElem?.1 hm
  rw [List.getElem?_drop] at hi
  have hlt : s + i < 4 := by have := (List.getElem?_eq_some_iff.1 hi).1; omega
  have hg : (ldN z 8).getD (s + i) (0, 0) = p := by rw [List.getD_eq_getElem?_getD, hi]; rfl
  have h2 := (LL_cnt z hz ha (s + i) hlt).2
  rw [hg] at h2
  obtain ⟨h3, h4⟩ := h2 (by simpa using hp)
  exact ⟨h3, s + i + 1, by omega, by omega, by rw [h4]; rfl⟩
theorem phi_step (z : List Int) (s i q t : Nat) (hz : z.length = 8) (ha : z.all shardB = true) (s1 : 0 < s) (s4 : s ≤ 4) (hi : z[i]? = some (q : Int)) (q1 : 1 ≤ q) (q4 : q ≤ 4) (t1 : 1 ≤ t) (ts : t ≤ s)
    (hm : ∀ j, 1 ≤ j → j ≤ s → cnt z t ≤ cnt z j) (h : s < q ∨ ((∀ j, s < j → j ≤ 4 → cnt z j = 0) ∧ cnt z t + 2 ≤ cnt z q ∧ ∀ j, 1 ≤ j → j ≤ s → cnt z j ≤ cnt z q)) : phi (z.set i (t : Int)) s + 1 = phi z s := by
  have hsum := cnt_sum z ha
  have hp := cnt_pos z i q hi
  rw [hz] at hsum
  have m1 := hm 1 (by omega) (by omega)
  have hc : ∀ j, cnt (z.set i (t : Int)) j = (cnt z j - if q = j then 1 else 0) + if t = j then 1 else 0 := fun j => cnt_set z i q t j hi
  unfold phi term
  rw [hc 1, hc 2, hc 3, hc 4]
  have hs : s = 1 ∨ s = 2 ∨ s = 3 ∨ s = 4 := by omega
  have hq : q = 1 ∨ q = 2 ∨ q = 3 ∨ q = 4 := by omega
  have ht : t = 1 ∨ t = 2 ∨ t = 3 ∨ t = 4 := by omega
  rcases hs with rfl | rfl | rfl | rfl
  · have e1 : t = 1 := by omega
    subst e1
    rcases hq with rfl | rfl | rfl | rfl <;> simp [cs] at * <;> omega
  · have m2 := hm 2 (by omega) (by omega)
    rcases ht with rfl | rfl | rfl | rfl <;> rcases hq with rfl | rfl | rfl | rfl <;> first | omega | (simp [cs] <;> (rcases h with h | ⟨h, h', x⟩ <;> first | omega | (have a3 := h 3 (by omega) (by omega); have a4 := h 4 (by omega) (by omega); have x1 := x 1 (by omega) (by omega); have x2 := x 2 (by omega) (by omega); omega)))
  · have m2 := hm 2 (by omega) (by omega)
    have m3 := hm 3 (by omega) (by omega)
    rcases ht with rfl | rfl | rfl | rfl <;> rcases hq with rfl | rfl | rfl | rfl <;> first | omega | (simp [cs] <;> (rcases h with h | ⟨h, h', x⟩ <;> first | omega | (have a4 := h 4 (by omega) (by omega); have x1 := x 1 (by omega) (by omega); have x2 := x 2 (by omega) (by omega); have x3 := x 3 (by omega) (by omega); omega)))
  · have m2 := hm 2 (by omega) (by omega)
    have m3 := hm 3 (by omega) (by omega)
    have m4 := hm 4 (by omega) (by omega)
    rcases ht with rfl | rfl | rfl | rfl <;> rcases hq with rfl | rfl | rfl | rfl <;> first | omega | (simp [cs] <;> (rcases h with h | ⟨h, h', x⟩ <;> first | omega | (have x1 := x 1 (by omega) (by omega); have x2 := x 2 (by omega) (by omega); have x3 := x 3 (by omega) (by omega); have x4 := x 4 (by omega) (by omega); omega)))
end Go.Proofs.Ytflmeannmfhhhaa
