import Derived.Test.YtdoicmjomlaoaaaMI
namespace Go.Proofs.Ytdoicmjomlaoaaa
open Go.RowKit
/-- two rows of blocks are the same if all blocks are -/
theorem cut8_ext {H H' : List UInt8} (hH : H.length = 256) (hH' : H'.length = 256) (h : ∀ k, k < 32 → cut8 H k = cut8 H' k) : H = H' := by
  apply List.ext_getElem?
  intro i
  by_cases hi : i < 256
  · have := congrArg (fun l => l[i % 8]?) (h (i / 8) (by omega))
    simp only [cut8_get] at this
    rw [if_pos (by omega), if_pos (by omega)] at this
    have e : i / 8 * 8 + i % 8 = i := by omega
    rw [e] at this
    exact this
  · rw [List.getElem?_eq_none (by omega), List.getElem?_eq_none (by omega)]
theorem okS_k {x : Sn} (h : okS x = true) : x.k.toNat < 32 ∧ (x.K = 1 ∨ x.K = 2) := by
  unfold okS at h
  simp at h
  omega
theorem cut8_stH {H : List UInt8} {x : Sn} (hH : H.length = 256) (h8 : x.v.length = 8) (hok : okS x = true) (k : Nat) : cut8 (stH H x) k = if x.K = 2 ∧ x.k.toNat = k then x.v else cut8 H k := by
  have hk := okS_k hok
  unfold stH
  by_cases h2 : x.K = 2
  · rw [if_pos h2]
    by_cases hkk : x.k.toNat = k
    · rw [if_pos ⟨h2, hkk⟩, ← hkk]
      exact cut8_over hH hk.1 h8
    · rw [if_neg (fun h => hkk h.2)]
      exact cut8_other hH hk.1 h8 hkk
  · rw [if_neg h2, if_neg (fun h => h2 h.1)]
/-- what is written does not hang on what was there -/
theorem do_wrote (k : Nat) : ∀ (l : List Sn) (H H' : List UInt8), H.length = 256 → H'.length = 256 → S8 l → (∀ x ∈ l, okS x = true) → (wroB l k = true ∨ cut8 H k = cut8 H' k) → cut8 (doH H l) k = cut8 (doH H' l) k := by
  intro l
  induction l with
  | nil =>
    intro H H' _ _ _ _ h
    rcases h with h | h
    · simp [wroB] at h
    · exact h
  | cons x r ih =>
    intro H H' hH hH' h8 hok h
    have h8x := h8 x (by simp)
    have hx := hok x (by simp)
    refine ih (stH H x) (stH H' x) (stH_len hH h8x hx) (stH_len hH' h8x hx) (fun p hp => h8 p (by simp [hp])) (fun p hp => hok p (by simp [hp])) ?_
    have e : wroB (x :: r) k = ((x.K == 2 && x.k.toNat == k) || wroB r k) := by simp [wroB]
    rw [e, Bool.or_eq_true] at h
    rw [cut8_stH hH h8x hx, cut8_stH hH' h8x hx]
    by_cases hc : x.K = 2 ∧ x.k.toNat = k
    · rw [if_pos hc, if_pos hc]
      exact .inr rfl
    · rw [if_neg hc, if_neg hc]
      rcases h with (h | h) | h
      · exfalso
        simp at h
        exact hc h
      · exact .inl h
      · exact .inr h
/-- writes that do not meet may be done in either order -/
theorem do_comm {H : List UInt8} {l m : List Sn} (hH : H.length = 256) (h8 : S8 l) (hok : ∀ x ∈ l, okS x = true) (h8' : S8 m) (hok' : ∀ x ∈ m, okS x = true) (hd : ∀ k, k < 32 → wroB l k = true → wroB m k = false) : doH (doH H l) m = doH (doH H m) l := by
  have e1 := doH_len hH l h8 hok
  have e2 := doH_len hH m h8' hok'
  refine cut8_ext (doH_len e1 m h8' hok') (doH_len e2 l h8 hok) (fun k hk => ?_)
  cases hl : wroB l k
  · rw [do_stays k l (doH H m) e2 h8 hok hl]
    refine do_wrote k m (doH H l) H e1 hH h8' hok' (.inr ?_)
    exact do_stays k l H hH h8 hok hl
  · rw [do_stays k m (doH H l) e1 h8' hok' (hd k hk hl)]
    exact do_wrote k l H (doH H m) hH e2 h8 hok (.inl hl)
/-- the reads grow -/
theorem tcS_mono (k : Nat) : ∀ (l : List Sn) (s : (Nat → Bool) × (Nat → Bool)), s.1 k = true → (l.foldl stK s).1 k = true := by
  intro l
  induction l with
  | nil => intro s h; exact h
  | cons x r ih =>
    intro s h
    refine ih (stK s x) ?_
    unfold stK
    split
    · exact h
    · split
      · exact h
      · simp [h]
/-- what is filled hangs on what is read alone -/
theorem fill_same : ∀ (l : List Sn) (H H' : List UInt8) (s : (Nat → Bool) × (Nat → Bool)) (o : List Sn), H.length = 256 → H'.length = 256 → S8 l → (∀ x ∈ l, okS x = true) →
    (∀ k, k < 32 → (l.foldl stK s).1 k = true → cut8 H k = cut8 H' k) → (∀ k, k < 32 → s.2 k = true → cut8 H k = cut8 H' k) →
    (l.foldl stF (H, o)).2 = (l.foldl stF (H', o)).2 := by
  intro l
  induction l with
  | nil => intro H H' s o _ _ _ _ _ _; rfl
  | cons x r ih =>
    intro H H' s o hH hH' h8 hok hr hw
    have h8x := h8 x (by simp)
    have hx := hok x (by simp)
    have hk := okS_k hx
    have hv : cut8 (stH H x) x.k.toNat = cut8 (stH H' x) x.k.toNat := by
      rw [cut8_stH hH h8x hx, cut8_stH hH' h8x hx]
      by_cases hc : x.K = 2
      · rw [if_pos ⟨hc, rfl⟩, if_pos ⟨hc, rfl⟩]
      · rw [if_neg (fun h => hc h.1), if_neg (fun h => hc h.1)]
        cases hs : s.2 x.k.toNat
        · refine hr _ hk.1 (tcS_mono _ r _ ?_)
          unfold stK
          rw [if_neg hc, if_neg (by rw [hs]; decide)]
          simp
        · exact hw _ hk.1 hs
    rw [List.foldl_cons, List.foldl_cons]
    show (r.foldl stF (stH H x, o ++ [{ x with v := cut8 (stH H x) x.k.toNat }])).2 = (r.foldl stF (stH H' x, o ++ [{ x with v := cut8 (stH H' x) x.k.toNat }])).2
    rw [hv]
    refine ih (stH H x) (stH H' x) (stK s x) _ (stH_len hH h8x hx) (stH_len hH' h8x hx) (fun p hp => h8 p (by simp [hp])) (fun p hp => hok p (by simp [hp])) ?_ ?_
    · intro k hk32 hkr
      have h1 := hr k hk32 hkr
      rw [cut8_stH hH h8x hx, cut8_stH hH' h8x hx, h1]
    · intro k hk32 hks
      rw [cut8_stH hH h8x hx, cut8_stH hH' h8x hx]
      by_cases hc : x.K = 2 ∧ x.k.toNat = k
      · rw [if_pos hc, if_pos hc]
      · rw [if_neg hc, if_neg hc]
        refine hw k hk32 ?_
        unfold stK at hks
        by_cases h2 : x.K = 2
        · rw [if_pos h2] at hks
          simp at hks
          rcases hks with h | h
          · exact h
          · exact absurd ⟨h2, h.symm⟩ hc
        · rw [if_neg h2] at hks
          split at hks
          · exact hks
          · exact hks
theorem fS_same {H H' : List UInt8} {l : List Sn} (hH : H.length = 256) (hH' : H'.length = 256) (h8 : S8 l) (hok : ∀ x ∈ l, okS x = true) (h : ∀ k, k < 32 → (tcS l).1 k = true → cut8 H k = cut8 H' k) : (fS H l).2 = (fS H' l).2 :=
  fill_same l H H' (fun _ => false, fun _ => false) [] hH hH' h8 hok h (fun k _ hk => by cases hk)
/-- the same steps but for what they hold -/
def alikeS (l m : List Sn) : Prop := l.length = m.length ∧ ∀ i, i < l.length → (l[i]?.map Sn.K = m[i]?.map Sn.K ∧ l[i]?.map Sn.k = m[i]?.map Sn.k)
end Go.Proofs.Ytdoicmjomlaoaaa
