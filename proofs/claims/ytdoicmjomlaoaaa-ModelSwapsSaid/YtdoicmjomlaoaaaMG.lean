import Derived.Test.YtdoicmjomlaoaaaMF
namespace Go.Proofs.Ytdoicmjomlaoaaa
open Go.RowKit
theorem over8_get (H : List UInt8) (k : Nat) (v : List UInt8) (hH : H.length = 256) (hk : k < 32) (hv : v.length = 8) (i : Nat) : (over8 H k v)[i]? = if k * 8 ≤ i ∧ i < k * 8 + 8 then v[i - k * 8]? else H[i]? := by
  unfold over8
  by_cases h1 : i < k * 8
  · rw [List.getElem?_append_left (by rw [List.length_append, List.length_take]; omega), List.getElem?_append_left (by rw [List.length_take]; omega), List.getElem?_take, if_pos h1, if_neg (by omega)]
  · by_cases h2 : i < k * 8 + 8
    · rw [List.getElem?_append_left (by rw [List.length_append, List.length_take]; omega), List.getElem?_append_right (by rw [List.length_take]; omega), List.length_take, Nat.min_eq_left (by omega), if_pos ⟨by omega, h2⟩]
    · rw [List.getElem?_append_right (by rw [List.length_append, List.length_take]; omega), List.length_append, List.length_take, List.getElem?_drop, Nat.min_eq_left (by omega), hv, if_neg (by omega)]
      congr 1
      omega
theorem cut8_get (H : List UInt8) (k i : Nat) : (cut8 H k)[i]? = if i < 8 then H[k * 8 + i]? else none := by
  unfold cut8
  rw [List.getElem?_take, List.getElem?_drop]
theorem cut8_other {H : List UInt8} {j k : Nat} {v : List UInt8} (hH : H.length = 256) (hj : j < 32) (hv : v.length = 8) (hne : j ≠ k) : cut8 (over8 H j v) k = cut8 H k := by
  apply List.ext_getElem?
  intro i
  rw [cut8_get, cut8_get]
  by_cases hi : i < 8
  · rw [if_pos hi, if_pos hi, over8_get H j v hH hj hv, if_neg (by omega)]
  · rw [if_neg hi, if_neg hi]
/-- is a block written? -/
def wroB (l : List Sn) (k : Nat) : Bool := l.any fun x => x.K == 2 && x.k.toNat == k
theorem tcS_wro (k : Nat) : ∀ (l : List Sn) (s : (Nat → Bool) × (Nat → Bool)), (l.foldl stK s).2 k = (s.2 k || wroB l k) := by
  intro l
  induction l with
  | nil => intro s; simp [wroB]
  | cons x r ih =>
    intro s
    rw [List.foldl_cons, ih]
    have e : wroB (x :: r) k = ((x.K == 2 && x.k.toNat == k) || wroB r k) := by simp [wroB]
    rw [e]
    by_cases hK : x.K = 2
    · have h1 : (stK s x).2 k = (s.2 k || k == x.k.toNat) := by
        unfold stK
        rw [if_pos hK]
      have h2 : (k == x.k.toNat) = (x.k.toNat == k) := by
        rw [Bool.eq_iff_iff]
        simp
        omega
      rw [h1, hK, h2, Bool.or_assoc]
      rfl
    · have h1 : (stK s x).2 k = s.2 k := by
        unfold stK
        rw [if_neg hK]
        split <;> rfl
      have h2 : (x.K == 2) = false := by simpa using hK
      rw [h1, h2]
      rfl
theorem tcS_w (l : List Sn) (k : Nat) : (tcS l).2 k = wroB l k := by
  unfold tcS
  rw [tcS_wro]
  rfl
theorem do_stays (k : Nat) : ∀ (l : List Sn) (H : List UInt8), H.length = 256 → S8 l → (∀ x ∈ l, okS x = true) → wroB l k = false → cut8 (doH H l) k = cut8 H k := by
  intro l
  induction l with
  | nil => intro H _ _ _ _; rfl
  | cons x r ih =>
    intro H hH h8 hok hw
    have e : wroB (x :: r) k = ((x.K == 2 && x.k.toNat == k) || wroB r k) := by simp [wroB]
    rw [e, Bool.or_eq_false_iff] at hw
    have hx := hok x (by simp)
    show cut8 (doH (stH H x) r) k = _
    rw [ih (stH H x) (stH_len hH (h8 x (by simp)) hx) (fun p hp => h8 p (by simp [hp])) (fun p hp => hok p (by simp [hp])) hw.2]
    unfold stH
    split
    · rename_i hK
      refine cut8_other hH ?_ (h8 x (by simp)) ?_
      · unfold okS at hx
        simp at hx
        omega
      · intro hkk
        have := hw.1
        rw [hK, hkk] at this
        simp at this
    · rfl
theorem do_same : ∀ (l : List Sn) (H : List UInt8), (∀ x ∈ l, okS x = true) → (∀ k, k < 32 → wroB l k = false) → doH H l = H := by
  intro l
  induction l with
  | nil => intro H _ _; rfl
  | cons x r ih =>
    intro H hok hw
    have hx := hok x (by simp)
    have hK : x.K ≠ 2 := by
      intro hK
      have hk : x.k.toNat < 32 := by unfold okS at hx; simp at hx; omega
      have := hw _ hk
      simp [wroB, hK] at this
    show doH (stH H x) r = H
    have : stH H x = H := by unfold stH; rw [if_neg hK]
    rw [this]
    refine ih H (fun p hp => hok p (by simp [hp])) (fun k hk => ?_)
    have := hw k hk
    have e : wroB (x :: r) k = ((x.K == 2 && x.k.toNat == k) || wroB r k) := by simp [wroB]
    rw [e, Bool.or_eq_false_iff] at this
    exact this.2
theorem doH_take (H : List UInt8) (l : List Sn) (k : Nat) (x : Sn) (h : l[k]? = some x) : doH H (l.take (k + 1)) = stH (doH H (l.take k)) x := by
  rw [List.take_add_one, h]
  show doH H (l.take k ++ [x]) = _
  rw [doH_snoc]
end Go.Proofs.Ytdoicmjomlaoaaa
