import Derived.Test.YtdoicmjomlaoaaaMM
namespace Go.Proofs.Ytdoicmjomlaoaaa
open Go.RowKit
/-- a step that is filled -/
def fx (H : List UInt8) (x : Sn) : Sn := { x with v := cut8 (stH H x) x.k.toNat }
/-- steps that are filled -/
def flS (H : List UInt8) : List Sn → List Sn
  | [] => []
  | x :: r => fx H x :: flS (stH H x) r
theorem fS_flS (H : List UInt8) (l : List Sn) : (fS H l).2 = flS H l := by
  have : ∀ (l : List Sn) (H : List UInt8) (o : List Sn), (l.foldl stF (H, o)).2 = o ++ flS H l := by
    intro l
    induction l with
    | nil => intro H o; simp [flS]
    | cons x r ih =>
      intro H o
      rw [List.foldl_cons]
      show (r.foldl stF (stH H x, o ++ [fx H x])).2 = o ++ (fx H x :: flS (stH H x) r)
      rw [ih, List.append_assoc]
      rfl
  have h := this l H []
  rw [List.nil_append] at h
  exact h
theorem fx_st {H : List UInt8} {x : Sn} (hH : H.length = 256) (h8 : x.v.length = 8) (hok : okS x = true) (H' : List UInt8) : stH H' (fx H x) = stH H' x := by
  have hk := okS_k hok
  unfold stH
  show (if x.K = 2 then over8 H' x.k.toNat (cut8 (stH H x) x.k.toNat) else H') = _
  by_cases h2 : x.K = 2
  · rw [if_pos h2, if_pos h2]
    unfold stH
    rw [if_pos h2, cut8_over hH hk.1 h8]
  · rw [if_neg h2, if_neg h2]
theorem fx_8 {H : List UInt8} {x : Sn} (hH : H.length = 256) (h8 : x.v.length = 8) (hok : okS x = true) : (fx H x).v.length = 8 := cut8_len (stH_len hH h8 hok) (okS_k hok).1
theorem fl_all : ∀ (l : List Sn) (H : List UInt8), H.length = 256 → S8 l → (∀ x ∈ l, okS x = true) →
    S8 (flS H l) ∧ (∀ x ∈ flS H l, okS x = true) ∧ flS H (flS H l) = flS H l ∧ (∀ H', doH H' (flS H l) = doH H' l) ∧ (∀ s, (flS H l).foldl stK s = l.foldl stK s) ∧ (flS H l).length = l.length ∧ ∀ e, mayF e (flS H l) = mayF e l := by
  intro l
  induction l with
  | nil =>
    intro H _ _ _
    exact ⟨fun p h => (List.not_mem_nil h).elim, fun p h => (List.not_mem_nil h).elim, rfl, fun _ => rfl, fun _ => rfl, rfl, fun _ => rfl⟩
  | cons x r ih =>
    intro H hH h8 hok
    have h8x := h8 x (by simp)
    have hx := hok x (by simp)
    obtain ⟨i1, i2, i3, i4, i5, i6, i7⟩ := ih (stH H x) (stH_len hH h8x hx) (fun p hp => h8 p (by simp [hp])) (fun p hp => hok p (by simp [hp]))
    refine ⟨?_, ?_, ?_, ?_, ?_, ?_, ?_⟩
    · intro p hp
      rcases List.mem_cons.1 hp with h | h
      · rw [h]; exact fx_8 hH h8x hx
      · exact i1 p h
    · intro p hp
      rcases List.mem_cons.1 hp with h | h
      · rw [h]; exact hx
      · exact i2 p h
    · show fx H (fx H x) :: flS (stH H (fx H x)) (flS (stH H x) r) = fx H x :: flS (stH H x) r
      rw [fx_st hH h8x hx, i3]
      congr 1
      show { fx H x with v := cut8 (stH H (fx H x)) x.k.toNat } = fx H x
      rw [fx_st hH h8x hx]
      rfl
    · intro H'
      show doH (stH H' (fx H x)) (flS (stH H x) r) = doH (stH H' x) r
      rw [fx_st hH h8x hx, i4]
    · intro s
      show (flS (stH H x) r).foldl stK (stK s (fx H x)) = r.foldl stK (stK s x)
      rw [i5]
      rfl
    · show (flS (stH H x) r).length + 1 = r.length + 1
      rw [i6]
    · intro e
      show (if x.K ≠ 1 ∧ x.K ≠ 2 then (2 : Int) else mayF (if x.k < 0 ∨ 32 ≤ x.k then 230 else e) (flS (stH H x) r)) = mayF e (x :: r)
      rw [i7]
      rfl
theorem inB_rsL (f : Nat → Bool) (k : Nat) : inB (rsL f 32) k = (decide (k < 32) && f k) := by
  rw [Bool.eq_iff_iff]
  unfold inB
  rw [List.any_eq_true]
  constructor
  · rintro ⟨x, hx, he⟩
    have he2 : x = (k : Int) := by simpa using he
    subst he2
    have := (rsL_mem f 32 k).1 hx
    simp [this.1, this.2]
  · intro h
    simp at h
    exact ⟨(k : Int), (rsL_mem f 32 k).2 h, by simp⟩
theorem meetB_comm (f g : Nat → Bool) : meetB f g = meetB g f := by
  unfold meetB
  congr 2
  funext i
  rw [Bool.and_comm]
theorem clB_comm (l m : List Sn) : clB l m = clB m l := by
  unfold clB
  rw [meetB_comm (inB (rsL (tcS m).2 32)) (inB (rsL (tcS l).2 32)), meetB_comm (inB (rsL (tcS m).2 32)) (inB (rsL (tcS l).1 32)), meetB_comm (inB (rsL (tcS m).1 32)) (inB (rsL (tcS l).2 32))]
  cases meetB (inB (rsL (tcS l).2 32)) (inB (rsL (tcS m).2 32)) <;> cases meetB (inB (rsL (tcS l).2 32)) (inB (rsL (tcS m).1 32)) <;> cases meetB (inB (rsL (tcS l).1 32)) (inB (rsL (tcS m).2 32)) <;> rfl
theorem meet_no {f g : Nat → Bool} (h : meetB (inB (rsL f 32)) (inB (rsL g 32)) = false) (k : Nat) (hk : k < 32) (hf : f k = true) : g k = false := by
  unfold meetB at h
  rw [Bool.not_eq_false', List.all_eq_true] at h
  have := h k (List.mem_range.2 hk)
  rw [inB_rsL, inB_rsL] at this
  simp [hk, hf] at this
  exact this
/-- two that don't clash: what either tells does not hang on the other, and they may be done in either order -/
theorem swap_law {H : List UInt8} {x y : List Sn} (hH : H.length = 256) (h8 : S8 x) (hok : ∀ p ∈ x, okS p = true) (h8' : S8 y) (hok' : ∀ p ∈ y, okS p = true) (hc : clB x y = false) :
    flS (doH H x) y = flS H y ∧ flS (doH H y) x = flS H x ∧ doH (doH H x) y = doH (doH H y) x := by
  unfold clB at hc
  rw [Bool.or_eq_false_iff, Bool.or_eq_false_iff] at hc
  obtain ⟨⟨c1, c2⟩, c3⟩ := hc
  refine ⟨?_, ?_, ?_⟩
  · rw [← fS_flS, ← fS_flS]
    refine fS_same (doH_len hH x h8 hok) hH h8' hok' (fun k hk hr => ?_)
    refine do_stays k x H hH h8 hok ?_
    rw [← tcS_w]
    cases hw : (tcS x).2 k
    · rfl
    · rw [meet_no c2 k hk hw] at hr
      cases hr
  · rw [← fS_flS, ← fS_flS]
    refine fS_same (doH_len hH y h8' hok') hH h8 hok (fun k hk hr => ?_)
    refine do_stays k y H hH h8' hok' ?_
    rw [← tcS_w]
    exact meet_no c3 k hk hr
  · refine do_comm hH h8 hok h8' hok' (fun k hk hw => ?_)
    rw [← tcS_w] at hw ⊢
    exact meet_no c1 k hk hw
end Go.Proofs.Ytdoicmjomlaoaaa
