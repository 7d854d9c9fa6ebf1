import Derived.Test.YtdoicmjomlaoaaaOI
namespace Go.Proofs.Ytdoicmjomlaoaaa
open Go.RowKit
theorem over8_get (H : List UInt8) (k : Nat) (v : List UInt8) (hH : H.length = 256) (hk : k < 32) (hv : v.length = 8) (i : Nat) : (over8 H k v)[i]? = if k * 8 ≤ i ∧ i < k * 8 + 8 then v[i - k * 8]? else H[i]? := by
  unfold over8
  by_cases h1 : i < k * 8
  · rw [List.getElem?_append_left (by rw [List.length_append, List.length_take]; omega), List.getElem?_append_left (by rw [List.length_take]; omega), List.getElem?_take, if_pos h1, if_neg (by omega)]
  · by_cases h2 : i < k * 8 + 8
    · rw [List.getElem?_append_left (by rw [List.length_append, List.length_take]; omega), List.getElem?_append_right (by rw [List.length_take]; omega), List.length_take, Nat.min_eq_left (by omega), if_pos ⟨by omega, h2⟩]
    · rw [List.getElem?_append_right (by rw [List.length_append, List.length_take]; omega), List.length_append, List.length_take, List.getElem?_drop, Nat.min_eq_left (by omega), hv, if_neg (by omega)]
      congr 1
      omega
def putH (H : List UInt8) (p : Wr) : List UInt8 := if 0 ≤ p.1 ∧ p.1 < 32 then over8 H p.1.toNat p.2 else H
theorem onL_cons (H : List UInt8) (p : Wr) (r : List Wr) : onL H (p :: r) = onL (putH H p) r := rfl
theorem putH_len {H : List UInt8} {p : Wr} (hH : H.length = 256) (hp : p.2.length = 8) : (putH H p).length = 256 := by
  unfold putH
  split
  · exact over8_len H _ p.2 hH (by omega) hp
  · exact hH
theorem putH_same {H : List UInt8} {p q : Wr} (hH : H.length = 256) (hp : p.2.length = 8) (hq : q.2.length = 8) (e : p.1 = q.1) : putH (putH H p) q = putH H q := by
  unfold putH
  rw [e]
  split
  · rename_i h
    have h1 := over8_len H q.1.toNat p.2 hH (by omega) hp
    apply List.ext_getElem?
    intro i
    rw [over8_get _ _ _ h1 (by omega) hq, over8_get _ _ _ hH (by omega) hq, over8_get _ _ _ hH (by omega) hp]
    split <;> rfl
  · rfl
theorem putH_comm {H : List UInt8} {p q : Wr} (hH : H.length = 256) (hp : p.2.length = 8) (hq : q.2.length = 8) (e : p.1 ≠ q.1) : putH (putH H p) q = putH (putH H q) p := by
  unfold putH
  by_cases h1 : 0 ≤ p.1 ∧ p.1 < 32
  · by_cases h2 : 0 ≤ q.1 ∧ q.1 < 32
    · rw [if_pos h1, if_pos h2, if_pos h2, if_pos h1]
      have l1 := over8_len H q.1.toNat q.2 hH (by omega) hq
      have l2 := over8_len H p.1.toNat p.2 hH (by omega) hp
      apply List.ext_getElem?
      intro i
      rw [over8_get _ _ _ l2 (by omega) hq, over8_get _ _ _ hH (by omega) hp, over8_get _ _ _ l1 (by omega) hp, over8_get _ _ _ hH (by omega) hq]
      split
      · rw [if_neg (by omega)]
      · rfl
    · rw [if_pos h1, if_neg h2, if_neg h2, if_pos h1]
  · by_cases h2 : 0 ≤ q.1 ∧ q.1 < 32
    · simp only [if_neg h1, if_pos h2]
    · simp only [if_neg h1, if_neg h2]
theorem onL_len : ∀ (l : List Wr) (H : List UInt8), H.length = 256 → W8 l → (onL H l).length = 256
  | [], _, h, _ => h
  | p :: r, H, h, h8 => onL_len r (putH H p) (putH_len h (h8 p List.mem_cons_self)) (fun q hq => h8 q (List.mem_cons_of_mem _ hq))
theorem onL_put : ∀ (l : List Wr) (H : List UInt8) (w : Wr), H.length = 256 → W8 l → w.2.length = 8 → (∀ q ∈ l, q.1 ≠ w.1) → onL (putH H w) l = putH (onL H l) w
  | [], _, _, _, _, _, _ => rfl
  | p :: r, H, w, h, h8, hw, hne => by
    have hp8 := h8 p List.mem_cons_self
    rw [onL_cons, onL_cons, putH_comm h hw hp8 (fun e => hne p List.mem_cons_self e.symm)]
    exact onL_put r (putH H p) w (putH_len h hp8) (fun q hq => h8 q (List.mem_cons_of_mem _ hq)) hw (fun q hq => hne q (List.mem_cons_of_mem _ hq))
theorem wrB_gt : ∀ (l : List Wr) (last : Int), wrB last l = true → ∀ q ∈ l, last < q.1 ∧ q.1 < 32
  | [], _, _, q, hq => by simp at hq
  | p :: r, last, h, q, hq => by
    simp only [wrB, Bool.and_eq_true, decide_eq_true_eq] at h
    rcases List.mem_cons.1 hq with e | e
    · subst e; exact ⟨h.1, h.2.1⟩
    · have := wrB_gt r p.1 h.2.2 q e
      omega
theorem onL_ins : ∀ (l : List Wr) (last : Int) (H : List UInt8) (w : Wr), wrB last l = true → H.length = 256 → W8 l → w.2.length = 8 → onL H (ins w l) = putH (onL H l) w
  | [], _, H, w, _, _, _, _ => rfl
  | p :: r, last, H, w, hs, h, h8, hw => by
    have hp8 := h8 p List.mem_cons_self
    have h8r : W8 r := fun q hq => h8 q (List.mem_cons_of_mem _ hq)
    simp only [wrB, Bool.and_eq_true, decide_eq_true_eq] at hs
    have hgt := wrB_gt r p.1 hs.2.2
    simp only [ins]
    by_cases h1 : p.1 < w.1
    · rw [if_pos h1, onL_cons, onL_cons]
      exact onL_ins r p.1 (putH H p) w hs.2.2 (putH_len h hp8) h8r hw
    · rw [if_neg h1]
      have hne : ∀ q ∈ r, q.1 ≠ w.1 := fun q hq => by have := hgt q hq; omega
      by_cases h2 : p.1 = w.1
      · rw [if_pos h2, onL_cons, onL_cons, ← onL_put r (putH H p) w (putH_len h hp8) h8r hw hne, putH_same h hp8 hw h2]
      · rw [if_neg h2, onL_cons, onL_cons, onL_cons, ← onL_put r (putH H p) w (putH_len h hp8) h8r hw hne, putH_comm h hw hp8 (fun e => h2 e.symm)]
/-- what Over makes -/
theorem ovL_spec : ∀ (b a : List Wr) (last : Int), writtenB a = true → W8 a → W8 b → wrB last b = true → -1 ≤ last →
    ((ovL a b).2 = 0 ∨ (ovL a b).2 = 50) ∧ ((ovL a b).2 = 0 → writtenB (ovL a b).1 = true ∧ W8 (ovL a b).1 ∧ ∀ H : List UInt8, H.length = 256 → onL H (ovL a b).1 = onL (onL H a) b)
  | [], a, _, hw, h8, _, _, _ => ⟨.inl rfl, fun _ => ⟨hw, h8, fun H _ => rfl⟩⟩
  | p :: r, a, last, hw, h8, h8b, hb, hl => by
    have hp8 := h8b p List.mem_cons_self
    have h8r : W8 r := fun q hq => h8b q (List.mem_cons_of_mem _ hq)
    simp only [wrB, Bool.and_eq_true, decide_eq_true_eq] at hb
    simp only [ovL]
    by_cases he : ptE a p = 0
    · rw [if_pos he, ptL_ins he]
      have h8i : W8 (ins p a) := by rw [← ptL_ins he]; exact ptL_W8 h8 hp8
      obtain ⟨h1, h2⟩ := ovL_spec r (ins p a) p.1 (writtenB_ins he) h8i h8r hb.2.2 (by omega)
      refine ⟨h1, fun h0 => ?_⟩
      obtain ⟨g1, g2, g3⟩ := h2 h0
      refine ⟨g1, g2, fun H hH => ?_⟩
      have hwa : wrB (-1) a = true := by unfold writtenB at hw; simp only [Bool.and_eq_true] at hw; exact hw.1
      rw [g3 H hH, onL_ins a (-1) H p hwa hH h8 hp8, onL_cons]
    · rw [if_neg he]
      refine ⟨.inr ?_, fun h0 => absurd h0 he⟩
      show ptE a p = 50
      unfold ptE at he ⊢
      rw [if_pos ⟨hw, by omega, hb.2.1⟩] at he ⊢
      split at he
      · exact absurd rfl he
      · rename_i hth
        rw [if_neg hth]
        split at he
        · rename_i hl8
          rw [if_pos hl8]
        · exact absurd rfl he
/-- what is got -/
def gtO (key : Int) : List Wr → Option (List UInt8)
  | [] => none
  | p :: r => if p.1 = key then some p.2 else gtO key r
theorem gt_O (key : Int) : ∀ l : List Wr, gtB key l = (gtO key l).isSome ∧ gtV key l = (gtO key l).getD [0, 0, 0, 0, 0, 0, 0, 0]
  | [] => ⟨rfl, rfl⟩
  | p :: r => by
    obtain ⟨h1, h2⟩ := gt_O key r
    unfold gtB at h1 ⊢
    unfold gtV at h2 ⊢
    simp only [fiK, gtO]
    by_cases h : p.1 = key
    · rw [if_pos h, if_pos h]
      exact ⟨rfl, rfl⟩
    · rw [if_neg h, if_neg h, ← h1, ← h2]
      cases fiK key r with
      | none => exact ⟨rfl, rfl⟩
      | some k => exact ⟨rfl, rfl⟩
theorem gtO_ins (w : Wr) (key : Int) : ∀ l : List Wr, gtO key (ins w l) = if key = w.1 then some w.2 else gtO key l
  | [] => by
    simp only [ins, gtO]
    by_cases h : key = w.1
    · rw [if_pos h, if_pos h.symm]
    · rw [if_neg h, if_neg (fun e => h e.symm)]
  | p :: r => by
    have ih := gtO_ins w key r
    simp only [ins]
    by_cases h1 : p.1 < w.1
    · rw [if_pos h1]
      simp only [gtO]
      by_cases h2 : p.1 = key
      · rw [if_pos h2, if_pos h2, if_neg (by omega)]
      · rw [if_neg h2, if_neg h2, ih]
    · rw [if_neg h1]
      by_cases h2 : p.1 = w.1
      · rw [if_pos h2]
        simp only [gtO]
        by_cases h3 : key = w.1
        · rw [if_pos h3, if_pos h3.symm]
        · rw [if_neg h3, if_neg (fun e => h3 e.symm), if_neg (by omega)]
      · rw [if_neg h2]
        simp only [gtO]
        by_cases h3 : key = w.1
        · rw [if_pos h3, if_pos h3.symm]
        · rw [if_neg h3, if_neg (fun e => h3 e.symm)]
theorem gtO_mem : ∀ (l : List Wr) (last : Int), wrB last l = true → ∀ p ∈ l, gtO p.1 l = some p.2
  | [], _, _, p, hp => by simp at hp
  | q :: r, last, h, p, hp => by
    simp only [wrB, Bool.and_eq_true, decide_eq_true_eq] at h
    simp only [gtO]
    rcases List.mem_cons.1 hp with e | e
    · subst e; rw [if_pos rfl]
    · have := wrB_gt r q.1 h.2.2 p e
      rw [if_neg (by omega)]
      exact gtO_mem r q.1 h.2.2 p e
end Go.Proofs.Ytdoicmjomlaoaaa
