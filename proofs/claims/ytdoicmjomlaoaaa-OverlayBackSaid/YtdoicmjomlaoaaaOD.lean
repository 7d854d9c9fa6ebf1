import Derived.Test.YtdoicmjomlaoaaaO9
namespace Go.Proofs.Ytdoicmjomlaoaaa
open Go.RowKit
/-- a write put in -/
def ins (w : Wr) : List Wr → List Wr
  | [] => [w]
  | p :: r => if p.1 < w.1 then p :: ins w r else if p.1 = w.1 then w :: r else w :: p :: r
theorem thB_nil (key : Int) : thB key [] = false := rfl
theorem thB_cons (key : Int) (p : Wr) (r : List Wr) : thB key (p :: r) = if p.1 < key then thB key r else decide (p.1 = key) := by
  by_cases h : p.1 < key
  · simp [thB, plK, h]
  · simp [thB, plK, h]
theorem ins_eq (w : Wr) : ∀ l : List Wr, (if thB w.1 l = true then l.set (plK w.1 l) w else l.take (plK w.1 l) ++ [w] ++ l.drop (plK w.1 l)) = ins w l
  | [] => by simp [thB_nil, plK, ins]
  | p :: r => by
    have ih := ins_eq w r
    rw [thB_cons]
    simp only [plK, ins]
    by_cases h : p.1 < w.1
    · rw [if_pos h, if_pos h, if_pos h, ← ih]
      split <;> simp
    · rw [if_neg h, if_neg h, if_neg h]
      by_cases h2 : p.1 = w.1
      · simp [h2]
      · simp [h2]
theorem ptL_ins {l : List Wr} {w : Wr} (h : ptE l w = 0) : ptL l w = ins w l := by
  unfold ptL
  rw [if_pos h, ins_eq]
theorem ins_len (w : Wr) : ∀ l : List Wr, (ins w l).length = if thB w.1 l = true then l.length else l.length + 1
  | [] => rfl
  | p :: r => by
    have ih := ins_len w r
    rw [thB_cons]
    simp only [ins]
    by_cases h : p.1 < w.1
    · rw [if_pos h, if_pos h, List.length_cons, ih]
      split <;> simp
    · rw [if_neg h, if_neg h]
      by_cases h2 : p.1 = w.1
      · simp [h2]
      · simp [h2]
theorem ins_wrB (w : Wr) : ∀ (l : List Wr) (last : Int), wrB last l = true → last < w.1 → w.1 < 32 → wrB last (ins w l) = true
  | [], last, _, h1, h2 => by simp [ins, wrB, h1, h2]
  | p :: r, last, h, h1, h2 => by
    simp only [wrB, Bool.and_eq_true, decide_eq_true_eq] at h
    simp only [ins]
    by_cases h3 : p.1 < w.1
    · rw [if_pos h3]
      simp [wrB, h.1, h.2.1, ins_wrB w r p.1 h.2.2 h3 h2]
    · rw [if_neg h3]
      by_cases h4 : p.1 = w.1
      · rw [if_pos h4]
        simp [wrB, h1, h2, ← h4, h.2.2]
        omega
      · rw [if_neg h4]
        simp [wrB, h1, h2, h.2.1, h.2.2]
        omega
theorem ins_same {a b : Wr} (e : a.1 = b.1) : ∀ l : List Wr, ins b (ins a l) = ins b l
  | [] => by simp [ins, e]
  | p :: r => by
    have ih := ins_same e r
    simp only [ins]
    by_cases h : p.1 < a.1
    · have h' : p.1 < b.1 := by omega
      simp [ins, h, h', ih]
    · have h' : ¬ p.1 < b.1 := by omega
      by_cases h2 : p.1 = a.1
      · have h2' : p.1 = b.1 := by omega
        simp [ins, h2, e]
      · have h2' : ¬ p.1 = b.1 := by omega
        simp [ins, h, h', h2, h2', e]
theorem ins_comm {a b : Wr} (e : a.1 ≠ b.1) : ∀ l : List Wr, ins b (ins a l) = ins a (ins b l)
  | [] => by
    rcases Int.lt_trichotomy a.1 b.1 with h | h | h
    · have h1 : ¬ b.1 < a.1 := by omega
      have h2 : ¬ b.1 = a.1 := by omega
      simp [ins, h, h1, h2]
    · exact absurd h e
    · have h1 : ¬ a.1 < b.1 := by omega
      simp [ins, h, h1, e]
  | p :: r => by
    have ih := ins_comm e r
    rcases Int.lt_trichotomy a.1 b.1 with h | h | h
    · have h1 : ¬ b.1 < a.1 := by omega
      have h2 : ¬ b.1 = a.1 := by omega
      rcases Int.lt_trichotomy p.1 a.1 with ha | ha | ha
      · have hb : p.1 < b.1 := by omega
        simp [ins, ha, hb, ih]
      · have hb : p.1 < b.1 := by omega
        simp [ins, ha, h]
      · have ha1 : ¬ p.1 < a.1 := by omega
        have ha2 : ¬ p.1 = a.1 := by omega
        rcases Int.lt_trichotomy p.1 b.1 with hb | hb | hb
        · simp [ins, ha1, ha2, hb, h]
        · have hb1 : ¬ p.1 < b.1 := by omega
          simp [ins, ha1, ha2, hb, h, h1, h2]
        · have hb1 : ¬ p.1 < b.1 := by omega
          have hb2 : ¬ p.1 = b.1 := by omega
          simp [ins, ha1, ha2, hb1, hb2, h, h1, h2]
    · exact absurd h e
    · have h1 : ¬ a.1 < b.1 := by omega
      have h2 : ¬ b.1 = a.1 := by omega
      rcases Int.lt_trichotomy p.1 b.1 with hb | hb | hb
      · have ha : p.1 < a.1 := by omega
        simp [ins, ha, hb, ih]
      · have ha : p.1 < a.1 := by omega
        simp [ins, hb, h]
      · have hb1 : ¬ p.1 < b.1 := by omega
        have hb2 : ¬ p.1 = b.1 := by omega
        rcases Int.lt_trichotomy p.1 a.1 with ha | ha | ha
        · simp [ins, hb1, hb2, ha, h]
        · have ha1 : ¬ p.1 < a.1 := by omega
          simp [ins, hb1, hb2, ha, h, h1, e]
        · have ha1 : ¬ p.1 < a.1 := by omega
          have ha2 : ¬ p.1 = a.1 := by omega
          simp [ins, ha1, ha2, hb1, hb2, h, h1, e]
theorem thB_ins {a : Wr} {key : Int} (e : a.1 ≠ key) : ∀ l : List Wr, thB key (ins a l) = thB key l
  | [] => by simp [ins, thB_cons, thB_nil, e]
  | p :: r => by
    have ih := thB_ins e r
    simp only [ins]
    by_cases h : p.1 < a.1
    · rw [if_pos h, thB_cons, thB_cons, ih]
    · rw [if_neg h]
      by_cases h2 : p.1 = a.1
      · rw [if_pos h2, thB_cons, thB_cons, h2]
      · rw [if_neg h2, thB_cons]
        split
        · rfl
        · rw [thB_cons]
          have h3 : ¬ p.1 < key := by omega
          have h4 : ¬ p.1 = key := by omega
          simp [h3, h4, e]
theorem fiK_big (key : Int) : ∀ (l : List Wr) (last : Int), wrB last l = true → key ≤ last → fiK key l = none
  | [], _, _, _ => rfl
  | p :: r, last, h, hk => by
    simp only [wrB, Bool.and_eq_true, decide_eq_true_eq] at h
    have h1 : ¬ p.1 = key := by omega
    simp [fiK, h1, fiK_big key r p.1 h.2.2 (by omega)]
theorem gtB_thB (key : Int) : ∀ (l : List Wr) (last : Int), wrB last l = true → gtB key l = thB key l
  | [], _, _ => rfl
  | p :: r, last, h => by
    simp only [wrB, Bool.and_eq_true, decide_eq_true_eq] at h
    have ih := gtB_thB key r p.1 h.2.2
    unfold gtB at ih ⊢
    rw [thB_cons]
    simp only [fiK]
    by_cases h1 : p.1 = key
    · have h2 : ¬ p.1 < key := by omega
      simp [h1]
    · rw [if_neg h1]
      by_cases h2 : p.1 < key
      · rw [if_pos h2, ← ih]
        cases fiK key r <;> rfl
      · rw [if_neg h2, fiK_big key r p.1 h.2.2 (by omega)]
        simp [h1]
theorem gtV_len {key : Int} {l : List Wr} (h8 : W8 l) : (gtV key l).length = 8 := by
  unfold gtV
  cases hf : fiK key l with
  | none => rfl
  | some k =>
    obtain ⟨p, hp, _⟩ := fiK_at key l k hf
    simp only [List.getD_eq_getElem?_getD, hp, Option.getD_some]
    exact h8 p (List.mem_of_getElem? hp)
/-- what a put that is fine says -/
theorem ptE_zero {l : List Wr} {a : Wr} (h : ptE l a = 0) : (writtenB l = true ∧ 0 ≤ a.1 ∧ a.1 < 32) ∧ (thB a.1 l = true ∨ l.length ≠ 8) := by
  unfold ptE at h
  split at h
  · rename_i hc
    refine ⟨hc, ?_⟩
    split at h
    · rename_i ht; exact .inl ht
    · split at h
      · cases h
      · rename_i hl; exact .inr hl
  · cases h
theorem writtenB_ins {l : List Wr} {a : Wr} (h : ptE l a = 0) : writtenB (ins a l) = true := by
  obtain ⟨⟨hw, h0, h32⟩, ht⟩ := ptE_zero h
  have h9 := hw
  unfold writtenB at hw ⊢
  simp only [Bool.and_eq_true, decide_eq_true_eq] at hw ⊢
  refine ⟨ins_wrB a l (-1) hw.1 (by omega) h32, ?_⟩
  rw [ins_len]
  split
  · exact hw.2
  · rename_i hf
    rcases ht with ht | ht
    · exact absurd ht hf
    · omega
theorem order_same {l : List Wr} {a b : Wr} (ha : ptE l a = 0) (hb : ptE l b = 0) (e : a.1 = b.1) : ptE (ins a l) b = 0 ∧ ins b (ins a l) = ins b l := by
  obtain ⟨⟨hw, h0, h32⟩, ht⟩ := ptE_zero hb
  refine ⟨?_, ins_same e l⟩
  have hwi := writtenB_ins ha
  have hth : thB b.1 (ins a l) = true := by
    have h1 := ins_len b (ins a l)
    have h2 := ins_len b l
    rw [ins_same e l] at h1
    have h3 := ins_len a l
    rw [e] at h3
    revert h1 h2 h3
    cases thB b.1 (ins a l)
    · cases thB b.1 l <;> simp <;> omega
    · simp
  unfold ptE
  rw [if_pos ⟨hwi, h0, h32⟩, if_pos hth]
theorem order_other {l : List Wr} {a b : Wr} (ha : ptE l a = 0) (hb : ptE l b = 0) (e : a.1 ≠ b.1) : ptE (ins a l) b = ptE (ins b l) a ∧ ins b (ins a l) = ins a (ins b l) := by
  obtain ⟨⟨hw, h0, h32⟩, ht⟩ := ptE_zero hb
  obtain ⟨⟨_, g0, g32⟩, gt⟩ := ptE_zero ha
  refine ⟨?_, ins_comm e l⟩
  have hwa := writtenB_ins ha
  have hwb := writtenB_ins hb
  have w8 := writtenB_len hw
  have e1 : ptE (ins a l) b = if thB b.1 (ins a l) = true then 0 else if (ins a l).length = 8 then 50 else 0 := by
    unfold ptE
    rw [if_pos ⟨hwa, h0, h32⟩]
  have e2 : ptE (ins b l) a = if thB a.1 (ins b l) = true then 0 else if (ins b l).length = 8 then 50 else 0 := by
    unfold ptE
    rw [if_pos ⟨hwb, g0, g32⟩]
  rw [e1, e2, thB_ins e, thB_ins (fun x => e x.symm), ins_len, ins_len]
  cases h1 : thB a.1 l <;> cases h2 : thB b.1 l <;> simp_all
end Go.Proofs.Ytdoicmjomlaoaaa
