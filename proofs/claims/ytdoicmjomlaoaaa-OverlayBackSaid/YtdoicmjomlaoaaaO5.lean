import Derived.Test.YtdoicmjomlaoaaaO4
namespace Go.Proofs.Ytdoicmjomlaoaaa
open Go.RowKit
theorem heap_setCells {t : TypeId} {g : Nat} : ∀ (vs : List Value) (o : Nat) (w : World) (cs : List Value), w.heap[g]? = some (.cells cs.toArray t (0, 0)) → o + vs.length ≤ cs.length → (w.setCells g o vs).heap[g]? = some (.cells (cs.take o ++ vs ++ cs.drop (o + vs.length)).toArray t (0, 0))
  | [], o, w, cs, h, _ => by
    simpa [World.setCells] using h
  | v :: r, o, w, cs, h, hb => by
    simp only [List.length_cons] at hb
    have h1 := hs_same (i := o) (v := v) h
    rw [List.setIfInBounds_toArray] at h1
    have ih := heap_setCells r (o + 1) (w.setCell ⟨g, o, none⟩ v) (cs.set o v) h1 (by rw [List.length_set]; omega)
    simp only [World.setCells]
    rw [ih]
    congr 3
    have e1 : (cs.set o v).take (o + 1) = cs.take o ++ [v] := by
      rw [List.set_eq_take_append_cons_drop, if_pos (by omega), List.take_append, List.length_take, Nat.min_eq_left (by omega), Nat.add_sub_cancel_left, List.take_take, Nat.min_eq_right (by omega)]
      simp
    have e2 : (cs.set o v).drop (o + 1 + r.length) = cs.drop (o + (v :: r).length) := by
      rw [List.drop_set, if_pos (by omega), List.length_cons]
      congr 1
      omega
    rw [e1, e2]
    simp
theorem below_setC {B g : Nat} {a : World} (hg : B ≤ g) : ∀ (vs : List Value) (o : Nat) (w : World), Below B a w → Below B a (w.setCells g o vs)
  | [], _, _, h => h
  | v :: r, o, w, h => below_setC hg r (o + 1) _ (h.setCell (p := ⟨g, o, none⟩) hg v)
theorem wcs_set {l : List Wr} (h8 : W8 l) (p : Wr) (k : Nat) (hk : k < l.length) : (wcs l).take (k * 9) ++ wc p ++ (wcs l).drop (k * 9 + 9) = wcs (l.set k p) := by
  rw [wcs_take l k h8, show k * 9 + 9 = (k + 1) * 9 by omega, wcs_drop l (k + 1) h8, ← wcs_one p, ← wcs_append, ← wcs_append, List.set_eq_take_append_cons_drop, if_pos hk]
  simp
theorem W8_set {l : List Wr} (h8 : W8 l) {p : Wr} (hp : p.2.length = 8) (k : Nat) : W8 (l.set k p) := by
  intro q hq
  rcases List.mem_or_eq_of_mem_set hq with h | h
  · exact h8 q h
  · subst h; exact hp
theorem W8_app {l m : List Wr} (h : W8 l) (h' : W8 m) : W8 (l ++ m) := by
  intro q hq
  rcases List.mem_append.1 hq with h1 | h1
  · exact h q h1
  · exact h' q h1
theorem W8_take {l : List Wr} (h : W8 l) (k : Nat) : W8 (l.take k) := fun q hq => h q (List.mem_of_mem_take hq)
theorem W8_drop {l : List Wr} (h : W8 l) (k : Nat) : W8 (l.drop k) := fun q hq => h q (List.mem_of_mem_drop hq)
theorem W8_one {p : Wr} (h : p.2.length = 8) : W8 [p] := by
  intro q hq
  simp at hq
  subst hq
  exact h
theorem own_set {w : World} {base : Nat} {e : TypeId} {v : Value} {n : Nat} {l : List Wr} (h : w.ownsRow base e 9 v n (wcs l)) (h8 : W8 l) (p : Wr) (hp : p.2.length = 8) (k : Nat) (hk : k < n) :
    ∃ g cap, v = .slice (some ⟨g, 0, none⟩) n cap ∧ base ≤ g ∧ w.there g (k * 9) 9 ∧ (w.setCells g (k * 9) (wc p)).ownsRow base e 9 v n (wcs (l.set k p)) := by
  obtain ⟨hl, hv⟩ := h
  rcases hv with ⟨_, h0⟩ | ⟨g, cap, cur, rfl, hg, hh, h1, h2, h3, h4⟩
  · omega
  · have hln : l.length = n := by rw [wcs_len h8] at hl; omega
    have hcl : cur.toList.length = cap * 9 := by simpa using h3
    have hkc : k * 9 + 9 ≤ cap * 9 := by omega
    have hh' : w.heap[g]? = some (.cells cur.toList.toArray e (0, 0)) := by simpa using hh
    have hw9 := wc_len hp
    have hs := heap_setCells (wc p) (k * 9) w cur.toList hh' (by rw [hw9, hcl]; exact hkc)
    refine ⟨g, cap, rfl, hg, ?_, ?_, .inr ⟨g, cap, _, rfl, hg, hs, h1, h2, ?_, ?_⟩⟩
    · intro j hj
      have e1 := (blk hh).1 (k * 9 + j)
      have e2 := (blk hh).2 (k * 9 + j)
      refine ⟨?_, e2⟩
      rw [e1, Array.getElem?_eq_getElem (by omega)]
      rfl
    · rw [wcs_len (W8_set h8 hp k), List.length_set, hln]
    · rw [List.size_toArray, List.length_append, List.length_append, List.length_take, List.length_drop, hcl, hw9]
      omega
    · rw [List.toList_toArray, ← wcs_set h8 p k (by omega), ← h4, hw9, List.take_take, Nat.min_eq_left (by omega), List.drop_take]
      rw [List.take_append, List.length_append, List.length_take, hcl, hw9, Nat.min_eq_left (by omega)]
      rw [List.take_of_length_le (by rw [List.length_append, List.length_take, hcl, hw9]; omega)]
end Go.Proofs.Ytdoicmjomlaoaaa
