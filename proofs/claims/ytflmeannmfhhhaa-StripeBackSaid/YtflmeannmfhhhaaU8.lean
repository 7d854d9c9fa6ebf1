import Derived.Test.YtflmeannmfhhhaaU7
namespace Go.Proofs.Ytflmeannmfhhhaa
open Go.RowKit
theorem mapv_set {f g : Nat → Value} {n m : Nat} {v : Value} (hm : m < n) (hv : v = g m) (h : ∀ j, j < n → j ≠ m → f j = g j) : (((List.range n).map f).toArray).setIfInBounds m v = ((List.range n).map g).toArray := by
  rw [List.setIfInBounds_toArray]
  congr 1
  apply List.ext_getElem?
  intro i
  rcases Nat.lt_or_ge i n with hi | hi
  · by_cases e : i = m
    · subst e
      rw [List.getElem?_set_self (by simpa using hi), List.getElem?_map, List.getElem?_range hi, hv]
      rfl
    · rw [List.getElem?_set_ne (fun x => e x.symm), List.getElem?_map, List.getElem?_map, List.getElem?_range hi, Option.map_some, Option.map_some, h i hi e]
  · rw [List.getElem?_eq_none (by simpa using hi), List.getElem?_eq_none (by simpa using hi)]
theorem mapv_at {f : Nat → Value} {n m : Nat} (hm : m < n) : (((List.range n).map f).toArray)[m]? = some (f m) := by
  rw [List.getElem?_toArray, List.getElem?_map, List.getElem?_range hm]
  rfl
/-- what StripeBack has seen of the first k blocks; how many -/
def seenA (z : List Int) (k : Nat) : Array Value := ((List.range 160).map fun i => Value.bool (decide (((i % 32 : Nat) : Int) < (mF z k (i / 32) : Int)))).toArray
def manyA (z : List Int) (k : Nat) : Array Value := ((List.range 5).map fun s => Value.int .i64 (mF z k s : Int)).toArray
theorem seen_at (z : List Int) (k s m : Nat) (hs : s < 5) (hm : m < 32) : (seenA z k)[s * 32 + m]? = some (.bool (decide ((m : Int) < (mF z k s : Int)))) := by
  unfold seenA
  rw [mapv_at (by omega)]
  have e1 : (s * 32 + m) % 32 = m := by omega
  have e2 : (s * 32 + m) / 32 = s := by omega
  rw [e1, e2]
theorem many_at (z : List Int) (k s : Nat) (hs : s < 5) : (manyA z k)[s]? = some (.int .i64 (mF z k s : Int)) := by
  unfold manyA
  rw [mapv_at hs]
theorem seen0 (z : List Int) : (List.replicate 160 (Value.bool false)).toArray = seenA z 0 := by
  unfold seenA
  congr 1
  apply List.ext_getElem?
  intro i
  rcases Nat.lt_or_ge i 160 with hi | hi
  · rw [List.getElem?_replicate_of_lt hi, List.getElem?_map, List.getElem?_range hi, Option.map_some, mF_zero]
    congr 2
  · rw [List.getElem?_eq_none (by simpa using hi), List.getElem?_eq_none (by simpa using hi)]
theorem many0 (z : List Int) : (List.replicate 5 (Value.int .i64 0)).toArray = manyA z 0 := by
  unfold manyA
  congr 1
  apply List.ext_getElem?
  intro i
  rcases Nat.lt_or_ge i 5 with hi | hi
  · rw [List.getElem?_replicate_of_lt hi, List.getElem?_map, List.getElem?_range hi, Option.map_some, mF_zero]
    rfl
  · rw [List.getElem?_eq_none (by simpa using hi), List.getElem?_eq_none (by simpa using hi)]
theorem seen_step {z : List Int} {k x : Nat} (hx5 : x < 5) (h0 : x ≠ 0) (hx : z[k / 4]? = some (x : Int)) (hm : mF z k x < 32) : (seenA z k).setIfInBounds (x * 32 + mF z k x) (.bool true) = seenA z (k + 1) := by
  refine mapv_set (by omega) ?_ ?_
  · have e1 : (x * 32 + mF z k x) % 32 = mF z k x := by omega
    have e2 : (x * 32 + mF z k x) / 32 = x := by omega
    rw [e1, e2, mF_step x hx, if_pos ⟨rfl, h0⟩]
    congr 1
    symm
    simp
    omega
  · intro j hj hne
    rw [mF_step x hx]
    split
    · rename_i h
      congr 1
      rw [Bool.eq_iff_iff]
      simp
      have e := h.1
      rw [e]
      omega
    · rfl
theorem many_step {z : List Int} {k x : Nat} (hx5 : x < 5) (h0 : x ≠ 0) (hx : z[k / 4]? = some (x : Int)) : (manyA z k).setIfInBounds x (.int .i64 ((mF z k x : Int) + 1)) = manyA z (k + 1) := by
  refine mapv_set hx5 ?_ ?_
  · rw [mF_step x hx, if_pos ⟨rfl, h0⟩]
    push_cast
    rfl
  · intro j hj hne
    rw [mF_step x hx, if_neg (fun h => hne h.1)]
theorem seen_none {z : List Int} {k : Nat} (hx : z[k / 4]? = some 0) : seenA z (k + 1) = seenA z k ∧ manyA z (k + 1) = manyA z k := by
  have h : ∀ s, mF z (k + 1) s = mF z k s := fun s => by
    rw [mF_step 0 hx, if_neg (by omega)]
  unfold seenA manyA
  exact ⟨by simp only [h], by simp only [h]⟩
def row160 : Array Value := (List.replicate 160 (Value.bool false)).toArray
def row5 : Array Value := (List.replicate 5 (Value.int .i64 0)).toArray
theorem zero48 (w : World) : (zeroValue 48).run Try.prog w = .ok (.agg row160) w := by kernel_rfl
theorem zero49 (w : World) : (zeroValue 49).run Try.prog w = .ok (.agg row5) w := by kernel_rfl
/-- the boxes of StripeBack: two maps, what is seen, how many -/
abbrev st (W w : World) (g : Nat) (V U : Int) (z y : List Int) (k : Nat) : Prop :=
  two W w V U z y ∧ w.heap[g]? = some (.cells (seenA z k) 48 (0, 0)) ∧ w.heap[g + 1]? = some (.cells (manyA z k) 49 (0, 0)) ∧ Below W.heap.size W w
theorem st_below {W w w1 : World} {g : Nat} {V U : Int} {z y : List Int} {k : Nat} (h : st W w g V U z y k) (hb : Below w.heap.size w w1) : st W w1 g V U z y k :=
  ⟨two_below h.1 hb, blk_below hb h.2.1 (Array.getElem?_eq_some_iff.1 h.2.1).1, blk_below hb h.2.2.1 (Array.getElem?_eq_some_iff.1 h.2.2.1).1, h.2.2.2.trans (hb.mono h.2.2.2.size)⟩
theorem st_start {W w2 : World} {V U : Int} {z y : List Int} (h : two W w2 V U z y) (hb : Below W.heap.size W w2) : st W ((w2.alloc (.cells row160 48)).alloc (.cells row5 49)) w2.heap.size V U z y 0 := by
  have hs : (w2.alloc (.cells row160 48)).heap.size = w2.heap.size + 1 := by simp
  have l1 := (Array.getElem?_eq_some_iff.1 h.1).1
  have l2 := (Array.getElem?_eq_some_iff.1 h.2).1
  refine ⟨⟨?_, ?_⟩, ?_, ?_, ?_⟩
  · rw [heap_alloc_old _ _ (by omega), heap_alloc_old _ _ l1]
    exact h.1
  · rw [heap_alloc_old _ _ (by omega), heap_alloc_old _ _ l2]
    exact h.2
  · rw [heap_alloc_old _ _ (by omega), ← seen0]
    exact heap_alloc_new _ _
  · rw [← hs, ← many0]
    exact heap_alloc_new _ _
  · exact (hb.alloc hb.size _).alloc (by rw [hs]; have := hb.size; omega) _
theorem st_none {W w : World} {g : Nat} {V U : Int} {z y : List Int} {k : Nat} (hx : z[k / 4]? = some 0) (h : st W w g V U z y k) : st W w g V U z y (k + 1) := by
  have e := seen_none hx
  unfold st
  rw [e.1, e.2]
  exact h
theorem st_step {W w : World} {g : Nat} {V U : Int} {z y : List Int} {k x : Nat} (hx5 : x < 5) (h0 : x ≠ 0) (hx : z[k / 4]? = some (x : Int)) (hm : mF z k x < 32) (hg : W.heap.size + 2 ≤ g) (h : st W w g V U z y k) :
    st W ((w.setCell ⟨g, x * 32 + mF z k x, none⟩ (.bool true)).setCell ⟨g + 1, x, none⟩ (.int .i64 ((mF z k x : Int) + 1))) g V U z y (k + 1) := by
  refine ⟨⟨hs_other (hs_other h.1.1 (by simp; omega)) (by simp; omega), hs_other (hs_other h.1.2 (by simp; omega)) (by simp; omega)⟩, hs_other ((hs_same h.2.1).trans (by rw [seen_step hx5 h0 hx hm])) (by simp), (hs_same (hs_other h.2.2.1 (by simp))).trans (by rw [many_step hx5 h0 hx]), (h.2.2.2.setCell (by simp; omega) _).setCell (by simp; omega) _⟩
/-- does any of the first k entries become nobody's? -/
def anyB (z y : List Int) (k : Nat) : Bool := (List.range k).any (badI z y)
theorem anyB_step (z y : List Int) (k : Nat) : anyB z y (k + 1) = (anyB z y k || badI z y k) := by
  unfold anyB
  rw [List.range_succ, List.any_append]
  simp
theorem anyB_yes {z y : List Int} (h : ∃ i, i < 8 ∧ badI z y i = true) : anyB z y 8 = true := by
  obtain ⟨i, hi, hb⟩ := h
  unfold anyB
  rw [List.any_eq_true]
  exact ⟨i, List.mem_range.2 hi, hb⟩
theorem anyB_no {z y : List Int} (h : ∀ i, i < 8 → badI z y i = false) : anyB z y 8 = false := by
  unfold anyB
  rw [List.any_eq_false]
  intro i hi
  rw [List.mem_range] at hi
  rw [h i hi]
  decide
theorem st_step2 {W w : World} {g : Nat} {V U : Int} {z y : List Int} {k x m : Nat} (hx5 : x < 5) (h0 : x ≠ 0) (hx : z[k / 4]? = some (x : Int)) (he : mF z k x = m) (hm : m < 32) (hg : W.heap.size + 2 ≤ g) (h : st W w g V U z y k) :
    st W ((w.setCell ⟨g, x * 32 + m, none⟩ (.bool true)).setCell ⟨g + 1, x, none⟩ (.int .i64 ((m : Int) + 1))) g V U z y (k + 1) := by
  subst he
  exact st_step hx5 h0 hx hm hg h
theorem st_cells {W w : World} {g : Nat} {V U : Int} {z y : List Int} {k x m : Nat} (hx5 : x < 5) (he : mF z k x = m) (hm : m < 32) (h : st W w g V U z y k) :
    w.cell? ⟨g, x * 32 + m, none⟩ = some (.bool false) ∧ w.frozen? ⟨g, x * 32 + m, none⟩ = false ∧ w.cell? ⟨g + 1, x, none⟩ = some (.int .i64 m) ∧ w.frozen? ⟨g + 1, x, none⟩ = false := by
  have h1 := ((blk h.2.1).1 (x * 32 + m)).trans (seen_at z k x m hx5 hm)
  have h2 := ((blk h.2.2.1).1 x).trans (many_at z k x hx5)
  rw [he] at h1 h2
  refine ⟨h1.trans (by simp), (blk h.2.1).2 _, h2, (blk h.2.2.1).2 _⟩
end Go.Proofs.Ytflmeannmfhhhaa
