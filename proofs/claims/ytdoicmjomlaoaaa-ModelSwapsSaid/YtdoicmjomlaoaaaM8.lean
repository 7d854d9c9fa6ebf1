import Derived.Test.YtdoicmjomlaoaaaM7
namespace Go.Proofs.Ytdoicmjomlaoaaa
open Go.RowKit Go.Shelf
instance : DecidableEq Sn := fun x y => decidable_of_decidable_of_iff (p := x.K = y.K ∧ x.A = y.A ∧ x.B = y.B ∧ x.C = y.C ∧ x.k = y.k ∧ x.v = y.v ∧ x.E = y.E) (by cases x; cases y; simp)
theorem eq24' (w : World) (d : Nat) (x y : List UInt8) (hx : x.length = 8) (hy : y.length = 8) : (Op.equalIn (d + 2) 24 (.agg (bs x).toArray) (.agg (bs y).toArray)).run Try.prog w = .ok (x == y) w :=
  run_equalIn_bytes w d 24 5 8 Try.underlying24 Try.underlying5 (fun w => by
    have h : (Try.prog.info? 5).map (·.size) = some 1 := by kernel_rfl
    obtain ⟨i0, hi0, hs⟩ := Option.map_eq_some_iff.1 h
    simp [sizeOf, typeInfo, hi0, hs]) _ _ hx hy
theorem eq49 (w : World) (x y : Sn) (hx : x.v.length = 8) (hy : y.v.length = 8) : (Op.equalIn 10000 49 (.agg (sc x).toArray) (.agg (sc y).toArray)).run Try.prog w = .ok (decide (x = y)) w := by
  obtain ⟨K, A, B, C, k, b0, b1, b2, b3, b4, b5, b6, b7, E, rfl⟩ := sn8 hx
  obtain ⟨K', A', B', C', k', b0', b1', b2', b3', b4', b5', b6', b7', E', rfl⟩ := sn8 hy
  have h24 := fun (w : World) (d : Nat) => eq24' w d [b0, b1, b2, b3, b4, b5, b6, b7] [b0', b1', b2', b3', b4', b5', b6', b7'] rfl rfl
  simp only [bs, List.map_cons, List.map_nil] at h24
  simp only [sc, bs, List.map_cons, List.map_nil, List.cons_append, List.nil_append]
  have h := h24 w 9997
  simp only [Nat.reduceAdd] at h
  simp [go_sem, h]
  by_cases h1 : K = K' <;> by_cases h2 : A = A' <;> by_cases h3 : B = B' <;> by_cases h4 : C = C' <;> by_cases h5 : k = k' <;> simp [h1, h2, h3, h4, h5]
  have e : ∀ (p q : UInt8), (p == q) = decide (p = q) := fun p q => by
    by_cases h : p = q <;> simp [h]
  simp only [e]
  generalize (decide (b0 = b0') && (decide (b1 = b1') && (decide (b2 = b2') && (decide (b3 = b3') && (decide (b4 = b4') && (decide (b5 = b5') && (decide (b6 = b6') && decide (b7 = b7')))))))) = X
  cases X <;> by_cases h6 : E = E' <;> simp [h6]
/-- model.Do: the blocks behind it -/
def doH (H : List UInt8) (l : List Sn) : List UInt8 := l.foldl stH H
theorem doH_snoc (H : List UInt8) (l : List Sn) (x : Sn) : doH H (l ++ [x]) = stH (doH H l) x := by
  unfold doH
  rw [List.foldl_append]
  rfl
theorem doH_len {H : List UInt8} (hH : H.length = 256) : ∀ (l : List Sn), S8 l → (∀ x ∈ l, okS x = true) → (doH H l).length = 256 := by
  intro l
  induction l generalizing H with
  | nil => intro _ _; exact hH
  | cons x r ih =>
    intro h8 hok
    exact ih (stH_len hH (h8 x (by simp)) (hok x (by simp))) (fun p hp => h8 p (by simp [hp])) (fun p hp => hok p (by simp [hp]))
theorem fS_doH (H : List UInt8) : ∀ l : List Sn, (fS H l).1 = doH H l := by
  intro l
  unfold fS doH
  have : ∀ (l : List Sn) (s : List UInt8 × List Sn), (l.foldl stF s).1 = l.foldl stH s.1 := by
    intro l
    induction l with
    | nil => intro s; rfl
    | cons x r ih => intro s; rw [List.foldl_cons, ih]; rfl
  exact this l _
/-- is it told right, of these numbers? -/
def tlB (l r : List Sn) (pre : List (Fin l.length)) : Bool := pre.all fun x => decide (r[x.1]? = some l[x.1])
theorem tlB_snoc (l r : List Sn) (pre : List (Fin l.length)) (x : Fin l.length) : tlB l r (pre ++ [x]) = (tlB l r pre && decide (r[x.1]? = some l[x.1])) := by simp [tlB]
theorem tlB_all (l r : List Sn) (h : r.length = l.length) : tlB l r (en l) = decide (l = r) := by
  unfold tlB
  rw [Bool.eq_iff_iff, List.all_eq_true, decide_eq_true_iff]
  constructor
  · intro hx
    apply List.ext_getElem h.symm
    intro i h1 h2
    have := hx ⟨i, h1⟩ (by simp [en])
    rw [decide_eq_true_iff, List.getElem?_eq_getElem h2] at this
    injection this with this
    exact this.symm
  · intro e x _
    subst e
    simp
theorem sl_own {β : Type} (a : Option Addr) (n c sz : Nat) (xs : List Value) : Own (fun (_ : β) W => Sl W a n c sz xs) := by
  intro s A B row h hg hr
  refine ⟨h.len, h.le, h.max, h.nil, fun i hi => ?_⟩
  obtain ⟨b, off, e, hc⟩ := h.cells i hi
  refine ⟨b, off, e, ?_⟩
  rw [List.getElem?_eq_getElem hi] at hc ⊢
  obtain ⟨o, ho, hcs⟩ := cells_of_cell hc
  exact (World.cell?_of_block (hg.block b (Array.getElem?_eq_some_iff.1 ho).1 (fun er => by
    obtain ⟨o', ho', hn⟩ := hr b er.symm
    rw [ho] at ho'
    cases ho'
    rw [hcs] at hn
    cases hn))).trans hc
theorem sl_gb {A B : World} {row : Option Nat} {a : Option Addr} {n c sz : Nat} {xs : List Value} (h : Sl A a n c sz xs) (hg : A.grownBy B row) (hne : ∀ b off, a = some ⟨b, off, none⟩ → some b ≠ row) : Sl B a n c sz xs := by
  refine ⟨h.len, h.le, h.max, h.nil, fun i hi => ?_⟩
  obtain ⟨b, off, e, hc⟩ := h.cells i hi
  refine ⟨b, off, e, ?_⟩
  rw [List.getElem?_eq_getElem hi] at hc ⊢
  obtain ⟨o, ho, hcs⟩ := cells_of_cell hc
  exact (World.cell?_of_block (hg.block b (Array.getElem?_eq_some_iff.1 ho).1 (hne b off e))).trans hc
end Go.Proofs.Ytdoicmjomlaoaaa
