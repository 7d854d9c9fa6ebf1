import Derived.Test.YtflmeannmfhhhaaU5
namespace Go.Proofs.Ytflmeannmfhhhaa
open Go.RowKit
/-- a map's entries after changes -/
def setL (z y : List Int) (l : List Nat) : List Int := l.foldl (fun z i => z.set i (y.getD i 0)) z
theorem setL_len (y : List Int) : ∀ (l : List Nat) (z : List Int), (setL z y l).length = z.length
  | [], _ => rfl
  | i :: l, z => by
    unfold setL
    rw [List.foldl_cons]
    have h := setL_len y l (z.set i (y.getD i 0))
    unfold setL at h
    rw [h, List.length_set]
theorem setL_snoc (z y : List Int) (l : List Nat) (i : Nat) : setL z y (l ++ [i]) = (setL z y l).set i (y.getD i 0) := by
  unfold setL
  rw [List.foldl_append]
  rfl
theorem setL_df {z y : List Int} (hz : z.length = 8) (hy : y.length = 8) : ∀ k, k ≤ 8 → setL z y (df z y k) = y.take k ++ z.drop k := by
  intro k
  induction k with
  | zero => intro _; rfl
  | succ k ih =>
    intro hk
    have h := ih (by omega)
    have hyk : y[k]? = some (y.getD k 0) := by rw [List.getD_eq_getElem?_getD, List.getElem?_eq_getElem (by omega)]; rfl
    have hzk : z.drop k = z.getD k 0 :: z.drop (k + 1) := by
      rw [List.drop_eq_getElem_cons (by omega), List.getD_eq_getElem?_getD, List.getElem?_eq_getElem (by omega)]
      rfl
    have e : y.take (k + 1) = y.take k ++ [y.getD k 0] := by rw [List.take_add_one, hyk]; rfl
    by_cases he : z.getD k 0 = y.getD k 0
    · rw [df_eq he, h, hzk, he, e, List.append_assoc]
      rfl
    · rw [df_ne he, setL_snoc, h, List.set_append_right _ _ (by rw [List.length_take]; omega)]
      have h1 : k - (y.take k).length = 0 := by rw [List.length_take]; omega
      rw [h1, hzk, e, List.append_assoc]
      rfl
theorem setL_all {z y : List Int} (hz : z.length = 8) (hy : y.length = 8) : setL z y (df z y 8) = y := by
  rw [setL_df hz hy 8 (Nat.le_refl _), List.take_of_length_le (by omega), List.drop_eq_nil_of_le (by omega), List.append_nil]
theorem setL_ent {y : List Int} (hy : y.all entB = true) : ∀ (l : List Nat) (z : List Int), z.all entB = true → (∀ i ∈ l, i < y.length) → (setL z y l).all entB = true
  | [], _, h, _ => h
  | i :: l, z, h, hl => by
    have hi : i < y.length := hl i (by simp)
    have ht : entB (y.getD i 0) = true := by
      rw [List.getD_eq_getElem?_getD, List.getElem?_eq_getElem hi]
      exact List.all_eq_true.1 hy _ (List.getElem_mem hi)
    have := setL_ent hy l (z.set i (y.getD i 0)) (allE_set h ht i) (fun j hj => hl j (by simp [hj]))
    unfold setL at this ⊢
    rw [List.foldl_cons]
    exact this
theorem df_mem {z y : List Int} {k i : Nat} (h : i ∈ df z y k) : i < k ∧ z.getD i 0 ≠ y.getD i 0 := by
  unfold df at h
  rw [List.mem_filter, List.mem_range] at h
  exact ⟨h.1, by simpa using h.2⟩
theorem dfC_at (y : List Int) : ∀ (l : List Nat) (k i : Nat), l[k]? = some i → (dfC y l)[k * 2]? = some (.int .i64 (i : Int)) ∧ (dfC y l)[k * 2 + 1]? = some (.int .i64 (y.getD i 0))
  | [], k, i, h => by simp at h
  | j :: l, 0, i, h => by
    injection h with h
    subst h
    exact ⟨rfl, rfl⟩
  | j :: l, k + 1, i, h => by
    have := dfC_at y l k i h
    have e : dfC y (j :: l) = [Value.int .i64 (j : Int), Value.int .i64 (y.getD j 0)] ++ dfC y l := rfl
    rw [e, show (k + 1) * 2 = k * 2 + 2 by omega]
    exact this
theorem dfC_len (y : List Int) : ∀ l : List Nat, (dfC y l).length = l.length * 2
  | [] => rfl
  | j :: l => by
    have := dfC_len y l
    have e : dfC y (j :: l) = [Value.int .i64 (j : Int), Value.int .i64 (y.getD j 0)] ++ dfC y l := rfl
    rw [e, List.length_append, this, List.length_cons]
    simp
    omega
/-- the k-th change, where it stands -/
theorem chg_at {w : World} {a : Option Addr} {n c : Nat} {y : List Int} {l : List Nat} (h : Sl w a n c 2 (dfC y l)) (k i : Nat) (hi : l[k]? = some i) :
    ∃ b off, a = some ⟨b, off, none⟩ ∧ w.cell? ⟨b, off + k * 2, none⟩ = some (.int .i64 (i : Int)) ∧ w.cell? ⟨b, off + k * 2 + 1, none⟩ = some (.int .i64 (y.getD i 0)) := by
  have hk : k < l.length := (List.getElem?_eq_some_iff.1 hi).1
  have hd := dfC_at y l k i hi
  have hl := dfC_len y l
  obtain ⟨b, off, rfl, c0⟩ := h.cells (k * 2) (by omega)
  obtain ⟨b', off', e, c1⟩ := h.cells (k * 2 + 1) (by omega)
  injection e with e
  injection e with e1 e2
  subst e1 e2
  exact ⟨_, _, rfl, c0.trans hd.1, (by rw [Nat.add_assoc]; exact c1.trans hd.2)⟩
/-- what the k-th of them comes to -/
theorem chg_ok {V : Int} {z y : List Int} {k i n : Nat} (hc : chE V z = 0) (hz : z.length = 8) (hy : y.length = 8) (hE : y.all entB = true) (hb : ∀ i, i < 8 → badI z y i = false) (hi : (df z y 8)[k]? = some i) (hV : V + k < 1099511627776) :
    chR (V + k) (setL z y ((df z y 8).take k)) i (y.getD i 0) = 0 ∧ chM (V + k) (setL z y ((df z y 8).take k)) i (y.getD i 0) = mpL (V + (k + 1 : Nat)) (setL z y ((df z y 8).take (k + 1))) := by
  have hm : i ∈ df z y 8 := List.mem_of_getElem? hi
  obtain ⟨h8, hne⟩ := df_mem hm
  have hV0 := chE_V hc
  have hent := setL_ent hE ((df z y 8).take k) z hV0.2.2 (fun j hj => by rw [hy]; exact (df_mem (List.mem_of_mem_take hj)).1)
  have hcE := chE_of (V := V + k) (by omega) (by omega) hent
  have hyi : y[i]? = some (y.getD i 0) := by rw [List.getD_eq_getElem?_getD, List.getElem?_eq_getElem (by omega)]; rfl
  have hr := ent_range hE (y.getD i 0) (List.mem_of_getElem? hyi)
  have h0 : y.getD i 0 ≠ 0 := by
    intro h
    have := hb i h8
    unfold badI at this
    rw [h] at this hne
    simp at this
    exact hne (by simpa using this)
  have hR : chR (V + k) (setL z y ((df z y 8).take k)) i (y.getD i 0) = 0 := by
    unfold chR
    rw [if_neg (by omega), if_neg (by omega)]
  refine ⟨hR, ?_⟩
  unfold chM
  rw [if_pos hR, Int.toNat_natCast, List.take_add_one, hi]
  show mpL _ _ = mpL _ (setL z y (_ ++ [i]))
  rw [setL_snoc]
  congr 1
  omega
theorem chg_full {V : Int} {z y : List Int} {k i : Nat} (hc : chE V z = 0) (hz : z.length = 8) (hy : y.length = 8) (hE : y.all entB = true) (hb : ∀ i, i < 8 → badI z y i = false) (hi : (df z y 8)[k]? = some i) (hV : V + k = 1099511627776) :
    chR (V + k) (setL z y ((df z y 8).take k)) i (y.getD i 0) = 50 := by
  have hm : i ∈ df z y 8 := List.mem_of_getElem? hi
  obtain ⟨h8, hne⟩ := df_mem hm
  have hV0 := chE_V hc
  have hent := setL_ent hE ((df z y 8).take k) z hV0.2.2 (fun j hj => by rw [hy]; exact (df_mem (List.mem_of_mem_take hj)).1)
  have hcE := chE_of (V := V + k) (by omega) (by omega) hent
  have hyi : y[i]? = some (y.getD i 0) := by rw [List.getD_eq_getElem?_getD, List.getElem?_eq_getElem (by omega)]; rfl
  have hr := ent_range hE (y.getD i 0) (List.mem_of_getElem? hyi)
  have h0 : y.getD i 0 ≠ 0 := by
    intro h
    have := hb i h8
    unfold badI at this
    rw [h] at this hne
    simp at this
    exact hne (by simpa using this)
  unfold chR
  rw [if_neg (by omega), if_pos hV]
end Go.Proofs.Ytflmeannmfhhhaa
