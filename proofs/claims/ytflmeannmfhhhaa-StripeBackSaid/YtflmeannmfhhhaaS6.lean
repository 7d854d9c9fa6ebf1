import Derived.Test.YtflmeannmfhhhaaS5
namespace Go.Proofs.Ytflmeannmfhhhaa
open Go.RowKit
/-- stripe.Change: its error, its map -/
def chR (V : Int) (z : List Int) (i t : Int) : Int := if chE V z ≠ 0 ∨ i < 0 ∨ 8 ≤ i ∨ t < 1 ∨ 4 < t then 2 else if V = 1099511627776 then 50 else 0
def chM (V : Int) (z : List Int) (i t : Int) : List Int := if chR V z i t = 0 then mpL (V + 1) (z.set i.toNat t) else mpL 0 (List.replicate 8 0)
abbrev cgA (i t : Int) : Array Value := #[.int .i64 i, .int .i64 t]
abbrev mp0 : Array Value := #[.int .i64 0, .int .i64 0, .int .i64 0, .int .i64 0, .int .i64 0, .int .i64 0, .int .i64 0, .int .i64 0, .int .i64 0]
theorem mp0_sz : (Try.prog.info? 24).map (·.size) = some mp0.size := by kernel_rfl
theorem is_one (k : IntKind) (z : List Int) : (is k z).toArray.all (·.oneCell') = true := by
  rw [Array.all_eq_true_iff_forall_mem]
  intro v hv
  simp [is] at hv
  obtain ⟨a, _, rfl⟩ := hv
  rfl
theorem mp0_one : mp0.all (·.oneCell') = true := is_one .i64 (mpL 0 (List.replicate 8 0))
theorem cong1 (V : Int) (z : List Int) (n : Nat) (hz : z.length = 8) (hn : n < 8) : (mpA V z)[1 + n]? = some (.int .i64 (z.getD n 0)) := by
  rw [Nat.add_comm]
  exact mp_at V z n (by omega)
theorem mp_new (V : Int) (z : List Int) (n : Nat) (t : Int) : ((mpA V z).setIfInBounds (1 + n) (.int .i64 t)).setIfInBounds 0 (.int .i64 (V + 1)) = mpA (V + 1) (z.set n t) := by
  rw [List.setIfInBounds_toArray, List.setIfInBounds_toArray, is_set, is_set, Nat.add_comm]
  rfl
theorem mp0_szz (V : Int) (z : List Int) (hz : z.length = 8) : mp0.size = (mpA V z).size := by
  show 9 = (is .i64 (mpL V z)).length
  rw [is_len]
  show 9 = z.length + 1
  omega
theorem w64 (n : Int) (h : -9223372036854775808 ≤ n ∧ n ≤ 9223372036854775807) : wrap64 n = n := by unfold wrap64; omega
theorem al3 (W : World) (A B C : Obj) : (((W.alloc A).alloc B).alloc C).heap[W.heap.size]? = some A ∧ (((W.alloc A).alloc B).alloc C).heap[W.heap.size + 1]? = some B ∧ (((W.alloc A).alloc B).alloc C).heap[W.heap.size + 1 + 1]? = some C := by
  have hs : (W.alloc A).heap.size = W.heap.size + 1 := by simp
  have hs2 : ((W.alloc A).alloc B).heap.size = W.heap.size + 1 + 1 := by simp
  refine ⟨?_, ?_, ?_⟩
  · rw [heap_alloc_old _ _ (by simp; omega), heap_alloc_old _ _ (by simp)]
    exact heap_alloc_new W _
  · rw [heap_alloc_old _ _ (by simp), ← hs]
    exact heap_alloc_new _ _
  · rw [← hs2]
    exact heap_alloc_new _ _
theorem be3 (W : World) (A B C : Obj) : Below W.heap.size W (((W.alloc A).alloc B).alloc C) := (((Below.refl _ W).alloc (Nat.le_refl _) _).alloc (by simp) _).alloc (by simp; omega) _
/-- what stands after Check -/
theorem after3 {W w1 : World} {V : Int} {z : List Int} {i t : Int} (hb : Below (((W.alloc (.cells (mpA V z) 24)).alloc (.cells (cgA i t) 26)).alloc (.cells mp0 24)).heap.size (((W.alloc (.cells (mpA V z) 24)).alloc (.cells (cgA i t) 26)).alloc (.cells mp0 24)) w1) :
    w1.heap[W.heap.size]? = some (.cells (mpA V z) 24) ∧ w1.heap[W.heap.size + 1]? = some (.cells (cgA i t) 26) ∧ w1.heap[W.heap.size + 1 + 1]? = some (.cells mp0 24) ∧ Below W.heap.size W w1 := by
  have h := al3 W (.cells (mpA V z) 24) (.cells (cgA i t) 26) (.cells mp0 24)
  exact ⟨blk_below hb h.1 (by simp; omega), blk_below hb h.2.1 (by simp), blk_below hb h.2.2 (by simp), (be3 W _ _ _).trans (hb.mono (by simp; omega))⟩
theorem chE_V {V : Int} {z : List Int} (h : chE V z = 0) : 0 ≤ V ∧ V ≤ 1099511627776 ∧ z.all entB = true := by
  unfold chE chB at h
  split at h
  · simp_all
  · simp at h
set_option maxHeartbeats 4000000 in
theorem change_any (V : Int) (z : List Int) (i t : Int) (hz : z.length = 8) (W : World) :
    Calls Try.prog 8 #[.agg (is .i64 (mpL V z)).toArray, .agg (cgA i t)] W fun e w' => e = .returned (.tuple #[.agg (is .i64 (chM V z i t)).toArray, .int .i64 (chR V z i t)]) ∧ Below W.heap.size W w' := by
  have HZ := hidd hz
  have HG := hidd (al3 W (.cells (mpA V z) 24) (.cells (cgA i t) 26) (.cells mp0 24)).1
  clear hz
  by_cases hc : chE V z = 0
  · have H2 := hidd hc
    have hr : chR V z i t = if i < 0 ∨ 8 ≤ i ∨ t < 1 ∨ 4 < t then 2 else if V = 1099511627776 then 50 else 0 := by
      unfold chR
      rw [hc]
      simp
    by_cases h0 : i < 0
    · have HR := hidd (hr.trans (if_pos (Or.inl h0)))
      clear hc hr
      go_enter Try.func8, Try.ntmps8
      go_wp2_with (first | (with_reducible refine wpList_load_row rfl 24 (.tmp 2) rfl W.heap.size rfl 24 (mpA V z) (0, 0) _ HG.out Try.underlying24 rfl (mp_sz V z HZ.out) ?_) | (go_at_call 11; refine (check_any V z HZ.out _).mono ?_; rintro e w1 ⟨rfl, hb1⟩; rw [H2.out]; have HA := hidd (after3 hb1); have k0 := (blk HA.out.2.1).1 0; have k1 := (blk HA.out.2.1).1 1; have k2 := ((blk HA.out.1).1 0).trans (show (mpA V z)[0]? = some (.int .i64 V) from rfl); clear hb1) | (with_reducible refine wpList_store_row rfl 24 (.tmp 4) (.tmp 30) rfl (W.heap.size + 1 + 1) mp0 rfl rfl 24 mp0 HA.out.2.2.1 mp0_sz rfl mp0_one ?_))
      exact bodyPost_ret (results_cell_one Try.results8 _ _ (W.heap.size + 1 + 1) 24 mp0 (0, 0) _ rfl (setRow_heap _ _ _ _ _ _ HA.out.2.2.1) Try.underlying24 rfl mp0_sz) rfl ⟨by rw [chM, HR.out]; rfl, below_setRow HA.out.2.2.2 (by omega) _⟩
    by_cases h1 : 8 ≤ i
    · have HR := hidd (hr.trans (if_pos (Or.inr (Or.inl h1))))
      clear hc hr
      go_enter Try.func8, Try.ntmps8
      go_wp2_with (first | (with_reducible refine wpList_load_row rfl 24 (.tmp 2) rfl W.heap.size rfl 24 (mpA V z) (0, 0) _ HG.out Try.underlying24 rfl (mp_sz V z HZ.out) ?_) | (go_at_call 11; refine (check_any V z HZ.out _).mono ?_; rintro e w1 ⟨rfl, hb1⟩; rw [H2.out]; have HA := hidd (after3 hb1); have k0 := (blk HA.out.2.1).1 0; have k1 := (blk HA.out.2.1).1 1; have k2 := ((blk HA.out.1).1 0).trans (show (mpA V z)[0]? = some (.int .i64 V) from rfl); clear hb1) | (with_reducible refine wpList_store_row rfl 24 (.tmp 4) (.tmp 30) rfl (W.heap.size + 1 + 1) mp0 rfl rfl 24 mp0 HA.out.2.2.1 mp0_sz rfl mp0_one ?_))
      exact bodyPost_ret (results_cell_one Try.results8 _ _ (W.heap.size + 1 + 1) 24 mp0 (0, 0) _ rfl (setRow_heap _ _ _ _ _ _ HA.out.2.2.1) Try.underlying24 rfl mp0_sz) rfl ⟨by rw [chM, HR.out]; rfl, below_setRow HA.out.2.2.2 (by omega) _⟩
    by_cases h2 : t < 1
    · have HR := hidd (hr.trans (if_pos (Or.inr (Or.inr (Or.inl h2)))))
      clear hc hr
      go_enter Try.func8, Try.ntmps8
      go_wp2_with (first | (with_reducible refine wpList_load_row rfl 24 (.tmp 2) rfl W.heap.size rfl 24 (mpA V z) (0, 0) _ HG.out Try.underlying24 rfl (mp_sz V z HZ.out) ?_) | (go_at_call 11; refine (check_any V z HZ.out _).mono ?_; rintro e w1 ⟨rfl, hb1⟩; rw [H2.out]; have HA := hidd (after3 hb1); have k0 := (blk HA.out.2.1).1 0; have k1 := (blk HA.out.2.1).1 1; have k2 := ((blk HA.out.1).1 0).trans (show (mpA V z)[0]? = some (.int .i64 V) from rfl); clear hb1) | (with_reducible refine wpList_store_row rfl 24 (.tmp 4) (.tmp 30) rfl (W.heap.size + 1 + 1) mp0 rfl rfl 24 mp0 HA.out.2.2.1 mp0_sz rfl mp0_one ?_))
      exact bodyPost_ret (results_cell_one Try.results8 _ _ (W.heap.size + 1 + 1) 24 mp0 (0, 0) _ rfl (setRow_heap _ _ _ _ _ _ HA.out.2.2.1) Try.underlying24 rfl mp0_sz) rfl ⟨by rw [chM, HR.out]; rfl, below_setRow HA.out.2.2.2 (by omega) _⟩
    by_cases h3 : 4 < t
    · have HR := hidd (hr.trans (if_pos (Or.inr (Or.inr (Or.inr h3)))))
      clear hc hr
      go_enter Try.func8, Try.ntmps8
      go_wp2_with (first | (with_reducible refine wpList_load_row rfl 24 (.tmp 2) rfl W.heap.size rfl 24 (mpA V z) (0, 0) _ HG.out Try.underlying24 rfl (mp_sz V z HZ.out) ?_) | (go_at_call 11; refine (check_any V z HZ.out _).mono ?_; rintro e w1 ⟨rfl, hb1⟩; rw [H2.out]; have HA := hidd (after3 hb1); have k0 := (blk HA.out.2.1).1 0; have k1 := (blk HA.out.2.1).1 1; have k2 := ((blk HA.out.1).1 0).trans (show (mpA V z)[0]? = some (.int .i64 V) from rfl); clear hb1) | (with_reducible refine wpList_store_row rfl 24 (.tmp 4) (.tmp 30) rfl (W.heap.size + 1 + 1) mp0 rfl rfl 24 mp0 HA.out.2.2.1 mp0_sz rfl mp0_one ?_))
      exact bodyPost_ret (results_cell_one Try.results8 _ _ (W.heap.size + 1 + 1) 24 mp0 (0, 0) _ rfl (setRow_heap _ _ _ _ _ _ HA.out.2.2.1) Try.underlying24 rfl mp0_sz) rfl ⟨by rw [chM, HR.out]; rfl, below_setRow HA.out.2.2.2 (by omega) _⟩
    rw [if_neg (by omega)] at hr
    by_cases h4 : V = 1099511627776
    · have HR := hidd (hr.trans (if_pos h4))
      have hV : (V == 1099511627776) = true := by simpa using h4
      clear h4
      clear hc hr
      go_enter Try.func8, Try.ntmps8
      go_wp2_with (first | (with_reducible refine wpList_load_row rfl 24 (.tmp 2) rfl W.heap.size rfl 24 (mpA V z) (0, 0) _ HG.out Try.underlying24 rfl (mp_sz V z HZ.out) ?_) | (go_at_call 11; refine (check_any V z HZ.out _).mono ?_; rintro e w1 ⟨rfl, hb1⟩; rw [H2.out]; have HA := hidd (after3 hb1); have k0 := (blk HA.out.2.1).1 0; have k1 := (blk HA.out.2.1).1 1; have k2 := ((blk HA.out.1).1 0).trans (show (mpA V z)[0]? = some (.int .i64 V) from rfl); clear hb1) | (with_reducible refine wpList_store_row rfl 24 (.tmp 4) (.tmp 35) rfl (W.heap.size + 1 + 1) mp0 rfl rfl 24 mp0 HA.out.2.2.1 mp0_sz rfl mp0_one ?_))
      exact bodyPost_ret (results_cell_one Try.results8 _ _ (W.heap.size + 1 + 1) 24 mp0 (0, 0) _ rfl (setRow_heap _ _ _ _ _ _ HA.out.2.2.1) Try.underlying24 rfl mp0_sz) rfl ⟨by rw [chM, HR.out]; rfl, below_setRow HA.out.2.2.2 (by omega) _⟩
    have HR := hidd (hr.trans (if_neg h4))
    obtain ⟨n, rfl⟩ : ∃ n : Nat, i = n := ⟨i.toNat, by omega⟩
    have hn : n < 8 := by omega
    have m1 : ¬ (n : Int) < 0 := by omega
    have hV : 0 ≤ V ∧ V < 1099511627776 := by
      have := chE_V hc
      omega
    have hVn : (V == 1099511627776) = false := by simpa using h4
    have hw : wrap64 (V + 1) = V + 1 := w64 _ (by omega)
    have HE := hidd (mp_new V z n t)
    clear hc hr h4 hV
    go_enter Try.func8, Try.ntmps8
    go_wp2_with (first | (with_reducible refine wpList_load_row rfl 24 (.tmp 2) rfl W.heap.size rfl 24 (mpA V z) (0, 0) _ HG.out Try.underlying24 rfl (mp_sz V z HZ.out) ?_) | (go_at_call 11; refine (check_any V z HZ.out _).mono ?_; rintro e w1 ⟨rfl, hb1⟩; rw [H2.out]; have HA := hidd (after3 hb1); have k0 := (blk HA.out.2.1).1 0; have k1 := (blk HA.out.2.1).1 1; have k2 := ((blk HA.out.1).1 0).trans (show (mpA V z)[0]? = some (.int .i64 V) from rfl); have k3 := ((blk HA.out.1).1 (1 + n)).trans (cong1 V z n HZ.out hn); have k4 := (blk HA.out.1).2 (1 + n); have k5 := (blk HA.out.1).2 0; clear hb1) | (with_reducible refine wpList_load_row rfl 24 (.tmp 2) rfl W.heap.size rfl 24 (mpA (V + 1) (z.set n t)) (0, 0) _ ((hs_same (hs_same HA.out.1)).trans (by rw [HE.out])) Try.underlying24 rfl (mp_sz _ _ (by rw [List.length_set]; exact HZ.out)) ?_) | (with_reducible refine wpList_store_row rfl 24 (.tmp 4) (.tmp 46) rfl (W.heap.size + 1 + 1) (mpA (V + 1) (z.set n t)) rfl rfl 24 mp0 (hs_other (hs_other HA.out.2.2.1 (by simp; omega)) (by simp; omega)) (mp_sz _ _ (by rw [List.length_set]; exact HZ.out)) (mp0_szz _ _ (by rw [List.length_set]; exact HZ.out)) (is_one _ _) ?_))
    have HO := hidd ((hs_other (hs_other HA.out.2.2.1 (by simp; omega)) (by simp; omega) : ((w1.setCell ⟨W.heap.size, 1 + n, none⟩ (.int .i64 t)).setCell ⟨W.heap.size, 0, none⟩ (.int .i64 (V + 1))).heap[W.heap.size + 1 + 1]? = _))
    exact bodyPost_ret (results_cell_one Try.results8 _ _ (W.heap.size + 1 + 1) 24 (mpA (V + 1) (z.set n t)) (0, 0) _ rfl (setRow_heap _ _ _ _ _ _ HO.out) Try.underlying24 rfl (mp_sz _ _ (by rw [List.length_set]; exact HZ.out))) rfl ⟨by rw [chM, HR.out]; rfl, below_setRow ((HA.out.2.2.2.setCell (Nat.le_refl _) _).setCell (Nat.le_refl _) _) (by omega) _⟩
  · have HR := hidd (show chR V z i t = 2 from if_pos (Or.inl hc))
    have hcn : (chE V z == 0) = false := by simpa using hc
    have h2 : chE V z = 2 := by unfold chE at hc ⊢; split <;> simp_all
    have H2 := hidd h2
    clear hc hcn h2
    go_enter Try.func8, Try.ntmps8
    go_wp2_with (first | (with_reducible refine wpList_load_row rfl 24 (.tmp 2) rfl W.heap.size rfl 24 (mpA V z) (0, 0) _ HG.out Try.underlying24 rfl (mp_sz V z HZ.out) ?_) | (go_at_call 11; refine (check_any V z HZ.out _).mono ?_; rintro e w1 ⟨rfl, hb1⟩; rw [H2.out]; have HA := hidd (after3 hb1); have k0 := (blk HA.out.2.1).1 0; have k1 := (blk HA.out.2.1).1 1; have k2 := ((blk HA.out.1).1 0).trans (show (mpA V z)[0]? = some (.int .i64 V) from rfl); clear hb1) | (with_reducible refine wpList_store_row rfl 24 (.tmp 4) (.tmp 30) rfl (W.heap.size + 1 + 1) mp0 rfl rfl 24 mp0 HA.out.2.2.1 mp0_sz rfl mp0_one ?_))
    exact bodyPost_ret (results_cell_one Try.results8 _ _ (W.heap.size + 1 + 1) 24 mp0 (0, 0) _ rfl (setRow_heap _ _ _ _ _ _ HA.out.2.2.1) Try.underlying24 rfl mp0_sz) rfl ⟨by rw [chM, HR.out]; rfl, below_setRow HA.out.2.2.2 (by omega) _⟩
end Go.Proofs.Ytflmeannmfhhhaa
