import Derived.Test.YtflmeannmfhhhaaS4
namespace Go.Proofs.Ytflmeannmfhhhaa
open Go.RowKit
theorem idxC (L : List (Nat × Nat)) (i : Nat) (hi : i < 32) (p : Nat × Nat) (hp : L[i]? = some p) (w : World) :
    (Instr.index 62 (.agg (L.map cx).toArray) (.int .i64 (i : Int))).run Try.prog w = .ok (.complex .f64 (fb p.1) (fb p.2)) w := by
  have hi1 : (Try.prog.info? 61).map (·.size) = some 1 := by kernel_rfl
  obtain ⟨i0, hi0, hs⟩ := Option.map_eq_some_iff.1 hi1
  have hs' : (sizeOf 61).run Try.prog w = .ok 1 w := by simp [sizeOf, typeInfo, hi0, hs]
  have hg : (L.map cx)[i]? = some (.complex .f64 (fb p.1) (fb p.2)) := by rw [List.getElem?_map, hp]; rfl
  simp [Instr.index, asIntOf, run_underlying Try.underlying62, part, isAgg, hs', run_underlying Try.underlying61]
  rw [if_pos hi]
  have hg' : (L.map cx)[i]? = _ := hg
  simp only [List.getElem?_map] at hg'
  rw [hg']
  simp
/-- stripe.Place -/
def plE (V : Int) (z : List Int) (b : Int) : Int × Int × Int :=
  if chE V z ≠ 0 then (0, 0, 2) else if b < 0 ∨ 32 ≤ b then (0, 0, 230) else if (plc z b.toNat).1 = 0 then (0, 0, 4) else ((plc z b.toNat).1, (plc z b.toNat).2, 0)
abbrev mpA (V : Int) (z : List Int) : Array Value := (is .i64 (mpL V z)).toArray
theorem mp_sz (V : Int) (z : List Int) (hz : z.length = 8) : (Try.prog.info? 24).map (·.size) = some (mpA V z).size := by
  rw [List.size_toArray, is_len]
  unfold mpL
  rw [List.length_cons, hz]
  kernel_rfl
theorem ent_range {z : List Int} (h : z.all entB = true) : ∀ s ∈ z, 0 ≤ s ∧ s ≤ 4 := by
  intro s hs
  have := List.all_eq_true.1 h s hs
  unfold entB at this
  simpa using this
theorem outF_at (z : List Int) (b : Nat) (h : b < 32) : (outF z 32)[b]? = some (plc z b) := by
  unfold outF
  rw [List.getElem?_map, List.getElem?_range h, Option.map_some, if_pos h]
set_option maxHeartbeats 4000000 in
theorem place_any (V : Int) (z : List Int) (b : Int) (hz : z.length = 8) (W : World) :
    Calls Try.prog 10 #[.agg (is .i64 (mpL V z)).toArray, .int .i64 b] W fun e w' => e = .returned (.tuple #[.int .i64 (plE V z b).1, .int .i64 (plE V z b).2.1, .int .i64 (plE V z b).2.2]) ∧ Below W.heap.size W w' := by
  have HZ := hidd hz
  have HG := hidd (heap_alloc_last W (.cells (mpA V z) 24))
  clear hz
  by_cases hc : chE V z = 0
  · have H2 := hidd hc
    have hall : z.all entB = true := by
      unfold chE chB at hc
      split at hc
      · simp_all
      · simp at hc
    have HA := hidd hall
    by_cases h0 : b < 0
    · have HE := hidd (show plE V z b = (0, 0, 230) by unfold plE; rw [if_neg (by simpa using hc), if_pos (Or.inl h0)])
      clear hc hall
      go_enter Try.func10, Try.ntmps10
      go_wp2_with (first | (with_reducible refine wpList_load_row rfl 24 (.tmp 2) rfl W.heap.size rfl 24 (mpA V z) (0, 0) _ HG.out Try.underlying24 rfl (mp_sz V z HZ.out) ?_) | (go_at_call 11; refine (check_any V z HZ.out _).mono ?_; rintro e w1 ⟨rfl, hb1⟩; rw [H2.out]; have HB1 := hidd hb1; have HG1 := hidd ((blk_below hb1 HG.out (by simp))); clear hb1))
      exact bodyPost_ret (results_tmp3 Try.results10 _ Try.prog _) rfl ⟨by rw [HE.out]; rfl, ((Below.refl _ W).alloc (Nat.le_refl _) _).trans (HB1.out.mono (by simp))⟩
    · by_cases h1 : 32 ≤ b
      · have HE := hidd (show plE V z b = (0, 0, 230) by unfold plE; rw [if_neg (by simpa using hc), if_pos (Or.inr h1)])
        clear hc hall
        go_enter Try.func10, Try.ntmps10
        go_wp2_with (first | (with_reducible refine wpList_load_row rfl 24 (.tmp 2) rfl W.heap.size rfl 24 (mpA V z) (0, 0) _ HG.out Try.underlying24 rfl (mp_sz V z HZ.out) ?_) | (go_at_call 11; refine (check_any V z HZ.out _).mono ?_; rintro e w1 ⟨rfl, hb1⟩; rw [H2.out]; have HB1 := hidd hb1; have HG1 := hidd ((blk_below hb1 HG.out (by simp))); clear hb1))
        exact bodyPost_ret (results_tmp3 Try.results10 _ Try.prog _) rfl ⟨by rw [HE.out]; rfl, ((Below.refl _ W).alloc (Nat.le_refl _) _).trans (HB1.out.mono (by simp))⟩
      · obtain ⟨m, rfl⟩ : ∃ m : Nat, b = m := ⟨b.toNat, by omega⟩
        have hm : m < 32 := by omega
        have ix := idxC (outF z 32) m hm _ (outF_at z m hm)
        by_cases hp : (plc z m).1 = 0
        · have HE := hidd (show plE V z m = (0, 0, 4) by unfold plE; rw [if_neg (by simpa using hc), if_neg (by omega), Int.toNat_natCast, if_pos hp])
          have ho := ord_zero _ hp
          clear hc hall hp
          generalize plc z m = pp at *
          go_enter Try.func10, Try.ntmps10
          go_wp2_with (first | (with_reducible refine wpList_load_row rfl 24 (.tmp 2) rfl W.heap.size rfl 24 (mpA V z) (0, 0) _ HG.out Try.underlying24 rfl (mp_sz V z HZ.out) ?_) | (with_reducible refine wpList_load_row rfl 24 (.tmp 2) rfl W.heap.size rfl 24 (mpA V z) (0, 0) _ HG1.out Try.underlying24 rfl (mp_sz V z HZ.out) ?_) | (go_at_call 11; refine (check_any V z HZ.out _).mono ?_; rintro e w1 ⟨rfl, hb1⟩; rw [H2.out]; have HB1 := hidd hb1; have HG1 := hidd ((blk_below hb1 HG.out (by simp))); clear hb1) | (go_at_call 24; refine (places_any V z HZ.out (ent_range HA.out) _).mono ?_; rintro e w2 ⟨rfl, hb2⟩; have HB2 := hidd hb2; clear hb2))
          exact bodyPost_ret (results_tmp3 Try.results10 _ Try.prog _) rfl ⟨by rw [HE.out]; rfl, (((Below.refl _ W).alloc (Nat.le_refl _) _).trans (HB1.out.mono (by simp))).trans (HB2.out.mono (((Below.refl _ W).alloc (Nat.le_refl _) _).trans (HB1.out.mono (by simp))).size)⟩
        · have HE := hidd (show plE V z m = (((plc z m).1 : Int), ((plc z m).2 : Int), (0 : Int)) by unfold plE; rw [if_neg (by simpa using hc), if_neg (by omega), Int.toNat_natCast, if_neg hp])
          have hpp : 0 < (plc z m).1 ∧ (plc z m).1 < 10 ∧ (plc z m).2 < 40 := by
            refine ⟨by omega, ?_, ?_⟩
            · unfold plc
              have hg := List.getD_eq_getElem?_getD (l := z) (i := m / 4) (a := 0)
              have hl : m / 4 < z.length := by rw [HZ.out]; omega
              rw [List.getElem?_eq_getElem hl, Option.getD_some] at hg
              have := ent_range hall _ (List.getElem_mem hl)
              rw [hg]
              show _ < 10
              omega
            · unfold plc
              have := nx_bound z (m / 4) (m % 4) (z.getD (m / 4) 0) (by omega) (by omega)
              exact this
          have ho := ord_pos _ hpp.1 hpp.2.1
          have hc1 := fun w => run_f_int (P := Try.prog) 64 3 (plc z m).1 w Try.underlying64 Try.underlying3 (by omega)
          have hc2 := fun w => run_f_int (P := Try.prog) 64 3 (plc z m).2 w Try.underlying64 Try.underlying3 (by omega)
          clear hc hall hp hpp
          go_enter Try.func10, Try.ntmps10
          go_wp2_with (first | (with_reducible refine wpList_load_row rfl 24 (.tmp 2) rfl W.heap.size rfl 24 (mpA V z) (0, 0) _ HG.out Try.underlying24 rfl (mp_sz V z HZ.out) ?_) | (with_reducible refine wpList_load_row rfl 24 (.tmp 2) rfl W.heap.size rfl 24 (mpA V z) (0, 0) _ HG1.out Try.underlying24 rfl (mp_sz V z HZ.out) ?_) | (go_at_call 11; refine (check_any V z HZ.out _).mono ?_; rintro e w1 ⟨rfl, hb1⟩; rw [H2.out]; have HB1 := hidd hb1; have HG1 := hidd ((blk_below hb1 HG.out (by simp))); clear hb1) | (go_at_call 24; refine (places_any V z HZ.out (ent_range HA.out) _).mono ?_; rintro e w2 ⟨rfl, hb2⟩; have HB2 := hidd hb2; clear hb2))
          exact bodyPost_ret (results_tmp3 Try.results10 _ Try.prog _) rfl ⟨by rw [HE.out]; rfl, (((Below.refl _ W).alloc (Nat.le_refl _) _).trans (HB1.out.mono (by simp))).trans (HB2.out.mono (((Below.refl _ W).alloc (Nat.le_refl _) _).trans (HB1.out.mono (by simp))).size)⟩
  · have HE := hidd (show plE V z b = (0, 0, 2) by unfold plE; rw [if_pos hc])
    have hcn : (chE V z == 0) = false := by simpa using hc
    have h2 : chE V z = 2 := by unfold chE at hc ⊢; split <;> simp_all
    have H2 := hidd h2
    clear hc hcn h2
    go_enter Try.func10, Try.ntmps10
    go_wp2_with (first | (with_reducible refine wpList_load_row rfl 24 (.tmp 2) rfl W.heap.size rfl 24 (mpA V z) (0, 0) _ HG.out Try.underlying24 rfl (mp_sz V z HZ.out) ?_) | (go_at_call 11; refine (check_any V z HZ.out _).mono ?_; rintro e w1 ⟨rfl, hb1⟩; rw [H2.out]; have HB1 := hidd hb1; have HG1 := hidd ((blk_below hb1 HG.out (by simp))); clear hb1))
    exact bodyPost_ret (results_tmp3 Try.results10 _ Try.prog _) rfl ⟨by rw [HE.out]; rfl, ((Below.refl _ W).alloc (Nat.le_refl _) _).trans (HB1.out.mono (by simp))⟩
end Go.Proofs.Ytflmeannmfhhhaa
