import Derived.Test.YtfmadgaknaflfaaA2
namespace Go.Proofs.Ytfmadgaknaflfaa
open Go.RowKit
set_option maxHeartbeats 1000000 in
theorem new_no (b : Int) (w : World) (hm : mayB b b = false) :
    Calls Try.prog 15 #[.int .i64 b] w fun e w' => e = .returned (.tuple #[.agg #[.int .i64 0, .int .i64 0], .int .i64 2]) ∧ Below w.heap.size w w' := by
  have HM := hidd hm
  clear hm
  go_enter Try.func15, Try.ntmps15
  go_wp2_with (go_at_call 17; refine (may_any _ _ _).mono ?_; rintro e w1 ⟨rfl, hb1⟩; rw [HM.out]; have g1' := blk_below hb1 (heap_alloc2_old w _ _) (by simp; omega); obtain ⟨k1, f1⟩ := blk g1'; have G1 := hidd g1'; clear g1'; obtain ⟨k0, f0⟩ := blk (blk_below hb1 (heap_alloc2_new w _ _) (by simp)); have HB1 := hidd hb1; clear hb1)
  refine bodyPost_ret (results_cell_one Try.results15 _ _ w.heap.size 23 #[.int .i64 0, .int .i64 0] (0, 0) _ rfl (hs_same (hs_same G1.out)) Try.underlying23 rfl (by kernel_rfl)) rfl ⟨rfl, ?_⟩
  have B1 := (((Below.refl _ w).alloc (Nat.le_refl _) (.cells #[.int .i64 0, .int .i64 0] 23)).alloc (by simp) (.cells #[.int .i64 b, .int .i64 b] 23)).trans (HB1.out.mono (by simp; omega))
  exact ((B1.setCell (by simp) _).setCell (by simp) _)
set_option maxHeartbeats 1000000 in
theorem new_yes (b : Int) (w : World) (hm : mayB b b = true) :
    Calls Try.prog 15 #[.int .i64 b] w fun e w' => e = .returned (.tuple #[.agg #[.int .i64 b, .int .i64 b], .int .i64 0]) ∧ Below w.heap.size w w' := by
  have HM := hidd hm
  clear hm
  go_enter Try.func15, Try.ntmps15
  go_wp2_with (go_at_call 17; refine (may_any _ _ _).mono ?_; rintro e w1 ⟨rfl, hb1⟩; rw [HM.out]; have g1' := blk_below hb1 (heap_alloc2_old w _ _) (by simp; omega); obtain ⟨k1, f1⟩ := blk g1'; have G1 := hidd g1'; clear g1'; obtain ⟨k0, f0⟩ := blk (blk_below hb1 (heap_alloc2_new w _ _) (by simp)); have HB1 := hidd hb1; clear hb1)
  refine bodyPost_ret (results_cell_one Try.results15 _ _ w.heap.size 23 #[.int .i64 b, .int .i64 b] (0, 0) _ rfl (hs_same (hs_same G1.out)) Try.underlying23 rfl (by kernel_rfl)) rfl ⟨rfl, ?_⟩
  have B1 := (((Below.refl _ w).alloc (Nat.le_refl _) (.cells #[.int .i64 0, .int .i64 0] 23)).alloc (by simp) (.cells #[.int .i64 b, .int .i64 b] 23)).trans (HB1.out.mono (by simp; omega))
  exact ((B1.setCell (by simp) _).setCell (by simp) _)
set_option maxHeartbeats 1000000 in
theorem kept_yes (n b k : Int) (w : World) (hm : mayB n b = true) (hk : k = if b + 16 < 1048577 then b + 16 else 1048577) :
    Calls Try.prog 16 #[.agg #[.int .i64 n, .int .i64 b], .int .i64 k] w fun e w' => e = .returned (.tuple #[.agg #[.int .i64 n, .int .i64 k], .int .i64 0]) ∧ Below w.heap.size w w' := by
  have HM := hidd hm
  have hq : 1 ≤ n ∧ n ≤ b ∧ b ≤ 1048577 := by simpa [mayB] using hm
  obtain ⟨q1, q2, q3⟩ := hq
  clear hm
  by_cases hb : b + 16 < 1048577
  · rw [if_pos hb] at hk
    subst hk
    go_enter Try.func16, Try.ntmps16
    go_wp2_with (go_at_call 17; refine (may_any _ _ _).mono ?_; rintro e w1 ⟨rfl, hb1⟩; rw [HM.out]; have g1' := blk_below hb1 (heap_alloc2_new w _ _) (by simp); obtain ⟨k1, f1⟩ := blk g1'; have G1 := hidd g1'; clear g1'; obtain ⟨k0, f0⟩ := blk (blk_below hb1 (heap_alloc2_old w _ _) (by simp; omega)); have HB1 := hidd hb1; clear hb1)
    refine bodyPost_ret (results_cell_one Try.results16 _ _ (w.heap.size + 1) 23 #[.int .i64 n, .int .i64 (b + 16)] (0, 0) _ rfl (hs_same (hs_same G1.out)) Try.underlying23 rfl (by kernel_rfl)) rfl ⟨rfl, ?_⟩
    have B1 := (((Below.refl _ w).alloc (Nat.le_refl _) (.cells #[.int .i64 n, .int .i64 b] 23)).alloc (by simp) (.cells #[.int .i64 0, .int .i64 0] 23)).trans (HB1.out.mono (by simp; omega))
    exact ((B1.setCell (by simp) _).setCell (by simp) _)
  · rw [if_neg hb] at hk
    subst hk
    go_enter Try.func16, Try.ntmps16
    go_wp2_with (go_at_call 17; refine (may_any _ _ _).mono ?_; rintro e w1 ⟨rfl, hb1⟩; rw [HM.out]; have g1' := blk_below hb1 (heap_alloc2_new w _ _) (by simp); obtain ⟨k1, f1⟩ := blk g1'; have G1 := hidd g1'; clear g1'; obtain ⟨k0, f0⟩ := blk (blk_below hb1 (heap_alloc2_old w _ _) (by simp; omega)); have HB1 := hidd hb1; clear hb1)
    all_goals
      refine bodyPost_ret (results_cell_one Try.results16 _ _ (w.heap.size + 1) 23 #[.int .i64 n, .int .i64 1048577] (0, 0) _ rfl (hs_same (hs_same G1.out)) Try.underlying23 rfl (by kernel_rfl)) rfl ⟨rfl, ?_⟩
      have B1 := (((Below.refl _ w).alloc (Nat.le_refl _) (.cells #[.int .i64 n, .int .i64 b] 23)).alloc (by simp) (.cells #[.int .i64 0, .int .i64 0] 23)).trans (HB1.out.mono (by simp; omega))
      exact ((B1.setCell (by simp) _).setCell (by simp) _)
set_option maxHeartbeats 1000000 in
theorem wakes_any (w : World) :
    Calls Try.prog 7 #[] w fun e w' => e = .returned (.bool true) ∧ Below w.heap.size w w' := by
  go_enter Try.func7, Try.ntmps7
  go_wp2_with fail
  refine (next_bound 1 w (by decide) (by decide)).mono ?_
  rintro e w1 ⟨rfl, hb1⟩
  have HB1 := hidd hb1
  clear hb1
  go_wp2_with fail
  refine (next_one 1 17 _ (by decide) (by decide) (by decide)).mono ?_
  rintro e w2 ⟨rfl, hb2⟩
  have HB2 := hidd ((HB1.out.alloc HB1.out.size (.cells #[.int .i64 1, .int .i64 1] 23)).trans (hb2.mono (by have := HB1.out.size; simp; omega)))
  clear hb2
  go_wp2
  go_ret
  exact ⟨rfl, HB2.out.alloc HB2.out.size _⟩
end Go.Proofs.Ytfmadgaknaflfaa
