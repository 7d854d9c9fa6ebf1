import Derived.Test.YtfmadgaknaflfaaA1
namespace Go.Proofs.Ytfmadgaknaflfaa
open Go.RowKit
set_option maxHeartbeats 1000000 in
theorem left_any (n b : Int) (w : World) :
    Calls Try.prog 8 #[.agg #[.int .i64 n, .int .i64 b]] w fun e w' => e = .returned (.int .i64 (if mayB n b = true then 1048577 - n else 0)) ∧ Below w.heap.size w w' := by
  cases hm : mayB n b
  · have HM := hidd hm
    clear hm
    go_enter Try.func8, Try.ntmps8
    go_wp2_with (go_at_call 17; refine (may_any _ _ _).mono ?_; rintro e w1 ⟨rfl, hb1⟩; rw [HM.out])
    go_ret
    exact ⟨rfl, ((Below.refl _ w).alloc (Nat.le_refl _) _).trans (hb1.mono (by simp))⟩
  · have HM := hidd hm
    have hq : 1 ≤ n ∧ n ≤ b ∧ b ≤ 1048577 := by simpa [mayB] using hm
    obtain ⟨q1, q2, q3⟩ := hq
    clear hm
    go_enter Try.func8, Try.ntmps8
    go_wp2_with (go_at_call 17; refine (may_any _ _ _).mono ?_; rintro e w1 ⟨rfl, hb1⟩; rw [HM.out]; have hc : w1.cell? ⟨w.heap.size, 0, none⟩ = some (.int .i64 n) := by rw [hb1.cell (p := ⟨w.heap.size, 0, none⟩) (by simp)]; simp)
    go_ret
    exact ⟨rfl, ((Below.refl _ w).alloc (Nat.le_refl _) _).trans (hb1.mono (by simp))⟩
def nextS (n b : Int) : Int := if mayB n b = true then (if n = 1048577 then 0 else if n = b then 0 else n) else 0
def nextT (n b : Int) : Int × Int := if mayB n b = true then (if n = 1048577 then (0, 0) else if n = b then (n, b) else (n + 1, b)) else (0, 0)
def nextK (n b : Int) : Bool := mayB n b && !(decide (n = 1048577)) && decide (n = b)
def nextE (n b : Int) : Int := if mayB n b = true then (if n = 1048577 then 190 else 0) else 2
set_option maxHeartbeats 1000000 in
theorem next_no (n b : Int) (w : World) (hm : mayB n b = false) :
    Calls Try.prog 6 #[.agg #[.int .i64 n, .int .i64 b]] w fun e w' => e = .returned (.tuple #[.int .i64 0, .agg #[.int .i64 0, .int .i64 0], .bool false, .int .i64 2]) ∧ Below w.heap.size w w' := by
  have HM := hidd hm
  clear hm
  go_enter Try.func6, Try.ntmps6
  go_wp2_with fail
  go_step3
  go_wp2_with (go_at_call 17; refine (may_any _ _ _).mono ?_; rintro e w1 ⟨rfl, hb1⟩; rw [HM.out]; have g1' := blk_below hb1 (heap_alloc2_new w _ _) (by simp); obtain ⟨k1, f1⟩ := blk g1'; have G1 := hidd g1'; clear g1'; obtain ⟨k0, f0⟩ := blk (blk_below hb1 (heap_alloc2_old w _ _) (by simp; omega)); have HB1 := hidd hb1; clear hb1)
  go_region
  go_wp2
  rw [Exit.noGoto_ret]
  refine bodyPost_ret (v := .tuple #[.int .i64 0, .agg #[.int .i64 0, .int .i64 0], .bool false, .int .i64 2]) (results_tctt Try.results6 _ _ (w.heap.size + 1) 23 _ (0, 0) _ rfl (hs_drew (hs_same (hs_same G1.out))) Try.underlying23 rfl (by kernel_rfl)) rfl ⟨rfl, ?_⟩
  exact ((((((Below.refl _ w).alloc (Nat.le_refl _) _).alloc (by simp) _).trans (HB1.out.mono (by simp; omega))).setCell (by simp) _).setCell (by simp) _).drew
set_option maxHeartbeats 2000000 in
theorem next_last (b : Int) (w : World)  (hm : mayB 1048577 b = true) :
    Calls Try.prog 6 #[.agg #[.int .i64 1048577, .int .i64 b]] w fun e w' => e = .returned (.tuple #[.int .i64 0, .agg #[.int .i64 0, .int .i64 0], .bool false, .int .i64 190]) ∧ Below w.heap.size w w' := by
  have HM := hidd hm
  clear hm
  go_enter Try.func6, Try.ntmps6
  go_wp2_with fail
  go_step3
  go_wp2_with (go_at_call 17; refine (may_any _ _ _).mono ?_; rintro e w1 ⟨rfl, hb1⟩; rw [HM.out]; have g1' := blk_below hb1 (heap_alloc2_new w _ _) (by simp); obtain ⟨k1, f1⟩ := blk g1'; have G1 := hidd g1'; clear g1'; obtain ⟨k0, f0⟩ := blk (blk_below hb1 (heap_alloc2_old w _ _) (by simp; omega)); have HB1 := hidd hb1; clear hb1)
  go_step3
  go_wp2
  refine wp_loop_once ?_
  go_wp2
  go_region
  go_wp2
  rw [Exit.noGoto_ret]
  refine bodyPost_ret (v := .tuple #[.int .i64 0, .agg #[.int .i64 0, .int .i64 0], .bool false, .int .i64 190]) (results_tctt Try.results6 _ _ (w.heap.size + 1) 23 _ (0, 0) _ rfl (hs_drew (hs_same (hs_same G1.out))) Try.underlying23 rfl (by kernel_rfl)) rfl ⟨rfl, ?_⟩
  have B1 := (((Below.refl _ w).alloc (Nat.le_refl _) (.cells #[.int .i64 1048577, .int .i64 b] 23)).alloc (by simp) (.cells #[.int .i64 0, .int .i64 0] 23)).trans (HB1.out.mono (by simp; omega))
  exact ((B1.setCell (by simp) _).setCell (by simp) _).drew
set_option maxHeartbeats 2000000 in
theorem next_bound (n : Int) (w : World) (hn : n ≠ 1048577) (hm : mayB n n = true) :
    Calls Try.prog 6 #[.agg #[.int .i64 n, .int .i64 n]] w fun e w' => e = .returned (.tuple #[.int .i64 0, .agg #[.int .i64 n, .int .i64 n], .bool true, .int .i64 0]) ∧ Below w.heap.size w w' := by
  have HM := hidd hm
  have g1 : (n == 1048577) = false := by simpa using hn
  clear hn
  clear hm
  go_enter Try.func6, Try.ntmps6
  go_wp2_with fail
  go_step3
  go_wp2_with (go_at_call 17; refine (may_any _ _ _).mono ?_; rintro e w1 ⟨rfl, hb1⟩; rw [HM.out]; have g1' := blk_below hb1 (heap_alloc2_new w _ _) (by simp); obtain ⟨k1, f1⟩ := blk g1'; have G1 := hidd g1'; clear g1'; obtain ⟨k0, f0⟩ := blk (blk_below hb1 (heap_alloc2_old w _ _) (by simp; omega)); have HB1 := hidd hb1; clear hb1)
  go_step3
  go_wp2
  refine wp_loop_once ?_
  go_wp2
  go_region
  go_wp2
  rw [Exit.noGoto_ret]
  refine bodyPost_ret (v := .tuple #[.int .i64 0, .agg #[.int .i64 n, .int .i64 n], .bool true, .int .i64 0]) (results_tctt Try.results6 _ _ (w.heap.size + 1) 23 _ (0, 0) _ rfl (hs_drew (hs_same (hs_same (hs_same (hs_same G1.out))))) Try.underlying23 rfl (by kernel_rfl)) rfl ⟨rfl, ?_⟩
  have B1 := (((Below.refl _ w).alloc (Nat.le_refl _) (.cells #[.int .i64 n, .int .i64 n] 23)).alloc (by simp) (.cells #[.int .i64 0, .int .i64 0] 23)).trans (HB1.out.mono (by simp; omega))
  exact ((((B1.setCell (by simp) _).setCell (by simp) _).setCell (by simp) _).setCell (by simp) _).drew
set_option maxHeartbeats 2000000 in
theorem next_one (n b : Int) (w : World) (hn : n ≠ 1048577) (hb : n ≠ b) (hm : mayB n b = true) :
    Calls Try.prog 6 #[.agg #[.int .i64 n, .int .i64 b]] w fun e w' => e = .returned (.tuple #[.int .i64 n, .agg #[.int .i64 (n + 1), .int .i64 b], .bool false, .int .i64 0]) ∧ Below w.heap.size w w' := by
  have HM := hidd hm
  have g1 : (n == 1048577) = false := by simpa using hn
  have g2 : (n == b) = false := by simpa using hb
  have hq : 1 ≤ n ∧ n ≤ b ∧ b ≤ 1048577 := by simpa [mayB] using hm
  obtain ⟨q1, q2, q3⟩ := hq
  clear hn hb
  clear hm
  go_enter Try.func6, Try.ntmps6
  go_wp2_with fail
  go_step3
  go_wp2_with (go_at_call 17; refine (may_any _ _ _).mono ?_; rintro e w1 ⟨rfl, hb1⟩; rw [HM.out]; have g1' := blk_below hb1 (heap_alloc2_new w _ _) (by simp); obtain ⟨k1, f1⟩ := blk g1'; have G1 := hidd g1'; clear g1'; obtain ⟨k0, f0⟩ := blk (blk_below hb1 (heap_alloc2_old w _ _) (by simp; omega)); have HB1 := hidd hb1; clear hb1)
  go_step3
  go_wp2
  refine wp_loop_once ?_
  go_wp2
  go_region
  go_wp2
  rw [Exit.noGoto_ret]
  refine bodyPost_ret (v := .tuple #[.int .i64 n, .agg #[.int .i64 (n + 1), .int .i64 b], .bool false, .int .i64 0]) (results_tctt Try.results6 _ _ (w.heap.size + 1) 23 _ (0, 0) _ rfl (hs_drew (hs_same (hs_same (hs_same (hs_same (hs_other G1.out (by simp))))))) Try.underlying23 rfl (by kernel_rfl)) rfl ⟨rfl, ?_⟩
  have B1 := (((Below.refl _ w).alloc (Nat.le_refl _) (.cells #[.int .i64 n, .int .i64 b] 23)).alloc (by simp) (.cells #[.int .i64 0, .int .i64 0] 23)).trans (HB1.out.mono (by simp; omega))
  exact (((((B1.setCell (by simp) _).setCell (by simp) _).setCell (by simp) _).setCell (by simp) _).setCell (by simp) _).drew
end Go.Proofs.Ytfmadgaknaflfaa
