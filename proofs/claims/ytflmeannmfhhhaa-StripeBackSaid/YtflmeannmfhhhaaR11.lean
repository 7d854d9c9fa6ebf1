import Derived.Test.YtflmeannmfhhhaaR9
import Derived.Test.YtflmeannmfhhhaaR10
namespace Go.Proofs.Ytflmeannmfhhhaa
open Go.RowKit
set_option maxRecDepth 100000 in
set_option maxHeartbeats 2000000 in
theorem next_no (z : List Int) (s : Int) (hz : z.length = 8) (W : World) (hm : (z.all shardB && shardB s) = false) :
    Calls Try.prog 13 #[.agg (is .i64 z).toArray, .int .i64 s] W fun e w' => e = .returned (.tuple #[.agg #[.int .i64 0, .int .i64 0], .bool false]) ∧ Below W.heap.size W w' := by
  have HZ := hidd hz
  have HM := hidd hm
  clear hz hm
  go_enter Try.func13, Try.ntmps13
  go_wp2_with fail
  go_step3
  go_wp2_with (with_reducible refine wpList_load_row rfl 22 (.tmp 2) rfl W.heap.size rfl 22 (is .i64 z).toArray (0, 0) _ (h2 W _ _).1 Try.underlying22 rfl (sz22 z HZ.out) ?_)
  refine (may_any z HZ.out _).mono ?_
  rintro e w1 ⟨rfl, hb1⟩
  have G1 := hidd (blk_below hb1 (h2 W _ _).2 (by simp))
  have HB := hidd (((((Below.refl _ W).alloc (Nat.le_refl _) _).alloc (by simp) _)).trans (hb1.mono (by simp; omega)))
  obtain ⟨k5, f5⟩ := blk G1.out
  clear hb1
  cases ha : z.all shardB
  · go_wp2
    try rw [Exit.noGoto_ret]
    refine bodyPost_ret (results_cell_one Try.results13 _ _ (W.heap.size + 1) 26 #[.int .i64 0, .int .i64 0] (0, 0) _ rfl (hs_same (hs_same G1.out)) Try.underlying26 rfl (by kernel_rfl)) rfl ⟨rfl, ?_⟩
    exact (HB.out.setCell (by simp) _).setCell (by simp) _
  · have hs : shardB s = false := by have := HM.out; rwa [ha, Bool.true_and] at this
    have HS := hidd hs
    clear hs ha
    go_wp2_with (go_at_call 27; refine (shard_any _ _).mono ?_; rintro e w' ⟨rfl, rfl⟩; rw [HS.out])
    try rw [Exit.noGoto_ret]
    refine bodyPost_ret (results_cell_one Try.results13 _ _ (W.heap.size + 1) 26 #[.int .i64 0, .int .i64 0] (0, 0) _ rfl (hs_same (hs_same G1.out)) Try.underlying26 rfl (by kernel_rfl)) rfl ⟨rfl, ?_⟩
    exact (HB.out.setCell (by simp) _).setCell (by simp) _
def zw : List Int := [1, 2, 1, 2, 1, 2, 1, 2]
set_option maxHeartbeats 2000000 in
theorem wakes23 (W : World) :
    Calls Try.prog 14 #[] W fun e w' => e = .returned (.bool true) ∧ Below W.heap.size W w' := by
  have h1 : farI (ldN zw 8) 3 = none := by decide +kernel
  have h2 : 1 < (((ldN zw 8).take 3).getD (hiI (ldN zw 8) 3) (0, 0)).1 - (((ldN zw 8).take 3).getD (loI (ldN zw 8) 3) (0, 0)).1 := by decide +kernel
  have h3 : (((ldN zw 8).take 3).getD (hiI (ldN zw 8) 3) (0, 0)).2 = 6 := by decide +kernel
  have h4 : loI (ldN zw 8) 3 = 2 := by decide +kernel
  have H1 := hidd h1
  have H2 := hidd h2
  have H3 := hidd h3
  have H4 := hidd h4
  clear h1 h2 h3 h4
  go_enter Try.func14, Try.ntmps14
  go_wp2_with fail
  refine (next_move zw 3 H1.out H2.out rfl _ (by decide) (by decide) (by decide)).mono ?_
  rintro e w1 ⟨rfl, hb1⟩
  rw [H3.out, H4.out]
  go_wp2
  go_ret
  exact ⟨rfl, hb1.alloc hb1.size _⟩
end Go.Proofs.Ytflmeannmfhhhaa
