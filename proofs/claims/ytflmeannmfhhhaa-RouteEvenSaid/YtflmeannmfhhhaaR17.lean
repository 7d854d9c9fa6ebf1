import Derived.Test.YtflmeannmfhhhaaR16
import Derived.Test.YtflmeannmfhhhaaR13
namespace Go.Proofs.Ytflmeannmfhhhaa
open Go.RowKit
set_option maxRecDepth 100000 in
set_option maxHeartbeats 2000000 in
theorem even_no (z : List Int) (s : Int) (hz : z.length = 8) (W : World) (hm : (z.all shardB && shardB s) = false) :
    Calls Try.prog 4 #[.agg (is .i64 z).toArray, .int .i64 s] W fun e w' => e = .returned (.bool true) ∧ Below W.heap.size W w' := by
  have HZ := hidd hz
  have HM := hidd hm
  clear hz hm
  go_enter Try.func4, Try.ntmps4
  go_wp2_with (with_reducible refine wpList_load_new rfl 22 (.tmp 2) rfl (is .i64 z).toArray 22 rfl _ Try.underlying22 rfl (sz22 z HZ.out) ?_)
  refine (may_any z HZ.out _).mono ?_
  rintro e w1 ⟨rfl, hb1⟩
  have G1 := hidd (blk_below hb1 (heap_alloc_new W _) (by simp))
  have HB := hidd (((Below.refl _ W).alloc (Nat.le_refl _) (.cells (is .i64 z).toArray 22)).trans (hb1.mono (by simp)))
  clear hb1
  cases ha : z.all shardB
  · go_wp2_with (first | (with_reducible refine wpList_load_row rfl 22 (.tmp 2) rfl W.heap.size rfl 22 (is .i64 z).toArray (0, 0) _ G1.out Try.underlying22 rfl (sz22 z HZ.out) ?_) | (go_at_call 13; refine (next_no z s HZ.out _ HM.out).mono ?_; rintro e w2 ⟨rfl, hb2⟩) | (go_at_call 14; refine (wakes23 _).mono ?_; rintro e w3 ⟨rfl, hb3⟩))
    go_ret
    exact ⟨rfl, HB.out.trans (((hb2.alloc hb2.size _).mono HB.out.size).trans (hb3.mono (by have := hb2.size; have := HB.out.size; simp; omega)))⟩
  · have hs := HM.out
    rw [ha, Bool.true_and] at hs
    by_cases h1 : s < 1
    · clear hs
      go_wp2_with (first | (with_reducible refine wpList_load_row rfl 22 (.tmp 2) rfl W.heap.size rfl 22 (is .i64 z).toArray (0, 0) _ G1.out Try.underlying22 rfl (sz22 z HZ.out) ?_) | (go_at_call 13; refine (next_no z s HZ.out _ HM.out).mono ?_; rintro e w2 ⟨rfl, hb2⟩) | (go_at_call 14; refine (wakes23 _).mono ?_; rintro e w3 ⟨rfl, hb3⟩))
      go_ret
      exact ⟨rfl, HB.out.trans (((hb2.alloc hb2.size _).mono HB.out.size).trans (hb3.mono (by have := hb2.size; have := HB.out.size; simp; omega)))⟩
    · have h4 : 4 < s := by
        by_cases h : s ≤ 4
        · have e : shardB s = true := by simp [shardB]; omega
          rw [e] at hs
          cases hs
        · omega
      clear hs
      go_wp2_with (first | (with_reducible refine wpList_load_row rfl 22 (.tmp 2) rfl W.heap.size rfl 22 (is .i64 z).toArray (0, 0) _ G1.out Try.underlying22 rfl (sz22 z HZ.out) ?_) | (go_at_call 13; refine (next_no z s HZ.out _ HM.out).mono ?_; rintro e w2 ⟨rfl, hb2⟩) | (go_at_call 14; refine (wakes23 _).mono ?_; rintro e w3 ⟨rfl, hb3⟩))
      go_ret
      exact ⟨rfl, HB.out.trans (((hb2.alloc hb2.size _).mono HB.out.size).trans (hb3.mono (by have := hb2.size; have := HB.out.size; simp; omega)))⟩
end Go.Proofs.Ytflmeannmfhhhaa
