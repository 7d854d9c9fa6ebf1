import Derived.Test.YtflmeannmfhhhaaS7
namespace Go.Proofs.Ytflmeannmfhhhaa
open Go.RowKit
def wz : List Int := [1, 2, 1, 2, 1, 2, 1, 2]
abbrev wzA : Array Value := #[.int .i64 0, .int .i64 1, .int .i64 2, .int .i64 1, .int .i64 2, .int .i64 1, .int .i64 2, .int .i64 1, .int .i64 2]
theorem wz_place : plE 0 wz 9 = (1, 5, 0) := by decide +kernel
theorem wz_block : blE 0 wz 1 5 = (9, 0) := by decide +kernel
theorem wz_chR : chR 0 wz 0 2 = 0 := by decide +kernel
theorem wz_chM : chM 0 wz 0 2 = [1, 2, 2, 1, 2, 1, 2, 1, 2] := by decide +kernel
theorem place_wz (W : World) : Calls Try.prog 10 #[.agg wzA, .int .i64 9] W fun e w' => e = .returned (.tuple #[.int .i64 1, .int .i64 5, .int .i64 0]) ∧ Below W.heap.size W w' := by
  have h := place_any 0 wz 9 rfl W
  rw [wz_place] at h
  exact h
theorem block_wz (W : World) : Calls Try.prog 19 #[.agg wzA, .int .i64 1, .int .i64 5] W fun e w' => e = .returned (.tuple #[.int .i64 9, .int .i64 0]) ∧ Below W.heap.size W w' := by
  have h := block_any 0 wz 1 5 rfl W
  rw [wz_block] at h
  exact h
theorem change_wz (W : World) : Calls Try.prog 8 #[.agg wzA, .agg #[.int .i64 0, .int .i64 2]] W fun e w' => e = .returned (.tuple #[.agg #[.int .i64 1, .int .i64 2, .int .i64 2, .int .i64 1, .int .i64 2, .int .i64 1, .int .i64 2, .int .i64 1, .int .i64 2], .int .i64 0]) ∧ Below W.heap.size W w' := by
  have h := change_any 0 wz 0 2 rfl W
  rw [wz_chR, wz_chM] at h
  exact h
theorem wz_sz : (Try.prog.info? 24).map (·.size) = some wzA.size := by kernel_rfl
set_option maxHeartbeats 4000000 in
theorem wakes22 (W : World) : Calls Try.prog 9 #[] W fun e w' => e = .returned (.bool true) ∧ Below W.heap.size W w' := by
  have HG := hidd (heap_alloc_last W (.cells wzA 24))
  go_enter Try.func9, Try.ntmps9
  go_wp2_with (first | (go_at_call 10; refine (place_wz _).mono ?_; rintro e w1 ⟨rfl, hb1⟩; have HB1 := hidd hb1; have HG1 := hidd (blk_below hb1 HG.out (by simp)); clear hb1) | (with_reducible refine wpList_load_row rfl 24 (.tmp 1) rfl W.heap.size rfl 24 wzA (0, 0) _ HG1.out Try.underlying24 rfl wz_sz ?_) | (go_at_call 19; refine (block_wz _).mono ?_; rintro e w2 ⟨rfl, hb2⟩; have HB2 := hidd hb2; have HG2 := hidd (blk_below hb2 HG1.out (Array.getElem?_eq_some_iff.1 HG1.out).1); clear hb2) | (with_reducible refine wpList_load_row rfl 24 (.tmp 1) rfl W.heap.size rfl 24 wzA (0, 0) _ HG2.out Try.underlying24 rfl wz_sz ?_) | (go_at_call 8; refine (change_wz _).mono ?_; rintro e w3 ⟨rfl, hb3⟩; have HB3 := hidd hb3; clear hb3))
  go_ret
  have h1 := ((Below.refl _ W).alloc (Nat.le_refl _) (.cells wzA 24)).trans (HB1.out.mono (by simp))
  have h2 := h1.trans (HB2.out.mono h1.size)
  have h3 := h2.trans (HB3.out.mono h2.size)
  exact ⟨rfl, h3.alloc h3.size _⟩
end Go.Proofs.Ytflmeannmfhhhaa
