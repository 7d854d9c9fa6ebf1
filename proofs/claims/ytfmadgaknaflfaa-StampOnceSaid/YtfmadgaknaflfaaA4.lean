import Derived.Test.YtfmadgaknaflfaaA3
import Derived.Deep.RegionHeld
namespace Go.Proofs.Ytfmadgaknaflfaa
open Go.RowKit
set_option maxHeartbeats 2000000 in
theorem left_A (n b : Int) (w : World) (hm : mayB n b = false) :
    Calls Try.prog 3 #[.agg #[.int .i64 n, .int .i64 b]] w fun e w' => e = .returned (.bool true) ∧ Below w.heap.size w w' := by
  have HM := hidd hm
  have HL := hidd (show (if mayB n b = true then 1048577 - n else 0) = 0 by rw [hm]; simp)
  clear hm
  go_enter Try.func3, Try.ntmps3
  go_wp2_with fail
  refine (next_no n b _ HM.out).mono ?_
  rintro e w1 ⟨rfl, hb1⟩
  have g0' := blk_below hb1 (heap_alloc_new w _) (by simp)
  obtain ⟨k0, f0⟩ := blk g0'
  have HB1 := hidd (((Below.refl _ w).alloc (Nat.le_refl _) (.cells #[.int .i64 n, .int .i64 b] 23)).trans (hb1.mono (by simp)))
  have hs := HB1.out.size
  have hs1 : w.heap.size < w1.heap.size := by have := hb1.size; simp at this; omega
  have HG := hidd g0'
  clear hb1 g0'
  go_wp2_with fail
  refine (left_any n b _).mono ?_
  rintro e w2 ⟨rfl, hb2⟩
  have HB2 := hidd ((HB1.out.alloc HB1.out.size (.cells #[.int .i64 0, .int .i64 0] 23)).trans (hb2.mono (by simp; omega)))
  clear hb2
  rw [HL.out]
  go_wp2_with fail
  refine (wakes_any _).mono ?_
  rintro e w3 ⟨rfl, hb3⟩
  go_wp2
  go_ret
  exact ⟨rfl, HB2.out.trans (hb3.mono HB2.out.size)⟩
set_option maxHeartbeats 2000000 in
theorem left_B (b : Int) (w : World) (hm : mayB 1048577 b = true) :
    Calls Try.prog 3 #[.agg #[.int .i64 1048577, .int .i64 b]] w fun e w' => e = .returned (.bool true) ∧ Below w.heap.size w w' := by
  have HM := hidd hm
  have HL := hidd (show (if mayB 1048577 b = true then 1048577 - (1048577 : Int) else 0) = 0 by rw [hm]; simp)
  clear hm
  go_enter Try.func3, Try.ntmps3
  go_wp2_with fail
  refine (next_last b _ HM.out).mono ?_
  rintro e w1 ⟨rfl, hb1⟩
  have g0' := blk_below hb1 (heap_alloc_new w _) (by simp)
  obtain ⟨k0, f0⟩ := blk g0'
  have HB1 := hidd (((Below.refl _ w).alloc (Nat.le_refl _) (.cells #[.int .i64 1048577, .int .i64 b] 23)).trans (hb1.mono (by simp)))
  have hs := HB1.out.size
  have hs1 : w.heap.size < w1.heap.size := by have := hb1.size; simp at this; omega
  have HG := hidd g0'
  clear hb1 g0'
  go_wp2_with fail
  refine (left_any 1048577 b _).mono ?_
  rintro e w2 ⟨rfl, hb2⟩
  have HB2 := hidd ((HB1.out.alloc HB1.out.size (.cells #[.int .i64 0, .int .i64 0] 23)).trans (hb2.mono (by simp; omega)))
  clear hb2
  rw [HL.out]
  go_wp2_with fail
  refine (wakes_any _).mono ?_
  rintro e w3 ⟨rfl, hb3⟩
  go_wp2
  go_ret
  exact ⟨rfl, HB2.out.trans (hb3.mono HB2.out.size)⟩
set_option maxHeartbeats 2000000 in
theorem left_C (n : Int) (w : World) (hn : n ≠ 1048577) (hm : mayB n n = true) :
    Calls Try.prog 3 #[.agg #[.int .i64 n, .int .i64 n]] w fun e w' => e = .returned (.bool true) ∧ Below w.heap.size w w' := by
  have HM := hidd hm
  have HN := hidd hn
  clear hm hn
  go_enter Try.func3, Try.ntmps3
  go_wp2_with fail
  refine (next_bound n _ HN.out HM.out).mono ?_
  rintro e w1 ⟨rfl, hb1⟩
  have g0' := blk_below hb1 (heap_alloc_new w _) (by simp)
  obtain ⟨k0, f0⟩ := blk g0'
  have HB1 := hidd (((Below.refl _ w).alloc (Nat.le_refl _) (.cells #[.int .i64 n, .int .i64 n] 23)).trans (hb1.mono (by simp)))
  have hs := HB1.out.size
  have hs1 : w.heap.size < w1.heap.size := by have := hb1.size; simp at this; omega
  have HG := hidd g0'
  clear hb1 g0'
  go_wp2_with fail
  refine (wakes_any _).mono ?_
  rintro e w3 ⟨rfl, hb3⟩
  go_wp2
  go_ret
  exact ⟨rfl, (HB1.out.alloc HB1.out.size _).trans (hb3.mono (by simp; omega))⟩
set_option maxHeartbeats 2000000 in
theorem left_D (n b : Int) (w : World) (hn : n ≠ 1048577) (hb : n ≠ b) (hm : mayB n b = true) :
    Calls Try.prog 3 #[.agg #[.int .i64 n, .int .i64 b]] w fun e w' => e = .returned (.bool true) ∧ Below w.heap.size w w' := by
  have HM := hidd hm
  have HN := hidd hn
  have HNB := hidd hb
  clear hm hn hb
  go_enter Try.func3, Try.ntmps3
  go_wp2_with fail
  refine (next_one n b _ HN.out HNB.out HM.out).mono ?_
  rintro e w1 ⟨rfl, hb1⟩
  have g0' := blk_below hb1 (heap_alloc_new w _) (by simp)
  obtain ⟨k0, f0⟩ := blk g0'
  have HB1 := hidd (((Below.refl _ w).alloc (Nat.le_refl _) (.cells #[.int .i64 n, .int .i64 b] 23)).trans (hb1.mono (by simp)))
  have hs := HB1.out.size
  have hs1 : w.heap.size < w1.heap.size := by have := hb1.size; simp at this; omega
  have HG := hidd g0'
  clear hb1 g0'
  go_wp2_with fail
  have hq : 1 ≤ n ∧ n ≤ b ∧ b ≤ 1048577 := by have := HM.out; simpa [mayB] using this
  have hm2 : mayB (n + 1) b = true := by have := HNB.out; simp [mayB]; omega
  have HL1 := hidd (show (if mayB (n + 1) b = true then 1048577 - (n + 1) else 0) = 1048577 - n - 1 by rw [hm2]; simp; omega)
  have HL2 := hidd (show (if mayB n b = true then 1048577 - n else 0) = 1048577 - n by rw [HM.out]; simp)
  have e1 : IntKind.i64.wrap (1048577 - n - 1) = 1048577 - n - 1 := IntWalk.i64_in _ (by omega)
  obtain ⟨q1, q2, q3⟩ := hq
  clear hm2
  obtain ⟨W1, hW1⟩ : ∃ W1, W1 = w1.alloc (.cells #[.int .i64 (n + 1), .int .i64 b] 23) := ⟨_, rfl⟩
  have c1 := blk_all (show W1.heap[w1.heap.size]? = some (.cells #[.int .i64 (n + 1), .int .i64 b] 23 (0, 0)) by rw [hW1]; exact heap_alloc_new w1 _)
  have c0 := blk_all (show W1.heap[w.heap.size]? = some (.cells #[.int .i64 n, .int .i64 b] 23 (0, 0)) by rw [hW1]; exact (heap_alloc_old w1 _ hs1).trans HG.out)
  have HW := hidd (show Below w.heap.size w W1 by rw [hW1]; exact HB1.out.alloc HB1.out.size _)
  rw [← hW1]
  clear hW1 k0 f0 HG hs hs1
  refine wp_region_held_drew (S := fun w' => Below W1.heap.size W1 w') (by kernel_rfl) ((Below.refl _ W1).drew) (fun hH => ?_)
  refine take_at 0 45 (v := ?_) rfl rfl (by kernel_rfl) (by kernel_rfl) (by kernel_rfl) (fun _ _ _ h => h) (Or.inl ⟨by rfl, ?_⟩) hH ?_
  rotate_left
  · (intro w9 hSw; (try dsimp only at hSw); go_simp) <;> with_reducible rfl
  try simp only [Act.put, List.setIfInBounds_toArray, List.set_cons_zero, List.set_cons_succ]
  refine take_at 2 47 (v := ?_) rfl rfl (by kernel_rfl) (by kernel_rfl) (by kernel_rfl) (fun _ _ _ h => h) (Or.inl ⟨by rfl, ?_⟩) hH ?_
  rotate_left
  · (intro w9 hSw; (try dsimp only at hSw); go_simp) <;> with_reducible rfl
  try simp only [Act.put, List.setIfInBounds_toArray, List.set_cons_zero, List.set_cons_succ]
  refine wpAnyH_ready (rs := [1]) (by kernel_rfl) (by simp) ?_
  refine AllReadyH.cons rfl (fun K hK => ?_) AllReadyH.nil
  go_simp
  refine (left_any (n + 1) b _).mono ?_
  rintro e w2 ⟨rfl, hb2⟩
  have D2 := ((Below.refl W1.heap.size W1).drew).trans hb2
  clear hb2
  rw [HL1.out]
  dsimp only
  refine hK.out _ _ (D2) (fun hH1 => ?_)
  clear hK K
  clear hH; have hH := hH1; clear hH1
  try simp only [Act.put, List.setIfInBounds_toArray, List.set_cons_zero, List.set_cons_succ]
  refine wpAnyH_ready (rs := [3]) (by kernel_rfl) (by simp) ?_
  refine AllReadyH.cons rfl (fun K hK => ?_) AllReadyH.nil
  go_simp
  refine (left_any n b _).mono ?_
  rintro e w3 ⟨rfl, hb3⟩
  have D3 := D2.trans (hb3.mono D2.size)
  clear hb3
  rw [HL2.out]
  dsimp only
  refine hK.out _ _ (D3) (fun hH3 => ?_)
  clear hK K
  clear hH; have hH := hH3; clear hH3
  try simp only [Act.put, List.setIfInBounds_toArray, List.set_cons_zero, List.set_cons_succ]
  refine take_at 4 49 (v := ?_) rfl rfl (by kernel_rfl) (by kernel_rfl) (by kernel_rfl) (fun _ _ _ h => h) (Or.inl ⟨by rfl, ?_⟩) hH ?_
  rotate_left
  · (intro w9 hSw; (try dsimp only at hSw); go_simp) <;> with_reducible rfl
  try simp only [Act.put, List.setIfInBounds_toArray, List.set_cons_zero, List.set_cons_succ]
  refine take_at 5 50 (v := ?_) rfl rfl (by kernel_rfl) (by kernel_rfl) (by kernel_rfl) (fun _ _ _ h => h) (Or.inl ⟨by rfl, ?_⟩) hH ?_
  rotate_left
  · (intro w9 hSw; (try dsimp only at hSw); go_simp) <;> with_reducible rfl
  try simp only [Act.put, List.setIfInBounds_toArray, List.set_cons_zero, List.set_cons_succ]
  refine take_at 6 51 (v := ?_) rfl rfl (by kernel_rfl) (by kernel_rfl) (by kernel_rfl) (fun _ _ _ h => h) (Or.inl ⟨by rfl, ?_⟩) hH ?_
  rotate_left
  · (intro w9 hSw; (try dsimp only at hSw); go_simp) <;> with_reducible rfl
  try simp only [Act.put, List.setIfInBounds_toArray, List.set_cons_zero, List.set_cons_succ]
  refine take_at 7 52 (v := ?_) rfl rfl (by kernel_rfl) (by kernel_rfl) (by kernel_rfl) (fun _ _ _ h => h) (Or.inl ⟨by rfl, ?_⟩) hH ?_
  rotate_left
  · (intro w9 hSw; (try dsimp only at hSw); go_simp) <;> with_reducible rfl
  try simp only [Act.put, List.setIfInBounds_toArray, List.set_cons_zero, List.set_cons_succ]
  refine take_at 8 53 (v := ?_) rfl rfl (by kernel_rfl) (by kernel_rfl) (by kernel_rfl) (fun _ _ _ h => h) (Or.inl ⟨by rfl, ?_⟩) hH ?_
  rotate_left
  · (intro w9 hSw; (try dsimp only at hSw); go_simp) <;> with_reducible rfl
  try simp only [Act.put, List.setIfInBounds_toArray, List.set_cons_zero, List.set_cons_succ]
  refine take_at 9 54 (v := ?_) rfl rfl (by kernel_rfl) (by kernel_rfl) (by kernel_rfl) (fun _ _ _ h => h) (Or.inl ⟨by rfl, ?_⟩) hH ?_
  rotate_left
  · (intro w9 hSw; (try dsimp only at hSw); go_simp) <;> with_reducible rfl
  try simp only [Act.put, List.setIfInBounds_toArray, List.set_cons_zero, List.set_cons_succ]
  refine take_at 10 55 (v := ?_) rfl rfl (by kernel_rfl) (by kernel_rfl) (by kernel_rfl) (fun _ _ _ h => h) (Or.inl ⟨by rfl, ?_⟩) hH ?_
  rotate_left
  · (intro w9 hSw; (try dsimp only at hSw); go_simp) <;> with_reducible rfl
  try simp only [Act.put, List.setIfInBounds_toArray, List.set_cons_zero, List.set_cons_succ]
  refine take_at 11 56 (v := ?_) rfl rfl (by kernel_rfl) (by kernel_rfl) (by kernel_rfl) (fun _ _ _ h => h) (Or.inl ⟨by rfl, ?_⟩) hH ?_
  rotate_left
  · (intro w9 hSw; (try dsimp only at hSw); go_simp) <;> with_reducible rfl
  try simp only [Act.put, List.setIfInBounds_toArray, List.set_cons_zero, List.set_cons_succ]
  refine take_at 12 57 (v := ?_) rfl rfl (by kernel_rfl) (by kernel_rfl) (by kernel_rfl) (fun _ _ _ h => h) (Or.inl ⟨by rfl, ?_⟩) hH ?_
  rotate_left
  · (intro w9 hSw; (try dsimp only at hSw); go_simp) <;> with_reducible rfl
  try simp only [Act.put, List.setIfInBounds_toArray, List.set_cons_zero, List.set_cons_succ]
  refine wpAnyH_ready (rs := [13]) (by kernel_rfl) (by simp) ?_
  refine AllReadyH.cons rfl (fun K hK => ?_) AllReadyH.nil
  go_simp
  refine (wakes_any _).mono ?_
  rintro e w4 ⟨rfl, hb4⟩
  have D4 := D3.trans (hb4.mono D3.size)
  clear hb4
  dsimp only
  refine hK.out _ _ (D4) (fun hH13 => ?_)
  clear hK K
  clear hH; have hH := hH13; clear hH13
  try simp only [Act.put, List.setIfInBounds_toArray, List.set_cons_zero, List.set_cons_succ]
  refine take_at 14 59 (v := ?_) rfl rfl (by kernel_rfl) (by kernel_rfl) (by kernel_rfl) (fun _ _ _ h => h) (Or.inl ⟨by rfl, ?_⟩) hH ?_
  rotate_left
  · (intro w9 hSw; (try dsimp only at hSw); go_simp) <;> with_reducible rfl
  try simp only [Act.put, List.setIfInBounds_toArray, List.set_cons_zero, List.set_cons_succ]
  refine take_at 15 2 (v := ?_) rfl rfl (by kernel_rfl) (by kernel_rfl) (by kernel_rfl) (fun _ _ _ h => h) (Or.inl ⟨by rfl, ?_⟩) hH ?_
  rotate_left
  · (intro w9 hSw; (try dsimp only at hSw); go_simp) <;> with_reducible rfl
  try simp only [Act.put, List.setIfInBounds_toArray, List.set_cons_zero, List.set_cons_succ]
  refine wpAnyH_done (by kernel_rfl) ?_ _
  go_wp2
  go_ret
  exact ⟨rfl, HW.out.trans (D4.mono HW.out.size)⟩
end Go.Proofs.Ytfmadgaknaflfaa
