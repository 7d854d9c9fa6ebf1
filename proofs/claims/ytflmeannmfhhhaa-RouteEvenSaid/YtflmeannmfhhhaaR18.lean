import Derived.Test.YtflmeannmfhhhaaR17
namespace Go.Proofs.Ytflmeannmfhhhaa
open Go.RowKit
set_option maxRecDepth 100000 in
set_option maxHeartbeats 8000000 in
theorem even_yes (z0 : List Int) (s : Nat) (hz : z0.length = 8) (W : World) (ha : z0.all shardB = true) (s1 : 0 < s) (s4 : s ≤ 4) :
    Calls Try.prog 4 #[.agg (is .i64 z0).toArray, .int .i64 s] W fun e w' => e = .returned (.bool true) ∧ Below W.heap.size W w' := by
  have HZ := hidd hz
  have HA := hidd ha
  have t0 : (0 : Int) ≤ (s : Int) := by omega
  have t1 : (1 : Int) ≤ (s : Int) := by omega
  have t4 : (s : Int) ≤ 4 := by omega
  clear hz ha
  go_enter Try.func4, Try.ntmps4
  go_wp2_with (with_reducible refine wpList_load_new rfl 22 (.tmp 2) rfl (is .i64 z0).toArray 22 rfl _ Try.underlying22 rfl (sz22 z0 HZ.out) ?_)
  refine (may_any z0 HZ.out _).mono ?_
  rintro e w1 ⟨rfl, hb1⟩
  rw [HA.out]
  have G1 := hidd (blk_below hb1 (heap_alloc_new W _) (by simp))
  have HB := hidd (((Below.refl _ W).alloc (Nat.le_refl _) (.cells (is .i64 z0).toArray 22)).trans (hb1.mono (by simp)))
  have hz1 : W.heap.size < w1.heap.size := by have := hb1.size; simp at this; omega
  clear hb1
  go_wp2_with fail
  go_loopw [7] (fun m wr => ∃ (n : Nat) (z : List Int), m = .int .i64 n ∧ z.length = 8 ∧ z.all shardB = true ∧ phi z s + n ≤ 8 ∧ wr.heap[W.heap.size]? = some (.cells (is .i64 z).toArray 22 (0, 0)) ∧ W.heap.size < wr.heap.size ∧ Below W.heap.size W wr) (fun m _ => 9 - (intOf m).toNat)
  case atStart => exact ⟨0, z0, rfl, HZ.out, HA.out, by have := phi_le z0 s HZ.out HA.out; omega, G1.out, hz1, HB.out⟩
  case round =>
    obtain ⟨n, z, rfl, hz, ha, hphi, hg, hsz, hbel⟩ := hrel
    obtain ⟨wo, rfl⟩ : ∃ wo, wo = wr := ⟨_, rfl⟩
    have HZ' := hidd hz
    have HA' := hidd ha
    have HG := hidd hg
    have HW := hidd hbel
    clear hz ha hg hbel
    cases hn : nextO z s with
    | some p =>
      obtain ⟨i, t⟩ := p
      obtain ⟨hi8, ⟨q, hq, hqt⟩, ht1, hts, hps⟩ := nextO_some z s i t HZ'.out HA'.out s1 s4 hn
      have HN := hidd hn
      have HQ := hidd hq
      have HP := hidd hps
      have hn8 : (n : Int) < 8 := by omega
      have n0 : (0 : Int) ≤ (n : Int) := by omega
      have i0 : (0 : Int) ≤ (i : Int) := by omega
      have i8 : (i : Int) < 8 := by omega
      have qt : ((q : Int) == (t : Int)) = false := by simp; omega
      have t1' : (1 : Int) ≤ (t : Int) := by omega
      have ts' : (t : Int) ≤ (s : Int) := by omega
      have q1 : decide ((8 : Int) ≤ (n : Int)) = false := by simp; omega
      have q2 : decide ((i : Int) < 0) = false := by simp
      have q3 : decide ((8 : Int) ≤ (i : Int)) = false := by simp; omega
      have q4 : decide ((t : Int) < 1) = false := by simp; omega
      have q5 : decide ((s : Int) < (t : Int)) = false := by simp; omega
      have q6 : decide (s < t) = false := by simp; omega
      have q7 : decide (8 ≤ n) = false := by simp; omega
      have q8 : decide (8 ≤ i) = false := by simp; omega
      have q9 : decide (t < 1) = false := by simp; omega
      have Q1 := hidd q1
      have Q2 := hidd q2
      have Q3 := hidd q3
      have Q4 := hidd q4
      have Q5 := hidd q5
      have Q6 := hidd q6
      have Q7 := hidd q7
      have Q8 := hidd q8
      have Q9 := hidd q9
      have HPH := hidd hphi
      clear q1 q2 q3 q4 q5 q6 q7 q8 q9
      clear hn hq hps hqt hphi
      go_wp2_with (with_reducible refine wpList_load_row rfl 22 (.tmp 2) rfl W.heap.size rfl 22 (is .i64 z).toArray (0, 0) _ HG.out Try.underlying22 rfl (sz22 z HZ'.out) ?_)
      refine (next_some_any z s i t HZ'.out wo HA'.out s1 s4 HN.out).mono ?_
      rintro e w2 ⟨rfl, hb2⟩
      have HB2 := hidd (HW.out.trans (hb2.mono HW.out.size))
      have G2 := hidd (blk_below hb2 HG.out hsz)
      have hz2 : W.heap.size < w2.heap.size := by have := hb2.size; omega
      clear hb2
      go_wp2_with fail
      obtain ⟨wa, hwa⟩ : ∃ wa, wa = w2.alloc (.cells #[.int .i64 (i : Int), .int .i64 (t : Int)] 26) := ⟨_, rfl⟩
      rw [← hwa]
      have g0 : wa.heap[W.heap.size]? = some (.cells (is .i64 z).toArray 22 (0, 0)) := by rw [hwa]; exact (heap_alloc_old w2 _ hz2).trans G2.out
      have g1 : wa.heap[w2.heap.size]? = some (.cells #[.int .i64 (i : Int), .int .i64 (t : Int)] 26 (0, 0)) := by rw [hwa]; exact heap_alloc_new w2 _
      have hza : wa.heap.size = w2.heap.size + 1 := by rw [hwa]; simp
      have HBA := hidd (show Below W.heap.size W wa by rw [hwa]; exact HB2.out.alloc HB2.out.size _)
      have k0 : wa.cell? ⟨W.heap.size, i, none⟩ = some (.int .i64 q) := by
        rw [(blk g0).1, List.getElem?_toArray, is_at .i64 z i (by rw [HZ'.out]; omega), List.getD_eq_getElem?_getD, HQ.out]
        rfl
      have k1 : wa.cell? ⟨w2.heap.size, 0, none⟩ = some (.int .i64 i) := (blk g1).1 0
      have k2 : wa.cell? ⟨w2.heap.size, 1, none⟩ = some (.int .i64 t) := (blk g1).1 1
      have s0 := cell_all k0
      have s2 := cell_all k1
      have s3 := cell_all k2
      have HG0 := hidd g0
      have HG1 := hidd g1
      have HWA := hidd hza
      clear k0 k1 k2 g0 g1 hwa hza
      have q1 := Q1.out
      have q2 := Q2.out
      have q3 := Q3.out
      have q4 := Q4.out
      have q5 := Q5.out
      have q6 := Q6.out
      have q7 := Q7.out
      have q8 := Q8.out
      have q9 := Q9.out
      refine wp_region_held_drew (S := fun w' => Below wa.heap.size wa w') (by kernel_rfl) ((Below.refl _ wa).drew) (fun hH => ?_)
      refine take_at 0 47 (v := ?_) rfl rfl (by kernel_rfl) (by kernel_rfl) (by kernel_rfl) (fun _ _ _ h => h) (Or.inl ⟨by rfl, ?_⟩) hH ?_
      rotate_left
      · (intro w9 hSw; (try dsimp only at hSw); go_simp) <;> with_reducible rfl
      try simp only [Act.put, List.setIfInBounds_toArray, List.set_cons_zero, List.set_cons_succ]
      refine take_at 1 48 (v := ?_) rfl rfl (by kernel_rfl) (by kernel_rfl) (by kernel_rfl) (fun _ _ _ h => h) (Or.inl ⟨by rfl, ?_⟩) hH ?_
      rotate_left
      · (intro w9 hSw; (try dsimp only at hSw); go_simp) <;> with_reducible rfl
      try simp only [Act.put, List.setIfInBounds_toArray, List.set_cons_zero, List.set_cons_succ]
      refine take_at 2 49 (v := ?_) rfl rfl (by kernel_rfl) (by kernel_rfl) (by kernel_rfl) (fun _ _ _ h => h) (Or.inl ⟨by rfl, ?_⟩) hH ?_
      rotate_left
      · (intro w9 hSw; (try dsimp only at hSw); go_simp) <;> with_reducible rfl
      try simp only [Act.put, List.setIfInBounds_toArray, List.set_cons_zero, List.set_cons_succ]
      refine take_at 3 50 (v := ?_) rfl rfl (by kernel_rfl) (by kernel_rfl) (by kernel_rfl) (fun _ _ _ h => h) (Or.inl ⟨by rfl, ?_⟩) hH ?_
      rotate_left
      · (intro w9 hSw; (try dsimp only at hSw); go_simp) <;> with_reducible rfl
      try simp only [Act.put, List.setIfInBounds_toArray, List.set_cons_zero, List.set_cons_succ]
      refine take_at 4 51 (v := ?_) rfl rfl (by kernel_rfl) (by kernel_rfl) (by kernel_rfl) (fun _ _ _ h => h) (Or.inl ⟨by rfl, ?_⟩) hH ?_
      rotate_left
      · (intro w9 hSw; (try dsimp only at hSw); go_simp) <;> with_reducible rfl
      try simp only [Act.put, List.setIfInBounds_toArray, List.set_cons_zero, List.set_cons_succ]
      refine take_at 5 52 (v := ?_) rfl rfl (by kernel_rfl) (by kernel_rfl) (by kernel_rfl) (fun _ _ _ h => h) (Or.inl ⟨by rfl, ?_⟩) hH ?_
      rotate_left
      · (intro w9 hSw; (try dsimp only at hSw); go_simp) <;> with_reducible rfl
      try simp only [Act.put, List.setIfInBounds_toArray, List.set_cons_zero, List.set_cons_succ]
      refine take_at 6 53 (v := ?_) rfl rfl (by kernel_rfl) (by kernel_rfl) (by kernel_rfl) (fun _ _ _ h => h) (Or.inl ⟨by rfl, ?_⟩) hH ?_
      rotate_left
      · (intro w9 hSw; (try dsimp only at hSw); go_simp) <;> with_reducible rfl
      try simp only [Act.put, List.setIfInBounds_toArray, List.set_cons_zero, List.set_cons_succ]
      refine take_at 7 54 (v := ?_) rfl rfl (by kernel_rfl) (by kernel_rfl) (by kernel_rfl) (fun _ _ _ h => h) (Or.inl ⟨by rfl, ?_⟩) hH ?_
      rotate_left
      · (intro w9 hSw; (try dsimp only at hSw); go_simp) <;> with_reducible rfl
      try simp only [Act.put, List.setIfInBounds_toArray, List.set_cons_zero, List.set_cons_succ]
      refine take_at 8 55 (v := ?_) rfl rfl (by kernel_rfl) (by kernel_rfl) (by kernel_rfl) (fun _ _ _ h => h) (Or.inl ⟨by rfl, ?_⟩) hH ?_
      rotate_left
      · (intro w9 hSw; (try dsimp only at hSw); go_simp) <;> with_reducible rfl
      try simp only [Act.put, List.setIfInBounds_toArray, List.set_cons_zero, List.set_cons_succ]
      refine take_at 9 56 (v := ?_) rfl rfl (by kernel_rfl) (by kernel_rfl) (by kernel_rfl) (fun _ _ _ h => h) (Or.inl ⟨by rfl, ?_⟩) hH ?_
      rotate_left
      · (intro w9 hSw; (try dsimp only at hSw); go_simp) <;> with_reducible rfl
      try simp only [Act.put, List.setIfInBounds_toArray, List.set_cons_zero, List.set_cons_succ]
      refine take_at 10 57 (v := ?_) rfl rfl (by kernel_rfl) (by kernel_rfl) (by kernel_rfl) (fun _ _ _ h => h) (Or.inl ⟨by rfl, ?_⟩) hH ?_
      rotate_left
      · (intro w9 hSw; (try dsimp only at hSw); go_simp) <;> with_reducible rfl
      try simp only [Act.put, List.setIfInBounds_toArray, List.set_cons_zero, List.set_cons_succ]
      refine take_at 11 58 (v := ?_) rfl rfl (by kernel_rfl) (by kernel_rfl) (by kernel_rfl) (fun _ _ _ h => h) (Or.inl ⟨by rfl, ?_⟩) hH ?_
      rotate_left
      · (intro w9 hSw; (try dsimp only at hSw); go_simp) <;> with_reducible rfl
      try simp only [Act.put, List.setIfInBounds_toArray, List.set_cons_zero, List.set_cons_succ]
      refine take_at 12 59 (v := ?_) rfl rfl (by kernel_rfl) (by kernel_rfl) (by kernel_rfl) (fun _ _ _ h => h) (Or.inl ⟨by rfl, ?_⟩) hH ?_
      rotate_left
      · (intro w9 hSw; (try dsimp only at hSw); go_simp) <;> with_reducible rfl
      try simp only [Act.put, List.setIfInBounds_toArray, List.set_cons_zero, List.set_cons_succ]
      refine take_at 13 60 (v := ?_) rfl rfl (by kernel_rfl) (by kernel_rfl) (by kernel_rfl) (fun _ _ _ h => h) (Or.inl ⟨by rfl, ?_⟩) hH ?_
      rotate_left
      · (intro w9 hSw; (try dsimp only at hSw); go_simp) <;> with_reducible rfl
      try simp only [Act.put, List.setIfInBounds_toArray, List.set_cons_zero, List.set_cons_succ]
      refine take_at 14 61 (v := ?_) rfl rfl (by kernel_rfl) (by kernel_rfl) (by kernel_rfl) (fun _ _ _ h => h) (Or.inl ⟨by rfl, ?_⟩) hH ?_
      rotate_left
      · (intro w9 hSw; (try dsimp only at hSw); go_simp) <;> with_reducible rfl
      try simp only [Act.put, List.setIfInBounds_toArray, List.set_cons_zero, List.set_cons_succ]
      refine take_at 15 62 (v := ?_) rfl rfl (by kernel_rfl) (by kernel_rfl) (by kernel_rfl) (fun _ _ _ h => h) (Or.inl ⟨by rfl, ?_⟩) hH ?_
      rotate_left
      · (intro w9 hSw; (try dsimp only at hSw); go_simp) <;> with_reducible rfl
      try simp only [Act.put, List.setIfInBounds_toArray, List.set_cons_zero, List.set_cons_succ]
      refine take_at 16 63 (v := ?_) rfl rfl (by kernel_rfl) (by kernel_rfl) (by kernel_rfl) (fun _ _ _ h => h) (Or.inl ⟨by rfl, ?_⟩) hH ?_
      rotate_left
      · (intro w9 hSw; (try dsimp only at hSw); go_simp) <;> with_reducible rfl
      try simp only [Act.put, List.setIfInBounds_toArray, List.set_cons_zero, List.set_cons_succ]
      refine take_at 17 64 (v := ?_) rfl rfl (by kernel_rfl) (by kernel_rfl) (by kernel_rfl) (fun _ _ _ h => h) (Or.inl ⟨by rfl, ?_⟩) hH ?_
      rotate_left
      · (intro w9 hSw; (try dsimp only at hSw); go_simp) <;> with_reducible rfl
      try simp only [Act.put, List.setIfInBounds_toArray, List.set_cons_zero, List.set_cons_succ]
      refine take_at 18 65 (v := ?_) rfl rfl (by kernel_rfl) (by kernel_rfl) (by kernel_rfl) (fun _ _ _ h => h) (Or.inl ⟨by rfl, ?_⟩) hH ?_
      rotate_left
      · (intro w9 hSw; (try dsimp only at hSw); go_simp) <;> with_reducible rfl
      try simp only [Act.put, List.setIfInBounds_toArray, List.set_cons_zero, List.set_cons_succ]
      refine take_at 19 66 (v := ?_) rfl rfl (by kernel_rfl) (by kernel_rfl) (by kernel_rfl) (fun _ _ _ h => h) (Or.inl ⟨by rfl, ?_⟩) hH ?_
      rotate_left
      · (intro w9 hSw; (try dsimp only at hSw); go_simp) <;> with_reducible rfl
      try simp only [Act.put, List.setIfInBounds_toArray, List.set_cons_zero, List.set_cons_succ]
      refine take_at 20 67 (v := ?_) rfl rfl (by kernel_rfl) (by kernel_rfl) (by kernel_rfl) (fun _ _ _ h => h) (Or.inl ⟨by rfl, ?_⟩) hH ?_
      rotate_left
      · (intro w9 hSw; (try dsimp only at hSw); go_simp) <;> with_reducible rfl
      try simp only [Act.put, List.setIfInBounds_toArray, List.set_cons_zero, List.set_cons_succ]
      refine take_at 21 68 (v := ?_) rfl rfl (by kernel_rfl) (by kernel_rfl) (by kernel_rfl) (fun _ _ _ h => h) (Or.inl ⟨by rfl, ?_⟩) hH ?_
      rotate_left
      · (intro w9 hSw; (try dsimp only at hSw); go_simp) <;> with_reducible rfl
      try simp only [Act.put, List.setIfInBounds_toArray, List.set_cons_zero, List.set_cons_succ]
      refine take_at 22 69 (v := ?_) rfl rfl (by kernel_rfl) (by kernel_rfl) (by kernel_rfl) (fun _ _ _ h => h) (Or.inl ⟨by rfl, ?_⟩) hH ?_
      rotate_left
      · (intro w9 hSw; (try dsimp only at hSw); go_simp) <;> with_reducible rfl
      try simp only [Act.put, List.setIfInBounds_toArray, List.set_cons_zero, List.set_cons_succ]
      refine take_at 23 70 (v := ?_) rfl rfl (by kernel_rfl) (by kernel_rfl) (by kernel_rfl) (fun _ _ _ h => h) (Or.inl ⟨by rfl, ?_⟩) hH ?_
      rotate_left
      · (intro w9 hSw; (try dsimp only at hSw); go_simp) <;> with_reducible rfl
      try simp only [Act.put, List.setIfInBounds_toArray, List.set_cons_zero, List.set_cons_succ]
      refine take_at 24 71 (v := ?_) rfl rfl (by kernel_rfl) (by kernel_rfl) (by kernel_rfl) (fun _ _ _ h => h) (Or.inl ⟨by rfl, ?_⟩) hH ?_
      rotate_left
      · (intro w9 hSw; (try dsimp only at hSw); go_simp) <;> with_reducible rfl
      try simp only [Act.put, List.setIfInBounds_toArray, List.set_cons_zero, List.set_cons_succ]
      refine take_at 25 72 (v := ?_) rfl rfl (by kernel_rfl) (by kernel_rfl) (by kernel_rfl) (fun _ _ _ h => h) (Or.inl ⟨by rfl, ?_⟩) hH ?_
      rotate_left
      · (intro w9 hSw; (try dsimp only at hSw); go_simp) <;> with_reducible rfl
      try simp only [Act.put, List.setIfInBounds_toArray, List.set_cons_zero, List.set_cons_succ]
      refine take_at 26 73 (v := ?_) rfl rfl (by kernel_rfl) (by kernel_rfl) (by kernel_rfl) (fun _ _ _ h => h) (Or.inl ⟨by rfl, ?_⟩) hH ?_
      rotate_left
      · (intro w9 hSw; (try dsimp only at hSw); go_simp) <;> with_reducible rfl
      try simp only [Act.put, List.setIfInBounds_toArray, List.set_cons_zero, List.set_cons_succ]
      refine take_at 27 74 (v := ?_) rfl rfl (by kernel_rfl) (by kernel_rfl) (by kernel_rfl) (fun _ _ _ h => h) (Or.inl ⟨by rfl, ?_⟩) hH ?_
      rotate_left
      · (intro w9 hSw; (try dsimp only at hSw); go_simp) <;> with_reducible rfl
      try simp only [Act.put, List.setIfInBounds_toArray, List.set_cons_zero, List.set_cons_succ]
      refine take_at 28 75 (v := ?_) rfl rfl (by kernel_rfl) (by kernel_rfl) (by kernel_rfl) (fun _ _ _ h => h) (Or.inl ⟨by rfl, ?_⟩) hH ?_
      rotate_left
      · (intro w9 hSw; (try dsimp only at hSw); go_simp) <;> with_reducible rfl
      try simp only [Act.put, List.setIfInBounds_toArray, List.set_cons_zero, List.set_cons_succ]
      refine take_at 29 76 (v := ?_) rfl rfl (by kernel_rfl) (by kernel_rfl) (by kernel_rfl) (fun _ _ _ h => h) (Or.inl ⟨by rfl, ?_⟩) hH ?_
      rotate_left
      · (intro w9 hSw; (try dsimp only at hSw); go_simp) <;> with_reducible rfl
      try simp only [Act.put, List.setIfInBounds_toArray, List.set_cons_zero, List.set_cons_succ]
      refine take_at 30 77 (v := ?_) rfl rfl (by kernel_rfl) (by kernel_rfl) (by kernel_rfl) (fun _ _ _ h => h) (Or.inl ⟨by rfl, ?_⟩) hH ?_
      rotate_left
      · (intro w9 hSw; (try dsimp only at hSw); go_simp) <;> with_reducible rfl
      try simp only [Act.put, List.setIfInBounds_toArray, List.set_cons_zero, List.set_cons_succ]
      refine take_at 31 78 (v := ?_) rfl rfl (by kernel_rfl) (by kernel_rfl) (by kernel_rfl) (fun _ _ _ h => h) (Or.inl ⟨by rfl, ?_⟩) hH ?_
      rotate_left
      · (intro w9 hSw; (try dsimp only at hSw); go_simp) <;> with_reducible rfl
      try simp only [Act.put, List.setIfInBounds_toArray, List.set_cons_zero, List.set_cons_succ]
      refine wpAnyH_done (by kernel_rfl) ?_ _
      clear hH s0 s2 s3 q1 q2 q3 q4 q5 q6 q7 q8 q9
      have k1 : wa.cell? ⟨w2.heap.size, 0, none⟩ = some (.int .i64 i) := (blk HG1.out).1 0
      have k2 : wa.cell? ⟨w2.heap.size, 1, none⟩ = some (.int .i64 t) := (blk HG1.out).1 1
      have HMV := hidd (show mvB z (i : Int) (t : Int) = true by
        unfold mvB
        rw [HA'.out, show shardB (t : Int) = true by simp [shardB]; omega]
        simp
        omega)
      have HS' := hidd (show (z.set i (t : Int)).length = 8 by rw [List.length_set, HZ'.out])
      have HGD := hidd (show wa.drew.heap[W.heap.size]? = some (.cells (is .i64 z).toArray 22 (0, 0)) from HG0.out)
      have HO := hidd (show zz8.size = (is .i64 (z.set i (t : Int))).toArray.size by show 8 = _; rw [List.size_toArray, is_len, HS'.out])
      go_wp2_with (with_reducible refine wpList_load_row rfl 22 (.tmp 2) rfl W.heap.size rfl 22 (is .i64 z).toArray (0, 0) _ HGD.out Try.underlying22 rfl (sz22 z HZ'.out) ?_)
      refine (moved_yes z i t HZ'.out _ HMV.out).mono ?_
      rintro e w3 ⟨rfl, hb3⟩
      have hwa := HWA.out
      have hsz3 : wa.heap.size ≤ w3.heap.size := hb3.size
      have G3 := hidd (blk_below hb3 HGD.out (show W.heap.size < wa.heap.size by omega))
      have HB3 := hidd (HBA.out.drew.trans (hb3.mono (show W.heap.size ≤ wa.heap.size by omega)))
      have G4 := hidd (show (w3.alloc (.cells (is .i64 (z.set i (t : Int))).toArray 22)).heap[W.heap.size]? = some (.cells (is .i64 z).toArray 22 (0, 0)) from (heap_alloc_old w3 _ (by omega)).trans G3.out)
      have G5 := hidd (heap_alloc_new w3 (.cells (is .i64 (z.set i (t : Int))).toArray 22))
      have HOZ := hidd (show (is .i64 z).toArray.size = (is .i64 (z.set i (t : Int))).toArray.size by rw [List.size_toArray, List.size_toArray, is_len, is_len, List.length_set])
      clear hb3 k1 k2
      go_wp2_with (first | (with_reducible refine wpList_store_new rfl 22 (.tmp 10) (.tmp 83) rfl zz8 (is .i64 (z.set i (t : Int))).toArray 22 rfl rfl (sz22 _ HS'.out) HO.out (one_is _ _) rfl ?_) | (with_reducible refine wpList_load_row rfl 22 (.tmp 10) rfl w3.heap.size rfl 22 (is .i64 (z.set i (t : Int))).toArray (0, 0) _ G5.out Try.underlying22 rfl (sz22 _ HS'.out) ?_) | (with_reducible refine wpList_store_row rfl 22 (.tmp 2) (.tmp 87) rfl W.heap.size (is .i64 (z.set i (t : Int))).toArray rfl rfl 22 (is .i64 z).toArray G4.out (sz22 _ HS'.out) HOZ.out (one_is _ _) ?_))
      have hphi := HPH.out
      have hps := HP.out
      go_roundw
      case rel =>
        have ht : shardB (t : Int) = true := by simp [shardB]; omega
        refine ⟨n + 1, z.set i (t : Int), by go_num, HS'.out, all_set HA'.out ht, by omega, setRow_heap _ _ _ _ _ _ G4.out, ?_, below_setRow (HB3.out.alloc HB3.out.size _) (Nat.le_refl _) _⟩
        simp
        omega
      case measure => simp [intOf]; omega
    | none =>
      have HN := hidd hn
      clear hn
      go_wp2_with (with_reducible refine wpList_load_row rfl 22 (.tmp 2) rfl W.heap.size rfl 22 (is .i64 z).toArray (0, 0) _ HG.out Try.underlying22 rfl (sz22 z HZ'.out) ?_)
      refine (next_none_any z s HZ'.out wo HA'.out s1 s4 HN.out).mono ?_
      rintro e w2 ⟨rfl, hb2⟩
      have HB2 := hidd (HW.out.trans (hb2.mono HW.out.size))
      have G2 := hidd (blk_below hb2 HG.out hsz)
      have hz2 : W.heap.size < w2.heap.size := by have := hb2.size; omega
      clear hb2
      go_wp2_with fail
      obtain ⟨wa, hwa⟩ : ∃ wa, wa = w2.alloc (.cells #[.int .i64 0, .int .i64 0] 26) := ⟨_, rfl⟩
      rw [← hwa]
      have g0 : wa.heap[W.heap.size]? = some (.cells (is .i64 z).toArray 22 (0, 0)) := by rw [hwa]; exact (heap_alloc_old w2 _ hz2).trans G2.out
      have hza : W.heap.size < wa.heap.size := by rw [hwa]; simp; omega
      have HBA := hidd (show Below W.heap.size W wa by rw [hwa]; exact HB2.out.alloc HB2.out.size _)
      have GA := hidd g0
      clear g0 hwa
      go_loopw [12, 13, 14] (fun mx mn kk wr => ∃ j : Nat, j ≤ 4 ∧ kk = .int .i64 ((j : Int) + 1) ∧ mx = .int .i64 (mxN z s j : Nat) ∧ mn = .int .i64 (mnN z s j : Nat) ∧ Below wa.heap.size wa wr) (fun _ _ kk _ => 5 - (intOf kk).toNat)
      case atStart => exact ⟨0, by omega, rfl, rfl, rfl, Below.refl _ _⟩
      case round =>
        obtain ⟨j, hj, rfl, rfl, rfl, hbel⟩ := hrel
        obtain ⟨wi, rfl⟩ : ∃ wi, wi = wr := ⟨_, rfl⟩
        have HWI := hidd hbel
        have GI := hidd (blk_below hbel GA.out hza)
        have hzi : W.heap.size < wi.heap.size := by have := hbel.size; omega
        clear hbel
        obtain ⟨mx, hmx⟩ : ∃ m, m = mxN z s j := ⟨_, rfl⟩
        obtain ⟨mn, hmn⟩ : ∃ m, m = mnN z s j := ⟨_, rfl⟩
        rw [← hmx, ← hmn]
        have mx8 : mx ≤ 8 := by rw [hmx]; exact mxN_le z s HZ'.out j
        have mn8 : mn ≤ 8 := by rw [hmn]; exact mnN_le z s j
        have HMX := hidd hmx
        have HMN := hidd hmn
        clear hmx hmn
        by_cases hlt : j < 4
        · have i1 : (j : Int) + 1 ≤ 4 := by omega
          have j0 : (0 : Int) ≤ (j : Int) := by omega
          go_wp2_with (with_reducible refine wpList_load_row rfl 22 (.tmp 2) rfl W.heap.size rfl 22 (is .i64 z).toArray (0, 0) _ GI.out Try.underlying22 rfl (sz22 z HZ'.out) ?_)
          refine (owned_any z ((j : Int) + 1) HZ'.out wi).mono ?_
          rintro e w5 ⟨rfl, hb5⟩
          have HB5 := hidd (HWI.out.trans (hb5.mono HWI.out.size))
          clear hb5
          go_wp2_with fail
          go_loop [15, 16] (fun b m => ∃ q : Nat, q ≤ 8 ∧ b = .int .i64 (own (z.drop q) ((j : Int) + 1) : Nat) ∧ m = .int .i64 ((z.take q).count ((j : Int) + 1) : Nat)) (fun b _ => (intOf b).toNat)
          case atStart => exact ⟨0, by omega, rfl, rfl⟩
          case round =>
            obtain ⟨q, hq, rfl, rfl⟩ := hrel
            obtain ⟨o, ho⟩ : ∃ o, o = own (z.drop q) ((j : Int) + 1) := ⟨_, rfl⟩
            obtain ⟨y, hy⟩ : ∃ y, y = (z.take q).count ((j : Int) + 1) := ⟨_, rfl⟩
            have ho256 : o < 256 := by
              rw [ho]
              have h1 := own_lt (z.drop q) ((j : Int) + 1)
              have h2 : (2 : Nat) ^ (z.drop q).length ≤ 2 ^ 8 := Nat.pow_le_pow_right (by decide) (by rw [List.length_drop, HZ'.out]; omega)
              omega
            have hy8 : y ≤ 8 := by
              rw [hy, ← HZ'.out]
              exact Nat.le_trans List.count_le_length (by rw [List.length_take]; omega)
            rw [← ho, ← hy]
            have HOO := hidd ho
            have HY := hidd hy
            clear ho hy
            by_cases hpos : 0 < o
            · have hq8 : q < 8 := by
                rcases Nat.lt_or_ge q 8 with h | h
                · exact h
                · have e := HOO.out
                  rw [List.drop_of_length_le (by rw [HZ'.out]; exact h)] at e
                  simp only [own] at e
                  omega
              obtain ⟨x, hx⟩ : ∃ x, z[q]? = some x := ⟨z[q]'(by rw [HZ'.out]; exact hq8), List.getElem?_eq_getElem _⟩
              obtain ⟨o', ho'⟩ : ∃ o', o' = own (z.drop (q + 1)) ((j : Int) + 1) := ⟨_, rfl⟩
              obtain ⟨b, hb⟩ : ∃ b : Nat, b = if x = (j : Int) + 1 then 1 else 0 := ⟨_, rfl⟩
              have hb1 : b ≤ 1 := by rw [hb]; split <;> omega
              have hoo : o = b + 2 * o' := by rw [HOO.out, own_drop z _ q x hx, ← ho', ← hb]
              have hyy : y + b = (z.take (q + 1)).count ((j : Int) + 1) := by rw [cnt_take z _ q x hx, ← HY.out, ← hb]
              have hand : bits BinOp.and IntKind.i64 (o : Int) 1 = (b : Int) := by
                have := i64_and_nat o 1 (by omega) (by omega)
                rw [nat_mask1, show o % 2 = b by omega] at this
                exact this
              have hdiv : (o : Int) / 2 = (o' : Int) := by omega
              have p0 : (0 : Int) < (o : Int) := by omega
              have p1 : (o : Int) < 256 := by omega
              have p2 : (0 : Int) ≤ (b : Int) := by omega
              have p3 : (b : Int) ≤ 1 := by omega
              have p4 : (0 : Int) ≤ (y : Int) := by omega
              have p5 : (y : Int) ≤ 8 := by omega
              have hlt' : o' < o := by omega
              have HYY := hidd hyy
              have HO' := hidd ho'
              clear hx hb hoo hyy ho' hb1
              go_wp2
              refine ⟨⟨q + 1, by omega, by rw [← HO'.out], by rw [← HYY.out]; simp⟩, by simp [intOf]; omega⟩
            · have h0 : o = 0 := by omega
              have hcn : y = cnt z (j + 1) := by
                have h1 := HOO.out
                rw [h0] at h1
                have h2 := cnt_done z ((j : Int) + 1) q h1.symm
                rw [HY.out, h2]
                rfl
              have HCN := hidd hcn
              have hout := (nextO_none z s HZ'.out HA'.out s1 s4 HN.out).1 (j + 1)
              subst h0
              clear hpos hcn ho256
              by_cases hjs : j + 1 ≤ s
              · have js : ((j : Int) + 1) ≤ (s : Int) := by omega
                have hx1 : mxN z s (j + 1) = max mx y := by simp only [mxN]; rw [if_pos hjs, ← HMX.out, ← HCN.out]
                have hx2 : mnN z s (j + 1) = min mn y := by simp only [mnN]; rw [if_pos hjs, ← HMN.out, ← HCN.out]
                have HX1 := hidd hx1
                have HX2 := hidd hx2
                clear hout hx1 hx2
                go_wp2
                refine ⟨⟨j + 1, by omega, congrArg (Value.int .i64) (by omega), ?_, ?_, HB5.out⟩, by simp [intOf]; omega⟩
                · rw [HX1.out]
                  congr 1
                  split <;> omega
                · rw [HX2.out]
                  congr 1
                  split <;> omega
              · have y0 : y = 0 := by have := hout (by omega) (by omega); rw [HCN.out]; exact this
                have js : (s : Int) < ((j : Int) + 1) := by omega
                have hx1 : mxN z s (j + 1) = mx := by simp only [mxN]; rw [if_neg hjs, ← HMX.out]
                have hx2 : mnN z s (j + 1) = mn := by simp only [mnN]; rw [if_neg hjs, ← HMN.out]
                have HX1 := hidd hx1
                have HX2 := hidd hx2
                subst y0
                clear hout hx1 hx2
                go_wp2
                refine ⟨⟨j + 1, by omega, congrArg (Value.int .i64) (by omega), ?_, ?_, HB5.out⟩, by simp [intOf]; omega⟩
                · rw [HX1.out]
                · rw [HX2.out]
        · obtain rfl : j = 4 := by omega
          have hf := even_fin z s HZ'.out HA'.out s1 s4 HN.out
          rw [← HMX.out, ← HMN.out] at hf
          have hf' : (mx : Int) - (mn : Int) ≤ 1 := by omega
          clear hf
          go_wp2_with (go_at_call 14; refine (wakes23 _).mono ?_; rintro e w9 ⟨rfl, hb9⟩)
          go_ret
          exact ⟨rfl, HBA.out.trans ((HWI.out.mono HBA.out.size).trans (hb9.mono (by have := HBA.out.size; have := HWI.out.size; omega)))⟩
end Go.Proofs.Ytflmeannmfhhhaa
