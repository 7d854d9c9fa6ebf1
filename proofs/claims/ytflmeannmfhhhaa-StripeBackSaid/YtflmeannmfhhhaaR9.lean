import Derived.Test.YtflmeannmfhhhaaR8
namespace Go.Proofs.Ytflmeannmfhhhaa
open Go.RowKit
attribute [local go_sem] run_store_complex
set_option maxRecDepth 100000 in
set_option maxHeartbeats 4000000 in
theorem next_even (z : List Int) (s : Nat) (hf : farI (ldN z 8) s = none) (hdd : (((ldN z 8).take s).getD (hiI (ldN z 8) s) (0, 0)).1 - (((ldN z 8).take s).getD (loI (ldN z 8) s) (0, 0)).1 ≤ 1) (hz : z.length = 8) (W : World) (ha : z.all shardB = true) (s1 : 0 < s) (s4 : s ≤ 4) :
    Calls Try.prog 13 #[.agg (is .i64 z).toArray, .int .i64 s] W fun e w' => e = .returned (.tuple #[.agg #[.int .i64 0, .int .i64 0], .bool false]) ∧ Below W.heap.size W w' := by
  have HZ := hidd hz
  have HA := hidd ha
  have HF := hidd hf
  have hsb : shardB (s : Int) = true := by simp [shardB]; omega
  have HS := hidd hsb
  have t0 : (0 : Int) ≤ (s : Int) := by omega
  have t4 : (s : Int) ≤ 4 := by omega
  have t5 := hidd (show (s : Int) ≤ ((4 : Nat) : Int) by omega)
  have hl4 := ldN_len z 8
  have HLL := hidd hl4
  have hle : ∀ q ∈ ldN z 8, q.1 < 10 := fun q hq => by have := ldN_le z 8 q hq; omega
  have HLE := hidd hle
  have HLB := hidd (show ∀ q ∈ (ldN z 8).take s, q.1 < 10 from fun q hq => hle q (List.mem_of_mem_take hq))
  obtain ⟨L, hL⟩ : ∃ L, L = ldN z 8 := ⟨_, rfl⟩
  rw [← hL] at HF HLL HLE HLB
  have HEQ := hidd hL
  have hdd2 := hdd
  rw [← hL] at hdd2
  obtain ⟨mh, hmh⟩ : ∃ m, m = hiI L s := ⟨_, rfl⟩
  obtain ⟨ml, hml⟩ : ∃ m, m = loI L s := ⟨_, rfl⟩
  have HHI := hidd (show bestK (fun x y => decide (y < x)) (L.take s) s = mh from hmh.symm)
  have HLO := hidd (show bestK (fun x y => decide (x < y)) (L.take s) s = ml from hml.symm)
  have hlt : (L.take s).length = s := by rw [List.length_take, HLL.out]; omega
  have hh : mh < s := by
    have := bestK_lt (fun x y => decide (y < x)) (L.take s) s (by omega) (by omega)
    rw [HHI.out, hlt] at this
    exact this
  have hl : ml < s := by
    have := bestK_lt (fun x y => decide (x < y)) (L.take s) s (by omega) (by omega)
    rw [HLO.out, hlt] at this
    exact this
  have j0 : (0 : Int) ≤ (mh : Int) := by omega
  have j1 : (mh : Int) < (s : Int) := by omega
  have j2 : (0 : Int) ≤ (ml : Int) := by omega
  have j3 : (ml : Int) < (s : Int) := by omega
  rw [← hmh, ← hml] at hdd2
  have HD := hidd hdd2
  clear hdd hdd2
  clear hz ha hf hsb hL hmh hml hlt hl4 hle
  go_enter Try.func13, Try.ntmps13
  go_wp2_with fail
  go_step3
  · go_wp2_with (with_reducible refine wpList_load_row rfl 22 (.tmp 2) rfl W.heap.size rfl 22 (is .i64 z).toArray (0, 0) _ (h2 W _ _).1 Try.underlying22 rfl (sz22 z HZ.out) ?_)
    refine (may_any z HZ.out _).mono ?_
    rintro e w1 ⟨rfl, hb1⟩
    rw [HA.out]
    have G0 := hidd (blk_below hb1 (h2 W _ _).1 (by simp; omega))
    have G1 := hidd (blk_below hb1 (h2 W _ _).2 (by simp))
    have HB := hidd (((((Below.refl _ W).alloc (Nat.le_refl _) _).alloc (by simp) _)).trans (hb1.mono (by simp; omega)))
    have hz1 : W.heap.size + 1 < w1.heap.size := by have := hb1.size; simp at this; omega
    clear hb1
    go_wp2_with (first | (go_at_call 27; refine (shard_any _ _).mono ?_; rintro e w' ⟨rfl, rfl⟩; rw [HS.out]) | (with_reducible refine wpList_load_row rfl 22 (.tmp 2) rfl W.heap.size rfl 22 (is .i64 z).toArray (0, 0) _ G0.out Try.underlying22 rfl (sz22 z HZ.out) ?_))
    refine (loads_any z HZ.out w1 HA.out).mono ?_
    rintro e w2 ⟨a, c, rfl, hsl, rfl, hb2⟩
    rw [← HEQ.out] at hsl
    obtain ⟨b, off, rfl, _⟩ := cx_at hsl 0 (by decide)
    have HSL := hidd hsl
    have hi := sl_pre hsl s s4
    have HI := hidd hi
    have G2 := hidd (blk_below hb2 G1.out hz1)
    have HB2 := hidd (HB.out.trans (hb2.mono (by omega)))
    have hz2 : W.heap.size + 1 < w2.heap.size := by have := hb2.size; omega
    obtain ⟨b1, o1, e1, d1⟩ := cx_at hi mh hh
    injection e1 with e1
    injection e1 with q1 q2
    subst q1 q2
    obtain ⟨b1, o1, e1, d2⟩ := cx_at hi ml hl
    injection e1 with e1
    injection e1 with q1 q2
    subst q1 q2
    obtain ⟨ph, hph⟩ : ∃ q, q = (L.take s).getD mh (0, 0) := ⟨_, rfl⟩
    obtain ⟨pq, hpq⟩ : ∃ q, q = (L.take s).getD ml (0, 0) := ⟨_, rfl⟩
    rw [← hph] at d1
    rw [← hpq] at d2
    have HPH := hidd hph
    have HPQ := hidd hpq
    clear hph hpq
    have c1 := cell_all d1
    have c2 := cell_all d2
    clear d1 d2
    have hc0 := cut0 b off s 1
    clear hsl hi hb2 
    obtain ⟨a, ha0⟩ : ∃ a : Option Addr, a = some ⟨b, off, none⟩ := ⟨_, rfl⟩
    go_wp2_with (with_reducible refine wpList_cut_hm cT rfl (.tmp 25) (.tmp 26) (.tmp 27) rfl (some ⟨b, off, none⟩) 4 4 .i64 .i64 (s : Int) (s : Int) rfl rfl rfl t0 (Int.le_refl _) t5.out ?_)
    refine wp_region_held_drew (S := fun w' => Below w2.heap.size w2 w') (by kernel_rfl) ((Below.refl _ w2).drew) (fun hH => ?_)
    refine take_at 0 29 (v := ?_) rfl rfl (by kernel_rfl) (by kernel_rfl) (by kernel_rfl) (fun _ _ _ h => h) (Or.inl ⟨by rfl, ?_⟩) hH ?_
    rotate_left
    · (intro w9 hSw; (try dsimp only at hSw); go_simp) <;> with_reducible rfl
    try simp only [Act.put, List.setIfInBounds_toArray, List.set_cons_zero, List.set_cons_succ]
    refine take_at 1 30 (v := ?_) rfl rfl (by kernel_rfl) (by kernel_rfl) (by kernel_rfl) (fun _ _ _ h => h) (Or.inl ⟨by rfl, ?_⟩) hH ?_
    rotate_left
    · (intro w9 hSw; (try dsimp only at hSw); go_simp) <;> with_reducible rfl
    try simp only [Act.put, List.setIfInBounds_toArray, List.set_cons_zero, List.set_cons_succ]
    refine take_at 2 31 (v := ?_) rfl rfl (by kernel_rfl) (by kernel_rfl) (by kernel_rfl) (fun _ _ _ h => h) (Or.inl ⟨by rfl, ?_⟩) hH ?_
    rotate_left
    · (intro w9 hSw; (try dsimp only at hSw); go_simp) <;> with_reducible rfl
    try simp only [Act.put, List.setIfInBounds_toArray, List.set_cons_zero, List.set_cons_succ]
    refine take_at 6 35 (v := ?_) rfl rfl (by kernel_rfl) (by kernel_rfl) (by kernel_rfl) (fun _ _ _ h => h) (Or.inl ⟨by rfl, ?_⟩) hH ?_
    rotate_left
    · (intro w9 hSw; (try dsimp only at hSw); go_simp) <;> with_reducible rfl
    try simp only [Act.put, List.setIfInBounds_toArray, List.set_cons_zero, List.set_cons_succ]
    refine take_at 7 36 (v := ?_) rfl rfl (by kernel_rfl) (by kernel_rfl) (by kernel_rfl) (fun _ _ _ h => h) (Or.inl ⟨by rfl, ?_⟩) hH ?_
    rotate_left
    · (intro w9 hSw; (try dsimp only at hSw); go_simp) <;> with_reducible rfl
    try simp only [Act.put, List.setIfInBounds_toArray, List.set_cons_zero, List.set_cons_succ]
    refine take_at 8 37 (v := ?_) rfl rfl (by kernel_rfl) (by kernel_rfl) (by kernel_rfl) (fun _ _ _ h => h) (Or.inl ⟨by rfl, ?_⟩) hH ?_
    rotate_left
    · (intro w9 hSw; (try dsimp only at hSw); go_simp) <;> with_reducible rfl
    try simp only [Act.put, List.setIfInBounds_toArray, List.set_cons_zero, List.set_cons_succ]
    refine wpAnyH_ready (rs := [3]) (by kernel_rfl) (by simp) ?_
    refine AllReadyH.cons rfl (fun K hK => ?_) AllReadyH.nil
    go_simp
    refine (best_more (some ⟨b, off, none⟩) s s _ _ (HI.out.grow ((Below.refl _ w2).drew)) s4 s1 HLB.out).mono ?_
    rintro e w3 ⟨rfl, hb3⟩
    have D3 := ((Below.refl w2.heap.size w2).drew).trans hb3
    rw [HHI.out]
    clear hb3
    dsimp only
    refine hK.out _ _ (D3) (fun hH3 => ?_)
    clear hK K
    clear hH; have hH := hH3; clear hH3
    try simp only [Act.put, List.setIfInBounds_toArray, List.set_cons_zero, List.set_cons_succ]
    refine take_at 4 33 (v := ?_) rfl rfl (by kernel_rfl) (by kernel_rfl) (by kernel_rfl) (fun _ _ _ h => h) (Or.inl ⟨by rfl, ?_⟩) hH ?_
    rotate_left
    · (intro w9 hSw; (try dsimp only at hSw); go_simp) <;> with_reducible rfl
    try simp only [Act.put, List.setIfInBounds_toArray, List.set_cons_zero, List.set_cons_succ]
    refine take_at 5 34 (v := ?_) rfl rfl (by kernel_rfl) (by kernel_rfl) (by kernel_rfl) (fun _ _ _ h => h) (Or.inl ⟨by rfl, ?_⟩) hH ?_
    rotate_left
    · (intro w9 hSw; (try dsimp only at hSw); go_simp) <;> with_reducible rfl
    try simp only [Act.put, List.setIfInBounds_toArray, List.set_cons_zero, List.set_cons_succ]
    refine wpAnyH_ready (rs := [9]) (by kernel_rfl) (by simp) ?_
    refine AllReadyH.cons rfl (fun K hK => ?_) AllReadyH.nil
    go_simp
    refine (best_fewer (some ⟨b, off, none⟩) s s _ _ (HI.out.grow D3) s4 s1 HLB.out).mono ?_
    rintro e w4 ⟨rfl, hb4⟩
    have D4 := D3.trans (hb4.mono D3.size)
    rw [HLO.out]
    clear hb4
    dsimp only
    refine hK.out _ _ (D4) (fun hH9 => ?_)
    clear hK K
    clear hH; have hH := hH9; clear hH9
    try simp only [Act.put, List.setIfInBounds_toArray, List.set_cons_zero, List.set_cons_succ]
    refine take_at 10 39 (v := ?_) rfl rfl (by kernel_rfl) (by kernel_rfl) (by kernel_rfl) (fun _ _ _ h => h) (Or.inl ⟨by rfl, ?_⟩) hH ?_
    rotate_left
    · (intro w9 hSw; (try dsimp only at hSw); go_simp) <;> with_reducible rfl
    try simp only [Act.put, List.setIfInBounds_toArray, List.set_cons_zero, List.set_cons_succ]
    refine take_at 11 40 (v := ?_) rfl rfl (by kernel_rfl) (by kernel_rfl) (by kernel_rfl) (fun _ _ _ h => h) (Or.inl ⟨by rfl, ?_⟩) hH ?_
    rotate_left
    · (intro w9 hSw; (try dsimp only at hSw); go_simp) <;> with_reducible rfl
    try simp only [Act.put, List.setIfInBounds_toArray, List.set_cons_zero, List.set_cons_succ]
    refine take_at 12 10 (v := ?_) rfl rfl (by kernel_rfl) (by kernel_rfl) (by kernel_rfl) (fun _ _ _ h => h) (Or.inl ⟨by rfl, ?_⟩) hH ?_
    rotate_left
    · (intro w9 hSw; (try dsimp only at hSw); go_simp) <;> with_reducible rfl
    try simp only [Act.put, List.setIfInBounds_toArray, List.set_cons_zero, List.set_cons_succ]
    refine take_at 13 11 (v := ?_) rfl rfl (by kernel_rfl) (by kernel_rfl) (by kernel_rfl) (fun _ _ _ h => h) (Or.inl ⟨by rfl, ?_⟩) hH ?_
    rotate_left
    · (intro w9 hSw; (try dsimp only at hSw); go_simp) <;> with_reducible rfl
    try simp only [Act.put, List.setIfInBounds_toArray, List.set_cons_zero, List.set_cons_succ]
    refine wpAnyH_done (by kernel_rfl) ?_ _
    clear hH c1 c2
    have hxl : (L.drop s).length = 4 - s := by rw [List.length_drop, HLL.out]
    have HXL := hidd hxl
    have HX := hidd (show ∀ q ∈ L.drop s, q.1 < 10 from fun q hq => HLE.out q (List.mem_of_mem_drop hq))
    have hz4 : W.heap.size + 1 < w4.heap.size := by have := D4.size; omega
    have G4 := hidd (blk_below D4 G2.out hz2)
    have HSL4 := hidd (HSL.out.grow D4)
    have HI4 := hidd (HI.out.grow D4)
    have HB4 := hidd (HB2.out.trans (D4.mono (by omega)))
    clear hxl D3 D4
    go_wp2_with (with_reducible refine wpList_cut_l cT rfl (.tmp 41) (.tmp 42) rfl (some ⟨b, off, none⟩) 4 4 .i64 (s : Int) rfl rfl t0 t5.out ?_)
    go_loop [10, 13, 45] (fun h _ i => ∃ k : Nat, k ≤ 4 - s ∧ i = .int .i64 k ∧ (∀ j, j < k → ((L.drop s).getD j (0, 0)).1 = 0) ∧ h = cx ph) (fun _ _ i => (4 - s) - (intOf i).toNat)
    case atStart => exact ⟨0, Nat.zero_le _, rfl, fun j hj => absurd hj (Nat.not_lt_zero _), rfl⟩
    case round =>
      obtain ⟨k, hk, rfl, hzz, rfl⟩ := hrel
      by_cases hlt : k < 4 - s
      · have hcell := sl_suf HSL4.out s k (by omega)
        have hcc := cutS b off s (by omega)
        have hc10 : ((L.drop s).getD k (0, 0)).1 < 10 := getD_lt HX.out k (by decide)
        obtain ⟨⟨cq, lq⟩, hq⟩ : ∃ q, (L.drop s).getD k (0, 0) = q := ⟨_, rfl⟩
        rw [hq] at hcell hc10
        simp only [cx] at hcell
        have HQ := hidd hq
        have HZZ := hidd hzz
        have i1 : (k : Int) < ((4 - s : Nat) : Int) := by omega
        clear hq hzz
        have h0 : cq = 0 := by
          rcases Nat.eq_zero_or_pos cq with h | hpos
          · exact h
          · have h1 := find_at (L.drop s) k (by rw [HXL.out]; exact hlt) HZZ.out (by rw [HQ.out]; exact hpos)
            have h2 : (L.drop s).find? (fun p => decide (0 < p.1)) = none := HF.out
            rw [h1] at h2
            cases h2
        have ho := ord_zero cq h0
        have H0 := hidd h0
        clear hc10 h0
        go_wp2
        go_round
        case rel =>
          refine ⟨k + 1, by omega, by go_num, fun j hj => ?_, rfl⟩
          rcases Nat.lt_or_ge j k with h | h
          · exact HZZ.out j h
          · obtain rfl : j = k := by omega
            rw [HQ.out]
            exact H0.out
        case measure => simp [intOf]; omega
      · obtain rfl : k = 4 - s := by omega
        have HN := hidd (find_none (L.drop s) (fun j hj => hzz j (by rw [HXL.out] at hj; exact hj)))
        clear hzz
        have hp10 : ph.1 < 10 := by rw [HPH.out]; exact getD_lt HLB.out mh (by decide)
        have hq10 : pq.1 < 10 := by rw [HPQ.out]; exact getD_lt HLB.out ml (by decide)
        have hle : pq.1 ≤ ph.1 := by
          have h1 := bestK_min (L.take s) s mh hh
          rw [HLO.out, ← HPH.out, ← HPQ.out] at h1
          exact h1
        have hl1 : ph.2 < 8 := by rw [HPH.out, HEQ.out]; exact ldN_snd z s mh
        have hl2 : pq.2 < 8 := by rw [HPQ.out, HEQ.out]; exact ldN_snd z s ml
        have hD := HD.out
        rw [← HPH.out, ← HPQ.out] at hD
        obtain ⟨c1, l1⟩ := ph
        obtain ⟨c2, l2⟩ := pq
        simp only at hp10 hq10 hle hD hl1 hl2
        obtain ⟨r, hsub⟩ := run_c_sub (P := Try.prog) 61 c1 c2 l1 l2 hp10 hq10 (by omega) (by omega) hle
        obtain ⟨d, hd⟩ : ∃ d, d = c1 - c2 := ⟨_, rfl⟩
        rw [← hd] at hsub hD
        have hd10 : d < 10 := by omega
        simp only [cx]
        have hor := fb_order d hd10 1 (by decide)
        rw [fb_one] at hor
        obtain ⟨o, ho⟩ : ∃ o, o = compare d 1 := ⟨_, rfl⟩
        have hor2 : (some o == some Ordering.lt || some o == some Ordering.eq) = true := by
          rw [ho]
          rcases Nat.lt_or_ge d 1 with h | h
          · simp [Nat.compare_eq_lt.2 h]
          · obtain rfl : d = 1 := by omega
            rfl
        rw [← ho] at hor
        obtain ⟨k5, f5⟩ := blk G4.out
        clear hp10 hq10 hle hd hl1 hl2 hD ho hd10
        cases o
        · go_wp2
          try rw [Exit.noGoto_ret]
          refine bodyPost_ret (results_cell_one Try.results13 _ _ (W.heap.size + 1) 26 #[.int .i64 0, .int .i64 0] (0, 0) _ rfl (hs_same (hs_same G4.out)) Try.underlying26 rfl (by kernel_rfl)) rfl ⟨rfl, ?_⟩
          exact (HB4.out.setCell (by simp) _).setCell (by simp) _
        · go_wp2
          try rw [Exit.noGoto_ret]
          refine bodyPost_ret (results_cell_one Try.results13 _ _ (W.heap.size + 1) 26 #[.int .i64 0, .int .i64 0] (0, 0) _ rfl (hs_same (hs_same G4.out)) Try.underlying26 rfl (by kernel_rfl)) rfl ⟨rfl, ?_⟩
          exact (HB4.out.setCell (by simp) _).setCell (by simp) _
        · cases hor2
end Go.Proofs.Ytflmeannmfhhhaa
