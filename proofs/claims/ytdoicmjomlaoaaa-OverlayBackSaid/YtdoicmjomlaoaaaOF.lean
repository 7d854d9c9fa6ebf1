import Derived.Test.YtdoicmjomlaoaaaOE
namespace Go.Proofs.Ytdoicmjomlaoaaa
open Go.RowKit
set_option maxRecDepth 100000 in
set_option maxHeartbeats 4000000 in
theorem oorder_good (a : Option Addr) (n c : Nat) (l : List Wr) (p q : Wr) (W : World) (hs : Sl W a n c 9 (wcs l)) (h8 : W8 l) (hn : n ≤ 100) (hp : p.2.length = 8) (hq : q.2.length = 8) (h1 : ptE l p = 0) (h2 : ptE l q = 0) :
    Calls Try.prog 3 #[.slice a n c, .agg (wc p).toArray, .agg (wc q).toArray] W fun e w' => e = .returned (.bool true) ∧ Below W.heap.size W w' := by
  have HS := hidd hs
  have H8 := hidd h8
  have HL := hidd (show l.length = n by have := hs.len; rw [wcs_len h8] at this; omega)
  obtain ⟨B, b0, b1, b2, b3, b4, b5, b6, b7, rfl⟩ := wr8 hp
  obtain ⟨C, d0, d1, d2, d3, d4, d5, d6, d7, rfl⟩ := wr8 hq
  obtain ⟨P, hP⟩ : ∃ P : Wr, P = (B, [b0, b1, b2, b3, b4, b5, b6, b7]) := ⟨_, rfl⟩
  obtain ⟨Q, hQ⟩ : ∃ Q : Wr, Q = (C, [d0, d1, d2, d3, d4, d5, d6, d7]) := ⟨_, rfl⟩
  have HP8 := hidd (show P.2.length = 8 by rw [hP]; rfl)
  have HQ8 := hidd (show Q.2.length = 8 by rw [hQ]; rfl)
  have HPW := hidd (show (wc P).toArray = (aggW B b0 b1 b2 b3 b4 b5 b6 b7) by rw [hP]; rfl)
  have HQW := hidd (show (wc Q).toArray = (aggW C d0 d1 d2 d3 d4 d5 d6 d7) by rw [hQ]; rfl)
  have HP1 := hidd (show P.1 = B by rw [hP])
  have HQ1 := hidd (show Q.1 = C by rw [hQ])
  have HE1 := hidd (show ptE l P = 0 by rw [hP]; exact h1)
  have HE2 := hidd (show ptE l Q = 0 by rw [hQ]; exact h2)
  have HX := hidd (ptL_ins HE1.out)
  have HY := hidd (ptL_ins HE2.out)
  have hwl := (ptE_zero HE1.out).1.1
  have h9 := writtenB_len hwl
  rw [HL.out] at h9
  have HGT := hidd (show gtB B l = thB B l from gtB_thB B l (-1) (by unfold writtenB at hwl; simp only [Bool.and_eq_true] at hwl; exact hwl.1))
  have HM := hidd (show (ins P l).length = if thB B l = true then n else n + 1 by rw [ins_len, HP1.out, HL.out])
  have HX8 := hidd (show W8 (ins P l) by rw [← HX.out]; exact ptL_W8 H8.out HP8.out)
  have HY8 := hidd (show W8 (ins Q l) by rw [← HY.out]; exact ptL_W8 H8.out HQ8.out)
  have HY9 := hidd (show (ins Q l).length ≤ 9 by rw [ins_len, HL.out]; split <;> omega)
  clear hs h8 hP hQ h1 h2 hwl
  show Calls Try.prog 3 #[.slice a n c, .agg (aggW B b0 b1 b2 b3 b4 b5 b6 b7), .agg (aggW C d0 d1 d2 d3 d4 d5 d6 d7)] W _
  go_enter Try.func3, Try.ntmps3
  have HB0 := hidd (((Below.refl _ W).alloc (Nat.le_refl _) (.cells (aggW B b0 b1 b2 b3 b4 b5 b6 b7) 26)).alloc (by simp) (.cells (aggW C d0 d1 d2 d3 d4 d5 d6 d7) 26))
  have GP0 := hidd (heap_alloc2_old W (.cells (aggW B b0 b1 b2 b3 b4 b5 b6 b7) 26) (.cells (aggW C d0 d1 d2 d3 d4 d5 d6 d7) 26))
  have GQ0 := hidd (heap_alloc2_new W (.cells (aggW B b0 b1 b2 b3 b4 b5 b6 b7) 26) (.cells (aggW C d0 d1 d2 d3 d4 d5 d6 d7) 26))
  go_wp2_with (first | (go_at_call 7; refine (great_any a n c _ (by omega)).mono ?_; rintro e w' ⟨rfl, rfl⟩) | (with_reducible refine wpList_load_row rfl 26 (.tmp 4) rfl W.heap.size rfl 26 (aggW B b0 b1 b2 b3 b4 b5 b6 b7) (0, 0) _ GP0.out Try.underlying26 rfl (aggW_sz B b0 b1 b2 b3 b4 b5 b6 b7) ?_) | (with_reducible refine wpList_load_row rfl 26 (.tmp 5) rfl (W.heap.size + 1) rfl 26 (aggW C d0 d1 d2 d3 d4 d5 d6 d7) (0, 0) _ GQ0.out Try.underlying26 rfl (aggW_sz C d0 d1 d2 d3 d4 d5 d6 d7) ?_))
  have hput := put_any a n c l P _ (HS.out.grow HB0.out) H8.out (by omega) HP8.out
  rw [HPW.out] at hput
  refine hput.mono ?_
  clear hput
  rintro e w1 ⟨a1, c1, rfl, hs1, hb1⟩
  have GP1 := hidd (blk_below hb1 GP0.out (by simp; omega))
  have GQ1 := hidd (blk_below hb1 GQ0.out (by simp))
  have hz1 : W.heap.size + 1 < w1.heap.size := by have := hb1.size; simp at this; omega
  have HB1 := hidd (HB0.out.trans (hb1.mono (by simp; omega)))
  have HS1 := hidd hs1
  clear hs1 hb1
  go_wp2_with (first | (with_reducible refine wpList_load_row rfl 26 (.tmp 4) rfl W.heap.size rfl 26 (aggW B b0 b1 b2 b3 b4 b5 b6 b7) (0, 0) _ GP1.out Try.underlying26 rfl (aggW_sz B b0 b1 b2 b3 b4 b5 b6 b7) ?_) | (with_reducible refine wpList_load_row rfl 26 (.tmp 5) rfl (W.heap.size + 1) rfl 26 (aggW C d0 d1 d2 d3 d4 d5 d6 d7) (0, 0) _ GQ1.out Try.underlying26 rfl (aggW_sz C d0 d1 d2 d3 d4 d5 d6 d7) ?_))
  have hput := put_any a n c l Q _ (HS.out.grow HB1.out) H8.out (by omega) HQ8.out
  rw [HQW.out] at hput
  refine hput.mono ?_
  clear hput
  rintro e w2 ⟨a2, c2, rfl, hs2, hb2⟩
  have GP2 := hidd (blk_below hb2 GP1.out (by omega))
  have GQ2 := hidd (blk_below hb2 GQ1.out (by omega))
  have hz2 : W.heap.size + 1 < w2.heap.size := by have := hb2.size; omega
  have HB2 := hidd (HB1.out.trans (hb2.mono (by omega)))
  have HS2 := hidd hs2
  have HS12 := hidd (HS1.out.grow hb2)
  clear hs2 hb2
  rw [HE1.out, HE2.out, HX.out, HY.out]
  have hs12 := HS12.out
  have hs2 := HS2.out
  rw [HX.out] at hs12
  rw [HY.out] at hs2
  have HSX := hidd hs12
  have HSY := hidd hs2
  clear HS12 HS2 HS1 hs12 hs2
  obtain ⟨k1, f1⟩ := blk GP2.out
  obtain ⟨k2, f2⟩ := blk GQ2.out
  have kp : w2.cell? ⟨W.heap.size, 0, none⟩ = some (.int .i64 B) := k1 0
  clear k1 k2 f1 f2
  go_wp2_with fail
  refine (get_any a n c l B w2 (HS.out.grow HB2.out) H8.out (by omega)).mono ?_
  rintro e w3 ⟨rfl, hb3⟩
  rw [HGT.out]
  have GP3 := hidd (blk_below hb3 GP2.out (by omega))
  have GQ3 := hidd (blk_below hb3 GQ2.out (by omega))
  have hz3 : W.heap.size + 1 < w3.heap.size := by have := hb3.size; omega
  have HB3 := hidd (HB2.out.trans (hb3.mono (by omega)))
  have HSX3 := hidd (HSX.out.grow hb3)
  have HSY3 := hidd (HSY.out.grow hb3)
  clear hb3 kp
  obtain ⟨k1, f1⟩ := blk GP3.out
  obtain ⟨k2, f2⟩ := blk GQ3.out
  have kp : w3.cell? ⟨W.heap.size, 0, none⟩ = some (.int .i64 B) := k1 0
  have kq : w3.cell? ⟨W.heap.size + 1, 0, none⟩ = some (.int .i64 C) := k2 0
  clear k1 k2 f1 f2
  obtain ⟨m1, hm1⟩ : ∃ m, m = (ins P l).length := ⟨_, rfl⟩
  have hmv := HM.out
  rw [← hm1] at hmv
  have hsx3 := HSX3.out
  rw [← hm1] at hsx3
  have HSX4 := hidd hsx3
  rw [← hm1]
  have hm10 : m1 ≤ 10 := by rw [hmv]; split <;> omega
  obtain ⟨m2, hm2⟩ : ∃ m, m = (ins Q l).length := ⟨_, rfl⟩
  have hsy3 := HSY3.out
  rw [← hm2] at hsy3
  have HSY4 := hidd hsy3
  have hm20 : m2 ≤ 10 := by have := HY9.out; omega
  rw [← hm2]
  have HM1 := hidd hm1
  have HMV := hidd hmv
  have hgl : (bs (gtV B l)).toArray.size = 8 := by rw [List.size_toArray, bs_length, gtV_len H8.out]
  have HGS := hidd (show (Try.prog.info? 24).map (·.size) = some (bs (gtV B l)).toArray.size by rw [hgl]; kernel_rfl)
  have HGO := hidd (show z24.size = (bs (gtV B l)).toArray.size from hgl.symm)
  have HG1 := hidd (show (bs (gtV B l)).toArray.all (·.oneCell') = true from all_oneCell_toArray (bs_one _))
  have GP3a := hidd ((heap_alloc_old w3 (.cells (bs (gtV B l)).toArray 24) (by omega)).trans GP3.out)
  have GQ3a := hidd ((heap_alloc_old w3 (.cells (bs (gtV B l)).toArray 24) (by omega)).trans GQ3.out)
  have HB3a := hidd (HB3.out.alloc HB3.out.size (.cells (bs (gtV B l)).toArray 24))
  have HSX4a := hidd (HSX4.out.grow ((Below.refl _ w3).alloc (Nat.le_refl _) (.cells (bs (gtV B l)).toArray 24)))
  have HSY4a := hidd (HSY4.out.grow ((Below.refl _ w3).alloc (Nat.le_refl _) (.cells (bs (gtV B l)).toArray 24)))
  have kpa : (w3.alloc (.cells (bs (gtV B l)).toArray 24)).cell? ⟨W.heap.size, 0, none⟩ = some (.int .i64 B) := (blk GP3a.out).1 0
  have kqa : (w3.alloc (.cells (bs (gtV B l)).toArray 24)).cell? ⟨W.heap.size + 1, 0, none⟩ = some (.int .i64 C) := (blk GQ3a.out).1 0
  have hn3 : W.heap.size ≠ w3.heap.size := by omega
  have hn4 : W.heap.size + 1 ≠ w3.heap.size := by omega
  clear hm1 hm2 hsx3 hsy3 hmv HSX3 HSY3 HSX HSY hgl
  obtain ⟨t, ht⟩ : ∃ t, t = thB B l := ⟨_, rfl⟩
  have hmv := HMV.out
  rw [← ht] at hmv ⊢
  clear ht
  by_cases hBC : B = C
  · have ho := order_same HE1.out HE2.out (show P.1 = Q.1 by rw [HP1.out, HQ1.out]; exact hBC)
    have HO := hidd ho
    have HBC := hidd hBC
    have ebc : (B == C) = true := by simp [hBC]
    clear ho hBC
    cases t
    · have hmm : m1 = n + 1 := by simpa using hmv
      clear hmv
      subst hmm
      go_wp2_with (first | (with_reducible refine wpList_store_new rfl 24 (.tmp 11) (.tmp 46) rfl z24 (bs (gtV B l)).toArray 24 rfl rfl HGS.out HGO.out HG1.out rfl ?_) | (with_reducible refine wpList_load_row rfl 26 (.tmp 4) rfl W.heap.size rfl 26 (aggW B b0 b1 b2 b3 b4 b5 b6 b7) (0, 0) _ GP3a.out Try.underlying26 rfl (aggW_sz B b0 b1 b2 b3 b4 b5 b6 b7) ?_) | (with_reducible refine wpList_load_row rfl 26 (.tmp 5) rfl (W.heap.size + 1) rfl 26 (aggW C d0 d1 d2 d3 d4 d5 d6 d7) (0, 0) _ GQ3a.out Try.underlying26 rfl (aggW_sz C d0 d1 d2 d3 d4 d5 d6 d7) ?_))
      have hput := put_any a1 (n + 1) c1 (ins P l) Q _ HSX4a.out HX8.out (by omega) HQ8.out
      rw [HQW.out] at hput
      refine hput.mono ?_
      clear hput
      rintro e w4 ⟨a4, c4, rfl, hs4, hb4⟩
      rw [HO.out.1]
      rw [ptL_ins HO.out.1, HO.out.2] at hs4
      rw [ptL_ins HO.out.1, HO.out.2]
      have HS4 := hidd hs4
      have HSY5 := hidd (HSY4a.out.grow hb4)
      have HB4 := hidd (HB3a.out.trans (hb4.mono (by simp; omega)))
      have h4z : W.heap.size ≤ w4.heap.size := HB4.out.size
      clear hs4 hb4
      have hl4 := HY9.out
      go_wp2_with fail
      refine (same_any a4 _ c4 (ins Q l) a2 m2 c2 (ins Q l) w4 HS4.out HY8.out (by omega) HSY5.out HY8.out (by omega)).mono ?_
      rintro e w5 ⟨rfl, hb5⟩
      rw [decide_eq_true rfl]
      have HB5 := hidd (HB4.out.trans (hb5.mono h4z))
      have h5z : W.heap.size ≤ w5.heap.size := HB5.out.size
      clear hb5
      go_wp2_with (go_at_call 8; refine (wakes08 _).mono ?_; rintro e w6 ⟨rfl, hb6⟩)
      go_ret
      exact ⟨rfl, HB5.out.trans (hb6.mono h5z)⟩
    · have hmm : m1 = n := by simpa using hmv
      clear hmv
      subst hmm
      go_wp2_with (first | (with_reducible refine wpList_store_new rfl 24 (.tmp 11) (.tmp 46) rfl z24 (bs (gtV B l)).toArray 24 rfl rfl HGS.out HGO.out HG1.out rfl ?_) | (with_reducible refine wpList_load_row rfl 26 (.tmp 4) rfl W.heap.size rfl 26 (aggW B b0 b1 b2 b3 b4 b5 b6 b7) (0, 0) _ GP3a.out Try.underlying26 rfl (aggW_sz B b0 b1 b2 b3 b4 b5 b6 b7) ?_) | (with_reducible refine wpList_load_row rfl 26 (.tmp 5) rfl (W.heap.size + 1) rfl 26 (aggW C d0 d1 d2 d3 d4 d5 d6 d7) (0, 0) _ GQ3a.out Try.underlying26 rfl (aggW_sz C d0 d1 d2 d3 d4 d5 d6 d7) ?_))
      have hput := put_any a1 m1 c1 (ins P l) Q _ HSX4a.out HX8.out (by omega) HQ8.out
      rw [HQW.out] at hput
      refine hput.mono ?_
      clear hput
      rintro e w4 ⟨a4, c4, rfl, hs4, hb4⟩
      rw [HO.out.1]
      rw [ptL_ins HO.out.1, HO.out.2] at hs4
      rw [ptL_ins HO.out.1, HO.out.2]
      have HS4 := hidd hs4
      have HSY5 := hidd (HSY4a.out.grow hb4)
      have HB4 := hidd (HB3a.out.trans (hb4.mono (by simp; omega)))
      have h4z : W.heap.size ≤ w4.heap.size := HB4.out.size
      clear hs4 hb4
      have hl4 := HY9.out
      go_wp2_with fail
      refine (same_any a4 _ c4 (ins Q l) a2 m2 c2 (ins Q l) w4 HS4.out HY8.out (by omega) HSY5.out HY8.out (by omega)).mono ?_
      rintro e w5 ⟨rfl, hb5⟩
      rw [decide_eq_true rfl]
      have HB5 := hidd (HB4.out.trans (hb5.mono h4z))
      have h5z : W.heap.size ≤ w5.heap.size := HB5.out.size
      clear hb5
      go_wp2_with (go_at_call 8; refine (wakes08 _).mono ?_; rintro e w6 ⟨rfl, hb6⟩)
      go_ret
      exact ⟨rfl, HB5.out.trans (hb6.mono h5z)⟩
  · have ho := order_other HE1.out HE2.out (show P.1 ≠ Q.1 by rw [HP1.out, HQ1.out]; exact hBC)
    have HO := hidd ho
    have ebc : (B == C) = false := by simp [hBC]
    clear ho hBC
    cases t
    · have hmm : m1 = n + 1 := by simpa using hmv
      clear hmv
      subst hmm
      go_wp2_with (first | (with_reducible refine wpList_store_new rfl 24 (.tmp 11) (.tmp 46) rfl z24 (bs (gtV B l)).toArray 24 rfl rfl HGS.out HGO.out HG1.out rfl ?_) | (with_reducible refine wpList_load_row rfl 26 (.tmp 4) rfl W.heap.size rfl 26 (aggW B b0 b1 b2 b3 b4 b5 b6 b7) (0, 0) _ GP3a.out Try.underlying26 rfl (aggW_sz B b0 b1 b2 b3 b4 b5 b6 b7) ?_) | (with_reducible refine wpList_load_row rfl 26 (.tmp 5) rfl (W.heap.size + 1) rfl 26 (aggW C d0 d1 d2 d3 d4 d5 d6 d7) (0, 0) _ GQ3a.out Try.underlying26 rfl (aggW_sz C d0 d1 d2 d3 d4 d5 d6 d7) ?_))
      have hput := put_any a1 (n + 1) c1 (ins P l) Q _ HSX4a.out HX8.out (by omega) HQ8.out
      rw [HQW.out] at hput
      refine hput.mono ?_
      clear hput
      rintro e w4 ⟨a4, c4, rfl, hs4, hb4⟩
      have HS4 := hidd hs4
      have HSY5 := hidd (HSY4a.out.grow hb4)
      have GP4 := hidd (blk_below hb4 GP3a.out (by simp; omega))
      have GQ4 := hidd (blk_below hb4 GQ3a.out (by simp; omega))
      have hz4 : W.heap.size + 1 < w4.heap.size := by have := hb4.size; simp at this; omega
      have HB4 := hidd (HB3a.out.trans (hb4.mono (by simp; omega)))
      clear hs4 hb4 kp kq kpa kqa
      go_wp2_with (first | (with_reducible refine wpList_load_row rfl 26 (.tmp 4) rfl W.heap.size rfl 26 (aggW B b0 b1 b2 b3 b4 b5 b6 b7) (0, 0) _ GP4.out Try.underlying26 rfl (aggW_sz B b0 b1 b2 b3 b4 b5 b6 b7) ?_) | (with_reducible refine wpList_load_row rfl 26 (.tmp 5) rfl (W.heap.size + 1) rfl 26 (aggW C d0 d1 d2 d3 d4 d5 d6 d7) (0, 0) _ GQ4.out Try.underlying26 rfl (aggW_sz C d0 d1 d2 d3 d4 d5 d6 d7) ?_))
      have hput := put_any a2 m2 c2 (ins Q l) P w4 HSY5.out HY8.out (by omega) HP8.out
      rw [HPW.out] at hput
      refine hput.mono ?_
      clear hput
      rintro e w5 ⟨a5, c5, rfl, hs5, hb5⟩
      have HS5 := hidd hs5
      have HS45 := hidd (HS4.out.grow hb5)
      have HB5 := hidd (HB4.out.trans (hb5.mono (by omega)))
      have h5z : W.heap.size ≤ w5.heap.size := HB5.out.size
      have h8a := ptL_W8 HX8.out HQ8.out
      have h8b := ptL_W8 HY8.out HP8.out
      have HA := hidd h8a
      have HBB := hidd h8b
      rw [← HO.out.1]
      clear hs5 hb5 h8a h8b
      by_cases he : ptE (ins P l) Q = 0
      · have heq : ptL (ins P l) Q = ptL (ins Q l) P := by
          rw [ptL_ins he, ptL_ins (HO.out.1 ▸ he), HO.out.2]
        have hlen : (ptL (ins P l) Q).length ≤ 20 := by
          rw [ptL_ins he, ins_len, ← HM1.out]
          split <;> omega
        have HEQ := hidd heq
        rw [he]
        clear heq he
        go_wp2_with fail
        refine (same_any a4 _ c4 (ptL (ins P l) Q) a5 _ c5 (ptL (ins Q l) P) w5 HS45.out HA.out (by omega) HS5.out HBB.out (by rw [← HEQ.out]; omega)).mono ?_
        rintro e w6 ⟨rfl, hb6⟩
        rw [decide_eq_true HEQ.out]
        have HB6 := hidd (HB5.out.trans (hb6.mono h5z))
        have h6z : W.heap.size ≤ w6.heap.size := HB6.out.size
        clear hb6
        go_wp2_with (go_at_call 8; refine (wakes08 _).mono ?_; rintro e w7 ⟨rfl, hb7⟩)
        go_ret
        exact ⟨rfl, HB6.out.trans (hb7.mono h6z)⟩
      · obtain ⟨er, her⟩ : ∃ er, er = ptE (ins P l) Q := ⟨_, rfl⟩
        have e0 : (er != 0) = true := by rw [her]; simp [he]
        rw [← her]
        clear he her
        go_wp2_with (go_at_call 8; refine (wakes08 _).mono ?_; rintro e w7 ⟨rfl, hb7⟩)
        go_ret
        exact ⟨rfl, HB5.out.trans (hb7.mono h5z)⟩
    · have hmm : m1 = n := by simpa using hmv
      clear hmv
      subst hmm
      go_wp2_with (first | (with_reducible refine wpList_store_new rfl 24 (.tmp 11) (.tmp 46) rfl z24 (bs (gtV B l)).toArray 24 rfl rfl HGS.out HGO.out HG1.out rfl ?_) | (with_reducible refine wpList_load_row rfl 26 (.tmp 4) rfl W.heap.size rfl 26 (aggW B b0 b1 b2 b3 b4 b5 b6 b7) (0, 0) _ GP3a.out Try.underlying26 rfl (aggW_sz B b0 b1 b2 b3 b4 b5 b6 b7) ?_) | (with_reducible refine wpList_load_row rfl 26 (.tmp 5) rfl (W.heap.size + 1) rfl 26 (aggW C d0 d1 d2 d3 d4 d5 d6 d7) (0, 0) _ GQ3a.out Try.underlying26 rfl (aggW_sz C d0 d1 d2 d3 d4 d5 d6 d7) ?_))
      have hput := put_any a1 m1 c1 (ins P l) Q _ HSX4a.out HX8.out (by omega) HQ8.out
      rw [HQW.out] at hput
      refine hput.mono ?_
      clear hput
      rintro e w4 ⟨a4, c4, rfl, hs4, hb4⟩
      have HS4 := hidd hs4
      have HSY5 := hidd (HSY4a.out.grow hb4)
      have GP4 := hidd (blk_below hb4 GP3a.out (by simp; omega))
      have GQ4 := hidd (blk_below hb4 GQ3a.out (by simp; omega))
      have hz4 : W.heap.size + 1 < w4.heap.size := by have := hb4.size; simp at this; omega
      have HB4 := hidd (HB3a.out.trans (hb4.mono (by simp; omega)))
      clear hs4 hb4 kp kq kpa kqa
      go_wp2_with (first | (with_reducible refine wpList_load_row rfl 26 (.tmp 4) rfl W.heap.size rfl 26 (aggW B b0 b1 b2 b3 b4 b5 b6 b7) (0, 0) _ GP4.out Try.underlying26 rfl (aggW_sz B b0 b1 b2 b3 b4 b5 b6 b7) ?_) | (with_reducible refine wpList_load_row rfl 26 (.tmp 5) rfl (W.heap.size + 1) rfl 26 (aggW C d0 d1 d2 d3 d4 d5 d6 d7) (0, 0) _ GQ4.out Try.underlying26 rfl (aggW_sz C d0 d1 d2 d3 d4 d5 d6 d7) ?_))
      have hput := put_any a2 m2 c2 (ins Q l) P w4 HSY5.out HY8.out (by omega) HP8.out
      rw [HPW.out] at hput
      refine hput.mono ?_
      clear hput
      rintro e w5 ⟨a5, c5, rfl, hs5, hb5⟩
      have HS5 := hidd hs5
      have HS45 := hidd (HS4.out.grow hb5)
      have HB5 := hidd (HB4.out.trans (hb5.mono (by omega)))
      have h5z : W.heap.size ≤ w5.heap.size := HB5.out.size
      have h8a := ptL_W8 HX8.out HQ8.out
      have h8b := ptL_W8 HY8.out HP8.out
      have HA := hidd h8a
      have HBB := hidd h8b
      rw [← HO.out.1]
      clear hs5 hb5 h8a h8b
      by_cases he : ptE (ins P l) Q = 0
      · have heq : ptL (ins P l) Q = ptL (ins Q l) P := by
          rw [ptL_ins he, ptL_ins (HO.out.1 ▸ he), HO.out.2]
        have hlen : (ptL (ins P l) Q).length ≤ 20 := by
          rw [ptL_ins he, ins_len, ← HM1.out]
          split <;> omega
        have HEQ := hidd heq
        rw [he]
        clear heq he
        go_wp2_with fail
        refine (same_any a4 _ c4 (ptL (ins P l) Q) a5 _ c5 (ptL (ins Q l) P) w5 HS45.out HA.out (by omega) HS5.out HBB.out (by rw [← HEQ.out]; omega)).mono ?_
        rintro e w6 ⟨rfl, hb6⟩
        rw [decide_eq_true HEQ.out]
        have HB6 := hidd (HB5.out.trans (hb6.mono h5z))
        have h6z : W.heap.size ≤ w6.heap.size := HB6.out.size
        clear hb6
        go_wp2_with (go_at_call 8; refine (wakes08 _).mono ?_; rintro e w7 ⟨rfl, hb7⟩)
        go_ret
        exact ⟨rfl, HB6.out.trans (hb7.mono h6z)⟩
      · obtain ⟨er, her⟩ : ∃ er, er = ptE (ins P l) Q := ⟨_, rfl⟩
        have e0 : (er != 0) = true := by rw [her]; simp [he]
        rw [← her]
        clear he her
        go_wp2_with (go_at_call 8; refine (wakes08 _).mono ?_; rintro e w7 ⟨rfl, hb7⟩)
        go_ret
        exact ⟨rfl, HB5.out.trans (hb7.mono h5z)⟩
end Go.Proofs.Ytdoicmjomlaoaaa
