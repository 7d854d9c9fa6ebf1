import Derived.Test.YtdoicmjomlaoaaaOL
namespace Go.Proofs.Ytdoicmjomlaoaaa
open Go.RowKit
set_option maxRecDepth 100000 in
set_option maxHeartbeats 8000000 in
theorem oback_ref (H : List UInt8) (a1 : Option Addr) (n1 c1 : Nat) (la : List Wr) (a2 : Option Addr) (n2 c2 : Nat) (lb : List Wr) (p : Wr) (W : World) (hH : H.length = 256) (hs1 : Sl W a1 n1 c1 9 (wcs la)) (h81 : W8 la) (hs2 : Sl W a2 n2 c2 9 (wcs lb)) (h82 : W8 lb) (hp : p.2.length = 8) (hw1 : writtenB la = true) (hw2 : writtenB lb = true) (hE : ptE la p ≠ 0) :
    Calls Try.prog 4 #[.agg (bs H).toArray, .slice a1 n1 c1, .slice a2 n2 c2, .agg (wc p).toArray] W fun e w' => e = .returned (.bool true) ∧ Below W.heap.size W w' := by
  have HH := hidd hH
  have HS1 := hidd hs1
  have H81 := hidd h81
  have HS2 := hidd hs2
  have H82 := hidd h82
  have HL1 := hidd (show la.length = n1 by have := hs1.len; rw [wcs_len h81] at this; omega)
  have HL2 := hidd (show lb.length = n2 by have := hs2.len; rw [wcs_len h82] at this; omega)
  obtain ⟨B, b0, b1, b2, b3, b4, b5, b6, b7, rfl⟩ := wr8 hp
  rw [show (wc (B, [b0, b1, b2, b3, b4, b5, b6, b7])).toArray = (aggW B b0 b1 b2 b3 b4 b5 b6 b7) from rfl]
  have HW1 := hidd hw1
  have HW2 := hidd hw2
  have n18 : n1 ≤ 8 := by have := writtenB_len hw1; rw [HL1.out] at this; exact this
  have n28 : n2 ≤ 8 := by have := writtenB_len hw2; rw [HL2.out] at this; exact this
  obtain ⟨P, hP⟩ : ∃ P : Wr, P = (B, [b0, b1, b2, b3, b4, b5, b6, b7]) := ⟨_, rfl⟩
  have HP8 := hidd (show P.2.length = 8 by rw [hP]; rfl)
  have HPW := hidd (show (wc P).toArray = (aggW B b0 b1 b2 b3 b4 b5 b6 b7) by rw [hP]; rfl)
  have HP1 := hidd (show P.1 = B by rw [hP])
  have HP2 := hidd (show P.2 = [b0, b1, b2, b3, b4, b5, b6, b7] by rw [hP])
  have HE := hidd (show ptE la P ≠ 0 by rw [hP]; exact hE)
  clear hH hs1 h81 hs2 h82 hp hw1 hw2 hE hP
  go_enter Try.func4, Try.ntmps4
  have HB0 := hidd (((Below.refl _ W).alloc (Nat.le_refl _) (.cells (bs H).toArray 36)).alloc (by simp) (.cells (aggW B b0 b1 b2 b3 b4 b5 b6 b7) 26))
  have GH0 := hidd (heap_alloc2_old W (.cells (bs H).toArray 36) (.cells (aggW B b0 b1 b2 b3 b4 b5 b6 b7) 26))
  have GP0 := hidd (heap_alloc2_new W (.cells (bs H).toArray 36) (.cells (aggW B b0 b1 b2 b3 b4 b5 b6 b7) 26))
  go_wp2_with fail
  refine (rwritten_any a1 n1 c1 la _ (HS1.out.grow HB0.out) H81.out n18).mono ?_
  rintro e w1 ⟨rfl, hb1⟩
  rw [HW1.out]
  have GH1 := hidd (blk_below hb1 GH0.out (by simp; omega))
  have GP1 := hidd (blk_below hb1 GP0.out (by simp))
  have hz1 : W.heap.size + 1 < w1.heap.size := by have := hb1.size; simp at this; omega
  have HB1 := hidd (HB0.out.trans (hb1.mono (by simp; omega)))
  clear hb1
  go_wp2_with fail
  refine (rwritten_any a2 n2 c2 lb _ (HS2.out.grow HB1.out) H82.out n28).mono ?_
  rintro e w2 ⟨rfl, hb2⟩
  rw [HW2.out]
  have GH2 := hidd (blk_below hb2 GH1.out (by omega))
  have GP2 := hidd (blk_below hb2 GP1.out hz1)
  have hz2 : W.heap.size + 1 < w2.heap.size := by have := hb2.size; omega
  have HB2 := hidd (HB1.out.trans (hb2.mono HB1.out.size))
  clear hb2
  go_wp2_with (with_reducible refine wpList_load_row rfl 26 (.tmp 7) rfl (W.heap.size + 1) rfl 26 (aggW B b0 b1 b2 b3 b4 b5 b6 b7) (0, 0) _ GP2.out Try.underlying26 rfl (aggW_sz B b0 b1 b2 b3 b4 b5 b6 b7) ?_)
  have hput := put_any a1 n1 c1 la P _ (HS1.out.grow HB2.out) H81.out (by omega) HP8.out
  rw [HPW.out] at hput
  refine hput.mono ?_
  clear hput
  rintro e w3 ⟨a3, c3, rfl, hs3, hb3⟩
  have GH3 := hidd (blk_below hb3 GH2.out (by omega))
  have GP3 := hidd (blk_below hb3 GP2.out hz2)
  have hz3 : W.heap.size + 1 < w3.heap.size := by have := hb3.size; omega
  have HB3 := hidd (HB2.out.trans (hb3.mono HB2.out.size))
  have HS3 := hidd hs3
  clear hs3 hb3
  obtain ⟨er, her⟩ : ∃ er, er = ptE la P := ⟨_, rfl⟩
  have e0 : (er == 0) = false := by rw [her]; simp [HE.out]
  rw [← her]
  clear her
  go_wp2_with fail
  obtain ⟨wt, hwt⟩ : ∃ wt, wt = w3 := ⟨_, rfl⟩
  rw [← hwt]
  have HBT := hidd (show Below W.heap.size W wt by rw [hwt]; exact HB3.out)
  have GHT := hidd (show wt.heap[W.heap.size]? = some (.cells (bs H).toArray 36 (0, 0)) by rw [hwt]; exact GH3.out)
  have hzt : W.heap.size < wt.heap.size := by rw [hwt]; omega
  clear e0 hwt
  refine (over_any a1 n1 c1 la a2 n2 c2 lb wt (HS1.out.grow HBT.out) H81.out HW1.out (HS2.out.grow HBT.out) H82.out HW2.out).mono ?_
  rintro e wx ⟨a5, c5, rfl, hs5, hb5⟩
  have HS5 := hidd hs5
  have HBX := hidd (HBT.out.trans (hb5.mono HBT.out.size))
  have GHX := hidd (blk_below hb5 GHT.out hzt)
  clear hs5 hb5
  have hov := ovL_spec lb la (-1) HW1.out H81.out H82.out (by have := HW2.out; unfold writtenB at this; simp only [Bool.and_eq_true] at this; exact this.1) (by omega)
  rcases hov with ⟨hor, hgood⟩
  by_cases h0 : (ovL la lb).2 = 0
  · obtain ⟨g1, g2, g3⟩ := hgood h0
    have HOVW := hidd g1
    have HOV8 := hidd g2
    have HOVL := hidd (writtenB_len g1)
    have HOVO := hidd (g3 H HH.out)
    have HLD := hidd (load_all GHX.out Try.underlying36 rfl (sz36 H HH.out))
    have hq := fun w => eq36 w (onL (onL H la) lb) (onL_len lb _ (onL_len la H HH.out H81.out) H82.out)
    rw [h0]
    clear hor hgood h0 g1 g2 g3
    go_wp2_with fail
    refine wp_region_held_drew (S := fun w' => Below wx.heap.size wx w') (by kernel_rfl) ((Below.refl _ wx).drew) (fun hH => ?_)
    refine take_at 0 111 (v := ?_) rfl rfl (by kernel_rfl) (by kernel_rfl) (by kernel_rfl) (fun _ _ _ h => h) (Or.inl ⟨by rfl, ?_⟩) hH ?_
    rotate_left
    · (intro w9 hSw; (try dsimp only at hSw); go_simp) <;> with_reducible rfl
    try simp only [List.setIfInBounds_toArray, List.set_cons_zero, List.set_cons_succ]
    refine wpAnyH_ready (rs := [1]) (by kernel_rfl) (by simp) ?_
    refine AllReadyH.cons rfl (fun K hK => ?_) AllReadyH.nil
    go_simp
    refine (rwritten_any a5 _ c5 (ovL la lb).1 _ (HS5.out.grow ((Below.refl _ wx).drew)) HOV8.out HOVL.out).mono ?_
    rintro e w6 ⟨rfl, hb6⟩
    rw [HOVW.out]
    have D6 := ((Below.refl wx.heap.size wx).drew).trans hb6
    clear hb6
    dsimp only
    refine hK.out _ _ (D6) (fun hH1 => ?_)
    clear hK K
    clear hH; have hH := hH1; clear hH1
    try simp only [Act.put, List.setIfInBounds_toArray, List.set_cons_zero, List.set_cons_succ]
    refine take_at 2 113 (v := ?_) rfl rfl (by kernel_rfl) (by kernel_rfl) (by kernel_rfl) (fun _ _ _ h => h) (Or.inl ⟨by rfl, ?_⟩) hH ?_
    rotate_left
    · (intro w9 hSw; (try dsimp only at hSw); go_simp) <;> with_reducible rfl
    try simp only [List.setIfInBounds_toArray, List.set_cons_zero, List.set_cons_succ]
    refine take_at 3 114 (v := ?_) rfl rfl (by kernel_rfl) (by kernel_rfl) (by kernel_rfl) (fun _ _ _ h => h) (Or.inl ⟨by rfl, ?_⟩) hH ?_
    rotate_left
    · (intro w9 hSw; (try dsimp only at hSw); refine (exec_load rfl (HLD.out w9 hSw)).trans ?_; with_reducible rfl)
    try simp only [List.setIfInBounds_toArray, List.set_cons_zero, List.set_cons_succ]
    refine take_at 4 115 (v := ?_) rfl rfl (by kernel_rfl) (by kernel_rfl) (by kernel_rfl) (fun _ _ _ h => h) (Or.inl ⟨by rfl, ?_⟩) hH ?_
    rotate_left
    · (intro w9 hSw; (try dsimp only at hSw); go_simp) <;> with_reducible rfl
    try simp only [List.setIfInBounds_toArray, List.set_cons_zero, List.set_cons_succ]
    refine take_at 6 117 (v := ?_) rfl rfl (by kernel_rfl) (by kernel_rfl) (by kernel_rfl) (fun _ _ _ h => h) (Or.inl ⟨by rfl, ?_⟩) hH ?_
    rotate_left
    · (intro w9 hSw; (try dsimp only at hSw); refine (exec_load rfl (HLD.out w9 hSw)).trans ?_; with_reducible rfl)
    try simp only [List.setIfInBounds_toArray, List.set_cons_zero, List.set_cons_succ]
    refine take_at 7 118 (v := ?_) rfl rfl (by kernel_rfl) (by kernel_rfl) (by kernel_rfl) (fun _ _ _ h => h) (Or.inl ⟨by rfl, ?_⟩) hH ?_
    rotate_left
    · (intro w9 hSw; (try dsimp only at hSw); go_simp) <;> with_reducible rfl
    try simp only [List.setIfInBounds_toArray, List.set_cons_zero, List.set_cons_succ]
    refine take_at 9 120 (v := ?_) rfl rfl (by kernel_rfl) (by kernel_rfl) (by kernel_rfl) (fun _ _ _ h => h) (Or.inl ⟨by rfl, ?_⟩) hH ?_
    rotate_left
    · (intro w9 hSw; (try dsimp only at hSw); go_simp) <;> with_reducible rfl
    try simp only [List.setIfInBounds_toArray, List.set_cons_zero, List.set_cons_succ]
    refine wpAnyH_ready (rs := [5]) (by kernel_rfl) (by simp) ?_
    refine AllReadyH.cons rfl (fun K hK => ?_) AllReadyH.nil
    go_simp
    refine (on_any H a5 _ c5 (ovL la lb).1 _ HH.out (HS5.out.grow D6) HOV8.out (by have := HOVL.out; omega)).mono ?_
    rintro e w7 ⟨rfl, hb7⟩
    rw [HOVO.out]
    have D7 := D6.trans (hb7.mono D6.size)
    clear hb7
    dsimp only
    refine hK.out _ _ (D7) (fun hH5 => ?_)
    clear hK K
    clear hH; have hH := hH5; clear hH5
    try simp only [Act.put, List.setIfInBounds_toArray, List.set_cons_zero, List.set_cons_succ]
    refine wpAnyH_ready (rs := [8]) (by kernel_rfl) (by simp) ?_
    refine AllReadyH.cons rfl (fun K hK => ?_) AllReadyH.nil
    go_simp
    refine (on_any H a1 n1 c1 la _ HH.out (HS1.out.grow (HBX.out.trans (D7.mono HBX.out.size))) H81.out (by omega)).mono ?_
    rintro e w8 ⟨rfl, hb8⟩
    have D8 := D7.trans (hb8.mono D7.size)
    clear hb8
    dsimp only
    refine hK.out _ _ (D8) (fun hH8 => ?_)
    clear hK K
    clear hH; have hH := hH8; clear hH8
    try simp only [Act.put, List.setIfInBounds_toArray, List.set_cons_zero, List.set_cons_succ]
    refine wpAnyH_ready (rs := [10]) (by kernel_rfl) (by simp) ?_
    refine AllReadyH.cons rfl (fun K hK => ?_) AllReadyH.nil
    go_simp
    refine (on_any (onL H la) a2 n2 c2 lb _ (onL_len la H HH.out H81.out) (HS2.out.grow (HBX.out.trans (D8.mono HBX.out.size))) H82.out (by omega)).mono ?_
    rintro e wz ⟨rfl, hbz⟩
    have DZ := D8.trans (hbz.mono D8.size)
    clear hbz
    dsimp only
    refine hK.out _ _ (DZ) (fun hH10 => ?_)
    clear hK K
    clear hH; have hH := hH10; clear hH10
    try simp only [Act.put, List.setIfInBounds_toArray, List.set_cons_zero, List.set_cons_succ]
    refine take_at 11 122 (v := ?_) rfl rfl (by kernel_rfl) (by kernel_rfl) (by kernel_rfl) (fun _ _ _ h => h) (Or.inl ⟨by rfl, ?_⟩) hH ?_
    rotate_left
    · (intro w9 hSw; (try dsimp only at hSw); go_simp) <;> with_reducible rfl
    try simp only [List.setIfInBounds_toArray, List.set_cons_zero, List.set_cons_succ]
    refine take_at 12 123 (v := ?_) rfl rfl (by kernel_rfl) (by kernel_rfl) (by kernel_rfl) (fun _ _ _ h => h) (Or.inl ⟨by rfl, ?_⟩) hH ?_
    rotate_left
    · (intro w9 hSw; (try dsimp only at hSw); go_simp) <;> with_reducible rfl
    try simp only [List.setIfInBounds_toArray, List.set_cons_zero, List.set_cons_succ]
    refine take_at 13 124 (v := ?_) rfl rfl (by kernel_rfl) (by kernel_rfl) (by kernel_rfl) (fun _ _ _ h => h) (Or.inl ⟨by rfl, ?_⟩) hH ?_
    rotate_left
    · (intro w9 hSw; (try dsimp only at hSw); go_simp) <;> with_reducible rfl
    try simp only [List.setIfInBounds_toArray, List.set_cons_zero, List.set_cons_succ]
    refine wpAnyH_ready (rs := [14]) (by kernel_rfl) (by simp) ?_
    refine AllReadyH.cons rfl (fun K hK => ?_) AllReadyH.nil
    go_simp
    refine (wakes08 _).mono ?_
    rintro e wy ⟨rfl, hby⟩
    have DY := DZ.trans (hby.mono DZ.size)
    clear hby
    dsimp only
    refine hK.out _ _ (DY) (fun hH14 => ?_)
    clear hK K
    clear hH; have hH := hH14; clear hH14
    try simp only [Act.put, List.setIfInBounds_toArray, List.set_cons_zero, List.set_cons_succ]
    refine take_at 15 126 (v := ?_) rfl rfl (by kernel_rfl) (by kernel_rfl) (by kernel_rfl) (fun _ _ _ h => h) (Or.inl ⟨by rfl, ?_⟩) hH ?_
    rotate_left
    · (intro w9 hSw; (try dsimp only at hSw); go_simp) <;> with_reducible rfl
    try simp only [List.setIfInBounds_toArray, List.set_cons_zero, List.set_cons_succ]
    refine take_at 16 8 (v := ?_) rfl rfl (by kernel_rfl) (by kernel_rfl) (by kernel_rfl) (fun _ _ _ h => h) (Or.inl ⟨by rfl, ?_⟩) hH ?_
    rotate_left
    · (intro w9 hSw; (try dsimp only at hSw); go_simp) <;> with_reducible rfl
    try simp only [List.setIfInBounds_toArray, List.set_cons_zero, List.set_cons_succ]
    refine wpAnyH_done (by kernel_rfl) ?_ _
    clear hH hq
    have DY := hidd DY
    clear D6 D7 D8 DZ
    go_wp2
    go_ret
    exact ⟨rfl, HBX.out.trans (DY.out.mono HBX.out.size)⟩
  · have h50 : (ovL la lb).2 = 50 := by
      rcases hor with h | h
      · exact absurd h h0
      · exact h
    rw [h50]
    clear hor hgood h0 h50
    go_wp2_with (go_at_call 8; refine (wakes08 _).mono ?_; rintro e w9 ⟨rfl, hb9⟩)
    go_ret
    exact ⟨rfl, HBX.out.trans (hb9.mono HBX.out.size)⟩
end Go.Proofs.Ytdoicmjomlaoaaa
