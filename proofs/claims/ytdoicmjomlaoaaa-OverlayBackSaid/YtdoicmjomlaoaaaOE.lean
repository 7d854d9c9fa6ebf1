import Derived.Test.YtdoicmjomlaoaaaOC
import Derived.Test.YtdoicmjomlaoaaaOD
namespace Go.Proofs.Ytdoicmjomlaoaaa
open Go.RowKit
set_option maxHeartbeats 1000000 in
theorem oorder_long (a : Option Addr) (n c : Nat) (p q : Array Value) (W : World) (h : 100 < n) (hn : n ≤ 9223372036854775807) :
    Calls Try.prog 3 #[.slice a n c, .agg p, .agg q] W fun e w' => e = .returned (.bool true) ∧ Below W.heap.size W w' := by
  go_enter Try.func3, Try.ntmps3
  go_wp2_with (first | (go_at_call 7; refine (great_any a n c _ hn).mono ?_; rintro e w' ⟨rfl, rfl⟩) | (go_at_call 8; refine (wakes08 _).mono ?_; rintro e w3 ⟨rfl, hb3⟩))
  go_ret
  exact ⟨rfl, (((Below.refl _ W).alloc (Nat.le_refl _) _).alloc (by simp) _).trans (hb3.mono (by simp; omega))⟩
set_option maxRecDepth 100000 in
set_option maxHeartbeats 4000000 in
theorem oorder_bad (a : Option Addr) (n c : Nat) (l : List Wr) (p q : Wr) (W : World) (hs : Sl W a n c 9 (wcs l)) (h8 : W8 l) (hn : n ≤ 100) (hp : p.2.length = 8) (hq : q.2.length = 8) (hbad : ptE l p ≠ 0 ∨ ptE l q ≠ 0) :
    Calls Try.prog 3 #[.slice a n c, .agg (wc p).toArray, .agg (wc q).toArray] W fun e w' => e = .returned (.bool true) ∧ Below W.heap.size W w' := by
  have HS := hidd hs
  have H8 := hidd h8
  have HL := hidd (show l.length = n by have := hs.len; rw [wcs_len h8] at this; omega)
  obtain ⟨B, b0, b1, b2, b3, b4, b5, b6, b7, rfl⟩ := wr8 hp
  obtain ⟨C, d0, d1, d2, d3, d4, d5, d6, d7, rfl⟩ := wr8 hq
  obtain ⟨P, hP⟩ : ∃ P : Wr, P = (B, [b0, b1, b2, b3, b4, b5, b6, b7]) := ⟨_, rfl⟩
  obtain ⟨Q, hQ⟩ : ∃ Q : Wr, Q = (C, [d0, d1, d2, d3, d4, d5, d6, d7]) := ⟨_, rfl⟩
  have HP8 := hidd (show P.2.length = 8 by rw [hP]; rfl)
  have HQ8 := hidd (show Q.2.length = 8 by rw [hQ]; rfl)
  have HPW := hidd (show (wc P).toArray = (aggW B b0 b1 b2 b3 b4 b5 b6 b7) by rw [hP]; rfl)
  have HQW := hidd (show (wc Q).toArray = (aggW C d0 d1 d2 d3 d4 d5 d6 d7) by rw [hQ]; rfl)
  have HP1 := hidd (show P.1 = B by rw [hP])
  have HQ1 := hidd (show Q.1 = C by rw [hQ])
  have HBAD := hidd (show ptE l P ≠ 0 ∨ ptE l Q ≠ 0 by rw [hP, hQ]; exact hbad)
  clear hs h8 hP hQ hbad
  show Calls Try.prog 3 #[.slice a n c, .agg (aggW B b0 b1 b2 b3 b4 b5 b6 b7), .agg (aggW C d0 d1 d2 d3 d4 d5 d6 d7)] W _
  go_enter Try.func3, Try.ntmps3
  have HB0 := hidd (((Below.refl _ W).alloc (Nat.le_refl _) (.cells (aggW B b0 b1 b2 b3 b4 b5 b6 b7) 26)).alloc (by simp) (.cells (aggW C d0 d1 d2 d3 d4 d5 d6 d7) 26))
  have GP0 := hidd (heap_alloc2_old W (.cells (aggW B b0 b1 b2 b3 b4 b5 b6 b7) 26) (.cells (aggW C d0 d1 d2 d3 d4 d5 d6 d7) 26))
  have GQ0 := hidd (heap_alloc2_new W (.cells (aggW B b0 b1 b2 b3 b4 b5 b6 b7) 26) (.cells (aggW C d0 d1 d2 d3 d4 d5 d6 d7) 26))
  go_wp2_with (first | (go_at_call 7; refine (great_any a n c _ (by omega)).mono ?_; rintro e w' ⟨rfl, rfl⟩) | (with_reducible refine wpList_load_row rfl 26 (.tmp 4) rfl W.heap.size rfl 26 (aggW B b0 b1 b2 b3 b4 b5 b6 b7) (0, 0) _ GP0.out Try.underlying26 rfl (aggW_sz B b0 b1 b2 b3 b4 b5 b6 b7) ?_) | (with_reducible refine wpList_load_row rfl 26 (.tmp 5) rfl (W.heap.size + 1) rfl 26 (aggW C d0 d1 d2 d3 d4 d5 d6 d7) (0, 0) _ GQ0.out Try.underlying26 rfl (aggW_sz C d0 d1 d2 d3 d4 d5 d6 d7) ?_))
  have hput := put_any a n c l P _ (HS.out.grow HB0.out) H8.out (by omega) HP8.out
  rw [HPW.out] at hput
  refine hput.mono ?_
  clear hput
  rintro e w1 ⟨a1, c1, rfl, hs1, hb1⟩
  have GP1 := hidd (blk_below hb1 GP0.out (by simp; omega))
  have GQ1 := hidd (blk_below hb1 GQ0.out (by simp))
  have hz1 : W.heap.size + 1 < w1.heap.size := by have := hb1.size; simp at this; omega
  have HB1 := hidd (HB0.out.trans (hb1.mono (by simp; omega)))
  have HS1 := hidd hs1
  clear hs1 hb1
  go_wp2_with (first | (with_reducible refine wpList_load_row rfl 26 (.tmp 4) rfl W.heap.size rfl 26 (aggW B b0 b1 b2 b3 b4 b5 b6 b7) (0, 0) _ GP1.out Try.underlying26 rfl (aggW_sz B b0 b1 b2 b3 b4 b5 b6 b7) ?_) | (with_reducible refine wpList_load_row rfl 26 (.tmp 5) rfl (W.heap.size + 1) rfl 26 (aggW C d0 d1 d2 d3 d4 d5 d6 d7) (0, 0) _ GQ1.out Try.underlying26 rfl (aggW_sz C d0 d1 d2 d3 d4 d5 d6 d7) ?_))
  have hput := put_any a n c l Q _ (HS.out.grow HB1.out) H8.out (by omega) HQ8.out
  rw [HQW.out] at hput
  refine hput.mono ?_
  clear hput
  rintro e w2 ⟨a2, c2, rfl, hs2, hb2⟩
  have GP2 := hidd (blk_below hb2 GP1.out (by omega))
  have GQ2 := hidd (blk_below hb2 GQ1.out (by omega))
  have hz2 : W.heap.size + 1 < w2.heap.size := by have := hb2.size; omega
  have HB2 := hidd (HB1.out.trans (hb2.mono (by omega)))
  have HS2 := hidd hs2
  have HS12 := hidd (HS1.out.grow hb2)
  clear hs2 hb2
  by_cases h1 : ptE l P = 0
  · have h2 : ptE l Q ≠ 0 := by
      rcases HBAD.out with h | h
      · exact absurd h1 h
      · exact h
    have e2 : (ptE l Q != 0) = true := by simp [h2]
    rw [h1]
    clear h1 h2
    go_wp2_with (go_at_call 8; refine (wakes08 _).mono ?_; rintro e w3 ⟨rfl, hb3⟩)
    go_ret
    exact ⟨rfl, HB2.out.trans (hb3.mono (by omega))⟩
  · have e1 : (ptE l P != 0) = true := by simp [h1]
    clear h1
    go_wp2_with (go_at_call 8; refine (wakes08 _).mono ?_; rintro e w3 ⟨rfl, hb3⟩)
    go_ret
    exact ⟨rfl, HB2.out.trans (hb3.mono (by omega))⟩
end Go.Proofs.Ytdoicmjomlaoaaa
