import Derived.Test.YtdoicmjomlaoaaaMB
namespace Go.Proofs.Ytdoicmjomlaoaaa
open Go.RowKit
theorem boxed_row {w : World} {g g' : Nat} {t : TypeId} {v : Value} {cs : Array Value} (h : Boxed w g' t v) (hne : g' ≠ g) : Boxed (w.setRow g cs) g' t v := (setRow_other _ _ _ _ hne).trans h
set_option maxRecDepth 100000 in
set_option maxHeartbeats 4000000 in
theorem do_no (H : List UInt8) (hH : H.length = 256) (a : Option Addr) (m c : Nat) (l : List Sn) (hm : m ≤ 1000) (W : World) (hs : Sl W a m c 14 (scs l)) (h8 : S8 l) (hmay : mayE l ≠ 0) :
    Calls Try.prog 16 #[.agg (bs H).toArray, .slice a m c] W fun e w' => e = .returned (.tuple #[.agg (bs z36).toArray, .bool false, .int .i64 (mayE l)]) ∧ Below W.heap.size W w' := by
  have HH := hidd hH
  have HS := hidd hs
  have H8 := hidd h8
  have HM := hidd hmay
  obtain ⟨er, her⟩ : ∃ er, er = mayE l := ⟨_, rfl⟩
  have hb : (er != 0) = true := by rw [her]; simpa using hmay
  have HER := hidd her
  have HAL := hidd (al3 W (.cells (bs H).toArray 36) (.cells (bs z36).toArray 36) (.cells #[.bool false] 4))
  rw [← her]
  clear hs h8 hmay her hH
  have zv36 := zero36
  go_enter Try.func16, Try.ntmps16
  go_wp2_with (first | (with_reducible refine wpList_load_row rfl 36 (.tmp 2) rfl W.heap.size rfl 36 (bs H).toArray (0, 0) _ HAL.out.1 Try.underlying36 rfl (sz36 H HH.out) ?_) | (go_at_call 18; refine (fill_no H HH.out a m c l hm _ (HS.out.grow (be3 W _ _ _)) H8.out HM.out).mono ?_; rintro e w1 ⟨rfl, hb1⟩; rw [← HER.out]; have HA := hidd (after3 hb1); clear hb1; have HA1 := hidd ((ha_old (o := .cells #[.slice none 0 0] 40) (by have := HA.out.2.2.2.2; omega)).trans HA.out.2.1); have HA2 := hidd (show Boxed (w1.alloc (.cells #[.slice none 0 0] 40)) (W.heap.size + 1 + 1) 4 (.bool false) from (ha_old (o := .cells #[.slice none 0 0] 40) (by have := HA.out.2.2.2.2; omega)).trans HA.out.2.2.1)) | (with_reducible refine wpList_load_row rfl 36 (.tmp 4) rfl (W.heap.size + 1) rfl 36 (bs z36).toArray (0, 0) _ HA1.out Try.underlying36 rfl (sz36 z36 z36_len) ?_) | (with_reducible refine wpList_store_row rfl 36 (.tmp 4) (.tmp 18) rfl (W.heap.size + 1) (bs z36).toArray rfl rfl 36 (bs z36).toArray HA1.out (sz36 z36 z36_len) rfl (bs_oneA z36) ?_; have BX := hidd (boxed_row (cs := (bs z36).toArray) HA2.out (show W.heap.size + 1 + 1 ≠ W.heap.size + 1 by omega)); have RX := hidd (setRow_heap _ _ _ (bs z36).toArray _ _ HA1.out); have c1 := BX.out.cell; have f1 := BX.out.frozen))
  refine bodyPost_ret (results_rbt Try.results16 _ _ (W.heap.size + 1) (bs z36).toArray (W.heap.size + 1 + 1) false (sz36 _ z36_len) rfl rfl (hs_other RX.out (by simp)) (BX.out.set _)) rfl ⟨rfl, ?_⟩
  exact (below_setRow (HA.out.2.2.2.1.alloc HA.out.2.2.2.1.size _) (by omega) _).setCell (p := ⟨W.heap.size + 1 + 1, 0, none⟩) (by simp; omega) _
end Go.Proofs.Ytdoicmjomlaoaaa
