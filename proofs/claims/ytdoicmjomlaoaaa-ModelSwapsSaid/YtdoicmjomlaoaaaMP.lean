import Derived.Test.YtdoicmjomlaoaaaMN
import Derived.Test.YtdoicmjomlaoaaaMO
namespace Go.Proofs.Ytdoicmjomlaoaaa
open Go.RowKit
set_option maxRecDepth 100000 in
set_option maxHeartbeats 4000000 in
theorem swaps_long1 (H : List UInt8) (a : Option Addr) (n c : Nat) (b : Option Addr) (m d : Nat) (h : 100 < n) (W : World) (m0 : n ≤ 9223372036854775807) :
    Calls Try.prog 6 #[.agg (bs H).toArray, .slice a n c, .slice b m d] W fun e w' => e = .returned (.bool true) ∧ Below W.heap.size W w' := by
  have i0 : (100 : Int) < (n : Int) := by omega
  go_enter Try.func6, Try.ntmps6
  go_wp2_with (go_at_call 15; with_reducible refine (wakes26 _).mono ?_; rintro e w9 ⟨rfl, hb9⟩; have HB9 := hidd hb9; clear hb9)
  go_ret
  exact ⟨rfl, ((Below.refl _ W).alloc (Nat.le_refl _) _).trans (HB9.out.mono (by simp))⟩
set_option maxRecDepth 100000 in
set_option maxHeartbeats 4000000 in
theorem swaps_long2 (H : List UInt8) (a : Option Addr) (n c : Nat) (b : Option Addr) (m d : Nat) (h0 : n ≤ 100) (h : 100 < m) (W : World) (m0 : m ≤ 9223372036854775807) :
    Calls Try.prog 6 #[.agg (bs H).toArray, .slice a n c, .slice b m d] W fun e w' => e = .returned (.bool true) ∧ Below W.heap.size W w' := by
  have i0 : (n : Int) ≤ 100 := by omega
  have i1 : (100 : Int) < (m : Int) := by omega
  go_enter Try.func6, Try.ntmps6
  go_wp2_with (go_at_call 15; with_reducible refine (wakes26 _).mono ?_; rintro e w9 ⟨rfl, hb9⟩; have HB9 := hidd hb9; clear hb9)
  go_ret
  exact ⟨rfl, ((Below.refl _ W).alloc (Nat.le_refl _) _).trans (HB9.out.mono (by simp))⟩
theorem cg0 (W : World) (o : Obj) : (W.alloc o).heap[W.heap.size]? = some o ∧ Below W.heap.size W (W.alloc o) := ⟨ha_new W o, (Below.refl _ W).alloc (Nat.le_refl _) _⟩
set_option maxRecDepth 100000 in
set_option maxHeartbeats 4000000 in
theorem swaps_no1 (H : List UInt8) (hH : H.length = 256) (a : Option Addr) (n c : Nat) (x : List Sn) (hn : n ≤ 100) (b : Option Addr) (m d : Nat) (hm : m ≤ 100) (W : World) (hs : Sl W a n c 14 (scs x)) (h8 : S8 x) (hmay : mayE x ≠ 0) :
    Calls Try.prog 6 #[.agg (bs H).toArray, .slice a n c, .slice b m d] W fun e w' => e = .returned (.bool true) ∧ Below W.heap.size W w' := by
  have HH := hidd hH
  have HS := hidd hs
  have H8 := hidd h8
  have HM := hidd hmay
  have HB := hidd (cg0 W (.cells (bs H).toArray 36))
  have i0 : (n : Int) ≤ 100 := by omega
  have i1 : (m : Int) ≤ 100 := by omega
  obtain ⟨er, her⟩ : ∃ er, er = mayE x := ⟨_, rfl⟩
  have hb : (er != 0) = true := by rw [her]; simpa using hmay
  have HER := hidd her
  clear hs h8 hmay hH her
  go_enter Try.func6, Try.ntmps6
  go_wp2_with (first | (with_reducible refine wpList_load_row rfl 36 (.tmp 3) rfl W.heap.size rfl 36 (bs H).toArray (0, 0) _ HB.out.1 Try.underlying36 rfl (sz36 H HH.out) ?_) | (go_at_call 18; with_reducible refine (fill_no H HH.out a n c x (by omega) _ (HS.out.grow HB.out.2) H8.out HM.out).mono ?_; rintro e w1 ⟨rfl, hb1⟩; rw [← HER.out]; have HB := hidd (cg HB.out hb1); clear hb1) | (go_at_call 15; with_reducible refine (wakes26 _).mono ?_; rintro e w9 ⟨rfl, hb9⟩; have HB := hidd (cg HB.out hb9); clear hb9))
  go_ret
  exact ⟨rfl, HB.out.2⟩
/-- what is known of steps that are filled -/
structure Fl (H : List UInt8) (x x1 : List Sn) (n : Nat) : Prop where
  eq : (fS H x).2 = x1
  len : x1.length = n
  s8 : S8 x1
  ok : ∀ p ∈ x1, okS p = true
  may : mayE x1 = 0
  told : decide (x1 = (fS H x1).2) = true
theorem fl_of {H : List UInt8} (hH : H.length = 256) {x : List Sn} {n : Nat} (hn : x.length = n) (h8 : S8 x) (hmay : mayE x = 0) : Fl H x (flS H x) n := by
  obtain ⟨i1, i2, i3, i4, i5, i6, i7⟩ := fl_all x H hH h8 (mayF_ok x hmay)
  refine ⟨fS_flS H x, i6.trans hn, i1, i2, (i7 0).trans hmay, ?_⟩
  rw [fS_flS, i3]
  exact decide_eq_true rfl
theorem slw {w1 w2 : World} {a : Option Addr} {n c : Nat} {xs : List Value} {A : List UInt8} (h : Sl w1 a n c 14 xs) (hb : Below w1.heap.size w1 w2) : Sl ((w2.alloc (.cells (bs z36).toArray 36)).setRow w2.heap.size (bs A).toArray) a n c 14 xs :=
  (h.grow hb).grow (below_setRow ((Below.refl _ w2).alloc (Nat.le_refl _) _) (Nat.le_refl _) _)
set_option maxRecDepth 100000 in
set_option maxHeartbeats 4000000 in
theorem swaps_no2 (H : List UInt8) (hH : H.length = 256) (a : Option Addr) (n c : Nat) (x : List Sn) (hl : x.length = n) (hn : n ≤ 100) (b : Option Addr) (m d : Nat) (y : List Sn) (hm : m ≤ 100) (W : World) (hs : Sl W a n c 14 (scs x)) (h8 : S8 x) (hmay : mayE x = 0)
    (hs' : Sl W b m d 14 (scs y)) (h8' : S8 y) (hmay' : mayE y ≠ 0) :
    Calls Try.prog 6 #[.agg (bs H).toArray, .slice a n c, .slice b m d] W fun e w' => e = .returned (.bool true) ∧ Below W.heap.size W w' := by
  have HH := hidd hH
  have HS := hidd hs
  have H8 := hidd h8
  have HM := hidd hmay
  have HL := hidd hl
  have HOK := hidd (mayF_ok x hmay)
  have HS' := hidd hs'
  have H8' := hidd h8'
  have HM' := hidd hmay'
  have HB := hidd (cg0 W (.cells (bs H).toArray 36))
  have i0 : (n : Int) ≤ 100 := by omega
  have i1 : (m : Int) ≤ 100 := by omega
  have HN := hidd hn
  have HN' := hidd hm
  obtain ⟨x1, hx1⟩ : ∃ x1, x1 = flS H x := ⟨_, rfl⟩
  obtain ⟨A, hA⟩ : ∃ A, A = doH H x1 := ⟨_, rfl⟩
  have F1 := hidd (show Fl H x x1 n by rw [hx1]; exact fl_of hH hl h8 hmay)
  have HA := hidd hA
  have HAL := hidd (show A.length = 256 by rw [hA]; exact doH_len hH x1 F1.out.s8 F1.out.ok)
  have HX1 := hidd hx1
  have zv36 := zero36
  obtain ⟨er, her⟩ : ∃ er, er = mayE y := ⟨_, rfl⟩
  have hb : (er != 0) = true := by rw [her]; simpa using hmay'
  have HER := hidd her
  clear hs h8 hmay hH her hs' h8' hmay' hl hn hm hA hx1
  go_enter Try.func6, Try.ntmps6
  go_wp2_with (first | (with_reducible refine wpList_load_row rfl 36 (.tmp 3) rfl W.heap.size rfl 36 (bs H).toArray (0, 0) _ HB.out.1 Try.underlying36 rfl (sz36 H HH.out) ?_) | (go_at_call 18; with_reducible refine (fill_yes H HH.out a n c x HL.out (by have := HN.out; omega) _ (HS.out.grow HB.out.2) H8.out HOK.out HM.out).mono ?_; rintro e w1 ⟨a1, c1, rfl, hs1, hf1, hb1⟩; rw [F1.out.eq] at hs1; have S1 := hidd hs1; have HB := hidd (cg HB.out hb1); clear hs1 hf1 hb1) | (go_at_call 16; with_reducible refine (do_yes H HH.out a1 n c1 x1 F1.out.len (by have := HN.out; omega) _ S1.out F1.out.s8 F1.out.ok F1.out.may).mono ?_; rintro e w2 ⟨rfl, hb2⟩; rw [← HA.out, F1.out.told]; have HB := hidd (cg HB.out hb2); have S1 := hidd (slw (A := A) S1.out hb2); clear hb2) | (with_reducible refine wpList_store_row rfl 36 (.tmp 9) (.tmp 47) rfl w2.heap.size (bs A).toArray rfl rfl 36 (bs z36).toArray (ha_new w2 (.cells (bs z36).toArray 36)) (sz36 A HAL.out) (z36_sz A HAL.out) (bs_oneA A) ?_; have HR := hidd (row1 (A := A) HB.out.1 HB.out.2); generalize (w2.alloc (Obj.cells (bs z36).toArray 36)).setRow w2.heap.size (bs A).toArray = w3 at HR S1 ⊢; have HB := hidd (And.intro HR.out.1 HR.out.2.2.1)) | (with_reducible refine wpList_load_row rfl 36 (.tmp 9) rfl w2.heap.size rfl 36 (bs A).toArray (0, 0) _ HR.out.2.1 Try.underlying36 rfl (sz36 A HAL.out) ?_) | (go_at_call 18; with_reducible refine (fill_no A HAL.out b m d y (by have := HN'.out; omega) _ (HS'.out.grow HB.out.2) H8'.out HM'.out).mono ?_; rintro e w4 ⟨rfl, hb4⟩; rw [← HER.out]; have HB := hidd (cg HB.out hb4); clear hb4) | (go_at_call 15; with_reducible refine (wakes26 _).mono ?_; rintro e w9 ⟨rfl, hb9⟩; have HB := hidd (cg HB.out hb9); clear hb9))
  go_ret
  exact ⟨rfl, HB.out.2⟩
end Go.Proofs.Ytdoicmjomlaoaaa
