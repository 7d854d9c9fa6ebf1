import Derived.Test.YtdoicmjomlaoaaaMP
namespace Go.Proofs.Ytdoicmjomlaoaaa
open Go.RowKit
/-- model.All of two, said of its arguments alone -/
theorem all2 (qb : Nat) (a1 : Option Addr) (n c1 : Nat) (x1 : List Sn) (a2 : Option Addr) (m c2 : Nat) (y1 : List Sn) (H A B : List UInt8) (W : World) (hq : Sl W (some ⟨qb, 0, none⟩) 2 2 1 [.slice a1 n c1, .slice a2 m c2])
    (eA : A = doH H x1) (eB : B = doH A y1) (hH : H.length = 256) (x x0 : List Sn) (F1 : Fl H x x1 n) (F2 : Fl A x0 y1 m) (hn : n ≤ 1000) (hm : m ≤ 1000) (s1 : Sl W a1 n c1 14 (scs x1)) (s2 : Sl W a2 m c2 14 (scs y1)) :
    Calls Try.prog 20 #[.agg (bs H).toArray, .slice (some ⟨qb, 0, none⟩) 2 2] W fun e w' => e = .returned (.tuple #[.agg (bs B).toArray, .int .i64 2, .int .i64 0]) ∧ Below W.heap.size W w' := by
  have hA : A.length = 256 := by rw [eA]; exact doH_len hH x1 F1.s8 F1.ok
  have hB : B.length = 256 := by rw [eB]; exact doH_len hA y1 F2.s8 F2.ok
  refine all_two qb 0 2 (fun k => match k with | 0 => a1 | _ => a2) (fun k => match k with | 0 => n | _ => m) (fun k => match k with | 0 => c1 | _ => c2) (fun k => match k with | 0 => x1 | _ => y1) (fun k => match k with | 0 => H | 1 => A | _ => B) W hq ?_ ?_ ?_
  · intro k hk
    rcases (show k = 0 ∨ k = 1 by omega) with rfl | rfl
    · exact eA.symm
    · exact eB.symm
  · intro k hk
    rcases (show k = 0 ∨ k = 1 ∨ k = 2 by omega) with rfl | rfl | rfl
    · exact hH
    · exact hA
    · exact hB
  · intro k hk
    rcases (show k = 0 ∨ k = 1 by omega) with rfl | rfl
    · exact ⟨F1.len, hn, s1, F1.s8, F1.ok, F1.may, F1.told⟩
    · exact ⟨F2.len, hm, s2, F2.s8, F2.ok, F2.may, F2.told⟩
theorem swap_fl {H : List UInt8} {x y x1 y1 : List Sn} {A : List UInt8} {n m : Nat} (hH : H.length = 256) (hn : x.length = n) (hm : y.length = m) (h8 : S8 x) (may : mayE x = 0) (h8' : S8 y) (may' : mayE y = 0) (hc : clB x y = false)
    (ex : x1 = flS H x) (eA : A = doH H x1) (ey : y1 = flS A y) : Fl H y y1 m ∧ Fl (doH H y1) x x1 n ∧ doH A y1 = doH (doH H y1) x1 := by
  have ok := mayF_ok x may
  have ok' := mayF_ok y may'
  obtain ⟨_, _, _, i4, _, _, _⟩ := fl_all x H hH h8 ok
  obtain ⟨s1, s2, s3⟩ := swap_law hH h8 ok h8' ok' hc
  have eA2 : A = doH H x := by rw [eA, ex, i4]
  have ey2 : y1 = flS H y := by rw [ey, eA2, s1]
  have hHy : (doH H y).length = 256 := doH_len hH y h8' ok'
  obtain ⟨_, _, _, j4, _, _, _⟩ := fl_all y H hH h8' ok'
  have e1 : doH H y1 = doH H y := by rw [ey2, j4]
  obtain ⟨_, _, _, k4, _, _, _⟩ := fl_all x H hH h8 ok
  refine ⟨by rw [ey2]; exact fl_of hH hm h8' may', ?_, ?_⟩
  · rw [e1, ex, ← s2]
    exact fl_of hHy hn h8 may
  · rw [e1, ex, k4, eA2, ey2, j4, s3]
theorem row3 {W w3 : World} {X Y : Obj} {g : Nat} {A : List UInt8} (h0 : w3.heap[W.heap.size]? = some X) (h1 : w3.heap[g]? = some Y) (hb : Below W.heap.size W w3) :
    ((w3.alloc (.cells (bs z36).toArray 36)).setRow w3.heap.size (bs A).toArray).heap[W.heap.size]? = some X ∧ ((w3.alloc (.cells (bs z36).toArray 36)).setRow w3.heap.size (bs A).toArray).heap[g]? = some Y ∧ ((w3.alloc (.cells (bs z36).toArray 36)).setRow w3.heap.size (bs A).toArray).heap[w3.heap.size]? = some (.cells (bs A).toArray 36 (0, 0)) ∧ Below W.heap.size W ((w3.alloc (.cells (bs z36).toArray 36)).setRow w3.heap.size (bs A).toArray) := by
  have l0 := (Array.getElem?_eq_some_iff.1 h0).1
  have l1 := (Array.getElem?_eq_some_iff.1 h1).1
  exact ⟨(setRow_other _ _ _ _ (by omega)).trans ((ha_old l0).trans h0), (setRow_other _ _ _ _ (by omega)).trans ((ha_old l1).trans h1), setRow_heap _ _ _ _ _ _ (ha_new w3 (.cells (bs z36).toArray 36)), below_setRow (hb.alloc hb.size _) hb.size _⟩
theorem sl_alloc {w : World} {a : Option Addr} {n c : Nat} {xs : List Value} (h : Sl w a n c 14 xs) (o : Obj) : Sl (w.alloc o) a n c 14 xs := h.grow ((Below.refl _ w).alloc (Nat.le_refl _) _)
theorem cg_alloc {W w : World} {g : Nat} {o : Obj} (h : w.heap[g]? = some o ∧ Below W.heap.size W w) (x : Obj) : (w.alloc x).heap[g]? = some o ∧ Below W.heap.size W (w.alloc x) :=
  ⟨(ha_old (Array.getElem?_eq_some_iff.1 h.1).1).trans h.1, h.2.alloc h.2.size _⟩
theorem two_fresh (w : World) (u v : Value) : Sl (w.alloc (.cells #[u, v] 40)) (some ⟨w.heap.size, 0, none⟩) 2 2 1 [u, v] := Sl.fresh w [u, v] 40 2 1 rfl (by decide)
set_option maxRecDepth 100000 in
set_option maxHeartbeats 4000000 in
theorem swaps_clash (H : List UInt8) (hH : H.length = 256) (a : Option Addr) (n c : Nat) (x : List Sn) (hl : x.length = n) (hn : n ≤ 100) (b : Option Addr) (m d : Nat) (y : List Sn) (hl' : y.length = m) (hm : m ≤ 100) (W : World) (hs : Sl W a n c 14 (scs x)) (h8 : S8 x) (hmay : mayE x = 0)
    (hs' : Sl W b m d 14 (scs y)) (h8' : S8 y) (hmay' : mayE y = 0) (hcl : clB x y = true) :
    Calls Try.prog 6 #[.agg (bs H).toArray, .slice a n c, .slice b m d] W fun e w' => e = .returned (.bool true) ∧ Below W.heap.size W w' := by
  have HH := hidd hH
  have HS := hidd hs
  have H8 := hidd h8
  have HM := hidd hmay
  have HL := hidd hl
  have HOK := hidd (mayF_ok x hmay)
  have HS' := hidd hs'
  have H8' := hidd h8'
  have HM' := hidd hmay'
  have HB := hidd (cg0 W (.cells (bs H).toArray 36))
  have i0 : (n : Int) ≤ 100 := by omega
  have i1 : (m : Int) ≤ 100 := by omega
  have HN := hidd hn
  have HN' := hidd hm
  obtain ⟨x1, hx1⟩ : ∃ x1, x1 = flS H x := ⟨_, rfl⟩
  obtain ⟨A, hA⟩ : ∃ A, A = doH H x1 := ⟨_, rfl⟩
  have F1 := hidd (show Fl H x x1 n by rw [hx1]; exact fl_of hH hl h8 hmay)
  have HA := hidd hA
  have HAL := hidd (show A.length = 256 by rw [hA]; exact doH_len hH x1 F1.out.s8 F1.out.ok)
  have HX1 := hidd hx1
  obtain ⟨y1, hy1⟩ : ∃ y1, y1 = flS A y := ⟨_, rfl⟩
  have HL' := hidd hl'
  have HOK' := hidd (mayF_ok y hmay')
  have F2 := hidd (show Fl A y y1 m by rw [hy1]; exact fl_of HAL.out hl' h8' hmay')
  have HCL := hidd hcl
  have zv36 := zero36
  clear hs h8 hmay hH hs' h8' hmay' hl hn hm hA hx1 hy1 hl' hcl
  go_enter Try.func6, Try.ntmps6
  go_wp2_with (first | (with_reducible refine wpList_load_row rfl 36 (.tmp 3) rfl W.heap.size rfl 36 (bs H).toArray (0, 0) _ HB.out.1 Try.underlying36 rfl (sz36 H HH.out) ?_) | (go_at_call 18; with_reducible refine (fill_yes H HH.out a n c x HL.out (by have := HN.out; omega) _ (HS.out.grow HB.out.2) H8.out HOK.out HM.out).mono ?_; rintro e w1 ⟨a1, c1, rfl, hs1, hf1, hb1⟩; rw [F1.out.eq] at hs1; have S1 := hidd hs1; have HB := hidd (cg HB.out hb1); clear hs1 hf1 hb1) | (go_at_call 16; with_reducible refine (do_yes H HH.out a1 n c1 x1 F1.out.len (by have := HN.out; omega) _ S1.out F1.out.s8 F1.out.ok F1.out.may).mono ?_; rintro e w2 ⟨rfl, hb2⟩; rw [← HA.out, F1.out.told]; have HB := hidd (cg HB.out hb2); have S1 := hidd (slw (A := A) S1.out hb2); clear hb2) | (with_reducible refine wpList_store_row rfl 36 (.tmp 9) (.tmp 47) rfl w2.heap.size (bs A).toArray rfl rfl 36 (bs z36).toArray (ha_new w2 (.cells (bs z36).toArray 36)) (sz36 A HAL.out) (z36_sz A HAL.out) (bs_oneA A) ?_; have HR := hidd (row1 (A := A) HB.out.1 HB.out.2); generalize (w2.alloc (Obj.cells (bs z36).toArray 36)).setRow w2.heap.size (bs A).toArray = w3 at HR S1 ⊢; have HB := hidd (And.intro HR.out.1 HR.out.2.2.1)) | (with_reducible refine wpList_load_row rfl 36 (.tmp 9) rfl w2.heap.size rfl 36 (bs A).toArray (0, 0) _ HR.out.2.1 Try.underlying36 rfl (sz36 A HAL.out) ?_) | (go_at_call 18; with_reducible refine (fill_yes A HAL.out b m d y HL'.out (by have := HN'.out; omega) _ (HS'.out.grow HB.out.2) H8'.out HOK'.out HM'.out).mono ?_; rintro e w4 ⟨a2, c2, rfl, hs2, hf2, hb4⟩; rw [F2.out.eq] at hs2; have S2 := hidd hs2; have S1 := hidd (S1.out.grow hb4); have HB := hidd (cg HB.out hb4); clear hs2 hf2 hb4) | (go_at_call 19; with_reducible refine (clash_any a n c x HL.out (by have := HN.out; omega) b m d y HL'.out (by have := HN'.out; omega) _ (HS.out.grow HB.out.2) H8.out HOK.out (HS'.out.grow HB.out.2) H8'.out HOK'.out).mono ?_; rintro e w5 ⟨rfl, hb5⟩; rw [HCL.out]; have HB := hidd (cg HB.out hb5); have S1 := hidd (S1.out.grow hb5); have S2 := hidd (S2.out.grow hb5); clear hb5) | (go_at_call 15; with_reducible refine (wakes26 _).mono ?_; rintro e w9 ⟨rfl, hb9⟩; have HB := hidd (cg HB.out hb9); clear hb9))
  go_ret
  exact ⟨rfl, HB.out.2⟩
set_option maxRecDepth 100000 in
set_option maxHeartbeats 4000000 in
theorem swaps_yes (H : List UInt8) (hH : H.length = 256) (a : Option Addr) (n c : Nat) (x : List Sn) (hl : x.length = n) (hn : n ≤ 100) (b : Option Addr) (m d : Nat) (y : List Sn) (hl' : y.length = m) (hm : m ≤ 100) (W : World) (hs : Sl W a n c 14 (scs x)) (h8 : S8 x) (hmay : mayE x = 0)
    (hs' : Sl W b m d 14 (scs y)) (h8' : S8 y) (hmay' : mayE y = 0) (hcl : clB x y = false) :
    Calls Try.prog 6 #[.agg (bs H).toArray, .slice a n c, .slice b m d] W fun e w' => e = .returned (.bool true) ∧ Below W.heap.size W w' := by
  have HH := hidd hH
  have HS := hidd hs
  have H8 := hidd h8
  have HM := hidd hmay
  have HL := hidd hl
  have HOK := hidd (mayF_ok x hmay)
  have HS' := hidd hs'
  have H8' := hidd h8'
  have HM' := hidd hmay'
  have HB := hidd (cg0 W (.cells (bs H).toArray 36))
  have i0 : (n : Int) ≤ 100 := by omega
  have i1 : (m : Int) ≤ 100 := by omega
  have HN := hidd hn
  have HN' := hidd hm
  obtain ⟨x1, hx1⟩ : ∃ x1, x1 = flS H x := ⟨_, rfl⟩
  obtain ⟨A, hA⟩ : ∃ A, A = doH H x1 := ⟨_, rfl⟩
  have F1 := hidd (show Fl H x x1 n by rw [hx1]; exact fl_of hH hl h8 hmay)
  have HA := hidd hA
  have HAL := hidd (show A.length = 256 by rw [hA]; exact doH_len hH x1 F1.out.s8 F1.out.ok)
  have HX1 := hidd hx1
  obtain ⟨y1, hy1⟩ : ∃ y1, y1 = flS A y := ⟨_, rfl⟩
  have HL' := hidd hl'
  have HOK' := hidd (mayF_ok y hmay')
  have F2 := hidd (show Fl A y y1 m by rw [hy1]; exact fl_of HAL.out hl' h8' hmay')
  have HCL := hidd hcl
  have zv36 := zero36
  obtain ⟨C, hC⟩ : ∃ C, C = doH A y1 := ⟨_, rfl⟩
  obtain ⟨D, hD⟩ : ∃ D, D = doH H y1 := ⟨_, rfl⟩
  have HC := hidd hC
  have HD := hidd hD
  have HCC := hidd (show C.length = 256 by rw [hC]; exact doH_len HAL.out y1 F2.out.s8 F2.out.ok)
  have sw := swap_fl hH hl hl' h8 hmay h8' hmay' hcl hx1 hA hy1
  have F3 := hidd sw.1
  have F4 := hidd (show Fl D x x1 n by rw [hD]; exact sw.2.1)
  have HCD := hidd (show C = doH D x1 by rw [hC, hD]; exact sw.2.2)
  have HCL2 := hidd ((clB_comm y x).trans hcl)
  have hq := fun w => eq36 w C HCC.out
  clear hs h8 hmay hH hs' h8' hmay' hl hn hm hA hx1 hy1 hl' hcl hC hD sw
  go_enter Try.func6, Try.ntmps6
  go_wp2_with (first | (with_reducible refine wpList_load_row rfl 36 (.tmp 3) rfl W.heap.size rfl 36 (bs H).toArray (0, 0) _ HB.out.1 Try.underlying36 rfl (sz36 H HH.out) ?_) | (go_at_call 18; with_reducible refine (fill_yes H HH.out a n c x HL.out (by have := HN.out; omega) _ (HS.out.grow HB.out.2) H8.out HOK.out HM.out).mono ?_; rintro e w1 ⟨a1, c1, rfl, hs1, hf1, hb1⟩; rw [F1.out.eq] at hs1; have S1 := hidd hs1; have HB := hidd (cg HB.out hb1); clear hs1 hf1 hb1) | (go_at_call 16; with_reducible refine (do_yes H HH.out a1 n c1 x1 F1.out.len (by have := HN.out; omega) _ S1.out F1.out.s8 F1.out.ok F1.out.may).mono ?_; rintro e w2 ⟨rfl, hb2⟩; rw [← HA.out, F1.out.told]; have HB := hidd (cg HB.out hb2); have S1 := hidd (slw (A := A) S1.out hb2); clear hb2) | (with_reducible refine wpList_store_row rfl 36 (.tmp 9) (.tmp 47) rfl w2.heap.size (bs A).toArray rfl rfl 36 (bs z36).toArray (ha_new w2 (.cells (bs z36).toArray 36)) (sz36 A HAL.out) (z36_sz A HAL.out) (bs_oneA A) ?_; have HR := hidd (row1 (A := A) HB.out.1 HB.out.2); generalize (w2.alloc (Obj.cells (bs z36).toArray 36)).setRow w2.heap.size (bs A).toArray = w3 at HR S1 ⊢; have HB := hidd (And.intro HR.out.1 HR.out.2.2.1)) | (with_reducible refine wpList_load_row rfl 36 (.tmp 9) rfl w2.heap.size rfl 36 (bs A).toArray (0, 0) _ HR.out.2.1 Try.underlying36 rfl (sz36 A HAL.out) ?_) | (go_at_call 18; with_reducible refine (fill_yes A HAL.out b m d y HL'.out (by have := HN'.out; omega) _ (HS'.out.grow HB.out.2) H8'.out HOK'.out HM'.out).mono ?_; rintro e w4 ⟨a2, c2, rfl, hs2, hf2, hb4⟩; rw [F2.out.eq] at hs2; have S2 := hidd hs2; have S1 := hidd (S1.out.grow hb4); have HB := hidd (cg HB.out hb4); clear hs2 hf2 hb4) | (go_at_call 19; with_reducible refine (clash_any a n c x HL.out (by have := HN.out; omega) b m d y HL'.out (by have := HN'.out; omega) _ (HS.out.grow HB.out.2) H8.out HOK.out (HS'.out.grow HB.out.2) H8'.out HOK'.out).mono ?_; rintro e w5 ⟨rfl, hb5⟩; rw [HCL.out]; have HB := hidd (cg HB.out hb5); have S1 := hidd (S1.out.grow hb5); have S2 := hidd (S2.out.grow hb5); clear hb5) | (go_at_call 20; with_reducible refine (all2 w5.heap.size a1 n c1 x1 a2 m c2 y1 H A C _ (two_fresh w5 _ _) HA.out HC.out HH.out x y F1.out F2.out (by have := HN.out; omega) (by have := HN'.out; omega) (sl_alloc S1.out _) (sl_alloc S2.out _)).mono ?_; rintro e w6 ⟨rfl, hb6⟩; have HB := hidd (cg (cg_alloc HB.out _) hb6); have S1 := hidd (slw (A := C) (sl_alloc S1.out _) hb6); have S2 := hidd (slw (A := C) (sl_alloc S2.out _) hb6); clear hb6) | (with_reducible refine wpList_store_row rfl 36 (.tmp 14) (.tmp 83) rfl w6.heap.size (bs C).toArray rfl rfl 36 (bs z36).toArray (ha_new w6 (.cells (bs z36).toArray 36)) (sz36 C HCC.out) (z36_sz C HCC.out) (bs_oneA C) ?_; have HR := hidd (row1 (A := C) HB.out.1 HB.out.2); generalize (w6.alloc (Obj.cells (bs z36).toArray 36)).setRow w6.heap.size (bs C).toArray = w7 at HR S1 S2 ⊢; have HB := hidd (And.intro HR.out.1 HR.out.2.2.1); have HP := hidd HR.out.2.1) | (go_at_call 20; with_reducible refine (all2 w7.heap.size a2 m c2 y1 a1 n c1 x1 H D C _ (two_fresh w7 _ _) HD.out HCD.out HH.out y x F3.out F4.out (by have := HN'.out; omega) (by have := HN.out; omega) (sl_alloc S2.out _) (sl_alloc S1.out _)).mono ?_; rintro e w8 ⟨rfl, hb8⟩; have HP := hidd (cg_alloc (And.intro HP.out HB.out.2) (.cells #[.slice a2 m c2, .slice a1 n c1] 40)).1; have HP := hidd (blk_below hb8 HP.out (Array.getElem?_eq_some_iff.1 HP.out).1); have HB := hidd (cg (cg_alloc HB.out _) hb8); clear hb8) | (with_reducible refine wpList_store_row rfl 36 (.tmp 17) (.tmp 92) rfl w8.heap.size (bs C).toArray rfl rfl 36 (bs z36).toArray (ha_new w8 (.cells (bs z36).toArray 36)) (sz36 C HCC.out) (z36_sz C HCC.out) (bs_oneA C) ?_; have HR := hidd (row3 (A := C) HB.out.1 HP.out HB.out.2); generalize (w8.alloc (Obj.cells (bs z36).toArray 36)).setRow w8.heap.size (bs C).toArray = w10 at HR ⊢; have HB := hidd (And.intro HR.out.1 HR.out.2.2.2); have HP := hidd HR.out.2.1; have HQ := hidd HR.out.2.2.1) | (with_reducible refine wpList_load_row_g rfl 36 (.tmp 14) rfl w6.heap.size rfl 36 (bs C).toArray (0, 0) _ HP.out Try.underlying36 rfl (sz36 C HCC.out) ?_) | (with_reducible refine wpList_load_row_g rfl 36 (.tmp 17) rfl w8.heap.size rfl 36 (bs C).toArray (0, 0) _ HQ.out Try.underlying36 rfl (sz36 C HCC.out) ?_) | (go_at_call 19; with_reducible refine (clash_any b m d y HL'.out (by have := HN'.out; omega) a n c x HL.out (by have := HN.out; omega) _ (HS'.out.grow HB.out.2) H8'.out HOK'.out (HS.out.grow HB.out.2) H8.out HOK.out).mono ?_; rintro e w11 ⟨rfl, hb11⟩; rw [HCL2.out]; have HB := hidd (cg HB.out hb11); clear hb11) | (go_at_call 19; with_reducible refine (clash_any a n c x HL.out (by have := HN.out; omega) b m d y HL'.out (by have := HN'.out; omega) _ (HS.out.grow HB.out.2) H8.out HOK.out (HS'.out.grow HB.out.2) H8'.out HOK'.out).mono ?_; rintro e w12 ⟨rfl, hb12⟩; rw [HCL.out]; have HB := hidd (cg HB.out hb12); clear hb12) | (go_at_call 15; with_reducible refine (wakes26 _).mono ?_; rintro e w9 ⟨rfl, hb9⟩; have HB := hidd (cg HB.out hb9); clear hb9))
  go_ret
  exact ⟨rfl, HB.out.2⟩
theorem swaps_any (H : List UInt8) (hH : H.length = 256) (a : Option Addr) (n c : Nat) (x : List Sn) (b : Option Addr) (m d : Nat) (y : List Sn) (W : World) (hs : Sl W a n c 14 (scs x)) (h8 : S8 x) (hs' : Sl W b m d 14 (scs y)) (h8' : S8 y) :
    Calls Try.prog 6 #[.agg (bs H).toArray, .slice a n c, .slice b m d] W fun e w' => e = .returned (.bool true) ∧ Below W.heap.size W w' := by
  have hl : x.length = n := by
    have := hs.len
    rw [scs_len h8] at this
    omega
  have hl' : y.length = m := by
    have := hs'.len
    rw [scs_len h8'] at this
    omega
  have q1 := hs.max
  have q2 := hs.le
  have q3 := hs'.max
  have q4 := hs'.le
  by_cases h : 100 < n
  · exact swaps_long1 H a n c b m d h W (by omega)
  · by_cases h' : 100 < m
    · exact swaps_long2 H a n c b m d (by omega) h' W (by omega)
    · by_cases hx : mayE x = 0
      · by_cases hy : mayE y = 0
        · cases hcl : clB x y
          · exact swaps_yes H hH a n c x hl (by omega) b m d y hl' (by omega) W hs h8 hx hs' h8' hy hcl
          · exact swaps_clash H hH a n c x hl (by omega) b m d y hl' (by omega) W hs h8 hx hs' h8' hy hcl
        · exact swaps_no2 H hH a n c x hl (by omega) b m d y (by omega) W hs h8 hx hs' h8' hy
      · exact swaps_no1 H hH a n c x (by omega) b m d (by omega) W hs h8 hx
end Go.Proofs.Ytdoicmjomlaoaaa
