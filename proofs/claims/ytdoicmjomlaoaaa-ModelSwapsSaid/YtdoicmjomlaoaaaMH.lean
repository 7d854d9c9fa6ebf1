import Derived.Test.YtdoicmjomlaoaaaMG
namespace Go.Proofs.Ytdoicmjomlaoaaa
open Go.RowKit
theorem szz36 {H A : List UInt8} (hH : H.length = 256) (hA : A.length = 256) : (bs H).toArray.size = (bs A).toArray.size := by rw [List.size_toArray, List.size_toArray, bs_length, bs_length, hH, hA]
theorem set8 (w : World) (g o : Nat) (b0 b1 b2 b3 b4 b5 b6 b7 : UInt8) : ((((((((w.setCell ⟨g, o, none⟩ (.int .u8 (b0.toNat : Int))).setCell ⟨g, o + 1, none⟩ (.int .u8 (b1.toNat : Int))).setCell ⟨g, o + 2, none⟩ (.int .u8 (b2.toNat : Int))).setCell ⟨g, o + 3, none⟩ (.int .u8 (b3.toNat : Int))).setCell ⟨g, o + 4, none⟩ (.int .u8 (b4.toNat : Int))).setCell ⟨g, o + 5, none⟩ (.int .u8 (b5.toNat : Int))).setCell ⟨g, o + 6, none⟩ (.int .u8 (b6.toNat : Int))).setCell ⟨g, o + 7, none⟩ (.int .u8 (b7.toNat : Int))) = w.setCells g o (bs [b0, b1, b2, b3, b4, b5, b6, b7]) := by
  simp only [bs, List.map_cons, List.map_nil, World.setCells, Nat.add_assoc, Nat.reduceAdd]
theorem wpList_load_row_g {P : Program} {ops : Array Oper} {rest : List Oper} {o : Oper} {a : Act} {w : World} {Q : Exit → Act → World → Prop} (hw : Region.wanted o (yielded ops a.tmps) = true) (ty : TypeId) (x : Operand) (ho : o.op = .load ty x)
    (g : Nat) (hx : a.eval x = .pointer (some ⟨g, 0, none⟩)) (t : TypeId) (cs : Array Value) (fr : Nat × Nat) (d : TypeDesc) (hg : w.heap[g]? = some (.cells cs t fr))
    (hu : P.underlying ty = some d) (hd : (match d with | .struct _ | .array _ _ => true | _ => false) = true) (hi : (P.info? ty).map (·.size) = some cs.size)
    (h : wpList P ops Q rest (a.put o.dst (.agg cs)) w) : wpList P ops Q (o :: rest) a w := by
  unfold wpList
  rw [if_pos hw]
  exact Or.inl (wp_load_row ty x ho g hx t cs fr d hg hu hd hi h)
theorem row1 {W w1 : World} {X : Obj} {A : List UInt8} (h0 : w1.heap[W.heap.size]? = some X) (hb : Below W.heap.size W w1) :
    ((w1.alloc (.cells (bs z36).toArray 36)).setRow w1.heap.size (bs A).toArray).heap[W.heap.size]? = some X ∧ ((w1.alloc (.cells (bs z36).toArray 36)).setRow w1.heap.size (bs A).toArray).heap[w1.heap.size]? = some (.cells (bs A).toArray 36 (0, 0)) ∧ Below W.heap.size W ((w1.alloc (.cells (bs z36).toArray 36)).setRow w1.heap.size (bs A).toArray) ∧ W.heap.size < w1.heap.size := by
  have l0 := (Array.getElem?_eq_some_iff.1 h0).1
  exact ⟨(setRow_other _ _ _ _ (by omega)).trans ((ha_old l0).trans h0), setRow_heap _ _ _ _ _ _ (ha_new w1 (.cells (bs z36).toArray 36)), below_setRow (hb.alloc hb.size _) hb.size _, l0⟩
theorem row2 {W w3 : World} {X Y : Obj} {g : Nat} {A : List UInt8} {a : Option Addr} {n c : Nat} {xs : List Value} (h0 : w3.heap[W.heap.size]? = some X) (h1 : w3.heap[g]? = some Y) (hb : Below W.heap.size W w3) (hs : Sl w3 a n c 1 xs) :
    ((w3.alloc (.cells (bs z36).toArray 36)).setRow w3.heap.size (bs A).toArray).heap[W.heap.size]? = some X ∧ ((w3.alloc (.cells (bs z36).toArray 36)).setRow w3.heap.size (bs A).toArray).heap[g]? = some Y ∧ ((w3.alloc (.cells (bs z36).toArray 36)).setRow w3.heap.size (bs A).toArray).heap[w3.heap.size]? = some (.cells (bs A).toArray 36 (0, 0)) ∧ Below W.heap.size W ((w3.alloc (.cells (bs z36).toArray 36)).setRow w3.heap.size (bs A).toArray) ∧ Sl ((w3.alloc (.cells (bs z36).toArray 36)).setRow w3.heap.size (bs A).toArray) a n c 1 xs ∧ W.heap.size < w3.heap.size ∧ g < w3.heap.size := by
  have l0 := (Array.getElem?_eq_some_iff.1 h0).1
  have l1 := (Array.getElem?_eq_some_iff.1 h1).1
  have hb2 : Below w3.heap.size w3 ((w3.alloc (.cells (bs z36).toArray 36)).setRow w3.heap.size (bs A).toArray) := below_setRow ((Below.refl _ w3).alloc (Nat.le_refl _) _) (Nat.le_refl _) _
  exact ⟨(setRow_other _ _ _ _ (by omega)).trans ((ha_old l0).trans h0), (setRow_other _ _ _ _ (by omega)).trans ((ha_old l1).trans h1), setRow_heap _ _ _ _ _ _ (ha_new w3 (.cells (bs z36).toArray 36)), below_setRow (hb.alloc hb.size _) hb.size _, hs.grow hb2, l0, l1⟩
set_option maxRecDepth 100000 in
set_option maxHeartbeats 4000000 in
theorem stays_yes (H : List UInt8) (hH : H.length = 256) (a : Option Addr) (n c : Nat) (l : List Sn) (hl : l.length = n) (hn : n ≤ 100) (W : World) (hs : Sl W a n c 14 (scs l)) (h8 : S8 l) (hmay : mayE l = 0) :
    Calls Try.prog 5 #[.agg (bs H).toArray, .slice a n c] W fun e w' => e = .returned (.bool true) ∧ Below W.heap.size W w' := by
  have HH := hidd hH
  have HL := hidd hl
  have HS := hidd hs
  have H8 := hidd h8
  have HOK := hidd (mayF_ok l hmay)
  have HM := hidd hmay
  have HG := hidd (ha_new W (.cells (bs H).toArray 36))
  obtain ⟨A, hA⟩ : ∃ A, A = doH H l := ⟨_, rfl⟩
  have HA := hidd hA
  have HAL := hidd (show A.length = 256 by rw [hA]; exact doH_len hH l h8 HOK.out)
  obtain ⟨td, htd⟩ : ∃ td, td = decide (l = (fS H l).2) := ⟨_, rfl⟩
  have HTD := hidd htd
  obtain ⟨ws, hws⟩ : ∃ ws, ws = rsL (tcS l).2 32 := ⟨_, rfl⟩
  have HWS := hidd hws
  have hwl : ws.length ≤ 32 := by rw [hws]; exact rsL_le _ _
  have zv36 := zero36
  clear hs h8 hmay hH hA htd hws
  go_enter Try.func5, Try.ntmps5
  go_wp2_with (first | (with_reducible refine wpList_load_row rfl 36 (.tmp 2) rfl W.heap.size rfl 36 (bs H).toArray (0, 0) _ HG.out Try.underlying36 rfl (sz36 H HH.out) ?_) | (go_at_call 16; refine (do_yes H HH.out a n c l hl (by omega) _ (HS.out.grow ((Below.refl _ W).alloc (Nat.le_refl _) _)) H8.out HOK.out HM.out).mono ?_; rintro e w1 ⟨rfl, hb1⟩; rw [← HA.out, ← HTD.out]; have HF := hidd (And.intro (blk_below hb1 HG.out (by simp)) (((Below.refl _ W).alloc (Nat.le_refl _) (.cells (bs H).toArray 36)).trans (hb1.mono (by simp)))); clear hb1) | (with_reducible refine wpList_store_row rfl 36 (.tmp 5) (.tmp 22) rfl w1.heap.size (bs A).toArray rfl rfl 36 (bs z36).toArray (ha_new w1 (.cells (bs z36).toArray 36)) (sz36 A HAL.out) (z36_sz A HAL.out) (bs_oneA A) ?_; have HR := hidd (row1 (A := A) HF.out.1 HF.out.2); generalize (w1.alloc (Obj.cells (bs z36).toArray 36)).setRow w1.heap.size (bs A).toArray = w2 at HR ⊢) | (go_at_call 17; refine (writes_yes a n c l hl (by omega) _ (HS.out.grow HR.out.2.2.1) H8.out HOK.out).mono ?_; rintro e w3 ⟨a2, c2, rfl, hs2, hb3⟩; rw [← HWS.out] at hs2 ⊢; have HS2 := hidd hs2; have HR3 := hidd (And.intro (blk_below hb3 HR.out.1 (Array.getElem?_eq_some_iff.1 HR.out.1).1) (And.intro (blk_below hb3 HR.out.2.1 (Array.getElem?_eq_some_iff.1 HR.out.2.1).1) (HR.out.2.2.1.trans (hb3.mono HR.out.2.2.1.size)))); clear hs2 hb3) | (with_reducible refine wpList_load_row rfl 36 (.tmp 2) rfl W.heap.size rfl 36 (bs H).toArray (0, 0) _ HR3.out.1 Try.underlying36 rfl (sz36 H HH.out) ?_) | (with_reducible refine wpList_store_row rfl 36 (.tmp 9) (.tmp 30) rfl w3.heap.size (bs H).toArray rfl rfl 36 (bs z36).toArray (ha_new w3 (.cells (bs z36).toArray 36)) (sz36 H HH.out) (z36_sz H HH.out) (bs_oneA H) ?_; have HQ := hidd (row2 (A := H) HR3.out.1 HR3.out.2.1 HR3.out.2.2 HS2.out); generalize (w3.alloc (Obj.cells (bs z36).toArray 36)).setRow w3.heap.size (bs H).toArray = w4 at HQ ⊢))
  clear zv36
  obtain ⟨q0, q1, q2, q3, q4, q5, q6⟩ := HQ.out
  have Q56 := hidd (And.intro q5 q6)
  have hw1 := HR.out.2.2.2
  go_loopw [10] (fun i wr => ∃ k : Nat, k ≤ n ∧ i = .int .i64 k ∧ wr.heap[W.heap.size]? = some (.cells (bs H).toArray 36 (0, 0)) ∧ wr.heap[w1.heap.size]? = some (.cells (bs A).toArray 36 (0, 0)) ∧ wr.heap[w3.heap.size]? = some (.cells (bs (doH H (l.take k))).toArray 36 (0, 0)) ∧ Below W.heap.size W wr ∧ Below w3.heap.size w4 wr) (fun i _ => n - (intOf i).toNat)
  case atStart => exact ⟨0, by omega, rfl, q0, q1, q2, q3, Below.refl _ _⟩
  case round =>
    clear q0 q1 q2 q3 q4
    obtain ⟨k, hk, rfl, f0, f1, f2, f3, f4⟩ := hrel
    have F0 := hidd f0
    have F1 := hidd f1
    have F2 := hidd f2
    have F3 := hidd f3
    have F4 := hidd f4
    rcases Nat.lt_or_ge k n with hlt | hge
    · obtain ⟨b, off, s, rfl, hp, hp8, hc⟩ := sn_at (HS.out.grow f3) H8.out k hlt
      have hxk := HOK.out s (List.mem_of_getElem? hp)
      have HT := hidd (doH_take H l k s hp)
      have hH0 : (doH H (l.take k)).length = 256 := doH_len HH.out _ (fun p hp => H8.out p (List.mem_of_mem_take hp)) (fun p hp => HOK.out p (List.mem_of_mem_take hp))
      have HK0 := hidd hH0
      obtain ⟨K, X, B, C, kk0, b0, b1, b2, b3, b4, b5, b6, b7, E, rfl⟩ := sn8 hp8
      obtain ⟨c0, c1, c2, c3, c4, c5, c6, c7, c8, c9, c10, c11, c12, c13⟩ := sn_cells hc
      have hkk : 0 ≤ kk0 ∧ kk0 < 32 ∧ (K = 1 ∨ K = 2) := by
        unfold okS at hxk
        simp at hxk
        omega
      obtain ⟨kk, rfl⟩ : ∃ kk : Nat, kk0 = kk := ⟨kk0.toNat, by omega⟩
      have k1 : (0 : Int) ≤ kk := hkk.1
      have k2 : (kk : Int) < 32 := hkk.2.1
      have KC := hidd hkk.2.2
      have i0 : (0 : Int) ≤ (k : Int) := by omega
      have i1 : (k : Int) < (n : Int) := by omega
      clear f0 f1 f2 f3 f4 hp hp8 hc hxk hH0 hkk
      rcases KC.out with rfl | rfl
      · clear c1 c2 c3 c5 c6 c7 c8 c9 c10 c11 c12 c13
        go_wp2_with fail
        refine ⟨⟨k + 1, by omega, by push_cast; rfl, F0.out, F1.out, ?_, F3.out, F4.out⟩, ?_⟩
        · rw [HT.out]
          exact F2.out
        · simp [intOf]
          omega
      · have th := there_bs F2.out (kk * 8) 8 (by rw [HK0.out]; omega)
        obtain ⟨y0, z0⟩ := Option.isSome_iff_exists.1 (th 0 (by decide)).1
        obtain ⟨y1, z1⟩ := Option.isSome_iff_exists.1 (th 1 (by decide)).1
        obtain ⟨y2, z2⟩ := Option.isSome_iff_exists.1 (th 2 (by decide)).1
        obtain ⟨y3, z3⟩ := Option.isSome_iff_exists.1 (th 3 (by decide)).1
        obtain ⟨y4, z4⟩ := Option.isSome_iff_exists.1 (th 4 (by decide)).1
        obtain ⟨y5, z5⟩ := Option.isSome_iff_exists.1 (th 5 (by decide)).1
        obtain ⟨y6, z6⟩ := Option.isSome_iff_exists.1 (th 6 (by decide)).1
        obtain ⟨y7, z7⟩ := Option.isSome_iff_exists.1 (th 7 (by decide)).1
        have e0 : wr.cell? ⟨w3.heap.size, kk * 8, none⟩ = some y0 := z0
        clear z0
        have fz := (blk F2.out).2
        clear th c1 c2 c3 c13
        go_wp2_with fail
        go_region
        go_wp2
        have gS0 : (wr.setCells w3.heap.size (kk * 8) (bs [b0, b1, b2, b3, b4, b5, b6, b7])).heap[W.heap.size]? = some (.cells (bs H).toArray 36 (0, 0)) := (heap_setCo (by have := Q56.out.1; omega)).trans F0.out
        have gS1 : (wr.setCells w3.heap.size (kk * 8) (bs [b0, b1, b2, b3, b4, b5, b6, b7])).heap[w1.heap.size]? = some (.cells (bs A).toArray 36 (0, 0)) := (heap_setCo (by have := Q56.out.2; omega)).trans F1.out
        have gS2 := heap_over8 F2.out kk [b0, b1, b2, b3, b4, b5, b6, b7] HK0.out (by omega) rfl
        have gS3 : Below W.heap.size W (wr.setCells w3.heap.size (kk * 8) (bs [b0, b1, b2, b3, b4, b5, b6, b7])) := below_setC (by have := Q56.out.1; omega) _ _ _ F3.out
        have gS4 : Below w3.heap.size w4 (wr.setCells w3.heap.size (kk * 8) (bs [b0, b1, b2, b3, b4, b5, b6, b7])) := below_setC (Nat.le_refl _) _ _ _ F4.out
        rw [set8]
        refine ⟨⟨k + 1, by omega, by push_cast; rfl, hs_drew gS0, hs_drew gS1, ?_, gS3.drew, gS4.drew⟩, ?_⟩
        · rw [HT.out]
          exact hs_drew gS2
        · simp [intOf]
          omega
    · have hkn : k = n := by omega
      subst hkn
      have hAt : doH H (l.take k) = A := by rw [List.take_of_length_le (by rw [HL.out]; exact Nat.le_refl _), HA.out]
      have G2 := hidd (show wr.heap[w3.heap.size]? = some (.cells (bs A).toArray 36 (0, 0)) by rw [f2, hAt])
      clear f0 f1 f2 f3 f4 hAt F2
      have SW := hidd (HQ.out.2.2.2.2.1.keep F4.out HS2.out.cells.lt)
      obtain ⟨wL, hwL⟩ : ∃ wL, wL = wr := ⟨_, rfl⟩
      rw [← hwL] at F0 F1 F3 F4 G2 SW ⊢
      clear hwL
      go_wp2
      go_loopw [11] (fun i wq => ∃ k : Nat, k ≤ 32 ∧ i = .int .i64 k ∧ Below wL.heap.size wL wq) (fun i _ => 32 - (intOf i).toNat)
      case atStart => exact ⟨0, by omega, rfl, Below.refl _ _⟩
      case round =>
        obtain ⟨j, hj, rfl, hbq⟩ := hrel
        have HBQ := hidd hbq
        clear hbq
        rcases Nat.lt_or_ge j 32 with hjl | hjg
        · go_wp2
          go_loopw [12, 13] (fun b i wp => ∃ q : Nat, q ≤ ws.length ∧ i = .int .i64 q ∧ b = .bool ((ws.take q).any (· == (j : Int))) ∧ Below wL.heap.size wL wp) (fun _ i _ => ws.length - (intOf i).toNat)
          case atStart => exact ⟨0, by omega, rfl, rfl, HBQ.out⟩
          case round =>
            obtain ⟨q, hq, rfl, rfl, hbp⟩ := hrel
            have HBP := hidd hbp
            rcases Nat.lt_or_ge q ws.length with hql | hqg
            · have tw : ∃ x, ws[q]? = some x := ⟨_, List.getElem?_eq_getElem hql⟩
              obtain ⟨x, hx⟩ := tw
              have hcell : ∃ bw ow, a2 = some ⟨bw, ow, none⟩ ∧ wr.cell? ⟨bw, ow + q, none⟩ = some (.int .i64 x) := by
                obtain ⟨bw, ow, e, cw⟩ := (SW.out.grow hbp).cells q (by rw [is_len]; exact hql)
                refine ⟨bw, ow, e, cw.trans ?_⟩
                unfold is
                rw [List.getElem?_map, hx]
                rfl
              obtain ⟨bw, ow, ha2, cw⟩ := hcell
              have HA2 := hidd ha2
              have HT := hidd (show (ws.take (q + 1)).any (· == (j : Int)) = ((ws.take q).any (· == (j : Int)) || (x == (j : Int))) by rw [List.take_add_one, hx, List.any_append]; simp)
              have i0 : (0 : Int) ≤ (q : Int) := by omega
              have i1 : (q : Int) < (ws.length : Int) := by omega
              clear hbp hx
              subst ha2
              cases hb : (ws.take q).any (· == (j : Int))
              · have HB := hidd hb
                clear hb
                go_wp2
                refine ⟨⟨q + 1, by omega, by push_cast; rfl, by rw [HT.out, HB.out, Bool.false_or], HBP.out⟩, ?_⟩
                simp [intOf]
                omega
              · have HB := hidd hb
                clear hb cw
                go_wp2
                refine ⟨⟨q + 1, by omega, by push_cast; rfl, by rw [HT.out, HB.out, Bool.true_or], HBP.out⟩, ?_⟩
                simp [intOf]
                omega
            · have hqe : q = ws.length := by omega
              subst hqe
              rw [List.take_length]
              have i0 : (0 : Int) ≤ (j : Int) := by omega
              have i1 : (j : Int) < 32 := by omega
              cases hb : ws.any (· == (j : Int))
              · have hcut : cut8 A j = cut8 H j := by
                  rw [HA.out]
                  refine do_stays j l H HH.out H8.out HOK.out ?_
                  rw [← tcS_w]
                  cases hwj : (tcS l).2 j
                  · rfl
                  · exfalso
                    have hm : (j : Int) ∈ ws := by rw [HWS.out]; exact (rsL_mem _ 32 j).2 ⟨hjl, hwj⟩
                    rw [List.any_eq_false] at hb
                    exact hb _ hm (by simp)
                obtain ⟨v, hv⟩ : ∃ v, v = cut8 H j := ⟨_, rfl⟩
                have hv8 : v.length = 8 := by rw [hv]; exact cut8_len HH.out hjl
                have rA := range_bs (blk_below hbp F1.out (Array.getElem?_eq_some_iff.1 F1.out).1) (j * 8) 8
                have rH := range_bs (blk_below hbp F0.out (Array.getElem?_eq_some_iff.1 F0.out).1) (j * 8) 8
                rw [bs_cut8, hcut, ← hv] at rA
                rw [bs_cut8, ← hv] at rH
                obtain ⟨v0, v1, v2, v3, v4, v5, v6, v7, rfl⟩ : ∃ v0 v1 v2 v3 v4 v5 v6 v7, v = [v0, v1, v2, v3, v4, v5, v6, v7] := by
                  match v, hv8 with
                  | [v0, v1, v2, v3, v4, v5, v6, v7], _ => exact ⟨v0, v1, v2, v3, v4, v5, v6, v7, rfl⟩
                have p0 : wr.cell? ⟨w1.heap.size, j * 8, none⟩ = some (.int .u8 (v0.toNat : Int)) := rA 0 _ rfl
                have p1 : wr.cell? ⟨w1.heap.size, j * 8 + 1, none⟩ = some (.int .u8 (v1.toNat : Int)) := rA 1 _ rfl
                have p2 : wr.cell? ⟨w1.heap.size, j * 8 + 2, none⟩ = some (.int .u8 (v2.toNat : Int)) := rA 2 _ rfl
                have p3 : wr.cell? ⟨w1.heap.size, j * 8 + 3, none⟩ = some (.int .u8 (v3.toNat : Int)) := rA 3 _ rfl
                have p4 : wr.cell? ⟨w1.heap.size, j * 8 + 4, none⟩ = some (.int .u8 (v4.toNat : Int)) := rA 4 _ rfl
                have p5 : wr.cell? ⟨w1.heap.size, j * 8 + 5, none⟩ = some (.int .u8 (v5.toNat : Int)) := rA 5 _ rfl
                have p6 : wr.cell? ⟨w1.heap.size, j * 8 + 6, none⟩ = some (.int .u8 (v6.toNat : Int)) := rA 6 _ rfl
                have p7 : wr.cell? ⟨w1.heap.size, j * 8 + 7, none⟩ = some (.int .u8 (v7.toNat : Int)) := rA 7 _ rfl
                have r0 : wr.cell? ⟨W.heap.size, j * 8, none⟩ = some (.int .u8 (v0.toNat : Int)) := rH 0 _ rfl
                have r1 : wr.cell? ⟨W.heap.size, j * 8 + 1, none⟩ = some (.int .u8 (v1.toNat : Int)) := rH 1 _ rfl
                have r2 : wr.cell? ⟨W.heap.size, j * 8 + 2, none⟩ = some (.int .u8 (v2.toNat : Int)) := rH 2 _ rfl
                have r3 : wr.cell? ⟨W.heap.size, j * 8 + 3, none⟩ = some (.int .u8 (v3.toNat : Int)) := rH 3 _ rfl
                have r4 : wr.cell? ⟨W.heap.size, j * 8 + 4, none⟩ = some (.int .u8 (v4.toNat : Int)) := rH 4 _ rfl
                have r5 : wr.cell? ⟨W.heap.size, j * 8 + 5, none⟩ = some (.int .u8 (v5.toNat : Int)) := rH 5 _ rfl
                have r6 : wr.cell? ⟨W.heap.size, j * 8 + 6, none⟩ = some (.int .u8 (v6.toNat : Int)) := rH 6 _ rfl
                have r7 : wr.cell? ⟨W.heap.size, j * 8 + 7, none⟩ = some (.int .u8 (v7.toNat : Int)) := rH 7 _ rfl
                have hq := fun (w : World) => eq24' w 9998 [v0, v1, v2, v3, v4, v5, v6, v7] [v0, v1, v2, v3, v4, v5, v6, v7] rfl rfl
                simp only [bs, List.map_cons, List.map_nil, beq_self_eq_true, Nat.reduceAdd] at hq
                clear rA rH hcut hv hv8 hb hbp
                go_wp2
                go_region
                go_wp2
                refine ⟨⟨j + 1, by omega, by push_cast; rfl, HBP.out.drew⟩, ?_⟩
                simp [intOf]
                omega
              · clear hb hbp
                go_wp2
                go_region
                go_wp2
                refine ⟨⟨j + 1, by omega, by push_cast; rfl, HBP.out.drew⟩, ?_⟩
                simp [intOf]
                omega
        · have hj32 : j = 32 := by omega
          subst hj32
          have hbL := HBQ.out
          have K0 := hidd (blk_below hbL F0.out (Array.getElem?_eq_some_iff.1 F0.out).1)
          have K1 := hidd (blk_below hbL F1.out (Array.getElem?_eq_some_iff.1 F1.out).1)
          have K2 := hidd (blk_below hbL G2.out (Array.getElem?_eq_some_iff.1 G2.out).1)
          have KB := hidd (F3.out.trans (hbL.mono F3.out.size))
          have hqA := fun w => eq36 w A HAL.out
          clear hbL hjg
          rcases Nat.eq_zero_or_pos ws.length with hz | hz
          · have hAH : A = H := by
              rw [HA.out]
              refine do_same l H HOK.out (fun k hk => ?_)
              rw [← tcS_w]
              cases hwj : (tcS l).2 k
              · rfl
              · exfalso
                have hm : (k : Int) ∈ ws := by rw [HWS.out]; exact (rsL_mem _ 32 k).2 ⟨hk, hwj⟩
                rw [List.eq_nil_of_length_eq_zero hz] at hm
                simp at hm
            have hqH : ∀ w, (Op.equalIn 10000 36 (.agg (bs A).toArray) (.agg (bs H).toArray)).run Try.prog w = .ok true w := by
              rw [← hAH]
              exact hqA
            have i0 : (ws.length : Int) = 0 := by omega
            have i1 : ws = [] := List.eq_nil_of_length_eq_zero hz
            have i2 : ws.length = 0 := hz
            clear hAH hz
            go_wp2_with (first | (with_reducible refine wpList_load_row rfl 36 (.tmp 5) rfl w1.heap.size rfl 36 (bs A).toArray (0, 0) _ K1.out Try.underlying36 rfl (sz36 A HAL.out) ?_) | (with_reducible refine wpList_load_row rfl 36 (.tmp 9) rfl w3.heap.size rfl 36 (bs A).toArray (0, 0) _ K2.out Try.underlying36 rfl (sz36 A HAL.out) ?_) | (refine wpList_load_row_g rfl 36 (.tmp 5) rfl w1.heap.size rfl 36 (bs A).toArray (0, 0) _ K1.out Try.underlying36 rfl (sz36 A HAL.out) ?_) | (refine wpList_load_row_g rfl 36 (.tmp 2) rfl W.heap.size rfl 36 (bs H).toArray (0, 0) _ K0.out Try.underlying36 rfl (sz36 H HH.out) ?_) | (go_at_call 15; refine (wakes26 _).mono ?_; rintro e w9 ⟨rfl, hb9⟩; have HB9 := hidd hb9; clear hb9))
            go_ret
            exact ⟨rfl, KB.out.trans (HB9.out.mono KB.out.size)⟩
          · have i0 : (0 : Int) < (ws.length : Int) := by omega
            have i1 : ¬ ws = [] := fun h => by rw [h] at hz; simp at hz
            have i2 : 0 < ws.length := hz
            clear hz
            go_wp2_with (first | (with_reducible refine wpList_load_row rfl 36 (.tmp 5) rfl w1.heap.size rfl 36 (bs A).toArray (0, 0) _ K1.out Try.underlying36 rfl (sz36 A HAL.out) ?_) | (with_reducible refine wpList_load_row rfl 36 (.tmp 9) rfl w3.heap.size rfl 36 (bs A).toArray (0, 0) _ K2.out Try.underlying36 rfl (sz36 A HAL.out) ?_) | (go_at_call 15; refine (wakes26 _).mono ?_; rintro e w9 ⟨rfl, hb9⟩; have HB9 := hidd hb9; clear hb9))
            go_ret
            exact ⟨rfl, KB.out.trans (HB9.out.mono KB.out.size)⟩
end Go.Proofs.Ytdoicmjomlaoaaa
