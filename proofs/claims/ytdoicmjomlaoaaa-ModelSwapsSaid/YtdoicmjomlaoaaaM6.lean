import Derived.Great.BuildSlice
import Derived.Test.YtdoicmjomlaoaaaM5
namespace Go.Proofs.Ytdoicmjomlaoaaa
open Go.RowKit Go.Shelf
attribute [local go_sem] Oper.semAt_some
set_option maxRecDepth 100000 in
set_option maxHeartbeats 4000000 in
theorem fill_yes (H : List UInt8) (hH : H.length = 256) (a : Option Addr) (m c : Nat) (l : List Sn) (hl : l.length = m) (hm : m ≤ 1000) (W : World) (hs : Sl W a m c 14 (scs l)) (h8 : S8 l) (hok : ∀ x ∈ l, okS x = true) (hmay : mayE l = 0) :
    Calls Try.prog 18 #[.agg (bs H).toArray, .slice a m c] W fun e w' => ∃ a' c', e = .returned (.tuple #[.slice a' m c', .int .i64 0]) ∧ Sl w' a' m c' 14 (scs (fS H l).2) ∧ (∀ b off, a' = some ⟨b, off, none⟩ → W.heap.size ≤ b) ∧ Below W.heap.size W w' := by
  refine (callsIn_wide (n := 3)).1 ?_
  have HH := hidd hH
  have HL := hidd hl
  have HS := hidd hs
  have H8 := hidd h8
  have HOK := hidd hok
  have HM := hidd hmay
  clear hs h8 hok hmay hH
  obtain ⟨i0, hi, hz0, hz1, hz2⟩ := info_parts sT.i
  refine callsIn_of_wp_marks Try.func18 rfl trivial ?_ rfl
  simp only [Try.ntmps18, List.size_toArray, List.length_cons, List.length_nil, Nat.reduceAdd, Nat.reduceSub, Array.replicate_succ, Array.replicate_zero, List.push_toArray, List.append_toArray, List.nil_append, List.cons_append]
  gi_wp2_with fail
  refine ⟨trivial, (callsIn_wide.2 (may_any a m c l _ (HS.out.grow (((Below.refl _ W).alloc (Nat.le_refl _) _).alloc (by simp) _)) H8.out hm)).mono ?_⟩
  rintro e w1 ⟨rfl, hb1⟩
  rw [HM.out]
  have HA := hidd (after2 hb1)
  clear hb1
  gi_wp2_with (first | (refine ⟨trivial, ?_⟩; gi_at_call 28; refine (steps_in _ _ trivial rfl _ _ _ _).mono ?_; rintro e w2 ⟨rfl, rfl⟩))
  obtain ⟨q0, q1, qb, qs⟩ := HA.out
  have hg : (w1.alloc (.cells #[.slice a m c] 40)).cell? ⟨w1.heap.size, 0, none⟩ = some (.slice a m c) := (Boxed.new w1 40 (.slice a m c)).cell
  have hsz : (w1.alloc (.cells #[.slice a m c] 40)).heap.size = w1.heap.size + 1 := by simp
  have B0 : Below W.heap.size W (w1.alloc (.cells #[.slice a m c] 40)) := qb.alloc qb.size _
  have g0 : (w1.alloc (.cells #[.slice a m c] 40)).heap[W.heap.size]? = some (.cells (bs H).toArray 36 (0, 0)) := (ha_old (by omega)).trans q0
  have g1 : Boxed (w1.alloc (.cells #[.slice a m c] 40)) (W.heap.size + 1) 40 (.slice none 0 0) := (ha_old (by omega)).trans q1
  have hlt : ∀ b off, a = some ⟨b, off, none⟩ → 0 < m → b < W.heap.size := fun b off e h0 => by
    obtain ⟨b', off', e', hc⟩ := HS.out.cells 0 (by rw [scs_len H8.out, HL.out]; omega)
    rw [e] at e'
    injection e' with e'
    injection e' with e1 e2
    subst e1
    exact World.block_lt_of_cell? W _ (hc.trans (List.getElem?_eq_getElem (by rw [scs_len H8.out, HL.out]; omega)))
  generalize hW0 : w1.alloc (.cells #[.slice a m c] 40) = W0 at *
  have hI : OwnFrom W0.heap.size (fun (pre : List (Fin l.length)) (w : World) => (w.heap[W.heap.size]? = some (.cells (bs (fS H (pk l pre)).1).toArray 36 (0, 0)) ∧ (∃ v, Boxed w (W.heap.size + 1) 40 v ∧ w.ownsRow W0.heap.size 49 14 v pre.length (scs (fS H (pk l pre)).2) ∧ True)) ∧ Below W.heap.size W w ∧ W0.heap.size ≤ w.heap.size) :=
    OwnFrom.and (OwnFrom.and (Own.from (heapf_own _ (fun pre : List (Fin l.length) => (bs (fS H (pk l pre)).1).toArray) 36) _) (Own.from (holdsRow_own W0.heap.size (W.heap.size + 1) 40 49 14 (fun pre : List (Fin l.length) => pre.length) (fun pre => scs (fS H (pk l pre)).2) (fun _ _ => True)) _)) (OwnFrom.and (ownFrom_below (Nat.le_refl _) (by omega)) (Own.from (size_own W0.heap.size) _))
  refine wpIn_rangeFunc_ownH rfl (by omega) (gf := 34) (lb := #[.pointer (some ⟨w1.heap.size, 0, none⟩)]) rfl trivial (enters_of Try.func34 (by kernel_rfl) rfl)
    (steps_stops Fence.wide 2 trivial rfl (by omega) w1.heap.size W.heap.size a m c l hl hm H8.out HOK.out W0 hg (by omega) (HS.out.grow B0) ?lt (by omega)) belowK_t (belowK_b (by omega)) (Below.refl _ _) (fun _ => rfl)
    _ (fun _ _ _ => False) hI (fun _ _ _ _ _ hs _ _ => hs)
    ⟨⟨g0, ⟨_, g1, World.ownsRow_nil _ _ _ _, trivial⟩⟩, B0, Nat.le_refl _⟩
    (fun x a' w => ∃ X v, W0.heap.size ≤ X ∧ a' = { tmps := #[.agg (bs H).toArray, .slice a m c, .pointer (some ⟨W.heap.size, 0, none⟩), undef, .pointer (some ⟨W.heap.size + 1, 0, none⟩), .int .i64 0, .int .i64 0, undef, .pointer (some ⟨X, 0, none⟩), .slice a m c, .int .i64 0, .int .i64 0, .bool false, undef, .slice a m c, .func (.func 34) #[] #[.pointer (some ⟨w1.heap.size, 0, none⟩)], .int .i64 (x.1 : Int), .agg (sc l[x.1]).toArray, undef, undef, undef, undef, undef, undef, undef, undef, undef, undef, undef, undef, undef, undef, undef, undef, undef, undef], defers := [] } ∧ w.heap[X]? = some (.cells (sc l[x.1]).toArray 49 (0, 0)) ∧ Boxed w (W.heap.size + 1) 40 v ∧ v.ownBlock ≠ some X)
    ?hAx ?assign ?body ?done ?stop
  case lt => exact hlt
  case hAx =>
    rintro x a' s A B row ⟨X, v, h1, h2, h3, h4, h5⟩ hgr hr
    exact ⟨X, v, h1, h2, (heapf_own X (fun _ : Unit => (sc l[x.1]).toArray) 49) () A B row h3 hgr (fun r e => (hr r e).2), (boxed_own (W.heap.size + 1) 40 (fun _ : Unit => v)) () A B row h4 hgr (fun r e => (hr r e).2), h5⟩
  case assign =>
    rintro lp pre x w K hin hK
    simp only [encS]
    have hx8 : l[x.1].v.length = 8 := H8.out _ (List.getElem_mem _)
    have HK := hidd hK
    have HI := hidd hin
    have HX8 := hidd hx8
    clear hK hin hx8
    gi_wp2_with (with_reducible refine wpListIn_store_row rfl 49 (.tmp 8) (.tmp 17) rfl w.heap.size (sc l[x.1]).toArray rfl rfl 49 z14 (ha_new w (.cells z14 49)) (sc_sz _ HX8.out) (z14_sz _ HX8.out) (sc_one _) ?_)
    rw [World.setRow_alloc_new]
    obtain ⟨⟨e0, v, e1, e2, _⟩, e3, e4⟩ := HI.out
    exact HK.out _ _ ((KeepsOthers.alloc w _).from _) ((Below.refl _ w).alloc e3.size _) (hI.alloc _ HI.out) ⟨w.heap.size, v, e4, rfl, ha_new w _, e1.alloc _, fun e => absurd (own_lt e2 e).2 (Nat.lt_irrefl _)⟩
  case body =>
    rintro lp pre x a' w hlp _ ⟨⟨e0, v', e1, e2, _⟩, e3, e4⟩ ⟨X, v, hX, rfl, hx, hbx, hne⟩ hlt2
    have hvv : v' = v := by
      have h := (show w.heap[W.heap.size + 1]? = _ from e1).symm.trans hbx
      injection h with h
      injection h with h
      injection h with h
      injection h with h
    subst hvv
    have hx8 : l[x.1].v.length = 8 := H8.out _ (List.getElem_mem _)
    have hxk : okS l[x.1] = true := HOK.out _ (List.getElem_mem _)
    have hpk := pk_ok H8.out HOK.out pre
    have hst := fS_ok HH.out (pk l pre) (H, []) ⟨HH.out, fun p hp => by simp at hp⟩ hpk.1 hpk.2
    have hsn : fS H (pk l (pre ++ [x])) = stF (fS H (pk l pre)) l[x.1] := by rw [pk_snoc, fS_snoc]
    have hln : (fS H (pk l pre)).2.length = pre.length := by rw [fS_len, pk_len]
    have hl2 : pre.length ≤ 1000 := by omega
    have hst' : (fS H (pk l pre)).1.length = 256 ∧ S8 (fS H (pk l pre)).2 := hst
    obtain ⟨s, hsx⟩ : ∃ s, s = l[x.1] := ⟨_, rfl⟩
    obtain ⟨st, hst2⟩ : ∃ st, st = fS H (pk l pre) := ⟨_, rfl⟩
    rw [← hsx] at hx8 hxk hx hsn
    rw [← hst2] at hsn hln hst' e0 e2
    rw [← hln] at e2
    have F0 := hidd (show FI w w W.heap.size W.heap.size (W.heap.size + 1) W0.heap.size X st.1 v' st.2 s from ⟨e0, e1, e2, hx, hne, KeepsFrom.refl _ _, Below.refl _ _⟩)
    have HSN := hidd hsn
    have HX8 := hidd hx8
    have HST := hidd hst'
    have HLN := hidd hln
    have HSX := hidd hsx
    have I34 := hidd (And.intro e3 e4)
    have hk : s.k = (s.k.toNat : Nat) ∧ s.k.toNat < 32 ∧ (s.K = 1 ∨ s.K = 2) := by
      unfold okS at hxk
      simp at hxk
      omega
    obtain ⟨kk, hkk⟩ : ∃ kk, kk = s.k.toNat := ⟨_, rfl⟩
    rw [← hkk] at hk
    obtain ⟨hk1, hk2, hk3⟩ := hk
    have cP4 := ((blk hx).1 4).trans (show (sc s).toArray[4]? = some (.int .i64 s.k) from rfl)
    have cP0 := ((blk hx).1 0).trans (show (sc s).toArray[0]? = some (.int .i8 s.K) from rfl)
    rw [hk1] at cP4
    have HKK := hidd hkk
    have HK1 := hidd hk1
    have j0 : (0 : Int) ≤ (kk : Int) := by omega
    have j1 : (kk : Int) < 32 := by omega
    clear hst hst' hsn hln hsx hst2 hx hbx hne e0 e1 e2 e3 e4 hx8 hxk hpk hkk hk1 hI
    have I3 := I34.out.1.size
    have I4 := I34.out.2
    rcases hk3 with hK | hK
    · rw [hK] at cP0
      have HK3 := hidd hK
      clear hK
      have HH1 := hidd HST.out.1
      have HTX := hidd (there_sc F0.out.hx HX8.out (y := cut8 st.1 kk) (cut8_len HH1.out (by omega)))
      have hfo := fold14 { s with v := cut8 st.1 kk } (cut8_len HH1.out (by omega))
      gi_wp2_with (first | (with_reducible refine wpListIn_load_mid rfl 24 (.tmp 28) rfl W.heap.size (kk * 8) rfl (bs (cut8 st.1 kk)) _ (by rw [← bs_cut8]; exact range_bs F0.out.h0 (kk * 8) 8) Try.underlying24 rfl (v_szl _ (cut8_len HH1.out (by omega))) ?_) | (with_reducible refine wpListIn_store_mid rfl 24 (.tmp 30) (.tmp 29) rfl X 5 (bs (cut8 st.1 kk)).toArray rfl rfl HTX.out (v_sz _ (cut8_len HH1.out (by omega))) (bs_oneA _) ?_; have F2 := hidd (F0.out.setX (cut8 st.1 kk) HX8.out (cut8_len HH1.out (by omega)) (by omega) (by omega) (by omega)); generalize hw2 : w.setCells X 5 (bs (cut8 st.1 kk)) = w2 at F2 ⊢; clear hw2; have cv := F2.out.bx.cell; have cf := F2.out.bx.frozen) | (with_reducible refine wpListIn_load_row rfl 49 (.tmp 8) rfl X rfl 49 (sc { s with v := cut8 st.1 kk }).toArray (0, 0) _ F2.out.hx Try.underlying49 rfl (sc_sz _ (cut8_len HH1.out (by omega))) ?_) | (with_reducible refine wpListIn_build rfl 40 1 0 (.tmp 32) rfl (.agg (sc { s with v := cut8 st.1 kk }).toArray) _ _ rfl (run_build14 _ (cut8_len HH1.out (by omega)) _) ?_) | (gi_at_builtin; refine wpListIn_append_own _ rfl _ _ 40 rfl W0.heap.size 49 i0 _ 14 56 Try.underlying40 hi hz0 hz1 hz2 rfl (by decide) _ _ _ rfl (F2.out.own.alloc _) ⟨w2.heap.size, 0, none⟩ 1 1 (sc { s with v := cut8 st.1 kk }) rfl (by rw [sc_len (cut8_len HH1.out (by omega))]) (cell_sc _ _) (fun u hu => scs_cell [_] u (by rw [scs_one]; exact hu)) (by unfold maxLen; have := HLN.out; omega) (by have := HLN.out; omega) (by have := F2.out.be.size; simp; omega) ?_; intro v' w5 hown' hgrow _; obtain ⟨g', cap', rfl⟩ := ownsRow_succ hown'; have AP := hidd (F2.out.app (by omega) (by omega) (by have := F2.out.be.size; omega) (by omega) (by omega) (by have := F2.out.be.size; omega) hown' hgrow); clear hown' hgrow; have hc1 := AP.out.1.cell; have hf1 := AP.out.1.frozen))
      have hE : stF st s = (st.1, st.2 ++ [{ s with v := cut8 st.1 kk }]) := by
        unfold stF stH
        rw [HK3.out, ← HKK.out]
        rfl
      have hE2 := HSN.out
      rw [hE] at hE2
      have AP2 := AP.out
      rw [hsz] at AP2
      obtain ⟨_, p1, p2, p3, p4, p5, p6⟩ := AP2
      refine ⟨p1, p2, ⟨by rw [hE2]; exact p3, _, p4, ?_⟩, I34.out.1.trans p2, p6⟩
      rw [hE2, List.length_append, ← HLN.out]
      rw [List.length_append] at p5
      exact p5
    · rw [hK] at cP0
      have HK3 := hidd hK
      clear hK
      have HH1 := hidd (over8_len st.1 kk s.v HST.out.1 (by omega) HX8.out)
      have HTH := hidd (show w.there W.heap.size (kk * 8) (bs s.v).toArray.size from by rw [show (bs s.v).toArray.size = 8 from (by rw [List.size_toArray, bs_length]; exact HX8.out)]; exact there_bs F0.out.h0 _ 8 (by rw [HST.out.1]; omega))
      have hfo := fold14 { s with v := cut8 (over8 st.1 kk s.v) kk } (cut8_len HH1.out (by omega))
      gi_wp2_with (first | (with_reducible refine wpListIn_load_mid rfl 24 (.tmp 23) rfl X 5 rfl (bs s.v) _ (by rw [← sc_v s HX8.out]; exact range_bs F0.out.hx 5 8) Try.underlying24 rfl (v_szl _ HX8.out) ?_) | (with_reducible refine wpListIn_store_mid rfl 24 (.tmp 25) (.tmp 24) rfl W.heap.size (kk * 8) (bs s.v).toArray rfl rfl HTH.out (v_sz _ HX8.out) (bs_oneA _) ?_; have F1 := hidd (F0.out.setH kk s.v HST.out.1 (by omega) HX8.out (by omega) (by omega) (by omega) (Nat.le_refl _)); generalize hw4 : w.setCells W.heap.size (kk * 8) (bs s.v) = w4 at F1 ⊢; clear hw4; have cP4' := ((blk F1.out.hx).1 4).trans (show (sc s).toArray[4]? = some (.int .i64 s.k) from rfl); rw [HK1.out] at cP4'; have HTX := hidd (there_sc F1.out.hx HX8.out (y := cut8 (over8 st.1 kk s.v) kk) (cut8_len HH1.out (by omega)))) | (with_reducible refine wpListIn_load_mid rfl 24 (.tmp 28) rfl W.heap.size (kk * 8) rfl (bs (cut8 (over8 st.1 kk s.v) kk)) _ (by rw [← bs_cut8]; exact range_bs F1.out.h0 (kk * 8) 8) Try.underlying24 rfl (v_szl _ (cut8_len HH1.out (by omega))) ?_) | (with_reducible refine wpListIn_store_mid rfl 24 (.tmp 30) (.tmp 29) rfl X 5 (bs (cut8 (over8 st.1 kk s.v) kk)).toArray rfl rfl HTX.out (v_sz _ (cut8_len HH1.out (by omega))) (bs_oneA _) ?_; have F2 := hidd (F1.out.setX (cut8 (over8 st.1 kk s.v) kk) HX8.out (cut8_len HH1.out (by omega)) (by omega) (by omega) (by omega)); generalize hw2 : w4.setCells X 5 (bs (cut8 (over8 st.1 kk s.v) kk)) = w2 at F2 ⊢; clear hw2; have cv := F2.out.bx.cell; have cf := F2.out.bx.frozen) | (with_reducible refine wpListIn_load_row rfl 49 (.tmp 8) rfl X rfl 49 (sc { s with v := cut8 (over8 st.1 kk s.v) kk }).toArray (0, 0) _ F2.out.hx Try.underlying49 rfl (sc_sz _ (cut8_len HH1.out (by omega))) ?_) | (with_reducible refine wpListIn_build rfl 40 1 0 (.tmp 32) rfl (.agg (sc { s with v := cut8 (over8 st.1 kk s.v) kk }).toArray) _ _ rfl (run_build14 _ (cut8_len HH1.out (by omega)) _) ?_) | (gi_at_builtin; refine wpListIn_append_own _ rfl _ _ 40 rfl W0.heap.size 49 i0 _ 14 56 Try.underlying40 hi hz0 hz1 hz2 rfl (by decide) _ _ _ rfl (F2.out.own.alloc _) ⟨w2.heap.size, 0, none⟩ 1 1 (sc { s with v := cut8 (over8 st.1 kk s.v) kk }) rfl (by rw [sc_len (cut8_len HH1.out (by omega))]) (cell_sc _ _) (fun u hu => scs_cell [_] u (by rw [scs_one]; exact hu)) (by unfold maxLen; have := HLN.out; omega) (by have := HLN.out; omega) (by have := F2.out.be.size; simp; omega) ?_; intro v' w5 hown' hgrow _; obtain ⟨g', cap', rfl⟩ := ownsRow_succ hown'; have AP := hidd (F2.out.app (by omega) (by omega) (by have := F2.out.be.size; omega) (by omega) (by omega) (by have := F2.out.be.size; omega) hown' hgrow); clear hown' hgrow; have hc1 := AP.out.1.cell; have hf1 := AP.out.1.frozen))
      have hE : stF st s = ((over8 st.1 kk s.v), st.2 ++ [{ s with v := cut8 (over8 st.1 kk s.v) kk }]) := by
        unfold stF stH
        rw [HK3.out, ← HKK.out]
        rfl
      have hE2 := HSN.out
      rw [hE] at hE2
      have AP2 := AP.out
      rw [hsz] at AP2
      obtain ⟨_, p1, p2, p3, p4, p5, p6⟩ := AP2
      refine ⟨p1, p2, ⟨by rw [hE2]; exact p3, _, p4, ?_⟩, I34.out.1.trans p2, p6⟩
      rw [hE2, List.length_append, ← HLN.out]
      rw [List.length_append] at p5
      exact p5
  case done =>
    rintro D ys w hD rfl ⟨⟨e0, v, e1, e2, _⟩, e3, e4⟩ hK
    have hall : pk l (en l) = l := en_all l
    have hll : (en l).length = m := by rw [en_len, HL.out]
    rw [hall, hll] at e2
    obtain ⟨a', c', rfl, hsl⟩ := own_Sl e2
    have hc := e1.cell
    have hf := e1.frozen
    have HSL := hidd hsl
    have HQ := hidd (And.intro e1 (And.intro e2 (And.intro e3 (And.intro e4 hK))))
    clear e0 e1 e2 e3 e4 hK hI hsl
    gi_wp2
    obtain ⟨e1, e2, e3, e4, hK⟩ := HQ.out
    have hK' := hs_other (v := .slice a' m c') (a := ⟨W.heap.size + 1, 0, none⟩) hK (by simp; omega)
    have b1 := e1.set (.slice a' m c')
    have r1 := e2.kept (grownBy_setCell' w (W.heap.size + 1) (.slice a' m c')) (.inr (e1.not_row (by decide) e2).symm)
    have r2 := ownsRow_putObj r1 (.deferred none) hK' rfl
    refine ⟨by simp, .inl ⟨_, _, rfl, run_takeDeferred hK', ?_⟩⟩
    have b2 := (boxed_own (W.heap.size + 1) 40 (fun _ : Unit => .slice a' m c')).putObj (s := ()) (.deferred none) b1 hK' rfl
    refine ⟨_, results_box Try.results18 _ _ (W.heap.size + 1) (.slice a' m c') a' m c' rfl rfl b2, a', c', rfl, ?_, fun b off e => by have := own_addr r2 b off e; omega, ?_⟩
    · obtain ⟨a2, c2, he, hs2⟩ := own_Sl r2
      injection he with q1 q2 q3
      subst q1
      subst q3
      exact hs2
    · exact (e3.setCell (p := ⟨W.heap.size + 1, 0, none⟩) (by simp) _).trans (belowK_b (w := W0) (by omega) _ D _ _ hD hK' rfl rfl)
  case stop =>
    rintro D c pre w _ _ h _
    exact h.elim
end Go.Proofs.Ytdoicmjomlaoaaa
