import Derived.Test.YtflmeannmfhhhaaU8
namespace Go.Proofs.Ytflmeannmfhhhaa
open Go.RowKit
theorem eq9 (z y : List Int) (hz : z.length = 8) (hy : y.length = 8) (w : World) : (Op.equalIn 9999 22 (.agg #[.int .i64 (z[0]?.getD 0), .int .i64 (z[1]?.getD 0), .int .i64 (z[2]?.getD 0), .int .i64 (z[3]?.getD 0), .int .i64 (z[4]?.getD 0), .int .i64 (z[5]?.getD 0), .int .i64 (z[6]?.getD 0), .int .i64 (z[7]?.getD 0)]) (.agg #[.int .i64 (y[0]?.getD 0), .int .i64 (y[1]?.getD 0), .int .i64 (y[2]?.getD 0), .int .i64 (y[3]?.getD 0), .int .i64 (y[4]?.getD 0), .int .i64 (y[5]?.getD 0), .int .i64 (y[6]?.getD 0), .int .i64 (y[7]?.getD 0)])).run Try.prog w = .ok (z == y) w := by
  have e := run_eqIn_ints w 9997 22 3 8 .i64 Try.underlying22 Try.underlying3 (by kernel_rfl) z y hz hy
  rw [is8 z hz, is8 y hy] at e
  simp only [List.getD_eq_getElem?_getD] at e
  exact e
theorem st_drew {W w : World} {g : Nat} {V U : Int} {z y : List Int} {k : Nat} (h : st W w g V U z y k) : st W w.drew g V U z y k := ⟨h.1, h.2.1, h.2.2.1, h.2.2.2.drew⟩
set_option maxRecDepth 100000 in
set_option maxHeartbeats 8000000 in
theorem back22 (N : Nat) (U : Int) (z y : List Int) (hz : z.length = 8) (hy : y.length = 8) (hc : chE N z = 0) (hd : chE U y = 0) (W : World) :
    Calls Try.prog 7 #[.agg (is .i64 (mpL N z)).toArray, .agg (is .i64 (mpL U y)).toArray] W fun e w' => e = .returned (.bool true) ∧ Below W.heap.size W w' := by
  have HZ := hidd hz
  have HY := hidd hy
  have HC := hidd hc
  have HD := hidd hd
  have HG := hidd (al2 W (.cells (mpA N z) 24) (.cells (mpA U y) 24))
  have HR := hidd (ent_range (chE_V hc).2.2)
  have z48 := zero48
  have z49 := zero49
  clear hz hy hc hd
  go_enter Try.func7, Try.ntmps7
  go_wp2_with (first | (with_reducible refine wpList_load_row rfl 24 (.tmp 2) rfl W.heap.size rfl 24 (mpA N z) (0, 0) _ HG.out.1 Try.underlying24 rfl (mp_sz N z HZ.out) ?_) | (go_at_call 11; with_reducible refine (check_any N z HZ.out _).mono ?_; rintro e w1 ⟨rfl, hb1⟩; rw [HC.out]; have HA := hidd (after2 hb1); have d := cells9 HY.out HA.out.2.1; have c0 := ((blk HA.out.2.1).1 0).trans (show (mpA U y)[0]? = some (.int .i64 U) from rfl); obtain ⟨d1, d2, d3, d4, d5, d6, d7, d8⟩ := d; clear hb1) | (go_at_call 11; with_reducible refine (check9 U y HY.out _).mono ?_; rintro e w2 ⟨rfl, hb2⟩; rw [HD.out]; have HT := hidd (two_below ⟨HA.out.1, HA.out.2.1⟩ hb2); have HB2 := hidd (HA.out.2.2.1.trans (hb2.mono HA.out.2.2.1.size)); have HS2 := hidd (Nat.le_trans HA.out.2.2.2 hb2.size); clear hb2 d1 d2 d3 d4 d5 d6 d7 d8 c0))
  clear z48 z49
  go_loopw [7] (fun i wr => ∃ k : Nat, k ≤ 32 ∧ i = .int .i64 k ∧ st W wr w2.heap.size N U z y k) (fun i _ => 32 - (intOf i).toNat)
  case atStart => exact ⟨0, by omega, rfl, st_start HT.out HB2.out⟩
  case round =>
    obtain ⟨k, hk, rfl, hst⟩ := hrel
    have T := hidd hst
    clear hst
    rcases Nat.lt_or_ge k 32 with hlt | hge
    · obtain ⟨x, hx5, hx⟩ := ent_at HZ.out HR.out (k := k / 4) (by omega)
      have HX := hidd hx
      have HX5 := hidd hx5
      have hc4 := fun (w : World) (h : w.heap[W.heap.size]? = some (.cells (mpA N z) 24 (0, 0))) => ((blk h).1 (1 + k / 4)).trans (cong1 N z (k / 4) HZ.out (by omega))
      have hgd : z.getD (k / 4) 0 = x := by rw [List.getD_eq_getElem?_getD, hx]; rfl
      rw [hgd] at hc4
      have HC4 := hidd hc4
      clear hc4 hgd
      by_cases h0 : x = 0
      · subst h0
        have HP := hidd (place_none HC.out hlt hx)
        clear hx hx5
        go_wp2_with (first | (with_reducible refine wpList_load_row rfl 24 (.tmp 2) rfl W.heap.size rfl 24 (mpA N z) (0, 0) _ T.out.1.1 Try.underlying24 rfl (mp_sz N z HZ.out) ?_) | (go_at_call 10; with_reducible refine (place_any N z k HZ.out _).mono ?_; rintro e w3 ⟨rfl, hb3⟩; rw [HP.out]; have T3 := hidd (st_below T.out hb3); have c4 := HC4.out w3 T3.out.1.1; clear hb3))
        refine ⟨⟨k + 1, by omega, by push_cast; rfl, st_none HX.out T3.out⟩, ?_⟩
        simp [intOf]
        omega
      · obtain ⟨m, hm⟩ : ∃ m, mF z k x = m := ⟨_, rfl⟩
        have hp := place_own HC.out HZ.out hlt hx h0
        rw [hm] at hp
        have HP := hidd hp
        have HM := hidd hm
        have hzz : ∀ i, i < 8 → ∃ x : Nat, z[i]? = some (x : Int) := fun i hi => by obtain ⟨x, _, h⟩ := ent_at HZ.out HR.out hi; exact ⟨x, h⟩
        have hm32 : m < 32 := by have := mF_le z x hzz k (by omega); omega
        have H0 := hidd h0
        have HM32 := hidd hm32
        have i0 : ¬ (x : Int) = 0 := by omega
        have i1 : ((x : Int) == 0) = false := by simp; omega
        have i2 : (x : Int) < 5 := by omega
        have i3 : (m : Int) < 32 := by omega
        have i4 : (0 : Int) ≤ m := by omega
        have i5 : (0 : Int) ≤ x := by omega
        clear hx hx5 hp hm hzz h0
        go_wp2_with (first | (with_reducible refine wpList_load_row rfl 24 (.tmp 2) rfl W.heap.size rfl 24 (mpA N z) (0, 0) _ T.out.1.1 Try.underlying24 rfl (mp_sz N z HZ.out) ?_) | (go_at_call 10; with_reducible refine (place_any N z k HZ.out _).mono ?_; rintro e w3 ⟨rfl, hb3⟩; rw [HP.out.1]; have T3 := hidd (st_below T.out hb3); have c4 := HC4.out w3 T3.out.1.1; have sc := st_cells HX5.out HM.out HM32.out T3.out; obtain ⟨s1, s2, s3, s4⟩ := sc; have T4 := hidd (st_step2 HX5.out H0.out HX.out HM.out HM32.out HS2.out T3.out); clear hb3) | (with_reducible refine wpList_load_row rfl 24 (.tmp 2) rfl W.heap.size rfl 24 (mpA N z) (0, 0) _ T4.out.1.1 Try.underlying24 rfl (mp_sz N z HZ.out) ?_) | (go_at_call 19; refine (block_any N z x m HZ.out _).mono ?_; rintro e w5 ⟨rfl, hb5⟩; rw [HP.out.2]; have T5 := hidd (st_below T4.out hb5); clear hb5))
        refine ⟨⟨k + 1, by omega, by push_cast; rfl, T5.out⟩, ?_⟩
        simp [intOf]
        omega
    · have hk32 : k = 32 := by omega
      subst hk32
      clear hge
      go_wp2
      go_loopw [13] (fun i wr => ∃ s : Nat, 1 ≤ s ∧ s ≤ 5 ∧ i = .int .i64 s ∧ st W wr w2.heap.size N U z y 32) (fun i _ => 5 - (intOf i).toNat)
      case atStart => exact ⟨1, by omega, by omega, rfl, T.out⟩
      case round =>
        clear T
        obtain ⟨s, hs1, hs5, rfl, hst⟩ := hrel
        have T := hidd hst
        clear hst
        rcases Nat.lt_or_ge s 5 with hlt | hge
        · go_wp2
          go_loopw [14] (fun i wr => ∃ k : Nat, k ≤ 32 ∧ i = .int .i64 k ∧ st W wr w2.heap.size N U z y 32) (fun i _ => 32 - (intOf i).toNat)
          case atStart => exact ⟨0, by omega, rfl, T.out⟩
          case round =>
            clear T
            obtain ⟨k, hk, rfl, hst⟩ := hrel
            have T := hidd hst
            clear hst
            rcases Nat.lt_or_ge k 32 with hklt | hkge
            · obtain ⟨m, hm⟩ : ∃ m, mF z 32 s = m := ⟨_, rfl⟩
              have c1 := ((blk T.out.2.1).1 (s * 32 + k)).trans (seen_at z 32 s k hlt hklt)
              have c2 := ((blk T.out.2.2.1).1 s).trans (many_at z 32 s hlt)
              rw [hm] at c1 c2
              have i1 : (0 : Int) ≤ s := by omega
              have i2 : (s : Int) < 5 := by omega
              have i3 : (0 : Int) ≤ k := by omega
              have i4 : (k : Int) < 32 := by omega
              clear hm
              go_wp2
              go_region
              go_wp2
              refine ⟨⟨k + 1, by omega, by push_cast; rfl, st_drew T.out⟩, ?_⟩
              simp [intOf]
              omega
            · have hk32 : k = 32 := by omega
              subst hk32
              go_wp2
              refine ⟨⟨s + 1, by omega, by omega, by push_cast; rfl, T.out⟩, ?_⟩
              simp [intOf]
              omega
        · have hs5' : s = 5 := by omega
          subst hs5'
          clear hge
          go_wp2_with (first | (with_reducible refine wpList_load_row rfl 24 (.tmp 2) rfl W.heap.size rfl 24 (mpA N z) (0, 0) _ T.out.1.1 Try.underlying24 rfl (mp_sz N z HZ.out) ?_) | (go_at_call 20; refine (bytes_yes N z HZ.out HC.out _).mono ?_; rintro e w3 ⟨a3, c3, rfl, hbs, hb3⟩; have HBS := hidd hbs; have T3 := hidd (st_below T.out hb3); clear hbs hb3) | (go_at_call 21; refine (read_yes N z HZ.out HC.out a3 c3 _ HBS.out).mono ?_; rintro e w4 ⟨rfl, hb4⟩; have T4 := hidd (st_below T3.out hb4); clear hb4) | (with_reducible refine wpList_store_row rfl 24 (.tmp 17) (.tmp 131) rfl w4.heap.size (mpA N z) rfl rfl 24 mp0 (heap_alloc_last w4 (.cells mp0 24)) (mp_sz N z HZ.out) (mp0_szz _ _ HZ.out) (is_one _ _) ?_; have R := hidd (rnd2 (A := mpA N z) T4.out.1.1 T4.out.1.2 T4.out.2.2.2); generalize (w4.alloc (Obj.cells mp0 24)).setRow w4.heap.size (mpA N z) = w6 at R ⊢; have d0 := ((blk R.out.1).1 0).trans (show (mpA N z)[0]? = some (.int .i64 N) from rfl); have f0 := ((blk R.out.2.2.2).1 0).trans (show (mpA N z)[0]? = some (.int .i64 N) from rfl); have d := cells9 HZ.out R.out.1; have f := cells9 HZ.out R.out.2.2.2; obtain ⟨d1, d2, d3, d4, d5, d6, d7, d8⟩ := d; obtain ⟨f1, f2, f3, f4, f5, f6, f7, f8⟩ := f; have hq9 := eq9 z z HZ.out HZ.out; rw [beq_self_eq_true] at hq9) | (with_reducible refine wpList_load_row rfl 24 (.tmp 2) rfl W.heap.size rfl 24 (mpA N z) (0, 0) _ R.out.1 Try.underlying24 rfl (mp_sz N z HZ.out) ?_) | (with_reducible refine wpList_load_row rfl 24 (.tmp 3) rfl (W.heap.size + 1) rfl 24 (mpA U y) (0, 0) _ R.out.2.1 Try.underlying24 rfl (mp_sz U y HY.out) ?_))
          clear d0 d1 d2 d3 d4 d5 d6 d7 d8 f0 f1 f2 f3 f4 f5 f6 f7 f8 hq9
          refine (diff_any N U z y HZ.out HY.out HC.out HD.out w6).mono ?_
          rintro e w8 ⟨hcase, hb8⟩
          have TW := hidd (two_below ⟨R.out.1, R.out.2.1⟩ hb8)
          have B8 := hidd (R.out.2.2.1.trans (hb8.mono R.out.2.2.1.size))
          clear hb8
          rcases hcase with ⟨hbad, rfl⟩ | ⟨hno, a, c, rfl, hsl⟩
          · have HBAD := hidd (anyB_yes hbad)
            clear hbad
            go_wp2_with fail
            go_loopw [21, 22, 23] (fun o b i wr => ∃ k : Nat, k ≤ 8 ∧ o = .int .i64 ((df z y k).length : Int) ∧ b = .bool (anyB z y k) ∧ i = .int .i64 k ∧ Below w8.heap.size w8 wr) (fun _ _ i _ => 8 - (intOf i).toNat)
            case atStart => exact ⟨0, by omega, rfl, rfl, rfl, Below.refl _ _⟩
            case round =>
              obtain ⟨k, hk, rfl, rfl, rfl, hbel⟩ := hrel
              have HW := hidd hbel
              have HL := hidd (df_le z y k)
              clear hbel
              rcases Nat.lt_or_ge k 8 with hlt | hge
              · have tw := two_below TW.out HW.out
                have c1 := ((blk tw.1).1 (1 + k)).trans (cong1 N z k HZ.out hlt)
                have c2 := ((blk tw.2).1 (1 + k)).trans (cong1 U y k HY.out hlt)
                obtain ⟨x, hx⟩ : ∃ x, x = z.getD k 0 := ⟨_, rfl⟩
                obtain ⟨t, ht⟩ : ∃ t, t = y.getD k 0 := ⟨_, rfl⟩
                obtain ⟨q, hq⟩ : ∃ q, q = (df z y k).length := ⟨_, rfl⟩
                obtain ⟨b, hb⟩ : ∃ b, b = anyB z y k := ⟨_, rfl⟩
                rw [← hx] at c1
                rw [← ht] at c2
                rw [← hq, ← hb]
                have hq8 : q ≤ 8 := by rw [hq]; have := HL.out; omega
                have HX := hidd hx
                have HT2 := hidd ht
                have HQ := hidd hq
                have HBB := hidd hb
                have i1 : (k : Int) < 8 := by omega
                have i2 : (0 : Int) ≤ k := by omega
                clear tw hx ht hq hb
                by_cases h1 : x = t
                · have HF := hidd (show z.getD k 0 = y.getD k 0 by rw [← HX.out, ← HT2.out, h1])
                  have HBD := hidd (show badI z y k = false by unfold badI; rw [HF.out]; simp)
                  subst h1
                  go_wp2
                  go_region
                  go_wp2
                  refine ⟨⟨k + 1, by omega, by rw [df_eq HF.out, HQ.out], by rw [anyB_step, HBD.out, Bool.or_false, HBB.out], by push_cast; rfl, HW.out.drew⟩, ?_⟩
                  simp [intOf]
                  omega
                · have HF := hidd (show z.getD k 0 ≠ y.getD k 0 by rw [← HX.out, ← HT2.out]; exact h1)
                  have h1b : (x == t) = false := by simpa using h1
                  have h1c : (x != t) = true := by simpa using h1
                  have HBD := hidd (show badI z y k = (t == 0) by unfold badI; rw [← HX.out, ← HT2.out, h1c, Bool.true_and])
                  clear h1
                  cases b
                  · go_wp2
                    go_region
                    go_wp2
                    refine ⟨⟨k + 1, by omega, by rw [df_ne HF.out, List.length_append, HQ.out]; rfl, by rw [anyB_step, HBD.out, ← HBB.out, Bool.false_or], by push_cast; rfl, HW.out.drew⟩, ?_⟩
                    simp [intOf]
                    omega
                  · go_wp2
                    go_region
                    go_wp2
                    refine ⟨⟨k + 1, by omega, by rw [df_ne HF.out, List.length_append, HQ.out]; rfl, by rw [anyB_step, ← HBB.out, Bool.true_or], by push_cast; rfl, HW.out.drew⟩, ?_⟩
                    simp [intOf]
                    omega
              · have hk8 : k = 8 := by omega
                subst hk8
                rw [HBAD.out]
                clear hge
                go_wp2_with (go_at_call 9; refine (wakes22 _).mono ?_; rintro e w9 ⟨rfl, hb9⟩; have HB9 := hidd hb9; clear hb9)
                go_ret
                have hB := B8.out.trans (HW.out.mono B8.out.size)
                exact ⟨rfl, hB.trans (HB9.out.mono hB.size)⟩
          · have HNO := hidd hno
            have HSL := hidd hsl
            clear hno hsl
            go_wp2_with fail
            go_loopw [21, 22, 23] (fun o b i wr => ∃ k : Nat, k ≤ 8 ∧ o = .int .i64 ((df z y k).length : Int) ∧ b = .bool (anyB z y k) ∧ i = .int .i64 k ∧ Below w8.heap.size w8 wr) (fun _ _ i _ => 8 - (intOf i).toNat)
            case atStart => exact ⟨0, by omega, rfl, rfl, rfl, Below.refl _ _⟩
            case round =>
              obtain ⟨k, hk, rfl, rfl, rfl, hbel⟩ := hrel
              have HW := hidd hbel
              have HL := hidd (df_le z y k)
              clear hbel
              rcases Nat.lt_or_ge k 8 with hlt | hge
              · have tw := two_below TW.out HW.out
                have c1 := ((blk tw.1).1 (1 + k)).trans (cong1 N z k HZ.out hlt)
                have c2 := ((blk tw.2).1 (1 + k)).trans (cong1 U y k HY.out hlt)
                obtain ⟨x, hx⟩ : ∃ x, x = z.getD k 0 := ⟨_, rfl⟩
                obtain ⟨t, ht⟩ : ∃ t, t = y.getD k 0 := ⟨_, rfl⟩
                obtain ⟨q, hq⟩ : ∃ q, q = (df z y k).length := ⟨_, rfl⟩
                obtain ⟨b, hb⟩ : ∃ b, b = anyB z y k := ⟨_, rfl⟩
                rw [← hx] at c1
                rw [← ht] at c2
                rw [← hq, ← hb]
                have hq8 : q ≤ 8 := by rw [hq]; have := HL.out; omega
                have HX := hidd hx
                have HT2 := hidd ht
                have HQ := hidd hq
                have HBB := hidd hb
                have i1 : (k : Int) < 8 := by omega
                have i2 : (0 : Int) ≤ k := by omega
                clear tw hx ht hq hb
                by_cases h1 : x = t
                · have HF := hidd (show z.getD k 0 = y.getD k 0 by rw [← HX.out, ← HT2.out, h1])
                  have HBD := hidd (show badI z y k = false by unfold badI; rw [HF.out]; simp)
                  subst h1
                  go_wp2
                  go_region
                  go_wp2
                  refine ⟨⟨k + 1, by omega, by rw [df_eq HF.out, HQ.out], by rw [anyB_step, HBD.out, Bool.or_false, HBB.out], by push_cast; rfl, HW.out.drew⟩, ?_⟩
                  simp [intOf]
                  omega
                · have HF := hidd (show z.getD k 0 ≠ y.getD k 0 by rw [← HX.out, ← HT2.out]; exact h1)
                  have h1b : (x == t) = false := by simpa using h1
                  have h1c : (x != t) = true := by simpa using h1
                  have HBD := hidd (show badI z y k = (t == 0) by unfold badI; rw [← HX.out, ← HT2.out, h1c, Bool.true_and])
                  clear h1
                  cases b
                  · go_wp2
                    go_region
                    go_wp2
                    refine ⟨⟨k + 1, by omega, by rw [df_ne HF.out, List.length_append, HQ.out]; rfl, by rw [anyB_step, HBD.out, ← HBB.out, Bool.false_or], by push_cast; rfl, HW.out.drew⟩, ?_⟩
                    simp [intOf]
                    omega
                  · go_wp2
                    go_region
                    go_wp2
                    refine ⟨⟨k + 1, by omega, by rw [df_ne HF.out, List.length_append, HQ.out]; rfl, by rw [anyB_step, ← HBB.out, Bool.true_or], by push_cast; rfl, HW.out.drew⟩, ?_⟩
                    simp [intOf]
                    omega
              · have hk8 : k = 8 := by omega
                subst hk8
                rw [anyB_no HNO.out]
                clear hge
                obtain ⟨n, hn⟩ : ∃ n, n = (df z y 8).length := ⟨_, rfl⟩
                rw [← hn]
                have hs2 := HSL.out.grow HW.out
                rw [← hn] at hs2
                have hn8 : n ≤ 8 := by rw [hn]; exact df_le z y 8
                have HN2 := hidd hn
                have HS3 := hidd hs2
                have TR := hidd (two_below TW.out HW.out)
                have BR := hidd (B8.out.trans (HW.out.mono B8.out.size))
                clear hn hs2
                go_wp2_with (first | (with_reducible refine wpList_load_row rfl 24 (.tmp 2) rfl W.heap.size rfl 24 (mpA N z) (0, 0) _ TR.out.1 Try.underlying24 rfl (mp_sz N z HZ.out) ?_) | fail)
                refine (all_any N z y HZ.out HY.out HC.out (chE_V HD.out).2.2 HNO.out a n c wr HN2.out HS3.out).mono ?_
                rintro e w10 ⟨hcase, hb10⟩
                have T10 := hidd (two_below TR.out hb10)
                have B10 := hidd (BR.out.trans (hb10.mono BR.out.size))
                clear hb10
                rcases hcase with ⟨hfull, U', z', k, hz', rfl⟩ | rfl
                · have HZ2 := hidd hz'
                  have h44 : (1099511627768 : Int) < (N : Int) := hfull
                  clear hz' hfull
                  go_wp2_with (first | (with_reducible refine wpList_store_row rfl 24 (.tmp 24) (.tmp 183) rfl w10.heap.size (mpA U' z') rfl rfl 24 mp0 (heap_alloc_last w10 (.cells mp0 24)) (mp_sz U' z' HZ2.out) (mp0_szz _ _ HZ2.out) (is_one _ _) ?_; have R2 := hidd (rnd2 (A := mpA U' z') T10.out.1 T10.out.2 B10.out); generalize (w10.alloc (Obj.cells mp0 24)).setRow w10.heap.size (mpA U' z') = w11 at R2 ⊢; have a0 := ((blk R2.out.1).1 0).trans (show (mpA N z)[0]? = some (.int .i64 N) from rfl)) | (go_at_call 9; refine (wakes22 _).mono ?_; rintro e w9 ⟨rfl, hb9⟩; have HB9 := hidd hb9; clear hb9))
                  go_ret
                  exact ⟨rfl, R2.out.2.2.1.trans (HB9.out.mono R2.out.2.2.1.size)⟩
                · obtain ⟨M, hM⟩ : ∃ M, M = (N : Int) + (n : Int) := ⟨_, rfl⟩
                  rw [← hM]
                  have hw : wrap64 ((N : Int) + (n : Int)) = M := by rw [hM]; exact w64 _ (by have := (chE_V HC.out).2.1; omega)
                  clear hM
                  go_wp2_with (first | (with_reducible refine wpList_store_row rfl 24 (.tmp 24) (.tmp 183) rfl w10.heap.size (mpA M y) rfl rfl 24 mp0 (heap_alloc_last w10 (.cells mp0 24)) (mp_sz M y HY.out) (mp0_szz _ _ HY.out) (is_one _ _) ?_; have R2 := hidd (rnd2 (A := mpA M y) T10.out.1 T10.out.2 B10.out); generalize (w10.alloc (Obj.cells mp0 24)).setRow w10.heap.size (mpA M y) = w11 at R2 ⊢; have a0 := ((blk R2.out.1).1 0).trans (show (mpA N z)[0]? = some (.int .i64 N) from rfl); have b0 := ((blk R2.out.2.2.2).1 0).trans (show (mpA M y)[0]? = some (.int .i64 M) from rfl); have d := cells9 HY.out R2.out.2.1; have f := cells9 HY.out R2.out.2.2.2; obtain ⟨d1, d2, d3, d4, d5, d6, d7, d8⟩ := d; obtain ⟨f1, f2, f3, f4, f5, f6, f7, f8⟩ := f; have hq8 := eq8 y y HY.out HY.out; rw [beq_self_eq_true] at hq8) | (go_at_call 9; refine (wakes22 _).mono ?_; rintro e w9 ⟨rfl, hb9⟩; have HB9 := hidd hb9; clear hb9))
                  go_ret
                  exact ⟨rfl, R2.out.2.2.1.trans (HB9.out.mono R2.out.2.2.1.size)⟩
end Go.Proofs.Ytflmeannmfhhhaa
