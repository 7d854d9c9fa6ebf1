import Derived.Test.YtfmadgaknaflfaaA4
namespace Go.Proofs.Ytfmadgaknaflfaa
open Go.RowKit
theorem blkf {w : World} {g : Nat} {cs : Array Value} {t : TypeId} (hg : w.heap[g]? = some (.cells cs t (0, 0))) (w' : World) (hb : Below w.heap.size w w') : w'.heap[g]? = some (.cells cs t (0, 0)) :=
  blk_below hb hg (Array.getElem?_eq_some_iff.1 hg).1
theorem mayB_mk {n b : Int} (h1 : 1 ≤ n) (h2 : n ≤ b) (h3 : b ≤ 1048577) : mayB n b = true := by simp [mayB, h1, h2, h3]
def OnceRel (w : World) (g n : Nat) (e kept last i : Value) (wr : World) : Prop :=
  ∃ k : Nat, ∃ sn sb lst : Int, k ≤ n ∧ i = .int .i64 k ∧ e = .int .i64 0 ∧ kept = .int .i64 sb ∧ last = .int .i64 lst ∧ 0 ≤ lst ∧ lst < sn ∧ 1 ≤ sn ∧ sn ≤ sb ∧ sb ≤ 1048577 ∧ wr.heap[g]? = some (.cells #[.int .i64 sn, .int .i64 sb] 23 (0, 0)) ∧ Below w.heap.size w wr
set_option maxRecDepth 100000 in
set_option maxHeartbeats 4000000 in
theorem once_walk (bound : Int) (a : Option Addr) (n c : Nat) (w : World) (hn : n ≤ 200) (hm : mayB bound bound = true)
    (hcell : ∀ i, i < n → ∃ b off, ∃ x : Bool, a = some ⟨b, off, none⟩ ∧ w.cell? ⟨b, off + i, none⟩ = some (.bool x)) :
    Calls Try.prog 5 #[.int .i64 bound, .slice a n c] w fun e w' => e = .returned (.bool true) ∧ Below w.heap.size w w' := by
  have HM := hidd hm
  have HC := hidd hcell
  have hq : 1 ≤ bound ∧ bound ≤ 1048577 := by simp [mayB] at hm; omega
  obtain ⟨q1, q2⟩ := hq
  clear hm hcell
  go_enter Try.func5, Try.ntmps5
  go_wp2_with (go_at_call 15; refine (new_yes bound _ HM.out).mono ?_; rintro e w1 ⟨rfl, hb1⟩; have HB1 := hidd hb1; clear hb1)
  have hs1 := HB1.out.size
  go_loopw [6, 7, 8, 9] (OnceRel w w1.heap.size n) (fun _ _ _ i _ => n - (intOf i).toNat)
  case atStart => exact ⟨0, bound, bound, 0, by omega, rfl, rfl, rfl, rfl, by omega, by omega, by omega, by omega, by omega, heap_alloc_new w1 _, HB1.out.alloc HB1.out.size _⟩
  case round =>
    obtain ⟨k, sn, sb, lst, hk, rfl, rfl, rfl, rfl, h0, h1, h2, h3, h4, hg, hb⟩ := hrel
    obtain ⟨kg, fg⟩ := blk hg
    have HG := hidd hg
    have HB := hidd hb
    have hsz := hb.size
    have hgl : w1.heap.size < wr.heap.size := (Array.getElem?_eq_some_iff.1 hg).1
    clear hg hb
    by_cases hlt : k < n
    · obtain ⟨b, off, x, rfl, hcx⟩ := HC.out k hlt
      have hcw : wr.cell? ⟨b, off + k, none⟩ = some (.bool x) := (HB.out.cell (p := ⟨b, off + k, none⟩) (block_lt_of_cell hcx)).trans hcx
      clear hcx
      cases x
      · by_cases c1 : sn = 1048577
        · subst c1
          obtain rfl : sb = 1048577 := by omega
          have HL := hidd (show (if mayB 1048577 1048577 = true then 1048577 - (1048577 : Int) else 0) = 0 by simp)
          go_wp2_with (first | (go_at_call 6; refine (next_last 1048577 _ (mayB_mk (by omega) (by omega) (by omega))).mono ?_; rintro e w2 ⟨rfl, hb2⟩; have hg2 := blkf HG.out w2 hb2; obtain ⟨kg2, fg2⟩ := blk hg2; have HG2 := hidd hg2; have HB2 := hidd (HB.out.trans (hb2.mono HB.out.size)); have hl2 := Nat.lt_of_lt_of_le hgl hb2.size; have hz2 := HB2.out.size; clear hb2 hg2 kg fg hcw) | (go_at_call 8; refine (left_any 1048577 1048577 _).mono ?_; rintro e w3 ⟨rfl, hb3⟩; rw [HL.out]; have HB3 := hidd ((HB2.out.alloc hz2 _).trans (hb3.mono (by simp; omega))); clear hb3) | (go_at_call 7; refine (wakes_any _).mono ?_; rintro e w4 ⟨rfl, hb4⟩; have HB4 := hidd (HB3.out.trans (hb4.mono HB3.out.size)); clear hb4))
          go_ret
          exact ⟨rfl, HB4.out⟩
        · by_cases c2 : sn = sb
          · subst c2
            rcases Int.lt_trichotomy (sn + 16) 1048577 with c3 | c3 | c3
            · skip
              go_wp2_with fail
              refine (next_bound sn _ c1 (mayB_mk (by omega) (by omega) (by omega))).mono ?_
              rintro e w2 ⟨rfl, hb2⟩
              have hg2 := blkf HG.out w2 hb2
              obtain ⟨kg2, fg2⟩ := blk hg2
              have HG2 := hidd hg2
              have HB2 := hidd (HB.out.trans (hb2.mono HB.out.size))
              have hl2 := Nat.lt_of_lt_of_le hgl hb2.size
              have hz2 := HB2.out.size
              clear hb2 hg2 kg fg hcw
              go_wp2_with fail
              refine (kept_yes sn sn (sn + 16) _ (mayB_mk (by omega) (by omega) (by omega)) (by rw [if_pos (by omega)])).mono ?_
              rintro e w3 ⟨rfl, hb3⟩
              have hg3 := blkf ((heap_alloc_old w2 _ hl2).trans HG2.out) w3 hb3
              have ht3 := blkf (heap_alloc_new w2 _) w3 hb3
              obtain ⟨kg3, fg3⟩ := blk hg3
              obtain ⟨kt3, ft3⟩ := blk ht3
              have HG3 := hidd hg3
              have HT3 := hidd ht3
              have HB3 := hidd ((HB2.out.alloc hz2 _).trans (hb3.mono (by simp; omega)))
              have hne : w1.heap.size ≠ w2.heap.size := by omega
              have hz3 := HB3.out.size
              have hw2 : w2.heap.size < w3.heap.size := by have := hb3.size; simp at this; omega
              have hl3 := Nat.lt_trans hl2 hw2
              clear hb3 hg3 ht3 kg2 fg2
              go_wp2_with fail
              obtain ⟨W4, hW4⟩ : ∃ W4, W4 = (w3.setCell ⟨w2.heap.size, 0, none⟩ (.int .i64 sn)).setCell ⟨w2.heap.size, 1, none⟩ (.int .i64 (sn + 16)) := ⟨_, rfl⟩
              have gg4 : W4.heap[w1.heap.size]? = some (.cells #[.int .i64 sn, .int .i64 sn] 23 (0, 0)) := by rw [hW4]; exact hs_other (hs_other HG3.out hne) hne
              have gt4 : W4.heap[w2.heap.size]? = some (.cells #[.int .i64 sn, .int .i64 (sn + 16)] 23 (0, 0)) := by rw [hW4]; exact hs_same (hs_same HT3.out)
              have HB4 := hidd (show Below w.heap.size w W4 by rw [hW4]; exact (HB3.out.setCell hz2 _).setCell hz2 _)
              have GG4 := hidd gg4
              have GT4 := hidd gt4
              rw [← hW4]
              clear kg3 fg3 kt3 ft3 hW4 gg4 gt4
              refine (next_one sn (sn + 16) _ c1 (by omega) (mayB_mk (by omega) (by omega) (by omega))).mono ?_
              rintro e w5 ⟨rfl, hb5⟩
              have hg5 := blkf GG4.out w5 hb5
              have ht5 := blkf GT4.out w5 hb5
              obtain ⟨kg5, fg5⟩ := blk hg5
              obtain ⟨kt5, ft5⟩ := blk ht5
              have HG5 := hidd hg5
              have HT5 := hidd ht5
              have HB5 := hidd (HB4.out.trans (hb5.mono HB4.out.size))
              clear hb5 hg5 ht5
              go_wp2_with fail
              obtain ⟨W6, hW6⟩ : ∃ W6, W6 = (w5.setCell ⟨w2.heap.size, 0, none⟩ (.int .i64 (sn + 1))).setCell ⟨w2.heap.size, 1, none⟩ (.int .i64 (sn + 16)) := ⟨_, rfl⟩
              have gg6 : W6.heap[w1.heap.size]? = some (.cells #[.int .i64 sn, .int .i64 sn] 23 (0, 0)) := by rw [hW6]; exact hs_other (hs_other HG5.out hne) hne
              have gt6 : W6.heap[w2.heap.size]? = some (.cells #[.int .i64 (sn + 1), .int .i64 (sn + 16)] 23 (0, 0)) := by rw [hW6]; exact hs_same (hs_same HT5.out)
              have HB6 := hidd (show Below w.heap.size w W6 by rw [hW6]; exact (HB5.out.setCell hz2 _).setCell hz2 _)
              have GG6 := hidd gg6
              have GT6 := hidd gt6
              rw [← hW6]
              clear kg5 fg5 kt5 ft5 hW6 gg6 gt6
              refine (may_any _ _ _).mono ?_
              rintro e w7 ⟨rfl, hb7⟩
              rw [mayB_mk (by omega) (by omega) (by omega)]
              have hg7 := blkf GG6.out w7 hb7
              obtain ⟨kg7, fg7⟩ := blk hg7
              obtain ⟨kt7, ft7⟩ := blk (blkf GT6.out w7 hb7)
              have HG7 := hidd hg7
              have HB7 := hidd (HB6.out.trans (hb7.mono HB6.out.size))
              clear hb7 hg7
              go_wp2_with fail
              go_roundw
              case rel => exact ⟨k + 1, sn + 1, sn + 16, sn, by omega, by go_num, rfl, rfl, rfl, by omega, by omega, by omega, by omega, by omega, hs_same (hs_same HG7.out), (HB7.out.setCell hs1 _).setCell hs1 _⟩
              case measure => simp [intOf]; omega
            · obtain rfl : sn = 1048561 := by omega
              go_wp2_with fail
              refine (next_bound 1048561 _ c1 (mayB_mk (by omega) (by omega) (by omega))).mono ?_
              rintro e w2 ⟨rfl, hb2⟩
              have hg2 := blkf HG.out w2 hb2
              obtain ⟨kg2, fg2⟩ := blk hg2
              have HG2 := hidd hg2
              have HB2 := hidd (HB.out.trans (hb2.mono HB.out.size))
              have hl2 := Nat.lt_of_lt_of_le hgl hb2.size
              have hz2 := HB2.out.size
              clear hb2 hg2 kg fg hcw
              go_wp2_with fail
              refine (kept_yes 1048561 1048561 (1048577) _ (mayB_mk (by omega) (by omega) (by omega)) (by decide)).mono ?_
              rintro e w3 ⟨rfl, hb3⟩
              have hg3 := blkf ((heap_alloc_old w2 _ hl2).trans HG2.out) w3 hb3
              have ht3 := blkf (heap_alloc_new w2 _) w3 hb3
              obtain ⟨kg3, fg3⟩ := blk hg3
              obtain ⟨kt3, ft3⟩ := blk ht3
              have HG3 := hidd hg3
              have HT3 := hidd ht3
              have HB3 := hidd ((HB2.out.alloc hz2 _).trans (hb3.mono (by simp; omega)))
              have hne : w1.heap.size ≠ w2.heap.size := by omega
              have hz3 := HB3.out.size
              have hw2 : w2.heap.size < w3.heap.size := by have := hb3.size; simp at this; omega
              have hl3 := Nat.lt_trans hl2 hw2
              clear hb3 hg3 ht3 kg2 fg2
              go_wp2_with fail
              obtain ⟨W4, hW4⟩ : ∃ W4, W4 = (w3.setCell ⟨w2.heap.size, 0, none⟩ (.int .i64 1048561)).setCell ⟨w2.heap.size, 1, none⟩ (.int .i64 (1048577)) := ⟨_, rfl⟩
              have gg4 : W4.heap[w1.heap.size]? = some (.cells #[.int .i64 1048561, .int .i64 1048561] 23 (0, 0)) := by rw [hW4]; exact hs_other (hs_other HG3.out hne) hne
              have gt4 : W4.heap[w2.heap.size]? = some (.cells #[.int .i64 1048561, .int .i64 (1048577)] 23 (0, 0)) := by rw [hW4]; exact hs_same (hs_same HT3.out)
              have HB4 := hidd (show Below w.heap.size w W4 by rw [hW4]; exact (HB3.out.setCell hz2 _).setCell hz2 _)
              have GG4 := hidd gg4
              have GT4 := hidd gt4
              rw [← hW4]
              clear kg3 fg3 kt3 ft3 hW4 gg4 gt4
              refine (next_one 1048561 (1048577) _ c1 (by omega) (mayB_mk (by omega) (by omega) (by omega))).mono ?_
              rintro e w5 ⟨rfl, hb5⟩
              have hg5 := blkf GG4.out w5 hb5
              have ht5 := blkf GT4.out w5 hb5
              obtain ⟨kg5, fg5⟩ := blk hg5
              obtain ⟨kt5, ft5⟩ := blk ht5
              have HG5 := hidd hg5
              have HT5 := hidd ht5
              have HB5 := hidd (HB4.out.trans (hb5.mono HB4.out.size))
              clear hb5 hg5 ht5
              go_wp2_with fail
              obtain ⟨W6, hW6⟩ : ∃ W6, W6 = (w5.setCell ⟨w2.heap.size, 0, none⟩ (.int .i64 1048562)).setCell ⟨w2.heap.size, 1, none⟩ (.int .i64 (1048577)) := ⟨_, rfl⟩
              have gg6 : W6.heap[w1.heap.size]? = some (.cells #[.int .i64 1048561, .int .i64 1048561] 23 (0, 0)) := by rw [hW6]; exact hs_other (hs_other HG5.out hne) hne
              have gt6 : W6.heap[w2.heap.size]? = some (.cells #[.int .i64 1048562, .int .i64 (1048577)] 23 (0, 0)) := by rw [hW6]; exact hs_same (hs_same HT5.out)
              have HB6 := hidd (show Below w.heap.size w W6 by rw [hW6]; exact (HB5.out.setCell hz2 _).setCell hz2 _)
              have GG6 := hidd gg6
              have GT6 := hidd gt6
              rw [← hW6]
              clear kg5 fg5 kt5 ft5 hW6 gg6 gt6
              refine (may_any _ _ _).mono ?_
              rintro e w7 ⟨rfl, hb7⟩
              rw [mayB_mk (by omega) (by omega) (by omega)]
              have hg7 := blkf GG6.out w7 hb7
              obtain ⟨kg7, fg7⟩ := blk hg7
              obtain ⟨kt7, ft7⟩ := blk (blkf GT6.out w7 hb7)
              have HG7 := hidd hg7
              have HB7 := hidd (HB6.out.trans (hb7.mono HB6.out.size))
              clear hb7 hg7
              go_wp2_with fail
              go_roundw
              case rel => exact ⟨k + 1, 1048562, 1048577, 1048561, by omega, by go_num, rfl, rfl, rfl, by omega, by omega, by omega, by omega, by omega, hs_same (hs_same HG7.out), (HB7.out.setCell hs1 _).setCell hs1 _⟩
              case measure => simp [intOf]; omega
            · skip
              go_wp2_with fail
              refine (next_bound sn _ c1 (mayB_mk (by omega) (by omega) (by omega))).mono ?_
              rintro e w2 ⟨rfl, hb2⟩
              have hg2 := blkf HG.out w2 hb2
              obtain ⟨kg2, fg2⟩ := blk hg2
              have HG2 := hidd hg2
              have HB2 := hidd (HB.out.trans (hb2.mono HB.out.size))
              have hl2 := Nat.lt_of_lt_of_le hgl hb2.size
              have hz2 := HB2.out.size
              clear hb2 hg2 kg fg hcw
              go_wp2_with fail
              refine (kept_yes sn sn (1048577) _ (mayB_mk (by omega) (by omega) (by omega)) (by rw [if_neg (by omega)])).mono ?_
              rintro e w3 ⟨rfl, hb3⟩
              have hg3 := blkf ((heap_alloc_old w2 _ hl2).trans HG2.out) w3 hb3
              have ht3 := blkf (heap_alloc_new w2 _) w3 hb3
              obtain ⟨kg3, fg3⟩ := blk hg3
              obtain ⟨kt3, ft3⟩ := blk ht3
              have HG3 := hidd hg3
              have HT3 := hidd ht3
              have HB3 := hidd ((HB2.out.alloc hz2 _).trans (hb3.mono (by simp; omega)))
              have hne : w1.heap.size ≠ w2.heap.size := by omega
              have hz3 := HB3.out.size
              have hw2 : w2.heap.size < w3.heap.size := by have := hb3.size; simp at this; omega
              have hl3 := Nat.lt_trans hl2 hw2
              clear hb3 hg3 ht3 kg2 fg2
              go_wp2_with fail
              obtain ⟨W4, hW4⟩ : ∃ W4, W4 = (w3.setCell ⟨w2.heap.size, 0, none⟩ (.int .i64 sn)).setCell ⟨w2.heap.size, 1, none⟩ (.int .i64 (1048577)) := ⟨_, rfl⟩
              have gg4 : W4.heap[w1.heap.size]? = some (.cells #[.int .i64 sn, .int .i64 sn] 23 (0, 0)) := by rw [hW4]; exact hs_other (hs_other HG3.out hne) hne
              have gt4 : W4.heap[w2.heap.size]? = some (.cells #[.int .i64 sn, .int .i64 (1048577)] 23 (0, 0)) := by rw [hW4]; exact hs_same (hs_same HT3.out)
              have HB4 := hidd (show Below w.heap.size w W4 by rw [hW4]; exact (HB3.out.setCell hz2 _).setCell hz2 _)
              have GG4 := hidd gg4
              have GT4 := hidd gt4
              rw [← hW4]
              clear kg3 fg3 kt3 ft3 hW4 gg4 gt4
              refine (next_one sn (1048577) _ c1 (by omega) (mayB_mk (by omega) (by omega) (by omega))).mono ?_
              rintro e w5 ⟨rfl, hb5⟩
              have hg5 := blkf GG4.out w5 hb5
              have ht5 := blkf GT4.out w5 hb5
              obtain ⟨kg5, fg5⟩ := blk hg5
              obtain ⟨kt5, ft5⟩ := blk ht5
              have HG5 := hidd hg5
              have HT5 := hidd ht5
              have HB5 := hidd (HB4.out.trans (hb5.mono HB4.out.size))
              clear hb5 hg5 ht5
              go_wp2_with fail
              obtain ⟨W6, hW6⟩ : ∃ W6, W6 = (w5.setCell ⟨w2.heap.size, 0, none⟩ (.int .i64 (sn + 1))).setCell ⟨w2.heap.size, 1, none⟩ (.int .i64 (1048577)) := ⟨_, rfl⟩
              have gg6 : W6.heap[w1.heap.size]? = some (.cells #[.int .i64 sn, .int .i64 sn] 23 (0, 0)) := by rw [hW6]; exact hs_other (hs_other HG5.out hne) hne
              have gt6 : W6.heap[w2.heap.size]? = some (.cells #[.int .i64 (sn + 1), .int .i64 (1048577)] 23 (0, 0)) := by rw [hW6]; exact hs_same (hs_same HT5.out)
              have HB6 := hidd (show Below w.heap.size w W6 by rw [hW6]; exact (HB5.out.setCell hz2 _).setCell hz2 _)
              have GG6 := hidd gg6
              have GT6 := hidd gt6
              rw [← hW6]
              clear kg5 fg5 kt5 ft5 hW6 gg6 gt6
              refine (may_any _ _ _).mono ?_
              rintro e w7 ⟨rfl, hb7⟩
              rw [mayB_mk (by omega) (by omega) (by omega)]
              have hg7 := blkf GG6.out w7 hb7
              obtain ⟨kg7, fg7⟩ := blk hg7
              obtain ⟨kt7, ft7⟩ := blk (blkf GT6.out w7 hb7)
              have HG7 := hidd hg7
              have HB7 := hidd (HB6.out.trans (hb7.mono HB6.out.size))
              clear hb7 hg7
              go_wp2_with fail
              go_roundw
              case rel => exact ⟨k + 1, sn + 1, 1048577, sn, by omega, by go_num, rfl, rfl, rfl, by omega, by omega, by omega, by omega, by omega, hs_same (hs_same HG7.out), (HB7.out.setCell hs1 _).setCell hs1 _⟩
              case measure => simp [intOf]; omega
          · go_wp2_with (first | (go_at_call 6; refine (next_one sn sb _ c1 c2 (mayB_mk (by omega) (by omega) (by omega))).mono ?_; rintro e w2 ⟨rfl, hb2⟩; have hg2 := blkf HG.out w2 hb2; obtain ⟨kg2, fg2⟩ := blk hg2; have HG2 := hidd hg2; have HB2 := hidd (HB.out.trans (hb2.mono HB.out.size)); have hl2 := Nat.lt_of_lt_of_le hgl hb2.size; have hz2 := HB2.out.size; clear hb2 hg2 kg fg hcw) | (go_at_call 17; refine (may_any _ _ _).mono ?_; rintro e w3 ⟨rfl, hb3⟩; rw [mayB_mk (by omega) (by omega) (by omega)]; have hg3 := blkf ((heap_alloc_old w2 _ hl2).trans HG2.out) w3 hb3; have ht3 := blkf (heap_alloc_new w2 _) w3 hb3; obtain ⟨kg3, fg3⟩ := blk hg3; obtain ⟨kt3, ft3⟩ := blk ht3; have HG3 := hidd hg3; have HB3 := hidd ((HB2.out.alloc hz2 _).trans (hb3.mono (by simp; omega))); clear hb3 hg3 ht3 kg2 fg2))
            go_roundw
            case rel => exact ⟨k + 1, sn + 1, sb, sn, by omega, by go_num, rfl, rfl, rfl, by omega, by omega, by omega, by omega, by omega, hs_same (hs_same HG3.out), (HB3.out.setCell hs1 _).setCell hs1 _⟩
            case measure => simp [intOf]; omega
      · go_wp2_with (go_at_call 15; refine (new_yes sb _ (mayB_mk (by omega) (by omega) (by omega))).mono ?_; rintro e w2 ⟨rfl, hb2⟩; have hg2 := blkf HG.out w2 hb2; obtain ⟨kg2, fg2⟩ := blk hg2; have HG2 := hidd hg2; have HB2 := hidd hb2; clear hb2 hg2 kg fg hcw)
        go_roundw
        case rel => exact ⟨k + 1, sb, sb, lst, by omega, by go_num, rfl, rfl, rfl, by omega, by omega, by omega, by omega, by omega, hs_same (hs_same HG2.out), ((HB.out.trans (HB2.out.mono HB.out.size)).setCell hs1 _).setCell hs1 _⟩
        case measure => simp [intOf]; omega
    · go_wp2_with (go_at_call 7; refine (wakes_any _).mono ?_; rintro e w2 ⟨rfl, hb2⟩)
      go_ret
      exact ⟨rfl, HB.out.trans (hb2.mono HB.out.size)⟩
set_option maxRecDepth 100000 in
set_option maxHeartbeats 4000000 in
theorem once_none (bound : Int) (a : Option Addr) (n c : Nat) (w : World) (hn : n ≤ 200) (hm : mayB bound bound = false) :
    Calls Try.prog 5 #[.int .i64 bound, .slice a n c] w fun e w' => e = .returned (.bool true) ∧ Below w.heap.size w w' := by
  have HM := hidd hm
  clear hm
  go_enter Try.func5, Try.ntmps5
  go_wp2_with (go_at_call 15; refine (new_no bound _ HM.out).mono ?_; rintro e w1 ⟨rfl, hb1⟩; have HB1 := hidd hb1; clear hb1)
  have hs1 := HB1.out.size
  refine wp_loop_once ?_
  rcases Nat.eq_zero_or_pos n with h0 | h0
  · subst h0
    go_wp2_with (go_at_call 7; refine (wakes_any _).mono ?_; rintro e w2 ⟨rfl, hb2⟩)
    go_ret
    exact ⟨rfl, (HB1.out.alloc hs1 _).trans (hb2.mono (by simp; omega))⟩
  · go_wp2_with (go_at_call 7; refine (wakes_any _).mono ?_; rintro e w2 ⟨rfl, hb2⟩)
    go_ret
    exact ⟨rfl, (HB1.out.alloc hs1 _).trans (hb2.mono (by simp; omega))⟩
set_option maxHeartbeats 400000 in
theorem once_long (a : Option Addr) (n c : Nat) (s : Int) (w : World) (h : 200 < n) (m0 : n ≤ 9223372036854775807) :
    Calls Try.prog 5 #[.int .i64 s, .slice a n c] w fun e w' => e = .returned (.bool true) ∧ Below w.heap.size w w' := by
  go_enter Try.func5, Try.ntmps5
  go_wp2_with (go_at_call 7; refine (wakes_any _).mono ?_; rintro e w3 ⟨rfl, hb3⟩)
  go_ret
  exact ⟨rfl, hb3⟩
end Go.Proofs.Ytfmadgaknaflfaa
