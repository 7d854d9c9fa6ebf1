import Derived.Test.YtdoicmjomlaoaaaOM
namespace Go.Proofs.Ytdoicmjomlaoaaa
open Go.RowKit
set_option maxRecDepth 100000 in
set_option maxHeartbeats 16000000 in
theorem oback_fine (H : List UInt8) (a1 : Option Addr) (n1 c1 : Nat) (la : List Wr) (a2 : Option Addr) (n2 c2 : Nat) (lb : List Wr) (p : Wr) (W : World) (hH : H.length = 256) (hs1 : Sl W a1 n1 c1 9 (wcs la)) (h81 : W8 la) (hs2 : Sl W a2 n2 c2 9 (wcs lb)) (h82 : W8 lb) (hp : p.2.length = 8) (hw1 : writtenB la = true) (hw2 : writtenB lb = true) (hE : ptE la p = 0) :
    Calls Try.prog 4 #[.agg (bs H).toArray, .slice a1 n1 c1, .slice a2 n2 c2, .agg (wc p).toArray] W fun e w' => e = .returned (.bool true) ∧ Below W.heap.size W w' := by
  have HH := hidd hH
  have HS1 := hidd hs1
  have H81 := hidd h81
  have HS2 := hidd hs2
  have H82 := hidd h82
  have HL1 := hidd (show la.length = n1 by have := hs1.len; rw [wcs_len h81] at this; omega)
  have HL2 := hidd (show lb.length = n2 by have := hs2.len; rw [wcs_len h82] at this; omega)
  obtain ⟨B, b0, b1, b2, b3, b4, b5, b6, b7, rfl⟩ := wr8 hp
  rw [show (wc (B, [b0, b1, b2, b3, b4, b5, b6, b7])).toArray = (aggW B b0 b1 b2 b3 b4 b5 b6 b7) from rfl]
  have HW1 := hidd hw1
  have HW2 := hidd hw2
  have n18 : n1 ≤ 8 := by have := writtenB_len hw1; rw [HL1.out] at this; exact this
  have n28 : n2 ≤ 8 := by have := writtenB_len hw2; rw [HL2.out] at this; exact this
  obtain ⟨P, hP⟩ : ∃ P : Wr, P = (B, [b0, b1, b2, b3, b4, b5, b6, b7]) := ⟨_, rfl⟩
  have HP8 := hidd (show P.2.length = 8 by rw [hP]; rfl)
  have HPW := hidd (show (wc P).toArray = (aggW B b0 b1 b2 b3 b4 b5 b6 b7) by rw [hP]; rfl)
  have HP1 := hidd (show P.1 = B by rw [hP])
  have HP2 := hidd (show P.2 = [b0, b1, b2, b3, b4, b5, b6, b7] by rw [hP])
  have HE := hidd (show ptE la P = 0 by rw [hP]; exact hE)
  clear hH hs1 h81 hs2 h82 hp hw1 hw2 hE hP
  have HX := hidd (ptL_ins HE.out)
  have hx8 : W8 (ins P la) := by rw [← HX.out]; exact ptL_W8 H81.out HP8.out
  have HX8 := hidd hx8
  have HXW := hidd (writtenB_ins HE.out)
  obtain ⟨X, hX⟩ : ∃ X, X = ins P la := ⟨_, rfl⟩
  have HXL := hidd (show X.length = if thB P.1 la = true then n1 else n1 + 1 by rw [hX, ins_len, HL1.out])
  have HXE := hidd hX
  rw [← hX] at HX HX8 HXW
  have hla : wrB (-1) la = true := by have := HW1.out; unfold writtenB at this; simp only [Bool.and_eq_true] at this; exact this.1
  have HGB := hidd (show gtB B X = true by rw [(gt_O B X).1, HXE.out, gtO_ins, if_pos HP1.out.symm]; rfl)
  have HGV := hidd (show gtV B X = [b0, b1, b2, b3, b4, b5, b6, b7] by rw [(gt_O B X).2, HXE.out, gtO_ins, if_pos HP1.out.symm, ← HP2.out]; rfl)
  have HGM := hidd (show ∀ q ∈ la, gtB q.1 X = true ∧ (q.1 ≠ B → gtV q.1 X = q.2) from fun q hq => by
    have h1 := gtO_mem la (-1) hla q hq
    rw [(gt_O q.1 X).1, (gt_O q.1 X).2, HXE.out, gtO_ins, HP1.out]
    by_cases h : q.1 = B
    · rw [if_pos h]
      exact ⟨rfl, fun h' => absurd h h'⟩
    · rw [if_neg h, h1]
      exact ⟨rfl, fun _ => rfl⟩)
  clear hX hx8 hla
  go_enter Try.func4, Try.ntmps4
  have HB0 := hidd (((Below.refl _ W).alloc (Nat.le_refl _) (.cells (bs H).toArray 36)).alloc (by simp) (.cells (aggW B b0 b1 b2 b3 b4 b5 b6 b7) 26))
  have GH0 := hidd (heap_alloc2_old W (.cells (bs H).toArray 36) (.cells (aggW B b0 b1 b2 b3 b4 b5 b6 b7) 26))
  have GP0 := hidd (heap_alloc2_new W (.cells (bs H).toArray 36) (.cells (aggW B b0 b1 b2 b3 b4 b5 b6 b7) 26))
  go_wp2_with fail
  refine (rwritten_any a1 n1 c1 la _ (HS1.out.grow HB0.out) H81.out n18).mono ?_
  rintro e w1 ⟨rfl, hb1⟩
  rw [HW1.out]
  have GH1 := hidd (blk_below hb1 GH0.out (by simp; omega))
  have GP1 := hidd (blk_below hb1 GP0.out (by simp))
  have hz1 : W.heap.size + 1 < w1.heap.size := by have := hb1.size; simp at this; omega
  have HB1 := hidd (HB0.out.trans (hb1.mono (by simp; omega)))
  clear hb1
  go_wp2_with fail
  refine (rwritten_any a2 n2 c2 lb _ (HS2.out.grow HB1.out) H82.out n28).mono ?_
  rintro e w2 ⟨rfl, hb2⟩
  rw [HW2.out]
  have GH2 := hidd (blk_below hb2 GH1.out (by omega))
  have GP2 := hidd (blk_below hb2 GP1.out hz1)
  have hz2 : W.heap.size + 1 < w2.heap.size := by have := hb2.size; omega
  have HB2 := hidd (HB1.out.trans (hb2.mono HB1.out.size))
  clear hb2
  go_wp2_with (with_reducible refine wpList_load_row rfl 26 (.tmp 7) rfl (W.heap.size + 1) rfl 26 (aggW B b0 b1 b2 b3 b4 b5 b6 b7) (0, 0) _ GP2.out Try.underlying26 rfl (aggW_sz B b0 b1 b2 b3 b4 b5 b6 b7) ?_)
  have hput := put_any a1 n1 c1 la P _ (HS1.out.grow HB2.out) H81.out (by omega) HP8.out
  rw [HPW.out] at hput
  refine hput.mono ?_
  clear hput
  rintro e w3 ⟨a3, c3, rfl, hs3, hb3⟩
  have GH3 := hidd (blk_below hb3 GH2.out (by omega))
  have GP3 := hidd (blk_below hb3 GP2.out hz2)
  have hz3 : W.heap.size + 1 < w3.heap.size := by have := hb3.size; omega
  have HB3 := hidd (HB2.out.trans (hb3.mono HB2.out.size))
  have HS3 := hidd hs3
  clear hs3 hb3
  have hs3 := HS3.out
  rw [HX.out] at hs3
  rw [HE.out, HX.out]
  obtain ⟨m, hm⟩ : ∃ m, m = X.length := ⟨_, rfl⟩
  rw [← hm] at hs3 ⊢
  have HSX := hidd hs3
  have m9 : m ≤ n1 + 1 := by rw [hm, HXL.out]; split <;> omega
  have m8 : m ≤ 8 := by have := writtenB_len HXW.out; omega
  have kp : w3.cell? ⟨W.heap.size + 1, 0, none⟩ = some (.int .i64 B) := (blk GP3.out).1 0
  clear hs3 hm HS3
  go_wp2_with fail
  refine (get_any a3 m c3 X B w3 HSX.out HX8.out (by omega)).mono ?_
  rintro e w4 ⟨rfl, hb4⟩
  rw [HGB.out, HGV.out, show (bs [b0, b1, b2, b3, b4, b5, b6, b7]).toArray = a24 b0 b1 b2 b3 b4 b5 b6 b7 from rfl]
  have GH4 := hidd (blk_below hb4 GH3.out (by omega))
  have GP4 := hidd (blk_below hb4 GP3.out hz3)
  have hz4 : W.heap.size + 1 < w4.heap.size := by have := hb4.size; omega
  have HB4 := hidd (HB3.out.trans (hb4.mono HB3.out.size))
  have HSX4 := hidd (HSX.out.grow hb4)
  clear hb4 kp
  have hq24 : ∀ w, (Op.equalIn 10000 24 (.agg (a24 b0 b1 b2 b3 b4 b5 b6 b7)) (.agg (a24 b0 b1 b2 b3 b4 b5 b6 b7))).run Try.prog w = .ok true w := fun w => (eq24 w [b0, b1, b2, b3, b4, b5, b6, b7] [b0, b1, b2, b3, b4, b5, b6, b7] rfl rfl).trans (by simp)
  have p1 : w4.cell? ⟨W.heap.size + 1, 1, none⟩ = some (.int .u8 (b0.toNat : Int)) := (blk GP4.out).1 1
  have p2 : w4.cell? ⟨W.heap.size + 1, 2, none⟩ = some (.int .u8 (b1.toNat : Int)) := (blk GP4.out).1 2
  have p3 : w4.cell? ⟨W.heap.size + 1, 3, none⟩ = some (.int .u8 (b2.toNat : Int)) := (blk GP4.out).1 3
  have p4 : w4.cell? ⟨W.heap.size + 1, 4, none⟩ = some (.int .u8 (b3.toNat : Int)) := (blk GP4.out).1 4
  have p5 : w4.cell? ⟨W.heap.size + 1, 5, none⟩ = some (.int .u8 (b4.toNat : Int)) := (blk GP4.out).1 5
  have p6 : w4.cell? ⟨W.heap.size + 1, 6, none⟩ = some (.int .u8 (b5.toNat : Int)) := (blk GP4.out).1 6
  have p7 : w4.cell? ⟨W.heap.size + 1, 7, none⟩ = some (.int .u8 (b6.toNat : Int)) := (blk GP4.out).1 7
  have p8 : w4.cell? ⟨W.heap.size + 1, 8, none⟩ = some (.int .u8 (b7.toNat : Int)) := (blk GP4.out).1 8
  go_wp2_with fail
  refine (rwritten_any a3 m c3 X _ (HSX4.out.grow ((Below.refl _ w4).alloc (Nat.le_refl _) _)) HX8.out m8).mono ?_
  rintro e w5 ⟨rfl, hb5⟩
  rw [HXW.out]
  have HB5 := hidd ((HB4.out.alloc HB4.out.size (.cells (a24 b0 b1 b2 b3 b4 b5 b6 b7) 24)).trans (hb5.mono (by have := HB4.out.size; simp; omega)))
  have GH5 := hidd (blk_below hb5 ((heap_alloc_old w4 _ (by omega)).trans GH4.out) (by simp; omega))
  have GP5 := hidd (blk_below hb5 ((heap_alloc_old w4 _ hz4).trans GP4.out) (by simp; omega))
  have hz5 : W.heap.size + 1 < w5.heap.size := by have := hb5.size; simp at this; omega
  have HSX5 := hidd ((HSX4.out.grow ((Below.refl _ w4).alloc (Nat.le_refl _) (.cells (a24 b0 b1 b2 b3 b4 b5 b6 b7) 24))).grow hb5)
  clear hb5 hq24 p1 p2 p3 p4 p5 p6 p7 p8
  go_wp2_with fail
  go_loopw [13] (fun i wr => ∃ k : Nat, k ≤ n1 ∧ i = .int .i64 k ∧ Below w5.heap.size w5 wr) (fun i _ => n1 - (intOf i).toNat)
  case atStart => exact ⟨0, by omega, rfl, Below.refl _ _⟩
  case round =>
    obtain ⟨k, hk, rfl, hbel⟩ := hrel
    obtain ⟨wo, rfl⟩ : ∃ wo, wo = wr := ⟨_, rfl⟩
    have HW := hidd hbel
    have HWW := hidd (HB5.out.trans (hbel.mono HB5.out.size))
    have GHO := hidd (blk_below hbel GH5.out (by omega))
    have GPO := hidd (blk_below hbel GP5.out hz5)
    have hzo : W.heap.size + 1 < wo.heap.size := by have := hbel.size; omega
    have HSXO := hidd (HSX5.out.grow hbel)
    clear hbel
    by_cases hlt : k < n1
    · obtain ⟨b, off, q, rfl, hq, hq8, hc⟩ := wr_at (HS1.out.grow HWW.out) H81.out k hlt
      have hgm := HGM.out q (List.mem_of_getElem? hq)
      obtain ⟨C, d0, d1, d2, d3, d4, d5, d6, d7, rfl⟩ := wr8 hq8
      have HC := hidd hc
      obtain ⟨c0, _⟩ := wr_cells hc
      have hbk := block_lt_of_cell c0
      have HGM2 := hidd hgm
      have i0 : (0 : Int) ≤ (k : Int) := by omega
      have i1 : (k : Int) < (n1 : Int) := by omega
      clear hq hq8 hc hgm
      go_wp2_with fail
      refine (get_any a3 m c3 X C wo HSXO.out HX8.out (by omega)).mono ?_
      rintro e w6 ⟨rfl, hb6⟩
      rw [show gtB C X = true from HGM2.out.1]
      obtain ⟨V, hV⟩ : ∃ V, V = gtV C X := ⟨_, rfl⟩
      have hV8 : V.length = 8 := by rw [hV]; exact gtV_len HX8.out
      rw [← hV]
      have HV := hidd hV
      obtain ⟨v0, v1, v2, v3, v4, v5, v6, v7, rfl⟩ : ∃ v0 v1 v2 v3 v4 v5 v6 v7 : UInt8, V = [v0, v1, v2, v3, v4, v5, v6, v7] := by
        match V, hV8 with
        | [v0, v1, v2, v3, v4, v5, v6, v7], _ => exact ⟨_, _, _, _, _, _, _, _, rfl⟩
      rw [show (bs [v0, v1, v2, v3, v4, v5, v6, v7]).toArray = a24 v0 v1 v2 v3 v4 v5 v6 v7 from rfl]
      clear hV hV8 c0
      have HB6 := hidd (HW.out.trans (hb6.mono HW.out.size))
      have HC6 := hidd (show ∀ j, j < 9 → w6.cell? ⟨b, off + k * 9 + j, none⟩ = (wc (C, [d0, d1, d2, d3, d4, d5, d6, d7]))[j]? from fun j hj => (hb6.cell (p := ⟨b, off + k * 9 + j, none⟩) hbk).trans (HC.out j hj))
      have hbk6 : b < w6.heap.size := Nat.lt_of_lt_of_le hbk hb6.size
      have GP6 := hidd (blk_below hb6 GPO.out hzo)
      have hz6 : W.heap.size + 1 < w6.heap.size := by have := hb6.size; omega
      clear hb6
      go_wp2_with fail
      obtain ⟨ww, hww⟩ : ∃ ww, ww = w6.alloc (.cells (a24 v0 v1 v2 v3 v4 v5 v6 v7) 24) := ⟨_, rfl⟩
      rw [← hww]
      have g6 : ww.heap[w6.heap.size]? = some (.cells (a24 v0 v1 v2 v3 v4 v5 v6 v7) 24 (0, 0)) := by rw [hww]; exact heap_alloc_new w6 _
      have gp : ww.heap[W.heap.size + 1]? = some (.cells (aggW B b0 b1 b2 b3 b4 b5 b6 b7) 26 (0, 0)) := by rw [hww]; exact (heap_alloc_old w6 _ hz6).trans GP6.out
      have hcw : ∀ j, j < 9 → ww.cell? ⟨b, off + k * 9 + j, none⟩ = (wc (C, [d0, d1, d2, d3, d4, d5, d6, d7]))[j]? := fun j hj => by rw [hww]; exact (World.cell?_alloc_past _ _ _ hbk6).trans (HC6.out j hj)
      have HBW := hidd (show Below w5.heap.size w5 ww by rw [hww]; exact HB6.out.alloc HB6.out.size _)
      obtain ⟨x0, x1, x2, x3, x4, x5, x6, x7, x8⟩ := wr_cells hcw
      have y0 : ww.cell? ⟨W.heap.size + 1, 0, none⟩ = some (.int .i64 B) := (blk gp).1 0
      have s0 := cell_all x0
      have s1 := cell_all x1
      have s2 := cell_all x2
      have s3 := cell_all x3
      have s4 := cell_all x4
      have s5 := cell_all x5
      have s6 := cell_all x6
      have s7 := cell_all x7
      have s8 := cell_all x8
      have s9 := cell_all y0
      have e0 : ww.cell? ⟨w6.heap.size, 0, none⟩ = some (.int .u8 (v0.toNat : Int)) := (blk g6).1 0
      have e1 : ww.cell? ⟨w6.heap.size, 1, none⟩ = some (.int .u8 (v1.toNat : Int)) := (blk g6).1 1
      have e2 : ww.cell? ⟨w6.heap.size, 2, none⟩ = some (.int .u8 (v2.toNat : Int)) := (blk g6).1 2
      have e3 : ww.cell? ⟨w6.heap.size, 3, none⟩ = some (.int .u8 (v3.toNat : Int)) := (blk g6).1 3
      have e4 : ww.cell? ⟨w6.heap.size, 4, none⟩ = some (.int .u8 (v4.toNat : Int)) := (blk g6).1 4
      have e5 : ww.cell? ⟨w6.heap.size, 5, none⟩ = some (.int .u8 (v5.toNat : Int)) := (blk g6).1 5
      have e6 : ww.cell? ⟨w6.heap.size, 6, none⟩ = some (.int .u8 (v6.toNat : Int)) := (blk g6).1 6
      have e7 : ww.cell? ⟨w6.heap.size, 7, none⟩ = some (.int .u8 (v7.toNat : Int)) := (blk g6).1 7
      have z0 := cell_all e0
      have z1 := cell_all e1
      have z2 := cell_all e2
      have z3 := cell_all e3
      have z4 := cell_all e4
      have z5 := cell_all e5
      have z6 := cell_all e6
      have z7 := cell_all e7
      clear hww g6 gp hcw x0 x1 x2 x3 x4 x5 x6 x7 x8 y0 e0 e1 e2 e3 e4 e5 e6 e7
      by_cases hCB : C = B
      · have qn : (C != B) = false := by simp [hCB]
        clear hCB s1 s2 s3 s4 s5 s6 s7 s8 z0 z1 z2 z3 z4 z5 z6 z7
        refine wp_region_held_drew (S := fun w' => Below ww.heap.size ww w') (by kernel_rfl) ((Below.refl _ ww).drew) (fun hH => ?_)
        refine take_at 0 71 (v := ?_) rfl rfl (by kernel_rfl) (by kernel_rfl) (by kernel_rfl) (fun _ _ _ h => h) (Or.inl ⟨by rfl, ?_⟩) hH ?_
        rotate_left
        · (intro w9 hSw; (try dsimp only at hSw); go_simp) <;> with_reducible rfl
        try simp only [List.setIfInBounds_toArray, List.set_cons_zero, List.set_cons_succ]
        refine take_at 1 72 (v := ?_) rfl rfl (by kernel_rfl) (by kernel_rfl) (by kernel_rfl) (fun _ _ _ h => h) (Or.inl ⟨by rfl, ?_⟩) hH ?_
        rotate_left
        · (intro w9 hSw; (try dsimp only at hSw); go_simp) <;> with_reducible rfl
        try simp only [List.setIfInBounds_toArray, List.set_cons_zero, List.set_cons_succ]
        refine take_at 2 73 (v := ?_) rfl rfl (by kernel_rfl) (by kernel_rfl) (by kernel_rfl) (fun _ _ _ h => h) (Or.inl ⟨by rfl, ?_⟩) hH ?_
        rotate_left
        · (intro w9 hSw; (try dsimp only at hSw); go_simp) <;> with_reducible rfl
        try simp only [List.setIfInBounds_toArray, List.set_cons_zero, List.set_cons_succ]
        refine take_at 3 74 (v := ?_) rfl rfl (by kernel_rfl) (by kernel_rfl) (by kernel_rfl) (fun _ _ _ h => h) (Or.inl ⟨by rfl, ?_⟩) hH ?_
        rotate_left
        · (intro w9 hSw; (try dsimp only at hSw); go_simp) <;> with_reducible rfl
        try simp only [List.setIfInBounds_toArray, List.set_cons_zero, List.set_cons_succ]
        refine take_at 4 75 (v := ?_) rfl rfl (by kernel_rfl) (by kernel_rfl) (by kernel_rfl) (fun _ _ _ h => h) (Or.inl ⟨by rfl, ?_⟩) hH ?_
        rotate_left
        · (intro w9 hSw; (try dsimp only at hSw); go_simp) <;> with_reducible rfl
        try simp only [List.setIfInBounds_toArray, List.set_cons_zero, List.set_cons_succ]
        refine take_at 5 76 (v := ?_) rfl rfl (by kernel_rfl) (by kernel_rfl) (by kernel_rfl) (fun _ _ _ h => h) (Or.inl ⟨by rfl, ?_⟩) hH ?_
        rotate_left
        · (intro w9 hSw; (try dsimp only at hSw); go_simp) <;> with_reducible rfl
        try simp only [List.setIfInBounds_toArray, List.set_cons_zero, List.set_cons_succ]
        refine take_at 6 77 (v := ?_) rfl rfl (by kernel_rfl) (by kernel_rfl) (by kernel_rfl) (fun _ _ _ h => h) (Or.inl ⟨by rfl, ?_⟩) hH ?_
        rotate_left
        · (intro w9 hSw; (try dsimp only at hSw); go_simp) <;> with_reducible rfl
        try simp only [List.setIfInBounds_toArray, List.set_cons_zero, List.set_cons_succ]
        refine take_at 7 78 (v := ?_) rfl rfl (by kernel_rfl) (by kernel_rfl) (by kernel_rfl) (fun _ _ _ h => h) (Or.inl ⟨by rfl, ?_⟩) hH ?_
        rotate_left
        · (intro w9 hSw; (try dsimp only at hSw); go_simp) <;> with_reducible rfl
        try simp only [List.setIfInBounds_toArray, List.set_cons_zero, List.set_cons_succ]
        refine take_at 8 79 (v := ?_) rfl rfl (by kernel_rfl) (by kernel_rfl) (by kernel_rfl) (fun _ _ _ h => h) (Or.inl ⟨by rfl, ?_⟩) hH ?_
        rotate_left
        · (intro w9 hSw; (try dsimp only at hSw); go_simp) <;> with_reducible rfl
        try simp only [List.setIfInBounds_toArray, List.set_cons_zero, List.set_cons_succ]
        refine take_at 9 80 (v := ?_) rfl rfl (by kernel_rfl) (by kernel_rfl) (by kernel_rfl) (fun _ _ _ h => h) (Or.inl ⟨by rfl, ?_⟩) hH ?_
        rotate_left
        · (intro w9 hSw; (try dsimp only at hSw); go_simp) <;> with_reducible rfl
        try simp only [List.setIfInBounds_toArray, List.set_cons_zero, List.set_cons_succ]
        refine take_at 10 81 (v := ?_) rfl rfl (by kernel_rfl) (by kernel_rfl) (by kernel_rfl) (fun _ _ _ h => h) (Or.inl ⟨by rfl, ?_⟩) hH ?_
        rotate_left
        · (intro w9 hSw; (try dsimp only at hSw); go_simp) <;> with_reducible rfl
        try simp only [List.setIfInBounds_toArray, List.set_cons_zero, List.set_cons_succ]
        refine take_at 11 82 (v := ?_) rfl rfl (by kernel_rfl) (by kernel_rfl) (by kernel_rfl) (fun _ _ _ h => h) (Or.inl ⟨by rfl, ?_⟩) hH ?_
        rotate_left
        · (intro w9 hSw; (try dsimp only at hSw); go_simp) <;> with_reducible rfl
        try simp only [List.setIfInBounds_toArray, List.set_cons_zero, List.set_cons_succ]
        refine take_at 12 83 (v := undef) rfl rfl (by kernel_rfl) (by kernel_rfl) (by kernel_rfl) (fun _ _ _ h => h) (Or.inr ⟨by rfl, rfl⟩) hH ?_
        try simp only [List.setIfInBounds_toArray, List.set_cons_zero, List.set_cons_succ]
        refine take_at 13 84 (v := undef) rfl rfl (by kernel_rfl) (by kernel_rfl) (by kernel_rfl) (fun _ _ _ h => h) (Or.inr ⟨by rfl, rfl⟩) hH ?_
        try simp only [List.setIfInBounds_toArray, List.set_cons_zero, List.set_cons_succ]
        refine take_at 14 85 (v := undef) rfl rfl (by kernel_rfl) (by kernel_rfl) (by kernel_rfl) (fun _ _ _ h => h) (Or.inr ⟨by rfl, rfl⟩) hH ?_
        try simp only [List.setIfInBounds_toArray, List.set_cons_zero, List.set_cons_succ]
        refine take_at 15 86 (v := undef) rfl rfl (by kernel_rfl) (by kernel_rfl) (by kernel_rfl) (fun _ _ _ h => h) (Or.inr ⟨by rfl, rfl⟩) hH ?_
        try simp only [List.setIfInBounds_toArray, List.set_cons_zero, List.set_cons_succ]
        refine take_at 16 87 (v := undef) rfl rfl (by kernel_rfl) (by kernel_rfl) (by kernel_rfl) (fun _ _ _ h => h) (Or.inr ⟨by rfl, rfl⟩) hH ?_
        try simp only [List.setIfInBounds_toArray, List.set_cons_zero, List.set_cons_succ]
        refine take_at 17 88 (v := undef) rfl rfl (by kernel_rfl) (by kernel_rfl) (by kernel_rfl) (fun _ _ _ h => h) (Or.inr ⟨by rfl, rfl⟩) hH ?_
        try simp only [List.setIfInBounds_toArray, List.set_cons_zero, List.set_cons_succ]
        refine take_at 18 89 (v := undef) rfl rfl (by kernel_rfl) (by kernel_rfl) (by kernel_rfl) (fun _ _ _ h => h) (Or.inr ⟨by rfl, rfl⟩) hH ?_
        try simp only [List.setIfInBounds_toArray, List.set_cons_zero, List.set_cons_succ]
        refine take_at 19 90 (v := ?_) rfl rfl (by kernel_rfl) (by kernel_rfl) (by kernel_rfl) (fun _ _ _ h => h) (Or.inl ⟨by rfl, ?_⟩) hH ?_
        rotate_left
        · (intro w9 hSw; (try dsimp only at hSw); go_simp) <;> with_reducible rfl
        try simp only [List.setIfInBounds_toArray, List.set_cons_zero, List.set_cons_succ]
        refine take_at 20 91 (v := ?_) rfl rfl (by kernel_rfl) (by kernel_rfl) (by kernel_rfl) (fun _ _ _ h => h) (Or.inl ⟨by rfl, ?_⟩) hH ?_
        rotate_left
        · (intro w9 hSw; (try dsimp only at hSw); go_simp) <;> with_reducible rfl
        try simp only [List.setIfInBounds_toArray, List.set_cons_zero, List.set_cons_succ]
        refine wpAnyH_done (by kernel_rfl) ?_ _
        clear hH s0 s9 qn
        go_wp2
        go_roundw
        case rel => exact ⟨k + 1, by omega, by go_num, HBW.out.trans (((Below.refl _ ww).drew).mono HBW.out.size)⟩
        case measure => simp [intOf]; omega
      · have qn : (C != B) = true := by simp [hCB]
        have hvv : [v0, v1, v2, v3, v4, v5, v6, v7] = [d0, d1, d2, d3, d4, d5, d6, d7] := HV.out.trans (HGM2.out.2 hCB)
        have hq24 : ∀ w, (Op.equalIn 10000 24 (.agg (a24 v0 v1 v2 v3 v4 v5 v6 v7)) (.agg (a24 d0 d1 d2 d3 d4 d5 d6 d7))).run Try.prog w = .ok true w := fun w => (eq24 w [v0, v1, v2, v3, v4, v5, v6, v7] [d0, d1, d2, d3, d4, d5, d6, d7] rfl rfl).trans (by rw [hvv]; simp)
        clear hCB hvv
        refine wp_region_held_drew (S := fun w' => Below ww.heap.size ww w') (by kernel_rfl) ((Below.refl _ ww).drew) (fun hH => ?_)
        refine take_at 0 71 (v := ?_) rfl rfl (by kernel_rfl) (by kernel_rfl) (by kernel_rfl) (fun _ _ _ h => h) (Or.inl ⟨by rfl, ?_⟩) hH ?_
        rotate_left
        · (intro w9 hSw; (try dsimp only at hSw); go_simp) <;> with_reducible rfl
        try simp only [List.setIfInBounds_toArray, List.set_cons_zero, List.set_cons_succ]
        refine take_at 1 72 (v := ?_) rfl rfl (by kernel_rfl) (by kernel_rfl) (by kernel_rfl) (fun _ _ _ h => h) (Or.inl ⟨by rfl, ?_⟩) hH ?_
        rotate_left
        · (intro w9 hSw; (try dsimp only at hSw); go_simp) <;> with_reducible rfl
        try simp only [List.setIfInBounds_toArray, List.set_cons_zero, List.set_cons_succ]
        refine take_at 2 73 (v := ?_) rfl rfl (by kernel_rfl) (by kernel_rfl) (by kernel_rfl) (fun _ _ _ h => h) (Or.inl ⟨by rfl, ?_⟩) hH ?_
        rotate_left
        · (intro w9 hSw; (try dsimp only at hSw); go_simp) <;> with_reducible rfl
        try simp only [List.setIfInBounds_toArray, List.set_cons_zero, List.set_cons_succ]
        refine take_at 3 74 (v := ?_) rfl rfl (by kernel_rfl) (by kernel_rfl) (by kernel_rfl) (fun _ _ _ h => h) (Or.inl ⟨by rfl, ?_⟩) hH ?_
        rotate_left
        · (intro w9 hSw; (try dsimp only at hSw); go_simp) <;> with_reducible rfl
        try simp only [List.setIfInBounds_toArray, List.set_cons_zero, List.set_cons_succ]
        refine take_at 4 75 (v := ?_) rfl rfl (by kernel_rfl) (by kernel_rfl) (by kernel_rfl) (fun _ _ _ h => h) (Or.inl ⟨by rfl, ?_⟩) hH ?_
        rotate_left
        · (intro w9 hSw; (try dsimp only at hSw); go_simp) <;> with_reducible rfl
        try simp only [List.setIfInBounds_toArray, List.set_cons_zero, List.set_cons_succ]
        refine take_at 5 76 (v := ?_) rfl rfl (by kernel_rfl) (by kernel_rfl) (by kernel_rfl) (fun _ _ _ h => h) (Or.inl ⟨by rfl, ?_⟩) hH ?_
        rotate_left
        · (intro w9 hSw; (try dsimp only at hSw); go_simp) <;> with_reducible rfl
        try simp only [List.setIfInBounds_toArray, List.set_cons_zero, List.set_cons_succ]
        refine take_at 6 77 (v := ?_) rfl rfl (by kernel_rfl) (by kernel_rfl) (by kernel_rfl) (fun _ _ _ h => h) (Or.inl ⟨by rfl, ?_⟩) hH ?_
        rotate_left
        · (intro w9 hSw; (try dsimp only at hSw); go_simp) <;> with_reducible rfl
        try simp only [List.setIfInBounds_toArray, List.set_cons_zero, List.set_cons_succ]
        refine take_at 7 78 (v := ?_) rfl rfl (by kernel_rfl) (by kernel_rfl) (by kernel_rfl) (fun _ _ _ h => h) (Or.inl ⟨by rfl, ?_⟩) hH ?_
        rotate_left
        · (intro w9 hSw; (try dsimp only at hSw); go_simp) <;> with_reducible rfl
        try simp only [List.setIfInBounds_toArray, List.set_cons_zero, List.set_cons_succ]
        refine take_at 8 79 (v := ?_) rfl rfl (by kernel_rfl) (by kernel_rfl) (by kernel_rfl) (fun _ _ _ h => h) (Or.inl ⟨by rfl, ?_⟩) hH ?_
        rotate_left
        · (intro w9 hSw; (try dsimp only at hSw); go_simp) <;> with_reducible rfl
        try simp only [List.setIfInBounds_toArray, List.set_cons_zero, List.set_cons_succ]
        refine take_at 9 80 (v := ?_) rfl rfl (by kernel_rfl) (by kernel_rfl) (by kernel_rfl) (fun _ _ _ h => h) (Or.inl ⟨by rfl, ?_⟩) hH ?_
        rotate_left
        · (intro w9 hSw; (try dsimp only at hSw); go_simp) <;> with_reducible rfl
        try simp only [List.setIfInBounds_toArray, List.set_cons_zero, List.set_cons_succ]
        refine take_at 10 81 (v := ?_) rfl rfl (by kernel_rfl) (by kernel_rfl) (by kernel_rfl) (fun _ _ _ h => h) (Or.inl ⟨by rfl, ?_⟩) hH ?_
        rotate_left
        · (intro w9 hSw; (try dsimp only at hSw); go_simp) <;> with_reducible rfl
        try simp only [List.setIfInBounds_toArray, List.set_cons_zero, List.set_cons_succ]
        refine take_at 11 82 (v := ?_) rfl rfl (by kernel_rfl) (by kernel_rfl) (by kernel_rfl) (fun _ _ _ h => h) (Or.inl ⟨by rfl, ?_⟩) hH ?_
        rotate_left
        · (intro w9 hSw; (try dsimp only at hSw); go_simp) <;> with_reducible rfl
        try simp only [List.setIfInBounds_toArray, List.set_cons_zero, List.set_cons_succ]
        refine take_at 12 83 (v := ?_) rfl rfl (by kernel_rfl) (by kernel_rfl) (by kernel_rfl) (fun _ _ _ h => h) (Or.inl ⟨by rfl, ?_⟩) hH ?_
        rotate_left
        · (intro w9 hSw; (try dsimp only at hSw); go_simp) <;> with_reducible rfl
        try simp only [List.setIfInBounds_toArray, List.set_cons_zero, List.set_cons_succ]
        refine take_at 13 84 (v := ?_) rfl rfl (by kernel_rfl) (by kernel_rfl) (by kernel_rfl) (fun _ _ _ h => h) (Or.inl ⟨by rfl, ?_⟩) hH ?_
        rotate_left
        · (intro w9 hSw; (try dsimp only at hSw); go_simp) <;> with_reducible rfl
        try simp only [List.setIfInBounds_toArray, List.set_cons_zero, List.set_cons_succ]
        refine take_at 14 85 (v := ?_) rfl rfl (by kernel_rfl) (by kernel_rfl) (by kernel_rfl) (fun _ _ _ h => h) (Or.inl ⟨by rfl, ?_⟩) hH ?_
        rotate_left
        · (intro w9 hSw; (try dsimp only at hSw); go_simp) <;> with_reducible rfl
        try simp only [List.setIfInBounds_toArray, List.set_cons_zero, List.set_cons_succ]
        refine take_at 15 86 (v := ?_) rfl rfl (by kernel_rfl) (by kernel_rfl) (by kernel_rfl) (fun _ _ _ h => h) (Or.inl ⟨by rfl, ?_⟩) hH ?_
        rotate_left
        · (intro w9 hSw; (try dsimp only at hSw); go_simp) <;> with_reducible rfl
        try simp only [List.setIfInBounds_toArray, List.set_cons_zero, List.set_cons_succ]
        refine take_at 16 87 (v := ?_) rfl rfl (by kernel_rfl) (by kernel_rfl) (by kernel_rfl) (fun _ _ _ h => h) (Or.inl ⟨by rfl, ?_⟩) hH ?_
        rotate_left
        · (intro w9 hSw; (try dsimp only at hSw); go_simp) <;> with_reducible rfl
        try simp only [List.setIfInBounds_toArray, List.set_cons_zero, List.set_cons_succ]
        refine take_at 17 88 (v := ?_) rfl rfl (by kernel_rfl) (by kernel_rfl) (by kernel_rfl) (fun _ _ _ h => h) (Or.inl ⟨by rfl, ?_⟩) hH ?_
        rotate_left
        · (intro w9 hSw; (try dsimp only at hSw); go_simp) <;> with_reducible rfl
        try simp only [List.setIfInBounds_toArray, List.set_cons_zero, List.set_cons_succ]
        refine take_at 18 89 (v := ?_) rfl rfl (by kernel_rfl) (by kernel_rfl) (by kernel_rfl) (fun _ _ _ h => h) (Or.inl ⟨by rfl, ?_⟩) hH ?_
        rotate_left
        · (intro w9 hSw; (try dsimp only at hSw); go_simp) <;> with_reducible rfl
        try simp only [List.setIfInBounds_toArray, List.set_cons_zero, List.set_cons_succ]
        refine take_at 19 90 (v := ?_) rfl rfl (by kernel_rfl) (by kernel_rfl) (by kernel_rfl) (fun _ _ _ h => h) (Or.inl ⟨by rfl, ?_⟩) hH ?_
        rotate_left
        · (intro w9 hSw; (try dsimp only at hSw); go_simp) <;> with_reducible rfl
        try simp only [List.setIfInBounds_toArray, List.set_cons_zero, List.set_cons_succ]
        refine take_at 20 91 (v := ?_) rfl rfl (by kernel_rfl) (by kernel_rfl) (by kernel_rfl) (fun _ _ _ h => h) (Or.inl ⟨by rfl, ?_⟩) hH ?_
        rotate_left
        · (intro w9 hSw; (try dsimp only at hSw); go_simp) <;> with_reducible rfl
        try simp only [List.setIfInBounds_toArray, List.set_cons_zero, List.set_cons_succ]
        refine wpAnyH_done (by kernel_rfl) ?_ _
        clear hH s0 s1 s2 s3 s4 s5 s6 s7 s8 s9 z0 z1 z2 z3 z4 z5 z6 z7 qn hq24
        go_wp2
        go_roundw
        case rel => exact ⟨k + 1, by omega, by go_num, HBW.out.trans (((Below.refl _ ww).drew).mono HBW.out.size)⟩
        case measure => simp [intOf]; omega
    · obtain rfl : k = n1 := by omega
      have q1 : ((m : Nat) : Int) ≤ (k : Int) + 1 := by omega
      go_wp2_with fail
      obtain ⟨wt, hwt⟩ : ∃ wt, wt = wo := ⟨_, rfl⟩
      rw [← hwt]
      have HBT := hidd (show Below W.heap.size W wt by rw [hwt]; exact HWW.out)
      have GHT := hidd (show wt.heap[W.heap.size]? = some (.cells (bs H).toArray 36 (0, 0)) by rw [hwt]; exact GHO.out)
      have hzt : W.heap.size < wt.heap.size := by rw [hwt]; omega
      clear hwt q1
      refine (over_any a1 k c1 la a2 n2 c2 lb wt (HS1.out.grow HBT.out) H81.out HW1.out (HS2.out.grow HBT.out) H82.out HW2.out).mono ?_
      rintro e wx ⟨a5, c5, rfl, hs5, hb5⟩
      have HS5 := hidd hs5
      have HBX := hidd (HBT.out.trans (hb5.mono HBT.out.size))
      have GHX := hidd (blk_below hb5 GHT.out hzt)
      clear hs5 hb5
      have hov := ovL_spec lb la (-1) HW1.out H81.out H82.out (by have := HW2.out; unfold writtenB at this; simp only [Bool.and_eq_true] at this; exact this.1) (by omega)
      rcases hov with ⟨hor, hgood⟩
      by_cases h0 : (ovL la lb).2 = 0
      · obtain ⟨g1, g2, g3⟩ := hgood h0
        have HOVW := hidd g1
        have HOV8 := hidd g2
        have HOVL := hidd (writtenB_len g1)
        have HOVO := hidd (g3 H HH.out)
        have HLD := hidd (load_all GHX.out Try.underlying36 rfl (sz36 H HH.out))
        have hq := fun w => eq36 w (onL (onL H la) lb) (onL_len lb _ (onL_len la H HH.out H81.out) H82.out)
        rw [h0]
        clear hor hgood h0 g1 g2 g3
        go_wp2_with fail
        refine wp_region_held_drew (S := fun w' => Below wx.heap.size wx w') (by kernel_rfl) ((Below.refl _ wx).drew) (fun hH => ?_)
        refine take_at 0 111 (v := ?_) rfl rfl (by kernel_rfl) (by kernel_rfl) (by kernel_rfl) (fun _ _ _ h => h) (Or.inl ⟨by rfl, ?_⟩) hH ?_
        rotate_left
        · (intro w9 hSw; (try dsimp only at hSw); go_simp) <;> with_reducible rfl
        try simp only [List.setIfInBounds_toArray, List.set_cons_zero, List.set_cons_succ]
        refine wpAnyH_ready (rs := [1]) (by kernel_rfl) (by simp) ?_
        refine AllReadyH.cons rfl (fun K hK => ?_) AllReadyH.nil
        go_simp
        refine (rwritten_any a5 _ c5 (ovL la lb).1 _ (HS5.out.grow ((Below.refl _ wx).drew)) HOV8.out HOVL.out).mono ?_
        rintro e w6 ⟨rfl, hb6⟩
        rw [HOVW.out]
        have D6 := ((Below.refl wx.heap.size wx).drew).trans hb6
        clear hb6
        dsimp only
        refine hK.out _ _ (D6) (fun hH1 => ?_)
        clear hK K
        clear hH; have hH := hH1; clear hH1
        try simp only [Act.put, List.setIfInBounds_toArray, List.set_cons_zero, List.set_cons_succ]
        refine take_at 2 113 (v := ?_) rfl rfl (by kernel_rfl) (by kernel_rfl) (by kernel_rfl) (fun _ _ _ h => h) (Or.inl ⟨by rfl, ?_⟩) hH ?_
        rotate_left
        · (intro w9 hSw; (try dsimp only at hSw); go_simp) <;> with_reducible rfl
        try simp only [List.setIfInBounds_toArray, List.set_cons_zero, List.set_cons_succ]
        refine take_at 3 114 (v := ?_) rfl rfl (by kernel_rfl) (by kernel_rfl) (by kernel_rfl) (fun _ _ _ h => h) (Or.inl ⟨by rfl, ?_⟩) hH ?_
        rotate_left
        · (intro w9 hSw; (try dsimp only at hSw); refine (exec_load rfl (HLD.out w9 hSw)).trans ?_; with_reducible rfl)
        try simp only [List.setIfInBounds_toArray, List.set_cons_zero, List.set_cons_succ]
        refine take_at 4 115 (v := ?_) rfl rfl (by kernel_rfl) (by kernel_rfl) (by kernel_rfl) (fun _ _ _ h => h) (Or.inl ⟨by rfl, ?_⟩) hH ?_
        rotate_left
        · (intro w9 hSw; (try dsimp only at hSw); go_simp) <;> with_reducible rfl
        try simp only [List.setIfInBounds_toArray, List.set_cons_zero, List.set_cons_succ]
        refine take_at 6 117 (v := ?_) rfl rfl (by kernel_rfl) (by kernel_rfl) (by kernel_rfl) (fun _ _ _ h => h) (Or.inl ⟨by rfl, ?_⟩) hH ?_
        rotate_left
        · (intro w9 hSw; (try dsimp only at hSw); refine (exec_load rfl (HLD.out w9 hSw)).trans ?_; with_reducible rfl)
        try simp only [List.setIfInBounds_toArray, List.set_cons_zero, List.set_cons_succ]
        refine take_at 7 118 (v := ?_) rfl rfl (by kernel_rfl) (by kernel_rfl) (by kernel_rfl) (fun _ _ _ h => h) (Or.inl ⟨by rfl, ?_⟩) hH ?_
        rotate_left
        · (intro w9 hSw; (try dsimp only at hSw); go_simp) <;> with_reducible rfl
        try simp only [List.setIfInBounds_toArray, List.set_cons_zero, List.set_cons_succ]
        refine take_at 9 120 (v := ?_) rfl rfl (by kernel_rfl) (by kernel_rfl) (by kernel_rfl) (fun _ _ _ h => h) (Or.inl ⟨by rfl, ?_⟩) hH ?_
        rotate_left
        · (intro w9 hSw; (try dsimp only at hSw); go_simp) <;> with_reducible rfl
        try simp only [List.setIfInBounds_toArray, List.set_cons_zero, List.set_cons_succ]
        refine wpAnyH_ready (rs := [5]) (by kernel_rfl) (by simp) ?_
        refine AllReadyH.cons rfl (fun K hK => ?_) AllReadyH.nil
        go_simp
        refine (on_any H a5 _ c5 (ovL la lb).1 _ HH.out (HS5.out.grow D6) HOV8.out (by have := HOVL.out; omega)).mono ?_
        rintro e w7 ⟨rfl, hb7⟩
        rw [HOVO.out]
        have D7 := D6.trans (hb7.mono D6.size)
        clear hb7
        dsimp only
        refine hK.out _ _ (D7) (fun hH5 => ?_)
        clear hK K
        clear hH; have hH := hH5; clear hH5
        try simp only [Act.put, List.setIfInBounds_toArray, List.set_cons_zero, List.set_cons_succ]
        refine wpAnyH_ready (rs := [8]) (by kernel_rfl) (by simp) ?_
        refine AllReadyH.cons rfl (fun K hK => ?_) AllReadyH.nil
        go_simp
        refine (on_any H a1 k c1 la _ HH.out (HS1.out.grow (HBX.out.trans (D7.mono HBX.out.size))) H81.out (by omega)).mono ?_
        rintro e w8 ⟨rfl, hb8⟩
        have D8 := D7.trans (hb8.mono D7.size)
        clear hb8
        dsimp only
        refine hK.out _ _ (D8) (fun hH8 => ?_)
        clear hK K
        clear hH; have hH := hH8; clear hH8
        try simp only [Act.put, List.setIfInBounds_toArray, List.set_cons_zero, List.set_cons_succ]
        refine wpAnyH_ready (rs := [10]) (by kernel_rfl) (by simp) ?_
        refine AllReadyH.cons rfl (fun K hK => ?_) AllReadyH.nil
        go_simp
        refine (on_any (onL H la) a2 n2 c2 lb _ (onL_len la H HH.out H81.out) (HS2.out.grow (HBX.out.trans (D8.mono HBX.out.size))) H82.out (by omega)).mono ?_
        rintro e wz ⟨rfl, hbz⟩
        have DZ := D8.trans (hbz.mono D8.size)
        clear hbz
        dsimp only
        refine hK.out _ _ (DZ) (fun hH10 => ?_)
        clear hK K
        clear hH; have hH := hH10; clear hH10
        try simp only [Act.put, List.setIfInBounds_toArray, List.set_cons_zero, List.set_cons_succ]
        refine take_at 11 122 (v := ?_) rfl rfl (by kernel_rfl) (by kernel_rfl) (by kernel_rfl) (fun _ _ _ h => h) (Or.inl ⟨by rfl, ?_⟩) hH ?_
        rotate_left
        · (intro w9 hSw; (try dsimp only at hSw); go_simp) <;> with_reducible rfl
        try simp only [List.setIfInBounds_toArray, List.set_cons_zero, List.set_cons_succ]
        refine take_at 12 123 (v := ?_) rfl rfl (by kernel_rfl) (by kernel_rfl) (by kernel_rfl) (fun _ _ _ h => h) (Or.inl ⟨by rfl, ?_⟩) hH ?_
        rotate_left
        · (intro w9 hSw; (try dsimp only at hSw); go_simp) <;> with_reducible rfl
        try simp only [List.setIfInBounds_toArray, List.set_cons_zero, List.set_cons_succ]
        refine take_at 13 124 (v := ?_) rfl rfl (by kernel_rfl) (by kernel_rfl) (by kernel_rfl) (fun _ _ _ h => h) (Or.inl ⟨by rfl, ?_⟩) hH ?_
        rotate_left
        · (intro w9 hSw; (try dsimp only at hSw); go_simp) <;> with_reducible rfl
        try simp only [List.setIfInBounds_toArray, List.set_cons_zero, List.set_cons_succ]
        refine wpAnyH_ready (rs := [14]) (by kernel_rfl) (by simp) ?_
        refine AllReadyH.cons rfl (fun K hK => ?_) AllReadyH.nil
        go_simp
        refine (wakes08 _).mono ?_
        rintro e wy ⟨rfl, hby⟩
        have DY := DZ.trans (hby.mono DZ.size)
        clear hby
        dsimp only
        refine hK.out _ _ (DY) (fun hH14 => ?_)
        clear hK K
        clear hH; have hH := hH14; clear hH14
        try simp only [Act.put, List.setIfInBounds_toArray, List.set_cons_zero, List.set_cons_succ]
        refine take_at 15 126 (v := ?_) rfl rfl (by kernel_rfl) (by kernel_rfl) (by kernel_rfl) (fun _ _ _ h => h) (Or.inl ⟨by rfl, ?_⟩) hH ?_
        rotate_left
        · (intro w9 hSw; (try dsimp only at hSw); go_simp) <;> with_reducible rfl
        try simp only [List.setIfInBounds_toArray, List.set_cons_zero, List.set_cons_succ]
        refine take_at 16 8 (v := ?_) rfl rfl (by kernel_rfl) (by kernel_rfl) (by kernel_rfl) (fun _ _ _ h => h) (Or.inl ⟨by rfl, ?_⟩) hH ?_
        rotate_left
        · (intro w9 hSw; (try dsimp only at hSw); go_simp) <;> with_reducible rfl
        try simp only [List.setIfInBounds_toArray, List.set_cons_zero, List.set_cons_succ]
        refine wpAnyH_done (by kernel_rfl) ?_ _
        clear hH hq
        have DY := hidd DY
        clear D6 D7 D8 DZ
        go_wp2
        go_ret
        exact ⟨rfl, HBX.out.trans (DY.out.mono HBX.out.size)⟩
      · have h50 : (ovL la lb).2 = 50 := by
          rcases hor with h | h
          · exact absurd h h0
          · exact h
        rw [h50]
        clear hor hgood h0 h50
        go_wp2_with (go_at_call 8; refine (wakes08 _).mono ?_; rintro e w9 ⟨rfl, hb9⟩)
        go_ret
        exact ⟨rfl, HBX.out.trans (hb9.mono HBX.out.size)⟩
end Go.Proofs.Ytdoicmjomlaoaaa
