import Derived.Test.YtdoicmjomlaoaaaO6
namespace Go.Proofs.Ytdoicmjomlaoaaa
open Go.RowKit
set_option maxRecDepth 100000 in
set_option maxHeartbeats 4000000 in
theorem put_new (a : Option Addr) (n c : Nat) (l : List Wr) (p : Wr) (W : World) (hs : Sl W a n c 9 (wcs l)) (h8 : W8 l) (hn : n ≤ 1000) (hp : p.2.length = 8) (hw : writtenB l = true) (h0 : 0 ≤ p.1) (h32 : p.1 < 32) (ht : thB p.1 l = false) (hf : n < 8) :
    Calls Try.prog 9 #[.slice a n c, .agg (wc p).toArray] W fun e w' => ∃ a' c', e = .returned (.tuple #[.slice a' (n + 1) c', .int .i64 0]) ∧ Sl w' a' (n + 1) c' 9 (wcs (l.take (plK p.1 l) ++ [p] ++ l.drop (plK p.1 l))) ∧ Below W.heap.size W w' := by
  have HS := hidd hs
  have H8 := hidd h8
  have HL := hidd (show l.length = n by have := hs.len; rw [wcs_len h8] at this; omega)
  have HW := hidd hw
  have HT := hidd ht
  have hcap := hs.le
  have he8 : ((n : Int) == 8) = false := by simp; omega
  have hmax := hs.max
  have HP := hidd hp
  obtain ⟨k, hk⟩ : ∃ k, k = plK p.1 l := ⟨_, rfl⟩
  have HK := hidd hk
  have hkn : k ≤ n := by rw [hk, ← HL.out]; exact plK_le _ _
  have HPLN : Hid (∀ (w : World), Sl w a n c 9 (wcs l) → Calls Try.prog 22 #[.slice a n c, .int .i64 p.1, .func (.func 23) #[] #[]] w fun e w' => e = .returned (.tuple #[.int .i64 (k : Nat), .bool (thB p.1 l)]) ∧ Below w.heap.size w w') := hidd (fun w h => by rw [hk]; exact place_any a n c l p.1 w h h8 hn)
  obtain ⟨B, b0, b1, b2, b3, b4, b5, b6, b7, rfl⟩ := wr8 hp
  simp only at h0 h32 hk
  have HKL := hidd hk
  clear hs h8 hp hw ht hk
  rw [show (wc (B, [b0, b1, b2, b3, b4, b5, b6, b7])).toArray = aggW B b0 b1 b2 b3 b4 b5 b6 b7 from rfl]
  go_enter Try.func9, Try.ntmps9
  go_wp2_with fail
  refine (written_any a n c l _ (HS.out.grow ((Below.refl _ W).alloc (Nat.le_refl _) _)) H8.out hn).mono ?_
  rintro e w1 ⟨rfl, hb1⟩
  rw [HW.out]
  have G1 := blk_below hb1 (heap_alloc_new W _) (by simp)
  obtain ⟨k1, f1⟩ := blk G1
  have HG1 := hidd G1
  have hz1 : W.heap.size < w1.heap.size := by have := hb1.size; simp at this; omega
  have HB := hidd (((Below.refl _ W).alloc (Nat.le_refl _) (.cells (aggW B b0 b1 b2 b3 b4 b5 b6 b7) 26)).trans (hb1.mono (by simp)))
  clear hb1 G1
  go_wp2_with fail
  refine (HPLN.out w1 (HS.out.grow HB.out)).mono ?_
  rintro e w2 ⟨rfl, hb2⟩
  have HTH := hidd (show thB B l = _ from HT.out)
  rw [HTH.out]
  have G2 := blk_below hb2 HG1.out hz1
  have HG2 := hidd G2
  clear k1 f1
  obtain ⟨k1, f1⟩ := blk G2
  have hz2 : W.heap.size < w2.heap.size := by have := hb2.size; omega
  have HB2 := hidd (HB.out.trans (hb2.mono (by omega)))
  have HS2 := hidd (HS.out.grow HB2.out)
  have k0 : (0 : Int) ≤ (k : Int) := by omega
  have kn : (k : Int) ≤ (n : Int) := by omega
  clear hb2 G2
  have kc : (k : Int) ≤ (c : Int) := by omega
  have hbs : ∀ w, (Instr.buildSlice 22 1 #[(0, .agg (aggW B b0 b1 b2 b3 b4 b5 b6 b7))]).run Try.prog w = .ok (.slice (some ⟨w.heap.size, 0, none⟩) 1 1) (w.alloc (.cells (aggW B b0 b1 b2 b3 b4 b5 b6 b7) 26)) := fun _ => by kernel_rfl
  have HBS := hidd hbs
  have HLD := hidd (load_all HG2.out Try.underlying26 rfl (aggW_sz B b0 b1 b2 b3 b4 b5 b6 b7))
  have hsk := HS2.out.cut 0 k k (Nat.zero_le _) hkn (Nat.le_refl _) (by omega)
  rw [wcs_take l k H8.out, Nat.zero_mul, List.drop_zero] at hsk
  have HSK := hidd (fun w' (h : Below w2.heap.size w2 w') => hsk.grow h)
  have hsd := HS2.out.cut k n c hkn (Nat.le_refl _) hcap (Nat.le_refl _)
  rw [List.take_of_length_le (by rw [wcs_len H8.out, HL.out]; exact Nat.le_refl _), wcs_drop l k H8.out] at hsd
  have HSD := hidd (fun w' (h : Below w2.heap.size w2 w') => hsd.grow h)
  clear hbs hsk hsd
  go_wp2_with fail
  refine wp_region_held_drew (S := fun w' => Below w2.heap.size w2 w') (by kernel_rfl) ((Below.refl _ w2).drew) (fun hH => ?_)
  refine take_at 0 41 (v := ?_) rfl rfl (by kernel_rfl) (by kernel_rfl) (by kernel_rfl) (fun _ _ _ h => h) (Or.inl ⟨by rfl, ?_⟩) hH ?_
  rotate_left
  · (intro w9 hSw; (try dsimp only at hSw); go_simp) <;> with_reducible rfl
  try simp only [Act.put, List.setIfInBounds_toArray, List.set_cons_zero, List.set_cons_succ]
  refine take_at 1 42 (v := ?_) rfl rfl (by kernel_rfl) (by kernel_rfl) (by kernel_rfl) (fun _ _ _ h => h) (Or.inl ⟨by rfl, ?_⟩) hH ?_
  rotate_left
  · (intro w9 hSw; (try dsimp only at hSw); go_simp) <;> with_reducible rfl
  try simp only [Act.put, List.setIfInBounds_toArray, List.set_cons_zero, List.set_cons_succ]
  refine take_at 2 43 (v := ?_) rfl rfl (by kernel_rfl) (by kernel_rfl) (by kernel_rfl) (fun _ _ _ h => h) (Or.inl ⟨by rfl, ?_⟩) hH ?_
  rotate_left
  · (intro w9 hSw; (try dsimp only at hSw); go_simp) <;> with_reducible rfl
  try simp only [Act.put, List.setIfInBounds_toArray, List.set_cons_zero, List.set_cons_succ]
  refine take_at 3 44 (v := ?_) rfl rfl (by kernel_rfl) (by kernel_rfl) (by kernel_rfl) (fun _ _ _ h => h) (Or.inl ⟨by rfl, ?_⟩) hH ?_
  rotate_left
  · (intro w9 hSw; (try dsimp only at hSw); refine (exec_cut_hm wT rfl rfl rfl rfl k0 (Int.le_refl _) kc).trans ?_; with_reducible rfl)
  try simp only [Act.put, List.setIfInBounds_toArray, List.set_cons_zero, List.set_cons_succ]
  refine take_at 4 45 (v := ?_) rfl rfl (by kernel_rfl) (by kernel_rfl) (by kernel_rfl) (fun _ _ _ h => h) (Or.inl ⟨by rfl, ?_⟩) hH ?_
  rotate_left
  · (intro w9 hSw; (try dsimp only at hSw); refine (exec_load rfl (HLD.out w9 hSw)).trans ?_; with_reducible rfl)
  try simp only [Act.put, List.setIfInBounds_toArray, List.set_cons_zero, List.set_cons_succ]
  refine take_at 7 48 (v := ?_) rfl rfl (by kernel_rfl) (by kernel_rfl) (by kernel_rfl) (fun _ _ _ h => h) (Or.inl ⟨by rfl, ?_⟩) hH ?_
  rotate_left
  · (intro w9 hSw; (try dsimp only at hSw); go_simp) <;> with_reducible rfl
  try simp only [Act.put, List.setIfInBounds_toArray, List.set_cons_zero, List.set_cons_succ]
  refine take_at 8 49 (v := ?_) rfl rfl (by kernel_rfl) (by kernel_rfl) (by kernel_rfl) (fun _ _ _ h => h) (Or.inl ⟨by rfl, ?_⟩) hH ?_
  rotate_left
  · (intro w9 hSw; (try dsimp only at hSw); go_simp) <;> with_reducible rfl
  try simp only [Act.put, List.setIfInBounds_toArray, List.set_cons_zero, List.set_cons_succ]
  refine take_at 9 50 (v := ?_) rfl rfl (by kernel_rfl) (by kernel_rfl) (by kernel_rfl) (fun _ _ _ h => h) (Or.inl ⟨by rfl, ?_⟩) hH ?_
  rotate_left
  · (intro w9 hSw; (try dsimp only at hSw); refine (exec_cut_l wT rfl rfl rfl k0 kn).trans ?_; with_reducible rfl)
  try simp only [Act.put, List.setIfInBounds_toArray, List.set_cons_zero, List.set_cons_succ]
  refine wpAnyH_ready (rs := [5]) (by kernel_rfl) (by simp) ?_
  refine AllReadyH.cons rfl (fun K hK => ?_) AllReadyH.nil
  skip
  refine step_run rfl 46 rfl (exec_build rfl rfl (HBS.out _)) ?_
  have D1 := ((Below.refl w2.heap.size w2).drew).alloc (Nat.le_refl _) (.cells (aggW B b0 b1 b2 b3 b4 b5 b6 b7) 26)
  refine hK.out _ _ (D1) (fun hH5 => ?_)
  clear hK K
  clear hH; have hH := hH5; clear hH5
  try simp only [Act.put, List.setIfInBounds_toArray, List.set_cons_zero, List.set_cons_succ]
  refine wpAnyH_ready (rs := [6]) (by kernel_rfl) (by simp) ?_
  refine AllReadyH.cons rfl (fun K hK => ?_) AllReadyH.nil
  skip
  refine step_app_new wT rfl (.tmp 44) (.tmp 46) rfl _ _ _ (wcs (l.take k)) rfl (HSK.out _ D1) _ 1 1 (wc (B, [b0, b1, b2, b3, b4, b5, b6, b7])) rfl (Sl.fresh_at w2.drew (wc (B, [b0, b1, b2, b3, b4, b5, b6, b7])) 26 1 9 _ rfl rfl (by decide)) (by rw [← wcs_one]; exact wcs_cell _) (by show (k : Int).toNat - 0 < (k : Int).toNat - 0 + 1; omega) (by simp; omega) (by simp; omega) 47 rfl ?_
  intro v3 w3 hown3 hb3
  have D3 := D1.trans (hb3.mono D1.size)
  have HO3 := hidd hown3
  clear hown3
  refine hK.out _ _ (D3) (fun hH6 => ?_)
  clear hK K
  clear hH; have hH := hH6; clear hH6
  try simp only [Act.put, List.setIfInBounds_toArray, List.set_cons_zero, List.set_cons_succ]
  refine wpAnyH_ready (rs := [10]) (by kernel_rfl) (by simp) ?_
  refine AllReadyH.cons rfl (fun K hK => ?_) AllReadyH.nil
  skip
  refine step_app wT rfl (.tmp 47) (.tmp 50) rfl w2.heap.size v3 _ _ rfl (own_mono HO3.out D1.size) _ _ _ (wcs (l.drop k)) rfl (HSD.out w3 D3) (wcs_cell _) (by simp; omega) (by simp; omega) D3.size 51 rfl ?_
  intro v4 w4 hown4 hb4
  have D4 := D3.trans hb4
  have HO4 := hidd hown4
  clear hown4
  refine hK.out _ _ (D4) (fun hH10 => ?_)
  clear hK K
  clear hH; have hH := hH10; clear hH10
  try simp only [Act.put, List.setIfInBounds_toArray, List.set_cons_zero, List.set_cons_succ]
  refine take_at 11 4 (v := ?_) rfl rfl (by kernel_rfl) (by kernel_rfl) (by kernel_rfl) (fun _ _ _ h => h) (Or.inl ⟨by rfl, ?_⟩) hH ?_
  rotate_left
  · (intro w9 hSw; (try dsimp only at hSw); go_simp) <;> with_reducible rfl
  try simp only [Act.put, List.setIfInBounds_toArray, List.set_cons_zero, List.set_cons_succ]
  refine take_at 12 5 (v := ?_) rfl rfl (by kernel_rfl) (by kernel_rfl) (by kernel_rfl) (fun _ _ _ h => h) (Or.inl ⟨by rfl, ?_⟩) hH ?_
  rotate_left
  · (intro w9 hSw; (try dsimp only at hSw); go_simp) <;> with_reducible rfl
  try simp only [Act.put, List.setIfInBounds_toArray, List.set_cons_zero, List.set_cons_succ]
  refine wpAnyH_done (by kernel_rfl) ?_ _
  clear hH D1 D3
  have ho := HO4.out
  have e1 : (k : Int).toNat - 0 + 1 + (n - (k : Int).toNat) = n + 1 := by simp; omega
  rw [e1] at ho
  obtain ⟨a4, c4, hv4, hs4⟩ := own_Sl ho
  rw [hv4]
  have HS4 := hidd hs4
  have D4 := hidd D4
  clear ho e1 hv4 hs4
  go_wp2
  go_ret2
  refine ⟨_, _, rfl, ?_, HB2.out.trans (D4.out.mono (by omega))⟩
  have e := HS4.out
  rw [← wcs_one, ← wcs_append, ← wcs_append, HKL.out] at e
  exact e
end Go.Proofs.Ytdoicmjomlaoaaa
