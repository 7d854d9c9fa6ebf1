import Derived.Test.YtdoicmjomlaoaaaOH
namespace Go.Proofs.Ytdoicmjomlaoaaa
open Go.RowKit
/-- a block's bytes put over -/
def over8 (H : List UInt8) (k : Nat) (v : List UInt8) : List UInt8 := H.take (k * 8) ++ v ++ H.drop (k * 8 + 8)
/-- writes on blocks -/
def onL (H : List UInt8) : List Wr → List UInt8
  | [] => H
  | p :: r => onL (if 0 ≤ p.1 ∧ p.1 < 32 then over8 H p.1.toNat p.2 else H) r
theorem over8_len (H : List UInt8) (k : Nat) (v : List UInt8) (hH : H.length = 256) (hk : k < 32) (hv : v.length = 8) : (over8 H k v).length = 256 := by
  unfold over8
  rw [List.length_append, List.length_append, List.length_take, List.length_drop]
  omega
theorem sz36 (H : List UInt8) (hH : H.length = 256) : (Try.prog.info? 36).map (·.size) = some (bs H).toArray.size := by
  rw [List.size_toArray, bs_length, hH]
  kernel_rfl
def z36 : List UInt8 := List.replicate 256 0
theorem zero36 (w : World) : (zeroValue 36).run Try.prog w = .ok (.agg (bs z36).toArray) w := by kernel_rfl
theorem z36_len : z36.length = 256 := by unfold z36; exact List.length_replicate
theorem bs_oneA (H : List UInt8) : (bs H).toArray.all (·.oneCell') = true := all_oneCell_toArray (bs_one H)
theorem size_setC (g : Nat) : ∀ (vs : List Value) (o : Nat) (w : World), (w.setCells g o vs).heap.size = w.heap.size
  | [], _, _ => rfl
  | v :: r, o, w => by
    simp only [World.setCells]
    rw [size_setC g r (o + 1)]
    simp [World.setCell]
theorem heap_setCo {g i : Nat} (h : i ≠ g) : ∀ {vs : List Value} {o : Nat} {w : World}, (w.setCells g o vs).heap[i]? = w.heap[i]?
  | [], _, _ => rfl
  | v :: r, o, w => by
    simp only [World.setCells]
    rw [heap_setCo h]
    exact heap_setCell_other w ⟨g, o, none⟩ i v h
theorem there_bs {w : World} {g : Nat} {H : List UInt8} {t : TypeId} (hg : w.heap[g]? = some (.cells (bs H).toArray t (0, 0))) (o n : Nat) (h : o + n ≤ H.length) : w.there g o n := by
  intro j hj
  refine ⟨?_, (blk hg).2 _⟩
  rw [(blk hg).1, List.getElem?_toArray, List.getElem?_eq_getElem (by rw [bs_length]; omega)]
  rfl
theorem heap_over8 {w : World} {g : Nat} {H : List UInt8} {t : TypeId} (hg : w.heap[g]? = some (.cells (bs H).toArray t (0, 0))) (k : Nat) (v : List UInt8) (hH : H.length = 256) (hk : k < 32) (hv : v.length = 8) :
    (w.setCells g (k * 8) (bs v)).heap[g]? = some (.cells (bs (over8 H k v)).toArray t (0, 0)) := by
  rw [heap_setCells (bs v) (k * 8) w (bs H) hg (by rw [bs_length, bs_length]; omega), bs_length, hv]
  unfold over8 bs
  rw [List.map_append, List.map_append, List.map_take, List.map_drop]
set_option maxRecDepth 100000 in
set_option maxHeartbeats 4000000 in
theorem on_any (H : List UInt8) (a : Option Addr) (n c : Nat) (l : List Wr) (W : World) (hH : H.length = 256) (hs : Sl W a n c 9 (wcs l)) (h8 : W8 l) (hn : n ≤ 1000) :
    Calls Try.prog 14 #[.agg (bs H).toArray, .slice a n c] W fun e w' => e = .returned (.agg (bs (onL H l)).toArray) ∧ Below W.heap.size W w' := by
  have HS := hidd hs
  have H8 := hidd h8
  have HH := hidd hH
  have HL := hidd (show l.length = n by have := hs.len; rw [wcs_len h8] at this; omega)
  clear hs h8 hH
  have hzv := zero36
  go_enter Try.func14, Try.ntmps14
  go_wp2_with fail
  clear hzv
  go_loopw [9] (fun i wr => ∃ (k : Nat) (Hk : List UInt8), k ≤ n ∧ i = .int .i64 k ∧ Hk.length = 256 ∧ onL H l = onL Hk (l.drop k) ∧ wr.heap[W.heap.size]? = some (.cells (bs Hk).toArray 36 (0, 0)) ∧ wr.heap[W.heap.size + 1]? = some (.cells (bs z36).toArray 36 (0, 0)) ∧ W.heap.size + 1 < wr.heap.size ∧ Below W.heap.size W wr) (fun i _ => n - (intOf i).toNat)
  case atStart => exact ⟨0, H, by omega, rfl, HH.out, rfl, heap_alloc2_old W _ _, heap_alloc2_new W _ _, by simp, ((Below.refl _ W).alloc (Nat.le_refl _) _).alloc (by simp) _⟩
  case round =>
    obtain ⟨k, Hk, hk, rfl, hk256, hon, hg0, hg1, hsz, hbel⟩ := hrel
    obtain ⟨wo, rfl⟩ : ∃ wo, wo = wr := ⟨_, rfl⟩
    have HW := hidd hbel
    have HK := hidd hk256
    have HON := hidd hon
    have G0 := hidd hg0
    have G1 := hidd hg1
    clear hk256 hon hg0 hg1
    by_cases hlt : k < n
    · obtain ⟨b, off, p, rfl, hp, hp8, hc⟩ := wr_at (HS.out.grow hbel) H8.out k hlt
      obtain ⟨B, b0, b1, b2, b3, b4, b5, b6, b7, rfl⟩ := wr8 hp8
      obtain ⟨c0, c1, c2, c3, c4, c5, c6, c7, c8⟩ := wr_cells hc
      have hd : l.drop k = (B, [b0, b1, b2, b3, b4, b5, b6, b7]) :: l.drop (k + 1) := by
        obtain ⟨hk', e⟩ := List.getElem?_eq_some_iff.1 hp
        rw [← e]
        exact List.drop_eq_getElem_cons hk'
      have hon : onL H l = onL (if 0 ≤ B ∧ B < 32 then over8 Hk B.toNat [b0, b1, b2, b3, b4, b5, b6, b7] else Hk) (l.drop (k + 1)) := by
        rw [HON.out, hd]
        rfl
      have HO2 := hidd hon
      have i0 : (0 : Int) ≤ (k : Int) := by omega
      have i1 : (k : Int) < (n : Int) := by omega
      have hbsz := hbel.size
      clear hp hp8 hbel hc hd hon
      by_cases hB : 0 ≤ B ∧ B < 32
      · have hon := HO2.out
        rw [if_pos hB] at hon
        have HO3 := hidd hon
        obtain ⟨hB0, hB32⟩ := hB
        obtain ⟨B, rfl⟩ : ∃ M : Nat, B = M := ⟨B.toNat, by omega⟩
        have HTH := hidd (show (wo.alloc (.cells (aggW (B : Int) b0 b1 b2 b3 b4 b5 b6 b7) 26)).there W.heap.size (B * 8) (a24 b0 b1 b2 b3 b4 b5 b6 b7).size from there_bs ((heap_alloc_old wo _ (by omega)).trans G0.out) _ 8 (by rw [HK.out]; omega))
        have HNW := hidd (heap_over8 (show (wo.alloc (.cells (aggW (B : Int) b0 b1 b2 b3 b4 b5 b6 b7) 26)).heap[W.heap.size]? = some (.cells (bs Hk).toArray 36 (0, 0)) from (heap_alloc_old wo _ (by omega)).trans G0.out) B [b0, b1, b2, b3, b4, b5, b6, b7] HK.out (by omega) rfl)
        clear hon
        go_wp2_with (with_reducible refine wpList_store_mid rfl 24 (.tmp 25) (.tmp 24) rfl W.heap.size (B * 8) (a24 b0 b1 b2 b3 b4 b5 b6 b7) rfl rfl HTH.out (a24_sz b0 b1 b2 b3 b4 b5 b6 b7) (a24_one b0 b1 b2 b3 b4 b5 b6 b7) ?_)
        refine ⟨⟨k + 1, _, by omega, by go_num, over8_len Hk B [b0, b1, b2, b3, b4, b5, b6, b7] HK.out (by omega) rfl, HO3.out, HNW.out, ?_, ?_, ?_⟩, by simp [intOf]; omega⟩
        · rw [heap_setCo (by omega)]
          exact (heap_alloc_old wo _ (by omega)).trans G1.out
        · rw [size_setC]
          simp
          omega
        · exact below_setC (Nat.le_refl _) _ _ _ (HW.out.alloc HW.out.size _)
      · have hon := HO2.out
        rw [if_neg hB] at hon
        have HO3 := hidd hon
        clear hon
        have HGN0 := hidd (show (wo.alloc (.cells (aggW B b0 b1 b2 b3 b4 b5 b6 b7) 26)).heap[W.heap.size]? = some (.cells (bs Hk).toArray 36 (0, 0)) from (heap_alloc_old wo _ (by omega)).trans G0.out)
        have HGN1 := hidd (show (wo.alloc (.cells (aggW B b0 b1 b2 b3 b4 b5 b6 b7) 26)).heap[W.heap.size + 1]? = some (.cells (bs z36).toArray 36 (0, 0)) from (heap_alloc_old wo _ (by omega)).trans G1.out)
        by_cases hB0 : 0 ≤ B
        · have hB32 : 32 ≤ B := by omega
          clear hB
          go_wp2
          exact ⟨⟨k + 1, Hk, by omega, by go_num, HK.out, HO3.out, HGN0.out, HGN1.out, by simp; omega, HW.out.alloc HW.out.size _⟩, by simp [intOf]; omega⟩
        · clear hB
          go_wp2
          exact ⟨⟨k + 1, Hk, by omega, by go_num, HK.out, HO3.out, HGN0.out, HGN1.out, by simp; omega, HW.out.alloc HW.out.size _⟩, by simp [intOf]; omega⟩
    · obtain rfl : k = n := by omega
      have hon := HON.out
      rw [List.drop_of_length_le (by rw [HL.out]; exact Nat.le_refl _)] at hon
      simp only [onL] at hon
      have HON2 := hidd hon
      have HOZ := hidd (show (bs z36).toArray.size = (bs Hk).toArray.size by rw [List.size_toArray, List.size_toArray, bs_length, bs_length, z36_len, HK.out])
      clear hon hbel
      go_wp2_with (first | (with_reducible refine wpList_load_row rfl 36 (.tmp 2) rfl W.heap.size rfl 36 (bs Hk).toArray (0, 0) _ G0.out Try.underlying36 rfl (sz36 Hk HK.out) ?_) | (with_reducible refine wpList_store_row rfl 36 (.tmp 4) (.tmp 27) rfl (W.heap.size + 1) (bs Hk).toArray rfl rfl 36 (bs z36).toArray G1.out (sz36 Hk HK.out) HOZ.out (bs_oneA Hk) ?_))
      refine bodyPost_ret (results_cell_row Try.results14 _ _ (W.heap.size + 1) 36 (bs Hk).toArray (0, 0) _ rfl (setRow_heap _ _ _ _ _ _ G1.out) Try.underlying36 rfl (sz36 Hk HK.out)) rfl ⟨by rw [HON2.out], below_setRow HW.out (by omega) _⟩
end Go.Proofs.Ytdoicmjomlaoaaa
