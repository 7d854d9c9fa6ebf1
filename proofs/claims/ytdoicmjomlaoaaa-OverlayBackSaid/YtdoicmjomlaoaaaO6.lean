import Derived.Test.YtdoicmjomlaoaaaO5
namespace Go.Proofs.Ytdoicmjomlaoaaa
open Go.RowKit
abbrev aggW (B : Int) (b0 b1 b2 b3 b4 b5 b6 b7 : UInt8) : Array Value := #[.int .i64 B, .int .u8 (b0.toNat : Int), .int .u8 (b1.toNat : Int), .int .u8 (b2.toNat : Int), .int .u8 (b3.toNat : Int), .int .u8 (b4.toNat : Int), .int .u8 (b5.toNat : Int), .int .u8 (b6.toNat : Int), .int .u8 (b7.toNat : Int)]
theorem aggW_sz (B : Int) (b0 b1 b2 b3 b4 b5 b6 b7 : UInt8) : (Try.prog.info? 26).map (·.size) = some (aggW B b0 b1 b2 b3 b4 b5 b6 b7).size := by kernel_rfl
theorem aggW_one (B : Int) (b0 b1 b2 b3 b4 b5 b6 b7 : UInt8) : (aggW B b0 b1 b2 b3 b4 b5 b6 b7).all (·.oneCell') = true := by
  rw [Array.all_eq_true_iff_forall_mem]
  intro v hv
  exact wcs_cell [(B, [b0, b1, b2, b3, b4, b5, b6, b7])] v (by rw [wcs_one]; simpa [wc, bs] using hv)
theorem own_at {w : World} {base : Nat} {e : TypeId} {a : Option Addr} {n c : Nat} {xs : List Value} (h : w.ownsRow base e 9 (.slice a n c) n xs) : Sl w a n c 9 xs := by
  obtain ⟨a2, c2, e2, hs2⟩ := own_Sl h
  injection e2 with q1 q2 q3
  subst q1 q3
  exact hs2
theorem thB_lt {key : Int} {l : List Wr} (h : thB key l = true) : plK key l < l.length := by
  unfold thB at h
  rcases Nat.lt_or_ge (plK key l) l.length with h1 | h1
  · exact h1
  · rw [List.getElem?_eq_none h1] at h
    cases h
set_option maxRecDepth 100000 in
set_option maxHeartbeats 4000000 in
theorem put_there (a : Option Addr) (n c : Nat) (l : List Wr) (p : Wr) (W : World) (hs : Sl W a n c 9 (wcs l)) (h8 : W8 l) (hn : n ≤ 1000) (hp : p.2.length = 8) (hw : writtenB l = true) (h0 : 0 ≤ p.1) (h32 : p.1 < 32) (ht : thB p.1 l = true) :
    Calls Try.prog 9 #[.slice a n c, .agg (wc p).toArray] W fun e w' => ∃ a' c', e = .returned (.tuple #[.slice a' n c', .int .i64 0]) ∧ Sl w' a' n c' 9 (wcs (l.set (plK p.1 l) p)) ∧ Below W.heap.size W w' := by
  have HS := hidd hs
  have H8 := hidd h8
  have HL := hidd (show l.length = n by have := hs.len; rw [wcs_len h8] at this; omega)
  have HW := hidd hw
  have HT := hidd ht
  have hcap := hs.le
  have hmax := hs.max
  have HP := hidd hp
  obtain ⟨k, hk⟩ : ∃ k, k = plK p.1 l := ⟨_, rfl⟩
  have HK := hidd hk
  have hkn : k ≤ n := by rw [hk, ← HL.out]; exact plK_le _ _
  have HPLN : Hid (∀ (w : World), Sl w a n c 9 (wcs l) → Calls Try.prog 22 #[.slice a n c, .int .i64 p.1, .func (.func 23) #[] #[]] w fun e w' => e = .returned (.tuple #[.int .i64 (k : Nat), .bool (thB p.1 l)]) ∧ Below w.heap.size w w') := hidd (fun w h => by rw [hk]; exact place_any a n c l p.1 w h h8 hn)
  obtain ⟨B, b0, b1, b2, b3, b4, b5, b6, b7, rfl⟩ := wr8 hp
  simp only at h0 h32 hk
  have hkl : k < n := by rw [hk, ← HL.out]; exact thB_lt ht
  have HKL := hidd hk
  clear hs h8 hp hw ht hk
  rw [show (wc (B, [b0, b1, b2, b3, b4, b5, b6, b7])).toArray = aggW B b0 b1 b2 b3 b4 b5 b6 b7 from rfl]
  go_enter Try.func9, Try.ntmps9
  go_wp2_with fail
  refine (written_any a n c l _ (HS.out.grow ((Below.refl _ W).alloc (Nat.le_refl _) _)) H8.out hn).mono ?_
  rintro e w1 ⟨rfl, hb1⟩
  rw [HW.out]
  have G1 := blk_below hb1 (heap_alloc_new W _) (by simp)
  obtain ⟨k1, f1⟩ := blk G1
  have HG1 := hidd G1
  have hz1 : W.heap.size < w1.heap.size := by have := hb1.size; simp at this; omega
  have HB := hidd (((Below.refl _ W).alloc (Nat.le_refl _) (.cells (aggW B b0 b1 b2 b3 b4 b5 b6 b7) 26)).trans (hb1.mono (by simp)))
  clear hb1 G1
  go_wp2_with fail
  refine (HPLN.out w1 (HS.out.grow HB.out)).mono ?_
  rintro e w2 ⟨rfl, hb2⟩
  have HTH := hidd (show thB B l = _ from HT.out)
  rw [HTH.out]
  have G2 := blk_below hb2 HG1.out hz1
  have HG2 := hidd G2
  clear k1 f1
  obtain ⟨k1, f1⟩ := blk G2
  have hz2 : W.heap.size < w2.heap.size := by have := hb2.size; omega
  have HB2 := hidd (HB.out.trans (hb2.mono (by omega)))
  have HS2 := hidd (HS.out.grow HB2.out)
  have k0 : (0 : Int) ≤ (k : Int) := by omega
  have kn : (k : Int) ≤ (n : Int) := by omega
  clear hb2 G2
  have i1 : (k : Int) < (n : Int) := by omega
  go_wp2_with (first | (at_builtin; refine wpList_app wT rfl (.const (.slice none 0 0)) (.tmp 30) rfl w2.heap.size _ 0 [] rfl (World.ownsRow_nil _ _ _ _) a n c (wcs l) rfl HS2.out (wcs_cell l) (by omega) (by omega) (Nat.le_refl _) ?_; intro v' w3 hown3 _ hb3; rw [Nat.zero_add, List.nil_append] at hown3; obtain ⟨g, cap, hv, hg, hth, hown4⟩ := own_set hown3 H8.out (B, [b0, b1, b2, b3, b4, b5, b6, b7]) rfl k hkl; have HV := hidd hv; have HTHE := hidd (show w3.there g (k * 9) (aggW B b0 b1 b2 b3 b4 b5 b6 b7).size from hth); have HOWN := hidd hown4; have HG := hidd hg; have HB3 := hidd hb3; have G3 := blk_below hb3 HG2.out hz2; clear k1 f1; obtain ⟨k1, f1⟩ := blk G3; rw [hv]; clear hv hg hth hown4 hb3 G3 hown3) | (with_reducible refine wpList_store_mid rfl 26 (.tmp 35) (.tmp 34) rfl g (k * 9) (aggW B b0 b1 b2 b3 b4 b5 b6 b7) rfl rfl HTHE.out (aggW_sz B b0 b1 b2 b3 b4 b5 b6 b7) (aggW_one B b0 b1 b2 b3 b4 b5 b6 b7) ?_))
  go_ret2
  refine ⟨_, _, rfl, ?_, ?_⟩
  · have ho := HOWN.out
    rw [HV.out, HKL.out] at ho
    rw [HKL.out]
    exact own_at ho
  · exact below_setC (by have := HG.out; omega) _ _ _ (HB2.out.trans (HB3.out.mono (by omega)))
set_option maxRecDepth 100000 in
set_option maxHeartbeats 4000000 in
theorem put_full (a : Option Addr) (n c : Nat) (l : List Wr) (p : Wr) (W : World) (hs : Sl W a n c 9 (wcs l)) (h8 : W8 l) (hn : n ≤ 1000) (hp : p.2.length = 8) (hw : writtenB l = true) (h0 : 0 ≤ p.1) (h32 : p.1 < 32) (ht : thB p.1 l = false) (hf : n = 8) :
    Calls Try.prog 9 #[.slice a n c, .agg (wc p).toArray] W fun e w' => e = .returned (.tuple #[.slice none 0 0, .int .i64 50]) ∧ Below W.heap.size W w' := by
  have HS := hidd hs
  have H8 := hidd h8
  have HL := hidd (show l.length = n by have := hs.len; rw [wcs_len h8] at this; omega)
  have HW := hidd hw
  have HT := hidd ht
  have hcap := hs.le
  have he8 : ((n : Int) == 8) = true := by simp; omega
  clear hf
  have hmax := hs.max
  have HP := hidd hp
  obtain ⟨k, hk⟩ : ∃ k, k = plK p.1 l := ⟨_, rfl⟩
  have HK := hidd hk
  have hkn : k ≤ n := by rw [hk, ← HL.out]; exact plK_le _ _
  have HPLN : Hid (∀ (w : World), Sl w a n c 9 (wcs l) → Calls Try.prog 22 #[.slice a n c, .int .i64 p.1, .func (.func 23) #[] #[]] w fun e w' => e = .returned (.tuple #[.int .i64 (k : Nat), .bool (thB p.1 l)]) ∧ Below w.heap.size w w') := hidd (fun w h => by rw [hk]; exact place_any a n c l p.1 w h h8 hn)
  obtain ⟨B, b0, b1, b2, b3, b4, b5, b6, b7, rfl⟩ := wr8 hp
  simp only at h0 h32 hk
  clear hs h8 hp hw ht hk
  rw [show (wc (B, [b0, b1, b2, b3, b4, b5, b6, b7])).toArray = aggW B b0 b1 b2 b3 b4 b5 b6 b7 from rfl]
  go_enter Try.func9, Try.ntmps9
  go_wp2_with fail
  refine (written_any a n c l _ (HS.out.grow ((Below.refl _ W).alloc (Nat.le_refl _) _)) H8.out hn).mono ?_
  rintro e w1 ⟨rfl, hb1⟩
  rw [HW.out]
  have G1 := blk_below hb1 (heap_alloc_new W _) (by simp)
  obtain ⟨k1, f1⟩ := blk G1
  have HG1 := hidd G1
  have hz1 : W.heap.size < w1.heap.size := by have := hb1.size; simp at this; omega
  have HB := hidd (((Below.refl _ W).alloc (Nat.le_refl _) (.cells (aggW B b0 b1 b2 b3 b4 b5 b6 b7) 26)).trans (hb1.mono (by simp)))
  clear hb1 G1
  go_wp2_with fail
  refine (HPLN.out w1 (HS.out.grow HB.out)).mono ?_
  rintro e w2 ⟨rfl, hb2⟩
  have HTH := hidd (show thB B l = _ from HT.out)
  rw [HTH.out]
  have G2 := blk_below hb2 HG1.out hz1
  have HG2 := hidd G2
  clear k1 f1
  obtain ⟨k1, f1⟩ := blk G2
  have hz2 : W.heap.size < w2.heap.size := by have := hb2.size; omega
  have HB2 := hidd (HB.out.trans (hb2.mono (by omega)))
  have HS2 := hidd (HS.out.grow HB2.out)
  have k0 : (0 : Int) ≤ (k : Int) := by omega
  have kn : (k : Int) ≤ (n : Int) := by omega
  clear hb2 G2
  go_wp2_with fail
  go_ret2
  exact ⟨rfl, HB2.out⟩
end Go.Proofs.Ytdoicmjomlaoaaa
