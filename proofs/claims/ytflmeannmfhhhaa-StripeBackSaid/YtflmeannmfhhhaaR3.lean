import Derived.Test.YtflmeannmfhhhaaR2
namespace Go.Proofs.Ytflmeannmfhhhaa
open Go.RowKit
theorem h2 (w : World) (A B : Obj) : ((w.alloc A).alloc B).heap[w.heap.size]? = some A ∧ ((w.alloc A).alloc B).heap[w.heap.size + 1]? = some B :=
  ⟨heap_alloc2_old w A B, heap_alloc2_new w A B⟩
theorem h3 (w : World) (A B C : Obj) : (((w.alloc A).alloc B).alloc C).heap[w.heap.size]? = some A ∧ (((w.alloc A).alloc B).alloc C).heap[w.heap.size + 1]? = some B ∧ (((w.alloc A).alloc B).alloc C).heap[w.heap.size + 2]? = some C := by
  refine ⟨?_, ?_, ?_⟩
  · rw [heap_alloc_old _ C (by simp; omega)]
    exact heap_alloc2_old w A B
  · rw [heap_alloc_old _ C (by simp)]
    exact heap_alloc2_new w A B
  · have := heap_alloc_new ((w.alloc A).alloc B) C
    simpa using this
theorem b3 (w : World) (A B C : Obj) : Below w.heap.size w (((w.alloc A).alloc B).alloc C) :=
  (((Below.refl _ w).alloc (Nat.le_refl _) _).alloc (by simp) _).alloc (by simp; omega) _
def z8 : List Int := [0, 0, 0, 0, 0, 0, 0, 0]
theorem one_is (k : IntKind) (z : List Int) : (is k z).toArray.all (·.oneCell') = true := by
  rw [Array.all_eq_true_iff_forall_mem]
  intro v hv
  simp [is] at hv
  obtain ⟨a, _, rfl⟩ := hv
  rfl
abbrev zz8 : Array Value := #[.int .i64 0, .int .i64 0, .int .i64 0, .int .i64 0, .int .i64 0, .int .i64 0, .int .i64 0, .int .i64 0]
theorem zz8_sz : (Try.prog.info? 22).map (·.size) = some zz8.size := by kernel_rfl
theorem zz8_one : zz8.all (·.oneCell') = true := one_is .i64 z8
def mvB (z : List Int) (s t : Int) : Bool := z.all shardB && (decide (0 ≤ s) && decide (s < 8) && shardB t)
def mvL (z : List Int) (s t : Int) : List Int := if mvB z s t = true then z.set s.toNat t else z8
def mvE (z : List Int) (s t : Int) : Int := if mvB z s t = true then 0 else 2
set_option maxHeartbeats 2000000 in
theorem moved_no (z : List Int) (s t : Int) (hz : z.length = 8) (W : World) (hm : mvB z s t = false) :
    Calls Try.prog 15 #[.agg (is .i64 z).toArray, .agg #[.int .i64 s, .int .i64 t]] W fun e w' => e = .returned (.tuple #[.agg (is .i64 z8).toArray, .int .i64 2]) ∧ Below W.heap.size W w' := by
  have HZ := hidd hz
  have HM := hidd hm
  clear hz hm
  go_enter Try.func15, Try.ntmps15
  go_wp2_with (with_reducible refine wpList_load_row rfl 22 (.tmp 2) rfl W.heap.size rfl 22 (is .i64 z).toArray (0, 0) _ (h3 W _ _ _).1 Try.underlying22 rfl (sz22 z HZ.out) ?_)
  refine (may_any z HZ.out _).mono ?_
  rintro e w1 ⟨rfl, hb1⟩
  have G1 := blk_below hb1 (h3 W _ _ _).2.1 (by simp)
  have G2 := hidd (blk_below hb1 (h3 W _ _ _).2.2 (by simp))
  have HB := hidd ((b3 W _ _ _).trans (hb1.mono (by simp; omega)))
  obtain ⟨k1, f1⟩ := blk G1
  clear hb1 G1
  cases ha : z.all shardB
  · go_wp2_with (with_reducible refine wpList_store_row rfl 22 (.tmp 4) (.tmp 25) rfl (W.heap.size + 1 + 1) zz8 rfl rfl 22 zz8 G2.out zz8_sz rfl zz8_one ?_)
    refine bodyPost_ret (results_cell_one Try.results15 _ _ (W.heap.size + 2) 22 (is .i64 z8).toArray (0, 0) _ rfl (setRow_heap _ _ _ _ _ _ G2.out) Try.underlying22 rfl (by kernel_rfl)) rfl ⟨rfl, below_setRow HB.out (by omega) _⟩
  · have hm2 := HM.out
    unfold mvB at hm2
    rw [ha, Bool.true_and] at hm2
    by_cases hs : s < 0
    · clear hm2
      go_wp2_with (with_reducible refine wpList_store_row rfl 22 (.tmp 4) (.tmp 25) rfl (W.heap.size + 1 + 1) zz8 rfl rfl 22 zz8 G2.out zz8_sz rfl zz8_one ?_)
      refine bodyPost_ret (results_cell_one Try.results15 _ _ (W.heap.size + 2) 22 (is .i64 z8).toArray (0, 0) _ rfl (setRow_heap _ _ _ _ _ _ G2.out) Try.underlying22 rfl (by kernel_rfl)) rfl ⟨rfl, below_setRow HB.out (by omega) _⟩
    · by_cases hs8 : 8 ≤ s
      · clear hm2
        go_wp2_with (with_reducible refine wpList_store_row rfl 22 (.tmp 4) (.tmp 25) rfl (W.heap.size + 1 + 1) zz8 rfl rfl 22 zz8 G2.out zz8_sz rfl zz8_one ?_)
        refine bodyPost_ret (results_cell_one Try.results15 _ _ (W.heap.size + 2) 22 (is .i64 z8).toArray (0, 0) _ rfl (setRow_heap _ _ _ _ _ _ G2.out) Try.underlying22 rfl (by kernel_rfl)) rfl ⟨rfl, below_setRow HB.out (by omega) _⟩
      · have ht : shardB t = false := by
          have a1 : decide (0 ≤ s) = true := by simpa using hs
          have a2 : decide (s < 8) = true := by simpa using hs8
          simpa [a1, a2] using hm2
        have HT := hidd ht
        clear hm2 ht
        go_wp2_with (first | (with_reducible refine wpList_store_row rfl 22 (.tmp 4) (.tmp 25) rfl (W.heap.size + 1 + 1) zz8 rfl rfl 22 zz8 G2.out zz8_sz rfl zz8_one ?_) | (go_at_call 27; refine (shard_any _ _).mono ?_; rintro e w' ⟨rfl, rfl⟩; rw [HT.out]))
        refine bodyPost_ret (results_cell_one Try.results15 _ _ (W.heap.size + 2) 22 (is .i64 z8).toArray (0, 0) _ rfl (setRow_heap _ _ _ _ _ _ G2.out) Try.underlying22 rfl (by kernel_rfl)) rfl ⟨rfl, below_setRow HB.out (by omega) _⟩
set_option maxHeartbeats 2000000 in
theorem moved_yes (z : List Int) (s : Nat) (t : Int) (hz : z.length = 8) (W : World) (hm : mvB z s t = true) :
    Calls Try.prog 15 #[.agg (is .i64 z).toArray, .agg #[.int .i64 s, .int .i64 t]] W fun e w' => e = .returned (.tuple #[.agg (is .i64 (z.set s t)).toArray, .int .i64 0]) ∧ Below W.heap.size W w' := by
  have HZ := hidd hz
  have HM := hidd hm
  obtain ⟨ha, hs0, hs8, ht⟩ : z.all shardB = true ∧ (0 : Int) ≤ (s : Int) ∧ (s : Int) < 8 ∧ shardB t = true := by
    simp only [mvB, Bool.and_eq_true, decide_eq_true_eq] at hm
    exact ⟨hm.1, hm.2.1.1, hm.2.1.2, hm.2.2⟩
  have HA := hidd ha
  have HT := hidd ht
  clear hz hm ha ht
  go_enter Try.func15, Try.ntmps15
  go_wp2_with (with_reducible refine wpList_load_row rfl 22 (.tmp 2) rfl W.heap.size rfl 22 (is .i64 z).toArray (0, 0) _ (h3 W _ _ _).1 Try.underlying22 rfl (sz22 z HZ.out) ?_)
  refine (may_any z HZ.out _).mono ?_
  rintro e w1 ⟨rfl, hb1⟩
  rw [HA.out]
  have G0 := hidd (blk_below hb1 (h3 W _ _ _).1 (by simp; omega))
  have G1 := blk_below hb1 (h3 W _ _ _).2.1 (by simp)
  have G2 := hidd (blk_below hb1 (h3 W _ _ _).2.2 (by simp))
  have HB := hidd ((b3 W _ _ _).trans (hb1.mono (by simp; omega)))
  obtain ⟨k1, f1⟩ := blk G1
  obtain ⟨kk, f0⟩ := blk G0.out
  have k0 := (kk s).trans (List.getElem?_toArray.trans (is_at .i64 z s (by rw [HZ.out]; omega)))
  clear kk
  have hl : W.heap.size + 2 < w1.heap.size := by have := hb1.size; simp at this; omega
  clear hb1 G1
  have G3 : (w1.setCell ⟨W.heap.size, s, none⟩ (.int .i64 t)).heap[W.heap.size]? = some (.cells (is .i64 (z.set s t)).toArray 22 (0, 0)) := by
    rw [hs_same G0.out, List.setIfInBounds_toArray, is_set]
  have G4 : (w1.setCell ⟨W.heap.size, s, none⟩ (.int .i64 t)).heap[W.heap.size + 1 + 1]? = some (.cells zz8 22 (0, 0)) := hs_other G2.out (by simp; omega)
  have HO : zz8.size = (is .i64 (z.set s t)).toArray.size := by
    show 8 = _
    rw [List.size_toArray, is_len, List.length_set, HZ.out]
  have hset : (z.set s t).length = 8 := by rw [List.length_set, HZ.out]
  have HS := hidd hset
  have K3 := hidd G3
  have K4 := hidd G4
  have KO := hidd HO
  clear G3 G4 HO
  clear hset
  go_wp2_with (first | (go_at_call 27; refine (shard_any _ _).mono ?_; rintro e w' ⟨rfl, rfl⟩; rw [HT.out]) | (with_reducible refine wpList_load_row rfl 22 (.tmp 2) rfl W.heap.size rfl 22 (is .i64 (z.set s t)).toArray (0, 0) _ K3.out Try.underlying22 rfl (sz22 _ HS.out) ?_) | (with_reducible refine wpList_store_row rfl 22 (.tmp 4) (.tmp 31) rfl (W.heap.size + 1 + 1) (is .i64 (z.set s t)).toArray rfl rfl 22 zz8 K4.out (sz22 _ HS.out) KO.out (one_is _ _) ?_))
  refine bodyPost_ret (results_cell_one Try.results15 _ _ (W.heap.size + 2) 22 (is .i64 (z.set s t)).toArray (0, 0) _ rfl (setRow_heap _ _ _ _ _ _ K4.out) Try.underlying22 rfl (sz22 _ HS.out)) rfl ⟨rfl, below_setRow (HB.out.setCell (Nat.le_refl _) _) (by omega) _⟩
end Go.Proofs.Ytflmeannmfhhhaa
