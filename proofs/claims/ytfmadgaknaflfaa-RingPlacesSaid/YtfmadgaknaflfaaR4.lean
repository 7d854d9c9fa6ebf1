import Derived.Test.YtfmadgaknaflfaaR3
namespace Go.Proofs.Ytfmadgaknaflfaa
open Go.RowKit
theorem mayR528 : mayR 5 28 = true := by decide
theorem free528 : freeR 5 28 = 1 := by decide
set_option maxRecDepth 100000 in
set_option maxHeartbeats 2000000 in
theorem take_two (w : World) :
    Calls Try.prog 20 #[.agg #[.int .i64 5, .int .i64 28], .int .i64 3] w fun e W' => e = .returned (.tuple #[.agg #[.int .i64 0, .int .i64 0], .slice none 0 0, .int .i64 50]) ∧ Below w.heap.size w W' := by
  have HM := hidd mayR528
  have HI := hidd inR3
  have HF := hidd free528
  go_enter Try.func20, Try.ntmps20
  go_wp2_with fail
  refine (mayR_any _ _ _).mono ?_
  rintro e w1 ⟨rfl, hb1⟩
  rw [HM.out]
  have g1 := blk_below hb1 (heap_alloc2_new w _ _) (by simp)
  have g0 := blk_below hb1 (heap_alloc2_old w _ _) (by simp; omega)
  have B1 := ((Below.refl _ w).alloc (Nat.le_refl _) (.cells #[.int .i64 5, .int .i64 28] 31)).alloc (by simp) (.cells #[.int .i64 0, .int .i64 0] 31) |>.trans (hb1.mono (by simp; omega))
  have s1 : w.heap.size + 2 ≤ w1.heap.size := by have := hb1.size; simpa using this
  clear hb1
  have G := hidd (And.intro g0 (And.intro g1 (And.intro B1 s1)))
  clear g0 g1 B1 s1
  go_wp2_with fail
  refine (within_any _ _ _ _).mono ?_
  rintro e w2 ⟨rfl, hb2⟩
  rw [HI.out]
  obtain ⟨g0, g1, B1, s1⟩ := G.out
  clear G
  have g0 := blk_below hb2 g0 (by omega)
  have g1 := blk_below hb2 g1 (by omega)
  have B1 := B1.trans (hb2.mono (by omega))
  have s1 : w.heap.size + 2 ≤ w2.heap.size := by have := hb2.size; omega
  clear hb2
  obtain ⟨k0, f0⟩ := blk g0
  have G := hidd (And.intro g0 (And.intro g1 (And.intro B1 s1)))
  clear g0 g1 B1 s1
  go_wp2_with fail
  refine (free_any _ _ _).mono ?_
  rintro e w3 ⟨rfl, hb3⟩
  rw [HF.out]
  obtain ⟨g0, g1, B1, s1⟩ := G.out
  clear G k0 f0
  have g0 := blk_below hb3 g0 (by omega)
  have g1 := blk_below hb3 g1 (by omega)
  have B1 := B1.trans (hb3.mono (by omega))
  have s1 : w.heap.size + 2 ≤ w3.heap.size := by have := hb3.size; omega
  clear hb3
  obtain ⟨k0, f0⟩ := blk g0
  obtain ⟨k1, f1⟩ := blk g1
  have G := hidd (And.intro g0 (And.intro g1 (And.intro B1 s1)))
  clear g0 g1 B1 s1
  go_wp2
  obtain ⟨g0, g1, B1, s1⟩ := G.out
  refine bodyPost_ret (results_ctt Try.results20 _ _ (w.heap.size + 1) 31 #[.int .i64 0, .int .i64 0] (0, 0) _ rfl (hs_same (hs_same g1)) Try.underlying31 rfl (by kernel_rfl)) rfl ⟨rfl, (B1.setCell (by simp) _).setCell (by simp) _⟩
set_option maxRecDepth 100000 in
set_option maxHeartbeats 2000000 in
theorem wakesR_any (w : World) : Calls Try.prog 12 #[] w fun e w' => e = .returned (.bool true) ∧ Below w.heap.size w w' := by
  go_enter Try.func12, Try.ntmps12
  go_wp2_with fail
  refine (take_one _).mono ?_
  rintro e w1 ⟨v, rfl, hrow, hb1⟩
  obtain ⟨a, c, rfl, hsl⟩ := own_Sl hrow
  obtain ⟨b, off, rfl, hc⟩ := hsl.cells 2 (by simp)
  have ha := own_addr hrow _ _ rfl
  have hc2 : w1.cell? ⟨b, off + 2, none⟩ = some (.int .i64 3) := hc
  have hbl := World.block_lt_of_cell? w1 _ hc2
  clear hsl hrow hc
  have G := hidd (And.intro hb1 (And.intro hc2 (And.intro hbl ha)))
  clear hb1 hc2 hbl ha
  go_wp2_with fail
  refine (take_two _).mono ?_
  rintro e w2 ⟨rfl, hb2⟩
  obtain ⟨hb1, hc2, hbl, ha⟩ := G.out
  clear G
  have B2 := (hb1.alloc hb1.size (.cells #[.int .i64 1, .int .i64 4] 31)).trans (hb2.mono (by simp; have := hb1.size; omega))
  have g1 := blk_below hb2 (heap_alloc_new w1 _) (by simp)
  have s2 : w1.heap.size + 1 ≤ w2.heap.size := by have := hb2.size; simpa using this
  have c3 : w2.cell? ⟨b, off + 2, none⟩ = some (.int .i64 3) := by
    rw [hb2.cell (p := ⟨b, off + 2, none⟩) (by simp; omega)]
    rw [World.cell?_alloc_lt _ _ _ (by exact hbl)]
    exact hc2
  have G := hidd (And.intro B2 s2)
  obtain ⟨k1, f1⟩ := blk ((show (w2.alloc (.cells #[.int .i64 0, .int .i64 0] 31)).heap[w1.heap.size]? = w2.heap[w1.heap.size]? from heap_alloc_old w2 _ _ (by omega)).trans g1)
  have c4 : (w2.alloc (.cells #[.int .i64 0, .int .i64 0] 31)).cell? ⟨b, off + 2, none⟩ = some (.int .i64 3) := by
    rw [World.cell?_alloc_lt _ _ _ (by simp; omega)]
    exact c3
  clear B2 s2 g1 c3 hc2 hb2 hb1 hbl ha
  go_wp2
  go_ret
  exact ⟨rfl, G.out.1.alloc G.out.1.size _⟩
end Go.Proofs.Ytfmadgaknaflfaa
