import Derived.Test.YtfmadgaknaflfaaRows
import Derived.Test.YtfmadgaknaflfaaK
import Derived.WalkSpells
import Derived.WalkLawsBesides
import Derived.Deep.QuietTactic
import Derived.BigQuiet
namespace Go.Proofs.Ytfmadgaknaflfaa
open Go.RowKit
def mayR (t n : Int) : Bool := decide ((1 ≤ t ∧ t ≤ 1099511627776) ∧ (t ≤ n ∧ n ≤ t + 24))
def inR (n a b : Int) : Bool := decide (a ≤ n ∧ n ≤ b)
set_option maxHeartbeats 1000000 in
theorem within_any (n a b : Int) (w : World) :
    Calls Try.prog 18 #[.int .i64 n, .int .i64 a, .int .i64 b] w fun e w' => e = .returned (.bool (inR n a b)) ∧ Below w.heap.size w w' := by
  by_cases h1 : a ≤ n
  · by_cases h2 : n ≤ b
    · go_enter Try.func18, Try.ntmps18
      go_wp2
      go_ret
      exact ⟨by simp [inR, h1, h2], Below.refl _ w⟩
    · go_enter Try.func18, Try.ntmps18
      go_wp2
      go_ret
      exact ⟨by simp [inR, h1, h2], Below.refl _ w⟩
  · go_enter Try.func18, Try.ntmps18
    go_wp2
    go_ret
    exact ⟨by have : inR n a b = false := by simp [inR]; omega
              rw [this]; rfl, Below.refl _ w⟩
set_option maxHeartbeats 1000000 in
theorem mayR_any (t n : Int) (w : World) :
    Calls Try.prog 9 #[.agg #[.int .i64 t, .int .i64 n]] w fun e w' => e = .returned (.bool (mayR t n)) ∧ Below w.heap.size w w' := by
  cases h1 : inR t 1 1099511627776
  · have HW := hidd h1
    have HM := hidd (show mayR t n = false by simp [inR] at h1; simp [mayR]; omega)
    clear h1
    go_enter Try.func9, Try.ntmps9
    go_wp2_with (go_at_call 18; refine (within_any _ _ _ _).mono ?_; rintro e w1 ⟨rfl, hb1⟩; rw [HW.out]; obtain ⟨k0, f0⟩ := blk (blk_below hb1 (heap_alloc_new w _) (by simp)); have HB1 := hidd hb1; clear hb1)
    go_ret
    exact ⟨by rw [HM.out]; rfl, ((Below.refl _ w).alloc (Nat.le_refl _) _).trans (HB1.out.mono (by simp))⟩
  · have HW := hidd h1
    have h1' : 1 ≤ t ∧ t ≤ 1099511627776 := by simpa [inR] using h1
    have e1 : IntKind.i64.wrap (t + 24) = t + 24 := IntWalk.i64_in _ (by omega)
    have HM := hidd (show inR n t (t + 24) = mayR t n by simp [inR, mayR]; omega)
    clear h1 h1'
    go_enter Try.func9, Try.ntmps9
    go_wp2_with fail
    refine (within_any _ _ _ _).mono ?_
    rintro e w1 ⟨rfl, hb1⟩
    rw [HW.out]
    have g1 := blk_below hb1 (heap_alloc_new w _) (by simp)
    obtain ⟨k0, f0⟩ := blk g1
    have HB1 := hidd hb1
    clear hb1 g1
    go_wp2_with fail
    refine (within_any _ _ _ _).mono ?_
    rintro e w2 ⟨rfl, hb2⟩
    rw [HM.out]
    go_wp2
    go_ret
    exact ⟨rfl, (((Below.refl _ w).alloc (Nat.le_refl _) _).trans (HB1.out.mono (by simp))).trans (hb2.mono (by have := HB1.out.size; simp at this; omega))⟩
set_option maxHeartbeats 1000000 in
theorem place_any (s : Int) (w : World) :
    Calls Try.prog 13 #[.int .i64 s] w fun e w' => e = .returned (if inR s 1 1099511627776 = true then .tuple #[.int .i64 (2 + s.tmod 24), .int .i64 0] else .tuple #[.int .i64 0, .int .i64 2]) ∧ Below w.heap.size w w' := by
  cases h1 : inR s 1 1099511627776
  · have HW := hidd h1
    clear h1
    go_enter Try.func13, Try.ntmps13
    go_wp2_with (go_at_call 18; refine (within_any _ _ _ _).mono ?_; rintro e w1 ⟨rfl, hb1⟩; rw [HW.out])
    go_ret2
    exact ⟨rfl, hb1⟩
  · have HW := hidd h1
    have h1' : 1 ≤ s ∧ s ≤ 1099511627776 := by simpa [inR] using h1
    have e0 : 0 ≤ s.tmod 24 ∧ s.tmod 24 < 24 := by rw [Int.tmod_eq_emod_of_nonneg (by omega)]; omega
    have e1 : IntKind.i64.wrap (s.tmod 24) = s.tmod 24 := IntWalk.i64_in _ (by omega)
    have e2 : IntKind.i64.wrap (2 + s.tmod 24) = 2 + s.tmod 24 := IntWalk.i64_in _ (by omega)
    clear h1 h1' e0
    go_enter Try.func13, Try.ntmps13
    go_wp2_with (go_at_call 18; refine (within_any _ _ _ _).mono ?_; rintro e w1 ⟨rfl, hb1⟩; rw [HW.out])
    go_ret2
    exact ⟨rfl, hb1⟩
set_option maxHeartbeats 1000000 in
theorem has_any (t n s : Int) (w : World) :
    Calls Try.prog 14 #[.agg #[.int .i64 t, .int .i64 n], .int .i64 s] w fun e w' => e = .returned (.bool (mayR t n && inR s t (n - 1))) ∧ Below w.heap.size w w' := by
  cases h1 : mayR t n
  · have HW := hidd h1
    clear h1
    go_enter Try.func14, Try.ntmps14
    go_wp2_with (go_at_call 9; refine (mayR_any _ _ _).mono ?_; rintro e w1 ⟨rfl, hb1⟩; rw [HW.out]; obtain ⟨k0, f0⟩ := blk (blk_below hb1 (heap_alloc_new w _) (by simp)); have HB1 := hidd hb1; clear hb1)
    go_ret
    exact ⟨by simp, ((Below.refl _ w).alloc (Nat.le_refl _) _).trans (HB1.out.mono (by simp))⟩
  · have HW := hidd h1
    have h1' : (1 ≤ t ∧ t ≤ 1099511627776) ∧ (t ≤ n ∧ n ≤ t + 24) := by simpa [mayR] using h1
    have e1 : IntKind.i64.wrap (n - 1) = n - 1 := IntWalk.i64_in _ (by omega)
    clear h1 h1'
    go_enter Try.func14, Try.ntmps14
    go_wp2_with fail
    refine (mayR_any _ _ _).mono ?_
    rintro e w1 ⟨rfl, hb1⟩
    rw [HW.out]
    have g1 := blk_below hb1 (heap_alloc_new w _) (by simp)
    obtain ⟨k0, f0⟩ := blk g1
    have HB1 := hidd hb1
    clear hb1 g1
    go_wp2_with fail
    refine (within_any _ _ _ _).mono ?_
    rintro e w2 ⟨rfl, hb2⟩
    go_wp2
    go_ret
    exact ⟨by simp, (((Below.refl _ w).alloc (Nat.le_refl _) _).trans (HB1.out.mono (by simp))).trans (hb2.mono (by have := HB1.out.size; simp at this; omega))⟩
theorem results_cell_only {P : Program} {fn : Func} {p : Tmp} {ty : TypeId} (h : fn.results = #[.cell p ty]) (tmps : Array Value) (w : World) (g : Nat) (t : TypeId) (cs : Array Value) (fr : Nat × Nat) (d : TypeDesc)
    (hp : tmps.getD p undef = .pointer (some ⟨g, 0, none⟩)) (hg : w.heap[g]? = some (.cells cs t fr))
    (hu : P.underlying ty = some d) (hd : d.isRow = true) (hi : (P.info? ty).map (·.size) = some cs.size) :
    (results fn tmps).run P w = .ok (.agg cs) w := by
  have hp' : tmps[p]?.getD undef = .pointer (some ⟨g, 0, none⟩) := by simpa using hp
  simp [results, h, hp', asAddr, run_loadVar_row w g t ty cs fr d hg hu (by cases d <;> simp_all [TypeDesc.isRow]) hi]
def roomR (t n : Int) : Array Value := if mayR t n = true then #[.int .i64 (n - t), .int .i64 (24 - (n - t))] else #[.int .i64 0, .int .i64 0]
set_option maxHeartbeats 1000000 in
theorem of_any (t n : Int) (w : World) :
    Calls Try.prog 19 #[.agg #[.int .i64 t, .int .i64 n]] w fun e w' => e = .returned (.agg (roomR t n)) ∧ Below w.heap.size w w' := by
  cases h1 : mayR t n
  · have HW := hidd h1
    have HR := hidd (show roomR t n = #[.int .i64 0, .int .i64 0] by simp [roomR, h1])
    clear h1
    go_enter Try.func19, Try.ntmps19
    go_wp2_with (go_at_call 9; refine (mayR_any _ _ _).mono ?_; rintro e w1 ⟨rfl, hb1⟩; rw [HW.out]; have g1' := blk_below hb1 (heap_alloc2_new w _ _) (by simp); obtain ⟨k1, f1⟩ := blk g1'; have G1 := hidd g1'; clear g1'; obtain ⟨k0, f0⟩ := blk (blk_below hb1 (heap_alloc2_old w _ _) (by simp; omega)); have HB1 := hidd hb1; clear hb1)
    refine bodyPost_ret (results_cell_only Try.results19 _ _ (w.heap.size + 1) 45 #[.int .i64 0, .int .i64 0] (0, 0) _ rfl (hs_same (hs_same G1.out)) Try.underlying45 rfl (by kernel_rfl)) rfl ⟨by rw [HR.out], ?_⟩
    exact ((((Below.refl _ w).alloc (Nat.le_refl _) _).alloc (by simp) _).trans (HB1.out.mono (by simp; omega))).setCell (by simp) _ |>.setCell (by simp) _
  · have HW := hidd h1
    have h1' : (1 ≤ t ∧ t ≤ 1099511627776) ∧ (t ≤ n ∧ n ≤ t + 24) := by simpa [mayR] using h1
    have e1 : IntKind.i64.wrap (n - t) = n - t := IntWalk.i64_in _ (by omega)
    have e2 : IntKind.i64.wrap (24 - (n - t)) = 24 - (n - t) := IntWalk.i64_in _ (by omega)
    have HR := hidd (show roomR t n = #[.int .i64 (n - t), .int .i64 (24 - (n - t))] by simp [roomR, h1])
    clear h1 h1'
    go_enter Try.func19, Try.ntmps19
    go_wp2_with (go_at_call 9; refine (mayR_any _ _ _).mono ?_; rintro e w1 ⟨rfl, hb1⟩; rw [HW.out]; have g1' := blk_below hb1 (heap_alloc2_new w _ _) (by simp); obtain ⟨k1, f1⟩ := blk g1'; have G1 := hidd g1'; clear g1'; obtain ⟨k0, f0⟩ := blk (blk_below hb1 (heap_alloc2_old w _ _) (by simp; omega)); have HB1 := hidd hb1; clear hb1)
    refine bodyPost_ret (results_cell_only Try.results19 _ _ (w.heap.size + 1) 45 #[.int .i64 (n - t), .int .i64 (24 - (n - t))] (0, 0) _ rfl (hs_same (hs_same G1.out)) Try.underlying45 rfl (by kernel_rfl)) rfl ⟨by rw [HR.out], ?_⟩
    exact ((((Below.refl _ w).alloc (Nat.le_refl _) _).alloc (by simp) _).trans (HB1.out.mono (by simp; omega))).setCell (by simp) _ |>.setCell (by simp) _
theorem run_field0 (a b : Int) (w : World) : (Instr.field 45 (.agg #[.int .i64 a, .int .i64 b]) 0).run Try.prog w = .ok (.int .i64 a) w := by kernel_rfl
theorem run_field1 (a b : Int) (w : World) : (Instr.field 45 (.agg #[.int .i64 a, .int .i64 b]) 1).run Try.prog w = .ok (.int .i64 b) w := by kernel_rfl
def usedR (t n : Int) : Int := if mayR t n = true then n - t else 0
def freeR (t n : Int) : Int := if mayR t n = true then 24 - (n - t) else 0
theorem roomR_eq (t n : Int) : roomR t n = #[.int .i64 (usedR t n), .int .i64 (freeR t n)] := by
  unfold roomR usedR freeR
  cases mayR t n <;> rfl
set_option maxHeartbeats 1000000 in
theorem used_any (t n : Int) (w : World) :
    Calls Try.prog 10 #[.agg #[.int .i64 t, .int .i64 n]] w fun e w' => e = .returned (.int .i64 (usedR t n)) ∧ Below w.heap.size w w' := by
  have HR := hidd (roomR_eq t n)
  have f0 := run_field0
  have f1 := run_field1
  go_enter Try.func10, Try.ntmps10
  go_wp2_with (go_at_call 19; refine (of_any _ _ _).mono ?_; rintro e w1 ⟨rfl, hb1⟩; rw [HR.out])
  go_ret
  exact ⟨rfl, ((Below.refl _ w).alloc (Nat.le_refl _) _).trans (hb1.mono (by simp))⟩
set_option maxHeartbeats 1000000 in
theorem free_any (t n : Int) (w : World) :
    Calls Try.prog 11 #[.agg #[.int .i64 t, .int .i64 n]] w fun e w' => e = .returned (.int .i64 (freeR t n)) ∧ Below w.heap.size w w' := by
  have HR := hidd (roomR_eq t n)
  have f0 := run_field0
  have f1 := run_field1
  go_enter Try.func11, Try.ntmps11
  go_wp2_with (go_at_call 19; refine (of_any _ _ _).mono ?_; rintro e w1 ⟨rfl, hb1⟩; rw [HR.out])
  go_ret
  exact ⟨rfl, ((Below.refl _ w).alloc (Nat.le_refl _) _).trans (hb1.mono (by simp))⟩
end Go.Proofs.Ytfmadgaknaflfaa
