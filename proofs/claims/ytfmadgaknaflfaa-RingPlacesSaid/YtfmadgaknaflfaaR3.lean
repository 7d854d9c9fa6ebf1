import Derived.Test.YtfmadgaknaflfaaR2
namespace Go.Proofs.Ytfmadgaknaflfaa
open Go.RowKit Go.Shelf
attribute [local go_sem] Oper.semAt_some
theorem info3 : (Try.prog.info? 3).map (fun i => (i.zero, i.size, i.bytes)) = some (some (.int .i64 0), 1, 8) := by kernel_rfl
theorem mayR11 : mayR 1 1 = true := by decide
theorem inR3 : inR 3 0 24 = true := by decide
theorem free11 : freeR 1 1 = 24 := by decide
theorem heap_own {β : Type} (g : Nat) (cs : Array Value) (t : TypeId) (fr : Nat × Nat) : Own (fun (_ : β) W => W.heap[g]? = some (.cells cs t fr)) := by
  intro s A B row h hg hr
  refine (hg.block g (Array.getElem?_eq_some_iff.1 h).1 (fun e => ?_)).trans h
  obtain ⟨o, ho, hc⟩ := hr g e.symm
  rw [h] at ho
  cases ho
  cases hc
theorem size_own {β : Type} (m : Nat) : Own (fun (_ : β) W => m ≤ W.heap.size) := fun _ _ _ _ h hg _ => Nat.le_trans h hg.size
theorem heap_grown {W W' : World} {row : Option Nat} {g : Nat} {o : Obj} (h : W.heap[g]? = some o) (hg : W.grownBy W' row) (hne : some g ≠ row) : W'.heap[g]? = some o :=
  (hg.block g (Array.getElem?_eq_some_iff.1 h).1 hne).trans h
theorem row_ne {W : World} {base e size k g : Nat} {v : Value} {xs : List Value} (hrow : W.ownsRow base e size v k xs) (hg : g < base) : some g ≠ v.ownBlock := by
  rcases hrow.2 with ⟨rfl, _⟩ | ⟨b, cap, cur, rfl, hb, _, _⟩
  · simp [Value.ownBlock]
  · intro e'
    obtain rfl : g = b := by simpa [Value.ownBlock] using e'
    omega
theorem heap_app {W w1 : World} {base e size k g B : Nat} {v v' : Value} {xs : List Value} {tmp o : Obj} (h : W.heap[g]? = some o) (hrow : W.ownsRow base e size v k xs) (hg : g < base) (hB : g ≠ B) (hgrow : (W.alloc tmp).grownBy w1 v.ownBlock) :
    (w1.setCell ⟨B, 0, none⟩ v').heap[g]? = some o :=
  heap_grown (heap_grown (heap_grown h (World.grownBy_alloc W tmp none) (by simp)) hgrow (row_ne hrow hg)) (grownBy_setCell' w1 B v') (by simpa using hB)
theorem results_ctt {P : Program} {fn : Func} {p q r : Tmp} {ty : TypeId} (h : fn.results = #[.cell p ty, .tmp q, .tmp r]) (tmps : Array Value) (w : World) (g : Nat) (t : TypeId) (cs : Array Value) (fr : Nat × Nat) (d : TypeDesc)
    (hp : tmps.getD p undef = .pointer (some ⟨g, 0, none⟩)) (hg : w.heap[g]? = some (.cells cs t fr))
    (hu : P.underlying ty = some d) (hd : d.isRow = true) (hi : (P.info? ty).map (·.size) = some cs.size) :
    (results fn tmps).run P w = .ok (.tuple #[.agg cs, tmps.getD q undef, tmps.getD r undef]) w := by
  have hp' : tmps[p]?.getD undef = .pointer (some ⟨g, 0, none⟩) := by simpa using hp
  simp [results, h, hp', asAddr, run_loadVar_row w g t ty cs fr d hg hu (by cases d <;> simp_all [TypeDesc.isRow]) hi]
theorem row_set {W : World} {base e size k : Nat} {v u : Value} {xs : List Value} {a : Addr} (h : W.ownsRow base e size v k xs) (ha : a.block < base) : (W.setCell a u).ownsRow base e size v k xs :=
  h.kept (gb_set (gb_refl W _) rfl u) (.inr (row_ne h ha).symm)
set_option maxRecDepth 100000 in
set_option maxHeartbeats 2000000 in
theorem take_one (w : World) :
    Calls Try.prog 20 #[.agg #[.int .i64 1, .int .i64 1], .int .i64 3] w fun e W' => ∃ v, e = .returned (.tuple #[.agg #[.int .i64 1, .int .i64 4], v, .int .i64 0]) ∧ W'.ownsRow w.heap.size 3 1 v 3 [.int .i64 1, .int .i64 2, .int .i64 3] ∧ Below w.heap.size w W' := by
  refine (callsIn_wide (n := 3)).1 ?_
  obtain ⟨i0, hi, hz0, hz1, hz2⟩ := info_parts info3
  have HM := hidd mayR11
  have HI := hidd inR3
  have HF := hidd free11
  refine callsIn_of_wp_marks Try.func20 rfl trivial ?_ rfl
  simp only [Try.ntmps20, List.size_toArray, List.length_cons, List.length_nil, Nat.reduceAdd, Nat.reduceSub, Array.replicate_succ, Array.replicate_zero, List.push_toArray, List.append_toArray, List.nil_append, List.cons_append]
  gi_wp2_with fail
  refine ⟨trivial, (callsIn_wide.2 (mayR_any _ _ _)).mono ?_⟩
  rintro e w1 ⟨rfl, hb1⟩
  rw [HM.out]
  have g1 := blk_below hb1 (heap_alloc2_new w _ _) (by simp)
  have g0 := blk_below hb1 (heap_alloc2_old w _ _) (by simp; omega)
  have B1 := ((Below.refl _ w).alloc (Nat.le_refl _) (.cells #[.int .i64 1, .int .i64 1] 31)).alloc (by simp) (.cells #[.int .i64 0, .int .i64 0] 31) |>.trans (hb1.mono (by simp; omega))
  have s1 : w.heap.size + 2 ≤ w1.heap.size := by have := hb1.size; simpa using this
  clear hb1
  have G := hidd (And.intro g0 (And.intro g1 (And.intro B1 s1)))
  clear g0 g1 B1 s1
  gi_wp2_with fail
  refine ⟨trivial, (callsIn_wide.2 (within_any _ _ _ _)).mono ?_⟩
  rintro e w2 ⟨rfl, hb2⟩
  rw [HI.out]
  obtain ⟨g0, g1, B1, s1⟩ := G.out
  clear G
  have g0 := blk_below hb2 g0 (by omega)
  have g1 := blk_below hb2 g1 (by omega)
  have B1 := B1.trans (hb2.mono (by omega))
  have s1 : w.heap.size + 2 ≤ w2.heap.size := by have := hb2.size; omega
  clear hb2
  obtain ⟨k0, f0⟩ := blk g0
  have G := hidd (And.intro g0 (And.intro g1 (And.intro B1 s1)))
  clear g0 g1 B1 s1
  gi_wp2_with fail
  refine ⟨trivial, (callsIn_wide.2 (free_any _ _ _)).mono ?_⟩
  rintro e w3 ⟨rfl, hb3⟩
  rw [HF.out]
  obtain ⟨g0, g1, B1, s1⟩ := G.out
  clear G k0 f0
  have g0 := blk_below hb3 g0 (by omega)
  have g1 := blk_below hb3 g1 (by omega)
  have B1 := B1.trans (hb3.mono (by omega))
  have s1 : w.heap.size + 2 ≤ w3.heap.size := by have := hb3.size; omega
  clear hb3
  obtain ⟨k0, f0⟩ := blk g0
  obtain ⟨k5, f5⟩ := blk ((show (w3.alloc (.cells #[.slice none 0 0] 47)).heap[w.heap.size]? = w3.heap[w.heap.size]? from heap_alloc_old w3 _ _ (by omega)).trans g0)
  have G := hidd (And.intro g0 (And.intro g1 (And.intro B1 s1)))
  clear g0 g1 B1 s1
  gi_wp2_with (first | (refine ⟨trivial, ?_⟩; gi_at_call 22; refine (next_in _ _ trivial rfl _ _ _).mono ?_; rintro e w4 ⟨rfl, rfl⟩))
  obtain ⟨g0, g1, B1, s1⟩ := G.out
  clear G k5 f5 k0 f0
  have bO := ((Boxed.new w3 47 (.slice none 0 0)).alloc (.cells #[.int .i64 1] 3)).alloc (.cells #[.int .i64 3] 3)
  have bF := (Boxed.new (w3.alloc (.cells #[.slice none 0 0] 47)) 3 (.int .i64 1)).alloc (.cells #[.int .i64 3] 3)
  have bM := Boxed.new ((w3.alloc (.cells #[.slice none 0 0] 47)).alloc (.cells #[.int .i64 1] 3)) 3 (.int .i64 3)
  have W0B : Below w.heap.size w (((w3.alloc (.cells #[.slice none 0 0] 47)).alloc (.cells #[.int .i64 1] 3)).alloc (.cells #[.int .i64 3] 3)) := ((B1.alloc (by omega) _).alloc (by simp; omega) _).alloc (by simp; omega) _
  have g0' := (heap_own w.heap.size _ _ _).alloc (s := ()) (.cells #[.int .i64 3] 3) ((heap_own w.heap.size _ _ _).alloc (s := ()) (.cells #[.int .i64 1] 3) ((heap_own w.heap.size _ _ _).alloc (s := ()) (.cells #[.slice none 0 0] 47) g0))
  have g1' := (heap_own (w.heap.size + 1) _ _ _).alloc (s := ()) (.cells #[.int .i64 3] 3) ((heap_own (w.heap.size + 1) _ _ _).alloc (s := ()) (.cells #[.int .i64 1] 3) ((heap_own (w.heap.size + 1) _ _ _).alloc (s := ()) (.cells #[.slice none 0 0] 47) g1))
  have hsz : (((w3.alloc (.cells #[.slice none 0 0] 47)).alloc (.cells #[.int .i64 1] 3)).alloc (.cells #[.int .i64 3] 3)).heap.size = w3.heap.size + 3 := by simp
  generalize hW0 : (((w3.alloc (.cells #[.slice none 0 0] 47)).alloc (.cells #[.int .i64 1] 3)).alloc (.cells #[.int .i64 3] 3)) = W0 at *
  rw [World.size_alloc] at bF bM
  rw [World.size_alloc] at bM
  refine wpIn_rangeFunc_ownG rfl (by omega) (gf := 23) (lb := #[.pointer (some ⟨w3.heap.size + 1 + 1, 0, none⟩), .pointer (some ⟨w3.heap.size + 1, 0, none⟩)]) rfl trivial (enters_of Try.func23 (by kernel_rfl) rfl)
    (next_stops Fence.wide 2 trivial rfl (by omega) (w3.heap.size + 1 + 1) (w3.heap.size + 1) W0 bM.cell bF.cell (by omega) (by omega)) KpF_t (fun W l o o' _ hl ho _ => KpF_b W l o o' hl ho) (Below.refl _ _) (fun _ => rfl)
    (fun pre W => ((∃ v, Boxed W w3.heap.size 47 v ∧ W.ownsRow (w3.heap.size + 3) 3 1 v pre.length (pre.map (Value.int .i64)) ∧ True) ∧ Below w.heap.size w W) ∧ (W.heap[w.heap.size]? = some (.cells #[.int .i64 1, .int .i64 1] 31 (0, 0)) ∧ W.heap[w.heap.size + 1]? = some (.cells #[.int .i64 0, .int .i64 0] 31 (0, 0)) ∧ w3.heap.size + 3 ≤ W.heap.size))
    (fun _ _ _ => False)
    (OwnFrom.and (OwnFrom.and (Own.from (holdsRow_own (w3.heap.size + 3) w3.heap.size 47 3 1 (fun pre : List Int => pre.length) (fun pre => pre.map (Value.int .i64)) (fun _ _ => True)) _) (ownFrom_below (Nat.le_refl _) (by omega))) (OwnFrom.and (Own.from (heap_own _ _ _ _) _) (OwnFrom.and (Own.from (heap_own _ _ _ _) _) (Own.from (size_own _) _))))
    (fun _ _ _ _ _ hs _ _ => hs)
    ⟨⟨⟨_, bO, World.ownsRow_nil _ _ _ _, trivial⟩, W0B⟩, g0', g1', by omega⟩
    (fun x => { tmps := #[.agg #[.int .i64 1, .int .i64 1], .int .i64 3, .pointer (some ⟨w.heap.size, 0, none⟩), undef, .pointer (some ⟨w.heap.size + 1, 0, none⟩), .slice none 0 0, .int .i64 0,
      .pointer (some ⟨w3.heap.size, 0, none⟩), .int .i64 x, .bool false, .agg #[.int .i64 1, .int .i64 1], .bool true, .bool false, .int .i64 3, .bool true, .bool false, undef, .bool false, .int .i64 3,
      .agg #[.int .i64 1, .int .i64 1], .int .i64 24, .bool false, .pointer (some ⟨w.heap.size, 1, none⟩), .int .i64 1, .int .i64 3, .int .i64 4, .bool false, undef, .pointer (some ⟨w.heap.size, 1, none⟩),
      .int .i64 1, .int .i64 3, .func (.func 23) #[] #[.pointer (some ⟨w3.heap.size + 1 + 1, 0, none⟩), .pointer (some ⟨w3.heap.size + 1, 0, none⟩)], .int .i64 x, undef, undef, undef, undef, undef, undef, undef, undef, undef, undef, undef], defers := [] }) ?assign ?body ?done ?stop
  case assign =>
    intro l x W K hK
    gi_wp2
    exact hK
  case body =>
    rintro l pre x W ⟨⟨⟨v, hv, hrow, _⟩, hB⟩, q0, q1, hsB⟩ hlt
    have hc := hv.cell
    gi_wp2_with (gi_at_builtin; refine wpListIn_append_own _ rfl _ _ 47 rfl (w3.heap.size + 3) 3 i0 (.int .i64 0) 1 8 Try.underlying47 hi hz0 hz1 hz2 rfl (by decide) _ _ _ rfl (hrow.alloc _) ⟨W.heap.size, 0, none⟩ 1 1 [.int .i64 x] rfl rfl (cell_one_new _ _ _) (by simp [Value.oneCell']) (by unfold maxLen; omega) (by omega) (by simp; omega) ?_; intro v' w5 hown' hgrow _; obtain ⟨g', cap', rfl⟩ := ownsRow_succ hown'; obtain ⟨hv1, hv2, hr2, hk2, hb2⟩ := hv.appended (n₀ := w.heap.size) (by decide) (own_mono hrow (by omega)) hB.size (by omega) (own_mono hown' (by omega)) hgrow; have hc1 := hv1.cell; have hf1 := hv1.frozen)
    refine ⟨hk2.from _, KpF_app hrow (by omega) (by omega) hgrow, ⟨⟨_, hv2, ?_, trivial⟩, hB.trans (hb2.mono (Nat.le_refl _))⟩, heap_app q0 hrow (by omega) (by omega) hgrow, heap_app q1 hrow (by omega) (by omega) hgrow, ?_⟩
    · simp only [List.length_append, List.length_cons, List.length_nil, List.map_append, List.map_cons, List.map_nil]
      exact hown'.kept (grownBy_setCell' w5 w3.heap.size _) (.inr (hv1.not_row (by decide) hown').symm)
    · have := hgrow.size
      simp at this ⊢
      omega
  case done =>
    rintro D ys W hD rfl ⟨⟨⟨v, hv, hrow, _⟩, hB⟩, q0, q1, hsB⟩ hK
    have hc := hv.cell
    have hs1 : w.heap.size < w3.heap.size := by omega
    obtain ⟨k0, f0⟩ := blk q0
    obtain ⟨k1, f1⟩ := blk q1
    have Q := hidd (And.intro hv (And.intro hrow (And.intro hB (And.intro q0 (And.intro q1 (And.intro hsB (And.intro hK hD)))))))
    clear hv hrow hB q0 q1 hK
    gi_wp2
    gi_region
    gi_wp2
    obtain ⟨hv, hrow, hB, q0, q1, hsB, hK, hD⟩ := Q.out
    have hK' := hs_drew (hs_other (v := .int .i64 4) (a := ⟨w.heap.size + 1, 1, none⟩) (hs_other (v := .int .i64 1) (a := ⟨w.heap.size + 1, 0, none⟩) (hs_other (v := .int .i64 4) (a := ⟨w.heap.size, 1, none⟩) hK (by simp; omega)) (by simp; omega)) (by simp; omega))
    have q1' := hs_drew (hs_same (i := 1) (v := .int .i64 4) (hs_same (i := 0) (v := .int .i64 1) (hs_other (v := .int .i64 4) (a := ⟨w.heap.size, 1, none⟩) q1 (by simp))))
    have hr' := row_set (u := .int .i64 4) (a := ⟨w.heap.size + 1, 1, none⟩) (row_set (u := .int .i64 1) (a := ⟨w.heap.size + 1, 0, none⟩) (row_set (u := .int .i64 4) (a := ⟨w.heap.size, 1, none⟩) hrow (by simp; omega)) (by simp; omega)) (by simp; omega)
    refine ⟨by simp, .inl ⟨_, _, rfl, run_takeDeferred hK', ?_⟩⟩
    refine ⟨_, results_ctt Try.results20 _ _ (w.heap.size + 1) 31 #[.int .i64 1, .int .i64 4] (0, 0) _ rfl ((heap_own _ _ _ _).putObj (s := ()) _ q1' hK' rfl) Try.underlying31 rfl (by kernel_rfl), v, rfl, ?_, ?_⟩
    · exact ownsRow_putObj (own_mono (hr'.kept (gb_drew (gb_refl _ none)) (by first | exact .inl rfl | (rcases hr'.2 with ⟨rfl, _⟩ | ⟨b, cap, cur, rfl, hb, _, _⟩ <;> simp [Value.ownBlock]))) (by omega)) _ hK' rfl
    · have B5 := (((hB.setCell (p := ⟨w.heap.size, 1, none⟩) (Nat.le_refl _) (.int .i64 4)).setCell (p := ⟨w.heap.size + 1, 0, none⟩) (by simp) (.int .i64 1)).setCell (p := ⟨w.heap.size + 1, 1, none⟩) (by simp) (.int .i64 4)).drew
      exact B5.trans (belowK_b (w := w) (Nat.le_refl _) _ D _ _ (by omega) hK' rfl rfl)
  case stop =>
    rintro D c pre W _ _ h _
    exact h.elim
end Go.Proofs.Ytfmadgaknaflfaa
