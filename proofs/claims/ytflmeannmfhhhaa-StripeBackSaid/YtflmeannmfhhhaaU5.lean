import Derived.Test.YtflmeannmfhhhaaU4
namespace Go.Proofs.Ytflmeannmfhhhaa
open Go.RowKit
theorem dT : ElT Try.prog 55 26 (.agg #[.int .i64 0, .int .i64 0]) 2 16 := ⟨Try.underlying55, by kernel_rfl, rfl, by decide⟩
/-- the entries that differ, among the first k -/
def df (z y : List Int) (k : Nat) : List Nat := (List.range k).filter fun i => z.getD i 0 != y.getD i 0
/-- the changes that make them, as cells -/
def dfC (y : List Int) (l : List Nat) : List Value := l.flatMap fun (i : Nat) => [Value.int .i64 (i : Int), Value.int .i64 (y.getD i 0)]
/-- does an entry become nobody's? -/
def badI (z y : List Int) (i : Nat) : Bool := z.getD i 0 != y.getD i 0 && y.getD i 0 == 0
theorem df_eq {z y : List Int} {k : Nat} (h : z.getD k 0 = y.getD k 0) : df z y (k + 1) = df z y k := by
  unfold df
  rw [List.range_succ, List.filter_append]
  simp only [List.getD_eq_getElem?_getD] at h ⊢
  simp [h]
theorem df_ne {z y : List Int} {k : Nat} (h : z.getD k 0 ≠ y.getD k 0) : df z y (k + 1) = df z y k ++ [k] := by
  unfold df
  rw [List.range_succ, List.filter_append]
  simp only [List.getD_eq_getElem?_getD] at h ⊢
  simp [h]
theorem df_le (z y : List Int) (k : Nat) : (df z y k).length ≤ k := by
  unfold df
  exact Nat.le_trans (List.length_filter_le _ _) (by simp)
theorem dfC_snoc (y : List Int) (l : List Nat) (k : Nat) : dfC y (l ++ [k]) = dfC y l ++ [.int .i64 (k : Int), .int .i64 (y.getD k 0)] := by
  unfold dfC
  rw [List.flatMap_append]
  rfl
theorem idx8i (z : List Int) (h : z.length = 8) (i : Nat) (hi : i < 8) (t : Int) (ht : t = z.getD i 0) (w : World) : (Instr.index 22 (.agg #[.int .i64 (z[0]?.getD 0), .int .i64 (z[1]?.getD 0), .int .i64 (z[2]?.getD 0), .int .i64 (z[3]?.getD 0), .int .i64 (z[4]?.getD 0), .int .i64 (z[5]?.getD 0), .int .i64 (z[6]?.getD 0), .int .i64 (z[7]?.getD 0)]) (.int .i64 (i : Int))).run Try.prog w = .ok (.int .i64 t) w := by
  have e := run_idx .i64 Try.underlying22 Try.underlying3 (by kernel_rfl) z h i hi w
  rw [is8 z h, ← ht] at e
  simp only [List.getD_eq_getElem?_getD] at e
  exact e
theorem eq8 (z y : List Int) (hz : z.length = 8) (hy : y.length = 8) (w : World) : (Op.equalIn 10000 22 (.agg #[.int .i64 (z[0]?.getD 0), .int .i64 (z[1]?.getD 0), .int .i64 (z[2]?.getD 0), .int .i64 (z[3]?.getD 0), .int .i64 (z[4]?.getD 0), .int .i64 (z[5]?.getD 0), .int .i64 (z[6]?.getD 0), .int .i64 (z[7]?.getD 0)]) (.agg #[.int .i64 (y[0]?.getD 0), .int .i64 (y[1]?.getD 0), .int .i64 (y[2]?.getD 0), .int .i64 (y[3]?.getD 0), .int .i64 (y[4]?.getD 0), .int .i64 (y[5]?.getD 0), .int .i64 (y[6]?.getD 0), .int .i64 (y[7]?.getD 0)])).run Try.prog w = .ok (z == y) w := by
  have e := run_eqIn_ints w 9998 22 3 8 .i64 Try.underlying22 Try.underlying3 (by kernel_rfl) z y hz hy
  rw [is8 z hz, is8 y hy] at e
  simp only [List.getD_eq_getElem?_getD] at e
  exact e
theorem df_same (z : List Int) (k : Nat) : df z z k = [] := by
  unfold df
  rw [List.filter_eq_nil_iff]
  intro i _
  simp
/-- the two boxes -/
abbrev two (W w : World) (V U : Int) (z y : List Int) : Prop := w.heap[W.heap.size]? = some (.cells (mpA V z) 24 (0, 0)) ∧ w.heap[W.heap.size + 1]? = some (.cells (mpA U y) 24 (0, 0))
theorem two_below {W w w1 : World} {V U : Int} {z y : List Int} (h : two W w V U z y) (hb : Below w.heap.size w w1) : two W w1 V U z y :=
  ⟨blk_below hb h.1 (Array.getElem?_eq_some_iff.1 h.1).1, blk_below hb h.2 (Array.getElem?_eq_some_iff.1 h.2).1⟩
theorem two_low {W w w1 : World} {V U : Int} {z y : List Int} {g : Nat} {o : Obj} (h : two W w V U z y) (hb : Below g (w.alloc o) w1) (hs : W.heap.size + 2 ≤ g) (hg : g ≤ w.heap.size) : two W w1 V U z y :=
  ⟨blk_below hb ((heap_alloc_old _ _ (by omega)).trans h.1) (by omega), blk_below hb ((heap_alloc_old _ _ (by omega)).trans h.2) (by omega)⟩
set_option maxHeartbeats 4000000 in
theorem diff_any (V U : Int) (z y : List Int) (hz : z.length = 8) (hy : y.length = 8) (hc : chE V z = 0) (hd : chE U y = 0) (W : World) :
    Calls Try.prog 22 #[.agg (is .i64 (mpL V z)).toArray, .agg (is .i64 (mpL U y)).toArray] W fun e w' =>
      (((∃ i, i < 8 ∧ badI z y i = true) ∧ e = .returned (.tuple #[.slice none 0 0, .int .i64 2])) ∨
       ((∀ i, i < 8 → badI z y i = false) ∧ ∃ a c, e = .returned (.tuple #[.slice a (df z y 8).length c, .int .i64 0]) ∧ Sl w' a (df z y 8).length c 2 (dfC y (df z y 8)))) ∧ Below W.heap.size W w' := by
  have HZ := hidd hz
  have HY := hidd hy
  have HC := hidd hc
  have HD := hidd hd
  have HG := hidd (al2 W (.cells (mpA V z) 24) (.cells (mpA U y) 24))
  clear hz hy hc hd
  have hq := eq8 z y HZ.out HY.out
  cases he : z == y
  · rw [he] at hq
    go_enter Try.func22, Try.ntmps22
    go_wp2_with (first | (with_reducible refine wpList_load_row rfl 24 (.tmp 2) rfl W.heap.size rfl 24 (mpA V z) (0, 0) _ HG.out.1 Try.underlying24 rfl (mp_sz V z HZ.out) ?_) | (go_at_call 11; with_reducible refine (check_any V z HZ.out _).mono ?_; rintro e w1 ⟨rfl, hb1⟩; rw [HC.out]; have HA := hidd (after2 hb1); have d := cells9 HY.out HA.out.2.1; have c0 := ((blk HA.out.2.1).1 0).trans (show (mpA U y)[0]? = some (.int .i64 U) from rfl); obtain ⟨d1, d2, d3, d4, d5, d6, d7, d8⟩ := d; clear hb1) | (go_at_call 11; with_reducible refine (check9 U y HY.out _).mono ?_; rintro e w2 ⟨rfl, hb2⟩; rw [HD.out]; have HT := hidd (two_below ⟨HA.out.1, HA.out.2.1⟩ hb2); have HB2 := hidd (HA.out.2.2.1.trans (hb2.mono HA.out.2.2.1.size)); have HS2 := hidd (Nat.le_trans HA.out.2.2.2 hb2.size); clear hb2 d1 d2 d3 d4 d5 d6 d7 d8 c0; have d := cells9 HZ.out HT.out.1; have e := cells9 HY.out HT.out.2; obtain ⟨d1, d2, d3, d4, d5, d6, d7, d8⟩ := d; obtain ⟨e1, e2, e3, e4, e5, e6, e7, e8⟩ := e))
    clear d1 d2 d3 d4 d5 d6 d7 d8 e1 e2 e3 e4 e5 e6 e7 e8 hq he
    go_loopw [4, 23] (fun v i wr => ∃ k : Nat, k ≤ 8 ∧ i = .int .i64 k ∧ wr.ownsRow w2.heap.size 26 2 v (df z y k).length (dfC y (df z y k)) ∧ (∀ i, i < k → badI z y i = false) ∧ two W wr V U z y ∧ Below W.heap.size W wr ∧ w2.heap.size ≤ wr.heap.size) (fun _ i _ => 8 - (intOf i).toNat)
    case atStart => exact ⟨0, by omega, rfl, World.ownsRow_nil _ _ _ _, fun i hi => by omega, HT.out, HB2.out, Nat.le_refl _⟩
    case round =>
      obtain ⟨k, hk, rfl, ho, hbad, ht, hbel, hge⟩ := hrel
      have HO := hidd ho
      have HK := hidd hbad
      have T := hidd ht
      have GB := hidd hbel
      have GG := hidd hge
      have HL := hidd (df_le z y k)
      rcases Nat.lt_or_ge k 8 with hlt | hge8
      · have c1 := ((blk ht.1).1 (1 + k)).trans (cong1 V z k HZ.out hlt)
        obtain ⟨x, hx⟩ : ∃ x, x = z.getD k 0 := ⟨_, rfl⟩
        obtain ⟨t, hy⟩ : ∃ t, t = y.getD k 0 := ⟨_, rfl⟩
        rw [← hx] at c1
        have ix := idx8i y HY.out k hlt t hy
        have HX := hidd hx
        have HT2 := hidd hy
        clear ho hbad ht hbel hge hx hy
        by_cases h1 : t = x
        · have hf := HX.out
          rw [← h1, HT2.out] at hf
          have HF := hidd hf
          clear hf
          have h1b : (t == x) = true := by simpa using h1
          go_wp2_with fail
          refine ⟨⟨k + 1, by omega, by push_cast; rfl, by rw [df_eq HF.out.symm]; exact HO.out, upto_succ HK.out (by unfold badI; rw [HF.out]; simp), T.out, GB.out, GG.out⟩, ?_⟩
          simp [intOf]
          omega
        · have h1b : (t == x) = false := by simpa using h1
          by_cases h2 : t = 0
          · have h2b : (t == 0) = true := by simpa using h2
            have HF := hidd (show badI z y k = true by unfold badI; rw [← HX.out, ← HT2.out, h2]; rw [h2] at h1; simp; omega)
            clear h1 h2
            go_wp2_with fail
            go_ret2
            exact ⟨.inl ⟨⟨k, hlt, HF.out⟩, rfl⟩, GB.out⟩
          · have h2b : (t == 0) = false := by simpa using h2
            have HF := hidd (show badI z y k = false by unfold badI; rw [← HT2.out, h2b, Bool.and_false])
            have HN := hidd (show z.getD k 0 ≠ y.getD k 0 by rw [← HX.out, ← HT2.out]; exact fun h => h1 h.symm)
            clear h1 h2
            go_wp2_with (first | (at_builtin; refine wpList_app dT rfl (.tmp 27) (.tmp 31) rfl w2.heap.size _ (df z y k).length (dfC y (df z y k)) rfl (HO.out.alloc _) _ 1 1 [.int .i64 (k : Int), .int .i64 t] rfl (Sl.fresh wr [_, _] 26 1 2 rfl (by decide)) (by simp [Value.oneCell']) (by have := HL.out; omega) (by have := HL.out; omega) (by have := GG.out; simp; omega) ?_; intro v' w' hown' hge' hbel'))
            refine ⟨⟨k + 1, by omega, by push_cast; rfl, ?_, upto_succ HK.out HF.out, two_low T.out hbel' HS2.out GG.out, (GB.out.alloc GB.out.size _).trans (hbel'.mono HB2.out.size), ?_⟩, ?_⟩
            · rw [df_ne HN.out, dfC_snoc, List.length_append, ← HT2.out]
              exact hown'
            · have h2 := hbel'.size
              have h3 := GG.out
              simp at h2
              omega
            · simp [intOf]
              omega
      · have hk8 : k = 8 := by omega
        subst hk8
        obtain ⟨a', c', rfl, hs⟩ := own_Sl ho
        clear ho hbad ht hbel hge
        have HSL := hidd hs
        clear hs
        go_wp2
        go_ret2
        exact ⟨.inr ⟨HK.out, _, _, rfl, HSL.out⟩, GB.out⟩
  · rw [he] at hq
    have HE := hidd (show z = y by simpa using he)
    clear he
    go_enter Try.func22, Try.ntmps22
    go_wp2_with (first | (with_reducible refine wpList_load_row rfl 24 (.tmp 2) rfl W.heap.size rfl 24 (mpA V z) (0, 0) _ HG.out.1 Try.underlying24 rfl (mp_sz V z HZ.out) ?_) | (go_at_call 11; with_reducible refine (check_any V z HZ.out _).mono ?_; rintro e w1 ⟨rfl, hb1⟩; rw [HC.out]; have HA := hidd (after2 hb1); have d := cells9 HY.out HA.out.2.1; have c0 := ((blk HA.out.2.1).1 0).trans (show (mpA U y)[0]? = some (.int .i64 U) from rfl); obtain ⟨d1, d2, d3, d4, d5, d6, d7, d8⟩ := d; clear hb1) | (go_at_call 11; with_reducible refine (check9 U y HY.out _).mono ?_; rintro e w2 ⟨rfl, hb2⟩; rw [HD.out]; have HT := hidd (two_below ⟨HA.out.1, HA.out.2.1⟩ hb2); have HB2 := hidd (HA.out.2.2.1.trans (hb2.mono HA.out.2.2.1.size)); have HS2 := hidd (Nat.le_trans HA.out.2.2.2 hb2.size); clear hb2 d1 d2 d3 d4 d5 d6 d7 d8 c0; have d := cells9 HZ.out HT.out.1; have e := cells9 HY.out HT.out.2; obtain ⟨d1, d2, d3, d4, d5, d6, d7, d8⟩ := d; obtain ⟨e1, e2, e3, e4, e5, e6, e7, e8⟩ := e))
    go_ret2
    refine ⟨.inr ⟨fun i _ => by unfold badI; rw [HE.out]; simp, none, 0, ?_, ?_⟩, HB2.out⟩
    · rw [HE.out, df_same]
      rfl
    · rw [HE.out, df_same]
      exact Sl.none _ _
end Go.Proofs.Ytflmeannmfhhhaa
