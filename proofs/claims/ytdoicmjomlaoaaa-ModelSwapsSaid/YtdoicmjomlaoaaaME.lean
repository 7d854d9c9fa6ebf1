import Derived.Test.YtdoicmjomlaoaaaMD
namespace Go.Proofs.Ytdoicmjomlaoaaa
open Go.RowKit Go.Shelf
attribute [local go_sem] Oper.semAt_some
/-- model.touched, a step: what is read of the store, what is written -/
def stK (s : (Nat → Bool) × (Nat → Bool)) (x : Sn) : (Nat → Bool) × (Nat → Bool) :=
  if x.K = 2 then (s.1, fun j => s.2 j || j == x.k.toNat) else if s.2 x.k.toNat = true then s else (fun j => s.1 j || j == x.k.toNat, s.2)
def tcS (l : List Sn) : (Nat → Bool) × (Nat → Bool) := l.foldl stK (fun _ => false, fun _ => false)
theorem tcS_snoc (l : List Sn) (x : Sn) : tcS (l ++ [x]) = stK (tcS l) x := by
  unfold tcS
  rw [List.foldl_append]
  rfl
theorem MapK.mono {w : World} {b cnt cnt' : Nat} {kn : Nat → Bool} (h : MapK w b cnt kn) (hc : cnt ≤ cnt') : MapK w b cnt' kn := by
  obtain ⟨n, D, hn, h1, h2⟩ := h
  exact ⟨n, D, Nat.le_trans hn hc, h1, h2⟩
theorem mapk_own {β : Type} {B b : Nat} (hb : b < B) (cnt : β → Nat) (f : β → Nat → Bool) : OwnFrom B (fun (s : β) W => MapK W b (cnt s) (f s)) :=
  fun s A C row h hg hr => h.kept hg (fun e => by have := (hr b e.symm).1; omega)
theorem box75 {w : World} {g : Nat} {b : Nat} (h : Boxed w g 75 (.map (some b))) : (Instr.loadAt 75 (.pointer (some ⟨g, 0, none⟩))).run Try.prog w = .ok (.map (some b)) w := by
  have hc := h.cell
  simp [go_sem, hc, Try.underlying75]
set_option maxRecDepth 100000 in
set_option maxHeartbeats 4000000 in
theorem touched_any (a : Option Addr) (m c : Nat) (l : List Sn) (hl : l.length = m) (hm : m ≤ 1000) (W : World) (hs : Sl W a m c 14 (scs l)) (h8 : S8 l) (hok : ∀ x ∈ l, okS x = true) :
    Calls Try.prog 29 #[.slice a m c] W fun e w' => ∃ a1 c1 a2 c2, e = .returned (.tuple #[.slice a1 (rsL (tcS l).1 32).length c1, .slice a2 (rsL (tcS l).2 32).length c2]) ∧
      Sl w' a1 (rsL (tcS l).1 32).length c1 1 (is .i64 (rsL (tcS l).1 32)) ∧ Sl w' a2 (rsL (tcS l).2 32).length c2 1 (is .i64 (rsL (tcS l).2 32)) ∧ Below W.heap.size W w' := by
  refine (callsIn_wide (n := 3)).1 ?_
  have HL := hidd hl
  have HS := hidd hs
  have H8 := hidd h8
  have HOK := hidd hok
  have hmm := @run_makeMap Try.prog
  clear hs h8 hok
  refine callsIn_of_wp_marks Try.func29 rfl trivial ?_ rfl
  simp only [Try.ntmps29, List.size_toArray, List.length_cons, List.length_nil, Nat.reduceAdd, Nat.reduceSub, Array.replicate_succ, Array.replicate_zero, List.push_toArray, List.append_toArray, List.nil_append, List.cons_append]
  refine wpIn_wide.2 ?_
  go_wp2_with fail
  have q := al2 W (.map #[] 0) (.map #[] 0)
  have hsA : ((W.alloc (.map #[] 0)).alloc (.map #[] 0)).heap.size = W.heap.size + 2 := by simp
  have M0 : MapK ((((W.alloc (.map #[] 0)).alloc (.map #[] 0)).alloc (.cells #[.map (some W.heap.size)] 75)).alloc (.cells #[.map (some (W.heap.size + 1))] 75)) W.heap.size 0 (fun _ => false) :=
    (((MapK.made W).kept (World.grownBy_alloc _ _ none) (by simp)).kept (World.grownBy_alloc _ _ none) (by simp)).kept (World.grownBy_alloc _ _ none) (by simp)
  have M1 : MapK ((((W.alloc (.map #[] 0)).alloc (.map #[] 0)).alloc (.cells #[.map (some W.heap.size)] 75)).alloc (.cells #[.map (some (W.heap.size + 1))] 75)) (W.heap.size + 1) 0 (fun _ => false) := by
    have h := MapK.made (W.alloc (.map #[] 0))
    rw [show (W.alloc (.map #[] 0)).heap.size = W.heap.size + 1 by simp] at h
    exact (h.kept (World.grownBy_alloc _ _ none) (by simp)).kept (World.grownBy_alloc _ _ none) (by simp)
  have X0 : Boxed ((((W.alloc (.map #[] 0)).alloc (.map #[] 0)).alloc (.cells #[.map (some W.heap.size)] 75)).alloc (.cells #[.map (some (W.heap.size + 1))] 75)) (W.heap.size + 1 + 1) 75 (.map (some W.heap.size)) := by
    have h := Boxed.new ((W.alloc (.map #[] 0)).alloc (.map #[] 0)) 75 (.map (some W.heap.size))
    rw [hsA] at h
    exact h.alloc _
  have X1 : Boxed ((((W.alloc (.map #[] 0)).alloc (.map #[] 0)).alloc (.cells #[.map (some W.heap.size)] 75)).alloc (.cells #[.map (some (W.heap.size + 1))] 75)) (W.heap.size + 1 + 1 + 1) 75 (.map (some (W.heap.size + 1))) := by
    have h := Boxed.new (((W.alloc (.map #[] 0)).alloc (.map #[] 0)).alloc (.cells #[.map (some W.heap.size)] 75)) 75 (.map (some (W.heap.size + 1)))
    rw [show (((W.alloc (.map #[] 0)).alloc (.map #[] 0)).alloc (.cells #[.map (some W.heap.size)] 75)).heap.size = W.heap.size + 1 + 1 + 1 by simp] at h
    exact h
  have BB : Below W.heap.size W ((((W.alloc (.map #[] 0)).alloc (.map #[] 0)).alloc (.cells #[.map (some W.heap.size)] 75)).alloc (.cells #[.map (some (W.heap.size + 1))] 75)) := ((((Below.refl _ W).alloc (Nat.le_refl _) _).alloc (by simp) _).alloc (by simp; omega) _).alloc (by simp; omega) _
  have hs1 : ((((W.alloc (.map #[] 0)).alloc (.map #[] 0)).alloc (.cells #[.map (some W.heap.size)] 75)).alloc (.cells #[.map (some (W.heap.size + 1))] 75)).heap.size = W.heap.size + 4 := by simp
  clear q hsA
  generalize (((W.alloc (.map #[] 0)).alloc (.map #[] 0)).alloc (.cells #[.map (some W.heap.size)] 75)).alloc (.cells #[.map (some (W.heap.size + 1))] 75) = W1 at *
  have G := hidd (And.intro M0 (And.intro M1 (And.intro X0 (And.intro X1 (And.intro BB hs1)))))
  clear M0 M1 X0 X1 BB hs1
  refine ((callsIn_wide (n := 3)).1 (steps_in Fence.wide 3 trivial rfl a m c _)).mono ?_
  rintro e w5 ⟨rfl, rfl⟩
  go_wp2_with fail
  obtain ⟨M0, M1, X0, X1, BB, hs1⟩ := G.out
  have hg : (W1.alloc (.cells #[.slice a m c] 40)).cell? ⟨W1.heap.size, 0, none⟩ = some (.slice a m c) := (Boxed.new W1 40 (.slice a m c)).cell
  have hszA : (W1.alloc (.cells #[.slice a m c] 40)).heap.size = W1.heap.size + 1 := by simp
  have B0 : Below W.heap.size W (W1.alloc (.cells #[.slice a m c] 40)) := BB.alloc BB.size _
  have g0 := M0.kept (World.grownBy_alloc W1 (.cells #[.slice a m c] 40) none) (by simp)
  have g1 := M1.kept (World.grownBy_alloc W1 (.cells #[.slice a m c] 40) none) (by simp)
  have g2 : Boxed (W1.alloc (.cells #[.slice a m c] 40)) (W.heap.size + 1 + 1) 75 (.map (some W.heap.size)) := X0.alloc _
  have g3 : Boxed (W1.alloc (.cells #[.slice a m c] 40)) (W.heap.size + 1 + 1 + 1) 75 (.map (some (W.heap.size + 1))) := X1.alloc _
  have hlt : ∀ b off, a = some ⟨b, off, none⟩ → 0 < m → b < W.heap.size := fun b off e h0 => by
    obtain ⟨b', off', e', hc⟩ := HS.out.cells 0 (by rw [scs_len H8.out, HL.out]; omega)
    rw [e] at e'
    injection e' with e'
    injection e' with e1 e2
    subst e1
    exact World.block_lt_of_cell? W _ (hc.trans (List.getElem?_eq_getElem (by rw [scs_len H8.out, HL.out]; omega)))
  clear M0 M1 X0 X1 BB
  generalize hW0 : W1.alloc (.cells #[.slice a m c] 40) = W0 at *
  have hI : OwnFrom W0.heap.size (fun (pre : List (Fin l.length)) (w : World) => ((MapK w W.heap.size pre.length (tcS (pk l pre)).1 ∧ MapK w (W.heap.size + 1) pre.length (tcS (pk l pre)).2) ∧ (Boxed w (W.heap.size + 1 + 1) 75 (.map (some W.heap.size)) ∧ Boxed w (W.heap.size + 1 + 1 + 1) 75 (.map (some (W.heap.size + 1))))) ∧ Below W.heap.size W w ∧ W0.heap.size ≤ w.heap.size) :=
    OwnFrom.and (OwnFrom.and (OwnFrom.and (mapk_own (by omega) (fun pre : List (Fin l.length) => pre.length) (fun pre => (tcS (pk l pre)).1)) (mapk_own (by omega) (fun pre : List (Fin l.length) => pre.length) (fun pre => (tcS (pk l pre)).2))) (OwnFrom.and (Own.from (boxed_own _ 75 (fun _ => .map (some W.heap.size))) _) (Own.from (boxed_own _ 75 (fun _ => .map (some (W.heap.size + 1)))) _))) (OwnFrom.and (ownFrom_below (Nat.le_refl _) (by omega)) (Own.from (size_own W0.heap.size) _))
  refine (wpIn_wide (n := 3)).1 ?_
  refine wpIn_rangeFunc_ownH rfl (by omega) (gf := 34) (lb := #[.pointer (some ⟨W1.heap.size, 0, none⟩)]) rfl trivial (enters_of Try.func34 (by kernel_rfl) rfl)
    (steps_stops Fence.wide 2 trivial rfl (by omega) W1.heap.size W.heap.size a m c l hl hm H8.out HOK.out W0 hg (by omega) (HS.out.grow B0) hlt (by omega)) belowK_t (belowK_b (by omega)) (Below.refl _ _) (fun _ => rfl)
    _ (fun _ _ _ => False) hI (fun _ _ _ _ _ hs _ _ => hs)
    ⟨⟨⟨g0, g1⟩, ⟨g2, g3⟩⟩, B0, Nat.le_refl _⟩
    (fun x aa w => ∃ X, W0.heap.size ≤ X ∧ aa = { tmps := #[.slice a m c, undef, .slice none 0 0, .slice none 0 0, .pointer (some ⟨W.heap.size + 1 + 1, 0, none⟩), .pointer (some ⟨W.heap.size + 1 + 1 + 1, 0, none⟩), undef, .pointer (some ⟨X, 0, none⟩), .map (some W.heap.size), .map (some (W.heap.size + 1)), .slice a m c, .func (.func 34) #[] #[.pointer (some ⟨W1.heap.size, 0, none⟩)], .int .i64 (x.1 : Int), .agg (sc l[x.1]).toArray, undef, undef, undef, undef, undef, undef, undef, undef, undef, undef, undef, undef, undef, undef, undef, undef, undef, undef], defers := [] } ∧ w.heap[X]? = some (.cells (sc l[x.1]).toArray 49 (0, 0)))
    ?hAx ?assign ?body ?done ?stop
  case hAx =>
    rintro x aa s A B row ⟨X, h1, h2, h3⟩ hgr hr
    exact ⟨X, h1, h2, (heapf_own X (fun _ : Unit => (sc l[x.1]).toArray) 49) () A B row h3 hgr (fun r e => (hr r e).2)⟩
  case assign =>
    rintro lp pre x w K hin hK
    clear hs1 hszA
    simp only [encS]
    have HX8 := hidd (H8.out l[x.1] (List.getElem_mem _))
    have HK := hidd hK
    have HI := hidd hin
    clear hK hin
    gi_wp2_with (with_reducible refine wpListIn_store_row rfl 49 (.tmp 7) (.tmp 13) rfl w.heap.size (sc l[x.1]).toArray rfl rfl 49 z14 (ha_new w (.cells z14 49)) (sc_sz _ HX8.out) (z14_sz _ HX8.out) (sc_one _) ?_)
    rw [World.setRow_alloc_new]
    exact HK.out _ _ ((KeepsOthers.alloc w _).from _) ((Below.refl _ w).alloc HI.out.2.1.size _) (hI.alloc _ HI.out) ⟨w.heap.size, HI.out.2.2, rfl, ha_new w _⟩
  case body =>
    rintro lp pre x aa w hlp _ ⟨⟨⟨e0, e1⟩, ⟨e2, e3⟩⟩, e4, e5⟩ ⟨X, hX, rfl, hx⟩ hlt2
    have hxk : okS l[x.1] = true := HOK.out _ (List.getElem_mem _)
    have hsn : tcS (pk l (pre ++ [x])) = stK (tcS (pk l pre)) l[x.1] := by rw [pk_snoc, tcS_snoc]
    obtain ⟨s, hsx⟩ : ∃ s, s = l[x.1] := ⟨_, rfl⟩
    obtain ⟨st, hst⟩ : ∃ st, st = tcS (pk l pre) := ⟨_, rfl⟩
    rw [← hsx] at hxk hx hsn
    rw [← hst] at hsn e0 e1
    have hk : s.k = (s.k.toNat : Nat) ∧ s.k.toNat < 32 ∧ (s.K = 1 ∨ s.K = 2) := by
      unfold okS at hxk
      simp at hxk
      omega
    obtain ⟨kk, hkk⟩ : ∃ kk, kk = s.k.toNat := ⟨_, rfl⟩
    rw [← hkk] at hk
    have cP4 := ((blk hx).1 4).trans (show (sc s).toArray[4]? = some (.int .i64 s.k) from rfl)
    have cP0 := ((blk hx).1 0).trans (show (sc s).toArray[0]? = some (.int .i8 s.K) from rfl)
    rw [hk.1] at cP4
    have b4 := e2.cell
    have b5 := e3.cell
    have hlen : pre.length ≤ 1000 := by omega
    have PUT0 := e0.put kk hk.2.1 hlen
    have PUT1 := e1.put kk hk.2.1 hlen
    have hlook := e1.look kk hk.2.1
    have KC := hidd hk.2.2
    have HKK := hidd hkk
    have HSN := hidd hsn
    have HX1 := hidd (And.intro e0 (And.intro e1 (And.intro e2 (And.intro e3 (And.intro e4 e5)))))
    have HPUT0 := hidd PUT0
    have HPUT1 := hidd PUT1
    have HLEN := hidd (show (pre ++ [x]).length = pre.length + 1 by simp)
    clear hxk hsn hsx hst hx hkk hk PUT0 PUT1 e0 e1 e2 e3 e4 e5 hI hlt2
    rcases KC.out with hK | hK
    · rw [hK] at cP0
      have HK := hidd hK
      clear hK
      cases hq : st.2 kk
      · rw [hq] at hlook
        have HQ := hidd hq
        obtain ⟨w', hrun, hm', hgb⟩ := HPUT0.out
        have HMG := hidd (And.intro hm' hgb)
        clear hq hm' hgb
        gi_wp2_with fail
        obtain ⟨hm', hgb⟩ := HMG.out
        obtain ⟨e0, e1, e2, e3, e4, e5⟩ := HX1.out
        have hE : stK st s = (fun j => st.1 j || j == kk, st.2) := by
          unfold stK
          rw [HK.out, ← HKK.out, HQ.out]
          rfl
        have hE2 := HSN.out
        rw [hE] at hE2
        refine ⟨KeepsFrom.of_grownBy hgb (fun j e => by cases e; omega), (Below.refl _ w).grown hgb e4.size (fun k e => by cases e; exact Nat.le_refl _), ⟨⟨?_, ?_⟩, ⟨e2.kept hgb (by first | (simp; done) | (simp; omega)), e3.kept hgb (by first | (simp; done) | (simp; omega))⟩⟩, e4.grown hgb e4.size (fun k e => by cases e; exact Nat.le_refl _), Nat.le_trans e5 hgb.size⟩
        · rw [hE2, HLEN.out]
          exact hm'
        · rw [hE2, HLEN.out]
          exact (e1.kept hgb (by simp)).mono (by omega)
      · rw [hq] at hlook
        have HQ := hidd hq
        clear hq
        gi_wp2_with fail
        obtain ⟨e0, e1, e2, e3, e4, e5⟩ := HX1.out
        have hE : stK st s = st := by
          unfold stK
          rw [HK.out, ← HKK.out, HQ.out]
          rfl
        have hE2 := HSN.out
        rw [hE] at hE2
        refine ⟨KeepsFrom.refl _ _, Below.refl _ _, ⟨⟨?_, ?_⟩, ⟨e2, e3⟩⟩, e4, e5⟩
        · rw [hE2, HLEN.out]
          exact e0.mono (by omega)
        · rw [hE2, HLEN.out]
          exact e1.mono (by omega)
    · rw [hK] at cP0
      have HK := hidd hK
      clear hK hlook
      obtain ⟨w', hrun, hm', hgb⟩ := HPUT1.out
      have HMG := hidd (And.intro hm' hgb)
      clear hm' hgb
      gi_wp2_with fail
      obtain ⟨hm', hgb⟩ := HMG.out
      obtain ⟨e0, e1, e2, e3, e4, e5⟩ := HX1.out
      have hE : stK st s = (st.1, fun j => st.2 j || j == kk) := by
        unfold stK
        rw [HK.out, ← HKK.out]
        rfl
      have hE2 := HSN.out
      rw [hE] at hE2
      refine ⟨KeepsFrom.of_grownBy hgb (fun j e => by cases e; omega), (Below.refl _ w).grown hgb e4.size (fun k e => by cases e; omega), ⟨⟨?_, ?_⟩, ⟨e2.kept hgb (by first | (simp; done) | (simp; omega)), e3.kept hgb (by first | (simp; done) | (simp; omega))⟩⟩, e4.grown hgb e4.size (fun k e => by cases e; omega), Nat.le_trans e5 hgb.size⟩
      · rw [hE2, HLEN.out]
        exact (e0.kept hgb (by simp)).mono (by omega)
      · rw [hE2, HLEN.out]
        exact hm'
  case done =>
    rintro D ys w hD rfl ⟨⟨⟨e0, e1⟩, ⟨e2, e3⟩⟩, e4, e5⟩ hK
    have hall : pk l (en l) = l := en_all l
    rw [hall] at e0 e1
    have HX1 := hidd (And.intro e0 (And.intro e1 (And.intro e2 (And.intro e3 (And.intro e4 (And.intro e5 hK))))))
    clear e0 e1 e2 e3 e4 e5 hK hI
    go_wp2_with fail
    obtain ⟨e0, e1, e2, e3, e4, e5, hK⟩ := HX1.out
    have hlen : (en l).length = m := by rw [en_len, HL.out]
    rw [hlen] at e0 e1
    have E0 := hidd (show MapK w.drew W.heap.size m (tcS l).1 from e0)
    have E1 := hidd (show MapK w.drew (W.heap.size + 1) m (tcS l).2 from e1)
    have E2 := hidd (show Boxed w.drew (W.heap.size + 1 + 1) 75 (.map (some W.heap.size)) from e2)
    have E3 := hidd (show Boxed w.drew (W.heap.size + 1 + 1 + 1) 75 (.map (some (W.heap.size + 1))) from e3)
    have EB := hidd (show Below W.heap.size W w.drew from e4.drew)
    have EK := hidd (show w.drew.heap[D]? = _ from hK)
    have ELT := hidd (show W.heap.size + 1 < w.drew.heap.size from e1.lt)
    clear HX1 e0 e1 e2 e3 e4 e5 hK
    refine wp_region_held_drew (S := fun _ => True) (by kernel_rfl) trivial (fun _ => ?_)
    refine wpAnyH_ready (rs := [0, 2]) (by kernel_rfl) (by simp) ?_
    refine AllReadyH.cons rfl (fun K hK => ?_) (AllReadyH.cons rfl (fun K hK => ?_) (AllReadyH.nil))
    · refine step_run rfl 28 rfl (exec_box rfl rfl (box75 E2.out)) ?_
      refine hK.out _ _ trivial (fun _ => ?_)
      clear hK K
      try simp only [Act.put, List.setIfInBounds_toArray, List.set_cons_zero, List.set_cons_succ]
      refine wpAnyH_ready (rs := [1, 2]) (by kernel_rfl) (by simp) ?_
      refine AllReadyH.cons rfl (fun K hK => ?_) (AllReadyH.cons rfl (fun K hK => ?_) (AllReadyH.nil))
      · go_simp
        refine (rising_any W.heap.size m _ _ E0.out).mono ?_
        rintro e wa ⟨a1, c1, rfl, hs1', had1, hg1⟩
        have S1 := hidd hs1'
        have A1 := hidd had1
        have F1 := hidd (E1.out.kept hg1 (by simp))
        have F3 := hidd (E3.out.kept hg1 (by simp; omega))
        have FB := hidd (EB.out.grown hg1 EB.out.size (fun k e => by cases e; exact Nat.le_refl _))
        have FD := hidd (heap_grown EK.out hg1 (by simp; omega))
        clear hs1' had1 hg1
        dsimp only
        refine hK.out _ _ trivial (fun _ => ?_)
        clear hK K
        try simp only [Act.put, List.setIfInBounds_toArray, List.set_cons_zero, List.set_cons_succ]
        refine wpAnyH_ready (rs := [2]) (by kernel_rfl) (by simp) ?_
        refine AllReadyH.cons rfl (fun K hK => ?_) (AllReadyH.nil)
        refine step_run rfl 30 rfl (exec_box rfl rfl (box75 F3.out)) ?_
        refine hK.out _ _ trivial (fun _ => ?_)
        clear hK K
        try simp only [Act.put, List.setIfInBounds_toArray, List.set_cons_zero, List.set_cons_succ]
        refine wpAnyH_ready (rs := [3]) (by kernel_rfl) (by simp) ?_
        refine AllReadyH.cons rfl (fun K hK => ?_) (AllReadyH.nil)
        go_simp
        refine (rising_any (W.heap.size + 1) m _ _ F1.out).mono ?_
        rintro e wb ⟨a2, c2, rfl, hs2', had2, hg2⟩
        have S2 := hidd hs2'
        have T1 := hidd (sl_gb S1.out hg2 (fun b off e => by have := A1.out b off e; have := EB.out.size; have := ELT.out; simp; omega))
        have GB := hidd (FB.out.grown hg2 FB.out.size (fun k e => by cases e; omega))
        have GD := hidd (heap_grown FD.out hg2 (by simp; omega))
        clear hs2' had2 hg2
        dsimp only
        refine hK.out _ _ trivial (fun _ => ?_)
        clear hK K
        try simp only [Act.put, List.setIfInBounds_toArray, List.set_cons_zero, List.set_cons_succ]
        refine wpAnyH_ready (rs := [4]) (by kernel_rfl) (by simp) ?_
        refine AllReadyH.cons rfl (fun K hK => ?_) (AllReadyH.nil)
        refine step_run rfl 2 rfl (exec_asg rfl rfl) ?_
        refine hK.out _ _ trivial (fun _ => ?_)
        clear hK K
        try simp only [Act.put, List.setIfInBounds_toArray, List.set_cons_zero, List.set_cons_succ]
        refine wpAnyH_ready (rs := [5]) (by kernel_rfl) (by simp) ?_
        refine AllReadyH.cons rfl (fun K hK => ?_) (AllReadyH.nil)
        refine step_run rfl 3 rfl (exec_asg rfl rfl) ?_
        refine hK.out _ _ trivial (fun _ => ?_)
        clear hK K
        try simp only [Act.put, List.setIfInBounds_toArray, List.set_cons_zero, List.set_cons_succ]
        refine wpAnyH_done (by kernel_rfl) ?_ _
        go_wp2
        refine ⟨by simp, .inl ⟨_, _, rfl, run_takeDeferred GD.out, ?_⟩⟩
        refine ⟨_, results_tmp2 Try.results29 _ Try.prog _, a1, c1, a2, c2, rfl, ?_, ?_, ?_⟩
        · exact (sl_own a1 (rsL (tcS l).1 32).length c1 1 (is .i64 (rsL (tcS l).1 32))).putObj (s := ()) _ T1.out GD.out rfl
        · exact (sl_own a2 (rsL (tcS l).2 32).length c2 1 (is .i64 (rsL (tcS l).2 32))).putObj (s := ()) _ S2.out GD.out rfl
        · exact GB.out.trans (belowK_b (w := W0) (by omega) _ D _ _ hD GD.out rfl rfl)
      · refine step_run rfl 30 rfl (exec_box rfl rfl (box75 E3.out)) ?_
        refine hK.out _ _ trivial (fun _ => ?_)
        clear hK K
        try simp only [Act.put, List.setIfInBounds_toArray, List.set_cons_zero, List.set_cons_succ]
        refine wpAnyH_ready (rs := [1]) (by kernel_rfl) (by simp) ?_
        refine AllReadyH.cons rfl (fun K hK => ?_) (AllReadyH.nil)
        go_simp
        refine (rising_any W.heap.size m _ _ E0.out).mono ?_
        rintro e wa ⟨a1, c1, rfl, hs1', had1, hg1⟩
        have S1 := hidd hs1'
        have A1 := hidd had1
        have F1 := hidd (E1.out.kept hg1 (by simp))
        have F3 := hidd (E3.out.kept hg1 (by simp; omega))
        have FB := hidd (EB.out.grown hg1 EB.out.size (fun k e => by cases e; exact Nat.le_refl _))
        have FD := hidd (heap_grown EK.out hg1 (by simp; omega))
        clear hs1' had1 hg1
        dsimp only
        refine hK.out _ _ trivial (fun _ => ?_)
        clear hK K
        try simp only [Act.put, List.setIfInBounds_toArray, List.set_cons_zero, List.set_cons_succ]
        refine wpAnyH_ready (rs := [3]) (by kernel_rfl) (by simp) ?_
        refine AllReadyH.cons rfl (fun K hK => ?_) (AllReadyH.nil)
        go_simp
        refine (rising_any (W.heap.size + 1) m _ _ F1.out).mono ?_
        rintro e wb ⟨a2, c2, rfl, hs2', had2, hg2⟩
        have S2 := hidd hs2'
        have T1 := hidd (sl_gb S1.out hg2 (fun b off e => by have := A1.out b off e; have := EB.out.size; have := ELT.out; simp; omega))
        have GB := hidd (FB.out.grown hg2 FB.out.size (fun k e => by cases e; omega))
        have GD := hidd (heap_grown FD.out hg2 (by simp; omega))
        clear hs2' had2 hg2
        dsimp only
        refine hK.out _ _ trivial (fun _ => ?_)
        clear hK K
        try simp only [Act.put, List.setIfInBounds_toArray, List.set_cons_zero, List.set_cons_succ]
        refine wpAnyH_ready (rs := [4]) (by kernel_rfl) (by simp) ?_
        refine AllReadyH.cons rfl (fun K hK => ?_) (AllReadyH.nil)
        refine step_run rfl 2 rfl (exec_asg rfl rfl) ?_
        refine hK.out _ _ trivial (fun _ => ?_)
        clear hK K
        try simp only [Act.put, List.setIfInBounds_toArray, List.set_cons_zero, List.set_cons_succ]
        refine wpAnyH_ready (rs := [5]) (by kernel_rfl) (by simp) ?_
        refine AllReadyH.cons rfl (fun K hK => ?_) (AllReadyH.nil)
        refine step_run rfl 3 rfl (exec_asg rfl rfl) ?_
        refine hK.out _ _ trivial (fun _ => ?_)
        clear hK K
        try simp only [Act.put, List.setIfInBounds_toArray, List.set_cons_zero, List.set_cons_succ]
        refine wpAnyH_done (by kernel_rfl) ?_ _
        go_wp2
        refine ⟨by simp, .inl ⟨_, _, rfl, run_takeDeferred GD.out, ?_⟩⟩
        refine ⟨_, results_tmp2 Try.results29 _ Try.prog _, a1, c1, a2, c2, rfl, ?_, ?_, ?_⟩
        · exact (sl_own a1 (rsL (tcS l).1 32).length c1 1 (is .i64 (rsL (tcS l).1 32))).putObj (s := ()) _ T1.out GD.out rfl
        · exact (sl_own a2 (rsL (tcS l).2 32).length c2 1 (is .i64 (rsL (tcS l).2 32))).putObj (s := ()) _ S2.out GD.out rfl
        · exact GB.out.trans (belowK_b (w := W0) (by omega) _ D _ _ hD GD.out rfl rfl)
    · refine step_run rfl 30 rfl (exec_box rfl rfl (box75 E3.out)) ?_
      refine hK.out _ _ trivial (fun _ => ?_)
      clear hK K
      try simp only [Act.put, List.setIfInBounds_toArray, List.set_cons_zero, List.set_cons_succ]
      refine wpAnyH_ready (rs := [0]) (by kernel_rfl) (by simp) ?_
      refine AllReadyH.cons rfl (fun K hK => ?_) (AllReadyH.nil)
      refine step_run rfl 28 rfl (exec_box rfl rfl (box75 E2.out)) ?_
      refine hK.out _ _ trivial (fun _ => ?_)
      clear hK K
      try simp only [Act.put, List.setIfInBounds_toArray, List.set_cons_zero, List.set_cons_succ]
      refine wpAnyH_ready (rs := [1]) (by kernel_rfl) (by simp) ?_
      refine AllReadyH.cons rfl (fun K hK => ?_) (AllReadyH.nil)
      go_simp
      refine (rising_any W.heap.size m _ _ E0.out).mono ?_
      rintro e wa ⟨a1, c1, rfl, hs1', had1, hg1⟩
      have S1 := hidd hs1'
      have A1 := hidd had1
      have F1 := hidd (E1.out.kept hg1 (by simp))
      have F3 := hidd (E3.out.kept hg1 (by simp; omega))
      have FB := hidd (EB.out.grown hg1 EB.out.size (fun k e => by cases e; exact Nat.le_refl _))
      have FD := hidd (heap_grown EK.out hg1 (by simp; omega))
      clear hs1' had1 hg1
      dsimp only
      refine hK.out _ _ trivial (fun _ => ?_)
      clear hK K
      try simp only [Act.put, List.setIfInBounds_toArray, List.set_cons_zero, List.set_cons_succ]
      refine wpAnyH_ready (rs := [3]) (by kernel_rfl) (by simp) ?_
      refine AllReadyH.cons rfl (fun K hK => ?_) (AllReadyH.nil)
      go_simp
      refine (rising_any (W.heap.size + 1) m _ _ F1.out).mono ?_
      rintro e wb ⟨a2, c2, rfl, hs2', had2, hg2⟩
      have S2 := hidd hs2'
      have T1 := hidd (sl_gb S1.out hg2 (fun b off e => by have := A1.out b off e; have := EB.out.size; have := ELT.out; simp; omega))
      have GB := hidd (FB.out.grown hg2 FB.out.size (fun k e => by cases e; omega))
      have GD := hidd (heap_grown FD.out hg2 (by simp; omega))
      clear hs2' had2 hg2
      dsimp only
      refine hK.out _ _ trivial (fun _ => ?_)
      clear hK K
      try simp only [Act.put, List.setIfInBounds_toArray, List.set_cons_zero, List.set_cons_succ]
      refine wpAnyH_ready (rs := [4]) (by kernel_rfl) (by simp) ?_
      refine AllReadyH.cons rfl (fun K hK => ?_) (AllReadyH.nil)
      refine step_run rfl 2 rfl (exec_asg rfl rfl) ?_
      refine hK.out _ _ trivial (fun _ => ?_)
      clear hK K
      try simp only [Act.put, List.setIfInBounds_toArray, List.set_cons_zero, List.set_cons_succ]
      refine wpAnyH_ready (rs := [5]) (by kernel_rfl) (by simp) ?_
      refine AllReadyH.cons rfl (fun K hK => ?_) (AllReadyH.nil)
      refine step_run rfl 3 rfl (exec_asg rfl rfl) ?_
      refine hK.out _ _ trivial (fun _ => ?_)
      clear hK K
      try simp only [Act.put, List.setIfInBounds_toArray, List.set_cons_zero, List.set_cons_succ]
      refine wpAnyH_done (by kernel_rfl) ?_ _
      go_wp2
      refine ⟨by simp, .inl ⟨_, _, rfl, run_takeDeferred GD.out, ?_⟩⟩
      refine ⟨_, results_tmp2 Try.results29 _ Try.prog _, a1, c1, a2, c2, rfl, ?_, ?_, ?_⟩
      · exact (sl_own a1 (rsL (tcS l).1 32).length c1 1 (is .i64 (rsL (tcS l).1 32))).putObj (s := ()) _ T1.out GD.out rfl
      · exact (sl_own a2 (rsL (tcS l).2 32).length c2 1 (is .i64 (rsL (tcS l).2 32))).putObj (s := ()) _ S2.out GD.out rfl
      · exact GB.out.trans (belowK_b (w := W0) (by omega) _ D _ _ hD GD.out rfl rfl)
  case stop =>
    rintro D c pre w _ _ h _
    exact h.elim
end Go.Proofs.Ytdoicmjomlaoaaa
