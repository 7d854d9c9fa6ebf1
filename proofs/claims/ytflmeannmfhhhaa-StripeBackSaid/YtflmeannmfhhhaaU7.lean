import Derived.Test.YtflmeannmfhhhaaU6
namespace Go.Proofs.Ytflmeannmfhhhaa
open Go.RowKit
theorem results_ctt {P : Program} {fn : Func} {q r u : Tmp} {ty : TypeId} (h : fn.results = #[.cell q ty, .tmp r, .tmp u]) (tmps : Array Value) (w : World) (g : Nat) (t : TypeId) (cs : Array Value) (fr : Nat × Nat) (d : TypeDesc)
    (hp : tmps.getD q undef = .pointer (some ⟨g, 0, none⟩)) (hg : w.heap[g]? = some (.cells cs t fr))
    (hu : P.underlying ty = some d) (hd : d.isRow = true) (hi : (P.info? ty).map (·.size) = some cs.size) :
    (results fn tmps).run P w = .ok (.tuple #[.agg cs, tmps.getD r undef, tmps.getD u undef]) w := by
  have hp' : tmps[q]?.getD undef = .pointer (some ⟨g, 0, none⟩) := by simpa using hp
  simp [results, h, hp', asAddr, run_loadVar_row w g t ty cs fr d hg hu (by cases d <;> simp_all [TypeDesc.isRow]) hi]
theorem mp_szz {P P2 : Int} {q q2 : List Int} (h : q.length = 8) (h2 : q2.length = 8) : (mpA P q).size = (mpA P2 q2).size := by
  show (is .i64 (mpL P q)).length = (is .i64 (mpL P2 q2)).length
  rw [is_len, is_len]
  show q.length + 1 = q2.length + 1
  omega
/-- the boxes behind a round -/
theorem rnd {W wr w3 : World} {P : Int} {q : List Int} {o o2 : Obj} {A : Array Value} (h1 : wr.heap[W.heap.size]? = some (.cells (mpA P q) 24 (0, 0))) (h2 : wr.heap[W.heap.size + 1]? = some o2) (hbel : Below W.heap.size W wr) (hb : Below (wr.alloc o).heap.size (wr.alloc o) w3) :
    w3.heap[W.heap.size]? = some (.cells (mpA P q) 24 (0, 0)) ∧ w3.heap[W.heap.size + 1]? = some o2 ∧ Below W.heap.size W w3 ∧ W.heap.size + 2 ≤ w3.heap.size := by
  have l1 := (Array.getElem?_eq_some_iff.1 h1).1
  have l2 := (Array.getElem?_eq_some_iff.1 h2).1
  have hs := hb.size
  simp at hs
  refine ⟨blk_below hb ((heap_alloc_old _ _ l1).trans h1) (by simp; omega), blk_below hb ((heap_alloc_old _ _ l2).trans h2) (by simp; omega), (hbel.alloc hbel.size _).trans (hb.mono (by simp; omega)), by omega⟩
theorem rnd2 {W w3 : World} {o1 o2 : Obj} {A : Array Value} (h1 : w3.heap[W.heap.size]? = some o1) (h2 : w3.heap[W.heap.size + 1]? = some o2) (hb : Below W.heap.size W w3) :
    ((w3.alloc (.cells mp0 24)).setRow w3.heap.size A).heap[W.heap.size]? = some o1 ∧ ((w3.alloc (.cells mp0 24)).setRow w3.heap.size A).heap[W.heap.size + 1]? = some o2 ∧ Below W.heap.size W ((w3.alloc (.cells mp0 24)).setRow w3.heap.size A) ∧ ((w3.alloc (.cells mp0 24)).setRow w3.heap.size A).heap[w3.heap.size]? = some (.cells A 24 (0, 0)) := by
  have l1 := (Array.getElem?_eq_some_iff.1 h1).1
  have l2 := (Array.getElem?_eq_some_iff.1 h2).1
  refine ⟨(setRow_other _ _ _ _ (by omega)).trans ((heap_alloc_old _ _ l1).trans h1), (setRow_other _ _ _ _ (by omega)).trans ((heap_alloc_old _ _ l2).trans h2), below_setRow (hb.alloc hb.size _) hb.size _, setRow_heap _ _ _ _ _ _ (heap_alloc_last w3 (.cells mp0 24))⟩
set_option maxHeartbeats 4000000 in
theorem all_any (V : Int) (z y : List Int) (hz : z.length = 8) (hy : y.length = 8) (hc : chE V z = 0) (hE : y.all entB = true) (hb : ∀ i, i < 8 → badI z y i = false) (a : Option Addr) (n c : Nat) (W : World) (hn : n = (df z y 8).length) (hs : Sl W a n c 2 (dfC y (df z y 8))) :
    Calls Try.prog 23 #[.agg (is .i64 (mpL V z)).toArray, .slice a n c] W fun e w' =>
      ((1099511627768 < V ∧ ∃ U' z' k, z'.length = 8 ∧ e = .returned (.tuple #[.agg (is .i64 (mpL U' z')).toArray, .int .i64 k, .int .i64 50])) ∨
       e = .returned (.tuple #[.agg (is .i64 (mpL (V + n) y)).toArray, .int .i64 n, .int .i64 0])) ∧ Below W.heap.size W w' := by
  have HZ := hidd hz
  have HY := hidd hy
  have HC := hidd hc
  have HE := hidd hE
  have HBD := hidd hb
  have HN := hidd hn
  have HSL := hidd hs
  have hn8 : n ≤ 8 := by rw [hn]; exact df_le z y 8
  have HG := hidd (al2 W (.cells (mpA V z) 24) (.cells mp0 24))
  clear hz hy hc hE hb hn hs
  go_enter Try.func23, Try.ntmps23
  go_wp2_with (first | (with_reducible refine wpList_load_row rfl 24 (.tmp 2) rfl W.heap.size rfl 24 (mpA V z) (0, 0) _ HG.out.1 Try.underlying24 rfl (mp_sz V z HZ.out) ?_) | (go_at_call 11; with_reducible refine (check_any V z HZ.out _).mono ?_; rintro e w1 ⟨rfl, hb1⟩; rw [HC.out]; have HA := hidd (after2 hb1); clear hb1))
  go_loopw [20] (fun i wr => ∃ k : Nat, k ≤ n ∧ i = .int .i64 k ∧ V + k ≤ 1099511627776 ∧ wr.heap[W.heap.size]? = some (.cells (mpA (V + k) (setL z y ((df z y 8).take k))) 24 (0, 0)) ∧ wr.heap[W.heap.size + 1]? = some (.cells mp0 24 (0, 0)) ∧ Below W.heap.size W wr) (fun i _ => n - (intOf i).toNat)
  case atStart =>
    have h := HA.out
    refine ⟨0, by omega, rfl, by have := (chE_V HC.out).2.1; omega, ?_, h.2.1, h.2.2.1⟩
    have e : V + ((0 : Nat) : Int) = V := by omega
    rw [e]
    exact h.1
  case round =>
    obtain ⟨k, hk, rfl, hV, h1, h2, hbel⟩ := hrel
    have H1 := hidd h1
    have H2 := hidd h2
    have GB := hidd hbel
    have HV := hidd hV
    clear h1 h2 hbel hV
    rcases Nat.lt_or_ge k n with hlt | hge
    · obtain ⟨i, hi⟩ : ∃ i, (df z y 8)[k]? = some i := ⟨_, List.getElem?_eq_getElem (by rw [← HN.out]; exact hlt)⟩
      obtain ⟨b, off, rfl, c1, c2⟩ := chg_at (HSL.out.grow GB.out) k i hi
      have hR0 := fun h => chg_ok HC.out HZ.out HY.out HE.out HBD.out (n := n) hi h
      have hR1 := fun h => chg_full HC.out HZ.out HY.out HE.out HBD.out hi h
      have HI := hidd hi
      have hq8 : (setL z y ((df z y 8).take k)).length = 8 := (setL_len y _ z).trans HZ.out
      have H1' := H1.out
      obtain ⟨t, ht⟩ : ∃ t, t = y.getD i 0 := ⟨_, rfl⟩
      obtain ⟨q, hq⟩ : ∃ q, q = setL z y ((df z y 8).take k) := ⟨_, rfl⟩
      obtain ⟨P, hP⟩ : ∃ P, P = V + k := ⟨_, rfl⟩
      rw [← ht] at c2 hR0 hR1
      rw [← hq] at hR0 hR1 hq8 H1'
      rw [← hP] at hR0 hR1 H1'
      clear H1
      have H1 := hidd H1'
      have HQ := hidd hq8
      have HP := hidd hP
      have HA1 := hidd ((heap_alloc_old wr (.cells #[.int .i64 (i : Int), .int .i64 t] 26) (Array.getElem?_eq_some_iff.1 H1').1).trans H1')
      clear hi ht hq hP hq8 H1'
      rcases Int.lt_or_le P 1099511627776 with hm | hm
      · have HR := hidd (hR0 hm)
        obtain ⟨q2, hq2⟩ : ∃ q2, q2 = setL z y ((df z y 8).take (k + 1)) := ⟨_, rfl⟩
        obtain ⟨P2, hP2⟩ : ∃ P2, P2 = V + (k + 1 : Nat) := ⟨_, rfl⟩
        have HR2 := HR.out
        rw [← hq2, ← hP2] at HR2
        have HR3 := hidd HR2
        have HQ2 := hidd (show q2.length = 8 by rw [hq2]; exact (setL_len y _ z).trans HZ.out)
        have HE2 := hidd (And.intro hq2 hP2)
        have HM := hidd hm
        clear HR HR2 hR0 hR1 hm hq2 hP2
        go_wp2_with (first | (with_reducible refine wpList_load_row rfl 24 (.tmp 2) rfl W.heap.size rfl 24 (mpA P q) (0, 0) _ HA1.out Try.underlying24 rfl (mp_sz P q HQ.out) ?_) | (go_at_call 8; refine (change_any P q i t HQ.out _).mono ?_; rintro e w3 ⟨rfl, hb3⟩; rw [HR3.out.2, HR3.out.1]; have HX := hidd (rnd (A := mp0) H1.out H2.out GB.out hb3); clear hb3) | (with_reducible refine wpList_store_row rfl 24 (.tmp 10) (.tmp 29) rfl w3.heap.size (mpA P2 q2) rfl rfl 24 mp0 (heap_alloc_last w3 (.cells mp0 24)) (mp_sz P2 q2 HQ2.out) (mp0_szz _ _ HQ2.out) (is_one _ _) ?_; have HY2 := hidd (rnd2 (A := mpA P2 q2) HX.out.1 HX.out.2.1 HX.out.2.2.1)) | (with_reducible refine wpList_load_row rfl 24 (.tmp 10) rfl w3.heap.size rfl 24 (mpA P2 q2) (0, 0) _ HY2.out.2.2.2 Try.underlying24 rfl (mp_sz P2 q2 HQ2.out) ?_) | (with_reducible refine wpList_store_row rfl 24 (.tmp 2) (.tmp 36) rfl W.heap.size (mpA P2 q2) rfl rfl 24 (mpA P q) HY2.out.1 (mp_sz P2 q2 HQ2.out) (mp_szz HQ.out HQ2.out) (is_one _ _) ?_))
        refine ⟨⟨k + 1, by omega, by push_cast; rfl, by rw [← HE2.out.2]; have := HM.out; have := HP.out; have := HE2.out.2; omega, ?_, (setRow_other _ _ _ _ (by omega)).trans HY2.out.2.1, below_setRow HY2.out.2.2.1 (Nat.le_refl _) _⟩, ?_⟩
        · rw [← HE2.out.1, ← HE2.out.2]
          exact setRow_heap _ _ _ _ _ _ HY2.out.1
        · simp [intOf]
          omega
      · have hPm : P = 1099511627776 := by have := HV.out; have := HP.out; omega
        have HR := hidd (hR1 hPm)
        have HL := hidd (show 1099511627768 < V by have := HP.out; omega)
        have HM := hidd (chM_sz P q i t HQ.out)
        clear hR0 hR1 hm hPm
        go_wp2_with (first | (with_reducible refine wpList_load_row rfl 24 (.tmp 2) rfl W.heap.size rfl 24 (mpA P q) (0, 0) _ HA1.out Try.underlying24 rfl (mp_sz P q HQ.out) ?_) | (go_at_call 8; refine (change_any P q i t HQ.out _).mono ?_; rintro e w3 ⟨rfl, hb3⟩; rw [HR.out]; have HX := hidd (rnd (A := mp0) H1.out H2.out GB.out hb3); clear hb3) | (with_reducible refine wpList_store_row rfl 24 (.tmp 10) (.tmp 29) rfl w3.heap.size (is .i64 (chM P q i t)).toArray rfl rfl 24 mp0 (heap_alloc_last w3 (.cells mp0 24)) HM.out.1 HM.out.2 (is_one _ _) ?_; have HY2 := hidd (rnd2 (A := (is .i64 (chM P q i t)).toArray) HX.out.1 HX.out.2.1 HX.out.2.2.1)) | (with_reducible refine wpList_load_row rfl 24 (.tmp 2) rfl W.heap.size rfl 24 (mpA P q) (0, 0) _ HY2.out.1 Try.underlying24 rfl (mp_sz P q HQ.out) ?_) | (with_reducible refine wpList_store_row rfl 24 (.tmp 4) (.tmp 33) rfl (W.heap.size + 1) (mpA P q) rfl rfl 24 mp0 HY2.out.2.1 (mp_sz P q HQ.out) (mp0_szz _ _ HQ.out) (is_one _ _) ?_))
        exact bodyPost_ret (results_ctt Try.results23 _ _ (W.heap.size + 1) 24 (mpA P q) (0, 0) _ rfl (setRow_heap _ _ _ _ _ _ HY2.out.2.1) Try.underlying24 rfl (mp_sz P q HQ.out)) rfl ⟨.inl ⟨HL.out, P, q, k, HQ.out, rfl⟩, below_setRow HY2.out.2.2.1 (by omega) _⟩
    · have hkn : k = n := by omega
      subst hkn
      have h1 := H1.out
      rw [HN.out, List.take_length, setL_all HZ.out HY.out, ← HN.out] at h1
      have G1 := hidd h1
      clear h1
      go_wp2_with (first | (with_reducible refine wpList_load_row rfl 24 (.tmp 2) rfl W.heap.size rfl 24 (mpA (V + k) y) (0, 0) _ G1.out Try.underlying24 rfl (mp_sz (V + k) y HY.out) ?_) | (with_reducible refine wpList_store_row rfl 24 (.tmp 4) (.tmp 38) rfl (W.heap.size + 1) (mpA (V + k) y) rfl rfl 24 mp0 H2.out (mp_sz _ y HY.out) (mp0_szz _ _ HY.out) (is_one _ _) ?_))
      exact bodyPost_ret (results_ctt Try.results23 _ _ (W.heap.size + 1) 24 (mpA (V + k) y) (0, 0) _ rfl (setRow_heap _ _ _ _ _ _ H2.out) Try.underlying24 rfl (mp_sz _ y HY.out)) rfl ⟨.inr rfl, below_setRow GB.out (by omega) _⟩
end Go.Proofs.Ytflmeannmfhhhaa
