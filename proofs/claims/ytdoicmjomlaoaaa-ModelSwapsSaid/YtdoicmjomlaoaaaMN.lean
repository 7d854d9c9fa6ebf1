import Derived.Test.YtdoicmjomlaoaaaMM
namespace Go.Proofs.Ytdoicmjomlaoaaa
open Go.RowKit
theorem results_rtt {fn : Func} {p q u : Tmp} (h : fn.results = #[.cell p 36, .tmp q, .tmp u]) (tmps : Array Value) (w : World) (g : Nat) (cs : Array Value) (hi : (Try.prog.info? 36).map (·.size) = some cs.size)
    (hp : tmps.getD p undef = .pointer (some ⟨g, 0, none⟩)) (hg : w.heap[g]? = some (.cells cs 36 (0, 0))) :
    (results fn tmps).run Try.prog w = .ok (.tuple #[.agg cs, tmps.getD q undef, tmps.getD u undef]) w := by
  have hp' : tmps[p]?.getD undef = .pointer (some ⟨g, 0, none⟩) := by simpa using hp
  simp [results, h, hp', asAddr, run_loadVar_row w g 36 36 cs (0, 0) _ hg Try.underlying36 rfl hi]
set_option maxHeartbeats 4000000 in
theorem all_two (qb qo cq : Nat) (A : Nat → Option Addr) (N C : Nat → Nat) (L : Nat → List Sn) (ST : Nat → List UInt8) (W : World)
    (hq : Sl W (some ⟨qb, qo, none⟩) 2 cq 1 [.slice (A 0) (N 0) (C 0), .slice (A 1) (N 1) (C 1)])
    (hss : ∀ k, k < 2 → doH (ST k) (L k) = ST (k + 1)) (h256 : ∀ k, k ≤ 2 → (ST k).length = 256)
    (hL : ∀ k, k < 2 → (L k).length = N k ∧ N k ≤ 1000 ∧ Sl W (A k) (N k) (C k) 14 (scs (L k)) ∧ S8 (L k) ∧ (∀ x ∈ L k, okS x = true) ∧ mayE (L k) = 0 ∧ decide (L k = (fS (ST k) (L k)).2) = true) :
    Calls Try.prog 20 #[.agg (bs (ST 0)).toArray, .slice (some ⟨qb, qo, none⟩) 2 cq] W fun e w' => e = .returned (.tuple #[.agg (bs (ST 2)).toArray, .int .i64 2, .int .i64 0]) ∧ Below W.heap.size W w' := by
  have HQ := hidd hq
  have HSS := hidd hss
  have H256 := hidd h256
  have HL := hidd hL
  have zv36 := zero36
  clear hq hss h256 hL
  go_enter Try.func20, Try.ntmps20
  go_wp2
  clear zv36
  have q2 := al2 W (.cells (bs (ST 0)).toArray 36) (.cells (bs z36).toArray 36)
  go_loopw [5, 6, 7, 12] (fun t e r i wr => ∃ k : Nat, k ≤ 2 ∧ i = .int .i64 k ∧ t = .int .i64 k ∧ e = .int .i64 0 ∧ r = .bool true ∧ wr.heap[W.heap.size]? = some (.cells (bs (ST k)).toArray 36 (0, 0)) ∧ wr.heap[W.heap.size + 1]? = some (.cells (bs z36).toArray 36 (0, 0)) ∧ Below W.heap.size W wr) (fun _ _ _ i _ => 2 - (intOf i).toNat)
  case atStart => exact ⟨0, by omega, rfl, rfl, rfl, rfl, q2.1, q2.2, ((Below.refl _ W).alloc (Nat.le_refl _) _).alloc (by simp) _⟩
  case round =>
    obtain ⟨k, hk, rfl, rfl, rfl, rfl, f0, f1, f2⟩ := hrel
    have F0 := hidd f0
    have F1 := hidd f1
    have F2 := hidd f2
    clear f0 f1 f2 q2
    rcases Nat.lt_or_ge k 2 with hlt | hge
    · have i0 : (0 : Int) ≤ (k : Int) := by omega
      have i1 : (k : Int) < 2 := by omega
      obtain ⟨l1, l2, l3, l4, l5, l6, l7⟩ := HL.out k hlt
      have HLN := hidd l1
      have HNM := hidd l2
      have HSS0 := hidd l3
      have H8 := hidd l4
      have HOK := hidd l5
      have HMY := hidd l6
      have HTD := hidd l7
      have HSN := hidd (HSS.out k hlt).symm
      have HSL := hidd (H256.out k hk)
      have HSM := hidd (H256.out (k + 1) (by omega))
      have HLD := hidd (show ∀ w', Below W.heap.size W w' → (Instr.loadAt 40 (.pointer (some ⟨qb, qo + k, none⟩))).run Try.prog w' = .ok (.slice (A k) (N k) (C k)) w' by
        intro w' hb
        obtain ⟨b, off, e, cc⟩ := (HQ.out.grow hb).cells k (by simpa using hlt)
        injection e with e
        injection e with e1 e2
        subst e1 e2
        have c0 : w'.cell? ⟨qb, qo + k, none⟩ = some (.slice (A k) (N k) (C k)) := by
          rw [cc]
          rcases (show k = 0 ∨ k = 1 by omega) with rfl | rfl <;> rfl
        simp [go_sem, c0])
      have HR0 := hidd (load_all (P := Try.prog) F0.out Try.underlying36 rfl (sz36 (ST k) HSL.out))
      have HSS := HSS0
      clear l1 l2 l3 l4 l5 l6 l7 HSS0
      go_wp2
      refine wp_region_held_drew (S := fun w' => Below W.heap.size W w') (by kernel_rfl) (F2.out.drew) (fun hH => ?_)
      refine take_at 1 17 (v := ?_) rfl rfl (by kernel_rfl) (by kernel_rfl) (by kernel_rfl) (fun _ _ _ h => h) (Or.inl ⟨by rfl, ?_⟩) hH ?_
      rotate_left
      · (intro w9 hSw; (try dsimp only at hSw); go_simp) <;> with_reducible rfl
      try simp only [List.setIfInBounds_toArray, List.set_cons_zero, List.set_cons_succ]
      refine take_at 2 18 (v := ?_) rfl rfl (by kernel_rfl) (by kernel_rfl) (by kernel_rfl) (fun _ _ _ h => h) (Or.inl ⟨by rfl, ?_⟩) hH ?_
      rotate_left
      · (intro w9 hSw; (try dsimp only at hSw); go_simp) <;> with_reducible rfl
      try simp only [List.setIfInBounds_toArray, List.set_cons_zero, List.set_cons_succ]
      refine take_at 3 19 (v := ?_) rfl rfl (by kernel_rfl) (by kernel_rfl) (by kernel_rfl) (fun _ _ _ h => h) (Or.inl ⟨by rfl, ?_⟩) hH ?_
      rotate_left
      · (intro w9 hSw; (try dsimp only at hSw); go_simp) <;> with_reducible rfl
      try simp only [List.setIfInBounds_toArray, List.set_cons_zero, List.set_cons_succ]
      refine take_at 4 20 (v := ?_) rfl rfl (by kernel_rfl) (by kernel_rfl) (by kernel_rfl) (fun _ _ _ h => h) (Or.inl ⟨by rfl, ?_⟩) hH ?_
      rotate_left
      · (intro w9 hSw; (try dsimp only at hSw); refine (exec_load rfl (HLD.out w9 hSw)).trans ?_; with_reducible rfl)
      try simp only [List.setIfInBounds_toArray, List.set_cons_zero, List.set_cons_succ]
      refine wpAnyH_ready (rs := [0]) (by kernel_rfl) (by simp) ?_
      refine AllReadyH.cons rfl (fun K hK => ?_) AllReadyH.nil
      skip
      refine step_run rfl 16 rfl (exec_load rfl (HR0.out _ ((Below.refl _ wr).drew))) ?_
      refine hK.out _ _ (F2.out.drew) (fun hH0 => ?_)
      clear hK K
      clear hH; have hH := hH0; clear hH0
      try simp only [List.setIfInBounds_toArray, List.set_cons_zero, List.set_cons_succ]
      refine wpAnyH_ready (rs := [5]) (by kernel_rfl) (by simp) ?_
      refine AllReadyH.cons rfl (fun K hK => ?_) AllReadyH.nil
      go_simp
      refine (do_yes (ST k) HSL.out (A k) (N k) (C k) (L k) HLN.out HNM.out _ (HSS.out.grow F2.out.drew) H8.out HOK.out HMY.out).mono ?_
      rintro e w1 ⟨rfl, hb1⟩
      rw [HTD.out, ← HSN.out]
      have D0 := hidd (blk_below hb1 (show wr.drew.heap[W.heap.size]? = _ from F0.out) (Array.getElem?_eq_some_iff.1 F0.out).1)
      have D1 := hidd (blk_below hb1 (show wr.drew.heap[W.heap.size + 1]? = _ from F1.out) (Array.getElem?_eq_some_iff.1 F1.out).1)
      have D2 := hidd (F2.out.drew.trans (hb1.mono F2.out.size))
      clear hb1
      dsimp only
      refine hK.out _ _ (D2.out) (fun hH5 => ?_)
      clear hK K
      clear hH; have hH := hH5; clear hH5
      try simp only [Act.put, List.setIfInBounds_toArray, List.set_cons_zero, List.set_cons_succ]
      refine take_at 6 15 (v := ?_) rfl rfl (by kernel_rfl) (by kernel_rfl) (by kernel_rfl) (fun _ _ _ h => h) (Or.inl ⟨by rfl, ?_⟩) hH ?_
      rotate_left
      · (intro w9 hSw; (try dsimp only at hSw); go_simp) <;> with_reducible rfl
      try simp only [List.setIfInBounds_toArray, List.set_cons_zero, List.set_cons_succ]
      refine take_at 7 22 (v := ?_) rfl rfl (by kernel_rfl) (by kernel_rfl) (by kernel_rfl) (fun _ _ _ h => h) (Or.inl ⟨by rfl, ?_⟩) hH ?_
      rotate_left
      · (intro w9 hSw; (try dsimp only at hSw); go_simp) <;> with_reducible rfl
      try simp only [List.setIfInBounds_toArray, List.set_cons_zero, List.set_cons_succ]
      refine take_at 8 23 (v := ?_) rfl rfl (by kernel_rfl) (by kernel_rfl) (by kernel_rfl) (fun _ _ _ h => h) (Or.inl ⟨by rfl, ?_⟩) hH ?_
      rotate_left
      · (intro w9 hSw; (try dsimp only at hSw); go_simp) <;> with_reducible rfl
      try simp only [List.setIfInBounds_toArray, List.set_cons_zero, List.set_cons_succ]
      refine take_at 9 24 (v := ?_) rfl rfl (by kernel_rfl) (by kernel_rfl) (by kernel_rfl) (fun _ _ _ h => h) (Or.inl ⟨by rfl, ?_⟩) hH ?_
      rotate_left
      · (intro w9 hSw; (try dsimp only at hSw); go_simp) <;> with_reducible rfl
      try simp only [List.setIfInBounds_toArray, List.set_cons_zero, List.set_cons_succ]
      refine wpAnyH_ready (rs := [10]) (by kernel_rfl) (by simp) ?_
      refine AllReadyH.cons rfl (fun K hK => ?_) AllReadyH.nil
      skip
      refine step_store_row rfl rfl 36 (.tmp 2) (.tmp 22) rfl W.heap.size (bs (ST (k + 1))).toArray rfl rfl 36 (bs (ST k)).toArray D0.out (sz36 _ HSM.out) (szz36 HSL.out HSM.out) (bs_oneA _) ?_
      refine hK.out _ _ (below_setRow D2.out (Nat.le_refl _) _) (fun hH10 => ?_)
      clear hK K
      clear hH; have hH := hH10; clear hH10
      try simp only [Act.put, List.setIfInBounds_toArray, List.set_cons_zero, List.set_cons_succ]
      refine take_at 11 9 (v := ?_) rfl rfl (by kernel_rfl) (by kernel_rfl) (by kernel_rfl) (fun _ _ _ h => h) (Or.inl ⟨by rfl, ?_⟩) hH ?_
      rotate_left
      · (intro w9 hSw; (try dsimp only at hSw); go_simp) <;> with_reducible rfl
      try simp only [List.setIfInBounds_toArray, List.set_cons_zero, List.set_cons_succ]
      refine take_at 12 6 (v := ?_) rfl rfl (by kernel_rfl) (by kernel_rfl) (by kernel_rfl) (fun _ _ _ h => h) (Or.inl ⟨by rfl, ?_⟩) hH ?_
      rotate_left
      · (intro w9 hSw; (try dsimp only at hSw); go_simp) <;> with_reducible rfl
      try simp only [List.setIfInBounds_toArray, List.set_cons_zero, List.set_cons_succ]
      refine wpAnyH_done (by kernel_rfl) ?_ _
      go_wp2
      refine ⟨⟨k + 1, by omega, by push_cast; rfl, by push_cast; rfl, rfl, rfl, setRow_heap _ _ _ _ _ _ D0.out, (setRow_other _ _ _ _ (by omega)).trans D1.out, below_setRow D2.out (Nat.le_refl _) _⟩, ?_⟩
      simp [intOf]
      omega
    · have hk2 : k = 2 := by omega
      subst hk2
      go_wp2_with (first | (with_reducible refine wpList_load_row rfl 36 (.tmp 2) rfl W.heap.size rfl 36 (bs (ST 2)).toArray (0, 0) _ F0.out Try.underlying36 rfl (sz36 _ (H256.out 2 (by omega))) ?_) | (with_reducible refine wpList_store_row rfl 36 (.tmp 4) (.tmp 37) rfl (W.heap.size + 1) (bs (ST 2)).toArray rfl rfl 36 (bs z36).toArray F1.out (sz36 _ (H256.out 2 (by omega))) (z36_sz _ (H256.out 2 (by omega))) (bs_oneA _) ?_))
      exact bodyPost_ret (results_rtt Try.results20 _ _ (W.heap.size + 1) (bs (ST 2)).toArray (sz36 _ (H256.out 2 (by omega))) rfl (setRow_heap _ _ _ _ _ _ F1.out)) rfl ⟨rfl, below_setRow F2.out (by omega) _⟩
end Go.Proofs.Ytdoicmjomlaoaaa
