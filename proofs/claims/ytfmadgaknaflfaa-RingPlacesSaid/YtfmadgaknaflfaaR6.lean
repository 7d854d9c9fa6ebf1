import Derived.Test.YtfmadgaknaflfaaR5
import Derived.Deep.RegionHeld
namespace Go.Proofs.Ytfmadgaknaflfaa
open Go.RowKit
theorem place_ok (s p : Int) (w : World) (hp : p = 2 + s.tmod 24) (h1 : 1 ≤ s) (h2 : s ≤ 1099511627776) :
    Calls Try.prog 13 #[.int .i64 s] w fun e w' => e = .returned (.tuple #[.int .i64 p, .int .i64 0]) ∧ Below w.heap.size w w' := by
  refine (place_any s w).mono ?_
  rintro e w1 ⟨rfl, hb⟩
  rw [show inR s 1 1099511627776 = true by simp [inR]; omega, hp]
  exact ⟨rfl, hb⟩
theorem place_no (s : Int) (w : World) (h2 : 1099511627776 < s) :
    Calls Try.prog 13 #[.int .i64 s] w fun e w' => e = .returned (.tuple #[.int .i64 0, .int .i64 2]) ∧ Below w.heap.size w w' := by
  refine (place_any s w).mono ?_
  rintro e w1 ⟨rfl, hb⟩
  rw [show inR s 1 1099511627776 = false by simp [inR]; omega]
  exact ⟨rfl, hb⟩
set_option maxRecDepth 100000 in
set_option maxHeartbeats 2000000 in
theorem places_A (t n : Int) (w : World) (hm : mayR t n = false) :
    Calls Try.prog 4 #[.agg #[.int .i64 t, .int .i64 n]] w fun e w' => e = .returned (.bool true) ∧ Below w.heap.size w w' := by
  have HM := hidd hm
  have HU := hidd (show usedR t n = 0 by simp [usedR, hm])
  have HF := hidd (show freeR t n = 0 by simp [freeR, hm])
  clear hm
  go_enter Try.func4, Try.ntmps4
  go_wp2_with fail
  refine (mayR_any t n _).mono ?_
  rintro e w1 ⟨rfl, hb1⟩
  rw [HM.out]
  have g0 := blk_below hb1 (heap_alloc_new w _) (by simp)
  have B1 := ((Below.refl _ w).alloc (Nat.le_refl _) (.cells #[.int .i64 t, .int .i64 n] 31)).trans (hb1.mono (by simp))
  have s1 : w.heap.size + 1 ≤ w1.heap.size := by have := hb1.size; simpa using this
  obtain ⟨k0, f0⟩ := blk g0
  have G := hidd (And.intro g0 (And.intro B1 s1))
  clear hb1 g0 B1 s1
  go_wp2_with fail
  refine (used_any t n _).mono ?_
  rintro e w2 ⟨rfl, hb2⟩
  rw [HU.out]
  obtain ⟨g0, B1, s1⟩ := G.out
  clear G k0 f0
  have g0 := blk_below hb2 g0 (by omega)
  have B1 := B1.trans (hb2.mono (by omega))
  have s1 : w.heap.size + 1 ≤ w2.heap.size := by have := hb2.size; omega
  obtain ⟨k0, f0⟩ := blk g0
  have G := hidd (And.intro B1 s1)
  clear hb2 g0 B1 s1
  go_wp2_with fail
  refine (free_any t n _).mono ?_
  rintro e w3 ⟨rfl, hb3⟩
  rw [HF.out]
  obtain ⟨B1, s1⟩ := G.out
  have G := hidd (B1.trans (hb3.mono (by omega)))
  clear k0 f0 hb3 B1 s1
  go_wp2_with fail
  refine (wakesR_any _).mono ?_
  rintro e w4 ⟨rfl, hb4⟩
  go_wp2
  go_ret
  exact ⟨rfl, G.out.trans (hb4.mono G.out.size)⟩
def endR (t n : Int) (w w' : World) (e : Ending) : Prop := e = .returned (.bool true) ∧ Below w.heap.size w w'
set_option maxRecDepth 100000 in
set_option maxHeartbeats 4000000 in
theorem places_B (t n : Int) (w : World) (hm : mayR t n = true) :
    Calls Try.prog 4 #[.agg #[.int .i64 t, .int .i64 n]] w fun e w' => endR t n w w' e := by
  have HM := hidd hm
  have hq : (1 ≤ t ∧ t ≤ 1099511627776) ∧ (t ≤ n ∧ n ≤ t + 24) := by simpa [mayR] using hm
  obtain ⟨⟨q1, q2⟩, q3, q4⟩ := hq
  have HU := hidd (show usedR t n = n - t by simp [usedR, hm])
  have HF := hidd (show freeR t n = 24 - (n - t) by simp [freeR, hm])
  have hmm := @run_makeMap Try.prog
  clear hm
  go_enter Try.func4, Try.ntmps4
  go_wp2_with fail
  refine (mayR_any t n _).mono ?_
  rintro e w1 ⟨rfl, hb1⟩
  rw [HM.out]
  have g0 := blk_below hb1 (heap_alloc_new w _) (by simp)
  have B1 := ((Below.refl _ w).alloc (Nat.le_refl _) (.cells #[.int .i64 t, .int .i64 n] 31)).trans (hb1.mono (by simp))
  have s1 : w.heap.size + 1 ≤ w1.heap.size := by have := hb1.size; simpa using this
  have g0' := (show (w1.alloc (.map #[] 0)).heap[w.heap.size]? = w1.heap[w.heap.size]? from heap_alloc_old w1 _ _ (by omega)).trans g0
  obtain ⟨k0, f0⟩ := blk g0'
  have G := hidd (And.intro g0' (And.intro (B1.alloc B1.size (.map #[] 0)) s1))
  clear hb1 g0 B1 s1 g0'
  go_wp2_with fail
  have hmap := World.ownsMap_made (H := Unit) w1 Try.prog 3 (plainElem Try.prog 4)
  obtain ⟨g0, B1, s1⟩ := G.out
  clear k0 f0 G
  generalize hmb : w1.heap.size = mb at *
  generalize hW : w1.alloc (.map #[] 0) = W0 at *
  clear hmb hW w1
  go_loopw [4] (fun i wr => ∃ k : Nat, i = .int .i64 (t + k) ∧ t + k ≤ n ∧ wr.ownsMap Try.prog 3 (plainElem Try.prog 4) mb k (setR t k) ∧ wr.heap[w.heap.size]? = some (.cells #[.int .i64 t, .int .i64 n] 31 (0, 0)) ∧ Below w.heap.size w wr) (fun i _ => (n - intOf i).toNat)
  case atStart => exact ⟨0, by simp, by omega, hmap, g0, B1⟩
  case round =>
    obtain ⟨k, rfl, hk, hown, g0, Bw⟩ := hrel
    obtain ⟨wo, rfl⟩ : ∃ wo, wo = wr := ⟨_, rfl⟩
    obtain ⟨k0, f0⟩ := blk g0
    have smb := hown.lt
    by_cases hlt : t + k < n
    · have e9 : IntKind.i64.wrap (t + (k : Int) + 1) = t + (k : Int) + 1 := IntWalk.i64_in _ (by omega)
      by_cases hms : t + (k : Int) ≤ 1099511627776
      · have hle : ¬ (t + (k : Int) > 1099511627776) := by omega
        have hk24 : k < 24 := by omega
        obtain ⟨p, hp⟩ : ∃ p, p = 2 + (t + (k : Int)).tmod 24 := ⟨_, rfl⟩
        have hp1 : 2 ≤ p ∧ p < 26 := by rw [hp, Int.tmod_eq_emod_of_nonneg (by omega)]; omega
        obtain ⟨hp1, hp2⟩ := hp1
        have HP := hidd hp
        have HH := hidd (show (mayR t n && inR (t + (k : Int)) t (n - 1)) = true by rw [HM.out]; simp [inR]; omega)
        have G := hidd (And.intro g0 (And.intro Bw hown))
        clear hp g0 Bw hown
        go_wp2_with fail
        refine (place_ok (t + (k : Int)) p _ HP.out (by omega) hms).mono ?_
        rintro e w1 ⟨rfl, hb1⟩
        obtain ⟨g0, Bw, hown⟩ := G.out
        have g0 := blk_below hb1 g0 (by have := Bw.size; omega)
        have Bw := Bw.trans (hb1.mono Bw.size)
        have hown := map_below hown hb1
        have smb := hown.lt
        have hlook := lookR hown (by omega) hk24 (by omega)
        rw [← HP.out] at hlook
        clear k0 f0
        obtain ⟨k0, f0⟩ := blk g0
        have G := hidd (And.intro g0 (And.intro Bw hown))
        clear g0 Bw hown hb1
        go_wp2_with fail
        refine (has_any t n (t + (k : Int)) _).mono ?_
        rintro e w2 ⟨rfl, hb2⟩
        rw [HH.out]
        obtain ⟨g0, Bw, hown⟩ := G.out
        have g0 := blk_below hb2 g0 (by have := Bw.size; omega)
        have Bw := Bw.trans (hb2.mono Bw.size)
        have hown := map_below hown hb2
        have smb := hown.lt
        clear k0 f0 hlook
        have hkey : keyOf Try.prog 3 (.int .i64 p) = some (keyR t k) := by rw [HP.out]; exact keyOfR t k (by omega) (by omega)
        have G := hidd (And.intro g0 (And.intro Bw hown))
        clear g0 Bw hown hb2
        go_wp2_with (at_mapUpdate; refine wpList_mapUpdate_own _ rfl _ _ _ 34 rfl 3 4 lawR Try.underlying34 _ mb k _ rfl G.out.2.2 (by unfold maxLen; omega) _ _ _ rfl rfl hkey _ [] (plainElem_bool Try.underlying4 true) ?_; intro w3 hown1 hgrow1)
        obtain ⟨g0, Bw, hown⟩ := G.out
        refine ⟨⟨k + 1, by push_cast; rw [Int.add_assoc], by omega, by rw [setR_succ]; exact hown1, heap_grown g0 hgrow1 (by simp; omega), Bw.grown hgrow1 Bw.size (fun j e => by cases e; omega)⟩, by simp [intOf]; omega⟩
      · have hle : t + (k : Int) > 1099511627776 := by omega
        have G := hidd (And.intro g0 (And.intro Bw hown))
        clear g0 Bw hown
        go_wp2_with fail
        refine (place_no (t + (k : Int)) _ (by omega)).mono ?_
        rintro e w1 ⟨rfl, hb1⟩
        obtain ⟨g0, Bw, hown⟩ := G.out
        have Bw := Bw.trans (hb1.mono Bw.size)
        clear g0 hown hb1 G
        have G := hidd Bw
        clear Bw
        go_wp2_with fail
        refine (wakesR_any _).mono ?_
        rintro e w4 ⟨rfl, hb4⟩
        go_wp2
        go_ret
        exact ⟨rfl, G.out.trans (hb4.mono G.out.size)⟩
    · obtain rfl : n = t + (k : Int) := by omega
      go_wp2_with fail
      have c0 := blk_all g0
      have hlen : ∀ w', Below wo.heap.size wo w' → ∀ ty, (Builtin.len_ #[34] ty #[.map (some mb)]).run Try.prog w' = .ok (.int .i64 k) w' := fun w' hb ty => lenR (map_below hown hb) (by omega) (by omega) ty
      have HU := hidd (show usedR t (t + (k : Int)) = k by rw [HU.out]; omega)
      have HF := hidd (show freeR t (t + (k : Int)) = 24 - k by rw [HF.out]; omega)
      have HH1 := hidd (show (mayR t (t + (k : Int)) && inR (t + (k : Int)) t (t + (k : Int) - 1)) = false by rw [HM.out]; simp [inR]; omega)
      have HH2 := hidd (show (mayR t (t + (k : Int)) && inR (t - 1) t (t + (k : Int) - 1)) = false by rw [HM.out]; simp [inR]; omega)
      have e1 : IntKind.i64.wrap ((k : Int) + (24 - (k : Int))) = 24 := by rw [show (k : Int) + (24 - (k : Int)) = 24 by omega]; rfl
      have e2 : IntKind.i64.wrap (t - 1) = t - 1 := IntWalk.i64_in _ (by omega)
      have G := hidd Bw
      clear k0 f0 g0 hown Bw hlt
      refine wp_region_held_drew (S := fun w' => Below wo.heap.size wo w') (by kernel_rfl) ((Below.refl _ wo).drew) (fun hH => ?_)
      refine take_at 0 65 (v := ?_) rfl rfl (by kernel_rfl) (by kernel_rfl) (by kernel_rfl) (fun _ _ _ h => h) (Or.inl ⟨by rfl, ?_⟩) hH ?_
      rotate_left
      · (intro w9 hSw; (try dsimp only at hSw); go_simp) <;> with_reducible rfl
      try simp only [Act.put, List.setIfInBounds_toArray, List.set_cons_zero, List.set_cons_succ]
      refine take_at 1 66 (v := ?_) rfl rfl (by kernel_rfl) (by kernel_rfl) (by kernel_rfl) (fun _ _ _ h => h) (Or.inl ⟨by rfl, ?_⟩) hH ?_
      rotate_left
      · (intro w9 hSw; (try dsimp only at hSw); go_simp) <;> with_reducible rfl
      try simp only [Act.put, List.setIfInBounds_toArray, List.set_cons_zero, List.set_cons_succ]
      refine take_at 2 67 (v := ?_) rfl rfl (by kernel_rfl) (by kernel_rfl) (by kernel_rfl) (fun _ _ _ h => h) (Or.inl ⟨by rfl, ?_⟩) hH ?_
      rotate_left
      · (intro w9 hSw; (try dsimp only at hSw); go_simp) <;> with_reducible rfl
      try simp only [Act.put, List.setIfInBounds_toArray, List.set_cons_zero, List.set_cons_succ]
      refine wpAnyH_ready (rs := [3]) (by kernel_rfl) (by simp) ?_
      refine AllReadyH.cons rfl (fun K hK => ?_) AllReadyH.nil
      go_simp
      refine (used_any t (t + (k : Int)) _).mono ?_
      rintro e w3 ⟨rfl, hb3⟩
      have D3 := ((Below.refl wo.heap.size wo).drew).trans hb3
      clear hb3
      rw [HU.out]
      dsimp only
      refine hK.out _ _ (D3) (fun hH3 => ?_)
      clear hK K
      clear hH; have hH := hH3; clear hH3
      try simp only [Act.put, List.setIfInBounds_toArray, List.set_cons_zero, List.set_cons_succ]
      refine take_at 4 69 (v := ?_) rfl rfl (by kernel_rfl) (by kernel_rfl) (by kernel_rfl) (fun _ _ _ h => h) (Or.inl ⟨by rfl, ?_⟩) hH ?_
      rotate_left
      · (intro w9 hSw; (try dsimp only at hSw); go_simp) <;> with_reducible rfl
      try simp only [Act.put, List.setIfInBounds_toArray, List.set_cons_zero, List.set_cons_succ]
      refine take_at 5 70 (v := ?_) rfl rfl (by kernel_rfl) (by kernel_rfl) (by kernel_rfl) (fun _ _ _ h => h) (Or.inl ⟨by rfl, ?_⟩) hH ?_
      rotate_left
      · (intro w9 hSw; (try dsimp only at hSw); go_simp) <;> with_reducible rfl
      try simp only [Act.put, List.setIfInBounds_toArray, List.set_cons_zero, List.set_cons_succ]
      refine take_at 6 71 (v := ?_) rfl rfl (by kernel_rfl) (by kernel_rfl) (by kernel_rfl) (fun _ _ _ h => h) (Or.inl ⟨by rfl, ?_⟩) hH ?_
      rotate_left
      · (intro w9 hSw; (try dsimp only at hSw); go_simp) <;> with_reducible rfl
      try simp only [Act.put, List.setIfInBounds_toArray, List.set_cons_zero, List.set_cons_succ]
      refine take_at 8 73 (v := ?_) rfl rfl (by kernel_rfl) (by kernel_rfl) (by kernel_rfl) (fun _ _ _ h => h) (Or.inl ⟨by rfl, ?_⟩) hH ?_
      rotate_left
      · (intro w9 hSw; (try dsimp only at hSw); go_simp) <;> with_reducible rfl
      try simp only [Act.put, List.setIfInBounds_toArray, List.set_cons_zero, List.set_cons_succ]
      refine wpAnyH_ready (rs := [7]) (by kernel_rfl) (by simp) ?_
      refine AllReadyH.cons rfl (fun K hK => ?_) AllReadyH.nil
      go_simp
      refine (used_any t (t + (k : Int)) _).mono ?_
      rintro e w7 ⟨rfl, hb7⟩
      have D7 := D3.trans (hb7.mono D3.size)
      clear hb7
      rw [HU.out]
      dsimp only
      refine hK.out _ _ (D7) (fun hH7 => ?_)
      clear hK K
      clear hH; have hH := hH7; clear hH7
      try simp only [Act.put, List.setIfInBounds_toArray, List.set_cons_zero, List.set_cons_succ]
      refine wpAnyH_ready (rs := [9]) (by kernel_rfl) (by simp) ?_
      refine AllReadyH.cons rfl (fun K hK => ?_) AllReadyH.nil
      go_simp
      refine (free_any t (t + (k : Int)) _).mono ?_
      rintro e w9 ⟨rfl, hb9⟩
      have D9 := D7.trans (hb9.mono D7.size)
      clear hb9
      rw [HF.out]
      dsimp only
      refine hK.out _ _ (D9) (fun hH9 => ?_)
      clear hK K
      clear hH; have hH := hH9; clear hH9
      try simp only [Act.put, List.setIfInBounds_toArray, List.set_cons_zero, List.set_cons_succ]
      refine take_at 10 75 (v := ?_) rfl rfl (by kernel_rfl) (by kernel_rfl) (by kernel_rfl) (fun _ _ _ h => h) (Or.inl ⟨by rfl, ?_⟩) hH ?_
      rotate_left
      · (intro w9 hSw; (try dsimp only at hSw); go_simp) <;> with_reducible rfl
      try simp only [Act.put, List.setIfInBounds_toArray, List.set_cons_zero, List.set_cons_succ]
      refine take_at 11 76 (v := ?_) rfl rfl (by kernel_rfl) (by kernel_rfl) (by kernel_rfl) (fun _ _ _ h => h) (Or.inl ⟨by rfl, ?_⟩) hH ?_
      rotate_left
      · (intro w9 hSw; (try dsimp only at hSw); go_simp) <;> with_reducible rfl
      try simp only [Act.put, List.setIfInBounds_toArray, List.set_cons_zero, List.set_cons_succ]
      refine take_at 12 77 (v := ?_) rfl rfl (by kernel_rfl) (by kernel_rfl) (by kernel_rfl) (fun _ _ _ h => h) (Or.inl ⟨by rfl, ?_⟩) hH ?_
      rotate_left
      · (intro w9 hSw; (try dsimp only at hSw); go_simp) <;> with_reducible rfl
      try simp only [Act.put, List.setIfInBounds_toArray, List.set_cons_zero, List.set_cons_succ]
      refine take_at 13 78 (v := ?_) rfl rfl (by kernel_rfl) (by kernel_rfl) (by kernel_rfl) (fun _ _ _ h => h) (Or.inl ⟨by rfl, ?_⟩) hH ?_
      rotate_left
      · (intro w9 hSw; (try dsimp only at hSw); go_simp) <;> with_reducible rfl
      try simp only [Act.put, List.setIfInBounds_toArray, List.set_cons_zero, List.set_cons_succ]
      refine take_at 14 79 (v := ?_) rfl rfl (by kernel_rfl) (by kernel_rfl) (by kernel_rfl) (fun _ _ _ h => h) (Or.inl ⟨by rfl, ?_⟩) hH ?_
      rotate_left
      · (intro w9 hSw; (try dsimp only at hSw); go_simp) <;> with_reducible rfl
      try simp only [Act.put, List.setIfInBounds_toArray, List.set_cons_zero, List.set_cons_succ]
      refine take_at 15 80 (v := ?_) rfl rfl (by kernel_rfl) (by kernel_rfl) (by kernel_rfl) (fun _ _ _ h => h) (Or.inl ⟨by rfl, ?_⟩) hH ?_
      rotate_left
      · (intro w9 hSw; (try dsimp only at hSw); go_simp) <;> with_reducible rfl
      try simp only [Act.put, List.setIfInBounds_toArray, List.set_cons_zero, List.set_cons_succ]
      refine take_at 16 81 (v := ?_) rfl rfl (by kernel_rfl) (by kernel_rfl) (by kernel_rfl) (fun _ _ _ h => h) (Or.inl ⟨by rfl, ?_⟩) hH ?_
      rotate_left
      · (intro w9 hSw; (try dsimp only at hSw); go_simp) <;> with_reducible rfl
      try simp only [Act.put, List.setIfInBounds_toArray, List.set_cons_zero, List.set_cons_succ]
      refine wpAnyH_ready (rs := [17]) (by kernel_rfl) (by simp) ?_
      refine AllReadyH.cons rfl (fun K hK => ?_) AllReadyH.nil
      go_simp
      refine (has_any t (t + (k : Int)) _ _).mono ?_
      rintro e w17 ⟨rfl, hb17⟩
      have D17 := D9.trans (hb17.mono D9.size)
      clear hb17
      rw [HH1.out]
      dsimp only
      refine hK.out _ _ (D17) (fun hH17 => ?_)
      clear hK K
      clear hH; have hH := hH17; clear hH17
      try simp only [Act.put, List.setIfInBounds_toArray, List.set_cons_zero, List.set_cons_succ]
      refine take_at 18 83 (v := ?_) rfl rfl (by kernel_rfl) (by kernel_rfl) (by kernel_rfl) (fun _ _ _ h => h) (Or.inl ⟨by rfl, ?_⟩) hH ?_
      rotate_left
      · (intro w9 hSw; (try dsimp only at hSw); go_simp) <;> with_reducible rfl
      try simp only [Act.put, List.setIfInBounds_toArray, List.set_cons_zero, List.set_cons_succ]
      refine take_at 19 84 (v := ?_) rfl rfl (by kernel_rfl) (by kernel_rfl) (by kernel_rfl) (fun _ _ _ h => h) (Or.inl ⟨by rfl, ?_⟩) hH ?_
      rotate_left
      · (intro w9 hSw; (try dsimp only at hSw); go_simp) <;> with_reducible rfl
      try simp only [Act.put, List.setIfInBounds_toArray, List.set_cons_zero, List.set_cons_succ]
      refine take_at 20 85 (v := ?_) rfl rfl (by kernel_rfl) (by kernel_rfl) (by kernel_rfl) (fun _ _ _ h => h) (Or.inl ⟨by rfl, ?_⟩) hH ?_
      rotate_left
      · (intro w9 hSw; (try dsimp only at hSw); go_simp) <;> with_reducible rfl
      try simp only [Act.put, List.setIfInBounds_toArray, List.set_cons_zero, List.set_cons_succ]
      refine take_at 21 86 (v := ?_) rfl rfl (by kernel_rfl) (by kernel_rfl) (by kernel_rfl) (fun _ _ _ h => h) (Or.inl ⟨by rfl, ?_⟩) hH ?_
      rotate_left
      · (intro w9 hSw; (try dsimp only at hSw); go_simp) <;> with_reducible rfl
      try simp only [Act.put, List.setIfInBounds_toArray, List.set_cons_zero, List.set_cons_succ]
      refine take_at 22 87 (v := ?_) rfl rfl (by kernel_rfl) (by kernel_rfl) (by kernel_rfl) (fun _ _ _ h => h) (Or.inl ⟨by rfl, ?_⟩) hH ?_
      rotate_left
      · (intro w9 hSw; (try dsimp only at hSw); go_simp) <;> with_reducible rfl
      try simp only [Act.put, List.setIfInBounds_toArray, List.set_cons_zero, List.set_cons_succ]
      refine take_at 23 88 (v := ?_) rfl rfl (by kernel_rfl) (by kernel_rfl) (by kernel_rfl) (fun _ _ _ h => h) (Or.inl ⟨by rfl, ?_⟩) hH ?_
      rotate_left
      · (intro w9 hSw; (try dsimp only at hSw); go_simp) <;> with_reducible rfl
      try simp only [Act.put, List.setIfInBounds_toArray, List.set_cons_zero, List.set_cons_succ]
      refine take_at 24 89 (v := ?_) rfl rfl (by kernel_rfl) (by kernel_rfl) (by kernel_rfl) (fun _ _ _ h => h) (Or.inl ⟨by rfl, ?_⟩) hH ?_
      rotate_left
      · (intro w9 hSw; (try dsimp only at hSw); go_simp) <;> with_reducible rfl
      try simp only [Act.put, List.setIfInBounds_toArray, List.set_cons_zero, List.set_cons_succ]
      refine wpAnyH_ready (rs := [25]) (by kernel_rfl) (by simp) ?_
      refine AllReadyH.cons rfl (fun K hK => ?_) AllReadyH.nil
      go_simp
      refine (has_any t (t + (k : Int)) _ _).mono ?_
      rintro e w25 ⟨rfl, hb25⟩
      have D25 := D17.trans (hb25.mono D17.size)
      clear hb25
      rw [HH2.out]
      dsimp only
      refine hK.out _ _ (D25) (fun hH25 => ?_)
      clear hK K
      clear hH; have hH := hH25; clear hH25
      try simp only [Act.put, List.setIfInBounds_toArray, List.set_cons_zero, List.set_cons_succ]
      refine take_at 26 91 (v := ?_) rfl rfl (by kernel_rfl) (by kernel_rfl) (by kernel_rfl) (fun _ _ _ h => h) (Or.inl ⟨by rfl, ?_⟩) hH ?_
      rotate_left
      · (intro w9 hSw; (try dsimp only at hSw); go_simp) <;> with_reducible rfl
      try simp only [Act.put, List.setIfInBounds_toArray, List.set_cons_zero, List.set_cons_succ]
      refine take_at 27 92 (v := ?_) rfl rfl (by kernel_rfl) (by kernel_rfl) (by kernel_rfl) (fun _ _ _ h => h) (Or.inl ⟨by rfl, ?_⟩) hH ?_
      rotate_left
      · (intro w9 hSw; (try dsimp only at hSw); go_simp) <;> with_reducible rfl
      try simp only [Act.put, List.setIfInBounds_toArray, List.set_cons_zero, List.set_cons_succ]
      refine take_at 28 93 (v := ?_) rfl rfl (by kernel_rfl) (by kernel_rfl) (by kernel_rfl) (fun _ _ _ h => h) (Or.inl ⟨by rfl, ?_⟩) hH ?_
      rotate_left
      · (intro w9 hSw; (try dsimp only at hSw); go_simp) <;> with_reducible rfl
      try simp only [Act.put, List.setIfInBounds_toArray, List.set_cons_zero, List.set_cons_succ]
      refine wpAnyH_ready (rs := [29]) (by kernel_rfl) (by simp) ?_
      refine AllReadyH.cons rfl (fun K hK => ?_) AllReadyH.nil
      go_simp
      refine (wakesR_any _).mono ?_
      rintro e w29 ⟨rfl, hb29⟩
      have D29 := D25.trans (hb29.mono D25.size)
      clear hb29
      dsimp only
      refine hK.out _ _ (D29) (fun hH29 => ?_)
      clear hK K
      clear hH; have hH := hH29; clear hH29
      try simp only [Act.put, List.setIfInBounds_toArray, List.set_cons_zero, List.set_cons_succ]
      refine take_at 30 95 (v := ?_) rfl rfl (by kernel_rfl) (by kernel_rfl) (by kernel_rfl) (fun _ _ _ h => h) (Or.inl ⟨by rfl, ?_⟩) hH ?_
      rotate_left
      · (intro w9 hSw; (try dsimp only at hSw); go_simp) <;> with_reducible rfl
      try simp only [Act.put, List.setIfInBounds_toArray, List.set_cons_zero, List.set_cons_succ]
      refine take_at 31 2 (v := ?_) rfl rfl (by kernel_rfl) (by kernel_rfl) (by kernel_rfl) (fun _ _ _ h => h) (Or.inl ⟨by rfl, ?_⟩) hH ?_
      rotate_left
      · (intro w9 hSw; (try dsimp only at hSw); go_simp) <;> with_reducible rfl
      try simp only [Act.put, List.setIfInBounds_toArray, List.set_cons_zero, List.set_cons_succ]
      refine wpAnyH_done (by kernel_rfl) ?_ _

      go_wp2
      go_ret
      exact ⟨rfl, G.out.trans (D29.mono G.out.size)⟩
end Go.Proofs.Ytfmadgaknaflfaa
