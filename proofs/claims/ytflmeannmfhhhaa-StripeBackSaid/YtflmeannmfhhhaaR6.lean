import Derived.Test.YtflmeannmfhhhaaR5
namespace Go.Proofs.Ytflmeannmfhhhaa
open Go.RowKit
/-- the first that no other is better than -/
def bestK (f : Nat → Nat → Bool) (L : List (Nat × Nat)) : Nat → Nat
  | 0 => 0
  | k + 1 => if f (L.getD k (0, 0)).1 (L.getD (bestK f L k) (0, 0)).1 = true then k else bestK f L k
theorem bestK_lt (f : Nat → Nat → Bool) (L : List (Nat × Nat)) : ∀ k, k ≤ L.length → 0 < L.length → bestK f L k < L.length
  | 0, _, h => h
  | k + 1, hk, h => by
    have := bestK_lt f L k (by omega) h
    simp only [bestK]
    split <;> omega
theorem cx_at {w : World} {a : Option Addr} {n c : Nat} {L : List (Nat × Nat)} (h : Sl w a n c 1 (L.map cx)) (k : Nat) (hk : k < n) : ∃ b off, a = some ⟨b, off, none⟩ ∧ w.cell? ⟨b, off + k, none⟩ = some (cx (L.getD k (0, 0))) := by
  have hl := h.len
  rw [List.length_map] at hl
  obtain ⟨b, off, ha, hc⟩ := h.cells k (by rw [List.length_map]; omega)
  refine ⟨b, off, ha, hc.trans ?_⟩
  rw [List.getElem?_map, List.getElem?_eq_getElem (by omega), List.getD_eq_getElem?_getD, List.getElem?_eq_getElem (by omega)]
  rfl
theorem getD_lt {L : List (Nat × Nat)} {B : Nat} (h : ∀ p ∈ L, p.1 < B) (k : Nat) (hB : 0 < B) : (L.getD k (0, 0)).1 < B := by
  rw [List.getD_eq_getElem?_getD]
  rcases Nat.lt_or_ge k L.length with hk | hk
  · rw [List.getElem?_eq_getElem hk]
    exact h _ (List.getElem_mem _)
  · rw [List.getElem?_eq_none hk]
    exact hB
theorem cell_all {w : World} {p : Addr} {v : Value} (h : w.cell? p = some v) : ∀ w', Below w.heap.size w w' → w'.cell? p = some v := fun w' hb => (hb.cell (p := p) (World.block_lt_of_cell? w _ h)).trans h
set_option maxHeartbeats 2000000 in
theorem best_more (a : Option Addr) (n c : Nat) (L : List (Nat × Nat)) (W : World) (hs : Sl W a n c 1 (L.map cx)) (hn : n ≤ 4) (h0 : 0 < n) (hL : ∀ p ∈ L, p.1 < 10) :
    Calls Try.prog 31 #[.slice a n c, .func (.func 29) #[] #[]] W fun e w' => e = .returned (.int .i64 (bestK (fun x y => decide (y < x)) L n : Nat)) ∧ Below W.heap.size W w' := by
  have HS := hidd hs
  have HL := hidd hL
  have HN := hidd (show L.length = n by have := hs.len; rw [List.length_map] at this; omega)
  clear hs hL
  go_enter Try.func31, Try.ntmps31
  go_wp2
  go_loopw [5, 9] (fun b i wr => ∃ k : Nat, k ≤ n ∧ i = .int .i64 k ∧ b = .int .i64 (bestK (fun x y => decide (y < x)) L k : Nat) ∧ Below W.heap.size W wr) (fun _ i _ => n - (intOf i).toNat)
  case atStart => exact ⟨0, by omega, rfl, rfl, Below.refl _ _⟩
  case round =>
    obtain ⟨k, hk, rfl, rfl, hbel⟩ := hrel
    obtain ⟨wo, rfl⟩ : ∃ wo, wo = wr := ⟨_, rfl⟩
    have HW := hidd hbel
    by_cases hlt : k < n
    · have hm := bestK_lt (fun x y => decide (y < x)) L k (by rw [HN.out]; omega) (by rw [HN.out]; omega)
      rw [HN.out] at hm
      obtain ⟨m, hmm⟩ : ∃ m, m = bestK (fun x y => decide (y < x)) L k := ⟨_, rfl⟩
      rw [← hmm] at hm
      obtain ⟨bb, off, rfl, c0⟩ := cx_at (HS.out.grow hbel) k hlt
      obtain ⟨b', off', e, c1⟩ := cx_at (HS.out.grow hbel) m hm
      injection e with e
      injection e with e1 e2
      subst e1 e2
      have s0 := cell_all c0
      have s1 := cell_all c1
      have i0 : (0 : Int) ≤ (k : Int) := by omega
      have i1 : (k : Int) < (n : Int) := by omega
      have j0 : (0 : Int) ≤ (m : Int) := by omega
      have j1 : (m : Int) < (n : Int) := by omega
      rw [← hmm]
      have HM := hidd hmm
      clear c0 c1 hbel hmm
      go_wp2_with fail
      refine wp_region_held_drew (S := fun w' => Below wo.heap.size wo w') (by kernel_rfl) ((Below.refl _ wo).drew) (fun hH => ?_)
      refine take_at 0 12 (v := ?_) rfl rfl (by kernel_rfl) (by kernel_rfl) (by kernel_rfl) (fun _ _ _ h => h) (Or.inl ⟨by rfl, ?_⟩) hH ?_
      rotate_left
      · (intro w9 hSw; (try dsimp only at hSw); go_simp) <;> with_reducible rfl
      try simp only [Act.put, List.setIfInBounds_toArray, List.set_cons_zero, List.set_cons_succ]
      refine take_at 1 13 (v := ?_) rfl rfl (by kernel_rfl) (by kernel_rfl) (by kernel_rfl) (fun _ _ _ h => h) (Or.inl ⟨by rfl, ?_⟩) hH ?_
      rotate_left
      · (intro w9 hSw; (try dsimp only at hSw); go_simp) <;> with_reducible rfl
      try simp only [Act.put, List.setIfInBounds_toArray, List.set_cons_zero, List.set_cons_succ]
      refine take_at 2 14 (v := ?_) rfl rfl (by kernel_rfl) (by kernel_rfl) (by kernel_rfl) (fun _ _ _ h => h) (Or.inl ⟨by rfl, ?_⟩) hH ?_
      rotate_left
      · (intro w9 hSw; (try dsimp only at hSw); go_simp) <;> with_reducible rfl
      try simp only [Act.put, List.setIfInBounds_toArray, List.set_cons_zero, List.set_cons_succ]
      refine take_at 3 15 (v := ?_) rfl rfl (by kernel_rfl) (by kernel_rfl) (by kernel_rfl) (fun _ _ _ h => h) (Or.inl ⟨by rfl, ?_⟩) hH ?_
      rotate_left
      · (intro w9 hSw; (try dsimp only at hSw); go_simp) <;> with_reducible rfl
      try simp only [Act.put, List.setIfInBounds_toArray, List.set_cons_zero, List.set_cons_succ]
      refine take_at 4 16 (v := ?_) rfl rfl (by kernel_rfl) (by kernel_rfl) (by kernel_rfl) (fun _ _ _ h => h) (Or.inl ⟨by rfl, ?_⟩) hH ?_
      rotate_left
      · (intro w9 hSw; (try dsimp only at hSw); go_simp) <;> with_reducible rfl
      try simp only [Act.put, List.setIfInBounds_toArray, List.set_cons_zero, List.set_cons_succ]
      refine take_at 5 17 (v := ?_) rfl rfl (by kernel_rfl) (by kernel_rfl) (by kernel_rfl) (fun _ _ _ h => h) (Or.inl ⟨by rfl, ?_⟩) hH ?_
      rotate_left
      · (intro w9 hSw; (try dsimp only at hSw); go_simp) <;> with_reducible rfl
      try simp only [Act.put, List.setIfInBounds_toArray, List.set_cons_zero, List.set_cons_succ]
      refine take_at 6 18 (v := ?_) rfl rfl (by kernel_rfl) (by kernel_rfl) (by kernel_rfl) (fun _ _ _ h => h) (Or.inl ⟨by rfl, ?_⟩) hH ?_
      rotate_left
      · (intro w9 hSw; (try dsimp only at hSw); go_simp) <;> with_reducible rfl
      try simp only [Act.put, List.setIfInBounds_toArray, List.set_cons_zero, List.set_cons_succ]
      refine take_at 7 19 (v := ?_) rfl rfl (by kernel_rfl) (by kernel_rfl) (by kernel_rfl) (fun _ _ _ h => h) (Or.inl ⟨by rfl, ?_⟩) hH ?_
      rotate_left
      · (intro w9 hSw; (try dsimp only at hSw); go_simp) <;> with_reducible rfl
      try simp only [Act.put, List.setIfInBounds_toArray, List.set_cons_zero, List.set_cons_succ]
      refine take_at 8 20 (v := ?_) rfl rfl (by kernel_rfl) (by kernel_rfl) (by kernel_rfl) (fun _ _ _ h => h) (Or.inl ⟨by rfl, ?_⟩) hH ?_
      rotate_left
      · (intro w9 hSw; (try dsimp only at hSw); go_simp) <;> with_reducible rfl
      try simp only [Act.put, List.setIfInBounds_toArray, List.set_cons_zero, List.set_cons_succ]
      refine wpAnyH_ready (rs := [9]) (by kernel_rfl) (by simp) ?_
      refine AllReadyH.cons rfl (fun K hK => ?_) AllReadyH.nil
      go_simp
      refine (more_any _ _ _ (getD_lt HL.out k (by decide)) (getD_lt HL.out m (by decide))).mono ?_
      rintro e w1 ⟨rfl, rfl⟩
      dsimp only
      refine hK.out _ _ ((Below.refl _ wo).drew) (fun hH9 => ?_)
      clear hK K
      clear hH; have hH := hH9; clear hH9
      try simp only [Act.put, List.setIfInBounds_toArray, List.set_cons_zero, List.set_cons_succ]
      refine wpAnyH_done (by kernel_rfl) ?_ _
      clear hH s0 s1
      have hst : bestK (fun x y => decide (y < x)) L (k + 1) = if (L.getD m (0, 0)).1 < (L.getD k (0, 0)).1 then k else m := by
        rw [HM.out]
        simp [bestK]
      have HST := hidd hst
      clear hst
      by_cases hb : (L.getD m (0, 0)).1 < (L.getD k (0, 0)).1
      · have HBB := hidd hb
        rw [decide_eq_true hb]
        clear hb
        go_wp2
        go_roundw
        case rel => exact ⟨k + 1, by omega, by go_num, by rw [HST.out, if_pos HBB.out], HW.out.trans (((Below.refl _ wo).drew).mono HW.out.size)⟩
        case measure => simp [intOf]; omega
      · have HBB := hidd hb
        rw [decide_eq_false hb]
        clear hb
        go_wp2
        go_roundw
        case rel => exact ⟨k + 1, by omega, by go_num, by rw [HST.out, if_neg HBB.out], HW.out.trans (((Below.refl _ wo).drew).mono HW.out.size)⟩
        case measure => simp [intOf]; omega
    · obtain rfl : k = n := by omega
      go_wp2
      go_ret
      exact ⟨rfl, HW.out⟩
set_option maxHeartbeats 2000000 in
theorem best_fewer (a : Option Addr) (n c : Nat) (L : List (Nat × Nat)) (W : World) (hs : Sl W a n c 1 (L.map cx)) (hn : n ≤ 4) (h0 : 0 < n) (hL : ∀ p ∈ L, p.1 < 10) :
    Calls Try.prog 31 #[.slice a n c, .func (.func 30) #[] #[]] W fun e w' => e = .returned (.int .i64 (bestK (fun x y => decide (x < y)) L n : Nat)) ∧ Below W.heap.size W w' := by
  have HS := hidd hs
  have HL := hidd hL
  have HN := hidd (show L.length = n by have := hs.len; rw [List.length_map] at this; omega)
  clear hs hL
  go_enter Try.func31, Try.ntmps31
  go_wp2
  go_loopw [5, 9] (fun b i wr => ∃ k : Nat, k ≤ n ∧ i = .int .i64 k ∧ b = .int .i64 (bestK (fun x y => decide (x < y)) L k : Nat) ∧ Below W.heap.size W wr) (fun _ i _ => n - (intOf i).toNat)
  case atStart => exact ⟨0, by omega, rfl, rfl, Below.refl _ _⟩
  case round =>
    obtain ⟨k, hk, rfl, rfl, hbel⟩ := hrel
    obtain ⟨wo, rfl⟩ : ∃ wo, wo = wr := ⟨_, rfl⟩
    have HW := hidd hbel
    by_cases hlt : k < n
    · have hm := bestK_lt (fun x y => decide (x < y)) L k (by rw [HN.out]; omega) (by rw [HN.out]; omega)
      rw [HN.out] at hm
      obtain ⟨m, hmm⟩ : ∃ m, m = bestK (fun x y => decide (x < y)) L k := ⟨_, rfl⟩
      rw [← hmm] at hm
      obtain ⟨bb, off, rfl, c0⟩ := cx_at (HS.out.grow hbel) k hlt
      obtain ⟨b', off', e, c1⟩ := cx_at (HS.out.grow hbel) m hm
      injection e with e
      injection e with e1 e2
      subst e1 e2
      have s0 := cell_all c0
      have s1 := cell_all c1
      have i0 : (0 : Int) ≤ (k : Int) := by omega
      have i1 : (k : Int) < (n : Int) := by omega
      have j0 : (0 : Int) ≤ (m : Int) := by omega
      have j1 : (m : Int) < (n : Int) := by omega
      rw [← hmm]
      have HM := hidd hmm
      clear c0 c1 hbel hmm
      go_wp2_with fail
      refine wp_region_held_drew (S := fun w' => Below wo.heap.size wo w') (by kernel_rfl) ((Below.refl _ wo).drew) (fun hH => ?_)
      refine take_at 0 12 (v := ?_) rfl rfl (by kernel_rfl) (by kernel_rfl) (by kernel_rfl) (fun _ _ _ h => h) (Or.inl ⟨by rfl, ?_⟩) hH ?_
      rotate_left
      · (intro w9 hSw; (try dsimp only at hSw); go_simp) <;> with_reducible rfl
      try simp only [Act.put, List.setIfInBounds_toArray, List.set_cons_zero, List.set_cons_succ]
      refine take_at 1 13 (v := ?_) rfl rfl (by kernel_rfl) (by kernel_rfl) (by kernel_rfl) (fun _ _ _ h => h) (Or.inl ⟨by rfl, ?_⟩) hH ?_
      rotate_left
      · (intro w9 hSw; (try dsimp only at hSw); go_simp) <;> with_reducible rfl
      try simp only [Act.put, List.setIfInBounds_toArray, List.set_cons_zero, List.set_cons_succ]
      refine take_at 2 14 (v := ?_) rfl rfl (by kernel_rfl) (by kernel_rfl) (by kernel_rfl) (fun _ _ _ h => h) (Or.inl ⟨by rfl, ?_⟩) hH ?_
      rotate_left
      · (intro w9 hSw; (try dsimp only at hSw); go_simp) <;> with_reducible rfl
      try simp only [Act.put, List.setIfInBounds_toArray, List.set_cons_zero, List.set_cons_succ]
      refine take_at 3 15 (v := ?_) rfl rfl (by kernel_rfl) (by kernel_rfl) (by kernel_rfl) (fun _ _ _ h => h) (Or.inl ⟨by rfl, ?_⟩) hH ?_
      rotate_left
      · (intro w9 hSw; (try dsimp only at hSw); go_simp) <;> with_reducible rfl
      try simp only [Act.put, List.setIfInBounds_toArray, List.set_cons_zero, List.set_cons_succ]
      refine take_at 4 16 (v := ?_) rfl rfl (by kernel_rfl) (by kernel_rfl) (by kernel_rfl) (fun _ _ _ h => h) (Or.inl ⟨by rfl, ?_⟩) hH ?_
      rotate_left
      · (intro w9 hSw; (try dsimp only at hSw); go_simp) <;> with_reducible rfl
      try simp only [Act.put, List.setIfInBounds_toArray, List.set_cons_zero, List.set_cons_succ]
      refine take_at 5 17 (v := ?_) rfl rfl (by kernel_rfl) (by kernel_rfl) (by kernel_rfl) (fun _ _ _ h => h) (Or.inl ⟨by rfl, ?_⟩) hH ?_
      rotate_left
      · (intro w9 hSw; (try dsimp only at hSw); go_simp) <;> with_reducible rfl
      try simp only [Act.put, List.setIfInBounds_toArray, List.set_cons_zero, List.set_cons_succ]
      refine take_at 6 18 (v := ?_) rfl rfl (by kernel_rfl) (by kernel_rfl) (by kernel_rfl) (fun _ _ _ h => h) (Or.inl ⟨by rfl, ?_⟩) hH ?_
      rotate_left
      · (intro w9 hSw; (try dsimp only at hSw); go_simp) <;> with_reducible rfl
      try simp only [Act.put, List.setIfInBounds_toArray, List.set_cons_zero, List.set_cons_succ]
      refine take_at 7 19 (v := ?_) rfl rfl (by kernel_rfl) (by kernel_rfl) (by kernel_rfl) (fun _ _ _ h => h) (Or.inl ⟨by rfl, ?_⟩) hH ?_
      rotate_left
      · (intro w9 hSw; (try dsimp only at hSw); go_simp) <;> with_reducible rfl
      try simp only [Act.put, List.setIfInBounds_toArray, List.set_cons_zero, List.set_cons_succ]
      refine take_at 8 20 (v := ?_) rfl rfl (by kernel_rfl) (by kernel_rfl) (by kernel_rfl) (fun _ _ _ h => h) (Or.inl ⟨by rfl, ?_⟩) hH ?_
      rotate_left
      · (intro w9 hSw; (try dsimp only at hSw); go_simp) <;> with_reducible rfl
      try simp only [Act.put, List.setIfInBounds_toArray, List.set_cons_zero, List.set_cons_succ]
      refine wpAnyH_ready (rs := [9]) (by kernel_rfl) (by simp) ?_
      refine AllReadyH.cons rfl (fun K hK => ?_) AllReadyH.nil
      go_simp
      refine (fewer_any _ _ _ (getD_lt HL.out k (by decide)) (getD_lt HL.out m (by decide))).mono ?_
      rintro e w1 ⟨rfl, rfl⟩
      dsimp only
      refine hK.out _ _ ((Below.refl _ wo).drew) (fun hH9 => ?_)
      clear hK K
      clear hH; have hH := hH9; clear hH9
      try simp only [Act.put, List.setIfInBounds_toArray, List.set_cons_zero, List.set_cons_succ]
      refine wpAnyH_done (by kernel_rfl) ?_ _
      clear hH s0 s1
      have hst : bestK (fun x y => decide (x < y)) L (k + 1) = if (L.getD k (0, 0)).1 < (L.getD m (0, 0)).1 then k else m := by
        rw [HM.out]
        simp [bestK]
      have HST := hidd hst
      clear hst
      by_cases hb : (L.getD k (0, 0)).1 < (L.getD m (0, 0)).1
      · have HBB := hidd hb
        rw [decide_eq_true hb]
        clear hb
        go_wp2
        go_roundw
        case rel => exact ⟨k + 1, by omega, by go_num, by rw [HST.out, if_pos HBB.out], HW.out.trans (((Below.refl _ wo).drew).mono HW.out.size)⟩
        case measure => simp [intOf]; omega
      · have HBB := hidd hb
        rw [decide_eq_false hb]
        clear hb
        go_wp2
        go_roundw
        case rel => exact ⟨k + 1, by omega, by go_num, by rw [HST.out, if_neg HBB.out], HW.out.trans (((Below.refl _ wo).drew).mono HW.out.size)⟩
        case measure => simp [intOf]; omega
    · obtain rfl : k = n := by omega
      go_wp2
      go_ret
      exact ⟨rfl, HW.out⟩
end Go.Proofs.Ytflmeannmfhhhaa
