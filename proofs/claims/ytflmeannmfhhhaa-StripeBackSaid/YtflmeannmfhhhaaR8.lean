import Derived.Test.YtflmeannmfhhhaaR7
import Derived.ScopeJumps
import Derived.WalkMore
namespace Go.Proofs.Ytflmeannmfhhhaa
open Go.RowKit
attribute [local go_sem] run_store_complex
def hiI (L : List (Nat × Nat)) (s : Nat) : Nat := bestK (fun x y => decide (y < x)) (L.take s) s
def loI (L : List (Nat × Nat)) (s : Nat) : Nat := bestK (fun x y => decide (x < y)) (L.take s) s
def farI (L : List (Nat × Nat)) (s : Nat) : Option (Nat × Nat) := (L.drop s).find? fun p => decide (0 < p.1)
theorem sl_pre {w : World} {a : Option Addr} {n c : Nat} {L : List (Nat × Nat)} (h : Sl w a n c 1 (L.map cx)) (s : Nat) (hs : s ≤ n) : Sl w a s s 1 ((L.take s).map cx) := by
  have hl := h.len
  have hle := h.le
  rw [List.length_map] at hl
  refine ⟨by rw [List.length_map, List.length_take]; omega, Nat.le_refl _, by have := h.max; omega, fun e => ⟨by have := h.nil e; omega, by have := h.nil e; omega⟩, ?_⟩
  intro i hi
  rw [List.length_map, List.length_take] at hi
  obtain ⟨b, off, ha, hc⟩ := h.cells i (by rw [List.length_map]; omega)
  refine ⟨b, off, ha, hc.trans ?_⟩
  rw [List.getElem?_map, List.getElem?_map, List.getElem?_take, if_pos (by omega)]
theorem sl_suf {w : World} {b off n c : Nat} {L : List (Nat × Nat)} (h : Sl w (some ⟨b, off, none⟩) n c 1 (L.map cx)) (s k : Nat) (hk : s + k < n) : w.cell? ⟨b, off + s + k, none⟩ = some (cx ((L.drop s).getD k (0, 0))) := by
  obtain ⟨b', off', e, hc⟩ := cx_at h (s + k) hk
  injection e with e
  injection e with e1 e2
  subst e1 e2
  rw [Nat.add_assoc, hc, List.getD_eq_getElem?_getD, List.getD_eq_getElem?_getD, List.getElem?_drop]
theorem cut0 (b off m sz : Nat) : cutAt (some ⟨b, off, none⟩) 0 m sz = some ⟨b, off, none⟩ := by
  unfold cutAt
  split
  · rfl
  · rw [Option.map_some, Addr_add, Nat.zero_mul, Nat.add_zero]
theorem cutS (b off s : Nat) (h : s ≠ 4) : cutAt (some ⟨b, off, none⟩) s 4 1 = some ⟨b, off + s, none⟩ := by
  unfold cutAt
  rw [if_neg (fun e => h e.symm), Option.map_some, Addr_add, Nat.mul_one]
theorem find_at : ∀ (X : List (Nat × Nat)) (k : Nat), k < X.length → (∀ j, j < k → (X.getD j (0, 0)).1 = 0) → 0 < (X.getD k (0, 0)).1 → X.find? (fun p => decide (0 < p.1)) = some (X.getD k (0, 0))
  | [], k, h, _, _ => by simp at h
  | x :: r, 0, _, _, h => by
    have h' : 0 < x.1 := h
    simp [List.find?_cons, h']
  | x :: r, k + 1, hk, hz, h => by
    have h0 : x.1 = 0 := hz 0 (by omega)
    have hd : decide (0 < x.1) = false := by simp [h0]
    rw [List.find?_cons, hd]
    exact find_at r k (by simpa using hk) (fun j hj => hz (j + 1) (by omega)) h
theorem find_none : ∀ (X : List (Nat × Nat)), (∀ j, j < X.length → (X.getD j (0, 0)).1 = 0) → X.find? (fun p => decide (0 < p.1)) = none
  | [], _ => rfl
  | x :: r, hz => by
    have h0 : x.1 = 0 := hz 0 (by simp)
    have hd : decide (0 < x.1) = false := by simp [h0]
    rw [List.find?_cons, hd]
    exact find_none r (fun j hj => hz (j + 1) (by simpa using hj))
theorem ord_zero (c : Nat) (h : c = 0) : FloatKind.f64.format.order (fb c) 0 = some .eq := by
  subst h
  have := fb_order 0 (by decide) 0 (by decide)
  rw [fb_zero] at this ⊢
  exact this
theorem ord_pos (c : Nat) (h : 0 < c) (hc : c < 10) : FloatKind.f64.format.order (fb c) 0 = some .gt := by
  have := fb_order c hc 0 (by decide)
  rw [fb_zero] at this
  rw [this, Nat.compare_eq_gt.2 h]
/-- where the goto comes to -/
def JN (W : World) (s : Nat) (L : List (Nat × Nat)) (p : Nat × Nat) (a' : Act) (w' : World) : Prop :=
  ∃ (av : Option Addr), Sl w' av s s 1 ((L.take s).map cx) ∧ w'.heap[W.heap.size + 1]? = some (.cells #[.int .i64 0, .int .i64 0] 26 (0, 0)) ∧ Below W.heap.size W w' ∧ W.heap.size + 1 < w'.heap.size ∧
    ∃ (u0 u1 u2 u3 u5 u6 u7 u11 u12 u13 u14 u15 u16 u17 u18 u19 u20 u21 u22 u23 u24 u25 u26 u27 u28 u29 u30 u31 u32 u33 u34 u35 u36 u37 u38 u39 u40 u41 u42 u43 u44 u45 u46 u47 u48 u49 u50 u51 u52 u53 u54 u55 u56 u57 u58 u59 u60 u61 u62 u63 u64 u65 u66 u67 : Value), a' = { tmps := #[u0, u1, u2, u3, .pointer (some ⟨W.heap.size + 1, 0, none⟩), u5, u6, u7, .func (.func 30) #[] #[], .slice av s s, .complex .f64 (fb p.1) (fb p.2), u11, u12, u13, u14, u15, u16, u17, u18, u19, u20, u21, u22, u23, u24, u25, u26, u27, u28, u29, u30, u31, u32, u33, u34, u35, u36, u37, u38, u39, u40, u41, u42, u43, u44, u45, u46, u47, u48, u49, u50, u51, u52, u53, u54, u55, u56, u57, u58, u59, u60, u61, u62, u63, u64, u65, u66, u67], defers := [] }
set_option maxRecDepth 100000 in
set_option maxHeartbeats 4000000 in
theorem next_far (z : List Int) (s : Nat) (p : Nat × Nat) (hf : farI (ldN z 8) s = some p) (hz : z.length = 8) (W : World) (ha : z.all shardB = true) (s1 : 0 < s) (s4 : s ≤ 4) :
    Calls Try.prog 13 #[.agg (is .i64 z).toArray, .int .i64 s] W fun e w' => e = .returned (.tuple #[.agg #[.int .i64 (p.2 : Nat), .int .i64 (1 + (loI (ldN z 8) s : Nat) : Int)], .bool true]) ∧ Below W.heap.size W w' := by
  have HZ := hidd hz
  have HA := hidd ha
  have HF := hidd hf
  have hsb : shardB (s : Int) = true := by simp [shardB]; omega
  have HS := hidd hsb
  have t0 : (0 : Int) ≤ (s : Int) := by omega
  have t4 : (s : Int) ≤ 4 := by omega
  have t5 := hidd (show (s : Int) ≤ ((4 : Nat) : Int) by omega)
  have hl4 := ldN_len z 8
  have HLL := hidd hl4
  have hle : ∀ q ∈ ldN z 8, q.1 < 10 := fun q hq => by have := ldN_le z 8 q hq; omega
  have HLE := hidd hle
  have HLB := hidd (show ∀ q ∈ (ldN z 8).take s, q.1 < 10 from fun q hq => hle q (List.mem_of_mem_take hq))
  obtain ⟨L, hL⟩ : ∃ L, L = ldN z 8 := ⟨_, rfl⟩
  rw [← hL] at HF HLL HLE HLB ⊢
  have HEQ := hidd hL
  obtain ⟨mh, hmh⟩ : ∃ m, m = hiI L s := ⟨_, rfl⟩
  obtain ⟨ml, hml⟩ : ∃ m, m = loI L s := ⟨_, rfl⟩
  have HHI := hidd (show bestK (fun x y => decide (y < x)) (L.take s) s = mh from hmh.symm)
  have HLO := hidd (show bestK (fun x y => decide (x < y)) (L.take s) s = ml from hml.symm)
  have hlt : (L.take s).length = s := by rw [List.length_take, HLL.out]; omega
  have hh : mh < s := by
    have := bestK_lt (fun x y => decide (y < x)) (L.take s) s (by omega) (by omega)
    rw [HHI.out, hlt] at this
    exact this
  have hl : ml < s := by
    have := bestK_lt (fun x y => decide (x < y)) (L.take s) s (by omega) (by omega)
    rw [HLO.out, hlt] at this
    exact this
  have j0 : (0 : Int) ≤ (mh : Int) := by omega
  have j1 : (mh : Int) < (s : Int) := by omega
  have j2 : (0 : Int) ≤ (ml : Int) := by omega
  have j3 : (ml : Int) < (s : Int) := by omega
  rw [← hml]
  clear hz ha hf hsb hL hmh hml hlt hl4 hle
  go_enter Try.func13, Try.ntmps13
  go_wp2_with fail
  refine wp_scope_jumps 0 (JN W s L p) (fun _ _ => 0) rfl ?_ ?_
  · go_wp2_with (with_reducible refine wpList_load_row rfl 22 (.tmp 2) rfl W.heap.size rfl 22 (is .i64 z).toArray (0, 0) _ (h2 W _ _).1 Try.underlying22 rfl (sz22 z HZ.out) ?_)
    refine (may_any z HZ.out _).mono ?_
    rintro e w1 ⟨rfl, hb1⟩
    rw [HA.out]
    have G0 := hidd (blk_below hb1 (h2 W _ _).1 (by simp; omega))
    have G1 := hidd (blk_below hb1 (h2 W _ _).2 (by simp))
    have HB := hidd (((((Below.refl _ W).alloc (Nat.le_refl _) _).alloc (by simp) _)).trans (hb1.mono (by simp; omega)))
    have hz1 : W.heap.size + 1 < w1.heap.size := by have := hb1.size; simp at this; omega
    clear hb1
    go_wp2_with (first | (go_at_call 27; refine (shard_any _ _).mono ?_; rintro e w' ⟨rfl, rfl⟩; rw [HS.out]) | (with_reducible refine wpList_load_row rfl 22 (.tmp 2) rfl W.heap.size rfl 22 (is .i64 z).toArray (0, 0) _ G0.out Try.underlying22 rfl (sz22 z HZ.out) ?_))
    refine (loads_any z HZ.out w1 HA.out).mono ?_
    rintro e w2 ⟨a, c, rfl, hsl, rfl, hb2⟩
    rw [← HEQ.out] at hsl
    obtain ⟨b, off, rfl, _⟩ := cx_at hsl 0 (by decide)
    have HSL := hidd hsl
    have hi := sl_pre hsl s s4
    have HI := hidd hi
    have G2 := hidd (blk_below hb2 G1.out hz1)
    have HB2 := hidd (HB.out.trans (hb2.mono (by omega)))
    have hz2 : W.heap.size + 1 < w2.heap.size := by have := hb2.size; omega
    obtain ⟨b1, o1, e1, d1⟩ := cx_at hi mh hh
    injection e1 with e1
    injection e1 with q1 q2
    subst q1 q2
    obtain ⟨b1, o1, e1, d2⟩ := cx_at hi ml hl
    injection e1 with e1
    injection e1 with q1 q2
    subst q1 q2
    obtain ⟨ph, hph⟩ : ∃ q, q = (L.take s).getD mh (0, 0) := ⟨_, rfl⟩
    obtain ⟨pq, hpq⟩ : ∃ q, q = (L.take s).getD ml (0, 0) := ⟨_, rfl⟩
    rw [← hph] at d1
    rw [← hpq] at d2
    have HPH := hidd hph
    have HPQ := hidd hpq
    clear hph hpq
    have c1 := cell_all d1
    have c2 := cell_all d2
    clear d1 d2
    have hc0 := cut0 b off s 1
    clear hsl hi hb2 
    obtain ⟨a, ha0⟩ : ∃ a : Option Addr, a = some ⟨b, off, none⟩ := ⟨_, rfl⟩
    go_wp2_with (with_reducible refine wpList_cut_hm cT rfl (.tmp 25) (.tmp 26) (.tmp 27) rfl (some ⟨b, off, none⟩) 4 4 .i64 .i64 (s : Int) (s : Int) rfl rfl rfl t0 (Int.le_refl _) t5.out ?_)
    refine wp_region_held_drew (S := fun w' => Below w2.heap.size w2 w') (by kernel_rfl) ((Below.refl _ w2).drew) (fun hH => ?_)
    refine take_at 0 29 (v := ?_) rfl rfl (by kernel_rfl) (by kernel_rfl) (by kernel_rfl) (fun _ _ _ h => h) (Or.inl ⟨by rfl, ?_⟩) hH ?_
    rotate_left
    · (intro w9 hSw; (try dsimp only at hSw); go_simp) <;> with_reducible rfl
    try simp only [Act.put, List.setIfInBounds_toArray, List.set_cons_zero, List.set_cons_succ]
    refine take_at 1 30 (v := ?_) rfl rfl (by kernel_rfl) (by kernel_rfl) (by kernel_rfl) (fun _ _ _ h => h) (Or.inl ⟨by rfl, ?_⟩) hH ?_
    rotate_left
    · (intro w9 hSw; (try dsimp only at hSw); go_simp) <;> with_reducible rfl
    try simp only [Act.put, List.setIfInBounds_toArray, List.set_cons_zero, List.set_cons_succ]
    refine take_at 2 31 (v := ?_) rfl rfl (by kernel_rfl) (by kernel_rfl) (by kernel_rfl) (fun _ _ _ h => h) (Or.inl ⟨by rfl, ?_⟩) hH ?_
    rotate_left
    · (intro w9 hSw; (try dsimp only at hSw); go_simp) <;> with_reducible rfl
    try simp only [Act.put, List.setIfInBounds_toArray, List.set_cons_zero, List.set_cons_succ]
    refine take_at 6 35 (v := ?_) rfl rfl (by kernel_rfl) (by kernel_rfl) (by kernel_rfl) (fun _ _ _ h => h) (Or.inl ⟨by rfl, ?_⟩) hH ?_
    rotate_left
    · (intro w9 hSw; (try dsimp only at hSw); go_simp) <;> with_reducible rfl
    try simp only [Act.put, List.setIfInBounds_toArray, List.set_cons_zero, List.set_cons_succ]
    refine take_at 7 36 (v := ?_) rfl rfl (by kernel_rfl) (by kernel_rfl) (by kernel_rfl) (fun _ _ _ h => h) (Or.inl ⟨by rfl, ?_⟩) hH ?_
    rotate_left
    · (intro w9 hSw; (try dsimp only at hSw); go_simp) <;> with_reducible rfl
    try simp only [Act.put, List.setIfInBounds_toArray, List.set_cons_zero, List.set_cons_succ]
    refine take_at 8 37 (v := ?_) rfl rfl (by kernel_rfl) (by kernel_rfl) (by kernel_rfl) (fun _ _ _ h => h) (Or.inl ⟨by rfl, ?_⟩) hH ?_
    rotate_left
    · (intro w9 hSw; (try dsimp only at hSw); go_simp) <;> with_reducible rfl
    try simp only [Act.put, List.setIfInBounds_toArray, List.set_cons_zero, List.set_cons_succ]
    refine wpAnyH_ready (rs := [3]) (by kernel_rfl) (by simp) ?_
    refine AllReadyH.cons rfl (fun K hK => ?_) AllReadyH.nil
    go_simp
    refine (best_more (some ⟨b, off, none⟩) s s _ _ (HI.out.grow ((Below.refl _ w2).drew)) s4 s1 HLB.out).mono ?_
    rintro e w3 ⟨rfl, hb3⟩
    have D3 := ((Below.refl w2.heap.size w2).drew).trans hb3
    rw [HHI.out]
    clear hb3
    dsimp only
    refine hK.out _ _ (D3) (fun hH3 => ?_)
    clear hK K
    clear hH; have hH := hH3; clear hH3
    try simp only [Act.put, List.setIfInBounds_toArray, List.set_cons_zero, List.set_cons_succ]
    refine take_at 4 33 (v := ?_) rfl rfl (by kernel_rfl) (by kernel_rfl) (by kernel_rfl) (fun _ _ _ h => h) (Or.inl ⟨by rfl, ?_⟩) hH ?_
    rotate_left
    · (intro w9 hSw; (try dsimp only at hSw); go_simp) <;> with_reducible rfl
    try simp only [Act.put, List.setIfInBounds_toArray, List.set_cons_zero, List.set_cons_succ]
    refine take_at 5 34 (v := ?_) rfl rfl (by kernel_rfl) (by kernel_rfl) (by kernel_rfl) (fun _ _ _ h => h) (Or.inl ⟨by rfl, ?_⟩) hH ?_
    rotate_left
    · (intro w9 hSw; (try dsimp only at hSw); go_simp) <;> with_reducible rfl
    try simp only [Act.put, List.setIfInBounds_toArray, List.set_cons_zero, List.set_cons_succ]
    refine wpAnyH_ready (rs := [9]) (by kernel_rfl) (by simp) ?_
    refine AllReadyH.cons rfl (fun K hK => ?_) AllReadyH.nil
    go_simp
    refine (best_fewer (some ⟨b, off, none⟩) s s _ _ (HI.out.grow D3) s4 s1 HLB.out).mono ?_
    rintro e w4 ⟨rfl, hb4⟩
    have D4 := D3.trans (hb4.mono D3.size)
    rw [HLO.out]
    clear hb4
    dsimp only
    refine hK.out _ _ (D4) (fun hH9 => ?_)
    clear hK K
    clear hH; have hH := hH9; clear hH9
    try simp only [Act.put, List.setIfInBounds_toArray, List.set_cons_zero, List.set_cons_succ]
    refine take_at 10 39 (v := ?_) rfl rfl (by kernel_rfl) (by kernel_rfl) (by kernel_rfl) (fun _ _ _ h => h) (Or.inl ⟨by rfl, ?_⟩) hH ?_
    rotate_left
    · (intro w9 hSw; (try dsimp only at hSw); go_simp) <;> with_reducible rfl
    try simp only [Act.put, List.setIfInBounds_toArray, List.set_cons_zero, List.set_cons_succ]
    refine take_at 11 40 (v := ?_) rfl rfl (by kernel_rfl) (by kernel_rfl) (by kernel_rfl) (fun _ _ _ h => h) (Or.inl ⟨by rfl, ?_⟩) hH ?_
    rotate_left
    · (intro w9 hSw; (try dsimp only at hSw); go_simp) <;> with_reducible rfl
    try simp only [Act.put, List.setIfInBounds_toArray, List.set_cons_zero, List.set_cons_succ]
    refine take_at 12 10 (v := ?_) rfl rfl (by kernel_rfl) (by kernel_rfl) (by kernel_rfl) (fun _ _ _ h => h) (Or.inl ⟨by rfl, ?_⟩) hH ?_
    rotate_left
    · (intro w9 hSw; (try dsimp only at hSw); go_simp) <;> with_reducible rfl
    try simp only [Act.put, List.setIfInBounds_toArray, List.set_cons_zero, List.set_cons_succ]
    refine take_at 13 11 (v := ?_) rfl rfl (by kernel_rfl) (by kernel_rfl) (by kernel_rfl) (fun _ _ _ h => h) (Or.inl ⟨by rfl, ?_⟩) hH ?_
    rotate_left
    · (intro w9 hSw; (try dsimp only at hSw); go_simp) <;> with_reducible rfl
    try simp only [Act.put, List.setIfInBounds_toArray, List.set_cons_zero, List.set_cons_succ]
    refine wpAnyH_done (by kernel_rfl) ?_ _
    clear hH c1 c2
    have hxl : (L.drop s).length = 4 - s := by rw [List.length_drop, HLL.out]
    have HXL := hidd hxl
    have HX := hidd (show ∀ q ∈ L.drop s, q.1 < 10 from fun q hq => HLE.out q (List.mem_of_mem_drop hq))
    have hz4 : W.heap.size + 1 < w4.heap.size := by have := D4.size; omega
    have G4 := hidd (blk_below D4 G2.out hz2)
    have HSL4 := hidd (HSL.out.grow D4)
    have HI4 := hidd (HI.out.grow D4)
    have HB4 := hidd (HB2.out.trans (D4.mono (by omega)))
    clear hxl D3 D4
    go_wp2_with (with_reducible refine wpList_cut_l cT rfl (.tmp 41) (.tmp 42) rfl (some ⟨b, off, none⟩) 4 4 .i64 (s : Int) rfl rfl t0 t5.out ?_)
    go_loop [10, 13, 45] (fun h _ i => ∃ k : Nat, k ≤ 4 - s ∧ i = .int .i64 k ∧ (∀ j, j < k → ((L.drop s).getD j (0, 0)).1 = 0) ∧ h = cx ph) (fun _ _ i => (4 - s) - (intOf i).toNat)
    case atStart => exact ⟨0, Nat.zero_le _, rfl, fun j hj => absurd hj (Nat.not_lt_zero _), rfl⟩
    case round =>
      obtain ⟨k, hk, rfl, hzz, rfl⟩ := hrel
      by_cases hlt : k < 4 - s
      · have hcell := sl_suf HSL4.out s k (by omega)
        have hcc := cutS b off s (by omega)
        have hc10 : ((L.drop s).getD k (0, 0)).1 < 10 := getD_lt HX.out k (by decide)
        obtain ⟨⟨cq, lq⟩, hq⟩ : ∃ q, (L.drop s).getD k (0, 0) = q := ⟨_, rfl⟩
        rw [hq] at hcell hc10
        simp only [cx] at hcell
        have HQ := hidd hq
        have HZZ := hidd hzz
        have i1 : (k : Int) < ((4 - s : Nat) : Int) := by omega
        clear hq hzz
        by_cases hpos : 0 < cq
        · have ho := ord_pos cq hpos hc10
          have hp : p = (cq, lq) := by
            have h1 := find_at (L.drop s) k (by rw [HXL.out]; exact hlt) HZZ.out (by rw [HQ.out]; exact hpos)
            have h2 : (L.drop s).find? (fun p => decide (0 < p.1)) = some p := HF.out
            rw [h1, HQ.out] at h2
            injection h2 with h2
            exact h2.symm
          clear hc10 hpos
          subst hp
          go_wp2
          go_step3
          exact ⟨rfl, _, HI4.out, G4.out, HB4.out, hz4, _, _, _, _, _, _, _, _, _, _, _, _, _, _, _, _, _, _, _, _, _, _, _, _, _, _, _, _, _, _, _, _, _, _, _, _, _, _, _, _, _, _, _, _, _, _, _, _, _, _, _, _, _, _, _, _, _, _, _, _, _, _, _, _, rfl⟩
        · have ho := ord_zero cq (by omega)
          have h0 : cq = 0 := by omega
          have H0 := hidd h0
          clear hpos hc10 h0
          go_wp2
          go_round
          case rel =>
            refine ⟨k + 1, by omega, by go_num, fun j hj => ?_, rfl⟩
            rcases Nat.lt_or_ge j k with h | h
            · exact HZZ.out j h
            · obtain rfl : j = k := by omega
              rw [HQ.out]
              exact H0.out
          case measure => simp [intOf]; omega
      · obtain rfl : k = 4 - s := by omega
        have HN := hidd (find_none (L.drop s) (fun j hj => hzz j (by rw [HXL.out] at hj; exact hj)))
        clear hzz
        have h2 : (L.drop s).find? (fun p => decide (0 < p.1)) = some p := HF.out
        rw [HN.out] at h2
        cases h2
  · rintro a' w' ⟨av, hsl, hg, hbel, hsz, u0, u1, u2, u3, u5, u6, u7, u11, u12, u13, u14, u15, u16, u17, u18, u19, u20, u21, u22, u23, u24, u25, u26, u27, u28, u29, u30, u31, u32, u33, u34, u35, u36, u37, u38, u39, u40, u41, u42, u43, u44, u45, u46, u47, u48, u49, u50, u51, u52, u53, u54, u55, u56, u57, u58, u59, u60, u61, u62, u63, u64, u65, u66, u67, rfl⟩
    have HSL := hidd hsl
    have HG := hidd hg
    have HBE := hidd hbel
    have hl8 : L.length = 4 := HLL.out
    obtain ⟨pc, pl⟩ := p
    have hpl : pl < 8 := by
      have h2 : (L.drop s).find? (fun p => decide (0 < p.1)) = some (pc, pl) := HF.out
      have hm := List.mem_of_mem_drop (List.mem_of_find?_eq_some h2)
      have hpc := List.find?_some h2
      rw [HEQ.out] at hm
      exact ldN_at z 8 _ hm (by simpa using hpc)
    have hcv : ∀ w, (convert 64 3 (.float .f64 (fb pl))).run Try.prog w = .ok (.int .i64 (pl : Int)) w := fun w => run_f_int 64 3 pl w Try.underlying64 Try.underlying3 (by omega)
    have m4 : (ml : Int) < 4 := by omega
    clear hsl hg hbel hl8
    go_wp2_with (go_at_call 31; refine (best_fewer av s s _ _ HSL.out s4 s1 HLB.out).mono ?_; rintro e w5 ⟨rfl, hb5⟩; have G5 := blk_below hb5 HG.out hsz; have HG5 := hidd G5; obtain ⟨k5, f5⟩ := blk G5; have HB5 := hidd hb5; clear hb5 G5; rw [HLO.out])
    simp only [Exit.jump]
    refine bodyPost_ret (results_cell_one Try.results13 _ _ (W.heap.size + 1) 26 #[.int .i64 (pl : Int), .int .i64 (1 + (ml : Int))] (0, 0) _ rfl (hs_same (hs_same HG5.out)) Try.underlying26 rfl (by kernel_rfl)) rfl ⟨rfl, ?_⟩
    exact (HBE.out.trans (HB5.out.mono (by omega)) |>.setCell (by simp) _).setCell (by simp) _
end Go.Proofs.Ytflmeannmfhhhaa
