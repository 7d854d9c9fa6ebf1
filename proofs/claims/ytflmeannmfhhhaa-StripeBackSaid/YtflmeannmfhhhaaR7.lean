import Derived.Test.YtflmeannmfhhhaaR6
namespace Go.Proofs.Ytflmeannmfhhhaa
open Go.RowKit
attribute [local go_sem] run_store_complex
theorem Sl_of_heap {w : World} {g n : Nat} {xs : List Value} {t : TypeId} (hg : w.heap[g]? = some (.cells xs.toArray t (0, 0))) (hl : xs.length = n) (hn : n ≤ 9223372036854775807) : Sl w (some ⟨g, 0, Option.none⟩) n n 1 xs := by
  refine ⟨by omega, Nat.le_refl _, hn, fun e => by simp at e, fun i _ => ⟨g, 0, rfl, ?_⟩⟩
  rw [Nat.zero_add, (blk hg).1, List.getElem?_toArray]
def ldN (z : List Int) : Nat → List (Nat × Nat)
  | 0 => [(0, 0), (0, 0), (0, 0), (0, 0)]
  | k + 1 => (ldN z k).set (z.getD k 1 - 1).toNat (((ldN z k).getD (z.getD k 1 - 1).toNat (0, 0)).1 + 1, k)
theorem ldN_len (z : List Int) : ∀ k, (ldN z k).length = 4
  | 0 => rfl
  | k + 1 => by simp [ldN, ldN_len z k]
theorem ldN_le (z : List Int) : ∀ k, ∀ p ∈ ldN z k, p.1 ≤ k
  | 0, p, hp => by simp [ldN] at hp; simp [hp]
  | k + 1, p, hp => by
    have ih := ldN_le z k
    simp only [ldN] at hp
    rcases List.mem_or_eq_of_mem_set hp with h | h
    · have := ih p h; omega
    · subst h
      show ((ldN z k).getD (z.getD k 1 - 1).toNat (0, 0)).1 + 1 ≤ k + 1
      have : ((ldN z k).getD (z.getD k 1 - 1).toNat (0, 0)).1 < k + 1 := getD_lt (fun p hp => by have := ih p hp; omega) _ (by omega)
      omega
theorem ldN_sl (z : List Int) : ∀ k, ∀ p ∈ ldN z k, p.2 ≤ k - 1
  | 0, p, hp => by simp [ldN] at hp; simp [hp]
  | k + 1, p, hp => by
    have ih := ldN_sl z k
    simp only [ldN] at hp
    rcases List.mem_or_eq_of_mem_set hp with h | h
    · have := ih p h; omega
    · subst h
      show k ≤ k + 1 - 1
      omega
theorem ldN_at (z : List Int) (k : Nat) (p : Nat × Nat) (hp : p ∈ ldN z 8) (_h : 0 < p.1) : p.2 < 8 := by
  have := ldN_sl z 8 p hp
  omega
theorem ldN_snd (z : List Int) (s m : Nat) : (((ldN z 8).take s).getD m (0, 0)).2 < 8 := by
  rw [List.getD_eq_getElem?_getD]
  rcases Nat.lt_or_ge m ((ldN z 8).take s).length with hk | hk
  · rw [List.getElem?_eq_getElem hk]
    have := ldN_sl z 8 _ (List.mem_of_mem_take (List.getElem_mem hk))
    simp only [Option.getD_some]
    omega
  · rw [List.getElem?_eq_none hk]
    decide
theorem bestK_min (L : List (Nat × Nat)) : ∀ (k m : Nat), m < k → (L.getD (bestK (fun x y => decide (x < y)) L k) (0, 0)).1 ≤ (L.getD m (0, 0)).1
  | 0, m, h => by omega
  | k + 1, m, h => by
    simp only [bestK]
    have ih := bestK_min L k
    split
    · rename_i hd
      have hd' := of_decide_eq_true hd
      rcases Nat.lt_or_ge m k with hm | hm
      · have := ih m hm; omega
      · obtain rfl : m = k := by omega
        exact Nat.le_refl _
    · rename_i hd
      have hd' : ¬ _ := fun h => hd (decide_eq_true h)
      rcases Nat.lt_or_ge m k with hm | hm
      · exact ih m hm
      · obtain rfl : m = k := by omega
        omega
theorem bestK_max (L : List (Nat × Nat)) : ∀ (k m : Nat), m < k → (L.getD m (0, 0)).1 ≤ (L.getD (bestK (fun x y => decide (y < x)) L k) (0, 0)).1
  | 0, m, h => by omega
  | k + 1, m, h => by
    simp only [bestK]
    have ih := bestK_max L k
    split
    · rename_i hd
      have hd' := of_decide_eq_true hd
      rcases Nat.lt_or_ge m k with hm | hm
      · have := ih m hm; omega
      · obtain rfl : m = k := by omega
        exact Nat.le_refl _
    · rename_i hd
      have hd' : ¬ _ := fun h => hd (decide_eq_true h)
      rcases Nat.lt_or_ge m k with hm | hm
      · exact ih m hm
      · obtain rfl : m = k := by omega
        omega
theorem cT : ElT Try.prog 68 61 (.complex .f64 0 0) 1 16 := ⟨Try.underlying68, by kernel_rfl, rfl, by decide⟩
theorem sz69 (z : List Int) (hz : z.length = 8) : (Try.prog.info? 69).map (·.size) = some (is .i64 z).toArray.size := by
  rw [List.size_toArray, is_len, hz]
  kernel_rfl
theorem at8t (z : List Int) (hz : z.length = 8) (k : Nat) (hk : k < 8) : ∃ x, z[k]? = some x ∧ ∀ w, (Instr.index 69 (.agg (is .i64 z).toArray) (.int .i64 (k : Int))).run Try.prog w = .ok (.int .i64 x) w := by
  refine ⟨z.getD k 0, by simp [hz, hk], fun w => run_idx .i64 Try.underlying69 Try.underlying3 (by kernel_rfl) z hz k hk w⟩
theorem made4 (z : List Int) : madeCells #[.complex .f64 0 0] 4 = ((ldN z 0).map cx).toArray := by
  have : cx (0, 0) = .complex .f64 0 0 := by unfold cx; rw [fb_zero]
  simp only [ldN, List.map_cons, List.map_nil, this]
  apply Array.toList_inj.1
  rw [toList_madeCells_one]
  rfl
set_option maxHeartbeats 2000000 in
theorem loads_any (z : List Int) (hz : z.length = 8) (W : World) (ha : z.all shardB = true) :
    Calls Try.prog 28 #[.agg (is .i64 z).toArray] W fun e w' => ∃ a c, e = .returned (.slice a 4 c) ∧ Sl w' a 4 c 1 ((ldN z 8).map cx) ∧ c = 4 ∧ Below W.heap.size W w' := by
  have HZ := hidd hz
  have HA := hidd ha
  clear hz ha
  go_enter Try.func28, Try.ntmps28
  go_wp2_with (first | (with_reducible refine wpList_make cT rfl (.const (.int .i64 4)) (.const (.int .i64 4)) rfl .i64 .i64 _ _ 4 4 rfl rfl rfl rfl (by omega) (by omega) (by omega) ?_) | (with_reducible refine wpList_load_row rfl 69 (.tmp 1) rfl W.heap.size rfl 69 (is .i64 z).toArray (0, 0) _ (h2 W _ _).1 Try.underlying69 rfl (sz69 z HZ.out) ?_))
  go_loopw [8] (fun i wr => ∃ k : Nat, k ≤ 8 ∧ i = .int .i64 k ∧ wr.heap[W.heap.size + 1]? = some (.cells ((ldN z k).map cx).toArray 61 (0, 0)) ∧ Below W.heap.size W wr) (fun i _ => (8 - intOf i).toNat)
  case atStart => exact ⟨0, by omega, rfl, by rw [← made4]; exact (h2 W _ _).2, ((Below.refl _ W).alloc (Nat.le_refl _) _).alloc (by simp) _⟩
  case round =>
    obtain ⟨k, hk, rfl, hg, hbel⟩ := hrel
    by_cases hlt : k < 8
    · obtain ⟨x, hx, hi⟩ := at8t z HZ.out k hlt
      have hx2 := shard_nat z k x hx HA.out
      obtain ⟨j, rfl, hj⟩ : ∃ j : Nat, x = (j : Int) + 1 ∧ j < 4 := by
        simp only [shardB, Bool.and_eq_true, decide_eq_true_eq] at hx2
        exact ⟨(x - 1).toNat, by omega, by omega⟩
      have i1 : (k : Int) < 8 := by omega
      have i2 : IntKind.i64.wrap ((j : Int) + 1 - 1) = (j : Int) := by rw [show (j : Int) + 1 - 1 = j by omega]; exact IntWalk.i64_in _ (by omega)
      have j0 : (0 : Int) ≤ (j : Int) := by omega
      have j1 : (j : Int) < 4 := by omega
      obtain ⟨⟨c, l⟩, hp⟩ : ∃ p, (ldN z k).getD j (0, 0) = p := ⟨_, rfl⟩
      have hc : c < 40 := by
        have := getD_lt (L := ldN z k) (B := k + 1) (fun p hp => by have := ldN_le z k p hp; omega) j (by omega)
        rw [hp] at this
        simp only at this
        omega
      have hlen := ldN_len z k
      obtain ⟨kk, f0⟩ := blk hg
      have k0 : wr.cell? ⟨W.heap.size + 1, j, none⟩ = some (.complex .f64 (fb c) (fb l)) := by
        rw [kk, List.getElem?_toArray, List.getElem?_map, List.getElem?_eq_getElem (by omega)]
        rw [List.getD_eq_getElem?_getD, List.getElem?_eq_getElem (by omega)] at hp
        simp only [Option.getD_some] at hp
        rw [hp]
        rfl
      have hadd : ∀ w, (binOp .add 64 (.float .f64 (fb c)) (.float .f64 4607182418800017408)).run Try.prog w = .ok (.float .f64 (fb (c + 1))) w := fun w => run_f_add1 64 c w hc
      have G := hidd (And.intro hg hbel)
      have HX := hidd hx
      have HP := hidd hp
      clear kk hg hbel hx hp hlen hx2
      go_wp2
      obtain ⟨hg, hbel⟩ := G.out
      refine ⟨⟨k + 1, by omega, by go_num, ?_, hbel.setCell (by simp) _⟩, by simp [intOf]; omega⟩
      rw [hs_same hg, List.setIfInBounds_toArray]
      have e1 : z.getD k 1 - 1 = (j : Int) := by rw [List.getD_eq_getElem?_getD, HX.out]; simp
      have e2 : ldN z (k + 1) = (ldN z k).set j (c + 1, k) := by simp only [ldN, e1, Int.toNat_natCast, HP.out]
      rw [e2, List.map_set]
      rfl
    · obtain rfl : k = 8 := by omega
      go_wp2
      go_ret
      refine ⟨_, _, rfl, Sl_of_heap hg (by rw [List.length_map, ldN_len]) (by decide), rfl, hbel⟩
end Go.Proofs.Ytflmeannmfhhhaa
