import Derived.Test.YtheodlbbalbliaaV6
namespace Go.Proofs.Ytheodlbbalbliaa
open Go.RowKit
theorem d22_l (w : World) (a : Option Addr) (len cap : Nat) (kl : IntKind) (l : Int) (h0 : 0 ≤ l) (h1 : l ≤ len) :
    (Instr.sliceAt 22 (.slice a len cap) (some (.int kl l)) none none).run Try.prog w = .ok (.slice (cutAt a l.toNat cap 1) (len - l.toNat) (cap - l.toNat)) w := run_cut_l bT w a len cap kl l h0 h1
attribute [local go_sem high] d22_l
theorem madeB (m : Nat) (l : List UInt8) : madeCells zero8 (m * 8) = (bs (fillB (m * 8) l 0)).toArray := by
  apply Array.ext
  · simp [size_madeCells, bs_length, fillB]
  · intro i h1 h2
    simp only [madeCells, Array.getElem_map, Array.getElem_range, fillB, bs, List.getElem_toArray, List.getElem_map, List.take_zero, List.nil_append, List.getElem_replicate]
    have : ∀ j, j < 8 → zero8[j]! = .int .u8 0 := by
      intro j hj
      match j, hj with
      | 0, _ => rfl
      | 1, _ => rfl
      | 2, _ => rfl
      | 3, _ => rfl
      | 4, _ => rfl
      | 5, _ => rfl
      | 6, _ => rfl
      | 7, _ => rfl
    exact this (i % 8) (Nat.mod_lt _ (by decide))
theorem fillB_cut (m q : Nat) (l : List UInt8) (hl : l.length = m) (h : q + 8 ≤ m) : (bs (fillB m l q)).take q ++ bs ((l.drop q).take 8) ++ (bs (fillB m l q)).drop (q + 8) = bs (fillB m l (q + 8)) := by
  have e0 : (bs (fillB m l q)).take q = bs (l.take q) := by
    unfold fillB
    rw [bs_append, List.take_append_of_le_length (by rw [bs_length]; simp; omega), List.take_of_length_le (by rw [bs_length]; simp; omega)]
  have e1 : (bs (fillB m l q)).drop (q + 8) = bs (List.replicate (m - (q + 8)) 0) := by
    unfold fillB bs
    rw [← List.map_drop, List.drop_append, List.drop_of_length_le (by simp; omega), List.nil_append, List.drop_replicate]
    congr 2
    simp
    omega
  rw [e0, e1]
  unfold fillB
  rw [List.take_add, bs_append, bs_append]
set_option maxHeartbeats 2000000 in
theorem read_yes (a : Option Addr) (n c m : Nat) (l : List UInt8) (W : World) (hb : Bs W a n c l) (hn : n = m * 8) (hm : n ≤ 8000) :
    Calls Try.prog 27 #[.slice a n c] W fun e w' => ∃ a' c', e = .returned (.tuple #[.slice a' m c', .int .i64 0]) ∧ w'.ownsRow W.heap.size 47 8 (.slice a' m c') m (bs l) ∧ Below W.heap.size W w' := by
  have e1 : (n : Int) / 8 = (m : Int) := by omega
  have e2 : ((m : Int) * 8) = (n : Int) := by omega
  have hm2 : m ≤ 1000 := by omega
  have HB := hidd hb
  have hcap := Sl.le hb
  have HL := hidd hb.len
  have HN := hidd hn
  clear hb hn
  go_enter Try.func27, Try.ntmps27
  go_wp2_with (with_reducible refine wpList_make vT rfl (.tmp 15) (.tmp 15) rfl .i64 .i64 _ _ m m rfl rfl rfl rfl (by omega) (by omega) (by omega) ?_)
  rw [madeB m l, ← HN.out]
  go_loopw [6, 18] (fun _ i wr => ∃ k q : Nat, q = k * 8 ∧ k ≤ m ∧ i = .int .i64 (k : Int) ∧ wr.heap[W.heap.size]? = some (.cells (bs (fillB n l q)).toArray 47 (0, 0)) ∧ Below W.heap.size W wr) (fun _ i _ => m - (intOf i).toNat)
  case atStart => exact ⟨0, 0, rfl, by omega, rfl, heap_alloc_last _ _, (Below.refl _ _).alloc (Nat.le_refl _) _⟩
  case round =>
    obtain ⟨k, q, hq, hk, rfl, hg, hbel⟩ := hrel
    obtain ⟨wo, rfl⟩ : ∃ wo, wo = wr := ⟨_, rfl⟩
    have hnn := HN.out
    by_cases hlt : k < m
    · have HW := hidd hbel
      have i0 : (0 : Int) ≤ (k : Int) := by omega
      have i1 : (k : Int) < (m : Int) := by omega
      have i2 : (k : Int) * 8 ≤ (n : Int) := by omega
      have i3 : IntKind.i64.wrap ((k : Int) * 8) = (k : Int) * 8 := IntWalk.i64_in _ (by omega)
      have i4 : (0 : Int) ≤ (k : Int) * 8 := by omega
      have i5 : ((k : Int) * 8).toNat = q := by omega
      obtain ⟨b, off, rfl, _⟩ := HB.out.at q (by omega)
      have hcp : ∀ ty, (Builtin.copy_ #[22, 22] ty #[.slice (some ⟨W.heap.size, k * 8, none⟩) 8 8, .slice (cutAt (some ⟨b, off, none⟩) q c 1) (n - q) (c - q)]).run Try.prog wo.drew = .ok (goInt 8) (wo.drew.setRow W.heap.size (bs (fillB n l (q + 8))).toArray) := by
        rw [← hq]
        have hch : (bs ((l.drop q).take 8)).length = 8 := by rw [bs_length, List.length_take, List.length_drop, HL.out]; omega
        have hcur : (bs (fillB n l q)).toArray.size = n := by rw [List.size_toArray, bs_length, fillB_len n l q HL.out (by omega)]
        intro ty
        have hr := run_copy_row (P := Try.prog) wo.drew 22 22 ty 5 W.heap.size q 8 8 ⟨b, off + q, none⟩ (n - q) (c - q) (bs (fillB n l q)).toArray 47 (bs ((l.drop q).take 8)) Try.underlying22 (by kernel_rfl) (hs_drew hg) (by rw [hch]; simp [Nat.min_def]; omega) ?_ (by rw [hch, hcur]; omega) (bs_one _)
        · rw [hch] at hr
          simp only [List.toList_toArray] at hr
          rw [fillB_cut n q l HL.out (by omega)] at hr
          have hcut : cutAt (some ⟨b, off, none⟩) q c 1 = some ⟨b, off + q, none⟩ := by
            unfold cutAt
            rw [if_neg (by omega), Option.map_some, Nat.mul_one, Addr_add]
          rw [hcut]
          exact hr
        · intro j v hj
          have hj8 : j < 8 := by have := (List.getElem?_eq_some_iff.1 hj).1; omega
          obtain ⟨b', off', e, hc⟩ := (HB.out.grow hbel).cells (q + j) (by rw [bs_length, HL.out]; omega)
          injection e with e
          injection e with e1' e2'
          subst e1' e2'
          rw [Addr_add, Nat.add_assoc]
          show wo.cell? _ = _
          rw [hc, ← hj]
          unfold bs
          rw [List.getElem?_map, List.getElem?_map, List.getElem?_take, if_pos hj8, List.getElem?_drop]
      have hafter : Below W.heap.size W (wo.drew.setRow W.heap.size (bs (fillB n l (q + 8))).toArray) := below_setRow hbel.drew (Nat.le_refl _) _
      have HQ := hidd (And.intro hq (And.intro hg (And.intro hafter hnn)))
      clear hq hg hbel hnn
      go_wp2_with fail
      refine wp_region_held_drew (S := fun w' => Below W.heap.size W w') (by kernel_rfl) (HW.out.drew) (fun hH => ?_)
      refine take_at 0 21 (v := ?_) rfl rfl (by kernel_rfl) (by kernel_rfl) (by kernel_rfl) (fun _ _ _ h => h) (Or.inl ⟨by rfl, ?_⟩) hH ?_
      rotate_left
      · (intro w9 hSw; (try dsimp only at hSw); go_simp) <;> with_reducible rfl
      try simp only [Act.put, List.setIfInBounds_toArray, List.set_cons_zero, List.set_cons_succ]
      refine take_at 1 22 (v := ?_) rfl rfl (by kernel_rfl) (by kernel_rfl) (by kernel_rfl) (fun _ _ _ h => h) (Or.inl ⟨by rfl, ?_⟩) hH ?_
      rotate_left
      · (intro w9 hSw; (try dsimp only at hSw); go_simp) <;> with_reducible rfl
      try simp only [Act.put, List.setIfInBounds_toArray, List.set_cons_zero, List.set_cons_succ]
      refine take_at 2 23 (v := ?_) rfl rfl (by kernel_rfl) (by kernel_rfl) (by kernel_rfl) (fun _ _ _ h => h) (Or.inl ⟨by rfl, ?_⟩) hH ?_
      rotate_left
      · (intro w9 hSw; (try dsimp only at hSw); go_simp) <;> with_reducible rfl
      try simp only [Act.put, List.setIfInBounds_toArray, List.set_cons_zero, List.set_cons_succ]
      refine take_at 3 24 (v := ?_) rfl rfl (by kernel_rfl) (by kernel_rfl) (by kernel_rfl) (fun _ _ _ h => h) (Or.inl ⟨by rfl, ?_⟩) hH ?_
      rotate_left
      · (intro w9 hSw; (try dsimp only at hSw); go_simp) <;> with_reducible rfl
      try simp only [Act.put, List.setIfInBounds_toArray, List.set_cons_zero, List.set_cons_succ]
      refine take_at 4 25 (v := ?_) rfl rfl (by kernel_rfl) (by kernel_rfl) (by kernel_rfl) (fun _ _ _ h => h) (Or.inl ⟨by rfl, ?_⟩) hH ?_
      rotate_left
      · (intro w9 hSw; (try dsimp only at hSw); go_simp) <;> with_reducible rfl
      try simp only [Act.put, List.setIfInBounds_toArray, List.set_cons_zero, List.set_cons_succ]
      refine take_at 5 26 (v := ?_) rfl rfl (by kernel_rfl) (by kernel_rfl) (by kernel_rfl) (fun _ _ _ h => h) (Or.inl ⟨by rfl, ?_⟩) hH ?_
      rotate_left
      · (intro w9 hSw; (try dsimp only at hSw); go_simp) <;> with_reducible rfl
      try simp only [Act.put, List.setIfInBounds_toArray, List.set_cons_zero, List.set_cons_succ]
      refine take_at 6 27 (v := ?_) rfl rfl (by kernel_rfl) (by kernel_rfl) (by kernel_rfl) (fun _ _ _ h => h) (Or.inl ⟨by rfl, ?_⟩) hH ?_
      rotate_left
      · (intro w9 hSw; (try dsimp only at hSw); go_simp) <;> with_reducible rfl
      try simp only [Act.put, List.setIfInBounds_toArray, List.set_cons_zero, List.set_cons_succ]
      refine take_at 7 28 (v := ?_) rfl rfl (by kernel_rfl) (by kernel_rfl) (by kernel_rfl) (fun _ _ _ h => h) (Or.inl ⟨by rfl, ?_⟩) hH ?_
      rotate_left
      · (intro w9 hSw; (try dsimp only at hSw); go_simp) <;> with_reducible rfl
      try simp only [Act.put, List.setIfInBounds_toArray, List.set_cons_zero, List.set_cons_succ]
      refine wpAnyH_ready (rs := [8]) (by kernel_rfl) (by simp) ?_
      refine AllReadyH.cons rfl (fun K hK => ?_) AllReadyH.nil
      go_simp
      refine hK.out _ _ (hafter) (fun hH8 => ?_)
      clear hK K
      clear hH; have hH := hH8; clear hH8
      try simp only [Act.put, List.setIfInBounds_toArray, List.set_cons_zero, List.set_cons_succ]
      refine wpAnyH_done (by kernel_rfl) ?_ _

      clear hcp
      go_wp2
      obtain ⟨hq, hg, _, hnn⟩ := HQ.out
      refine ⟨⟨k + 1, q + 8, by omega, by omega, by go_num, setRow_heap _ _ _ _ _ _ (hs_drew hg), hafter⟩, by simp [intOf]; omega⟩
    · have hk2 : k = m := by omega
      have hqn : q = n := by omega
      subst hk2 hqn
      have HK := hidd hq
      clear hq hnn
      rw [fillB_all _ l HL.out] at hg
      go_wp2
      go_ret2
      refine ⟨_, _, rfl, ?_, hbel⟩
      refine ⟨by rw [bs_length, HL.out]; exact HK.out, .inr ⟨W.heap.size, k, _, rfl, Nat.le_refl _, hg, Nat.le_refl _, by unfold maxLen; omega, ?_, ?_⟩⟩
      · rw [List.size_toArray, bs_length, HL.out]; exact HK.out
      · rw [List.toList_toArray, List.take_of_length_le (by rw [bs_length, HL.out]; exact Nat.le_of_eq HK.out)]
end Go.Proofs.Ytheodlbbalbliaa
