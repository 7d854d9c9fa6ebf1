import Derived.Test.YtflmeannmfhhhaaS8
namespace Go.Proofs.Ytflmeannmfhhhaa
open Go.RowKit
theorem plE_ok {V : Int} {z : List Int} (hc : chE V z = 0) (b : Nat) (hb : b < 32) : plE V z b = if (plc z b).1 = 0 then (0, 0, 4) else (((plc z b).1 : Int), ((plc z b).2 : Int), 0) := by
  unfold plE
  rw [if_neg (by simpa using hc), if_neg (by omega), Int.toNat_natCast]
theorem allE_set {z : List Int} {t : Int} (h : z.all entB = true) (ht : entB t = true) (n : Nat) : (z.set n t).all entB = true := by
  rw [List.all_eq_true] at h ⊢
  intro x hx
  rcases List.mem_or_eq_of_mem_set hx with h1 | h1
  · exact h x h1
  · rw [h1]; exact ht
theorem chE_of {V : Int} {z : List Int} (h0 : 0 ≤ V) (h1 : V ≤ 1099511627776) (h : z.all entB = true) : chE V z = 0 := by
  unfold chE chB
  rw [h, decide_eq_true h0, decide_eq_true h1]
  rfl
/-- what a change that may be comes to -/
theorem chR_zero {V : Int} {z : List Int} {i t : Int} (h : chR V z i t = 0) : chE V z = 0 ∧ (∃ n : Nat, i = n ∧ n < 8) ∧ 1 ≤ t ∧ t ≤ 4 ∧ V < 1099511627776 := by
  unfold chR at h
  by_cases h1 : chE V z ≠ 0 ∨ i < 0 ∨ 8 ≤ i ∨ t < 1 ∨ 4 < t
  · rw [if_pos h1] at h; cases h
  · rw [if_neg h1] at h
    have h2 : chE V z = 0 ∧ 0 ≤ i ∧ i < 8 ∧ 1 ≤ t ∧ t ≤ 4 := by omega
    by_cases h3 : V = 1099511627776
    · rw [if_pos h3] at h; cases h
    · have := chE_V h2.1
      exact ⟨h2.1, ⟨i.toNat, by omega, by omega⟩, h2.2.2.2.1, h2.2.2.2.2, by omega⟩
theorem ch_new {V : Int} {z : List Int} {n : Nat} {t : Int} (hc : chE V z = 0) (h1 : 1 ≤ t) (h4 : t ≤ 4) (hV : V < 1099511627776) : chE (V + 1) (z.set n t) = 0 := by
  have := chE_V hc
  refine chE_of (by omega) (by omega) (allE_set this.2.2 (by unfold entB; rw [decide_eq_true (show 0 ≤ t by omega), decide_eq_true h4]; rfl) n)
theorem count_set_ne {x a : Int} : ∀ (l : List Int) (n : Nat), (∀ y, l[n]? = some y → y ≠ x) → a ≠ x → (l.set n a).count x = l.count x := by
  intro l
  induction l with
  | nil => intro n _ _; rfl
  | cons y l ih =>
    intro n hn ha
    cases n with
    | zero =>
      have := hn y rfl
      show (a :: l).count x = _
      rw [List.count_cons_of_ne (by simpa using ha), List.count_cons_of_ne (by simpa using this)]
    | succ n =>
      show (y :: l.set n a).count x = _
      rw [List.count_cons, List.count_cons, ih n (fun y hy => hn y hy) ha]
/-- the four ways of a block -/
theorem own_ways {V : Int} {z : List Int} {n : Nat} {t : Int} (hz : z.length = 8) (hn : n < 8) (hc : chE V z = 0) (h1 : 1 ≤ t) (h4 : t ≤ 4) (hV : V < 1099511627776) (b : Nat) (hb : b < 32) :
    (b / 4 = n ∧ ∃ k, plE (V + 1) (z.set n t) b = (t, k, 0)) ∨
    (b / 4 ≠ n ∧ ∃ k k' e, plE V z b = (t, k, e) ∧ plE (V + 1) (z.set n t) b = (t, k', e)) ∨
    (b / 4 ≠ n ∧ ∃ k k' e, z.getD n 0 ≠ t ∧ plE V z b = (z.getD n 0, k, e) ∧ plE (V + 1) (z.set n t) b = (z.getD n 0, k', e)) ∨
    (b / 4 ≠ n ∧ ∃ s k e, s ≠ t ∧ s ≠ z.getD n 0 ∧ plE V z b = (s, k, e) ∧ plE (V + 1) (z.set n t) b = (s, k, e)) := by
  rw [plE_ok hc b hb, plE_ok (ch_new hc h1 h4 hV) b hb]
  have hr := ent_range (chE_V hc).2.2
  have hlt : b / 4 < z.length := by omega
  have hg : z.getD (b / 4) 0 = z[b / 4] := by simp [hlt]
  have h0 := hr _ (List.getElem_mem hlt)
  by_cases hbn : b / 4 = n
  · refine .inl ⟨hbn, ?_⟩
    have e1 : ((plc (z.set n t) b).1 : Int) = t := by
      unfold plc
      show (((z.set n t).getD (b / 4) 0).toNat : Int) = t
      rw [hbn, List.getD_eq_getElem?_getD, List.getElem?_set_self (by omega)]
      show (t.toNat : Int) = t
      omega
    rw [if_neg (by omega), e1]
    exact ⟨_, rfl⟩
  · refine .inr ?_
    have e1 : (z.set n t).getD (b / 4) 0 = z[b / 4] := by
      rw [List.getD_eq_getElem?_getD, List.getElem?_set_ne (fun h => hbn h.symm), ← List.getD_eq_getElem?_getD, hg]
    have p1 : (plc (z.set n t) b).1 = z[b / 4].toNat := by unfold plc; rw [e1]
    have p2 : (plc z b).1 = z[b / 4].toNat := by unfold plc; rw [hg]
    rw [p1, p2]
    by_cases hs0 : z[b / 4].toNat = 0
    · rw [if_pos hs0, if_pos hs0]
      by_cases hzn : z.getD n 0 = 0
      · exact .inr (.inl ⟨hbn, 0, 0, 4, by omega, by rw [hzn], by rw [hzn]⟩)
      · exact .inr (.inr ⟨hbn, 0, 0, 4, by omega, fun h => hzn h.symm, rfl, rfl⟩)
    · rw [if_neg hs0, if_neg hs0]
      have es : ((z[b / 4].toNat : Nat) : Int) = z[b / 4] := by omega
      rw [es]
      by_cases ht : z[b / 4] = t
      · exact .inl ⟨hbn, _, _, 0, by rw [ht], by rw [ht]⟩
      · by_cases hzn : z[b / 4] = z.getD n 0
        · exact .inr (.inl ⟨hbn, _, _, 0, by rw [← hzn]; exact ht, by rw [hzn], by rw [hzn]⟩)
        · refine .inr (.inr ⟨hbn, _, _, 0, ht, hzn, rfl, ?_⟩)
          have : (plc (z.set n t) b).2 = (plc z b).2 := by
            unfold plc
            show 4 * ((z.set n t).take (b / 4)).count ((z.set n t).getD (b / 4) 0) + _ = 4 * (z.take (b / 4)).count (z.getD (b / 4) 0) + _
            rw [e1, hg, List.take_set, count_set_ne]
            · intro y hy
              intro h
              apply hzn
              rw [List.getElem?_take] at hy
              split at hy
              · rw [List.getD_eq_getElem?_getD, hy, ← h]; rfl
              · cases hy
            · exact fun h => ht h.symm
          rw [this]
theorem al2 (W : World) (A B : Obj) : ((W.alloc A).alloc B).heap[W.heap.size]? = some A ∧ ((W.alloc A).alloc B).heap[W.heap.size + 1]? = some B := by
  have hs : (W.alloc A).heap.size = W.heap.size + 1 := by simp
  refine ⟨?_, ?_⟩
  · rw [heap_alloc_old _ _ (by simp)]
    exact heap_alloc_new W _
  · rw [← hs]
    exact heap_alloc_new _ _
theorem after2 {W w1 : World} {A B : Obj} (hb : Below ((W.alloc A).alloc B).heap.size ((W.alloc A).alloc B) w1) :
    w1.heap[W.heap.size]? = some A ∧ w1.heap[W.heap.size + 1]? = some B ∧ Below W.heap.size W w1 ∧ W.heap.size + 2 ≤ w1.heap.size := by
  have h := al2 W A B
  have hs := hb.size
  refine ⟨blk_below hb h.1 (by simp; omega), blk_below hb h.2 (by simp), (((Below.refl _ W).alloc (Nat.le_refl _) _).alloc (by simp) _).trans (hb.mono (by simp; omega)), by simp at hs; omega⟩
theorem chM_len (V : Int) (z : List Int) (i t : Int) (hz : z.length = 8) : (chM V z i t).length = 9 := by
  unfold chM mpL
  split
  · rw [List.length_cons, List.length_set, hz]
  · rfl
theorem chM_sz (V : Int) (z : List Int) (i t : Int) (hz : z.length = 8) : (Try.prog.info? 24).map (·.size) = some (is .i64 (chM V z i t)).toArray.size ∧ mp0.size = (is .i64 (chM V z i t)).toArray.size := by
  have h : (is .i64 (chM V z i t)).toArray.size = 9 := by rw [List.size_toArray, is_len, chM_len V z i t hz]
  rw [h]
  exact ⟨by kernel_rfl, rfl⟩
theorem cells9 {w : World} {g : Nat} {V : Int} {y : List Int} (hy : y.length = 8) (h : w.heap[g]? = some (.cells (mpA V y) 24 (0, 0))) :
    w.cell? ⟨g, 1, none⟩ = some (.int .i64 (y[0]?.getD 0)) ∧ w.cell? ⟨g, 2, none⟩ = some (.int .i64 (y[1]?.getD 0)) ∧ w.cell? ⟨g, 3, none⟩ = some (.int .i64 (y[2]?.getD 0)) ∧ w.cell? ⟨g, 4, none⟩ = some (.int .i64 (y[3]?.getD 0)) ∧ w.cell? ⟨g, 5, none⟩ = some (.int .i64 (y[4]?.getD 0)) ∧ w.cell? ⟨g, 6, none⟩ = some (.int .i64 (y[5]?.getD 0)) ∧ w.cell? ⟨g, 7, none⟩ = some (.int .i64 (y[6]?.getD 0)) ∧ w.cell? ⟨g, 8, none⟩ = some (.int .i64 (y[7]?.getD 0)) := by
  have f : ∀ k, k < 8 → w.cell? ⟨g, k + 1, none⟩ = some (.int .i64 (y[k]?.getD 0)) := fun k hk => by
    rw [← List.getD_eq_getElem?_getD]
    exact ((blk h).1 (k + 1)).trans (mp_at V y k (by omega))
  exact ⟨f 0 (by omega), f 1 (by omega), f 2 (by omega), f 3 (by omega), f 4 (by omega), f 5 (by omega), f 6 (by omega), f 7 (by omega)⟩
theorem is9 (V : Int) (y : List Int) (h : y.length = 8) : (is .i64 (mpL V y)).toArray = #[.int .i64 V, .int .i64 (y[0]?.getD 0), .int .i64 (y[1]?.getD 0), .int .i64 (y[2]?.getD 0), .int .i64 (y[3]?.getD 0), .int .i64 (y[4]?.getD 0), .int .i64 (y[5]?.getD 0), .int .i64 (y[6]?.getD 0), .int .i64 (y[7]?.getD 0)] := by
  match y, h with
  | [a, b, c, d, e, f, g, h], _ => rfl
theorem check9 (V : Int) (y : List Int) (h : y.length = 8) (W : World) :
    Calls Try.prog 11 #[.agg #[.int .i64 V, .int .i64 (y[0]?.getD 0), .int .i64 (y[1]?.getD 0), .int .i64 (y[2]?.getD 0), .int .i64 (y[3]?.getD 0), .int .i64 (y[4]?.getD 0), .int .i64 (y[5]?.getD 0), .int .i64 (y[6]?.getD 0), .int .i64 (y[7]?.getD 0)]] W fun e w' => e = .returned (.int .i64 (chE V y)) ∧ Below W.heap.size W w' := by
  have := check_any V y h W
  rw [is9 V y h] at this
  exact this
theorem store_at {W w1 : World} {o : Obj} {A : Array Value} (h : w1.heap[W.heap.size]? = some o) (hs : W.heap.size + 2 ≤ w1.heap.size) : ((w1.alloc (.cells mp0 24)).setRow w1.heap.size A).heap[W.heap.size]? = some o := by
  have hb : Below w1.heap.size w1 ((w1.alloc (.cells mp0 24)).setRow w1.heap.size A) := below_setRow ((Below.refl _ w1).alloc (Nat.le_refl _) _) (Nat.le_refl _) _
  exact blk_below hb h (by omega)
theorem store_at1 {W w1 : World} {o : Obj} {A : Array Value} (h : w1.heap[W.heap.size + 1]? = some o) (hs : W.heap.size + 2 ≤ w1.heap.size) : ((w1.alloc (.cells mp0 24)).setRow w1.heap.size A).heap[W.heap.size + 1]? = some o := by
  have hb : Below w1.heap.size w1 ((w1.alloc (.cells mp0 24)).setRow w1.heap.size A) := below_setRow ((Below.refl _ w1).alloc (Nat.le_refl _) _) (Nat.le_refl _) _
  exact blk_below hb h (by omega)
set_option maxHeartbeats 4000000 in
theorem own22 (V : Int) (z : List Int) (i t : Int) (hz : z.length = 8) (W : World) :
    Calls Try.prog 3 #[.agg (is .i64 (mpL V z)).toArray, .agg (cgA i t)] W fun e w' => e = .returned (.bool true) ∧ Below W.heap.size W w' := by
  have HZ := hidd hz
  have HG := hidd (al2 W (.cells (mpA V z) 24) (.cells (cgA i t) 26))
  clear hz
  by_cases hc : chR V z i t = 0
  · obtain ⟨he, ⟨n, rfl, hn⟩, h1, h4, hV⟩ := chR_zero hc
    have HR := hidd hc
    have HM := hidd (show chM V z n t = mpL (V + 1) (z.set n t) by unfold chM; rw [if_pos hc, Int.toNat_natCast])
    have HS := hidd (mp_sz (V + 1) (z.set n t) (by rw [List.length_set]; exact HZ.out))
    have HW := hidd (own_ways HZ.out hn he h1 h4 hV)
    have HN := hidd (ch_new (n := n) he h1 h4 hV)
    have HV := hidd (chE_V he)
    have HL := hidd hV
    have HNN := hidd hn
    clear hc he h1 h4 hV hn
    go_enter Try.func3, Try.ntmps3
    go_wp2_with (first | (with_reducible refine wpList_load_row rfl 24 (.tmp 2) rfl W.heap.size rfl 24 (mpA V z) (0, 0) _ HG.out.1 Try.underlying24 rfl (mp_sz V z HZ.out) ?_) | (go_at_call 8; refine (change_any V z n t HZ.out _).mono ?_; rintro e w1 ⟨rfl, hb1⟩; rw [HM.out, HR.out]; have HA := hidd (after2 hb1); clear hb1) | (with_reducible refine wpList_store_row rfl 24 (.tmp 5) (.tmp 18) rfl w1.heap.size (mpA (V + 1) (z.set n t)) rfl rfl 24 mp0 (heap_alloc_last w1 (.cells mp0 24)) HS.out (mp0_szz _ _ (by rw [List.length_set]; exact HZ.out)) (is_one _ _) ?_))
    go_loopw [7] (fun i wr => ∃ b : Nat, b ≤ 32 ∧ i = .int .i64 b ∧ wr.heap[W.heap.size]? = some (.cells (mpA V z) 24 (0, 0)) ∧ wr.heap[W.heap.size + 1]? = some (.cells (cgA n t) 26 (0, 0)) ∧ wr.heap[w1.heap.size]? = some (.cells (mpA (V + 1) (z.set n t)) 24 (0, 0)) ∧ Below W.heap.size W wr) (fun i _ => 32 - (intOf i).toNat)
    case atStart => exact ⟨0, by omega, rfl, store_at HA.out.1 HA.out.2.2.2, store_at1 HA.out.2.1 HA.out.2.2.2, setRow_heap _ _ _ _ _ _ (heap_alloc_last w1 (.cells mp0 24)), below_setRow (HA.out.2.2.1.alloc HA.out.2.2.1.size _) HA.out.2.2.1.size _⟩
    case round =>
      obtain ⟨b, hb, rfl, g1, g2, g3, hbl⟩ := hrel
      have G1 := hidd g1
      have G2 := hidd g2
      have G3 := hidd g3
      have GB := hidd hbl
      clear g1 g2 g3 hbl
      rcases Nat.lt_or_ge b 32 with hlt | hge
      · rcases HW.out b hlt with ⟨hb4, k1, hp1⟩ | ⟨hb4, k, k', e, hp, hp1⟩ | ⟨hb4, k, k', e, hne, hp, hp1⟩ | ⟨hb4, s, k, e, hne, hne2, hp, hp1⟩
        · obtain ⟨s, k, e, hp⟩ : ∃ s k e, plE V z b = (s, k, e) := ⟨_, _, _, rfl⟩
          have HP := hidd hp
          have HP1 := hidd hp1
          clear hp hp1
          go_wp2_with (first | (with_reducible refine wpList_load_row rfl 24 (.tmp 2) rfl W.heap.size rfl 24 (mpA V z) (0, 0) _ G1.out Try.underlying24 rfl (mp_sz V z HZ.out) ?_) | (go_at_call 10; with_reducible refine (place_any V z b HZ.out _).mono ?_; rintro e' w2 ⟨rfl, hb2⟩; rw [HP.out]; have HB2 := hidd hb2; have K1 := hidd (blk_below hb2 G1.out (Array.getElem?_eq_some_iff.1 G1.out).1); have K2 := hidd (blk_below hb2 G2.out (Array.getElem?_eq_some_iff.1 G2.out).1); have K3 := hidd (blk_below hb2 G3.out (Array.getElem?_eq_some_iff.1 G3.out).1); clear hb2) | (with_reducible refine wpList_load_row rfl 24 (.tmp 5) rfl w1.heap.size rfl 24 (mpA (V + 1) (z.set n t)) (0, 0) _ K3.out Try.underlying24 rfl HS.out ?_) | (go_at_call 10; with_reducible refine (place_any (V + 1) (z.set n t) b (by rw [List.length_set]; exact HZ.out) _).mono ?_; rintro e' w3 ⟨rfl, hb3⟩; rw [HP1.out]; have HB3 := hidd hb3; have c0 := (blk (blk_below hb3 K2.out (Array.getElem?_eq_some_iff.1 K2.out).1)).1 0; have c1 := (blk (blk_below hb3 K2.out (Array.getElem?_eq_some_iff.1 K2.out).1)).1 1; have c2 := ((blk (blk_below hb3 K1.out (Array.getElem?_eq_some_iff.1 K1.out).1)).1 (1 + n)).trans (cong1 V z n HZ.out HNN.out); clear hb3))
          have M1 := blk_below HB3.out K1.out (Array.getElem?_eq_some_iff.1 K1.out).1
          have M2 := blk_below HB3.out K2.out (Array.getElem?_eq_some_iff.1 K2.out).1
          have M3 := blk_below HB3.out K3.out (Array.getElem?_eq_some_iff.1 K3.out).1
          have hB2 := GB.out.trans (HB2.out.mono GB.out.size)
          refine ⟨⟨b + 1, by omega, by push_cast; rfl, M1, M2, M3, hB2.trans (HB3.out.mono hB2.size)⟩, ?_⟩
          simp [intOf]
          omega
        · have HP := hidd hp
          have HP1 := hidd hp1
          clear hp hp1
          have hq : ((b : Int) / 4 == (n : Int)) = false := by simp; omega
          have hnI : (n : Int) < 8 := by have := HNN.out; omega
          go_wp2_with (first | (with_reducible refine wpList_load_row rfl 24 (.tmp 2) rfl W.heap.size rfl 24 (mpA V z) (0, 0) _ G1.out Try.underlying24 rfl (mp_sz V z HZ.out) ?_) | (go_at_call 10; with_reducible refine (place_any V z b HZ.out _).mono ?_; rintro e' w2 ⟨rfl, hb2⟩; rw [HP.out]; have HB2 := hidd hb2; have K1 := hidd (blk_below hb2 G1.out (Array.getElem?_eq_some_iff.1 G1.out).1); have K2 := hidd (blk_below hb2 G2.out (Array.getElem?_eq_some_iff.1 G2.out).1); have K3 := hidd (blk_below hb2 G3.out (Array.getElem?_eq_some_iff.1 G3.out).1); clear hb2) | (with_reducible refine wpList_load_row rfl 24 (.tmp 5) rfl w1.heap.size rfl 24 (mpA (V + 1) (z.set n t)) (0, 0) _ K3.out Try.underlying24 rfl HS.out ?_) | (go_at_call 10; with_reducible refine (place_any (V + 1) (z.set n t) b (by rw [List.length_set]; exact HZ.out) _).mono ?_; rintro e' w3 ⟨rfl, hb3⟩; rw [HP1.out]; have HB3 := hidd hb3; have c0 := (blk (blk_below hb3 K2.out (Array.getElem?_eq_some_iff.1 K2.out).1)).1 0; have c1 := (blk (blk_below hb3 K2.out (Array.getElem?_eq_some_iff.1 K2.out).1)).1 1; have c2 := ((blk (blk_below hb3 K1.out (Array.getElem?_eq_some_iff.1 K1.out).1)).1 (1 + n)).trans (cong1 V z n HZ.out HNN.out); clear hb3))
          have M1 := blk_below HB3.out K1.out (Array.getElem?_eq_some_iff.1 K1.out).1
          have M2 := blk_below HB3.out K2.out (Array.getElem?_eq_some_iff.1 K2.out).1
          have M3 := blk_below HB3.out K3.out (Array.getElem?_eq_some_iff.1 K3.out).1
          have hB2 := GB.out.trans (HB2.out.mono GB.out.size)
          refine ⟨⟨b + 1, by omega, by push_cast; rfl, M1, M2, M3, hB2.trans (HB3.out.mono hB2.size)⟩, ?_⟩
          simp [intOf]
          omega
        · have HP := hidd hp
          have HP1 := hidd hp1
          clear hp hp1
          have hq : ((b : Int) / 4 == (n : Int)) = false := by simp; omega
          have hnI : (n : Int) < 8 := by have := HNN.out; omega
          have hneb : (z[n]?.getD 0 == t) = false := by simpa using hne
          have hne3 : ¬ z[n]?.getD 0 = t := by simpa using hne
          clear hne
          go_wp2_with (first | (with_reducible refine wpList_load_row rfl 24 (.tmp 2) rfl W.heap.size rfl 24 (mpA V z) (0, 0) _ G1.out Try.underlying24 rfl (mp_sz V z HZ.out) ?_) | (go_at_call 10; with_reducible refine (place_any V z b HZ.out _).mono ?_; rintro e' w2 ⟨rfl, hb2⟩; rw [HP.out]; have HB2 := hidd hb2; have K1 := hidd (blk_below hb2 G1.out (Array.getElem?_eq_some_iff.1 G1.out).1); have K2 := hidd (blk_below hb2 G2.out (Array.getElem?_eq_some_iff.1 G2.out).1); have K3 := hidd (blk_below hb2 G3.out (Array.getElem?_eq_some_iff.1 G3.out).1); clear hb2) | (with_reducible refine wpList_load_row rfl 24 (.tmp 5) rfl w1.heap.size rfl 24 (mpA (V + 1) (z.set n t)) (0, 0) _ K3.out Try.underlying24 rfl HS.out ?_) | (go_at_call 10; with_reducible refine (place_any (V + 1) (z.set n t) b (by rw [List.length_set]; exact HZ.out) _).mono ?_; rintro e' w3 ⟨rfl, hb3⟩; rw [HP1.out]; have HB3 := hidd hb3; have c0 := (blk (blk_below hb3 K2.out (Array.getElem?_eq_some_iff.1 K2.out).1)).1 0; have c1 := (blk (blk_below hb3 K2.out (Array.getElem?_eq_some_iff.1 K2.out).1)).1 1; have c2 := ((blk (blk_below hb3 K1.out (Array.getElem?_eq_some_iff.1 K1.out).1)).1 (1 + n)).trans (cong1 V z n HZ.out HNN.out); clear hb3))
          have M1 := blk_below HB3.out K1.out (Array.getElem?_eq_some_iff.1 K1.out).1
          have M2 := blk_below HB3.out K2.out (Array.getElem?_eq_some_iff.1 K2.out).1
          have M3 := blk_below HB3.out K3.out (Array.getElem?_eq_some_iff.1 K3.out).1
          have hB2 := GB.out.trans (HB2.out.mono GB.out.size)
          refine ⟨⟨b + 1, by omega, by push_cast; rfl, M1, M2, M3, hB2.trans (HB3.out.mono hB2.size)⟩, ?_⟩
          simp [intOf]
          omega
        · have HP := hidd hp
          have HP1 := hidd hp1
          clear hp hp1
          have hq : ((b : Int) / 4 == (n : Int)) = false := by simp; omega
          have hnI : (n : Int) < 8 := by have := HNN.out; omega
          have hneb : (s == t) = false := by simpa using hne
          have hneb2 : (s == z[n]?.getD 0) = false := by simpa using hne2
          have hne3 : ¬ s = z[n]?.getD 0 := by simpa using hne2
          clear hne2
          go_wp2_with (first | (with_reducible refine wpList_load_row rfl 24 (.tmp 2) rfl W.heap.size rfl 24 (mpA V z) (0, 0) _ G1.out Try.underlying24 rfl (mp_sz V z HZ.out) ?_) | (go_at_call 10; with_reducible refine (place_any V z b HZ.out _).mono ?_; rintro e' w2 ⟨rfl, hb2⟩; rw [HP.out]; have HB2 := hidd hb2; have K1 := hidd (blk_below hb2 G1.out (Array.getElem?_eq_some_iff.1 G1.out).1); have K2 := hidd (blk_below hb2 G2.out (Array.getElem?_eq_some_iff.1 G2.out).1); have K3 := hidd (blk_below hb2 G3.out (Array.getElem?_eq_some_iff.1 G3.out).1); clear hb2) | (with_reducible refine wpList_load_row rfl 24 (.tmp 5) rfl w1.heap.size rfl 24 (mpA (V + 1) (z.set n t)) (0, 0) _ K3.out Try.underlying24 rfl HS.out ?_) | (go_at_call 10; with_reducible refine (place_any (V + 1) (z.set n t) b (by rw [List.length_set]; exact HZ.out) _).mono ?_; rintro e' w3 ⟨rfl, hb3⟩; rw [HP1.out]; have HB3 := hidd hb3; have c0 := (blk (blk_below hb3 K2.out (Array.getElem?_eq_some_iff.1 K2.out).1)).1 0; have c1 := (blk (blk_below hb3 K2.out (Array.getElem?_eq_some_iff.1 K2.out).1)).1 1; have c2 := ((blk (blk_below hb3 K1.out (Array.getElem?_eq_some_iff.1 K1.out).1)).1 (1 + n)).trans (cong1 V z n HZ.out HNN.out); clear hb3))
          have M1 := blk_below HB3.out K1.out (Array.getElem?_eq_some_iff.1 K1.out).1
          have M2 := blk_below HB3.out K2.out (Array.getElem?_eq_some_iff.1 K2.out).1
          have M3 := blk_below HB3.out K3.out (Array.getElem?_eq_some_iff.1 K3.out).1
          have hB2 := GB.out.trans (HB2.out.mono GB.out.size)
          refine ⟨⟨b + 1, by omega, by push_cast; rfl, M1, M2, M3, hB2.trans (HB3.out.mono hB2.size)⟩, ?_⟩
          simp [intOf]
          omega
      · have hb32 : b = 32 := by omega
        subst hb32
        have c0 := ((blk G3.out).1 0).trans (show (mpA (V + 1) (z.set n t))[0]? = some (.int .i64 (V + 1)) from rfl)
        have c1 := ((blk G1.out).1 0).trans (show (mpA V z)[0]? = some (.int .i64 V) from rfl)
        have hw : wrap64 (V + 1) = V + 1 := w64 _ (by have := HV.out; have := HL.out; omega)
        obtain ⟨y, hy⟩ : ∃ y, y = z.set n t := ⟨_, rfl⟩
        have HY := hidd (show y.length = 8 by rw [hy, List.length_set]; exact HZ.out)
        have HNY := hidd (show chE (V + 1) y = 0 by rw [hy]; exact HN.out)
        have G3' := G3.out
        rw [← hy] at G3'
        have d := cells9 HY.out G3'
        clear G3' hy
        obtain ⟨d1, d2, d3, d4, d5, d6, d7, d8⟩ := d
        go_wp2_with (first | (go_at_call 11; refine (check9 (V + 1) y HY.out _).mono ?_; rintro e w2 ⟨rfl, hb2⟩; rw [HNY.out]; have HB2 := hidd hb2; clear hb2) | (go_at_call 9; refine (wakes22 _).mono ?_; rintro e w3 ⟨rfl, hb3⟩; have HB3 := hidd hb3; clear hb3))
        go_ret
        have hB2 := GB.out.trans (HB2.out.mono GB.out.size)
        exact ⟨rfl, hB2.trans (HB3.out.mono hB2.size)⟩
  · have hcb : (chR V z i t == 0) = false := by simpa using hc
    have HS := hidd (chM_sz V z i t HZ.out)
    clear hc
    go_enter Try.func3, Try.ntmps3
    go_wp2_with (first | (with_reducible refine wpList_load_row rfl 24 (.tmp 2) rfl W.heap.size rfl 24 (mpA V z) (0, 0) _ HG.out.1 Try.underlying24 rfl (mp_sz V z HZ.out) ?_) | (go_at_call 8; refine (change_any V z i t HZ.out _).mono ?_; rintro e w1 ⟨rfl, hb1⟩; have HA := hidd (after2 hb1); clear hb1) | (with_reducible refine wpList_store_row rfl 24 (.tmp 5) (.tmp 18) rfl w1.heap.size (is .i64 (chM V z i t)).toArray rfl rfl 24 mp0 (heap_alloc_last w1 (.cells mp0 24)) HS.out.1 HS.out.2 (is_one _ _) ?_) | (go_at_call 9; refine (wakes22 _).mono ?_; rintro e w3 ⟨rfl, hb3⟩; have HB3 := hidd hb3; clear hb3))
    go_ret
    have hB2 : Below W.heap.size W ((w1.alloc (.cells mp0 24)).setRow w1.heap.size (is .i64 (chM V z i t)).toArray) := below_setRow (HA.out.2.2.1.alloc HA.out.2.2.1.size _) HA.out.2.2.1.size _
    exact ⟨rfl, hB2.trans (HB3.out.mono hB2.size)⟩
end Go.Proofs.Ytflmeannmfhhhaa
