import Derived.Test.YtflmeannmfhhhaaS3
namespace Go.Proofs.Ytflmeannmfhhhaa
open Go.RowKit
attribute [local go_sem] run_store_complex
abbrev outA (z : List Int) (m : Nat) : Array Value := ((outF z m).map cx).toArray
theorem out_cell (z : List Int) (i k m : Nat) (h : i * 4 + k < 32) : ∃ a b, ((outF z m).map cx).toArray[i * 4 + k]? = some (.complex .f64 a b) := by
  rw [List.getElem?_toArray, List.getElem?_map]
  unfold outF
  rw [List.getElem?_map, List.getElem?_range h]
  exact ⟨_, _, rfl⟩
theorem nx_cell (z : List Int) (i k s : Nat) (hs : s < 5) (hz : z[i]? = some (s : Int)) : ((nxF z i k).map cx).toArray[s]? = some (.complex .f64 (fb s) (fb (4 * (z.take i).count (s : Int) + k))) := by
  rw [List.getElem?_toArray, List.getElem?_map, nxF_at z i k s hs hz]
  rfl
theorem nx_bound (z : List Int) (i k : Nat) (x : Int) (hi : i < 8) (hk : k < 4) : 4 * (z.take i).count x + k < 40 := by
  have h1 : (z.take i).count x ≤ (z.take i).length := List.count_le_length
  have h2 : (z.take i).length ≤ i := by rw [List.length_take]; omega
  omega
theorem out_step (z : List Int) (i k s : Nat) (hi : i < 8) (hk : k < 4) (hz : z[i]? = some (s : Int)) : ((outF z (i * 4 + k)).map cx).toArray.setIfInBounds (i * 4 + k) (.complex .f64 (fb s) (fb (4 * (z.take i).count (s : Int) + k))) = ((outF z (i * 4 + k + 1)).map cx).toArray := by
  rw [List.setIfInBounds_toArray, ← outF_set z _ (by omega), List.map_set, plc_at z i k s hk hz]
  rfl
theorem nx_step (z : List Int) (i k s : Nat) (hs : s < 5) (hz : z[i]? = some (s : Int)) : ((nxF z i k).map cx).toArray.setIfInBounds s (.complex .f64 (fb s) (fb (4 * (z.take i).count (s : Int) + k + 1))) = ((nxF z i (k + 1)).map cx).toArray := by
  rw [List.setIfInBounds_toArray, ← nxF_set z i k s hs hz, List.map_set]
  rfl
theorem nx0_get (k : Nat) (hk : k < 5) : ((nx0 k).map cx).toArray[k]? = some (cx (0, 0)) := by
  rw [List.getElem?_toArray, List.getElem?_map]
  unfold nx0
  rw [List.getElem?_map, List.getElem?_range hk, Option.map_some, Option.map_some, if_neg (by omega)]
theorem nx0_step (k : Nat) (hk : k < 5) : ((nx0 k).map cx).toArray.setIfInBounds k (.complex .f64 (floatOfInt .f64 (k : Int)) 0) = ((nx0 (k + 1)).map cx).toArray := by
  rw [List.setIfInBounds_toArray, ← nx0_set k hk, List.map_set]
  unfold cx
  rw [fb_zero]
  rfl
theorem mp_at (V : Int) (z : List Int) (i : Nat) (h : i < z.length) : (is .i64 (mpL V z)).toArray[i + 1]? = some (.int .i64 (z.getD i 0)) := by
  rw [List.getElem?_toArray]
  exact is_at .i64 z i h
theorem is8 (z : List Int) (h : z.length = 8) : (is .i64 z).toArray = #[.int .i64 (z.getD 0 0), .int .i64 (z.getD 1 0), .int .i64 (z.getD 2 0), .int .i64 (z.getD 3 0), .int .i64 (z.getD 4 0), .int .i64 (z.getD 5 0), .int .i64 (z.getD 6 0), .int .i64 (z.getD 7 0)] := by
  match z, h with
  | [a, b, c, d, e, f, g, h], _ => rfl
theorem idx8 (z : List Int) (h : z.length = 8) (i : Nat) (hi : i < 8) (s : Nat) (hs : z[i]? = some (s : Int)) (w : World) : (Instr.index 22 (.agg #[.int .i64 (z[0]?.getD 0), .int .i64 (z[1]?.getD 0), .int .i64 (z[2]?.getD 0), .int .i64 (z[3]?.getD 0), .int .i64 (z[4]?.getD 0), .int .i64 (z[5]?.getD 0), .int .i64 (z[6]?.getD 0), .int .i64 (z[7]?.getD 0)]) (.int .i64 (i : Int))).run Try.prog w = .ok (.int .i64 (s : Int)) w := by
  have e := run_idx .i64 Try.underlying22 Try.underlying3 (by kernel_rfl) z h i hi w
  rw [is8 z h] at e
  simp only [List.getD_eq_getElem?_getD, hs, Option.getD_some] at e
  exact e
set_option maxHeartbeats 4000000 in
theorem places_any (V : Int) (z : List Int) (hz : z.length = 8) (hr : ∀ s ∈ z, 0 ≤ s ∧ s ≤ 4) (W : World) :
    Calls Try.prog 24 #[.agg (is .i64 (mpL V z)).toArray] W fun e w' => e = .returned (.agg ((outF z 32).map cx).toArray) ∧ Below W.heap.size W w' := by
  have HZ := hidd hz
  have HR := hidd hr
  clear hz hr
  have z62 := zero62
  have z76 := zero76
  go_enter Try.func24, Try.ntmps24
  go_wp2
  clear z62 z76
  go_loopw [8] (fun i wr => ∃ k : Nat, k ≤ 5 ∧ i = .int .i64 k ∧ wr.heap[W.heap.size]? = some (.cells (is .i64 (mpL V z)).toArray 24 (0, 0)) ∧ wr.heap[W.heap.size + 1]? = some (.cells ((outF z 0).map cx).toArray 62 (0, 0)) ∧ wr.heap[W.heap.size + 1 + 1]? = some (.cells ((nx0 k).map cx).toArray 76 (0, 0)) ∧ Below W.heap.size W wr) (fun i _ => 5 - (intOf i).toNat)
  case atStart =>
    refine ⟨0, by omega, rfl, ?_, ?_, ?_, (((Below.refl _ W).alloc (Nat.le_refl _) _).alloc (by simp) _).alloc (by simp; omega) _⟩
    · rw [heap_alloc_old _ _ (by simp; omega), heap_alloc_old _ _ (by simp)]
      exact heap_alloc_new W _
    · rw [heap_alloc_old _ _ (by simp), ← out0, show W.heap.size + 1 = (W.alloc (.cells (is .i64 (mpL V z)).toArray 24)).heap.size by simp]
      exact heap_alloc_new _ _
    · rw [← nx00, show W.heap.size + 1 + 1 = ((W.alloc (.cells (is .i64 (mpL V z)).toArray 24)).alloc (.cells (List.replicate 32 (Value.complex .f64 0 0)).toArray 62)).heap.size by simp]
      exact heap_alloc_new _ _
  case round =>
    obtain ⟨k, hk, rfl, h0, h1, h2, hb⟩ := hrel
    have H0 := hidd h0
    have H1 := hidd h1
    have H2 := hidd h2
    have HB := hidd hb
    rcases Nat.lt_or_ge k 5 with hlt | hge
    · have c3 := ((blk h2).1 k).trans (nx0_get k hlt)
      have c2 := (blk h2).2 k
      clear h0 h1 h2 hb
      go_wp2
      refine ⟨⟨k + 1, by omega, by push_cast; rfl, hs_other H0.out (by simp; omega), hs_other H1.out (by simp), (hs_same H2.out).trans (by rw [nx0_step k hlt]), HB.out.setCell (by simp; omega) _⟩, ?_⟩
      simp [intOf]
      omega
    · have hk5 : k = 5 := by omega
      subst hk5
      have f0 : wr.cell? ⟨W.heap.size, 1, none⟩ = some (.int .i64 (z.getD 0 0)) := ((blk h0).1 1).trans (mp_at V z 0 (by have := HZ.out; omega))
      have f1 : wr.cell? ⟨W.heap.size, 2, none⟩ = some (.int .i64 (z.getD 1 0)) := ((blk h0).1 2).trans (mp_at V z 1 (by have := HZ.out; omega))
      have f2 : wr.cell? ⟨W.heap.size, 3, none⟩ = some (.int .i64 (z.getD 2 0)) := ((blk h0).1 3).trans (mp_at V z 2 (by have := HZ.out; omega))
      have f3 : wr.cell? ⟨W.heap.size, 4, none⟩ = some (.int .i64 (z.getD 3 0)) := ((blk h0).1 4).trans (mp_at V z 3 (by have := HZ.out; omega))
      have f4 : wr.cell? ⟨W.heap.size, 5, none⟩ = some (.int .i64 (z.getD 4 0)) := ((blk h0).1 5).trans (mp_at V z 4 (by have := HZ.out; omega))
      have f5 : wr.cell? ⟨W.heap.size, 6, none⟩ = some (.int .i64 (z.getD 5 0)) := ((blk h0).1 6).trans (mp_at V z 5 (by have := HZ.out; omega))
      have f6 : wr.cell? ⟨W.heap.size, 7, none⟩ = some (.int .i64 (z.getD 6 0)) := ((blk h0).1 7).trans (mp_at V z 6 (by have := HZ.out; omega))
      have f7 : wr.cell? ⟨W.heap.size, 8, none⟩ = some (.int .i64 (z.getD 7 0)) := ((blk h0).1 8).trans (mp_at V z 7 (by have := HZ.out; omega))
      clear h0 h1 h2 hb
      go_wp2
      go_loopw [19] (fun j wr => ∃ i : Nat, i ≤ 8 ∧ j = .int .i64 i ∧ wr.heap[W.heap.size + 1]? = some (.cells ((outF z (i * 4)).map cx).toArray 62 (0, 0)) ∧ wr.heap[W.heap.size + 1 + 1]? = some (.cells ((nxF z i 0).map cx).toArray 76 (0, 0)) ∧ Below W.heap.size W wr) (fun i _ => 8 - (intOf i).toNat)
      case atStart => exact ⟨0, by omega, rfl, H1.out, H2.out.trans (by rw [nx0_all z]), HB.out⟩
      case round =>
        clear f0 f1 f2 f3 f4 f5 f6 f7
        obtain ⟨i, hi, rfl, h1, h2, hb⟩ := hrel
        have G1 := hidd h1
        have G2 := hidd h2
        have GB := hidd hb
        rcases Nat.lt_or_ge i 8 with hlt | hge8
        · obtain ⟨s, hs5, hzs⟩ : ∃ s : Nat, s < 5 ∧ z[i]? = some (s : Int) := by
            have hl : i < z.length := by rw [HZ.out]; exact hlt
            have := HR.out z[i] (List.getElem_mem hl)
            exact ⟨z[i].toNat, by omega, by rw [List.getElem?_eq_getElem hl]; congr 1; omega⟩
          have HZS := hidd hzs
          have ix := idx8 z HZ.out i hlt s hzs
          clear h1 h2 hb hzs
          go_wp2
          go_loopw [23] (fun j wr => ∃ k : Nat, k ≤ 4 ∧ j = .int .i64 k ∧ wr.heap[W.heap.size + 1]? = some (.cells ((outF z (i * 4 + k)).map cx).toArray 62 (0, 0)) ∧ wr.heap[W.heap.size + 1 + 1]? = some (.cells ((nxF z i k).map cx).toArray 76 (0, 0)) ∧ Below W.heap.size W wr) (fun i _ => 4 - (intOf i).toNat)
          case atStart => exact ⟨0, by omega, rfl, G1.out, G2.out, GB.out⟩
          case round =>
            clear ix
            obtain ⟨k, hk, rfl, h1, h2, hb⟩ := hrel
            have K1 := hidd h1
            have K2 := hidd h2
            have KB := hidd hb
            rcases Nat.lt_or_ge k 4 with hk4 | hk4
            · obtain ⟨oa, ob, ho⟩ := out_cell z i k (i * 4 + k) (by omega)
              have c1 := ((blk h1).1 (i * 4 + k)).trans ho
              have c2 := (blk h1).2 (i * 4 + k)
              have hadd := fun w => run_c_addi (P := Try.prog) 61 s (4 * (z.take i).count (s : Int) + k) w (by omega) (nx_bound z i k s hlt hk4)
              have c3 := ((blk h2).1 s).trans (nx_cell z i k s hs5 HZS.out)
              have c4 := (blk h2).2 s
              have EO := hidd (out_step z i k s hlt hk4 HZS.out)
              have EN := hidd (nx_step z i k s hs5 HZS.out)
              obtain ⟨n, hn⟩ : ∃ n, n = 4 * (z.take i).count (s : Int) + k := ⟨_, rfl⟩
              rw [← hn] at hadd c3 EO EN
              clear h1 h2 hb ho hn
              go_wp2
              refine ⟨⟨k + 1, by omega, by push_cast; rfl, hs_other ((hs_same K1.out).trans (by rw [EO.out]; rfl)) (by simp), (hs_same (hs_other K2.out (by simp))).trans (by rw [EN.out]), (KB.out.setCell (by simp) _).setCell (by simp; omega) _⟩, ?_⟩
              simp [intOf]
              omega
            · have hk4 : k = 4 := by omega
              subst hk4
              clear h1 h2 hb
              go_wp2
              refine ⟨⟨i + 1, by omega, by push_cast; rfl, K1.out.trans (by rw [Nat.add_mul, Nat.one_mul]), K2.out.trans (by rw [nxF_next z i s HZS.out]), KB.out⟩, ?_⟩
              simp [intOf]
              omega
        · have hi8 : i = 8 := by omega
          subst hi8
          clear h2 hb h1
          go_wp2_with (first | (with_reducible refine wpList_load_row rfl 62 (.tmp 2) rfl (W.heap.size + 1) rfl 62 (outA z (8 * 4)) (0, 0) _ G1.out Try.underlying62 rfl (sz62 _ (outF_len z _)) ?_) | (with_reducible refine wpList_store_row rfl 62 (.tmp 2) (.tmp 41) rfl (W.heap.size + 1) (outA z (8 * 4)) rfl rfl 62 (outA z (8 * 4)) G1.out (sz62 _ (outF_len z _)) rfl (cx_one _) ?_))
          exact bodyPost_ret (results_cell_row Try.results24 _ _ (W.heap.size + 1) 62 (outA z (8 * 4)) (0, 0) _ rfl (setRow_heap _ _ _ _ _ _ G1.out) Try.underlying62 rfl (sz62 _ (outF_len z _))) rfl ⟨rfl, below_setRow GB.out (by omega) _⟩
end Go.Proofs.Ytflmeannmfhhhaa
