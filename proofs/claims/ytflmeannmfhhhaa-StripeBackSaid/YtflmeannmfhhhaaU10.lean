import Derived.Test.YtflmeannmfhhhaaU9
namespace Go.Proofs.Ytflmeannmfhhhaa
open Go.RowKit
theorem chE_two {V : Int} {z : List Int} (h : chE V z ≠ 0) : chE V z = 2 := by
  unfold chE at h ⊢
  split <;> simp_all
set_option maxRecDepth 100000 in
set_option maxHeartbeats 4000000 in
theorem back_no1 (V U : Int) (z y : List Int) (hz : z.length = 8) (hc : chE V z ≠ 0) (W : World) :
    Calls Try.prog 7 #[.agg (is .i64 (mpL V z)).toArray, .agg (is .i64 (mpL U y)).toArray] W fun e w' => e = .returned (.bool true) ∧ Below W.heap.size W w' := by
  have HZ := hidd hz
  have HC := hidd (chE_two hc)
  have HG := hidd (al2 W (.cells (mpA V z) 24) (.cells (mpA U y) 24))
  clear hz hc
  go_enter Try.func7, Try.ntmps7
  go_wp2_with (first | (with_reducible refine wpList_load_row rfl 24 (.tmp 2) rfl W.heap.size rfl 24 (mpA V z) (0, 0) _ HG.out.1 Try.underlying24 rfl (mp_sz V z HZ.out) ?_) | (go_at_call 11; with_reducible refine (check_any V z HZ.out _).mono ?_; rintro e w1 ⟨rfl, hb1⟩; rw [HC.out]; have HA := hidd (after2 hb1); clear hb1) | (go_at_call 9; refine (wakes22 _).mono ?_; rintro e w9 ⟨rfl, hb9⟩; have HB9 := hidd hb9; clear hb9))
  go_ret
  exact ⟨rfl, HA.out.2.2.1.trans (HB9.out.mono HA.out.2.2.1.size)⟩
set_option maxRecDepth 100000 in
set_option maxHeartbeats 4000000 in
theorem back_no2 (V U : Int) (z y : List Int) (hz : z.length = 8) (hy : y.length = 8) (hc : chE V z = 0) (hd : chE U y ≠ 0) (W : World) :
    Calls Try.prog 7 #[.agg (is .i64 (mpL V z)).toArray, .agg (is .i64 (mpL U y)).toArray] W fun e w' => e = .returned (.bool true) ∧ Below W.heap.size W w' := by
  have HZ := hidd hz
  have HY := hidd hy
  have HC := hidd hc
  have HD := hidd (chE_two hd)
  have HG := hidd (al2 W (.cells (mpA V z) 24) (.cells (mpA U y) 24))
  clear hz hy hc hd
  go_enter Try.func7, Try.ntmps7
  go_wp2_with (first | (with_reducible refine wpList_load_row rfl 24 (.tmp 2) rfl W.heap.size rfl 24 (mpA V z) (0, 0) _ HG.out.1 Try.underlying24 rfl (mp_sz V z HZ.out) ?_) | (go_at_call 11; with_reducible refine (check_any V z HZ.out _).mono ?_; rintro e w1 ⟨rfl, hb1⟩; rw [HC.out]; have HA := hidd (after2 hb1); have d := cells9 HY.out HA.out.2.1; have c0 := ((blk HA.out.2.1).1 0).trans (show (mpA U y)[0]? = some (.int .i64 U) from rfl); obtain ⟨d1, d2, d3, d4, d5, d6, d7, d8⟩ := d; clear hb1) | (go_at_call 11; with_reducible refine (check9 U y HY.out _).mono ?_; rintro e w2 ⟨rfl, hb2⟩; rw [HD.out]; have HB2 := hidd (HA.out.2.2.1.trans (hb2.mono HA.out.2.2.1.size)); clear hb2) | (go_at_call 9; refine (wakes22 _).mono ?_; rintro e w9 ⟨rfl, hb9⟩; have HB9 := hidd hb9; clear hb9))
  go_ret
  exact ⟨rfl, HB2.out.trans (HB9.out.mono HB2.out.size)⟩
theorem back_any (V U : Int) (z y : List Int) (hz : z.length = 8) (hy : y.length = 8) (W : World) :
    Calls Try.prog 7 #[.agg (is .i64 (mpL V z)).toArray, .agg (is .i64 (mpL U y)).toArray] W fun e w' => e = .returned (.bool true) ∧ Below W.heap.size W w' := by
  by_cases hc : chE V z = 0
  · by_cases hd : chE U y = 0
    · obtain ⟨N, rfl⟩ : ∃ N : Nat, V = N := ⟨V.toNat, by have := (chE_V hc).1; omega⟩
      exact back22 N U z y hz hy hc hd W
    · exact back_no2 V U z y hz hy hc hd W
  · exact back_no1 V U z y hz hc W
end Go.Proofs.Ytflmeannmfhhhaa
