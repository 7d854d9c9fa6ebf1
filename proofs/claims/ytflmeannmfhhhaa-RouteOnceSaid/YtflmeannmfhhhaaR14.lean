import Derived.Test.YtflmeannmfhhhaaR13
namespace Go.Proofs.Ytflmeannmfhhhaa
open Go.RowKit
set_option maxRecDepth 100000 in
set_option maxHeartbeats 1000000 in
theorem once_no (z : List Int) (hz : z.length = 8) (W : World) (ha : z.all shardB = false) :
    Calls Try.prog 6 #[.agg (is .i64 z).toArray] W fun e w' => e = .returned (.bool true) ∧ Below W.heap.size W w' := by
  have HZ := hidd hz
  have HA := hidd ha
  clear hz ha
  go_enter Try.func6, Try.ntmps6
  go_wp2_with (with_reducible refine wpList_load_new rfl 22 (.tmp 1) rfl (is .i64 z).toArray 22 rfl _ Try.underlying22 rfl (sz22 z HZ.out) ?_)
  refine (may_any z HZ.out _).mono ?_
  rintro e w1 ⟨rfl, hb1⟩
  rw [HA.out]
  go_wp2_with (go_at_call 14; refine (wakes23 _).mono ?_; rintro e w3 ⟨rfl, hb3⟩)
  go_ret
  exact ⟨rfl, (((Below.refl _ W).alloc (Nat.le_refl _) _).trans (hb1.mono (by simp))).trans (hb3.mono (by have := hb1.size; simp at this; omega))⟩
set_option maxRecDepth 100000 in
set_option maxHeartbeats 4000000 in
theorem once_yes (z : List Int) (hz : z.length = 8) (W : World) (ha : z.all shardB = true) :
    Calls Try.prog 6 #[.agg (is .i64 z).toArray] W fun e w' => e = .returned (.bool true) ∧ Below W.heap.size W w' := by
  have HZ := hidd hz
  have HA := hidd ha
  clear hz ha
  go_enter Try.func6, Try.ntmps6
  go_wp2_with (with_reducible refine wpList_load_new rfl 22 (.tmp 1) rfl (is .i64 z).toArray 22 rfl _ Try.underlying22 rfl (sz22 z HZ.out) ?_)
  refine (may_any z HZ.out _).mono ?_
  rintro e w1 ⟨rfl, hb1⟩
  rw [HA.out]
  have G1 := hidd (blk_below hb1 (heap_alloc_new W _) (by simp))
  have HB := hidd (((Below.refl _ W).alloc (Nat.le_refl _) (.cells (is .i64 z).toArray 22)).trans (hb1.mono (by simp)))
  have hz1 : W.heap.size < w1.heap.size := by have := hb1.size; simp at this; omega
  clear hb1
  go_wp2_with fail
  go_loopw [3, 4] (fun v i wr => ∃ j : Nat, j ≤ 4 ∧ i = .int .i64 ((j : Int) + 1) ∧ v = .int .i64 (upTo z j : Nat) ∧ Below w1.heap.size w1 wr) (fun _ i _ => 5 - (intOf i).toNat)
  case atStart => exact ⟨0, by omega, rfl, by rw [upTo_zero]; rfl, Below.refl _ _⟩
  case round =>
    obtain ⟨j, hj, rfl, rfl, hbel⟩ := hrel
    obtain ⟨wo, rfl⟩ : ∃ wo, wo = wr := ⟨_, rfl⟩
    have HW := hidd hbel
    have G2 := hidd (blk_below hbel G1.out hz1)
    have hz2 : W.heap.size < wo.heap.size := by have := hbel.size; omega
    clear hbel
    by_cases hlt : j < 4
    · obtain ⟨a, ha⟩ : ∃ a, a = own z ((j : Int) + 1) := ⟨_, rfl⟩
      obtain ⟨u, hu⟩ : ∃ u, u = upTo z j := ⟨_, rfl⟩
      have ha2 : a < 256 := by rw [ha]; exact own_256 z _ HZ.out
      have hu2 : u < 256 := by rw [hu]; exact upTo_lt z HZ.out j
      have hand : bits BinOp.and IntKind.i64 (a : Int) (u : Int) = 0 := by
        rw [i64_and_nat a u (by omega) (by omega), ha, hu, upTo_and]
        rfl
      have hor : bits BinOp.or IntKind.i64 (u : Int) (a : Int) = ((upTo z (j + 1) : Nat) : Int) := by
        rw [i64_or_nat u a (by omega) (by omega), ha, hu, upTo_or]
      have HOW := hidd (show own z ((j : Int) + 1) = a from ha.symm)
      have i1 : (j : Int) + 1 ≤ 4 := by omega
      have i0 : (0 : Int) ≤ (j : Int) := by omega
      have a0 : (0 : Int) ≤ (a : Int) := by omega
      have a1 : (a : Int) < 256 := by omega
      rw [← hu]
      obtain ⟨u2, hu3⟩ : ∃ u2, u2 = upTo z (j + 1) := ⟨_, rfl⟩
      rw [← hu3] at hor
      have HU3 := hidd hu3
      clear ha hu hu3
      go_wp2_with (with_reducible refine wpList_load_row rfl 22 (.tmp 1) rfl W.heap.size rfl 22 (is .i64 z).toArray (0, 0) _ G2.out Try.underlying22 rfl (sz22 z HZ.out) ?_)
      refine (owned_any z ((j : Int) + 1) HZ.out wo).mono ?_
      rintro e w2 ⟨rfl, hb2⟩
      rw [HOW.out]
      have G3 := hidd (blk_below hb2 G2.out hz2)
      have HB2 := hidd (HW.out.trans (hb2.mono HW.out.size))
      have hz3 : W.heap.size < w2.heap.size := by have := hb2.size; omega
      clear hb2
      go_wp2_with fail
      go_loopw [6] (fun i wr => ∃ b : Nat, b ≤ 32 ∧ i = .int .i64 b ∧ Below w2.heap.size w2 wr) (fun i _ => 32 - (intOf i).toNat)
      case atStart => exact ⟨0, by omega, rfl, Below.refl _ _⟩
      case round =>
        obtain ⟨b, hb, rfl, hbel⟩ := hrel
        obtain ⟨wi, rfl⟩ : ∃ wi, wi = wr := ⟨_, rfl⟩
        have HWI := hidd hbel
        have G4 := hidd (blk_below hbel G3.out hz3)
        clear hbel
        by_cases hlb : b < 32
        · obtain ⟨x, hx⟩ : ∃ x, z[b / 4]? = some x := ⟨z[b / 4]'(by rw [HZ.out]; omega), List.getElem?_eq_getElem _⟩
          have HX := hidd hx
          have HSH := hidd (shard_nat z _ x hx HA.out)
          have hbit := bit_at a ha2 (b / 4) (by omega)
          rw [← HOW.out, own_bit, hx, HOW.out] at hbit
          obtain ⟨d, hd⟩ : ∃ d, d = b / 4 := ⟨_, rfl⟩
          have HD := hidd (show b / 4 = d from hd.symm)
          rw [← hd] at hbit
          have d0 : (0 : Int) ≤ (d : Int) := by omega
          have d1 : (d : Int) < 8 := by omega
          have b0 : (0 : Int) ≤ (b : Int) := by omega
          have b1 : (b : Int) < 32 := by omega
          clear hx hd
          by_cases hxj : x = (j : Int) + 1
          · have hbt : bits BinOp.and IntKind.i64 ((a : Int) / 2 ^ d) 1 = 1 := by rw [hbit, if_pos (by simp [hxj])]
            have hxe : (x == (j : Int) + 1) = true := by simp [hxj]
            clear hbit hxj
            go_wp2_with (first | (go_at_call 17; refine (stripe_yes b _ hlb).mono ?_; rintro e w' ⟨rfl, rfl⟩; rw [HD.out]) | (with_reducible refine wpList_load_row rfl 22 (.tmp 1) rfl W.heap.size rfl 22 (is .i64 z).toArray (0, 0) _ G4.out Try.underlying22 rfl (sz22 z HZ.out) ?_) | (go_at_call 18; refine (shard2_yes z b x _ HZ.out hlb HX.out HSH.out).mono ?_; rintro e w5 ⟨rfl, hb5⟩; have HB5 := hidd (HWI.out.trans (hb5.mono HWI.out.size)); clear hb5))
            go_roundw
            case rel => exact ⟨b + 1, by omega, by go_num, HB5.out⟩
            case measure => simp [intOf]; omega
          · have hbt : bits BinOp.and IntKind.i64 ((a : Int) / 2 ^ d) 1 = 0 := by rw [hbit, if_neg (by simp [hxj])]
            have hxe : (x == (j : Int) + 1) = false := by simp [hxj]
            clear hbit hxj
            go_wp2_with (first | (go_at_call 17; refine (stripe_yes b _ hlb).mono ?_; rintro e w' ⟨rfl, rfl⟩; rw [HD.out]) | (with_reducible refine wpList_load_row rfl 22 (.tmp 1) rfl W.heap.size rfl 22 (is .i64 z).toArray (0, 0) _ G4.out Try.underlying22 rfl (sz22 z HZ.out) ?_) | (go_at_call 18; refine (shard2_yes z b x _ HZ.out hlb HX.out HSH.out).mono ?_; rintro e w5 ⟨rfl, hb5⟩; have HB5 := hidd (HWI.out.trans (hb5.mono HWI.out.size)); clear hb5))
            go_roundw
            case rel => exact ⟨b + 1, by omega, by go_num, HB5.out⟩
            case measure => simp [intOf]; omega
        · obtain rfl : b = 32 := by omega
          go_wp2
          go_roundw
          case rel => exact ⟨j + 1, by omega, by go_num, by rw [HU3.out], HB2.out.trans (HWI.out.mono HB2.out.size)⟩
          case measure => simp [intOf]; omega
    · obtain rfl : j = 4 := by omega
      have hu := upTo_all z HZ.out HA.out
      rw [hu]
      clear hu
      go_wp2_with (go_at_call 14; refine (wakes23 _).mono ?_; rintro e w3 ⟨rfl, hb3⟩)
      go_ret
      exact ⟨rfl, (HB.out.trans (HW.out.mono HB.out.size)).trans (hb3.mono (by have := HB.out.size; have := HW.out.size; omega))⟩
end Go.Proofs.Ytflmeannmfhhhaa
