import Derived.Test.YtheodlbbalbliaaA5
namespace Go.Proofs.Ytheodlbbalbliaa
open Go.RowKit
theorem opens_seal (l : List UInt8) : opensB (sealL l) = true ∧ openL (sealL l) = l := by
  have h4 : (sealL l).length = l.length + 4 := by simp [sealL, le]
  have h1 : (sealL l).take ((sealL l).length - 4) = l := by rw [h4]; simp [sealL]
  have h2 : (sealL l).drop ((sealL l).length - 4) = le 4 (jn 0 l).toNat := by rw [h4]; simp [sealL]
  have hb : opensB (sealL l) = true := by
    unfold opensB
    rw [h1, h2, decide_eq_true (by omega)]
    simp
  refine ⟨hb, ?_⟩
  unfold openL
  rw [if_pos hb, h1]
/-- a row of bytes, whatever they are -/
def Row8 (w : World) (g n : Nat) : Prop := ∃ C : Array Value, w.heap[g]? = some (.cells C 5 (0, 0)) ∧ ∀ i, i < n → ∃ y : Int, C[i]? = some (.int .u8 y)
theorem row8_own {w : World} {base : Nat} {a : Option Addr} {n c : Nat} {l : List UInt8} (h : w.ownsRow base 5 1 (.slice a n c) n (bs l)) (hn : 0 < n) : ∃ g, a = some ⟨g, 0, none⟩ ∧ base ≤ g ∧ g < w.heap.size ∧ Row8 w g n := by
  obtain ⟨hl, hv⟩ := h
  rcases hv with ⟨_, hz⟩ | ⟨g, cap, cur, hv, hg, hh, h1, h2, h3, h4⟩
  · omega
  · injection hv with q1 q2 q3
    refine ⟨g, q1, hg, (Array.getElem?_eq_some_iff.1 hh).1, cur, hh, fun i hi => ?_⟩
    have hi2 : i < (bs l).length := by rw [hl]; omega
    have : cur[i]? = (bs l)[i]? := by rw [← h4, List.getElem?_take, if_pos (by omega), Array.getElem?_toList]
    rw [this, bs_get l i (by rwa [bs_length] at hi2)]
    exact ⟨_, rfl⟩
theorem row8_set {w : World} {g n k : Nat} (h : Row8 w g n) (y : Int) : Row8 (w.setCell ⟨g, k, none⟩ (.int .u8 y)) g n := by
  obtain ⟨C, hC, hall⟩ := h
  refine ⟨_, hs_same hC, fun i hi => ?_⟩
  obtain ⟨z, hz⟩ := hall i hi
  have hlt := (Array.getElem?_eq_some_iff.1 hz).1
  rcases Nat.decEq k i with hne | rfl
  · exact ⟨z, by rw [Array.getElem?_setIfInBounds_ne hne]; exact hz⟩
  · exact ⟨y, by rw [Array.getElem?_setIfInBounds_self_of_lt hlt]⟩
set_option maxHeartbeats 4000000 in
theorem own_walk (by' : Int) (a : Option Addr) (n c : Nat) (l : List UInt8) (w : World) (h : Bs w a n c l) (hl : n ≤ 20000) :
    Calls Try.prog 7 #[.slice a n c, .int .u8 by'] w fun e w' => e = .returned (.bool true) ∧ Below w.heap.size w w' := by
  have HB := hidd h
  have HOS := hidd (opens_seal l)
  clear h
  go_enter Try.func7, Try.ntmps7
  go_wp2_with (first | (with_reducible refine wpList_conv 22 9 5 Try.underlying22 Try.underlying5 Try.underlying9 rfl (.tmp 15) rfl a n c l rfl HB.out ?_) | (go_at_call 25; refine (seal_any _ _ _ _ _ HB.out (by omega)).mono ?_; rintro e w1 ⟨a1, c1, rfl, ho1, hb1⟩; have HB1 := hidd hb1; have HO1 := hidd ho1; clear hb1 ho1) | (go_at_call 21; refine (open_any _ _ _ _ _ (owned_Bs HO1.out) (by omega)).mono ?_; rintro e w2 ⟨a2, n2, c2, rfl, ho2, hb2⟩; rw [HOS.out.1]; have HB2 := hidd hb2; have HO2 := hidd (show w2.ownsRow w1.heap.size 5 1 (.slice a2 n2 c2) n2 (bs l) by rw [HOS.out.2] at ho2; exact ho2); clear hb2 ho2))
  have hn2 : n2 = n := by have := (owned_Bs HO2.out).len; have := HB.out.len; omega
  subst hn2
  obtain ⟨g1, rfl, hg1, hlt1, hR1⟩ := row8_own HO1.out (by omega)
  have hR2 : Row8 w2 g1 (n2 + 4) := by
    obtain ⟨C, hC, hall⟩ := hR1
    exact ⟨C, blk_below HB2.out hC hlt1, hall⟩
  have HR2 := hidd hR2
  clear hR1 hR2
  go_loopw [9, 36] (fun _ i wr => ∃ k : Nat, k ≤ n2 + 4 ∧ i = .int .i64 k ∧ w2.grownBy wr (some g1) ∧ Row8 wr g1 (n2 + 4)) (fun _ i _ => n2 + 4 - (intOf i).toNat)
  case atStart => exact ⟨0, by omega, rfl, gb_refl _ _, HR2.out⟩
  case round =>
    obtain ⟨k, hk, rfl, hgb, hrow⟩ := hrel
    have HGB := hidd hgb
    have HROW := hidd hrow
    clear hgb
    by_cases hlt : k < n2 + 4
    · obtain ⟨C, hC, hall⟩ := hrow
      obtain ⟨y, hy⟩ := hall k hlt
      have hc : wr.cell? ⟨g1, k, none⟩ = some (.int .u8 y) := by rw [cell_of_row wr g1 k C 5 (0, 0) hC]; exact hy
      have hf := frozen_of_row wr g1 k C 5 hC
      clear hC hall hy
      go_wp2
      go_roundw
      case rel => exact ⟨k + 1, by omega, by go_num, gb_set HGB.out rfl _, row8_set HROW.out _⟩
      case measure => simp [intOf]; omega
    · clear hrow
      have BW := HB1.out.trans (HB2.out.mono HB1.out.size)
      have BR := BW.trans (gb_below (B := w.heap.size) HGB.out (by omega) BW.size)
      have HBR := hidd BR
      have CX := hidd (sl_grown (owned_Bs HO2.out) HGB.out (by intro b off ha _; have := own_addr HO2.out b off ha; omega))
      have CB := hidd (Bs.grow HB.out BR)
      clear BW BR
      obtain ⟨wo, rfl⟩ : ∃ wo : World, wo = wr := ⟨_, rfl⟩
      have s1 := HB1.out.size
      have s2 := HB2.out.size
      have s3 := HBR.out.size
      have s4 := HGB.out.size
      have cx := conv_at CX.out wo (Below.refl _ _)
      have cb := conv_at CB.out wo (Below.refl _ _)
      go_wp2_with fail
      go_loopw [10, 61] (fun _ i w5 => ∃ k : Nat, k ≤ n2 ∧ i = .int .i64 k ∧ Below w1.heap.size wo w5 ∧ ∀ g2, a2 = some ⟨g2, 0, none⟩ → Row8 w5 g2 n2) (fun _ i _ => n2 - (intOf i).toNat)
      case atStart =>
        refine ⟨0, by omega, rfl, Below.refl _ _, fun g2 hg2 => ?_⟩
        rcases Nat.eq_zero_or_pos n2 with h0 | h0
        · subst h0
          obtain ⟨C, hC, _⟩ := HROW.out
          obtain ⟨_, hv⟩ := HO2.out
          rcases hv with ⟨hv, _⟩ | ⟨g, cap, cur, hv, hg, hh, _⟩
          · injection hv with q1
            rw [hg2] at q1
            cases q1
          · injection hv with q1
            rw [hg2] at q1
            injection q1 with q1
            injection q1 with q1
            subst q1
            exact ⟨cur, (HGB.out.block g2 (Array.getElem?_eq_some_iff.1 hh).1 (by simp; omega)).trans hh, fun i hi => by omega⟩
        · obtain ⟨g, hga, hgb, hgl, hR⟩ := row8_own HO2.out h0
          rw [hg2] at hga
          injection hga with hga
          injection hga with hga
          subst hga
          obtain ⟨C, hC, hall⟩ := hR
          exact ⟨C, (HGB.out.block g2 hgl (by simp; omega)).trans hC, hall⟩
      case round =>
        obtain ⟨k, hk, rfl, hb5, hrow⟩ := hrel
        have HB5 := hidd hb5
        have HROW5 := hidd hrow
        clear hb5 hrow cx cb
        by_cases hlt : k < n2
        · obtain ⟨g2, rfl, hg2, hl2, _⟩ := row8_own HO2.out (by omega)
          obtain ⟨C, hC, hall⟩ := HROW5.out g2 rfl
          obtain ⟨y, hy⟩ := hall k hlt
          have hc : wr.cell? ⟨g2, k, none⟩ = some (.int .u8 y) := by rw [cell_of_row wr g2 k C 5 (0, 0) hC]; exact hy
          have hf := frozen_of_row wr g2 k C 5 hC
          clear hC hall hy
          go_wp2
          go_roundw
          case rel =>
            refine ⟨k + 1, by omega, by go_num, HB5.out.setCell hg2 _, fun g hg => ?_⟩
            injection hg with hg
            injection hg with hg
            subst hg
            exact row8_set (HROW5.out g2 rfl) _
          case measure => simp [intOf]; omega
        · have BF := HBR.out.trans (HB5.out.mono HB1.out.size)
          have cb := conv_at (Bs.grow HB.out BF) wr (Below.refl _ _)
          have HBF := hidd BF
          clear BF
          go_wp2_with (go_at_call 10; refine (wakes_any _).mono ?_; rintro e w7 ⟨rfl, hb7⟩)
          go_ret
          exact ⟨rfl, HBF.out.trans (hb7.mono HBF.out.size)⟩
set_option maxHeartbeats 400000 in
theorem own_long (a : Option Addr) (n c : Nat) (s : Int) (w : World) (h : 20000 < n) (m0 : n ≤ 9223372036854775807) :
    Calls Try.prog 7 #[.slice a n c, .int .u8 s] w fun e w' => e = .returned (.bool true) ∧ Below w.heap.size w w' := by
  go_enter Try.func7, Try.ntmps7
  go_wp2_with (go_at_call 10; refine (wakes_any _).mono ?_; rintro e w3 ⟨rfl, hb3⟩)
  go_ret
  exact ⟨rfl, hb3⟩
end Go.Proofs.Ytheodlbbalbliaa
