import Derived.Test.YtheodlbbalbliaaB1
import Derived.Test.YtheodlbbalbliaaM5
namespace Go.Proofs.Ytheodlbbalbliaa
open Go.RowKit
theorem U_or1 (x : BitVec 32) : bits .or .u32 (U x) 1 = U (x ||| 1#32) := by
  show IntKind.u32.wrap ((BitVec.ofInt 32 (x.toNat : Int) ||| BitVec.ofInt 32 1).toNat : Int) = _
  rw [ofInt_toNat, IntKind.wrap_u32, show BitVec.ofInt 32 1 = 1#32 from rfl]
  have := (x ||| 1#32).isLt
  unfold U
  omega
theorem U_bit (x : BitVec 32) (i : Nat) : bits .and .u32 (U x / 2 ^ i) 1 = if x.getLsbD i then 1 else 0 := by
  have e : U x / 2 ^ i = U (x >>> i) := by
    unfold U
    rw [BitVec.toNat_ushiftRight, Nat.shiftRight_eq_div_pow]
    have : (2 : Int) ^ i = ((2 ^ i : Nat) : Int) := by rw [Int.natCast_pow]; rfl
    rw [this]
    omega
  rw [e, bit0, BitVec.getLsbD_ushiftRight, Nat.add_zero]
/-- the row behind i of the 32 bits -/
def SRow (w : World) (g n : Nat) (l : List UInt8) (at' : Nat) (f : Nat → Bool) (i : Nat) : Prop :=
  ∃ C : Array Value, w.heap[g]? = some (.cells C 5 (0, 0)) ∧ ∀ j, j < n → C[j]? = some (.int .u8 (((l.getD j 0) ^^^ (byteG fun m => gI at' f i (8 * j + m))).toNat : Int))
theorem byteG_congr {h h' : Nat → Bool} (e : ∀ i, i < 8 → h i = h' i) : byteG h = byteG h' := by
  apply u8_ext
  intro i hi
  rw [byteG_bit _ _ hi, byteG_bit _ _ hi, e i hi]
theorem gI_skip {at' : Nat} {f : Nat → Bool} {i : Nat} (hf : f i = false) (q : Nat) : gI at' f (i + 1) q = gI at' f i q := by
  unfold gI
  by_cases h : q = at' + i
  · subst h
    simp [hf]
  · have : decide (q < at' + (i + 1)) = decide (q < at' + i) := decide_eq_decide.2 (by omega)
    rw [this]
theorem gI_hit {at' : Nat} {f : Nat → Bool} {i : Nat} (hf : f i = true) (q : Nat) : gI at' f (i + 1) q = (gI at' f i q ^^ decide (q = at' + i)) := by
  unfold gI
  by_cases h : q = at' + i
  · subst h
    simp [hf]
  · have : decide (q < at' + (i + 1)) = decide (q < at' + i) := decide_eq_decide.2 (by omega)
    rw [this]
    simp [h]
theorem byte_hit {at' : Nat} {f : Nat → Bool} {i j : Nat} (hf : f i = true) :
    (byteG fun m => gI at' f (i + 1) (8 * j + m)) = (byteG fun m => gI at' f i (8 * j + m)) ^^^ (if j = (at' + i) / 8 then UInt8.ofNat (2 ^ ((at' + i) % 8)) else 0) := by
  apply u8_ext
  intro m hm
  rw [byteG_bit _ _ hm, UInt8.toNat_xor, Nat.testBit_xor, byteG_bit _ _ hm, gI_hit hf]
  congr 1
  by_cases h : j = (at' + i) / 8
  · rw [if_pos h, UInt8.toNat_ofNat', Nat.testBit_mod_two_pow, Nat.testBit_two_pow]
    simp [hm]
    omega
  · rw [if_neg h]
    have : (0 : UInt8).toNat = 0 := rfl
    rw [this, Nat.zero_testBit, decide_eq_false]
    omega
theorem u8_xor (y z : UInt8) : bits .xor .u8 (y.toNat : Int) (z.toNat : Int) = ((y ^^^ z).toNat : Int) := by
  show IntKind.u8.wrap ((BitVec.ofInt 8 (y.toNat : Int) ^^^ BitVec.ofInt 8 (z.toNat : Int)).toNat : Int) = _
  have e : ∀ a : UInt8, BitVec.ofInt 8 (a.toNat : Int) = a.toBitVec := by
    intro a
    rw [BitVec.ofInt_natCast]
    apply BitVec.eq_of_toNat_eq
    rw [BitVec.toNat_ofNat]
    exact Nat.mod_eq_of_lt a.toNat_lt
  rw [e, e, IntKind.wrap_u8, UInt8.toNat_xor, BitVec.toNat_xor]
  have h1 : (y.toBitVec.toNat ^^^ z.toBitVec.toNat) < 2 ^ 8 := Nat.xor_lt_two_pow y.toNat_lt z.toNat_lt
  show ((y.toNat ^^^ z.toNat : Nat) : Int) % 256 = _
  have : y.toNat ^^^ z.toNat < 256 := h1
  omega
theorem xor_pow (z : UInt8) (m : Nat) (hm : m < 8) : bits .xor .u8 (z.toNat : Int) ((2 : Int) ^ m % 256) = ((z ^^^ UInt8.ofNat (2 ^ m)).toNat : Int) := by
  have e : (2 : Int) ^ m % 256 = (((UInt8.ofNat (2 ^ m)).toNat : Nat) : Int) := by
    rw [UInt8.toNat_ofNat', show (2 : Int) ^ m = ((2 ^ m : Nat) : Int) by rw [Int.natCast_pow]; rfl]
    omega
  rw [e, u8_xor]
theorem srow_hit {w : World} {g n : Nat} {l : List UInt8} {at' : Nat} {f : Nat → Bool} {i : Nat} (h : SRow w g n l at' f i) (hf : f i = true) (hj : (at' + i) / 8 < n) {z : UInt8}
    (hz : z = l.getD ((at' + i) / 8) 0 ^^^ (byteG fun m => gI at' f i (8 * ((at' + i) / 8) + m))) :
    SRow (w.setCell ⟨g, (at' + i) / 8, none⟩ (.int .u8 ((z ^^^ UInt8.ofNat (2 ^ ((at' + i) % 8))).toNat : Int))) g n l at' f (i + 1) := by
  obtain ⟨C, hC, hall⟩ := h
  refine ⟨_, hs_same hC, fun j hjn => ?_⟩
  have h0 := hall j hjn
  have hlt := (Array.getElem?_eq_some_iff.1 h0).1
  rw [byte_hit hf]
  by_cases he : j = (at' + i) / 8
  · subst he
    rw [Array.getElem?_setIfInBounds_self_of_lt hlt, if_pos rfl, hz, UInt8.xor_assoc]
  · rw [Array.getElem?_setIfInBounds_ne (fun e => he e.symm), h0, if_neg he, UInt8.xor_zero]
theorem srow_Bs {w : World} {g n c : Nat} {l : List UInt8} {at' : Nat} {f : Nat → Bool} {i : Nat} (h : SRow w g n l at' f i) (hl : l.length = n) (hle : n ≤ c) (hm : c ≤ 9223372036854775807) :
    Bs w (some ⟨g, 0, none⟩) n c (List.zipWith (· ^^^ ·) l (errb (gI at' f i) n)) := by
  obtain ⟨C, hC, hall⟩ := h
  have hlen : (List.zipWith (· ^^^ ·) l (errb (gI at' f i) n)).length = n := by simp [errb, hl]
  refine ⟨by rw [bs_length, hlen]; omega, hle, hm, fun e => by simp at e, fun j hj => ⟨g, 0, rfl, ?_⟩⟩
  rw [bs_length, hlen] at hj
  rw [Nat.zero_add, cell_of_row w g j C 5 (0, 0) hC, hall j hj, bs_get _ _ (by rw [hlen]; exact hj)]
  congr 4
  have hjl : j < l.length := by omega
  simp [List.getD_eq_getElem?_getD, errb, hjl, hj, List.getElem?_zipWith]
set_option maxRecDepth 100000 in
set_option maxHeartbeats 4000000 in
theorem sopen_walk (x : BitVec 32) (p : Int) (a : Option Addr) (n c : Nat) (l : List UInt8) (w : World) (h : Bs w a n c l) (hl : n ≤ 20000) (hp0 : -9223372036854775808 ≤ p) (hp1 : p ≤ 9223372036854775807) :
    Calls Try.prog 6 #[.slice a n c, .int .u32 (U x), .int .i64 p] w fun e w' => e = .returned (.bool true) ∧ Below w.heap.size w w' := by
  have HB := hidd h
  have HOS := hidd (opens_seal l)
  have t0 : -(8 * (n : Int) + 1) < p.tmod (8 * (n : Int) + 1) := by
    have := Int.lt_tmod_of_pos p (show (0 : Int) < 8 * (n : Int) + 1 by omega)
    omega
  have t1 : p.tmod (8 * (n : Int) + 1) < 8 * (n : Int) + 1 := Int.tmod_lt_of_pos p (by omega)
  have hor := U_or1 x
  have hy0 : (x ||| 1#32).getLsbD 0 = true := by simp
  generalize x ||| 1#32 = y at hor hy0
  have HY0 := hidd hy0
  have yl := U_lo y
  have yh := U_hi y
  clear h hy0
  go_enter Try.func6, Try.ntmps6
  go_wp2_with (first | (go_at_call 25; refine (seal_any _ _ _ _ _ HB.out (by omega)).mono ?_; rintro e w1 ⟨a1, c1, rfl, ho1, hb1⟩; have HB1 := hidd hb1; have HO1 := hidd ho1; clear hb1 ho1) | (go_at_call 21; refine (open_any _ _ _ _ _ (owned_Bs HO1.out) (by omega)).mono ?_; rintro e w2 ⟨a2, n2, c2, rfl, ho2, hb2⟩; rw [HOS.out.1]; have HB2 := hidd hb2; have HO2 := hidd (show w2.ownsRow w1.heap.size 5 1 (.slice a2 n2 c2) n2 (bs l) by rw [HOS.out.2] at ho2; exact ho2); have cx := conv_at (owned_Bs HO2.out) w2 (Below.refl _ _); have cb := conv_at (Bs.grow HB.out (HB1.out.trans (HB2.out.mono HB1.out.size))) w2 (Below.refl _ _); clear hb2 ho2))
  have hn2 : n2 = n := by have := (owned_Bs HO2.out).len; have := HB.out.len; omega
  subst hn2
  obtain ⟨q, hq, hq2⟩ : ∃ q : Nat, (p.tmod (8 * (n2 : Int) + 1) + (8 * (n2 : Int) + 1)) % (8 * (n2 : Int) + 1) = (q : Int) ∧ q ≤ 8 * n2 := by
    have b0 := Int.emod_nonneg (p.tmod (8 * (n2 : Int) + 1) + (8 * (n2 : Int) + 1)) (show (8 * (n2 : Int) + 1) ≠ 0 by omega)
    have b1 := Int.emod_lt_of_pos (p.tmod (8 * (n2 : Int) + 1) + (8 * (n2 : Int) + 1)) (show (0 : Int) < 8 * (n2 : Int) + 1 by omega)
    exact ⟨((p.tmod (8 * (n2 : Int) + 1) + (8 * (n2 : Int) + 1)) % (8 * (n2 : Int) + 1)).toNat, by omega, by omega⟩
  rw [hq]
  have HSL := hidd (show (sealL l).length = n2 + 4 by have := HB.out.len; simp [sealL, le]; omega)
  obtain ⟨g1, hg1, hlt1, hown⟩ : ∃ g, a1 = some ⟨g, 0, none⟩ ∧ (w.heap.size ≤ g ∧ g < w1.heap.size) ∧ SRow w2 g (n2 + 4) (sealL l) q (fun t => y.getLsbD t) 0 := by
    obtain ⟨hl', hv⟩ := HO1.out
    rcases hv with ⟨_, hz⟩ | ⟨g, cap, cur, hv, hg, hh, h1, h2, h3, h4⟩
    · omega
    · injection hv with q1 q2 q3
      have hgl := (Array.getElem?_eq_some_iff.1 hh).1
      refine ⟨g, q1, ⟨hg, hgl⟩, cur, blk_below HB2.out hh hgl, fun j hj => ?_⟩
      have e1 : cur[j]? = (bs (sealL l))[j]? := by rw [← h4, List.getElem?_take, if_pos (by omega), Array.getElem?_toList]
      rw [e1, bs_get _ _ (by rw [HSL.out]; exact hj)]
      have e2 : (byteG fun m => gI q (fun t => y.getLsbD t) 0 (8 * j + m)) = 0 := by
        apply u8_ext
        intro m hm
        rw [byteG_bit _ _ hm]
        simp [gI]
        omega
      rw [e2, UInt8.xor_zero]
  subst hg1
  have HOWN := hidd hown
  obtain ⟨u0, u1⟩ := hlt1
  clear hown hq t0 t1 hor cx cb
  go_loopw [11, 12] (fun i _ wr => ∃ k : Nat, k ≤ 32 ∧ i = .int .i64 k ∧ SRow wr g1 (n2 + 4) (sealL l) q (fun t => y.getLsbD t) k ∧ w2.grownBy wr (some g1)) (fun i _ _ => 32 - (intOf i).toNat)
  case atStart => exact ⟨0, by omega, rfl, HOWN.out, gb_refl _ _⟩
  case round =>
    obtain ⟨k, hk, rfl, hrow, hgb⟩ := hrel
    have HGB := hidd hgb
    have HROW := hidd hrow
    clear hgb hrow
    by_cases hlt : k < 32
    · have hbit := U_bit y k
      cases hb : y.getLsbD k
      · rw [hb] at hbit
        simp only [Bool.false_eq_true, if_false] at hbit
        have HN := hidd hb
        clear hb
        go_wp2
        go_roundw
        case rel =>
          refine ⟨k + 1, by omega, by go_num, ?_, HGB.out⟩
          obtain ⟨C, hC, hall⟩ := HROW.out
          refine ⟨C, hC, fun j hj => ?_⟩
          rw [hall j hj, byteG_congr (fun m _ => (gI_skip HN.out (8 * j + m)))]
        case measure => simp [intOf]; omega
      · rw [hb] at hbit
        simp only [if_true] at hbit
        have HN := hidd hb
        clear hb
        obtain ⟨C, hC, hall⟩ := HROW.out
        have hjl : (q + k) / 8 < n2 + 4 := by omega
        have hc := hall _ hjl
        obtain ⟨z, hz⟩ : ∃ z, z = (sealL l).getD ((q + k) / 8) 0 ^^^ (byteG fun m => gI q (fun t => y.getLsbD t) k (8 * ((q + k) / 8) + m)) := ⟨_, rfl⟩
        rw [← hz] at hc
        have HZ := hidd hz
        have hcell : wr.cell? ⟨g1, (q + k) / 8, none⟩ = some (.int .u8 (z.toNat : Int)) := by rw [cell_of_row wr g1 _ C 5 (0, 0) hC]; exact hc
        have hfr := frozen_of_row wr g1 ((q + k) / 8) C 5 hC
        have zl := z.toNat_lt
        clear hC hall hc hz
        go_wp2_with fail
        go_region
        rw [xor_pow z _ (Nat.mod_lt _ (by decide))]
        go_wp2
        go_roundw
        case rel => exact ⟨k + 1, by omega, by go_num, srow_hit HROW.out HN.out hjl HZ.out, gb_drew (gb_set HGB.out rfl _)⟩
        case measure => simp [intOf]; omega
    · obtain rfl : k = 32 := by omega
      have hcs : n2 + 4 ≤ c1 ∧ c1 ≤ 9223372036854775807 := ⟨(owned_Bs HO1.out).le, (owned_Bs HO1.out).max⟩
      have HS := hidd (srow_Bs HROW.out HSL.out hcs.1 hcs.2)
      have HN := hidd (burst_told l (errb (gI q (fun t => y.getLsbD t) 32) (n2 + 4)) (by have := HB.out.len; simp [errb]; omega) (errb_ne q (n2 + 4) _ (by omega) HY0.out))
      have BW := HB1.out.trans (HB2.out.mono HB1.out.size)
      have HBR := hidd (BW.trans (gb_below (B := w.heap.size) HGB.out u0 BW.size))
      clear BW hcs
      go_wp2_with (first | (go_at_call 21; refine (open_any _ _ _ _ _ HS.out (by omega)).mono ?_; rintro e w5 ⟨a5, n5, c5, rfl, ho5, hb5⟩; rw [HN.out]; have HB5 := hidd (HBR.out.trans (hb5.mono HBR.out.size)); clear hb5 ho5) | (go_at_call 10; refine (wakes_any _).mono ?_; rintro e w7 ⟨rfl, hb7⟩; have HB7 := hidd (HB5.out.trans (hb7.mono HB5.out.size)); clear hb7))
      go_ret
      exact ⟨rfl, HB7.out⟩
set_option maxHeartbeats 400000 in
theorem sopen_long (a : Option Addr) (n c : Nat) (s p : Int) (w : World) (h : 20000 < n) (m0 : n ≤ 9223372036854775807) :
    Calls Try.prog 6 #[.slice a n c, .int .u32 s, .int .i64 p] w fun e w' => e = .returned (.bool true) ∧ Below w.heap.size w w' := by
  go_enter Try.func6, Try.ntmps6
  go_wp2_with (go_at_call 10; refine (wakes_any _).mono ?_; rintro e w3 ⟨rfl, hb3⟩)
  go_ret
  exact ⟨rfl, hb3⟩
end Go.Proofs.Ytheodlbbalbliaa
