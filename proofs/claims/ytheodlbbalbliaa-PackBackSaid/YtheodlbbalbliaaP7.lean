import Derived.Test.YtheodlbbalbliaaP6
namespace Go.Proofs.Ytheodlbbalbliaa
open Go.RowKit
def putL (l : List UInt8) (N w : Int) : List UInt8 := if fits N w = true then l ++ le w.toNat N.toNat else []
def putE (N w : Int) : Int := if fits N w = true then 0 else 2
def getN (l : List UInt8) (p w : Int) : Int := if w < 1 ∨ 6 < w then 0 else if p < 0 ∨ (l.length : Int) < p + w then 0 else num ((l.drop p.toNat).take w.toNat)
def getE (l : List UInt8) (p w : Int) : Int := if w < 1 ∨ 6 < w then 2 else if p < 0 ∨ (l.length : Int) < p + w then 40 else 0
theorem put_any (a : Option Addr) (n c : Nat) (l : List UInt8) (N w : Int) (W : World) (hb : Bs W a n c l) (hn : n ≤ 5000) (hn0 : -9223372036854775808 ≤ N) (hn1 : N ≤ 9223372036854775807) (hw0 : -9223372036854775808 ≤ w) (hw1 : w ≤ 9223372036854775807) :
    Calls Try.prog 14 #[.slice a n c, .int .i64 N, .int .i64 w] W fun e w' => ∃ a' m c', e = .returned (.tuple #[.slice a' m c', .int .i64 (putE N w)]) ∧ Bs w' a' m c' (putL l N w) ∧ m ≤ 5006 ∧ Below W.heap.size W w' := by
  by_cases hf : fits N w = true
  · obtain ⟨h1, h2, h3⟩ : 1 ≤ w ∧ w ≤ 6 ∧ 0 ≤ N := by
      simp only [fits, Bool.and_eq_true, decide_eq_true_eq] at hf
      exact ⟨hf.1.1.1, hf.1.1.2, hf.1.2⟩
    obtain ⟨N, rfl⟩ : ∃ M : Nat, N = M := ⟨N.toNat, by omega⟩
    obtain ⟨w, rfl⟩ : ∃ M : Nat, w = M := ⟨w.toNat, by omega⟩
    refine (put_yes a n c l N w W hb (by omega) hf).mono ?_
    rintro e w' ⟨a', c', rfl, ho, hbel⟩
    obtain ⟨a2, c2, he, hs⟩ := own_Sl ho
    injection he with q1 q2 q3
    subst q1
    subst q3
    refine ⟨_, _, _, by rw [putE, if_pos hf], ?_, by omega, hbel⟩
    rw [putL, if_pos hf]
    exact hs
  · refine (put_no a n c N w W hn0 hn1 hw0 hw1 (by simpa using hf)).mono ?_
    rintro e w' ⟨rfl, rfl⟩
    refine ⟨_, _, _, by rw [putE, if_neg hf], ?_, by omega, Below.refl _ _⟩
    rw [putL, if_neg hf]
    exact Sl.none _ _
theorem rput_any (a : Option Addr) (n c : Nat) (l : List UInt8) (N w : Int) (W : World) (hb : Bs W a n c l) (hn : n ≤ 5000) (hn0 : -9223372036854775808 ≤ N) (hn1 : N ≤ 9223372036854775807) (hw0 : -9223372036854775808 ≤ w) (hw1 : w ≤ 9223372036854775807) :
    Calls Try.prog 15 #[.slice a n c, .int .i64 N, .int .i64 w] W fun e w' => ∃ a' m c', e = .returned (.tuple #[.slice a' m c', .int .i64 (putE N w)]) ∧ Bs w' a' m c' (putL l N w) ∧ m ≤ 5006 ∧ Below W.heap.size W w' := by
  by_cases hf : fits N w = true
  · obtain ⟨h1, h2, h3⟩ : 1 ≤ w ∧ w ≤ 6 ∧ 0 ≤ N := by
      simp only [fits, Bool.and_eq_true, decide_eq_true_eq] at hf
      exact ⟨hf.1.1.1, hf.1.1.2, hf.1.2⟩
    obtain ⟨N, rfl⟩ : ∃ M : Nat, N = M := ⟨N.toNat, by omega⟩
    obtain ⟨w, rfl⟩ : ∃ M : Nat, w = M := ⟨w.toNat, by omega⟩
    refine (rput_yes a n c l N w W hb (by omega) hf).mono ?_
    rintro e w' ⟨a', c', rfl, ho, hbel⟩
    obtain ⟨a2, c2, he, hs⟩ := own_Sl ho
    injection he with q1 q2 q3
    subst q1
    subst q3
    refine ⟨_, _, _, by rw [putE, if_pos hf], ?_, by omega, hbel⟩
    rw [putL, if_pos hf]
    exact hs
  · refine (rput_no a n c N w W hn0 hn1 hw0 hw1 (by simpa using hf)).mono ?_
    rintro e w' ⟨rfl, rfl⟩
    refine ⟨_, _, _, by rw [putE, if_neg hf], ?_, by omega, Below.refl _ _⟩
    rw [putL, if_neg hf]
    exact Sl.none _ _
theorem get_any (a : Option Addr) (n c : Nat) (l : List UInt8) (p w : Int) (W : World) (hb : Bs W a n c l) (hn : n ≤ 5006) (hp0 : -9223372036854775808 ≤ p) (hp1 : p ≤ 9223372036854775807) :
    Calls Try.prog 16 #[.slice a n c, .int .i64 p, .int .i64 w] W fun e w' => e = .returned (.tuple #[.int .i64 (getN l p w), .int .i64 (getE l p w)]) ∧ W = w' := by
  have hl := hb.len
  unfold getN getE
  by_cases h1 : w < 1 ∨ 6 < w
  · rw [if_pos h1, if_pos h1]
    exact get_arg a n c p w W h1
  · rw [if_neg h1, if_neg h1]
    by_cases h2 : p < 0 ∨ (l.length : Int) < p + w
    · rw [if_pos h2, if_pos h2]
      rw [hl] at h2
      exact get_code a n c p w W (by omega) (by omega) (by omega) hp0 hp1 h2
    · rw [if_neg h2, if_neg h2]
      obtain ⟨p, rfl⟩ : ∃ M : Nat, p = M := ⟨p.toNat, by omega⟩
      obtain ⟨w, rfl⟩ : ∃ M : Nat, w = M := ⟨w.toNat, by omega⟩
      exact get_yes a n c l p w W hb (by omega) (by omega) (by omega) (by omega)
theorem rget_any (a : Option Addr) (n c : Nat) (l : List UInt8) (p w : Int) (W : World) (hb : Bs W a n c l) (hn : n ≤ 5006) (hp0 : -9223372036854775808 ≤ p) (hp1 : p ≤ 9223372036854775807) :
    Calls Try.prog 17 #[.slice a n c, .int .i64 p, .int .i64 w] W fun e w' => e = .returned (.tuple #[.int .i64 (getN l p w), .int .i64 (getE l p w)]) ∧ W = w' := by
  have hl := hb.len
  unfold getN getE
  by_cases h1 : w < 1 ∨ 6 < w
  · rw [if_pos h1, if_pos h1]
    exact rget_arg a n c p w W h1
  · rw [if_neg h1, if_neg h1]
    by_cases h2 : p < 0 ∨ (l.length : Int) < p + w
    · rw [if_pos h2, if_pos h2]
      rw [hl] at h2
      exact rget_code a n c p w W (by omega) (by omega) (by omega) hp0 hp1 h2
    · rw [if_neg h2, if_neg h2]
      obtain ⟨p, rfl⟩ : ∃ M : Nat, p = M := ⟨p.toNat, by omega⟩
      obtain ⟨w, rfl⟩ : ∃ M : Nat, w = M := ⟨w.toNat, by omega⟩
      exact rget_yes a n c l p w W hb (by omega) (by omega) (by omega) (by omega)

set_option maxHeartbeats 2000000 in
theorem numbers_walk (a : Option Addr) (n c : Nat) (l : List UInt8) (N w p : Int) (W : World) (hb : Bs W a n c l) (hn : n ≤ 5000) (hn0 : -9223372036854775808 ≤ N) (hn1 : N ≤ 9223372036854775807) (hw0 : -9223372036854775808 ≤ w) (hw1 : w ≤ 9223372036854775807) (hp0 : -9223372036854775808 ≤ p) (hp1 : p ≤ 9223372036854775807) :
    Calls Try.prog 4 #[.slice a n c, .int .i64 N, .int .i64 w, .int .i64 p] W fun e w' => e = .returned (.bool true) ∧ Below W.heap.size W w' := by
  have HB := hidd hb
  clear hb
  go_enter Try.func4, Try.ntmps4
  go_wp2_with fail
  refine (put_any a n c l N w W HB.out hn hn0 hn1 hw0 hw1).mono ?_
  rintro e w1 ⟨a1, m1, c1, rfl, hx, hm1, hb1⟩
  have HX := hidd hx
  have HB1 := hidd hb1
  clear hx hb1
  go_wp2_with fail
  refine (rput_any a n c l N w w1 (HB.out.grow HB1.out) hn hn0 hn1 hw0 hw1).mono ?_
  rintro e w2 ⟨a2, m2, c2, rfl, hy, hm2, hb2⟩
  have HY := hidd hy
  have HB2 := hidd (HB1.out.trans (hb2.mono HB1.out.size))
  have HX2 := hidd (Bs.grow HX.out hb2)
  clear hy hb2
  go_wp2_with fail
  refine (get_any a n c l p w w2 (HB.out.grow HB2.out) (by omega) hp0 hp1).mono ?_
  rintro e w3 ⟨rfl, rfl⟩
  go_wp2_with fail
  refine (rget_any a n c l p w w2 (HB.out.grow HB2.out) (by omega) hp0 hp1).mono ?_
  rintro e w3 ⟨rfl, rfl⟩
  go_wp2_with fail
  refine (bytes_any a1 a2 m1 c1 m2 c2 _ _ w2 HX2.out HY.out).mono ?_
  rintro e w3 ⟨rfl, rfl⟩
  rw [beq_self_eq_true]
  go_wp2_with fail
  refine (fits_any N w w2 hn0 hn1 hw0 hw1).mono ?_
  rintro e w3 ⟨rfl, rfl⟩
  go_wp2_with fail
  refine (rfits_any N w w2 hn0 hn1 hw0 hw1).mono ?_
  rintro e w3 ⟨rfl, rfl⟩
  go_wp2_with fail
  refine (wakes2_any w2).mono ?_
  rintro e w3 ⟨rfl, hb3⟩
  go_wp2_with fail
  go_ret
  exact ⟨rfl, HB2.out.trans (hb3.mono HB2.out.size)⟩
set_option maxHeartbeats 400000 in
theorem numbers_long (a : Option Addr) (n c : Nat) (N w p : Int) (W : World) (h : 5000 < n) (m0 : n ≤ 9223372036854775807) :
    Calls Try.prog 4 #[.slice a n c, .int .i64 N, .int .i64 w, .int .i64 p] W fun e w' => e = .returned (.bool true) ∧ Below W.heap.size W w' := by
  go_enter Try.func4, Try.ntmps4
  go_wp2_with (go_at_call 13; refine (wakes2_any _).mono ?_; rintro e w3 ⟨rfl, hb3⟩)
  go_ret
  exact ⟨rfl, hb3⟩
end Go.Proofs.Ytheodlbbalbliaa
