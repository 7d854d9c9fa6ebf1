import Derived.Test.YtheodlbbalbliaaV10
namespace Go.Proofs.Ytheodlbbalbliaa
open Go.RowKit
set_option maxHeartbeats 4000000 in
theorem pvalues_walk (x : Option Addr) (p q : Nat) (L : List UInt8) (a : Option Addr) (n c : Nat) (l : List UInt8) (W : World) (hx : Sl W x p q 8 (bs L)) (hp : p ≤ 1000) (hb : Bs W a n c l) (hn : n ≤ 8000) :
    Calls Try.prog 8 #[.slice x p q, .slice a n c] W fun e w' => e = .returned (.bool true) ∧ Below W.heap.size W w' := by
  have HX := hidd hx
  have HB := hidd hb
  obtain ⟨b0, b1, b2, b3, b4, b5, b6, b7, hv⟩ := bytes8 (valL_len l)
  have HV := hidd hv
  have hq := eq8v b0 b1 b2 b3 b4 b5 b6 b7
  clear hx hb hv
  go_enter Try.func8, Try.ntmps8
  go_wp2_with fail
  refine (read_any a n c l W HB.out hn).mono ?_
  rintro e w1 ⟨a1, c1, rfl, hs1, hb1⟩
  have HS1 := hidd hs1
  have HB1 := hidd hb1
  clear hs1 hb1
  go_wp2_with fail
  refine (rread_any a n c l w1 (HB.out.grow HB1.out) hn).mono ?_
  rintro e w2 ⟨a2, c2, rfl, hs2, hb2⟩
  have HS2 := hidd hs2
  have HB2 := hidd (HB1.out.trans (hb2.mono HB1.out.size))
  have HS3 := hidd (HS1.out.grow hb2)
  clear hs2 hb2
  go_wp2_with fail
  refine (value_any a n c l w2 (HB.out.grow HB2.out) hn).mono ?_
  rintro e w3 ⟨rfl, hb3⟩
  rw [HV.out]
  simp only [bs, List.map_cons, List.map_nil]
  have HB3 := hidd (HB2.out.trans (hb3.mono HB2.out.size))
  have HS4 := hidd (HS3.out.grow hb3)
  have HS5 := hidd (HS2.out.grow hb3)
  clear hb3
  go_wp2_with fail
  refine (rvalue_any a n c l _ (HB.out.grow (HB3.out.alloc HB3.out.size _)) hn).mono ?_
  rintro e w4 ⟨rfl, hb4⟩
  rw [HV.out]
  simp only [bs, List.map_cons, List.map_nil]
  have HB4 := hidd ((HB3.out.alloc HB3.out.size _).trans (hb4.mono (by have := HB3.out.size; simp; omega)))
  have HS6 := hidd ((HS4.out.grow ((Below.refl _ _).alloc (Nat.le_refl _) _)).grow hb4)
  have HS7 := hidd ((HS5.out.grow ((Below.refl _ _).alloc (Nat.le_refl _) _)).grow hb4)
  have G1 := hidd (blk_below hb4 (heap_alloc_new w3 _) (by simp))
  have hs3 : w3.heap.size + 1 ≤ w4.heap.size := by have := hb4.size; simpa using this
  clear hb4
  go_wp2_with fail
  refine (values_any x p q L _ (HX.out.grow (HB4.out.alloc HB4.out.size _)) hp).mono ?_
  rintro e w5 ⟨a5, c5, rfl, ho5, hb5⟩
  obtain ⟨z1, z2, e5, hs5⟩ := own_Sl ho5
  injection e5 with q1 q2 q3
  subst q1 q3
  have S4 := HB4.out.size
  have Y4 : w3.heap.size + 1 ≤ w4.heap.size := hs3
  have HB5 := hidd ((HB4.out.alloc HB4.out.size _).trans (hb5.mono (by simp; omega)))
  have HS8 := hidd ((HS6.out.grow ((Below.refl _ _).alloc (Nat.le_refl _) _)).grow hb5)
  have HS9 := hidd ((HS7.out.grow ((Below.refl _ _).alloc (Nat.le_refl _) _)).grow hb5)
  have G2 := hidd (blk_below hb5 ((show (w4.alloc _).heap[w3.heap.size]? = w4.heap[w3.heap.size]? from heap_alloc_old w4 _ (by omega)).trans G1.out) (by simp; omega))
  have G3 := hidd (blk_below hb5 (heap_alloc_new w4 _) (by simp))
  have HS5b := hidd hs5
  have hs4 : w4.heap.size + 1 ≤ w5.heap.size := by have := hb5.size; simpa using this
  clear hb5 ho5 hs5
  go_wp2_with fail
  refine (rvalues_any x p q L _ (HX.out.grow HB5.out) hp).mono ?_
  rintro e w6 ⟨a6, c6, rfl, ho6, hb6⟩
  obtain ⟨z3, z4, e6, hs6⟩ := own_Sl ho6
  injection e6 with q1 q2 q3
  subst q1 q3
  have HB6 := hidd (HB5.out.trans (hb6.mono HB5.out.size))
  have HS10 := hidd (HS8.out.grow hb6)
  have HS11 := hidd (HS9.out.grow hb6)
  have HS12 := hidd (HS5b.out.grow hb6)
  have G4 := hidd (blk_below hb6 G2.out (by omega))
  have G5 := hidd (blk_below hb6 G3.out (by omega))
  have HS6b := hidd hs6
  have hs5 : w5.heap.size ≤ w6.heap.size := hb6.size
  clear hb6 ho6 hs6
  go_wp2_with fail
  refine (bytes_any _ _ _ _ _ _ L L w6 HS12.out HS6b.out).mono ?_
  rintro e w7 ⟨rfl, rfl⟩
  rw [beq_self_eq_true]
  go_wp2_with fail
  have hrd : rdM l ≤ 1000 := by
    unfold rdM
    have := HB.out.len
    split <;> omega
  refine (veq_any a1 a2 (rdM l) c1 c2 (rdL l) w6 HS10.out HS11.out hrd).mono ?_
  rintro e w7 ⟨rfl, hb7⟩
  clear hrd
  have HB7 := hidd (HB6.out.trans (hb7.mono HB6.out.size))
  obtain ⟨k1, f1⟩ := blk (blk_below hb7 G4.out (by omega))
  obtain ⟨k2, f2⟩ := blk (blk_below hb7 G5.out (by omega))
  clear hb7
  go_wp2_with fail
  refine (wakes2_any w7).mono ?_
  rintro e w8 ⟨rfl, hb8⟩
  go_wp2_with fail
  go_ret
  exact ⟨rfl, HB7.out.trans (hb8.mono HB7.out.size)⟩
set_option maxHeartbeats 400000 in
theorem pvalues_long (x : Option Addr) (p q : Nat) (a : Option Addr) (n c : Nat) (W : World) (h : 1000 < p ∨ 8000 < n) (m0 : p ≤ 9223372036854775807) (m1 : n ≤ 9223372036854775807) :
    Calls Try.prog 8 #[.slice x p q, .slice a n c] W fun e w' => e = .returned (.bool true) ∧ Below W.heap.size W w' := by
  by_cases h1 : 1000 < p
  · clear h
    go_enter Try.func8, Try.ntmps8
    go_wp2_with (go_at_call 13; refine (wakes2_any _).mono ?_; rintro e w3 ⟨rfl, hb3⟩)
    go_ret
    exact ⟨rfl, hb3⟩
  · have h2 : 8000 < n := by omega
    clear h
    go_enter Try.func8, Try.ntmps8
    go_wp2_with (go_at_call 13; refine (wakes2_any _).mono ?_; rintro e w3 ⟨rfl, hb3⟩)
    go_ret
    exact ⟨rfl, hb3⟩
end Go.Proofs.Ytheodlbbalbliaa
