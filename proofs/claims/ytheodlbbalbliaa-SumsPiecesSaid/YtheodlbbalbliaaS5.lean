import Derived.Test.YtheodlbbalbliaaS4
import Derived.Test.YtheodlbbalbliaaT2
namespace Go.Proofs.Ytheodlbbalbliaa
open Go.RowKit
theorem join_n (s : BitVec 32) (a : Option Addr) (l : List UInt8) (n c : Nat) (w : World) (hn : n = l.length) (hr : Reads w a l) (hl : l.length ≤ 4294967296) :
    Calls Try.prog 11 #[.int .u32 (U s), .slice a n c] w fun e w' => e = .returned (.int .u32 (U (jn s l))) ∧ Below w.heap.size w w' := by subst hn; exact join_any s a l c w hr hl
theorem Reads.below {w w' : World} {a : Option Addr} {l : List UInt8} (h : Reads w a l) (hb : Below w.heap.size w w') : Reads w' a l := by
  intro i hi
  obtain ⟨b, off, ha, hc⟩ := h i hi
  exact ⟨b, off, ha, (hb.cell (p := ⟨b, off + i, none⟩) (block_lt_of_cell hc)).trans hc⟩
theorem jn_cut (l : List UInt8) (p k : Nat) (h : p ≤ k) (hk : k ≤ l.length) : jn (jn 0 (l.take p)) ((l.take k).drop p) = jn 0 (l.take k) := by
  have e : l.take k = l.take p ++ (l.take k).drop p := by
    have := List.take_append_drop p (l.take k)
    rw [List.take_take, Nat.min_eq_left h] at this
    exact this.symm
  unfold jn
  rw [BitVec.not_not]
  congr 1
  conv => rhs; rw [e]
  simp [thr, List.foldl_append]
theorem join_cut {w : World} {a : Option Addr} {l : List UInt8} (hr : Reads w a l) (p k c : Nat) (h1 : p ≤ k) (h2 : k ≤ l.length) (h3 : l.length ≤ c) (hl : l.length ≤ 20000) (n : Nat) (hn : n = k - p) (c' : Nat) (a' : Option Addr) (ha : a' = cutAt a p c) :
    Calls Try.prog 11 #[.int .u32 (U (jn 0 (l.take p))), .slice a' n c'] w fun e w' => e = .returned (.int .u32 (U (jn 0 (l.take k)))) ∧ Below w.heap.size w w' := by
  subst ha
  have h := join_n (jn 0 (l.take p)) (cutAt a p c) ((l.take k).drop p) n c' w (by simp; omega) (reads_cut hr p k c h1 h2 (by omega)) (by simp; omega)
  rw [jn_cut l p k h1 h2] at h
  exact h
set_option maxHeartbeats 1000000 in
theorem pieces_walk (a : Option Addr) (l : List UInt8) (c : Nat) (a1 : Option Addr) (n1 c1 : Nat) (w : World) (hr : Reads w a l) (hl : l.length ≤ 20000) (hc : l.length ≤ c) (hc1 : c ≤ 9223372036854775807) (hn1 : n1 ≤ 100)
   (hcut : ∀ i, i < n1 → ∃ b off, a1 = some ⟨b, off, none⟩ ∧ ∃ z : Int, -9223372036854775808 ≤ z ∧ z ≤ 9223372036854775807 ∧ w.cell? ⟨b, off + i, none⟩ = some (.int .i64 z)) :
    Calls Try.prog 3 #[.slice a l.length c, .slice a1 n1 c1] w fun e w' => e = .returned (.bool true) ∧ Below w.heap.size w w' := by
  go_enter Try.func3, Try.ntmps3
  go_wp2_with fail
  go_loopw [5, 6, 8, 9, 21] (fun s p _ _ i wr => ∃ k p' : Nat, k ≤ n1 ∧ p' ≤ l.length ∧ i = .int .i64 k ∧ p = .int .i64 p' ∧ s = .int .u32 (U (jn 0 (l.take p'))) ∧ Below w.heap.size w wr) (fun _ _ _ _ i _ => n1 - (intOf i).toNat)
  case atStart => exact ⟨0, 0, by omega, by omega, rfl, rfl, by rw [List.take_zero, sum_nil], Below.refl _ _⟩
  case round =>
    obtain ⟨k, p, hk, hp, rfl, rfl, rfl, hb⟩ := hrel
    have hrr := hr.below hb
    by_cases hlt : k < n1
    · obtain ⟨b, off, rfl, z, hz0, hz1, hcz⟩ := hcut k hlt
      have hcw : wr.cell? ⟨b, off + k, none⟩ = some (.int .i64 z) := (hb.cell (p := ⟨b, off + k, none⟩) (block_lt_of_cell hcz)).trans hcz
      clear hcut hcz
      have hcl := fun W lo hi h0 h1 h2 => run_cut_lh (P := Try.prog) 22 5 Try.underlying22 (by kernel_rfl) W a l.length c .i64 .i64 lo hi h0 h1 h2
      have hsz : (Try.prog.info? 5).map (·.size) = some 1 := by kernel_rfl
      have HSZ := hidd hsz
      clear hsz hcl
      have HR := hidd hrr
      have HRR := hidd hr
      have HB := hidd hb
      clear hrr hr hb
      by_cases hA : z < p
      · go_wp2_with (first | (go_at_call 11; refine (join_cut HR.out p p c (by omega) (by omega) hc hl _ (by omega) _ _ rfl).mono ?_; rintro e w1 ⟨rfl, hb1⟩) | (with_reducible refine wpList_cut_lh 22 5 Try.underlying22 HSZ.out rfl _ _ _ rfl _ _ _ _ _ _ _ rfl rfl rfl (by omega) (by omega) (by omega) ?_))
        go_roundw
        case rel => exact ⟨k + 1, p, by omega, by omega, by go_num, rfl, rfl, HB.out.trans (hb1.mono HB.out.size)⟩
        case measure => simp [intOf]; omega
      · by_cases hB : z ≤ l.length
        · obtain ⟨m, rfl⟩ : ∃ m : Nat, z = m := ⟨z.toNat, by omega⟩
          go_wp2_with (first | (go_at_call 11; refine (join_cut HR.out p m c (by omega) (by omega) hc hl _ (by omega) _ _ rfl).mono ?_; rintro e w1 ⟨rfl, hb1⟩) | (with_reducible refine wpList_cut_lh 22 5 Try.underlying22 HSZ.out rfl _ _ _ rfl _ _ _ _ _ _ _ rfl rfl rfl (by omega) (by omega) (by omega) ?_))
          go_roundw
          case rel => exact ⟨k + 1, m, by omega, by omega, by go_num, rfl, rfl, HB.out.trans (hb1.mono HB.out.size)⟩
          case measure => simp [intOf]; omega
        · go_wp2_with (first | (go_at_call 11; refine (join_cut HR.out p l.length c (by omega) (by omega) hc hl _ (by omega) _ _ rfl).mono ?_; rintro e w1 ⟨rfl, hb1⟩) | (with_reducible refine wpList_cut_lh 22 5 Try.underlying22 HSZ.out rfl _ _ _ rfl _ _ _ _ _ _ _ rfl rfl rfl (by omega) (by omega) (by omega) ?_))
          go_roundw
          case rel => exact ⟨k + 1, l.length, by omega, by omega, by go_num, rfl, by rw [List.take_length]; rfl, HB.out.trans (hb1.mono HB.out.size)⟩
          case measure => simp [intOf]; omega
    · have hsz : (Try.prog.info? 5).map (·.size) = some 1 := by kernel_rfl
      have HSZ := hidd hsz
      have HR := hidd hrr
      have HRR := hidd hr
      have HB := hidd hb
      have hjc := join_cut HR.out p l.length c hp (Nat.le_refl _) hc hl _ rfl (c - p) _ rfl
      rw [List.take_length] at hjc
      have HJ := hidd hjc
      clear hrr hr hb hsz hjc
      go_wp2_with (first | (go_at_call 11; refine (HJ.out).mono ?_; rintro e w1 ⟨rfl, hb1⟩; have HB1 := hidd hb1; clear hb1) | (with_reducible refine wpList_cut_l 22 5 Try.underlying22 HSZ.out rfl _ _ rfl _ _ _ _ _ rfl rfl (by omega) (by omega) ?_) | (go_at_call 12; refine (sum_any _ _ _ _ (HR.out.below HB1.out) (by omega)).mono ?_; rintro e w2 ⟨rfl, hb2⟩; have HB2 := hidd hb2; clear hb2) | (go_at_call 10; refine (wakes_any _).mono ?_; rintro e w3 ⟨rfl, hb3⟩; have HB3 := hidd hb3; clear hb3))
      go_ret
      have B1 := HB.out.trans (HB1.out.mono HB.out.size)
      have B2 := B1.trans (HB2.out.mono B1.size)
      exact ⟨rfl, B2.trans (HB3.out.mono B2.size)⟩
set_option maxHeartbeats 400000 in
theorem pieces_long (v0 v1 : Option Addr) (n0 c0 n1 c1 : Nat) (w : World) (h : 20000 < n0 ∨ 100 < n1) (m0 : n0 ≤ 9223372036854775807) (m1 : n1 ≤ 9223372036854775807) :
    Calls Try.prog 3 #[.slice v0 n0 c0, .slice v1 n1 c1] w fun e w' => e = .returned (.bool true) ∧ Below w.heap.size w w' := by
  rcases Nat.lt_or_ge 20000 n0 with h | h0
  · go_enter Try.func3, Try.ntmps3
    go_wp2_with (go_at_call 10; refine (wakes_any _).mono ?_; rintro e w3 ⟨rfl, hb3⟩)
    go_ret
    exact ⟨rfl, hb3⟩
  · have h1 : 100 < n1 := by omega
    clear h
    go_enter Try.func3, Try.ntmps3
    go_wp2_with (go_at_call 10; refine (wakes_any _).mono ?_; rintro e w3 ⟨rfl, hb3⟩)
    go_ret
    exact ⟨rfl, hb3⟩
end Go.Proofs.Ytheodlbbalbliaa
