import Derived.Test.YtheodlbbalbliaaV5
namespace Go.Proofs.Ytheodlbbalbliaa
open Go.RowKit
theorem vT : ElT Try.prog 43 47 (.agg zero8) 8 8 := ⟨Try.underlying43, by kernel_rfl, rfl, by decide⟩
theorem bytes8 {l : List UInt8} (hl : l.length = 8) : ∃ b0 b1 b2 b3 b4 b5 b6 b7 : UInt8, l = [b0, b1, b2, b3, b4, b5, b6, b7] := by
  match l, hl with
  | [b0, b1, b2, b3, b4, b5, b6, b7], _ => exact ⟨_, _, _, _, _, _, _, _, rfl⟩
set_option maxHeartbeats 1000000 in
theorem rread_no (a : Option Addr) (n c : Nat) (W : World) (hn : n % 8 ≠ 0) (hm : n ≤ 8000) :
    Calls Try.prog 28 #[.slice a n c] W fun e w' => e = .returned (.tuple #[.slice none 0 0, .int .i64 40]) ∧ Below W.heap.size W w' := by
  have e4 : ((n : Int) % 8 != 0) = true := by simp; omega
  clear hn
  go_enter Try.func28, Try.ntmps28
  go_wp2
  go_ret2
  exact ⟨rfl, Below.refl _ _⟩
set_option maxHeartbeats 2000000 in
theorem rread_yes (a : Option Addr) (n c m : Nat) (l : List UInt8) (W : World) (hb : Bs W a n c l) (hn : n = m * 8) (hm : n ≤ 8000) :
    Calls Try.prog 28 #[.slice a n c] W fun e w' => ∃ a' c', e = .returned (.tuple #[.slice a' m c', .int .i64 0]) ∧ w'.ownsRow W.heap.size 47 8 (.slice a' m c') m (bs l) ∧ Below W.heap.size W w' := by
  have e1 : ((n : Int) % 8 != 0) = false := by simp; omega
  have HB := hidd hb
  have hcap := Sl.le hb
  have HL := hidd hb.len
  have HN := hidd hn
  clear hb hn
  go_enter Try.func28, Try.ntmps28
  go_wp2
  clear e1
  go_loopw [4, 5, 6, 7] (fun v i _ _ wr => ∃ k q : Nat, q = k * 8 ∧ k ≤ m ∧ i = .int .i64 (q : Int) ∧ wr.ownsRow W.heap.size 47 8 v k (bs (l.take q)) ∧ Below W.heap.size W wr) (fun _ i _ _ _ => n - (intOf i).toNat)
  case atStart => exact ⟨0, 0, rfl, by omega, rfl, by simpa [bs] using World.ownsRow_nil _ _ _ _, Below.refl _ _⟩
  case round =>
    obtain ⟨k, q, hq, hk, rfl, ho, hbel⟩ := hrel
    have hnn := HN.out
    have HQ := hidd hq
    by_cases hlt : k < m
    · have i1 : (q : Int) < (n : Int) := by omega
      have i2 : IntKind.i64.wrap ((q : Int) + 8) = (q : Int) + 8 := IntWalk.i64_in _ (by omega)
      have hc := Bs.cut (HB.out.grow hbel) q (q + 8) c (by omega) (by omega) (by omega) (Nat.le_refl _)
      rw [show q + 8 - q = 8 by omega] at hc
      obtain ⟨b0, b1, b2, b3, b4, b5, b6, b7, hl8⟩ := bytes8 hc.len
      rw [hl8] at hc
      have HC := hidd hc
      have H8 := hidd hl8
      have HO := hidd ho
      have HBL := hidd hbel
      have i3 : (q : Int) + 8 ≤ (c : Int) := by omega
      have hk1 : k ≤ 1000 := by omega
      have g1 : ((q : Int) + 8).toNat - (q : Int).toNat = 8 := by omega
      clear hc hl8 hq hnn ho hbel
      go_wp2_with (with_reducible refine wpList_cut_lh bT rfl (.tmp 19) (.tmp 20) (.tmp 22) rfl a n c .i64 .i64 (q : Int) ((q : Int) + 8) rfl rfl rfl (by omega) (by omega) i3 ?_)
      rw [show q + 8 - q = 8 by omega]
      refine (rvalue_yes _ _ _ _ HC.out).mono ?_
      rintro e w1 ⟨rfl, hb1⟩
      simp only [bs, List.map_cons, List.map_nil]
      have hs := HBL.out.size
      have HB2 := hidd (HBL.out.trans (hb1.mono HBL.out.size))
      have hs2 := HB2.out.size
      have HO2 := hidd (HO.out.kept (row := none) ⟨hb1.os, hb1.tape, hb1.output, hb1.size, fun i hi _ => hb1.block i hi⟩ (Classical.em _))
      clear hb1
      go_wp2_with (at_builtin; refine wpList_app vT rfl (.tmp 27) (.tmp 29) rfl W.heap.size _ k (bs (l.take q)) rfl ((HO2.out.alloc _).alloc _) _ 1 1 _ rfl (Sl.fresh_at (w1.alloc _) [.int .u8 (b0.toNat : Int), .int .u8 (b1.toNat : Int), .int .u8 (b2.toNat : Int), .int .u8 (b3.toNat : Int), .int .u8 (b4.toNat : Int), .int .u8 (b5.toNat : Int), .int .u8 (b6.toNat : Int), .int .u8 (b7.toNat : Int)] 47 1 8 (w1.heap.size + 1) (by simp) rfl (by decide)) (bs_one [b0, b1, b2, b3, b4, b5, b6, b7]) (by omega) (by omega) (by simp; omega) ?_; intro v' w' hown' hbel1 hbel')
      have et : l.take (q + 8) = l.take q ++ [b0, b1, b2, b3, b4, b5, b6, b7] := by
        have e0 := List.take_append_drop q (l.take (q + 8))
        rw [List.take_take, Nat.min_eq_left (by omega), H8.out] at e0
        exact e0.symm
      refine ⟨⟨k + 1, q + 8, by have := HQ.out; omega, by omega, by go_num, by rw [et, bs_append]; exact hown', ?_⟩, by simp [intOf]; omega⟩
      exact ((HB2.out.alloc HB2.out.size _).alloc (by have := HB2.out.size; simp; omega) _).trans hbel'
    · have hk2 : k = m := by omega
      have hqn : q = n := by omega
      subst hk2 hqn
      clear hnn hq
      go_wp2
      obtain ⟨a', c', rfl, _⟩ := own_Sl ho
      go_ret2
      refine ⟨_, _, rfl, ?_, hbel⟩
      rw [List.take_of_length_le (by rw [HL.out]; exact Nat.le_refl _)] at ho
      exact ho
end Go.Proofs.Ytheodlbbalbliaa
