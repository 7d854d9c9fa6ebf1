import Derived.Test.YtheodlbbalbliaaV3
namespace Go.Proofs.Ytheodlbbalbliaa
open Go.RowKit
theorem take_one (L : List UInt8) (q : Nat) (h : q < L.length) : bs (L.take (q + 1)) = bs (L.take q) ++ [Value.int .u8 ((L.getD q 0).toNat : Int)] := by
  have e1 : L.take (q + 1) = L.take q ++ [L.getD q 0] := by have := take_snoc L 0 q (by omega); simpa using this
  rw [e1, bs_append]
  rfl
set_option maxHeartbeats 1000000 in
theorem rvalues_any (a : Option Addr) (n c : Nat) (L : List UInt8) (W : World) (hb : Sl W a n c 8 (bs L)) (hn : n ≤ 1000) :
    Calls Try.prog 32 #[.slice a n c] W fun e w' => ∃ a' c', e = .returned (.slice a' (n * 8) c') ∧ w'.ownsRow W.heap.size 5 1 (.slice a' (n * 8) c') (n * 8) (bs L) ∧ Below W.heap.size W w' := by
  have HB := hidd hb
  have HL := hidd (show L.length = n * 8 by have := hb.len; rwa [bs_length] at this)
  clear hb
  go_enter Try.func32, Try.ntmps32
  go_wp2
  go_loopw [3, 4, 5] (fun v i _ wr => ∃ k : Nat, k ≤ n ∧ i = .int .i64 k ∧ wr.ownsRow W.heap.size 5 1 v (k * 8) (bs (L.take (k * 8))) ∧ Below W.heap.size W wr) (fun _ i _ _ => n - (intOf i).toNat)
  case atStart => exact ⟨0, by omega, rfl, by simpa [bs] using World.ownsRow_nil _ _ _ _, Below.refl _ _⟩
  case round =>
    obtain ⟨k, hk, rfl, ho, hbel⟩ := hrel
    obtain ⟨wo, rfl⟩ : ∃ wo, wo = wr := ⟨_, rfl⟩
    by_cases hlt : k < n
    · obtain ⟨b, off, rfl, _⟩ := HB.out.cells (k * 8) (by rw [HB.out.len]; omega)
      go_wp2
      go_loopw [3, 5] (fun v i wr => ∃ j : Nat, j ≤ 8 ∧ i = .int .i64 j ∧ wr.ownsRow W.heap.size 5 1 v (k * 8 + j) (bs (L.take (k * 8 + j))) ∧ Below W.heap.size W wr) (fun _ i _ => 8 - (intOf i).toNat)
      case atStart => exact ⟨0, by omega, rfl, by simpa using ho, hbel⟩
      case round =>
        clear ho hbel
        obtain ⟨j, hj, rfl, ho, hbel⟩ := hrel
        have hsz := hbel.size
        by_cases hlj : j < 8
        · obtain ⟨b', off', e, hc⟩ := (HB.out.grow hbel).cells (k * 8 + j) (by rw [HB.out.len]; omega)
          injection e with e
          injection e with e1 e2
          subst e1
          subst e2
          rw [bs_get L _ (by rw [HL.out]; omega)] at hc
          have i0 : (0 : Int) ≤ (k : Int) := by omega
          have i1 : (k : Int) < (n : Int) := by omega
          have i2 : (0 : Int) ≤ (j : Int) := by omega
          have i3 : (j : Int) < 8 := by omega
          have hc2 : wr.cell? ⟨b, off + k * 8 + j, none⟩ = some (.int .u8 ((L.getD (k * 8 + j) 0).toNat : Int)) := by rw [Nat.add_assoc]; exact hc
          go_wp2_with (at_builtin; refine wpList_app bT rfl (.tmp 16) (.tmp 23) rfl W.heap.size _ (k * 8 + j) (bs (L.take (k * 8 + j))) rfl (ho.alloc _) _ 1 1 _ rfl (Sl.fresh wr [_] 5 1 1 rfl (by decide)) (one_int _ _) (by omega) (by omega) (by simp; omega) ?_; intro v' w' hown' hbel1 hbel')
          go_roundw
          case rel => exact ⟨j + 1, by omega, by go_num, by rw [← Nat.add_assoc, take_one L _ (by rw [HL.out]; omega)]; exact hown', (hbel.alloc hsz _).trans hbel'⟩
          case measure => simp [intOf]; omega
        · obtain rfl : j = 8 := by omega
          go_wp2
          go_roundw
          case rel => exact ⟨k + 1, by omega, by go_num, by rw [Nat.succ_mul]; exact ho, hbel⟩
          case measure => simp [intOf]; omega
    · obtain rfl : k = n := by omega
      go_wp2
      obtain ⟨a', c', rfl, _⟩ := own_Sl ho
      go_ret
      exact ⟨_, _, rfl, by rw [List.take_of_length_le (by rw [HL.out]; exact Nat.le_refl _)] at ho; exact ho, hbel⟩
end Go.Proofs.Ytheodlbbalbliaa
