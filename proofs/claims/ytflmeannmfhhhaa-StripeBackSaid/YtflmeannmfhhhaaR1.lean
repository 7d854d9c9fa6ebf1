import Derived.Test.YtflmeannmfhhhaaRows
import Derived.Test.YtflmeannmfhhhaaJ
import Derived.WalkSpells
import Derived.WalkLawsBesides
import Derived.Deep.QuietTactic
import Derived.BigQuiet
namespace Go.Proofs.Ytflmeannmfhhhaa
open Go.RowKit
def shardB (n : Int) : Bool := decide (1 ≤ n) && decide (n ≤ 4)
theorem ret_b {a b : Bool} (h : a = b) : Ending.returned (.bool a) = Ending.returned (.bool b) := by rw [h]
set_option maxHeartbeats 1000000 in
theorem shard_any (n : Int) (w : World) :
    Calls Try.prog 27 #[.int .i64 n] w fun e w' => e = .returned (.bool (shardB n)) ∧ w = w' := by
  by_cases h1 : 1 ≤ n
  · go_enter Try.func27, Try.ntmps27
    go_wp2
    go_ret
    exact ⟨by simp [shardB, h1], rfl⟩
  · go_enter Try.func27, Try.ntmps27
    go_wp2
    go_ret
    exact ⟨ret_b (by simp [shardB]; omega), rfl⟩
theorem at8 (z : List Int) (hz : z.length = 8) (k : Nat) (hk : k < 8) : ∃ x, z[k]? = some x ∧ ∀ w, (Instr.index 22 (.agg (is .i64 z).toArray) (.int .i64 (k : Int))).run Try.prog w = .ok (.int .i64 x) w := by
  refine ⟨z.getD k 0, by simp [hz, hk], fun w => run_idx .i64 Try.underlying22 Try.underlying3 (by kernel_rfl) z hz k hk w⟩
theorem all_take {z : List Int} {f : Int → Bool} {k : Nat} {x : Int} (hx : z[k]? = some x) : (z.take (k + 1)).all f = ((z.take k).all f && f x) := by
  rw [List.take_add_one, hx, List.all_append]
  simp
theorem all_drop {z : List Int} {f : Int → Bool} {k : Nat} {x : Int} (hx : z[k]? = some x) (h : f x = false) : z.all f = false := by
  rw [List.all_eq_false]
  exact ⟨x, List.mem_of_getElem? hx, by simp [h]⟩
theorem sz22 (z : List Int) (hz : z.length = 8) : (Try.prog.info? 22).map (·.size) = some (is .i64 z).toArray.size := by
  rw [List.size_toArray, is_len, hz]
  kernel_rfl
set_option maxHeartbeats 1000000 in
theorem may_any (z : List Int) (hz : z.length = 8) (W : World) :
    Calls Try.prog 12 #[.agg (is .i64 z).toArray] W fun e w' => e = .returned (.bool (z.all shardB)) ∧ Below W.heap.size W w' := by
  have HZ := hidd hz
  clear hz
  go_enter Try.func12, Try.ntmps12
  go_wp2_with (with_reducible refine wpList_load_new rfl 22 (.tmp 1) rfl (is .i64 z).toArray 22 rfl _ Try.underlying22 rfl (sz22 z HZ.out) ?_)
  go_loop [6] (fun i => ∃ k : Nat, k ≤ 8 ∧ i = .int .i64 k ∧ (z.take k).all shardB = true) (fun i => (8 - intOf i).toNat)
  case atStart => exact ⟨0, by omega, rfl, rfl⟩
  case round =>
    obtain ⟨k, hk, rfl, hall⟩ := hrel
    have HA := hidd hall
    clear hall
    by_cases hlt : k < 8
    · obtain ⟨x, hx, hi⟩ := at8 z HZ.out k hlt
      have i1 : (k : Int) < 8 := by omega
      have HX := hidd hx
      clear hx
      cases hs : shardB x
      · have HS := hidd hs
        clear hs
        go_wp2_with (go_at_call 27; refine (shard_any _ _).mono ?_; rintro e w' ⟨rfl, rfl⟩; rw [HS.out])
        go_ret
        exact ⟨ret_b (all_drop HX.out HS.out).symm, (Below.refl _ W).alloc (Nat.le_refl _) _⟩
      · have HS := hidd hs
        clear hs
        go_wp2_with (go_at_call 27; refine (shard_any _ _).mono ?_; rintro e w' ⟨rfl, rfl⟩; rw [HS.out])
        go_round
        case rel => exact ⟨k + 1, by omega, by go_num, by rw [all_take HX.out, HA.out, HS.out]; rfl⟩
        case measure => simp [intOf]; omega
    · obtain rfl : k = 8 := by omega
      go_wp2
      go_ret
      have h := HA.out
      rw [List.take_of_length_le (by rw [HZ.out]; exact Nat.le_refl _)] at h
      exact ⟨ret_b h.symm, (Below.refl _ W).alloc (Nat.le_refl _) _⟩
end Go.Proofs.Ytflmeannmfhhhaa
