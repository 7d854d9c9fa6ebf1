import Derived.Test.YtflmeannmfhhhaaR3
namespace Go.Proofs.Ytflmeannmfhhhaa
open Go.RowKit
set_option maxHeartbeats 1000000 in
theorem at_any (b : Nat) (W : World) (h : b < 32) :
    Calls Try.prog 32 #[.int .i64 b] W fun e w' => e = .returned (.complex .f64 (fb (b / 4)) (fb (b % 4))) ∧ W = w' := by
  have h0 : (0 : Int) ≤ (b : Int) := by omega
  have h1 : (b : Int) < 32 := by omega
  go_enter Try.func32, Try.ntmps32
  go_wp2
  go_ret
  exact ⟨rfl, rfl⟩
set_option maxHeartbeats 1000000 in
theorem stripe_yes (b : Nat) (W : World) (h : b < 32) :
    Calls Try.prog 17 #[.int .i64 b] W fun e w' => e = .returned (.tuple #[.int .i64 ((b / 4 : Nat) : Int), .int .i64 0]) ∧ W = w' := by
  have h0 : (0 : Int) ≤ (b : Int) := by omega
  have h1 : (b : Int) < 32 := by omega
  obtain ⟨d, hd⟩ : ∃ d, d = b / 4 := ⟨_, rfl⟩
  have hcv : ∀ w, (convert 64 3 (.float .f64 (fb d))).run Try.prog w = .ok (.int .i64 (d : Int)) w := fun w => run_f_int 64 3 d w Try.underlying64 Try.underlying3 (by omega)
  rw [← hd]
  have HD := hidd hd
  clear hd
  go_enter Try.func17, Try.ntmps17
  go_wp2_with (go_at_call 32; refine (at_any b _ h).mono ?_; rintro e w' ⟨rfl, rfl⟩; rw [← HD.out])
  go_ret2
  exact ⟨rfl, rfl⟩
theorem shard_nat (z : List Int) (k : Nat) (x : Int) (hx : z[k]? = some x) (ha : z.all shardB = true) : shardB x = true := by
  rw [List.all_eq_true] at ha
  exact ha x (List.mem_of_getElem? hx)
set_option maxHeartbeats 1000000 in
theorem shard2_yes (z : List Int) (b : Nat) (x : Int) (W : World) (hz : z.length = 8) (h : b < 32) (hx : z[b / 4]? = some x) (hs : shardB x = true) :
    Calls Try.prog 18 #[.agg (is .i64 z).toArray, .int .i64 b] W fun e w' => e = .returned (.tuple #[.int .i64 x, .int .i64 0]) ∧ Below W.heap.size W w' := by
  have HX := hidd hx
  have HZ := hidd hz
  have HS := hidd hs
  obtain ⟨d, hd⟩ : ∃ d, d = b / 4 := ⟨_, rfl⟩
  have d0 : (0 : Int) ≤ (d : Int) := by omega
  have d1 : (d : Int) < 8 := by omega
  have k0 : (W.alloc (.cells (is .i64 z).toArray 22)).cell? ⟨W.heap.size, d, none⟩ = some (.int .i64 x) := by
    rw [(blk (heap_alloc_last W (.cells (is .i64 z).toArray 22))).1, List.getElem?_toArray, hd]
    unfold is
    rw [List.getElem?_map, hx]
    rfl
  have HD := hidd hd
  clear hx hz hs hd
  go_enter Try.func18, Try.ntmps18
  go_wp2_with (first | (go_at_call 17; refine (stripe_yes b _ h).mono ?_; rintro e w' ⟨rfl, rfl⟩; rw [← HD.out]) | (go_at_call 27; refine (shard_any _ _).mono ?_; rintro e w' ⟨rfl, rfl⟩; rw [HS.out]))
  go_ret2
  exact ⟨rfl, (Below.refl _ W).alloc (Nat.le_refl _) _⟩
end Go.Proofs.Ytflmeannmfhhhaa
