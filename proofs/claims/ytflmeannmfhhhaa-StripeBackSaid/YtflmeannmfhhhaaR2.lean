import Derived.Test.YtflmeannmfhhhaaR1
namespace Go.Proofs.Ytflmeannmfhhhaa
open Go.RowKit
def own : List Int → Int → Nat
  | [], _ => 0
  | x :: r, n => (if x = n then 1 else 0) + 2 * own r n
theorem own_lt : ∀ (l : List Int) (n : Int), own l n < 2 ^ l.length
  | [], n => by simp [own]
  | x :: r, n => by
    have := own_lt r n
    simp only [own, List.length_cons, Nat.pow_succ]
    split <;> omega
theorem own_snoc : ∀ (l : List Int) (x n : Int), own (l ++ [x]) n = own l n + if x = n then 2 ^ l.length else 0
  | [], x, n => by simp [own]
  | y :: r, x, n => by
    simp only [List.cons_append, own, own_snoc r x n, List.length_cons, Nat.pow_succ]
    split <;> split <;> omega
theorem or_pow : ∀ k, k < 8 → ∀ a, a < 2 ^ k → bits BinOp.or IntKind.i64 ((a : Nat) : Int) (wrap64 (2 ^ k)) = ((a + 2 ^ k : Nat) : Int) := by decide +kernel
theorem own_take {z : List Int} {k : Nat} {x n : Int} (hz : z.length = 8) (hk : k < 8) (hx : z[k]? = some x) : own (z.take (k + 1)) n = own (z.take k) n + if x = n then 2 ^ k else 0 := by
  rw [List.take_add_one, hx]
  show own (z.take k ++ [x]) n = _
  rw [own_snoc, List.length_take, Nat.min_eq_left (by omega)]
theorem own_take_lt {z : List Int} {k : Nat} {n : Int} (hz : z.length = 8) (hk : k < 8) : own (z.take k) n < 2 ^ k := by
  have := own_lt (z.take k) n
  rwa [List.length_take, Nat.min_eq_left (by omega)] at this
set_option maxHeartbeats 1000000 in
theorem owned_any (z : List Int) (n : Int) (hz : z.length = 8) (W : World) :
    Calls Try.prog 16 #[.agg (is .i64 z).toArray, .int .i64 n] W fun e w' => e = .returned (.int .i64 (own z n : Nat)) ∧ Below W.heap.size W w' := by
  have HZ := hidd hz
  clear hz
  go_enter Try.func16, Try.ntmps16
  go_wp2_with (with_reducible refine wpList_load_new rfl 22 (.tmp 2) rfl (is .i64 z).toArray 22 rfl _ Try.underlying22 rfl (sz22 z HZ.out) ?_)
  go_loop [5, 9] (fun b i => ∃ k : Nat, k ≤ 8 ∧ i = .int .i64 k ∧ b = .int .i64 (own (z.take k) n : Nat)) (fun _ i => (8 - intOf i).toNat)
  case atStart => exact ⟨0, by omega, rfl, rfl⟩
  case round =>
    obtain ⟨k, hk, rfl, rfl⟩ := hrel
    by_cases hlt : k < 8
    · obtain ⟨x, hx, hi⟩ := at8 z HZ.out k hlt
      have i1 : (k : Int) < 8 := by omega
      have HX := hidd hx
      clear hx
      by_cases hs : x = n
      · subst hs
        go_wp2
        refine ⟨⟨k + 1, by omega, by go_num, ?_⟩, by simp [intOf]; omega⟩
        rw [or_pow k hlt _ (own_take_lt HZ.out hlt), own_take HZ.out hlt HX.out, if_pos rfl]
      · go_wp2
        refine ⟨⟨k + 1, by omega, by go_num, ?_⟩, by simp [intOf]; omega⟩
        rw [own_take HZ.out hlt HX.out, if_neg hs, Nat.add_zero]
    · obtain rfl : k = 8 := by omega
      go_wp2
      go_ret
      rw [List.take_of_length_le (by rw [HZ.out]; exact Nat.le_refl _)]
      exact ⟨rfl, (Below.refl _ W).alloc (Nat.le_refl _) _⟩
end Go.Proofs.Ytflmeannmfhhhaa
