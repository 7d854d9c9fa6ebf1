import Derived.Test.YtflmeannmfhhhaaR12a
namespace Go.Proofs.Ytflmeannmfhhhaa
open Go.RowKit
/-- may an entry be? -/
def entB (n : Int) : Bool := decide (0 ≤ n) && decide (n ≤ 4)
/-- may a map be? -/
def chB (V : Int) (z : List Int) : Bool := decide (0 ≤ V) && decide (V ≤ 1099511627776) && z.all entB
def chE (V : Int) (z : List Int) : Int := if chB V z = true then 0 else 2
set_option maxHeartbeats 1000000 in
theorem ent_any (n : Int) (w : World) :
    Calls Try.prog 26 #[.int .i64 n] w fun e w' => e = .returned (.bool (entB n)) ∧ w = w' := by
  by_cases h1 : 0 ≤ n
  · go_enter Try.func26, Try.ntmps26
    go_wp2
    go_ret
    exact ⟨ret_b (by simp [entB, h1]), rfl⟩
  · go_enter Try.func26, Try.ntmps26
    go_wp2
    go_ret
    exact ⟨ret_b (by simp [entB]; omega), rfl⟩
set_option maxHeartbeats 1000000 in
theorem allE_any (b off n c : Nat) (z : List Int) (W : World) (hs : Sl W (some ⟨b, off, none⟩) n c 1 (is .i64 z)) (hn : n ≤ 100) :
    Calls Try.prog 25 #[.slice (some ⟨b, off, none⟩) n c, .func (.func 26) #[] #[]] W fun e w' => e = .returned (.bool (z.all entB)) ∧ W = w' := by
  have HS := hidd hs
  have HL := hidd (show z.length = n by have := hs.len; rw [is_len] at this; omega)
  clear hs
  go_enter Try.func25, Try.ntmps25
  go_wp2
  go_loop [9] (fun i => ∃ k : Nat, k ≤ n ∧ i = .int .i64 k ∧ (z.take k).all entB = true) (fun i => n - (intOf i).toNat)
  case atStart => exact ⟨0, by omega, rfl, rfl⟩
  case round =>
    obtain ⟨k, hk, rfl, hall⟩ := hrel
    have HA := hidd hall
    clear hall
    by_cases hlt : k < n
    · obtain ⟨b', off', e, cc⟩ := HS.out.cells k (by rw [is_len, HL.out]; exact hlt)
      injection e with e
      injection e with e1 e2
      subst e1 e2
      obtain ⟨x, hx⟩ : ∃ x, z[k]? = some x := ⟨z[k]'(by rw [HL.out]; exact hlt), List.getElem?_eq_getElem _⟩
      have c0 : W.cell? ⟨b, off + k, none⟩ = some (.int .i64 x) := by
        rw [cc]
        unfold is
        rw [List.getElem?_map, hx]
        rfl
      have HX := hidd hx
      have i0 : (0 : Int) ≤ (k : Int) := by omega
      have i1 : (k : Int) < (n : Int) := by omega
      clear hx cc
      cases hs : entB x
      · have HSS := hidd hs
        clear hs
        go_wp2_with (go_at_call 26; refine (ent_any _ _).mono ?_; rintro e w' ⟨rfl, rfl⟩; rw [HSS.out])
        go_ret
        exact ⟨ret_b (all_drop HX.out HSS.out).symm, rfl⟩
      · have HSS := hidd hs
        clear hs
        go_wp2_with (go_at_call 26; refine (ent_any _ _).mono ?_; rintro e w' ⟨rfl, rfl⟩; rw [HSS.out])
        go_round
        case rel => exact ⟨k + 1, by omega, by go_num, by rw [all_take HX.out, HA.out, HSS.out]; rfl⟩
        case measure => simp [intOf]; omega
    · obtain rfl : k = n := by omega
      go_wp2
      go_ret
      have h := HA.out
      rw [List.take_of_length_le (by rw [HL.out]; exact Nat.le_refl _)] at h
      exact ⟨ret_b h.symm, rfl⟩
end Go.Proofs.Ytflmeannmfhhhaa
