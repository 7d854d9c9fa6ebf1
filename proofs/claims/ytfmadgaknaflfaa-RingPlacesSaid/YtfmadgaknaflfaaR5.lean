import Derived.Test.YtfmadgaknaflfaaR4
import Derived.Maps.Own
import Derived.Maps.OwnSet
namespace Go.Proofs.Ytfmadgaknaflfaa
open Go.RowKit
open Go.Maps (Keyed)
abbrev Dm := DataW Unit
/-- the place of sequence t + i, as a key -/
def keyR (t : Int) (i : Nat) : Lit := .int .i64 (2 + (t + i).tmod 24)
def keysR (t : Int) (k : Nat) : List Lit := (List.range k).map (keyR t)
def setR (t : Int) (k : Nat) : Dm := Maps.setOf (.lit (.bool true)) (keysR t k)
theorem keysR_succ (t : Int) (k : Nat) : keysR t (k + 1) = keysR t k ++ [keyR t k] := by simp [keysR, List.range_succ]
theorem setR_succ (t : Int) (k : Nat) : setR t (k + 1) = (setR t k).put (keyR t k) (.lit (.bool true)) := by
  unfold setR
  rw [keysR_succ, Maps.setOf_snoc]
theorem keyR_is (t : Int) (i : Nat) : WideAt.IsKeyLit (keyR t i) := by
  unfold keyR WideAt.IsKeyLit
  trivial
theorem keysR_is (t : Int) (k : Nat) : ∀ x ∈ keysR t k, WideAt.IsKeyLit x := by
  intro x hx
  simp only [keysR, List.mem_map] at hx
  obtain ⟨i, _, rfl⟩ := hx
  exact keyR_is t i
theorem keyR_ne (t : Int) (i k : Nat) (ht : 0 ≤ t) (h : i < k) (hk : k < 24) : keyR t i ≠ keyR t k := by
  unfold keyR
  intro e
  injection e with _ e
  rw [Int.tmod_eq_emod_of_nonneg (by omega), Int.tmod_eq_emod_of_nonneg (by omega)] at e
  omega
theorem setR_has (t : Int) (k : Nat) (ht : 0 ≤ t) (hk : k < 24) : Maps.has (setR t k) (keyR t k) = false := by
  unfold setR
  rw [Maps.has_setOf _ _ _ (keysR_is t k), List.any_eq_false]
  intro x hx
  simp only [keysR, List.mem_map, List.mem_range] at hx
  obtain ⟨i, hi, rfl⟩ := hx
  rw [Maps.sameKey_ne (keyR_ne t i k ht hi hk)]
  simp
theorem setR_size (t : Int) (ht : 0 ≤ t) : ∀ k, k ≤ 24 → Maps.size (setR t k) = k := by
  intro k
  induction k with
  | zero => intro _; rfl
  | succ k ih =>
    intro hk
    rw [setR_succ, Maps.size_put (by unfold setR; exact Maps.tidy_setOf _ _ (keysR_is t k)), setR_has t k ht (by omega), ih (by omega)]
    rfl
theorem lawR : Keyed Try.prog 3 := Maps.int_keyed Try.underlying3
theorem zeroR (w : World) : (zeroValue 4).run Try.prog w = .ok (.bool false) w := by kernel_rfl
theorem plainElem_bool_inv {P : Program} {e : TypeId} (he : P.underlying e = some .bool) {v : Value} {x : Bool} {ps : List MemPlace} (h : plainElem (H := Unit) P e v = some (.lit (.bool x), ps)) : v = .bool x := by
  unfold plainElem at h
  rw [he] at h
  cases v <;> simp at h
  rw [h.1]
theorem keyOfR (t : Int) (k : Nat) (ht : 1 ≤ t) (hk : t + k ≤ 1099511627776) : keyOf Try.prog 3 (.int .i64 (2 + (t + k).tmod 24)) = some (keyR t k) := by
  refine Maps.keyOf_int_mk Try.underlying3 (WalkArith.wf_i64 ?_)
  rw [Int.tmod_eq_emod_of_nonneg (by omega)]
  omega
/-- no place is met twice -/
theorem lookR {w : World} {b n k : Nat} {t : Int} (h : w.ownsMap Try.prog 3 (plainElem Try.prog 4) b n (setR t k)) (ht : 1 ≤ t) (hk : k < 24) (hm : t + k ≤ 1099511627776) :
    (Instr.lookup 34 (.map (some b)) (.int .i64 (2 + (t + k).tmod 24)) false).run Try.prog w = .ok (.bool false) w := by
  obtain ⟨v, ps, hrun, hv⟩ := h.lookup lawR Try.underlying34 (zeroR w) (plainElem_bool Try.underlying4 false) (keyOfR t k ht hm)
  rw [Maps.atKey_of_not_has (setR_has t k (by omega) hk)] at hv
  rw [hrun, plainElem_bool_inv Try.underlying4 hv]
theorem lenR {w : World} {b n k : Nat} {t : Int} (h : w.ownsMap Try.prog 3 (plainElem Try.prog 4) b n (setR t k)) (ht : 1 ≤ t) (hk : k ≤ 24) (ty : TypeId) : (Builtin.len_ #[34] ty #[.map (some b)]).run Try.prog w = .ok (.int .i64 k) w := by
  rw [h.len Try.underlying34 ty, setR_size t (by omega) k hk]
theorem map_below {w w' : World} {b n : Nat} {D : Dm} (h : w.ownsMap Try.prog 3 (plainElem Try.prog 4) b n D) (hb : Below w.heap.size w w') : w'.ownsMap Try.prog 3 (plainElem Try.prog 4) b n D :=
  h.kept (row := none) ⟨hb.os, hb.tape, hb.output, hb.size, fun i hi _ => hb.block i hi⟩ (by simp)
end Go.Proofs.Ytfmadgaknaflfaa
