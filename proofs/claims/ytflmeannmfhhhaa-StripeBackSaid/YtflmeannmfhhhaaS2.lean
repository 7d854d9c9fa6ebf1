import Derived.Test.YtflmeannmfhhhaaS1
namespace Go.Proofs.Ytflmeannmfhhhaa
open Go.RowKit
/-- a map's cells -/
def mpL (V : Int) (z : List Int) : List Int := V :: z
theorem sl_of {w : World} {g : Nat} {V : Int} {z : List Int} {t : TypeId} (hg : w.heap[g]? = some (.cells (is .i64 (mpL V z)).toArray t (0, 0))) (hz : z.length = 8) : Sl w (some ⟨g, 1, none⟩) 8 8 1 (is .i64 z) := by
  refine ⟨by rw [is_len, hz], Nat.le_refl _, by decide, fun e => by simp at e, fun i hi => ⟨g, 1, rfl, ?_⟩⟩
  rw [(blk hg).1, List.getElem?_toArray, Nat.add_comm 1 i]
  rfl
set_option maxHeartbeats 2000000 in
theorem check_any (V : Int) (z : List Int) (hz : z.length = 8) (W : World) :
    Calls Try.prog 11 #[.agg (is .i64 (mpL V z)).toArray] W fun e w' => e = .returned (.int .i64 (chE V z)) ∧ Below W.heap.size W w' := by
  have HZ := hidd hz
  have hg := heap_alloc_last W (.cells (is .i64 (mpL V z)).toArray 24)
  have HG := hidd hg
  have HSL := hidd (sl_of hg hz)
  have k0 : (W.alloc (.cells (is .i64 (mpL V z)).toArray 24)).cell? ⟨W.heap.size, 0, none⟩ = some (.int .i64 V) := (blk hg).1 0
  clear hz hg
  by_cases h0 : V < 0
  · have HE := hidd (show chE V z = 2 by
      have : decide (0 ≤ V) = false := by simp; omega
      unfold chE chB
      rw [this]
      rfl)
    go_enter Try.func11, Try.ntmps11
    go_wp2
    go_ret
    exact ⟨by rw [HE.out]; rfl, (Below.refl _ W).alloc (Nat.le_refl _) _⟩
  · by_cases h1 : 1099511627776 < V
    · have HE := hidd (show chE V z = 2 by
        have : decide (V ≤ 1099511627776) = false := by simp; omega
        unfold chE chB
        rw [this, Bool.and_false]
        rfl)
      go_enter Try.func11, Try.ntmps11
      go_wp2
      go_ret
      exact ⟨by rw [HE.out]; rfl, (Below.refl _ W).alloc (Nat.le_refl _) _⟩
    · have e0 : decide (0 ≤ V) = true := by simp; omega
      have e1 : decide (V ≤ 1099511627776) = true := by simp; omega
      have HE := hidd (show chE V z = if z.all entB = true then 0 else 2 by
        unfold chE chB
        rw [e0, e1]
        rfl)
      clear e0 e1
      go_enter Try.func11, Try.ntmps11
      go_wp2_with fail
      refine (allE_any _ _ 8 8 z _ HSL.out (by decide)).mono ?_
      rintro e w1 ⟨rfl, rfl⟩
      cases ha : z.all entB
      · have HE2 := hidd (show chE V z = 2 by rw [HE.out, ha]; rfl)
        clear ha
        go_wp2
        go_ret
        exact ⟨by rw [HE2.out]; rfl, (Below.refl _ W).alloc (Nat.le_refl _) _⟩
      · have HE2 := hidd (show chE V z = 0 by rw [HE.out, ha]; rfl)
        clear ha
        go_wp2
        go_ret
        exact ⟨by rw [HE2.out]; rfl, (Below.refl _ W).alloc (Nat.le_refl _) _⟩
end Go.Proofs.Ytflmeannmfhhhaa
