/-
  Proves the given statement Rows.RouteOnceSaid: the Go function returns true for every input, and each argument reads afterwards as before. No condition.
-/
import Derived.Test.YtflmeannmfhhhaaRows
import Derived.Test.YtflmeannmfhhhaaF
import Derived.Test.YtflmeannmfhhhaaR14
import Derived.WalkKit
import Derived.ProofKit
import Derived.OpenShut
import Derived.ShutString
import Derived.ChangeOld
import Derived.Below
namespace Go.Proofs.Ytflmeannmfhhhaa.routeOnce
open Go.ChangeShapes Go.WideShapes Go.ChangeAt Go.RowKit
open Go.ChangeMaps (open_string shut_string)
set_option linter.unusedVariables false

theorem own : ownKnob Try.prog.godebug = none := by kernel_rfl
theorem laidOut : laidOutB Try.prog = true := by kernel_rfl
noncomputable def ct0 : List TypeId := (Try.prog.cellTypes Try.prog.depth 22).getD []
theorem ct0_eq : Try.prog.cellTypes Try.prog.depth 22 = some ct0 := by kernel_rfl
theorem ct0_n : ct0.length = 8 := by kernel_rfl
theorem ct0_len : Try.prog.cellsOf 22 = ct0.length := by kernel_rfl
theorem ct0_allb : ct0.all (fun u => match Try.prog.underlying u with | some (.int .i64) => true | _ => false) = true := by kernel_rfl
theorem ct0_all : ∀ u ∈ ct0, Try.prog.underlying u = some (.int .i64) := by
  intro u hu
  have h := List.all_eq_true.1 ct0_allb u hu
  revert h
  generalize Try.prog.underlying u = x
  intro h
  split at h
  · rfl
  · cases h

theorem walk (z0 : List Int) (w : World) (w0 : z0.length = 8 ∧ ∀ z ∈ z0, IntKind.has .i64 z) :
    Calls Try.prog 6 #[.agg (z0.map (Value.int .i64)).toArray] w fun e w' => e = .returned (.bool true) ∧ Below w.heap.size w w' := by
  obtain ⟨hl0, hz0⟩ := w0
  show Calls Try.prog 6 #[.agg (is .i64 z0).toArray] w _
  cases ha : z0.all shardB
  · exact once_no z0 hl0 w ha
  · exact once_yes z0 hl0 w ha

set_option maxRecDepth 100000 in
theorem lifted (os : Os) (started : os.Started) (H : Type) (enc : TypeId × Value → H) :
    ReturnsInHanded {} Try.checked os 6 .any (Rows.routeOnceSpec.pre6 enc Try.prog Try.f6 Rows.routeOnceRow.domain false) (Rows.routeOnceSpec.post enc Try.prog Try.f6 false true false false) := by
  refine returnsInHanded_of_change (C := Try.checked) own started (by kernel_rfl) Try.func6
    (ChangeSpec.witness6 (enc := enc) (C := Try.checked) false ⟨#[], #[.agg #[.int .i64 0, .int .i64 0, .int .i64 0, .int .i64 0, .int .i64 0, .int .i64 0, .int .i64 0, .int .i64 0]], []⟩ 8 (by kernel_rfl) (by kernel_rfl) (by kernel_rfl) (by kernel_rfl)) ?_
  intro W base args ds gs before hval0 hW hcnd _
  have hval : ∀ (j : Nat) t v, Try.f6.params[j]? = some t → args[j]? = some v → Value.okWide Try.prog W .any base t v := hval0
  have hW' := hW
  obtain ⟨p, q, hA0, hV, rfl, hfz, hnd⟩ := hW
  have hA : DataW.TrodAll enc Try.prog W 0 (fun _ => true) true Try.f6.params.toList args.toList ds p := hA0
  rw [Try.params6] at hA hval
  obtain ⟨v0, vs0, d0, ds0, p0, q0, hargs, rfl, rfl, h0, r0⟩ := trodAll_cons hA
  obtain ⟨rfl, rfl, rfl⟩ := trodAll_nil r0
  obtain rfl : args = #[v0] := by cases args; simp_all
  obtain ⟨rfl, rfl⟩ := trodVars_none hV
  have k0 := h0
  have lt0 : ∀ x ∈ p0, x.block < W.heap.size := by obtain ⟨m, hm⟩ := k0; exact DataW.trod_lt m _ _ _ hm
  obtain ⟨z0, hl0, rfl, hz0⟩ := agg_ints .i64 _ Try.underlying22 rfl ct0 ct0_eq ct0_len ct0_all (hval 0 22 v0 rfl rfl)
  have w0 : z0.length = 8 ∧ ∀ z ∈ z0, IntKind.has .i64 z := ⟨hl0.trans ct0_n, hz0⟩
  clear hA0 hval0
  refine (walk z0 W w0).mono fun e W' ⟨he, bel⟩ => ?_
  subst he
  exact ⟨_, rfl, _, _, _, [], _, [], hW', trodAll_mk1 (shut_bool Try.underlying4 _), (trodAll_cons_mk (Below.trod laidOut (by kernel_rfl) (of_decide_eq_true (by kernel_rfl)) k0 bel lt0) trodAll_mk0), rfl, bel.frame _, fun h => by cases h⟩

theorem over : Rows.routeOnceRow.holds Try.pinned (OpenSpec.ofChange Rows.routeOnceSpec) :=
  OpenClaim.holds_of_wide 6 Try.f6 rfl rfl rfl rfl rfl rfl rfl ⟨rfl, rfl, rfl, rfl, rfl⟩ rfl rfl rfl rfl rfl (by kernel_rfl) Try.func6 (by kernel_rfl)
    (of_decide_eq_true (by kernel_rfl)) (by unfold Func.isWrapper; first | (rw [if_pos (by decide +kernel)]; kernel_rfl) | (rw [if_neg (by decide +kernel)]; exact ⟨rfl, rfl⟩))
    (fun os started H enc _ => lifted os started H enc)

/-- The statement. -/
theorem proved : Rows.RouteOnceSaid := over
#print axioms proved
end Go.Proofs.Ytflmeannmfhhhaa.routeOnce
