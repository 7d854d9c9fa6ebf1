/-
  Proves the given statement Rows.StripeBackSaid: the Go function returns true for every input, and each argument reads afterwards as before. No condition.
-/
import Derived.Test.YtflmeannmfhhhaaRows
import Derived.Test.YtflmeannmfhhhaaU10
import Derived.Test.YtflmeannmfhhhaaF
import Derived.WalkKit
import Derived.ProofKit
import Derived.OpenShut
import Derived.ShutString
import Derived.ChangeOld
import Derived.Below
namespace Go.Proofs.Ytflmeannmfhhhaa.stripeBack
open Go.ChangeShapes Go.WideShapes Go.ChangeAt Go.RowKit
open Go.ChangeMaps (open_string shut_string)
set_option linter.unusedVariables false

theorem own : ownKnob Try.prog.godebug = none := by kernel_rfl
theorem laidOut : laidOutB Try.prog = true := by kernel_rfl
noncomputable def ct0 : List TypeId := (Try.prog.cellTypes Try.prog.depth 24).getD []
theorem ct0_eq : Try.prog.cellTypes Try.prog.depth 24 = some ct0 := by kernel_rfl
theorem ct0_n : ct0.length = 9 := by kernel_rfl
theorem ct0_len : Try.prog.cellsOf 24 = ct0.length := by kernel_rfl
theorem ct0_allb : ct0.all (fun u => match Try.prog.underlying u with | some (.int .i64) => true | _ => false) = true := by kernel_rfl
theorem ct0_all : ∀ u ∈ ct0, Try.prog.underlying u = some (.int .i64) := by
  intro u hu
  have h := List.all_eq_true.1 ct0_allb u hu
  revert h
  generalize Try.prog.underlying u = x
  intro h
  split at h
  · rfl
  · cases h
noncomputable def ct1 : List TypeId := (Try.prog.cellTypes Try.prog.depth 24).getD []
theorem ct1_eq : Try.prog.cellTypes Try.prog.depth 24 = some ct1 := by kernel_rfl
theorem ct1_n : ct1.length = 9 := by kernel_rfl
theorem ct1_len : Try.prog.cellsOf 24 = ct1.length := by kernel_rfl
theorem ct1_allb : ct1.all (fun u => match Try.prog.underlying u with | some (.int .i64) => true | _ => false) = true := by kernel_rfl
theorem ct1_all : ∀ u ∈ ct1, Try.prog.underlying u = some (.int .i64) := by
  intro u hu
  have h := List.all_eq_true.1 ct1_allb u hu
  revert h
  generalize Try.prog.underlying u = x
  intro h
  split at h
  · rfl
  · cases h

theorem walk (z0 : List Int) (z1 : List Int) (w : World) (w0 : z0.length = 9 ∧ ∀ z ∈ z0, IntKind.has .i64 z) (w1 : z1.length = 9 ∧ ∀ z ∈ z1, IntKind.has .i64 z) :
    Calls Try.prog 7 #[.agg (z0.map (Value.int .i64)).toArray, .agg (z1.map (Value.int .i64)).toArray] w fun e w' => e = .returned (.bool true) ∧ Below w.heap.size w w' := by
  match z0, z1, w0.1, w1.1 with
  | V :: z, U :: y, h, h1 => exact back_any V U z y (by simpa using h) (by simpa using h1) w

set_option maxRecDepth 100000 in
theorem lifted (os : Os) (started : os.Started) (H : Type) (enc : TypeId × Value → H) :
    ReturnsInHanded {} Try.checked os 7 .any (Rows.stripeBackSpec.pre6 enc Try.prog Try.f7 Rows.stripeBackRow.domain false) (Rows.stripeBackSpec.post enc Try.prog Try.f7 false true false false) := by
  refine returnsInHanded_of_change (C := Try.checked) own started (by kernel_rfl) Try.func7
    (ChangeSpec.witness6 (enc := enc) (C := Try.checked) false ⟨#[], #[.agg #[.int .i64 0, .int .i64 0, .int .i64 0, .int .i64 0, .int .i64 0, .int .i64 0, .int .i64 0, .int .i64 0, .int .i64 0], .agg #[.int .i64 0, .int .i64 0, .int .i64 0, .int .i64 0, .int .i64 0, .int .i64 0, .int .i64 0, .int .i64 0, .int .i64 0]], []⟩ 8 (by kernel_rfl) (by kernel_rfl) (by kernel_rfl) (by kernel_rfl)) ?_
  intro W base args ds gs before hval0 hW hcnd _
  have hval : ∀ (j : Nat) t v, Try.f7.params[j]? = some t → args[j]? = some v → Value.okWide Try.prog W .any base t v := hval0
  have hW' := hW
  obtain ⟨p, q, hA0, hV, rfl, hfz, hnd⟩ := hW
  have hA : DataW.TrodAll enc Try.prog W 0 (fun _ => true) true Try.f7.params.toList args.toList ds p := hA0
  rw [Try.params7] at hA hval
  obtain ⟨v0, vs0, d0, ds0, p0, q0, hargs, rfl, rfl, h0, r0⟩ := trodAll_cons hA
  obtain ⟨v1, vs1, d1, ds1, p1, q1, rfl, rfl, rfl, h1, r1⟩ := trodAll_cons r0
  obtain ⟨rfl, rfl, rfl⟩ := trodAll_nil r1
  obtain rfl : args = #[v0, v1] := by cases args; simp_all
  obtain ⟨rfl, rfl⟩ := trodVars_none hV
  have k0 := h0
  have lt0 : ∀ x ∈ p0, x.block < W.heap.size := by obtain ⟨m, hm⟩ := k0; exact DataW.trod_lt m _ _ _ hm
  obtain ⟨z0, hl0, rfl, hz0⟩ := agg_ints .i64 _ Try.underlying24 rfl ct0 ct0_eq ct0_len ct0_all (hval 0 24 v0 rfl rfl)
  have w0 : z0.length = 9 ∧ ∀ z ∈ z0, IntKind.has .i64 z := ⟨hl0.trans ct0_n, hz0⟩
  have k1 := h1
  have lt1 : ∀ x ∈ p1, x.block < W.heap.size := by obtain ⟨m, hm⟩ := k1; exact DataW.trod_lt m _ _ _ hm
  obtain ⟨z1, hl1, rfl, hz1⟩ := agg_ints .i64 _ Try.underlying24 rfl ct1 ct1_eq ct1_len ct1_all (hval 1 24 v1 rfl rfl)
  have w1 : z1.length = 9 ∧ ∀ z ∈ z1, IntKind.has .i64 z := ⟨hl1.trans ct1_n, hz1⟩
  clear hA0 hval0
  refine (walk z0 z1 W w0 w1).mono fun e W' ⟨he, bel⟩ => ?_
  subst he
  exact ⟨_, rfl, _, _, _, [], _, [], hW', trodAll_mk1 (shut_bool Try.underlying4 _), (trodAll_cons_mk (Below.trod laidOut (by kernel_rfl) (of_decide_eq_true (by kernel_rfl)) k0 bel lt0) (trodAll_cons_mk (Below.trod laidOut (by kernel_rfl) (of_decide_eq_true (by kernel_rfl)) k1 bel lt1) trodAll_mk0)), rfl, bel.frame _, fun h => by cases h⟩

theorem over : Rows.stripeBackRow.holds Try.pinned (OpenSpec.ofChange Rows.stripeBackSpec) :=
  OpenClaim.holds_of_wide 7 Try.f7 rfl rfl rfl rfl rfl rfl rfl ⟨rfl, rfl, rfl, rfl, rfl⟩ rfl rfl rfl rfl rfl (by kernel_rfl) Try.func7 (by kernel_rfl)
    (of_decide_eq_true (by kernel_rfl)) (by unfold Func.isWrapper; first | (rw [if_pos (by decide +kernel)]; kernel_rfl) | (rw [if_neg (by decide +kernel)]; exact ⟨rfl, rfl⟩))
    (fun os started H enc _ => lifted os started H enc)

/-- The statement. -/
theorem proved : Rows.StripeBackSaid := over
#print axioms proved
end Go.Proofs.Ytflmeannmfhhhaa.stripeBack
