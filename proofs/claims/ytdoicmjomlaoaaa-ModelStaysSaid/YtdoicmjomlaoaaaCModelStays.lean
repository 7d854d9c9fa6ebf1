/-
  Proves the given statement Rows.ModelStaysSaid: the Go function returns true for every input, and each argument reads afterwards as before. No condition.
-/
import Derived.Test.YtdoicmjomlaoaaaRows
import Derived.Test.YtdoicmjomlaoaaaMI
import Derived.Test.YtdoicmjomlaoaaaF
import Derived.Test.YtdoicmjomlaoaaaH
import Derived.WalkKit
import Derived.ProofKit
import Derived.OpenShut
import Derived.ShutString
import Derived.ChangeOld
import Derived.Below
namespace Go.Proofs.Ytdoicmjomlaoaaa.modelStays
open Go.ChangeShapes Go.WideShapes Go.ChangeAt Go.RowKit
open Go.ChangeMaps (open_string shut_string)
set_option linter.unusedVariables false

theorem own : ownKnob Try.prog.godebug = none := by kernel_rfl
theorem laidOut : laidOutB Try.prog = true := by kernel_rfl
noncomputable def ct0 : List TypeId := (Try.prog.cellTypes Try.prog.depth 36).getD []
theorem ct0_eq : Try.prog.cellTypes Try.prog.depth 36 = some ct0 := by kernel_rfl
theorem ct0_n : ct0.length = 256 := by kernel_rfl
theorem ct0_len : Try.prog.cellsOf 36 = ct0.length := by kernel_rfl
theorem ct0_allb : ct0.all (fun u => match Try.prog.underlying u with | some (.int .u8) => true | _ => false) = true := by kernel_rfl
theorem ct0_all : ∀ u ∈ ct0, Try.prog.underlying u = some (.int .u8) := by
  intro u hu
  have h := List.all_eq_true.1 ct0_allb u hu
  revert h
  generalize Try.prog.underlying u = x
  intro h
  split at h
  · rfl
  · cases h

set_option maxRecDepth 100000 in
theorem walk (z0 : List Int) (a1 : Option Addr) (len1 cap1 : Nat) (x1 : List Value) (w : World) (w0 : z0.length = 256 ∧ ∀ z ∈ z0, IntKind.has .u8 z) (w1 : Sl w a1 len1 cap1 14 x1 ∧ ∀ i, i < len1 → QS ((x1.drop (i * 14)).take 14)) :
    Calls Try.prog 5 #[.agg (z0.map (Value.int .u8)).toArray, .slice a1 len1 cap1] w fun e w' => e = .returned (.bool true) ∧ Below w.heap.size w w' := by
  have hz : z0.map (Value.int .u8) = bs (z0.map fun z => UInt8.ofNat z.toNat) := by
    unfold bs
    rw [List.map_map]
    apply List.map_congr_left
    intro z hz
    have := has_u8 (w0.2 z hz)
    simp
    omega
  have hH : (z0.map fun z => UInt8.ofNat z.toNat).length = 256 := by simp [w0.1]
  obtain ⟨l, hl, h8, rfl⟩ := rows_sn len1 x1 w1.1.len w1.2
  rw [hz]
  exact stays_any _ hH a1 len1 cap1 l w w1.1 h8

set_option maxRecDepth 100000 in
theorem lifted (os : Os) (started : os.Started) (H : Type) (enc : TypeId × Value → H) :
    ReturnsInHanded {} Try.checked os 5 .any (Rows.modelStaysSpec.pre6 enc Try.prog Try.f5 Rows.modelStaysRow.domain false) (Rows.modelStaysSpec.post enc Try.prog Try.f5 false true false false) := by
  refine returnsInHanded_of_change (C := Try.checked) own started (by kernel_rfl) Try.func5
    (ChangeSpec.witness6 (enc := enc) (C := Try.checked) false ⟨#[], #[.agg (Array.replicate 256 (.int .u8 0)), .slice none 0 0], []⟩ 8 (by kernel_rfl) (by kernel_rfl) (by kernel_rfl) (by kernel_rfl)) ?_
  intro W base args ds gs before hval0 hW hcnd _
  have hval : ∀ (j : Nat) t v, Try.f5.params[j]? = some t → args[j]? = some v → Value.okWide Try.prog W .any base t v := hval0
  have hW' := hW
  obtain ⟨p, q, hA0, hV, rfl, hfz, hnd⟩ := hW
  have hA : DataW.TrodAll enc Try.prog W 0 (fun _ => true) true Try.f5.params.toList args.toList ds p := hA0
  rw [Try.params5] at hA hval
  obtain ⟨v0, vs0, d0, ds0, p0, q0, hargs, rfl, rfl, h0, r0⟩ := trodAll_cons hA
  obtain ⟨v1, vs1, d1, ds1, p1, q1, rfl, rfl, rfl, h1, r1⟩ := trodAll_cons r0
  obtain ⟨rfl, rfl, rfl⟩ := trodAll_nil r1
  obtain rfl : args = #[v0, v1] := by cases args; simp_all
  obtain ⟨rfl, rfl⟩ := trodVars_none hV
  have k0 := h0
  have lt0 : ∀ x ∈ p0, x.block < W.heap.size := by obtain ⟨m, hm⟩ := k0; exact DataW.trod_lt m _ _ _ hm
  obtain ⟨z0, hl0, rfl, hz0⟩ := agg_ints .u8 _ Try.underlying36 rfl ct0 ct0_eq ct0_len ct0_all (hval 0 36 v0 rfl rfl)
  have w0 : z0.length = 256 ∧ ∀ z ∈ z0, IntKind.has .u8 z := ⟨hl0.trans ct0_n, hz0⟩
  obtain ⟨a1, len1, cap1, rfl⟩ := okWide_slice Try.underlying40 (hval 1 40 v1 rfl rfl)
  have k1 := h1
  have lt1 : ∀ x ∈ p1, x.block < W.heap.size := by obtain ⟨m, hm⟩ := k1; exact DataW.trod_lt m _ _ _ hm
  obtain ⟨x1, w1⟩ : ∃ xs, Sl W a1 len1 cap1 14 xs ∧ ∀ i, i < len1 → QS ((xs.drop (i * 14)).take 14) := by
    obtain ⟨fuel, hf⟩ := h1
    exact open_elems QS Try.underlying40 (by kernel_rfl) (by decide) (fun _ _ _ h => QS_of h) hf
  clear hA0 hval0
  refine (walk z0 a1 len1 cap1 x1 W w0 w1).mono fun e W' ⟨he, bel⟩ => ?_
  subst he
  exact ⟨_, rfl, _, _, _, [], _, [], hW', trodAll_mk1 (shut_bool Try.underlying4 _), (trodAll_cons_mk (Below.trod laidOut (by kernel_rfl) (of_decide_eq_true (by kernel_rfl)) k0 bel lt0) (trodAll_cons_mk (Below.trod laidOut (by kernel_rfl) (of_decide_eq_true (by kernel_rfl)) k1 bel lt1) trodAll_mk0)), rfl, bel.frame _, fun h => by cases h⟩

theorem over : Rows.modelStaysRow.holds Try.pinned (OpenSpec.ofChange Rows.modelStaysSpec) :=
  OpenClaim.holds_of_wide 5 Try.f5 rfl rfl rfl rfl rfl rfl rfl ⟨rfl, rfl, rfl, rfl, rfl⟩ rfl rfl rfl rfl rfl (by kernel_rfl) Try.func5 (by kernel_rfl)
    (of_decide_eq_true (by kernel_rfl)) (by unfold Func.isWrapper; first | (rw [if_pos (by decide +kernel)]; kernel_rfl) | (rw [if_neg (by decide +kernel)]; exact ⟨rfl, rfl⟩))
    (fun os started H enc _ => lifted os started H enc)

/-- The statement. -/
theorem proved : Rows.ModelStaysSaid := over
#print axioms proved
end Go.Proofs.Ytdoicmjomlaoaaa.modelStays
