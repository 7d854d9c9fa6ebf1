/-
  Proves the given statement Rows.ModelSwapsSaid: the Go function returns true for every input, and each argument reads afterwards as before. No condition.
-/
import Derived.Test.YtdoicmjomlaoaaaRows
import Derived.Test.YtdoicmjomlaoaaaMQ
import Derived.Test.YtdoicmjomlaoaaaF
import Derived.Test.YtdoicmjomlaoaaaH
import Derived.WalkKit
import Derived.ProofKit
import Derived.OpenShut
import Derived.ShutString
import Derived.ChangeOld
import Derived.Below
namespace Go.Proofs.Ytdoicmjomlaoaaa.modelSwaps
open Go.ChangeShapes Go.WideShapes Go.ChangeAt Go.RowKit
open Go.ChangeMaps (open_string shut_string)
set_option linter.unusedVariables false

theorem own : ownKnob Try.prog.godebug = none := by kernel_rfl
theorem laidOut : laidOutB Try.prog = true := by kernel_rfl
noncomputable def ct0 : List TypeId := (Try.prog.cellTypes Try.prog.depth 36).getD []
theorem ct0_eq : Try.prog.cellTypes Try.prog.depth 36 = some ct0 := by kernel_rfl
theorem ct0_n : ct0.length = 256 := by kernel_rfl
theorem ct0_len : Try.prog.cellsOf 36 = ct0.length := by kernel_rfl
theorem ct0_allb : ct0.all (fun u => match Try.prog.underlying u with | some (.int .u8) => true | _ => false) = true := by kernel_rfl
theorem ct0_all : ∀ u ∈ ct0, Try.prog.underlying u = some (.int .u8) := by
  intro u hu
  have h := List.all_eq_true.1 ct0_allb u hu
  revert h
  generalize Try.prog.underlying u = x
  intro h
  split at h
  · rfl
  · cases h

set_option maxRecDepth 100000 in
theorem walk (z0 : List Int) (a1 : Option Addr) (len1 cap1 : Nat) (x1 : List Value) (a2 : Option Addr) (len2 cap2 : Nat) (x2 : List Value) (w : World) (w0 : z0.length = 256 ∧ ∀ z ∈ z0, IntKind.has .u8 z) (w1 : Sl w a1 len1 cap1 14 x1 ∧ ∀ i, i < len1 → QS ((x1.drop (i * 14)).take 14)) (w2 : Sl w a2 len2 cap2 14 x2 ∧ ∀ i, i < len2 → QS ((x2.drop (i * 14)).take 14)) :
    Calls Try.prog 6 #[.agg (z0.map (Value.int .u8)).toArray, .slice a1 len1 cap1, .slice a2 len2 cap2] w fun e w' => e = .returned (.bool true) ∧ Below w.heap.size w w' := by
  have hz : z0.map (Value.int .u8) = bs (z0.map fun z => UInt8.ofNat z.toNat) := by
    unfold bs
    rw [List.map_map]
    apply List.map_congr_left
    intro z hz
    have := has_u8 (w0.2 z hz)
    simp
    omega
  have hH : (z0.map fun z => UInt8.ofNat z.toNat).length = 256 := by simp [w0.1]
  obtain ⟨l, hl, h8, rfl⟩ := rows_sn len1 x1 w1.1.len w1.2
  obtain ⟨l', hl', h8', rfl⟩ := rows_sn len2 x2 w2.1.len w2.2
  rw [hz]
  exact swaps_any _ hH a1 len1 cap1 l a2 len2 cap2 l' w w1.1 h8 w2.1 h8'

set_option maxRecDepth 100000 in
theorem lifted (os : Os) (started : os.Started) (H : Type) (enc : TypeId × Value → H) :
    ReturnsInHanded {} Try.checked os 6 .any (Rows.modelSwapsSpec.pre6 enc Try.prog Try.f6 Rows.modelSwapsRow.domain false) (Rows.modelSwapsSpec.post enc Try.prog Try.f6 false true false false) := by
  refine returnsInHanded_of_change (C := Try.checked) own started (by kernel_rfl) Try.func6
    (ChangeSpec.witness6 (enc := enc) (C := Try.checked) false ⟨#[], #[.agg (Array.replicate 256 (.int .u8 0)), .slice none 0 0, .slice none 0 0], []⟩ 8 (by kernel_rfl) (by kernel_rfl) (by kernel_rfl) (by kernel_rfl)) ?_
  intro W base args ds gs before hval0 hW hcnd _
  have hval : ∀ (j : Nat) t v, Try.f6.params[j]? = some t → args[j]? = some v → Value.okWide Try.prog W .any base t v := hval0
  have hW' := hW
  obtain ⟨p, q, hA0, hV, rfl, hfz, hnd⟩ := hW
  have hA : DataW.TrodAll enc Try.prog W 0 (fun _ => true) true Try.f6.params.toList args.toList ds p := hA0
  rw [Try.params6] at hA hval
  obtain ⟨v0, vs0, d0, ds0, p0, q0, hargs, rfl, rfl, h0, r0⟩ := trodAll_cons hA
  obtain ⟨v1, vs1, d1, ds1, p1, q1, rfl, rfl, rfl, h1, r1⟩ := trodAll_cons r0
  obtain ⟨v2, vs2, d2, ds2, p2, q2, rfl, rfl, rfl, h2, r2⟩ := trodAll_cons r1
  obtain ⟨rfl, rfl, rfl⟩ := trodAll_nil r2
  obtain rfl : args = #[v0, v1, v2] := by cases args; simp_all
  obtain ⟨rfl, rfl⟩ := trodVars_none hV
  have k0 := h0
  have lt0 : ∀ x ∈ p0, x.block < W.heap.size := by obtain ⟨m, hm⟩ := k0; exact DataW.trod_lt m _ _ _ hm
  obtain ⟨z0, hl0, rfl, hz0⟩ := agg_ints .u8 _ Try.underlying36 rfl ct0 ct0_eq ct0_len ct0_all (hval 0 36 v0 rfl rfl)
  have w0 : z0.length = 256 ∧ ∀ z ∈ z0, IntKind.has .u8 z := ⟨hl0.trans ct0_n, hz0⟩
  obtain ⟨a1, len1, cap1, rfl⟩ := okWide_slice Try.underlying40 (hval 1 40 v1 rfl rfl)
  have k1 := h1
  have lt1 : ∀ x ∈ p1, x.block < W.heap.size := by obtain ⟨m, hm⟩ := k1; exact DataW.trod_lt m _ _ _ hm
  obtain ⟨x1, w1⟩ : ∃ xs, Sl W a1 len1 cap1 14 xs ∧ ∀ i, i < len1 → QS ((xs.drop (i * 14)).take 14) := by
    obtain ⟨fuel, hf⟩ := h1
    exact open_elems QS Try.underlying40 (by kernel_rfl) (by decide) (fun _ _ _ h => QS_of h) hf
  obtain ⟨a2, len2, cap2, rfl⟩ := okWide_slice Try.underlying40 (hval 2 40 v2 rfl rfl)
  have k2 := h2
  have lt2 : ∀ x ∈ p2, x.block < W.heap.size := by obtain ⟨m, hm⟩ := k2; exact DataW.trod_lt m _ _ _ hm
  obtain ⟨x2, w2⟩ : ∃ xs, Sl W a2 len2 cap2 14 xs ∧ ∀ i, i < len2 → QS ((xs.drop (i * 14)).take 14) := by
    obtain ⟨fuel, hf⟩ := h2
    exact open_elems QS Try.underlying40 (by kernel_rfl) (by decide) (fun _ _ _ h => QS_of h) hf
  clear hA0 hval0
  refine (walk z0 a1 len1 cap1 x1 a2 len2 cap2 x2 W w0 w1 w2).mono fun e W' ⟨he, bel⟩ => ?_
  subst he
  exact ⟨_, rfl, _, _, _, [], _, [], hW', trodAll_mk1 (shut_bool Try.underlying4 _), (trodAll_cons_mk (Below.trod laidOut (by kernel_rfl) (of_decide_eq_true (by kernel_rfl)) k0 bel lt0) (trodAll_cons_mk (Below.trod laidOut (by kernel_rfl) (of_decide_eq_true (by kernel_rfl)) k1 bel lt1) (trodAll_cons_mk (Below.trod laidOut (by kernel_rfl) (of_decide_eq_true (by kernel_rfl)) k2 bel lt2) trodAll_mk0))), rfl, bel.frame _, fun h => by cases h⟩

theorem over : Rows.modelSwapsRow.holds Try.pinned (OpenSpec.ofChange Rows.modelSwapsSpec) :=
  OpenClaim.holds_of_wide 6 Try.f6 rfl rfl rfl rfl rfl rfl rfl ⟨rfl, rfl, rfl, rfl, rfl⟩ rfl rfl rfl rfl rfl (by kernel_rfl) Try.func6 (by kernel_rfl)
    (of_decide_eq_true (by kernel_rfl)) (by unfold Func.isWrapper; first | (rw [if_pos (by decide +kernel)]; kernel_rfl) | (rw [if_neg (by decide +kernel)]; exact ⟨rfl, rfl⟩))
    (fun os started H enc _ => lifted os started H enc)

/-- The statement. -/
theorem proved : Rows.ModelSwapsSaid := over
#print axioms proved
end Go.Proofs.Ytdoicmjomlaoaaa.modelSwaps
