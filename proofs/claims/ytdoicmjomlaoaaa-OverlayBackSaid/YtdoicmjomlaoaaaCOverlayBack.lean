/-
  Proves the given statement Rows.OverlayBackSaid: the Go function returns true for every input, and each argument reads afterwards as before. No condition.
-/
import Derived.Test.YtdoicmjomlaoaaaRows
import Derived.Test.YtdoicmjomlaoaaaH
import Derived.Test.YtdoicmjomlaoaaaON
import Derived.WalkKit
import Derived.ProofKit
import Derived.OpenShut
import Derived.ShutString
import Derived.ChangeOld
import Derived.Below
namespace Go.Proofs.Ytdoicmjomlaoaaa.overlayBack
open Go.ChangeShapes Go.WideShapes Go.ChangeAt Go.RowKit
open Go.ChangeMaps (open_string shut_string)
set_option linter.unusedVariables false

theorem own : ownKnob Try.prog.godebug = none := by kernel_rfl
theorem laidOut : laidOutB Try.prog = true := by kernel_rfl
noncomputable def ct0 : List TypeId := (Try.prog.cellTypes Try.prog.depth 36).getD []
theorem ct0_eq : Try.prog.cellTypes Try.prog.depth 36 = some ct0 := by kernel_rfl
theorem ct0_n : ct0.length = 256 := by kernel_rfl
theorem ct0_len : Try.prog.cellsOf 36 = ct0.length := by kernel_rfl
theorem ct0_allb : ct0.all (fun u => match Try.prog.underlying u with | some (.int .u8) => true | _ => false) = true := by kernel_rfl
theorem ct0_all : ∀ u ∈ ct0, Try.prog.underlying u = some (.int .u8) := by
  intro u hu
  have h := List.all_eq_true.1 ct0_allb u hu
  revert h
  generalize Try.prog.underlying u = x
  intro h
  split at h
  · rfl
  · cases h

theorem walk (z0 : List Int) (a1 : Option Addr) (len1 cap1 : Nat) (x1 : List Value) (a2 : Option Addr) (len2 cap2 : Nat) (x2 : List Value) (x3 : List Value) (w : World) (w0 : z0.length = 256 ∧ ∀ z ∈ z0, IntKind.has .u8 z) (w1 : Sl w a1 len1 cap1 9 x1 ∧ ∀ i, i < len1 → QW ((x1.drop (i * 9)).take 9)) (w2 : Sl w a2 len2 cap2 9 x2 ∧ ∀ i, i < len2 → QW ((x2.drop (i * 9)).take 9)) (w3 : QW x3) :
    Calls Try.prog 4 #[.agg (z0.map (Value.int .u8)).toArray, .slice a1 len1 cap1, .slice a2 len2 cap2, .agg x3.toArray] w fun e w' => e = .returned (.bool true) ∧ Below w.heap.size w w' := by
  obtain ⟨p, hp, _, rfl⟩ := w3
  obtain ⟨la, hla, h81, _, rfl⟩ := rows_wr len1 x1 w1.1.len w1.2
  obtain ⟨lb, hlb, h82, _, rfl⟩ := rows_wr len2 x2 w2.1.len w2.2
  have m1 := w1.1.le
  have m2 := w1.1.max
  have m3 := w2.1.le
  have m4 := w2.1.max
  have hz : z0.map (Value.int .u8) = bs (z0.map fun z => UInt8.ofNat z.toNat) := by
    unfold bs
    rw [List.map_map]
    apply List.map_congr_left
    intro z hz
    have := has_u8 (w0.2 z hz)
    simp
    omega
  have hH : (z0.map fun z => UInt8.ofNat z.toNat).length = 256 := by simp [w0.1]
  rw [hz]
  by_cases hb : writtenB la = true ∧ writtenB lb = true
  · by_cases hE : ptE la p = 0
    · exact oback_fine _ a1 len1 cap1 la a2 len2 cap2 lb p w hH w1.1 h81 w2.1 h82 hp hb.1 hb.2 hE
    · exact oback_ref _ a1 len1 cap1 la a2 len2 cap2 lb p w hH w1.1 h81 w2.1 h82 hp hb.1 hb.2 hE
  · exact oback_bad _ a1 len1 cap1 la a2 len2 cap2 lb p w hH w1.1 h81 w2.1 h82 hp (by omega) (by omega) hb

set_option maxRecDepth 100000 in
theorem lifted (os : Os) (started : os.Started) (H : Type) (enc : TypeId × Value → H) :
    ReturnsInHanded {} Try.checked os 4 .any (Rows.overlayBackSpec.pre6 enc Try.prog Try.f4 Rows.overlayBackRow.domain false) (Rows.overlayBackSpec.post enc Try.prog Try.f4 false true false false) := by
  refine returnsInHanded_of_change (C := Try.checked) own started (by kernel_rfl) Try.func4
    (ChangeSpec.witness6 (enc := enc) (C := Try.checked) false ⟨#[], #[.agg (Array.replicate 256 (.int .u8 0)), .slice none 0 0, .slice none 0 0, .agg #[.int .i64 0, .int .u8 0, .int .u8 0, .int .u8 0, .int .u8 0, .int .u8 0, .int .u8 0, .int .u8 0, .int .u8 0]], []⟩ 8 (by kernel_rfl) (by kernel_rfl) (by kernel_rfl) (by kernel_rfl)) ?_
  intro W base args ds gs before hval0 hW hcnd _
  have hval : ∀ (j : Nat) t v, Try.f4.params[j]? = some t → args[j]? = some v → Value.okWide Try.prog W .any base t v := hval0
  have hW' := hW
  obtain ⟨p, q, hA0, hV, rfl, hfz, hnd⟩ := hW
  have hA : DataW.TrodAll enc Try.prog W 0 (fun _ => true) true Try.f4.params.toList args.toList ds p := hA0
  rw [Try.params4] at hA hval
  obtain ⟨v0, vs0, d0, ds0, p0, q0, hargs, rfl, rfl, h0, r0⟩ := trodAll_cons hA
  obtain ⟨v1, vs1, d1, ds1, p1, q1, rfl, rfl, rfl, h1, r1⟩ := trodAll_cons r0
  obtain ⟨v2, vs2, d2, ds2, p2, q2, rfl, rfl, rfl, h2, r2⟩ := trodAll_cons r1
  obtain ⟨v3, vs3, d3, ds3, p3, q3, rfl, rfl, rfl, h3, r3⟩ := trodAll_cons r2
  obtain ⟨rfl, rfl, rfl⟩ := trodAll_nil r3
  obtain rfl : args = #[v0, v1, v2, v3] := by cases args; simp_all
  obtain ⟨rfl, rfl⟩ := trodVars_none hV
  have k0 := h0
  have lt0 : ∀ x ∈ p0, x.block < W.heap.size := by obtain ⟨m, hm⟩ := k0; exact DataW.trod_lt m _ _ _ hm
  obtain ⟨z0, hl0, rfl, hz0⟩ := agg_ints .u8 _ Try.underlying36 rfl ct0 ct0_eq ct0_len ct0_all (hval 0 36 v0 rfl rfl)
  have w0 : z0.length = 256 ∧ ∀ z ∈ z0, IntKind.has .u8 z := ⟨hl0.trans ct0_n, hz0⟩
  obtain ⟨a1, len1, cap1, rfl⟩ := okWide_slice Try.underlying22 (hval 1 22 v1 rfl rfl)
  have k1 := h1
  have lt1 : ∀ x ∈ p1, x.block < W.heap.size := by obtain ⟨m, hm⟩ := k1; exact DataW.trod_lt m _ _ _ hm
  obtain ⟨x1, w1⟩ : ∃ xs, Sl W a1 len1 cap1 9 xs ∧ ∀ i, i < len1 → QW ((xs.drop (i * 9)).take 9) := by
    obtain ⟨fuel, hf⟩ := h1
    exact open_elems QW Try.underlying22 (by kernel_rfl) (by decide) (fun _ _ _ h => QW_of h) hf
  obtain ⟨a2, len2, cap2, rfl⟩ := okWide_slice Try.underlying22 (hval 2 22 v2 rfl rfl)
  have k2 := h2
  have lt2 : ∀ x ∈ p2, x.block < W.heap.size := by obtain ⟨m, hm⟩ := k2; exact DataW.trod_lt m _ _ _ hm
  obtain ⟨x2, w2⟩ : ∃ xs, Sl W a2 len2 cap2 9 xs ∧ ∀ i, i < len2 → QW ((xs.drop (i * 9)).take 9) := by
    obtain ⟨fuel, hf⟩ := h2
    exact open_elems QW Try.underlying22 (by kernel_rfl) (by decide) (fun _ _ _ h => QW_of h) hf
  have k3 := h3
  have lt3 : ∀ x ∈ p3, x.block < W.heap.size := by obtain ⟨m, hm⟩ := k3; exact DataW.trod_lt m _ _ _ hm
  obtain ⟨x3, rfl⟩ := agg_open _ Try.underlying26 rfl (hval 3 26 v3 rfl rfl)
  have w3 : QW x3 := by obtain ⟨m, hm⟩ := h3; exact QW_of hm
  clear hA0 hval0
  refine (walk z0 a1 len1 cap1 x1 a2 len2 cap2 x2 x3 W w0 w1 w2 w3).mono fun e W' ⟨he, bel⟩ => ?_
  subst he
  exact ⟨_, rfl, _, _, _, [], _, [], hW', trodAll_mk1 (shut_bool Try.underlying4 _), (trodAll_cons_mk (Below.trod laidOut (by kernel_rfl) (of_decide_eq_true (by kernel_rfl)) k0 bel lt0) (trodAll_cons_mk (Below.trod laidOut (by kernel_rfl) (of_decide_eq_true (by kernel_rfl)) k1 bel lt1) (trodAll_cons_mk (Below.trod laidOut (by kernel_rfl) (of_decide_eq_true (by kernel_rfl)) k2 bel lt2) (trodAll_cons_mk (Below.trod laidOut (by kernel_rfl) (of_decide_eq_true (by kernel_rfl)) k3 bel lt3) trodAll_mk0)))), rfl, bel.frame _, fun h => by cases h⟩

theorem over : Rows.overlayBackRow.holds Try.pinned (OpenSpec.ofChange Rows.overlayBackSpec) :=
  OpenClaim.holds_of_wide 4 Try.f4 rfl rfl rfl rfl rfl rfl rfl ⟨rfl, rfl, rfl, rfl, rfl⟩ rfl rfl rfl rfl rfl (by kernel_rfl) Try.func4 (by kernel_rfl)
    (of_decide_eq_true (by kernel_rfl)) (by unfold Func.isWrapper; first | (rw [if_pos (by decide +kernel)]; kernel_rfl) | (rw [if_neg (by decide +kernel)]; exact ⟨rfl, rfl⟩))
    (fun os started H enc _ => lifted os started H enc)

/-- The statement. -/
theorem proved : Rows.OverlayBackSaid := over
#print axioms proved
end Go.Proofs.Ytdoicmjomlaoaaa.overlayBack
