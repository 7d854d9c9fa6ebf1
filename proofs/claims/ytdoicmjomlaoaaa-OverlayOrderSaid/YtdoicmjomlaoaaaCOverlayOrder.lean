/-
  Proves the given statement Rows.OverlayOrderSaid: the Go function returns true for every input, and each argument reads afterwards as before. No condition.
-/
import Derived.Test.YtdoicmjomlaoaaaRows
import Derived.Test.YtdoicmjomlaoaaaH
import Derived.Test.YtdoicmjomlaoaaaOF
import Derived.WalkKit
import Derived.ProofKit
import Derived.OpenShut
import Derived.ShutString
import Derived.ChangeOld
import Derived.Below
namespace Go.Proofs.Ytdoicmjomlaoaaa.overlayOrder
open Go.ChangeShapes Go.WideShapes Go.ChangeAt Go.RowKit
open Go.ChangeMaps (open_string shut_string)
set_option linter.unusedVariables false

theorem own : ownKnob Try.prog.godebug = none := by kernel_rfl
theorem laidOut : laidOutB Try.prog = true := by kernel_rfl

theorem walk (a0 : Option Addr) (len0 cap0 : Nat) (x0 : List Value) (x1 : List Value) (x2 : List Value) (w : World) (w0 : Sl w a0 len0 cap0 9 x0 ∧ ∀ i, i < len0 → QW ((x0.drop (i * 9)).take 9)) (w1 : QW x1) (w2 : QW x2) :
    Calls Try.prog 3 #[.slice a0 len0 cap0, .agg x1.toArray, .agg x2.toArray] w fun e w' => e = .returned (.bool true) ∧ Below w.heap.size w w' := by
  obtain ⟨p, hp, _, rfl⟩ := w1
  obtain ⟨q, hq, _, rfl⟩ := w2
  obtain ⟨l, hl, h8, _, rfl⟩ := rows_wr len0 x0 w0.1.len w0.2
  have m0 := w0.1.le
  have m1 := w0.1.max
  rcases Nat.lt_or_ge 100 len0 with h | h
  · exact oorder_long a0 len0 cap0 _ _ w h (by omega)
  · by_cases h1 : ptE l p = 0
    · by_cases h2 : ptE l q = 0
      · exact oorder_good a0 len0 cap0 l p q w w0.1 h8 h hp hq h1 h2
      · exact oorder_bad a0 len0 cap0 l p q w w0.1 h8 h hp hq (.inr h2)
    · exact oorder_bad a0 len0 cap0 l p q w w0.1 h8 h hp hq (.inl h1)

set_option maxRecDepth 100000 in
theorem lifted (os : Os) (started : os.Started) (H : Type) (enc : TypeId × Value → H) :
    ReturnsInHanded {} Try.checked os 3 .any (Rows.overlayOrderSpec.pre6 enc Try.prog Try.f3 Rows.overlayOrderRow.domain false) (Rows.overlayOrderSpec.post enc Try.prog Try.f3 false true false false) := by
  refine returnsInHanded_of_change (C := Try.checked) own started (by kernel_rfl) Try.func3
    (ChangeSpec.witness6 (enc := enc) (C := Try.checked) false ⟨#[], #[.slice none 0 0, .agg #[.int .i64 0, .int .u8 0, .int .u8 0, .int .u8 0, .int .u8 0, .int .u8 0, .int .u8 0, .int .u8 0, .int .u8 0], .agg #[.int .i64 0, .int .u8 0, .int .u8 0, .int .u8 0, .int .u8 0, .int .u8 0, .int .u8 0, .int .u8 0, .int .u8 0]], []⟩ 8 (by kernel_rfl) (by kernel_rfl) (by kernel_rfl) (by kernel_rfl)) ?_
  intro W base args ds gs before hval0 hW hcnd _
  have hval : ∀ (j : Nat) t v, Try.f3.params[j]? = some t → args[j]? = some v → Value.okWide Try.prog W .any base t v := hval0
  have hW' := hW
  obtain ⟨p, q, hA0, hV, rfl, hfz, hnd⟩ := hW
  have hA : DataW.TrodAll enc Try.prog W 0 (fun _ => true) true Try.f3.params.toList args.toList ds p := hA0
  rw [Try.params3] at hA hval
  obtain ⟨v0, vs0, d0, ds0, p0, q0, hargs, rfl, rfl, h0, r0⟩ := trodAll_cons hA
  obtain ⟨v1, vs1, d1, ds1, p1, q1, rfl, rfl, rfl, h1, r1⟩ := trodAll_cons r0
  obtain ⟨v2, vs2, d2, ds2, p2, q2, rfl, rfl, rfl, h2, r2⟩ := trodAll_cons r1
  obtain ⟨rfl, rfl, rfl⟩ := trodAll_nil r2
  obtain rfl : args = #[v0, v1, v2] := by cases args; simp_all
  obtain ⟨rfl, rfl⟩ := trodVars_none hV
  obtain ⟨a0, len0, cap0, rfl⟩ := okWide_slice Try.underlying22 (hval 0 22 v0 rfl rfl)
  have k0 := h0
  have lt0 : ∀ x ∈ p0, x.block < W.heap.size := by obtain ⟨m, hm⟩ := k0; exact DataW.trod_lt m _ _ _ hm
  obtain ⟨x0, w0⟩ : ∃ xs, Sl W a0 len0 cap0 9 xs ∧ ∀ i, i < len0 → QW ((xs.drop (i * 9)).take 9) := by
    obtain ⟨fuel, hf⟩ := h0
    exact open_elems QW Try.underlying22 (by kernel_rfl) (by decide) (fun _ _ _ h => QW_of h) hf
  have k1 := h1
  have lt1 : ∀ x ∈ p1, x.block < W.heap.size := by obtain ⟨m, hm⟩ := k1; exact DataW.trod_lt m _ _ _ hm
  obtain ⟨x1, rfl⟩ := agg_open _ Try.underlying26 rfl (hval 1 26 v1 rfl rfl)
  have w1 : QW x1 := by obtain ⟨m, hm⟩ := h1; exact QW_of hm
  have k2 := h2
  have lt2 : ∀ x ∈ p2, x.block < W.heap.size := by obtain ⟨m, hm⟩ := k2; exact DataW.trod_lt m _ _ _ hm
  obtain ⟨x2, rfl⟩ := agg_open _ Try.underlying26 rfl (hval 2 26 v2 rfl rfl)
  have w2 : QW x2 := by obtain ⟨m, hm⟩ := h2; exact QW_of hm
  clear hA0 hval0
  refine (walk a0 len0 cap0 x0 x1 x2 W w0 w1 w2).mono fun e W' ⟨he, bel⟩ => ?_
  subst he
  exact ⟨_, rfl, _, _, _, [], _, [], hW', trodAll_mk1 (shut_bool Try.underlying4 _), (trodAll_cons_mk (Below.trod laidOut (by kernel_rfl) (of_decide_eq_true (by kernel_rfl)) k0 bel lt0) (trodAll_cons_mk (Below.trod laidOut (by kernel_rfl) (of_decide_eq_true (by kernel_rfl)) k1 bel lt1) (trodAll_cons_mk (Below.trod laidOut (by kernel_rfl) (of_decide_eq_true (by kernel_rfl)) k2 bel lt2) trodAll_mk0))), rfl, bel.frame _, fun h => by cases h⟩

theorem over : Rows.overlayOrderRow.holds Try.pinned (OpenSpec.ofChange Rows.overlayOrderSpec) :=
  OpenClaim.holds_of_wide 3 Try.f3 rfl rfl rfl rfl rfl rfl rfl ⟨rfl, rfl, rfl, rfl, rfl⟩ rfl rfl rfl rfl rfl (by kernel_rfl) Try.func3 (by kernel_rfl)
    (of_decide_eq_true (by kernel_rfl)) (by unfold Func.isWrapper; first | (rw [if_pos (by decide +kernel)]; kernel_rfl) | (rw [if_neg (by decide +kernel)]; exact ⟨rfl, rfl⟩))
    (fun os started H enc _ => lifted os started H enc)

/-- The statement. -/
theorem proved : Rows.OverlayOrderSaid := over
#print axioms proved
end Go.Proofs.Ytdoicmjomlaoaaa.overlayOrder
