import Derived.Test.YtdoicmjomlaoaaaO9
import Derived.Stop.BytesEq
namespace Go.Proofs.Ytdoicmjomlaoaaa
open Go.RowKit
theorem eq24 (w : World) (l m : List UInt8) (hl : l.length = 8) (hm : m.length = 8) : (Op.equalIn 10000 24 (.agg (bs l).toArray) (.agg (bs m).toArray)).run Try.prog w = .ok (l == m) w :=
  run_equalIn_bytes w 9998 24 5 8 Try.underlying24 Try.underlying5 (fun w => by
    have h : (Try.prog.info? 5).map (·.size) = some 1 := by kernel_rfl
    obtain ⟨i0, hi0, hs⟩ := Option.map_eq_some_iff.1 h
    simp [sizeOf, typeInfo, hi0, hs]) l m hl hm
def weq (p q : Wr) : Bool := p.1 == q.1 && p.2 == q.2
theorem weq_eq (p q : Wr) : weq p q = decide (p = q) := by
  obtain ⟨a, b⟩ := p
  obtain ⟨c, d⟩ := q
  unfold weq
  rw [Bool.eq_iff_iff]
  simp
set_option maxHeartbeats 2000000 in
theorem weq_any (p q : Wr) (hp : p.2.length = 8) (hq : q.2.length = 8) (W : World) :
    Calls Try.prog 27 #[.agg (wc p).toArray, .agg (wc q).toArray] W fun e w' => e = .returned (.bool (weq p q)) ∧ Below W.heap.size W w' := by
  obtain ⟨B, b0, b1, b2, b3, b4, b5, b6, b7, rfl⟩ := wr8 hp
  obtain ⟨C, d0, d1, d2, d3, d4, d5, d6, d7, rfl⟩ := wr8 hq
  have he := fun w => eq24 w [b0, b1, b2, b3, b4, b5, b6, b7] [d0, d1, d2, d3, d4, d5, d6, d7] rfl rfl
  obtain ⟨r, hr⟩ : ∃ r, r = ([b0, b1, b2, b3, b4, b5, b6, b7] == [d0, d1, d2, d3, d4, d5, d6, d7]) := ⟨_, rfl⟩
  rw [← hr] at he
  have HR := hidd hr
  clear hr
  simp only [wc, bs, List.map_cons, List.map_nil] at he ⊢
  by_cases h : B = C
  · subst h
    go_enter Try.func27, Try.ntmps27
    go_wp2
    go_ret
    refine ⟨ret_b ?_, ((Below.refl _ W).alloc (Nat.le_refl _) _).alloc (by simp) _⟩
    unfold weq
    rw [HR.out]
    simp
  · have hne : (B == C) = false := by simp [h]
    have HN := hidd hne
    go_enter Try.func27, Try.ntmps27
    go_wp2
    go_ret
    refine ⟨ret_b ?_, ((Below.refl _ W).alloc (Nat.le_refl _) _).alloc (by simp) _⟩
    unfold weq
    rw [HN.out]
    rfl
end Go.Proofs.Ytdoicmjomlaoaaa
