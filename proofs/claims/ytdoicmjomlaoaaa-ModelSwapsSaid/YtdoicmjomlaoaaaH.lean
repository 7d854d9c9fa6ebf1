/- Opening a struct or an array by value, of whatever cells. -/
import Derived.Test.YtdoicmjomlaoaaaF
namespace Go.Proofs.Ytdoicmjomlaoaaa
open Go Go.RowKit
theorem agg_open {P : Program} {w : World} {r : Reach} {base : Nat} {t : TypeId} {v : Value} (d : TypeDesc) (hu : P.underlying t = some d) (hd : d.isRow = true) (h : Value.okWide P w r base t v) : ∃ x : List Value, v = .agg x.toArray := by
  have h' : ∃ cs, v = .agg cs := by
    simp only [Value.okWide, hu] at h
    cases d <;> first | exact ⟨_, h.choose_spec.1⟩ | simp [TypeDesc.isRow] at hd
  obtain ⟨cs, rfl⟩ := h'
  exact ⟨cs.toList, by simp⟩
end Go.Proofs.Ytdoicmjomlaoaaa
