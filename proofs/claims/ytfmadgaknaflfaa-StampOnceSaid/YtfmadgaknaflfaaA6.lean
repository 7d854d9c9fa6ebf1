import Derived.Test.YtfmadgaknaflfaaA5
import Derived.Test.YtfmadgaknaflfaaF
namespace Go.Proofs.Ytfmadgaknaflfaa
open Go.RowKit
def QBool (cs : List Value) : Prop := ∃ b, cs = [Value.bool b]
theorem QBool_of {H : Type} {enc : TypeId × Value → H} {w : World} {base fuel : Nat} {spare : Nat → Bool} {held : Bool} {cs : List Value} {x : DataW H × List MemPlace} (h : DataW.trod enc Try.prog w base spare held fuel 4 cs = some x) : QBool cs := by
  obtain ⟨b, hb, _⟩ := DataW.trod_bool Try.underlying4 h
  exact ⟨b, hb⟩
end Go.Proofs.Ytfmadgaknaflfaa
