import Derived.Test.YtheodlbbalbliaaV11
import Derived.Test.YtheodlbbalbliaaG
namespace Go.Proofs.Ytheodlbbalbliaa
open Go.RowKit
theorem QB8_of {H : Type} {enc : TypeId × Value → H} {w : World} {base fuel : Nat} {spare : Nat → Bool} {held : Bool} {cs : List Value} {x : DataW H × List MemPlace} (h : DataW.trod enc Try.prog w base spare held fuel 47 cs = some x) : QB8 cs := by
  obtain ⟨zs, hl, rfl, hz⟩ := trod_arr Try.underlying47 Try.underlying5 (by kernel_rfl) (by kernel_rfl) h
  exact ⟨zs.map fun z => UInt8.ofNat z.toNat, by simpa using hl, ints_bs hz⟩
end Go.Proofs.Ytheodlbbalbliaa
