/-
  No cell of these rows narrows 'for every input' (looked for: loops, veiled, ifaces, maps, wideKeys, modest, calm, conditions, laid).
  DERIVED. THE GIVEN ROWS OF THIS SEAT. 3 by the template 'for every input the law returns true; each argument reads behind the call as it read before'; 0 by the template 'total and deterministic' (their statements: YtfmadgaknaflfaaTotals.lean).
  GIVEN WITH THE SEED: the statements are not yours to turn. If you find one false, say at which input.
  Laid BY PROGRAM, IN A SANDBOX (cutbox-rows.mjs): the forced cells as the released guide's own fill.sh prints them over the translation 3ee6082ef1c297db… (all of the seat's roots in one cut). By AI agents, Wed Nov 11 2026. No macro, syntax, notation, axiom, sorry.
-/
import Derived.Test.YtfmadgaknaflfaaChecked
import GoSem.Claim
import GoSem.ClaimJoined
import GoSem.ClaimMapViews
import Derived.JoinedTies
import Derived.KernelRfl
namespace Go.Proofs.Ytfmadgaknaflfaa
/- THE CELL 'sum', in the pinned program and in every row, IS THE sha256 OF THE DUMP (.gsa) THAT YtfmadgaknaflfaaProg.lean LOADS. Nothing in Lean hashes anything: it is a label: what it is worth is what the hold of that sum in a sandbox is worth. -/
noncomputable def Try.pinned : Pinned := { name := "ytfmadgaknaflfaa", sum := "3ee6082ef1c297dba9c00457812ab6d3cc1014be0a1a5a8514c7a4a895d0a0de", checked := Try.checked }
namespace Rows
def none {H : Type} : Left H := { results := [], args := [] }

/-- 'cashboxlaw19.StampLeft': WHATEVER THE INPUT: true; the input reads as it did. -/
def stampLeftSpec : ChangeSpec := { name := "stampLeft", fn := fun _ => fun
  | [d] => { results := [.lit (.bool true)], args := [d] }
  | _ => none }
def stampLeftRow : OpenClaim := { program := "ytfmadgaknaflfaa", sum := "3ee6082ef1c297dba9c00457812ab6d3cc1014be0a1a5a8514c7a4a895d0a0de", func := "cashbox/cashboxlaw19.StampLeft", spec := "stampLeft", apart := false }
def StampLeftSaid : Prop := stampLeftRow.holds Try.pinned (OpenSpec.ofChange stampLeftSpec)

/-- ITS FALSE NEIGHBOUR: 'it returns false'. Refute it at one input. -/
def stampLeftWrong : ChangeSpec := { name := "stampLeft", fn := fun _ => fun
  | [d] => { results := [.lit (.bool false)], args := [d] }
  | _ => none }
def StampLeftWrongFalsely : Prop := stampLeftRow.holds Try.pinned (OpenSpec.ofChange stampLeftWrong)

/-- 'cashboxlaw05.RingPlaces': WHATEVER THE INPUT: true; the input reads as it did. -/
def ringPlacesSpec : ChangeSpec := { name := "ringPlaces", fn := fun _ => fun
  | [d] => { results := [.lit (.bool true)], args := [d] }
  | _ => none }
def ringPlacesRow : OpenClaim := { program := "ytfmadgaknaflfaa", sum := "3ee6082ef1c297dba9c00457812ab6d3cc1014be0a1a5a8514c7a4a895d0a0de", func := "cashbox/cashboxlaw05.RingPlaces", spec := "ringPlaces", unfollowed := true, recurses := true, apart := false }
def RingPlacesSaid : Prop := ringPlacesRow.holds Try.pinned (OpenSpec.ofChange ringPlacesSpec)

/-- ITS FALSE NEIGHBOUR: 'it returns false'. Refute it at one input. -/
def ringPlacesWrong : ChangeSpec := { name := "ringPlaces", fn := fun _ => fun
  | [d] => { results := [.lit (.bool false)], args := [d] }
  | _ => none }
def RingPlacesWrongFalsely : Prop := ringPlacesRow.holds Try.pinned (OpenSpec.ofChange ringPlacesWrong)

/-- 'cashboxlaw19.StampOnce': WHATEVER THE INPUT: true; the input reads as it did. -/
def stampOnceSpec : ChangeSpec := { name := "stampOnce", fn := fun _ => fun
  | [d1, d2] => { results := [.lit (.bool true)], args := [d1, d2] }
  | _ => none }
def stampOnceRow : OpenClaim := { program := "ytfmadgaknaflfaa", sum := "3ee6082ef1c297dba9c00457812ab6d3cc1014be0a1a5a8514c7a4a895d0a0de", func := "cashbox/cashboxlaw19.StampOnce", spec := "stampOnce", apart := false }
def StampOnceSaid : Prop := stampOnceRow.holds Try.pinned (OpenSpec.ofChange stampOnceSpec)

/-- ITS FALSE NEIGHBOUR: 'it returns false'. Refute it at one input. -/
def stampOnceWrong : ChangeSpec := { name := "stampOnce", fn := fun _ => fun
  | [d1, d2] => { results := [.lit (.bool false)], args := [d1, d2] }
  | _ => none }
def StampOnceWrongFalsely : Prop := stampOnceRow.holds Try.pinned (OpenSpec.ofChange stampOnceWrong)

/- THE SECOND FORM. 'bulk': how many values and letters a reading holds, each counted each time it is reached (what is shared counts as often as it is met; a slice's spare places count too). A statement '..UptoSaid' is the law's where the arguments, and the package variables that the reading takes, are together of bulk at most 1048576: NARROWER than '..Said'. Prove '..Said' where nothing that the law and all that it calls make is longer than what came in: it says more and counts as full. Else prove '..UptoSaid'. A law counts once. -/
mutual
def uptoBulk {H : Type} : DataW H → Nat
  | .lit (.string bytes) => bytes.length + 1
  | .lit _ => 1
  | .nil => 1
  | .ptr d => uptoBulk d + 1
  | .slice elems spare => uptoBulkAll elems + uptoBulkAll spare + 1
  | .agg parts => uptoBulkAll parts + 1
  | .iface _ d => uptoBulk d + 1
  | .map entries => uptoBulkEntries entries + 1
  | .held _ => 1
def uptoBulkAll {H : Type} : List (DataW H) → Nat
  | [] => 0
  | d :: r => uptoBulk d + uptoBulkAll r
def uptoBulkEntries {H : Type} : List (Lit × DataW H) → Nat
  | [] => 0
  | x :: r => uptoBulkEntry x + uptoBulkEntries r
def uptoBulkEntry {H : Type} : Lit × DataW H → Nat
  | (.string bytes, d) => bytes.length + uptoBulk d + 1
  | (_, d) => uptoBulk d + 1
 end
def uptoSmall : (H : Type) → List (DataW H) → Bool := fun _ ds => decide (uptoBulkAll ds ≤ 1048576)
def OpenSpec.upto (s : _root_.Go.ChangeSpec) : _root_.Go.OpenSpec := { _root_.Go.OpenSpec.ofChange s with cond := some uptoSmall }

/-- 'cashboxlaw19.StampLeft', WHERE WHAT IT READS IS OF BULK AT MOST 1048576: true; the input reads as it did. -/
def stampLeftUptoRow : OpenClaim := { program := "ytfmadgaknaflfaa", sum := "3ee6082ef1c297dba9c00457812ab6d3cc1014be0a1a5a8514c7a4a895d0a0de", func := "cashbox/cashboxlaw19.StampLeft", spec := "stampLeft", apart := false, narrowed := true }
def StampLeftUptoSaid : Prop := stampLeftUptoRow.holds Try.pinned (OpenSpec.upto stampLeftSpec)

/-- 'cashboxlaw05.RingPlaces', WHERE WHAT IT READS IS OF BULK AT MOST 1048576: true; the input reads as it did. -/
def ringPlacesUptoRow : OpenClaim := { program := "ytfmadgaknaflfaa", sum := "3ee6082ef1c297dba9c00457812ab6d3cc1014be0a1a5a8514c7a4a895d0a0de", func := "cashbox/cashboxlaw05.RingPlaces", spec := "ringPlaces", unfollowed := true, recurses := true, apart := false, narrowed := true }
def RingPlacesUptoSaid : Prop := ringPlacesUptoRow.holds Try.pinned (OpenSpec.upto ringPlacesSpec)

/-- 'cashboxlaw19.StampOnce', WHERE WHAT IT READS IS OF BULK AT MOST 1048576: true; the input reads as it did. -/
def stampOnceUptoRow : OpenClaim := { program := "ytfmadgaknaflfaa", sum := "3ee6082ef1c297dba9c00457812ab6d3cc1014be0a1a5a8514c7a4a895d0a0de", func := "cashbox/cashboxlaw19.StampOnce", spec := "stampOnce", apart := false, narrowed := true }
def StampOnceUptoSaid : Prop := stampOnceUptoRow.holds Try.pinned (OpenSpec.upto stampOnceSpec)

end Rows
end Go.Proofs.Ytfmadgaknaflfaa
