import Derived.WalkKit
import Derived.Deep.WholeRow
import Derived.Deep.MidRow
namespace Go.Proofs.Ytheodlbbalbliaa
open Go Go.RowKit

/-! Laws of operations on whole arrays, in the walk's own form. -/
section
variable {P : Program}
/-- A whole array goes into the block that was made last. -/
theorem wpList_store_new {ops : Array Oper} {rest : List Oper} {op : Oper} {a : Act} {w : World} {Q : Exit → Act → World → Prop} (hgd : op.guard = none) (ty : TypeId) (x y : Operand) (ho : op.op = .store ty x y)
    (c c' : Array Value) (t : TypeId) (hx : a.eval x = .pointer (some ⟨w.heap.size, 0, none⟩)) (hy : a.eval y = .agg c') (hi : (P.info? ty).map (·.size) = some c'.size) (ho' : c.size = c'.size) (h1 : c'.all (·.oneCell') = true)
    (ht : ty = t) (h : wpList P ops Q rest (a.put op.dst undef) (w.alloc (.cells c' t))) : wpList P ops Q (op :: rest) a (w.alloc (.cells c t)) :=
  wpList_plain hgd fun _ hK => by
    subst ht
    unfold Oper.wp execOp
    simp only [ho, hx, hy, Sem.run_bind, run_storeAt_new w ty c c' hi ho' h1, Result.andThen_ok]
    exact hK _ _ h
end
end Go.Proofs.Ytheodlbbalbliaa
