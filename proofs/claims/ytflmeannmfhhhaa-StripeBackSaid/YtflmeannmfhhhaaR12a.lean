import Derived.Test.YtflmeannmfhhhaaR11
namespace Go.Proofs.Ytflmeannmfhhhaa
open Go.RowKit
theorem own_bit : ∀ (l : List Int) (n : Int) (k : Nat), (own l n).testBit k = decide (l[k]? = some n)
  | [], n, k => by simp [own]
  | x :: r, n, 0 => by
    simp only [own, Nat.testBit_zero, List.getElem?_cons_zero, Option.some.injEq]
    split <;> simp_all <;> omega
  | x :: r, n, k + 1 => by
    rw [Nat.testBit_succ, List.getElem?_cons_succ, ← own_bit r n k]
    congr 1
    simp only [own]
    split <;> omega
theorem bit_at : ∀ a, a < 256 → ∀ s, s < 8 → bits BinOp.and IntKind.i64 (((a : Nat) : Int) / 2 ^ s) 1 = if a.testBit s = true then 1 else 0 := by decide +kernel
theorem own_256 (l : List Int) (n : Int) (h : l.length = 8) : own l n < 256 := by
  have := own_lt l n
  rw [h] at this
  exact this
theorem all_set {z : List Int} {f : Int → Bool} {s : Nat} {t : Int} (h : z.all f = true) (ht : f t = true) : (z.set s t).all f = true := by
  rw [List.all_eq_true] at h ⊢
  intro x hx
  rcases List.mem_or_eq_of_mem_set hx with h1 | h1
  · exact h x h1
  · subst h1; exact ht
theorem load_all {w : World} {g : Nat} {cs : Array Value} {t ty : TypeId} {d : TypeDesc} (hg : w.heap[g]? = some (.cells cs t (0, 0))) (hu : Try.prog.underlying ty = some d) (hd : d.isRow = true) (hi : (Try.prog.info? ty).map (·.size) = some cs.size) :
    ∀ w', Below w.heap.size w w' → (Instr.loadAt ty (.pointer (some ⟨g, 0, none⟩))).run Try.prog w' = .ok (.agg cs) w' := by
  intro w' hb
  have hlt : g < w.heap.size := (Array.getElem?_eq_some_iff.1 hg).1
  simp only [Instr.loadAt, Instr.sureAddr, Sem.run_bind, Sem.run_pure, Result.andThen_ok, run_loadVar_row w' g t ty cs (0, 0) d (blk_below hb hg hlt) hu (by cases d <;> simp_all [TypeDesc.isRow]) hi]
theorem exec_load {P : Program} {ρ : Operand → Value} {o : Oper} {t : TypeId} {a : Operand} {v : Value} {w : World} (ho : o.op = .load t a) (h : (Instr.loadAt t (ρ a)).run P w = .ok v w) : (execOp ρ o).run P w = .ok (.value v) w := by
  unfold execOp
  simp [ho, h]
end Go.Proofs.Ytflmeannmfhhhaa
