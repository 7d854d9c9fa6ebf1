import Derived.Test.YtheodlbbalbliaaM2
import Derived.WalkKit
namespace Go.Proofs.Ytheodlbbalbliaa
open Go Go.RowKit
/-- Where a slice of one-cell elements, cut at lo, begins (m: the new capacity's end). -/
def cutAt (a : Option Addr) (lo m : Nat) : Option Addr := if m = lo then a else a.map (·.add lo)
theorem cutAt_some (b off lo m : Nat) : cutAt (some ⟨b, off, none⟩) lo m = if m = lo then some ⟨b, off, none⟩ else some ⟨b, off + lo, none⟩ := by
  unfold cutAt
  split
  · rfl
  · simp [Addr.add]
theorem reads_cut {w : World} {a : Option Addr} {l : List UInt8} (h : Reads w a l) (lo hi m : Nat) (h1 : lo ≤ hi) (h2 : hi ≤ l.length) (h3 : hi ≤ m) : Reads w (cutAt a lo m) ((l.take hi).drop lo) := by
  intro i hi'
  have hl : ((l.take hi).drop lo).length = hi - lo := by simp; omega
  rw [hl] at hi'
  obtain ⟨b, off, ha, hc⟩ := h (lo + i) (by omega)
  refine ⟨b, off + lo, ?_, ?_⟩
  · rw [ha, cutAt_some, if_neg (by omega)]
  · rw [Nat.add_assoc, hc]
    congr 3
    simp [List.getD_eq_getElem?_getD, List.getElem?_drop, List.getElem?_take]
    rw [if_pos (by omega)]
section
variable {P : Program} (t e : TypeId) (ht : P.underlying t = some (.slice e)) (hs : (P.info? e).map (·.size) = some 1)
include ht hs
theorem run_cut_lh (w : World) (a : Option Addr) (len cap : Nat) (kl kh : IntKind) (l h : Int) (h0 : 0 ≤ l) (h1 : l ≤ h) (h2 : h ≤ cap) :
    (Instr.sliceAt t (.slice a len cap) (some (.int kl l)) (some (.int kh h)) none).run P w = .ok (.slice (cutAt a l.toNat cap) (h.toNat - l.toNat) (cap - l.toNat)) w := by
  have he : P.elem t = e := by simp [Program.elem, ht]
  have ht' : P.underlying t = some (.slice (P.elem t)) := by rw [he]; exact ht
  cases hq : P.info? e with
  | none => simp [hq] at hs
  | some i =>
    have hsz : i.size = 1 := by simpa [hq] using hs
    rw [run_sliceAt_slice w t _ _ _ _ ht', run_slice_lh w t a len cap ht' kl kh l h h0 h1 h2, he]
    simp [sizeOf, typeInfo, hq, hsz, sliced, cutAt]
theorem run_cut_l (w : World) (a : Option Addr) (len cap : Nat) (kl : IntKind) (l : Int) (h0 : 0 ≤ l) (h1 : l ≤ len) :
    (Instr.sliceAt t (.slice a len cap) (some (.int kl l)) none none).run P w = .ok (.slice (cutAt a l.toNat cap) (len - l.toNat) (cap - l.toNat)) w := by
  have he : P.elem t = e := by simp [Program.elem, ht]
  have ht' : P.underlying t = some (.slice (P.elem t)) := by rw [he]; exact ht
  cases hq : P.info? e with
  | none => simp [hq] at hs
  | some i =>
    have hsz : i.size = 1 := by simpa [hq] using hs
    rw [run_sliceAt_slice w t _ _ _ _ ht', run_slice_l w t a len cap ht' kl l h0 h1, he]
    simp [sizeOf, typeInfo, hq, hsz, sliced, cutAt]

theorem wpList_cut_lh {ops : Array Oper} {rest : List Oper} {op : Oper} {ac : Act} {w : World} {Q : Exit → Act → World → Prop} (hgd : op.guard = none) (x lo hi : Operand) (ho : op.op = .slice t x (some lo) (some hi) none)
    (a : Option Addr) (len cap : Nat) (kl kh : IntKind) (l h : Int) (hx : ac.eval x = .slice a len cap) (hlo : ac.eval lo = .int kl l) (hhi : ac.eval hi = .int kh h) (h0 : 0 ≤ l) (h1 : l ≤ h) (h2 : h ≤ cap)
    (hK : wpList P ops Q rest (ac.put op.dst (.slice (cutAt a l.toNat cap) (h.toNat - l.toNat) (cap - l.toNat))) w) : wpList P ops Q (op :: rest) ac w :=
  wpList_plain hgd fun _ hK' => by
    unfold Oper.wp execOp
    simp only [ho, hx, hlo, hhi, Option.map_some, Option.map_none, Sem.run_bind, run_cut_lh t e ht hs w a len cap kl kh l h h0 h1 h2, Result.andThen_ok]
    exact hK' _ _ hK
theorem wpList_cut_l {ops : Array Oper} {rest : List Oper} {op : Oper} {ac : Act} {w : World} {Q : Exit → Act → World → Prop} (hgd : op.guard = none) (x lo : Operand) (ho : op.op = .slice t x (some lo) none none)
    (a : Option Addr) (len cap : Nat) (kl : IntKind) (l : Int) (hx : ac.eval x = .slice a len cap) (hlo : ac.eval lo = .int kl l) (h0 : 0 ≤ l) (h1 : l ≤ len)
    (hK : wpList P ops Q rest (ac.put op.dst (.slice (cutAt a l.toNat cap) (len - l.toNat) (cap - l.toNat))) w) : wpList P ops Q (op :: rest) ac w :=
  wpList_plain hgd fun _ hK' => by
    unfold Oper.wp execOp
    simp only [ho, hx, hlo, Option.map_some, Option.map_none, Sem.run_bind, run_cut_l t e ht hs w a len cap kl l h0 h1, Result.andThen_ok]
    exact hK' _ _ hK
end
end Go.Proofs.Ytheodlbbalbliaa
