import Derived.RangeFuncBox
import Derived.RangeFuncNested
import Derived.RangeFuncBound
import Derived.RangeFuncCalls
import Derived.RangeFuncLeaves
import Derived.Shelf.Abstract
import Derived.Shelf.RegionOpen
import Derived.OwnWalkIn
import Derived.TacticsInMore
import Derived.LoopNIn
import Derived.LoopIn
import Derived.Maps.AppendAt
import Derived.Test.YtfmadgaknaflfaaR1
namespace Go.Proofs.Ytfmadgaknaflfaa
open Go.RowKit Go.Shelf
attribute [local go_sem] Oper.semAt_some
/-- a round keeps the cell that the iterator reads again -/
def KpF (bf : Nat) (A B : World) : Prop := A.cell? ⟨bf, 0, none⟩ = some (.int .i64 1) → B.cell? ⟨bf, 0, none⟩ = some (.int .i64 1)
theorem KpF_t {bf : Nat} {A B C : World} (h : KpF bf A B) (h' : KpF bf B C) : KpF bf A C := fun h0 => h' (h h0)
theorem KpF_b {bf : Nat} (W : World) (l : Nat) (o o' : Obj) (hl : W.heap[l]? = some o) (ho : o.isCells = false) : KpF bf W (W.putObj l o') := fun h0 =>
  cell_kept h0 (grownBy_putObj' W l o') (fun r e => by cases e; exact ⟨o, hl, ho⟩)
theorem cell_grown {W W' : World} {row : Option Nat} {bf : Nat} {v : Value} (h : W.cell? ⟨bf, 0, none⟩ = some v) (hg : W.grownBy W' row) (hne : some bf ≠ row) : W'.cell? ⟨bf, 0, none⟩ = some v := by
  obtain ⟨o, ho, hc⟩ := cells_of_cell h
  exact (World.cell?_of_block (hg.block bf (Array.getElem?_eq_some_iff.1 ho).1 hne)).trans h
theorem KpF_app {bf B base e size k : Nat} {W w1 : World} {tmp : Obj} {v v' : Value} {xs : List Value} (hrow : W.ownsRow base e size v k xs) (hbf : bf < base) (hB : bf ≠ B)
    (hgrow : (W.alloc tmp).grownBy w1 v.ownBlock) : KpF bf W (w1.setCell ⟨B, 0, none⟩ v') := fun h0 => by
  have h1 := cell_grown h0 (World.grownBy_alloc W tmp none) (by simp)
  have h2 := cell_grown h1 hgrow (by
    rcases hrow.2 with ⟨rfl, _⟩ | ⟨g, cap, cur, rfl, hb, _, _⟩
    · simp [Value.ownBlock]
    · intro e'
      obtain rfl : bf = g := by simpa [Value.ownBlock] using e'
      omega)
  exact cell_grown h2 (grownBy_setCell' w1 B v') (by simpa using hB)
set_option maxRecDepth 100000 in
set_option maxHeartbeats 1000000 in
theorem next1_in (F : Fence) (n : Nat) (h6 : F.fn 23) (hro : F.round = none) (hn : 1 ≤ n) (l bm bf : Nat) (J Jx : List Int → World → Prop)
    (hY : ∀ pre x W, J pre W → pre.length < 3 → YieldAt F (n - 1) Try.prog l #[.int .i64 x] W fun e W' =>
      (e = .returned (.bool true) ∧ J (pre ++ [x]) W' ∧ KpF bf W W') ∨ (e = .returned (.bool false) ∧ Jx (pre ++ [x]) W'))
    (W : World) (hm : W.cell? ⟨bm, 0, none⟩ = some (.int .i64 3)) (hf : W.cell? ⟨bf, 0, none⟩ = some (.int .i64 1)) (h0 : J [] W) :
    CallsIn F n Try.prog 23 #[.func (.yield l) #[] #[], .pointer (some ⟨bm, 0, none⟩), .pointer (some ⟨bf, 0, none⟩)] W fun e W' => (∃ v, e = .returned v) ∧
      ((∃ ys, ys = [1, 2, 3] ∧ J ys W') ∨ (∃ pre, pre <+: [1, 2, 3] ∧ Jx pre W')) := by
  refine callsIn_of_wp Try.func23 rfl h6 ?_ hro
  simp only [Try.ntmps23, List.size_toArray, List.length_cons, List.length_nil, Nat.reduceAdd, Nat.reduceSub, Array.replicate_succ, Array.replicate_zero, List.push_toArray, List.append_toArray, List.nil_append, List.cons_append]
  gi_wp2
  gi_loopw [6] (fun p wr => wr.cell? ⟨bf, 0, none⟩ = some (.int .i64 1) ∧ ((p = .int .i64 0 ∧ J [] wr) ∨ (p = .int .i64 1 ∧ J [1] wr) ∨ (p = .int .i64 2 ∧ J [1, 2] wr) ∨ (p = .int .i64 3 ∧ J [1, 2, 3] wr)))
    (fun p _ => (3 - intOf p).toNat)
  case atStart =>
    exact ⟨hf, .inl ⟨rfl, h0⟩⟩
  case round =>
    obtain ⟨hc, ⟨rfl, hJs⟩ | ⟨rfl, hJs⟩ | ⟨rfl, hJs⟩ | ⟨rfl, hJs⟩⟩ := hrel
    · obtain ⟨fn, tmps, assign, body, hy, hR⟩ := hY [] 1 wr hJs (by simp)
      gi_wp2
      refine hR.mono ?_
      rintro e W3 (⟨rfl, hJ3, hk3⟩ | ⟨rfl, hJx3⟩)
      · have hq3 := hk3 hc
        gi_wp2
        go_roundw
        case rel => exact ⟨hq3, .inr (.inl ⟨rfl, hJ3⟩)⟩
        case measure => simp [intOf]
      · gi_wp2
        refine bodyPost_ret (results_none rfl _ _ _) rfl ?_
        exact ⟨⟨_, rfl⟩, .inr ⟨[1], ⟨[2, 3], rfl⟩, hJx3⟩⟩
    · obtain ⟨fn, tmps, assign, body, hy, hR⟩ := hY [1] 2 wr hJs (by simp)
      gi_wp2
      refine hR.mono ?_
      rintro e W3 (⟨rfl, hJ3, hk3⟩ | ⟨rfl, hJx3⟩)
      · have hq3 := hk3 hc
        gi_wp2
        go_roundw
        case rel => exact ⟨hq3, .inr (.inr (.inl ⟨rfl, hJ3⟩))⟩
        case measure => simp [intOf]
      · gi_wp2
        refine bodyPost_ret (results_none rfl _ _ _) rfl ?_
        exact ⟨⟨_, rfl⟩, .inr ⟨[1, 2], ⟨[3], rfl⟩, hJx3⟩⟩
    · obtain ⟨fn, tmps, assign, body, hy, hR⟩ := hY [1, 2] 3 wr hJs (by simp)
      gi_wp2
      refine hR.mono ?_
      rintro e W3 (⟨rfl, hJ3, hk3⟩ | ⟨rfl, hJx3⟩)
      · have hq3 := hk3 hc
        gi_wp2
        go_roundw
        case rel => exact ⟨hq3, .inr (.inr (.inr ⟨rfl, hJ3⟩))⟩
        case measure => simp [intOf]
      · gi_wp2
        refine bodyPost_ret (results_none rfl _ _ _) rfl ?_
        exact ⟨⟨_, rfl⟩, .inr ⟨[1, 2, 3], ⟨[], rfl⟩, hJx3⟩⟩
    · gi_wp2
      go_end0
      exact ⟨⟨_, rfl⟩, .inl ⟨[1, 2, 3], rfl, hJs⟩⟩
set_option maxHeartbeats 1000000 in
theorem next_in (F : Fence) (n : Nat) (h5 : F.fn 22) (hro : F.round = none) (a m : Int) (w : World) :
    CallsIn F n Try.prog 22 #[.int .i64 a, .int .i64 m] w fun e w' => e = .returned (.func (.func 23) #[] #[.pointer (some ⟨w.heap.size + 1, 0, none⟩), .pointer (some ⟨w.heap.size, 0, none⟩)]) ∧ w' = (w.alloc (.cells #[.int .i64 a] 3)).alloc (.cells #[.int .i64 m] 3) := by
  refine callsIn_of_wp Try.func22 rfl h5 ?_ hro
  simp only [Try.ntmps22, List.size_toArray, List.length_cons, List.length_nil, Nat.reduceAdd, Nat.reduceSub, Array.replicate_succ, Array.replicate_zero, List.push_toArray, List.append_toArray, List.nil_append, List.cons_append]
  gi_wp2
  go_ret
  exact ⟨rfl, rfl⟩
theorem next_stops (F : Fence) (n : Nat) (h6 : F.fn 23) (hro : F.round = none) (hn : 1 ≤ n) (bm bf : Nat) (w : World) (hm : w.cell? ⟨bm, 0, none⟩ = some (.int .i64 3)) (hf : w.cell? ⟨bf, 0, none⟩ = some (.int .i64 1)) (hbm : bm < w.heap.size) (hbf : bf < w.heap.size) :
    SeqStopsK F n Try.prog 23 #[.pointer (some ⟨bm, 0, none⟩), .pointer (some ⟨bf, 0, none⟩)] (fun x : Int => #[Value.int .i64 x]) (KpF bf) (fun ys => ys = [1, 2, 3]) (fun pre => pre <+: [1, 2, 3]) 3 w := fun l J Jx W hW _ _ hY h0 =>
  next1_in F n h6 hro hn l bm bf J Jx hY W ((hW.cell (p := ⟨bm, 0, none⟩) hbm).trans hm) ((hW.cell (p := ⟨bf, 0, none⟩) hbf).trans hf) h0
end Go.Proofs.Ytfmadgaknaflfaa
