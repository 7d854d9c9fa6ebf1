import Derived.RangeFuncBox
import Derived.RangeFuncNested
import Derived.RangeFuncBound
import Derived.RangeFuncCalls
import Derived.RangeFuncLeaves
import Derived.Shelf.Abstract
import Derived.Shelf.RegionOpen
import Derived.OwnWalkIn
import Derived.TacticsInMore
import Derived.LoopNIn
import Derived.LoopIn
import Derived.Maps.AppendAt
import Derived.Test.YtdoicmjomlaoaaaM2
namespace Go.Proofs.Ytdoicmjomlaoaaa
open Go.RowKit Go.Shelf
attribute [local go_sem] Oper.semAt_some
/-- the numbers of all steps -/
def en (l : List Sn) : List (Fin l.length) := List.finRange l.length
theorem en_len (l : List Sn) : (en l).length = l.length := by simp [en]
theorem en_take (l : List Sn) (k : Nat) (h : k < l.length) : (en l).take (k + 1) = (en l).take k ++ [⟨k, h⟩] := by
  rw [List.take_add_one]
  congr 1
  unfold en
  rw [List.getElem?_eq_getElem (by simpa using h)]
  simp
theorem en_all (l : List Sn) : (en l).map (fun x => l[x.1]) = l := by
  apply List.ext_getElem
  · simp [en]
  · intro i h1 h2
    simp [en]
def encS (l : List Sn) (x : Fin l.length) : Array Value := #[.int .i64 (x.1 : Int), .agg (sc l[x.1]).toArray]
set_option maxRecDepth 100000 in
set_option maxHeartbeats 4000000 in
theorem steps1_in (F : Fence) (n : Nat) (h6 : F.fn 34) (hro : F.round = none) (hn : 1 ≤ n) (lp g n0 : Nat) (a : Option Addr) (m c : Nat) (l : List Sn) (hl : l.length = m) (hm : m ≤ 1000) (h8 : S8 l) (hok : ∀ x ∈ l, okS x = true) (J Jx : List (Fin l.length) → World → Prop)
    (hY : ∀ pre x W, J pre W → pre.length < m → YieldAt F (n - 1) Try.prog lp (encS l x) W fun e W' =>
      (e = .returned (.bool true) ∧ J (pre ++ [x]) W' ∧ Below n0 W W') ∨ (e = .returned (.bool false) ∧ Jx (pre ++ [x]) W'))
    (W : World) (hJ : AbidesFrom W.heap.size J) (hg : W.cell? ⟨g, 0, none⟩ = some (.slice a m c)) (hs : Sl W a m c 14 (scs l)) (hlt : ∀ b off, a = some ⟨b, off, none⟩ → 0 < m → b < n0) (hn0 : n0 ≤ W.heap.size) (h0 : J [] W) :
    CallsIn F n Try.prog 34 #[.func (.yield lp) #[] #[], .pointer (some ⟨g, 0, none⟩)] W fun e W' => (∃ v, e = .returned v) ∧
      ((∃ ys, ys = en l ∧ J ys W') ∨ (∃ pre, True ∧ Jx pre W')) := by
  have HL := hidd hl
  have H8 := hidd h8
  have HOK := hidd hok
  have HS := hidd hs
  have HLT := hidd hlt
  have HJ := hidd hJ
  have HY := hidd hY
  have HN0 := hidd hn0
  have H0 := hidd h0
  clear h8 hok hs hlt hJ hY h0
  refine callsIn_of_wp Try.func34 rfl h6 ?_ hro
  simp only [Try.ntmps34, List.size_toArray, List.length_cons, List.length_nil, Nat.reduceAdd, Nat.reduceSub, Array.replicate_succ, Array.replicate_zero, List.push_toArray, List.append_toArray, List.nil_append, List.cons_append]
  gi_wp2
  gi_loopw [7] (fun p wr => ∃ k : Nat, k ≤ m ∧ p = .int .i64 k ∧ J ((en l).take k) wr ∧ Below n0 W wr) (fun p _ => m - (intOf p).toNat)
  case atStart => exact ⟨0, by omega, rfl, H0.out, Below.refl _ _⟩
  case round =>
    obtain ⟨k, hk, rfl, hj, hbel⟩ := hrel
    have HB := hidd hbel
    rcases Nat.lt_or_ge k m with hlt | hge
    · obtain ⟨b, off, p, rfl, hp, hp8, hc⟩ := sn_at (HS.out.keep hbel (fun b off e _ => HLT.out b off e (by omega))) H8.out k hlt
      have hokp := HOK.out p (List.mem_of_getElem? hp)
      obtain ⟨K, A, B, C, kk, b0, b1, b2, b3, b4, b5, b6, b7, E, rfl⟩ := sn8 hp8
      obtain ⟨c0, c1, c2, c3, c4, c5, c6, c7, c8, c9, c10, c11, c12, c13⟩ := sn_cells hc
      have hkl : k < l.length := by rw [HL.out]; exact hlt
      have HET := hidd (en_take l k hkl)
      have hpe : l[k] = ⟨K, A, B, C, kk, [b0, b1, b2, b3, b4, b5, b6, b7], E⟩ := (List.getElem?_eq_some_iff.1 hp).2
      obtain ⟨fn, tmps, assign, body, hy0, hR⟩ := HY.out ((en l).take k) ⟨k, hkl⟩ (wr.alloc (.cells (aggS K A B C kk b0 b1 b2 b3 b4 b5 b6 b7 E) 49)) (HJ.out _ _ _ none (by exact hj) (World.grownBy_alloc wr _ none) (fun r e => by cases e)) (by rw [List.length_take, en_len, HL.out]; omega)
      have hy : (Instr.yield lp #[.int .i64 (k : Int), .agg (aggS K A B C kk b0 b1 b2 b3 b4 b5 b6 b7 E)]).run Try.prog (wr.alloc (.cells (aggS K A B C kk b0 b1 b2 b3 b4 b5 b6 b7 E) 49)) = .ok (.round lp fn tmps assign body) (wr.alloc (.cells (aggS K A B C kk b0 b1 b2 b3 b4 b5 b6 b7 E) 49)) := by
        have h1 := hy0
        unfold encS at h1
        simp only at h1
        rw [hpe] at h1
        exact h1
      have hkk : 0 ≤ kk ∧ kk < 32 ∧ (K = 1 ∨ K = 2) := by
        unfold okS at hokp
        simp at hokp
        omega
      obtain ⟨k1, k2, hK0⟩ := hkk
      have i0 : (0 : Int) ≤ (k : Int) := by omega
      have i1 : (k : Int) < (m : Int) := by omega
      clear hp hp8 hbel hc hj hy0 hokp hpe
      rcases hK0 with rfl | rfl
      · gi_wp2
        refine hR.mono ?_
        rintro e W3 (⟨rfl, hJ3, hk3⟩ | ⟨rfl, hJx3⟩)
        · have HQ := hidd (And.intro hJ3 hk3)
          clear hJ3 hk3 hR hy
          gi_wp2
          refine ⟨⟨k + 1, by omega, by push_cast; rfl, by rw [HET.out]; exact HQ.out.1, (HB.out.alloc (Nat.le_trans HN0.out HB.out.size) _).trans HQ.out.2⟩, ?_⟩
          simp [intOf]
          omega
        · gi_wp2
          refine bodyPost_ret (results_none rfl _ _ _) rfl ?_
          exact ⟨⟨_, rfl⟩, .inr ⟨_, trivial, hJx3⟩⟩
      · gi_wp2
        refine hR.mono ?_
        rintro e W3 (⟨rfl, hJ3, hk3⟩ | ⟨rfl, hJx3⟩)
        · have HQ := hidd (And.intro hJ3 hk3)
          clear hJ3 hk3 hR hy
          gi_wp2
          refine ⟨⟨k + 1, by omega, by push_cast; rfl, by rw [HET.out]; exact HQ.out.1, (HB.out.alloc (Nat.le_trans HN0.out HB.out.size) _).trans HQ.out.2⟩, ?_⟩
          simp [intOf]
          omega
        · gi_wp2
          refine bodyPost_ret (results_none rfl _ _ _) rfl ?_
          exact ⟨⟨_, rfl⟩, .inr ⟨_, trivial, hJx3⟩⟩
    · have hkm : k = m := by omega
      subst hkm
      rw [List.take_of_length_le (by rw [en_len, HL.out]; exact Nat.le_refl _)] at hj
      have HQ := hidd hj
      clear hj hbel hge
      gi_wp2
      go_end0
      exact ⟨⟨_, rfl⟩, .inl ⟨_, rfl, HQ.out⟩⟩
set_option maxHeartbeats 1000000 in
theorem steps_in (F : Fence) (n : Nat) (h5 : F.fn 28) (hro : F.round = none) (a : Option Addr) (m c : Nat) (w : World) :
    CallsIn F n Try.prog 28 #[.slice a m c] w fun e w' => e = .returned (.func (.func 34) #[] #[.pointer (some ⟨w.heap.size, 0, none⟩)]) ∧ w' = w.alloc (.cells #[.slice a m c] 40) := by
  refine callsIn_of_wp Try.func28 rfl h5 ?_ hro
  simp only [Try.ntmps28, List.size_toArray, List.length_cons, List.length_nil, Nat.reduceAdd, Nat.reduceSub, Array.replicate_succ, Array.replicate_zero, List.push_toArray, List.append_toArray, List.nil_append, List.cons_append]
  gi_wp2
  go_ret
  exact ⟨rfl, rfl⟩
theorem steps_stops (F : Fence) (n : Nat) (h6 : F.fn 34) (hro : F.round = none) (hn : 1 ≤ n) (g n0 : Nat) (a : Option Addr) (m c : Nat) (l : List Sn) (hl : l.length = m) (hm : m ≤ 1000) (h8 : S8 l) (hok : ∀ x ∈ l, okS x = true) (w : World)
    (hg : w.cell? ⟨g, 0, none⟩ = some (.slice a m c)) (hgl : g < w.heap.size) (hs : Sl w a m c 14 (scs l)) (hlt : ∀ b off, a = some ⟨b, off, none⟩ → 0 < m → b < n0) (hn0 : n0 ≤ w.heap.size) :
    SeqStopsK F n Try.prog 34 #[.pointer (some ⟨g, 0, none⟩)] (encS l) (Below n0) (fun ys => ys = en l) (fun _ => True) m w := fun lp J Jx W hW hJ _ hY h0 =>
  steps1_in F n h6 hro hn lp g n0 a m c l hl hm h8 hok J Jx hY W hJ ((hW.cell (p := ⟨g, 0, none⟩) hgl).trans hg) (hs.grow hW) hlt (Nat.le_trans hn0 hW.size) h0
end Go.Proofs.Ytdoicmjomlaoaaa
