import Derived.Test.YtheodlbbalbliaaP7
namespace Go.Proofs.Ytheodlbbalbliaa
open Go.RowKit
/-- the bytes so far, noughts behind -/
def fillB (m : Nat) (l : List UInt8) (k : Nat) : List UInt8 := l.take k ++ List.replicate (m - k) 0
theorem fillB_set (m : Nat) (l : List UInt8) (k : Nat) (hl : l.length = m) (h : k < m) : (bs (fillB m l k)).set k (.int .u8 ((l.getD k 0).toNat : Int)) = bs (fillB m l (k + 1)) := by
  have e1 : l.take (k + 1) = l.take k ++ [l.getD k 0] := by have := take_snoc l 0 k (by omega); simpa using this
  unfold fillB
  rw [show m - k = (m - (k + 1)) + 1 by omega, List.replicate_succ, bs_append, List.set_append, if_neg (by rw [bs_length]; simp; omega), e1, bs_append, bs_append, List.append_assoc]
  rw [show k - (bs (l.take k)).length = 0 by rw [bs_length]; simp; omega]
  rfl
theorem fillB_all (m : Nat) (l : List UInt8) (hl : l.length = m) : fillB m l m = l := by unfold fillB; simp [← hl]
theorem fillB_len (m : Nat) (l : List UInt8) (k : Nat) (hl : l.length = m) (h : k ≤ m) : (fillB m l k).length = m := by unfold fillB; simp; omega
def set8w (w : World) (g : Nat) (v0 v1 v2 v3 v4 v5 v6 v7 : Value) : World :=
  (((((((w.setCell ⟨g, 0, none⟩ v0).setCell ⟨g, 1, none⟩ v1).setCell ⟨g, 2, none⟩ v2).setCell ⟨g, 3, none⟩ v3).setCell ⟨g, 4, none⟩ v4).setCell ⟨g, 5, none⟩ v5).setCell ⟨g, 6, none⟩ v6).setCell ⟨g, 7, none⟩ v7
theorem set8 {w : World} {g : Nat} {t : TypeId} {c0 c1 c2 c3 c4 c5 c6 c7 : Value} (v0 v1 v2 v3 v4 v5 v6 v7 : Value) (h : w.heap[g]? = some (.cells #[c0, c1, c2, c3, c4, c5, c6, c7] t (0, 0))) :
    (set8w w g v0 v1 v2 v3 v4 v5 v6 v7).heap[g]? = some (.cells #[v0, v1, v2, v3, v4, v5, v6, v7] t (0, 0)) := by
  have h0 := hs_same (i := 0) (v := v0) h
  have h1 := hs_same (i := 1) (v := v1) h0
  have h2 := hs_same (i := 2) (v := v2) h1
  have h3 := hs_same (i := 3) (v := v3) h2
  have h4 := hs_same (i := 4) (v := v4) h3
  have h5 := hs_same (i := 5) (v := v5) h4
  have h6 := hs_same (i := 6) (v := v6) h5
  have h7 := hs_same (i := 7) (v := v7) h6
  unfold set8w
  simpa using h7
theorem set8b {B : Nat} {a w : World} {g : Nat} (h : Below B a w) (hg : B ≤ g) (v0 v1 v2 v3 v4 v5 v6 v7 : Value) : Below B a (set8w w g v0 v1 v2 v3 v4 v5 v6 v7) :=
  (((((((h.setCell (p := ⟨g, 0, none⟩) hg v0).setCell (p := ⟨g, 1, none⟩) hg v1).setCell (p := ⟨g, 2, none⟩) hg v2).setCell (p := ⟨g, 3, none⟩) hg v3).setCell (p := ⟨g, 4, none⟩) hg v4).setCell (p := ⟨g, 5, none⟩) hg v5).setCell (p := ⟨g, 6, none⟩) hg v6).setCell (p := ⟨g, 7, none⟩) hg v7
set_option maxHeartbeats 1000000 in
theorem rvalue_no (a : Option Addr) (n c : Nat) (W : World) (hn : n ≠ 8) (hm : n ≤ 100000) :
    Calls Try.prog 30 #[.slice a n c] W fun e w' => e = .returned (.tuple #[.agg zero8, .int .i64 2]) ∧ Below W.heap.size W w' := by
  have hn' : ((n : Int) == 8) = false := by simp; omega
  have hn2 : ((n : Int) != 8) = true := by simp; omega
  clear hn
  go_enter Try.func30, Try.ntmps30
  go_wp2
  refine bodyPost_ret (results_cell_one Try.results30 _ _ W.heap.size 47 zero8 (0, 0) _ rfl ?_ Try.underlying47 rfl sz47) rfl ⟨rfl, ?_⟩
  · exact heap_alloc2_old W _ _
  · exact ((Below.refl _ W).alloc (Nat.le_refl _) _).alloc (by simp) _
set_option maxHeartbeats 1000000 in
theorem rvalue_yes (a : Option Addr) (c : Nat) (l : List UInt8) (W : World) (hb : Bs W a 8 c l) :
    Calls Try.prog 30 #[.slice a 8 c] W fun e w' => e = .returned (.tuple #[.agg (bs l).toArray, .int .i64 0]) ∧ Below W.heap.size W w' := by
  have HB := hidd hb
  have hl := hb.len
  have HL := hidd hl
  clear hb hl
  go_enter Try.func30, Try.ntmps30
  go_wp2
  go_loopw [5] (fun i wr => ∃ k : Nat, k ≤ 8 ∧ i = .int .i64 k ∧ wr.heap[W.heap.size + 1]? = some (.cells (bs (fillB 8 l k)).toArray 47 (0, 0)) ∧ wr.heap[W.heap.size]? = some (.cells zero8 47 (0, 0)) ∧ Below W.heap.size W wr) (fun i _ => (8 - intOf i).toNat)
  case atStart => exact ⟨0, by omega, rfl, heap_alloc2_new W _ _, heap_alloc2_old W _ _, ((Below.refl _ W).alloc (Nat.le_refl _) _).alloc (by simp) _⟩
  case round =>
    obtain ⟨k, hk, rfl, g1, g0, B⟩ := hrel
    obtain ⟨k1, f1⟩ := blk g1
    by_cases hlt : k < 8
    · obtain ⟨b, off, rfl, hc⟩ := (HB.out.grow B).at k hlt
      have i0 : (0 : Int) ≤ (k : Int) := by omega
      have i1 : (k : Int) < 8 := by omega
      have G := hidd (And.intro g1 (And.intro g0 B))
      have hz : (bs (fillB 8 l k)).toArray.size = 8 := by simp [bs_length]; exact fillB_len 8 l k HL.out (by omega)
      clear g1 g0 B
      go_wp2
      obtain ⟨g1, g0, B⟩ := G.out
      refine ⟨⟨k + 1, by omega, by go_num, ?_, hs_other g0 (by simp), B.setCell (by simp) _⟩, by simp [intOf]; omega⟩
      rw [hs_same g1, List.setIfInBounds_toArray]
      have := fillB_set 8 l k HL.out hlt
      rw [List.getD_eq_getElem?_getD] at this
      rw [this]
    · obtain rfl : k = 8 := by omega
      have hl := HL.out
      rw [fillB_all 8 l hl] at k1 g1
      obtain ⟨b0, b1, b2, b3, b4, b5, b6, b7, rfl⟩ : ∃ b0 b1 b2 b3 b4 b5 b6 b7, l = [b0, b1, b2, b3, b4, b5, b6, b7] := by
        match l, hl with
        | [b0, b1, b2, b3, b4, b5, b6, b7], _ => exact ⟨_, _, _, _, _, _, _, _, rfl⟩
      simp only [bs, List.map_cons, List.map_nil] at k1
      obtain ⟨k0, f0⟩ := blk g0
      simp only [zero8] at k0
      have G := hidd (And.intro g1 (And.intro g0 B))
      clear g1 g0 B hl
      go_wp2
      refine bodyPost_ret (results_cell_one Try.results30 _ _ W.heap.size 47 (bs [b0, b1, b2, b3, b4, b5, b6, b7]).toArray (0, 0) _ rfl (set8 _ _ _ _ _ _ _ _ G.out.2.1) Try.underlying47 rfl sz47) rfl ⟨rfl, set8b G.out.2.2 (Nat.le_refl _) _ _ _ _ _ _ _ _⟩
end Go.Proofs.Ytheodlbbalbliaa
