import Derived.Test.YtheodlbbalbliaaP5
namespace Go.Proofs.Ytheodlbbalbliaa
open Go.RowKit
def eight : List UInt8 := [49, 50, 51, 52, 53, 54, 55, 56]
theorem bs_const (w : World) (l : List UInt8) (n : Nat) (hn : l.length = n) (hm : n ≤ 100000) (fr : Nat × Nat) : Bs (w.alloc (.cells (bs l).toArray 5 fr)) (some ⟨w.heap.size, 0, none⟩) n n l := by
  refine ⟨by rw [bs_length, hn]; omega, Nat.le_refl _, by omega, fun e => by simp at e, fun i _ => ⟨w.heap.size, 0, rfl, ?_⟩⟩
  rw [Nat.zero_add, World.cell?_alloc_mark, List.getElem?_toArray]
set_option maxHeartbeats 1000000 in
theorem wakes2_any (W : World) :
    Calls Try.prog 13 #[] W fun e w' => e = .returned (.bool true) ∧ Below W.heap.size W w' := by
  have kc := fun (w : World) (C : Array Value) (n c : Nat) => Lib.run_convert_bytes_const (P := Try.prog) w 22 5 C n c Try.underlying22 Try.underlying5
  go_enter Try.func13, Try.ntmps13
  go_wp2_with fail
  refine (put_yes none 0 0 [] 258 3 W (Sl.none W 1) (by decide) (by decide)).mono ?_
  rintro e w1 ⟨a, c, rfl, hown, hb1⟩
  obtain ⟨a', c', he, hs1⟩ := own_Sl hown
  have e1 : le 3 258 = [2, 1, 0] := by decide
  rw [List.nil_append, e1] at hs1
  injection he with he1 he2 he3
  subst he1
  subst he3
  clear he2 hown
  simp only [Nat.zero_add] at hs1 ⊢
  have hs1' : Bs w1 a 3 c [2, 1, 0] := hs1
  obtain ⟨b, off, rfl, c0⟩ := hs1'.at 0 (by decide)
  obtain ⟨b', off', hbo, c1⟩ := hs1'.at 1 (by decide)
  injection hbo with hbo
  injection hbo with q1 q2
  subst q1
  subst q2
  obtain ⟨b', off', hbo, c2⟩ := hs1'.at 2 (by decide)
  injection hbo with hbo
  injection hbo with q1 q2
  subst q1
  subst q2
  have hlt := block_lt_of_cell c0
  have HG := hidd hs1'
  clear hs1 hs1'
  go_wp2_with fail
  refine (get_yes _ 3 c [2, 1, 0] 0 2 w1 HG.out (by decide) (by decide) (by decide) (by decide)).mono ?_
  rintro e w2 ⟨rfl, rfl⟩
  have e2 : num (([2, 1, 0].drop 0).take 2) = 258 := by decide
  rw [e2]
  go_wp2_with fail
  refine (value_yes (some ⟨w1.heap.size, 0, none⟩) 8 eight _ (bs_const w1 eight 8 rfl (by decide) _)).mono ?_
  rintro e w3 ⟨rfl, hb3⟩
  have hsz3 := hb3.size
  have k0 : w3.cell? ⟨b, off, none⟩ = some (.int .u8 2) := by
    rw [hb3.cell (p := ⟨b, off, none⟩) (by simp at hlt ⊢; omega), World.cell?_alloc_past _ _ _ (by simpa using hlt)]; exact c0
  have k1 : w3.cell? ⟨b, off + 1, none⟩ = some (.int .u8 1) := by
    rw [hb3.cell (p := ⟨b, off + 1, none⟩) (by simp at hlt ⊢; omega), World.cell?_alloc_past _ _ _ (by simpa using hlt)]; exact c1
  have k2 : w3.cell? ⟨b, off + 2, none⟩ = some (.int .u8 0) := by
    rw [hb3.cell (p := ⟨b, off + 2, none⟩) (by simp at hlt ⊢; omega), World.cell?_alloc_past _ _ _ (by simpa using hlt)]; exact c2
  have hlt3 : b < w3.heap.size := by simp at hlt hsz3; omega
  have B3 := (hb1.alloc hb1.size (.cells (bs eight).toArray 5 (8, 9))).trans (hb3.mono (by have := hb1.size; simp; omega))
  have HB := hidd B3
  clear B3 hb3 hb1 c0 c1 c2 kc
  simp only [bs, eight, List.map_cons, List.map_nil]
  go_wp2
  go_ret
  exact ⟨rfl, HB.out.alloc (HB.out.size) _⟩
end Go.Proofs.Ytheodlbbalbliaa
