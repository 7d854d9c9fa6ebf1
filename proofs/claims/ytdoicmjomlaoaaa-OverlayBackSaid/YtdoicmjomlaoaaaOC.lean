import Derived.Test.YtdoicmjomlaoaaaOB
namespace Go.Proofs.Ytdoicmjomlaoaaa
open Go.RowKit
def w51 : Wr := (5, [1, 0, 0, 0, 0, 0, 0, 0])
def w32 : Wr := (3, [2, 0, 0, 0, 0, 0, 0, 0])
def w53 : Wr := (5, [3, 0, 0, 0, 0, 0, 0, 0])
set_option maxRecDepth 100000 in
set_option maxHeartbeats 2000000 in
theorem wakes08 (W : World) : Calls Try.prog 8 #[] W fun e w' => e = .returned (.bool true) ∧ Below W.heap.size W w' := by
  have L1 := hidd (show ptL [] w51 = [w51] by decide)
  have L2 := hidd (show ptL [w51] w32 = [w32, w51] by decide)
  have L3 := hidd (show ptL [w32, w51] w53 = [w32, w53] by decide)
  have E1 := hidd (show ptE [] w51 = 0 by decide)
  have E2 := hidd (show ptE [w51] w32 = 0 by decide)
  have E3 := hidd (show ptE [w32, w51] w53 = 0 by decide)
  go_enter Try.func8, Try.ntmps8
  go_wp2_with fail
  refine (put_any none 0 0 [] w51 _ (by simpa [wcs] using Sl.none _ 9) (fun q hq => by simp at hq) (by decide) rfl).mono ?_
  rintro e w1 ⟨a1, c1, rfl, hs1, hb1⟩
  rw [L1.out] at hs1
  rw [L1.out, E1.out]
  have HS1 := hidd hs1
  have HB1 := hidd hb1
  clear hs1 hb1
  go_wp2_with fail
  refine (put_any a1 1 c1 [w51] w32 _ HS1.out (W8_one rfl) (by decide) rfl).mono ?_
  rintro e w2 ⟨a2, c2, rfl, hs2, hb2⟩
  rw [L2.out] at hs2
  rw [L2.out, E2.out]
  have HS2 := hidd hs2
  have HB2 := hidd (HB1.out.trans (hb2.mono HB1.out.size))
  clear hs2 hb2
  go_wp2_with fail
  refine (put_any a2 2 c2 [w32, w51] w53 _ HS2.out (W8_app (W8_one (p := w32) rfl) (W8_one (p := w51) rfl)) (by decide) rfl).mono ?_
  rintro e w3 ⟨a3, c3, rfl, hs3, hb3⟩
  rw [L3.out] at hs3
  rw [L3.out, E3.out]
  have HB3 := hidd (HB2.out.trans (hb3.mono HB2.out.size))
  have h8 : W8 [w32, w53] := W8_app (W8_one (p := w32) rfl) (W8_one (p := w53) rfl)
  obtain ⟨b, off, p, rfl, hp, hp8, hc⟩ := wr_at hs3 h8 0 (by decide)
  obtain ⟨b', off', p', e, hp', hp8', hc'⟩ := wr_at hs3 h8 1 (by decide)
  injection e with e
  injection e with e1 e2
  subst e1 e2
  injection hp with hp
  injection hp' with hp'
  subst hp hp'
  have c0 : w3.cell? ⟨b, off, none⟩ = some (.int .i64 3) := hc 0 (by decide)
  have c4 : w3.cell? ⟨b, off + 9 + 1, none⟩ = some (.int .u8 3) := hc' 1 (by decide)
  clear hs3 hb3 h8 hp8 hp8' hc hc'
  go_wp2
  go_ret
  exact ⟨rfl, HB3.out⟩
end Go.Proofs.Ytdoicmjomlaoaaa
