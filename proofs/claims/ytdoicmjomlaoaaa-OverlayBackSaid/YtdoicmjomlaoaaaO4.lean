import Derived.Test.YtdoicmjomlaoaaaO3
import Derived.Test.YtdoicmjomlaoaaaS
namespace Go.Proofs.Ytdoicmjomlaoaaa
open Go.RowKit
theorem wT : ElT Try.prog 22 26 (.agg #[.int .i64 0, .int .u8 0, .int .u8 0, .int .u8 0, .int .u8 0, .int .u8 0, .int .u8 0, .int .u8 0, .int .u8 0]) 9 16 := ⟨Try.underlying22, by kernel_rfl, rfl, by decide⟩
/-- where Put refuses -/
def ptE (l : List Wr) (w : Wr) : Int := if writtenB l = true ∧ 0 ≤ w.1 ∧ w.1 < 32 then (if thB w.1 l = true then 0 else if l.length = 8 then 50 else 0) else 2
def ptL (l : List Wr) (w : Wr) : List Wr := if ptE l w = 0 then (if thB w.1 l = true then l.set (plK w.1 l) w else l.take (plK w.1 l) ++ [w] ++ l.drop (plK w.1 l)) else []
set_option maxRecDepth 100000 in
set_option maxHeartbeats 2000000 in
theorem put_bad (a : Option Addr) (n c : Nat) (l : List Wr) (p : Wr) (W : World) (hs : Sl W a n c 9 (wcs l)) (h8 : W8 l) (hn : n ≤ 1000) (hp : p.2.length = 8) (hb : ¬ (writtenB l = true ∧ 0 ≤ p.1 ∧ p.1 < 32)) :
    Calls Try.prog 9 #[.slice a n c, .agg (wc p).toArray] W fun e w' => e = .returned (.tuple #[.slice none 0 0, .int .i64 2]) ∧ Below W.heap.size W w' := by
  have HS := hidd hs
  have H8 := hidd h8
  have HBAD := hidd hb
  obtain ⟨B, b0, b1, b2, b3, b4, b5, b6, b7, rfl⟩ := wr8 hp
  clear hs h8 hp hb
  simp only [wc, bs, List.map_cons, List.map_nil]
  go_enter Try.func9, Try.ntmps9
  go_wp2_with fail
  refine (written_any a n c l _ (HS.out.grow ((Below.refl _ W).alloc (Nat.le_refl _) _)) H8.out hn).mono ?_
  rintro e w1 ⟨rfl, hb1⟩
  have G1 := blk_below hb1 (heap_alloc_new W _) (by simp)
  obtain ⟨k1, f1⟩ := blk G1
  have HB := hidd (((Below.refl _ W).alloc (Nat.le_refl _) _).trans (hb1.mono (by simp)))
  clear hb1 G1
  cases hw : writtenB l
  · go_wp2
    go_ret2
    exact ⟨rfl, HB.out⟩
  · have hb := HBAD.out
    rw [hw] at hb
    clear hw
    by_cases h0 : B < 0
    · clear hb
      go_wp2
      go_ret2
      exact ⟨rfl, HB.out⟩
    · have h1 : 32 ≤ B := by
        simp at hb
        omega
      clear hb
      go_wp2
      go_ret2
      exact ⟨rfl, HB.out⟩
end Go.Proofs.Ytdoicmjomlaoaaa
