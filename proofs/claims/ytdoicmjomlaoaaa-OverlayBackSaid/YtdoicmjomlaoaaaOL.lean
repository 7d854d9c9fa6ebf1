import Derived.Test.YtdoicmjomlaoaaaOK
namespace Go.Proofs.Ytdoicmjomlaoaaa
open Go.RowKit
theorem rwritten_all (a : Option Addr) (n c : Nat) (l : List Wr) (W : World) (hs : Sl W a n c 9 (wcs l)) (h8 : W8 l) (m : n ≤ 9223372036854775807) :
    Calls Try.prog 12 #[.slice a n c] W fun e w' => e = .returned (.bool (writtenB l)) ∧ Below W.heap.size W w' := by
  have hl : l.length = n := by have := hs.len; rw [wcs_len h8] at this; omega
  rcases Nat.lt_or_ge 8 n with h | h
  · have e : writtenB l = false := by
      unfold writtenB
      have : decide (l.length ≤ 8) = false := by simp; omega
      rw [this, Bool.and_false]
    rw [e]
    exact rwritten_long a n c W h m
  · exact rwritten_any a n c l W hs h8 h
set_option maxRecDepth 100000 in
set_option maxHeartbeats 4000000 in
theorem oback_bad (H : List UInt8) (a1 : Option Addr) (n1 c1 : Nat) (la : List Wr) (a2 : Option Addr) (n2 c2 : Nat) (lb : List Wr) (p : Wr) (W : World) (hH : H.length = 256) (hs1 : Sl W a1 n1 c1 9 (wcs la)) (h81 : W8 la) (hs2 : Sl W a2 n2 c2 9 (wcs lb)) (h82 : W8 lb) (hp : p.2.length = 8) (m1 : n1 ≤ 9223372036854775807) (m2 : n2 ≤ 9223372036854775807) (hb : ¬ (writtenB la = true ∧ writtenB lb = true)) :
    Calls Try.prog 4 #[.agg (bs H).toArray, .slice a1 n1 c1, .slice a2 n2 c2, .agg (wc p).toArray] W fun e w' => e = .returned (.bool true) ∧ Below W.heap.size W w' := by
  have HH := hidd hH
  have HS1 := hidd hs1
  have H81 := hidd h81
  have HS2 := hidd hs2
  have H82 := hidd h82
  have HL1 := hidd (show la.length = n1 by have := hs1.len; rw [wcs_len h81] at this; omega)
  have HL2 := hidd (show lb.length = n2 by have := hs2.len; rw [wcs_len h82] at this; omega)
  obtain ⟨B, b0, b1, b2, b3, b4, b5, b6, b7, rfl⟩ := wr8 hp
  rw [show (wc (B, [b0, b1, b2, b3, b4, b5, b6, b7])).toArray = (aggW B b0 b1 b2 b3 b4 b5 b6 b7) from rfl]
  have R1 : Hid (∀ w, Sl w a1 n1 c1 9 (wcs la) → Calls Try.prog 12 #[.slice a1 n1 c1] w fun e w' => e = .returned (.bool (writtenB la)) ∧ Below w.heap.size w w') := hidd (fun w h => rwritten_all a1 n1 c1 la w h h81 m1)
  have R2 : Hid (∀ w, Sl w a2 n2 c2 9 (wcs lb) → Calls Try.prog 12 #[.slice a2 n2 c2] w fun e w' => e = .returned (.bool (writtenB lb)) ∧ Below w.heap.size w w') := hidd (fun w h => rwritten_all a2 n2 c2 lb w h h82 m2)
  have HBAD := hidd hb
  clear hH hs1 h81 hs2 h82 hp hb
  go_enter Try.func4, Try.ntmps4
  have HB0 := hidd (((Below.refl _ W).alloc (Nat.le_refl _) (.cells (bs H).toArray 36)).alloc (by simp) (.cells (aggW B b0 b1 b2 b3 b4 b5 b6 b7) 26))
  have GH0 := hidd (heap_alloc2_old W (.cells (bs H).toArray 36) (.cells (aggW B b0 b1 b2 b3 b4 b5 b6 b7) 26))
  have GP0 := hidd (heap_alloc2_new W (.cells (bs H).toArray 36) (.cells (aggW B b0 b1 b2 b3 b4 b5 b6 b7) 26))
  go_wp2_with fail
  refine (R1.out _ (HS1.out.grow HB0.out)).mono ?_
  rintro e w1 ⟨rfl, hb1⟩
  have HB1 := hidd (HB0.out.trans (hb1.mono (by simp; omega)))
  clear hb1
  cases hw : writtenB la
  · go_wp2_with (go_at_call 8; refine (wakes08 _).mono ?_; rintro e w3 ⟨rfl, hb3⟩)
    go_ret
    exact ⟨rfl, HB1.out.trans (hb3.mono HB1.out.size)⟩
  · have hw2 : writtenB lb = false := by
      cases h : writtenB lb
      · rfl
      · exact absurd ⟨hw, h⟩ HBAD.out
    have HW2 := hidd hw2
    clear hw hw2
    go_wp2_with fail
    refine (R2.out _ (HS2.out.grow HB1.out)).mono ?_
    rintro e w2 ⟨rfl, hb2⟩
    rw [HW2.out]
    have HB2 := hidd (HB1.out.trans (hb2.mono HB1.out.size))
    clear hb2
    go_wp2_with (go_at_call 8; refine (wakes08 _).mono ?_; rintro e w3 ⟨rfl, hb3⟩)
    go_ret
    exact ⟨rfl, HB2.out.trans (hb3.mono HB2.out.size)⟩
end Go.Proofs.Ytdoicmjomlaoaaa
