import Derived.Test.YtdoicmjomlaoaaaML
namespace Go.Proofs.Ytdoicmjomlaoaaa
open Go.RowKit
theorem rsL_in (f : Nat → Bool) : ∀ x ∈ rsL f 32, 0 ≤ x ∧ x < 32 := by
  intro x hx
  unfold rsL at hx
  simp at hx
  obtain ⟨k, ⟨hk, _⟩, rfl⟩ := hx
  omega
/-- do two transactions clash? -/
def clB (l l' : List Sn) : Bool := (meetB (inB (rsL (tcS l).2 32)) (inB (rsL (tcS l').2 32)) || meetB (inB (rsL (tcS l).2 32)) (inB (rsL (tcS l').1 32))) || meetB (inB (rsL (tcS l).1 32)) (inB (rsL (tcS l').2 32))
theorem cg {W w w' : World} {g : Nat} {o : Obj} (h : w.heap[g]? = some o ∧ Below W.heap.size W w) (hb : Below w.heap.size w w') : w'.heap[g]? = some o ∧ Below W.heap.size W w' :=
  ⟨blk_below hb h.1 (Array.getElem?_eq_some_iff.1 h.1).1, h.2.trans (hb.mono h.2.size)⟩
theorem sl_two {w1 w2 : World} {a : Option Addr} {n c : Nat} {xs : List Value} (h : Sl w1 a n c 1 xs) (hb : Below w1.heap.size w1 w2) : Sl w2 a n c 1 xs := h.grow hb
set_option maxHeartbeats 4000000 in
theorem clash_any (a : Option Addr) (n c : Nat) (l : List Sn) (hl : l.length = n) (hn : n ≤ 1000) (b : Option Addr) (m d : Nat) (l' : List Sn) (hl' : l'.length = m) (hm : m ≤ 1000) (W : World)
    (hs : Sl W a n c 14 (scs l)) (h8 : S8 l) (hok : ∀ x ∈ l, okS x = true) (hs' : Sl W b m d 14 (scs l')) (h8' : S8 l') (hok' : ∀ x ∈ l', okS x = true) :
    Calls Try.prog 19 #[.slice a n c, .slice b m d] W fun e w' => e = .returned (.bool (clB l l')) ∧ Below W.heap.size W w' := by
  have HS := hidd hs
  have H8 := hidd h8
  have HOK := hidd hok
  have HS' := hidd hs'
  have H8' := hidd h8'
  have HOK' := hidd hok'
  have hw1 := writes_yes a n c l hl hn
  have hw2 := writes_yes b m d l' hl' hm
  have hr1 := reads_yes a n c l hl hn
  have hr2 := reads_yes b m d l' hl' hm
  have hi1 := rsL_in (tcS l).1
  have hi2 := rsL_in (tcS l).2
  have hi3 := rsL_in (tcS l').1
  have hi4 := rsL_in (tcS l').2
  have hl1 := rsL_le (tcS l).1 32
  have hl2 := rsL_le (tcS l).2 32
  have hl3 := rsL_le (tcS l').1 32
  have hl4 := rsL_le (tcS l').2 32
  unfold clB
  generalize rsL (tcS l).1 32 = r1 at *
  generalize rsL (tcS l).2 32 = z1 at *
  generalize rsL (tcS l').1 32 = r2 at *
  generalize rsL (tcS l').2 32 = z2 at *
  have HW1 := hidd hw1
  have HW2 := hidd hw2
  have HR1 := hidd hr1
  have HR2 := hidd hr2
  have HI := hidd (And.intro hi1 (And.intro hi2 (And.intro hi3 hi4)))
  have HL := hidd (And.intro hl1 (And.intro hl2 (And.intro hl3 hl4)))
  have HB := hidd (And.intro (ha_new W (.cells (mkA fun _ => false) 71)) ((Below.refl _ W).alloc (Nat.le_refl _) (.cells (mkA fun _ => false) 71)))
  have zv := zero71
  clear hs h8 hok hs' h8' hok' hw1 hw2 hr1 hr2 hi1 hi2 hi3 hi4 hl1 hl2 hl3 hl4
  go_enter Try.func19, Try.ntmps19
  obtain ⟨m1, hm1⟩ : ∃ x, x = meetB (inB z1) (inB z2) := ⟨_, rfl⟩
  obtain ⟨m2, hm2⟩ : ∃ x, x = meetB (inB z1) (inB r2) := ⟨_, rfl⟩
  obtain ⟨m3, hm3⟩ : ∃ x, x = meetB (inB r1) (inB z2) := ⟨_, rfl⟩
  have HM1 := hidd hm1
  have HM2 := hidd hm2
  have HM3 := hidd hm3
  clear hm1 hm2 hm3
  go_wp2_with (first
    | (go_at_call 17; with_reducible refine (HW1.out _ (HS.out.grow HB.out.2) H8.out HOK.out).mono ?_; rintro e w1 ⟨a1, c1, rfl, hs1, hb1⟩; have S1 := hidd hs1; have HB := hidd (cg HB.out hb1); clear hs1 hb1)
    | (go_at_call 17; with_reducible refine (HW2.out _ (HS'.out.grow HB.out.2) H8'.out HOK'.out).mono ?_; rintro e w2 ⟨a2, c2, rfl, hs2, hb2⟩; have S2 := hidd hs2; have S1 := hidd (sl_two S1.out hb2); have HB := hidd (cg HB.out hb2); clear hs2 hb2)
    | (go_at_call 33; with_reducible refine (HR1.out _ (HS.out.grow HB.out.2) H8.out HOK.out).mono ?_; rintro e w1 ⟨a1, c1, rfl, hs1, hb1⟩; have S1 := hidd hs1; have HB := hidd (cg HB.out hb1); clear hs1 hb1)
    | (go_at_call 33; with_reducible refine (HR2.out _ (HS'.out.grow HB.out.2) H8'.out HOK'.out).mono ?_; rintro e w2 ⟨a2, c2, rfl, hs2, hb2⟩; have S2 := hidd hs2; have S1 := hidd (sl_two S1.out hb2); have HB := hidd (cg HB.out hb2); clear hs2 hb2)
    | (go_at_call 31; with_reducible refine (clash1_any a1 z1.length c1 z1 a2 z2.length c2 z2 W.heap.size _ S1.out HI.out.2.1 (by have := HL.out; omega) S2.out HI.out.2.2.2 (by have := HL.out; omega) HB.out.1).mono ?_; rintro e w3 ⟨rfl, hb3⟩; rw [← HM1.out]; have HB := hidd (cg HB.out hb3); clear hb3)
    | (go_at_call 31; with_reducible refine (clash1_any a1 z1.length c1 z1 a2 r2.length c2 r2 W.heap.size _ S1.out HI.out.2.1 (by have := HL.out; omega) S2.out HI.out.2.2.1 (by have := HL.out; omega) HB.out.1).mono ?_; rintro e w3 ⟨rfl, hb3⟩; rw [← HM2.out]; have HB := hidd (cg HB.out hb3); clear hb3)
    | (go_at_call 31; with_reducible refine (clash1_any a1 r1.length c1 r1 a2 z2.length c2 z2 W.heap.size _ S1.out HI.out.1 (by have := HL.out; omega) S2.out HI.out.2.2.2 (by have := HL.out; omega) HB.out.1).mono ?_; rintro e w3 ⟨rfl, hb3⟩; rw [← HM3.out]; have HB := hidd (cg HB.out hb3); clear hb3))
  all_goals
    go_ret
    rw [← HM1.out, ← HM2.out, ← HM3.out]
    refine ⟨?_, HB.out.2⟩
  all_goals (first | rfl | (simp_all; done) | skip)
end Go.Proofs.Ytdoicmjomlaoaaa
