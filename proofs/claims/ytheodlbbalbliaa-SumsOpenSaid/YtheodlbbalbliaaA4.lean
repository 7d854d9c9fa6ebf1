import Derived.Test.YtheodlbbalbliaaA3
namespace Go.Proofs.Ytheodlbbalbliaa
open Go.RowKit
def openL (l : List UInt8) : List UInt8 := if opensB l = true then l.take (l.length - 4) else []
theorem open_any (a : Option Addr) (n c : Nat) (l : List UInt8) (w : World) (h : Bs w a n c l) (hl : n ≤ 20004) :
    Calls Try.prog 21 #[.slice a n c] w fun e w' => ∃ a' n' c', e = .returned (.tuple #[.slice a' n' c', .bool (opensB l)]) ∧ w'.ownsRow w.heap.size 5 1 (.slice a' n' c') n' (bs (openL l)) ∧ Below w.heap.size w w' := by
  have hlen := h.len
  rcases Nat.lt_or_ge n 4 with hn | hn
  · have hb : opensB l = false := by unfold opensB; rw [decide_eq_false (by omega)]; rfl
    refine (open_short a n c w hn).mono ?_
    rintro e w' ⟨rfl, hbel⟩
    refine ⟨none, 0, 0, by rw [hb], ?_, hbel⟩
    unfold openL
    rw [if_neg (by rw [hb]; simp)]
    exact World.ownsRow_nil _ _ _ _
  · obtain ⟨m, rfl⟩ : ∃ m, n = m + 4 := ⟨n - 4, by omega⟩
    have hm : l.length - 4 = m := by omega
    by_cases hop : le 4 (jn 0 (l.take m)).toNat = l.drop m
    · have hb : opensB l = true := by unfold opensB; rw [decide_eq_true (by omega), hm, hop]; simp
      refine (open_long a m c l w h (by omega) hop).mono ?_
      rintro e w' ⟨a', c', rfl, ho, hbel⟩
      refine ⟨a', m, c', by rw [hb], ?_, hbel⟩
      unfold openL
      rw [if_pos hb, hm]
      exact ho
    · have hb : opensB l = false := by unfold opensB; rw [hm]; simp; exact fun _ => hop
      refine (open_bad a m c l w h (by omega) hop).mono ?_
      rintro e w' ⟨rfl, hbel⟩
      refine ⟨none, 0, 0, by rw [hb], ?_, hbel⟩
      unfold openL
      rw [if_neg (by rw [hb]; simp)]
      exact World.ownsRow_nil _ _ _ _
set_option maxHeartbeats 1000000 in
theorem ropen_short (a : Option Addr) (n c : Nat) (w : World) (hn : n < 4) :
    Calls Try.prog 22 #[.slice a n c] w fun e w' => e = .returned (.tuple #[.slice none 0 0, .bool false]) ∧ w = w' := by
  have h1 : (n : Int) < 4 := by omega
  go_enter Try.func22, Try.ntmps22
  go_wp2
  go_ret2
  exact ⟨rfl, rfl⟩
theorem four (l : List UInt8) (m : Nat) (h : l.length = m + 4) : l.drop m = [l.getD m 0, l.getD (m + 1) 0, l.getD (m + 2) 0, l.getD (m + 3) 0] := by
  rw [List.drop_eq_getElem_cons (by omega), List.drop_eq_getElem_cons (by omega), List.drop_eq_getElem_cons (by omega), List.drop_eq_getElem_cons (by omega), List.drop_of_length_le (by omega)]
  simp [List.getD_eq_getElem?_getD, h]
theorem le4 (N : Nat) : le 4 N = [byteOf N 0, byteOf N 1, byteOf N 2, byteOf N 3] := rfl
theorem u8_ne {x y : UInt8} (h : x ≠ y) : ((x.toNat : Int) != (y.toNat : Int)) = true ∧ ((x.toNat : Int) == (y.toNat : Int)) = false := by
  have : x.toNat ≠ y.toNat := fun e => h (UInt8.toNat_inj.1 e)
  simp
  omega
def RPost (B : Bool) (t : List UInt8) (w : World) (e : Ending) (w' : World) : Prop :=
  ∃ a' n' c', e = .returned (.tuple #[.slice a' n' c', .bool B]) ∧ w'.ownsRow w.heap.size 5 1 (.slice a' n' c') n' (bs (if B = true then t else [])) ∧ Below w.heap.size w w'
set_option maxHeartbeats 4000000 in
theorem ropen_long (a : Option Addr) (m c : Nat) (l : List UInt8) (w : World) (h : Bs w a (m + 4) c l) (hl : m ≤ 20000) :
    Calls Try.prog 22 #[.slice a (m + 4) c] w (RPost (le 4 (jn 0 (l.take m)).toNat == l.drop m) (l.take m) w) := by
  have hlen := h.len
  have hle := h.le
  have HC := hidd (show Bs w (cutAt a 0 c 1) m c (l.take m) from by have := h.cut 0 m c (by omega) (by omega) (by omega) (by omega); simpa using this)
  rw [four l m (by omega), le4]
  obtain ⟨b, off, rfl, c0⟩ := h.at m (by omega)
  obtain ⟨b1, off1, hb1, c1⟩ := h.at (m + 1) (by omega)
  obtain ⟨b2, off2, hb2, c2⟩ := h.at (m + 2) (by omega)
  obtain ⟨b3, off3, hb3, c3⟩ := h.at (m + 3) (by omega)
  injection hb1 with hb1
  injection hb1 with q1 q2
  injection hb2 with hb2
  injection hb2 with q3 q4
  injection hb3 with hb3
  injection hb3 with q5 q6
  subst q1 q2 q3 q4 q5 q6
  obtain ⟨x, hx⟩ : ∃ x, x = jn 0 (l.take m) := ⟨_, rfl⟩
  have HX := hidd hx
  rw [← hx]
  obtain ⟨e0, e1, e2, e3⟩ := U_bytes x
  have hu0 := U_lo x
  have hu1 := U_hi x
  clear h hx hlen
  generalize byteOf x.toNat 0 = s0 at e0
  generalize byteOf x.toNat 1 = s1 at e1
  generalize byteOf x.toNat 2 = s2 at e2
  generalize byteOf x.toNat 3 = s3 at e3
  generalize l.getD m 0 = d0 at c0
  generalize l.getD (m + 1) 0 = d1 at c1
  generalize l.getD (m + 2) 0 = d2 at c2
  generalize l.getD (m + 3) 0 = d3 at c3
  have t0 := s0.toNat_lt
  have t1 := s1.toNat_lt
  have t2 := s2.toNat_lt
  have t3 := s3.toNat_lt
  have BAD : ∀ B : Bool, Hid (B = false) → RPost B (l.take m) w (Ending.returned (.tuple #[.slice none 0 0, .bool false])) w := by
    intro B hB
    obtain rfl := hB.out
    exact ⟨none, 0, 0, rfl, World.ownsRow_nil _ _ _ _, Below.refl _ _⟩
  have HBAD := hidd BAD
  clear BAD
  by_cases h0 : d0 = s0
  · subst h0
    by_cases h1 : d1 = s1
    · subst h1
      by_cases h2 : d2 = s2
      · subst h2
        by_cases h3 : d3 = s3
        · subst h3
          go_enter Try.func22, Try.ntmps22
          go_wp2_with (first | (with_reducible refine wpList_cut_h bT rfl (.tmp 13) (.tmp 14) rfl _ (m + 4) c .i64 m rfl rfl (by omega) (by omega) ?_) | (with_reducible refine wpList_cut_h bT rfl (.tmp 58) (.tmp 59) rfl _ (m + 4) c .i64 m rfl rfl (by omega) (by omega) ?_) | (go_at_call 23; refine (rsum_any _ _ _ _ _ HC.out (by omega)).mono ?_; rintro e w1 ⟨rfl, rfl⟩; rw [← HX.out]) | (at_builtin; refine wpList_app bT rfl (.tmp 57) (.tmp 60) rfl w.heap.size (.slice none 0 0) 0 [] rfl (World.ownsRow_nil _ _ _ _) _ m c (bs (l.take m)) rfl HC.out (bs_one _) (by omega) (by omega) (Nat.le_refl _) ?_; intro v' w2 hown _ hbel; rw [Nat.zero_add, List.nil_append] at hown))
          obtain ⟨a', c', rfl, _⟩ := own_Sl hown
          go_ret2
          rw [beq_self_eq_true]
          exact ⟨a', m, c', rfl, hown, hbel⟩
        · obtain ⟨g3, g3'⟩ := u8_ne h3
          have HB := hidd (show ([d0, d1, d2, s3] == [d0, d1, d2, d3]) = false by simp [Ne.symm h3])
          clear h3
          generalize ([d0, d1, d2, s3] == [d0, d1, d2, d3]) = B at HB ⊢
          go_enter Try.func22, Try.ntmps22
          go_wp2_with (first | (with_reducible refine wpList_cut_h bT rfl (.tmp 13) (.tmp 14) rfl _ (m + 4) c .i64 m rfl rfl (by omega) (by omega) ?_) | (go_at_call 23; refine (rsum_any _ _ _ _ _ HC.out (by omega)).mono ?_; rintro e w1 ⟨rfl, rfl⟩; rw [← HX.out]))
          go_ret2
          exact HBAD.out _ HB
      · obtain ⟨g3, g3'⟩ := u8_ne h2
        have HB := hidd (show ([d0, d1, s2, s3] == [d0, d1, d2, d3]) = false by simp [Ne.symm h2])
        clear h2
        generalize ([d0, d1, s2, s3] == [d0, d1, d2, d3]) = B at HB ⊢
        go_enter Try.func22, Try.ntmps22
        go_wp2_with (first | (with_reducible refine wpList_cut_h bT rfl (.tmp 13) (.tmp 14) rfl _ (m + 4) c .i64 m rfl rfl (by omega) (by omega) ?_) | (go_at_call 23; refine (rsum_any _ _ _ _ _ HC.out (by omega)).mono ?_; rintro e w1 ⟨rfl, rfl⟩; rw [← HX.out]))
        go_ret2
        exact HBAD.out _ HB
    · obtain ⟨g3, g3'⟩ := u8_ne h1
      have HB := hidd (show ([d0, s1, s2, s3] == [d0, d1, d2, d3]) = false by simp [Ne.symm h1])
      clear h1
      generalize ([d0, s1, s2, s3] == [d0, d1, d2, d3]) = B at HB ⊢
      go_enter Try.func22, Try.ntmps22
      go_wp2_with (first | (with_reducible refine wpList_cut_h bT rfl (.tmp 13) (.tmp 14) rfl _ (m + 4) c .i64 m rfl rfl (by omega) (by omega) ?_) | (go_at_call 23; refine (rsum_any _ _ _ _ _ HC.out (by omega)).mono ?_; rintro e w1 ⟨rfl, rfl⟩; rw [← HX.out]))
      go_ret2
      exact HBAD.out _ HB
  · obtain ⟨g3, g3'⟩ := u8_ne h0
    have HB := hidd (show ([s0, s1, s2, s3] == [d0, d1, d2, d3]) = false by simp [Ne.symm h0])
    clear h0
    generalize ([s0, s1, s2, s3] == [d0, d1, d2, d3]) = B at HB ⊢
    go_enter Try.func22, Try.ntmps22
    go_wp2_with (first | (with_reducible refine wpList_cut_h bT rfl (.tmp 13) (.tmp 14) rfl _ (m + 4) c .i64 m rfl rfl (by omega) (by omega) ?_) | (go_at_call 23; refine (rsum_any _ _ _ _ _ HC.out (by omega)).mono ?_; rintro e w1 ⟨rfl, rfl⟩; rw [← HX.out]))
    go_ret2
    exact HBAD.out _ HB
theorem ropen_any (a : Option Addr) (n c : Nat) (l : List UInt8) (w : World) (h : Bs w a n c l) (hl : n ≤ 20004) :
    Calls Try.prog 22 #[.slice a n c] w fun e w' => ∃ a' n' c', e = .returned (.tuple #[.slice a' n' c', .bool (opensB l)]) ∧ w'.ownsRow w.heap.size 5 1 (.slice a' n' c') n' (bs (openL l)) ∧ Below w.heap.size w w' := by
  have hlen := h.len
  rcases Nat.lt_or_ge n 4 with hn | hn
  · have hb : opensB l = false := by unfold opensB; rw [decide_eq_false (by omega)]; rfl
    refine (ropen_short a n c w hn).mono ?_
    rintro e w' ⟨rfl, rfl⟩
    refine ⟨none, 0, 0, by rw [hb], ?_, Below.refl _ _⟩
    unfold openL
    rw [if_neg (by rw [hb]; simp)]
    exact World.ownsRow_nil _ _ _ _
  · obtain ⟨m, rfl⟩ : ∃ m, n = m + 4 := ⟨n - 4, by omega⟩
    have hm : l.length - 4 = m := by omega
    have hb : opensB l = (le 4 (jn 0 (l.take m)).toNat == l.drop m) := by unfold opensB; rw [decide_eq_true (by omega), hm]; simp
    unfold openL
    rw [hb, hm]
    exact ropen_long a m c l w h (by omega)
end Go.Proofs.Ytheodlbbalbliaa
