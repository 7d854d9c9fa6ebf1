import Derived.Test.YtheodlbbalbliaaA2
import Derived.Deep.QuietTactic
import Derived.BigQuiet
import Derived.Deep.RegionHeld
namespace Go.Proofs.Ytheodlbbalbliaa
open Go.RowKit
def opensB (l : List UInt8) : Bool := decide (4 ≤ l.length) && (le 4 (jn 0 (l.take (l.length - 4))).toNat == l.drop (l.length - 4))
theorem c22_lh (w : World) (a : Option Addr) (len cap : Nat) (kl kh : IntKind) (l h : Int) (h0 : 0 ≤ l) (h1 : l ≤ h) (h2 : h ≤ cap) :
    (Instr.sliceAt 22 (.slice a len cap) (some (.int kl l)) (some (.int kh h)) none).run Try.prog w = .ok (.slice (cutAt a l.toNat cap 1) (h.toNat - l.toNat) (cap - l.toNat)) w := run_cut_lh bT w a len cap kl kh l h h0 h1 h2
theorem c22_l (w : World) (a : Option Addr) (len cap : Nat) (kl : IntKind) (l : Int) (h0 : 0 ≤ l) (h1 : l ≤ len) :
    (Instr.sliceAt 22 (.slice a len cap) (some (.int kl l)) none none).run Try.prog w = .ok (.slice (cutAt a l.toNat cap 1) (len - l.toNat) (cap - l.toNat)) w := run_cut_l bT w a len cap kl l h0 h1
theorem c22_h (w : World) (a : Option Addr) (len cap : Nat) (kh : IntKind) (h : Int) (h0 : 0 ≤ h) (h2 : h ≤ cap) :
    (Instr.sliceAt 22 (.slice a len cap) none (some (.int kh h)) none).run Try.prog w = .ok (.slice (cutAt a 0 cap 1) h.toNat cap) w := run_cut_h bT w a len cap kh h h0 h2
theorem c22_hm (w : World) (a : Option Addr) (len cap : Nat) (kh km : IntKind) (h m : Int) (h0 : 0 ≤ h) (h2 : h ≤ m) (h3 : m ≤ cap) :
    (Instr.sliceAt 22 (.slice a len cap) none (some (.int kh h)) (some (.int km m))).run Try.prog w = .ok (.slice (cutAt a 0 m.toNat 1) h.toNat m.toNat) w := run_cut_hm bT w a len cap kh km h m h0 h2 h3
attribute [local go_sem high] c22_lh c22_l c22_h c22_hm
set_option maxHeartbeats 1000000 in
theorem open_short (a : Option Addr) (n c : Nat) (w : World) (hn : n < 4) :
    Calls Try.prog 21 #[.slice a n c] w fun e w' => e = .returned (.tuple #[.slice none 0 0, .bool false]) ∧ Below w.heap.size w w' := by
  have hd : decide ((n : Int) - 4 < 0) = true := by simp; omega
  go_enter Try.func21, Try.ntmps21
  go_wp2_with fail
  go_quiet (fail)
  go_wp2
  go_ret2
  exact ⟨rfl, rfl, rfl, rfl, Nat.le_refl _, fun _ _ => rfl⟩
theorem owned_Bs {w : World} {base : Nat} {a : Option Addr} {n c : Nat} {l : List UInt8} (h : w.ownsRow base 5 1 (.slice a n c) n (bs l)) : Bs w a n c l := by
  obtain ⟨a', c', he, hs⟩ := own_Sl h
  injection he with q1 q2 q3
  subst q1
  subst q3
  exact hs
theorem conv_at {w : World} {a : Option Addr} {n c : Nat} {l : List UInt8} (h : Bs w a n c l) : ∀ w', Below w.heap.size w w' → (convert 22 9 (.slice a n c)).run Try.prog w' = .ok (.string ⟨l.toArray⟩) w' :=
  fun w' hb => run_conv w' 22 9 5 Try.underlying22 Try.underlying5 Try.underlying9 (h.grow hb)
theorem seal_tail {w : World} {a : Option Addr} {m c : Nat} {l : List UInt8} {base : Nat} (hl : l.length = m) (h : w.ownsRow base 5 1 (.slice a (m + 4) c) (m + 4) (bs (sealL l))) :
    Bs w (cutAt a m c 1) 4 (c - m) (le 4 (jn 0 l).toNat) := by
  obtain ⟨a', c', he, hs⟩ := own_Sl h
  injection he with q1 q2 q3
  subst q1
  subst q3
  have hle := hs.le
  have := Bs.cut hs m (m + 4) c (by omega) (by omega) (by omega) (by omega)
  rw [sealL, List.take_of_length_le (by simp [le]; omega), List.drop_left' hl] at this
  simpa using this
set_option maxHeartbeats 1000000 in
theorem open_long (a : Option Addr) (m c : Nat) (l : List UInt8) (w : World) (h : Bs w a (m + 4) c l) (hl : m ≤ 20000) (hop : le 4 (jn 0 (l.take m)).toNat = l.drop m) :
    Calls Try.prog 21 #[.slice a (m + 4) c] w fun e w' => ∃ a' c', e = .returned (.tuple #[.slice a' m c', .bool true]) ∧ w'.ownsRow w.heap.size 5 1 (.slice a' m c') m (bs (l.take m)) ∧ Below w.heap.size w w' := by
  have hd : decide ((m : Int) < 0) = false := by simp
  have h0 : (0 : Int) ≤ (m : Int) := by omega
  have hm4 : (m : Int) ≤ (m : Int) + 4 := by omega
  have HH := hidd h
  have hle := h.le
  have hmc : (m : Int) ≤ (c : Int) := by omega
  have hlen := h.len
  have HC := hidd (show Bs w (cutAt a 0 m 1) m m (l.take m) from by have := h.cut 0 m m (by omega) (by omega) (by omega) (by omega); simpa using this)
  have HD := show Bs w (cutAt a m c 1) 4 (c - m) (l.drop m) from by
    have := h.cut m (m + 4) c (by omega) (by omega) (by omega) (by omega)
    rw [List.take_of_length_le (by omega)] at this
    simpa using this
  have hcv : ∀ w', Below w.heap.size w w' → (convert 22 9 (.slice (cutAt a m c 1) 4 (c - m))).run Try.prog w' = .ok (.string ⟨(l.drop m).toArray⟩) w' := fun w' hb => run_conv w' 22 9 5 Try.underlying22 Try.underlying5 Try.underlying9 (HD.grow hb)
  have HO := hidd hop
  have HLT := hidd (show (l.take m).length = m by simp; omega)
  have HC2 := hidd (show Bs w (cutAt a 0 c 1) m c (l.take m) from by have := h.cut 0 m c (by omega) (by omega) (by omega) (by omega); simpa using this)
  clear h hop HD hlen
  go_enter Try.func21, Try.ntmps21
  go_wp2_with fail
  refine wp_region_held_drew (S := fun w' => Below w.heap.size w w') (by kernel_rfl) ((Below.refl _ w).drew) (fun hH => ?_)
  refine take_at 0 8 (v := ?_) rfl rfl (by kernel_rfl) (by kernel_rfl) (by kernel_rfl) (fun _ _ _ h => h) (Or.inl ⟨by rfl, ?_⟩) hH ?_
  rotate_left
  · (intro w9 hSw; (try dsimp only at hSw); go_simp) <;> with_reducible rfl
  try simp only [Act.put, List.setIfInBounds_toArray, List.set_cons_zero, List.set_cons_succ]
  refine take_at 1 9 (v := ?_) rfl rfl (by kernel_rfl) (by kernel_rfl) (by kernel_rfl) (fun _ _ _ h => h) (Or.inl ⟨by rfl, ?_⟩) hH ?_
  rotate_left
  · (intro w9 hSw; (try dsimp only at hSw); go_simp) <;> with_reducible rfl
  try simp only [Act.put, List.setIfInBounds_toArray, List.set_cons_zero, List.set_cons_succ]
  refine take_at 2 10 (v := ?_) rfl rfl (by kernel_rfl) (by kernel_rfl) (by kernel_rfl) (fun _ _ _ h => h) (Or.inl ⟨by rfl, ?_⟩) hH ?_
  rotate_left
  · (intro w9 hSw; (try dsimp only at hSw); go_simp) <;> with_reducible rfl
  try simp only [Act.put, List.setIfInBounds_toArray, List.set_cons_zero, List.set_cons_succ]
  refine take_at 3 11 (v := ?_) rfl rfl (by kernel_rfl) (by kernel_rfl) (by kernel_rfl) (fun _ _ _ h => h) (Or.inl ⟨by rfl, ?_⟩) hH ?_
  rotate_left
  · (intro w9 hSw; (try dsimp only at hSw); go_simp) <;> with_reducible rfl
  try simp only [Act.put, List.setIfInBounds_toArray, List.set_cons_zero, List.set_cons_succ]
  refine take_at 4 12 (v := ?_) rfl rfl (by kernel_rfl) (by kernel_rfl) (by kernel_rfl) (fun _ _ _ h => h) (Or.inl ⟨by rfl, ?_⟩) hH ?_
  rotate_left
  · (intro w9 hSw; (try dsimp only at hSw); go_simp) <;> with_reducible rfl
  try simp only [Act.put, List.setIfInBounds_toArray, List.set_cons_zero, List.set_cons_succ]
  refine take_at 5 13 (v := ?_) rfl rfl (by kernel_rfl) (by kernel_rfl) (by kernel_rfl) (fun _ _ _ h => h) (Or.inl ⟨by rfl, ?_⟩) hH ?_
  rotate_left
  · (intro w9 hSw; (try dsimp only at hSw); go_simp) <;> with_reducible rfl
  try simp only [Act.put, List.setIfInBounds_toArray, List.set_cons_zero, List.set_cons_succ]
  refine take_at 6 14 (v := ?_) rfl rfl (by kernel_rfl) (by kernel_rfl) (by kernel_rfl) (fun _ _ _ h => h) (Or.inl ⟨by rfl, ?_⟩) hH ?_
  rotate_left
  · (intro w9 hSw; (try dsimp only at hSw); go_simp) <;> with_reducible rfl
  try simp only [Act.put, List.setIfInBounds_toArray, List.set_cons_zero, List.set_cons_succ]
  refine take_at 8 16 (v := ?_) rfl rfl (by kernel_rfl) (by kernel_rfl) (by kernel_rfl) (fun _ _ _ h => h) (Or.inl ⟨by rfl, ?_⟩) hH ?_
  rotate_left
  · (intro w9 hSw; (try dsimp only at hSw); go_simp) <;> with_reducible rfl
  try simp only [Act.put, List.setIfInBounds_toArray, List.set_cons_zero, List.set_cons_succ]
  refine take_at 11 19 (v := ?_) rfl rfl (by kernel_rfl) (by kernel_rfl) (by kernel_rfl) (fun _ _ _ h => h) (Or.inl ⟨by rfl, ?_⟩) hH ?_
  rotate_left
  · (intro w9 hSw; (try dsimp only at hSw); go_simp) <;> with_reducible rfl
  try simp only [Act.put, List.setIfInBounds_toArray, List.set_cons_zero, List.set_cons_succ]
  refine take_at 12 20 (v := ?_) rfl rfl (by kernel_rfl) (by kernel_rfl) (by kernel_rfl) (fun _ _ _ h => h) (Or.inl ⟨by rfl, ?_⟩) hH ?_
  rotate_left
  · (intro w9 hSw; (try dsimp only at hSw); go_simp) <;> with_reducible rfl
  try simp only [Act.put, List.setIfInBounds_toArray, List.set_cons_zero, List.set_cons_succ]
  refine take_at 13 21 (v := ?_) rfl rfl (by kernel_rfl) (by kernel_rfl) (by kernel_rfl) (fun _ _ _ h => h) (Or.inl ⟨by rfl, ?_⟩) hH ?_
  rotate_left
  · (intro w9 hSw; (try dsimp only at hSw); go_simp) <;> with_reducible rfl
  try simp only [Act.put, List.setIfInBounds_toArray, List.set_cons_zero, List.set_cons_succ]
  refine take_at 14 22 (v := ?_) rfl rfl (by kernel_rfl) (by kernel_rfl) (by kernel_rfl) (fun _ _ _ h => h) (Or.inl ⟨by rfl, ?_⟩) hH ?_
  rotate_left
  · (intro w9 hSw; (try dsimp only at hSw); go_simp) <;> with_reducible rfl
  try simp only [Act.put, List.setIfInBounds_toArray, List.set_cons_zero, List.set_cons_succ]
  refine wpAnyH_ready (rs := [7]) (by kernel_rfl) (by simp) ?_
  refine AllReadyH.cons rfl (fun K hK => ?_) AllReadyH.nil
  go_simp
  refine (seal_any _ _ _ _ _ (HC.out.grow ((Below.refl _ w).drew)) (by omega)).mono ?_
  rintro e w1 ⟨a1, c1, rfl, hown, hb1⟩
  have D1 := ((Below.refl w.heap.size w).drew).trans hb1
  have hcv2 := conv_at (seal_tail HLT.out hown)
  rw [HO.out] at hcv2
  clear hown hb1
  dsimp only
  refine hK.out _ _ (D1) (fun hH7 => ?_)
  clear hK K
  refine wpAnyH_mono (S := _) (S' := fun w' => Below w1.heap.size w1 w') (fun w' h => D1.trans (h.mono D1.size)) _ _ _ _ ?_
  have hH2 : (fun w' => Below w1.heap.size w1 w') w1 := Below.refl _ _
  clear hH hH7; have hH := hH2; clear hH2
  try simp only [Act.put, List.setIfInBounds_toArray, List.set_cons_zero, List.set_cons_succ]
  refine take_at 9 17 (v := ?_) rfl rfl (by kernel_rfl) (by kernel_rfl) (by kernel_rfl) (fun _ _ _ h => h) (Or.inl ⟨by rfl, ?_⟩) hH ?_
  rotate_left
  · (intro w9 hSw; (try dsimp only at hSw); go_simp) <;> with_reducible rfl
  try simp only [Act.put, List.setIfInBounds_toArray, List.set_cons_zero, List.set_cons_succ]
  refine take_at 10 18 (v := ?_) rfl rfl (by kernel_rfl) (by kernel_rfl) (by kernel_rfl) (fun _ _ _ h => h) (Or.inl ⟨by rfl, ?_⟩) hH ?_
  rotate_left
  · (intro w9 hSw; (try dsimp only at hSw); go_simp) <;> with_reducible rfl
  try simp only [Act.put, List.setIfInBounds_toArray, List.set_cons_zero, List.set_cons_succ]
  refine take_at 15 23 (v := ?_) rfl rfl (by kernel_rfl) (by kernel_rfl) (by kernel_rfl) (fun _ _ _ h => h) (Or.inl ⟨by rfl, ?_⟩) hH ?_
  rotate_left
  · (intro w9 hSw; (try dsimp only at hSw); go_simp) <;> with_reducible rfl
  try simp only [Act.put, List.setIfInBounds_toArray, List.set_cons_zero, List.set_cons_succ]
  refine take_at 16 24 (v := ?_) rfl rfl (by kernel_rfl) (by kernel_rfl) (by kernel_rfl) (fun _ _ _ h => h) (Or.inl ⟨by rfl, ?_⟩) hH ?_
  rotate_left
  · (intro w9 hSw; (try dsimp only at hSw); go_simp) <;> with_reducible rfl
  try simp only [Act.put, List.setIfInBounds_toArray, List.set_cons_zero, List.set_cons_succ]
  refine wpAnyH_done (by kernel_rfl) ?_ _
  have HB1 := hidd D1
  clear D1 hcv hcv2 hd
  go_wp2_with (at_builtin; refine wpList_app bT rfl (.const (.slice none 0 0)) (.tmp 27) rfl w.heap.size (.slice none 0 0) 0 [] rfl (World.ownsRow_nil _ _ _ _) (cutAt a 0 c 1) m c (bs (l.take m)) rfl (Sl.grow HC2.out HB1.out) (bs_one _) (by omega) (by omega) HB1.out.size ?_; intro v' w2 hown _ hbel; rw [Nat.zero_add, List.nil_append] at hown)
  obtain ⟨a', c', rfl, _⟩ := own_Sl hown
  go_ret2
  exact ⟨_, _, rfl, hown, HB1.out.trans hbel⟩
set_option maxHeartbeats 1000000 in
theorem open_bad (a : Option Addr) (m c : Nat) (l : List UInt8) (w : World) (h : Bs w a (m + 4) c l) (hl : m ≤ 20000) (hop : le 4 (jn 0 (l.take m)).toNat ≠ l.drop m) :
    Calls Try.prog 21 #[.slice a (m + 4) c] w fun e w' => e = .returned (.tuple #[.slice none 0 0, .bool false]) ∧ Below w.heap.size w w' := by
  have hd : decide ((m : Int) < 0) = false := by simp
  have h0 : (0 : Int) ≤ (m : Int) := by omega
  have hm4 : (m : Int) ≤ (m : Int) + 4 := by omega
  have HH := hidd h
  have hle := h.le
  have hmc : (m : Int) ≤ (c : Int) := by omega
  have hlen := h.len
  have HC := hidd (show Bs w (cutAt a 0 m 1) m m (l.take m) from by have := h.cut 0 m m (by omega) (by omega) (by omega) (by omega); simpa using this)
  have HD := show Bs w (cutAt a m c 1) 4 (c - m) (l.drop m) from by
    have := h.cut m (m + 4) c (by omega) (by omega) (by omega) (by omega)
    rw [List.take_of_length_le (by omega)] at this
    simpa using this
  have hcv : ∀ w', Below w.heap.size w w' → (convert 22 9 (.slice (cutAt a m c 1) 4 (c - m))).run Try.prog w' = .ok (.string ⟨(l.drop m).toArray⟩) w' := fun w' hb => run_conv w' 22 9 5 Try.underlying22 Try.underlying5 Try.underlying9 (HD.grow hb)
  have hne : (le 4 (jn 0 (l.take m)).toNat == l.drop m) = false := by simpa using hop
  have HLT := hidd (show (l.take m).length = m by simp; omega)
  generalize hq : le 4 (jn 0 (l.take m)).toNat = q at hne
  have HQ := hidd hq
  clear h hop HD hlen hq
  go_enter Try.func21, Try.ntmps21
  go_wp2_with fail
  refine wp_region_held_drew (S := fun w' => Below w.heap.size w w') (by kernel_rfl) ((Below.refl _ w).drew) (fun hH => ?_)
  refine take_at 0 8 (v := ?_) rfl rfl (by kernel_rfl) (by kernel_rfl) (by kernel_rfl) (fun _ _ _ h => h) (Or.inl ⟨by rfl, ?_⟩) hH ?_
  rotate_left
  · (intro w9 hSw; (try dsimp only at hSw); go_simp) <;> with_reducible rfl
  try simp only [Act.put, List.setIfInBounds_toArray, List.set_cons_zero, List.set_cons_succ]
  refine take_at 1 9 (v := ?_) rfl rfl (by kernel_rfl) (by kernel_rfl) (by kernel_rfl) (fun _ _ _ h => h) (Or.inl ⟨by rfl, ?_⟩) hH ?_
  rotate_left
  · (intro w9 hSw; (try dsimp only at hSw); go_simp) <;> with_reducible rfl
  try simp only [Act.put, List.setIfInBounds_toArray, List.set_cons_zero, List.set_cons_succ]
  refine take_at 2 10 (v := ?_) rfl rfl (by kernel_rfl) (by kernel_rfl) (by kernel_rfl) (fun _ _ _ h => h) (Or.inl ⟨by rfl, ?_⟩) hH ?_
  rotate_left
  · (intro w9 hSw; (try dsimp only at hSw); go_simp) <;> with_reducible rfl
  try simp only [Act.put, List.setIfInBounds_toArray, List.set_cons_zero, List.set_cons_succ]
  refine take_at 3 11 (v := ?_) rfl rfl (by kernel_rfl) (by kernel_rfl) (by kernel_rfl) (fun _ _ _ h => h) (Or.inl ⟨by rfl, ?_⟩) hH ?_
  rotate_left
  · (intro w9 hSw; (try dsimp only at hSw); go_simp) <;> with_reducible rfl
  try simp only [Act.put, List.setIfInBounds_toArray, List.set_cons_zero, List.set_cons_succ]
  refine take_at 4 12 (v := ?_) rfl rfl (by kernel_rfl) (by kernel_rfl) (by kernel_rfl) (fun _ _ _ h => h) (Or.inl ⟨by rfl, ?_⟩) hH ?_
  rotate_left
  · (intro w9 hSw; (try dsimp only at hSw); go_simp) <;> with_reducible rfl
  try simp only [Act.put, List.setIfInBounds_toArray, List.set_cons_zero, List.set_cons_succ]
  refine take_at 5 13 (v := ?_) rfl rfl (by kernel_rfl) (by kernel_rfl) (by kernel_rfl) (fun _ _ _ h => h) (Or.inl ⟨by rfl, ?_⟩) hH ?_
  rotate_left
  · (intro w9 hSw; (try dsimp only at hSw); go_simp) <;> with_reducible rfl
  try simp only [Act.put, List.setIfInBounds_toArray, List.set_cons_zero, List.set_cons_succ]
  refine take_at 6 14 (v := ?_) rfl rfl (by kernel_rfl) (by kernel_rfl) (by kernel_rfl) (fun _ _ _ h => h) (Or.inl ⟨by rfl, ?_⟩) hH ?_
  rotate_left
  · (intro w9 hSw; (try dsimp only at hSw); go_simp) <;> with_reducible rfl
  try simp only [Act.put, List.setIfInBounds_toArray, List.set_cons_zero, List.set_cons_succ]
  refine take_at 8 16 (v := ?_) rfl rfl (by kernel_rfl) (by kernel_rfl) (by kernel_rfl) (fun _ _ _ h => h) (Or.inl ⟨by rfl, ?_⟩) hH ?_
  rotate_left
  · (intro w9 hSw; (try dsimp only at hSw); go_simp) <;> with_reducible rfl
  try simp only [Act.put, List.setIfInBounds_toArray, List.set_cons_zero, List.set_cons_succ]
  refine take_at 11 19 (v := ?_) rfl rfl (by kernel_rfl) (by kernel_rfl) (by kernel_rfl) (fun _ _ _ h => h) (Or.inl ⟨by rfl, ?_⟩) hH ?_
  rotate_left
  · (intro w9 hSw; (try dsimp only at hSw); go_simp) <;> with_reducible rfl
  try simp only [Act.put, List.setIfInBounds_toArray, List.set_cons_zero, List.set_cons_succ]
  refine take_at 12 20 (v := ?_) rfl rfl (by kernel_rfl) (by kernel_rfl) (by kernel_rfl) (fun _ _ _ h => h) (Or.inl ⟨by rfl, ?_⟩) hH ?_
  rotate_left
  · (intro w9 hSw; (try dsimp only at hSw); go_simp) <;> with_reducible rfl
  try simp only [Act.put, List.setIfInBounds_toArray, List.set_cons_zero, List.set_cons_succ]
  refine take_at 13 21 (v := ?_) rfl rfl (by kernel_rfl) (by kernel_rfl) (by kernel_rfl) (fun _ _ _ h => h) (Or.inl ⟨by rfl, ?_⟩) hH ?_
  rotate_left
  · (intro w9 hSw; (try dsimp only at hSw); go_simp) <;> with_reducible rfl
  try simp only [Act.put, List.setIfInBounds_toArray, List.set_cons_zero, List.set_cons_succ]
  refine take_at 14 22 (v := ?_) rfl rfl (by kernel_rfl) (by kernel_rfl) (by kernel_rfl) (fun _ _ _ h => h) (Or.inl ⟨by rfl, ?_⟩) hH ?_
  rotate_left
  · (intro w9 hSw; (try dsimp only at hSw); go_simp) <;> with_reducible rfl
  try simp only [Act.put, List.setIfInBounds_toArray, List.set_cons_zero, List.set_cons_succ]
  refine wpAnyH_ready (rs := [7]) (by kernel_rfl) (by simp) ?_
  refine AllReadyH.cons rfl (fun K hK => ?_) AllReadyH.nil
  go_simp
  refine (seal_any _ _ _ _ _ (HC.out.grow ((Below.refl _ w).drew)) (by omega)).mono ?_
  rintro e w1 ⟨a1, c1, rfl, hown, hb1⟩
  have D1 := ((Below.refl w.heap.size w).drew).trans hb1
  have hcv2 := conv_at (seal_tail HLT.out hown)
  rw [HQ.out] at hcv2
  clear hown hb1
  dsimp only
  refine hK.out _ _ (D1) (fun hH7 => ?_)
  clear hK K
  refine wpAnyH_mono (S := _) (S' := fun w' => Below w1.heap.size w1 w') (fun w' h => D1.trans (h.mono D1.size)) _ _ _ _ ?_
  have hH2 : (fun w' => Below w1.heap.size w1 w') w1 := Below.refl _ _
  clear hH hH7; have hH := hH2; clear hH2
  try simp only [Act.put, List.setIfInBounds_toArray, List.set_cons_zero, List.set_cons_succ]
  refine take_at 9 17 (v := ?_) rfl rfl (by kernel_rfl) (by kernel_rfl) (by kernel_rfl) (fun _ _ _ h => h) (Or.inl ⟨by rfl, ?_⟩) hH ?_
  rotate_left
  · (intro w9 hSw; (try dsimp only at hSw); go_simp) <;> with_reducible rfl
  try simp only [Act.put, List.setIfInBounds_toArray, List.set_cons_zero, List.set_cons_succ]
  refine take_at 10 18 (v := ?_) rfl rfl (by kernel_rfl) (by kernel_rfl) (by kernel_rfl) (fun _ _ _ h => h) (Or.inl ⟨by rfl, ?_⟩) hH ?_
  rotate_left
  · (intro w9 hSw; (try dsimp only at hSw); go_simp) <;> with_reducible rfl
  try simp only [Act.put, List.setIfInBounds_toArray, List.set_cons_zero, List.set_cons_succ]
  refine take_at 15 23 (v := ?_) rfl rfl (by kernel_rfl) (by kernel_rfl) (by kernel_rfl) (fun _ _ _ h => h) (Or.inl ⟨by rfl, ?_⟩) hH ?_
  rotate_left
  · (intro w9 hSw; (try dsimp only at hSw); go_simp) <;> with_reducible rfl
  try simp only [Act.put, List.setIfInBounds_toArray, List.set_cons_zero, List.set_cons_succ]
  refine take_at 16 24 (v := ?_) rfl rfl (by kernel_rfl) (by kernel_rfl) (by kernel_rfl) (fun _ _ _ h => h) (Or.inl ⟨by rfl, ?_⟩) hH ?_
  rotate_left
  · (intro w9 hSw; (try dsimp only at hSw); go_simp) <;> with_reducible rfl
  try simp only [Act.put, List.setIfInBounds_toArray, List.set_cons_zero, List.set_cons_succ]
  refine wpAnyH_done (by kernel_rfl) ?_ _
  have HB1 := hidd D1
  clear D1 hcv hcv2 hd
  go_wp2
  go_ret2
  exact ⟨rfl, HB1.out⟩
end Go.Proofs.Ytheodlbbalbliaa
