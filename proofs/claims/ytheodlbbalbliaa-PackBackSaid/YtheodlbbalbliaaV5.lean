import Derived.Test.YtheodlbbalbliaaV4
import Derived.Deep.QuietTactic
import Derived.BigQuiet
import Derived.Stop.BytesEq
import Derived.Deep.RegionHeld
namespace Go.Proofs.Ytheodlbbalbliaa
open Go.RowKit
theorem eightC {w : World} {b off c : Nat} {l : List UInt8} (h : Bs w (some ⟨b, off, none⟩) 8 c l) : ∃ b0 b1 b2 b3 b4 b5 b6 b7 : UInt8, l = [b0, b1, b2, b3, b4, b5, b6, b7] ∧
    w.cell? ⟨b, off, none⟩ = some (.int .u8 (b0.toNat : Int)) ∧ w.cell? ⟨b, off + 1, none⟩ = some (.int .u8 (b1.toNat : Int)) ∧ w.cell? ⟨b, off + 2, none⟩ = some (.int .u8 (b2.toNat : Int)) ∧ w.cell? ⟨b, off + 3, none⟩ = some (.int .u8 (b3.toNat : Int)) ∧
    w.cell? ⟨b, off + 4, none⟩ = some (.int .u8 (b4.toNat : Int)) ∧ w.cell? ⟨b, off + 5, none⟩ = some (.int .u8 (b5.toNat : Int)) ∧ w.cell? ⟨b, off + 6, none⟩ = some (.int .u8 (b6.toNat : Int)) ∧ w.cell? ⟨b, off + 7, none⟩ = some (.int .u8 (b7.toNat : Int)) := by
  have hl := h.len
  have hc : ∀ i, i < 8 → w.cell? ⟨b, off + i, none⟩ = (bs l)[i]? := by
    intro i hi
    obtain ⟨b', off', e, hc⟩ := Sl.cells h i (by rw [bs_length, hl]; exact hi)
    injection e with e
    injection e with e1 e2
    subst e1
    subst e2
    exact hc
  match l, hl with
  | [b0, b1, b2, b3, b4, b5, b6, b7], _ => exact ⟨_, _, _, _, _, _, _, _, rfl, hc 0 (by omega), hc 1 (by omega), hc 2 (by omega), hc 3 (by omega), hc 4 (by omega), hc 5 (by omega), hc 6 (by omega), hc 7 (by omega)⟩
def aggB (l : List UInt8) : Value := .agg (bs l).toArray
theorem eq8 (w : World) (l m : List UInt8) (hl : l.length = 8) (hm : m.length = 8) : (Op.equalIn 10000 47 (.agg (bs l).toArray) (.agg (bs m).toArray)).run Try.prog w = .ok (l == m) w :=
  run_equalIn_bytes w 9998 47 5 8 Try.underlying47 Try.underlying5 (fun w => bT.size w) l m hl hm
theorem eq8v (b0 b1 b2 b3 b4 b5 b6 b7 : UInt8) (w : World) : (Op.equalIn 10000 47 (.agg #[.int .u8 (b0.toNat : Int), .int .u8 (b1.toNat : Int), .int .u8 (b2.toNat : Int), .int .u8 (b3.toNat : Int), .int .u8 (b4.toNat : Int), .int .u8 (b5.toNat : Int), .int .u8 (b6.toNat : Int), .int .u8 (b7.toNat : Int)])
    (.agg #[.int .u8 (b0.toNat : Int), .int .u8 (b1.toNat : Int), .int .u8 (b2.toNat : Int), .int .u8 (b3.toNat : Int), .int .u8 (b4.toNat : Int), .int .u8 (b5.toNat : Int), .int .u8 (b6.toNat : Int), .int .u8 (b7.toNat : Int)])).run Try.prog w = .ok true w :=
  (eq8 w [b0, b1, b2, b3, b4, b5, b6, b7] [b0, b1, b2, b3, b4, b5, b6, b7] rfl rfl).trans (by simp)
theorem cell_all {w : World} {p : Addr} {v : Value} (h : w.cell? p = some v) : ∀ w', Below w.heap.size w w' → w'.cell? p = some v := fun w' hb => (hb.cell (p := p) (World.block_lt_of_cell? w _ h)).trans h
set_option maxHeartbeats 2000000 in
theorem veq_any (a b : Option Addr) (n c d : Nat) (L : List UInt8) (W : World) (h1 : Sl W a n c 8 (bs L)) (h2 : Sl W b n d 8 (bs L)) (hn : n ≤ 1000) :
    Calls Try.prog 33 #[.slice a n c, .slice b n d] W fun e w' => e = .returned (.bool true) ∧ Below W.heap.size W w' := by
  have H1 := hidd h1
  have H2 := hidd h2
  clear h1 h2
  go_enter Try.func33, Try.ntmps33
  go_wp2
  go_loopw [5] (fun i wr => ∃ k : Nat, k ≤ n ∧ i = .int .i64 k ∧ Below W.heap.size W wr) (fun i _ => n - (intOf i).toNat)
  case atStart => exact ⟨0, by omega, rfl, Below.refl _ _⟩
  case round =>
    obtain ⟨k, hk, rfl, hbel⟩ := hrel
    obtain ⟨wo, rfl⟩ : ∃ wo, wo = wr := ⟨_, rfl⟩
    have HW := hidd hbel
    clear hbel
    by_cases hlt : k < n
    · obtain ⟨x, o, rfl, _⟩ := H1.out.cells (k * 8) (by rw [H1.out.len]; omega)
      obtain ⟨y, p, rfl, _⟩ := H2.out.cells (k * 8) (by rw [H2.out.len]; omega)
      obtain ⟨b0, b1, b2, b3, b4, b5, b6, b7, hl, s0, s1, s2, s3, s4, s5, s6, s7⟩ := eightC (sl_chunk (H1.out.grow HW.out) k hlt)
      obtain ⟨d0, d1, d2, d3, d4, d5, d6, d7, hl2, t0, t1, t2, t3, t4, t5, t6, t7⟩ := eightC (sl_chunk (H2.out.grow HW.out) k hlt)
      rw [hl] at hl2
      injection hl2 with e0 hl2
      injection hl2 with e1 hl2
      injection hl2 with e2 hl2
      injection hl2 with e3 hl2
      injection hl2 with e4 hl2
      injection hl2 with e5 hl2
      injection hl2 with e6 hl2
      injection hl2 with e7 hl2
      subst e0 e1 e2 e3 e4 e5 e6 e7
      clear hl hl2
      have i0 : (0 : Int) ≤ (k : Int) := by omega
      have i1 : (k : Int) < (n : Int) := by omega
      go_wp2_with fail
      replace s0 := cell_all s0
      replace t0 := cell_all t0
      replace s1 := cell_all s1
      replace t1 := cell_all t1
      replace s2 := cell_all s2
      replace t2 := cell_all t2
      replace s3 := cell_all s3
      replace t3 := cell_all t3
      replace s4 := cell_all s4
      replace t4 := cell_all t4
      replace s5 := cell_all s5
      replace t5 := cell_all t5
      replace s6 := cell_all s6
      replace t6 := cell_all t6
      replace s7 := cell_all s7
      replace t7 := cell_all t7
      have hq := eq8v b0 b1 b2 b3 b4 b5 b6 b7
      refine wp_region_held_drew (S := fun w' => Below wo.heap.size wo w') (by kernel_rfl) ((Below.refl _ wo).drew) (fun hH => ?_)
      refine take_at 0 17 (v := ?_) rfl rfl (by kernel_rfl) (by kernel_rfl) (by kernel_rfl) (fun _ _ _ h => h) (Or.inl ⟨by rfl, ?_⟩) hH ?_
      rotate_left
      · (intro w9 hSw; (try dsimp only at hSw); go_simp) <;> with_reducible rfl
      try simp only [Act.put, List.setIfInBounds_toArray, List.set_cons_zero, List.set_cons_succ]
      refine take_at 1 18 (v := ?_) rfl rfl (by kernel_rfl) (by kernel_rfl) (by kernel_rfl) (fun _ _ _ h => h) (Or.inl ⟨by rfl, ?_⟩) hH ?_
      rotate_left
      · (intro w9 hSw; (try dsimp only at hSw); go_simp) <;> with_reducible rfl
      try simp only [Act.put, List.setIfInBounds_toArray, List.set_cons_zero, List.set_cons_succ]
      refine take_at 2 19 (v := ?_) rfl rfl (by kernel_rfl) (by kernel_rfl) (by kernel_rfl) (fun _ _ _ h => h) (Or.inl ⟨by rfl, ?_⟩) hH ?_
      rotate_left
      · (intro w9 hSw; (try dsimp only at hSw); go_simp) <;> with_reducible rfl
      try simp only [Act.put, List.setIfInBounds_toArray, List.set_cons_zero, List.set_cons_succ]
      refine take_at 3 20 (v := ?_) rfl rfl (by kernel_rfl) (by kernel_rfl) (by kernel_rfl) (fun _ _ _ h => h) (Or.inl ⟨by rfl, ?_⟩) hH ?_
      rotate_left
      · (intro w9 hSw; (try dsimp only at hSw); go_simp) <;> with_reducible rfl
      try simp only [Act.put, List.setIfInBounds_toArray, List.set_cons_zero, List.set_cons_succ]
      refine take_at 4 21 (v := ?_) rfl rfl (by kernel_rfl) (by kernel_rfl) (by kernel_rfl) (fun _ _ _ h => h) (Or.inl ⟨by rfl, ?_⟩) hH ?_
      rotate_left
      · (intro w9 hSw; (try dsimp only at hSw); go_simp) <;> with_reducible rfl
      try simp only [Act.put, List.setIfInBounds_toArray, List.set_cons_zero, List.set_cons_succ]
      refine take_at 5 22 (v := ?_) rfl rfl (by kernel_rfl) (by kernel_rfl) (by kernel_rfl) (fun _ _ _ h => h) (Or.inl ⟨by rfl, ?_⟩) hH ?_
      rotate_left
      · (intro w9 hSw; (try dsimp only at hSw); go_simp) <;> with_reducible rfl
      try simp only [Act.put, List.setIfInBounds_toArray, List.set_cons_zero, List.set_cons_succ]
      refine take_at 6 23 (v := ?_) rfl rfl (by kernel_rfl) (by kernel_rfl) (by kernel_rfl) (fun _ _ _ h => h) (Or.inl ⟨by rfl, ?_⟩) hH ?_
      rotate_left
      · (intro w9 hSw; (try dsimp only at hSw); go_simp) <;> with_reducible rfl
      try simp only [Act.put, List.setIfInBounds_toArray, List.set_cons_zero, List.set_cons_succ]
      refine take_at 7 24 (v := ?_) rfl rfl (by kernel_rfl) (by kernel_rfl) (by kernel_rfl) (fun _ _ _ h => h) (Or.inl ⟨by rfl, ?_⟩) hH ?_
      rotate_left
      · (intro w9 hSw; (try dsimp only at hSw); go_simp) <;> with_reducible rfl
      try simp only [Act.put, List.setIfInBounds_toArray, List.set_cons_zero, List.set_cons_succ]
      refine take_at 8 25 (v := ?_) rfl rfl (by kernel_rfl) (by kernel_rfl) (by kernel_rfl) (fun _ _ _ h => h) (Or.inl ⟨by rfl, ?_⟩) hH ?_
      rotate_left
      · (intro w9 hSw; (try dsimp only at hSw); go_simp) <;> with_reducible rfl
      try simp only [Act.put, List.setIfInBounds_toArray, List.set_cons_zero, List.set_cons_succ]
      refine wpAnyH_done (by kernel_rfl) ?_ _

      clear s0 s1 s2 s3 s4 s5 s6 s7 t0 t1 t2 t3 t4 t5 t6 t7 hq
      go_wp2
      go_roundw
      case rel => exact ⟨k + 1, by omega, by go_num, HW.out.drew⟩
      case measure => simp [intOf]; omega
    · go_wp2
      go_ret
      exact ⟨rfl, HW.out⟩
end Go.Proofs.Ytheodlbbalbliaa
