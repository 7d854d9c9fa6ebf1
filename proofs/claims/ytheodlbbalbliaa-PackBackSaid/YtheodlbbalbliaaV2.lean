import Derived.Test.YtheodlbbalbliaaV1
namespace Go.Proofs.Ytheodlbbalbliaa
open Go.RowKit
def chunk (L : List UInt8) (k : Nat) : List UInt8 := (L.drop (k * 8)).take 8
theorem chunk_take (L : List UInt8) (k n : Nat) (hl : L.length = n * 8) (h : k < n) : L.take (k * 8) ++ chunk L k = L.take ((k + 1) * 8) := by
  unfold chunk
  rw [Nat.succ_mul, List.take_add]
theorem chunk_len (L : List UInt8) (k n : Nat) (hl : L.length = n * 8) (h : k < n) : (chunk L k).length = 8 := by
  unfold chunk
  rw [List.length_take, List.length_drop]
  omega
theorem sl_chunk {w : World} {b off n c : Nat} {L : List UInt8} (h : Sl w (some ⟨b, off, none⟩) n c 8 (bs L)) (k : Nat) (hk : k < n) : Bs w (some ⟨b, off + k * 8, none⟩) 8 8 (chunk L k) := by
  have hl : L.length = n * 8 := by have := h.len; rwa [bs_length] at this
  refine ⟨by rw [bs_length, chunk_len L k n hl hk], Nat.le_refl _, by decide, fun e => by simp at e, ?_⟩
  intro i hi
  rw [bs_length, chunk_len L k n hl hk] at hi
  obtain ⟨b', off', e, hc⟩ := h.cells (k * 8 + i) (by rw [bs_length]; omega)
  injection e with e
  injection e with e1 e2
  subst e1
  subst e2
  refine ⟨_, _, rfl, ?_⟩
  rw [show off + k * 8 + i = off + (k * 8 + i) by omega, hc]
  unfold chunk bs
  rw [List.getElem?_map, List.getElem?_map, List.getElem?_take, if_pos hi, List.getElem?_drop]
def rowsP (b off n : Nat) : List Value := (List.range n).map fun k => .slice (some ⟨b, off + k * 8, none⟩) 8 8
set_option maxHeartbeats 1000000 in
theorem all_any (ar : Option Addr) (cr b off n c : Nat) (L : List UInt8) (W : World) (hr : Sl W ar n cr 1 (rowsP b off n)) (hb : Sl W (some ⟨b, off, none⟩) n c 8 (bs L)) (hn : n ≤ 1000) :
    Calls Try.prog 36 #[.slice ar n cr] W fun e w' => ∃ a' c', e = .returned (.slice a' (n * 8) c') ∧ w'.ownsRow W.heap.size 5 1 (.slice a' (n * 8) c') (n * 8) (bs L) ∧ Below W.heap.size W w' := by
  have HR := hidd hr
  have HB := hidd hb
  have HL := hidd (show L.length = n * 8 by have := hb.len; rwa [bs_length] at this)
  clear hr hb
  go_enter Try.func36, Try.ntmps36
  go_wp2
  go_loopw [2, 4, 7] (fun v _ i wr => ∃ k : Nat, k ≤ n ∧ i = .int .i64 k ∧ wr.ownsRow W.heap.size 5 1 v (k * 8) (bs (L.take (k * 8))) ∧ Below W.heap.size W wr) (fun _ _ i _ => n - (intOf i).toNat)
  case atStart => exact ⟨0, by omega, rfl, by simpa [bs] using World.ownsRow_nil _ _ _ _, Below.refl _ _⟩
  case round =>
    obtain ⟨k, hk, rfl, ho, hbel⟩ := hrel
    have hsz := hbel.size
    by_cases hlt : k < n
    · obtain ⟨rb, ro, rfl, hc⟩ := (HR.out.grow hbel).cells k (by simp [rowsP]; omega)
      have hc2 : wr.cell? ⟨rb, ro + k, none⟩ = some (.slice (some ⟨b, off + k * 8, none⟩) 8 8) := by rw [hc]; simp [rowsP, hlt]
      have i0 : (0 : Int) ≤ (k : Int) := by omega
      have i1 : (k : Int) < (n : Int) := by omega
      have CH := hidd (sl_chunk (HB.out.grow hbel) k hlt)
      clear hc
      go_wp2_with (at_builtin; refine wpList_app bT rfl (.tmp 11) (.tmp 12) rfl W.heap.size _ (k * 8) (bs (L.take (k * 8))) rfl ho _ 8 8 (bs (chunk L k)) rfl CH.out (bs_one _) (by omega) (by omega) (by omega) ?_; intro v' w' hown' _ hbel')
      go_roundw
      case rel => exact ⟨k + 1, by omega, by go_num, by rw [← chunk_take L k n HL.out hlt, bs_append, Nat.succ_mul]; exact hown', hbel.trans hbel'⟩
      case measure => simp [intOf]; omega
    · obtain rfl : k = n := by omega
      go_wp2
      obtain ⟨a', c', rfl, _⟩ := own_Sl ho
      go_ret
      exact ⟨_, _, rfl, by rw [List.take_of_length_le (by rw [HL.out]; exact Nat.le_refl _)] at ho; exact ho, hbel⟩
end Go.Proofs.Ytheodlbbalbliaa
