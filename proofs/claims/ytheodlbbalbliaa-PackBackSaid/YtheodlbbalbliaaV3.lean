import Derived.Test.YtheodlbbalbliaaV2
namespace Go.Proofs.Ytheodlbbalbliaa
open Go.RowKit
def fillV (m : Nat) (xs : List Value) (z : Value) (k : Nat) : List Value := xs.take k ++ List.replicate (m - k) z
theorem fillV_set (m : Nat) (xs : List Value) (z v : Value) (k : Nat) (hl : xs.length = m) (h : k < m) (hv : xs[k]? = some v) : (fillV m xs z k).set k v = fillV m xs z (k + 1) := by
  have e1 : xs.take (k + 1) = xs.take k ++ [v] := by
    rw [List.take_add_one, hv]
    rfl
  unfold fillV
  rw [show m - k = (m - (k + 1)) + 1 by omega, List.replicate_succ, List.set_append, if_neg (by simp; omega), e1, List.append_assoc]
  rw [show k - (xs.take k).length = 0 by simp; omega]
  rfl
theorem fillV_all (m : Nat) (xs : List Value) (z : Value) (hl : xs.length = m) : fillV m xs z m = xs := by unfold fillV; simp [← hl]
theorem rT : ElT Try.prog 58 22 (.slice none 0 0) 1 24 := ⟨Try.underlying58, by kernel_rfl, rfl, by decide⟩
theorem any_row {w : World} {a : Option Addr} {n c : Nat} {xs : List Value} (h : Sl w a n c 8 xs) : ∃ b off, (0 < n → a = some ⟨b, off, none⟩) ∧ ∀ w', Below w.heap.size w w' → Sl w' (some ⟨b, off, none⟩) n c 8 xs := by
  rcases Nat.eq_zero_or_pos n with h0 | h0
  · subst h0
    have hx : xs = [] := List.eq_nil_of_length_eq_zero (by have := h.len; omega)
    subst hx
    exact ⟨0, 0, fun e => by omega, fun w' _ => ⟨rfl, Nat.zero_le _, h.max, fun e => by simp at e, Cells.nil _ _⟩⟩
  · obtain ⟨b, off, rfl, _⟩ := h.cells 0 (by rw [h.len]; omega)
    exact ⟨b, off, fun _ => rfl, fun w' hb => h.grow hb⟩
theorem madeV (z : Value) (n : Nat) (xs : List Value) : madeCells #[z] n = (fillV n xs z 0).toArray := by
  apply Array.toList_inj.1
  rw [toList_madeCells_one]
  simp [fillV]
theorem fillV_at (m : Nat) (xs : List Value) (z : Value) (k : Nat) (hl : xs.length = m) (h : k < m) : (fillV m xs z k)[k]? = some z := by
  unfold fillV
  rw [List.getElem?_append_right (by simp; omega), List.getElem?_replicate, if_pos (by simp; omega)]
theorem Sl_of_heap {w : World} {g n : Nat} {xs : List Value} {t : TypeId} (hg : w.heap[g]? = some (.cells xs.toArray t (0, 0))) (hl : xs.length = n) (hn : n ≤ 9223372036854775807) : Sl w (some ⟨g, 0, Option.none⟩) n n 1 xs := by
  refine ⟨by omega, Nat.le_refl _, hn, fun e => by simp at e, fun i _ => ⟨g, 0, rfl, ?_⟩⟩
  rw [Nat.zero_add, (blk hg).1, List.getElem?_toArray]
set_option maxHeartbeats 1000000 in
theorem values_any (a : Option Addr) (n c : Nat) (L : List UInt8) (W : World) (hb : Sl W a n c 8 (bs L)) (hn : n ≤ 1000) :
    Calls Try.prog 31 #[.slice a n c] W fun e w' => ∃ a' c', e = .returned (.slice a' (n * 8) c') ∧ w'.ownsRow W.heap.size 5 1 (.slice a' (n * 8) c') (n * 8) (bs L) ∧ Below W.heap.size W w' := by
  obtain ⟨b, off, hab, hbb⟩ := any_row hb
  have HA := hidd hab
  have HBB := hidd hbb
  have hxl : (rowsP b off n).length = n := by simp [rowsP]
  have HX := hidd hxl
  clear hb hab hbb hxl
  go_enter Try.func31, Try.ntmps31
  go_wp2_with (with_reducible refine wpList_make rT rfl (.tmp 6) (.tmp 6) rfl .i64 .i64 _ _ n n rfl rfl rfl rfl (by omega) (by omega) (by omega) ?_)
  go_loopw [4, 10] (fun _ i wr => ∃ k : Nat, k ≤ n ∧ i = .int .i64 k ∧ wr.heap[W.heap.size]? = some (.cells (fillV n (rowsP b off n) (.slice none 0 0) k).toArray 22 (0, 0)) ∧ Below W.heap.size W wr) (fun _ i _ => n - (intOf i).toNat)
  case atStart => exact ⟨0, by omega, rfl, by rw [heap_alloc_last, ← madeV], (Below.refl _ _).alloc (Nat.le_refl _) _⟩
  case round =>
    obtain ⟨k, hk, rfl, hg, hbel⟩ := hrel
    have hsz := hbel.size
    by_cases hlt : k < n
    · obtain rfl := HA.out (by omega)
      have hs := HBB.out wr hbel
      have hlt' := hs.cells.lt _ _ rfl (by intro e0; have := hs.len; rw [e0] at this; simp at this; omega)
      obtain ⟨k1, f1⟩ := blk hg
      have hz : (fillV n (rowsP b off n) (.slice none 0 0) k).length = n := by unfold fillV; simp [HX.out]; omega
      have hk2 : wr.cell? ⟨W.heap.size, 0 + k, none⟩ = some (.slice none 0 0) := by
        rw [k1, Nat.zero_add, List.getElem?_toArray]
        exact fillV_at n _ _ k HX.out hlt
      have i0 : (0 : Int) ≤ (k : Int) := by omega
      have i1 : (k : Int) < (n : Int) := by omega
      have G := hidd (And.intro hg hbel)
      clear hg hbel hs
      go_wp2
      obtain ⟨hg, hbel⟩ := G.out
      refine ⟨⟨k + 1, by omega, by go_num, ?_, hbel.setCell (Nat.le_refl _) _⟩, by simp [intOf]; omega⟩
      rw [hs_same hg, List.setIfInBounds_toArray, fillV_set n _ _ _ k HX.out hlt (by simp [rowsP, hlt])]
    · obtain rfl : k = n := by omega
      rw [fillV_all k _ _ HX.out] at hg
      have G := hidd (And.intro (Sl_of_heap hg HX.out (by omega)) (And.intro (HBB.out wr hbel) hbel))
      clear hg hbel
      go_wp2_with fail
      refine (all_any _ _ b off k c L wr G.out.1 G.out.2.1 hn).mono ?_
      rintro e w2 ⟨a2, c2, rfl, ho, hb2⟩
      obtain ⟨_, _, hbel⟩ := G.out
      go_wp2
      go_ret
      exact ⟨_, _, rfl, own_mono ho hbel.size, hbel.trans (hb2.mono hbel.size)⟩
end Go.Proofs.Ytheodlbbalbliaa
