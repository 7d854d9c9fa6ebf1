import Derived.Test.YtdoicmjomlaoaaaMJ
namespace Go.Proofs.Ytdoicmjomlaoaaa
open Go.RowKit
/-- blocks that are set, as cells -/
def mkA (f : Nat → Bool) : Array Value := ((List.range 32).map fun i => Value.bool (f i)).toArray
theorem mkA_at (f : Nat → Bool) (k : Nat) (hk : k < 32) : (mkA f)[k]? = some (.bool (f k)) := by
  unfold mkA
  rw [List.getElem?_toArray, List.getElem?_map, List.getElem?_range hk]
  rfl
theorem mkA_set (f : Nat → Bool) (k : Nat) (hk : k < 32) (b : Bool) : (mkA f).setIfInBounds k (.bool b) = mkA (fun j => if j = k then b else f j) := by
  unfold mkA
  rw [List.setIfInBounds_toArray]
  congr 1
  apply List.ext_getElem?
  intro i
  rcases Nat.lt_or_ge i 32 with hi | hi
  · by_cases e : i = k
    · subst e
      rw [List.getElem?_set_self (by simpa using hi), List.getElem?_map, List.getElem?_range hi]
      simp
    · rw [List.getElem?_set_ne (fun x => e x.symm), List.getElem?_map, List.getElem?_map, List.getElem?_range hi]
      simp [e]
  · rw [List.getElem?_eq_none (by simpa using hi), List.getElem?_eq_none (by simpa using hi)]
theorem mkA_sz (f : Nat → Bool) : (Try.prog.info? 71).map (·.size) = some (mkA f).size := by
  unfold mkA
  rw [List.size_toArray, List.length_map, List.length_range]
  kernel_rfl
theorem mkA_size (f g : Nat → Bool) : (mkA f).size = (mkA g).size := by
  unfold mkA
  rw [List.size_toArray, List.size_toArray, List.length_map, List.length_map]
theorem mkA_one (f : Nat → Bool) : (mkA f).all (·.oneCell') = true := by
  rw [Array.all_eq_true_iff_forall_mem]
  intro v hv
  unfold mkA at hv
  simp at hv
  obtain ⟨a, _, rfl⟩ := hv
  rfl
theorem zero71 (w : World) : (zeroValue 71).run Try.prog w = .ok (.agg (mkA fun _ => false)) w := by kernel_rfl
/-- the blocks of a row of numbers -/
def inB (l : List Int) (k : Nat) : Bool := l.any (· == (k : Int))
set_option maxHeartbeats 4000000 in
theorem marks_any (a : Option Addr) (n c : Nat) (l : List Int) (W : World) (hs : Sl W a n c 1 (is .i64 l)) (hr : ∀ x ∈ l, 0 ≤ x ∧ x < 32) (hn : n ≤ 1000) :
    Calls Try.prog 32 #[.slice a n c] W fun e w' => e = .returned (.agg (mkA (inB l))) ∧ Below W.heap.size W w' := by
  have HS := hidd hs
  have HL := hidd (show l.length = n by have := hs.len; rw [is_len] at this; omega)
  have HR := hidd hr
  have zv := zero71
  clear hs hr
  go_enter Try.func32, Try.ntmps32
  go_wp2
  clear zv
  go_loopw [7] (fun i wr => ∃ k : Nat, k ≤ n ∧ i = .int .i64 k ∧ wr.heap[W.heap.size]? = some (.cells (mkA (inB (l.take k))) 71 (0, 0)) ∧ Below W.heap.size W wr) (fun i _ => n - (intOf i).toNat)
  case atStart => exact ⟨0, by omega, rfl, ha_new W _, (Below.refl _ W).alloc (Nat.le_refl _) _⟩
  case round =>
    obtain ⟨k, hk, rfl, hg, hbel⟩ := hrel
    have G := hidd hg
    have GB := hidd hbel
    rcases Nat.lt_or_ge k n with hlt | hge
    · obtain ⟨x, hx⟩ : ∃ x, l[k]? = some x := ⟨_, List.getElem?_eq_getElem (by rw [HL.out]; exact hlt)⟩
      have hxr := HR.out x (List.mem_of_getElem? hx)
      obtain ⟨kk, rfl⟩ : ∃ kk : Nat, x = kk := ⟨x.toNat, by omega⟩
      obtain ⟨b, off, e, cc⟩ := (HS.out.grow hbel).cells k (by rw [is_len, HL.out]; exact hlt)
      subst e
      have c0 : wr.cell? ⟨b, off + k, none⟩ = some (.int .i64 (kk : Int)) := by
        rw [cc]
        unfold is
        rw [List.getElem?_map, hx]
        rfl
      have c1 := ((blk hg).1 kk).trans (mkA_at _ kk (by omega))
      have c2 := (blk hg).2 kk
      have i0 : (0 : Int) ≤ (k : Int) := by omega
      have i1 : (k : Int) < (n : Int) := by omega
      have i2 := hxr.1
      have i3 := hxr.2
      have HE := hidd (show (mkA (inB (l.take k))).setIfInBounds kk (.bool true) = mkA (inB (l.take (k + 1))) by
        rw [mkA_set _ kk (by omega)]
        congr 1
        funext j
        unfold inB
        rw [List.take_add_one, hx, List.any_append]
        by_cases hj : j = kk
        · subst hj
          simp
        · have : ¬ (kk : Int) = (j : Int) := by omega
          simp [hj, this])
      clear hg hbel cc hx hxr
      go_wp2
      refine ⟨⟨k + 1, by omega, by push_cast; rfl, (hs_same G.out).trans (by rw [HE.out]), GB.out.setCell (Nat.le_refl _) _⟩, ?_⟩
      simp [intOf]
      omega
    · have hkn : k = n := by omega
      subst hkn
      rw [List.take_of_length_le (by rw [HL.out]; exact Nat.le_refl _)] at hg
      have G2 := hidd hg
      clear hg hbel
      go_wp2_with (first | (with_reducible refine wpList_load_row rfl 71 (.tmp 2) rfl W.heap.size rfl 71 (mkA (inB l)) (0, 0) _ G2.out Try.underlying71 rfl (mkA_sz _) ?_) | (with_reducible refine wpList_store_row rfl 71 (.tmp 2) (.tmp 14) rfl W.heap.size (mkA (inB l)) rfl rfl 71 (mkA (inB l)) G2.out (mkA_sz _) rfl (mkA_one _) ?_))
      exact bodyPost_ret (results_cell_row Try.results32 _ _ W.heap.size 71 (mkA (inB l)) (0, 0) _ rfl (setRow_heap _ _ _ _ _ _ G2.out) Try.underlying71 rfl (mkA_sz _)) rfl ⟨rfl, below_setRow GB.out (Nat.le_refl _) _⟩
end Go.Proofs.Ytdoicmjomlaoaaa
