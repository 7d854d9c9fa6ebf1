import Derived.Test.YtdoicmjomlaoaaaO8
namespace Go.Proofs.Ytdoicmjomlaoaaa
open Go.RowKit
abbrev z24 : Array Value := #[.int .u8 0, .int .u8 0, .int .u8 0, .int .u8 0, .int .u8 0, .int .u8 0, .int .u8 0, .int .u8 0]
abbrev a24 (b0 b1 b2 b3 b4 b5 b6 b7 : UInt8) : Array Value := #[.int .u8 (b0.toNat : Int), .int .u8 (b1.toNat : Int), .int .u8 (b2.toNat : Int), .int .u8 (b3.toNat : Int), .int .u8 (b4.toNat : Int), .int .u8 (b5.toNat : Int), .int .u8 (b6.toNat : Int), .int .u8 (b7.toNat : Int)]
theorem z24_sz : (Try.prog.info? 24).map (·.size) = some z24.size := by kernel_rfl
theorem a24_sz (b0 b1 b2 b3 b4 b5 b6 b7 : UInt8) : (Try.prog.info? 24).map (·.size) = some (a24 b0 b1 b2 b3 b4 b5 b6 b7).size := by kernel_rfl
theorem a24_one (b0 b1 b2 b3 b4 b5 b6 b7 : UInt8) : (a24 b0 b1 b2 b3 b4 b5 b6 b7).all (·.oneCell') = true := by
  rw [Array.all_eq_true_iff_forall_mem]
  intro v hv
  exact bs_one [b0, b1, b2, b3, b4, b5, b6, b7] v (by simpa [bs] using hv)
theorem z24_one : z24.all (·.oneCell') = true := a24_one 0 0 0 0 0 0 0 0
def gtV (key : Int) (l : List Wr) : List UInt8 := match fiK key l with
  | some k => (l.getD k (0, [])).2
  | none => [0, 0, 0, 0, 0, 0, 0, 0]
def gtB (key : Int) (l : List Wr) : Bool := (fiK key l).isSome
theorem fiK_at (key : Int) : ∀ (l : List Wr) (k : Nat), fiK key l = some k → ∃ p, l[k]? = some p ∧ p.1 = key
  | [], k, h => by simp [fiK] at h
  | p :: r, k, h => by
    simp only [fiK] at h
    split at h
    · rename_i hp
      injection h with h
      subst h
      exact ⟨p, rfl, hp⟩
    · cases hr : fiK key r with
      | none => rw [hr] at h; cases h
      | some j =>
        rw [hr] at h
        injection h with h
        subst h
        obtain ⟨q, h1, h2⟩ := fiK_at key r j hr
        exact ⟨q, by simpa using h1, h2⟩
set_option maxRecDepth 100000 in
set_option maxHeartbeats 2000000 in
theorem get_no (a : Option Addr) (n c : Nat) (l : List Wr) (key : Int) (W : World) (hs : Sl W a n c 9 (wcs l)) (h8 : W8 l) (hn : n ≤ 1000) (hf : fiK key l = none) :
    Calls Try.prog 10 #[.slice a n c, .int .i64 key] W fun e w' => e = .returned (.tuple #[.agg z24, .bool false]) ∧ Below W.heap.size W w' := by
  have HS := hidd hs
  have H8 := hidd h8
  have HIX := hidd (show ixK key l = -1 by unfold ixK; rw [hf])
  clear hs h8 hf
  go_enter Try.func10, Try.ntmps10
  go_wp2_with fail
  refine (index_any a n c l key W.heap.size _ (HS.out.grow (((Below.refl _ W).alloc (Nat.le_refl _) _).alloc (by simp) _)) H8.out hn (by rw [cell_of_row _ _ 0 _ _ _ (heap_alloc2_old W _ _)]; rfl)).mono ?_
  rintro e w1 ⟨rfl, hb1⟩
  rw [HIX.out]
  have G1 := hidd (blk_below hb1 (heap_alloc2_new W _ _) (by simp))
  have HB := hidd ((((Below.refl _ W).alloc (Nat.le_refl _) (.cells #[.int .i64 key] 3)).alloc (by simp) (.cells z24 24)).trans (hb1.mono (by simp; omega)))
  clear hb1
  go_wp2_with (first | (with_reducible refine wpList_load_row rfl 24 (.tmp 4) rfl (W.heap.size + 1) rfl 24 z24 (0, 0) _ G1.out Try.underlying24 rfl z24_sz ?_) | (with_reducible refine wpList_store_row rfl 24 (.tmp 4) (.tmp 12) rfl (W.heap.size + 1) z24 rfl rfl 24 z24 G1.out z24_sz rfl z24_one ?_))
  refine bodyPost_ret (results_cell_one Try.results10 _ _ (W.heap.size + 1) 24 z24 (0, 0) _ rfl (setRow_heap _ _ _ _ _ _ G1.out) Try.underlying24 rfl z24_sz) rfl ⟨rfl, below_setRow HB.out (by omega) _⟩
set_option maxRecDepth 100000 in
set_option maxHeartbeats 2000000 in
theorem get_yes (a : Option Addr) (n c : Nat) (l : List Wr) (key : Int) (k : Nat) (W : World) (hs : Sl W a n c 9 (wcs l)) (h8 : W8 l) (hn : n ≤ 1000) (hf : fiK key l = some k) :
    Calls Try.prog 10 #[.slice a n c, .int .i64 key] W fun e w' => e = .returned (.tuple #[.agg (bs (l.getD k (0, [])).2).toArray, .bool true]) ∧ Below W.heap.size W w' := by
  have HS := hidd hs
  have H8 := hidd h8
  have HIX := hidd (show ixK key l = (k : Int) by unfold ixK; rw [hf])
  obtain ⟨p0, hp0, _⟩ := fiK_at key l k hf
  have hkn : k < n := by
    have := (List.getElem?_eq_some_iff.1 hp0).1
    have h2 := hs.len
    rw [wcs_len h8] at h2
    omega
  have hp08 : p0.2.length = 8 := h8 _ (List.mem_of_getElem? hp0)
  obtain ⟨B, b0, b1, b2, b3, b4, b5, b6, b7, rfl⟩ := wr8 hp08
  have hgd : l.getD k (0, []) = (B, [b0, b1, b2, b3, b4, b5, b6, b7]) := by rw [List.getD_eq_getElem?_getD, hp0]; rfl
  rw [hgd, show (bs (B, [b0, b1, b2, b3, b4, b5, b6, b7]).2).toArray = a24 b0 b1 b2 b3 b4 b5 b6 b7 from rfl]
  have HP0 := hidd hp0
  clear hs h8 hf hp0 hgd hp08
  go_enter Try.func10, Try.ntmps10
  go_wp2_with fail
  refine (index_any a n c l key W.heap.size _ (HS.out.grow (((Below.refl _ W).alloc (Nat.le_refl _) _).alloc (by simp) _)) H8.out hn (by rw [cell_of_row _ _ 0 _ _ _ (heap_alloc2_old W _ _)]; rfl)).mono ?_
  rintro e w1 ⟨rfl, hb1⟩
  rw [HIX.out]
  have G1 := hidd (blk_below hb1 (heap_alloc2_new W _ _) (by simp))
  have HB := hidd ((((Below.refl _ W).alloc (Nat.le_refl _) (.cells #[.int .i64 key] 3)).alloc (by simp) (.cells z24 24)).trans (hb1.mono (by simp; omega)))
  obtain ⟨b, off, p, rfl, hp, hp8, hcc⟩ := wr_at (HS.out.grow HB.out) H8.out k hkn
  rw [HP0.out] at hp
  injection hp with hp
  subst hp
  obtain ⟨c0, c1, c2, c3, c4, c5, c6, c7, c8⟩ := wr_cells hcc
  have i0 : (0 : Int) ≤ (k : Int) := by omega
  have i1 : (k : Int) < (n : Int) := by omega
  clear hb1 hp8 hcc
  go_wp2_with (with_reducible refine wpList_store_row rfl 24 (.tmp 4) (.tmp 17) rfl (W.heap.size + 1) (a24 b0 b1 b2 b3 b4 b5 b6 b7) rfl rfl 24 z24 G1.out (a24_sz b0 b1 b2 b3 b4 b5 b6 b7) rfl (a24_one b0 b1 b2 b3 b4 b5 b6 b7) ?_)
  refine bodyPost_ret (results_cell_one Try.results10 _ _ (W.heap.size + 1) 24 (a24 b0 b1 b2 b3 b4 b5 b6 b7) (0, 0) _ rfl (setRow_heap _ _ _ _ _ _ G1.out) Try.underlying24 rfl (a24_sz b0 b1 b2 b3 b4 b5 b6 b7)) rfl ⟨rfl, below_setRow HB.out (by omega) _⟩
theorem get_any (a : Option Addr) (n c : Nat) (l : List Wr) (key : Int) (W : World) (hs : Sl W a n c 9 (wcs l)) (h8 : W8 l) (hn : n ≤ 1000) :
    Calls Try.prog 10 #[.slice a n c, .int .i64 key] W fun e w' => e = .returned (.tuple #[.agg (bs (gtV key l)).toArray, .bool (gtB key l)]) ∧ Below W.heap.size W w' := by
  unfold gtV gtB
  cases hf : fiK key l with
  | none => exact get_no a n c l key W hs h8 hn hf
  | some k => exact get_yes a n c l key k W hs h8 hn hf
end Go.Proofs.Ytdoicmjomlaoaaa
