import Derived.Test.YtflmeannmfhhhaaU3
namespace Go.Proofs.Ytflmeannmfhhhaa
open Go.RowKit
theorem get6 (N : Nat) (z : List Int) (hN : N ≤ 1099511627776) (a : Option Addr) (c : Nat) (W : World) (hb : Bs W a 14 c (le6 N ++ zb z)) :
    Calls Try.prog 34 #[.slice a 14 c, .int .i64 0, .int .i64 6] W fun e w' => e = .returned (.tuple #[.int .i64 N, .int .i64 0]) ∧ W = w' := by
  have h := get_yes a 14 c _ 0 6 W hb (by decide) (by decide) (by decide) (by decide)
  have e : num (((le6 N ++ zb z).drop 0).take 6) = N := by
    rw [List.drop_zero, List.take_left' (by unfold le6; rw [le_len])]
    exact num_le 6 N (by have : (256 : Nat) ^ 6 = 281474976710656 := by decide
                         omega)
  rw [e] at h
  exact h
theorem zb_at {N : Nat} {z : List Int} {i s : Nat} (hs : s < 5) (hz : z[i]? = some (s : Int)) : (((le6 N ++ zb z).getD (6 + i) 0).toNat : Int) = (s : Int) := by
  have e : (le6 N ++ zb z).getD (6 + i) 0 = UInt8.ofNat s := by
    rw [List.getD_eq_getElem?_getD, List.getElem?_append_right (by unfold le6; rw [le_len]; omega)]
    have : 6 + i - (le6 N).length = i := by unfold le6; rw [le_len]; omega
    rw [this]
    unfold zb
    rw [List.getElem?_map, hz]
    rfl
  rw [e, UInt8.toNat_ofNat']
  omega
/-- a map of which the first k entries are read -/
def zf (z : List Int) (k : Nat) : List Int := z.take k ++ List.replicate (8 - k) 0
theorem zf_len {z : List Int} {k : Nat} (hz : z.length = 8) (hk : k ≤ 8) : (zf z k).length = 8 := by
  unfold zf
  rw [List.length_append, List.length_take, List.length_replicate]
  omega
theorem zf_set {z : List Int} {k s : Nat} (hz : z.length = 8) (hk : k < 8) (hs : z[k]? = some (s : Int)) (N : Int) : (mpA N (zf z k)).setIfInBounds (1 + k) (.int .i64 (s : Int)) = mpA N (zf z (k + 1)) := by
  have e : (zf z k).set k (s : Int) = zf z (k + 1) := by
    unfold zf
    rw [List.take_add_one, hs, List.set_append_right _ _ (by rw [List.length_take]; omega)]
    have h1 : k - (z.take k).length = 0 := by rw [List.length_take]; omega
    rw [h1, show 8 - k = (8 - (k + 1)) + 1 by omega, List.replicate_succ]
    show z.take k ++ (s : Int) :: _ = _
    rw [List.append_assoc]
    rfl
  rw [List.setIfInBounds_toArray, is_set, Nat.add_comm, ← e]
  rfl
theorem zf_all {z : List Int} (hz : z.length = 8) : zf z 8 = z := by
  unfold zf
  rw [List.take_of_length_le (by omega)]
  simp
set_option maxHeartbeats 4000000 in
theorem read_yes (N : Nat) (z : List Int) (hz : z.length = 8) (hc : chE N z = 0) (a : Option Addr) (c : Nat) (W : World) (hb : Bs W a 14 c (le6 N ++ zb z)) :
    Calls Try.prog 21 #[.slice a 14 c] W fun e w' => e = .returned (.tuple #[.agg (is .i64 (mpL N z)).toArray, .int .i64 0]) ∧ Below W.heap.size W w' := by
  have HZ := hidd hz
  have HR := hidd (ent_range (chE_V hc).2.2)
  have HN := hidd (show N ≤ 1099511627776 by have := (chE_V hc).2.1; omega)
  have H2 := hidd hc
  have HB := hidd hb
  clear hz hc hb
  go_enter Try.func21, Try.ntmps21
  go_wp2_with (first | (go_at_call 34; refine (get6 N z HN.out a c _ (HB.out.grow ((Below.refl _ W).alloc (Nat.le_refl _) _))).mono ?_; rintro e w1 ⟨rfl, rfl⟩))
  go_loopw [16] (fun i wr => ∃ k : Nat, k ≤ 8 ∧ i = .int .i64 k ∧ wr.heap[W.heap.size]? = some (.cells (mpA N (zf z k)) 24 (0, 0)) ∧ Below W.heap.size W wr) (fun i _ => 8 - (intOf i).toNat)
  case atStart => exact ⟨0, by omega, rfl, heap_alloc_last W _, (Below.refl _ W).alloc (Nat.le_refl _) _⟩
  case round =>
    obtain ⟨k, hk, rfl, hg, hbel⟩ := hrel
    have G := hidd hg
    have GB := hidd hbel
    rcases Nat.lt_or_ge k 8 with hlt | hge8
    · obtain ⟨s, hs5, hzs⟩ := ent_at HZ.out HR.out hlt
      obtain ⟨b, off, rfl, hcell⟩ := (HB.out.grow hbel).at (6 + k) (by omega)
      rw [zb_at hs5 hzs] at hcell
      have HS := hidd (zf_set HZ.out hlt hzs N)
      obtain ⟨y, hy⟩ := (show ∃ y, (mpA N (zf z k))[1 + k]? = some (.int .i64 y) from ⟨_, cong1 N (zf z k) k (zf_len HZ.out hk) hlt⟩)
      have c1 := ((blk hg).1 (1 + k)).trans hy
      have c2 := (blk hg).2 (1 + k)
      clear hg hbel hzs hy
      go_wp2
      refine ⟨⟨k + 1, by omega, by push_cast; rfl, (hs_same G.out).trans (by rw [HS.out]), GB.out.setCell (Nat.le_refl _) _⟩, ?_⟩
      simp [intOf]
      omega
    · have hk8 : k = 8 := by omega
      subst hk8
      have HG := hidd (show wr.heap[W.heap.size]? = some (.cells (mpA N z) 24 (0, 0)) by rw [hg, zf_all HZ.out])
      clear hg hbel
      go_wp2_with (first | (with_reducible refine wpList_load_row rfl 24 (.tmp 2) rfl W.heap.size rfl 24 (mpA N z) (0, 0) _ HG.out Try.underlying24 rfl (mp_sz N z HZ.out) ?_) | (go_at_call 11; refine (check_any N z HZ.out _).mono ?_; rintro e w1 ⟨rfl, hb1⟩; rw [H2.out]; have HB1 := hidd hb1; have HG1 := hidd ((blk_below hb1 HG.out (Array.getElem?_eq_some_iff.1 HG.out).1)); clear hb1) | (with_reducible refine wpList_load_row rfl 24 (.tmp 2) rfl W.heap.size rfl 24 (mpA N z) (0, 0) _ HG1.out Try.underlying24 rfl (mp_sz N z HZ.out) ?_) | (with_reducible refine wpList_store_row rfl 24 (.tmp 2) (.tmp 35) rfl W.heap.size (mpA N z) rfl rfl 24 (mpA N z) HG1.out (mp_sz N z HZ.out) rfl (is_one _ _) ?_))
      exact bodyPost_ret (results_cell_one Try.results21 _ _ W.heap.size 24 (mpA N z) (0, 0) _ rfl (setRow_heap _ _ _ _ _ _ HG1.out) Try.underlying24 rfl (mp_sz N z HZ.out)) rfl ⟨rfl, below_setRow (GB.out.trans (HB1.out.mono GB.out.size)) (Nat.le_refl _) _⟩
end Go.Proofs.Ytflmeannmfhhhaa
