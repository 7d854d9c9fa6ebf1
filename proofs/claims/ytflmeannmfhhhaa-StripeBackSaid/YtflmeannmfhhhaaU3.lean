import Derived.Test.YtflmeannmfhhhaaU2
namespace Go.Proofs.Ytflmeannmfhhhaa
open Go.RowKit
/-- a map's entries as bytes -/
def zb (z : List Int) : List UInt8 := z.map fun s => UInt8.ofNat s.toNat
theorem bs_zb {z : List Int} {k s : Nat} (hs : s < 5) (hz : z[k]? = some (s : Int)) (l : List UInt8) : bs (l ++ zb (z.take (k + 1))) = bs (l ++ zb (z.take k)) ++ [Value.int .u8 (s : Int)] := by
  rw [List.take_add_one, hz]
  unfold zb
  show bs (l ++ (z.take k ++ [(s : Int)]).map _) = _
  rw [List.map_append, ← List.append_assoc, bs_append]
  congr 1
  show [Value.int .u8 ((UInt8.ofNat (s : Int).toNat).toNat : Int)] = _
  rw [Int.toNat_natCast, UInt8.toNat_ofNat']
  have : s % 2 ^ 8 = s := by omega
  rw [this]
theorem fits6 {V : Int} (h0 : 0 ≤ V) (h1 : V ≤ 1099511627776) : ∃ N : Nat, V = N ∧ fits (N : Int) ((6 : Nat) : Int) = true ∧ N ≤ 1099511627776 := by
  refine ⟨V.toNat, by omega, ?_, by omega⟩
  unfold fits
  simp
  omega
theorem ent_at {z : List Int} (hz : z.length = 8) (hr : ∀ s ∈ z, 0 ≤ s ∧ s ≤ 4) {k : Nat} (h : k < 8) : ∃ s : Nat, s < 5 ∧ z[k]? = some (s : Int) := by
  have hl : k < z.length := by omega
  have := hr z[k] (List.getElem_mem hl)
  exact ⟨z[k].toNat, by omega, by rw [List.getElem?_eq_getElem hl]; congr 1; omega⟩
/-- a number's six bytes -/
def le6 (N : Nat) : List UInt8 := le 6 N
theorem put6 (N : Nat) (h : N ≤ 1099511627776) (W : World) :
    Calls Try.prog 33 #[.slice none 0 0, .int .i64 N, .int .i64 6] W fun e w' => ∃ a c, e = .returned (.tuple #[.slice a 6 c, .int .i64 0]) ∧ w'.ownsRow W.heap.size 5 1 (.slice a 6 c) 6 (bs (le6 N)) ∧ Below W.heap.size W w' := by
  have hf : fits (N : Int) ((6 : Nat) : Int) = true := by unfold fits; simp; omega
  have h := put_yes none 0 0 [] N 6 W (Sl.none W 1) (by decide) hf
  refine h.mono ?_
  rintro e w' ⟨a, c, rfl, ho, hb⟩
  rw [List.nil_append] at ho
  exact ⟨a, c, rfl, ho, hb⟩
set_option maxHeartbeats 4000000 in
theorem bytes_yes (N : Nat) (z : List Int) (hz : z.length = 8) (hc : chE N z = 0) (W : World) :
    Calls Try.prog 20 #[.agg (is .i64 (mpL N z)).toArray] W fun e w' => ∃ a c, e = .returned (.tuple #[.slice a 14 c, .int .i64 0]) ∧ Bs w' a 14 c (le6 N ++ zb z) ∧ Below W.heap.size W w' := by
  have HZ := hidd hz
  have HG := hidd (heap_alloc_last W (.cells (mpA N z) 24))
  have HR := hidd (ent_range (chE_V hc).2.2)
  have HN := hidd (show N ≤ 1099511627776 by have := (chE_V hc).2.1; omega)
  have H2 := hidd hc
  clear hz hc
  go_enter Try.func20, Try.ntmps20
  go_wp2_with (first | (with_reducible refine wpList_load_row rfl 24 (.tmp 1) rfl W.heap.size rfl 24 (mpA N z) (0, 0) _ HG.out Try.underlying24 rfl (mp_sz N z HZ.out) ?_) | (go_at_call 11; refine (check_any N z HZ.out _).mono ?_; rintro e w1 ⟨rfl, hb1⟩; rw [H2.out]; have HB1 := hidd (((Below.refl _ W).alloc (Nat.le_refl _) _).trans (hb1.mono (by simp))); have HG1 := hidd ((blk_below hb1 HG.out (by simp))); have d := cells9 HZ.out HG1.out; have c0 := ((blk HG1.out).1 0).trans (show (mpA N z)[0]? = some (.int .i64 N) from rfl); obtain ⟨d1, d2, d3, d4, d5, d6, d7, d8⟩ := d; clear hb1) | (go_at_call 33; refine (put6 N HN.out w1).mono ?_; rintro e w2 ⟨a, c, rfl, hown, hb2⟩; have HO := hidd hown; have HS := hidd hb2.size; have HB2 := hidd (HB1.out.trans (hb2.mono HB1.out.size)); have HG2 := hidd (blk_below hb2 HG1.out (Array.getElem?_eq_some_iff.1 HG1.out).1); clear hown hb2 d1 d2 d3 d4 d5 d6 d7 d8 c0; have d := cells9 HZ.out HG2.out; obtain ⟨d1, d2, d3, d4, d5, d6, d7, d8⟩ := d))
  clear d1 d2 d3 d4 d5 d6 d7 d8
  go_loopw [5, 22] (fun v i wr => ∃ k : Nat, k ≤ 8 ∧ i = .int .i64 k ∧ wr.ownsRow w1.heap.size 5 1 v (6 + k) (bs (le6 N ++ zb (z.take k))) ∧ Below W.heap.size W wr ∧ w1.heap.size ≤ wr.heap.size) (fun _ i _ => 8 - (intOf i).toNat)
  case atStart =>
    have h := HO.out
    refine ⟨0, by omega, rfl, ?_, HB2.out, HS.out⟩
    have e : zb (z.take 0) = [] := rfl
    rw [e, List.append_nil]
    exact h
  case round =>
    obtain ⟨k, hk, rfl, ho, hbel, hge⟩ := hrel
    have HO2 := hidd ho
    have GB := hidd hbel
    have GG := hidd hge
    rcases Nat.lt_or_ge k 8 with hlt | hge8
    · clear ho hbel hge
      obtain ⟨s, hs5, hzs⟩ := ent_at HZ.out HR.out hlt
      have HZS := hidd hzs
      have ix := idx8 z HZ.out k hlt s hzs
      obtain ⟨x, hx⟩ : ∃ x : Int, (s : Int) = x := ⟨_, rfl⟩
      rw [hx] at ix
      have HX := hidd hx
      have HS5 := hidd hs5
      have x0 : 0 ≤ x := by omega
      have x1 : x < 256 := by omega
      clear hzs hx hs5
      go_wp2_with (first | (at_builtin; refine wpList_app bT rfl (.tmp 25) (.tmp 28) rfl w1.heap.size _ (6 + k) (bs (le6 N ++ zb (z.take k))) rfl (HO2.out.alloc _) _ 1 1 _ rfl (Sl.fresh wr [_] 5 1 1 rfl (by decide)) (one_int _ _) (by omega) (by omega) (by have := GG.out; simp; omega) ?_; intro v' w' hown' hge' hbel'))
      refine ⟨⟨k + 1, by omega, by push_cast; rfl, ?_, ?_, ?_⟩, ?_⟩
      · rw [bs_zb HS5.out HZS.out, HX.out, ← Nat.add_assoc]
        exact hown'
      · exact (GB.out.alloc GB.out.size _).trans (hbel'.mono HB1.out.size)
      · have := GG.out
        have h2 := hbel'.size
        simp at h2
        omega
      · simp [intOf]
        omega
    · have hk8 : k = 8 := by omega
      subst hk8
      obtain ⟨a', c', rfl, hs⟩ := own_Sl ho
      clear ho hbel hge
      rw [List.take_of_length_le (by rw [HZ.out]; exact Nat.le_refl _)] at hs
      have HSL := hidd hs
      clear hs
      go_wp2
      go_ret2
      exact ⟨_, _, rfl, HSL.out, GB.out⟩
end Go.Proofs.Ytflmeannmfhhhaa
