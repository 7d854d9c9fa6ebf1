import Derived.Test.YtflmeannmfhhhaaS6
namespace Go.Proofs.Ytflmeannmfhhhaa
open Go.RowKit
/-- is a block's place this one? -/
def plB (V : Int) (z : List Int) (s k : Int) (b : Nat) : Bool := plE V z b == (s, k, 0)
/-- stripe.Block -/
def blE (V : Int) (z : List Int) (s k : Int) : Int × Int :=
  if chE V z ≠ 0 then (0, 2) else match (List.range 32).find? (plB V z s k) with
    | some b => ((b : Int), 0)
    | none => (0, 4)
theorem blE_some {V : Int} {z : List Int} {s k : Int} {b : Nat} (hc : chE V z = 0) (hb : b < 32) (h : plB V z s k b = true) (hn : ∀ j, j < b → plB V z s k j = false) : blE V z s k = ((b : Int), 0) := by
  unfold blE
  rw [if_neg (by simpa using hc), List.find?_range_eq_some.2 ⟨h, List.mem_range.2 hb, fun j hj => by rw [hn j hj]; rfl⟩]
theorem blE_none {V : Int} {z : List Int} {s k : Int} (hc : chE V z = 0) (hn : ∀ j, j < 32 → plB V z s k j = false) : blE V z s k = (0, 4) := by
  unfold blE
  rw [if_neg (by simpa using hc), List.find?_range_eq_none.2 (fun j hj => by rw [hn j hj]; rfl)]
theorem upto_succ {f : Nat → Bool} {b : Nat} (h : ∀ j, j < b → f j = false) (hb : f b = false) : ∀ j, j < b + 1 → f j = false := by
  intro j hj
  rcases Nat.lt_succ_iff_lt_or_eq.1 hj with h1 | h1
  · exact h j h1
  · rw [h1]; exact hb
set_option maxHeartbeats 4000000 in
theorem block_any (V : Int) (z : List Int) (s k : Int) (hz : z.length = 8) (W : World) :
    Calls Try.prog 19 #[.agg (is .i64 (mpL V z)).toArray, .int .i64 s, .int .i64 k] W fun e w' => e = .returned (.tuple #[.int .i64 (blE V z s k).1, .int .i64 (blE V z s k).2]) ∧ Below W.heap.size W w' := by
  have HZ := hidd hz
  have HG := hidd (heap_alloc_last W (.cells (mpA V z) 24))
  clear hz
  by_cases hc : chE V z = 0
  · have H2 := hidd hc
    clear hc
    go_enter Try.func19, Try.ntmps19
    go_wp2_with (first | (with_reducible refine wpList_load_row rfl 24 (.tmp 3) rfl W.heap.size rfl 24 (mpA V z) (0, 0) _ HG.out Try.underlying24 rfl (mp_sz V z HZ.out) ?_) | (go_at_call 11; refine (check_any V z HZ.out _).mono ?_; rintro e w1 ⟨rfl, hb1⟩; rw [H2.out]; have HB1 := hidd hb1; have HG1 := hidd ((blk_below hb1 HG.out (by simp))); clear hb1))
    go_loopw [18] (fun i wr => ∃ b : Nat, b ≤ 32 ∧ i = .int .i64 b ∧ (∀ j, j < b → plB V z s k j = false) ∧ wr.heap[W.heap.size]? = some (.cells (mpA V z) 24 (0, 0)) ∧ Below W.heap.size W wr) (fun i _ => 32 - (intOf i).toNat)
    case atStart => exact ⟨0, by omega, rfl, fun j hj => by omega, HG1.out, ((Below.refl _ W).alloc (Nat.le_refl _) _).trans (HB1.out.mono (by simp))⟩
    case round =>
      obtain ⟨b, hb, rfl, hn, hg, hbl⟩ := hrel
      have HN := hidd hn
      have G := hidd hg
      have HB := hidd hbl
      clear hn hg hbl
      rcases Nat.lt_or_ge b 32 with hlt | hge
      · obtain ⟨s', k', e', hp⟩ : ∃ s' k' e', plE V z b = (s', k', e') := ⟨_, _, _, rfl⟩
        have HP := hidd hp
        cases h0 : (e' == 0)
        · have HF := hidd (show plB V z s k b = false by unfold plB; rw [hp]; show (s' == s && (k' == k && e' == 0)) = false; rw [h0]; simp)
          clear hp
          go_wp2_with (first | (with_reducible refine wpList_load_row rfl 24 (.tmp 3) rfl W.heap.size rfl 24 (mpA V z) (0, 0) _ G.out Try.underlying24 rfl (mp_sz V z HZ.out) ?_) | (go_at_call 10; refine (place_any V z b HZ.out _).mono ?_; rintro e w2 ⟨rfl, hb2⟩; rw [HP.out]; have HB2 := hidd hb2; clear hb2))
          refine ⟨⟨b + 1, by omega, by push_cast; rfl, upto_succ HN.out HF.out, blk_below HB2.out G.out (Array.getElem?_eq_some_iff.1 G.out).1, HB.out.trans (HB2.out.mono HB.out.size)⟩, ?_⟩
          simp [intOf]
          omega
        · cases h1 : (s' == s)
          · have HF := hidd (show plB V z s k b = false by unfold plB; rw [hp]; show (s' == s && (k' == k && e' == 0)) = false; rw [h1]; simp)
            clear hp
            go_wp2_with (first | (with_reducible refine wpList_load_row rfl 24 (.tmp 3) rfl W.heap.size rfl 24 (mpA V z) (0, 0) _ G.out Try.underlying24 rfl (mp_sz V z HZ.out) ?_) | (go_at_call 10; refine (place_any V z b HZ.out _).mono ?_; rintro e w2 ⟨rfl, hb2⟩; rw [HP.out]; have HB2 := hidd hb2; clear hb2))
            refine ⟨⟨b + 1, by omega, by push_cast; rfl, upto_succ HN.out HF.out, blk_below HB2.out G.out (Array.getElem?_eq_some_iff.1 G.out).1, HB.out.trans (HB2.out.mono HB.out.size)⟩, ?_⟩
            simp [intOf]
            omega
          · cases h2 : (k' == k)
            · have HF := hidd (show plB V z s k b = false by unfold plB; rw [hp]; show (s' == s && (k' == k && e' == 0)) = false; rw [h2]; simp)
              clear hp
              go_wp2_with (first | (with_reducible refine wpList_load_row rfl 24 (.tmp 3) rfl W.heap.size rfl 24 (mpA V z) (0, 0) _ G.out Try.underlying24 rfl (mp_sz V z HZ.out) ?_) | (go_at_call 10; refine (place_any V z b HZ.out _).mono ?_; rintro e w2 ⟨rfl, hb2⟩; rw [HP.out]; have HB2 := hidd hb2; clear hb2))
              refine ⟨⟨b + 1, by omega, by push_cast; rfl, upto_succ HN.out HF.out, blk_below HB2.out G.out (Array.getElem?_eq_some_iff.1 G.out).1, HB.out.trans (HB2.out.mono HB.out.size)⟩, ?_⟩
              simp [intOf]
              omega
            · have HF := hidd (show plB V z s k b = true by unfold plB; rw [hp]; show (s' == s && (k' == k && e' == 0)) = true; rw [h0, h1, h2]; simp)
              clear hp
              go_wp2_with (first | (with_reducible refine wpList_load_row rfl 24 (.tmp 3) rfl W.heap.size rfl 24 (mpA V z) (0, 0) _ G.out Try.underlying24 rfl (mp_sz V z HZ.out) ?_) | (go_at_call 10; refine (place_any V z b HZ.out _).mono ?_; rintro e w2 ⟨rfl, hb2⟩; rw [HP.out]; have HB2 := hidd hb2; clear hb2))
              exact bodyPost_ret (results_tmp2 Try.results19 _ Try.prog _) rfl ⟨by rw [blE_some H2.out hlt HF.out HN.out]; rfl, HB.out.trans (HB2.out.mono HB.out.size)⟩
      · have hb32 : b = 32 := by omega
        subst hb32
        go_wp2
        exact bodyPost_ret (results_tmp2 Try.results19 _ Try.prog _) rfl ⟨by rw [blE_none H2.out HN.out]; rfl, HB.out⟩
  · have HE := hidd (show blE V z s k = (0, 2) by unfold blE; rw [if_pos hc])
    have h2 : chE V z = 2 := by unfold chE at hc ⊢; split <;> simp_all
    have H2 := hidd h2
    clear hc h2
    go_enter Try.func19, Try.ntmps19
    go_wp2_with (first | (with_reducible refine wpList_load_row rfl 24 (.tmp 3) rfl W.heap.size rfl 24 (mpA V z) (0, 0) _ HG.out Try.underlying24 rfl (mp_sz V z HZ.out) ?_) | (go_at_call 11; refine (check_any V z HZ.out _).mono ?_; rintro e w1 ⟨rfl, hb1⟩; rw [H2.out]; have HB1 := hidd hb1; clear hb1))
    exact bodyPost_ret (results_tmp2 Try.results19 _ Try.prog _) rfl ⟨by rw [HE.out]; rfl, ((Below.refl _ W).alloc (Nat.le_refl _) _).trans (HB1.out.mono (by simp))⟩
end Go.Proofs.Ytflmeannmfhhhaa
