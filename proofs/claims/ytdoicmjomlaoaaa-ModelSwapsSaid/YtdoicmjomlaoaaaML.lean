import Derived.Test.YtdoicmjomlaoaaaMK
namespace Go.Proofs.Ytdoicmjomlaoaaa
open Go.RowKit
theorem part4 (w : World) (f : Nat → Bool) (i : Nat) (hi : i < 32) : (part 4 (mkA f) (i * 1)).run Try.prog w = .ok (.bool (f i)) w := by
  have h := mkA_at f i hi
  simp [part, isAgg, run_underlying Try.underlying4, h]
theorem eq71 (w : World) (f g : Nat → Bool) : (Op.equalIn 10000 71 (.agg (mkA f)) (.agg (mkA g))).run Try.prog w = .ok ((List.range 32).all fun i => f i == g i) w :=
  run_eqIn_array (P := Try.prog) w 9999 71 4 32 1 Try.underlying71 (by kernel_rfl) (mkA f) (mkA g) (fun i => .bool (f i)) (fun i => .bool (g i)) (fun i => f i == g i) (fun i hi => part4 w f i hi) (fun i hi => part4 w g i hi) (fun i hi => run_equalIn_bool' w 9998 4 (f i) (g i) Try.underlying4)
/-- do two rows of blocks meet? -/
def meetB (f g : Nat → Bool) : Bool := !((List.range 32).all fun i => (f i && g i) == false)
theorem al2' {W w1 w2 : World} {f : Nat → Bool} (hb1 : Below W.heap.size W w1) (hb2 : Below w1.heap.size w1 w2) :
    (((w2.alloc (.cells (mkA fun _ => false) 71)).alloc (.cells (mkA fun _ => false) 71)).setRow w2.heap.size (mkA f)).heap[w2.heap.size]? = some (.cells (mkA f) 71 (0, 0)) ∧
    (((w2.alloc (.cells (mkA fun _ => false) 71)).alloc (.cells (mkA fun _ => false) 71)).setRow w2.heap.size (mkA f)).heap[w2.heap.size + 1]? = some (.cells (mkA fun _ => false) 71 (0, 0)) ∧
    Below W.heap.size W (((w2.alloc (.cells (mkA fun _ => false) 71)).alloc (.cells (mkA fun _ => false) 71)).setRow w2.heap.size (mkA f)) := by
  have q := al2 w2 (.cells (mkA fun _ => false) 71) (.cells (mkA fun _ => false) 71)
  have hb := hb1.trans (hb2.mono hb1.size)
  exact ⟨setRow_heap _ _ _ _ _ _ q.1, (setRow_other _ _ _ _ (by omega)).trans q.2, below_setRow ((hb.alloc hb.size _).alloc (by simp; have := hb.size; omega) _) hb.size _⟩
theorem al4 {W w1 w2 : World} {f f' : Nat → Bool} {g : Nat} {X : Obj} (hb1 : Below W.heap.size W w1) (hb2 : Below w1.heap.size w1 w2) (hg : W.heap[g]? = some X) :
    ((((w2.alloc (.cells (mkA fun _ => false) 71)).alloc (.cells (mkA fun _ => false) 71)).setRow w2.heap.size (mkA f)).setRow (w2.heap.size + 1) (mkA f')).heap[w2.heap.size]? = some (.cells (mkA f) 71 (0, 0)) ∧
    ((((w2.alloc (.cells (mkA fun _ => false) 71)).alloc (.cells (mkA fun _ => false) 71)).setRow w2.heap.size (mkA f)).setRow (w2.heap.size + 1) (mkA f')).heap[w2.heap.size + 1]? = some (.cells (mkA f') 71 (0, 0)) ∧
    Below W.heap.size W ((((w2.alloc (.cells (mkA fun _ => false) 71)).alloc (.cells (mkA fun _ => false) 71)).setRow w2.heap.size (mkA f)).setRow (w2.heap.size + 1) (mkA f')) ∧ W.heap.size ≤ w2.heap.size ∧ g < W.heap.size := by
  have q := al2' (f := f) hb1 hb2
  have hs : W.heap.size ≤ w2.heap.size := (hb1.trans (hb2.mono hb1.size)).size
  exact ⟨(setRow_other _ _ _ _ (by omega)).trans q.1, setRow_heap _ _ _ _ _ _ q.2.1, below_setRow q.2.2 (by omega) _, hs, (Array.getElem?_eq_some_iff.1 hg).1⟩
theorem meet_step (F F' : Nat → Bool) (k : Nat) (hk : k < 32) : (mkA fun j => if j < k then F j && F' j else F j).setIfInBounds k (.bool (F k && F' k)) = mkA fun j => if j < k + 1 then F j && F' j else F j := by
  rw [mkA_set _ k hk]
  congr 1
  funext j
  by_cases h : j = k
  · subst h
    simp
  · by_cases h2 : j < k
    · rw [if_neg h, if_pos h2, if_pos (by omega)]
    · rw [if_neg h, if_neg h2, if_neg (by omega)]
theorem meet_end (F F' : Nat → Bool) : (mkA fun j => if j < 32 then F j && F' j else F j) = mkA fun j => F j && F' j := by
  unfold mkA
  congr 1
set_option maxHeartbeats 4000000 in
theorem clash1_any (a : Option Addr) (n c : Nat) (l : List Int) (b : Option Addr) (m d : Nat) (l' : List Int) (g : Nat) (W : World) (hs : Sl W a n c 1 (is .i64 l)) (hr : ∀ x ∈ l, 0 ≤ x ∧ x < 32) (hn : n ≤ 1000)
    (hs' : Sl W b m d 1 (is .i64 l')) (hr' : ∀ x ∈ l', 0 ≤ x ∧ x < 32) (hm : m ≤ 1000) (hg : W.heap[g]? = some (.cells (mkA fun _ => false) 71 (0, 0))) :
    Calls Try.prog 31 #[.slice a n c, .slice b m d, .pointer (some ⟨g, 0, none⟩)] W fun e w' => e = .returned (.bool (meetB (inB l) (inB l'))) ∧ Below W.heap.size W w' := by
  have HS := hidd hs
  have HS' := hidd hs'
  have HR := hidd hr
  have HR' := hidd hr'
  have HG := hidd hg
  have zv := zero71
  obtain ⟨F, hF⟩ : ∃ F, F = inB l := ⟨_, rfl⟩
  obtain ⟨F', hF'⟩ : ∃ F', F' = inB l' := ⟨_, rfl⟩
  rw [← hF, ← hF']
  have HF := hidd hF
  have HF' := hidd hF'
  clear hs hs' hr hr' hg hF hF'
  go_enter Try.func31, Try.ntmps31
  go_wp2_with (first | (go_at_call 32; with_reducible refine (marks_any a n c l _ HS.out HR.out hn).mono ?_; rintro e w1 ⟨rfl, hb1⟩; rw [← HF.out]; have HB1 := hidd hb1; clear hb1) | (go_at_call 32; with_reducible refine (marks_any b m d l' _ (HS'.out.grow HB1.out) HR'.out hm).mono ?_; rintro e w2 ⟨rfl, hb2⟩; rw [← HF'.out]; have HB2 := hidd hb2; clear hb2) | (with_reducible refine wpList_store_row rfl 71 (.tmp 6) (.tmp 10) rfl w2.heap.size (mkA F) rfl rfl 71 (mkA fun _ => false) (al2 w2 (.cells (mkA fun _ => false) 71) (.cells (mkA fun _ => false) 71)).1 (mkA_sz _) (mkA_size _ _) (mkA_one _) ?_; have HA := hidd (al2' (f := F) HB1.out HB2.out)) | (with_reducible refine wpList_store_row rfl 71 (.tmp 7) (.tmp 12) rfl (w2.heap.size + 1) (mkA F') rfl rfl 71 (mkA fun _ => false) HA.out.2.1 (mkA_sz _) (mkA_size _ _) (mkA_one _) ?_; have HC := hidd (al4 (f := F) (f' := F') HB1.out HB2.out HG.out); generalize (((w2.alloc (.cells (mkA fun _ => false) 71)).alloc (.cells (mkA fun _ => false) 71)).setRow w2.heap.size (mkA F)).setRow (w2.heap.size + 1) (mkA F') = w4 at HC ⊢))
  obtain ⟨c0, c1, c2, c3, c4⟩ := HC.out
  clear zv
  go_loopw [13] (fun i wr => ∃ k : Nat, k ≤ 32 ∧ i = .int .i64 k ∧ wr.heap[w2.heap.size]? = some (.cells (mkA fun j => if j < k then F j && F' j else F j) 71 (0, 0)) ∧ wr.heap[w2.heap.size + 1]? = some (.cells (mkA F') 71 (0, 0)) ∧ Below W.heap.size W wr) (fun i _ => 32 - (intOf i).toNat)
  case atStart => exact ⟨0, by omega, rfl, by simpa using c0, c1, c2⟩
  case round =>
    obtain ⟨k, hk, rfl, f0, f1, f2⟩ := hrel
    have F0 := hidd f0
    have F1 := hidd f1
    have F2 := hidd f2
    have C3 := hidd c3
    clear c0 c1 c2 c3
    rcases Nat.lt_or_ge k 32 with hlt | hge
    · have i0 : (0 : Int) ≤ (k : Int) := by omega
      have i1 : (k : Int) < 32 := by omega
      have e0 := ((blk f0).1 k).trans (mkA_at _ k hlt)
      rw [if_neg (Nat.lt_irrefl k)] at e0
      have e1 := ((blk f1).1 k).trans (mkA_at _ k hlt)
      have fz := (blk f0).2 k
      have HE := hidd (meet_step F F' k hlt)
      cases hF : F k
      · rw [hF] at e0
        have HK := hidd hF
        clear hF f0 f1 f2 e1
        go_wp2
        refine ⟨⟨k + 1, by omega, by push_cast; rfl, (hs_same F0.out).trans ?_, hs_other F1.out (by simp), F2.out.setCell C3.out _⟩, ?_⟩
        · rw [← HE.out, HK.out]
          rfl
        · simp [intOf]
          omega
      · rw [hF] at e0
        have HK := hidd hF
        clear hF f0 f1 f2
        go_wp2
        refine ⟨⟨k + 1, by omega, by push_cast; rfl, (hs_same F0.out).trans ?_, hs_other F1.out (by simp), F2.out.setCell C3.out _⟩, ?_⟩
        · rw [← HE.out, HK.out, Bool.true_and]
        · simp [intOf]
          omega
    · have hk2 : k = 32 := by omega
      subst hk2
      rw [meet_end] at f0
      have f3 : wr.heap[g]? = some (.cells (mkA fun _ => false) 71 (0, 0)) := blk_below f2 HG.out c4
      have G0 := hidd f0
      have G3 := hidd f3
      clear f0 f1 f2 f3 F0 F1
      obtain ⟨mb, hmb⟩ : ∃ mb, mb = meetB F F' := ⟨_, rfl⟩
      have hq : ∀ w, (Op.equalIn 10000 71 (.agg (mkA fun j => F j && F' j)) (.agg (mkA fun _ => false))).run Try.prog w = .ok (!mb) w := fun w => by
        rw [hmb]
        unfold meetB
        rw [Bool.not_not]
        exact eq71 w (fun j => F j && F' j) (fun _ => false)
      have HMB := hidd hmb
      clear hmb
      go_wp2_with (first | (with_reducible refine wpList_load_row rfl 71 (.tmp 6) rfl w2.heap.size rfl 71 (mkA fun j => F j && F' j) (0, 0) _ G0.out Try.underlying71 rfl (mkA_sz _) ?_) | (with_reducible refine wpList_load_row rfl 71 (.tmp 2) rfl g rfl 71 (mkA fun _ => false) (0, 0) _ G3.out Try.underlying71 rfl (mkA_sz _) ?_))
      go_ret
      exact ⟨by simp [HMB.out], F2.out⟩
end Go.Proofs.Ytdoicmjomlaoaaa
