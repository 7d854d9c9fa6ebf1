import Derived.Test.YtdoicmjomlaoaaaO7
namespace Go.Proofs.Ytdoicmjomlaoaaa
open Go.RowKit
theorem writtenB_len {l : List Wr} (h : writtenB l = true) : l.length ≤ 8 := by
  unfold writtenB at h
  simp only [Bool.and_eq_true, decide_eq_true_eq] at h
  exact h.2
theorem put_any (a : Option Addr) (n c : Nat) (l : List Wr) (p : Wr) (W : World) (hs : Sl W a n c 9 (wcs l)) (h8 : W8 l) (hn : n ≤ 1000) (hp : p.2.length = 8) :
    Calls Try.prog 9 #[.slice a n c, .agg (wc p).toArray] W fun e w' => ∃ a' c', e = .returned (.tuple #[.slice a' (ptL l p).length c', .int .i64 (ptE l p)]) ∧ Sl w' a' (ptL l p).length c' 9 (wcs (ptL l p)) ∧ Below W.heap.size W w' := by
  have hl : l.length = n := by have := hs.len; rw [wcs_len h8] at this; omega
  by_cases hok : writtenB l = true ∧ 0 ≤ p.1 ∧ p.1 < 32
  · obtain ⟨hw, h0, h32⟩ := hok
    have h9 := writtenB_len hw
    cases ht : thB p.1 l
    · by_cases hf : n = 8
      · have e1 : ptE l p = 50 := by unfold ptE; rw [if_pos ⟨hw, h0, h32⟩, ht, hl, if_pos hf]; rfl
        have e2 : ptL l p = [] := by unfold ptL; rw [e1]; rfl
        rw [e1, e2]
        refine (put_full a n c l p W hs h8 hn hp hw h0 h32 ht hf).mono ?_
        rintro e w1 ⟨rfl, hb⟩
        exact ⟨none, 0, rfl, by simpa [wcs] using Sl.none w1 9, hb⟩
      · have e1 : ptE l p = 0 := by unfold ptE; rw [if_pos ⟨hw, h0, h32⟩, ht, hl, if_neg hf]; rfl
        have e2 : ptL l p = l.take (plK p.1 l) ++ [p] ++ l.drop (plK p.1 l) := by unfold ptL; rw [e1, ht]; rfl
        have e3 : (ptL l p).length = n + 1 := by
          have := plK_le p.1 l
          rw [e2, List.length_append, List.length_append, List.length_take, List.length_drop]
          simp
          omega
        rw [e1, e3, e2]
        refine (put_new a n c l p W hs h8 hn hp hw h0 h32 ht (by omega)).mono ?_
        rintro e w1 ⟨a', c', rfl, hs', hb⟩
        exact ⟨a', c', rfl, hs', hb⟩
    · have e1 : ptE l p = 0 := by unfold ptE; rw [if_pos ⟨hw, h0, h32⟩, ht]; rfl
      have e2 : ptL l p = l.set (plK p.1 l) p := by unfold ptL; rw [e1, ht]; rfl
      have e3 : (ptL l p).length = n := by rw [e2, List.length_set, hl]
      rw [e1, e3, e2]
      refine (put_there a n c l p W hs h8 hn hp hw h0 h32 ht).mono ?_
      rintro e w1 ⟨a', c', rfl, hs', hb⟩
      exact ⟨a', c', rfl, hs', hb⟩
  · have e1 : ptE l p = 2 := by unfold ptE; rw [if_neg hok]
    have e2 : ptL l p = [] := by unfold ptL; rw [e1]; rfl
    rw [e1, e2]
    refine (put_bad a n c l p W hs h8 hn hp hok).mono ?_
    rintro e w1 ⟨rfl, hb⟩
    exact ⟨none, 0, rfl, by simpa [wcs] using Sl.none w1 9, hb⟩
theorem ptL_W8 {l : List Wr} {p : Wr} (h8 : W8 l) (hp : p.2.length = 8) : W8 (ptL l p) := by
  unfold ptL
  split
  · split
    · exact W8_set h8 hp _
    · exact W8_app (W8_app (W8_take h8 _) (W8_one hp)) (W8_drop h8 _)
  · intro q hq; simp at hq
set_option maxHeartbeats 1000000 in
theorem great_any (a : Option Addr) (n c : Nat) (W : World) (hn : n ≤ 9223372036854775807) :
    Calls Try.prog 7 #[.slice a n c] W fun e w' => e = .returned (.bool (decide (100 < (n : Int)))) ∧ W = w' := by
  go_enter Try.func7, Try.ntmps7
  go_wp2
  go_ret
  exact ⟨rfl, rfl⟩
/-- where a key stands first -/
def fiK (key : Int) : List Wr → Option Nat
  | [] => none
  | p :: r => if p.1 = key then some 0 else (fiK key r).map (· + 1)
def ixK (key : Int) (l : List Wr) : Int := match fiK key l with
  | some k => (k : Int)
  | none => -1
theorem fiK_some (key : Int) : ∀ (l : List Wr) (k : Nat), (∀ j p, j < k → l[j]? = some p → p.1 ≠ key) → (∃ p, l[k]? = some p ∧ p.1 = key) → fiK key l = some k
  | [], k, _, ⟨p, h, _⟩ => by simp at h
  | p :: r, 0, _, ⟨q, h, hq⟩ => by
    simp at h
    subst h
    simp [fiK, hq]
  | p :: r, k + 1, h1, h2 => by
    have hp : p.1 ≠ key := h1 0 p (by omega) rfl
    simp only [fiK, if_neg hp]
    rw [fiK_some key r k (fun j q hj hq => h1 (j + 1) q (by omega) hq) (by simpa using h2)]
    rfl
theorem fiK_none (key : Int) : ∀ (l : List Wr), (∀ (j : Nat) (p : Wr), l[j]? = some p → p.1 ≠ key) → fiK key l = none
  | [], _ => rfl
  | p :: r, h1 => by
    have hp : p.1 ≠ key := h1 0 p rfl
    simp only [fiK, if_neg hp]
    rw [fiK_none key r (fun j q hq => h1 (j + 1) q hq)]
    rfl
set_option maxHeartbeats 1000000 in
theorem isB_any (p : Wr) (h : p.2.length = 8) (key : Int) (g : Nat) (W : World) (hc : W.cell? ⟨g, 0, none⟩ = some (.int .i64 key)) :
    Calls Try.prog 25 #[.agg (wc p).toArray, .pointer (some ⟨g, 0, none⟩)] W fun e w' => e = .returned (.bool (p.1 == key)) ∧ Below W.heap.size W w' := by
  obtain ⟨B, b0, b1, b2, b3, b4, b5, b6, b7, rfl⟩ := wr8 h
  have hlt := block_lt_of_cell hc
  simp only [wc, bs, List.map_cons, List.map_nil]
  go_enter Try.func25, Try.ntmps25
  go_wp2
  go_ret
  exact ⟨rfl, (Below.refl _ W).alloc (Nat.le_refl _) _⟩
set_option maxRecDepth 100000 in
set_option maxHeartbeats 2000000 in
theorem index_any (a : Option Addr) (n c : Nat) (l : List Wr) (key : Int) (g : Nat) (W : World) (hs : Sl W a n c 9 (wcs l)) (h8 : W8 l) (hn : n ≤ 1000) (hc : W.cell? ⟨g, 0, none⟩ = some (.int .i64 key)) :
    Calls Try.prog 24 #[.slice a n c, .func (.func 25) #[] #[.pointer (some ⟨g, 0, none⟩)]] W fun e w' => e = .returned (.int .i64 (ixK key l)) ∧ Below W.heap.size W w' := by
  have HS := hidd hs
  have H8 := hidd h8
  have HC := hidd hc
  have HL := hidd (show l.length = n by have := hs.len; rw [wcs_len h8] at this; omega)
  have hlt := block_lt_of_cell hc
  clear hs h8 hc
  go_enter Try.func24, Try.ntmps24
  go_wp2
  go_loopw [8] (fun i wr => ∃ k : Nat, k ≤ n ∧ i = .int .i64 k ∧ (∀ j p, j < k → l[j]? = some p → p.1 ≠ key) ∧ Below W.heap.size W wr) (fun i _ => n - (intOf i).toNat)
  case atStart => exact ⟨0, by omega, rfl, fun j p hj => by omega, Below.refl _ _⟩
  case round =>
    obtain ⟨k, hk, rfl, hw, hbel⟩ := hrel
    have HW := hidd hbel
    have HR := hidd hw
    clear hw
    by_cases hlk : k < n
    · obtain ⟨b, off, p, rfl, hp, hp8, hcc⟩ := wr_at (HS.out.grow hbel) H8.out k hlk
      obtain ⟨B, b0, b1, b2, b3, b4, b5, b6, b7, rfl⟩ := wr8 hp8
      obtain ⟨c0, c1, c2, c3, c4, c5, c6, c7, c8⟩ := wr_cells hcc
      have HP := hidd hp
      have i0 : (0 : Int) ≤ (k : Int) := by omega
      have i1 : (k : Int) < (n : Int) := by omega
      clear hp hp8 hbel hcc
      go_wp2_with fail
      refine (isB_any (B, [b0, b1, b2, b3, b4, b5, b6, b7]) rfl key g wr ((HW.out.cell (p := ⟨g, 0, none⟩) hlt).trans HC.out)).mono ?_
      rintro e w1 ⟨rfl, hb1⟩
      have HB1 := hidd (HW.out.trans (hb1.mono HW.out.size))
      clear hb1 c0 c1 c2 c3 c4 c5 c6 c7 c8
      dsimp only
      by_cases h1 : B = key
      · have hix : ixK key l = (k : Int) := by
          unfold ixK
          rw [fiK_some key l k HR.out ⟨_, HP.out, h1⟩]
        have HIX := hidd hix
        subst h1
        clear hix
        rw [beq_self_eq_true]
        go_wp2
        go_ret
        exact ⟨by rw [HIX.out]; rfl, HB1.out⟩
      · have he : (B == key) = false := by simp [h1]
        have H1 := hidd h1
        clear h1
        rw [he]
        clear he
        go_wp2
        go_roundw
        case rel =>
          refine ⟨k + 1, by omega, by go_num, fun j p hj hq => ?_, HB1.out⟩
          rcases Nat.lt_or_ge j k with h | h
          · exact HR.out j p h hq
          · obtain rfl : j = k := by omega
            rw [HP.out] at hq
            injection hq with hq
            subst hq
            exact H1.out
        case measure => simp [intOf]; omega
    · obtain rfl : k = n := by omega
      have hix : ixK key l = -1 := by
        unfold ixK
        rw [fiK_none key l (fun j p hq => HR.out j p (by have := (List.getElem?_eq_some_iff.1 hq).1; rw [HL.out] at this; exact this) hq)]
      have HIX := hidd hix
      clear hix
      go_wp2
      go_ret
      exact ⟨by rw [HIX.out]; rfl, HW.out⟩
end Go.Proofs.Ytdoicmjomlaoaaa
