import Derived.Test.YtdoicmjomlaoaaaO2
namespace Go.Proofs.Ytdoicmjomlaoaaa
open Go.RowKit
def plK (key : Int) : List Wr → Nat
  | [] => 0
  | p :: r => if p.1 < key then plK key r + 1 else 0
def thB (key : Int) (l : List Wr) : Bool := match l[plK key l]? with
  | some p => decide (p.1 = key)
  | none => false
theorem plK_le (key : Int) : ∀ l : List Wr, plK key l ≤ l.length
  | [] => Nat.le_refl _
  | p :: r => by
    have := plK_le key r
    simp only [plK, List.length_cons]
    split <;> omega
theorem plK_eq (key : Int) : ∀ (l : List Wr) (k : Nat), (∀ j p, j < k → l[j]? = some p → p.1 < key) → (l.length ≤ k ∨ ∃ p, l[k]? = some p ∧ ¬ p.1 < key) → k ≤ l.length → plK key l = k
  | [], k, _, _, h => by simp at h; simp [plK, h]
  | p :: r, 0, _, h, _ => by
    rcases h with h | ⟨q, h1, h2⟩
    · simp at h
    · simp at h1
      subst h1
      simp [plK, h2]
  | p :: r, k + 1, h1, h2, h3 => by
    have hp : p.1 < key := h1 0 p (by omega) rfl
    simp only [plK, if_pos hp]
    rw [plK_eq key r k (fun j q hj hq => h1 (j + 1) q (by omega) hq) (by simpa using h2) (by simpa using h3)]
set_option maxRecDepth 100000 in
set_option maxHeartbeats 2000000 in
theorem place_any (a : Option Addr) (n c : Nat) (l : List Wr) (key : Int) (W : World) (hs : Sl W a n c 9 (wcs l)) (h8 : W8 l) (hn : n ≤ 1000) :
    Calls Try.prog 22 #[.slice a n c, .int .i64 key, .func (.func 23) #[] #[]] W fun e w' => e = .returned (.tuple #[.int .i64 (plK key l : Nat), .bool (thB key l)]) ∧ Below W.heap.size W w' := by
  have HS := hidd hs
  have H8 := hidd h8
  have HL := hidd (show l.length = n by have := hs.len; rw [wcs_len h8] at this; omega)
  clear hs h8
  go_enter Try.func22, Try.ntmps22
  go_wp2
  go_loopw [8] (fun i wr => ∃ k : Nat, k ≤ n ∧ i = .int .i64 k ∧ (∀ j p, j < k → l[j]? = some p → p.1 < key) ∧ Below W.heap.size W wr) (fun i _ => n - (intOf i).toNat)
  case atStart => exact ⟨0, by omega, rfl, fun j p hj => by omega, Below.refl _ _⟩
  case round =>
    obtain ⟨k, hk, rfl, hw, hbel⟩ := hrel
    have HW := hidd hbel
    have HR := hidd hw
    clear hw
    by_cases hlt : k < n
    · obtain ⟨b, off, p, rfl, hp, hp8, hc⟩ := wr_at (HS.out.grow hbel) H8.out k hlt
      obtain ⟨B, b0, b1, b2, b3, b4, b5, b6, b7, rfl⟩ := wr8 hp8
      obtain ⟨c0, c1, c2, c3, c4, c5, c6, c7, c8⟩ := wr_cells hc
      have HP := hidd hp
      have i0 : (0 : Int) ≤ (k : Int) := by omega
      have i1 : (k : Int) < (n : Int) := by omega
      clear hp hp8 hbel
      by_cases h1 : B < key
      · clear hc
        go_wp2_with fail
        refine (block_any (B, [b0, b1, b2, b3, b4, b5, b6, b7]) rfl wr).mono ?_
        rintro e w1 ⟨rfl, hb1⟩
        have HB1 := hidd (HW.out.trans (hb1.mono HW.out.size))
        clear hb1 c0 c1 c2 c3 c4 c5 c6 c7 c8
        dsimp only
        go_wp2
        go_roundw
        case rel =>
          refine ⟨k + 1, by omega, by go_num, fun j p hj hq => ?_, HB1.out⟩
          rcases Nat.lt_or_ge j k with h | h
          · exact HR.out j p h hq
          · obtain rfl : j = k := by omega
            rw [HP.out] at hq
            injection hq with hq
            subst hq
            exact h1
        case measure => simp [intOf]; omega
      · have hpl := plK_eq key l k HR.out (.inr ⟨_, HP.out, h1⟩) (by rw [HL.out]; omega)
        have hth : thB key l = decide (B = key) := by
          unfold thB
          rw [hpl, HP.out]
        have HPL := hidd hpl
        have HTH := hidd hth
        have HC := hidd hc
        have hbk := block_lt_of_cell c0
        clear hpl hth hc
        go_wp2_with fail
        refine (block_any (B, [b0, b1, b2, b3, b4, b5, b6, b7]) rfl wr).mono ?_
        rintro e w1 ⟨rfl, hb1⟩
        have hc2 : ∀ j, j < 9 → w1.cell? ⟨b, off + k * 9 + j, none⟩ = (wc (B, [b0, b1, b2, b3, b4, b5, b6, b7]))[j]? := by
          intro j hj
          rw [hb1.cell (p := ⟨b, off + k * 9 + j, none⟩) hbk]
          exact HC.out j hj
        have HB1 := hidd (HW.out.trans (hb1.mono HW.out.size))
        clear hb1 c0 c1 c2 c3 c4 c5 c6 c7 c8
        obtain ⟨c0, c1, c2, c3, c4, c5, c6, c7, c8⟩ := wr_cells hc2
        clear hc2
        dsimp only
        go_wp2_with fail
        refine (block_any (B, [b0, b1, b2, b3, b4, b5, b6, b7]) rfl w1).mono ?_
        rintro e w2 ⟨rfl, hb2⟩
        have HB2 := hidd (HB1.out.trans (hb2.mono HB1.out.size))
        clear hb2 c0 c1 c2 c3 c4 c5 c6 c7 c8
        dsimp only
        by_cases h2 : B = key
        · subst h2
          go_wp2
          go_ret2
          exact ⟨by rw [HPL.out, HTH.out]; simp, HB2.out⟩
        · have e2 : (B == key) = false := by simp [h2]
          have H2 := hidd h2
          clear h2
          go_wp2
          go_ret2
          exact ⟨by rw [HPL.out, HTH.out]; simp [H2.out], HB2.out⟩
    · obtain rfl : k = n := by omega
      have hpl := plK_eq key l k HR.out (.inl (by rw [HL.out]; exact Nat.le_refl _)) (by rw [HL.out]; exact Nat.le_refl _)
      have hth : thB key l = false := by
        unfold thB
        rw [hpl, List.getElem?_eq_none (by rw [HL.out]; exact Nat.le_refl _)]
      have HPL := hidd hpl
      have HTH := hidd hth
      clear hpl hth
      go_wp2
      go_ret2
      exact ⟨by rw [HPL.out, HTH.out]; rfl, HW.out⟩
end Go.Proofs.Ytdoicmjomlaoaaa
