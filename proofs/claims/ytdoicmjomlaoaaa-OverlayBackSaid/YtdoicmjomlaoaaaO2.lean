import Derived.Test.YtdoicmjomlaoaaaO1
namespace Go.Proofs.Ytdoicmjomlaoaaa
open Go.RowKit
set_option maxHeartbeats 1000000 in
theorem block_any (p : Wr) (h : p.2.length = 8) (W : World) :
    Calls Try.prog 23 #[.agg (wc p).toArray] W fun e w' => e = .returned (.int .i64 p.1) ∧ Below W.heap.size W w' := by
  obtain ⟨B, b0, b1, b2, b3, b4, b5, b6, b7, rfl⟩ := wr8 h
  simp only [wc, bs, List.map_cons, List.map_nil]
  go_enter Try.func23, Try.ntmps23
  go_wp2
  go_ret
  exact ⟨rfl, (Below.refl _ W).alloc (Nat.le_refl _) _⟩
def wrB : Int → List Wr → Bool
  | _, [] => true
  | last, p :: r => decide (last < p.1) && (decide (p.1 < 32) && wrB p.1 r)
def writtenB (l : List Wr) : Bool := wrB (-1) l && decide (l.length ≤ 8)
set_option maxHeartbeats 2000000 in
theorem written_any (a : Option Addr) (n c : Nat) (l : List Wr) (W : World) (hs : Sl W a n c 9 (wcs l)) (h8 : W8 l) (hn : n ≤ 1000) :
    Calls Try.prog 21 #[.slice a n c] W fun e w' => e = .returned (.bool (writtenB l)) ∧ Below W.heap.size W w' := by
  have HS := hidd hs
  have H8 := hidd h8
  have HL := hidd (show l.length = n by have := hs.len; rw [wcs_len h8] at this; omega)
  clear hs h8
  go_enter Try.func21, Try.ntmps21
  go_wp2
  go_loopw [3, 8] (fun v i wr => ∃ (k : Nat) (last : Int), k ≤ n ∧ i = .int .i64 k ∧ v = .int .i64 last ∧ wrB (-1) l = wrB last (l.drop k) ∧ Below W.heap.size W wr) (fun _ i _ => n - (intOf i).toNat)
  case atStart => exact ⟨0, -1, by omega, rfl, rfl, rfl, Below.refl _ _⟩
  case round =>
    obtain ⟨k, last, hk, rfl, rfl, hw, hbel⟩ := hrel
    have HW := hidd hbel
    have HR := hidd hw
    clear hw
    by_cases hlt : k < n
    · obtain ⟨b, off, p, rfl, hp, hp8, hc⟩ := wr_at (HS.out.grow hbel) H8.out k hlt
      obtain ⟨B, b0, b1, b2, b3, b4, b5, b6, b7, rfl⟩ := wr8 hp8
      obtain ⟨c0, c1, c2, c3, c4, c5, c6, c7, c8⟩ := wr_cells hc
      have hd : l.drop k = (B, [b0, b1, b2, b3, b4, b5, b6, b7]) :: l.drop (k + 1) := by
        obtain ⟨hk', e⟩ := List.getElem?_eq_some_iff.1 hp
        rw [← e]
        exact List.drop_eq_getElem_cons hk'
      have HD := hidd hd
      have i0 : (0 : Int) ≤ (k : Int) := by omega
      have i1 : (k : Int) < (n : Int) := by omega
      have hsz := hbel.size
      clear hc hp hp8 hd hbel
      by_cases h1 : B ≤ last
      · have H1 := hidd h1
        go_wp2
        go_ret
        have e1 : decide (last < B) = false := by simp; omega
        exact ⟨ret_b (by unfold writtenB; rw [HR.out, HD.out]; simp [wrB, e1]), HW.out.alloc HW.out.size _⟩
      · by_cases h2 : 32 ≤ B
        · go_wp2
          go_ret
          have e1 : decide (B < 32) = false := by simp; omega
          exact ⟨ret_b (by unfold writtenB; rw [HR.out, HD.out]; simp [wrB, e1]), HW.out.alloc HW.out.size _⟩
        · go_wp2
          go_roundw
          case rel =>
            have e1 : decide (last < B) = true := by simp; omega
            have e2 : decide (B < 32) = true := by simp; omega
            exact ⟨k + 1, B, by omega, by go_num, rfl, by rw [HR.out, HD.out]; simp [wrB, e1, e2], HW.out.alloc HW.out.size _⟩
          case measure => simp [intOf]; omega
    · obtain rfl : k = n := by omega
      have hd : wrB (-1) l = true := by
        rw [HR.out, List.drop_of_length_le (by rw [HL.out]; exact Nat.le_refl _)]
        rfl
      have HD := hidd hd
      clear hd hbel
      go_wp2
      go_ret
      refine ⟨ret_b ?_, HW.out⟩
      unfold writtenB
      rw [HD.out, HL.out]
      simp
      omega
end Go.Proofs.Ytdoicmjomlaoaaa
