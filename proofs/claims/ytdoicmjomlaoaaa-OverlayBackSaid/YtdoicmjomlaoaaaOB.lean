import Derived.Test.YtdoicmjomlaoaaaOA
namespace Go.Proofs.Ytdoicmjomlaoaaa
open Go.RowKit
set_option maxRecDepth 100000 in
set_option maxHeartbeats 4000000 in
theorem equal_any (a : Option Addr) (n c : Nat) (l : List Wr) (x : Option Addr) (q d : Nat) (m : List Wr) (W : World) (hs : Sl W a n c 9 (wcs l)) (h8 : W8 l) (hn : n ≤ 1000) (hx : Sl W x q d 9 (wcs m)) (h8m : W8 m) (hq : q ≤ 1000) :
    Calls Try.prog 26 #[.slice a n c, .slice x q d, .func (.func 27) #[] #[]] W fun e w' => e = .returned (.bool (decide (l = m))) ∧ Below W.heap.size W w' := by
  have HS := hidd hs
  have H8 := hidd h8
  have HL := hidd (show l.length = n by have := hs.len; rw [wcs_len h8] at this; omega)
  have HX := hidd hx
  have H8m := hidd h8m
  have HM := hidd (show m.length = q by have := hx.len; rw [wcs_len h8m] at this; omega)
  clear hs h8 hx h8m
  by_cases hnq : n = q
  · have e1 : ((n : Int) != (q : Int)) = false := by simp [hnq]
    have HNQ := hidd hnq
    clear hnq
    go_enter Try.func26, Try.ntmps26
    go_wp2
    go_loopw [17] (fun i wr => ∃ k : Nat, k ≤ n ∧ i = .int .i64 k ∧ (∀ j, j < k → l[j]? = m[j]?) ∧ Below W.heap.size W wr) (fun i _ => n - (intOf i).toNat)
    case atStart => exact ⟨0, by omega, rfl, fun j hj => by omega, Below.refl _ _⟩
    case round =>
      obtain ⟨k, hk, rfl, hw, hbel⟩ := hrel
      have HW := hidd hbel
      have HR := hidd hw
      clear hw
      by_cases hlk : k < n
      · obtain ⟨b, off, p, rfl, hp, hp8, hcc⟩ := wr_at (HS.out.grow hbel) H8.out k hlk
        have hlq : k < q := by have := HNQ.out; omega
        obtain ⟨b', off', p', rfl, hp', hp8', hcc'⟩ := wr_at (HX.out.grow hbel) H8m.out k hlq
        obtain ⟨B, b0, b1, b2, b3, b4, b5, b6, b7, rfl⟩ := wr8 hp8
        obtain ⟨C, d0, d1, d2, d3, d4, d5, d6, d7, rfl⟩ := wr8 hp8'
        obtain ⟨c0, c1, c2, c3, c4, c5, c6, c7, c8⟩ := wr_cells hcc
        obtain ⟨y0, y1, y2, y3, y4, y5, y6, y7, y8⟩ := wr_cells hcc'
        have l0 := block_lt_of_cell c0
        have l1 := block_lt_of_cell y0
        have HP := hidd hp
        have HP' := hidd hp'
        have i0 : (0 : Int) ≤ (k : Int) := by omega
        have i1 : (k : Int) < (n : Int) := by omega
        have i2 : (k : Int) < (q : Int) := by omega
        simp only at l0 l1
        have hsz := hbel.size
        clear hp hp8 hbel hcc hp' hp8' hcc'
        go_wp2_with fail
        refine (weq_any (B, [b0, b1, b2, b3, b4, b5, b6, b7]) (C, [d0, d1, d2, d3, d4, d5, d6, d7]) rfl rfl _).mono ?_
        rintro e w1 ⟨rfl, hb1⟩
        have HB1 := hidd ((((HW.out.alloc HW.out.size _).alloc (by have := HW.out.size; simp; omega) _)).trans (hb1.mono (by simp; omega)))
        clear hb1 c0 c1 c2 c3 c4 c5 c6 c7 c8 y0 y1 y2 y3 y4 y5 y6 y7 y8
        rw [weq_eq]
        dsimp only
        by_cases h : (B, [b0, b1, b2, b3, b4, b5, b6, b7]) = (C, [d0, d1, d2, d3, d4, d5, d6, d7])
        · rw [decide_eq_true h]
          have H := hidd h
          clear h
          go_wp2
          go_roundw
          case rel =>
            refine ⟨k + 1, by omega, by go_num, fun j hj => ?_, HB1.out⟩
            rcases Nat.lt_or_ge j k with h | h
            · exact HR.out j h
            · obtain rfl : j = k := by omega
              rw [HP.out, HP'.out, H.out]
          case measure => simp [intOf]; omega
        · rw [decide_eq_false h]
          have H := hidd h
          clear h
          go_wp2
          go_ret
          refine ⟨ret_b ?_, HB1.out⟩
          symm
          apply decide_eq_false
          intro e
          subst e
          have := HP.out.symm.trans HP'.out
          injection this with this
          exact H.out this
      · obtain rfl : k = n := by omega
        have hlm : l = m := by
          apply List.ext_getElem?
          intro j
          rcases Nat.lt_or_ge j k with h | h
          · exact HR.out j h
          · rw [List.getElem?_eq_none (by rw [HL.out]; exact h), List.getElem?_eq_none (by rw [HM.out, ← HNQ.out]; exact h)]
        have HLM := hidd hlm
        clear hlm
        go_wp2
        go_ret
        exact ⟨ret_b (by rw [decide_eq_true HLM.out]), HW.out⟩
  · have e1 : ((n : Int) != (q : Int)) = true := by simp; omega
    have HNQ := hidd hnq
    clear hnq
    go_enter Try.func26, Try.ntmps26
    go_wp2
    go_ret
    refine ⟨ret_b ?_, Below.refl _ _⟩
    symm
    apply decide_eq_false
    intro e
    have h1 := HL.out
    rw [e, HM.out] at h1
    exact HNQ.out h1.symm
set_option maxHeartbeats 1000000 in
theorem same_any (a : Option Addr) (n c : Nat) (l : List Wr) (x : Option Addr) (q d : Nat) (m : List Wr) (W : World) (hs : Sl W a n c 9 (wcs l)) (h8 : W8 l) (hn : n ≤ 1000) (hx : Sl W x q d 9 (wcs m)) (h8m : W8 m) (hq : q ≤ 1000) :
    Calls Try.prog 11 #[.slice a n c, .slice x q d] W fun e w' => e = .returned (.bool (decide (l = m))) ∧ Below W.heap.size W w' := by
  go_enter Try.func11, Try.ntmps11
  go_wp2_with fail
  refine (equal_any a n c l x q d m W hs h8 hn hx h8m hq).mono ?_
  rintro e w1 ⟨rfl, hb1⟩
  go_wp2_with fail
  go_ret
  exact ⟨rfl, hb1⟩
end Go.Proofs.Ytdoicmjomlaoaaa
