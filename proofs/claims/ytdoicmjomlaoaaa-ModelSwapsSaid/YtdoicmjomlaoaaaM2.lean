import Derived.Test.YtdoicmjomlaoaaaM1
namespace Go.Proofs.Ytdoicmjomlaoaaa
open Go.RowKit
/-- model.may, from an error on -/
def mayF (e : Int) : List Sn → Int
  | [] => e
  | x :: r => if x.K ≠ 1 ∧ x.K ≠ 2 then 2 else mayF (if x.k < 0 ∨ 32 ≤ x.k then 230 else e) r
def mayE (l : List Sn) : Int := mayF 0 l
theorem mayF_no : ∀ (l : List Sn) (e : Int), e ≠ 0 → mayF e l ≠ 0
  | [], _, h => h
  | x :: r, e, h => by
    unfold mayF
    split
    · decide
    · refine mayF_no r _ ?_
      split
      · decide
      · exact h
theorem mayF_ok : ∀ (l : List Sn), mayF 0 l = 0 → ∀ x ∈ l, okS x = true
  | [], _ => by simp
  | x :: r, h => by
    unfold mayF at h
    split at h
    · cases h
    · rename_i hK
      by_cases hk : x.k < 0 ∨ 32 ≤ x.k
      · rw [if_pos hk] at h
        exact absurd h (mayF_no r 230 (by decide))
      · rw [if_neg hk] at h
        intro y hy
        rcases List.mem_cons.1 hy with e | e
        · subst e
          unfold okS
          have : y.K = 1 ∨ y.K = 2 := by omega
          rcases this with e | e <;> simp [e] <;> omega
        · exact mayF_ok r h y e
set_option maxHeartbeats 4000000 in
theorem may_any (a : Option Addr) (n c : Nat) (l : List Sn) (W : World) (hs : Sl W a n c 14 (scs l)) (h8 : S8 l) (hn : n ≤ 1000) :
    Calls Try.prog 30 #[.slice a n c] W fun e w' => e = .returned (.int .i64 (mayE l)) ∧ Below W.heap.size W w' := by
  have HS := hidd hs
  have H8 := hidd h8
  have HL := hidd (show l.length = n by have := hs.len; rw [scs_len h8] at this; omega)
  clear hs h8
  go_enter Try.func30, Try.ntmps30
  go_wp2
  go_loopw [3, 8] (fun e i wr => ∃ (k : Nat) (er : Int), k ≤ n ∧ i = .int .i64 k ∧ e = .int .i64 er ∧ mayE l = mayF er (l.drop k) ∧ Below W.heap.size W wr) (fun _ i _ => n - (intOf i).toNat)
  case atStart => exact ⟨0, 0, by omega, rfl, rfl, rfl, Below.refl _ _⟩
  case round =>
    obtain ⟨k, er, hk, rfl, rfl, hm, hbel⟩ := hrel
    have HW := hidd hbel
    have HM := hidd hm
    rcases Nat.lt_or_ge k n with hlt | hge
    · obtain ⟨b, off, p, rfl, hp, hp8, hc⟩ := sn_at (HS.out.grow hbel) H8.out k hlt
      obtain ⟨K, A, B, C, kk, b0, b1, b2, b3, b4, b5, b6, b7, E, rfl⟩ := sn8 hp8
      obtain ⟨c0, c1, c2, c3, c4, c5, c6, c7, c8, c9, c10, c11, c12, c13⟩ := sn_cells hc
      have hd : l.drop k = (⟨K, A, B, C, kk, [b0, b1, b2, b3, b4, b5, b6, b7], E⟩ : Sn) :: l.drop (k + 1) := by
        obtain ⟨hk', e⟩ := List.getElem?_eq_some_iff.1 hp
        rw [← e]
        exact List.drop_eq_getElem_cons hk'
      rw [hd] at hm
      unfold mayF at hm
      have i0 : (0 : Int) ≤ (k : Int) := by omega
      have i1 : (k : Int) < (n : Int) := by omega
      by_cases hK : K ≠ 1 ∧ K ≠ 2
      · rw [if_pos hK] at hm
        have HM2 := hidd hm
        have k1 : (K != 1) = true := by simpa using hK.1
        have k2 : (K != 2) = true := by simpa using hK.2
        have k3 : ¬ K = 1 := hK.1
        have k4 : ¬ K = 2 := hK.2
        clear hm hc hd hp hp8 hbel hK
        go_wp2
        go_ret
        exact ⟨by rw [HM2.out]; rfl, HW.out.alloc HW.out.size _⟩
      · rw [if_neg hK] at hm
        by_cases hkk : kk < 0 ∨ 32 ≤ kk
        · rw [if_pos hkk] at hm
          have HM2 := hidd hm
          clear hm hc hd hp hp8 hbel
          rcases (show K = 1 ∨ K = 2 by omega) with rfl | rfl
          · clear hK
            rcases hkk with hkk | hkk
            · go_wp2
              exact ⟨⟨k + 1, 230, by omega, by push_cast; rfl, rfl, HM2.out, HW.out.alloc HW.out.size _⟩, by simp [intOf]; omega⟩
            · go_wp2
              exact ⟨⟨k + 1, 230, by omega, by push_cast; rfl, rfl, HM2.out, HW.out.alloc HW.out.size _⟩, by simp [intOf]; omega⟩
          · clear hK
            rcases hkk with hkk | hkk
            · go_wp2
              exact ⟨⟨k + 1, 230, by omega, by push_cast; rfl, rfl, HM2.out, HW.out.alloc HW.out.size _⟩, by simp [intOf]; omega⟩
            · go_wp2
              exact ⟨⟨k + 1, 230, by omega, by push_cast; rfl, rfl, HM2.out, HW.out.alloc HW.out.size _⟩, by simp [intOf]; omega⟩
        · rw [if_neg hkk] at hm
          have HM2 := hidd hm
          have k1 : 0 ≤ kk := by omega
          have k2 : kk < 32 := by omega
          clear hm hc hd hp hp8 hbel hkk
          rcases (show K = 1 ∨ K = 2 by omega) with rfl | rfl
          · clear hK
            go_wp2
            exact ⟨⟨k + 1, er, by omega, by push_cast; rfl, rfl, HM2.out, HW.out.alloc HW.out.size _⟩, by simp [intOf]; omega⟩
          · clear hK
            go_wp2
            exact ⟨⟨k + 1, er, by omega, by push_cast; rfl, rfl, HM2.out, HW.out.alloc HW.out.size _⟩, by simp [intOf]; omega⟩
    · obtain rfl : k = n := by omega
      rw [List.drop_of_length_le (by rw [HL.out]; exact Nat.le_refl _)] at hm
      have HM2 := hidd hm
      clear hm hbel
      go_wp2
      go_ret
      exact ⟨by rw [HM2.out]; rfl, HW.out⟩
end Go.Proofs.Ytdoicmjomlaoaaa
