import Derived.Test.YtdoicmjomlaoaaaOG
namespace Go.Proofs.Ytdoicmjomlaoaaa
open Go.RowKit
/-- one overlay over another -/
def ovL (a : List Wr) : List Wr → List Wr × Int
  | [] => (a, 0)
  | p :: r => if ptE a p = 0 then ovL (ptL a p) r else ([], ptE a p)
set_option maxRecDepth 100000 in
set_option maxHeartbeats 4000000 in
theorem over_any (a : Option Addr) (n c : Nat) (l : List Wr) (x : Option Addr) (q d : Nat) (m : List Wr) (W : World) (hs : Sl W a n c 9 (wcs l)) (h8 : W8 l) (hw : writtenB l = true) (hx : Sl W x q d 9 (wcs m)) (h8m : W8 m) (hwm : writtenB m = true) :
    Calls Try.prog 13 #[.slice a n c, .slice x q d] W fun e w' => ∃ a' c', e = .returned (.tuple #[.slice a' (ovL l m).1.length c', .int .i64 (ovL l m).2]) ∧ Sl w' a' (ovL l m).1.length c' 9 (wcs (ovL l m).1) ∧ Below W.heap.size W w' := by
  have HS := hidd hs
  have H8 := hidd h8
  have HL := hidd (show l.length = n by have := hs.len; rw [wcs_len h8] at this; omega)
  have HX := hidd hx
  have H8m := hidd h8m
  have HM := hidd (show m.length = q by have := hx.len; rw [wcs_len h8m] at this; omega)
  have HW0 := hidd hw
  have HWM := hidd hwm
  have n8 : n ≤ 8 := by have := writtenB_len hw; rw [HL.out] at this; exact this
  have q8 : q ≤ 8 := by have := writtenB_len hwm; rw [HM.out] at this; exact this
  clear hs h8 hx h8m hw hwm
  go_enter Try.func13, Try.ntmps13
  go_wp2_with fail
  refine (written_any a n c l W HS.out H8.out (by omega)).mono ?_
  rintro e w1 ⟨rfl, hb1⟩
  rw [HW0.out]
  have HB1 := hidd hb1
  clear hb1
  go_wp2_with fail
  refine (written_any x q d m w1 (HX.out.grow HB1.out) H8m.out (by omega)).mono ?_
  rintro e w2 ⟨rfl, hb2⟩
  rw [HWM.out]
  have HB2 := hidd (HB1.out.trans (hb2.mono HB1.out.size))
  have HS2 := hidd (HS.out.grow HB2.out)
  clear hb2
  go_wp2_with (at_builtin; refine wpList_app wT rfl (.tmp 16) (.tmp 17) rfl w2.heap.size _ 0 [] rfl (World.ownsRow_nil _ _ _ _) a n c (wcs l) rfl HS2.out (wcs_cell l) (by omega) (by omega) (Nat.le_refl _) ?_; intro v' w3 hown3 _ hb3; rw [Nat.zero_add, List.nil_append] at hown3; obtain ⟨a3, c3, hv, hs3⟩ := own_Sl hown3; have HV := hidd hv; have HS3 := hidd hs3; have HB3 := hidd (HB2.out.trans (hb3.mono HB2.out.size)); rw [hv]; clear hv hs3 hb3 hown3)
  go_loopw [4, 21] (fun v i wr => ∃ (k : Nat) (cur : List Wr) (a' : Option Addr) (c' : Nat), k ≤ q ∧ i = .int .i64 k ∧ v = .slice a' cur.length c' ∧ Sl wr a' cur.length c' 9 (wcs cur) ∧ W8 cur ∧ writtenB cur = true ∧ ovL l m = ovL cur (m.drop k) ∧ Below W.heap.size W wr) (fun _ i _ => q - (intOf i).toNat)
  case atStart => exact ⟨0, l, a3, c3, by omega, rfl, by rw [HL.out], by rw [HL.out]; exact HS3.out, H8.out, HW0.out, rfl, HB3.out⟩
  case round =>
    obtain ⟨k, cur, a', c', hk, rfl, rfl, hsl, hc8, hcw, hov, hbel⟩ := hrel
    obtain ⟨wo, rfl⟩ : ∃ wo, wo = wr := ⟨_, rfl⟩
    have HW := hidd hbel
    have HSL := hidd hsl
    have HC8 := hidd hc8
    have HCW := hidd hcw
    have HOV := hidd hov
    have hcl := writtenB_len hcw
    by_cases hlt : k < q
    · obtain ⟨b, off, p, rfl, hp, hp8, hc⟩ := wr_at (HX.out.grow hbel) H8m.out k hlt
      have HP8 := hidd hp8
      obtain ⟨B, b0, b1, b2, b3, b4, b5, b6, b7, rfl⟩ := wr8 hp8
      obtain ⟨c0, c1, c2, c3, c4, c5, c6, c7, c8⟩ := wr_cells hc
      have hd : m.drop k = (B, [b0, b1, b2, b3, b4, b5, b6, b7]) :: m.drop (k + 1) := by
        obtain ⟨hk', e⟩ := List.getElem?_eq_some_iff.1 hp
        rw [← e]
        exact List.drop_eq_getElem_cons hk'
      have HD := hidd hd
      have i0 : (0 : Int) ≤ (k : Int) := by omega
      have i1 : (k : Int) < (q : Int) := by omega
      obtain ⟨P, hP⟩ : ∃ P : Wr, P = (B, [b0, b1, b2, b3, b4, b5, b6, b7]) := ⟨_, rfl⟩
      have HPW := hidd (show (wc P).toArray = aggW B b0 b1 b2 b3 b4 b5 b6 b7 by rw [hP]; rfl)
      have HPP := hidd (show P.2.length = 8 by rw [hP]; rfl)
      have HD2 := hidd (show m.drop k = P :: m.drop (k + 1) by rw [hP]; exact hd)
      obtain ⟨cl, hcl2⟩ : ∃ cl, cl = cur.length := ⟨_, rfl⟩
      rw [← hcl2]
      have HCL := hidd hcl2
      have hbsz := hbel.size
      clear hp hp8 hbel hc hd hsl hc8 hcw hov hcl hP hcl2
      go_wp2_with fail
      have hput := put_any a' cl c' cur P _ (by rw [HCL.out]; exact HSL.out.grow ((Below.refl _ wo).alloc (Nat.le_refl _) (.cells (aggW B b0 b1 b2 b3 b4 b5 b6 b7) 26))) HC8.out (by have := writtenB_len HCW.out; rw [← HCL.out] at this; omega) HPP.out
      rw [HPW.out] at hput
      refine hput.mono ?_
      clear hput
      rintro e w4 ⟨a4, c4', rfl, hs4, hb4⟩
      have HS4 := hidd hs4
      have HB4 := hidd ((HW.out.alloc HW.out.size _).trans (hb4.mono (by have := HW.out.size; simp; omega)))
      clear hs4 hb4 c0 c1 c2 c3 c4 c5 c6 c7 c8
      have h8n := hidd (ptL_W8 (p := P) HC8.out HPP.out)
      have hovn := HOV.out
      rw [HD2.out] at hovn
      simp only [ovL] at hovn
      by_cases he : ptE cur P = 0
      · rw [if_pos he] at hovn
        have hwn : writtenB (ptL cur P) = true := by rw [ptL_ins he]; exact writtenB_ins he
        have HWN := hidd hwn
        have HON := hidd hovn
        rw [he]
        clear he hovn hwn
        go_wp2
        go_roundw
        case rel => exact ⟨k + 1, ptL cur P, a4, c4', by omega, by go_num, rfl, HS4.out, h8n.out, HWN.out, HON.out, HB4.out⟩
        case measure => simp [intOf]; omega
      · rw [if_neg he] at hovn
        have HON := hidd hovn
        obtain ⟨er, her⟩ : ∃ er, er = ptE cur P := ⟨_, rfl⟩
        have e0 : (er != 0) = true := by rw [her]; simp [he]
        rw [← her]
        have HER := hidd her
        clear he hovn her
        go_wp2
        go_ret2
        refine ⟨none, 0, by rw [HON.out, ← HER.out]; rfl, ?_, HB4.out⟩
        rw [HON.out]
        simpa [wcs] using Sl.none w4 9
    · obtain rfl : k = q := by omega
      have hovn := HOV.out
      rw [List.drop_of_length_le (by rw [HM.out]; exact Nat.le_refl _)] at hovn
      simp only [ovL] at hovn
      have HON := hidd hovn
      clear hovn hsl hc8 hcw hov hcl hbel
      go_wp2
      go_ret2
      refine ⟨a', c', by rw [HON.out]; rfl, ?_, HW.out⟩
      rw [HON.out]
      exact HSL.out
end Go.Proofs.Ytdoicmjomlaoaaa
