import Derived.Test.YtdoicmjomlaoaaaMH
namespace Go.Proofs.Ytdoicmjomlaoaaa
open Go.RowKit
set_option maxRecDepth 100000 in
set_option maxHeartbeats 4000000 in
theorem stays_no (H : List UInt8) (hH : H.length = 256) (a : Option Addr) (n c : Nat) (l : List Sn) (hn : n ≤ 100) (W : World) (hs : Sl W a n c 14 (scs l)) (h8 : S8 l) (hmay : mayE l ≠ 0) :
    Calls Try.prog 5 #[.agg (bs H).toArray, .slice a n c] W fun e w' => e = .returned (.bool true) ∧ Below W.heap.size W w' := by
  have HH := hidd hH
  have HS := hidd hs
  have H8 := hidd h8
  have HM := hidd hmay
  have HG := hidd (ha_new W (.cells (bs H).toArray 36))
  obtain ⟨er, her⟩ : ∃ er, er = mayE l := ⟨_, rfl⟩
  have hb : (er != 0) = true := by rw [her]; simpa using hmay
  have HER := hidd her
  have zv36 := zero36
  clear hs h8 hmay hH her
  go_enter Try.func5, Try.ntmps5
  go_wp2_with (first | (with_reducible refine wpList_load_row rfl 36 (.tmp 2) rfl W.heap.size rfl 36 (bs H).toArray (0, 0) _ HG.out Try.underlying36 rfl (sz36 H HH.out) ?_) | (go_at_call 16; refine (do_no H HH.out a n c l (by omega) _ (HS.out.grow ((Below.refl _ W).alloc (Nat.le_refl _) _)) H8.out HM.out).mono ?_; rintro e w1 ⟨rfl, hb1⟩; rw [← HER.out]; have HF := hidd (((Below.refl _ W).alloc (Nat.le_refl _) (.cells (bs H).toArray 36)).trans (hb1.mono (by simp))); clear hb1) | (with_reducible refine wpList_store_row rfl 36 (.tmp 5) (.tmp 22) rfl w1.heap.size (bs z36).toArray rfl rfl 36 (bs z36).toArray (ha_new w1 (.cells (bs z36).toArray 36)) (sz36 z36 z36_len) rfl (bs_oneA z36) ?_) | (go_at_call 15; refine (wakes26 _).mono ?_; rintro e w9 ⟨rfl, hb9⟩; have HB9 := hidd hb9; clear hb9))
  go_ret
  have h2 := HF.out
  have h3 : Below W.heap.size W ((w1.alloc (.cells (bs z36).toArray 36)).setRow w1.heap.size (bs z36).toArray) := below_setRow (h2.alloc h2.size _) h2.size _
  exact ⟨rfl, h3.trans (HB9.out.mono h3.size)⟩
set_option maxRecDepth 100000 in
set_option maxHeartbeats 4000000 in
theorem stays_long (H : List UInt8) (a : Option Addr) (n c : Nat) (h : 100 < n) (W : World) (m0 : n ≤ 9223372036854775807) :
    Calls Try.prog 5 #[.agg (bs H).toArray, .slice a n c] W fun e w' => e = .returned (.bool true) ∧ Below W.heap.size W w' := by
  have i0 : (100 : Int) < (n : Int) := by omega
  go_enter Try.func5, Try.ntmps5
  go_wp2_with (go_at_call 15; refine (wakes26 _).mono ?_; rintro e w9 ⟨rfl, hb9⟩; have HB9 := hidd hb9; clear hb9)
  go_ret
  exact ⟨rfl, ((Below.refl _ W).alloc (Nat.le_refl _) _).trans (HB9.out.mono (by simp))⟩
theorem stays_any (H : List UInt8) (hH : H.length = 256) (a : Option Addr) (n c : Nat) (l : List Sn) (W : World) (hs : Sl W a n c 14 (scs l)) (h8 : S8 l) :
    Calls Try.prog 5 #[.agg (bs H).toArray, .slice a n c] W fun e w' => e = .returned (.bool true) ∧ Below W.heap.size W w' := by
  have hl : l.length = n := by
    have := hs.len
    rw [scs_len h8] at this
    omega
  have hm := hs.max
  have hle := hs.le
  by_cases h : 100 < n
  · exact stays_long H a n c h W (by omega)
  · by_cases hmay : mayE l = 0
    · exact stays_yes H hH a n c l hl (by omega) W hs h8 hmay
    · exact stays_no H hH a n c l (by omega) W hs h8 hmay
/-- cells of a step, out of their reading -/
theorem QS_of {H : Type} {enc : TypeId × Value → H} {w : World} {base fuel : Nat} {spare : Nat → Bool} {held : Bool} {cs : List Value} {x : DataW H × List MemPlace} (h : DataW.trod enc Try.prog w base spare held fuel 49 cs = some x) : QS cs := by
  obtain ⟨xs, m, rfl, rfl, hl, hn, hf⟩ := DataW.trod_struct Try.underlying49 h
  have hl14 : cs.length = 14 := hl.trans (by kernel_rfl)
  have h0 : DataW.trod enc Try.prog w base spare held m 45 ((cs.drop 0).take (Try.prog.cellsOf 45)) = xs[0]? := hf 0 _ rfl
  have h1 : DataW.trod enc Try.prog w base spare held m 47 ((cs.drop 1).take (Try.prog.cellsOf 47)) = xs[1]? := hf 1 _ rfl
  have h2 : DataW.trod enc Try.prog w base spare held m 3 ((cs.drop 4).take (Try.prog.cellsOf 3)) = xs[2]? := hf 2 _ rfl
  have h3 : DataW.trod enc Try.prog w base spare held m 24 ((cs.drop 5).take (Try.prog.cellsOf 24)) = xs[3]? := hf 3 _ rfl
  have h4 : DataW.trod enc Try.prog w base spare held m 29 ((cs.drop 13).take (Try.prog.cellsOf 29)) = xs[4]? := hf 4 _ rfl
  have c0 : Try.prog.cellsOf 45 = 1 := by kernel_rfl
  have c1 : Try.prog.cellsOf 47 = 3 := by kernel_rfl
  have c2 : Try.prog.cellsOf 3 = 1 := by kernel_rfl
  have c3 : Try.prog.cellsOf 24 = 8 := by kernel_rfl
  have c4 : Try.prog.cellsOf 29 = 1 := by kernel_rfl
  rw [c0, List.drop_zero, List.getElem?_eq_getElem (by rw [hn]; decide)] at h0
  rw [c1, List.getElem?_eq_getElem (by rw [hn]; decide)] at h1
  rw [c2, List.getElem?_eq_getElem (by rw [hn]; decide)] at h2
  rw [c3, List.getElem?_eq_getElem (by rw [hn]; decide)] at h3
  rw [c4, List.getElem?_eq_getElem (by rw [hn]; decide)] at h4
  obtain ⟨K, hK, _, hwK⟩ := DataW.trod_int Try.underlying45 h0
  obtain ⟨E, hE, _, hwE⟩ := DataW.trod_int Try.underlying29 h4
  obtain ⟨k, hk, _, hwk⟩ := DataW.trod_int Try.underlying3 h2
  obtain ⟨zs, hz, hzs, hwz⟩ := trod_arr Try.underlying24 Try.underlying5 (by kernel_rfl) (by kernel_rfl) h3
  obtain ⟨ys, m1, e1, e2, hl1, hn1, hf1⟩ := DataW.trod_struct Try.underlying47 h1
  have d0 : DataW.trod enc Try.prog w base spare held m1 3 ((((cs.drop 1).take 3).drop 0).take (Try.prog.cellsOf 3)) = ys[0]? := hf1 0 _ rfl
  have d1 : DataW.trod enc Try.prog w base spare held m1 3 ((((cs.drop 1).take 3).drop 1).take (Try.prog.cellsOf 3)) = ys[1]? := hf1 1 _ rfl
  have d2 : DataW.trod enc Try.prog w base spare held m1 3 ((((cs.drop 1).take 3).drop 2).take (Try.prog.cellsOf 3)) = ys[2]? := hf1 2 _ rfl
  rw [c2, List.getElem?_eq_getElem (by rw [hn1]; decide)] at d0 d1 d2
  obtain ⟨A, hA, _, _⟩ := DataW.trod_int Try.underlying3 d0
  obtain ⟨B, hB, _, _⟩ := DataW.trod_int Try.underlying3 d1
  obtain ⟨C, hC, _, _⟩ := DataW.trod_int Try.underlying3 d2
  clear h0 h1 h2 h3 h4 d0 d1 d2 hf hf1 hl hl1
  have hbK : -128 ≤ K ∧ K ≤ 127 := by
    simp [Lit.wf, IntKind.min, IntKind.max, IntKind.signed, IntKind.bits] at hwK
    omega
  match cs, hl14 with
  | [x0, x1, x2, x3, x4, x5, x6, x7, x8, x9, x10, x11, x12, x13], _ =>
    simp at hK hA hB hC hk hE hzs
    have e8 : [x5, x6, x7, x8, x9, x10, x11, x12] = bs (zs.map fun z => UInt8.ofNat z.toNat) := by rw [← ints_bs hwz, ← hzs]
    refine ⟨⟨K, A, B, C, k, zs.map fun z => UInt8.ofNat z.toNat, E⟩, by simpa using hz, bounds_i64 hwk, hbK, ?_⟩
    show _ = .int .i8 K :: .int .i64 A :: .int .i64 B :: .int .i64 C :: .int .i64 k :: (bs (zs.map fun z => UInt8.ofNat z.toNat) ++ [.int .i64 E])
    rw [← e8, hK, hA, hB, hC, hk, hE]
    rfl
theorem rows_sn : ∀ (n : Nat) (xs : List Value), xs.length = n * 14 → (∀ i, i < n → QS ((xs.drop (i * 14)).take 14)) → ∃ l : List Sn, l.length = n ∧ S8 l ∧ xs = scs l
  | 0, xs, hl, _ => ⟨[], rfl, fun _ h => by simp at h, by rw [List.eq_nil_of_length_eq_zero (l := xs) (by omega)]; rfl⟩
  | n + 1, xs, hl, h => by
    obtain ⟨p, h8, _, _, hp⟩ := h 0 (by omega)
    rw [Nat.zero_mul, List.drop_zero] at hp
    obtain ⟨l, hL, hL8, hx⟩ := rows_sn n (xs.drop 14) (by rw [List.length_drop]; omega) (fun i hi => by
      have := h (i + 1) (by omega)
      rw [Nat.succ_mul, Nat.add_comm] at this
      rwa [List.drop_drop])
    refine ⟨p :: l, by simp [hL], ?_, ?_⟩
    · intro q hq
      rcases List.mem_cons.1 hq with h | h
      · subst h; exact h8
      · exact hL8 q h
    · have e : scs (p :: l) = sc p ++ scs l := by simp [scs]
      rw [e, ← hp, ← hx, List.take_append_drop]
end Go.Proofs.Ytdoicmjomlaoaaa
