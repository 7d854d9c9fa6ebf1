import Derived.Test.YtdoicmjomlaoaaaM6
namespace Go.Proofs.Ytdoicmjomlaoaaa
open Go.RowKit
set_option maxHeartbeats 4000000 in
theorem fill_no (H : List UInt8) (hH : H.length = 256) (a : Option Addr) (m c : Nat) (l : List Sn) (hm : m ≤ 1000) (W : World) (hs : Sl W a m c 14 (scs l)) (h8 : S8 l) (hmay : mayE l ≠ 0) :
    Calls Try.prog 18 #[.agg (bs H).toArray, .slice a m c] W fun e w' => e = .returned (.tuple #[.slice none 0 0, .int .i64 (mayE l)]) ∧ Below W.heap.size W w' := by
  have HS := hidd hs
  have H8 := hidd h8
  obtain ⟨er, her⟩ : ∃ er, er = mayE l := ⟨_, rfl⟩
  have hb : (er != 0) = true := by rw [her]; simpa using hmay
  have HER := hidd her
  rw [← her]
  clear hs h8 hmay her
  go_enter Try.func18, Try.ntmps18
  go_wp2_with (go_at_call 30; refine (may_any a m c l _ (HS.out.grow (((Below.refl _ W).alloc (Nat.le_refl _) _).alloc (by simp) _)) H8.out hm).mono ?_; rintro e w1 ⟨rfl, hb1⟩; rw [← HER.out]; have HA := hidd (after2 hb1); clear hb1; have c1 := (show Boxed w1 (W.heap.size + 1) 40 (.slice none 0 0) from HA.out.2.1).cell; have f1 := (show Boxed w1 (W.heap.size + 1) 40 (.slice none 0 0) from HA.out.2.1).frozen)
  exact bodyPost_ret (results_box Try.results18 _ _ (W.heap.size + 1) (.slice none 0 0) none 0 0 rfl rfl ((show Boxed w1 (W.heap.size + 1) 40 (.slice none 0 0) from HA.out.2.1).set _)) rfl ⟨rfl, HA.out.2.2.1.setCell (by simp) _⟩
end Go.Proofs.Ytdoicmjomlaoaaa
