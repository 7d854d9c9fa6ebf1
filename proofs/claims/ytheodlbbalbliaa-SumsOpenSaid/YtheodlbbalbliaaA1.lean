import Derived.Test.YtheodlbbalbliaaQ4
import Derived.Test.YtheodlbbalbliaaP2
namespace Go.Proofs.Ytheodlbbalbliaa
open Go.RowKit
theorem Bs.reads {w : World} {a : Option Addr} {n c : Nat} {l : List UInt8} (h : Bs w a n c l) : Reads w a l := by
  intro i hi
  exact h.at i (by rw [← h.len]; exact hi)
theorem sum_bs {w : World} {a : Option Addr} {n c : Nat} {l : List UInt8} (h : Bs w a n c l) (hl : n ≤ 30000) :
    Calls Try.prog 12 #[.slice a n c] w fun e w' => e = .returned (.int .u32 (U (jn 0 l))) ∧ Below w.heap.size w w' := by
  have e := h.len
  subst e
  exact sum_any a l c w h.reads (by omega)
theorem join_bs {w : World} {a : Option Addr} {n c : Nat} {l : List UInt8} (s : BitVec 32) (h : Bs w a n c l) (hl : n ≤ 30000) :
    Calls Try.prog 11 #[.int .u32 (U s), .slice a n c] w fun e w' => e = .returned (.int .u32 (U (jn s l))) ∧ Below w.heap.size w w' := by
  have e := h.len
  subst e
  exact join_any s a l c w h.reads (by omega)
def sealL (l : List UInt8) : List UInt8 := l ++ le 4 (jn 0 l).toNat
theorem U_bytes (x : BitVec 32) : U x % 256 = ((byteOf x.toNat 0).toNat : Int) ∧ U x / 256 % 256 = ((byteOf x.toNat 1).toNat : Int) ∧ U x / 65536 % 256 = ((byteOf x.toNat 2).toNat : Int) ∧ U x / 16777216 = ((byteOf x.toNat 3).toNat : Int) := by
  have hx := x.isLt
  have h0 := byteOf_int x.toNat 0
  have h1 := byteOf_int x.toNat 1
  have h2 := byteOf_int x.toNat 2
  have h3 := byteOf_int x.toNat 3
  unfold U
  refine ⟨?_, ?_, ?_, ?_⟩
  · simpa using h0
  · simpa using h1
  · simpa using h2
  · rw [← h3]; simp; omega
theorem bs_le4 (x : BitVec 32) : bs (le 4 x.toNat) = [.int .u8 ((byteOf x.toNat 0).toNat : Int), .int .u8 ((byteOf x.toNat 1).toNat : Int), .int .u8 ((byteOf x.toNat 2).toNat : Int), .int .u8 ((byteOf x.toNat 3).toNat : Int)] := rfl
set_option maxHeartbeats 1000000 in
theorem seal_any (a : Option Addr) (n c : Nat) (l : List UInt8) (w : World) (h : Bs w a n c l) (hl : n ≤ 20000) :
    Calls Try.prog 25 #[.slice a n c] w fun e w' => ∃ a' c', e = .returned (.slice a' (n + 4) c') ∧ w'.ownsRow w.heap.size 5 1 (.slice a' (n + 4) c') (n + 4) (bs (sealL l)) ∧ Below w.heap.size w w' := by
  have HH := hidd h
  have hle := h.le
  have hcut := h.cut 0 n n (by omega) (by omega) (by omega) h.le
  have hlen := h.len
  rw [List.drop_zero, List.take_of_length_le (by omega)] at hcut
  have HC := hidd (show Bs w (cutAt a 0 n 1) n n l from by simpa using hcut)
  clear h hcut hlen
  obtain ⟨x, hx⟩ : ∃ x, x = jn 0 l := ⟨_, rfl⟩
  have HX := hidd hx
  obtain ⟨e0, e1, e2, e3⟩ := U_bytes x
  have hu0 := U_lo x
  have hu1 := U_hi x
  have hb4 := bs_le4 x
  have HB4 := hidd hb4
  generalize byteOf x.toNat 0 = b0 at e0 HB4
  generalize byteOf x.toNat 1 = b1 at e1 HB4
  generalize byteOf x.toNat 2 = b2 at e2 HB4
  generalize byteOf x.toNat 3 = b3 at e3 HB4
  clear hx hb4
  go_enter Try.func25, Try.ntmps25
  go_wp2_with (first | (go_at_call 12; refine (sum_bs HH.out (by omega)).mono ?_; rintro e w1 ⟨rfl, hb1⟩; rw [← HX.out]; have HB1 := hidd hb1; clear hb1) | (with_reducible refine wpList_cut_hm bT rfl (.tmp 6) (.tmp 8) (.tmp 10) rfl a n c .i64 .i64 n n rfl rfl rfl (by omega) (by omega) (by omega) ?_) | (at_builtin; refine wpList_app_new bT rfl (.tmp 11) (.tmp 23) rfl (cutAt a 0 n 1) n n (bs l) rfl ((HC.out.grow HB1.out).grow ((Below.refl _ _).alloc (Nat.le_refl _) _)) (some ⟨w1.heap.size, 0, none⟩) 4 4 [_, _, _, _] rfl (Sl.fresh w1 _ 5 4 1 rfl (by decide)) (by intro u hu; simp at hu; rcases hu with rfl | rfl | rfl | rfl <;> rfl) (by omega) (by omega) (by omega) ?_; intro v' w2 hown hb2))
  obtain ⟨a', c', rfl, _⟩ := own_Sl hown
  go_ret
  refine ⟨_, _, rfl, ?_, ?_⟩
  · rw [sealL, bs_append, ← HX.out, HB4.out]
    exact own_mono hown (by have := HB1.out.size; simp; omega)
  · exact (HB1.out.alloc HB1.out.size _).trans (hb2.mono (by have := HB1.out.size; simp; omega))
end Go.Proofs.Ytheodlbbalbliaa
