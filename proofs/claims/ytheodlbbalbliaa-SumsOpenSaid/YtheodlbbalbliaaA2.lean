import Derived.Test.YtheodlbbalbliaaA1
import Derived.Test.YtheodlbbalbliaaM3
namespace Go.Proofs.Ytheodlbbalbliaa
open Go.RowKit
theorem bit0 (x : BitVec 32) : bits .and .u32 (U x) 1 = if x.getLsbD 0 then 1 else 0 := by
  have h : bits .and .u32 (U x) 1 = U (x &&& 1#32) := b_and x 1#32
  rw [h]
  have e : x &&& 1#32 = if x.getLsbD 0 then 1#32 else 0#32 := by
    apply BitVec.eq_of_getLsbD_eq
    intro i hi
    cases hx : x.getLsbD 0
    · cases i <;> simp_all
    · cases i <;> simp_all
  rw [e]
  split <;> rfl
theorem U_shr1 (x : BitVec 32) : U x / (2 : Int) = U (x >>> 1) := b_shr1 x
theorem U_xc (x : BitVec 32) : bits .xor .u32 (U x) 3988292384 = U (x ^^^ 0xEDB88320#32) := b_xor x 0xEDB88320#32
set_option maxHeartbeats 1000000 in
theorem rem_any (r : BitVec 32) (b : UInt8) (w : World) :
    Calls Try.prog 35 #[.int .u32 (U r), .int .u8 (b.toNat : Int)] w fun e w' => e = .returned (.int .u32 (U (stp r b))) ∧ w = w' := by
  have hy := b.toNat_lt
  have e0 : bits .xor .u32 (U r) (b.toNat : Int) = U (r ^^^ BitVec.ofNat 32 b.toNat) := b_byte r b
  have HS := hidd (stp_hs r b)
  generalize r ^^^ BitVec.ofNat 32 b.toNat = x at e0 HS
  go_enter Try.func35, Try.ntmps35
  go_wp2
  go_loop [0, 5] (fun z i => ∃ k : Nat, k ≤ 8 ∧ i = .int .i64 k ∧ z = .int .u32 (U (hsN k x))) (fun _ i => 8 - (intOf i).toNat)
  case atStart => exact ⟨0, by omega, rfl, rfl⟩
  case round =>
    obtain ⟨k, hk, rfl, rfl⟩ := hrel
    by_cases hlt : k < 8
    · have h1 := bit0 (hsN k x)
      have h2 := U_shr1 (hsN k x)
      have h3 := U_xc (hsN k x >>> 1)
      have hif := hs_if (hsN k x)
      have hl := U_lo (hsN k x)
      have hh := U_hi (hsN k x)
      have hN : hs (hsN k x) = hsN (k + 1) x := rfl
      cases hb : (hsN k x).getLsbD 0
      · rw [hb] at h1 hif
        simp only [Bool.false_eq_true, if_false, BitVec.xor_zero] at h1 hif
        rw [← hif, hN] at h2
        clear hif h3 hb hN
        go_wp2
        go_round
        case rel => exact ⟨k + 1, by omega, by go_num, by first | rfl | rw [h2]⟩
        case measure => simp [intOf]; omega
      · rw [hb] at h1 hif
        simp only [if_true] at h1 hif
        rw [← hif, hN] at h3
        clear hif hb hN
        go_wp2
        go_round
        case rel => exact ⟨k + 1, by omega, by go_num, by first | rfl | rw [h2, h3]⟩
        case measure => simp [intOf]; omega
    · obtain rfl : k = 8 := by omega
      go_wp2
      go_ret
      exact ⟨by rw [HS.out]; rfl, rfl⟩
set_option maxHeartbeats 1000000 in
theorem rjoin_any (s : BitVec 32) (a : Option Addr) (n c : Nat) (l : List UInt8) (w : World) (h : Bs w a n c l) (hn : n ≤ 30000) :
    Calls Try.prog 24 #[.int .u32 (U s), .slice a n c] w fun e w' => e = .returned (.int .u32 (U (jn s l))) ∧ w = w' := by
  have h1 : IntKind.u32.signed = false := rfl
  have h2 : IntKind.u32.max = 4294967295 := rfl
  have h3 := U_not s
  have hl := h.len
  have HL := hidd hl
  have HH := hidd h
  clear h hl
  go_enter Try.func24, Try.ntmps24
  go_wp2
  go_loop [5, 6] (fun z i => ∃ k : Nat, k ≤ n ∧ i = .int .i64 k ∧ z = .int .u32 (U (thr (~~~ s) (l.take k)))) (fun _ i => n - (intOf i).toNat)
  case atStart => exact ⟨0, by omega, rfl, rfl⟩
  case round =>
    obtain ⟨k, hk, rfl, rfl⟩ := hrel
    by_cases hlt : k < n
    · obtain ⟨b, off, rfl, hc⟩ := HH.out.at k hlt
      have hthr := thr_take (~~~ s) l k (by rw [HL.out]; exact hlt)
      generalize l.getD k 0 = y at hc hthr
      have HT := hidd hthr
      have hyl := y.toNat_lt
      clear hthr
      go_wp2_with (go_at_call 35; refine (rem_any _ _ _).mono ?_; rintro e w1 ⟨rfl, rfl⟩; rw [← HT.out])
      go_round
      case rel => exact ⟨k + 1, by omega, by go_num, rfl⟩
      case measure => simp [intOf]; omega
    · obtain rfl : k = n := by omega
      rw [List.take_of_length_le (by rw [HL.out]; exact Nat.le_refl _)]
      have h4 := U_not (thr (~~~ s) l)
      have h5 : U (~~~ thr (~~~ s) l) = U (jn s l) := rfl
      go_wp2
      go_ret
      exact ⟨rfl, rfl⟩
set_option maxHeartbeats 400000 in
theorem rsum_any (a : Option Addr) (n c : Nat) (l : List UInt8) (w : World) (h : Bs w a n c l) (hn : n ≤ 30000) :
    Calls Try.prog 23 #[.slice a n c] w fun e w' => e = .returned (.int .u32 (U (jn 0 l))) ∧ w = w' := by
  have h0 : ((0 : Int)) = U 0 := rfl
  have H := hidd h0
  clear h0
  go_enter Try.func23, Try.ntmps23
  go_wp2_with (go_at_call 24; rw [H.out]; refine (rjoin_any _ _ _ _ _ _ h hn).mono ?_; rintro e w1 ⟨rfl, rfl⟩)
  go_ret
  exact ⟨rfl, rfl⟩
set_option maxHeartbeats 1000000 in
theorem rseal_any (a : Option Addr) (n c : Nat) (l : List UInt8) (w : World) (h : Bs w a n c l) (hl : n ≤ 20000) :
    Calls Try.prog 26 #[.slice a n c] w fun e w' => ∃ a' c', e = .returned (.slice a' (n + 4) c') ∧ w'.ownsRow w.heap.size 5 1 (.slice a' (n + 4) c') (n + 4) (bs (sealL l)) ∧ Below w.heap.size w w' := by
  have HH := hidd h
  clear h
  obtain ⟨x, hx⟩ : ∃ x, x = jn 0 l := ⟨_, rfl⟩
  have HX := hidd hx
  obtain ⟨e0, e1, e2, e3⟩ := U_bytes x
  have hu0 := U_lo x
  have hu1 := U_hi x
  have hb4 := bs_le4 x
  have HB4 := hidd hb4
  generalize byteOf x.toNat 0 = b0 at e0 HB4
  generalize byteOf x.toNat 1 = b1 at e1 HB4
  generalize byteOf x.toNat 2 = b2 at e2 HB4
  generalize byteOf x.toNat 3 = b3 at e3 HB4
  clear hx hb4
  go_enter Try.func26, Try.ntmps26
  go_wp2_with (first | (go_at_call 23; refine (rsum_any _ _ _ _ _ HH.out (by omega)).mono ?_; rintro e w1 ⟨rfl, rfl⟩; rw [← HX.out]) | (at_builtin; refine wpList_app bT rfl (.tmp 7) (.tmp 8) rfl w.heap.size (.slice none 0 0) 0 [] rfl (World.ownsRow_nil _ _ _ _) a n c (bs l) rfl HH.out (bs_one l) (by omega) (by omega) (Nat.le_refl _) ?_; intro v' w1 hown _ hbel; rw [Nat.zero_add, List.nil_append] at hown) | (at_builtin; refine wpList_app bT rfl (.tmp 10) (.tmp 22) rfl w.heap.size _ n (bs l) rfl (hown.alloc _) (some ⟨w1.heap.size, 0, none⟩) 4 4 [_, _, _, _] rfl (Sl.fresh w1 _ 5 4 1 rfl (by decide)) (by intro u hu; simp at hu; rcases hu with rfl | rfl | rfl | rfl <;> rfl) (by omega) (by omega) (by have := hbel.size; simp; omega) ?_; intro v2 w2 hown2 _ hbel2))
  obtain ⟨a', c', rfl, _⟩ := own_Sl hown2
  go_ret
  refine ⟨_, _, rfl, ?_, (hbel.alloc hbel.size _).trans hbel2⟩
  rw [sealL, bs_append, ← HX.out, HB4.out]
  exact hown2
end Go.Proofs.Ytheodlbbalbliaa
