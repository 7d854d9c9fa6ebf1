import Derived.Test.YtheodlbbalbliaaV12
namespace Go.Proofs.Ytheodlbbalbliaa
open Go.RowKit
/-- cells of a pair of integers -/
def QP (cs : List Value) : Prop := ∃ N v : Int, cs = [.int .i64 N, .int .i64 v] ∧ (-9223372036854775808 ≤ N ∧ N ≤ 9223372036854775807) ∧ (-9223372036854775808 ≤ v ∧ v ≤ 9223372036854775807)
theorem QP_of {H : Type} {enc : TypeId × Value → H} {w : World} {base fuel : Nat} {spare : Nat → Bool} {held : Bool} {cs : List Value} {x : DataW H × List MemPlace} (h : DataW.trod enc Try.prog w base spare held fuel 54 cs = some x) : QP cs := by
  obtain ⟨zs, hl, rfl, hz⟩ := trod_arr Try.underlying54 Try.underlying3 (by kernel_rfl) (by kernel_rfl) h
  match zs, hl with
  | [N, v], _ => exact ⟨N, v, rfl, bounds_i64 (hz N (by simp)), bounds_i64 (hz v (by simp))⟩
theorem pair_at {w : World} {a : Option Addr} {n c : Nat} {xs : List Value} (h : Sl w a n c 2 xs) (hq : ∀ i, i < n → QP ((xs.drop (i * 2)).take 2)) (k : Nat) (hk : k < n) :
    ∃ b off, ∃ N v : Int, a = some ⟨b, off, none⟩ ∧ w.cell? ⟨b, off + k * 2, none⟩ = some (.int .i64 N) ∧ w.cell? ⟨b, off + k * 2 + 1, none⟩ = some (.int .i64 v) ∧ (-9223372036854775808 ≤ N ∧ N ≤ 9223372036854775807) ∧ (-9223372036854775808 ≤ v ∧ v ≤ 9223372036854775807) := by
  obtain ⟨N, v, he, hN, hv⟩ := hq k hk
  have hl := h.len
  obtain ⟨b, off, rfl, c0⟩ := h.cells (k * 2) (by omega)
  obtain ⟨b', off', e, c1⟩ := h.cells (k * 2 + 1) (by omega)
  injection e with e
  injection e with e1 e2
  subst e1 e2
  have h0 := congrArg (fun l => l[0]?) he
  have h1 := congrArg (fun l => l[1]?) he
  simp [List.getElem?_take, List.getElem?_drop] at h0 h1
  exact ⟨_, _, N, v, rfl, c0.trans h0, (by rw [Nat.add_assoc]; exact c1.trans h1), hN, hv⟩
theorem Bs_pre {w : World} {a : Option Addr} {n c : Nat} {l : List UInt8} (h : Bs w a n c l) (m : Nat) (hm : m ≤ n) : Bs w a m c (l.take m) := by
  have hl := h.len
  have hle := Sl.le h
  refine ⟨by rw [bs_length, List.length_take]; omega, by omega, Sl.max h, fun e => ⟨by have := Sl.nil h e; omega, (Sl.nil h e).2⟩, ?_⟩
  intro i hi
  rw [bs_length, List.length_take] at hi
  obtain ⟨b, off, ha, hc⟩ := Sl.cells h i (by rw [bs_length]; omega)
  refine ⟨b, off, ha, hc.trans ?_⟩
  unfold bs
  rw [List.getElem?_map, List.getElem?_map, List.getElem?_take, if_pos (by omega)]
theorem num_le : ∀ (w N : Nat), N < 256 ^ w → num (le w N) = N := by
  intro w
  induction w with
  | zero => intro N h; simp [le, num]; omega
  | succ w ih =>
    intro N h
    have e : le (w + 1) N = byteOf N 0 :: le w (N / 256) := by
      simp only [le, List.range_succ_eq_map, List.map_cons, List.map_map]
      congr 1
      apply List.map_congr_left
      intro k _
      unfold byteOf
      simp only [Function.comp]
      congr 1
      rw [Nat.div_div_eq_div_mul, Nat.pow_succ, Nat.mul_comm]
    rw [e, num, ih (N / 256) (by rw [Nat.pow_succ] at h; omega)]
    unfold byteOf
    simp
    omega
theorem fits_lt {N w : Nat} (h : fits N w = true) : N < 256 ^ w := by
  unfold fits at h
  simp only [Bool.and_eq_true, decide_eq_true_eq] at h
  obtain ⟨⟨⟨h1, h2⟩, h3⟩, h4⟩ := h
  rw [Int.toNat_natCast] at h4
  rw [show (256 : Int) = ((256 : Nat) : Int) from rfl, ← Int.natCast_pow] at h4
  exact Int.ofNat_lt.1 h4
theorem put_got (l : List UInt8) (N w : Nat) (h : fits N w = true) : num (((l ++ le w N).drop l.length).take w) = N := by
  rw [List.drop_left, List.take_of_length_le (by rw [le_len]; omega)]
  exact num_le w N (fits_lt h)
end Go.Proofs.Ytheodlbbalbliaa
