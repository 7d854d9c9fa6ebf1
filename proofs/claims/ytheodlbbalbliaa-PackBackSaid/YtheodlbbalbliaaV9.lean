import Derived.Test.YtheodlbbalbliaaV8
namespace Go.Proofs.Ytheodlbbalbliaa
open Go.RowKit
/-- what a reading of bytes as blocks gives -/
def rdM (l : List UInt8) : Nat := if l.length % 8 = 0 then l.length / 8 else 0
def rdE (l : List UInt8) : Int := if l.length % 8 = 0 then 0 else 40
def rdL (l : List UInt8) : List UInt8 := if l.length % 8 = 0 then l else []
theorem read_any (a : Option Addr) (n c : Nat) (l : List UInt8) (W : World) (hb : Bs W a n c l) (hm : n ≤ 8000) :
    Calls Try.prog 27 #[.slice a n c] W fun e w' => ∃ a' c', e = .returned (.tuple #[.slice a' (rdM l) c', .int .i64 (rdE l)]) ∧ Sl w' a' (rdM l) c' 8 (bs (rdL l)) ∧ Below W.heap.size W w' := by
  have hl := hb.len
  by_cases h : n % 8 = 0
  · refine (read_yes a n c (n / 8) l W hb (by omega) hm).mono ?_
    rintro e w1 ⟨a', c', rfl, ho, hbel⟩
    obtain ⟨a2, c2, e2, hs⟩ := own_Sl ho
    injection e2 with q1 q2 q3
    subst q1 q3
    exact ⟨a', c', by simp [rdM, rdE, hl, h], by simpa [rdM, rdL, hl, h] using hs, hbel⟩
  · refine (read_no a n c W h hm).mono ?_
    rintro e w1 ⟨rfl, hbel⟩
    exact ⟨none, 0, by simp [rdM, rdE, hl, h], by simpa [rdM, rdL, hl, h, bs] using Sl.none w1 8, hbel⟩
theorem rread_any (a : Option Addr) (n c : Nat) (l : List UInt8) (W : World) (hb : Bs W a n c l) (hm : n ≤ 8000) :
    Calls Try.prog 28 #[.slice a n c] W fun e w' => ∃ a' c', e = .returned (.tuple #[.slice a' (rdM l) c', .int .i64 (rdE l)]) ∧ Sl w' a' (rdM l) c' 8 (bs (rdL l)) ∧ Below W.heap.size W w' := by
  have hl := hb.len
  by_cases h : n % 8 = 0
  · refine (rread_yes a n c (n / 8) l W hb (by omega) hm).mono ?_
    rintro e w1 ⟨a', c', rfl, ho, hbel⟩
    obtain ⟨a2, c2, e2, hs⟩ := own_Sl ho
    injection e2 with q1 q2 q3
    subst q1 q3
    exact ⟨a', c', by simp [rdM, rdE, hl, h], by simpa [rdM, rdL, hl, h] using hs, hbel⟩
  · refine (rread_no a n c W h hm).mono ?_
    rintro e w1 ⟨rfl, hbel⟩
    exact ⟨none, 0, by simp [rdM, rdE, hl, h], by simpa [rdM, rdL, hl, h, bs] using Sl.none w1 8, hbel⟩
end Go.Proofs.Ytheodlbbalbliaa
