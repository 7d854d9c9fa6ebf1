import Derived.Test.YtdoicmjomlaoaaaRows
import Derived.Test.YtdoicmjomlaoaaaG
import Derived.WalkSpells
import Derived.WalkLawsBesides
import Derived.Deep.QuietTactic
import Derived.BigQuiet
namespace Go.Proofs.Ytdoicmjomlaoaaa
open Go.RowKit
theorem ret_b {a b : Bool} (h : a = b) : Ending.returned (.bool a) = Ending.returned (.bool b) := by rw [h]
/-- a write: its block, its bytes -/
abbrev Wr := Int × List UInt8
def wc (p : Wr) : List Value := .int .i64 p.1 :: bs p.2
def wcs (l : List Wr) : List Value := l.flatMap wc
def W8 (l : List Wr) : Prop := ∀ p ∈ l, p.2.length = 8
theorem wc_len {p : Wr} (h : p.2.length = 8) : (wc p).length = 9 := by simp [wc, bs_length, h]
theorem wcs_len : ∀ {l : List Wr}, W8 l → (wcs l).length = l.length * 9
  | [], _ => rfl
  | p :: r, h => by
    have h1 := wcs_len (l := r) (fun q hq => h q (List.mem_cons_of_mem _ hq))
    have h2 := wc_len (h p List.mem_cons_self)
    simp only [wcs, List.flatMap_cons, List.length_append, List.length_cons] at h1 ⊢
    omega
theorem wcs_append (l m : List Wr) : wcs (l ++ m) = wcs l ++ wcs m := by simp [wcs]
theorem wcs_one (p : Wr) : wcs [p] = wc p := by simp [wcs]
theorem wcs_cell : ∀ (l : List Wr), ∀ u ∈ wcs l, u.oneCell' = true := by
  intro l u hu
  simp only [wcs, List.mem_flatMap, wc, List.mem_cons] at hu
  obtain ⟨p, _, h | h⟩ := hu
  · subst h; rfl
  · exact bs_one _ u h
theorem wcs_drop : ∀ (l : List Wr) (k : Nat), W8 l → (wcs l).drop (k * 9) = wcs (l.drop k)
  | l, 0, _ => by simp
  | [], k + 1, _ => by simp [wcs]
  | p :: r, k + 1, h => by
    have h2 := wc_len (h p List.mem_cons_self)
    have h1 := wcs_drop r k (fun q hq => h q (List.mem_cons_of_mem _ hq))
    rw [List.drop_succ_cons, ← h1, Nat.succ_mul, Nat.add_comm, ← List.drop_drop]
    congr 1
    simp only [wcs, List.flatMap_cons]
    rw [← h2, List.drop_left]
theorem wcs_take : ∀ (l : List Wr) (k : Nat), W8 l → (wcs l).take (k * 9) = wcs (l.take k)
  | l, 0, _ => by simp [wcs]
  | [], k + 1, _ => by simp [wcs]
  | p :: r, k + 1, h => by
    have h2 := wc_len (h p List.mem_cons_self)
    have h1 := wcs_take r k (fun q hq => h q (List.mem_cons_of_mem _ hq))
    rw [List.take_succ_cons]
    have e1 : wcs (p :: r) = wc p ++ wcs r := by simp [wcs]
    have e2 : wcs (p :: r.take k) = wc p ++ wcs (r.take k) := by simp [wcs]
    rw [e1, e2, ← h1, Nat.succ_mul, Nat.add_comm, List.take_append, h2, Nat.add_sub_cancel_left, List.take_of_length_le (by rw [h2]; omega)]
theorem wr8 {p : Wr} (h : p.2.length = 8) : ∃ B : Int, ∃ b0 b1 b2 b3 b4 b5 b6 b7 : UInt8, p = (B, [b0, b1, b2, b3, b4, b5, b6, b7]) := by
  obtain ⟨B, l⟩ := p
  match l, h with
  | [b0, b1, b2, b3, b4, b5, b6, b7], _ => exact ⟨B, b0, b1, b2, b3, b4, b5, b6, b7, rfl⟩
/-- The k-th write of a slice, cell by cell. -/
theorem wr_at {w : World} {a : Option Addr} {n c : Nat} {l : List Wr} (h : Sl w a n c 9 (wcs l)) (h8 : W8 l) (k : Nat) (hk : k < n) :
    ∃ b off, ∃ p : Wr, a = some ⟨b, off, none⟩ ∧ l[k]? = some p ∧ p.2.length = 8 ∧ ∀ j, j < 9 → w.cell? ⟨b, off + k * 9 + j, none⟩ = (wc p)[j]? := by
  have hl := h.len
  rw [wcs_len h8] at hl
  have hkl : k < l.length := by omega
  obtain ⟨b, off, rfl, _⟩ := h.cells (k * 9) (by rw [wcs_len h8]; omega)
  refine ⟨b, off, l[k], rfl, List.getElem?_eq_getElem hkl, h8 _ (List.getElem_mem _), fun j hj => ?_⟩
  obtain ⟨b', off', e, c1⟩ := h.cells (k * 9 + j) (by rw [wcs_len h8]; omega)
  injection e with e
  injection e with e1 e2
  subst e1 e2
  rw [Nat.add_assoc, c1]
  have e0 := congrArg (fun x => x[j]?) (wcs_drop l k h8)
  simp only [List.getElem?_drop] at e0
  rw [e0, List.drop_eq_getElem_cons hkl]
  simp only [wcs, List.flatMap_cons]
  rw [List.getElem?_append_left (by rw [wc_len (h8 _ (List.getElem_mem _))]; exact hj)]
/-- the same, each cell by itself -/
theorem wr_cells {w : World} {b o : Nat} {B : Int} {b0 b1 b2 b3 b4 b5 b6 b7 : UInt8} (h : ∀ j, j < 9 → w.cell? ⟨b, o + j, none⟩ = (wc (B, [b0, b1, b2, b3, b4, b5, b6, b7]))[j]?) :
    w.cell? ⟨b, o, none⟩ = some (.int .i64 B) ∧ w.cell? ⟨b, o + 1, none⟩ = some (.int .u8 (b0.toNat : Int)) ∧ w.cell? ⟨b, o + 2, none⟩ = some (.int .u8 (b1.toNat : Int)) ∧ w.cell? ⟨b, o + 3, none⟩ = some (.int .u8 (b2.toNat : Int)) ∧ w.cell? ⟨b, o + 4, none⟩ = some (.int .u8 (b3.toNat : Int)) ∧ w.cell? ⟨b, o + 5, none⟩ = some (.int .u8 (b4.toNat : Int)) ∧ w.cell? ⟨b, o + 6, none⟩ = some (.int .u8 (b5.toNat : Int)) ∧ w.cell? ⟨b, o + 7, none⟩ = some (.int .u8 (b6.toNat : Int)) ∧ w.cell? ⟨b, o + 8, none⟩ = some (.int .u8 (b7.toNat : Int)) :=
  ⟨h 0 (by decide), h 1 (by decide), h 2 (by decide), h 3 (by decide), h 4 (by decide), h 5 (by decide), h 6 (by decide), h 7 (by decide), h 8 (by decide)⟩
/-- cells of a write -/
def QW (cs : List Value) : Prop := ∃ p : Wr, p.2.length = 8 ∧ (-9223372036854775808 ≤ p.1 ∧ p.1 ≤ 9223372036854775807) ∧ cs = wc p
theorem QW_of {H : Type} {enc : TypeId × Value → H} {w : World} {base fuel : Nat} {spare : Nat → Bool} {held : Bool} {cs : List Value} {x : DataW H × List MemPlace} (h : DataW.trod enc Try.prog w base spare held fuel 26 cs = some x) : QW cs := by
  obtain ⟨xs, m, rfl, rfl, hl, hn, hf⟩ := DataW.trod_struct Try.underlying26 h
  have hl9 : cs.length = 9 := hl.trans (by kernel_rfl)
  have h0 : DataW.trod enc Try.prog w base spare held m 3 ((cs.drop 0).take (Try.prog.cellsOf 3)) = xs[0]? := hf 0 _ rfl
  have h1 : DataW.trod enc Try.prog w base spare held m 24 ((cs.drop 1).take (Try.prog.cellsOf 24)) = xs[1]? := hf 1 _ rfl
  have c0 : Try.prog.cellsOf 3 = 1 := by kernel_rfl
  have c1 : Try.prog.cellsOf 24 = 8 := by kernel_rfl
  rw [c0, List.drop_zero, List.getElem?_eq_getElem (by rw [hn]; decide)] at h0
  rw [c1, List.getElem?_eq_getElem (by rw [hn]; decide)] at h1
  obtain ⟨B, hB, _, hw⟩ := DataW.trod_int Try.underlying3 h0
  obtain ⟨zs, hz, hzs, hwz⟩ := trod_arr Try.underlying24 Try.underlying5 (by kernel_rfl) (by kernel_rfl) h1
  refine ⟨(B, zs.map fun z => UInt8.ofNat z.toNat), by simpa using hz, bounds_i64 hw, ?_⟩
  rw [List.take_of_length_le (by simp; omega)] at hzs
  have e := List.take_append_drop 1 cs
  rw [hB, hzs, ints_bs hwz] at e
  exact e.symm
theorem rows_wr : ∀ (n : Nat) (xs : List Value), xs.length = n * 9 → (∀ i, i < n → QW ((xs.drop (i * 9)).take 9)) → ∃ l : List Wr, l.length = n ∧ W8 l ∧ (∀ p ∈ l, -9223372036854775808 ≤ p.1 ∧ p.1 ≤ 9223372036854775807) ∧ xs = wcs l
  | 0, xs, hl, _ => ⟨[], rfl, fun _ h => by simp at h, fun _ h => by simp at h, by rw [List.eq_nil_of_length_eq_zero (l := xs) (by omega)]; rfl⟩
  | n + 1, xs, hl, h => by
    obtain ⟨p, h8, hb, hp⟩ := h 0 (by omega)
    rw [Nat.zero_mul, List.drop_zero] at hp
    obtain ⟨l, hL, hL8, hLb, hx⟩ := rows_wr n (xs.drop 9) (by rw [List.length_drop]; omega) (fun i hi => by
      have := h (i + 1) (by omega)
      rw [Nat.succ_mul, Nat.add_comm] at this
      rwa [List.drop_drop])
    refine ⟨p :: l, by simp [hL], ?_, ?_, ?_⟩
    · intro q hq
      rcases List.mem_cons.1 hq with h | h
      · subst h; exact h8
      · exact hL8 q h
    · intro q hq
      rcases List.mem_cons.1 hq with h | h
      · subst h; exact hb
      · exact hLb q h
    · have e : wcs (p :: l) = wc p ++ wcs l := by simp [wcs]
      rw [e, ← hp, ← hx, List.take_append_drop]
end Go.Proofs.Ytdoicmjomlaoaaa
