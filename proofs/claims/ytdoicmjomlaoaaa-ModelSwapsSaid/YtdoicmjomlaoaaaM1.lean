import Derived.Test.YtdoicmjomlaoaaaRows
import Derived.Test.YtdoicmjomlaoaaaG
import Derived.Test.YtdoicmjomlaoaaaJ
import Derived.Test.YtdoicmjomlaoaaaS
import Derived.Test.YtdoicmjomlaoaaaH
import Derived.WalkSpells
import Derived.WalkLawsBesides
import Derived.Deep.QuietTactic
import Derived.BigQuiet
import Derived.Stop.BytesEq
namespace Go.Proofs.Ytdoicmjomlaoaaa
open Go.RowKit
theorem ret_b {a b : Bool} (h : a = b) : Ending.returned (.bool a) = Ending.returned (.bool b) := by rw [h]
theorem heap_setCells {t : TypeId} {g : Nat} : ∀ (vs : List Value) (o : Nat) (w : World) (cs : List Value), w.heap[g]? = some (.cells cs.toArray t (0, 0)) → o + vs.length ≤ cs.length → (w.setCells g o vs).heap[g]? = some (.cells (cs.take o ++ vs ++ cs.drop (o + vs.length)).toArray t (0, 0))
  | [], o, w, cs, h, _ => by
    simpa [World.setCells] using h
  | v :: r, o, w, cs, h, hb => by
    simp only [List.length_cons] at hb
    have h1 := hs_same (i := o) (v := v) h
    rw [List.setIfInBounds_toArray] at h1
    have ih := heap_setCells r (o + 1) (w.setCell ⟨g, o, none⟩ v) (cs.set o v) h1 (by rw [List.length_set]; omega)
    simp only [World.setCells]
    rw [ih]
    congr 3
    have e1 : (cs.set o v).take (o + 1) = cs.take o ++ [v] := by
      rw [List.set_eq_take_append_cons_drop, if_pos (by omega), List.take_append, List.length_take, Nat.min_eq_left (by omega), Nat.add_sub_cancel_left, List.take_take, Nat.min_eq_right (by omega)]
      simp
    have e2 : (cs.set o v).drop (o + 1 + r.length) = cs.drop (o + (v :: r).length) := by
      rw [List.drop_set, if_pos (by omega), List.length_cons]
      congr 1
      omega
    rw [e1, e2]
    simp
theorem below_setC {B g : Nat} {a : World} (hg : B ≤ g) : ∀ (vs : List Value) (o : Nat) (w : World), Below B a w → Below B a (w.setCells g o vs)
  | [], _, _, h => h
  | v :: r, o, w, h => below_setC hg r (o + 1) _ (h.setCell (p := ⟨g, o, none⟩) hg v)
def over8 (H : List UInt8) (k : Nat) (v : List UInt8) : List UInt8 := H.take (k * 8) ++ v ++ H.drop (k * 8 + 8)
theorem over8_len (H : List UInt8) (k : Nat) (v : List UInt8) (hH : H.length = 256) (hk : k < 32) (hv : v.length = 8) : (over8 H k v).length = 256 := by
  unfold over8
  rw [List.length_append, List.length_append, List.length_take, List.length_drop]
  omega
theorem sz36 (H : List UInt8) (hH : H.length = 256) : (Try.prog.info? 36).map (·.size) = some (bs H).toArray.size := by
  rw [List.size_toArray, bs_length, hH]
  kernel_rfl
def z36 : List UInt8 := List.replicate 256 0
theorem zero36 (w : World) : (zeroValue 36).run Try.prog w = .ok (.agg (bs z36).toArray) w := by kernel_rfl
theorem z36_len : z36.length = 256 := by unfold z36; exact List.length_replicate
theorem bs_oneA (H : List UInt8) : (bs H).toArray.all (·.oneCell') = true := all_oneCell_toArray (bs_one H)
theorem size_setC (g : Nat) : ∀ (vs : List Value) (o : Nat) (w : World), (w.setCells g o vs).heap.size = w.heap.size
  | [], _, _ => rfl
  | v :: r, o, w => by
    simp only [World.setCells]
    rw [size_setC g r (o + 1)]
    simp [World.setCell]
theorem heap_setCo {g i : Nat} (h : i ≠ g) : ∀ {vs : List Value} {o : Nat} {w : World}, (w.setCells g o vs).heap[i]? = w.heap[i]?
  | [], _, _ => rfl
  | v :: r, o, w => by
    simp only [World.setCells]
    rw [heap_setCo h]
    exact heap_setCell_other w ⟨g, o, none⟩ i v h
theorem there_bs {w : World} {g : Nat} {H : List UInt8} {t : TypeId} (hg : w.heap[g]? = some (.cells (bs H).toArray t (0, 0))) (o n : Nat) (h : o + n ≤ H.length) : w.there g o n := by
  intro j hj
  refine ⟨?_, (blk hg).2 _⟩
  rw [(blk hg).1, List.getElem?_toArray, List.getElem?_eq_getElem (by rw [bs_length]; omega)]
  rfl
theorem heap_over8 {w : World} {g : Nat} {H : List UInt8} {t : TypeId} (hg : w.heap[g]? = some (.cells (bs H).toArray t (0, 0))) (k : Nat) (v : List UInt8) (hH : H.length = 256) (hk : k < 32) (hv : v.length = 8) :
    (w.setCells g (k * 8) (bs v)).heap[g]? = some (.cells (bs (over8 H k v)).toArray t (0, 0)) := by
  rw [heap_setCells (bs v) (k * 8) w (bs H) hg (by rw [bs_length, bs_length]; omega), bs_length, hv]
  unfold over8 bs
  rw [List.map_append, List.map_append, List.map_take, List.map_drop]
theorem bs_cut (X : List UInt8) (i : Nat) : (bs X).toArray.extract (i * 8) (i * 8 + 8) = (bs ((X.drop (i * 8)).take 8)).toArray := by
  apply Array.toList_inj.1
  rw [Array.toList_extract]
  simp only [List.extract, Nat.add_sub_cancel_left]
  unfold bs
  rw [List.map_take, List.map_drop]
theorem part24 (w : World) (X : List UInt8) (i : Nat) : (part 24 (bs X).toArray (i * 8)).run Try.prog w = .ok (.agg (bs ((X.drop (i * 8)).take 8)).toArray) w := by
  have h : (Try.prog.info? 24).map (·.size) = some 8 := by kernel_rfl
  obtain ⟨i0, hi0, hs⟩ := Option.map_eq_some_iff.1 h
  have hsz : (sizeOf 24).run Try.prog w = .ok 8 w := by simp [sizeOf, typeInfo, hi0, hs]
  simp [part, isAgg, run_underlying Try.underlying24]
  unfold bs
  rw [List.map_take, List.map_drop]
theorem eq36 (w : World) (X : List UInt8) (hX : X.length = 256) : (Op.equalIn 10000 36 (.agg (bs X).toArray) (.agg (bs X).toArray)).run Try.prog w = .ok true w := by
  have h := run_eqIn_array (P := Try.prog) w 9999 36 24 32 8 Try.underlying36 (by kernel_rfl) (bs X).toArray (bs X).toArray (fun i => .agg (bs ((X.drop (i * 8)).take 8)).toArray) (fun i => .agg (bs ((X.drop (i * 8)).take 8)).toArray) (fun _ => true) (fun i _ => part24 w X i) (fun i _ => part24 w X i) (fun i hi => by
    have hl : ((X.drop (i * 8)).take 8).length = 8 := by rw [List.length_take, List.length_drop]; omega
    have := run_equalIn_bytes (P := Try.prog) w 9997 24 5 8 Try.underlying24 Try.underlying5 (fun w => by
      have h : (Try.prog.info? 5).map (·.size) = some 1 := by kernel_rfl
      obtain ⟨i0, hi0, hs⟩ := Option.map_eq_some_iff.1 h
      simp [sizeOf, typeInfo, hi0, hs]) _ _ hl hl
    exact this.trans (by simp))
  rw [h]
  simp
/-- a step of a transaction: kind, stamp, incarnation, try, block, value, error -/
structure Sn where
  K : Int
  A : Int
  B : Int
  C : Int
  k : Int
  v : List UInt8
  E : Int
def sc (x : Sn) : List Value := .int .i8 x.K :: .int .i64 x.A :: .int .i64 x.B :: .int .i64 x.C :: .int .i64 x.k :: (bs x.v ++ [.int .i64 x.E])
def scs (l : List Sn) : List Value := l.flatMap sc
def S8 (l : List Sn) : Prop := ∀ p ∈ l, p.v.length = 8
theorem sc_len {p : Sn} (h : p.v.length = 8) : (sc p).length = 14 := by simp [sc, bs_length, h]
theorem scs_len : ∀ {l : List Sn}, S8 l → (scs l).length = l.length * 14
  | [], _ => rfl
  | p :: r, h => by
    have h1 := scs_len (l := r) (fun q hq => h q (List.mem_cons_of_mem _ hq))
    have h2 := sc_len (h p List.mem_cons_self)
    simp only [scs, List.flatMap_cons, List.length_append, List.length_cons] at h1 ⊢
    omega
theorem scs_append (l m : List Sn) : scs (l ++ m) = scs l ++ scs m := by simp [scs]
theorem scs_one (p : Sn) : scs [p] = sc p := by simp [scs]
theorem scs_cell : ∀ (l : List Sn), ∀ u ∈ scs l, u.oneCell' = true := by
  intro l u hu
  simp only [scs, List.mem_flatMap, sc, List.mem_cons, List.mem_append] at hu
  obtain ⟨p, _, h⟩ := hu
  rcases h with h | h | h | h | h | h | h
  · subst h; rfl
  · subst h; rfl
  · subst h; rfl
  · subst h; rfl
  · subst h; rfl
  · exact bs_one _ u h
  · simp at h
    subst h
    rfl
theorem scs_drop : ∀ (l : List Sn) (k : Nat), S8 l → (scs l).drop (k * 14) = scs (l.drop k)
  | l, 0, _ => by simp
  | [], k + 1, _ => by simp [scs]
  | p :: r, k + 1, h => by
    have h2 := sc_len (h p List.mem_cons_self)
    have h1 := scs_drop r k (fun q hq => h q (List.mem_cons_of_mem _ hq))
    rw [List.drop_succ_cons, ← h1, Nat.succ_mul, Nat.add_comm, ← List.drop_drop]
    congr 1
    simp only [scs, List.flatMap_cons]
    rw [← h2, List.drop_left]
theorem scs_take : ∀ (l : List Sn) (k : Nat), S8 l → (scs l).take (k * 14) = scs (l.take k)
  | l, 0, _ => by simp [scs]
  | [], k + 1, _ => by simp [scs]
  | p :: r, k + 1, h => by
    have h2 := sc_len (h p List.mem_cons_self)
    have h1 := scs_take r k (fun q hq => h q (List.mem_cons_of_mem _ hq))
    rw [List.take_succ_cons]
    have e1 : scs (p :: r) = sc p ++ scs r := by simp [scs]
    have e2 : scs (p :: r.take k) = sc p ++ scs (r.take k) := by simp [scs]
    rw [e1, e2, ← h1, Nat.succ_mul, Nat.add_comm, List.take_append, h2, Nat.add_sub_cancel_left, List.take_of_length_le (by rw [h2]; omega)]
theorem sn_at {w : World} {a : Option Addr} {n c : Nat} {l : List Sn} (h : Sl w a n c 14 (scs l)) (h8 : S8 l) (k : Nat) (hk : k < n) :
    ∃ b off, ∃ p : Sn, a = some ⟨b, off, none⟩ ∧ l[k]? = some p ∧ p.v.length = 8 ∧ ∀ j, j < 14 → w.cell? ⟨b, off + k * 14 + j, none⟩ = (sc p)[j]? := by
  have hl := h.len
  rw [scs_len h8] at hl
  have hkl : k < l.length := by omega
  obtain ⟨b, off, rfl, _⟩ := h.cells (k * 14) (by rw [scs_len h8]; omega)
  refine ⟨b, off, l[k], rfl, List.getElem?_eq_getElem hkl, h8 _ (List.getElem_mem _), fun j hj => ?_⟩
  obtain ⟨b', off', e, c1⟩ := h.cells (k * 14 + j) (by rw [scs_len h8]; omega)
  injection e with e
  injection e with e1 e2
  subst e1 e2
  rw [Nat.add_assoc, c1]
  have e0 := congrArg (fun x => x[j]?) (scs_drop l k h8)
  simp only [List.getElem?_drop] at e0
  rw [e0, List.drop_eq_getElem_cons hkl]
  simp only [scs, List.flatMap_cons]
  rw [List.getElem?_append_left (by rw [sc_len (h8 _ (List.getElem_mem _))]; exact hj)]
theorem sn8 {p : Sn} (h : p.v.length = 8) : ∃ K A B C k : Int, ∃ b0 b1 b2 b3 b4 b5 b6 b7 : UInt8, ∃ E : Int, p = ⟨K, A, B, C, k, [b0, b1, b2, b3, b4, b5, b6, b7], E⟩ := by
  obtain ⟨K, A, B, C, k, l, E⟩ := p
  match l, h with
  | [b0, b1, b2, b3, b4, b5, b6, b7], _ => exact ⟨K, A, B, C, k, b0, b1, b2, b3, b4, b5, b6, b7, E, rfl⟩
abbrev a24 (b0 b1 b2 b3 b4 b5 b6 b7 : UInt8) : Array Value := #[.int .u8 (b0.toNat : Int), .int .u8 (b1.toNat : Int), .int .u8 (b2.toNat : Int), .int .u8 (b3.toNat : Int), .int .u8 (b4.toNat : Int), .int .u8 (b5.toNat : Int), .int .u8 (b6.toNat : Int), .int .u8 (b7.toNat : Int)]
abbrev aggS (K A B C k : Int) (b0 b1 b2 b3 b4 b5 b6 b7 : UInt8) (E : Int) : Array Value := #[.int .i8 K, .int .i64 A, .int .i64 B, .int .i64 C, .int .i64 k, .int .u8 (b0.toNat : Int), .int .u8 (b1.toNat : Int), .int .u8 (b2.toNat : Int), .int .u8 (b3.toNat : Int), .int .u8 (b4.toNat : Int), .int .u8 (b5.toNat : Int), .int .u8 (b6.toNat : Int), .int .u8 (b7.toNat : Int), .int .i64 E]
theorem sn_cells {w : World} {g o : Nat} {K A B C k E : Int} {b0 b1 b2 b3 b4 b5 b6 b7 : UInt8} (h : ∀ j, j < 14 → w.cell? ⟨g, o + j, none⟩ = (sc ⟨K, A, B, C, k, [b0, b1, b2, b3, b4, b5, b6, b7], E⟩)[j]?) :
    w.cell? ⟨g, o, none⟩ = some (.int .i8 K) ∧ w.cell? ⟨g, o + 1, none⟩ = some (.int .i64 A) ∧ w.cell? ⟨g, o + 2, none⟩ = some (.int .i64 B) ∧ w.cell? ⟨g, o + 3, none⟩ = some (.int .i64 C) ∧ w.cell? ⟨g, o + 4, none⟩ = some (.int .i64 k) ∧ w.cell? ⟨g, o + 5, none⟩ = some (.int .u8 (b0.toNat : Int)) ∧ w.cell? ⟨g, o + 6, none⟩ = some (.int .u8 (b1.toNat : Int)) ∧ w.cell? ⟨g, o + 7, none⟩ = some (.int .u8 (b2.toNat : Int)) ∧ w.cell? ⟨g, o + 8, none⟩ = some (.int .u8 (b3.toNat : Int)) ∧ w.cell? ⟨g, o + 9, none⟩ = some (.int .u8 (b4.toNat : Int)) ∧ w.cell? ⟨g, o + 10, none⟩ = some (.int .u8 (b5.toNat : Int)) ∧ w.cell? ⟨g, o + 11, none⟩ = some (.int .u8 (b6.toNat : Int)) ∧ w.cell? ⟨g, o + 12, none⟩ = some (.int .u8 (b7.toNat : Int)) ∧ w.cell? ⟨g, o + 13, none⟩ = some (.int .i64 E) :=
  ⟨h 0 (by decide), h 1 (by decide), h 2 (by decide), h 3 (by decide), h 4 (by decide), h 5 (by decide), h 6 (by decide), h 7 (by decide), h 8 (by decide), h 9 (by decide), h 10 (by decide), h 11 (by decide), h 12 (by decide), h 13 (by decide)⟩
/-- may a step be? -/
def okS (x : Sn) : Bool := (x.K == 1 || x.K == 2) && decide (0 ≤ x.k) && decide (x.k < 32)
/-- cells of a step -/
def QS (cs : List Value) : Prop := ∃ p : Sn, p.v.length = 8 ∧ (-9223372036854775808 ≤ p.k ∧ p.k ≤ 9223372036854775807) ∧ (-128 ≤ p.K ∧ p.K ≤ 127) ∧ cs = sc p
end Go.Proofs.Ytdoicmjomlaoaaa
