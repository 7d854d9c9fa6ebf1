/- Arrays of integers by value: an element; the whole out of its block, into it. -/
import Derived.Test.YtdoicmjomlaoaaaL
import Derived.Laws.StructEq
namespace Go.Proofs.Ytdoicmjomlaoaaa
open Go Go.RowKit
def is (k : IntKind) (z : List Int) : List Value := z.map (Value.int k)
theorem is_len (k : IntKind) (z : List Int) : (is k z).length = z.length := by simp [is]
theorem is_at (k : IntKind) (z : List Int) (i : Nat) (h : i < z.length) : (is k z)[i]? = some (.int k (z.getD i 0)) := by simp [is, h]
theorem is_set (k : IntKind) (z : List Int) (i : Nat) (v : Int) : (is k z).set i (.int k v) = is k (z.set i v) := by simp [is, List.map_set]
/-- x[i] of an array by value. -/
theorem run_idx {P : Program} {t e : TypeId} {n : Nat} (k : IntKind) (hu : P.underlying t = some (.array n e)) (he : P.underlying e = some (.int k)) (hi : (P.info? e).map (·.size) = some 1) (z : List Int) (hz : z.length = n) (i : Nat) (h : i < n) (w : World) :
    (Instr.index t (.agg (is k z).toArray) (.int .i64 (i : Int))).run P w = .ok (.int k (z.getD i 0)) w := by
  obtain ⟨i0, hi0, hs⟩ := Option.map_eq_some_iff.1 hi
  have hg : (is k z).toArray[i * i0.size]? = some (.int k (z.getD i 0)) := by
    rw [hs, Nat.mul_one, List.getElem?_toArray, is_at k z i (by omega)]
  have hs' : (sizeOf e).run P w = .ok 1 w := by simp [sizeOf, typeInfo, hi0, hs]
  rw [hs] at hg
  simp only [Nat.mul_one] at hg
  simp [Instr.index, asIntOf, run_underlying hu, part, isAgg, hs', run_underlying he]
  rw [if_pos h]
  have hg' : (is k z)[i]? = some (.int k (z.getD i 0)) := by simpa using hg
  rw [hg']
  simp
/-- == of arrays, from that of their elements. -/
theorem run_eqIn_array {P : Program} (w : World) (d : Nat) (t e : TypeId) (n sz : Nat) (ht : P.underlying t = some (.array n e)) (hsz : (P.info? e).map (·.size) = some sz) (xs ys : Array Value) (X Y : Nat → Value) (r : Nat → Bool)
    (hX : ∀ i, i < n → (part e xs (i * sz)).run P w = .ok (X i) w) (hY : ∀ i, i < n → (part e ys (i * sz)).run P w = .ok (Y i) w) (hE : ∀ i, i < n → (Op.equalIn d e (X i) (Y i)).run P w = .ok (r i) w) :
    (Op.equalIn (d + 1) t (.agg xs) (.agg ys)).run P w = .ok ((List.range n).all r) w := by
  obtain ⟨i0, hi0, hs⟩ := Option.map_eq_some_iff.1 hsz
  have hsz' : ∀ w, (sizeOf e).run P w = .ok sz w := fun w => by simp [sizeOf, typeInfo, hi0, hs]
  rw [List.range_eq_range', Op.equalIn]
  simp only [Sem.run_bind, run_underlying ht, Result.andThen_ok, hsz', Std.Legacy.Range.forIn_eq_forIn_range', Std.Legacy.Range.size, Nat.sub_zero, Nat.add_sub_cancel, Nat.div_one]
  have hl : ∀ i ∈ List.range' 0 n 1, i < n := fun i hi => by simpa using (List.mem_range'_1.1 hi).2
  generalize List.range' 0 n 1 = l at hl ⊢
  induction l with
  | nil => simp
  | cons i l ih =>
    have hi : i < n := hl i (by simp)
    simp only [List.forIn_cons, Sem.run_bind, hX i hi, hY i hi, hE i hi, Result.andThen_ok, List.all_cons]
    cases hb : r i
    · simp
    · simp only [Bool.not_true, Bool.false_eq_true, if_false, Sem.run_pure, Result.andThen_ok, Bool.true_and]
      exact ih fun j hj => hl j (by simp [hj])
theorem all_range_eqD {α : Type} [BEq α] [LawfulBEq α] (d : α) : ∀ (xs ys : List α), xs.length = ys.length → ((List.range xs.length).all fun i => xs.getD i d == ys.getD i d) = (xs == ys)
  | [], [], _ => rfl
  | x :: xs, y :: ys, h => by
    have ih := all_range_eqD d xs ys (by simpa using h)
    rw [List.length_cons, List.range_succ_eq_map, List.all_cons, List.all_map]
    simp only [List.getD_cons_zero, Function.comp_def, List.getD_cons_succ, ih]
    simp [List.cons_beq_cons]
  | [], _ :: _, h => by simp at h
  | _ :: _, [], h => by simp at h
theorem run_part_int {P : Program} (w : World) (e : TypeId) (k : IntKind) (he : P.underlying e = some (.int k)) (xs : Array Value) (off : Nat) (z : Int) (h : xs[off]? = some (.int k z)) : (part e xs off).run P w = .ok (.int k z) w := by
  simp [part, isAgg, run_underlying he, h]
/-- == of arrays of integers. -/
theorem run_eqIn_ints {P : Program} (w : World) (d : Nat) (t e : TypeId) (n : Nat) (k : IntKind) (ht : P.underlying t = some (.array n e)) (he : P.underlying e = some (.int k)) (hsz : (P.info? e).map (·.size) = some 1) (xs ys : List Int) (hx : xs.length = n) (hy : ys.length = n) :
    (Op.equalIn (d + 2) t (.agg (is k xs).toArray) (.agg (is k ys).toArray)).run P w = .ok (xs == ys) w := by
  rw [← all_range_eqD 0 xs ys (hx.trans hy.symm), hx]
  refine run_eqIn_array w (d + 1) t e n 1 ht hsz _ _ (fun i => .int k (xs.getD i 0)) (fun i => .int k (ys.getD i 0)) _ (fun i hi => ?_) (fun i hi => ?_) (fun i hi => ?_)
  · exact run_part_int w e k he _ _ _ (by rw [Nat.mul_one, List.getElem?_toArray, is_at k xs i (by omega)])
  · exact run_part_int w e k he _ _ _ (by rw [Nat.mul_one, List.getElem?_toArray, is_at k ys i (by omega)])
  · rw [run_equalIn_int w d e k k _ _ he]
end Go.Proofs.Ytdoicmjomlaoaaa
