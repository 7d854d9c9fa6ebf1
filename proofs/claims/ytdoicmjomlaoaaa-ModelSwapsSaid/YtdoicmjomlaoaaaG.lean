/- Opening arrays of integers, and slices of arrays of bytes. -/
import Derived.Test.YtdoicmjomlaoaaaF
namespace Go.Proofs.Ytdoicmjomlaoaaa
open Go Go.RowKit
theorem trod_arr {H : Type} {enc : TypeId × Value → H} {P : Program} {w : World} {base : Nat} {sp : Nat → Bool} {held : Bool} {fuel : Nat} {t e : TypeId} {n : Nat} {k : IntKind} {cs : List Value} {x : DataW H × List MemPlace}
    (ht : P.underlying t = some (.array n e)) (he : P.underlying e = some (.int k)) (hce : P.cellsOf e = 1) (hct : P.cellsOf t = n)
    (h : DataW.trod enc P w base sp held fuel t cs = some x) : ∃ zs : List Int, zs.length = n ∧ cs = zs.map (Value.int k) ∧ ∀ z ∈ zs, (Lit.int k z).wf = true := by
  obtain ⟨xs, m, rfl, rfl, hl, hn, hel⟩ := DataW.trod_array ht h
  rw [hct] at hl
  have hcell : ∀ i, i < n → ∃ z : Int, cs[i]? = some (.int k z) ∧ (Lit.int k z).wf = true := by
    intro i hi
    have h1 := hel i hi
    rw [hce, Nat.mul_one, List.getElem?_eq_getElem (by omega)] at h1
    obtain ⟨z, hz, _, hw⟩ := DataW.trod_int he h1
    refine ⟨z, ?_, hw⟩
    have := congrArg (fun l => l[0]?) hz
    simpa [List.getElem?_take, List.getElem?_drop] using this
  refine ⟨(List.range n).map fun i => (match (cs[i]? : Option Value) with | some (Value.int _ z) => z | _ => (0 : Int)), by simp, ?_, ?_⟩
  · apply List.ext_getElem?
    intro i
    rw [List.getElem?_map, List.getElem?_map]
    rcases Nat.lt_or_ge i n with hi | hi
    · obtain ⟨z, hz, _⟩ := hcell i hi
      rw [List.getElem?_range hi, Option.map_some, hz]
      simp
    · rw [List.getElem?_eq_none (by omega), List.getElem?_eq_none (by simpa using hi)]
      rfl
  · intro z hz
    rw [List.mem_map] at hz
    obtain ⟨i, hi, hzi⟩ := hz
    rw [List.mem_range] at hi
    obtain ⟨z', hz', hh⟩ := hcell i hi
    rw [hz'] at hzi
    simp only at hzi
    rw [← hzi]
    exact hh
theorem ints_bs {zs : List Int} (h : ∀ z ∈ zs, (Lit.int .u8 z).wf = true) : zs.map (Value.int .u8) = bs (zs.map fun z => UInt8.ofNat z.toNat) := by
  unfold bs
  rw [List.map_map]
  apply List.map_congr_left
  intro z hz
  have := bounds_u8 (h z hz)
  simp
  omega
/-- cells of an array of bytes -/
def QB8 (cs : List Value) : Prop := ∃ l : List UInt8, l.length = 8 ∧ cs = bs l
theorem rows_bs : ∀ (n : Nat) (xs : List Value), xs.length = n * 8 → (∀ i, i < n → QB8 ((xs.drop (i * 8)).take 8)) → ∃ L : List UInt8, L.length = n * 8 ∧ xs = bs L
  | 0, xs, hl, _ => ⟨[], rfl, by rw [List.eq_nil_of_length_eq_zero (l := xs) (by omega)]; rfl⟩
  | n + 1, xs, hl, h => by
    obtain ⟨l, h8, hl8⟩ := h 0 (by omega)
    rw [Nat.zero_mul, List.drop_zero] at hl8
    obtain ⟨L, hL, hx⟩ := rows_bs n (xs.drop 8) (by rw [List.length_drop]; omega) (fun i hi => by
      have := h (i + 1) (by omega)
      rw [Nat.succ_mul, Nat.add_comm] at this
      rwa [List.drop_drop])
    refine ⟨l ++ L, by simp [h8, hL]; omega, ?_⟩
    rw [bs_append, ← hl8, ← hx, List.take_append_drop]
end Go.Proofs.Ytdoicmjomlaoaaa
