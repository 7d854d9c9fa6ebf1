/- Opening arguments that are structs and arrays of integers by value. -/
import Derived.Test.YtfmadgaknaflfaaK
namespace Go.Proofs.Ytfmadgaknaflfaa
open Go Go.RowKit
theorem agg_ints {P : Program} {w : World} {r : Reach} {base : Nat} {t : TypeId} {v : Value} (k : IntKind) (d : TypeDesc) (hu : P.underlying t = some d) (hd : d.isRow = true) (ts : List TypeId) (hts : P.cellTypes P.depth t = some ts) (hn : P.cellsOf t = ts.length)
    (hk : ∀ u ∈ ts, P.underlying u = some (.int k)) (h : Value.okWide P w r base t v) : ∃ zs : List Int, zs.length = ts.length ∧ v = .agg (zs.map (Value.int k)).toArray ∧ ∀ z ∈ zs, k.has z := by
  have h' : ∃ cs, v = .agg cs ∧ cs.size = P.cellsOf t ∧ Row.okWide P w r base t cs := by
    simp only [Value.okWide, hu] at h
    cases d <;> first | exact h | simp [TypeDesc.isRow] at hd
  obtain ⟨cs, rfl, hs, ts', hts', ⟨m, hm⟩, hc⟩ := h'
  rw [hts] at hts'
  injection hts' with hts'
  subst hts'
  have hl : cs.size = ts.length := by rw [hs, hn]
  have hcell : ∀ i, i < ts.length → ∃ z : Int, cs[i]? = some (.int k z) ∧ k.has z := by
    intro i hi
    have hget : cs[i]? = some cs[i] := Array.getElem?_eq_getElem (by omega)
    obtain ⟨u, hu1, hu2⟩ := hc i _ hget
    rw [Nat.mod_eq_of_lt hi] at hu1
    have hmem : u ∈ ts := List.mem_of_getElem? hu1
    have huk := hk u hmem
    rw [hget]
    revert hu2
    generalize cs[i] = x
    intro hu2
    simp only [Cell.okWide, huk] at hu2
    cases x <;> simp_all [Cell.ok]
  refine ⟨(List.range ts.length).map fun i => (match (cs[i]? : Option Value) with | some (Value.int _ z) => z | _ => (0 : Int)), by simp, ?_, ?_⟩
  · congr 1
    apply Array.ext_getElem?
    intro i
    simp only [List.getElem?_toArray, List.map_map, List.getElem?_map]

    rcases Nat.lt_or_ge i ts.length with hi | hi
    · obtain ⟨z, hz, _⟩ := hcell i hi
      rw [List.getElem?_range hi, Option.map_some, hz]
      simp [hz]
    · rw [Array.getElem?_eq_none (by omega), List.getElem?_eq_none (by simpa using hi)]
      rfl
  · intro z hz
    rw [List.mem_map] at hz
    obtain ⟨i, hi, hzi⟩ := hz
    rw [List.mem_range] at hi
    obtain ⟨z', hz', hh⟩ := hcell i hi
    rw [hz'] at hzi
    simp only at hzi
    rw [← hzi]
    exact hh
theorem has_i64 {z : Int} (h : IntKind.i64.has z) : -9223372036854775808 ≤ z ∧ z ≤ 9223372036854775807 := by
  unfold IntKind.has at h
  simp [IntKind.min, IntKind.max, IntKind.signed, IntKind.bits] at h
  exact h
theorem has_u8 {z : Int} (h : IntKind.u8.has z) : 0 ≤ z ∧ z ≤ 255 := by
  unfold IntKind.has at h
  simp [IntKind.min, IntKind.max, IntKind.signed, IntKind.bits] at h
  exact h
end Go.Proofs.Ytfmadgaknaflfaa
