/- Opening arguments that are structs and arrays of integers by value. -/
import Derived.Test.YtdoicmjomlaoaaaK
import Derived.Deep.Slices
namespace Go.Proofs.Ytdoicmjomlaoaaa
open Go Go.RowKit
theorem agg_ints {P : Program} {w : World} {r : Reach} {base : Nat} {t : TypeId} {v : Value} (k : IntKind) (d : TypeDesc) (hu : P.underlying t = some d) (hd : d.isRow = true) (ts : List TypeId) (hts : P.cellTypes P.depth t = some ts) (hn : P.cellsOf t = ts.length)
    (hk : ∀ u ∈ ts, P.underlying u = some (.int k)) (h : Value.okWide P w r base t v) : ∃ zs : List Int, zs.length = ts.length ∧ v = .agg (zs.map (Value.int k)).toArray ∧ ∀ z ∈ zs, k.has z := by
  have h' : ∃ cs, v = .agg cs ∧ cs.size = P.cellsOf t ∧ Row.okWide P w r base t cs := by
    simp only [Value.okWide, hu] at h
    cases d <;> first | exact h | simp [TypeDesc.isRow] at hd
  obtain ⟨cs, rfl, hs, ts', hts', ⟨m, hm⟩, hc⟩ := h'
  rw [hts] at hts'
  injection hts' with hts'
  subst hts'
  have hl : cs.size = ts.length := by rw [hs, hn]
  have hcell : ∀ i, i < ts.length → ∃ z : Int, cs[i]? = some (.int k z) ∧ k.has z := by
    intro i hi
    have hget : cs[i]? = some cs[i] := Array.getElem?_eq_getElem (by omega)
    obtain ⟨u, hu1, hu2⟩ := hc i _ hget
    rw [Nat.mod_eq_of_lt hi] at hu1
    have hmem : u ∈ ts := List.mem_of_getElem? hu1
    have huk := hk u hmem
    rw [hget]
    revert hu2
    generalize cs[i] = x
    intro hu2
    simp only [Cell.okWide, huk] at hu2
    cases x <;> simp_all [Cell.ok]
  refine ⟨(List.range ts.length).map fun i => (match (cs[i]? : Option Value) with | some (Value.int _ z) => z | _ => (0 : Int)), by simp, ?_, ?_⟩
  · congr 1
    apply Array.ext_getElem?
    intro i
    simp only [List.getElem?_toArray, List.map_map, List.getElem?_map]

    rcases Nat.lt_or_ge i ts.length with hi | hi
    · obtain ⟨z, hz, _⟩ := hcell i hi
      rw [List.getElem?_range hi, Option.map_some, hz]
      simp [hz]
    · rw [Array.getElem?_eq_none (by omega), List.getElem?_eq_none (by simpa using hi)]
      rfl
  · intro z hz
    rw [List.mem_map] at hz
    obtain ⟨i, hi, hzi⟩ := hz
    rw [List.mem_range] at hi
    obtain ⟨z', hz', hh⟩ := hcell i hi
    rw [hz'] at hzi
    simp only at hzi
    rw [← hzi]
    exact hh
theorem has_i64 {z : Int} (h : IntKind.i64.has z) : -9223372036854775808 ≤ z ∧ z ≤ 9223372036854775807 := by
  unfold IntKind.has at h
  simp [IntKind.min, IntKind.max, IntKind.signed, IntKind.bits] at h
  exact h
theorem has_u8 {z : Int} (h : IntKind.u8.has z) : 0 ≤ z ∧ z ≤ 255 := by
  unfold IntKind.has at h
  simp [IntKind.min, IntKind.max, IntKind.signed, IntKind.bits] at h
  exact h

/-- A slice that came in, of elements of sz cells: its cells; what the reading says of each element. -/
theorem open_elems {H : Type} {enc : TypeId × Value → H} {P : Program} {w : World} {base : Nat} {spare : Nat → Bool} {held : Bool} {t e : TypeId} {sz : Nat} {a : Option Addr} {len cap fuel : Nat} {x : DataW H × List MemPlace} (Q : List Value → Prop)
    (ht : P.underlying t = some (.slice e)) (hc : P.cellsOf e = sz) (hpos : 0 < sz) (hQ : ∀ fuel cs x, DataW.trod enc P w base spare held fuel e cs = some x → Q cs)
    (h : DataW.trod enc P w base spare held fuel t (Value.slice a len cap).cells.toList = some x) :
    ∃ xs : List Value, Sl w a len cap sz xs ∧ ∀ i, i < len → Q ((xs.drop (i * sz)).take sz) := by
  rcases Go.Deep.open_slice ht h with ⟨hcs, _⟩ | ⟨ad, l, c, m, n, D, Pl, hcs, hb, hl, hm, hmm, _, hel⟩
  · simp [Value.cells] at hcs
    obtain ⟨rfl, rfl, rfl⟩ := hcs
    exact ⟨[], Sl.none _ _, fun i hi => by omega⟩
  · simp [Value.cells] at hcs
    obtain ⟨rfl, rfl, rfl⟩ := hcs
    have hml : len ≤ m := by rw [hmm]; split <;> omega
    have hcell : ∀ i, i < len → ∃ cs', cs'.length = sz ∧ Q cs' ∧ ∀ j, j < sz → w.cell? ((ad.add (i * sz)).add j) = cs'[j]? := by
      intro i hi
      obtain ⟨cs', hcs', htr⟩ := hel i (by omega)
      rw [hc] at hcs'
      have hs := World.cells?_some hcs'
      refine ⟨cs', hs.2.1, hQ _ _ _ htr, fun j hj => ?_⟩
      exact hs.2.2 j hj
    have hspot : 0 < len → ad.spot = none := by
      intro h0
      obtain ⟨cs', hl', _, hc0⟩ := hcell 0 h0
      have h1 := hc0 0 hpos
      rw [List.getElem?_eq_getElem (by omega)] at h1
      have := World.cell?_spot h1
      simpa [Addr.add] using this
    obtain ⟨b, off, spot⟩ := ad
    refine ⟨(List.range (len * sz)).map fun q => (w.cell? ⟨b, off + q, none⟩).getD undef, ⟨by simp, hl, by unfold maxLen at hm; omega, fun e0 => by simp at e0, ?_⟩, ?_⟩
    · intro q hq
      simp only [List.length_map, List.length_range] at hq
      have hi : q / sz < len := Nat.div_lt_of_lt_mul (by rw [Nat.mul_comm]; exact hq)
      have hs := hspot (Nat.lt_of_le_of_lt (Nat.zero_le _) hi)
      simp only at hs
      subst hs
      obtain ⟨cs', hl', _, hc0⟩ := hcell (q / sz) hi
      have h1 := hc0 (q % sz) (Nat.mod_lt _ hpos)
      rw [Addr_add, Addr_add, Nat.add_assoc, Nat.mul_comm, Nat.div_add_mod, List.getElem?_eq_getElem (by rw [hl']; exact Nat.mod_lt _ hpos)] at h1
      refine ⟨b, off, rfl, ?_⟩
      rw [List.getElem?_map, List.getElem?_range hq, Option.map_some, h1]
      rfl
    · intro i hi
      have hs := hspot (by omega)
      simp only at hs
      subst hs
      obtain ⟨cs', hl', hq', hc0⟩ := hcell i hi
      have hle : i * sz + sz ≤ len * sz := by
        have : (i + 1) * sz ≤ len * sz := Nat.mul_le_mul_right _ hi
        rwa [Nat.succ_mul] at this
      have e : (((List.range (len * sz)).map fun q => (w.cell? ⟨b, off + q, none⟩).getD undef).drop (i * sz)).take sz = cs' := by
        apply List.ext_getElem?
        intro j
        rcases Nat.lt_or_ge j sz with hj | hj
        · rw [List.getElem?_take, if_pos hj, List.getElem?_drop, List.getElem?_map, List.getElem?_range (by omega), Option.map_some]
          have h1 := hc0 j hj
          rw [Addr_add, Addr_add, Nat.add_assoc] at h1
          rw [h1, List.getElem?_eq_getElem (by omega)]
          rfl
        · rw [List.getElem?_take, if_neg (by omega), List.getElem?_eq_none (by omega)]
      rw [e]
      exact hq'
end Go.Proofs.Ytdoicmjomlaoaaa
