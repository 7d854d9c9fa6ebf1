import Derived.Test.YtflmeannmfhhhaaS2
import Derived.Test.YtflmeannmfhhhaaR15
namespace Go.Proofs.Ytflmeannmfhhhaa
open Go.RowKit
attribute [local go_sem] run_store_complex
/-- where a block stands: its shard, its slot -/
def plc (z : List Int) (b : Nat) : Nat × Nat := ((z.getD (b / 4) 0).toNat, 4 * (z.take (b / 4)).count (z.getD (b / 4) 0) + b % 4)
def outF (z : List Int) (m : Nat) : List (Nat × Nat) := (List.range 32).map fun b => if b < m then plc z b else (0, 0)
def nxF (z : List Int) (i k : Nat) : List (Nat × Nat) := (List.range 5).map fun s => (s, 4 * (z.take i).count (s : Int) + if z[i]? = some (s : Int) then k else 0)
def nx0 (k : Nat) : List (Nat × Nat) := (List.range 5).map fun s => if s < k then (s, 0) else (0, 0)
theorem map_set {f g : Nat → Nat × Nat} {n m : Nat} {v : Nat × Nat} (hm : m < n) (hv : v = g m) (h : ∀ j, j < n → j ≠ m → f j = g j) : ((List.range n).map f).set m v = (List.range n).map g := by
  apply List.ext_getElem?
  intro i
  rcases Nat.lt_or_ge i n with hi | hi
  · by_cases e : i = m
    · subst e
      rw [List.getElem?_set_self (by simpa using hi), List.getElem?_map, List.getElem?_range hi, hv]
      rfl
    · rw [List.getElem?_set_ne (fun x => e x.symm), List.getElem?_map, List.getElem?_map, List.getElem?_range hi, Option.map_some, Option.map_some, h i hi e]
  · rw [List.getElem?_eq_none (by simpa using hi), List.getElem?_eq_none (by simpa using hi)]
theorem outF_set (z : List Int) (m : Nat) (hm : m < 32) : (outF z m).set m (plc z m) = outF z (m + 1) := by
  refine map_set hm (by rw [if_pos (by omega)]) (fun j _ hj => ?_)
  by_cases h : j < m
  · rw [if_pos h, if_pos (by omega)]
  · rw [if_neg h, if_neg (by omega)]
theorem nx0_set (k : Nat) (hk : k < 5) : (nx0 k).set k (k, 0) = nx0 (k + 1) := by
  refine map_set hk (by rw [if_pos (by omega)]) (fun j _ hj => ?_)
  by_cases h : j < k
  · rw [if_pos h, if_pos (by omega)]
  · rw [if_neg h, if_neg (by omega)]
theorem nx0_all (z : List Int) : nx0 5 = nxF z 0 0 := by
  unfold nx0 nxF
  apply List.map_congr_left
  intro s hs
  rw [List.mem_range] at hs
  rw [if_pos hs]
  simp
theorem nxF_set (z : List Int) (i k s : Nat) (hs : s < 5) (hz : z[i]? = some (s : Int)) : (nxF z i k).set s (s, 4 * (z.take i).count (s : Int) + k + 1) = nxF z i (k + 1) := by
  refine map_set hs (by rw [if_pos hz]; simp; omega) (fun j _ hj => ?_)
  have h : ¬ z[i]? = some (j : Int) := by
    rw [hz]
    intro e
    injection e with e
    omega
  rw [if_neg h, if_neg h]
theorem nxF_next (z : List Int) (i s : Nat) (hz : z[i]? = some (s : Int)) : nxF z i 4 = nxF z (i + 1) 0 := by
  unfold nxF
  apply List.map_congr_left
  intro j hj
  congr 1
  rw [List.take_add_one, hz]
  show _ = 4 * (z.take i ++ [(s : Int)]).count (j : Int) + _
  rw [List.count_append]
  by_cases h : s = j
  · subst h
    simp
    omega
  · have h1 : ¬ (s : Int) = (j : Int) := by omega
    simp [h1]
theorem nxF_at (z : List Int) (i k s : Nat) (hs : s < 5) (hz : z[i]? = some (s : Int)) : (nxF z i k)[s]? = some (s, 4 * (z.take i).count (s : Int) + k) := by
  unfold nxF
  rw [List.getElem?_map, List.getElem?_range hs, Option.map_some, if_pos hz]
theorem plc_at (z : List Int) (i k s : Nat) (hk : k < 4) (hz : z[i]? = some (s : Int)) : plc z (i * 4 + k) = (s, 4 * (z.take i).count (s : Int) + k) := by
  unfold plc
  have e1 : (i * 4 + k) / 4 = i := by omega
  have e2 : (i * 4 + k) % 4 = k := by omega
  rw [e1, e2, List.getD_eq_getElem?_getD, hz]
  rfl
theorem outF_len (z : List Int) (m : Nat) : (outF z m).length = 32 := by simp [outF]
theorem nxF_len (z : List Int) (i k : Nat) : (nxF z i k).length = 5 := by simp [nxF]
theorem nx0_len (k : Nat) : (nx0 k).length = 5 := by simp [nx0]
theorem cx00 : cx (0, 0) = .complex .f64 0 0 := by unfold cx; rw [fb_zero]
theorem rep_cx (n : Nat) : List.replicate n (Value.complex .f64 0 0) = (List.replicate n ((0, 0) : Nat × Nat)).map cx := by rw [List.map_replicate, cx00]
theorem zero62 (w : World) : (zeroValue 62).run Try.prog w = .ok (.agg (List.replicate 32 (Value.complex .f64 0 0)).toArray) w := by kernel_rfl
theorem zero76 (w : World) : (zeroValue 76).run Try.prog w = .ok (.agg (List.replicate 5 (Value.complex .f64 0 0)).toArray) w := by kernel_rfl
theorem out0 (z : List Int) : List.replicate 32 (Value.complex .f64 0 0) = (outF z 0).map cx := by
  rw [rep_cx]
  congr 1
theorem nx00 : List.replicate 5 (Value.complex .f64 0 0) = (nx0 0).map cx := by
  rw [rep_cx]
  congr 1
theorem sz62 (L : List (Nat × Nat)) (h : L.length = 32) : (Try.prog.info? 62).map (·.size) = some (L.map cx).toArray.size := by
  rw [List.size_toArray, List.length_map, h]
  kernel_rfl
theorem cx_one (L : List (Nat × Nat)) : (L.map cx).toArray.all (·.oneCell') = true := by
  rw [Array.all_eq_true_iff_forall_mem]
  intro v hv
  simp at hv
  obtain ⟨a, b, _, rfl⟩ := hv
  rfl
end Go.Proofs.Ytflmeannmfhhhaa
