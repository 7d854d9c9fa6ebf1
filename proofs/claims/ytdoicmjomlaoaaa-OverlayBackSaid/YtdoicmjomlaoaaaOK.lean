import Derived.Test.YtdoicmjomlaoaaaOJ
namespace Go.Proofs.Ytdoicmjomlaoaaa
open Go.RowKit
theorem bs_cut (X : List UInt8) (i : Nat) : (bs X).toArray.extract (i * 8) (i * 8 + 8) = (bs ((X.drop (i * 8)).take 8)).toArray := by
  apply Array.toList_inj.1
  rw [Array.toList_extract]
  simp only [List.extract, Nat.add_sub_cancel_left]
  unfold bs
  rw [List.map_take, List.map_drop]
theorem part24 (w : World) (X : List UInt8) (i : Nat) : (part 24 (bs X).toArray (i * 8)).run Try.prog w = .ok (.agg (bs ((X.drop (i * 8)).take 8)).toArray) w := by
  have h : (Try.prog.info? 24).map (·.size) = some 8 := by kernel_rfl
  obtain ⟨i0, hi0, hs⟩ := Option.map_eq_some_iff.1 h
  have hsz : (sizeOf 24).run Try.prog w = .ok 8 w := by simp [sizeOf, typeInfo, hi0, hs]
  simp [part, isAgg, run_underlying Try.underlying24]
  unfold bs
  rw [List.map_take, List.map_drop]
theorem eq36 (w : World) (X : List UInt8) (hX : X.length = 256) : (Op.equalIn 10000 36 (.agg (bs X).toArray) (.agg (bs X).toArray)).run Try.prog w = .ok true w := by
  have h := run_eqIn_array (P := Try.prog) w 9999 36 24 32 8 Try.underlying36 (by kernel_rfl) (bs X).toArray (bs X).toArray (fun i => .agg (bs ((X.drop (i * 8)).take 8)).toArray) (fun i => .agg (bs ((X.drop (i * 8)).take 8)).toArray) (fun _ => true) (fun i _ => part24 w X i) (fun i _ => part24 w X i) (fun i hi => by
    have hl : ((X.drop (i * 8)).take 8).length = 8 := by rw [List.length_take, List.length_drop]; omega
    have := run_equalIn_bytes (P := Try.prog) w 9997 24 5 8 Try.underlying24 Try.underlying5 (fun w => by
      have h : (Try.prog.info? 5).map (·.size) = some 1 := by kernel_rfl
      obtain ⟨i0, hi0, hs⟩ := Option.map_eq_some_iff.1 h
      simp [sizeOf, typeInfo, hi0, hs]) _ _ hl hl
    exact this.trans (by simp))
  rw [h]
  simp
end Go.Proofs.Ytdoicmjomlaoaaa
