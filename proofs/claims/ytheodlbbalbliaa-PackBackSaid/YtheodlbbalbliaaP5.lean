import Derived.Test.YtheodlbbalbliaaP4
import Derived.Lib.SlBytesConst
namespace Go.Proofs.Ytheodlbbalbliaa
open Go.RowKit
def zero8 : Array Value := #[.int .u8 0, .int .u8 0, .int .u8 0, .int .u8 0, .int .u8 0, .int .u8 0, .int .u8 0, .int .u8 0]
theorem sz47 : (Try.prog.info? 47).map (·.size) = some 8 := by kernel_rfl
theorem bs_all (l : List UInt8) : (bs l).toArray.all (·.oneCell') = true := all_oneCell_toArray (bs_one l)
set_option maxHeartbeats 1000000 in
theorem value_yes (a : Option Addr) (c : Nat) (l : List UInt8) (W : World) (hb : Bs W a 8 c l) :
    Calls Try.prog 29 #[.slice a 8 c] W fun e w' => e = .returned (.tuple #[.agg (bs l).toArray, .int .i64 0]) ∧ Below W.heap.size W w' := by
  have HB := hidd hb
  have hl := hb.len
  have HL := hidd hl
  have hs : (Try.prog.info? 47).map (·.size) = some (bs l).toArray.size := by rw [sz47, List.size_toArray, bs_length, HL.out]
  have HS := hidd hs
  clear hb hl hs
  go_enter Try.func29, Try.ntmps29
  go_wp2_with (first | (with_reducible refine wpList_copy_all bT 47 rfl (.tmp 8) (.tmp 9) rfl 8 8 _ rfl rfl a c (bs l) rfl HB.out (bs_one l) (by decide) ?_) | (with_reducible refine wpList_load_new rfl 47 (.tmp 2) rfl (bs l).toArray 47 rfl _ Try.underlying47 rfl HS.out ?_) | (with_reducible refine wpList_store_new rfl 47 (.tmp 2) (.tmp 11) rfl (bs l).toArray (bs l).toArray 47 rfl rfl HS.out rfl (bs_all l) rfl ?_))
  refine bodyPost_ret (results_cell_one Try.results29 _ _ W.heap.size 47 (bs l).toArray (0, 0) _ rfl (heap_alloc_last W _) Try.underlying47 rfl HS.out) rfl ⟨rfl, ?_⟩
  exact (Below.refl _ _).alloc (Nat.le_refl _) _
set_option maxHeartbeats 1000000 in
theorem value_no (a : Option Addr) (n c : Nat) (W : World) (hn : n ≠ 8) (hm : n ≤ 100000) :
    Calls Try.prog 29 #[.slice a n c] W fun e w' => e = .returned (.tuple #[.agg zero8, .int .i64 2]) ∧ Below W.heap.size W w' := by
  have hn' : ((n : Int) == 8) = false := by simp; omega
  have hn2 : ((n : Int) != 8) = true := by simp; omega
  clear hn
  go_enter Try.func29, Try.ntmps29
  go_wp2
  refine bodyPost_ret (results_cell_one Try.results29 _ _ W.heap.size 47 zero8 (0, 0) _ rfl (heap_alloc_last W _) Try.underlying47 rfl sz47) rfl ⟨rfl, ?_⟩
  exact (Below.refl _ _).alloc (Nat.le_refl _) _
end Go.Proofs.Ytheodlbbalbliaa
