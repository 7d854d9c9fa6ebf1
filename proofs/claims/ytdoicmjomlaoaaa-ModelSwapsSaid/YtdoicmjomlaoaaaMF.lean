import Derived.Test.YtdoicmjomlaoaaaME
namespace Go.Proofs.Ytdoicmjomlaoaaa
open Go.RowKit
set_option maxHeartbeats 4000000 in
theorem writes_yes (a : Option Addr) (m c : Nat) (l : List Sn) (hl : l.length = m) (hm : m ≤ 1000) (W : World) (hs : Sl W a m c 14 (scs l)) (h8 : S8 l) (hok : ∀ x ∈ l, okS x = true) :
    Calls Try.prog 17 #[.slice a m c] W fun e w' => ∃ a2 c2, e = .returned (.slice a2 (rsL (tcS l).2 32).length c2) ∧ Sl w' a2 (rsL (tcS l).2 32).length c2 1 (is .i64 (rsL (tcS l).2 32)) ∧ Below W.heap.size W w' := by
  have HS := hidd hs
  have H8 := hidd h8
  have HOK := hidd hok
  clear hs h8 hok
  go_enter Try.func17, Try.ntmps17
  go_wp2_with (go_at_call 29; refine (touched_any a m c l hl hm _ HS.out H8.out HOK.out).mono ?_; rintro e w1 ⟨a1, c1, a2, c2, rfl, hs1, hs2, hb1⟩; have S1 := hidd hs1; have S2 := hidd hs2; have B1 := hidd hb1; clear hs1 hs2 hb1)
  go_ret
  exact ⟨a2, c2, rfl, S2.out, B1.out⟩
set_option maxHeartbeats 4000000 in
theorem reads_yes (a : Option Addr) (m c : Nat) (l : List Sn) (hl : l.length = m) (hm : m ≤ 1000) (W : World) (hs : Sl W a m c 14 (scs l)) (h8 : S8 l) (hok : ∀ x ∈ l, okS x = true) :
    Calls Try.prog 33 #[.slice a m c] W fun e w' => ∃ a2 c2, e = .returned (.slice a2 (rsL (tcS l).1 32).length c2) ∧ Sl w' a2 (rsL (tcS l).1 32).length c2 1 (is .i64 (rsL (tcS l).1 32)) ∧ Below W.heap.size W w' := by
  have HS := hidd hs
  have H8 := hidd h8
  have HOK := hidd hok
  clear hs h8 hok
  go_enter Try.func33, Try.ntmps33
  go_wp2_with (go_at_call 29; refine (touched_any a m c l hl hm _ HS.out H8.out HOK.out).mono ?_; rintro e w1 ⟨a1, c1, a2, c2, rfl, hs1, hs2, hb1⟩; have S1 := hidd hs1; have S2 := hidd hs2; have B1 := hidd hb1; clear hs1 hs2 hb1)
  go_ret
  exact ⟨a1, c1, rfl, S1.out, B1.out⟩
def wS : Sn := ⟨2, 0, 0, 0, 3, [1, 0, 0, 0, 0, 0, 0, 0], 0⟩
def rS : Sn := ⟨1, 0, 0, 0, 3, [1, 0, 0, 0, 0, 0, 0, 0], 0⟩
abbrev wSL : Array Value := #[.int .i8 2, .int .i64 0, .int .i64 0, .int .i64 0, .int .i64 3, .int .u8 1, .int .u8 0, .int .u8 0, .int .u8 0, .int .u8 0, .int .u8 0, .int .u8 0, .int .u8 0, .int .i64 0]
abbrev rSL : Array Value := #[.int .i8 1, .int .i64 0, .int .i64 0, .int .i64 0, .int .i64 3, .int .u8 1, .int .u8 0, .int .u8 0, .int .u8 0, .int .u8 0, .int .u8 0, .int .u8 0, .int .u8 0, .int .i64 0]
abbrev wrL : Array Value := #[.int .i8 2, .int .i64 0, .int .i64 0, .int .i64 0, .int .i64 3, .int .u8 1, .int .u8 0, .int .u8 0, .int .u8 0, .int .u8 0, .int .u8 0, .int .u8 0, .int .u8 0, .int .i64 0, .int .i8 1, .int .i64 0, .int .i64 0, .int .i64 0, .int .i64 3, .int .u8 1, .int .u8 0, .int .u8 0, .int .u8 0, .int .u8 0, .int .u8 0, .int .u8 0, .int .u8 0, .int .i64 0]
abbrev rwL : Array Value := #[.int .i8 1, .int .i64 0, .int .i64 0, .int .i64 0, .int .i64 3, .int .u8 1, .int .u8 0, .int .u8 0, .int .u8 0, .int .u8 0, .int .u8 0, .int .u8 0, .int .u8 0, .int .i64 0, .int .i8 2, .int .i64 0, .int .i64 0, .int .i64 0, .int .i64 3, .int .u8 1, .int .u8 0, .int .u8 0, .int .u8 0, .int .u8 0, .int .u8 0, .int .u8 0, .int .u8 0, .int .i64 0]
theorem wSz : (Try.prog.info? 49).map (·.size) = some wSL.size := by kernel_rfl
theorem rSz : (Try.prog.info? 49).map (·.size) = some rSL.size := by kernel_rfl
theorem wr_told : decide ([wS, rS] = (fS z36 [wS, rS]).2) = true := by decide +kernel
theorem rw_told : decide ([rS, wS] = (fS z36 [rS, wS]).2) = false := by decide +kernel
theorem okWR : ∀ x ∈ [wS, rS], okS x = true := by decide
theorem okRW : ∀ x ∈ [rS, wS], okS x = true := by decide
theorem s8WR : S8 [wS, rS] := by unfold S8; decide
theorem s8RW : S8 [rS, wS] := by unfold S8; decide
theorem doWR_len : (doH z36 [wS, rS]).length = 256 := doH_len z36_len _ s8WR okWR
theorem doRW_len : (doH z36 [rS, wS]).length = 256 := doH_len z36_len _ s8RW okRW
theorem do_wr (W : World) (g : Nat) (hg : W.heap.size = g) : Calls Try.prog 16 #[.agg (bs z36).toArray, .slice (some ⟨g, 0, none⟩) 2 2] (W.alloc (.cells wrL 49)) fun e w' => (∃ A : List UInt8, A.length = 256 ∧ e = .returned (.tuple #[.agg (bs A).toArray, .bool true, .int .i64 0])) ∧ Below (W.alloc (.cells wrL 49)).heap.size (W.alloc (.cells wrL 49)) w' := by
  subst hg
  have h := do_yes z36 z36_len (some ⟨W.heap.size, 0, none⟩) 2 2 [wS, rS] rfl (by decide) (W.alloc (.cells wrL 49)) (Sl.fresh W (scs [wS, rS]) 49 2 14 rfl (by decide)) s8WR okWR rfl
  rw [wr_told] at h
  exact h.mono (fun e w' ⟨h1, h2⟩ => ⟨⟨_, doWR_len, h1⟩, h2⟩)
theorem do_rw (W : World) (g : Nat) (hg : W.heap.size = g) : Calls Try.prog 16 #[.agg (bs z36).toArray, .slice (some ⟨g, 0, none⟩) 2 2] (W.alloc (.cells rwL 49)) fun e w' => (∃ A : List UInt8, A.length = 256 ∧ e = .returned (.tuple #[.agg (bs A).toArray, .bool false, .int .i64 0])) ∧ Below (W.alloc (.cells rwL 49)).heap.size (W.alloc (.cells rwL 49)) w' := by
  subst hg
  have h := do_yes z36 z36_len (some ⟨W.heap.size, 0, none⟩) 2 2 [rS, wS] rfl (by decide) (W.alloc (.cells rwL 49)) (Sl.fresh W (scs [rS, wS]) 49 2 14 rfl (by decide)) s8RW okRW rfl
  rw [rw_told] at h
  exact h.mono (fun e w' ⟨h1, h2⟩ => ⟨⟨_, doRW_len, h1⟩, h2⟩)
theorem z36_sz (H : List UInt8) (hH : H.length = 256) : (bs z36).toArray.size = (bs H).toArray.size := by rw [List.size_toArray, List.size_toArray, bs_length, bs_length, z36_len, hH]
theorem after4 {W w1 : World} {A B C D : Obj} (hb : Below ((((W.alloc A).alloc B).alloc C).alloc D).heap.size ((((W.alloc A).alloc B).alloc C).alloc D) w1) :
    w1.heap[W.heap.size]? = some A ∧ w1.heap[W.heap.size + 1]? = some B ∧ w1.heap[W.heap.size + 1 + 1]? = some C ∧ Below W.heap.size W w1 := by
  have h := al3 W A B C
  refine ⟨blk_below hb ((ha_old (by first | (simp; done) | (simp; omega))).trans h.1) (by first | (simp; done) | (simp; omega)), blk_below hb ((ha_old (by first | (simp; done) | (simp; omega))).trans h.2.1) (by first | (simp; done) | (simp; omega)), blk_below hb ((ha_old (by first | (simp; done) | (simp; omega))).trans h.2.2) (by first | (simp; done) | (simp; omega)), ((be3 W A B C).alloc (by first | (simp; done) | (simp; omega)) _).trans (hb.mono (by first | (simp; done) | (simp; omega)))⟩
theorem row4 {W w1 : World} {X Y Z : Obj} {A : List UInt8} (h0 : w1.heap[W.heap.size]? = some X) (h1 : w1.heap[W.heap.size + 1]? = some Y) (h2 : w1.heap[W.heap.size + 1 + 1]? = some Z) (hb : Below W.heap.size W w1) :
    ((w1.alloc (.cells (bs z36).toArray 36)).setRow w1.heap.size (bs A).toArray).heap[W.heap.size]? = some X ∧ ((w1.alloc (.cells (bs z36).toArray 36)).setRow w1.heap.size (bs A).toArray).heap[W.heap.size + 1]? = some Y ∧ ((w1.alloc (.cells (bs z36).toArray 36)).setRow w1.heap.size (bs A).toArray).heap[W.heap.size + 1 + 1]? = some Z ∧ Below W.heap.size W ((w1.alloc (.cells (bs z36).toArray 36)).setRow w1.heap.size (bs A).toArray) := by
  have l0 := (Array.getElem?_eq_some_iff.1 h0).1
  have l1 := (Array.getElem?_eq_some_iff.1 h1).1
  have l2 := (Array.getElem?_eq_some_iff.1 h2).1
  exact ⟨(setRow_other _ _ _ _ (by omega)).trans ((ha_old l0).trans h0), (setRow_other _ _ _ _ (by omega)).trans ((ha_old l1).trans h1), (setRow_other _ _ _ _ (by omega)).trans ((ha_old l2).trans h2), below_setRow (hb.alloc hb.size _) hb.size _⟩
set_option maxRecDepth 100000 in
set_option maxHeartbeats 1000000 in
theorem wakes26 (W : World) : Calls Try.prog 15 #[] W fun e w' => e = .returned (.bool true) ∧ Below W.heap.size W w' := by
  have zv36 := zero36
  have HG := hidd (al3 W (.cells (bs z36).toArray 36) (.cells wSL 49) (.cells rSL 49))
  go_enter Try.func15, Try.ntmps15
  go_wp2_with (first | (with_reducible refine wpList_load_row rfl 36 (.tmp 1) rfl W.heap.size rfl 36 (bs z36).toArray (0, 0) _ HG.out.1 Try.underlying36 rfl (sz36 z36 z36_len) ?_) | (go_at_call 16; with_reducible refine (do_wr (((W.alloc (.cells (bs z36).toArray 36)).alloc (.cells wSL 49)).alloc (.cells rSL 49)) (W.heap.size + 1 + 1 + 1) (by simp)).mono ?_; rintro e w1 ⟨⟨A, hA, rfl⟩, hb1⟩; have HA := hidd hA; have HF := hidd (after4 hb1); clear hb1 hA) | (with_reducible refine wpList_store_row rfl 36 (.tmp 4) (.tmp 20) rfl w1.heap.size (bs A).toArray rfl rfl 36 (bs z36).toArray (ha_new w1 (.cells (bs z36).toArray 36)) (sz36 A HA.out) (z36_sz A HA.out) (bs_oneA A) ?_; have HR := hidd (row4 (A := A) HF.out.1 HF.out.2.1 HF.out.2.2.1 HF.out.2.2.2); generalize (w1.alloc (Obj.cells (bs z36).toArray 36)).setRow w1.heap.size (bs A).toArray = w2 at HR ⊢) | (with_reducible refine wpList_load_row rfl 36 (.tmp 1) rfl W.heap.size rfl 36 (bs z36).toArray (0, 0) _ HR.out.1 Try.underlying36 rfl (sz36 z36 z36_len) ?_) | (with_reducible refine wpList_load_row rfl 49 (.tmp 2) rfl (W.heap.size + 1) rfl 49 wSL (0, 0) _ HR.out.2.1 Try.underlying49 rfl wSz ?_) | (with_reducible refine wpList_load_row rfl 49 (.tmp 3) rfl (W.heap.size + 1 + 1) rfl 49 rSL (0, 0) _ HR.out.2.2.1 Try.underlying49 rfl rSz ?_) | (go_at_call 16; with_reducible refine (do_rw w2 w2.heap.size rfl).mono ?_; rintro e w3 ⟨⟨B, hB, rfl⟩, hb3⟩; have HB := hidd hB; have HC := hidd (((Below.refl _ w2).alloc (Nat.le_refl _) (.cells rwL 49)).trans (hb3.mono (by simp))); clear hb3 hB) | (with_reducible refine wpList_store_row rfl 36 (.tmp 7) (.tmp 29) rfl w3.heap.size (bs B).toArray rfl rfl 36 (bs z36).toArray (ha_new w3 (.cells (bs z36).toArray 36)) (sz36 B HB.out) (z36_sz B HB.out) (bs_oneA B) ?_))
  go_ret
  have h2 := HR.out.2.2.2
  have h3 := h2.trans (HC.out.mono h2.size)
  exact ⟨rfl, below_setRow (h3.alloc h3.size _) h3.size _⟩
end Go.Proofs.Ytdoicmjomlaoaaa
