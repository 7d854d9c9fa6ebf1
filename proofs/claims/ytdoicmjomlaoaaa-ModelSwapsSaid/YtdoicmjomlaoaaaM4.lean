import Derived.Test.YtdoicmjomlaoaaaM3
namespace Go.Proofs.Ytdoicmjomlaoaaa
open Go.RowKit

/-- a block's bytes -/
def cut8 (H : List UInt8) (k : Nat) : List UInt8 := (H.drop (k * 8)).take 8
/-- the blocks behind a step -/
def stH (H : List UInt8) (x : Sn) : List UInt8 := if x.K = 2 then over8 H x.k.toNat x.v else H
/-- model.Fill, a step -/
def stF (s : List UInt8 × List Sn) (x : Sn) : List UInt8 × List Sn := (stH s.1 x, s.2 ++ [{ x with v := cut8 (stH s.1 x) x.k.toNat }])
def fS (H : List UInt8) (l : List Sn) : List UInt8 × List Sn := l.foldl stF (H, [])
theorem fS_snoc (H : List UInt8) (l : List Sn) (x : Sn) : fS H (l ++ [x]) = stF (fS H l) x := by
  unfold fS
  rw [List.foldl_append]
  rfl
theorem cut8_len {H : List UInt8} {k : Nat} (hH : H.length = 256) (hk : k < 32) : (cut8 H k).length = 8 := by
  unfold cut8
  rw [List.length_take, List.length_drop]
  omega
theorem cut8_over {H : List UInt8} {k : Nat} {v : List UInt8} (hH : H.length = 256) (hk : k < 32) (hv : v.length = 8) : cut8 (over8 H k v) k = v := by
  unfold cut8 over8
  rw [List.append_assoc, List.drop_left' (by rw [List.length_take]; omega), List.take_left' hv]
theorem stH_len {H : List UInt8} {x : Sn} (hH : H.length = 256) (h8 : x.v.length = 8) (hok : okS x = true) : (stH H x).length = 256 := by
  unfold stH
  unfold okS at hok
  simp at hok
  split
  · exact over8_len H _ _ hH (by omega) h8
  · exact hH
theorem fS_len (H : List UInt8) (l : List Sn) : (fS H l).2.length = l.length := by
  unfold fS
  have : ∀ (l : List Sn) (s : List UInt8 × List Sn), (l.foldl stF s).2.length = s.2.length + l.length := by
    intro l
    induction l with
    | nil => intro s; rfl
    | cons x r ih =>
      intro s
      rw [List.foldl_cons, ih]
      show (s.2 ++ [_]).length + _ = _
      rw [List.length_append, List.length_cons, List.length_cons, List.length_nil]
      omega
  rw [this]
  simp
theorem stF_len {s : List UInt8 × List Sn} {x : Sn} (h : s.1.length = 256 ∧ S8 s.2) (h8 : x.v.length = 8) (hok : okS x = true) : (stF s x).1.length = 256 ∧ S8 (stF s x).2 := by
  refine ⟨stH_len h.1 h8 hok, fun p hp => ?_⟩
  have hk : x.k.toNat < 32 := by unfold okS at hok; simp at hok; omega
  rcases List.mem_append.1 hp with e | e
  · exact h.2 p e
  · simp at e
    subst e
    exact cut8_len (stH_len h.1 h8 hok) hk
theorem fS_ok {H : List UInt8} (hH : H.length = 256) : ∀ (l : List Sn) (s : List UInt8 × List Sn), (s.1.length = 256 ∧ S8 s.2) → S8 l → (∀ x ∈ l, okS x = true) → ((l.foldl stF s).1.length = 256 ∧ S8 (l.foldl stF s).2)
  | [], _, h, _, _ => h
  | x :: r, s, h, h8, hok => by
    rw [List.foldl_cons]
    exact fS_ok hH r _ (stF_len h (h8 x (by simp)) (hok x (by simp))) (fun p hp => h8 p (by simp [hp])) (fun p hp => hok p (by simp [hp]))
theorem ha_old {w : World} {o : Obj} {i : Nat} (h : i < w.heap.size) : (w.alloc o).heap[i]? = w.heap[i]? := ((Below.refl w.heap.size w).alloc (Nat.le_refl _) o).block i h
theorem ha_new (w : World) (o : Obj) : (w.alloc o).heap[w.heap.size]? = some o := World.alloc_heap_new w o
theorem al2 (W : World) (A B : Obj) : ((W.alloc A).alloc B).heap[W.heap.size]? = some A ∧ ((W.alloc A).alloc B).heap[W.heap.size + 1]? = some B := by
  have hs : (W.alloc A).heap.size = W.heap.size + 1 := by simp
  refine ⟨(ha_old (by omega)).trans (ha_new W A), ?_⟩
  rw [← hs]
  exact ha_new _ _
theorem after2 {W w1 : World} {A B : Obj} (hb : Below ((W.alloc A).alloc B).heap.size ((W.alloc A).alloc B) w1) :
    w1.heap[W.heap.size]? = some A ∧ w1.heap[W.heap.size + 1]? = some B ∧ Below W.heap.size W w1 ∧ W.heap.size + 2 ≤ w1.heap.size := by
  have h := al2 W A B
  have hs := hb.size
  refine ⟨blk_below hb h.1 (by simp; omega), blk_below hb h.2 (by simp), (((Below.refl _ W).alloc (Nat.le_refl _) _).alloc (by simp) _).trans (hb.mono (by simp; omega)), by simp at hs; omega⟩
theorem sT : ElT Try.prog 40 49 (.agg #[.int .i8 0, .int .i64 0, .int .i64 0, .int .i64 0, .int .i64 0, .int .u8 0, .int .u8 0, .int .u8 0, .int .u8 0, .int .u8 0, .int .u8 0, .int .u8 0, .int .u8 0, .int .i64 0]) 14 56 := ⟨Try.underlying40, by kernel_rfl, rfl, by decide⟩
end Go.Proofs.Ytdoicmjomlaoaaa
