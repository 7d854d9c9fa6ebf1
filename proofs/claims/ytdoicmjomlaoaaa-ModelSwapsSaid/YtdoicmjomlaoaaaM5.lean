import Derived.Test.YtdoicmjomlaoaaaM4
import Derived.Test.YtdoicmjomlaoaaaT
import Derived.Great.BuildSlice
import Derived.Laws.ResultCell
namespace Go.Proofs.Ytdoicmjomlaoaaa
open Go.RowKit Go.Shelf
theorem heapf_own {β : Type} (g : Nat) (f : β → Array Value) (t : TypeId) : Own (fun (s : β) W => W.heap[g]? = some (.cells (f s) t (0, 0))) := by
  intro s A B row h hg hr
  refine (hg.block g (Array.getElem?_eq_some_iff.1 h).1 (fun e => ?_)).trans h
  obtain ⟨o, ho, hc⟩ := hr g e.symm
  rw [h] at ho
  cases ho
  cases hc
theorem size_own {β : Type} (m : Nat) : Own (fun (_ : β) W => m ≤ W.heap.size) := fun _ _ _ _ h hg _ => Nat.le_trans h hg.size
/-- the steps of numbers -/
def pk (l : List Sn) (pre : List (Fin l.length)) : List Sn := pre.map fun x => l[x.1]
theorem pk_snoc (l : List Sn) (pre : List (Fin l.length)) (x : Fin l.length) : pk l (pre ++ [x]) = pk l pre ++ [l[x.1]] := by simp [pk]
theorem pk_len (l : List Sn) (pre : List (Fin l.length)) : (pk l pre).length = pre.length := by simp [pk]
theorem pk_ok {l : List Sn} (h8 : S8 l) (hok : ∀ x ∈ l, okS x = true) (pre : List (Fin l.length)) : S8 (pk l pre) ∧ ∀ x ∈ pk l pre, okS x = true := by
  constructor
  · intro p hp
    simp [pk] at hp
    obtain ⟨x, _, rfl⟩ := hp
    exact h8 _ (List.getElem_mem _)
  · intro p hp
    simp [pk] at hp
    obtain ⟨x, _, rfl⟩ := hp
    exact hok _ (List.getElem_mem _)
theorem gb_setCells (g : Nat) : ∀ (vs : List Value) (o : Nat) (W : World), W.grownBy (W.setCells g o vs) (some g)
  | [], _, W => ⟨rfl, rfl, rfl, Nat.le_refl _, fun _ _ _ => rfl⟩
  | v :: r, o, W => by
    have h := gb_setCells g r (o + 1) (W.setCell ⟨g, o, none⟩ v)
    have h2 : (W.setCell ⟨g, o, none⟩ v).heap.size = W.heap.size := by simp [World.setCell]
    simp only [World.setCells]
    refine ⟨h.os, h.tape, h.output, by rw [← h2]; exact h.size, fun k hk hne => ?_⟩
    rw [h.block k (by rw [h2]; exact hk) hne]
    exact Below.heap_setCell _ _ _ k (fun e => hne (by rw [e]))
theorem ko_setCells (g : Nat) : ∀ (vs : List Value) (o : Nat) (W : World), KeepsOthers W (W.setCells g o vs)
  | [], _, W => KeepsOthers.refl W
  | v :: r, o, W => (KeepsOthers.setCell W _ v).trans (ko_setCells g r (o + 1) _)
theorem sc_sz (x : Sn) (h : x.v.length = 8) : (Try.prog.info? 49).map (·.size) = some (sc x).toArray.size := by
  rw [List.size_toArray, sc_len h]
  kernel_rfl
theorem sc_one (x : Sn) : (sc x).toArray.all (·.oneCell') = true := all_oneCell_toArray (fun v hv => scs_cell [x] v (by rw [scs_one]; exact hv))
theorem v_sz (v : List UInt8) (h : v.length = 8) : (Try.prog.info? 24).map (·.size) = some (bs v).toArray.size := by
  rw [List.size_toArray, bs_length, h]
  kernel_rfl
theorem v_szl (v : List UInt8) (h : v.length = 8) : (Try.prog.info? 24).map (·.size) = some (bs v).length := by
  rw [bs_length, h]
  kernel_rfl
/-- a row's own part -/
theorem range_bs {w : World} {g : Nat} {cs : List Value} {t : TypeId} (hg : w.heap[g]? = some (.cells cs.toArray t (0, 0))) (o n : Nat) : w.rangeAt g o ((cs.drop o).take n) := by
  intro j v hv
  rw [(blk hg).1, List.getElem?_toArray]
  rw [List.getElem?_take] at hv
  split at hv
  · rw [List.getElem?_drop] at hv
    exact hv
  · cases hv
theorem sc_v (x : Sn) (h : x.v.length = 8) : ((sc x).drop 5).take 8 = bs x.v := by
  show (bs x.v ++ [_]).take 8 = _
  rw [List.take_left' (by rw [bs_length]; exact h)]
theorem sc_set (x : Sn) (h : x.v.length = 8) (v : List UInt8) (hv : v.length = 8) : (sc x).take 5 ++ bs v ++ (sc x).drop (5 + 8) = sc { x with v := v } := by
  show [_, _, _, _, _] ++ bs v ++ (bs x.v ++ [_]).drop 8 = _
  rw [List.drop_left' (by rw [bs_length]; exact h)]
  simp [sc]
theorem bs_cut8 (H : List UInt8) (k : Nat) : ((bs H).drop (k * 8)).take 8 = bs (cut8 H k) := by
  unfold bs cut8
  rw [List.map_take, List.map_drop]
/-- what a round of Fill knows -/
structure FI (Wb W : World) (n0 g0 g1 B0 X : Nat) (H : List UInt8) (v : Value) (o : List Sn) (x : Sn) : Prop where
  h0 : W.heap[g0]? = some (.cells (bs H).toArray 36 (0, 0))
  bx : Boxed W g1 40 v
  own : W.ownsRow B0 49 14 v o.length (scs o)
  hx : W.heap[X]? = some (.cells (sc x).toArray 49 (0, 0))
  ne : v.ownBlock ≠ some X
  kf : KeepsFrom B0 Wb W
  be : Below n0 Wb W
theorem own_lt {W : World} {base e size k : Nat} {v : Value} {xs : List Value} {g : Nat} (h : W.ownsRow base e size v k xs) (hg : v.ownBlock = some g) : base ≤ g ∧ g < W.heap.size := by
  rcases h.2 with ⟨rfl, _⟩ | ⟨b, cap, cur, rfl, hb, hgb, _⟩
  · simp [Value.ownBlock] at hg
  · have : g = b := by simpa [Value.ownBlock] using hg.symm
    subst this
    exact ⟨hb, (Array.getElem?_eq_some_iff.1 hgb).1⟩
theorem FI.setH {Wb W : World} {n0 g0 g1 B0 X : Nat} {H : List UInt8} {v : Value} {o : List Sn} {x : Sn} (h : FI Wb W n0 g0 g1 B0 X H v o x) (k : Nat) (y : List UInt8) (hH : H.length = 256) (hk : k < 32) (hy : y.length = 8)
    (n1 : g0 ≠ g1) (n2 : g0 ≠ X) (n3 : g0 < B0) (n4 : n0 ≤ g0) : FI Wb (W.setCells g0 (k * 8) (bs y)) n0 g0 g1 B0 X (over8 H k y) v o x :=
  ⟨heap_over8 h.h0 k y hH hk hy, h.bx.kept (gb_setCells g0 _ _ W) (by simp; omega), h.own.kept (gb_setCells g0 _ _ W) (.inr (fun e => by have := (own_lt h.own e).1; omega)),
    (heap_setCo (Ne.symm n2)).trans h.hx, h.ne, h.kf.trans (KeepsFrom.of_grownBy (gb_setCells g0 _ _ W) (fun j e => by cases e; exact n3)), below_setC n4 _ _ _ h.be⟩
theorem FI.setX {Wb W : World} {n0 g0 g1 B0 X : Nat} {H : List UInt8} {v : Value} {o : List Sn} {x : Sn} (h : FI Wb W n0 g0 g1 B0 X H v o x) (y : List UInt8) (hx8 : x.v.length = 8) (hy : y.length = 8)
    (n1 : X ≠ g1) (n2 : g0 ≠ X) (n4 : n0 ≤ X) : FI Wb (W.setCells X 5 (bs y)) n0 g0 g1 B0 X H v o { x with v := y } :=
  ⟨(heap_setCo n2).trans h.h0, h.bx.kept (gb_setCells X _ _ W) (by simp; omega), h.own.kept (gb_setCells X _ _ W) (.inr (fun e => h.ne e)),
    (heap_setCells (bs y) 5 W (sc x) h.hx (by rw [bs_length, hy, sc_len hx8]; omega)).trans (by rw [bs_length, hy, sc_set x hx8 y hy]), h.ne, h.kf.trans ((ko_setCells X _ _ W).from B0), below_setC n4 _ _ _ h.be⟩
abbrev z14 : Array Value := #[.int .i8 0, .int .i64 0, .int .i64 0, .int .i64 0, .int .i64 0, .int .u8 0, .int .u8 0, .int .u8 0, .int .u8 0, .int .u8 0, .int .u8 0, .int .u8 0, .int .u8 0, .int .i64 0]
theorem z14_sz (x : Sn) (h : x.v.length = 8) : z14.size = (sc x).toArray.size := by
  show 14 = (sc x).length
  rw [sc_len h]
theorem run_build14 (x : Sn) (h : x.v.length = 8) (w : World) : (Instr.buildSlice 40 1 #[(0, .agg (sc x).toArray)]).run Try.prog w = .ok (.slice (some ⟨w.heap.size, 0, none⟩) 1 1) (w.alloc (.cells (sc x).toArray 49)) := by
  obtain ⟨i0, hi, hz0, hz1, hz2⟩ := info_parts sT.i
  obtain ⟨K, A, B, C, k, b0, b1, b2, b3, b4, b5, b6, b7, E, rfl⟩ := sn8 h
  refine run_buildSlice w 40 49 1 _ _ i0 _ Try.underlying40 hi hz0 (by rw [hz1]; decide) (by rw [hz1]; decide) ?_
  rw [hz1]
  have hb : (Array.range (1 * 14)).map (fun x => (Value.agg z14).cells[x % (Value.agg z14).cells.size]!) = z14 := by kernel_rfl
  show Instr.fill _ ((Array.range (1 * 14)).map (fun x => (Value.agg z14).cells[x % (Value.agg z14).cells.size]!)) _ = _
  rw [hb]
  simp [Instr.fill, sc, bs, Value.cells]
theorem fold14 (x : Sn) (h : x.v.length = 8) : List.foldl (fun (cs : Array Value) (y : Value × Nat) => cs.setIfInBounds y.snd y.fst) #[.int .i8 0, .int .i64 0, .int .i64 0, .int .i64 0, .int .i64 0, .int .u8 0, .int .u8 0, .int .u8 0, .int .u8 0, .int .u8 0, .int .u8 0, .int .u8 0, .int .u8 0, .int .i64 0] (sc x).zipIdx = (sc x).toArray := by
  obtain ⟨K, A, B, C, k, b0, b1, b2, b3, b4, b5, b6, b7, E, rfl⟩ := sn8 h
  simp [sc, bs]
theorem wpListIn_build {F : Fence} {n : Nat} {P : Program} {w : World} {ops : Array Oper} {rest : List Oper} {o : Oper} {a : Act} {Q : Exit → Act → World → Prop} (hg : o.guard = none) (ty : TypeId) (len i : Nat) (x : Operand) (ho : o.op = .buildSlice ty len #[(i, x)]) (y v : Value) (w' : World) (hx : a.eval x = y)
    (hrun : (Instr.buildSlice ty len #[(i, y)]).run P w = .ok v w') (h : wpListIn F n P ops Q rest (a.put o.dst v) w') : wpListIn F n P ops Q (o :: rest) a w := by
  refine wpListIn_plain hg fun K hK' => ?_
  unfold Oper.wpIn
  refine ⟨?_, ?_⟩
  · simp [Oper.about, ho]
  · rw [Oper.semAt_plain F _ _ (by rw [ho]; intro c hc'; cases hc')]
    rw [exec_build ho hx hrun]
    exact hK' _ _ h
theorem cell_sc (w : World) (x : Sn) : ∀ j u, (sc x)[j]? = some u → (w.alloc (.cells (sc x).toArray 49)).cell? ((⟨w.heap.size, 0, none⟩ : Addr).add j) = some u := by
  intro j u h
  rw [Addr.add_mid, Nat.zero_add, (blk (ha_new w (.cells (sc x).toArray 49))).1, List.getElem?_toArray]
  exact h
theorem there_sc {w : World} {X : Nat} {s : Sn} (h : w.heap[X]? = some (.cells (sc s).toArray 49 (0, 0))) (h8 : s.v.length = 8) {y : List UInt8} (hy : y.length = 8) : w.there X 5 (bs y).toArray.size := by
  intro j hj
  rw [List.size_toArray, bs_length, hy] at hj
  refine ⟨?_, (blk h).2 _⟩
  rw [(blk h).1, List.getElem?_toArray, List.getElem?_eq_getElem (by rw [sc_len h8]; omega)]
  rfl
theorem heap_grown {W W' : World} {row : Option Nat} {g : Nat} {o : Obj} (h : W.heap[g]? = some o) (hg : W.grownBy W' row) (hne : some g ≠ row) : W'.heap[g]? = some o :=
  (hg.block g (Array.getElem?_eq_some_iff.1 h).1 hne).trans h
theorem row_ne {W : World} {base e size k g : Nat} {v : Value} {xs : List Value} (hrow : W.ownsRow base e size v k xs) (hg : g < base) : some g ≠ v.ownBlock := by
  rcases hrow.2 with ⟨rfl, _⟩ | ⟨b, cap, cur, rfl, hb, _, _⟩
  · simp [Value.ownBlock]
  · intro e'
    obtain rfl : g = b := by simpa [Value.ownBlock] using e'
    omega
theorem heap_app {W w1 : World} {base e size k g B : Nat} {v v' : Value} {xs : List Value} {tmp o : Obj} (h : W.heap[g]? = some o) (hrow : W.ownsRow base e size v k xs) (hg : g < base) (hB : g ≠ B) (hgrow : (W.alloc tmp).grownBy w1 v.ownBlock) :
    (w1.setCell ⟨B, 0, none⟩ v').heap[g]? = some o :=
  heap_grown (heap_grown (heap_grown h (World.grownBy_alloc W tmp none) (by simp)) hgrow (row_ne hrow hg)) (grownBy_setCell' w1 B v') (by simpa using hB)
theorem results_box {fn : Func} {p u : Tmp} (h : fn.results = #[.cell p 40, .tmp u]) (tmps : Array Value) (w : World) (g : Nat) (v : Value) (a : Option Addr) (m c : Nat) (hv : v = .slice a m c) (hp : tmps.getD p undef = .pointer (some ⟨g, 0, none⟩)) (hg : Boxed w g 40 v) :
    (results fn tmps).run Try.prog w = .ok (.tuple #[v, tmps.getD u undef]) w := by
  subst hv
  rw [results_cell_tmp h, hp]
  have hc := hg.cell
  simp [asAddr, go_sem, hc, Try.underlying40]
/-- the end of a round of Fill -/
theorem FI.app {Wb w2 w5 : World} {n0 g0 g1 B0 X : Nat} {H : List UInt8} {v v' : Value} {o : List Sn} {s : Sn} (h : FI Wb w2 n0 g0 g1 B0 X H v o s) (m1 : n0 ≤ g1) (m2 : n0 ≤ B0) (m3 : n0 ≤ w2.heap.size) (m4 : g0 < B0) (m5 : g0 ≠ g1) (m6 : B0 ≤ w2.heap.size)
    (hown' : w5.ownsRow B0 49 14 v' (o.length + 1) (scs o ++ sc s)) (hgrow : (w2.alloc (.cells (sc s).toArray 49)).grownBy w5 v.ownBlock) :
    (Boxed w5 g1 40 v) ∧ KeepsFrom B0 Wb (w5.setCell ⟨g1, 0, none⟩ v') ∧ Below n0 Wb (w5.setCell ⟨g1, 0, none⟩ v') ∧ (w5.setCell ⟨g1, 0, none⟩ v').heap[g0]? = some (.cells (bs H).toArray 36 (0, 0)) ∧
    Boxed (w5.setCell ⟨g1, 0, none⟩ v') g1 40 v' ∧ (w5.setCell ⟨g1, 0, none⟩ v').ownsRow B0 49 14 v' (o ++ [s]).length (scs (o ++ [s])) ∧ B0 ≤ (w5.setCell ⟨g1, 0, none⟩ v').heap.size := by
  obtain ⟨hv1, hv2, _, hk2, hb2⟩ := h.bx.appended (n₀ := n0) (by decide) (own_mono h.own m2) m3 m1 (own_mono hown' m2) hgrow
  refine ⟨hv1, h.kf.trans (hk2.from _), h.be.trans hb2, heap_app h.h0 h.own m4 m5 hgrow, hv2, ?_, ?_⟩
  · rw [scs_append, scs_one, List.length_append]
    exact hown'.kept (grownBy_setCell' w5 g1 _) (.inr (hv1.not_row (by decide) hown').symm)
  · have h1 := hgrow.size
    simp at h1
    simp [World.setCell]
    omega
end Go.Proofs.Ytdoicmjomlaoaaa
