/- Own laws for the walk, over any program: slices as lists of cells. -/
import Derived.WalkKit
import Derived.ProofKit
import Derived.OpenShut
import Derived.Deep.WholeRow
import Derived.Deep.MidRow
import Derived.Laws.CopyOwn
import Derived.Laws.AppendOwnNone
import Derived.Deep.RegionHeld
import Derived.Deep.QuietTactic
namespace Go.Proofs.Ytdoicmjomlaoaaa
open Go Go.RowKit

theorem hidd {p : Prop} (h : p) : Hid p := h

/-- From the address on lie the cells xs. -/
def Cells (w : World) (a : Option Addr) (xs : List Value) : Prop :=
  ∀ i, i < xs.length → ∃ b off, a = some ⟨b, off, none⟩ ∧ w.cell? ⟨b, off + i, none⟩ = xs[i]?
/-- A slice value (its address, length, capacity; sz cells an element) reads as the cells xs. -/
structure Sl (w : World) (a : Option Addr) (n c sz : Nat) (xs : List Value) : Prop where
  len : xs.length = n * sz
  le : n ≤ c
  max : c ≤ 9223372036854775807
  nil : a = none → n = 0 ∧ c = 0
  cells : Cells w a xs

theorem Cells.nil (w : World) (a : Option Addr) : Cells w a [] := fun i hi => by simp at hi
theorem Cells.below {w w' : World} {B : Nat} {a : Option Addr} {xs : List Value} (h : Cells w a xs) (hb : Below B w w') (hB : ∀ b off, a = some ⟨b, off, none⟩ → xs ≠ [] → b < B) : Cells w' a xs := by
  intro i hi
  obtain ⟨b, off, ha, hc⟩ := h i hi
  exact ⟨b, off, ha, (hb.cell (p := ⟨b, off + i, none⟩) (hB b off ha (by intro e; subst e; simp at hi))).trans hc⟩
theorem Cells.lt {w : World} {a : Option Addr} {xs : List Value} (h : Cells w a xs) : ∀ b off, a = some ⟨b, off, none⟩ → xs ≠ [] → b < w.heap.size := by
  intro b off ha hne
  have hp : 0 < xs.length := by cases xs with
    | nil => exact absurd rfl hne
    | cons x r => simp
  obtain ⟨b', off', ha', hc⟩ := h 0 hp
  rw [ha] at ha'
  injection ha' with ha'
  injection ha' with h1 h2
  subst h1
  rw [List.getElem?_eq_getElem hp] at hc
  exact block_lt_of_cell hc
theorem Sl.grow {w w' : World} {a : Option Addr} {n c sz : Nat} {xs : List Value} (h : Sl w a n c sz xs) (hb : Below w.heap.size w w') : Sl w' a n c sz xs :=
  ⟨h.len, h.le, h.max, h.nil, h.cells.below hb h.cells.lt⟩
/-- The same where something above B has turned, and the row lies below. -/
theorem Sl.keep {w w' : World} {B : Nat} {a : Option Addr} {n c sz : Nat} {xs : List Value} (h : Sl w a n c sz xs) (hb : Below B w w') (hB : ∀ b off, a = some ⟨b, off, none⟩ → xs ≠ [] → b < B) : Sl w' a n c sz xs :=
  ⟨h.len, h.le, h.max, h.nil, h.cells.below hb hB⟩
theorem Sl.none (w : World) (sz : Nat) : Sl w none 0 0 sz [] := ⟨by simp, by omega, by omega, fun _ => ⟨rfl, rfl⟩, Cells.nil _ _⟩

/-- Where a slice begins that is cut at element lo (m: the end of its capacity). -/
def cutAt (a : Option Addr) (lo m sz : Nat) : Option Addr := if m = lo then a else a.map (·.add (lo * sz))
theorem Addr_add (b off k : Nat) : (⟨b, off, none⟩ : Addr).add k = ⟨b, off + k, none⟩ := Addr.add_mid b off k
theorem Cells.cut {w : World} {a : Option Addr} {xs : List Value} (h : Cells w a xs) (lo hi m sz : Nat) (hm : hi ≤ m) : Cells w (cutAt a lo m sz) ((xs.take (hi * sz)).drop (lo * sz)) := by
  intro i hi'
  rw [List.length_drop, List.length_take] at hi'
  obtain ⟨b, off, ha, hc⟩ := h (lo * sz + i) (by omega)
  subst ha
  have hne : m ≠ lo := by
    intro e
    subst e
    have : hi * sz ≤ m * sz := Nat.mul_le_mul_right _ hm
    omega
  refine ⟨b, off + lo * sz, ?_, ?_⟩
  · unfold cutAt
    rw [if_neg hne, Option.map_some, Addr_add]
  · rw [Nat.add_assoc, hc, List.getElem?_drop, List.getElem?_take, if_pos (by omega)]
theorem Sl.cut {w : World} {a : Option Addr} {n c sz : Nat} {xs : List Value} (h : Sl w a n c sz xs) (lo hi m : Nat) (h1 : lo ≤ hi) (h2 : hi ≤ n) (h3 : hi ≤ m) (h4 : m ≤ c) :
    Sl w (cutAt a lo m sz) (hi - lo) (m - lo) sz ((xs.take (hi * sz)).drop (lo * sz)) := by
  have hmax := h.max
  refine ⟨?_, by omega, by omega, ?_, h.cells.cut lo hi m sz h3⟩
  · have := h.len
    have h5 : hi * sz ≤ n * sz := Nat.mul_le_mul_right _ h2
    rw [List.length_drop, List.length_take, Nat.sub_mul]
    omega
  · intro e
    unfold cutAt at e
    have : a = Option.none := by
      split at e
      · exact e
      · simpa using e
    obtain ⟨r1, r2⟩ := h.nil this
    omega

/-- A slice type and its elements. -/
structure ElT (P : Program) (t e : TypeId) (z : Value) (sz bytes : Nat) : Prop where
  u : P.underlying t = some (.slice e)
  i : (P.info? e).map (fun i => (i.zero, i.size, i.bytes)) = some (some z, sz, bytes)
  zs : z.cells.size = sz
  pos : 0 < sz

section
variable {P : Program} {t e : TypeId} {z : Value} {sz bytes : Nat}
theorem ElT.elem (T : ElT P t e z sz bytes) : P.elem t = e := by simp [Program.elem, T.u]
theorem ElT.u' (T : ElT P t e z sz bytes) : P.underlying t = some (.slice (P.elem t)) := by rw [T.elem]; exact T.u
theorem ElT.size (T : ElT P t e z sz bytes) (w : World) : (sizeOf e).run P w = .ok sz w := by
  obtain ⟨i0, hi, hz0, hz1, hz2⟩ := info_parts T.i
  simp [sizeOf, typeInfo, hi, hz1]

theorem run_cut_lh (T : ElT P t e z sz bytes) (w : World) (a : Option Addr) (len cap : Nat) (kl kh : IntKind) (l h : Int) (h0 : 0 ≤ l) (h1 : l ≤ h) (h2 : h ≤ cap) :
    (Instr.sliceAt t (.slice a len cap) (some (.int kl l)) (some (.int kh h)) none).run P w = .ok (.slice (cutAt a l.toNat cap sz) (h.toNat - l.toNat) (cap - l.toNat)) w := by
  rw [run_sliceAt_slice w t _ _ _ _ T.u', run_slice_lh w t a len cap T.u' kl kh l h h0 h1 h2, T.elem]
  simp [T.size, sliced, cutAt]
theorem run_cut_l (T : ElT P t e z sz bytes) (w : World) (a : Option Addr) (len cap : Nat) (kl : IntKind) (l : Int) (h0 : 0 ≤ l) (h1 : l ≤ len) :
    (Instr.sliceAt t (.slice a len cap) (some (.int kl l)) none none).run P w = .ok (.slice (cutAt a l.toNat cap sz) (len - l.toNat) (cap - l.toNat)) w := by
  rw [run_sliceAt_slice w t _ _ _ _ T.u', run_slice_l w t a len cap T.u' kl l h0 h1, T.elem]
  simp [T.size, sliced, cutAt]
theorem run_cut_h (T : ElT P t e z sz bytes) (w : World) (a : Option Addr) (len cap : Nat) (kh : IntKind) (h : Int) (h0 : 0 ≤ h) (h2 : h ≤ cap) :
    (Instr.sliceAt t (.slice a len cap) none (some (.int kh h)) none).run P w = .ok (.slice (cutAt a 0 cap sz) (h.toNat - 0) (cap - 0)) w := by
  rw [run_sliceAt_slice w t _ _ _ _ T.u', run_slice_h w t a len cap T.u' kh h h0 h2, T.elem]
  simp [T.size, sliced, cutAt]
theorem run_cut_hm (T : ElT P t e z sz bytes) (w : World) (a : Option Addr) (len cap : Nat) (kh km : IntKind) (h m : Int) (h0 : 0 ≤ h) (h2 : h ≤ m) (h3 : m ≤ cap) :
    (Instr.sliceAt t (.slice a len cap) none (some (.int kh h)) (some (.int km m))).run P w = .ok (.slice (cutAt a 0 m.toNat sz) (h.toNat - 0) (m.toNat - 0)) w := by
  rw [run_sliceAt_slice w t _ _ _ _ T.u', run_slice_hm w t a len cap T.u' kh km h m h0 h2 h3, T.elem]
  simp [T.size, sliced, cutAt]

variable {ops : Array Oper} {rest : List Oper} {op : Oper} {ac : Act} {w : World} {Q : Exit → Act → World → Prop}
theorem wpList_cut_lh (T : ElT P t e z sz bytes) (hgd : op.guard = none) (x lo hi : Operand) (ho : op.op = .slice t x (some lo) (some hi) none)
    (a : Option Addr) (len cap : Nat) (kl kh : IntKind) (l h : Int) (hx : ac.eval x = .slice a len cap) (hlo : ac.eval lo = .int kl l) (hhi : ac.eval hi = .int kh h) (h0 : 0 ≤ l) (h1 : l ≤ h) (h2 : h ≤ cap)
    (hK : wpList P ops Q rest (ac.put op.dst (.slice (cutAt a l.toNat cap sz) (h.toNat - l.toNat) (cap - l.toNat))) w) : wpList P ops Q (op :: rest) ac w :=
  wpList_plain hgd fun _ hK' => by
    unfold Oper.wp execOp
    simp only [ho, hx, hlo, hhi, Option.map_some, Option.map_none, Sem.run_bind, run_cut_lh T w a len cap kl kh l h h0 h1 h2, Result.andThen_ok]
    exact hK' _ _ hK
theorem wpList_cut_l (T : ElT P t e z sz bytes) (hgd : op.guard = none) (x lo : Operand) (ho : op.op = .slice t x (some lo) none none)
    (a : Option Addr) (len cap : Nat) (kl : IntKind) (l : Int) (hx : ac.eval x = .slice a len cap) (hlo : ac.eval lo = .int kl l) (h0 : 0 ≤ l) (h1 : l ≤ len)
    (hK : wpList P ops Q rest (ac.put op.dst (.slice (cutAt a l.toNat cap sz) (len - l.toNat) (cap - l.toNat))) w) : wpList P ops Q (op :: rest) ac w :=
  wpList_plain hgd fun _ hK' => by
    unfold Oper.wp execOp
    simp only [ho, hx, hlo, Option.map_some, Option.map_none, Sem.run_bind, run_cut_l T w a len cap kl l h0 h1, Result.andThen_ok]
    exact hK' _ _ hK
theorem wpList_cut_h (T : ElT P t e z sz bytes) (hgd : op.guard = none) (x hi : Operand) (ho : op.op = .slice t x none (some hi) none)
    (a : Option Addr) (len cap : Nat) (kh : IntKind) (h : Int) (hx : ac.eval x = .slice a len cap) (hhi : ac.eval hi = .int kh h) (h0 : 0 ≤ h) (h2 : h ≤ cap)
    (hK : wpList P ops Q rest (ac.put op.dst (.slice (cutAt a 0 cap sz) (h.toNat - 0) (cap - 0))) w) : wpList P ops Q (op :: rest) ac w :=
  wpList_plain hgd fun _ hK' => by
    unfold Oper.wp execOp
    simp only [ho, hx, hhi, Option.map_some, Option.map_none, Sem.run_bind, run_cut_h T w a len cap kh h h0 h2, Result.andThen_ok]
    exact hK' _ _ hK
theorem wpList_cut_hm (T : ElT P t e z sz bytes) (hgd : op.guard = none) (x hi mx : Operand) (ho : op.op = .slice t x none (some hi) (some mx))
    (a : Option Addr) (len cap : Nat) (kh km : IntKind) (h m : Int) (hx : ac.eval x = .slice a len cap) (hhi : ac.eval hi = .int kh h) (hmx : ac.eval mx = .int km m) (h0 : 0 ≤ h) (h2 : h ≤ m) (h3 : m ≤ cap)
    (hK : wpList P ops Q rest (ac.put op.dst (.slice (cutAt a 0 m.toNat sz) (h.toNat - 0) (m.toNat - 0))) w) : wpList P ops Q (op :: rest) ac w :=
  wpList_plain hgd fun _ hK' => by
    unfold Oper.wp execOp
    simp only [ho, hx, hhi, hmx, Option.map_some, Option.map_none, Sem.run_bind, run_cut_hm T w a len cap kh km h m h0 h2 h3, Result.andThen_ok]
    exact hK' _ _ hK

/-- What the call owns. -/
theorem own_Sl {base : Nat} {v : Value} {n : Nat} {xs : List Value} (h : w.ownsRow base e sz v n xs) : ∃ a c, v = .slice a n c ∧ Sl w a n c sz xs := by
  obtain ⟨hl, hv⟩ := h
  rcases hv with ⟨rfl, rfl⟩ | ⟨g, cap, cur, rfl, hg, hh, h1, h2, h3, h4⟩
  · have : xs = [] := List.eq_nil_of_length_eq_zero (by omega)
    subst this
    exact ⟨_, _, rfl, Sl.none w sz⟩
  · refine ⟨_, _, rfl, hl, h1, by unfold maxLen at h2; omega, fun e => by simp at e, fun i hi => ⟨g, 0, rfl, ?_⟩⟩
    rw [Nat.zero_add, cell_of_row w g i cur e (0, 0) hh, ← h4, List.getElem?_take, if_pos (by omega), Array.getElem?_toList]

theorem own_mono {base base' : Nat} {v : Value} {n : Nat} {xs : List Value} (h : w.ownsRow base e sz v n xs) (hb : base' ≤ base) : w.ownsRow base' e sz v n xs := by
  obtain ⟨hl, hv⟩ := h
  refine ⟨hl, ?_⟩
  rcases hv with hv | ⟨g, cap, cur, h1, h2, h3⟩
  · exact .inl hv
  · exact .inr ⟨g, cap, cur, h1, by omega, h3⟩
theorem own_below {base : Nat} {w' : World} {v : Value} {n : Nat} {xs : List Value} (h : w.ownsRow base e sz v n xs) (hbase : base ≤ w.heap.size) (hg : w.grownBy w' v.ownBlock) : Below base w w' :=
  (Below.refl base w).grown hg hbase (fun k hk => (h.lt k hk).1)

/-- append onto what the call owns, from whatever slice. -/
theorem wpList_app (T : ElT P t e z sz bytes) (hgd : op.guard = none) (s x : Operand)
    (ho : op.op = .call { callee := .builtin .append, args := #[s, x], argTypes := #[t, t] })
    (base : Nat) (v : Value) (n : Nat) (xs : List Value) (hs : ac.eval s = v) (hown : w.ownsRow base e sz v n xs)
    (ao : Option Addr) (m c : Nat) (news : List Value) (hx : ac.eval x = .slice ao m c) (hsl : Sl w ao m c sz news) (h1 : ∀ u ∈ news, u.oneCell' = true)
    (h63 : n + m ≤ 9223372036854775807) (hbytes : (n + m) * bytes ≤ 140737488355328) (hbase : base ≤ w.heap.size)
    (h : ∀ v' w', w'.ownsRow base e sz v' (n + m) (xs ++ news) → w.grownBy w' v.ownBlock → Below base w w' → wpList P ops Q rest (ac.put op.dst v') w') : wpList P ops Q (op :: rest) ac w := by
  obtain ⟨i0, hi, hz0, hz1, hz2⟩ := info_parts T.i
  cases ao with
  | none =>
    obtain ⟨rfl, rfl⟩ := hsl.nil rfl
    have hn : news = [] := List.eq_nil_of_length_eq_zero (by have := hsl.len; omega)
    subst hn
    refine wpList_append_own_none hgd s x t ho base e i0 sz T.u hi v n xs hs hown hx ?_
    exact h v w (by simpa using hown) ⟨rfl, rfl, rfl, Nat.le_refl _, fun _ _ _ => rfl⟩ (Below.refl _ _)
  | some ad =>
    refine wpList_append_own w hgd s x t ho base e i0 z sz bytes T.u hi hz0 hz1 hz2 T.zs T.pos v n xs hs hown ad m c news hx hsl.len ?_ h1 (by unfold maxLen; omega) hbytes hbase ?_
    · intro j u hj
      have hjl : j < news.length := (List.getElem?_eq_some_iff.1 hj).1
      obtain ⟨b, off, ha, hc⟩ := hsl.cells j hjl
      injection ha with ha
      subst ha
      rw [Addr_add, hc, hj]
    · intro v' w' h2 h3 _
      exact h v' w' h2 h3 (own_below hown hbase h3)

/-- append onto a slice without room, from whatever slice that is not empty. -/
theorem wpList_app_new (T : ElT P t e z sz bytes) (hgd : op.guard = none) (s x : Operand)
    (ho : op.op = .call { callee := .builtin .append, args := #[s, x], argTypes := #[t, t] })
    (a0 : Option Addr) (n cap : Nat) (xs : List Value) (hs : ac.eval s = .slice a0 n cap) (hsl0 : Sl w a0 n cap sz xs)
    (ao : Option Addr) (m c : Nat) (news : List Value) (hx : ac.eval x = .slice ao m c) (hsl : Sl w ao m c sz news) (h1 : ∀ u ∈ news, u.oneCell' = true)
    (hfull : cap < n + m) (h63 : n + m ≤ 9223372036854775807) (hbytes : (n + m) * bytes ≤ 140737488355328) 
    (h : ∀ v' w', w'.ownsRow w.heap.size e sz v' (n + m) (xs ++ news) → Below w.heap.size w w' → wpList P ops Q rest (ac.put op.dst v') w') : wpList P ops Q (op :: rest) ac w := by
  obtain ⟨i0, hi, hz0, hz1, hz2⟩ := info_parts T.i
  have hle := hsl0.le
  have hget : ∀ {ao : Option Addr} {news : List Value}, Cells w ao news → ∀ b, ao = some b → ∀ j u, news[j]? = some u → w.cell? (b.add j) = some u := by
    intro ao news hc b hb j u hj
    subst hb
    have hjl : j < news.length := (List.getElem?_eq_some_iff.1 hj).1
    obtain ⟨b', off, ha, hc1⟩ := hc j hjl
    injection ha with ha
    subst ha
    rw [Addr_add, hc1, hj]
  cases ao with
  | none =>
    obtain ⟨rfl, rfl⟩ := hsl.nil rfl
    omega
  | some ad =>
    refine wpList_append_grows w hgd s x t ho e i0 z sz bytes T.u hi hz0 hz1 hz2 T.zs T.pos a0 n cap xs hs hsl0.nil hsl0.len (hget hsl0.cells) ad m c news hx hsl.len (hget hsl.cells ad rfl) h1 hfull (by unfold maxLen; omega) hbytes ?_
    intro v' w' h2 h3
    exact h v' w' h2 ((Below.refl _ w).grown h3 (Nat.le_refl _) (fun k hk => by simp at hk))

/-- make([]T, n, c). -/
theorem run_makeAt (T : ElT P t e z sz bytes) (w : World) (kl kc : IntKind) (n c : Nat) (hnc : n ≤ c) (hb : bytes * c ≤ 281474976710656) (hc : c ≤ 9223372036854775807) :
    (Instr.makeSlice t (.int kl (n : Int)) (.int kc (c : Int))).run P w = .ok (.slice (some ⟨w.heap.size, 0, none⟩) n c) (w.alloc (.cells (madeCells z.cells (c * sz)) e)) := by
  obtain ⟨i0, hi, hz0, hz1, hz2⟩ := info_parts T.i
  have hb' : (i0.bytes : Int) * (c : Int) ≤ 281474976710656 := by
    rw [hz2]
    have h : ((bytes * c : Nat) : Int) ≤ 281474976710656 := by omega
    rwa [Int.natCast_mul] at h
  have hr := run_make (P := P) w t e i0 z T.u hi hz0 kl kc n c (by omega) (by omega) hb' (by omega)
  simp only [Int.toNat_natCast, hz1] at hr
  exact hr
theorem wpList_make (T : ElT P t e z sz bytes) (hgd : op.guard = none) (l c : Operand) (ho : op.op = .makeSlice t l c) (kl kc : IntKind) (N C : Int) (n k : Nat)
    (hl : ac.eval l = .int kl N) (hc : ac.eval c = .int kc C) (hN : N = n) (hC : C = k) (hnk : n ≤ k) (hb : bytes * k ≤ 281474976710656) (hk : k ≤ 9223372036854775807)
    (h : wpList P ops Q rest (ac.put op.dst (.slice (some ⟨w.heap.size, 0, none⟩) n k)) (w.alloc (.cells (madeCells z.cells (k * sz)) e))) : wpList P ops Q (op :: rest) ac w :=
  wpList_plain hgd fun _ hK' => by
    subst hN
    subst hC
    unfold Oper.wp execOp
    simp only [ho, hl, hc, Sem.run_bind, run_makeAt T w kl kc n k hnk hb hk, Result.andThen_ok]
    exact hK' _ _ h
end

section
variable {P : Program} {ops : Array Oper} {rest : List Oper} {op : Oper} {a : Act} {w : World} {Q : Exit → Act → World → Prop}
/-- A whole array goes into the block that was made last. -/
theorem wpList_store_new (hgd : op.guard = none) (ty : TypeId) (x y : Operand) (ho : op.op = .store ty x y)
    (c c' : Array Value) (t : TypeId) (hx : a.eval x = .pointer (some ⟨w.heap.size, 0, none⟩)) (hy : a.eval y = .agg c') (hi : (P.info? ty).map (·.size) = some c'.size) (ho' : c.size = c'.size) (h1 : c'.all (·.oneCell') = true)
    (ht : ty = t) (h : wpList P ops Q rest (a.put op.dst undef) (w.alloc (.cells c' t))) : wpList P ops Q (op :: rest) a (w.alloc (.cells c t)) :=
  wpList_plain hgd fun _ hK => by
    subst ht
    unfold Oper.wp execOp
    simp only [ho, hx, hy, Sem.run_bind, run_storeAt_new w ty c c' hi ho' h1, Result.andThen_ok]
    exact hK _ _ h
end

section
variable {P : Program} {t e : TypeId} {z : Value} {bytes : Nat} {ops : Array Oper} {rest : List Oper} {op : Oper} {ac : Act} {w : World} {Q : Exit → Act → World → Prop}
/-- copy into the row that was made last, from a slice as long as it. -/
theorem wpList_copy_fill (T : ElT P t e z 1 bytes) (hgd : op.guard = none) (d s : Operand) (ho : op.op = .call { callee := .builtin .copy, args := #[d, s], argTypes := #[t, t] })
    (n k : Nat) (cur : Array Value) (hd : ac.eval d = .slice (some ⟨w.heap.size, 0, none⟩) n k) (hcur : cur.size = k) (hnk : n ≤ k) (hk : k ≤ 9223372036854775807)
    (ao : Option Addr) (c : Nat) (xs : List Value) (hs : ac.eval s = .slice ao n c) (hsl : Sl w ao n c 1 xs) (h1 : ∀ u ∈ xs, u.oneCell' = true)
    (h : ∀ w', w'.ownsRow w.heap.size e 1 (.slice (some ⟨w.heap.size, 0, none⟩) n k) n xs → Below w.heap.size w w' → wpList P ops Q rest (ac.put op.dst (goInt n)) w') :
    wpList P ops Q (op :: rest) ac (w.alloc (.cells cur e)) := by
  obtain ⟨i0, hi, hz0, hz1, hz2⟩ := info_parts T.i
  have hxs : xs.length = n := by have := hsl.len; omega
  have hnew := heap_alloc_last w (.cells cur e)
  have hB : Below w.heap.size w (w.alloc (.cells cur e)) := (Below.refl _ w).alloc (Nat.le_refl _) _
  refine wpList_copy_splice hgd d s t t ho e T.u (by rw [hi]; simp [hz1]) (some ⟨w.heap.size, 0, none⟩) ao n k n c hd hs w.heap.size 0 cur.toList e (by simpa using hnew) xs (by rw [hxs]; simp [Nat.min_def]) ?_ (by simp; omega) h1 w.heap.size w hB (Nat.le_refl _) ?_
  · intro hp
    refine ⟨rfl, ?_⟩
    obtain ⟨b, off, ha, _⟩ := hsl.cells 0 hp
    refine ⟨_, ha, ?_⟩
    intro j v hv
    have hj : j < xs.length := (List.getElem?_eq_some_iff.1 hv).1
    obtain ⟨b', off', ha', hc⟩ := hsl.cells j hj
    rw [ha] at ha'
    injection ha' with ha'
    injection ha' with e1 e2
    subst e1
    subst e2
    have hbl : b < w.heap.size := hsl.cells.lt b off ha (by intro e0; subst e0; simp at hj)
    rw [Addr_add, World.cell?_alloc_past _ _ _ hbl, hc, hv]
  · intro w' HG hb
    rw [hxs]
    refine h w' ⟨by omega, .inr ⟨w.heap.size, k, _, rfl, Nat.le_refl _, HG.out, hnk, by unfold maxLen; omega, ?_, ?_⟩⟩ hb
    · rw [List.size_toArray, length_splice _ _ _ (by simp; omega)]
      simp [hcur]
    · simp [splice]
      rw [List.take_append_of_le_length (by omega), List.take_of_length_le (by omega)]
end

section
variable {P : Program} {t e : TypeId} {z : Value} {bytes : Nat} {ops : Array Oper} {rest : List Oper} {op : Oper} {ac : Act} {w : World} {Q : Exit → Act → World → Prop}
/-- copy over the whole of the block that was made last. -/
theorem wpList_copy_all (T : ElT P t e z 1 bytes) (tb : TypeId) (hgd : op.guard = none) (d s : Operand) (ho : op.op = .call { callee := .builtin .copy, args := #[d, s], argTypes := #[t, t] })
    (n k : Nat) (cur : Array Value) (hd : ac.eval d = .slice (some ⟨w.heap.size, 0, none⟩) n k) (hcur : cur.size = n)
    (ao : Option Addr) (c : Nat) (xs : List Value) (hs : ac.eval s = .slice ao n c) (hsl : Sl w ao n c 1 xs) (h1 : ∀ u ∈ xs, u.oneCell' = true) (hn : 0 < n)
    (h : wpList P ops Q rest (ac.put op.dst (goInt n)) (w.alloc (.cells xs.toArray tb))) :
    wpList P ops Q (op :: rest) ac (w.alloc (.cells cur tb)) := by
  obtain ⟨i0, hi, hz0, hz1, hz2⟩ := info_parts T.i
  have hxs : xs.length = n := by have := hsl.len; omega
  obtain ⟨b, off, rfl, _⟩ := hsl.cells 0 (by omega)
  refine wpList_copy_own hgd d s t t ho e T.u (by rw [hi]; simp [hz1]) w.heap.size 0 n k ⟨b, off, none⟩ n c hd hs cur tb (heap_alloc_last w _) xs (by rw [hxs]; simp [Nat.min_def]) ?_ (by simp; omega) h1 ?_
  · intro j v hv
    have hj : j < xs.length := (List.getElem?_eq_some_iff.1 hv).1
    obtain ⟨b', off', ha, hc⟩ := hsl.cells j hj
    injection ha with ha
    injection ha with e1 e2
    subst e1
    subst e2
    have hbl : b < w.heap.size := hsl.cells.lt b off rfl (by intro e0; subst e0; simp at hj)
    rw [Addr_add, World.cell?_alloc_past _ _ _ hbl, hc, hv]
  · have : (cur.toList.take 0 ++ (xs ++ cur.toList.drop (0 + xs.length))) = xs := by
      rw [List.drop_eq_nil_of_le (by simp; omega)]
      simp
    rw [this, World.setRow_alloc_new, hxs]
    exact h
/-- A whole array out of the block that was made last. -/
theorem wpList_load_new (hgd : op.guard = none) (ty : TypeId) (x : Operand) (ho : op.op = .load ty x) (c : Array Value) (t : TypeId) (hx : ac.eval x = .pointer (some ⟨w.heap.size, 0, none⟩))
    (d : TypeDesc) (hu : P.underlying ty = some d) (hd : d.isRow = true) (hi : (P.info? ty).map (·.size) = some c.size)
    (h : wpList P ops Q rest (ac.put op.dst (.agg c)) (w.alloc (.cells c t))) : wpList P ops Q (op :: rest) ac (w.alloc (.cells c t)) :=
  wpList_load_row hgd ty x ho _ hx t c (0, 0) d (heap_alloc_last w _) hu (by cases d <;> simp_all [TypeDesc.isRow]) hi h
theorem results_cell_one {fn : Func} {p u : Tmp} {ty : TypeId} (h : fn.results = #[.cell p ty, .tmp u]) (tmps : Array Value) (w : World) (g : Nat) (t : TypeId) (cs : Array Value) (fr : Nat × Nat) (d : TypeDesc)
    (hp : tmps.getD p undef = .pointer (some ⟨g, 0, none⟩)) (hg : w.heap[g]? = some (.cells cs t fr))
    (hu : P.underlying ty = some d) (hd : d.isRow = true) (hi : (P.info? ty).map (·.size) = some cs.size) :
    (results fn tmps).run P w = .ok (.tuple #[.agg cs, tmps.getD u undef]) w := by
  have hp' : tmps[p]?.getD undef = .pointer (some ⟨g, 0, none⟩) := by simpa using hp
  simp [results, h, hp', asAddr, run_loadVar_row w g t ty cs fr d hg hu (by cases d <;> simp_all [TypeDesc.isRow]) hi]
end
theorem made_size (z : Value) (n : Nat) : (madeCells #[z] n).size = n := by
  have := congrArg List.length (toList_madeCells_one z n)
  simpa using this
/-- A row that was made last, of whatever cells. -/
theorem Sl.fresh (w : World) (cs : List Value) (e : TypeId) (n sz : Nat) (h : cs.length = n * sz) (hm : n ≤ 9223372036854775807) : Sl (w.alloc (.cells cs.toArray e)) (some ⟨w.heap.size, 0, Option.none⟩) n n sz cs :=
  ⟨h, Nat.le_refl _, hm, fun e => by simp at e, fun i _ => ⟨w.heap.size, 0, rfl, by rw [Nat.zero_add, World.cell?_alloc_new, List.getElem?_toArray]⟩⟩

theorem Sl.fresh_at (w : World) (cs : List Value) (e : TypeId) (n sz g : Nat) (hg : g = w.heap.size) (h : cs.length = n * sz) (hm : n ≤ 9223372036854775807) : Sl (w.alloc (.cells cs.toArray e)) (some ⟨g, 0, Option.none⟩) n n sz cs := by
  subst hg
  exact Sl.fresh w cs e n sz h hm
theorem bdN {B : Nat} {a w : World} (h : Below B a w) (n : Nat) : Below B a (w.drewN n) := ⟨h.os, h.tape, h.output, h.size, h.block⟩

theorem blk {w : World} {g : Nat} {cs : Array Value} {t : TypeId} (hg : w.heap[g]? = some (.cells cs t (0, 0))) : (∀ i, w.cell? ⟨g, i, none⟩ = cs[i]?) ∧ (∀ i, w.frozen? ⟨g, i, none⟩ = false) :=
  ⟨fun i => cell_of_row w g i cs t (0, 0) hg, fun i => frozen_of_row w g i cs t hg⟩
theorem blk_below {B : Nat} {w w1 : World} {g : Nat} {o : Obj} (hb : Below B w w1) (hg : w.heap[g]? = some o) (hB : g < B) : w1.heap[g]? = some o := (hb.block g hB).trans hg

theorem hs_same {w : World} {g i : Nat} {cs : Array Value} {t : TypeId} {v : Value} (hg : w.heap[g]? = some (.cells cs t (0, 0))) : (w.setCell ⟨g, i, none⟩ v).heap[g]? = some (.cells (cs.setIfInBounds i v) t (0, 0)) := heap_setCell_same w g i cs t v hg
theorem hs_other {w : World} {g : Nat} {a : Addr} {v : Value} {o : Obj} (hg : w.heap[g]? = some o) (h : g ≠ a.block) : (w.setCell a v).heap[g]? = some o := (heap_setCell_other w a g v h).trans hg
theorem hs_drew {w : World} {g : Nat} {o : Obj} (hg : w.heap[g]? = some o) : w.drew.heap[g]? = some o := hg
theorem results_tctt {P : Program} {fn : Func} {p q r u : Tmp} {ty : TypeId} (h : fn.results = #[.tmp p, .cell q ty, .tmp r, .tmp u]) (tmps : Array Value) (w : World) (g : Nat) (t : TypeId) (cs : Array Value) (fr : Nat × Nat) (d : TypeDesc)
    (hp : tmps.getD q undef = .pointer (some ⟨g, 0, none⟩)) (hg : w.heap[g]? = some (.cells cs t fr))
    (hu : P.underlying ty = some d) (hd : d.isRow = true) (hi : (P.info? ty).map (·.size) = some cs.size) :
    (results fn tmps).run P w = .ok (.tuple #[tmps.getD p undef, .agg cs, tmps.getD r undef, tmps.getD u undef]) w := by
  have hp' : tmps[q]?.getD undef = .pointer (some ⟨g, 0, none⟩) := by simpa using hp
  simp [results, h, hp', asAddr, run_loadVar_row w g t ty cs fr d hg hu (by cases d <;> simp_all [TypeDesc.isRow]) hi]

theorem blk_all {w : World} {g : Nat} {cs : Array Value} {t : TypeId} (hg : w.heap[g]? = some (.cells cs t (0, 0))) : ∀ w', Below w.heap.size w w' → ∀ i, w'.cell? ⟨g, i, none⟩ = cs[i]? := by
  intro w' hb i
  have hlt : g < w.heap.size := (Array.getElem?_eq_some_iff.1 hg).1
  exact cell_of_row w' g i cs t (0, 0) (blk_below hb hg hlt)

theorem own_addr {w : World} {base : Nat} {e : TypeId} {sz : Nat} {a : Option Addr} {n c : Nat} {xs : List Value} (h : w.ownsRow base e sz (.slice a n c) n xs) : ∀ b off, a = some ⟨b, off, none⟩ → base ≤ b := by
  intro b off ha
  obtain ⟨_, hv⟩ := h
  rcases hv with ⟨hv, _⟩ | ⟨g, cap, cur, hv, hg, _⟩
  · injection hv with q1
    rw [ha] at q1
    cases q1
  · injection hv with q1
    rw [ha] at q1
    injection q1 with q1
    injection q1 with q1
    omega
theorem gb_refl (w : World) (row : Option Nat) : w.grownBy w row := ⟨rfl, rfl, rfl, Nat.le_refl _, fun _ _ _ => rfl⟩
theorem gb_set {a w : World} {g : Nat} (h : a.grownBy w (some g)) {p : Addr} (hp : p.block = g) (u : Value) : a.grownBy (w.setCell p u) (some g) :=
  ⟨h.os, h.tape, h.output, by simpa [World.setCell] using h.size, fun i hi hne => (Below.heap_setCell w p u i (by
    rintro rfl
    exact hne (by rw [hp]))).trans (h.block i hi hne)⟩
theorem gb_drew {a w : World} {row : Option Nat} (h : a.grownBy w row) : a.grownBy w.drew row := ⟨h.os, h.tape, h.output, h.size, h.block⟩
theorem gb_drewN {a w : World} {row : Option Nat} (h : a.grownBy w row) (n : Nat) : a.grownBy (w.drewN n) row := ⟨h.os, h.tape, h.output, h.size, h.block⟩
theorem gb_below {a w : World} {g B : Nat} (h : a.grownBy w (some g)) (hB : B ≤ g) (hs : B ≤ a.heap.size) : Below B a w :=
  ⟨h.os, h.tape, h.output, h.size, fun k hk => h.block k (by omega) (by simp; omega)⟩
theorem cells_grown {a w : World} {g : Nat} {ad : Option Addr} {xs : List Value} (h : Cells a ad xs) (hg : a.grownBy w (some g)) (hne : ∀ b off, ad = some ⟨b, off, none⟩ → xs ≠ [] → b ≠ g) : Cells w ad xs := by
  intro i hi
  obtain ⟨b, off, ha, hc⟩ := h i hi
  refine ⟨b, off, ha, ?_⟩
  rw [World.cell?_of_block (w := a) (hg.block b (h.lt b off ha (by intro e; subst e; simp at hi)) (by simpa using hne b off ha (by intro e; subst e; simp at hi)))]
  exact hc
theorem sl_grown {a w : World} {g : Nat} {ad : Option Addr} {n c sz : Nat} {xs : List Value} (h : Sl a ad n c sz xs) (hg : a.grownBy w (some g)) (hne : ∀ b off, ad = some ⟨b, off, none⟩ → xs ≠ [] → b ≠ g) : Sl w ad n c sz xs :=
  ⟨h.len, h.le, h.max, h.nil, cells_grown h.cells hg hne⟩

/-! ### bytes -/
def bs (l : List UInt8) : List Value := l.map fun b => Value.int .u8 (b.toNat : Int)
theorem bs_length (l : List UInt8) : (bs l).length = l.length := by simp [bs]
theorem bs_append (l m : List UInt8) : bs (l ++ m) = bs l ++ bs m := by simp [bs]
theorem bs_one (l : List UInt8) : ∀ u ∈ bs l, u.oneCell' = true := by
  intro u hu
  simp [bs] at hu
  obtain ⟨b, _, rfl⟩ := hu
  rfl
theorem bs_get (l : List UInt8) (i : Nat) (h : i < l.length) : (bs l)[i]? = some (Value.int .u8 ((l.getD i 0).toNat : Int)) := by
  simp [bs, h]
theorem one_int (k : IntKind) (x : Int) : ∀ u ∈ [Value.int k x], u.oneCell' = true := by
  intro u hu
  simp at hu
  subst hu
  rfl
/-- A slice of bytes. -/
abbrev Bs (w : World) (a : Option Addr) (n c : Nat) (l : List UInt8) : Prop := Sl w a n c 1 (bs l)
theorem Bs.len {w : World} {a : Option Addr} {n c : Nat} {l : List UInt8} (h : Bs w a n c l) : l.length = n := by have := Sl.len h; rw [bs_length] at this; omega
theorem Bs.at {w : World} {a : Option Addr} {n c : Nat} {l : List UInt8} (h : Bs w a n c l) (i : Nat) (hi : i < n) : ∃ b off, a = some ⟨b, off, none⟩ ∧ w.cell? ⟨b, off + i, none⟩ = some (Value.int .u8 ((l.getD i 0).toNat : Int)) := by
  obtain ⟨b, off, ha, hc⟩ := Sl.cells h i (by rw [bs_length, h.len]; exact hi)
  exact ⟨b, off, ha, hc.trans (bs_get l i (by rw [h.len]; exact hi))⟩
theorem Bs.cut {w : World} {a : Option Addr} {n c : Nat} {l : List UInt8} (h : Bs w a n c l) (lo hi m : Nat) (h1 : lo ≤ hi) (h2 : hi ≤ n) (h3 : hi ≤ m) (h4 : m ≤ c) :
    Bs w (cutAt a lo m 1) (hi - lo) (m - lo) ((l.take hi).drop lo) := by
  have := Sl.cut h lo hi m h1 h2 h3 h4
  unfold Bs bs
  rw [List.map_drop, List.map_take]
  simpa [bs] using this
theorem Bs.grow {w w' : World} {a : Option Addr} {n c : Nat} {l : List UInt8} (h : Bs w a n c l) (hb : Below w.heap.size w w') : Bs w' a n c l := Sl.grow h hb

/-- string(b). -/
theorem run_conv {P : Program} (w : World) (src dst e : TypeId) (hs : P.underlying src = some (.slice e)) (he : P.underlying e = some (.int .u8)) (hd : P.underlying dst = some .string)
    {a : Option Addr} {n c : Nat} {l : List UInt8} (h : Bs w a n c l) : (convert src dst (.slice a n c)).run P w = .ok (.string ⟨l.toArray⟩) w := by
  have hlen := h.len
  cases a with
  | none =>
    obtain ⟨rfl, rfl⟩ := Sl.nil h rfl
    obtain rfl : l = [] := List.eq_nil_of_length_eq_zero hlen
    exact run_convert_bytes_nil w src e hs he 0 0 dst hd
  | some ad =>
    rw [run_convert_bytes_string w src dst e _ n c hs he hd]
    have hl : (loadCells ad n).run P w = .ok ((l.map fun b => (b.toNat : Int)).map (Value.int .u8)).toArray w := by
      have := run_loadCells_list (P := P) w ad (bs l) (fun j v hj => by
        have hjl : j < (bs l).length := (List.getElem?_eq_some_iff.1 hj).1
        obtain ⟨b, off, ha, hc⟩ := Sl.cells h j hjl
        injection ha with ha
        subst ha
        rw [Addr_add, hc, hj])
      rw [bs_length, hlen] at this
      rw [this]
      simp [bs]
    rw [run_bytesToString w ad n c _ hl, foldl_push_bytes]
    congr 2
    simp only [ByteArray.empty, ByteArray.emptyWithCapacity]
    congr 1
    have e : ((fun n : Int => UInt8.ofNat n.toNat) ∘ fun b : UInt8 => ((b.toNat : Nat) : Int)) = id := by
      funext b
      simp
    simp [e]
    rfl
theorem wpList_conv {P : Program} {ops : Array Oper} {rest : List Oper} {op : Oper} {ac : Act} {w : World} {Q : Exit → Act → World → Prop} (src dst e : TypeId) (hs : P.underlying src = some (.slice e)) (he : P.underlying e = some (.int .u8)) (hd : P.underlying dst = some .string)
    (hgd : op.guard = none) (x : Operand) (ho : op.op = .convert src dst x) (a : Option Addr) (n c : Nat) (l : List UInt8) (hx : ac.eval x = .slice a n c) (h : Bs w a n c l)
    (hK : wpList P ops Q rest (ac.put op.dst (.string ⟨l.toArray⟩)) w) : wpList P ops Q (op :: rest) ac w :=
  wpList_plain hgd fun _ hK' => by
    unfold Oper.wp execOp
    simp only [ho, hx, Sem.run_bind, run_conv w src dst e hs he hd h, Result.andThen_ok]
    exact hK' _ _ hK

/-! ### regions that draw their order -/
theorem wpAnyH_mono {P : Program} {md : Region.Mode} {ops : Array Oper} {Q : Exit → Act → World → Prop} {S S' : World → Prop} (hS : ∀ w, S' w → S w) :
    ∀ (fuel : Nat) (listed : Array Bool) (a : Act) (w : World), wpAnyH P md ops Q S' fuel listed a w → wpAnyH P md ops Q S fuel listed a w
  | 0, _, _, _, h => h
  | fuel + 1, _, _, _, h => ⟨h.1, fun i hi => wpOp_mono (fun a' w' h' => ⟨hS _ h'.1, wpAnyH_mono hS fuel _ a' w' h'.2⟩) (h.2 i hi)⟩

/-- An operation that yields under S is taken first; its slot is named. -/
theorem take_at {P : Program} {md : Region.Mode} {ops : Array Oper} {Q : Exit → Act → World → Prop} {S : World → Prop} (i : Nat) (d : Tmp) {oi : Oper} {v : Value} {fuel : Nat} {listed : Array Bool} {a : Act} {w : World} (hi : ops[i]? = some oi) (hd : oi.dst = some d)
    (hs : Region.noSelect ops = true) (hf : Region.free md ops listed i = true) (hr : (Region.ready md ops listed).contains i = true)
    (hQ : ∀ c a w, Q (.panic c) (a.put oi.dst v) w → Q (.panic c) a w) (hy : YieldsIf P ops S oi v a) (hS : S w)
    (h : wpAnyH P md ops Q S fuel (listed.setIfInBounds i true) { a with tmps := a.tmps.setIfInBounds d v } w) : wpAnyH P md ops Q S (fuel + 1) listed a w := by
  refine wpAnyH_take hi hs hf hr hQ hy hS ?_
  rw [hd]
  exact h

/-! ### arguments -/
/-- What is known of a slice of integers that came in. -/
def IsRow (k : IntKind) (w : World) (a : Option Addr) (len cap : Nat) (zs : List Int) : Prop :=
  (a = none ∧ len = 0 ∧ cap = 0 ∧ zs = []) ∨
  ∃ x, a = some x ∧ len ≤ cap ∧ cap ≤ maxLen ∧ zs.length = cap ∧ (∀ i, i < zs.length → w.cell? (x.add i) = some (.int k (zs.getD i 0))) ∧ ∀ n ∈ zs, (Lit.int k n).wf = true
theorem IsRow.len_le {k : IntKind} {w : World} {a : Option Addr} {len cap : Nat} {zs : List Int} (h : IsRow k w a len cap zs) : len ≤ cap ∧ cap ≤ 9223372036854775807 ∧ zs.length = cap := by
  rcases h with ⟨_, rfl, rfl, rfl⟩ | ⟨x, _, h1, h2, h3, _⟩
  · simp
  · unfold maxLen at h2; omega
theorem IsRow.cell {k : IntKind} {w : World} {a : Option Addr} {len cap : Nat} {zs : List Int} (h : IsRow k w a len cap zs) (i : Nat) (hi : i < cap) :
    ∃ b off, a = some ⟨b, off, none⟩ ∧ w.cell? ⟨b, off + i, none⟩ = some (.int k (zs.getD i 0)) ∧ (Lit.int k (zs.getD i 0)).wf = true := by
  rcases h with ⟨_, _, rfl, _⟩ | ⟨⟨b, off, spot⟩, rfl, h1, h2, h3, hc, hw⟩
  · omega
  · have hc0 := hc i (by omega)
    have hs : spot = none := by simpa [Addr.add] using World.cell?_spot (hc 0 (by omega))
    subst hs
    refine ⟨b, off, rfl, by rwa [Addr.add_mid] at hc0, hw _ ?_⟩
    rw [List.getD_eq_getElem?_getD, List.getElem?_eq_getElem (by omega)]
    exact List.getElem_mem _
theorem IsRow.bytes {w : World} {a : Option Addr} {len cap : Nat} {zs : List Int} (h : IsRow .u8 w a len cap zs) : ∃ l : List UInt8, Bs w a len cap l := by
  have hl := h.len_le
  refine ⟨(zs.take len).map (fun z => UInt8.ofNat z.toNat), by simp [bs]; omega, by omega, by omega, ?_, ?_⟩
  · intro ha
    rcases h with ⟨_, h1, h2, _⟩ | ⟨x, hx, _⟩
    · exact ⟨h1, h2⟩
    · rw [ha] at hx; cases hx
  · intro i hi
    have hi' : i < len := by simp [bs] at hi; omega
    obtain ⟨b, off, ha, hc, hw⟩ := h.cell i (by omega)
    refine ⟨b, off, ha, hc.trans ?_⟩
    have hb := bounds_u8 hw
    have e : (bs ((zs.take len).map (fun z => UInt8.ofNat z.toNat)))[i]? = some (Value.int .u8 ((UInt8.ofNat (zs.getD i 0).toNat).toNat : Int)) := by
      unfold bs
      rw [List.getElem?_map, List.getElem?_map, List.getElem?_take, if_pos hi', List.getD_eq_getElem?_getD, List.getElem?_eq_getElem (by omega)]
      rfl
    rw [e, UInt8.toNat_ofNat']
    congr 2
    omega
end Go.Proofs.Ytdoicmjomlaoaaa
