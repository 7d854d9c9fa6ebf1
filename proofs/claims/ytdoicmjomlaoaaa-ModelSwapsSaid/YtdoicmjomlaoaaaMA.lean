import Derived.Test.YtdoicmjomlaoaaaM8
namespace Go.Proofs.Ytdoicmjomlaoaaa
open Go.RowKit Go.Shelf
section
variable {F : Fence} {n : Nat} {P : Program} {w : World} {ops : Array Oper} {op : Oper} {ac : Act} {K : Act → World → Prop} {Q : Exit → Act → World → Prop}
theorem stepIn_run {x : Value} {w' : World} (hw : Region.wanted op (yielded ops ac.tmps) = true) (hab : op.about P w ac.eval = none) (hnd : ∀ c, op.op ≠ .defer c) (d : Tmp) (hd : op.dst = some d)
    (h : (execOp ac.eval op).run P w = .ok (.value x) w') (hK : K { ac with tmps := ac.tmps.setIfInBounds d x } w') :
    if Region.wanted op (yielded ops ac.tmps) = true then Oper.wpIn F n P op ac w K Q else (∀ f, op.about P w ac.eval = some f → F.fn f) ∧ K (ac.put op.dst undef) w := by
  rw [if_pos hw]
  unfold Oper.wpIn
  refine ⟨fun f hf => (by rw [hab] at hf; cases hf), ?_⟩
  rw [Oper.semAt_plain F _ _ hnd, h]
  show K (ac.put op.dst x) w'
  rw [hd]
  exact hK
theorem stepIn_skip (hw : Region.wanted op (yielded ops ac.tmps) = false) (hab : op.about P w ac.eval = none) (d : Tmp) (hd : op.dst = some d) (hK : K { ac with tmps := ac.tmps.setIfInBounds d undef } w) :
    if Region.wanted op (yielded ops ac.tmps) = true then Oper.wpIn F n P op ac w K Q else (∀ f, op.about P w ac.eval = some f → F.fn f) ∧ K (ac.put op.dst undef) w := by
  rw [if_neg (by rw [hw]; decide)]
  refine ⟨fun f hf => (by rw [hab] at hf; cases hf), ?_⟩
  rw [hd]
  exact hK
theorem stepIn_store {w' : World} (hw : Region.wanted op (yielded ops ac.tmps) = true) (hab : op.about P w ac.eval = none) (hnd : ∀ c, op.op ≠ .defer c) (hd : op.dst = none)
    (h : (execOp ac.eval op).run P w = .ok .skip w') (hK : K ac w') :
    if Region.wanted op (yielded ops ac.tmps) = true then Oper.wpIn F n P op ac w K Q else (∀ f, op.about P w ac.eval = some f → F.fn f) ∧ K (ac.put op.dst undef) w := by
  rw [if_pos hw]
  unfold Oper.wpIn
  refine ⟨fun f hf => (by rw [hab] at hf; cases hf), ?_⟩
  rw [Oper.semAt_plain F _ _ hnd, h]
  show K (ac.put op.dst undef) w'
  rw [hd]
  exact hK
end
theorem exec_box {ρ : Operand → Value} {o : Oper} {ty : TypeId} {x : Operand} {g : Nat} {v : Value} {w : World} (ho : o.op = .load ty x) (hx : ρ x = .pointer (some ⟨g, 0, none⟩)) (h : (Instr.loadAt ty (.pointer (some ⟨g, 0, none⟩))).run Try.prog w = .ok v w) : (execOp ρ o).run Try.prog w = .ok (.value v) w :=
  exec_load ho (by rw [hx]; exact h)
theorem box4 {w : World} {g : Nat} {b : Bool} (h : Boxed w g 4 (.bool b)) : (Instr.loadAt 4 (.pointer (some ⟨g, 0, none⟩))).run Try.prog w = .ok (.bool b) w := by
  have hc := h.cell
  simp [go_sem, hc, Try.underlying4]
theorem box40 {w : World} {g : Nat} {a : Option Addr} {n c : Nat} (h : Boxed w g 40 (.slice a n c)) : (Instr.loadAt 40 (.pointer (some ⟨g, 0, none⟩))).run Try.prog w = .ok (.slice a n c) w := by
  have hc := h.cell
  simp [go_sem, hc, Try.underlying40]
theorem mid49 {w : World} {b o : Nat} {x : Sn} (h8 : x.v.length = 8) (h : w.rangeAt b o (sc x)) : (Instr.loadAt 49 (.pointer (some ⟨b, o, none⟩))).run Try.prog w = .ok (.agg (sc x).toArray) w := by
  simp only [Instr.loadAt, Instr.sureAddr, Sem.run_bind, Sem.run_pure, Result.andThen_ok, run_loadVar_mid w b o 49 (sc x) _ h Try.underlying49 rfl (by rw [sc_len h8]; kernel_rfl)]
theorem exec_mid {ρ : Operand → Value} {o : Oper} {ty : TypeId} {x : Operand} {b off : Nat} {v : Value} {w : World} (ho : o.op = .load ty x) (hx : ρ x = .pointer (some ⟨b, off, none⟩)) (h : (Instr.loadAt ty (.pointer (some ⟨b, off, none⟩))).run Try.prog w = .ok v w) : (execOp ρ o).run Try.prog w = .ok (.value v) w :=
  exec_load ho (by rw [hx]; exact h)
theorem exec_move {ρ : Operand → Value} {o : Oper} {x : Operand} {v : Value} {w : World} (ho : o.op = .move x) (hx : ρ x = v) : (execOp ρ o).run Try.prog w = .ok (.value v) w := by
  unfold execOp
  rw [ho, ← hx]
  rfl
theorem exec_ix40 {ρ : Operand → Value} {o : Oper} {x y : Operand} {b off n c i : Nat} {w : World} (ho : o.op = .indexAddr 40 x y) (hx : ρ x = .slice (some ⟨b, off, none⟩) n c) (hy : ρ y = .int .i64 (i : Int)) (hi : i < n) : (execOp ρ o).run Try.prog w = .ok (.value (.pointer (some ⟨b, off + i * 14, none⟩))) w := by
  have h1 : (0 : Int) ≤ (i : Int) := by omega
  have h2 : (i : Int) < (n : Int) := by omega
  unfold execOp
  simp [ho, hx, hy]
  simp [go_sem, h1, h2, Try.underlying40]
theorem exec_eq49 {ρ : Operand → Value} {o : Oper} {x y : Operand} {s p : Sn} {w : World} (ho : o.op = .binOp .eql 49 x y 49) (hx : ρ x = .agg (sc s).toArray) (hy : ρ y = .agg (sc p).toArray) (h8 : s.v.length = 8) (h8' : p.v.length = 8) : (execOp ρ o).run Try.prog w = .ok (.value (.bool (decide (s = p)))) w := by
  have hm : Try.prog.eqGuardType Try.prog.depth 49 = false := by kernel_rfl
  unfold execOp
  simp only [ho, hx, hy, Sem.run_bind, run_eqGuard_agg w .eql 49 x y _ _ hm, Result.andThen_ok, run_eql_struct, eq49 w s p h8 h8', Sem.run_pure]
theorem exec_pick {ρ : Operand → Value} {o : Oper} {x y z : Operand} {b : Bool} {v : Value} {w : World} (ho : o.op = .pick x y z) (hx : ρ x = .bool b) (hv : (if b then ρ y else ρ z) = v) : (execOp ρ o).run Try.prog w = .ok (.value v) w := by
  unfold execOp
  simp only [ho, hx]
  cases b
  · simp at hv
    simp [hv, go_sem]
  · simp at hv
    simp [hv, go_sem]
theorem exec_st4 {ρ : Operand → Value} {o : Oper} {x y : Operand} {g : Nat} {b b' : Bool} {w : World} (ho : o.op = .store 4 x y) (hx : ρ x = .pointer (some ⟨g, 0, none⟩)) (hy : ρ y = .bool b) (h : Boxed w g 4 (.bool b')) : (execOp ρ o).run Try.prog w = .ok .skip (w.setCell ⟨g, 0, none⟩ (.bool b)) := by
  have hc := h.cell
  have hf := h.frozen
  unfold execOp
  simp only [ho, hx, hy]
  simp [go_sem, hc, hf]
/-- what a round of Do knows -/
structure DI (Wb W : World) (n0 gA gT g7 B0 X : Nat) (H : List UInt8) (tb : Bool) (v : Value) (a : Option Addr) (m c : Nat) (r : List Sn) (x : Sn) : Prop where
  hA : W.heap[gA]? = some (.cells (bs H).toArray 36 (0, 0))
  bT : Boxed W gT 4 (.bool tb)
  b7 : Boxed W g7 40 v
  sl : Sl W a m c 14 (scs r)
  hx : W.heap[X]? = some (.cells (sc x).toArray 49 (0, 0))
  kf : KeepsFrom B0 Wb W
  be : Below n0 Wb W
theorem DI.drew {Wb W : World} {n0 gA gT g7 B0 X : Nat} {H : List UInt8} {tb : Bool} {v : Value} {a : Option Addr} {m c : Nat} {r : List Sn} {x : Sn} (h : DI Wb W n0 gA gT g7 B0 X H tb v a m c r x) : DI Wb W.drew n0 gA gT g7 B0 X H tb v a m c r x :=
  ⟨h.hA, h.bT, h.b7, sl_gb h.sl (gb_drew (gb_refl _ none)) (fun b off e => by simp), h.hx, ⟨h.kf.size, h.kf.same⟩, h.be.drew⟩
theorem DI.setT {Wb W : World} {n0 gA gT g7 B0 X : Nat} {H : List UInt8} {tb : Bool} {v : Value} {a : Option Addr} {m c : Nat} {r : List Sn} {x : Sn} (h : DI Wb W n0 gA gT g7 B0 X H tb v a m c r x) (b : Bool)
    (n1 : gA ≠ gT) (n2 : g7 ≠ gT) (n3 : X ≠ gT) (n4 : ∀ b off, a = some ⟨b, off, none⟩ → b ≠ gT) (n5 : n0 ≤ gT) : DI Wb (W.setCell ⟨gT, 0, none⟩ (.bool b)) n0 gA gT g7 B0 X H b v a m c r x :=
  ⟨hs_other h.hA n1, h.bT.set _, h.b7.other n2 _, sl_gb h.sl (grownBy_setCell' W gT _) (fun b off e => by have := n4 b off e; simpa using this), hs_other h.hx n3, h.kf.trans ((KeepsOthers.setCell W _ _).from B0), h.be.setCell (p := ⟨gT, 0, none⟩) n5 _⟩
theorem DI.setA {Wb W : World} {n0 gA gT g7 B0 X : Nat} {H : List UInt8} {tb : Bool} {v : Value} {a : Option Addr} {m c : Nat} {r : List Sn} {x : Sn} (h : DI Wb W n0 gA gT g7 B0 X H tb v a m c r x) (k : Nat) (y : List UInt8) (hH : H.length = 256) (hk : k < 32) (hy : y.length = 8)
    (n1 : gT ≠ gA) (n2 : g7 ≠ gA) (n3 : X ≠ gA) (n4 : ∀ b off, a = some ⟨b, off, none⟩ → b ≠ gA) (n5 : n0 ≤ gA) : DI Wb (W.setCells gA (k * 8) (bs y)) n0 gA gT g7 B0 X (over8 H k y) tb v a m c r x :=
  ⟨heap_over8 h.hA k y hH hk hy, h.bT.kept (gb_setCells gA _ _ W) (by simpa using n1), h.b7.kept (gb_setCells gA _ _ W) (by simpa using n2), sl_gb h.sl (gb_setCells gA _ _ W) (fun b off e => by have := n4 b off e; simpa using this),
    (heap_setCo n3).trans h.hx, h.kf.trans ((ko_setCells gA _ _ W).from B0), below_setC n5 _ _ _ h.be⟩
theorem rangeR {w : World} {b off n c : Nat} {r : List Sn} (h : Sl w (some ⟨b, off, none⟩) n c 14 (scs r)) (h8 : S8 r) {k : Nat} {p : Sn} (hp : r[k]? = some p) : w.rangeAt b (off + k * 14) (sc p) := by
  intro j u hj
  have hk : k < r.length := (List.getElem?_eq_some_iff.1 hp).1
  have hl := h.len
  rw [scs_len h8] at hl
  have hp8 : p.v.length = 8 := h8 p (List.mem_of_getElem? hp)
  have hj14 : j < 14 := by
    have := (List.getElem?_eq_some_iff.1 hj).1
    rw [sc_len hp8] at this
    exact this
  obtain ⟨b', off', q, e, hq, _, hc⟩ := sn_at h h8 k (by omega)
  injection e with e
  injection e with e1 e2
  subst e1 e2
  rw [hp] at hq
  injection hq with hq
  subst hq
  exact (hc j hj14).trans hj
end Go.Proofs.Ytdoicmjomlaoaaa
