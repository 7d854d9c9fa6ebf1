/- append inside a region that draws its order, over slices as lists of cells. -/
import Derived.Test.YtdoicmjomlaoaaaJ
import Derived.Deep.RegionLawGrows
namespace Go.Proofs.Ytdoicmjomlaoaaa
open Go Go.RowKit
section
variable {P : Program} {t e : TypeId} {z : Value} {sz bytes : Nat} {ops : Array Oper} {op : Oper} {ac : Act} {w : World} {K : Act → World → Prop} {Q : Exit → Act → World → Prop} {E : Prop}
theorem cells_get {ao : Option Addr} {news : List Value} (hc : Cells w ao news) : ∀ b, ao = some b → ∀ j u, news[j]? = some u → w.cell? (b.add j) = some u := by
  intro b hb j u hj
  subst hb
  have hjl : j < news.length := (List.getElem?_eq_some_iff.1 hj).1
  obtain ⟨b', off, ha, hc1⟩ := hc j hjl
  injection ha with ha
  subst ha
  rw [Addr_add, hc1, hj]
theorem step_app_new (T : ElT P t e z sz bytes) (hgd : op.guard = none) (s x : Operand)
    (ho : op.op = .call { callee := .builtin .append, args := #[s, x], argTypes := #[t, t] })
    (a0 : Option Addr) (n cap : Nat) (xs : List Value) (hs : ac.eval s = .slice a0 n cap) (hsl0 : Sl w a0 n cap sz xs)
    (ad : Addr) (m c : Nat) (news : List Value) (hx : ac.eval x = .slice (some ad) m c) (hsl : Sl w (some ad) m c sz news) (h1 : ∀ u ∈ news, u.oneCell' = true)
    (hfull : cap < n + m) (h63 : n + m ≤ 9223372036854775807) (hbytes : (n + m) * bytes ≤ 140737488355328) (d : Tmp) (hd : op.dst = some d)
    (h : ∀ v' w', w'.ownsRow w.heap.size e sz v' (n + m) (xs ++ news) → Below w.heap.size w w' → K { ac with tmps := ac.tmps.setIfInBounds d v' } w') :
    if Region.wanted op (yielded ops ac.tmps) = true then Oper.wp P op ac w K Q else E := by
  obtain ⟨i0, hi, hz0, hz1, hz2⟩ := info_parts T.i
  refine step_append_grows hgd s x t ho e i0 z sz bytes T.u hi hz0 hz1 hz2 T.zs T.pos a0 n cap xs hs hsl0.nil hsl0.len (cells_get hsl0.cells) ad m c news hx hsl.len (cells_get hsl.cells ad rfl) h1 hfull (by unfold maxLen; omega) hbytes ?_
  intro v' w' h2 h3
  rw [hd]
  exact h v' w' h2 ((Below.refl _ w).grown h3 (Nat.le_refl _) (fun k hk => by simp at hk))
theorem step_app (T : ElT P t e z sz bytes) (hgd : op.guard = none) (s x : Operand)
    (ho : op.op = .call { callee := .builtin .append, args := #[s, x], argTypes := #[t, t] })
    (base : Nat) (v : Value) (n : Nat) (xs : List Value) (hs : ac.eval s = v) (hown : w.ownsRow base e sz v n xs)
    (ao : Option Addr) (m c : Nat) (news : List Value) (hx : ac.eval x = .slice ao m c) (hsl : Sl w ao m c sz news) (h1 : ∀ u ∈ news, u.oneCell' = true)
    (h63 : n + m ≤ 9223372036854775807) (hbytes : (n + m) * bytes ≤ 140737488355328) (hbase : base ≤ w.heap.size) (d : Tmp) (hd : op.dst = some d)
    (h : ∀ v' w', w'.ownsRow base e sz v' (n + m) (xs ++ news) → Below base w w' → K { ac with tmps := ac.tmps.setIfInBounds d v' } w') :
    if Region.wanted op (yielded ops ac.tmps) = true then Oper.wp P op ac w K Q else E := by
  have hw : Region.wanted op (yielded ops ac.tmps) = true := by simp [Region.wanted, hgd]
  rw [if_pos hw]
  obtain ⟨i0, hi, hz0, hz1, hz2⟩ := info_parts T.i
  cases ao with
  | none =>
    obtain ⟨rfl, rfl⟩ := hsl.nil rfl
    have hn : news = [] := List.eq_nil_of_length_eq_zero (by have := hsl.len; omega)
    subst hn
    have hrun := run_append_owned_none (P := P) (w := w) base t op.type e i0 sz T.u hi v n xs hown
    unfold Oper.wp
    simp [execOp, ho, resolve, invoke, builtin, hs, hx, hrun, Result.andThen]
    show K (ac.put op.dst v) w
    rw [hd]
    exact h v w (by simpa using hown) (Below.refl _ _)
  | some ad =>
    obtain ⟨v', w', hrun, r1, r2, _⟩ := run_append_own (P := P) w base t op.type e i0 z sz bytes T.u hi hz0 hz1 hz2 T.zs T.pos v n xs hown ad m c news hsl.len (cells_get hsl.cells ad rfl) h1 (by unfold maxLen; omega) hbytes hbase
    unfold Oper.wp
    simp [execOp, ho, resolve, invoke, builtin, hs, hx, hrun, Result.andThen]
    show K (ac.put op.dst v') w'
    rw [hd]
    exact h v' w' r1 (own_below hown hbase r2)
theorem step_run {x : Value} {w' : World} (hg : op.guard = none) (d : Tmp) (hd : op.dst = some d) (h : (execOp ac.eval op).run P w = .ok (.value x) w') (hK : K { ac with tmps := ac.tmps.setIfInBounds d x } w') :
    if Region.wanted op (yielded ops ac.tmps) = true then Oper.wp P op ac w K Q else E := by
  have hw : Region.wanted op (yielded ops ac.tmps) = true := by simp [Region.wanted, hg]
  rw [if_pos hw]
  unfold Oper.wp
  simp only [h]
  show K (ac.put op.dst x) w'
  rw [hd]
  exact hK
theorem exec_load {ρ : Operand → Value} {o : Oper} {ty : TypeId} {a : Operand} {v : Value} (ho : o.op = .load ty a) (h : (Instr.loadAt ty (ρ a)).run P w = .ok v w) : (execOp ρ o).run P w = .ok (.value v) w := by
  unfold execOp
  simp [ho, h]
theorem exec_build {ρ : Operand → Value} {o : Oper} {ty : TypeId} {n i : Nat} {x : Operand} {y v : Value} {w' : World} (ho : o.op = .buildSlice ty n #[(i, x)]) (hx : ρ x = y) (h : (Instr.buildSlice ty n #[(i, y)]).run P w = .ok v w') : (execOp ρ o).run P w = .ok (.value v) w' := by
  unfold execOp
  simp [ho, hx, h]
theorem exec_cut_l {ρ : Operand → Value} {o : Oper} {x lo : Operand} {a : Option Addr} {n c : Nat} {kl : IntKind} {l : Int} (T : ElT P t e z sz bytes) (ho : o.op = .slice t x (some lo) none none) (hx : ρ x = .slice a n c) (hlo : ρ lo = .int kl l) (h0 : 0 ≤ l) (h1 : l ≤ n) :
    (execOp ρ o).run P w = .ok (.value (.slice (cutAt a l.toNat c sz) (n - l.toNat) (c - l.toNat))) w := by
  unfold execOp
  simp [ho, hx, hlo, run_cut_l T w a n c kl l h0 h1]
theorem exec_cut_hm {ρ : Operand → Value} {o : Oper} {x hi mx : Operand} {a : Option Addr} {n c : Nat} {kh km : IntKind} {h m : Int} (T : ElT P t e z sz bytes) (ho : o.op = .slice t x none (some hi) (some mx)) (hx : ρ x = .slice a n c) (hhi : ρ hi = .int kh h) (hmx : ρ mx = .int km m) (h0 : 0 ≤ h) (h2 : h ≤ m) (h3 : m ≤ c) :
    (execOp ρ o).run P w = .ok (.value (.slice (cutAt a 0 m.toNat sz) (h.toNat - 0) (m.toNat - 0))) w := by
  unfold execOp
  simp [ho, hx, hhi, hmx, run_cut_hm T w a n c kh km h m h0 h2 h3]
theorem load_all {g : Nat} {cs : Array Value} {t ty : TypeId} {d : TypeDesc} (hg : w.heap[g]? = some (.cells cs t (0, 0))) (hu : P.underlying ty = some d) (hd : d.isRow = true) (hi : (P.info? ty).map (·.size) = some cs.size) :
    ∀ w', Below w.heap.size w w' → (Instr.loadAt ty (.pointer (some ⟨g, 0, none⟩))).run P w' = .ok (.agg cs) w' := by
  intro w' hb
  have hlt : g < w.heap.size := (Array.getElem?_eq_some_iff.1 hg).1
  simp only [Instr.loadAt, Instr.sureAddr, Sem.run_bind, Sem.run_pure, Result.andThen_ok, run_loadVar_row w' g t ty cs (0, 0) d (blk_below hb hg hlt) hu (by cases d <;> simp_all [TypeDesc.isRow]) hi]
end
end Go.Proofs.Ytdoicmjomlaoaaa
