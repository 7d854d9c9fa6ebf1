import Derived.Test.YtdoicmjomlaoaaaMA
namespace Go.Proofs.Ytdoicmjomlaoaaa
open Go.RowKit Go.Shelf
attribute [local go_sem] Oper.semAt_some
theorem z4 (w : World) : (zeroValue 4).run Try.prog w = .ok (.bool false) w := by kernel_rfl
theorem al3 (W : World) (A B C : Obj) : (((W.alloc A).alloc B).alloc C).heap[W.heap.size]? = some A ∧ (((W.alloc A).alloc B).alloc C).heap[W.heap.size + 1]? = some B ∧ (((W.alloc A).alloc B).alloc C).heap[W.heap.size + 1 + 1]? = some C := by
  have hs2 : ((W.alloc A).alloc B).heap.size = W.heap.size + 1 + 1 := by simp
  refine ⟨(ha_old (by omega)).trans (al2 W A B).1, (ha_old (by omega)).trans (al2 W A B).2, ?_⟩
  rw [← hs2]
  exact ha_new _ _
theorem be3 (W : World) (A B C : Obj) : Below W.heap.size W (((W.alloc A).alloc B).alloc C) := (((Below.refl _ W).alloc (Nat.le_refl _) _).alloc (by simp) _).alloc (by simp; omega) _
theorem after3 {W w1 : World} {A B C : Obj} (hb : Below (((W.alloc A).alloc B).alloc C).heap.size (((W.alloc A).alloc B).alloc C) w1) :
    w1.heap[W.heap.size]? = some A ∧ w1.heap[W.heap.size + 1]? = some B ∧ w1.heap[W.heap.size + 1 + 1]? = some C ∧ Below W.heap.size W w1 ∧ W.heap.size + 3 ≤ w1.heap.size := by
  have h := al3 W A B C
  have hs := hb.size
  refine ⟨blk_below hb h.1 (by simp; omega), blk_below hb h.2.1 (by simp), blk_below hb h.2.2 (by simp), (be3 W _ _ _).trans (hb.mono (by simp; omega)), by simp at hs; omega⟩
theorem gb_setRow (W : World) (g : Nat) (cs : Array Value) : W.grownBy (W.setRow g cs) (some g) :=
  ⟨rfl, rfl, rfl, by simp, fun k _ hne => setRow_other _ _ _ _ (fun e => hne (by rw [e]))⟩
theorem results_rbt {fn : Func} {p q u : Tmp} (h : fn.results = #[.cell p 36, .cell q 4, .tmp u]) (tmps : Array Value) (w : World) (g : Nat) (cs : Array Value) (g' : Nat) (b : Bool) (hi : (Try.prog.info? 36).map (·.size) = some cs.size)
    (hp : tmps.getD p undef = .pointer (some ⟨g, 0, none⟩)) (hq : tmps.getD q undef = .pointer (some ⟨g', 0, none⟩)) (hg : w.heap[g]? = some (.cells cs 36 (0, 0))) (hb : Boxed w g' 4 (.bool b)) :
    (results fn tmps).run Try.prog w = .ok (.tuple #[.agg cs, .bool b, tmps.getD u undef]) w := by
  have hp' : tmps[p]?.getD undef = .pointer (some ⟨g, 0, none⟩) := by simpa using hp
  have hq' : tmps[q]?.getD undef = .pointer (some ⟨g', 0, none⟩) := by simpa using hq
  have hc := hb.cell
  simp [results, h, hp', hq', asAddr, run_loadVar_row w g 36 36 cs (0, 0) _ hg Try.underlying36 rfl hi]
  simp [go_sem, hc, Try.underlying4]
theorem step_skip {P : Program} {ops : Array Oper} {op : Oper} {ac : Act} {w w' : World} {K : Act → World → Prop} {Q : Exit → Act → World → Prop} {E : Prop} (hg : op.guard = none) (hd : op.dst = none) (h : (execOp ac.eval op).run P w = .ok .skip w') (hK : K ac w') :
    if Region.wanted op (yielded ops ac.tmps) = true then Oper.wp P op ac w K Q else E := by
  have hw : Region.wanted op (yielded ops ac.tmps) = true := by simp [Region.wanted, hg]
  rw [if_pos hw]
  unfold Oper.wp
  simp only [h]
  show K (ac.put op.dst undef) w'
  rw [hd]
  exact hK
theorem exec_asg {ρ : Operand → Value} {o : Oper} {x : Operand} {v : Value} {w : World} (ho : o.op = .assign x) (hx : ρ x = v) : (execOp ρ o).run Try.prog w = .ok (.value v) w := by
  unfold execOp
  rw [ho, ← hx]
  rfl
theorem step_store_row {P : Program} {ops : Array Oper} {op : Oper} {ac : Act} {w : World} {K : Act → World → Prop} {Q : Exit → Act → World → Prop} {E : Prop} (hg : op.guard = none) (hd : op.dst = none) (ty : TypeId) (x y : Operand) (ho : op.op = .store ty x y)
    (g : Nat) (cells : Array Value) (hx : ac.eval x = .pointer (some ⟨g, 0, none⟩)) (hy : ac.eval y = .agg cells)
    (t : TypeId) (old : Array Value) (hgc : w.heap[g]? = some (.cells old t (0, 0))) (hi : (P.info? ty).map (·.size) = some cells.size)
    (hold : old.size = cells.size) (h1 : cells.all (·.oneCell') = true) (h : K ac (w.setRow g cells)) :
    if Region.wanted op (yielded ops ac.tmps) = true then Oper.wp P op ac w K Q else E := by
  have hw : Region.wanted op (yielded ops ac.tmps) = true := by simp [Region.wanted, hg]
  rw [if_pos hw]
  refine wp_store_row ty x y ho g cells hx hy t old hgc hi hold h1 ?_
  rw [hd]
  exact h
set_option maxRecDepth 100000 in
set_option maxHeartbeats 4000000 in
theorem do_yes (H : List UInt8) (hH : H.length = 256) (a : Option Addr) (m c : Nat) (l : List Sn) (hl : l.length = m) (hm : m ≤ 1000) (W : World) (hs : Sl W a m c 14 (scs l)) (h8 : S8 l) (hok : ∀ x ∈ l, okS x = true) (hmay : mayE l = 0) :
    Calls Try.prog 16 #[.agg (bs H).toArray, .slice a m c] W fun e w' => e = .returned (.tuple #[.agg (bs (doH H l)).toArray, .bool (decide (l = (fS H l).2)), .int .i64 0]) ∧ Below W.heap.size W w' := by
  refine (callsIn_wide (n := 3)).1 ?_
  have HH := hidd hH
  have HL := hidd hl
  have HS := hidd hs
  have H8 := hidd h8
  have HOK := hidd hok
  have HM := hidd hmay
  have HAL := hidd (al3 W (.cells (bs H).toArray 36) (.cells (bs z36).toArray 36) (.cells #[.bool false] 4))
  clear hs h8 hok hmay hH
  have zv36 := zero36
  refine callsIn_of_wp_marks Try.func16 rfl trivial ?_ rfl
  simp only [Try.ntmps16, List.size_toArray, List.length_cons, List.length_nil, Nat.reduceAdd, Nat.reduceSub, Array.replicate_succ, Array.replicate_zero, List.push_toArray, List.append_toArray, List.nil_append, List.cons_append]
  refine wpIn_wide.2 ?_
  go_wp2_with (first | (with_reducible refine wpList_load_row rfl 36 (.tmp 2) rfl W.heap.size rfl 36 (bs H).toArray (0, 0) _ HAL.out.1 Try.underlying36 rfl (sz36 H HH.out) ?_) | (go_at_call 18; refine (fill_yes H HH.out a m c l hl hm _ (HS.out.grow (be3 W _ _ _)) H8.out HOK.out HM.out).mono ?_; rintro e w1 ⟨a', c', rfl, hsr, har, hb1⟩; have HA := hidd (after3 hb1); have HSR := hidd hsr; have HAR := hidd har; clear hsr har hb1))
  clear zv36
  obtain ⟨q0, q1, q2, qb, qs⟩ := HA.out
  have HB2 := hidd (qb.alloc qb.size (.cells #[.slice a' m c'] 40))
  have p0 := (ha_old (o := .cells #[.slice a' m c'] 40) (by omega)).trans q0
  have p1 := (ha_old (o := .cells #[.slice a' m c'] 40) (by omega)).trans q1
  have p2 := (ha_old (o := .cells #[.slice a' m c'] 40) (by omega)).trans q2
  have p3 := ha_new w1 (.cells #[.slice a' m c'] 40)
  have HSR2 := hidd (HSR.out.grow ((Below.refl _ w1).alloc (Nat.le_refl _) (.cells #[.slice a' m c'] 40)))
  have P := hidd (And.intro p0 (And.intro p1 (And.intro p2 p3)))
  have hsz2 : (w1.alloc (.cells #[.slice a' m c'] 40)).heap.size = w1.heap.size + 1 := by simp
  clear q0 q1 q2 qb p0 p1 p2 p3
  generalize hw2 : w1.alloc (.cells #[.slice a' m c'] 40) = w2 at *
  have HSZ := hidd hsz2
  have HQS := hidd qs
  clear hw2 hsz2
  rename_i Q0 K0 aK0
  have CONT : Exit.then K0 Q0 Exit.normal { tmps := #[.agg (bs H).toArray, .slice a m c, .pointer (some ⟨W.heap.size, 0, none⟩), undef, .pointer (some ⟨W.heap.size + 1, 0, none⟩), .pointer (some ⟨W.heap.size + 1 + 1, 0, none⟩), .int .i64 0, .pointer (some ⟨w1.heap.size, 0, none⟩), undef, undef, .tuple #[.slice a' m c', .int .i64 0], .agg (bs H).toArray, .slice a m c, .tuple #[.slice a' m c', .int .i64 0], .slice a' m c', .int .i64 0, .int .i64 0, .bool false, undef, undef, .agg (bs H).toArray, undef, undef, undef, undef, undef, undef, undef, undef, undef, undef, undef, undef, undef, undef, undef, undef, undef, undef, undef, undef, undef, undef, undef], defers := [] } ((w2.setCell ⟨W.heap.size + 1 + 1, 0, none⟩ (.bool true)).drew.setRow (W.heap.size + 1) (bs H).toArray) := by
    have r0 : ((w2.setCell ⟨W.heap.size + 1 + 1, 0, none⟩ (.bool true)).drew.setRow (W.heap.size + 1) (bs H).toArray).heap[W.heap.size + 1]? = some (.cells (bs H).toArray 36 (0, 0)) := setRow_heap _ _ _ _ _ _ (hs_other (hs_drew P.out.2.1) (by simp))
    have r1 : Boxed ((w2.setCell ⟨W.heap.size + 1 + 1, 0, none⟩ (.bool true)).drew.setRow (W.heap.size + 1) (bs H).toArray) (W.heap.size + 1 + 1) 4 (.bool true) := (setRow_other _ _ _ _ (by omega)).trans (hs_same (hs_drew P.out.2.2.1))
    have r2 : Boxed ((w2.setCell ⟨W.heap.size + 1 + 1, 0, none⟩ (.bool true)).drew.setRow (W.heap.size + 1) (bs H).toArray) w1.heap.size 40 (.slice a' m c') := (setRow_other _ _ _ _ (by have := HQS.out; omega)).trans (hs_other (hs_drew P.out.2.2.2) (by have := HQS.out; simp; omega))
    have r3 : Below W.heap.size W ((w2.setCell ⟨W.heap.size + 1 + 1, 0, none⟩ (.bool true)).drew.setRow (W.heap.size + 1) (bs H).toArray) := below_setRow ((HB2.out.setCell (p := ⟨W.heap.size + 1 + 1, 0, none⟩) (by simp; omega) _).drew) (by omega) _
    have r4 : Sl ((w2.setCell ⟨W.heap.size + 1 + 1, 0, none⟩ (.bool true)).drew.setRow (W.heap.size + 1) (bs H).toArray) a' m c' 14 (scs (fS H l).2) := by
      have hne : ∀ b off, a' = some ⟨b, off, none⟩ → W.heap.size + 3 ≤ b := fun b off e => by have := HAR.out b off e; simp at this; omega
      have s1 := sl_gb HSR2.out (grownBy_setCell' w2 (W.heap.size + 1 + 1) (.bool true)) (fun b off e => by have := hne b off e; simp; omega)
      have s2 := sl_gb s1 (gb_drew (gb_refl _ none)) (fun b off e => by simp)
      exact sl_gb s2 (gb_setRow _ (W.heap.size + 1) (bs H).toArray) (fun b off e => by have := hne b off e; simp; omega)
    generalize (w2.setCell ⟨W.heap.size + 1 + 1, 0, none⟩ (.bool true)).drew.setRow (W.heap.size + 1) (bs H).toArray = Wa at *
    have R := hidd (And.intro r0 (And.intro r1 (And.intro r2 (And.intro r3 r4))))
    clear r0 r1 r2 r3 r4
    go_wp2_with (go_at_call 28; refine ((callsIn_wide (n := 3)).1 (steps_in Fence.wide 3 trivial rfl a m c _)).mono ?_; rintro e w5 ⟨rfl, rfl⟩)
    obtain ⟨r0, r1, r2, r3, r4⟩ := R.out
    have hg : (Wa.alloc (.cells #[.slice a m c] 40)).cell? ⟨Wa.heap.size, 0, none⟩ = some (.slice a m c) := (Boxed.new Wa 40 (.slice a m c)).cell
    have hszA : (Wa.alloc (.cells #[.slice a m c] 40)).heap.size = Wa.heap.size + 1 := by simp
    have hlt7 : w1.heap.size < Wa.heap.size := r2.lt
    have hqs := HQS.out
    have B0 : Below W.heap.size W (Wa.alloc (.cells #[.slice a m c] 40)) := r3.alloc r3.size _
    have g0 : (Wa.alloc (.cells #[.slice a m c] 40)).heap[W.heap.size + 1]? = some (.cells (bs H).toArray 36 (0, 0)) := (ha_old (by omega)).trans r0
    have g1 : Boxed (Wa.alloc (.cells #[.slice a m c] 40)) (W.heap.size + 1 + 1) 4 (.bool true) := r1.alloc _
    have g2 : Boxed (Wa.alloc (.cells #[.slice a m c] 40)) w1.heap.size 40 (.slice a' m c') := r2.alloc _
    have g3 := sl_gb r4 (World.grownBy_alloc Wa (.cells #[.slice a m c] 40) none) (fun b off e => by simp)
    have hlt : ∀ b off, a = some ⟨b, off, none⟩ → 0 < m → b < W.heap.size := fun b off e h0 => by
      obtain ⟨b', off', e', hc⟩ := HS.out.cells 0 (by rw [scs_len H8.out, HL.out]; omega)
      rw [e] at e'
      injection e' with e'
      injection e' with e1 e2
      subst e1
      exact World.block_lt_of_cell? W _ (hc.trans (List.getElem?_eq_getElem (by rw [scs_len H8.out, HL.out]; omega)))
    clear r0 r1 r2 r3 r4
    generalize hW0 : Wa.alloc (.cells #[.slice a m c] 40) = W0 at *
    have hrl : (fS H l).2.length = m := by rw [fS_len, HL.out]
    have hr8 : S8 (fS H l).2 := (fS_ok HH.out l (H, []) ⟨HH.out, fun p hp => by simp at hp⟩ H8.out HOK.out).2
    obtain ⟨r, hr⟩ : ∃ r, r = (fS H l).2 := ⟨_, rfl⟩
    rw [← hr] at hrl hr8 g3
    have HRR := hidd hr
    have HR8 := hidd hr8
    have HRL := hidd hrl
    have hI : OwnFrom W0.heap.size (fun (pre : List (Fin l.length)) (w : World) => ((w.heap[W.heap.size + 1]? = some (.cells (bs (doH H (pk l pre))).toArray 36 (0, 0)) ∧ Boxed w (W.heap.size + 1 + 1) 4 (.bool (tlB l r pre))) ∧ (Boxed w w1.heap.size 40 (.slice a' m c') ∧ Sl w a' m c' 14 (scs r))) ∧ Below W.heap.size W w ∧ W0.heap.size ≤ w.heap.size) :=
      OwnFrom.and (OwnFrom.and (OwnFrom.and (Own.from (heapf_own _ (fun pre : List (Fin l.length) => (bs (doH H (pk l pre))).toArray) 36) _) (Own.from (boxed_own _ 4 (fun pre : List (Fin l.length) => .bool (tlB l r pre))) _)) (OwnFrom.and (Own.from (boxed_own _ 40 (fun _ => .slice a' m c')) _) (Own.from (sl_own a' m c' 14 (scs r)) _))) (OwnFrom.and (ownFrom_below (Nat.le_refl _) (by omega)) (Own.from (size_own W0.heap.size) _))
    clear hr hr8 hrl
    refine (wpIn_wide (n := 3)).1 ?_
    refine wpIn_rangeFunc_ownH rfl (by omega) (gf := 34) (lb := #[.pointer (some ⟨Wa.heap.size, 0, none⟩)]) rfl trivial (enters_of Try.func34 (by kernel_rfl) rfl)
      (steps_stops Fence.wide 2 trivial rfl (by omega) Wa.heap.size W.heap.size a m c l hl hm H8.out HOK.out W0 hg (by omega) (HS.out.grow B0) hlt (by omega)) belowK_t (belowK_b (by omega)) (Below.refl _ _) (fun _ => rfl)
      _ (fun _ _ _ => False) hI (fun _ _ _ _ _ hs _ _ => hs)
      ⟨⟨⟨g0, g1⟩, ⟨g2, g3⟩⟩, B0, Nat.le_refl _⟩
      (fun x aa w => ∃ X, W0.heap.size ≤ X ∧ aa = { tmps := #[.agg (bs H).toArray, .slice a m c, .pointer (some ⟨W.heap.size, 0, none⟩), undef, .pointer (some ⟨W.heap.size + 1, 0, none⟩), .pointer (some ⟨W.heap.size + 1 + 1, 0, none⟩), .int .i64 0, .pointer (some ⟨w1.heap.size, 0, none⟩), .int .i64 (x.1 : Int), .pointer (some ⟨X, 0, none⟩), .tuple #[.slice a' m c', .int .i64 0], .agg (bs H).toArray, .slice a m c, .tuple #[.slice a' m c', .int .i64 0], .slice a' m c', .int .i64 0, .int .i64 0, .bool false, undef, undef, .agg (bs H).toArray, .slice a m c, .func (.func 34) #[] #[.pointer (some ⟨Wa.heap.size, 0, none⟩)], .int .i64 (x.1 : Int), .agg (sc l[x.1]).toArray, undef, undef, undef, undef, undef, undef, undef, undef, undef, undef, undef, undef, undef, undef, undef, undef, undef, undef, undef], defers := [] } ∧ w.heap[X]? = some (.cells (sc l[x.1]).toArray 49 (0, 0)))
      ?hAx ?assign ?body ?done ?stop
    case hAx =>
      rintro x aa s A B row ⟨X, h1, h2, h3⟩ hgr hr
      exact ⟨X, h1, h2, (heapf_own X (fun _ : Unit => (sc l[x.1]).toArray) 49) () A B row h3 hgr (fun r e => (hr r e).2)⟩
    case assign =>
      rintro lp pre x w K hin hK
      simp only [encS]
      have HX8 := hidd (H8.out l[x.1] (List.getElem_mem _))
      have HK := hidd hK
      have HI := hidd hin
      clear hK hin
      gi_wp2_with (with_reducible refine wpListIn_store_row rfl 49 (.tmp 9) (.tmp 24) rfl w.heap.size (sc l[x.1]).toArray rfl rfl 49 z14 (ha_new w (.cells z14 49)) (sc_sz _ HX8.out) (z14_sz _ HX8.out) (sc_one _) ?_)
      rw [World.setRow_alloc_new]
      exact HK.out _ _ ((KeepsOthers.alloc w _).from _) ((Below.refl _ w).alloc HI.out.2.1.size _) (hI.alloc _ HI.out) ⟨w.heap.size, HI.out.2.2, rfl, ha_new w _⟩
    case body =>
      rintro lp pre x aa w hlp _ ⟨⟨⟨e0, e1⟩, ⟨e2, e3⟩⟩, e4, e5⟩ ⟨X, hX, rfl, hx⟩ hlt2
      obtain ⟨b', off', p, hae, hrp, hp8, _⟩ := sn_at e3 HR8.out x.1 (by have := x.2; omega)
      have hbne : W.heap.size + 3 ≤ b' := by have := HAR.out b' off' hae; simp at this; omega
      subst hae
      have hx8 : l[x.1].v.length = 8 := H8.out _ (List.getElem_mem _)
      have hxk : okS l[x.1] = true := HOK.out _ (List.getElem_mem _)
      have hpk := pk_ok H8.out HOK.out pre
      have hln : (doH H (pk l pre)).length = 256 := doH_len HH.out _ hpk.1 hpk.2
      have hxm : x.1 < m := by have := x.2; omega
      obtain ⟨s, hsx⟩ : ∃ s, s = l[x.1] := ⟨_, rfl⟩
      rw [← hsx] at hx8 hxk hx
      obtain ⟨tb, htb⟩ : ∃ tb, tlB l r pre = tb := ⟨_, rfl⟩
      rw [htb] at e1
      have D0 := hidd (show DI w w W.heap.size (W.heap.size + 1) (W.heap.size + 1 + 1) w1.heap.size W0.heap.size X (doH H (pk l pre)) tb (.slice (some ⟨b', off', none⟩) m c') (some ⟨b', off', none⟩) m c' r s from ⟨e0, e1, e2, e3, hx, KeepsFrom.refl _ _, Below.refl _ _⟩)
      have D1 := hidd D0.out.drew
      have RG := hidd (rangeR D1.out.sl HR8.out hrp)
      have HX8 := hidd hx8
      have HP8 := hidd hp8
      have HLN := hidd hln
      have HSX := hidd hsx
      have HTB := hidd htb
      have HPE := hidd hrp
      have I34 := hidd (And.intro e4 e5)
      have HNA := hidd (show ∀ b off, (some ⟨b', off', none⟩ : Option Addr) = some ⟨b, off, none⟩ → b ≠ W.heap.size + 1 from fun b off e => by injection e with e; injection e with e _; omega)
      have HNT := hidd (show ∀ b off, (some ⟨b', off', none⟩ : Option Addr) = some ⟨b, off, none⟩ → b ≠ W.heap.size + 1 + 1 from fun b off e => by injection e with e; injection e with e _; omega)
      have hk : s.k = (s.k.toNat : Nat) ∧ s.k.toNat < 32 ∧ (s.K = 1 ∨ s.K = 2) := by
        unfold okS at hxk
        simp at hxk
        omega
      obtain ⟨kk, hkk⟩ : ∃ kk, kk = s.k.toNat := ⟨_, rfl⟩
      rw [← hkk] at hk
      have HK1 := hidd hk.1
      have HKc := hidd hk.2.2
      have hk2 := hk.2.1
      have HKK := hidd hkk
      have j0 : (0 : Int) ≤ (kk : Int) := by omega
      have j1 : (kk : Int) < 32 := by omega
      clear hk hkk e0 e1 e2 e3 e4 e5 hx hx8 hxk hpk hln hsx htb hrp hp8 hI
      cases tb
      · gi_wp2_with fail
        rename_i Q1 K1 aK1
        have CONT : Exit.then K1 (Exit.inBlock 1 Q1) Exit.normal { tmps := #[.agg (bs H).toArray, .slice a m c, .pointer (some ⟨W.heap.size, 0, none⟩), undef, .pointer (some ⟨W.heap.size + 1, 0, none⟩), .pointer (some ⟨W.heap.size + 1 + 1, 0, none⟩), .int .i64 0, .pointer (some ⟨w1.heap.size, 0, none⟩), .int .i64 (x.1 : Int), .pointer (some ⟨X, 0, none⟩), .tuple #[.slice (some ⟨b', off', none⟩) m c', .int .i64 0], .agg (bs H).toArray, .slice a m c, .tuple #[.slice (some ⟨b', off', none⟩) m c', .int .i64 0], .slice (some ⟨b', off', none⟩) m c', .int .i64 0, .int .i64 0, .bool false, undef, undef, .agg (bs H).toArray, .slice a m c, .func (.func 34) #[] #[.pointer (some ⟨Wa.heap.size, 0, none⟩)], .int .i64 (x.1 : Int), .agg (sc l[x.1]).toArray, .bool false, .bool false, undef, undef, undef, undef, undef, undef, .bool false, undef, undef, undef, undef, undef, undef, undef, undef, undef, undef], defers := [] } (w.drew.setCell ⟨W.heap.size + 1 + 1, 0, none⟩ (.bool false)) := by
          have D2 := hidd (D1.out.setT false (by omega) (by omega) (by omega) HNT.out (by omega))
          generalize w.drew.setCell ⟨W.heap.size + 1 + 1, 0, none⟩ (.bool false) = w3 at D2 ⊢
          have cP4 := ((blk D2.out.hx).1 4).trans (show (sc s).toArray[4]? = some (.int .i64 s.k) from rfl)
          have cP0 := ((blk D2.out.hx).1 0).trans (show (sc s).toArray[0]? = some (.int .i8 s.K) from rfl)
          rw [HK1.out] at cP4
          rcases HKc.out with hK | hK
          · rw [hK] at cP0
            have HK3 := hidd hK
            clear hK
            gi_wp2_with fail
            refine ⟨D2.out.kf, D2.out.be, ⟨⟨?_, ?_⟩, ⟨D2.out.b7, D2.out.sl⟩⟩, I34.out.1.trans D2.out.be, Nat.le_trans I34.out.2 D2.out.be.size⟩
            · rw [pk_snoc, doH_snoc]
              unfold stH
              rw [← HSX.out, HK3.out]
              exact D2.out.hA
            · rw [tlB_snoc, HPE.out, HTB.out, ← HSX.out]
              exact (show _ = _ from D2.out.bT).trans (by rw [show (false && decide (some p = some s)) = false from rfl])
          · rw [hK] at cP0
            have HK3 := hidd hK
            clear hK
            have HTH := hidd (show w3.there (W.heap.size + 1) (kk * 8) (bs s.v).toArray.size from by rw [show (bs s.v).toArray.size = 8 from (by rw [List.size_toArray, bs_length]; exact HX8.out)]; exact there_bs D2.out.hA _ 8 (by rw [HLN.out]; omega))
            gi_wp2_with (first | (with_reducible refine wpListIn_load_mid rfl 24 (.tmp 39) rfl X 5 rfl (bs s.v) _ (by rw [← sc_v s HX8.out]; exact range_bs D2.out.hx 5 8) Try.underlying24 rfl (v_szl _ HX8.out) ?_) | (with_reducible refine wpListIn_store_mid rfl 24 (.tmp 41) (.tmp 40) rfl (W.heap.size + 1) (kk * 8) (bs s.v).toArray rfl rfl HTH.out (v_sz _ HX8.out) (bs_oneA _) ?_; have D3 := hidd (D2.out.setA kk s.v HLN.out (by omega) HX8.out (by omega) (by omega) (by omega) HNA.out (by omega)); generalize w3.setCells (W.heap.size + 1) (kk * 8) (bs s.v) = w4 at D3 ⊢))
            refine ⟨D3.out.kf, D3.out.be, ⟨⟨?_, ?_⟩, ⟨D3.out.b7, D3.out.sl⟩⟩, I34.out.1.trans D3.out.be, Nat.le_trans I34.out.2 D3.out.be.size⟩
            · rw [pk_snoc, doH_snoc]
              unfold stH
              rw [← HSX.out, HK3.out]
              exact (by rw [← HKK.out]; exact D3.out.hA)
            · rw [tlB_snoc, HPE.out, HTB.out, ← HSX.out]
              exact (show _ = _ from D3.out.bT).trans (by rw [show (false && decide (some p = some s)) = false from rfl])
        refine wpIn_region_any (by kernel_rfl) ?_
        show wpAnyIn _ _ _ _ _ _ _ _ _ w.drew
        refine wpAnyIn_ready (rs := [0]) (by kernel_rfl) (by simp) ?_
        refine AllReadyIn.cons rfl (fun K hK => ?_) (AllReadyIn.nil)
        refine stepIn_run (by rfl) (by rfl) (by intro c h; cases h) 25 rfl (exec_box rfl rfl (box4 D1.out.bT)) ?_
        refine hK _ _ ?_
        clear hK K
        try simp only [List.setIfInBounds_toArray, List.set_cons_zero, List.set_cons_succ]
        refine wpAnyIn_ready (rs := [1]) (by kernel_rfl) (by simp) ?_
        refine AllReadyIn.cons rfl (fun K hK => ?_) (AllReadyIn.nil)
        refine stepIn_run (by rfl) (by rfl) (by intro c h; cases h) 26 rfl (exec_move rfl rfl) ?_
        refine hK _ _ ?_
        clear hK K
        try simp only [List.setIfInBounds_toArray, List.set_cons_zero, List.set_cons_succ]
        refine wpAnyIn_ready (rs := [2, 3, 4]) (by kernel_rfl) (by simp) ?_
        refine AllReadyIn.cons rfl (fun K hK => ?_) (AllReadyIn.cons rfl (fun K hK => ?_) (AllReadyIn.cons rfl (fun K hK => ?_) (AllReadyIn.nil)))
        · refine stepIn_skip (by rfl) (by rfl) 27 rfl ?_
          refine hK _ _ ?_
          clear hK K
          try simp only [List.setIfInBounds_toArray, List.set_cons_zero, List.set_cons_succ]
          refine wpAnyIn_ready (rs := [3, 4]) (by kernel_rfl) (by simp) ?_
          refine AllReadyIn.cons rfl (fun K hK => ?_) (AllReadyIn.cons rfl (fun K hK => ?_) (AllReadyIn.nil))
          · refine stepIn_skip (by rfl) (by rfl) 28 rfl ?_
            refine hK _ _ ?_
            clear hK K
            try simp only [List.setIfInBounds_toArray, List.set_cons_zero, List.set_cons_succ]
            refine wpAnyIn_ready (rs := [4]) (by kernel_rfl) (by simp) ?_
            refine AllReadyIn.cons rfl (fun K hK => ?_) (AllReadyIn.nil)
            refine stepIn_skip (by rfl) (by rfl) 29 rfl ?_
            refine hK _ _ ?_
            clear hK K
            try simp only [List.setIfInBounds_toArray, List.set_cons_zero, List.set_cons_succ]
            refine wpAnyIn_ready (rs := [5]) (by kernel_rfl) (by simp) ?_
            refine AllReadyIn.cons rfl (fun K hK => ?_) (AllReadyIn.nil)
            refine stepIn_skip (by rfl) (by rfl) 30 rfl ?_
            refine hK _ _ ?_
            clear hK K
            try simp only [List.setIfInBounds_toArray, List.set_cons_zero, List.set_cons_succ]
            refine wpAnyIn_ready (rs := [6]) (by kernel_rfl) (by simp) ?_
            refine AllReadyIn.cons rfl (fun K hK => ?_) (AllReadyIn.nil)
            refine stepIn_skip (by rfl) (by rfl) 31 rfl ?_
            refine hK _ _ ?_
            clear hK K
            try simp only [List.setIfInBounds_toArray, List.set_cons_zero, List.set_cons_succ]
            refine wpAnyIn_ready (rs := [7]) (by kernel_rfl) (by simp) ?_
            refine AllReadyIn.cons rfl (fun K hK => ?_) (AllReadyIn.nil)
            refine stepIn_skip (by rfl) (by rfl) 32 rfl ?_
            refine hK _ _ ?_
            clear hK K
            try simp only [List.setIfInBounds_toArray, List.set_cons_zero, List.set_cons_succ]
            refine wpAnyIn_ready (rs := [8]) (by kernel_rfl) (by simp) ?_
            refine AllReadyIn.cons rfl (fun K hK => ?_) (AllReadyIn.nil)
            refine stepIn_run (by rfl) (by rfl) (by intro c h; cases h) 33 rfl (exec_pick rfl rfl rfl) ?_
            refine hK _ _ ?_
            clear hK K
            try simp only [List.setIfInBounds_toArray, List.set_cons_zero, List.set_cons_succ]
            refine wpAnyIn_ready (rs := [9]) (by kernel_rfl) (by simp) ?_
            refine AllReadyIn.cons rfl (fun K hK => ?_) (AllReadyIn.nil)
            refine stepIn_store (by rfl) (by rfl) (by intro c h; cases h) rfl (exec_st4 rfl rfl rfl D1.out.bT) ?_
            refine hK _ _ ?_
            clear hK K
            try simp only [List.setIfInBounds_toArray, List.set_cons_zero, List.set_cons_succ]
            refine wpAnyIn_done (by kernel_rfl) ?_ _
            exact CONT
          · refine stepIn_skip (by rfl) (by rfl) 29 rfl ?_
            refine hK _ _ ?_
            clear hK K
            try simp only [List.setIfInBounds_toArray, List.set_cons_zero, List.set_cons_succ]
            refine wpAnyIn_ready (rs := [3]) (by kernel_rfl) (by simp) ?_
            refine AllReadyIn.cons rfl (fun K hK => ?_) (AllReadyIn.nil)
            refine stepIn_skip (by rfl) (by rfl) 28 rfl ?_
            refine hK _ _ ?_
            clear hK K
            try simp only [List.setIfInBounds_toArray, List.set_cons_zero, List.set_cons_succ]
            refine wpAnyIn_ready (rs := [5]) (by kernel_rfl) (by simp) ?_
            refine AllReadyIn.cons rfl (fun K hK => ?_) (AllReadyIn.nil)
            refine stepIn_skip (by rfl) (by rfl) 30 rfl ?_
            refine hK _ _ ?_
            clear hK K
            try simp only [List.setIfInBounds_toArray, List.set_cons_zero, List.set_cons_succ]
            refine wpAnyIn_ready (rs := [6]) (by kernel_rfl) (by simp) ?_
            refine AllReadyIn.cons rfl (fun K hK => ?_) (AllReadyIn.nil)
            refine stepIn_skip (by rfl) (by rfl) 31 rfl ?_
            refine hK _ _ ?_
            clear hK K
            try simp only [List.setIfInBounds_toArray, List.set_cons_zero, List.set_cons_succ]
            refine wpAnyIn_ready (rs := [7]) (by kernel_rfl) (by simp) ?_
            refine AllReadyIn.cons rfl (fun K hK => ?_) (AllReadyIn.nil)
            refine stepIn_skip (by rfl) (by rfl) 32 rfl ?_
            refine hK _ _ ?_
            clear hK K
            try simp only [List.setIfInBounds_toArray, List.set_cons_zero, List.set_cons_succ]
            refine wpAnyIn_ready (rs := [8]) (by kernel_rfl) (by simp) ?_
            refine AllReadyIn.cons rfl (fun K hK => ?_) (AllReadyIn.nil)
            refine stepIn_run (by rfl) (by rfl) (by intro c h; cases h) 33 rfl (exec_pick rfl rfl rfl) ?_
            refine hK _ _ ?_
            clear hK K
            try simp only [List.setIfInBounds_toArray, List.set_cons_zero, List.set_cons_succ]
            refine wpAnyIn_ready (rs := [9]) (by kernel_rfl) (by simp) ?_
            refine AllReadyIn.cons rfl (fun K hK => ?_) (AllReadyIn.nil)
            refine stepIn_store (by rfl) (by rfl) (by intro c h; cases h) rfl (exec_st4 rfl rfl rfl D1.out.bT) ?_
            refine hK _ _ ?_
            clear hK K
            try simp only [List.setIfInBounds_toArray, List.set_cons_zero, List.set_cons_succ]
            refine wpAnyIn_done (by kernel_rfl) ?_ _
            exact CONT
        · refine stepIn_skip (by rfl) (by rfl) 28 rfl ?_
          refine hK _ _ ?_
          clear hK K
          try simp only [List.setIfInBounds_toArray, List.set_cons_zero, List.set_cons_succ]
          refine wpAnyIn_ready (rs := [2, 4]) (by kernel_rfl) (by simp) ?_
          refine AllReadyIn.cons rfl (fun K hK => ?_) (AllReadyIn.cons rfl (fun K hK => ?_) (AllReadyIn.nil))
          · refine stepIn_skip (by rfl) (by rfl) 27 rfl ?_
            refine hK _ _ ?_
            clear hK K
            try simp only [List.setIfInBounds_toArray, List.set_cons_zero, List.set_cons_succ]
            refine wpAnyIn_ready (rs := [4]) (by kernel_rfl) (by simp) ?_
            refine AllReadyIn.cons rfl (fun K hK => ?_) (AllReadyIn.nil)
            refine stepIn_skip (by rfl) (by rfl) 29 rfl ?_
            refine hK _ _ ?_
            clear hK K
            try simp only [List.setIfInBounds_toArray, List.set_cons_zero, List.set_cons_succ]
            refine wpAnyIn_ready (rs := [5]) (by kernel_rfl) (by simp) ?_
            refine AllReadyIn.cons rfl (fun K hK => ?_) (AllReadyIn.nil)
            refine stepIn_skip (by rfl) (by rfl) 30 rfl ?_
            refine hK _ _ ?_
            clear hK K
            try simp only [List.setIfInBounds_toArray, List.set_cons_zero, List.set_cons_succ]
            refine wpAnyIn_ready (rs := [6]) (by kernel_rfl) (by simp) ?_
            refine AllReadyIn.cons rfl (fun K hK => ?_) (AllReadyIn.nil)
            refine stepIn_skip (by rfl) (by rfl) 31 rfl ?_
            refine hK _ _ ?_
            clear hK K
            try simp only [List.setIfInBounds_toArray, List.set_cons_zero, List.set_cons_succ]
            refine wpAnyIn_ready (rs := [7]) (by kernel_rfl) (by simp) ?_
            refine AllReadyIn.cons rfl (fun K hK => ?_) (AllReadyIn.nil)
            refine stepIn_skip (by rfl) (by rfl) 32 rfl ?_
            refine hK _ _ ?_
            clear hK K
            try simp only [List.setIfInBounds_toArray, List.set_cons_zero, List.set_cons_succ]
            refine wpAnyIn_ready (rs := [8]) (by kernel_rfl) (by simp) ?_
            refine AllReadyIn.cons rfl (fun K hK => ?_) (AllReadyIn.nil)
            refine stepIn_run (by rfl) (by rfl) (by intro c h; cases h) 33 rfl (exec_pick rfl rfl rfl) ?_
            refine hK _ _ ?_
            clear hK K
            try simp only [List.setIfInBounds_toArray, List.set_cons_zero, List.set_cons_succ]
            refine wpAnyIn_ready (rs := [9]) (by kernel_rfl) (by simp) ?_
            refine AllReadyIn.cons rfl (fun K hK => ?_) (AllReadyIn.nil)
            refine stepIn_store (by rfl) (by rfl) (by intro c h; cases h) rfl (exec_st4 rfl rfl rfl D1.out.bT) ?_
            refine hK _ _ ?_
            clear hK K
            try simp only [List.setIfInBounds_toArray, List.set_cons_zero, List.set_cons_succ]
            refine wpAnyIn_done (by kernel_rfl) ?_ _
            exact CONT
          · refine stepIn_skip (by rfl) (by rfl) 29 rfl ?_
            refine hK _ _ ?_
            clear hK K
            try simp only [List.setIfInBounds_toArray, List.set_cons_zero, List.set_cons_succ]
            refine wpAnyIn_ready (rs := [2, 5]) (by kernel_rfl) (by simp) ?_
            refine AllReadyIn.cons rfl (fun K hK => ?_) (AllReadyIn.cons rfl (fun K hK => ?_) (AllReadyIn.nil))
            · refine stepIn_skip (by rfl) (by rfl) 27 rfl ?_
              refine hK _ _ ?_
              clear hK K
              try simp only [List.setIfInBounds_toArray, List.set_cons_zero, List.set_cons_succ]
              refine wpAnyIn_ready (rs := [5]) (by kernel_rfl) (by simp) ?_
              refine AllReadyIn.cons rfl (fun K hK => ?_) (AllReadyIn.nil)
              refine stepIn_skip (by rfl) (by rfl) 30 rfl ?_
              refine hK _ _ ?_
              clear hK K
              try simp only [List.setIfInBounds_toArray, List.set_cons_zero, List.set_cons_succ]
              refine wpAnyIn_ready (rs := [6]) (by kernel_rfl) (by simp) ?_
              refine AllReadyIn.cons rfl (fun K hK => ?_) (AllReadyIn.nil)
              refine stepIn_skip (by rfl) (by rfl) 31 rfl ?_
              refine hK _ _ ?_
              clear hK K
              try simp only [List.setIfInBounds_toArray, List.set_cons_zero, List.set_cons_succ]
              refine wpAnyIn_ready (rs := [7]) (by kernel_rfl) (by simp) ?_
              refine AllReadyIn.cons rfl (fun K hK => ?_) (AllReadyIn.nil)
              refine stepIn_skip (by rfl) (by rfl) 32 rfl ?_
              refine hK _ _ ?_
              clear hK K
              try simp only [List.setIfInBounds_toArray, List.set_cons_zero, List.set_cons_succ]
              refine wpAnyIn_ready (rs := [8]) (by kernel_rfl) (by simp) ?_
              refine AllReadyIn.cons rfl (fun K hK => ?_) (AllReadyIn.nil)
              refine stepIn_run (by rfl) (by rfl) (by intro c h; cases h) 33 rfl (exec_pick rfl rfl rfl) ?_
              refine hK _ _ ?_
              clear hK K
              try simp only [List.setIfInBounds_toArray, List.set_cons_zero, List.set_cons_succ]
              refine wpAnyIn_ready (rs := [9]) (by kernel_rfl) (by simp) ?_
              refine AllReadyIn.cons rfl (fun K hK => ?_) (AllReadyIn.nil)
              refine stepIn_store (by rfl) (by rfl) (by intro c h; cases h) rfl (exec_st4 rfl rfl rfl D1.out.bT) ?_
              refine hK _ _ ?_
              clear hK K
              try simp only [List.setIfInBounds_toArray, List.set_cons_zero, List.set_cons_succ]
              refine wpAnyIn_done (by kernel_rfl) ?_ _
              exact CONT
            · refine stepIn_skip (by rfl) (by rfl) 30 rfl ?_
              refine hK _ _ ?_
              clear hK K
              try simp only [List.setIfInBounds_toArray, List.set_cons_zero, List.set_cons_succ]
              refine wpAnyIn_ready (rs := [2, 6]) (by kernel_rfl) (by simp) ?_
              refine AllReadyIn.cons rfl (fun K hK => ?_) (AllReadyIn.cons rfl (fun K hK => ?_) (AllReadyIn.nil))
              · refine stepIn_skip (by rfl) (by rfl) 27 rfl ?_
                refine hK _ _ ?_
                clear hK K
                try simp only [List.setIfInBounds_toArray, List.set_cons_zero, List.set_cons_succ]
                refine wpAnyIn_ready (rs := [6]) (by kernel_rfl) (by simp) ?_
                refine AllReadyIn.cons rfl (fun K hK => ?_) (AllReadyIn.nil)
                refine stepIn_skip (by rfl) (by rfl) 31 rfl ?_
                refine hK _ _ ?_
                clear hK K
                try simp only [List.setIfInBounds_toArray, List.set_cons_zero, List.set_cons_succ]
                refine wpAnyIn_ready (rs := [7]) (by kernel_rfl) (by simp) ?_
                refine AllReadyIn.cons rfl (fun K hK => ?_) (AllReadyIn.nil)
                refine stepIn_skip (by rfl) (by rfl) 32 rfl ?_
                refine hK _ _ ?_
                clear hK K
                try simp only [List.setIfInBounds_toArray, List.set_cons_zero, List.set_cons_succ]
                refine wpAnyIn_ready (rs := [8]) (by kernel_rfl) (by simp) ?_
                refine AllReadyIn.cons rfl (fun K hK => ?_) (AllReadyIn.nil)
                refine stepIn_run (by rfl) (by rfl) (by intro c h; cases h) 33 rfl (exec_pick rfl rfl rfl) ?_
                refine hK _ _ ?_
                clear hK K
                try simp only [List.setIfInBounds_toArray, List.set_cons_zero, List.set_cons_succ]
                refine wpAnyIn_ready (rs := [9]) (by kernel_rfl) (by simp) ?_
                refine AllReadyIn.cons rfl (fun K hK => ?_) (AllReadyIn.nil)
                refine stepIn_store (by rfl) (by rfl) (by intro c h; cases h) rfl (exec_st4 rfl rfl rfl D1.out.bT) ?_
                refine hK _ _ ?_
                clear hK K
                try simp only [List.setIfInBounds_toArray, List.set_cons_zero, List.set_cons_succ]
                refine wpAnyIn_done (by kernel_rfl) ?_ _
                exact CONT
              · refine stepIn_skip (by rfl) (by rfl) 31 rfl ?_
                refine hK _ _ ?_
                clear hK K
                try simp only [List.setIfInBounds_toArray, List.set_cons_zero, List.set_cons_succ]
                refine wpAnyIn_ready (rs := [2]) (by kernel_rfl) (by simp) ?_
                refine AllReadyIn.cons rfl (fun K hK => ?_) (AllReadyIn.nil)
                refine stepIn_skip (by rfl) (by rfl) 27 rfl ?_
                refine hK _ _ ?_
                clear hK K
                try simp only [List.setIfInBounds_toArray, List.set_cons_zero, List.set_cons_succ]
                refine wpAnyIn_ready (rs := [7]) (by kernel_rfl) (by simp) ?_
                refine AllReadyIn.cons rfl (fun K hK => ?_) (AllReadyIn.nil)
                refine stepIn_skip (by rfl) (by rfl) 32 rfl ?_
                refine hK _ _ ?_
                clear hK K
                try simp only [List.setIfInBounds_toArray, List.set_cons_zero, List.set_cons_succ]
                refine wpAnyIn_ready (rs := [8]) (by kernel_rfl) (by simp) ?_
                refine AllReadyIn.cons rfl (fun K hK => ?_) (AllReadyIn.nil)
                refine stepIn_run (by rfl) (by rfl) (by intro c h; cases h) 33 rfl (exec_pick rfl rfl rfl) ?_
                refine hK _ _ ?_
                clear hK K
                try simp only [List.setIfInBounds_toArray, List.set_cons_zero, List.set_cons_succ]
                refine wpAnyIn_ready (rs := [9]) (by kernel_rfl) (by simp) ?_
                refine AllReadyIn.cons rfl (fun K hK => ?_) (AllReadyIn.nil)
                refine stepIn_store (by rfl) (by rfl) (by intro c h; cases h) rfl (exec_st4 rfl rfl rfl D1.out.bT) ?_
                refine hK _ _ ?_
                clear hK K
                try simp only [List.setIfInBounds_toArray, List.set_cons_zero, List.set_cons_succ]
                refine wpAnyIn_done (by kernel_rfl) ?_ _
                exact CONT
        · refine stepIn_skip (by rfl) (by rfl) 29 rfl ?_
          refine hK _ _ ?_
          clear hK K
          try simp only [List.setIfInBounds_toArray, List.set_cons_zero, List.set_cons_succ]
          refine wpAnyIn_ready (rs := [2, 3]) (by kernel_rfl) (by simp) ?_
          refine AllReadyIn.cons rfl (fun K hK => ?_) (AllReadyIn.cons rfl (fun K hK => ?_) (AllReadyIn.nil))
          · refine stepIn_skip (by rfl) (by rfl) 27 rfl ?_
            refine hK _ _ ?_
            clear hK K
            try simp only [List.setIfInBounds_toArray, List.set_cons_zero, List.set_cons_succ]
            refine wpAnyIn_ready (rs := [3]) (by kernel_rfl) (by simp) ?_
            refine AllReadyIn.cons rfl (fun K hK => ?_) (AllReadyIn.nil)
            refine stepIn_skip (by rfl) (by rfl) 28 rfl ?_
            refine hK _ _ ?_
            clear hK K
            try simp only [List.setIfInBounds_toArray, List.set_cons_zero, List.set_cons_succ]
            refine wpAnyIn_ready (rs := [5]) (by kernel_rfl) (by simp) ?_
            refine AllReadyIn.cons rfl (fun K hK => ?_) (AllReadyIn.nil)
            refine stepIn_skip (by rfl) (by rfl) 30 rfl ?_
            refine hK _ _ ?_
            clear hK K
            try simp only [List.setIfInBounds_toArray, List.set_cons_zero, List.set_cons_succ]
            refine wpAnyIn_ready (rs := [6]) (by kernel_rfl) (by simp) ?_
            refine AllReadyIn.cons rfl (fun K hK => ?_) (AllReadyIn.nil)
            refine stepIn_skip (by rfl) (by rfl) 31 rfl ?_
            refine hK _ _ ?_
            clear hK K
            try simp only [List.setIfInBounds_toArray, List.set_cons_zero, List.set_cons_succ]
            refine wpAnyIn_ready (rs := [7]) (by kernel_rfl) (by simp) ?_
            refine AllReadyIn.cons rfl (fun K hK => ?_) (AllReadyIn.nil)
            refine stepIn_skip (by rfl) (by rfl) 32 rfl ?_
            refine hK _ _ ?_
            clear hK K
            try simp only [List.setIfInBounds_toArray, List.set_cons_zero, List.set_cons_succ]
            refine wpAnyIn_ready (rs := [8]) (by kernel_rfl) (by simp) ?_
            refine AllReadyIn.cons rfl (fun K hK => ?_) (AllReadyIn.nil)
            refine stepIn_run (by rfl) (by rfl) (by intro c h; cases h) 33 rfl (exec_pick rfl rfl rfl) ?_
            refine hK _ _ ?_
            clear hK K
            try simp only [List.setIfInBounds_toArray, List.set_cons_zero, List.set_cons_succ]
            refine wpAnyIn_ready (rs := [9]) (by kernel_rfl) (by simp) ?_
            refine AllReadyIn.cons rfl (fun K hK => ?_) (AllReadyIn.nil)
            refine stepIn_store (by rfl) (by rfl) (by intro c h; cases h) rfl (exec_st4 rfl rfl rfl D1.out.bT) ?_
            refine hK _ _ ?_
            clear hK K
            try simp only [List.setIfInBounds_toArray, List.set_cons_zero, List.set_cons_succ]
            refine wpAnyIn_done (by kernel_rfl) ?_ _
            exact CONT
          · refine stepIn_skip (by rfl) (by rfl) 28 rfl ?_
            refine hK _ _ ?_
            clear hK K
            try simp only [List.setIfInBounds_toArray, List.set_cons_zero, List.set_cons_succ]
            refine wpAnyIn_ready (rs := [2, 5]) (by kernel_rfl) (by simp) ?_
            refine AllReadyIn.cons rfl (fun K hK => ?_) (AllReadyIn.cons rfl (fun K hK => ?_) (AllReadyIn.nil))
            · refine stepIn_skip (by rfl) (by rfl) 27 rfl ?_
              refine hK _ _ ?_
              clear hK K
              try simp only [List.setIfInBounds_toArray, List.set_cons_zero, List.set_cons_succ]
              refine wpAnyIn_ready (rs := [5]) (by kernel_rfl) (by simp) ?_
              refine AllReadyIn.cons rfl (fun K hK => ?_) (AllReadyIn.nil)
              refine stepIn_skip (by rfl) (by rfl) 30 rfl ?_
              refine hK _ _ ?_
              clear hK K
              try simp only [List.setIfInBounds_toArray, List.set_cons_zero, List.set_cons_succ]
              refine wpAnyIn_ready (rs := [6]) (by kernel_rfl) (by simp) ?_
              refine AllReadyIn.cons rfl (fun K hK => ?_) (AllReadyIn.nil)
              refine stepIn_skip (by rfl) (by rfl) 31 rfl ?_
              refine hK _ _ ?_
              clear hK K
              try simp only [List.setIfInBounds_toArray, List.set_cons_zero, List.set_cons_succ]
              refine wpAnyIn_ready (rs := [7]) (by kernel_rfl) (by simp) ?_
              refine AllReadyIn.cons rfl (fun K hK => ?_) (AllReadyIn.nil)
              refine stepIn_skip (by rfl) (by rfl) 32 rfl ?_
              refine hK _ _ ?_
              clear hK K
              try simp only [List.setIfInBounds_toArray, List.set_cons_zero, List.set_cons_succ]
              refine wpAnyIn_ready (rs := [8]) (by kernel_rfl) (by simp) ?_
              refine AllReadyIn.cons rfl (fun K hK => ?_) (AllReadyIn.nil)
              refine stepIn_run (by rfl) (by rfl) (by intro c h; cases h) 33 rfl (exec_pick rfl rfl rfl) ?_
              refine hK _ _ ?_
              clear hK K
              try simp only [List.setIfInBounds_toArray, List.set_cons_zero, List.set_cons_succ]
              refine wpAnyIn_ready (rs := [9]) (by kernel_rfl) (by simp) ?_
              refine AllReadyIn.cons rfl (fun K hK => ?_) (AllReadyIn.nil)
              refine stepIn_store (by rfl) (by rfl) (by intro c h; cases h) rfl (exec_st4 rfl rfl rfl D1.out.bT) ?_
              refine hK _ _ ?_
              clear hK K
              try simp only [List.setIfInBounds_toArray, List.set_cons_zero, List.set_cons_succ]
              refine wpAnyIn_done (by kernel_rfl) ?_ _
              exact CONT
            · refine stepIn_skip (by rfl) (by rfl) 30 rfl ?_
              refine hK _ _ ?_
              clear hK K
              try simp only [List.setIfInBounds_toArray, List.set_cons_zero, List.set_cons_succ]
              refine wpAnyIn_ready (rs := [2, 6]) (by kernel_rfl) (by simp) ?_
              refine AllReadyIn.cons rfl (fun K hK => ?_) (AllReadyIn.cons rfl (fun K hK => ?_) (AllReadyIn.nil))
              · refine stepIn_skip (by rfl) (by rfl) 27 rfl ?_
                refine hK _ _ ?_
                clear hK K
                try simp only [List.setIfInBounds_toArray, List.set_cons_zero, List.set_cons_succ]
                refine wpAnyIn_ready (rs := [6]) (by kernel_rfl) (by simp) ?_
                refine AllReadyIn.cons rfl (fun K hK => ?_) (AllReadyIn.nil)
                refine stepIn_skip (by rfl) (by rfl) 31 rfl ?_
                refine hK _ _ ?_
                clear hK K
                try simp only [List.setIfInBounds_toArray, List.set_cons_zero, List.set_cons_succ]
                refine wpAnyIn_ready (rs := [7]) (by kernel_rfl) (by simp) ?_
                refine AllReadyIn.cons rfl (fun K hK => ?_) (AllReadyIn.nil)
                refine stepIn_skip (by rfl) (by rfl) 32 rfl ?_
                refine hK _ _ ?_
                clear hK K
                try simp only [List.setIfInBounds_toArray, List.set_cons_zero, List.set_cons_succ]
                refine wpAnyIn_ready (rs := [8]) (by kernel_rfl) (by simp) ?_
                refine AllReadyIn.cons rfl (fun K hK => ?_) (AllReadyIn.nil)
                refine stepIn_run (by rfl) (by rfl) (by intro c h; cases h) 33 rfl (exec_pick rfl rfl rfl) ?_
                refine hK _ _ ?_
                clear hK K
                try simp only [List.setIfInBounds_toArray, List.set_cons_zero, List.set_cons_succ]
                refine wpAnyIn_ready (rs := [9]) (by kernel_rfl) (by simp) ?_
                refine AllReadyIn.cons rfl (fun K hK => ?_) (AllReadyIn.nil)
                refine stepIn_store (by rfl) (by rfl) (by intro c h; cases h) rfl (exec_st4 rfl rfl rfl D1.out.bT) ?_
                refine hK _ _ ?_
                clear hK K
                try simp only [List.setIfInBounds_toArray, List.set_cons_zero, List.set_cons_succ]
                refine wpAnyIn_done (by kernel_rfl) ?_ _
                exact CONT
              · refine stepIn_skip (by rfl) (by rfl) 31 rfl ?_
                refine hK _ _ ?_
                clear hK K
                try simp only [List.setIfInBounds_toArray, List.set_cons_zero, List.set_cons_succ]
                refine wpAnyIn_ready (rs := [2]) (by kernel_rfl) (by simp) ?_
                refine AllReadyIn.cons rfl (fun K hK => ?_) (AllReadyIn.nil)
                refine stepIn_skip (by rfl) (by rfl) 27 rfl ?_
                refine hK _ _ ?_
                clear hK K
                try simp only [List.setIfInBounds_toArray, List.set_cons_zero, List.set_cons_succ]
                refine wpAnyIn_ready (rs := [7]) (by kernel_rfl) (by simp) ?_
                refine AllReadyIn.cons rfl (fun K hK => ?_) (AllReadyIn.nil)
                refine stepIn_skip (by rfl) (by rfl) 32 rfl ?_
                refine hK _ _ ?_
                clear hK K
                try simp only [List.setIfInBounds_toArray, List.set_cons_zero, List.set_cons_succ]
                refine wpAnyIn_ready (rs := [8]) (by kernel_rfl) (by simp) ?_
                refine AllReadyIn.cons rfl (fun K hK => ?_) (AllReadyIn.nil)
                refine stepIn_run (by rfl) (by rfl) (by intro c h; cases h) 33 rfl (exec_pick rfl rfl rfl) ?_
                refine hK _ _ ?_
                clear hK K
                try simp only [List.setIfInBounds_toArray, List.set_cons_zero, List.set_cons_succ]
                refine wpAnyIn_ready (rs := [9]) (by kernel_rfl) (by simp) ?_
                refine AllReadyIn.cons rfl (fun K hK => ?_) (AllReadyIn.nil)
                refine stepIn_store (by rfl) (by rfl) (by intro c h; cases h) rfl (exec_st4 rfl rfl rfl D1.out.bT) ?_
                refine hK _ _ ?_
                clear hK K
                try simp only [List.setIfInBounds_toArray, List.set_cons_zero, List.set_cons_succ]
                refine wpAnyIn_done (by kernel_rfl) ?_ _
                exact CONT
      · gi_wp2_with fail
        rename_i Q1 K1 aK1
        have CONT : Exit.then K1 (Exit.inBlock 1 Q1) Exit.normal { tmps := #[.agg (bs H).toArray, .slice a m c, .pointer (some ⟨W.heap.size, 0, none⟩), undef, .pointer (some ⟨W.heap.size + 1, 0, none⟩), .pointer (some ⟨W.heap.size + 1 + 1, 0, none⟩), .int .i64 0, .pointer (some ⟨w1.heap.size, 0, none⟩), .int .i64 (x.1 : Int), .pointer (some ⟨X, 0, none⟩), .tuple #[.slice (some ⟨b', off', none⟩) m c', .int .i64 0], .agg (bs H).toArray, .slice a m c, .tuple #[.slice (some ⟨b', off', none⟩) m c', .int .i64 0], .slice (some ⟨b', off', none⟩) m c', .int .i64 0, .int .i64 0, .bool false, undef, undef, .agg (bs H).toArray, .slice a m c, .func (.func 34) #[] #[.pointer (some ⟨Wa.heap.size, 0, none⟩)], .int .i64 (x.1 : Int), .agg (sc l[x.1]).toArray, .bool true, .bool true, .agg (sc s).toArray, .slice (some ⟨b', off', none⟩) m c', .int .i64 (x.1 : Int), .pointer (some ⟨b', off' + x.1 * 14, none⟩), .agg (sc p).toArray, .bool (decide (s = p)), .bool (decide (s = p)), undef, undef, undef, undef, undef, undef, undef, undef, undef, undef], defers := [] } (w.drew.setCell ⟨W.heap.size + 1 + 1, 0, none⟩ (.bool (decide (s = p)))) := by
          have D2 := hidd (D1.out.setT (decide (s = p)) (by omega) (by omega) (by omega) HNT.out (by omega))
          generalize w.drew.setCell ⟨W.heap.size + 1 + 1, 0, none⟩ (.bool (decide (s = p))) = w3 at D2 ⊢
          have cP4 := ((blk D2.out.hx).1 4).trans (show (sc s).toArray[4]? = some (.int .i64 s.k) from rfl)
          have cP0 := ((blk D2.out.hx).1 0).trans (show (sc s).toArray[0]? = some (.int .i8 s.K) from rfl)
          rw [HK1.out] at cP4
          rcases HKc.out with hK | hK
          · rw [hK] at cP0
            have HK3 := hidd hK
            clear hK
            gi_wp2_with fail
            refine ⟨D2.out.kf, D2.out.be, ⟨⟨?_, ?_⟩, ⟨D2.out.b7, D2.out.sl⟩⟩, I34.out.1.trans D2.out.be, Nat.le_trans I34.out.2 D2.out.be.size⟩
            · rw [pk_snoc, doH_snoc]
              unfold stH
              rw [← HSX.out, HK3.out]
              exact D2.out.hA
            · rw [tlB_snoc, HPE.out, HTB.out, ← HSX.out]
              exact (show _ = _ from D2.out.bT).trans (by rw [show (true && decide (some p = some s)) = (decide (s = p)) from by simp [eq_comm]])
          · rw [hK] at cP0
            have HK3 := hidd hK
            clear hK
            have HTH := hidd (show w3.there (W.heap.size + 1) (kk * 8) (bs s.v).toArray.size from by rw [show (bs s.v).toArray.size = 8 from (by rw [List.size_toArray, bs_length]; exact HX8.out)]; exact there_bs D2.out.hA _ 8 (by rw [HLN.out]; omega))
            gi_wp2_with (first | (with_reducible refine wpListIn_load_mid rfl 24 (.tmp 39) rfl X 5 rfl (bs s.v) _ (by rw [← sc_v s HX8.out]; exact range_bs D2.out.hx 5 8) Try.underlying24 rfl (v_szl _ HX8.out) ?_) | (with_reducible refine wpListIn_store_mid rfl 24 (.tmp 41) (.tmp 40) rfl (W.heap.size + 1) (kk * 8) (bs s.v).toArray rfl rfl HTH.out (v_sz _ HX8.out) (bs_oneA _) ?_; have D3 := hidd (D2.out.setA kk s.v HLN.out (by omega) HX8.out (by omega) (by omega) (by omega) HNA.out (by omega)); generalize w3.setCells (W.heap.size + 1) (kk * 8) (bs s.v) = w4 at D3 ⊢))
            refine ⟨D3.out.kf, D3.out.be, ⟨⟨?_, ?_⟩, ⟨D3.out.b7, D3.out.sl⟩⟩, I34.out.1.trans D3.out.be, Nat.le_trans I34.out.2 D3.out.be.size⟩
            · rw [pk_snoc, doH_snoc]
              unfold stH
              rw [← HSX.out, HK3.out]
              exact (by rw [← HKK.out]; exact D3.out.hA)
            · rw [tlB_snoc, HPE.out, HTB.out, ← HSX.out]
              exact (show _ = _ from D3.out.bT).trans (by rw [show (true && decide (some p = some s)) = (decide (s = p)) from by simp [eq_comm]])
        refine wpIn_region_any (by kernel_rfl) ?_
        show wpAnyIn _ _ _ _ _ _ _ _ _ w.drew
        refine wpAnyIn_ready (rs := [0]) (by kernel_rfl) (by simp) ?_
        refine AllReadyIn.cons rfl (fun K hK => ?_) (AllReadyIn.nil)
        refine stepIn_run (by rfl) (by rfl) (by intro c h; cases h) 25 rfl (exec_box rfl rfl (box4 D1.out.bT)) ?_
        refine hK _ _ ?_
        clear hK K
        try simp only [List.setIfInBounds_toArray, List.set_cons_zero, List.set_cons_succ]
        refine wpAnyIn_ready (rs := [1]) (by kernel_rfl) (by simp) ?_
        refine AllReadyIn.cons rfl (fun K hK => ?_) (AllReadyIn.nil)
        refine stepIn_run (by rfl) (by rfl) (by intro c h; cases h) 26 rfl (exec_move rfl rfl) ?_
        refine hK _ _ ?_
        clear hK K
        try simp only [List.setIfInBounds_toArray, List.set_cons_zero, List.set_cons_succ]
        refine wpAnyIn_ready (rs := [2, 3, 4]) (by kernel_rfl) (by simp) ?_
        refine AllReadyIn.cons rfl (fun K hK => ?_) (AllReadyIn.cons rfl (fun K hK => ?_) (AllReadyIn.cons rfl (fun K hK => ?_) (AllReadyIn.nil)))
        · refine stepIn_run (by rfl) (by rfl) (by intro c h; cases h) 27 rfl (exec_mid rfl rfl (load_all D1.out.hx Try.underlying49 rfl (sc_sz _ HX8.out) _ (Below.refl _ _))) ?_
          refine hK _ _ ?_
          clear hK K
          try simp only [List.setIfInBounds_toArray, List.set_cons_zero, List.set_cons_succ]
          refine wpAnyIn_ready (rs := [3, 4]) (by kernel_rfl) (by simp) ?_
          refine AllReadyIn.cons rfl (fun K hK => ?_) (AllReadyIn.cons rfl (fun K hK => ?_) (AllReadyIn.nil))
          · refine stepIn_run (by rfl) (by rfl) (by intro c h; cases h) 28 rfl (exec_box rfl rfl (box40 D1.out.b7)) ?_
            refine hK _ _ ?_
            clear hK K
            try simp only [List.setIfInBounds_toArray, List.set_cons_zero, List.set_cons_succ]
            refine wpAnyIn_ready (rs := [4]) (by kernel_rfl) (by simp) ?_
            refine AllReadyIn.cons rfl (fun K hK => ?_) (AllReadyIn.nil)
            refine stepIn_run (by rfl) (by rfl) (by intro c h; cases h) 29 rfl (exec_move rfl rfl) ?_
            refine hK _ _ ?_
            clear hK K
            try simp only [List.setIfInBounds_toArray, List.set_cons_zero, List.set_cons_succ]
            refine wpAnyIn_ready (rs := [5]) (by kernel_rfl) (by simp) ?_
            refine AllReadyIn.cons rfl (fun K hK => ?_) (AllReadyIn.nil)
            refine stepIn_run (by rfl) (by rfl) (by intro c h; cases h) 30 rfl (exec_ix40 rfl rfl rfl hxm) ?_
            refine hK _ _ ?_
            clear hK K
            try simp only [List.setIfInBounds_toArray, List.set_cons_zero, List.set_cons_succ]
            refine wpAnyIn_ready (rs := [6]) (by kernel_rfl) (by simp) ?_
            refine AllReadyIn.cons rfl (fun K hK => ?_) (AllReadyIn.nil)
            refine stepIn_run (by rfl) (by rfl) (by intro c h; cases h) 31 rfl (exec_mid rfl rfl (mid49 HP8.out RG.out)) ?_
            refine hK _ _ ?_
            clear hK K
            try simp only [List.setIfInBounds_toArray, List.set_cons_zero, List.set_cons_succ]
            refine wpAnyIn_ready (rs := [7]) (by kernel_rfl) (by simp) ?_
            refine AllReadyIn.cons rfl (fun K hK => ?_) (AllReadyIn.nil)
            refine stepIn_run (by rfl) (by rfl) (by intro c h; cases h) 32 rfl (exec_eq49 rfl rfl rfl HX8.out HP8.out) ?_
            refine hK _ _ ?_
            clear hK K
            try simp only [List.setIfInBounds_toArray, List.set_cons_zero, List.set_cons_succ]
            refine wpAnyIn_ready (rs := [8]) (by kernel_rfl) (by simp) ?_
            refine AllReadyIn.cons rfl (fun K hK => ?_) (AllReadyIn.nil)
            refine stepIn_run (by rfl) (by rfl) (by intro c h; cases h) 33 rfl (exec_pick rfl rfl rfl) ?_
            refine hK _ _ ?_
            clear hK K
            try simp only [List.setIfInBounds_toArray, List.set_cons_zero, List.set_cons_succ]
            refine wpAnyIn_ready (rs := [9]) (by kernel_rfl) (by simp) ?_
            refine AllReadyIn.cons rfl (fun K hK => ?_) (AllReadyIn.nil)
            refine stepIn_store (by rfl) (by rfl) (by intro c h; cases h) rfl (exec_st4 rfl rfl rfl D1.out.bT) ?_
            refine hK _ _ ?_
            clear hK K
            try simp only [List.setIfInBounds_toArray, List.set_cons_zero, List.set_cons_succ]
            refine wpAnyIn_done (by kernel_rfl) ?_ _
            exact CONT
          · refine stepIn_run (by rfl) (by rfl) (by intro c h; cases h) 29 rfl (exec_move rfl rfl) ?_
            refine hK _ _ ?_
            clear hK K
            try simp only [List.setIfInBounds_toArray, List.set_cons_zero, List.set_cons_succ]
            refine wpAnyIn_ready (rs := [3]) (by kernel_rfl) (by simp) ?_
            refine AllReadyIn.cons rfl (fun K hK => ?_) (AllReadyIn.nil)
            refine stepIn_run (by rfl) (by rfl) (by intro c h; cases h) 28 rfl (exec_box rfl rfl (box40 D1.out.b7)) ?_
            refine hK _ _ ?_
            clear hK K
            try simp only [List.setIfInBounds_toArray, List.set_cons_zero, List.set_cons_succ]
            refine wpAnyIn_ready (rs := [5]) (by kernel_rfl) (by simp) ?_
            refine AllReadyIn.cons rfl (fun K hK => ?_) (AllReadyIn.nil)
            refine stepIn_run (by rfl) (by rfl) (by intro c h; cases h) 30 rfl (exec_ix40 rfl rfl rfl hxm) ?_
            refine hK _ _ ?_
            clear hK K
            try simp only [List.setIfInBounds_toArray, List.set_cons_zero, List.set_cons_succ]
            refine wpAnyIn_ready (rs := [6]) (by kernel_rfl) (by simp) ?_
            refine AllReadyIn.cons rfl (fun K hK => ?_) (AllReadyIn.nil)
            refine stepIn_run (by rfl) (by rfl) (by intro c h; cases h) 31 rfl (exec_mid rfl rfl (mid49 HP8.out RG.out)) ?_
            refine hK _ _ ?_
            clear hK K
            try simp only [List.setIfInBounds_toArray, List.set_cons_zero, List.set_cons_succ]
            refine wpAnyIn_ready (rs := [7]) (by kernel_rfl) (by simp) ?_
            refine AllReadyIn.cons rfl (fun K hK => ?_) (AllReadyIn.nil)
            refine stepIn_run (by rfl) (by rfl) (by intro c h; cases h) 32 rfl (exec_eq49 rfl rfl rfl HX8.out HP8.out) ?_
            refine hK _ _ ?_
            clear hK K
            try simp only [List.setIfInBounds_toArray, List.set_cons_zero, List.set_cons_succ]
            refine wpAnyIn_ready (rs := [8]) (by kernel_rfl) (by simp) ?_
            refine AllReadyIn.cons rfl (fun K hK => ?_) (AllReadyIn.nil)
            refine stepIn_run (by rfl) (by rfl) (by intro c h; cases h) 33 rfl (exec_pick rfl rfl rfl) ?_
            refine hK _ _ ?_
            clear hK K
            try simp only [List.setIfInBounds_toArray, List.set_cons_zero, List.set_cons_succ]
            refine wpAnyIn_ready (rs := [9]) (by kernel_rfl) (by simp) ?_
            refine AllReadyIn.cons rfl (fun K hK => ?_) (AllReadyIn.nil)
            refine stepIn_store (by rfl) (by rfl) (by intro c h; cases h) rfl (exec_st4 rfl rfl rfl D1.out.bT) ?_
            refine hK _ _ ?_
            clear hK K
            try simp only [List.setIfInBounds_toArray, List.set_cons_zero, List.set_cons_succ]
            refine wpAnyIn_done (by kernel_rfl) ?_ _
            exact CONT
        · refine stepIn_run (by rfl) (by rfl) (by intro c h; cases h) 28 rfl (exec_box rfl rfl (box40 D1.out.b7)) ?_
          refine hK _ _ ?_
          clear hK K
          try simp only [List.setIfInBounds_toArray, List.set_cons_zero, List.set_cons_succ]
          refine wpAnyIn_ready (rs := [2, 4]) (by kernel_rfl) (by simp) ?_
          refine AllReadyIn.cons rfl (fun K hK => ?_) (AllReadyIn.cons rfl (fun K hK => ?_) (AllReadyIn.nil))
          · refine stepIn_run (by rfl) (by rfl) (by intro c h; cases h) 27 rfl (exec_mid rfl rfl (load_all D1.out.hx Try.underlying49 rfl (sc_sz _ HX8.out) _ (Below.refl _ _))) ?_
            refine hK _ _ ?_
            clear hK K
            try simp only [List.setIfInBounds_toArray, List.set_cons_zero, List.set_cons_succ]
            refine wpAnyIn_ready (rs := [4]) (by kernel_rfl) (by simp) ?_
            refine AllReadyIn.cons rfl (fun K hK => ?_) (AllReadyIn.nil)
            refine stepIn_run (by rfl) (by rfl) (by intro c h; cases h) 29 rfl (exec_move rfl rfl) ?_
            refine hK _ _ ?_
            clear hK K
            try simp only [List.setIfInBounds_toArray, List.set_cons_zero, List.set_cons_succ]
            refine wpAnyIn_ready (rs := [5]) (by kernel_rfl) (by simp) ?_
            refine AllReadyIn.cons rfl (fun K hK => ?_) (AllReadyIn.nil)
            refine stepIn_run (by rfl) (by rfl) (by intro c h; cases h) 30 rfl (exec_ix40 rfl rfl rfl hxm) ?_
            refine hK _ _ ?_
            clear hK K
            try simp only [List.setIfInBounds_toArray, List.set_cons_zero, List.set_cons_succ]
            refine wpAnyIn_ready (rs := [6]) (by kernel_rfl) (by simp) ?_
            refine AllReadyIn.cons rfl (fun K hK => ?_) (AllReadyIn.nil)
            refine stepIn_run (by rfl) (by rfl) (by intro c h; cases h) 31 rfl (exec_mid rfl rfl (mid49 HP8.out RG.out)) ?_
            refine hK _ _ ?_
            clear hK K
            try simp only [List.setIfInBounds_toArray, List.set_cons_zero, List.set_cons_succ]
            refine wpAnyIn_ready (rs := [7]) (by kernel_rfl) (by simp) ?_
            refine AllReadyIn.cons rfl (fun K hK => ?_) (AllReadyIn.nil)
            refine stepIn_run (by rfl) (by rfl) (by intro c h; cases h) 32 rfl (exec_eq49 rfl rfl rfl HX8.out HP8.out) ?_
            refine hK _ _ ?_
            clear hK K
            try simp only [List.setIfInBounds_toArray, List.set_cons_zero, List.set_cons_succ]
            refine wpAnyIn_ready (rs := [8]) (by kernel_rfl) (by simp) ?_
            refine AllReadyIn.cons rfl (fun K hK => ?_) (AllReadyIn.nil)
            refine stepIn_run (by rfl) (by rfl) (by intro c h; cases h) 33 rfl (exec_pick rfl rfl rfl) ?_
            refine hK _ _ ?_
            clear hK K
            try simp only [List.setIfInBounds_toArray, List.set_cons_zero, List.set_cons_succ]
            refine wpAnyIn_ready (rs := [9]) (by kernel_rfl) (by simp) ?_
            refine AllReadyIn.cons rfl (fun K hK => ?_) (AllReadyIn.nil)
            refine stepIn_store (by rfl) (by rfl) (by intro c h; cases h) rfl (exec_st4 rfl rfl rfl D1.out.bT) ?_
            refine hK _ _ ?_
            clear hK K
            try simp only [List.setIfInBounds_toArray, List.set_cons_zero, List.set_cons_succ]
            refine wpAnyIn_done (by kernel_rfl) ?_ _
            exact CONT
          · refine stepIn_run (by rfl) (by rfl) (by intro c h; cases h) 29 rfl (exec_move rfl rfl) ?_
            refine hK _ _ ?_
            clear hK K
            try simp only [List.setIfInBounds_toArray, List.set_cons_zero, List.set_cons_succ]
            refine wpAnyIn_ready (rs := [2, 5]) (by kernel_rfl) (by simp) ?_
            refine AllReadyIn.cons rfl (fun K hK => ?_) (AllReadyIn.cons rfl (fun K hK => ?_) (AllReadyIn.nil))
            · refine stepIn_run (by rfl) (by rfl) (by intro c h; cases h) 27 rfl (exec_mid rfl rfl (load_all D1.out.hx Try.underlying49 rfl (sc_sz _ HX8.out) _ (Below.refl _ _))) ?_
              refine hK _ _ ?_
              clear hK K
              try simp only [List.setIfInBounds_toArray, List.set_cons_zero, List.set_cons_succ]
              refine wpAnyIn_ready (rs := [5]) (by kernel_rfl) (by simp) ?_
              refine AllReadyIn.cons rfl (fun K hK => ?_) (AllReadyIn.nil)
              refine stepIn_run (by rfl) (by rfl) (by intro c h; cases h) 30 rfl (exec_ix40 rfl rfl rfl hxm) ?_
              refine hK _ _ ?_
              clear hK K
              try simp only [List.setIfInBounds_toArray, List.set_cons_zero, List.set_cons_succ]
              refine wpAnyIn_ready (rs := [6]) (by kernel_rfl) (by simp) ?_
              refine AllReadyIn.cons rfl (fun K hK => ?_) (AllReadyIn.nil)
              refine stepIn_run (by rfl) (by rfl) (by intro c h; cases h) 31 rfl (exec_mid rfl rfl (mid49 HP8.out RG.out)) ?_
              refine hK _ _ ?_
              clear hK K
              try simp only [List.setIfInBounds_toArray, List.set_cons_zero, List.set_cons_succ]
              refine wpAnyIn_ready (rs := [7]) (by kernel_rfl) (by simp) ?_
              refine AllReadyIn.cons rfl (fun K hK => ?_) (AllReadyIn.nil)
              refine stepIn_run (by rfl) (by rfl) (by intro c h; cases h) 32 rfl (exec_eq49 rfl rfl rfl HX8.out HP8.out) ?_
              refine hK _ _ ?_
              clear hK K
              try simp only [List.setIfInBounds_toArray, List.set_cons_zero, List.set_cons_succ]
              refine wpAnyIn_ready (rs := [8]) (by kernel_rfl) (by simp) ?_
              refine AllReadyIn.cons rfl (fun K hK => ?_) (AllReadyIn.nil)
              refine stepIn_run (by rfl) (by rfl) (by intro c h; cases h) 33 rfl (exec_pick rfl rfl rfl) ?_
              refine hK _ _ ?_
              clear hK K
              try simp only [List.setIfInBounds_toArray, List.set_cons_zero, List.set_cons_succ]
              refine wpAnyIn_ready (rs := [9]) (by kernel_rfl) (by simp) ?_
              refine AllReadyIn.cons rfl (fun K hK => ?_) (AllReadyIn.nil)
              refine stepIn_store (by rfl) (by rfl) (by intro c h; cases h) rfl (exec_st4 rfl rfl rfl D1.out.bT) ?_
              refine hK _ _ ?_
              clear hK K
              try simp only [List.setIfInBounds_toArray, List.set_cons_zero, List.set_cons_succ]
              refine wpAnyIn_done (by kernel_rfl) ?_ _
              exact CONT
            · refine stepIn_run (by rfl) (by rfl) (by intro c h; cases h) 30 rfl (exec_ix40 rfl rfl rfl hxm) ?_
              refine hK _ _ ?_
              clear hK K
              try simp only [List.setIfInBounds_toArray, List.set_cons_zero, List.set_cons_succ]
              refine wpAnyIn_ready (rs := [2, 6]) (by kernel_rfl) (by simp) ?_
              refine AllReadyIn.cons rfl (fun K hK => ?_) (AllReadyIn.cons rfl (fun K hK => ?_) (AllReadyIn.nil))
              · refine stepIn_run (by rfl) (by rfl) (by intro c h; cases h) 27 rfl (exec_mid rfl rfl (load_all D1.out.hx Try.underlying49 rfl (sc_sz _ HX8.out) _ (Below.refl _ _))) ?_
                refine hK _ _ ?_
                clear hK K
                try simp only [List.setIfInBounds_toArray, List.set_cons_zero, List.set_cons_succ]
                refine wpAnyIn_ready (rs := [6]) (by kernel_rfl) (by simp) ?_
                refine AllReadyIn.cons rfl (fun K hK => ?_) (AllReadyIn.nil)
                refine stepIn_run (by rfl) (by rfl) (by intro c h; cases h) 31 rfl (exec_mid rfl rfl (mid49 HP8.out RG.out)) ?_
                refine hK _ _ ?_
                clear hK K
                try simp only [List.setIfInBounds_toArray, List.set_cons_zero, List.set_cons_succ]
                refine wpAnyIn_ready (rs := [7]) (by kernel_rfl) (by simp) ?_
                refine AllReadyIn.cons rfl (fun K hK => ?_) (AllReadyIn.nil)
                refine stepIn_run (by rfl) (by rfl) (by intro c h; cases h) 32 rfl (exec_eq49 rfl rfl rfl HX8.out HP8.out) ?_
                refine hK _ _ ?_
                clear hK K
                try simp only [List.setIfInBounds_toArray, List.set_cons_zero, List.set_cons_succ]
                refine wpAnyIn_ready (rs := [8]) (by kernel_rfl) (by simp) ?_
                refine AllReadyIn.cons rfl (fun K hK => ?_) (AllReadyIn.nil)
                refine stepIn_run (by rfl) (by rfl) (by intro c h; cases h) 33 rfl (exec_pick rfl rfl rfl) ?_
                refine hK _ _ ?_
                clear hK K
                try simp only [List.setIfInBounds_toArray, List.set_cons_zero, List.set_cons_succ]
                refine wpAnyIn_ready (rs := [9]) (by kernel_rfl) (by simp) ?_
                refine AllReadyIn.cons rfl (fun K hK => ?_) (AllReadyIn.nil)
                refine stepIn_store (by rfl) (by rfl) (by intro c h; cases h) rfl (exec_st4 rfl rfl rfl D1.out.bT) ?_
                refine hK _ _ ?_
                clear hK K
                try simp only [List.setIfInBounds_toArray, List.set_cons_zero, List.set_cons_succ]
                refine wpAnyIn_done (by kernel_rfl) ?_ _
                exact CONT
              · refine stepIn_run (by rfl) (by rfl) (by intro c h; cases h) 31 rfl (exec_mid rfl rfl (mid49 HP8.out RG.out)) ?_
                refine hK _ _ ?_
                clear hK K
                try simp only [List.setIfInBounds_toArray, List.set_cons_zero, List.set_cons_succ]
                refine wpAnyIn_ready (rs := [2]) (by kernel_rfl) (by simp) ?_
                refine AllReadyIn.cons rfl (fun K hK => ?_) (AllReadyIn.nil)
                refine stepIn_run (by rfl) (by rfl) (by intro c h; cases h) 27 rfl (exec_mid rfl rfl (load_all D1.out.hx Try.underlying49 rfl (sc_sz _ HX8.out) _ (Below.refl _ _))) ?_
                refine hK _ _ ?_
                clear hK K
                try simp only [List.setIfInBounds_toArray, List.set_cons_zero, List.set_cons_succ]
                refine wpAnyIn_ready (rs := [7]) (by kernel_rfl) (by simp) ?_
                refine AllReadyIn.cons rfl (fun K hK => ?_) (AllReadyIn.nil)
                refine stepIn_run (by rfl) (by rfl) (by intro c h; cases h) 32 rfl (exec_eq49 rfl rfl rfl HX8.out HP8.out) ?_
                refine hK _ _ ?_
                clear hK K
                try simp only [List.setIfInBounds_toArray, List.set_cons_zero, List.set_cons_succ]
                refine wpAnyIn_ready (rs := [8]) (by kernel_rfl) (by simp) ?_
                refine AllReadyIn.cons rfl (fun K hK => ?_) (AllReadyIn.nil)
                refine stepIn_run (by rfl) (by rfl) (by intro c h; cases h) 33 rfl (exec_pick rfl rfl rfl) ?_
                refine hK _ _ ?_
                clear hK K
                try simp only [List.setIfInBounds_toArray, List.set_cons_zero, List.set_cons_succ]
                refine wpAnyIn_ready (rs := [9]) (by kernel_rfl) (by simp) ?_
                refine AllReadyIn.cons rfl (fun K hK => ?_) (AllReadyIn.nil)
                refine stepIn_store (by rfl) (by rfl) (by intro c h; cases h) rfl (exec_st4 rfl rfl rfl D1.out.bT) ?_
                refine hK _ _ ?_
                clear hK K
                try simp only [List.setIfInBounds_toArray, List.set_cons_zero, List.set_cons_succ]
                refine wpAnyIn_done (by kernel_rfl) ?_ _
                exact CONT
        · refine stepIn_run (by rfl) (by rfl) (by intro c h; cases h) 29 rfl (exec_move rfl rfl) ?_
          refine hK _ _ ?_
          clear hK K
          try simp only [List.setIfInBounds_toArray, List.set_cons_zero, List.set_cons_succ]
          refine wpAnyIn_ready (rs := [2, 3]) (by kernel_rfl) (by simp) ?_
          refine AllReadyIn.cons rfl (fun K hK => ?_) (AllReadyIn.cons rfl (fun K hK => ?_) (AllReadyIn.nil))
          · refine stepIn_run (by rfl) (by rfl) (by intro c h; cases h) 27 rfl (exec_mid rfl rfl (load_all D1.out.hx Try.underlying49 rfl (sc_sz _ HX8.out) _ (Below.refl _ _))) ?_
            refine hK _ _ ?_
            clear hK K
            try simp only [List.setIfInBounds_toArray, List.set_cons_zero, List.set_cons_succ]
            refine wpAnyIn_ready (rs := [3]) (by kernel_rfl) (by simp) ?_
            refine AllReadyIn.cons rfl (fun K hK => ?_) (AllReadyIn.nil)
            refine stepIn_run (by rfl) (by rfl) (by intro c h; cases h) 28 rfl (exec_box rfl rfl (box40 D1.out.b7)) ?_
            refine hK _ _ ?_
            clear hK K
            try simp only [List.setIfInBounds_toArray, List.set_cons_zero, List.set_cons_succ]
            refine wpAnyIn_ready (rs := [5]) (by kernel_rfl) (by simp) ?_
            refine AllReadyIn.cons rfl (fun K hK => ?_) (AllReadyIn.nil)
            refine stepIn_run (by rfl) (by rfl) (by intro c h; cases h) 30 rfl (exec_ix40 rfl rfl rfl hxm) ?_
            refine hK _ _ ?_
            clear hK K
            try simp only [List.setIfInBounds_toArray, List.set_cons_zero, List.set_cons_succ]
            refine wpAnyIn_ready (rs := [6]) (by kernel_rfl) (by simp) ?_
            refine AllReadyIn.cons rfl (fun K hK => ?_) (AllReadyIn.nil)
            refine stepIn_run (by rfl) (by rfl) (by intro c h; cases h) 31 rfl (exec_mid rfl rfl (mid49 HP8.out RG.out)) ?_
            refine hK _ _ ?_
            clear hK K
            try simp only [List.setIfInBounds_toArray, List.set_cons_zero, List.set_cons_succ]
            refine wpAnyIn_ready (rs := [7]) (by kernel_rfl) (by simp) ?_
            refine AllReadyIn.cons rfl (fun K hK => ?_) (AllReadyIn.nil)
            refine stepIn_run (by rfl) (by rfl) (by intro c h; cases h) 32 rfl (exec_eq49 rfl rfl rfl HX8.out HP8.out) ?_
            refine hK _ _ ?_
            clear hK K
            try simp only [List.setIfInBounds_toArray, List.set_cons_zero, List.set_cons_succ]
            refine wpAnyIn_ready (rs := [8]) (by kernel_rfl) (by simp) ?_
            refine AllReadyIn.cons rfl (fun K hK => ?_) (AllReadyIn.nil)
            refine stepIn_run (by rfl) (by rfl) (by intro c h; cases h) 33 rfl (exec_pick rfl rfl rfl) ?_
            refine hK _ _ ?_
            clear hK K
            try simp only [List.setIfInBounds_toArray, List.set_cons_zero, List.set_cons_succ]
            refine wpAnyIn_ready (rs := [9]) (by kernel_rfl) (by simp) ?_
            refine AllReadyIn.cons rfl (fun K hK => ?_) (AllReadyIn.nil)
            refine stepIn_store (by rfl) (by rfl) (by intro c h; cases h) rfl (exec_st4 rfl rfl rfl D1.out.bT) ?_
            refine hK _ _ ?_
            clear hK K
            try simp only [List.setIfInBounds_toArray, List.set_cons_zero, List.set_cons_succ]
            refine wpAnyIn_done (by kernel_rfl) ?_ _
            exact CONT
          · refine stepIn_run (by rfl) (by rfl) (by intro c h; cases h) 28 rfl (exec_box rfl rfl (box40 D1.out.b7)) ?_
            refine hK _ _ ?_
            clear hK K
            try simp only [List.setIfInBounds_toArray, List.set_cons_zero, List.set_cons_succ]
            refine wpAnyIn_ready (rs := [2, 5]) (by kernel_rfl) (by simp) ?_
            refine AllReadyIn.cons rfl (fun K hK => ?_) (AllReadyIn.cons rfl (fun K hK => ?_) (AllReadyIn.nil))
            · refine stepIn_run (by rfl) (by rfl) (by intro c h; cases h) 27 rfl (exec_mid rfl rfl (load_all D1.out.hx Try.underlying49 rfl (sc_sz _ HX8.out) _ (Below.refl _ _))) ?_
              refine hK _ _ ?_
              clear hK K
              try simp only [List.setIfInBounds_toArray, List.set_cons_zero, List.set_cons_succ]
              refine wpAnyIn_ready (rs := [5]) (by kernel_rfl) (by simp) ?_
              refine AllReadyIn.cons rfl (fun K hK => ?_) (AllReadyIn.nil)
              refine stepIn_run (by rfl) (by rfl) (by intro c h; cases h) 30 rfl (exec_ix40 rfl rfl rfl hxm) ?_
              refine hK _ _ ?_
              clear hK K
              try simp only [List.setIfInBounds_toArray, List.set_cons_zero, List.set_cons_succ]
              refine wpAnyIn_ready (rs := [6]) (by kernel_rfl) (by simp) ?_
              refine AllReadyIn.cons rfl (fun K hK => ?_) (AllReadyIn.nil)
              refine stepIn_run (by rfl) (by rfl) (by intro c h; cases h) 31 rfl (exec_mid rfl rfl (mid49 HP8.out RG.out)) ?_
              refine hK _ _ ?_
              clear hK K
              try simp only [List.setIfInBounds_toArray, List.set_cons_zero, List.set_cons_succ]
              refine wpAnyIn_ready (rs := [7]) (by kernel_rfl) (by simp) ?_
              refine AllReadyIn.cons rfl (fun K hK => ?_) (AllReadyIn.nil)
              refine stepIn_run (by rfl) (by rfl) (by intro c h; cases h) 32 rfl (exec_eq49 rfl rfl rfl HX8.out HP8.out) ?_
              refine hK _ _ ?_
              clear hK K
              try simp only [List.setIfInBounds_toArray, List.set_cons_zero, List.set_cons_succ]
              refine wpAnyIn_ready (rs := [8]) (by kernel_rfl) (by simp) ?_
              refine AllReadyIn.cons rfl (fun K hK => ?_) (AllReadyIn.nil)
              refine stepIn_run (by rfl) (by rfl) (by intro c h; cases h) 33 rfl (exec_pick rfl rfl rfl) ?_
              refine hK _ _ ?_
              clear hK K
              try simp only [List.setIfInBounds_toArray, List.set_cons_zero, List.set_cons_succ]
              refine wpAnyIn_ready (rs := [9]) (by kernel_rfl) (by simp) ?_
              refine AllReadyIn.cons rfl (fun K hK => ?_) (AllReadyIn.nil)
              refine stepIn_store (by rfl) (by rfl) (by intro c h; cases h) rfl (exec_st4 rfl rfl rfl D1.out.bT) ?_
              refine hK _ _ ?_
              clear hK K
              try simp only [List.setIfInBounds_toArray, List.set_cons_zero, List.set_cons_succ]
              refine wpAnyIn_done (by kernel_rfl) ?_ _
              exact CONT
            · refine stepIn_run (by rfl) (by rfl) (by intro c h; cases h) 30 rfl (exec_ix40 rfl rfl rfl hxm) ?_
              refine hK _ _ ?_
              clear hK K
              try simp only [List.setIfInBounds_toArray, List.set_cons_zero, List.set_cons_succ]
              refine wpAnyIn_ready (rs := [2, 6]) (by kernel_rfl) (by simp) ?_
              refine AllReadyIn.cons rfl (fun K hK => ?_) (AllReadyIn.cons rfl (fun K hK => ?_) (AllReadyIn.nil))
              · refine stepIn_run (by rfl) (by rfl) (by intro c h; cases h) 27 rfl (exec_mid rfl rfl (load_all D1.out.hx Try.underlying49 rfl (sc_sz _ HX8.out) _ (Below.refl _ _))) ?_
                refine hK _ _ ?_
                clear hK K
                try simp only [List.setIfInBounds_toArray, List.set_cons_zero, List.set_cons_succ]
                refine wpAnyIn_ready (rs := [6]) (by kernel_rfl) (by simp) ?_
                refine AllReadyIn.cons rfl (fun K hK => ?_) (AllReadyIn.nil)
                refine stepIn_run (by rfl) (by rfl) (by intro c h; cases h) 31 rfl (exec_mid rfl rfl (mid49 HP8.out RG.out)) ?_
                refine hK _ _ ?_
                clear hK K
                try simp only [List.setIfInBounds_toArray, List.set_cons_zero, List.set_cons_succ]
                refine wpAnyIn_ready (rs := [7]) (by kernel_rfl) (by simp) ?_
                refine AllReadyIn.cons rfl (fun K hK => ?_) (AllReadyIn.nil)
                refine stepIn_run (by rfl) (by rfl) (by intro c h; cases h) 32 rfl (exec_eq49 rfl rfl rfl HX8.out HP8.out) ?_
                refine hK _ _ ?_
                clear hK K
                try simp only [List.setIfInBounds_toArray, List.set_cons_zero, List.set_cons_succ]
                refine wpAnyIn_ready (rs := [8]) (by kernel_rfl) (by simp) ?_
                refine AllReadyIn.cons rfl (fun K hK => ?_) (AllReadyIn.nil)
                refine stepIn_run (by rfl) (by rfl) (by intro c h; cases h) 33 rfl (exec_pick rfl rfl rfl) ?_
                refine hK _ _ ?_
                clear hK K
                try simp only [List.setIfInBounds_toArray, List.set_cons_zero, List.set_cons_succ]
                refine wpAnyIn_ready (rs := [9]) (by kernel_rfl) (by simp) ?_
                refine AllReadyIn.cons rfl (fun K hK => ?_) (AllReadyIn.nil)
                refine stepIn_store (by rfl) (by rfl) (by intro c h; cases h) rfl (exec_st4 rfl rfl rfl D1.out.bT) ?_
                refine hK _ _ ?_
                clear hK K
                try simp only [List.setIfInBounds_toArray, List.set_cons_zero, List.set_cons_succ]
                refine wpAnyIn_done (by kernel_rfl) ?_ _
                exact CONT
              · refine stepIn_run (by rfl) (by rfl) (by intro c h; cases h) 31 rfl (exec_mid rfl rfl (mid49 HP8.out RG.out)) ?_
                refine hK _ _ ?_
                clear hK K
                try simp only [List.setIfInBounds_toArray, List.set_cons_zero, List.set_cons_succ]
                refine wpAnyIn_ready (rs := [2]) (by kernel_rfl) (by simp) ?_
                refine AllReadyIn.cons rfl (fun K hK => ?_) (AllReadyIn.nil)
                refine stepIn_run (by rfl) (by rfl) (by intro c h; cases h) 27 rfl (exec_mid rfl rfl (load_all D1.out.hx Try.underlying49 rfl (sc_sz _ HX8.out) _ (Below.refl _ _))) ?_
                refine hK _ _ ?_
                clear hK K
                try simp only [List.setIfInBounds_toArray, List.set_cons_zero, List.set_cons_succ]
                refine wpAnyIn_ready (rs := [7]) (by kernel_rfl) (by simp) ?_
                refine AllReadyIn.cons rfl (fun K hK => ?_) (AllReadyIn.nil)
                refine stepIn_run (by rfl) (by rfl) (by intro c h; cases h) 32 rfl (exec_eq49 rfl rfl rfl HX8.out HP8.out) ?_
                refine hK _ _ ?_
                clear hK K
                try simp only [List.setIfInBounds_toArray, List.set_cons_zero, List.set_cons_succ]
                refine wpAnyIn_ready (rs := [8]) (by kernel_rfl) (by simp) ?_
                refine AllReadyIn.cons rfl (fun K hK => ?_) (AllReadyIn.nil)
                refine stepIn_run (by rfl) (by rfl) (by intro c h; cases h) 33 rfl (exec_pick rfl rfl rfl) ?_
                refine hK _ _ ?_
                clear hK K
                try simp only [List.setIfInBounds_toArray, List.set_cons_zero, List.set_cons_succ]
                refine wpAnyIn_ready (rs := [9]) (by kernel_rfl) (by simp) ?_
                refine AllReadyIn.cons rfl (fun K hK => ?_) (AllReadyIn.nil)
                refine stepIn_store (by rfl) (by rfl) (by intro c h; cases h) rfl (exec_st4 rfl rfl rfl D1.out.bT) ?_
                refine hK _ _ ?_
                clear hK K
                try simp only [List.setIfInBounds_toArray, List.set_cons_zero, List.set_cons_succ]
                refine wpAnyIn_done (by kernel_rfl) ?_ _
                exact CONT
    case done =>
      rintro D ys w hD rfl ⟨⟨⟨e0, e1⟩, ⟨e2, e3⟩⟩, e4, e5⟩ hK
      have hall : pk l (en l) = l := en_all l
      have htl : tlB l r (en l) = decide (l = r) := tlB_all l r (by rw [HRL.out, HL.out])
      obtain ⟨Hn, hHn⟩ : ∃ Hn, Hn = doH H l := ⟨_, rfl⟩
      obtain ⟨tf, htf⟩ : ∃ tf, tf = decide (l = r) := ⟨_, rfl⟩
      rw [hall, ← hHn] at e0
      rw [htl, ← htf] at e1
      have HLN := hidd (show Hn.length = 256 by rw [hHn]; exact doH_len HH.out l H8.out HOK.out)
      have HN := hidd hHn
      have HT := hidd htf
      have HKD := hidd hK
      have HBB := hidd e4
      have E0 := hidd e0
      have E1 := hidd e1
      clear hHn htf hI hK e0 e1 e2 e3 e4 e5
      go_wp2_with fail
      rename_i K2 aK2
      have CONT2 : Exit.then K2 Q0 Exit.normal { tmps := #[.agg (bs H).toArray, .slice a m c, .pointer (some ⟨W.heap.size, 0, none⟩), undef, .pointer (some ⟨W.heap.size + 1, 0, none⟩), .pointer (some ⟨W.heap.size + 1 + 1, 0, none⟩), .int .i64 0, .pointer (some ⟨w1.heap.size, 0, none⟩), undef, undef, .tuple #[.slice a' m c', .int .i64 0], .agg (bs H).toArray, .slice a m c, .tuple #[.slice a' m c', .int .i64 0], .slice a' m c', .int .i64 0, .int .i64 0, .bool false, undef, undef, .agg (bs H).toArray, .slice a m c, .func (.func 34) #[] #[.pointer (some ⟨Wa.heap.size, 0, none⟩)], undef, undef, undef, undef, undef, undef, undef, undef, undef, undef, undef, undef, undef, undef, undef, undef, undef, undef, undef, .agg (bs Hn).toArray, .bool tf], defers := [{ target := .collected D, args := #[] }] } ((w.drew.setRow (W.heap.size + 1) (bs Hn).toArray).setCell ⟨W.heap.size + 1 + 1, 0, none⟩ (.bool tf)) := by
        have hKD : ((w.drew.setRow (W.heap.size + 1) (bs Hn).toArray).setCell ⟨W.heap.size + 1 + 1, 0, none⟩ (.bool tf)).heap[D]? = some (.deferred (some [])) := hs_other ((setRow_other _ _ _ _ (by omega)).trans (hs_drew HKD.out)) (by simp; omega)
        have hAF : ((w.drew.setRow (W.heap.size + 1) (bs Hn).toArray).setCell ⟨W.heap.size + 1 + 1, 0, none⟩ (.bool tf)).heap[W.heap.size + 1]? = some (.cells (bs Hn).toArray 36 (0, 0)) := hs_other (setRow_heap _ _ _ _ _ _ (hs_drew E0.out)) (by simp)
        have hBF : Boxed ((w.drew.setRow (W.heap.size + 1) (bs Hn).toArray).setCell ⟨W.heap.size + 1 + 1, 0, none⟩ (.bool tf)) (W.heap.size + 1 + 1) 4 (.bool tf) := Boxed.set (v := .bool tf) _ ((setRow_other _ _ _ _ (by omega)).trans (hs_drew E1.out))
        have hBL : Below W.heap.size W ((w.drew.setRow (W.heap.size + 1) (bs Hn).toArray).setCell ⟨W.heap.size + 1 + 1, 0, none⟩ (.bool tf)) := (below_setRow HBB.out.drew (by omega) _).setCell (p := ⟨W.heap.size + 1 + 1, 0, none⟩) (by simp; omega) _
        generalize (w.drew.setRow (W.heap.size + 1) (bs Hn).toArray).setCell ⟨W.heap.size + 1 + 1, 0, none⟩ (.bool tf) = wf at *
        have FF := hidd (And.intro hKD (And.intro hAF (And.intro hBF hBL)))
        clear hKD hAF hBF hBL
        go_wp2
        obtain ⟨hKD, hAF, hBF, hBL⟩ := FF.out
        refine ⟨by simp, .inl ⟨_, _, rfl, run_takeDeferred hKD, ?_⟩⟩
        refine ⟨_, results_rbt Try.results16 _ _ (W.heap.size + 1) (bs Hn).toArray (W.heap.size + 1 + 1) tf (sz36 _ HLN.out) rfl rfl ((heapf_own (W.heap.size + 1) (fun _ : Unit => (bs Hn).toArray) 36).putObj (s := ()) _ hAF hKD rfl) ((boxed_own (W.heap.size + 1 + 1) 4 (fun _ : Unit => .bool tf)).putObj (s := ()) _ hBF hKD rfl), ?_, ?_⟩
        · rw [HN.out, HT.out, HRR.out]
          rfl
        · exact hBL.trans (belowK_b (w := W0) (by omega) _ D _ _ hD hKD rfl rfl)
      have e0 := E0.out
      have e1 := E1.out
      refine wp_region_held_drew (S := fun _ => True) (by kernel_rfl) trivial (fun _ => ?_)
      refine wpAnyH_ready (rs := [0, 1]) (by kernel_rfl) (by simp) ?_
      refine AllReadyH.cons rfl (fun K hK => ?_) (AllReadyH.cons rfl (fun K hK => ?_) (AllReadyH.nil))
      · refine step_run rfl 42 rfl (exec_mid rfl rfl (load_all (hs_drew e0) Try.underlying36 rfl (sz36 _ HLN.out) _ (Below.refl _ _))) ?_
        refine hK.out _ _ trivial (fun _ => ?_)
        clear hK K
        try simp only [List.setIfInBounds_toArray, List.set_cons_zero, List.set_cons_succ]
        refine wpAnyH_ready (rs := [1, 2]) (by kernel_rfl) (by simp) ?_
        refine AllReadyH.cons rfl (fun K hK => ?_) (AllReadyH.cons rfl (fun K hK => ?_) (AllReadyH.nil))
        · refine step_run rfl 43 rfl (exec_box rfl rfl (box4 (show Boxed _ (W.heap.size + 1 + 1) 4 (.bool tf) from (hs_drew e1)))) ?_
          refine hK.out _ _ trivial (fun _ => ?_)
          clear hK K
          try simp only [List.setIfInBounds_toArray, List.set_cons_zero, List.set_cons_succ]
          refine wpAnyH_ready (rs := [2]) (by kernel_rfl) (by simp) ?_
          refine AllReadyH.cons rfl (fun K hK => ?_) (AllReadyH.nil)
          refine step_store_row rfl rfl 36 (.tmp 4) (.tmp 42) rfl (W.heap.size + 1) (bs Hn).toArray rfl rfl 36 (bs Hn).toArray (hs_drew e0) (sz36 _ HLN.out) rfl (bs_oneA _) ?_
          refine hK.out _ _ trivial (fun _ => ?_)
          clear hK K
          try simp only [List.setIfInBounds_toArray, List.set_cons_zero, List.set_cons_succ]
          refine wpAnyH_ready (rs := [3]) (by kernel_rfl) (by simp) ?_
          refine AllReadyH.cons rfl (fun K hK => ?_) (AllReadyH.nil)
          refine step_skip rfl rfl (exec_st4 rfl rfl rfl (show Boxed _ (W.heap.size + 1 + 1) 4 (.bool tf) from ((setRow_other _ _ _ _ (by omega)).trans (hs_drew e1)))) ?_
          refine hK.out _ _ trivial (fun _ => ?_)
          clear hK K
          try simp only [List.setIfInBounds_toArray, List.set_cons_zero, List.set_cons_succ]
          refine wpAnyH_ready (rs := [4]) (by kernel_rfl) (by simp) ?_
          refine AllReadyH.cons rfl (fun K hK => ?_) (AllReadyH.nil)
          refine step_run rfl 6 rfl (exec_asg rfl rfl) ?_
          refine hK.out _ _ trivial (fun _ => ?_)
          clear hK K
          try simp only [List.setIfInBounds_toArray, List.set_cons_zero, List.set_cons_succ]
          refine wpAnyH_done (by kernel_rfl) ?_ _
          exact CONT2
        · refine step_store_row rfl rfl 36 (.tmp 4) (.tmp 42) rfl (W.heap.size + 1) (bs Hn).toArray rfl rfl 36 (bs Hn).toArray (hs_drew e0) (sz36 _ HLN.out) rfl (bs_oneA _) ?_
          refine hK.out _ _ trivial (fun _ => ?_)
          clear hK K
          try simp only [List.setIfInBounds_toArray, List.set_cons_zero, List.set_cons_succ]
          refine wpAnyH_ready (rs := [1]) (by kernel_rfl) (by simp) ?_
          refine AllReadyH.cons rfl (fun K hK => ?_) (AllReadyH.nil)
          refine step_run rfl 43 rfl (exec_box rfl rfl (box4 (show Boxed _ (W.heap.size + 1 + 1) 4 (.bool tf) from ((setRow_other _ _ _ _ (by omega)).trans (hs_drew e1))))) ?_
          refine hK.out _ _ trivial (fun _ => ?_)
          clear hK K
          try simp only [List.setIfInBounds_toArray, List.set_cons_zero, List.set_cons_succ]
          refine wpAnyH_ready (rs := [3]) (by kernel_rfl) (by simp) ?_
          refine AllReadyH.cons rfl (fun K hK => ?_) (AllReadyH.nil)
          refine step_skip rfl rfl (exec_st4 rfl rfl rfl (show Boxed _ (W.heap.size + 1 + 1) 4 (.bool tf) from ((setRow_other _ _ _ _ (by omega)).trans (hs_drew e1)))) ?_
          refine hK.out _ _ trivial (fun _ => ?_)
          clear hK K
          try simp only [List.setIfInBounds_toArray, List.set_cons_zero, List.set_cons_succ]
          refine wpAnyH_ready (rs := [4]) (by kernel_rfl) (by simp) ?_
          refine AllReadyH.cons rfl (fun K hK => ?_) (AllReadyH.nil)
          refine step_run rfl 6 rfl (exec_asg rfl rfl) ?_
          refine hK.out _ _ trivial (fun _ => ?_)
          clear hK K
          try simp only [List.setIfInBounds_toArray, List.set_cons_zero, List.set_cons_succ]
          refine wpAnyH_done (by kernel_rfl) ?_ _
          exact CONT2
      · refine step_run rfl 43 rfl (exec_box rfl rfl (box4 (show Boxed _ (W.heap.size + 1 + 1) 4 (.bool tf) from (hs_drew e1)))) ?_
        refine hK.out _ _ trivial (fun _ => ?_)
        clear hK K
        try simp only [List.setIfInBounds_toArray, List.set_cons_zero, List.set_cons_succ]
        refine wpAnyH_ready (rs := [0]) (by kernel_rfl) (by simp) ?_
        refine AllReadyH.cons rfl (fun K hK => ?_) (AllReadyH.nil)
        refine step_run rfl 42 rfl (exec_mid rfl rfl (load_all (hs_drew e0) Try.underlying36 rfl (sz36 _ HLN.out) _ (Below.refl _ _))) ?_
        refine hK.out _ _ trivial (fun _ => ?_)
        clear hK K
        try simp only [List.setIfInBounds_toArray, List.set_cons_zero, List.set_cons_succ]
        refine wpAnyH_ready (rs := [2]) (by kernel_rfl) (by simp) ?_
        refine AllReadyH.cons rfl (fun K hK => ?_) (AllReadyH.nil)
        refine step_store_row rfl rfl 36 (.tmp 4) (.tmp 42) rfl (W.heap.size + 1) (bs Hn).toArray rfl rfl 36 (bs Hn).toArray (hs_drew e0) (sz36 _ HLN.out) rfl (bs_oneA _) ?_
        refine hK.out _ _ trivial (fun _ => ?_)
        clear hK K
        try simp only [List.setIfInBounds_toArray, List.set_cons_zero, List.set_cons_succ]
        refine wpAnyH_ready (rs := [3]) (by kernel_rfl) (by simp) ?_
        refine AllReadyH.cons rfl (fun K hK => ?_) (AllReadyH.nil)
        refine step_skip rfl rfl (exec_st4 rfl rfl rfl (show Boxed _ (W.heap.size + 1 + 1) 4 (.bool tf) from ((setRow_other _ _ _ _ (by omega)).trans (hs_drew e1)))) ?_
        refine hK.out _ _ trivial (fun _ => ?_)
        clear hK K
        try simp only [List.setIfInBounds_toArray, List.set_cons_zero, List.set_cons_succ]
        refine wpAnyH_ready (rs := [4]) (by kernel_rfl) (by simp) ?_
        refine AllReadyH.cons rfl (fun K hK => ?_) (AllReadyH.nil)
        refine step_run rfl 6 rfl (exec_asg rfl rfl) ?_
        refine hK.out _ _ trivial (fun _ => ?_)
        clear hK K
        try simp only [List.setIfInBounds_toArray, List.set_cons_zero, List.set_cons_succ]
        refine wpAnyH_done (by kernel_rfl) ?_ _
        exact CONT2
    case stop =>
      rintro D c pre w _ _ h _
      exact h.elim
  refine wp_region_held_drew (S := fun w' => w'.heap[W.heap.size]? = some (.cells (bs H).toArray 36 (0, 0))) (by kernel_rfl) (hs_drew P.out.1) (fun hH => ?_)
  have k1 := (show Boxed w2.drew (W.heap.size + 1 + 1) 4 (.bool false) from hs_drew P.out.2.2.1).cell
  have k2 := (show Boxed w2.drew (W.heap.size + 1 + 1) 4 (.bool false) from hs_drew P.out.2.2.1).frozen
  have HOZ := hidd (show (bs z36).toArray.size = (bs H).toArray.size by rw [List.size_toArray, List.size_toArray, bs_length, bs_length, z36_len, HH.out])
  refine wpAnyH_ready (rs := [0, 1]) (by kernel_rfl) (by simp) ?_
  refine AllReadyH.cons rfl (fun K hK => ?_) (AllReadyH.cons rfl (fun K hK => ?_) AllReadyH.nil)
  · refine step_run rfl 20 rfl (exec_load rfl (load_all hH Try.underlying36 rfl (sz36 H HH.out) _ (Below.refl _ _))) ?_
    refine hK.out _ _ hH (fun hH1 => ?_)
    clear hK K
    try simp only [List.setIfInBounds_toArray, List.set_cons_zero, List.set_cons_succ]
    refine wpAnyH_ready (rs := [1]) (by kernel_rfl) (by simp) ?_
    refine AllReadyH.cons rfl (fun K hK => ?_) AllReadyH.nil
    go_simp
    refine hK.out _ _ (hs_other hH (by simp; omega)) (fun hH1 => ?_)
    clear hK K
    try simp only [List.setIfInBounds_toArray, List.set_cons_zero, List.set_cons_succ]
    refine wpAnyH_ready (rs := [2]) (by kernel_rfl) (by simp) ?_
    refine AllReadyH.cons rfl (fun K hK => ?_) AllReadyH.nil
    refine step_store_row rfl rfl 36 (.tmp 4) (.tmp 20) rfl (W.heap.size + 1) (bs H).toArray rfl rfl 36 (bs z36).toArray (hs_other (hs_drew P.out.2.1) (by simp)) (sz36 H HH.out) HOZ.out (bs_oneA H) ?_
    refine hK.out _ _ ((setRow_other _ _ _ _ (by omega)).trans hH1) (fun hH3 => ?_)
    clear hK K
    try simp only [List.setIfInBounds_toArray, List.set_cons_zero, List.set_cons_succ]
    refine wpAnyH_done (by kernel_rfl) ?_ _
    exact CONT
  · go_simp
    refine hK.out _ _ (hs_other hH (by simp; omega)) (fun hH1 => ?_)
    clear hK K
    try simp only [List.setIfInBounds_toArray, List.set_cons_zero, List.set_cons_succ]
    refine wpAnyH_ready (rs := [0]) (by kernel_rfl) (by simp) ?_
    refine AllReadyH.cons rfl (fun K hK => ?_) AllReadyH.nil
    refine step_run rfl 20 rfl (exec_load rfl (load_all hH1 Try.underlying36 rfl (sz36 H HH.out) _ (Below.refl _ _))) ?_
    refine hK.out _ _ hH1 (fun hH2 => ?_)
    clear hK K
    try simp only [List.setIfInBounds_toArray, List.set_cons_zero, List.set_cons_succ]
    refine wpAnyH_ready (rs := [2]) (by kernel_rfl) (by simp) ?_
    refine AllReadyH.cons rfl (fun K hK => ?_) AllReadyH.nil
    refine step_store_row rfl rfl 36 (.tmp 4) (.tmp 20) rfl (W.heap.size + 1) (bs H).toArray rfl rfl 36 (bs z36).toArray (hs_other (hs_drew P.out.2.1) (by simp)) (sz36 H HH.out) HOZ.out (bs_oneA H) ?_
    refine hK.out _ _ ((setRow_other _ _ _ _ (by omega)).trans hH1) (fun hH3 => ?_)
    clear hK K
    try simp only [List.setIfInBounds_toArray, List.set_cons_zero, List.set_cons_succ]
    refine wpAnyH_done (by kernel_rfl) ?_ _
    exact CONT
end Go.Proofs.Ytdoicmjomlaoaaa
