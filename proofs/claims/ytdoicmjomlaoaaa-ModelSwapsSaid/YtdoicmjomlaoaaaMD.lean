import Derived.Test.YtdoicmjomlaoaaaMC
import Derived.Maps.Own
import Derived.Maps.OwnSet
namespace Go.Proofs.Ytdoicmjomlaoaaa
open Go.RowKit
open Go.Maps (Keyed)
abbrev Dm := DataW Unit
def keyB (k : Nat) : Lit := .int .i64 (k : Int)
/-- a map of blocks: which are known -/
def MapK (w : World) (b cnt : Nat) (kn : Nat → Bool) : Prop :=
  ∃ n, ∃ D : Dm, n ≤ cnt ∧ w.ownsMap Try.prog 3 (plainElem Try.prog 4) b n D ∧ ∀ k, k < 32 → D.atKey (keyB k) (.lit (.bool false)) = .lit (.bool (kn k))
theorem lawB : Keyed Try.prog 3 := Maps.int_keyed Try.underlying3
theorem keyB_is (k : Nat) : WideAt.IsKeyLit (keyB k) := by
  unfold keyB WideAt.IsKeyLit
  trivial
theorem keyB_of (k : Nat) (hk : k < 32) : keyOf Try.prog 3 (.int .i64 (k : Int)) = some (keyB k) := Maps.keyOf_int_mk Try.underlying3 (WalkArith.wf_i64 (by omega))
theorem zeroB (w : World) : (zeroValue 4).run Try.prog w = .ok (.bool false) w := by kernel_rfl
theorem plainElem_bool_inv {P : Program} {e : TypeId} (he : P.underlying e = some .bool) {v : Value} {x : Bool} {ps : List MemPlace} (h : plainElem (H := Unit) P e v = some (.lit (.bool x), ps)) : v = .bool x := by
  unfold plainElem at h
  rw [he] at h
  cases v <;> simp at h
  rw [h.1]
theorem MapK.made (w : World) : MapK (w.alloc (.map #[] 0)) w.heap.size 0 (fun _ => false) :=
  ⟨0, .map [], Nat.le_refl _, World.ownsMap_made (H := Unit) w Try.prog 3 (plainElem Try.prog 4), fun _ _ => rfl⟩
theorem MapK.look {w : World} {b cnt : Nat} {kn : Nat → Bool} (h : MapK w b cnt kn) (k : Nat) (hk : k < 32) : (Instr.lookup 75 (.map (some b)) (.int .i64 (k : Int)) false).run Try.prog w = .ok (.bool (kn k)) w := by
  obtain ⟨n, D, _, h1, h2⟩ := h
  obtain ⟨v, ps, hrun, hv⟩ := h1.lookup lawB Try.underlying75 (zeroB w) (plainElem_bool Try.underlying4 false) (keyB_of k hk)
  rw [h2 k hk] at hv
  rw [hrun, plainElem_bool_inv Try.underlying4 hv]
theorem MapK.put {w : World} {b cnt : Nat} {kn : Nat → Bool} (h : MapK w b cnt kn) (k : Nat) (hk : k < 32) (hc : cnt ≤ 1000) : ∃ w', (Instr.mapUpdate 75 (.map (some b)) (.int .i64 (k : Int)) (.bool true)).run Try.prog w = .ok () w' ∧ MapK w' b (cnt + 1) (fun j => kn j || j == k) ∧ w.grownBy w' (some b) := by
  obtain ⟨n, D, hn, h1, h2⟩ := h
  obtain ⟨w', hrun, r1, r2⟩ := h1.update lawB Try.underlying75 (by unfold maxLen; omega) (keyB_of k hk) (plainElem_bool Try.underlying4 true)
  refine ⟨w', hrun, ⟨n + 1, _, by omega, r1, fun j hj => ?_⟩, r2⟩
  by_cases e : j = k
  · subst e
    rw [Maps.atKey_put_same (h1.isMap) (keyB_is j)]
    simp
  · rw [Maps.atKey_put_other (by unfold keyB; intro he; injection he with _ he; omega), h2 j hj]
    simp [e]
theorem MapK.kept {w w' : World} {b cnt : Nat} {kn : Nat → Bool} {row : Option Nat} (h : MapK w b cnt kn) (hg : w.grownBy w' row) (hne : some b ≠ row) : MapK w' b cnt kn := by
  obtain ⟨n, D, hn, h1, h2⟩ := h
  exact ⟨n, D, hn, h1.kept hg hne, h2⟩
theorem MapK.lt {w : World} {b cnt : Nat} {kn : Nat → Bool} (h : MapK w b cnt kn) : b < w.heap.size := by
  obtain ⟨n, D, hn, h1, h2⟩ := h
  exact h1.lt
theorem MapK.clear {w : World} {b cnt : Nat} {kn : Nat → Bool} (h : MapK w b cnt kn) (ty : TypeId) : ∃ w', (Builtin.clear_ #[75] ty #[.map (some b)]).run Try.prog w = .ok (.tuple #[]) w' ∧ w.grownBy w' (some b) := by
  obtain ⟨n, D, _, ⟨es, clock, hb, _⟩, _⟩ := h
  simp [Builtin.clear_, run_underlying Try.underlying75, MapKept.run_getObj_map hb, MapKept.run_setObj_map _ hb, Result.andThen]
  exact ⟨rfl, rfl, rfl, by simp, fun k _ hne => Array.getElem?_setIfInBounds_ne (fun e => hne (by rw [e]))⟩
theorem MapK.below {w w' : World} {b cnt : Nat} {kn : Nat → Bool} (h : MapK w b cnt kn) (hb : Below w.heap.size w w') : MapK w' b cnt kn :=
  h.kept (row := none) ⟨hb.os, hb.tape, hb.output, hb.size, fun i hi _ => hb.block i hi⟩ (by simp)
theorem iT : ElT Try.prog 43 3 (.int .i64 0) 1 8 := ⟨Try.underlying43, by kernel_rfl, rfl, by decide⟩
/-- the blocks that are known, rising -/
def rsL (kn : Nat → Bool) (k : Nat) : List Int := ((List.range k).filter kn).map Int.ofNat
theorem rsL_succ (kn : Nat → Bool) (k : Nat) : rsL kn (k + 1) = if kn k then rsL kn k ++ [(k : Int)] else rsL kn k := by
  unfold rsL
  rw [List.range_succ, List.filter_append]
  cases h : kn k <;> simp [h]
theorem rsL_le (kn : Nat → Bool) (k : Nat) : (rsL kn k).length ≤ k := by
  unfold rsL
  rw [List.length_map]
  exact Nat.le_trans (List.length_filter_le _ _) (by simp)
theorem rsL_mem (kn : Nat → Bool) (n k : Nat) : (k : Int) ∈ rsL kn n ↔ k < n ∧ kn k = true := by
  unfold rsL
  simp
  constructor
  · rintro ⟨a, h, e⟩
    have : a = k := by omega
    subst this
    exact h
  · intro h
    exact ⟨k, h, rfl⟩
set_option maxHeartbeats 4000000 in
theorem rising_any (b cnt : Nat) (kn : Nat → Bool) (W : World) (hm : MapK W b cnt kn) :
    Calls Try.prog 35 #[.map (some b)] W fun e w' => ∃ a c, e = .returned (.slice a (rsL kn 32).length c) ∧ Sl w' a (rsL kn 32).length c 1 (is .i64 (rsL kn 32)) ∧ (∀ b off, a = some ⟨b, off, none⟩ → W.heap.size ≤ b) ∧ W.grownBy w' (some b) := by
  have HM := hidd hm
  have HLT := hidd hm.lt
  clear hm
  go_enter Try.func35, Try.ntmps35
  go_wp2
  go_loopw [2, 4] (fun v i wr => ∃ k : Nat, k ≤ 32 ∧ i = .int .i64 k ∧ wr.ownsRow W.heap.size 3 1 v (rsL kn k).length (is .i64 (rsL kn k)) ∧ Below W.heap.size W wr) (fun _ i _ => 32 - (intOf i).toNat)
  case atStart => exact ⟨0, by omega, rfl, World.ownsRow_nil _ _ _ _, Below.refl _ _⟩
  case round =>
    obtain ⟨k, hk, rfl, ho, hbel⟩ := hrel
    have HO := hidd ho
    have HW := hidd hbel
    have HL := hidd (rsL_le kn k)
    rcases Nat.lt_or_ge k 32 with hlt | hge
    · have hlook := (HM.out.below hbel).look k hlt
      have HS := hidd (rsL_succ kn k)
      clear ho hbel
      cases hkn : kn k
      · rw [hkn] at hlook
        have HK := hidd hkn
        clear hkn
        go_wp2_with fail
        refine ⟨⟨k + 1, by omega, by push_cast; rfl, by rw [HS.out, HK.out]; exact HO.out, HW.out⟩, ?_⟩
        simp [intOf]
        omega
      · rw [hkn] at hlook
        have HK := hidd hkn
        clear hkn
        go_wp2_with (first | (at_builtin; refine wpList_app iT rfl (.tmp 10) (.tmp 12) rfl W.heap.size _ (rsL kn k).length (is .i64 (rsL kn k)) rfl (HO.out.alloc _) _ 1 1 [.int .i64 (k : Int)] rfl (Sl.fresh wr [_] 3 1 1 rfl (by decide)) (one_int _ _) (by have := HL.out; omega) (by have := HL.out; omega) (by have := HW.out.size; simp; omega) ?_; intro v' w' hown' hge' hbel'))
        refine ⟨⟨k + 1, by omega, by push_cast; rfl, ?_, (HW.out.alloc HW.out.size _).trans hbel'⟩, ?_⟩
        · rw [HS.out, HK.out, if_pos rfl, List.length_append]
          unfold is at hown' ⊢
          rw [List.map_append]
          exact hown'
        · simp [intOf]
          omega
    · have hk32 : k = 32 := by omega
      subst hk32
      obtain ⟨a', c', rfl, hs⟩ := own_Sl ho
      have HSL := hidd hs
      have HAD := hidd (fun b off e => own_addr ho b off e)
      obtain ⟨w', hclr, hgb⟩ := (HM.out.below hbel).clear 0
      clear ho hs hbel
      go_wp2
      go_ret
      have hg := hgb
      refine ⟨a', c', rfl, sl_gb HSL.out hg (fun b2 off e => by have := HAD.out b2 off e; have := HLT.out; simp; omega), HAD.out, ?_⟩
      have hw := HW.out
      exact ⟨hg.os.trans hw.os, hg.tape.trans hw.tape, hg.output.trans hw.output, Nat.le_trans hw.size hg.size, fun i hi hne => (hg.block i (by have := hw.size; omega) hne).trans (hw.block i hi)⟩
end Go.Proofs.Ytdoicmjomlaoaaa
