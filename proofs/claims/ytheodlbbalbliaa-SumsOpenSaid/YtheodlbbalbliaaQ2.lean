import Derived.Test.YtheodlbbalbliaaS1
import Derived.Test.YtheodlbbalbliaaN2
namespace Go.Proofs.Ytheodlbbalbliaa
open Go.RowKit
theorem nib_facts (x : BitVec 32) : bits .and .u32 (x.toNat : Int) 15 = ((x &&& 15#32).toNat : Int) ∧ (x &&& 15#32).toNat < 16 ∧ (x.toNat : Int) / (16 : Int) = ((x >>> 4).toNat : Int) ∧
    (tabA 16)[(x &&& 15#32).toNat]? = some (.int .u32 ((hs4 (x &&& 15#32)).toNat : Int)) ∧ bits .xor .u32 ((x >>> 4).toNat : Int) ((hs4 (x &&& 15#32)).toNat : Int) = ((nib x).toNat : Int) :=
  ⟨b_and15 x, and15_lt x, b_shr4 x, by rw [tabA_get _ _ (and15_lt x), if_pos (and15_lt x), BitVec.ofNat_toNat, BitVec.setWidth_eq], b_xor _ _⟩
set_option maxHeartbeats 1000000 in
theorem through_any (r : BitVec 32) (a : Option Addr) (l : List UInt8) (c : Nat) (w : World) (hr : Reads w a l) (hl : l.length ≤ 4294967296) :
    Calls Try.prog 34 #[.int .u32 (r.toNat : Int), .slice a l.length c] w fun e w' => e = .returned (.int .u32 ((thr r l).toNat : Int)) ∧ Below w.heap.size w w' := by
  go_enter Try.func34, Try.ntmps34
  go_wp2_with (first | (go_at_call 37; refine (table_any _).mono ?_; rintro e w1 ⟨rfl, hb⟩) | (refine wpList_store_new rfl 60 _ _ rfl _ _ 60 rfl rfl (by kernel_rfl) (by kernel_rfl) (by kernel_rfl) rfl ?_))
  go_loop [0, 6, 10] (fun z _ i => ∃ k : Nat, k ≤ l.length ∧ i = .int .i64 k ∧ z = .int .u32 ((thr r (l.take k)).toNat : Int)) (fun _ _ i => l.length - (intOf i).toNat)
  case atStart => exact ⟨0, by omega, rfl, rfl⟩
  case round =>
    obtain ⟨k, hk, rfl, rfl⟩ := hrel
    by_cases hlt : k < l.length
    · obtain ⟨b, off, rfl, hc⟩ := hr k hlt
      have hbl := block_lt_of_cell hc
      have hw1 := hb.size
      have hc1 : (w1.alloc (Obj.cells (tabA 16) 60)).cell? ⟨b, off + k, none⟩ = some (.int .u8 ((l.getD k 0).toNat : Int)) := by
        rw [World.cell?_alloc_past _ _ _ (by simp at hbl; omega)]
        exact (hb.cell (p := ⟨b, off + k, none⟩) hbl).trans hc
      clear hc hr hb
      have hthr : thr r (l.take (k + 1)) = stp (thr r (l.take k)) (l.getD k 0) := thr_take r l k hlt
      obtain ⟨y, hy⟩ : ∃ y, y = l.getD k 0 := ⟨_, rfl⟩
      obtain ⟨z, hz⟩ : ∃ z, z = thr r (l.take k) := ⟨_, rfl⟩
      rw [← hy] at hc1 hthr
      rw [← hz] at hthr
      rw [← hz]
      have HY := hidd hy
      have HT := hidd hthr
      clear hy hthr hz
      have hyl := y.toNat_lt
      have e1 := b_byte z y
      obtain ⟨x, hx⟩ : ∃ x, x = z ^^^ BitVec.ofNat 32 y.toNat := ⟨_, rfl⟩
      rw [← hx] at e1
      have HX := hidd hx
      clear hx
      obtain ⟨e2, l2, e3, c3, e4⟩ := nib_facts x
      obtain ⟨u, hu⟩ : ∃ u, u = nib x := ⟨_, rfl⟩
      rw [← hu] at e4
      have HU := hidd hu
      clear hu
      obtain ⟨f2, m2, f3, d3, f4⟩ := nib_facts u
      generalize hi : (x &&& 15#32).toNat = i at e2 l2 c3
      generalize hj : (u &&& 15#32).toNat = j at f2 m2 d3
      generalize hs4 (x &&& 15#32) = xa at c3 e4
      generalize (x >>> 4) = xb at e3 e4
      generalize hs4 (u &&& 15#32) = ua at d3 f4
      generalize (u >>> 4) = ub at f3 f4
      clear hi hj
      obtain ⟨v, hv⟩ : ∃ v, v = nib u := ⟨_, rfl⟩
      rw [← hv] at f4
      have HV := hidd hv
      clear hv
      have lz := z.isLt
      have lx := x.isLt
      have lu := u.isLt
      go_wp2
      go_round
      case rel => exact ⟨k + 1, by omega, by go_num, by rw [HT.out, HV.out, HU.out, HX.out]; rfl⟩
      case measure => simp [intOf]; omega
    · obtain rfl : k = l.length := by omega
      rw [List.take_of_length_le (Nat.le_refl _)]
      go_wp2
      go_ret
      exact ⟨rfl, hb.alloc (by have := hb.size; omega) _⟩
end Go.Proofs.Ytheodlbbalbliaa
