
/- The reference's block (scowref03.block). Written by wip/tools/gen_block03.py. -/

import Derived.Test.YtnagbhaknmoilaaShaTake

namespace Go.Proofs.Ytnagbhaknmoilaa

open Go.RowKit

attribute [local go_sem] W_xor W_and W_or W_not W_add W_add' W_shr3 W_shr10

theorem or32 (a b m : Nat) (_hm : m < 32) (hb : b < 2 ^ m) (ha : 2 ^ m * a + b < 4294967296) : bits .or .u32 ((2 ^ m * a : Nat) : Int) (b : Int) = ((2 ^ m * a + b : Nat) : Int) := by
  have h1 : b < 4294967296 := by omega
  rw [u32_or_nat _ _ (by omega) h1, Nat.two_pow_add_eq_or_of_lt hb]
theorem or_a (x y : Nat) (hx : x < 256) (hy : y < 256) : bits .or .u32 ((16777216 * x : Nat) : Int) ((65536 * y : Nat) : Int) = ((16777216 * x + 65536 * y : Nat) : Int) := or32 x (65536 * y) 24 (by omega) (by omega) (by omega)
theorem or_b (x y z : Nat) (hx : x < 256) (hy : y < 256) (hz : z < 256) : bits .or .u32 ((16777216 * x + 65536 * y : Nat) : Int) ((256 * z : Nat) : Int) = ((16777216 * x + 65536 * y + 256 * z : Nat) : Int) := by
  have h9 := or32 (256 * x + y) (256 * z) 16 (by omega) (by omega) (by omega)
  rwa [show 2 ^ 16 * (256 * x + y) = 16777216 * x + 65536 * y by omega] at h9
theorem or_c (x y z u : Nat) (hx : x < 256) (hy : y < 256) (hz : z < 256) (hu : u < 256) : bits .or .u32 ((16777216 * x + 65536 * y + 256 * z : Nat) : Int) (u : Int) = ((16777216 * x + 65536 * y + 256 * z + u : Nat) : Int) := by
  have h9 := or32 (65536 * x + 256 * y + z) u 8 (by omega) (by omega) (by omega)
  rwa [show 2 ^ 8 * (65536 * x + 256 * y + z) = 16777216 * x + 65536 * y + 256 * z by omega] at h9
theorem be_val (b : List UInt8) (k : Nat) : ((16777216 * (b.getD (4 * k) 0).toNat + 65536 * (b.getD (4 * k + 1) 0).toNat + 256 * (b.getD (4 * k + 2) 0).toNat + (b.getD (4 * k + 3) 0).toNat : Nat) : Int) = W (Sha.be b k) := by
  have h0 := (b.getD (4 * k) 0).toNat_lt
  have h1 := (b.getD (4 * k + 1) 0).toNat_lt
  have h2 := (b.getD (4 * k + 2) 0).toNat_lt
  have h3 := (b.getD (4 * k + 3) 0).toNat_lt
  unfold W Sha.be
  rw [UInt32.toNat_ofNat', Nat.mod_eq_of_lt (by omega)]
  congr 1
  omega
theorem elemU : ElemT Try.prog 57 29 1 4 := elemU32
theorem zeroU : (Try.prog.info? 29).bind (·.zero) = some (.int .u32 0) := by kernel_rfl

def sumC (s v : Sha.St) (i : Nat) : Array Value := ((List.range 8).map fun j => if j < i then wv (s.list.getD j 0 + v.list.getD j 0) else Value.int .u32 0).toArray
theorem sumC_get (s v : Sha.St) (i : Nat) (h : i < 8) : (sumC s v i)[i]? = some (.int .u32 0) := by
  rcases to8 h with rfl | rfl | rfl | rfl | rfl | rfl | rfl | rfl <;> rfl
theorem sumC_set (s v : Sha.St) (i : Nat) (h : i < 8) : (sumC s v i).setIfInBounds i (.int .u32 (W (s.list.getD i 0 + v.list.getD i 0))) = sumC s v (i + 1) := by
  rcases to8 h with rfl | rfl | rfl | rfl | rfl | rfl | rfl | rfl <;> rfl
theorem sumC_all (s v : Sha.St) : (sumC s v 8).toList = (Sha.plus s v).list.map wv := rfl
theorem list_get (v : Sha.St) (i : Nat) (h : i < 8) : (v.list.map wv)[i]? = some (.int .u32 (W (v.list.getD i 0))) := by
  rcases to8 h with rfl | rfl | rfl | rfl | rfl | rfl | rfl | rfl <;> rfl
theorem list_one (v : Sha.St) : ∀ u ∈ v.list.map wv, u.oneCell' = true := by
  intro u hu
  obtain ⟨x, _, rfl⟩ := List.mem_map.1 hu
  rfl
theorem Rd.drew_' {w : World} {size n : Nat} {A : Option Addr} {xs : List Value} (h : Rd w size A n xs) : Rd w.drew size A n xs := h
theorem cell8 {w : World} {g off : Nat} {v : Sha.St} (h : Rd w 1 (some ⟨g, off, none⟩) 8 (v.list.map wv)) (j : Nat) (hj : j < 8) : w.cell? ⟨g, off + j, none⟩ = some (.int .u32 (W (v.list.getD j 0))) := by
  obtain ⟨a, e, f⟩ := h.2 (by simp [Sha.St.list])
  cases e
  have h8 := f j _ (list_get v j hj)
  rw [Addr.add_lit] at h8
  exact h8
theorem st_get (v : Sha.St) : v.list.getD 0 0 = v.a ∧ v.list.getD 1 0 = v.b ∧ v.list.getD 2 0 = v.c ∧ v.list.getD 3 0 = v.d ∧ v.list.getD 4 0 = v.e ∧ v.list.getD 5 0 = v.f ∧ v.list.getD 6 0 = v.g ∧ v.list.getD 7 0 = v.h := ⟨rfl, rfl, rfl, rfl, rfl, rfl, rfl, rfl⟩
theorem grown_cell_ (w : World) (g i : Nat) (x : Value) : w.grownBy (w.setCell ⟨g, i, none⟩ x) (some g) := grownBy_cell ⟨rfl, rfl, rfl, Nat.le_refl _, fun _ _ _ => rfl⟩ i x
theorem Rd.row_ {w : World} {g : Nat} {C : Array Value} {e : TypeId} {fr : Nat × Nat} (hg : w.heap[g]? = some (.cells C e fr)) (n : Nat) (hn : C.size = n) : Rd w 1 (some ⟨g, 0, none⟩) n C.toList :=
  ⟨by simp [hn], fun _ => ⟨_, rfl, fun j u hj => by rw [Addr.add_lit, Nat.zero_add, cell_of_row _ _ _ _ _ _ hg, ← Array.getElem?_toList, hj]⟩⟩

set_option maxRecDepth 100000 in
set_option maxHeartbeats 8000000 in
theorem ref_block (s : Sha.St) (A : Option Addr) (cA : Nat) (B : Option Addr) (b : List UInt8) (cB : Nat) (w : World) (hA : Rd w 1 A 8 (s.list.map wv)) (_hcA : 8 ≤ cA) (hb : RdB w B b) (hl : b.length = 64) (_hcB : 64 ≤ cB) :
    Calls Try.prog 25 #[.slice A 8 cA, .slice B 64 cB] w fun e w' => ∃ A' c', e = .returned (.slice A' 8 c') ∧ 8 ≤ c' ∧ Rd w' 1 A' 8 ((Sha.block s b).list.map wv) ∧ Below w.heap.size w w' := by
  obtain ⟨ad, rfl, hcb⟩ : ∃ ad, B = some ad ∧ ∀ (W : World), RdB W B b → ∀ j, j < 64 → W.cell? (ad.add j) = some (.int .u8 ((b.getD j 0).toNat : Int)) := by
    obtain ⟨ad, h1, _⟩ := hb.at_ (k := 0) (by omega)
    refine ⟨ad, h1, fun W h j hj => ?_⟩
    obtain ⟨ad', h2, h3⟩ := h.at_ (k := j) (by omega)
    rw [h1] at h2
    cases h2
    rw [h3]
    simp [List.getElem?_eq_getElem (show j < b.length by omega)]
  go_enter Try.func25, Try.ntmps25
  go_wp2_with (first | (at_make; go_loud (refine wpList_mk rfl (.const (.int .i64 64)) (.const (.int .i64 64)) 57 rfl elemU (.int .u32 0) zeroU rfl 64 _ _ rfl rfl (by omega) (by omega) ?_)))
  obtain ⟨W0, hW0⟩ : ∃ W0, W0 = w.alloc (.cells (schC (Sha.sch b 0)) 29) := ⟨_, rfl⟩
  have hg0 : W0.heap[w.heap.size]? = some (.cells (schC (Sha.sch b 0)) 29 (0, 0)) := by rw [hW0]; exact heap_alloc_new w _
  have hB0 : Below w.heap.size w W0 := by rw [hW0]; exact Ext.alloc w _
  refine Eq.mpr (congrArg (fun X => Code.wp _ _ _ _ X) (show _ = W0 from by rw [hW0]; rfl)) ?_
  clear hW0
  go_loopw [6] (fun i wr => ∃ k : Nat, k ≤ 16 ∧ i = .int .i64 k ∧ wr.heap[w.heap.size]? = some (.cells (schC (Sha.sch b k)) 29 (0, 0)) ∧ Below w.heap.size w wr) (fun i _ => 16 - (intOf i).toNat)
  case atStart => exact ⟨0, by omega, rfl, hg0, hB0⟩
  case round =>
    clear hg0 hB0
    obtain ⟨k, hk, rfl, hg, hB⟩ := hrel
    by_cases h16 : k < 16
    · have hd := Ext.drew wr
      have hbd := (hb.below hB).below hd
      obtain ⟨x0, hx0⟩ : ∃ x, x = (b.getD (4 * k) 0).toNat := ⟨_, rfl⟩
      obtain ⟨x1, hx1⟩ : ∃ x, x = (b.getD (4 * k + 1) 0).toNat := ⟨_, rfl⟩
      obtain ⟨x2, hx2⟩ : ∃ x, x = (b.getD (4 * k + 2) 0).toNat := ⟨_, rfl⟩
      obtain ⟨x3, hx3⟩ : ∃ x, x = (b.getD (4 * k + 3) 0).toNat := ⟨_, rfl⟩
      have l0 : x0 < 256 := by rw [hx0]; exact (b.getD (4 * k) 0).toNat_lt
      have l1 : x1 < 256 := by rw [hx1]; exact (b.getD (4 * k + 1) 0).toNat_lt
      have l2 : x2 < 256 := by rw [hx2]; exact (b.getD (4 * k + 2) 0).toNat_lt
      have l3 : x3 < 256 := by rw [hx3]; exact (b.getD (4 * k + 3) 0).toNat_lt
      have c0 := hcb wr.drew hbd (4 * k) (by omega)
      have c1 := hcb wr.drew hbd (4 * k + 1) (by omega)
      have c2 := hcb wr.drew hbd (4 * k + 2) (by omega)
      have c3 := hcb wr.drew hbd (4 * k + 3) (by omega)
      have hbe := be_val b k
      rw [← hx0, ← hx1, ← hx2, ← hx3] at hbe
      rw [← hx0] at c0
      rw [← hx1] at c1
      rw [show ad.add (4 * k + 1) = ⟨ad.block, ad.off + (4 * k + 1), none⟩ from by simp [Addr.add]] at c1
      rw [← hx2] at c2
      rw [show ad.add (4 * k + 2) = ⟨ad.block, ad.off + (4 * k + 2), none⟩ from by simp [Addr.add]] at c2
      rw [← hx3] at c3
      rw [show ad.add (4 * k + 3) = ⟨ad.block, ad.off + (4 * k + 3), none⟩ from by simp [Addr.add]] at c3
      clear hx0 hx1 hx2 hx3
      have Hbe := Lib.hid hbe
      clear hbe
      have hset : Hid ((schC (Sha.sch b k)).setIfInBounds k (.int .u32 (W (Sha.be b k))) = schC (Sha.sch b (k + 1))) := sch_set b k (by omega) _ (by unfold Sha.nextw; rw [if_pos h16])
      have hgd := (hd.block _ (lt_of_heap hg)).trans hg
      have hxk : wr.drew.cell? ⟨w.heap.size, k, none⟩ = some (.int .u32 0) := (cell_of_row wr.drew _ k _ _ _ hgd).trans (sch_at0 b k (by omega))
      have hfk : wr.drew.frozen? ⟨w.heap.size, k, none⟩ = false := frozen_of_row wr.drew _ _ _ _ hgd
      have w0 : IntKind.i64.wrap (4 * (k : Int)) = 4 * (k : Int) := by simp [IntKind.wrap, IntKind.bits, IntKind.signed]; omega
      have w1 : IntKind.i64.wrap (4 * (k : Int) + 1) = 4 * (k : Int) + 1 := by simp [IntKind.wrap, IntKind.bits, IntKind.signed]; omega
      have w2 : IntKind.i64.wrap (4 * (k : Int) + 2) = 4 * (k : Int) + 2 := by simp [IntKind.wrap, IntKind.bits, IntKind.signed]; omega
      have w3 : IntKind.i64.wrap (4 * (k : Int) + 3) = 4 * (k : Int) + 3 := by simp [IntKind.wrap, IntKind.bits, IntKind.signed]; omega
      have b3 : 4 * (k : Int) + 3 < 64 := by omega
      have b2 : 4 * (k : Int) + 2 < 64 := by omega
      have b1 : 4 * (k : Int) + 1 < 64 := by omega
      have b0 : 4 * (k : Int) < 64 := by omega
      have n3 : (0 : Int) ≤ 4 * (k : Int) + 3 := by omega
      have n2 : (0 : Int) ≤ 4 * (k : Int) + 2 := by omega
      have n1 : (0 : Int) ≤ 4 * (k : Int) + 1 := by omega
      have n0 : (0 : Int) ≤ 4 * (k : Int) := by omega
      have t3 : (4 * (k : Int) + 3).toNat = 4 * k + 3 := by omega
      have t2 : (4 * (k : Int) + 2).toNat = 4 * k + 2 := by omega
      have t1 : (4 * (k : Int) + 1).toNat = 4 * k + 1 := by omega
      have t0 : (4 * (k : Int)).toNat = 4 * k := by omega
      have hk64 : (k : Int) < 64 := by omega
      have v0 : IntKind.u32.wrap (x0 : Int) = (x0 : Int) := by rw [IntKind.wrap_u32']; omega
      have v1 : IntKind.u32.wrap (x1 : Int) = (x1 : Int) := by rw [IntKind.wrap_u32']; omega
      have v2 : IntKind.u32.wrap (x2 : Int) = (x2 : Int) := by rw [IntKind.wrap_u32']; omega
      have v3 : IntKind.u32.wrap (x3 : Int) = (x3 : Int) := by rw [IntKind.wrap_u32']; omega
      go_wp2_with fail
      refine rg_start (by kernel_rfl) ?_
      refine rg_take 0 rfl (by kernel_rfl) (by kernel_rfl) (by kernel_rfl) (fun _ _ _ _ h => h) (by rfl) ⟨_, fun w' hx => by (go_simp <;> with_reducible rfl), ?_⟩
      simp only [Act.put, List.setIfInBounds_toArray, List.set_cons_zero, List.set_cons_succ]
      refine rg_take 1 rfl (by kernel_rfl) (by kernel_rfl) (by kernel_rfl) (fun _ _ _ _ h => h) (by rfl) ⟨_, fun w' hx => by (go_simp <;> with_reducible rfl), ?_⟩
      simp only [Act.put, List.setIfInBounds_toArray, List.set_cons_zero, List.set_cons_succ]
      refine rg_take 2 rfl (by kernel_rfl) (by kernel_rfl) (by kernel_rfl) (fun _ _ _ _ h => h) (by rfl) ⟨_, fun w' hx => by (go_simp <;> with_reducible rfl), ?_⟩
      simp only [Act.put, List.setIfInBounds_toArray, List.set_cons_zero, List.set_cons_succ]
      refine rg_take 3 rfl (by kernel_rfl) (by kernel_rfl) (by kernel_rfl) (fun _ _ _ _ h => h) (by rfl) ⟨_, fun w' hx => by (go_simp <;> with_reducible rfl), ?_⟩
      simp only [Act.put, List.setIfInBounds_toArray, List.set_cons_zero, List.set_cons_succ]
      refine rg_take 4 rfl (by kernel_rfl) (by kernel_rfl) (by kernel_rfl) (fun _ _ _ _ h => h) (by rfl) ⟨_, fun w' hx => by (go_simp <;> with_reducible rfl), ?_⟩   -- t28 := binOp mul 3 4:i64 t27 3
      simp only [Act.put, List.setIfInBounds_toArray, List.set_cons_zero, List.set_cons_succ]
      refine rg_take 5 rfl (by kernel_rfl) (by kernel_rfl) (by kernel_rfl) (fun _ _ _ _ h => h) (by rfl) ⟨_, fun w' hx => by (go_simp <;> with_reducible rfl), ?_⟩   -- t29 := indexAddr 22 t26 t28
      simp only [Act.put, List.setIfInBounds_toArray, List.set_cons_zero, List.set_cons_succ]
      refine rg_take 6 rfl (by kernel_rfl) (by kernel_rfl) (by kernel_rfl) (fun _ _ _ _ h => h) (by rfl) ⟨_, fun w' hx => by have hcx := hx.load c0; (go_simp <;> with_reducible rfl), ?_⟩
      simp only [Act.put, List.setIfInBounds_toArray, List.set_cons_zero, List.set_cons_succ]
      refine rg_take 7 rfl (by kernel_rfl) (by kernel_rfl) (by kernel_rfl) (fun _ _ _ _ h => h) (by rfl) ⟨.int .u32 (x0 : Int), fun w' hx => by (go_simp <;> first | rfl | exact v0), ?_⟩
      simp only [Act.put, List.setIfInBounds_toArray, List.set_cons_zero, List.set_cons_succ]
      refine rg_take 8 rfl (by kernel_rfl) (by kernel_rfl) (by kernel_rfl) (fun _ _ _ _ h => h) (by rfl) ⟨.int .u32 ((16777216 * x0 : Nat) : Int), fun w' hx => by (go_simp <;> (rw [IntKind.wrap_u32']; omega)), ?_⟩
      simp only [Act.put, List.setIfInBounds_toArray, List.set_cons_zero, List.set_cons_succ]
      refine rg_take 9 rfl (by kernel_rfl) (by kernel_rfl) (by kernel_rfl) (fun _ _ _ _ h => h) (by rfl) ⟨_, fun w' hx => by (go_simp <;> with_reducible rfl), ?_⟩
      simp only [Act.put, List.setIfInBounds_toArray, List.set_cons_zero, List.set_cons_succ]
      refine rg_take 10 rfl (by kernel_rfl) (by kernel_rfl) (by kernel_rfl) (fun _ _ _ _ h => h) (by rfl) ⟨_, fun w' hx => by (go_simp <;> with_reducible rfl), ?_⟩
      simp only [Act.put, List.setIfInBounds_toArray, List.set_cons_zero, List.set_cons_succ]
      refine rg_take 11 rfl (by kernel_rfl) (by kernel_rfl) (by kernel_rfl) (fun _ _ _ _ h => h) (by rfl) ⟨_, fun w' hx => by (go_simp <;> with_reducible rfl), ?_⟩   -- t35 := binOp mul 3 4:i64 t34 3
      simp only [Act.put, List.setIfInBounds_toArray, List.set_cons_zero, List.set_cons_succ]
      refine rg_take 12 rfl (by kernel_rfl) (by kernel_rfl) (by kernel_rfl) (fun _ _ _ _ h => h) (by rfl) ⟨_, fun w' hx => by (go_simp <;> with_reducible rfl), ?_⟩   -- t36 := binOp add 3 t35 1:i64 3
      simp only [Act.put, List.setIfInBounds_toArray, List.set_cons_zero, List.set_cons_succ]
      refine rg_take 13 rfl (by kernel_rfl) (by kernel_rfl) (by kernel_rfl) (fun _ _ _ _ h => h) (by rfl) ⟨_, fun w' hx => by (go_simp <;> with_reducible rfl), ?_⟩   -- t37 := indexAddr 22 t33 t36
      simp only [Act.put, List.setIfInBounds_toArray, List.set_cons_zero, List.set_cons_succ]
      refine rg_take 14 rfl (by kernel_rfl) (by kernel_rfl) (by kernel_rfl) (fun _ _ _ _ h => h) (by rfl) ⟨_, fun w' hx => by have hcx := hx.load c1; (go_simp <;> with_reducible rfl), ?_⟩
      simp only [Act.put, List.setIfInBounds_toArray, List.set_cons_zero, List.set_cons_succ]
      refine rg_take 15 rfl (by kernel_rfl) (by kernel_rfl) (by kernel_rfl) (fun _ _ _ _ h => h) (by rfl) ⟨.int .u32 (x1 : Int), fun w' hx => by (go_simp <;> first | rfl | exact v1), ?_⟩
      simp only [Act.put, List.setIfInBounds_toArray, List.set_cons_zero, List.set_cons_succ]
      refine rg_take 16 rfl (by kernel_rfl) (by kernel_rfl) (by kernel_rfl) (fun _ _ _ _ h => h) (by rfl) ⟨.int .u32 ((65536 * x1 : Nat) : Int), fun w' hx => by (go_simp <;> (rw [IntKind.wrap_u32']; omega)), ?_⟩
      simp only [Act.put, List.setIfInBounds_toArray, List.set_cons_zero, List.set_cons_succ]
      refine rg_take 17 rfl (by kernel_rfl) (by kernel_rfl) (by kernel_rfl) (fun _ _ _ _ h => h) (by rfl) ⟨.int .u32 ((16777216 * x0 + 65536 * x1 : Nat) : Int), fun w' hx => by (go_simp <;> exact or_a x0 x1 l0 l1), ?_⟩
      simp only [Act.put, List.setIfInBounds_toArray, List.set_cons_zero, List.set_cons_succ]
      refine rg_take 18 rfl (by kernel_rfl) (by kernel_rfl) (by kernel_rfl) (fun _ _ _ _ h => h) (by rfl) ⟨_, fun w' hx => by (go_simp <;> with_reducible rfl), ?_⟩
      simp only [Act.put, List.setIfInBounds_toArray, List.set_cons_zero, List.set_cons_succ]
      refine rg_take 19 rfl (by kernel_rfl) (by kernel_rfl) (by kernel_rfl) (fun _ _ _ _ h => h) (by rfl) ⟨_, fun w' hx => by (go_simp <;> with_reducible rfl), ?_⟩
      simp only [Act.put, List.setIfInBounds_toArray, List.set_cons_zero, List.set_cons_succ]
      refine rg_take 20 rfl (by kernel_rfl) (by kernel_rfl) (by kernel_rfl) (fun _ _ _ _ h => h) (by rfl) ⟨_, fun w' hx => by (go_simp <;> with_reducible rfl), ?_⟩   -- t44 := binOp mul 3 4:i64 t43 3
      simp only [Act.put, List.setIfInBounds_toArray, List.set_cons_zero, List.set_cons_succ]
      refine rg_take 21 rfl (by kernel_rfl) (by kernel_rfl) (by kernel_rfl) (fun _ _ _ _ h => h) (by rfl) ⟨_, fun w' hx => by (go_simp <;> with_reducible rfl), ?_⟩   -- t45 := binOp add 3 t44 2:i64 3
      simp only [Act.put, List.setIfInBounds_toArray, List.set_cons_zero, List.set_cons_succ]
      refine rg_take 22 rfl (by kernel_rfl) (by kernel_rfl) (by kernel_rfl) (fun _ _ _ _ h => h) (by rfl) ⟨_, fun w' hx => by (go_simp <;> with_reducible rfl), ?_⟩   -- t46 := indexAddr 22 t42 t45
      simp only [Act.put, List.setIfInBounds_toArray, List.set_cons_zero, List.set_cons_succ]
      refine rg_take 23 rfl (by kernel_rfl) (by kernel_rfl) (by kernel_rfl) (fun _ _ _ _ h => h) (by rfl) ⟨_, fun w' hx => by have hcx := hx.load c2; (go_simp <;> with_reducible rfl), ?_⟩
      simp only [Act.put, List.setIfInBounds_toArray, List.set_cons_zero, List.set_cons_succ]
      refine rg_take 24 rfl (by kernel_rfl) (by kernel_rfl) (by kernel_rfl) (fun _ _ _ _ h => h) (by rfl) ⟨.int .u32 (x2 : Int), fun w' hx => by (go_simp <;> first | rfl | exact v2), ?_⟩
      simp only [Act.put, List.setIfInBounds_toArray, List.set_cons_zero, List.set_cons_succ]
      refine rg_take 25 rfl (by kernel_rfl) (by kernel_rfl) (by kernel_rfl) (fun _ _ _ _ h => h) (by rfl) ⟨.int .u32 ((256 * x2 : Nat) : Int), fun w' hx => by (go_simp <;> (rw [IntKind.wrap_u32']; omega)), ?_⟩
      simp only [Act.put, List.setIfInBounds_toArray, List.set_cons_zero, List.set_cons_succ]
      refine rg_take 26 rfl (by kernel_rfl) (by kernel_rfl) (by kernel_rfl) (fun _ _ _ _ h => h) (by rfl) ⟨.int .u32 ((16777216 * x0 + 65536 * x1 + 256 * x2 : Nat) : Int), fun w' hx => by (go_simp <;> exact or_b x0 x1 x2 l0 l1 l2), ?_⟩
      simp only [Act.put, List.setIfInBounds_toArray, List.set_cons_zero, List.set_cons_succ]
      refine rg_take 27 rfl (by kernel_rfl) (by kernel_rfl) (by kernel_rfl) (fun _ _ _ _ h => h) (by rfl) ⟨_, fun w' hx => by (go_simp <;> with_reducible rfl), ?_⟩
      simp only [Act.put, List.setIfInBounds_toArray, List.set_cons_zero, List.set_cons_succ]
      refine rg_take 28 rfl (by kernel_rfl) (by kernel_rfl) (by kernel_rfl) (fun _ _ _ _ h => h) (by rfl) ⟨_, fun w' hx => by (go_simp <;> with_reducible rfl), ?_⟩
      simp only [Act.put, List.setIfInBounds_toArray, List.set_cons_zero, List.set_cons_succ]
      refine rg_take 29 rfl (by kernel_rfl) (by kernel_rfl) (by kernel_rfl) (fun _ _ _ _ h => h) (by rfl) ⟨_, fun w' hx => by (go_simp <;> with_reducible rfl), ?_⟩   -- t53 := binOp mul 3 4:i64 t52 3
      simp only [Act.put, List.setIfInBounds_toArray, List.set_cons_zero, List.set_cons_succ]
      refine rg_take 30 rfl (by kernel_rfl) (by kernel_rfl) (by kernel_rfl) (fun _ _ _ _ h => h) (by rfl) ⟨_, fun w' hx => by (go_simp <;> with_reducible rfl), ?_⟩   -- t54 := binOp add 3 t53 3:i64 3
      simp only [Act.put, List.setIfInBounds_toArray, List.set_cons_zero, List.set_cons_succ]
      refine rg_take 31 rfl (by kernel_rfl) (by kernel_rfl) (by kernel_rfl) (fun _ _ _ _ h => h) (by rfl) ⟨_, fun w' hx => by (go_simp <;> with_reducible rfl), ?_⟩   -- t55 := indexAddr 22 t51 t54
      simp only [Act.put, List.setIfInBounds_toArray, List.set_cons_zero, List.set_cons_succ]
      refine rg_take 32 rfl (by kernel_rfl) (by kernel_rfl) (by kernel_rfl) (fun _ _ _ _ h => h) (by rfl) ⟨_, fun w' hx => by have hcx := hx.load c3; (go_simp <;> with_reducible rfl), ?_⟩
      simp only [Act.put, List.setIfInBounds_toArray, List.set_cons_zero, List.set_cons_succ]
      refine rg_take 33 rfl (by kernel_rfl) (by kernel_rfl) (by kernel_rfl) (fun _ _ _ _ h => h) (by rfl) ⟨.int .u32 (x3 : Int), fun w' hx => by (go_simp <;> first | rfl | exact v3), ?_⟩
      simp only [Act.put, List.setIfInBounds_toArray, List.set_cons_zero, List.set_cons_succ]
      refine rg_take 34 rfl (by kernel_rfl) (by kernel_rfl) (by kernel_rfl) (fun _ _ _ _ h => h) (by rfl) ⟨.int .u32 (W (Sha.be b k)), fun w' hx => by (go_simp <;> exact (or_c x0 x1 x2 x3 l0 l1 l2 l3).trans Hbe.out), ?_⟩
      simp only [Act.put, List.setIfInBounds_toArray, List.set_cons_zero, List.set_cons_succ]
      refine rg_take 35 rfl (by kernel_rfl) (by kernel_rfl) (by kernel_rfl) (fun _ _ _ _ h => h) (by rfl) ⟨_, fun w' hx => by (go_simp <;> with_reducible rfl), ?_⟩   -- t59 := indexAddr 45 t24 t25
      simp only [Act.put, List.setIfInBounds_toArray, List.set_cons_zero, List.set_cons_succ]
      refine rg_store 36 rfl (by kernel_rfl) (by kernel_rfl) (by rfl) ⟨wr.drew.setCell ⟨w.heap.size, k, none⟩ (.int .u32 (W (Sha.be b k))), by (go_simp <;> first | rfl | exact ⟨rfl, rfl⟩), ?_⟩
      simp only [Act.put]
      refine rg_done (by kernel_rfl) ?_
      have hn1 := heap_setCell_same wr.drew w.heap.size k _ _ (.int .u32 (W (Sha.be b k))) hgd
      rw [hset.out] at hn1
      have hn2 := hB.drew.setCell (p := ⟨w.heap.size, k, none⟩) (Nat.le_refl _) (.int .u32 (W (Sha.be b k)))
      go_wp2_with fail
      go_roundw
      case rel => exact ⟨k + 1, by omega, by go_num, hn1, hn2⟩
      case measure => simp [intOf]; omega
    · obtain rfl : k = 16 := by omega
      rw [show (((16 : Nat)) : Int) = 16 from rfl]
      go_wp2_with fail
      go_loopw [7] (fun i wr => ∃ k : Nat, 16 ≤ k ∧ k ≤ 64 ∧ i = .int .i64 k ∧ wr.heap[w.heap.size]? = some (.cells (schC (Sha.sch b k)) 29 (0, 0)) ∧ Below w.heap.size w wr) (fun i _ => 64 - (intOf i).toNat)
      case atStart => exact ⟨16, by omega, by omega, rfl, hg, hB⟩
      case round =>
        clear hg hB
        obtain ⟨k, hk1, hk2, rfl, hg, hB⟩ := hrel
        by_cases h64 : k < 64
        · have hgd := ((Ext.drew wr).block _ (lt_of_heap hg)).trans hg
          have hx2 : wr.drew.cell? ⟨w.heap.size, k - 2, none⟩ = some (.int .u32 (W ((Sha.sch b k).getD (k - 2) 0))) := (cell_of_row wr.drew _ (k - 2) _ _ _ hgd).trans (sch_at b k (k - 2) (by omega))
          have hx15 : wr.drew.cell? ⟨w.heap.size, k - 15, none⟩ = some (.int .u32 (W ((Sha.sch b k).getD (k - 15) 0))) := (cell_of_row wr.drew _ (k - 15) _ _ _ hgd).trans (sch_at b k (k - 15) (by omega))
          obtain ⟨x, hx⟩ : ∃ x, x = (Sha.sch b k).getD (k - 2) 0 := ⟨_, rfl⟩
          obtain ⟨y, hy⟩ : ∃ y, y = (Sha.sch b k).getD (k - 15) 0 := ⟨_, rfl⟩
          rw [← hx] at hx2
          rw [← hy] at hx15
          obtain ⟨x7, hx7⟩ : ∃ x, x = (Sha.sch b k).getD (k - 7) 0 := ⟨_, rfl⟩
          obtain ⟨x16, hx16⟩ : ∃ x, x = (Sha.sch b k).getD (k - 16) 0 := ⟨_, rfl⟩
          have hnx : Sha.nextw b k (Sha.sch b k) = Sha.small1 x + x7 + Sha.small0 y + x16 := by unfold Sha.nextw; rw [if_neg (by omega), hx, hy, hx7, hx16]
          have hset : Hid ((schC (Sha.sch b k)).setIfInBounds k (.int .u32 (W (Sha.small1 x + x7 + Sha.small0 y + x16))) = schC (Sha.sch b (k + 1))) := by show _ = _; rw [← hnx]; exact sch_set b k h64 _ rfl
          have hw2 : IntKind.i64.wrap ((k : Int) - 2) = ((k - 2 : Nat) : Int) := by simp [IntKind.wrap, IntKind.bits, IntKind.signed]; omega
          have hw15 : IntKind.i64.wrap ((k : Int) - 15) = ((k - 15 : Nat) : Int) := by simp [IntKind.wrap, IntKind.bits, IntKind.signed]; omega
          have hl2 : ((k - 2 : Nat) : Int) < 64 := by omega
          have hl15 : ((k - 15 : Nat) : Int) < 64 := by omega
          have hp2 : (0 : Int) ≤ ((k - 2 : Nat) : Int) := by omega
          have hp15 : (0 : Int) ≤ ((k - 15 : Nat) : Int) := by omega
          have Hx7 := Lib.hid hx7
          have Hx16 := Lib.hid hx16
          clear hx hy hx7 hx16 hnx
          go_wp2_with fail
          refine rg_start (by kernel_rfl) ?_
          refine rg_take 0 rfl (by kernel_rfl) (by kernel_rfl) (by kernel_rfl) (fun _ _ _ _ h => h) (by rfl) ⟨_, fun w' hx => by (go_simp <;> with_reducible rfl), ?_⟩
          simp only [Act.put, List.setIfInBounds_toArray, List.set_cons_zero, List.set_cons_succ]
          refine rg_take 1 rfl (by kernel_rfl) (by kernel_rfl) (by kernel_rfl) (fun _ _ _ _ h => h) (by rfl) ⟨_, fun w' hx => by (go_simp <;> with_reducible rfl), ?_⟩
          simp only [Act.put, List.setIfInBounds_toArray, List.set_cons_zero, List.set_cons_succ]
          refine rg_take 2 rfl (by kernel_rfl) (by kernel_rfl) (by kernel_rfl) (fun _ _ _ _ h => h) (by rfl) ⟨_, fun w' hx => by (go_simp <;> with_reducible rfl), ?_⟩   -- t66 := binOp sub 3 t65 2:i64 3
          simp only [Act.put, List.setIfInBounds_toArray, List.set_cons_zero, List.set_cons_succ]
          refine rg_take 3 rfl (by kernel_rfl) (by kernel_rfl) (by kernel_rfl) (fun _ _ _ _ h => h) (by rfl) ⟨_, fun w' hx => by (go_simp <;> with_reducible rfl), ?_⟩   -- t67 := indexAddr 45 t64 t66
          simp only [Act.put, List.setIfInBounds_toArray, List.set_cons_zero, List.set_cons_succ]
          refine rg_take 4 rfl (by kernel_rfl) (by kernel_rfl) (by kernel_rfl) (fun _ _ _ _ h => h) (by rfl) ⟨_, fun w' hx => by have hcx := hx.load hx2; (go_simp <;> with_reducible rfl), ?_⟩
          simp only [Act.put, List.setIfInBounds_toArray, List.set_cons_zero, List.set_cons_succ]
          refine rg_take 5 rfl (by kernel_rfl) (by kernel_rfl) (by kernel_rfl) (fun _ _ _ _ h => h) (by rfl) ⟨_, fun w' hx => by (go_simp <;> with_reducible rfl), ?_⟩
          simp only [Act.put, List.setIfInBounds_toArray, List.set_cons_zero, List.set_cons_succ]
          refine rg_take 6 rfl (by kernel_rfl) (by kernel_rfl) (by kernel_rfl) (fun _ _ _ _ h => h) (by rfl) ⟨_, fun w' hx => by (go_simp <;> with_reducible rfl), ?_⟩
          simp only [Act.put, List.setIfInBounds_toArray, List.set_cons_zero, List.set_cons_succ]
          refine rg_take 7 rfl (by kernel_rfl) (by kernel_rfl) (by kernel_rfl) (fun _ _ _ _ h => h) (by rfl) ⟨_, fun w' hx => by (go_simp <;> with_reducible rfl), ?_⟩   -- t71 := binOp sub 3 t70 15:i64 3
          simp only [Act.put, List.setIfInBounds_toArray, List.set_cons_zero, List.set_cons_succ]
          refine rg_take 8 rfl (by kernel_rfl) (by kernel_rfl) (by kernel_rfl) (fun _ _ _ _ h => h) (by rfl) ⟨_, fun w' hx => by (go_simp <;> with_reducible rfl), ?_⟩   -- t72 := indexAddr 45 t69 t71
          simp only [Act.put, List.setIfInBounds_toArray, List.set_cons_zero, List.set_cons_succ]
          refine rg_take 9 rfl (by kernel_rfl) (by kernel_rfl) (by kernel_rfl) (fun _ _ _ _ h => h) (by rfl) ⟨_, fun w' hx => by have hcx := hx.load hx15; (go_simp <;> with_reducible rfl), ?_⟩
          simp only [Act.put, List.setIfInBounds_toArray, List.set_cons_zero, List.set_cons_succ]
          refine rg_take 10 rfl (by kernel_rfl) (by kernel_rfl) (by kernel_rfl) (fun _ _ _ _ h => h) (by rfl) ⟨_, fun w' hx => by (go_simp <;> with_reducible rfl), ?_⟩
          simp only [Act.put, List.setIfInBounds_toArray, List.set_cons_zero, List.set_cons_succ]
          refine rg_take 11 rfl (by kernel_rfl) (by kernel_rfl) (by kernel_rfl) (fun _ _ _ _ h => h) (by rfl) ⟨_, fun w' hx => by (go_simp <;> with_reducible rfl), ?_⟩
          simp only [Act.put, List.setIfInBounds_toArray, List.set_cons_zero, List.set_cons_succ]
          refine rg_done (by kernel_rfl) ?_
          obtain ⟨W1, hW1⟩ : ∃ W1, W1 = wr.drew := ⟨_, rfl⟩
          rw [← hW1] at hgd ⊢
          have hB1 : Below w.heap.size w W1 := by rw [hW1]; exact hB.drew
          clear hx2 hx15 hw2 hw15 hl2 hl15 hp2 hp15 hW1 hg hB
          have hw7 : IntKind.i64.wrap ((k : Int) - 7) = ((k - 7 : Nat) : Int) := by simp [IntKind.wrap, IntKind.bits, IntKind.signed]; omega
          have hw16 : IntKind.i64.wrap ((k : Int) - 16) = ((k - 16 : Nat) : Int) := by simp [IntKind.wrap, IntKind.bits, IntKind.signed]; omega
          have hl7 : ((k - 7 : Nat) : Int) < 64 := by omega
          have hl16 : ((k - 16 : Nat) : Int) < 64 := by omega
          have hlk : (k : Int) < 64 := by omega
          have hp7 : (0 : Int) ≤ ((k - 7 : Nat) : Int) := by omega
          have hp16 : (0 : Int) ≤ ((k - 16 : Nat) : Int) := by omega
          have hg2 := ((Ext.drew W1).block _ (lt_of_heap hgd)).trans hgd
          have q7 : W1.drew.cell? ⟨w.heap.size, k - 7, none⟩ = some (.int .u32 (W x7)) := by rw [Hx7.out]; exact (cell_of_row W1.drew _ (k - 7) _ _ _ hg2).trans (sch_at b k (k - 7) (by omega))
          have q16 : W1.drew.cell? ⟨w.heap.size, k - 16, none⟩ = some (.int .u32 (W x16)) := by rw [Hx16.out]; exact (cell_of_row W1.drew _ (k - 16) _ _ _ hg2).trans (sch_at b k (k - 16) (by omega))
          go_wp2_with fail
          refine rg_start (by kernel_rfl) ?_
          refine rg_take 0 rfl (by kernel_rfl) (by kernel_rfl) (by kernel_rfl) (fun _ _ _ _ h => h) (by rfl) ⟨_, fun w' hx => by (go_simp <;> with_reducible rfl), ?_⟩
          simp only [Act.put, List.setIfInBounds_toArray, List.set_cons_zero, List.set_cons_succ]
          refine rg_take 1 rfl (by kernel_rfl) (by kernel_rfl) (by kernel_rfl) (fun _ _ _ _ h => h) (by rfl) ⟨_, fun w' hx => by (go_simp <;> with_reducible rfl), ?_⟩
          simp only [Act.put, List.setIfInBounds_toArray, List.set_cons_zero, List.set_cons_succ]
          refine rg_take 2 rfl (by kernel_rfl) (by kernel_rfl) (by kernel_rfl) (fun _ _ _ _ h => h) (by rfl) ⟨_, fun w' hx => by (go_simp <;> with_reducible rfl), ?_⟩
          simp only [Act.put, List.setIfInBounds_toArray, List.set_cons_zero, List.set_cons_succ]
          refine rg_take 4 rfl (by kernel_rfl) (by kernel_rfl) (by kernel_rfl) (fun _ _ _ _ h => h) (by rfl) ⟨_, fun w' hx => by (go_simp <;> with_reducible rfl), ?_⟩
          simp only [Act.put, List.setIfInBounds_toArray, List.set_cons_zero, List.set_cons_succ]
          refine rg_take 7 rfl (by kernel_rfl) (by kernel_rfl) (by kernel_rfl) (fun _ _ _ _ h => h) (by rfl) ⟨_, fun w' hx => by (go_simp <;> with_reducible rfl), ?_⟩
          simp only [Act.put, List.setIfInBounds_toArray, List.set_cons_zero, List.set_cons_succ]
          refine rg_take 8 rfl (by kernel_rfl) (by kernel_rfl) (by kernel_rfl) (fun _ _ _ _ h => h) (by rfl) ⟨_, fun w' hx => by (go_simp <;> with_reducible rfl), ?_⟩   -- t82 := binOp shr 44 t81 10:u64 56
          simp only [Act.put, List.setIfInBounds_toArray, List.set_cons_zero, List.set_cons_succ]
          refine rg_take 10 rfl (by kernel_rfl) (by kernel_rfl) (by kernel_rfl) (fun _ _ _ _ h => h) (by rfl) ⟨_, fun w' hx => by (go_simp <;> with_reducible rfl), ?_⟩
          simp only [Act.put, List.setIfInBounds_toArray, List.set_cons_zero, List.set_cons_succ]
          refine rg_take 11 rfl (by kernel_rfl) (by kernel_rfl) (by kernel_rfl) (fun _ _ _ _ h => h) (by rfl) ⟨_, fun w' hx => by (go_simp <;> with_reducible rfl), ?_⟩
          simp only [Act.put, List.setIfInBounds_toArray, List.set_cons_zero, List.set_cons_succ]
          refine rg_take 12 rfl (by kernel_rfl) (by kernel_rfl) (by kernel_rfl) (fun _ _ _ _ h => h) (by rfl) ⟨_, fun w' hx => by (go_simp <;> with_reducible rfl), ?_⟩   -- t86 := binOp sub 3 t85 7:i64 3
          simp only [Act.put, List.setIfInBounds_toArray, List.set_cons_zero, List.set_cons_succ]
          refine rg_take 13 rfl (by kernel_rfl) (by kernel_rfl) (by kernel_rfl) (fun _ _ _ _ h => h) (by rfl) ⟨_, fun w' hx => by (go_simp <;> with_reducible rfl), ?_⟩   -- t87 := indexAddr 45 t84 t86
          simp only [Act.put, List.setIfInBounds_toArray, List.set_cons_zero, List.set_cons_succ]
          refine rg_take 14 rfl (by kernel_rfl) (by kernel_rfl) (by kernel_rfl) (fun _ _ _ _ h => h) (by rfl) ⟨_, fun w' hx => by have hcx := hx.load q7; (go_simp <;> with_reducible rfl), ?_⟩
          simp only [Act.put, List.setIfInBounds_toArray, List.set_cons_zero, List.set_cons_succ]
          refine rg_take 16 rfl (by kernel_rfl) (by kernel_rfl) (by kernel_rfl) (fun _ _ _ _ h => h) (by rfl) ⟨_, fun w' hx => by (go_simp <;> with_reducible rfl), ?_⟩
          simp only [Act.put, List.setIfInBounds_toArray, List.set_cons_zero, List.set_cons_succ]
          refine rg_take 18 rfl (by kernel_rfl) (by kernel_rfl) (by kernel_rfl) (fun _ _ _ _ h => h) (by rfl) ⟨_, fun w' hx => by (go_simp <;> with_reducible rfl), ?_⟩
          simp only [Act.put, List.setIfInBounds_toArray, List.set_cons_zero, List.set_cons_succ]
          refine rg_take 21 rfl (by kernel_rfl) (by kernel_rfl) (by kernel_rfl) (fun _ _ _ _ h => h) (by rfl) ⟨_, fun w' hx => by (go_simp <;> with_reducible rfl), ?_⟩
          simp only [Act.put, List.setIfInBounds_toArray, List.set_cons_zero, List.set_cons_succ]
          refine rg_take 22 rfl (by kernel_rfl) (by kernel_rfl) (by kernel_rfl) (fun _ _ _ _ h => h) (by rfl) ⟨_, fun w' hx => by (go_simp <;> with_reducible rfl), ?_⟩   -- t96 := binOp shr 44 t95 3:u64 56
          simp only [Act.put, List.setIfInBounds_toArray, List.set_cons_zero, List.set_cons_succ]
          refine rg_take 25 rfl (by kernel_rfl) (by kernel_rfl) (by kernel_rfl) (fun _ _ _ _ h => h) (by rfl) ⟨_, fun w' hx => by (go_simp <;> with_reducible rfl), ?_⟩
          simp only [Act.put, List.setIfInBounds_toArray, List.set_cons_zero, List.set_cons_succ]
          refine rg_take 26 rfl (by kernel_rfl) (by kernel_rfl) (by kernel_rfl) (fun _ _ _ _ h => h) (by rfl) ⟨_, fun w' hx => by (go_simp <;> with_reducible rfl), ?_⟩
          simp only [Act.put, List.setIfInBounds_toArray, List.set_cons_zero, List.set_cons_succ]
          refine rg_take 27 rfl (by kernel_rfl) (by kernel_rfl) (by kernel_rfl) (fun _ _ _ _ h => h) (by rfl) ⟨_, fun w' hx => by (go_simp <;> with_reducible rfl), ?_⟩   -- t101 := binOp sub 3 t100 16:i64 3
          simp only [Act.put, List.setIfInBounds_toArray, List.set_cons_zero, List.set_cons_succ]
          refine rg_take 28 rfl (by kernel_rfl) (by kernel_rfl) (by kernel_rfl) (fun _ _ _ _ h => h) (by rfl) ⟨_, fun w' hx => by (go_simp <;> with_reducible rfl), ?_⟩   -- t102 := indexAddr 45 t99 t101
          simp only [Act.put, List.setIfInBounds_toArray, List.set_cons_zero, List.set_cons_succ]
          refine rg_take 29 rfl (by kernel_rfl) (by kernel_rfl) (by kernel_rfl) (fun _ _ _ _ h => h) (by rfl) ⟨_, fun w' hx => by have hcx := hx.load q16; (go_simp <;> with_reducible rfl), ?_⟩
          simp only [Act.put, List.setIfInBounds_toArray, List.set_cons_zero, List.set_cons_succ]
          refine rg_call 3 (turn_any x 17 (by omega) (by omega) _) rfl (by kernel_rfl) (by rfl) (by go_simp) ?_
          rintro e w3 ⟨rfl, hb3⟩
          refine ⟨_, rfl, hb3, ?_⟩
          simp only [Act.put, List.setIfInBounds_toArray, List.set_cons_zero, List.set_cons_succ]
          refine rg_call 5 (turn_any x 19 (by omega) (by omega) _) rfl (by kernel_rfl) (by rfl) (by go_simp) ?_
          rintro e w4 ⟨rfl, hb4⟩
          refine ⟨_, rfl, hb4, ?_⟩
          simp only [Act.put, List.setIfInBounds_toArray, List.set_cons_zero, List.set_cons_succ]
          refine rg_take 6 rfl (by kernel_rfl) (by kernel_rfl) (by kernel_rfl) (fun _ _ _ _ h => h) (by rfl) ⟨_, fun w' hx => by (go_simp <;> with_reducible rfl), ?_⟩   -- t80 := binOp xor 44 t77 t79 44
          simp only [Act.put, List.setIfInBounds_toArray, List.set_cons_zero, List.set_cons_succ]
          refine rg_take 9 rfl (by kernel_rfl) (by kernel_rfl) (by kernel_rfl) (fun _ _ _ _ h => h) (by rfl) ⟨_, fun w' hx => by (go_simp <;> with_reducible rfl), ?_⟩   -- t83 := binOp xor 44 t80 t82 44
          simp only [Act.put, List.setIfInBounds_toArray, List.set_cons_zero, List.set_cons_succ]
          refine rg_take 15 rfl (by kernel_rfl) (by kernel_rfl) (by kernel_rfl) (fun _ _ _ _ h => h) (by rfl) ⟨_, fun w' hx => by (go_simp <;> with_reducible rfl), ?_⟩   -- t89 := binOp add 44 t83 t88 44
          simp only [Act.put, List.setIfInBounds_toArray, List.set_cons_zero, List.set_cons_succ]
          refine rg_call 17 (turn_any y 7 (by omega) (by omega) _) rfl (by kernel_rfl) (by rfl) (by go_simp) ?_
          rintro e w5 ⟨rfl, hb5⟩
          refine ⟨_, rfl, hb5, ?_⟩
          simp only [Act.put, List.setIfInBounds_toArray, List.set_cons_zero, List.set_cons_succ]
          refine rg_call 19 (turn_any y 18 (by omega) (by omega) _) rfl (by kernel_rfl) (by rfl) (by go_simp) ?_
          rintro e w6 ⟨rfl, hb6⟩
          refine ⟨_, rfl, hb6, ?_⟩
          simp only [Act.put, List.setIfInBounds_toArray, List.set_cons_zero, List.set_cons_succ]
          refine rg_take 20 rfl (by kernel_rfl) (by kernel_rfl) (by kernel_rfl) (fun _ _ _ _ h => h) (by rfl) ⟨_, fun w' hx => by (go_simp <;> with_reducible rfl), ?_⟩   -- t94 := binOp xor 44 t91 t93 44
          simp only [Act.put, List.setIfInBounds_toArray, List.set_cons_zero, List.set_cons_succ]
          refine rg_take 23 rfl (by kernel_rfl) (by kernel_rfl) (by kernel_rfl) (fun _ _ _ _ h => h) (by rfl) ⟨_, fun w' hx => by (go_simp <;> with_reducible rfl), ?_⟩   -- t97 := binOp xor 44 t94 t96 44
          simp only [Act.put, List.setIfInBounds_toArray, List.set_cons_zero, List.set_cons_succ]
          refine rg_take 24 rfl (by kernel_rfl) (by kernel_rfl) (by kernel_rfl) (fun _ _ _ _ h => h) (by rfl) ⟨_, fun w' hx => by (go_simp <;> with_reducible rfl), ?_⟩   -- t98 := binOp add 44 t89 t97 44
          simp only [Act.put, List.setIfInBounds_toArray, List.set_cons_zero, List.set_cons_succ]
          refine rg_take 30 rfl (by kernel_rfl) (by kernel_rfl) (by kernel_rfl) (fun _ _ _ _ h => h) (by rfl) ⟨_, fun w' hx => by (go_simp <;> with_reducible rfl), ?_⟩   -- t104 := binOp add 44 t98 t103 44
          simp only [Act.put, List.setIfInBounds_toArray, List.set_cons_zero, List.set_cons_succ]
          refine rg_take 31 rfl (by kernel_rfl) (by kernel_rfl) (by kernel_rfl) (fun _ _ _ _ h => h) (by rfl) ⟨_, fun w' hx => by (go_simp <;> with_reducible rfl), ?_⟩   -- t105 := indexAddr 45 t74 t75
          simp only [Act.put, List.setIfInBounds_toArray, List.set_cons_zero, List.set_cons_succ]
          have hE6 := Ext.tr hb3 (Ext.tr hb4 (Ext.tr hb5 hb6))
          have hg6 := (hE6.block _ (lt_of_heap hg2)).trans hg2
          have hxk : w6.cell? ⟨w.heap.size, k, none⟩ = some (.int .u32 0) := (cell_of_row w6 _ k _ _ _ hg6).trans (sch_at0 b k h64)
          have hfk : w6.frozen? ⟨w.heap.size, k, none⟩ = false := frozen_of_row w6 _ _ _ _ hg6
          refine rg_store 32 rfl (by kernel_rfl) (by kernel_rfl) (by rfl) ⟨w6.setCell ⟨w.heap.size, k, none⟩ (.int .u32 (W (Sha.small1 x + x7 + Sha.small0 y + x16))), by (go_simp <;> first | rfl | exact ⟨rfl, rfl⟩), ?_⟩
          simp only [Act.put]
          refine rg_done (by kernel_rfl) ?_
          have hn1 := heap_setCell_same w6 w.heap.size k _ _ (.int .u32 (W (Sha.small1 x + x7 + Sha.small0 y + x16))) hg6
          rw [hset.out] at hn1
          have hBd := hB1.drew
          have hn2 := (hBd.trans (hE6.mono hBd.size)).setCell (p := ⟨w.heap.size, k, none⟩) (Nat.le_refl _) (.int .u32 (W (Sha.small1 x + x7 + Sha.small0 y + x16)))
          go_wp2_with fail
          go_roundw
          case rel => exact ⟨k + 1, by omega, by omega, by go_num, hn1, hn2⟩
          case measure => simp [intOf]; omega
        · obtain rfl : k = 64 := by omega
          rw [show (((64 : Nat)) : Int) = 64 from rfl]
          have hA2 : Rd (wr.alloc (.cells #[] 29)) 1 A 8 (s.list.map wv) := (hA.below hB).below (Ext.alloc _ _)
          have hBs := hB.size
          go_wp2_with (at_builtin; refine wpList_app rfl (.tmp 106) (.tmp 107) 57 rfl elemU wr.heap.size _ 0 0 [] rfl A 8 cA (s.list.map wv) rfl 8 rfl (s.list.map wv) rfl (Own.none_ _ _ _ _ _) hA2 (list_one s) (by omega) (by omega) (by simp) ?_; intro A2 c2 w2 ho2 hgr2 hr2; have hb2 := below_app (Ext.alloc wr (.cells #[] 29)) (Own.none_ _ _ 29 1 (some ⟨wr.heap.size, 0, none⟩)) hgr2 (by simp); clear hgr2 hr2 hA2)
          refine (ref_k w2).mono ?_
          rintro e w3 ⟨rfl, hgk, hb3⟩
          have hE3 := Ext.tr hb2 hb3
          have hg3 := (hE3.block _ (lt_of_heap hg)).trans hg
          have hB3 := hB.trans (hE3.mono hBs)
          have hrd3 := (ho2.below hb3).rd
          obtain ⟨gv0, ov0, rfl⟩ : ∃ g o, A2 = some ⟨g, o, none⟩ := by
            have h1 := ho2.nc
            rcases ho2.mem with h0 | ⟨g, off, cur, h1, _⟩
            · omega
            · exact ⟨g, off, h1⟩
          have hc2 := ho2.nc
          obtain ⟨l, hl0⟩ : ∃ l, l = Sha.sch b 64 := ⟨_, rfl⟩
          have hll : l.length = 64 := by rw [hl0]; exact Sha.sch_len _ _
          rw [← hl0] at hg3
          have Hl0 := Lib.hid hl0
          have Hll := Lib.hid hll
          obtain ⟨gk, hgk0⟩ : ∃ gk, gk = w2.heap.size := ⟨_, rfl⟩
          rw [← hgk0] at hgk ⊢
          clear hl0 hll hg hB hb2 hb3 hE3 ho2 hBs hgk0
          go_wp2_with fail
          go_loopw [10, 12] (fun vs i wr => ∃ (t gv ov cv : Nat), t ≤ 64 ∧ i = .int .i64 t ∧ vs = .slice (some ⟨gv, ov, none⟩) 8 cv ∧ 8 ≤ cv ∧ Rd wr 1 (some ⟨gv, ov, none⟩) 8 ((Sha.rnds l s t).list.map wv) ∧ wr.heap[w.heap.size]? = some (.cells (schC l) 29 (0, 0)) ∧ wr.heap[gk]? = some (.cells (schC Sha.k) 29 (0, 0)) ∧ Below w.heap.size w wr) (fun _ i _ => 64 - (intOf i).toNat)
          case atStart => exact ⟨0, gv0, ov0, c2, by omega, rfl, rfl, hc2, hrd3, hg3, hgk, hB3⟩
          case round =>
            clear hrd3 hg3 hgk hB3 hc2
            obtain ⟨t, gv, ov, cv, ht, rfl, rfl, hcv, hv, hg, hgk, hB⟩ := hrel
            by_cases ht64 : t < 64
            · obtain ⟨v, hv0⟩ : ∃ v, v = Sha.rnds l s t := ⟨_, rfl⟩
              rw [← hv0] at hv
              have hnx : Sha.rnds l s (t + 1) = Sha.rnd v (Sha.k.getD t 0) (l.getD t 0) := by rw [hv0]; rfl
              have Hnx := Lib.hid hnx
              have hlt : (t : Int) < 64 := by omega
              clear hv0 hnx
              obtain ⟨X, hX⟩ : ∃ X, X = wr.drew := ⟨_, rfl⟩
              have hXv : Rd X 1 (some ⟨gv, ov, none⟩) 8 (v.list.map wv) := by rw [hX]; exact Rd.drew_' hv
              have hXg : X.heap[w.heap.size]? = some (.cells (schC l) 29 (0, 0)) := by rw [hX]; exact hg
              have hXk : X.heap[gk]? = some (.cells (schC Sha.k) 29 (0, 0)) := by rw [hX]; exact hgk
              have hXB : Below w.heap.size w X := by rw [hX]; exact hB.drew
              have p0 := cell8 hXv 0 (by omega)
              have p4 := cell8 hXv 4 (by omega)
              rw [hX] at p0 p4
              simp only [st_get, Nat.add_zero] at p0 p4
              go_wp2_with fail
              refine rg_start (by kernel_rfl) ?_
              refine rg_take 0 rfl (by kernel_rfl) (by kernel_rfl) (by kernel_rfl) (fun _ _ _ _ h => h) (by rfl) ⟨_, fun w' hx => by (go_simp <;> with_reducible rfl), ?_⟩
              simp only [Act.put, List.setIfInBounds_toArray, List.set_cons_zero, List.set_cons_succ]
              refine rg_take 1 rfl (by kernel_rfl) (by kernel_rfl) (by kernel_rfl) (fun _ _ _ _ h => h) (by rfl) ⟨_, fun w' hx => by (go_simp <;> with_reducible rfl), ?_⟩   -- t115 := indexAddr 45 t114 0:i64
              simp only [Act.put, List.setIfInBounds_toArray, List.set_cons_zero, List.set_cons_succ]
              refine rg_take 2 rfl (by kernel_rfl) (by kernel_rfl) (by kernel_rfl) (fun _ _ _ _ h => h) (by rfl) ⟨_, fun w' hx => by have hcx := hx.load p0; (go_simp <;> with_reducible rfl), ?_⟩
              simp only [Act.put, List.setIfInBounds_toArray, List.set_cons_zero, List.set_cons_succ]
              refine rg_take 3 rfl (by kernel_rfl) (by kernel_rfl) (by kernel_rfl) (fun _ _ _ _ h => h) (by rfl) ⟨_, fun w' hx => by (go_simp <;> with_reducible rfl), ?_⟩
              simp only [Act.put, List.setIfInBounds_toArray, List.set_cons_zero, List.set_cons_succ]
              refine rg_take 4 rfl (by kernel_rfl) (by kernel_rfl) (by kernel_rfl) (fun _ _ _ _ h => h) (by rfl) ⟨_, fun w' hx => by (go_simp <;> with_reducible rfl), ?_⟩   -- t118 := indexAddr 45 t117 4:i64
              simp only [Act.put, List.setIfInBounds_toArray, List.set_cons_zero, List.set_cons_succ]
              refine rg_take 5 rfl (by kernel_rfl) (by kernel_rfl) (by kernel_rfl) (fun _ _ _ _ h => h) (by rfl) ⟨_, fun w' hx => by have hcx := hx.load p4; (go_simp <;> with_reducible rfl), ?_⟩
              simp only [Act.put, List.setIfInBounds_toArray, List.set_cons_zero, List.set_cons_succ]
              refine rg_take 6 rfl (by kernel_rfl) (by kernel_rfl) (by kernel_rfl) (fun _ _ _ _ h => h) (by rfl) ⟨_, fun w' hx => by (go_simp <;> with_reducible rfl), ?_⟩
              simp only [Act.put, List.setIfInBounds_toArray, List.set_cons_zero, List.set_cons_succ]
              refine rg_take 7 rfl (by kernel_rfl) (by kernel_rfl) (by kernel_rfl) (fun _ _ _ _ h => h) (by rfl) ⟨_, fun w' hx => by (go_simp <;> with_reducible rfl), ?_⟩
              simp only [Act.put, List.setIfInBounds_toArray, List.set_cons_zero, List.set_cons_succ]
              refine rg_done (by kernel_rfl) ?_
              rw [← hX]
              clear p0 p4 hv hg hgk hB hX
              have q5 := (Ext.drew X).load (cell8 hXv 5 (by omega))
              have q6 := (Ext.drew X).load (cell8 hXv 6 (by omega))
              have q7 := (Ext.drew X).load (cell8 hXv 7 (by omega))
              have qk : X.drew.cell? ⟨gk, t, none⟩ = some (.int .u32 (W (Sha.k.getD t 0))) := (Ext.drew X).load ((cell_of_row X _ t _ _ _ hXk).trans (sch_full Sha.k rfl t ht64))
              have qw : X.drew.cell? ⟨w.heap.size, t, none⟩ = some (.int .u32 (W (l.getD t 0))) := (Ext.drew X).load ((cell_of_row X _ t _ _ _ hXg).trans (sch_full l Hll.out t ht64))
              simp only [st_get] at q5 q6 q7
              go_wp2_with fail
              refine rg_start (by kernel_rfl) ?_
              refine rg_take 0 rfl (by kernel_rfl) (by kernel_rfl) (by kernel_rfl) (fun _ _ _ _ h => h) (by rfl) ⟨_, fun w' hx => by (go_simp <;> with_reducible rfl), ?_⟩
              simp only [Act.put, List.setIfInBounds_toArray, List.set_cons_zero, List.set_cons_succ]
              refine rg_take 1 rfl (by kernel_rfl) (by kernel_rfl) (by kernel_rfl) (fun _ _ _ _ h => h) (by rfl) ⟨_, fun w' hx => by (go_simp <;> with_reducible rfl), ?_⟩   -- t121 := indexAddr 45 t120 7:i64
              simp only [Act.put, List.setIfInBounds_toArray, List.set_cons_zero, List.set_cons_succ]
              refine rg_take 2 rfl (by kernel_rfl) (by kernel_rfl) (by kernel_rfl) (fun _ _ _ _ h => h) (by rfl) ⟨_, fun w' hx => by have hcx := hx.load q7; (go_simp <;> with_reducible rfl), ?_⟩
              simp only [Act.put, List.setIfInBounds_toArray, List.set_cons_zero, List.set_cons_succ]
              refine rg_take 3 rfl (by kernel_rfl) (by kernel_rfl) (by kernel_rfl) (fun _ _ _ _ h => h) (by rfl) ⟨_, fun w' hx => by (go_simp <;> with_reducible rfl), ?_⟩
              simp only [Act.put, List.setIfInBounds_toArray, List.set_cons_zero, List.set_cons_succ]
              refine rg_take 5 rfl (by kernel_rfl) (by kernel_rfl) (by kernel_rfl) (fun _ _ _ _ h => h) (by rfl) ⟨_, fun w' hx => by (go_simp <;> with_reducible rfl), ?_⟩
              simp only [Act.put, List.setIfInBounds_toArray, List.set_cons_zero, List.set_cons_succ]
              refine rg_take 8 rfl (by kernel_rfl) (by kernel_rfl) (by kernel_rfl) (fun _ _ _ _ h => h) (by rfl) ⟨_, fun w' hx => by (go_simp <;> with_reducible rfl), ?_⟩
              simp only [Act.put, List.setIfInBounds_toArray, List.set_cons_zero, List.set_cons_succ]
              refine rg_take 12 rfl (by kernel_rfl) (by kernel_rfl) (by kernel_rfl) (fun _ _ _ _ h => h) (by rfl) ⟨_, fun w' hx => by (go_simp <;> with_reducible rfl), ?_⟩
              simp only [Act.put, List.setIfInBounds_toArray, List.set_cons_zero, List.set_cons_succ]
              refine rg_take 13 rfl (by kernel_rfl) (by kernel_rfl) (by kernel_rfl) (fun _ _ _ _ h => h) (by rfl) ⟨_, fun w' hx => by (go_simp <;> with_reducible rfl), ?_⟩
              simp only [Act.put, List.setIfInBounds_toArray, List.set_cons_zero, List.set_cons_succ]
              refine rg_take 14 rfl (by kernel_rfl) (by kernel_rfl) (by kernel_rfl) (fun _ _ _ _ h => h) (by rfl) ⟨_, fun w' hx => by (go_simp <;> with_reducible rfl), ?_⟩   -- t134 := indexAddr 45 t133 5:i64
              simp only [Act.put, List.setIfInBounds_toArray, List.set_cons_zero, List.set_cons_succ]
              refine rg_take 15 rfl (by kernel_rfl) (by kernel_rfl) (by kernel_rfl) (fun _ _ _ _ h => h) (by rfl) ⟨_, fun w' hx => by have hcx := hx.load q5; (go_simp <;> with_reducible rfl), ?_⟩
              simp only [Act.put, List.setIfInBounds_toArray, List.set_cons_zero, List.set_cons_succ]
              refine rg_take 16 rfl (by kernel_rfl) (by kernel_rfl) (by kernel_rfl) (fun _ _ _ _ h => h) (by rfl) ⟨_, fun w' hx => by (go_simp <;> with_reducible rfl), ?_⟩   -- t136 := binOp and 44 t132 t135 44
              simp only [Act.put, List.setIfInBounds_toArray, List.set_cons_zero, List.set_cons_succ]
              refine rg_take 17 rfl (by kernel_rfl) (by kernel_rfl) (by kernel_rfl) (fun _ _ _ _ h => h) (by rfl) ⟨_, fun w' hx => by (go_simp <;> with_reducible rfl), ?_⟩
              simp only [Act.put, List.setIfInBounds_toArray, List.set_cons_zero, List.set_cons_succ]
              refine rg_take 18 rfl (by kernel_rfl) (by kernel_rfl) (by kernel_rfl) (fun _ _ _ _ h => h) (by rfl) ⟨_, fun w' hx => by (go_simp <;> with_reducible rfl), ?_⟩   -- t138 := unOp xor 44 t137
              simp only [Act.put, List.setIfInBounds_toArray, List.set_cons_zero, List.set_cons_succ]
              refine rg_take 19 rfl (by kernel_rfl) (by kernel_rfl) (by kernel_rfl) (fun _ _ _ _ h => h) (by rfl) ⟨_, fun w' hx => by (go_simp <;> with_reducible rfl), ?_⟩
              simp only [Act.put, List.setIfInBounds_toArray, List.set_cons_zero, List.set_cons_succ]
              refine rg_take 20 rfl (by kernel_rfl) (by kernel_rfl) (by kernel_rfl) (fun _ _ _ _ h => h) (by rfl) ⟨_, fun w' hx => by (go_simp <;> with_reducible rfl), ?_⟩   -- t140 := indexAddr 45 t139 6:i64
              simp only [Act.put, List.setIfInBounds_toArray, List.set_cons_zero, List.set_cons_succ]
              refine rg_take 21 rfl (by kernel_rfl) (by kernel_rfl) (by kernel_rfl) (fun _ _ _ _ h => h) (by rfl) ⟨_, fun w' hx => by have hcx := hx.load q6; (go_simp <;> with_reducible rfl), ?_⟩
              simp only [Act.put, List.setIfInBounds_toArray, List.set_cons_zero, List.set_cons_succ]
              refine rg_take 22 rfl (by kernel_rfl) (by kernel_rfl) (by kernel_rfl) (fun _ _ _ _ h => h) (by rfl) ⟨_, fun w' hx => by (go_simp <;> with_reducible rfl), ?_⟩   -- t142 := binOp and 44 t138 t141 44
              simp only [Act.put, List.setIfInBounds_toArray, List.set_cons_zero, List.set_cons_succ]
              refine rg_take 23 rfl (by kernel_rfl) (by kernel_rfl) (by kernel_rfl) (fun _ _ _ _ h => h) (by rfl) ⟨_, fun w' hx => by (go_simp <;> with_reducible rfl), ?_⟩   -- t143 := binOp xor 44 t136 t142 44
              simp only [Act.put, List.setIfInBounds_toArray, List.set_cons_zero, List.set_cons_succ]
              refine rg_take 25 rfl (by kernel_rfl) (by kernel_rfl) (by kernel_rfl) (fun _ _ _ _ h => h) (by rfl) ⟨_, fun w' hx => by (go_simp <;> with_reducible rfl), ?_⟩
              simp only [Act.put, List.setIfInBounds_toArray, List.set_cons_zero, List.set_cons_succ]
              refine rg_take 26 rfl (by kernel_rfl) (by kernel_rfl) (by kernel_rfl) (fun _ _ _ _ h => h) (by rfl) ⟨_, fun w' hx => by (go_simp <;> with_reducible rfl), ?_⟩
              simp only [Act.put, List.setIfInBounds_toArray, List.set_cons_zero, List.set_cons_succ]
              refine rg_take 27 rfl (by kernel_rfl) (by kernel_rfl) (by kernel_rfl) (fun _ _ _ _ h => h) (by rfl) ⟨_, fun w' hx => by (go_simp <;> with_reducible rfl), ?_⟩   -- t147 := indexAddr 45 t145 t146
              simp only [Act.put, List.setIfInBounds_toArray, List.set_cons_zero, List.set_cons_succ]
              refine rg_take 28 rfl (by kernel_rfl) (by kernel_rfl) (by kernel_rfl) (fun _ _ _ _ h => h) (by rfl) ⟨_, fun w' hx => by have hcx := hx.load qk; (go_simp <;> with_reducible rfl), ?_⟩
              simp only [Act.put, List.setIfInBounds_toArray, List.set_cons_zero, List.set_cons_succ]
              refine rg_take 30 rfl (by kernel_rfl) (by kernel_rfl) (by kernel_rfl) (fun _ _ _ _ h => h) (by rfl) ⟨_, fun w' hx => by (go_simp <;> with_reducible rfl), ?_⟩
              simp only [Act.put, List.setIfInBounds_toArray, List.set_cons_zero, List.set_cons_succ]
              refine rg_take 31 rfl (by kernel_rfl) (by kernel_rfl) (by kernel_rfl) (fun _ _ _ _ h => h) (by rfl) ⟨_, fun w' hx => by (go_simp <;> with_reducible rfl), ?_⟩
              simp only [Act.put, List.setIfInBounds_toArray, List.set_cons_zero, List.set_cons_succ]
              refine rg_take 32 rfl (by kernel_rfl) (by kernel_rfl) (by kernel_rfl) (fun _ _ _ _ h => h) (by rfl) ⟨_, fun w' hx => by (go_simp <;> with_reducible rfl), ?_⟩   -- t152 := indexAddr 45 t150 t151
              simp only [Act.put, List.setIfInBounds_toArray, List.set_cons_zero, List.set_cons_succ]
              refine rg_take 33 rfl (by kernel_rfl) (by kernel_rfl) (by kernel_rfl) (fun _ _ _ _ h => h) (by rfl) ⟨_, fun w' hx => by have hcx := hx.load qw; (go_simp <;> with_reducible rfl), ?_⟩
              simp only [Act.put, List.setIfInBounds_toArray, List.set_cons_zero, List.set_cons_succ]
              refine rg_call 4 (turn_any v.e 6 (by omega) (by omega) _) rfl (by kernel_rfl) (by rfl) (by go_simp) ?_
              rintro e w4 ⟨rfl, hb4⟩
              refine ⟨_, rfl, hb4, ?_⟩
              simp only [Act.put, List.setIfInBounds_toArray, List.set_cons_zero, List.set_cons_succ]
              refine rg_call 6 (turn_any v.e 11 (by omega) (by omega) _) rfl (by kernel_rfl) (by rfl) (by go_simp) ?_
              rintro e w5 ⟨rfl, hb5⟩
              refine ⟨_, rfl, hb5, ?_⟩
              simp only [Act.put, List.setIfInBounds_toArray, List.set_cons_zero, List.set_cons_succ]
              refine rg_take 7 rfl (by kernel_rfl) (by kernel_rfl) (by kernel_rfl) (fun _ _ _ _ h => h) (by rfl) ⟨_, fun w' hx => by (go_simp <;> with_reducible rfl), ?_⟩   -- t127 := binOp xor 44 t124 t126 44
              simp only [Act.put, List.setIfInBounds_toArray, List.set_cons_zero, List.set_cons_succ]
              refine rg_call 9 (turn_any v.e 25 (by omega) (by omega) _) rfl (by kernel_rfl) (by rfl) (by go_simp) ?_
              rintro e w6 ⟨rfl, hb6⟩
              refine ⟨_, rfl, hb6, ?_⟩
              simp only [Act.put, List.setIfInBounds_toArray, List.set_cons_zero, List.set_cons_succ]
              refine rg_take 10 rfl (by kernel_rfl) (by kernel_rfl) (by kernel_rfl) (fun _ _ _ _ h => h) (by rfl) ⟨_, fun w' hx => by (go_simp <;> with_reducible rfl), ?_⟩   -- t130 := binOp xor 44 t127 t129 44
              simp only [Act.put, List.setIfInBounds_toArray, List.set_cons_zero, List.set_cons_succ]
              refine rg_take 11 rfl (by kernel_rfl) (by kernel_rfl) (by kernel_rfl) (fun _ _ _ _ h => h) (by rfl) ⟨_, fun w' hx => by (go_simp <;> with_reducible rfl), ?_⟩   -- t131 := binOp add 44 t122 t130 44
              simp only [Act.put, List.setIfInBounds_toArray, List.set_cons_zero, List.set_cons_succ]
              refine rg_take 24 rfl (by kernel_rfl) (by kernel_rfl) (by kernel_rfl) (fun _ _ _ _ h => h) (by rfl) ⟨_, fun w' hx => by (go_simp <;> with_reducible rfl), ?_⟩   -- t144 := binOp add 44 t131 t143 44
              simp only [Act.put, List.setIfInBounds_toArray, List.set_cons_zero, List.set_cons_succ]
              refine rg_take 29 rfl (by kernel_rfl) (by kernel_rfl) (by kernel_rfl) (fun _ _ _ _ h => h) (by rfl) ⟨_, fun w' hx => by (go_simp <;> with_reducible rfl), ?_⟩   -- t149 := binOp add 44 t144 t148 44
              simp only [Act.put, List.setIfInBounds_toArray, List.set_cons_zero, List.set_cons_succ]
              refine rg_take 34 rfl (by kernel_rfl) (by kernel_rfl) (by kernel_rfl) (fun _ _ _ _ h => h) (by rfl) ⟨_, fun w' hx => by (go_simp <;> with_reducible rfl), ?_⟩   -- t154 := binOp add 44 t149 t153 44
              simp only [Act.put, List.setIfInBounds_toArray, List.set_cons_zero, List.set_cons_succ]
              refine rg_take 35 rfl (by kernel_rfl) (by kernel_rfl) (by kernel_rfl) (fun _ _ _ _ h => h) (by rfl) ⟨_, fun w' hx => by (go_simp <;> with_reducible rfl), ?_⟩
              simp only [Act.put, List.setIfInBounds_toArray, List.set_cons_zero, List.set_cons_succ]
              refine rg_done (by kernel_rfl) ?_
              have hE6 := Ext.tr (Ext.drew X) (Ext.tr hb4 (Ext.tr hb5 hb6))
              obtain ⟨Y, hY⟩ : ∃ Y, Y = w6 := ⟨_, rfl⟩
              rw [← hY] at hE6 ⊢
              clear hY hb4 hb5 hb6 q5 q6 q7 qk qw
              have r1 := (Ext.drew Y).load (hE6.load (cell8 hXv 1 (by omega)))
              have r2 := (Ext.drew Y).load (hE6.load (cell8 hXv 2 (by omega)))
              simp only [st_get] at r1 r2
              go_wp2_with fail
              refine rg_start (by kernel_rfl) ?_
              refine rg_take 0 rfl (by kernel_rfl) (by kernel_rfl) (by kernel_rfl) (fun _ _ _ _ h => h) (by rfl) ⟨_, fun w' hx => by (go_simp <;> with_reducible rfl), ?_⟩
              simp only [Act.put, List.setIfInBounds_toArray, List.set_cons_zero, List.set_cons_succ]
              refine rg_take 2 rfl (by kernel_rfl) (by kernel_rfl) (by kernel_rfl) (fun _ _ _ _ h => h) (by rfl) ⟨_, fun w' hx => by (go_simp <;> with_reducible rfl), ?_⟩
              simp only [Act.put, List.setIfInBounds_toArray, List.set_cons_zero, List.set_cons_succ]
              refine rg_take 5 rfl (by kernel_rfl) (by kernel_rfl) (by kernel_rfl) (fun _ _ _ _ h => h) (by rfl) ⟨_, fun w' hx => by (go_simp <;> with_reducible rfl), ?_⟩
              simp only [Act.put, List.setIfInBounds_toArray, List.set_cons_zero, List.set_cons_succ]
              refine rg_take 8 rfl (by kernel_rfl) (by kernel_rfl) (by kernel_rfl) (fun _ _ _ _ h => h) (by rfl) ⟨_, fun w' hx => by (go_simp <;> with_reducible rfl), ?_⟩
              simp only [Act.put, List.setIfInBounds_toArray, List.set_cons_zero, List.set_cons_succ]
              refine rg_take 9 rfl (by kernel_rfl) (by kernel_rfl) (by kernel_rfl) (fun _ _ _ _ h => h) (by rfl) ⟨_, fun w' hx => by (go_simp <;> with_reducible rfl), ?_⟩
              simp only [Act.put, List.setIfInBounds_toArray, List.set_cons_zero, List.set_cons_succ]
              refine rg_take 10 rfl (by kernel_rfl) (by kernel_rfl) (by kernel_rfl) (fun _ _ _ _ h => h) (by rfl) ⟨_, fun w' hx => by (go_simp <;> with_reducible rfl), ?_⟩   -- t165 := indexAddr 45 t164 1:i64
              simp only [Act.put, List.setIfInBounds_toArray, List.set_cons_zero, List.set_cons_succ]
              refine rg_take 11 rfl (by kernel_rfl) (by kernel_rfl) (by kernel_rfl) (fun _ _ _ _ h => h) (by rfl) ⟨_, fun w' hx => by have hcx := hx.load r1; (go_simp <;> with_reducible rfl), ?_⟩
              simp only [Act.put, List.setIfInBounds_toArray, List.set_cons_zero, List.set_cons_succ]
              refine rg_take 12 rfl (by kernel_rfl) (by kernel_rfl) (by kernel_rfl) (fun _ _ _ _ h => h) (by rfl) ⟨_, fun w' hx => by (go_simp <;> with_reducible rfl), ?_⟩   -- t167 := binOp and 44 t163 t166 44
              simp only [Act.put, List.setIfInBounds_toArray, List.set_cons_zero, List.set_cons_succ]
              refine rg_take 13 rfl (by kernel_rfl) (by kernel_rfl) (by kernel_rfl) (fun _ _ _ _ h => h) (by rfl) ⟨_, fun w' hx => by (go_simp <;> with_reducible rfl), ?_⟩
              simp only [Act.put, List.setIfInBounds_toArray, List.set_cons_zero, List.set_cons_succ]
              refine rg_take 14 rfl (by kernel_rfl) (by kernel_rfl) (by kernel_rfl) (fun _ _ _ _ h => h) (by rfl) ⟨_, fun w' hx => by (go_simp <;> with_reducible rfl), ?_⟩
              simp only [Act.put, List.setIfInBounds_toArray, List.set_cons_zero, List.set_cons_succ]
              refine rg_take 15 rfl (by kernel_rfl) (by kernel_rfl) (by kernel_rfl) (fun _ _ _ _ h => h) (by rfl) ⟨_, fun w' hx => by (go_simp <;> with_reducible rfl), ?_⟩   -- t170 := indexAddr 45 t169 2:i64
              simp only [Act.put, List.setIfInBounds_toArray, List.set_cons_zero, List.set_cons_succ]
              refine rg_take 16 rfl (by kernel_rfl) (by kernel_rfl) (by kernel_rfl) (fun _ _ _ _ h => h) (by rfl) ⟨_, fun w' hx => by have hcx := hx.load r2; (go_simp <;> with_reducible rfl), ?_⟩
              simp only [Act.put, List.setIfInBounds_toArray, List.set_cons_zero, List.set_cons_succ]
              refine rg_take 17 rfl (by kernel_rfl) (by kernel_rfl) (by kernel_rfl) (fun _ _ _ _ h => h) (by rfl) ⟨_, fun w' hx => by (go_simp <;> with_reducible rfl), ?_⟩   -- t172 := binOp and 44 t168 t171 44
              simp only [Act.put, List.setIfInBounds_toArray, List.set_cons_zero, List.set_cons_succ]
              refine rg_take 18 rfl (by kernel_rfl) (by kernel_rfl) (by kernel_rfl) (fun _ _ _ _ h => h) (by rfl) ⟨_, fun w' hx => by (go_simp <;> with_reducible rfl), ?_⟩   -- t173 := binOp xor 44 t167 t172 44
              simp only [Act.put, List.setIfInBounds_toArray, List.set_cons_zero, List.set_cons_succ]
              refine rg_take 19 rfl (by kernel_rfl) (by kernel_rfl) (by kernel_rfl) (fun _ _ _ _ h => h) (by rfl) ⟨_, fun w' hx => by (go_simp <;> with_reducible rfl), ?_⟩
              simp only [Act.put, List.setIfInBounds_toArray, List.set_cons_zero, List.set_cons_succ]
              refine rg_take 20 rfl (by kernel_rfl) (by kernel_rfl) (by kernel_rfl) (fun _ _ _ _ h => h) (by rfl) ⟨_, fun w' hx => by (go_simp <;> with_reducible rfl), ?_⟩   -- t175 := indexAddr 45 t174 1:i64
              simp only [Act.put, List.setIfInBounds_toArray, List.set_cons_zero, List.set_cons_succ]
              refine rg_take 21 rfl (by kernel_rfl) (by kernel_rfl) (by kernel_rfl) (fun _ _ _ _ h => h) (by rfl) ⟨_, fun w' hx => by have hcx := hx.load r1; (go_simp <;> with_reducible rfl), ?_⟩
              simp only [Act.put, List.setIfInBounds_toArray, List.set_cons_zero, List.set_cons_succ]
              refine rg_take 22 rfl (by kernel_rfl) (by kernel_rfl) (by kernel_rfl) (fun _ _ _ _ h => h) (by rfl) ⟨_, fun w' hx => by (go_simp <;> with_reducible rfl), ?_⟩
              simp only [Act.put, List.setIfInBounds_toArray, List.set_cons_zero, List.set_cons_succ]
              refine rg_take 23 rfl (by kernel_rfl) (by kernel_rfl) (by kernel_rfl) (fun _ _ _ _ h => h) (by rfl) ⟨_, fun w' hx => by (go_simp <;> with_reducible rfl), ?_⟩   -- t178 := indexAddr 45 t177 2:i64
              simp only [Act.put, List.setIfInBounds_toArray, List.set_cons_zero, List.set_cons_succ]
              refine rg_take 24 rfl (by kernel_rfl) (by kernel_rfl) (by kernel_rfl) (fun _ _ _ _ h => h) (by rfl) ⟨_, fun w' hx => by have hcx := hx.load r2; (go_simp <;> with_reducible rfl), ?_⟩
              simp only [Act.put, List.setIfInBounds_toArray, List.set_cons_zero, List.set_cons_succ]
              refine rg_take 25 rfl (by kernel_rfl) (by kernel_rfl) (by kernel_rfl) (fun _ _ _ _ h => h) (by rfl) ⟨_, fun w' hx => by (go_simp <;> with_reducible rfl), ?_⟩   -- t180 := binOp and 44 t176 t179 44
              simp only [Act.put, List.setIfInBounds_toArray, List.set_cons_zero, List.set_cons_succ]
              refine rg_take 26 rfl (by kernel_rfl) (by kernel_rfl) (by kernel_rfl) (fun _ _ _ _ h => h) (by rfl) ⟨_, fun w' hx => by (go_simp <;> with_reducible rfl), ?_⟩   -- t181 := binOp xor 44 t173 t180 44
              simp only [Act.put, List.setIfInBounds_toArray, List.set_cons_zero, List.set_cons_succ]
              refine rg_call 1 (turn_any v.a 2 (by omega) (by omega) _) rfl (by kernel_rfl) (by rfl) (by go_simp) ?_
              rintro e w4 ⟨rfl, hb4⟩
              refine ⟨_, rfl, hb4, ?_⟩
              simp only [Act.put, List.setIfInBounds_toArray, List.set_cons_zero, List.set_cons_succ]
              refine rg_call 3 (turn_any v.a 13 (by omega) (by omega) _) rfl (by kernel_rfl) (by rfl) (by go_simp) ?_
              rintro e w5 ⟨rfl, hb5⟩
              refine ⟨_, rfl, hb5, ?_⟩
              simp only [Act.put, List.setIfInBounds_toArray, List.set_cons_zero, List.set_cons_succ]
              refine rg_take 4 rfl (by kernel_rfl) (by kernel_rfl) (by kernel_rfl) (fun _ _ _ _ h => h) (by rfl) ⟨_, fun w' hx => by (go_simp <;> with_reducible rfl), ?_⟩   -- t159 := binOp xor 44 t156 t158 44
              simp only [Act.put, List.setIfInBounds_toArray, List.set_cons_zero, List.set_cons_succ]
              refine rg_call 6 (turn_any v.a 22 (by omega) (by omega) _) rfl (by kernel_rfl) (by rfl) (by go_simp) ?_
              rintro e w6 ⟨rfl, hb6⟩
              refine ⟨_, rfl, hb6, ?_⟩
              simp only [Act.put, List.setIfInBounds_toArray, List.set_cons_zero, List.set_cons_succ]
              refine rg_take 7 rfl (by kernel_rfl) (by kernel_rfl) (by kernel_rfl) (fun _ _ _ _ h => h) (by rfl) ⟨_, fun w' hx => by (go_simp <;> with_reducible rfl), ?_⟩   -- t162 := binOp xor 44 t159 t161 44
              simp only [Act.put, List.setIfInBounds_toArray, List.set_cons_zero, List.set_cons_succ]
              refine rg_take 27 rfl (by kernel_rfl) (by kernel_rfl) (by kernel_rfl) (fun _ _ _ _ h => h) (by rfl) ⟨_, fun w' hx => by (go_simp <;> with_reducible rfl), ?_⟩   -- t182 := binOp add 44 t162 t181 44
              simp only [Act.put, List.setIfInBounds_toArray, List.set_cons_zero, List.set_cons_succ]
              refine rg_take 28 rfl (by kernel_rfl) (by kernel_rfl) (by kernel_rfl) (fun _ _ _ _ h => h) (by rfl) ⟨_, fun w' hx => by (go_simp <;> with_reducible rfl), ?_⟩
              simp only [Act.put, List.setIfInBounds_toArray, List.set_cons_zero, List.set_cons_succ]
              refine rg_done (by kernel_rfl) ?_
              have hE7 := Ext.tr hE6 (Ext.tr (Ext.drew Y) (Ext.tr hb4 (Ext.tr hb5 hb6)))
              obtain ⟨Z, hZ⟩ : ∃ Z, Z = w6 := ⟨_, rfl⟩
              rw [← hZ] at hE7 ⊢
              clear hZ hb4 hb5 hb6 r1 r2 hE6
              have hE8 := Ext.tr hE7 (Ext.drew Z)
              have r0 := hE8.load (cell8 hXv 0 (by omega))
              have r1 := hE8.load (cell8 hXv 1 (by omega))
              have r2 := hE8.load (cell8 hXv 2 (by omega))
              have r3 := hE8.load (cell8 hXv 3 (by omega))
              have r4 := hE8.load (cell8 hXv 4 (by omega))
              have r5 := hE8.load (cell8 hXv 5 (by omega))
              have r6 := hE8.load (cell8 hXv 6 (by omega))
              simp only [st_get, Nat.add_zero] at r0 r1 r2 r3 r4 r5 r6
              go_wp2_with fail
              refine rg_start (by kernel_rfl) ?_
              refine rg_take 0 rfl (by kernel_rfl) (by kernel_rfl) (by kernel_rfl) (fun _ _ _ _ h => h) (by rfl) ⟨_, fun w' hx => by (go_simp <;> with_reducible rfl), ?_⟩
              simp only [Act.put, List.setIfInBounds_toArray, List.set_cons_zero, List.set_cons_succ]
              refine rg_take 1 rfl (by kernel_rfl) (by kernel_rfl) (by kernel_rfl) (fun _ _ _ _ h => h) (by rfl) ⟨_, fun w' hx => by (go_simp <;> with_reducible rfl), ?_⟩
              simp only [Act.put, List.setIfInBounds_toArray, List.set_cons_zero, List.set_cons_succ]
              refine rg_take 2 rfl (by kernel_rfl) (by kernel_rfl) (by kernel_rfl) (fun _ _ _ _ h => h) (by rfl) ⟨_, fun w' hx => by (go_simp <;> with_reducible rfl), ?_⟩   -- t185 := binOp add 44 t183 t184 44
              simp only [Act.put, List.setIfInBounds_toArray, List.set_cons_zero, List.set_cons_succ]
              refine rg_take 3 rfl (by kernel_rfl) (by kernel_rfl) (by kernel_rfl) (fun _ _ _ _ h => h) (by rfl) ⟨_, fun w' hx => by (go_simp <;> with_reducible rfl), ?_⟩
              simp only [Act.put, List.setIfInBounds_toArray, List.set_cons_zero, List.set_cons_succ]
              refine rg_take 4 rfl (by kernel_rfl) (by kernel_rfl) (by kernel_rfl) (fun _ _ _ _ h => h) (by rfl) ⟨_, fun w' hx => by (go_simp <;> with_reducible rfl), ?_⟩   -- t187 := indexAddr 45 t186 0:i64
              simp only [Act.put, List.setIfInBounds_toArray, List.set_cons_zero, List.set_cons_succ]
              refine rg_take 5 rfl (by kernel_rfl) (by kernel_rfl) (by kernel_rfl) (fun _ _ _ _ h => h) (by rfl) ⟨_, fun w' hx => by have hcx := hx.load r0; (go_simp <;> with_reducible rfl), ?_⟩
              simp only [Act.put, List.setIfInBounds_toArray, List.set_cons_zero, List.set_cons_succ]
              refine rg_take 6 rfl (by kernel_rfl) (by kernel_rfl) (by kernel_rfl) (fun _ _ _ _ h => h) (by rfl) ⟨_, fun w' hx => by (go_simp <;> with_reducible rfl), ?_⟩
              simp only [Act.put, List.setIfInBounds_toArray, List.set_cons_zero, List.set_cons_succ]
              refine rg_take 7 rfl (by kernel_rfl) (by kernel_rfl) (by kernel_rfl) (fun _ _ _ _ h => h) (by rfl) ⟨_, fun w' hx => by (go_simp <;> with_reducible rfl), ?_⟩   -- t190 := indexAddr 45 t189 1:i64
              simp only [Act.put, List.setIfInBounds_toArray, List.set_cons_zero, List.set_cons_succ]
              refine rg_take 8 rfl (by kernel_rfl) (by kernel_rfl) (by kernel_rfl) (fun _ _ _ _ h => h) (by rfl) ⟨_, fun w' hx => by have hcx := hx.load r1; (go_simp <;> with_reducible rfl), ?_⟩
              simp only [Act.put, List.setIfInBounds_toArray, List.set_cons_zero, List.set_cons_succ]
              refine rg_take 9 rfl (by kernel_rfl) (by kernel_rfl) (by kernel_rfl) (fun _ _ _ _ h => h) (by rfl) ⟨_, fun w' hx => by (go_simp <;> with_reducible rfl), ?_⟩
              simp only [Act.put, List.setIfInBounds_toArray, List.set_cons_zero, List.set_cons_succ]
              refine rg_take 10 rfl (by kernel_rfl) (by kernel_rfl) (by kernel_rfl) (fun _ _ _ _ h => h) (by rfl) ⟨_, fun w' hx => by (go_simp <;> with_reducible rfl), ?_⟩   -- t193 := indexAddr 45 t192 2:i64
              simp only [Act.put, List.setIfInBounds_toArray, List.set_cons_zero, List.set_cons_succ]
              refine rg_take 11 rfl (by kernel_rfl) (by kernel_rfl) (by kernel_rfl) (fun _ _ _ _ h => h) (by rfl) ⟨_, fun w' hx => by have hcx := hx.load r2; (go_simp <;> with_reducible rfl), ?_⟩
              simp only [Act.put, List.setIfInBounds_toArray, List.set_cons_zero, List.set_cons_succ]
              refine rg_take 12 rfl (by kernel_rfl) (by kernel_rfl) (by kernel_rfl) (fun _ _ _ _ h => h) (by rfl) ⟨_, fun w' hx => by (go_simp <;> with_reducible rfl), ?_⟩
              simp only [Act.put, List.setIfInBounds_toArray, List.set_cons_zero, List.set_cons_succ]
              refine rg_take 13 rfl (by kernel_rfl) (by kernel_rfl) (by kernel_rfl) (fun _ _ _ _ h => h) (by rfl) ⟨_, fun w' hx => by (go_simp <;> with_reducible rfl), ?_⟩   -- t196 := indexAddr 45 t195 3:i64
              simp only [Act.put, List.setIfInBounds_toArray, List.set_cons_zero, List.set_cons_succ]
              refine rg_take 14 rfl (by kernel_rfl) (by kernel_rfl) (by kernel_rfl) (fun _ _ _ _ h => h) (by rfl) ⟨_, fun w' hx => by have hcx := hx.load r3; (go_simp <;> with_reducible rfl), ?_⟩
              simp only [Act.put, List.setIfInBounds_toArray, List.set_cons_zero, List.set_cons_succ]
              refine rg_take 15 rfl (by kernel_rfl) (by kernel_rfl) (by kernel_rfl) (fun _ _ _ _ h => h) (by rfl) ⟨_, fun w' hx => by (go_simp <;> with_reducible rfl), ?_⟩
              simp only [Act.put, List.setIfInBounds_toArray, List.set_cons_zero, List.set_cons_succ]
              refine rg_take 16 rfl (by kernel_rfl) (by kernel_rfl) (by kernel_rfl) (fun _ _ _ _ h => h) (by rfl) ⟨_, fun w' hx => by (go_simp <;> with_reducible rfl), ?_⟩   -- t199 := binOp add 44 t197 t198 44
              simp only [Act.put, List.setIfInBounds_toArray, List.set_cons_zero, List.set_cons_succ]
              refine rg_take 17 rfl (by kernel_rfl) (by kernel_rfl) (by kernel_rfl) (fun _ _ _ _ h => h) (by rfl) ⟨_, fun w' hx => by (go_simp <;> with_reducible rfl), ?_⟩
              simp only [Act.put, List.setIfInBounds_toArray, List.set_cons_zero, List.set_cons_succ]
              refine rg_take 18 rfl (by kernel_rfl) (by kernel_rfl) (by kernel_rfl) (fun _ _ _ _ h => h) (by rfl) ⟨_, fun w' hx => by (go_simp <;> with_reducible rfl), ?_⟩   -- t201 := indexAddr 45 t200 4:i64
              simp only [Act.put, List.setIfInBounds_toArray, List.set_cons_zero, List.set_cons_succ]
              refine rg_take 19 rfl (by kernel_rfl) (by kernel_rfl) (by kernel_rfl) (fun _ _ _ _ h => h) (by rfl) ⟨_, fun w' hx => by have hcx := hx.load r4; (go_simp <;> with_reducible rfl), ?_⟩
              simp only [Act.put, List.setIfInBounds_toArray, List.set_cons_zero, List.set_cons_succ]
              refine rg_take 20 rfl (by kernel_rfl) (by kernel_rfl) (by kernel_rfl) (fun _ _ _ _ h => h) (by rfl) ⟨_, fun w' hx => by (go_simp <;> with_reducible rfl), ?_⟩
              simp only [Act.put, List.setIfInBounds_toArray, List.set_cons_zero, List.set_cons_succ]
              refine rg_take 21 rfl (by kernel_rfl) (by kernel_rfl) (by kernel_rfl) (fun _ _ _ _ h => h) (by rfl) ⟨_, fun w' hx => by (go_simp <;> with_reducible rfl), ?_⟩   -- t204 := indexAddr 45 t203 5:i64
              simp only [Act.put, List.setIfInBounds_toArray, List.set_cons_zero, List.set_cons_succ]
              refine rg_take 22 rfl (by kernel_rfl) (by kernel_rfl) (by kernel_rfl) (fun _ _ _ _ h => h) (by rfl) ⟨_, fun w' hx => by have hcx := hx.load r5; (go_simp <;> with_reducible rfl), ?_⟩
              simp only [Act.put, List.setIfInBounds_toArray, List.set_cons_zero, List.set_cons_succ]
              refine rg_take 23 rfl (by kernel_rfl) (by kernel_rfl) (by kernel_rfl) (fun _ _ _ _ h => h) (by rfl) ⟨_, fun w' hx => by (go_simp <;> with_reducible rfl), ?_⟩
              simp only [Act.put, List.setIfInBounds_toArray, List.set_cons_zero, List.set_cons_succ]
              refine rg_take 24 rfl (by kernel_rfl) (by kernel_rfl) (by kernel_rfl) (fun _ _ _ _ h => h) (by rfl) ⟨_, fun w' hx => by (go_simp <;> with_reducible rfl), ?_⟩   -- t207 := indexAddr 45 t206 6:i64
              simp only [Act.put, List.setIfInBounds_toArray, List.set_cons_zero, List.set_cons_succ]
              refine rg_take 25 rfl (by kernel_rfl) (by kernel_rfl) (by kernel_rfl) (fun _ _ _ _ h => h) (by rfl) ⟨_, fun w' hx => by have hcx := hx.load r6; (go_simp <;> with_reducible rfl), ?_⟩
              simp only [Act.put, List.setIfInBounds_toArray, List.set_cons_zero, List.set_cons_succ]
              -- 26: t209 := buildSlice 45 8 [(0, t185), (1, t188), (2, t191), (3, t194), (4, t199), (5, t202), (6, t205), (7, t208)]
              refine rg_make 26 rfl (by kernel_rfl) (by rfl) ⟨_, _, by (go_simp <;> first | exact ⟨rfl, rfl⟩ | rfl), ?_, ?_⟩
              · exact Ext.alloc _ _
              simp only [Act.put, List.setIfInBounds_toArray, List.set_cons_zero, List.set_cons_succ]
              refine rg_take 27 rfl (by kernel_rfl) (by kernel_rfl) (by kernel_rfl) (fun _ _ _ _ h => h) (by rfl) ⟨_, fun w' hx => by (go_simp <;> with_reducible rfl), ?_⟩
              simp only [Act.put, List.setIfInBounds_toArray, List.set_cons_zero, List.set_cons_succ]
              refine rg_done (by kernel_rfl) ?_
              obtain ⟨C, hC⟩ : ∃ C, C = ((Sha.rnd v (Sha.k.getD t 0) (l.getD t 0)).list.map wv).toArray := ⟨_, rfl⟩
              refine Eq.mpr (congrArg (fun X => Exit.inBlock _ _ _ _ X) (show _ = (Z.alloc (.cells C 29)).drew from by rw [hC]; simp only [Sha.rnd, Sha.add1, Sha.big0, Sha.maj, Sha.ch, Sha.big1, List.getD_eq_getElem?_getD, Sha.St.list, List.map_cons, List.map_nil, wv, UInt32.add_assoc])) ?_
              have hZ9 : (Z.alloc (.cells C 29)).drew.heap[Z.heap.size]? = some (.cells C 29 (0, 0)) := heap_alloc_new Z _
              have hE9 : Ext X (Z.alloc (.cells C 29)).drew := Ext.tr hE7 (Ext.tr (Ext.alloc Z _) (Ext.drew _))
              have hv9 := Rd.row_ hZ9 8 (by rw [hC]; rfl)
              have hCl : C.toList = (Sha.rnds l s (t + 1)).list.map wv := by rw [hC, Hnx.out]
              rw [hCl] at hv9
              have hg9 := (hE9.block _ (lt_of_heap hXg)).trans hXg
              have hk9 := (hE9.block _ (lt_of_heap hXk)).trans hXk
              have hB9 := hXB.trans (hE9.mono hXB.size)
              obtain ⟨V, hV⟩ : ∃ V, V = (Z.alloc (.cells C 29)).drew := ⟨_, rfl⟩
              rw [← hV] at hv9 hg9 hk9 hB9 ⊢
              clear hV hC hCl hZ9 hE9 hE7 hE8 r0 r1 r2 r3 r4 r5 r6 hXv hXg hXk hXB
              go_wp2_with fail
              go_roundw
              case rel => exact ⟨t + 1, Z.heap.size, 0, 8, by omega, by go_num, rfl, by omega, hv9, hg9, hk9, hB9⟩
              case measure => simp [intOf]; omega
            · obtain rfl : t = 64 := by omega
              obtain ⟨v, hv0⟩ : ∃ v, v = Sha.rnds l s 64 := ⟨_, rfl⟩
              rw [← hv0] at hv
              have hfin : Hid (Sha.plus s v = Sha.block s b) := by show _ = _; rw [hv0, Hl0.out]; rfl
              rw [show (((64 : Nat)) : Int) = 64 from rfl]
              have hBs := hB.size
              clear hv0 hg hgk
              go_wp2_with (first | (at_make; go_loud (refine wpList_mk rfl (.const (.int .i64 8)) (.const (.int .i64 8)) 57 rfl elemU (.int .u32 0) zeroU rfl 8 _ _ rfl rfl (by omega) (by omega) ?_)))
              obtain ⟨V0, hV0⟩ : ∃ V0, V0 = wr.alloc (.cells (sumC s v 0) 29) := ⟨_, rfl⟩
              have hE0 : Ext wr V0 := by rw [hV0]; exact Ext.alloc wr _
              have hs0 : V0.heap[wr.heap.size]? = some (.cells (sumC s v 0) 29 (0, 0)) := by rw [hV0]; exact heap_alloc_new wr _
              refine Eq.mpr (congrArg (fun X => Code.wp _ _ _ _ X) (show _ = V0 from by rw [hV0]; rfl)) ?_
              obtain ⟨go, hgo⟩ : ∃ go, go = wr.heap.size := ⟨_, rfl⟩
              have hv1 := Rd.below hv hE0
              have hA1 := Rd.below (Rd.below hA hB) hE0
              have hB1 := hB.trans (hE0.mono hBs)
              have hgo2 : w.heap.size ≤ go := by rw [hgo]; exact hBs
              have hne : gv < go := by
                have h9 := World.block_lt_of_cell? _ _ (cell8 hv 0 (by omega))
                rw [hgo]; exact h9
              rw [← hgo] at hs0 ⊢
              clear hV0 hE0 hB hBs hv hgo
              go_loopw [18] (fun i wr => ∃ j : Nat, j ≤ 8 ∧ i = .int .i64 j ∧ wr.heap[go]? = some (.cells (sumC s v j) 29 (0, 0)) ∧ Rd wr 1 (some ⟨gv, ov, none⟩) 8 (v.list.map wv) ∧ Rd wr 1 A 8 (s.list.map wv) ∧ Below w.heap.size w wr) (fun i _ => 8 - (intOf i).toNat)
              case atStart => exact ⟨0, by omega, rfl, hs0, hv1, hA1, hB1⟩
              case round =>
                clear hs0 hv1 hA1 hB1
                obtain ⟨j, hj, rfl, hsj, hv, hAj, hB⟩ := hrel
                by_cases hj8 : j < 8
                · have hjl : (j : Int) < 8 := by omega
                  obtain ⟨aa, haa⟩ : ∃ aa, A = some aa := by
                    obtain ⟨a, e, _⟩ := hAj.2 (by simp [Sha.St.list])
                    exact ⟨a, e⟩
                  subst haa
                  have a1 : wr.drew.cell? (aa.add j) = some (.int .u32 (W (s.list.getD j 0))) := by
                    obtain ⟨a, e, f⟩ := hAj.2 (by simp [Sha.St.list])
                    cases e
                    exact f j _ (list_get s j hj8)
                  have a2 : wr.drew.cell? ⟨gv, ov + j, none⟩ = some (.int .u32 (W (v.list.getD j 0))) := cell8 hv j hj8
                  have a3 : wr.drew.cell? ⟨go, j, none⟩ = some (.int .u32 0) := (cell_of_row wr.drew _ j _ _ _ hsj).trans (sumC_get s v j hj8)
                  have a4 : wr.drew.frozen? ⟨go, j, none⟩ = false := frozen_of_row wr.drew _ _ _ _ hsj
                  have Hset := Lib.hid (sumC_set s v j hj8)
                  go_wp2_with fail
                  refine rg_start (by kernel_rfl) ?_
                  refine rg_take 0 rfl (by kernel_rfl) (by kernel_rfl) (by kernel_rfl) (fun _ _ _ _ h => h) (by rfl) ⟨_, fun w' hx => by (go_simp <;> with_reducible rfl), ?_⟩
                  simp only [Act.put, List.setIfInBounds_toArray, List.set_cons_zero, List.set_cons_succ]
                  refine rg_take 1 rfl (by kernel_rfl) (by kernel_rfl) (by kernel_rfl) (fun _ _ _ _ h => h) (by rfl) ⟨_, fun w' hx => by (go_simp <;> with_reducible rfl), ?_⟩
                  simp only [Act.put, List.setIfInBounds_toArray, List.set_cons_zero, List.set_cons_succ]
                  refine rg_take 2 rfl (by kernel_rfl) (by kernel_rfl) (by kernel_rfl) (fun _ _ _ _ h => h) (by rfl) ⟨_, fun w' hx => by (go_simp <;> with_reducible rfl), ?_⟩
                  simp only [Act.put, List.setIfInBounds_toArray, List.set_cons_zero, List.set_cons_succ]
                  refine rg_take 3 rfl (by kernel_rfl) (by kernel_rfl) (by kernel_rfl) (fun _ _ _ _ h => h) (by rfl) ⟨_, fun w' hx => by (go_simp <;> with_reducible rfl), ?_⟩
                  simp only [Act.put, List.setIfInBounds_toArray, List.set_cons_zero, List.set_cons_succ]
                  refine rg_take 4 rfl (by kernel_rfl) (by kernel_rfl) (by kernel_rfl) (fun _ _ _ _ h => h) (by rfl) ⟨_, fun w' hx => by (go_simp <;> with_reducible rfl), ?_⟩   -- t219 := indexAddr 45 t217 t218
                  simp only [Act.put, List.setIfInBounds_toArray, List.set_cons_zero, List.set_cons_succ]
                  refine rg_take 5 rfl (by kernel_rfl) (by kernel_rfl) (by kernel_rfl) (fun _ _ _ _ h => h) (by rfl) ⟨_, fun w' hx => by have hcx := hx.load a1; (go_simp <;> with_reducible rfl), ?_⟩
                  simp only [Act.put, List.setIfInBounds_toArray, List.set_cons_zero, List.set_cons_succ]
                  refine rg_take 6 rfl (by kernel_rfl) (by kernel_rfl) (by kernel_rfl) (fun _ _ _ _ h => h) (by rfl) ⟨_, fun w' hx => by (go_simp <;> with_reducible rfl), ?_⟩
                  simp only [Act.put, List.setIfInBounds_toArray, List.set_cons_zero, List.set_cons_succ]
                  refine rg_take 7 rfl (by kernel_rfl) (by kernel_rfl) (by kernel_rfl) (fun _ _ _ _ h => h) (by rfl) ⟨_, fun w' hx => by (go_simp <;> with_reducible rfl), ?_⟩
                  simp only [Act.put, List.setIfInBounds_toArray, List.set_cons_zero, List.set_cons_succ]
                  refine rg_take 8 rfl (by kernel_rfl) (by kernel_rfl) (by kernel_rfl) (fun _ _ _ _ h => h) (by rfl) ⟨_, fun w' hx => by (go_simp <;> with_reducible rfl), ?_⟩   -- t223 := indexAddr 45 t221 t222
                  simp only [Act.put, List.setIfInBounds_toArray, List.set_cons_zero, List.set_cons_succ]
                  refine rg_take 9 rfl (by kernel_rfl) (by kernel_rfl) (by kernel_rfl) (fun _ _ _ _ h => h) (by rfl) ⟨_, fun w' hx => by have hcx := hx.load a2; (go_simp <;> with_reducible rfl), ?_⟩
                  simp only [Act.put, List.setIfInBounds_toArray, List.set_cons_zero, List.set_cons_succ]
                  refine rg_take 10 rfl (by kernel_rfl) (by kernel_rfl) (by kernel_rfl) (fun _ _ _ _ h => h) (by rfl) ⟨_, fun w' hx => by (go_simp <;> with_reducible rfl), ?_⟩   -- t225 := binOp add 44 t220 t224 44
                  simp only [Act.put, List.setIfInBounds_toArray, List.set_cons_zero, List.set_cons_succ]
                  refine rg_take 11 rfl (by kernel_rfl) (by kernel_rfl) (by kernel_rfl) (fun _ _ _ _ h => h) (by rfl) ⟨_, fun w' hx => by (go_simp <;> with_reducible rfl), ?_⟩   -- t226 := indexAddr 45 t215 t216
                  simp only [Act.put, List.setIfInBounds_toArray, List.set_cons_zero, List.set_cons_succ]
                  refine rg_store 12 rfl (by kernel_rfl) (by kernel_rfl) (by rfl) ⟨wr.drew.setCell ⟨go, j, none⟩ (.int .u32 (W (s.list.getD j 0 + v.list.getD j 0))), by (go_simp <;> first | rfl | exact ⟨rfl, rfl⟩), ?_⟩
                  simp only [Act.put]
                  refine rg_done (by kernel_rfl) ?_
                  have hn1 := heap_setCell_same wr.drew go j _ _ (.int .u32 (W (s.list.getD j 0 + v.list.getD j 0))) hsj
                  rw [Hset.out] at hn1
                  have hG := grown_cell_ wr.drew go j (.int .u32 (W (s.list.getD j 0 + v.list.getD j 0)))
                  have hn2 : Rd (wr.drew.setCell ⟨go, j, none⟩ (.int .u32 (W (s.list.getD j 0 + v.list.getD j 0)))) 1 (some ⟨gv, ov, none⟩) 8 (v.list.map wv) := Rd.grown (Rd.drew_' hv) hG (fun a h e => by cases h; simp only [Option.some.injEq] at e; omega)
                  have hB2 := hB.drew.setCell (p := ⟨go, j, none⟩) hgo2 (.int .u32 (W (s.list.getD j 0 + v.list.getD j 0)))
                  have hn3 : Rd (wr.drew.setCell ⟨go, j, none⟩ (.int .u32 (W (s.list.getD j 0 + v.list.getD j 0)))) 1 (some aa) 8 (s.list.map wv) := Rd.below hA hB2
                  obtain ⟨W6, hW6⟩ : ∃ W6, W6 = wr.drew.setCell ⟨go, j, none⟩ (.int .u32 (W (s.list.getD j 0 + v.list.getD j 0))) := ⟨_, rfl⟩
                  rw [← hW6] at hn1 hn2 hn3 hB2 ⊢
                  clear hW6 hG
                  go_wp2_with fail
                  go_roundw
                  case rel => exact ⟨j + 1, by omega, by go_num, hn1, hn2, hn3, hB2⟩
                  case measure => simp [intOf]; omega
                · obtain rfl : j = 8 := by omega
                  have hr9 := Rd.row_ hsj 8 (by rfl)
                  rw [sumC_all, hfin.out] at hr9
                  go_wp2
                  go_ret
                  exact ⟨_, 8, rfl, by omega, hr9, hB⟩
end Go.Proofs.Ytnagbhaknmoilaa
