
/- The digest of all that was taken in (sha.Hash.Sum). Written by wip/tools/gen_hsum03.py. -/

import Derived.Test.YtnagbhaknmoilaaShaOut

namespace Go.Proofs.Ytnagbhaknmoilaa

open Go.RowKit

def tl (m n : Nat) : List UInt8 := 128 :: List.replicate (Sha.padn m - 1) 0 ++ Vint.fixL (8 * n) 8
theorem tl_len (m n : Nat) : (tl m n).length = Sha.padn m + 8 := by
  simp only [tl, List.cons_append, List.length_cons, List.length_append, List.length_replicate, Vint.fixL_len]
  unfold Sha.padn
  omega
theorem fixed8_ (n : Nat) : Vint.fixed n 8 = Vint.fixL n 8 := rfl
theorem tailC (k : Nat) (h : 0 < k) : ((Array.replicate k (Value.int .u8 0)).setIfInBounds 0 (.int .u8 128)).toList = bvs (128 :: List.replicate (k - 1) 0) := by
  obtain ⟨m, rfl⟩ : ∃ m, k = m + 1 := ⟨k - 1, by omega⟩
  simp [bvs, bv, List.replicate_succ]

set_option maxRecDepth 100000 in
set_option maxHeartbeats 400000 in
theorem sum_raw (g : Nat) (s : Sha.St) (rs : List UInt8) (R : Option Addr) (cr n : Nat) (w : World)
    (hg : w.heap[g]? = some (.cells (hashC s (.slice R rs.length cr) n) 78 (0, 0))) (hR : RdB w R rs) (hl : rs.length < 64) (hn : 8 * n < 18446744073709551616) :
    Calls Try.prog 29 #[.pointer (some ⟨g, 0, none⟩)] w fun e w' => e = .returned (.agg (bvs (Sha.out (Sha.run s (rs ++ tl rs.length n) ((rs ++ tl rs.length n).length / 64)))).toArray) ∧ Below w.heap.size w w' := by
  have hgl := lt_of_heap hg
  obtain ⟨T, hT0⟩ : ∃ T, T = tl rs.length n := ⟨_, rfl⟩
  rw [← hT0]
  have HT0 := Lib.hid hT0
  clear hT0
  obtain ⟨W0, hW0⟩ : ∃ W0, W0 = (w.alloc (.cells (Array.replicate 32 (Value.int .u8 0)) 31)) := ⟨_, rfl⟩
  have hB0 : Ext w W0 := by rw [hW0]; exact Ext.alloc w _
  have hs0 : W0.heap.size = w.heap.size + 1 := by rw [hW0]; simp
  have hz0 : W0.heap[w.heap.size]? = some (.cells (Array.replicate 32 (Value.int .u8 0)) 31 (0, 0)) := by rw [hW0]; exact heap_alloc_new w _
  have hD0 : Ext w W0.drew := Ext.tr hB0 (Ext.drew W0)
  have hgd := (hD0.block g hgl).trans hg
  have c_0 : W0.drew.cell? ⟨g, 0, none⟩ = some (.int .u32 (W s.a)) := cell_of_row W0.drew _ 0 _ _ _ hgd
  have c_1 : W0.drew.cell? ⟨g, 1, none⟩ = some (.int .u32 (W s.b)) := cell_of_row W0.drew _ 1 _ _ _ hgd
  have c_2 : W0.drew.cell? ⟨g, 2, none⟩ = some (.int .u32 (W s.c)) := cell_of_row W0.drew _ 2 _ _ _ hgd
  have c_3 : W0.drew.cell? ⟨g, 3, none⟩ = some (.int .u32 (W s.d)) := cell_of_row W0.drew _ 3 _ _ _ hgd
  have c_4 : W0.drew.cell? ⟨g, 4, none⟩ = some (.int .u32 (W s.e)) := cell_of_row W0.drew _ 4 _ _ _ hgd
  have c_5 : W0.drew.cell? ⟨g, 5, none⟩ = some (.int .u32 (W s.f)) := cell_of_row W0.drew _ 5 _ _ _ hgd
  have c_6 : W0.drew.cell? ⟨g, 6, none⟩ = some (.int .u32 (W s.g)) := cell_of_row W0.drew _ 6 _ _ _ hgd
  have c_7 : W0.drew.cell? ⟨g, 7, none⟩ = some (.int .u32 (W s.h)) := cell_of_row W0.drew _ 7 _ _ _ hgd
  have c_8 : W0.drew.cell? ⟨g, 8, none⟩ = some (.slice R rs.length cr) := cell_of_row W0.drew _ 8 _ _ _ hgd
  have hRd := hR.below hD0
  have HW0 := Lib.hid hW0
  clear hW0
  go_enter Try.func29, Try.ntmps29
  go_wp2_with fail
  refine Eq.mpr (congrArg (fun X => Code.wp _ _ _ _ X) (show _ = W0 from by rw [HW0.out]; rfl)) ?_
  refine rg_start (by kernel_rfl) ?_
  refine rg_take 0 rfl (by kernel_rfl) (by kernel_rfl) (by kernel_rfl) (fun _ _ _ _ h => h) (by rfl) ⟨_, fun w' hx => by (go_simp <;> with_reducible rfl), ?_⟩
  simp only [Act.put, List.setIfInBounds_toArray, List.set_cons_zero, List.set_cons_succ]
  refine rg_take 1 rfl (by kernel_rfl) (by kernel_rfl) (by kernel_rfl) (fun _ _ _ _ h => h) (by rfl) ⟨_, fun w' hx => by (go_simp <;> with_reducible rfl), ?_⟩   -- t10 := nilCheck t9
  simp only [Act.put, List.setIfInBounds_toArray, List.set_cons_zero, List.set_cons_succ]
  refine rg_take 2 rfl (by kernel_rfl) (by kernel_rfl) (by kernel_rfl) (fun _ _ _ _ h => h) (by rfl) ⟨_, fun w' hx => by (go_simp <;> with_reducible rfl), ?_⟩   -- t11 := fieldAddr 51 t10 0
  simp only [Act.put, List.setIfInBounds_toArray, List.set_cons_zero, List.set_cons_succ]
  refine rg_take 3 rfl (by kernel_rfl) (by kernel_rfl) (by kernel_rfl) (fun _ _ _ _ h => h) (by rfl) ⟨.agg #[.int .u32 (W s.a), .int .u32 (W s.b), .int .u32 (W s.c), .int .u32 (W s.d), .int .u32 (W s.e), .int .u32 (W s.f), .int .u32 (W s.g), .int .u32 (W s.h)], fun w' hx => by have x0 := hx.load c_0; have x1 := hx.load c_1; have x2 := hx.load c_2; have x3 := hx.load c_3; have x4 := hx.load c_4; have x5 := hx.load c_5; have x6 := hx.load c_6; have x7 := hx.load c_7; (go_simp <;> with_reducible rfl), ?_⟩
  simp only [Act.put, List.setIfInBounds_toArray, List.set_cons_zero, List.set_cons_succ]
  refine rg_take 4 rfl (by kernel_rfl) (by kernel_rfl) (by kernel_rfl) (fun _ _ _ _ h => h) (by rfl) ⟨_, fun w' hx => by (go_simp <;> with_reducible rfl), ?_⟩
  simp only [Act.put, List.setIfInBounds_toArray, List.set_cons_zero, List.set_cons_succ]
  refine rg_take 5 rfl (by kernel_rfl) (by kernel_rfl) (by kernel_rfl) (fun _ _ _ _ h => h) (by rfl) ⟨_, fun w' hx => by (go_simp <;> with_reducible rfl), ?_⟩   -- t14 := nilCheck t13
  simp only [Act.put, List.setIfInBounds_toArray, List.set_cons_zero, List.set_cons_succ]
  refine rg_take 6 rfl (by kernel_rfl) (by kernel_rfl) (by kernel_rfl) (fun _ _ _ _ h => h) (by rfl) ⟨_, fun w' hx => by (go_simp <;> with_reducible rfl), ?_⟩   -- t15 := fieldAddr 51 t14 1
  simp only [Act.put, List.setIfInBounds_toArray, List.set_cons_zero, List.set_cons_succ]
  refine rg_take 7 rfl (by kernel_rfl) (by kernel_rfl) (by kernel_rfl) (fun _ _ _ _ h => h) (by rfl) ⟨_, fun w' hx => by have hcx := hx.load c_8; (go_simp <;> with_reducible rfl), ?_⟩
  simp only [Act.put, List.setIfInBounds_toArray, List.set_cons_zero, List.set_cons_succ]
  refine rg_call 8 (clone_any R rs cr _ hRd (by omega)) rfl (by kernel_rfl) (by rfl) (by go_simp) ?_
  rintro e w1 ⟨A1, c1, rfl, ho1, hb1⟩
  refine ⟨_, rfl, hb1, ?_⟩
  simp only [Act.put, List.setIfInBounds_toArray, List.set_cons_zero, List.set_cons_succ]
  refine rg_take 9 rfl (by kernel_rfl) (by kernel_rfl) (by kernel_rfl) (fun _ _ _ _ h => h) (by rfl) ⟨_, fun w' hx => by (go_simp <;> with_reducible rfl), ?_⟩
  simp only [Act.put, List.setIfInBounds_toArray, List.set_cons_zero, List.set_cons_succ]
  refine rg_make 10 rfl (by kernel_rfl) (by rfl) ⟨.pointer (some ⟨w1.heap.size, 0, none⟩), w1.alloc (.cells #[.int .u32 (W s.a), .int .u32 (W s.b), .int .u32 (W s.c), .int .u32 (W s.d), .int .u32 (W s.e), .int .u32 (W s.f), .int .u32 (W s.g), .int .u32 (W s.h), .slice A1 rs.length c1, .int .u64 0] 78), by (go_simp <;> first | with_reducible rfl | exact ⟨rfl, rfl⟩), Ext.alloc _ _, ?_⟩
  simp only [Act.put, List.setIfInBounds_toArray, List.set_cons_zero, List.set_cons_succ]
  refine rg_take 11 rfl (by kernel_rfl) (by kernel_rfl) (by kernel_rfl) (fun _ _ _ _ h => h) (by rfl) ⟨_, fun w' hx => by (go_simp <;> with_reducible rfl), ?_⟩
  simp only [Act.put, List.setIfInBounds_toArray, List.set_cons_zero, List.set_cons_succ]
  refine rg_done (by kernel_rfl) ?_
  obtain ⟨W3, hW3⟩ : ∃ W3, W3 = w1.alloc (.cells (hashC s (.slice A1 rs.length c1) 0) 78) := ⟨_, rfl⟩
  have hE3 : Ext w1 W3 := by rw [hW3]; exact Ext.alloc w1 _
  have hs3 : W3.heap.size = w1.heap.size + 1 := by rw [hW3]; simp
  have hh3 : W3.heap[w1.heap.size]? = some (.cells (hashC s (.slice A1 rs.length c1) 0) 78 (0, 0)) := by rw [hW3]; exact heap_alloc_new w1 _
  have hE03 : Ext W0 W3 := Ext.tr (Ext.drew W0) (Ext.tr hb1 hE3)
  have hg3 := (hE03.block g (lt_of_heap hgd)).trans hgd
  have hz3 := (hE03.block w.heap.size (lt_of_heap hz0)).trans hz0
  have ho3 := ho1.below hE3
  have d8 : W3.cell? ⟨g, 8, none⟩ = some (.slice R rs.length cr) := cell_of_row W3 _ 8 _ _ _ hg3
  have d9 : W3.cell? ⟨g, 9, none⟩ = some (.int .u64 (n : Int)) := cell_of_row W3 _ 9 _ _ _ hg3
  have hrow : ∀ q, ownRow A1 c1 = some q → q ≠ w1.heap.size := fun q hq e => by have := (ho1.row_lt q hq).2; omega
  refine Eq.mpr (congrArg (fun X => Exit.then _ _ _ _ X) (show _ = W3 from by rw [hW3]; rfl)) ?_
  clear hW3 c_0 c_1 c_2 c_3 c_4 c_5 c_6 c_7 c_8 hRd
  obtain ⟨pd, hpd⟩ : ∃ pd, pd = Sha.padn rs.length := ⟨_, rfl⟩
  have hpdI : 64 - ((rs.length : Int) + 8) % 64 = (pd : Int) := by rw [hpd]; unfold Sha.padn; omega
  have hpd0 : 0 < pd := by rw [hpd]; unfold Sha.padn; omega
  have hpd64 : pd ≤ 64 := by rw [hpd]; unfold Sha.padn; omega
  have Hpd := Lib.hid hpd
  have hw8 : IntKind.u64.wrap (8 * (n : Int)) = ((8 * n : Nat) : Int) := by rw [show (8 * (n : Int)) = ((8 * n : Nat) : Int) by omega]; exact wrap_u64 _ hn
  have hcz : (Array.replicate pd (Value.int .u8 0))[0]? = some (.int .u8 0) := by simp [hpd0]
  obtain ⟨C, hC⟩ : ∃ C, C = (Array.replicate pd (Value.int .u8 0)).setIfInBounds 0 (.int .u8 128) := ⟨_, rfl⟩
  obtain ⟨W4, hW4⟩ : ∃ W4, W4 = W3.alloc (.cells C 5) := ⟨_, rfl⟩
  have hE4 : Ext W3 W4 := by rw [hW4]; exact Ext.alloc W3 _
  have hs4 : W4.heap.size = W3.heap.size + 1 := by rw [hW4]; simp
  have d9' : (W3.alloc (.cells ((Array.replicate pd (Value.int .u8 0)).setIfInBounds 0 (.int .u8 128)) 5)).cell? ⟨g, 9, none⟩ = some (.int .u64 (n : Int)) := by rw [← hC, ← hW4]; exact hE4.load d9
  have ho4 : Own W4 W3.heap.size 5 1 (some ⟨w1.heap.size + 1, 0, none⟩) pd pd (bvs (128 :: List.replicate (pd - 1) 0)) := by
    have h1 := Own.new W3 5 1 C pd pd (Nat.le_refl _) (by unfold maxLen; omega) (by rw [hC]; simp)
    rw [List.take_of_length_le (by rw [hC]; simp), ← hW4] at h1
    rw [hC, tailC pd hpd0] at h1
    rw [← hs3]
    exact h1
  have HW4 : Hid (W4 = W3.alloc (.cells ((Array.replicate pd (Value.int .u8 0)).setIfInBounds 0 (.int .u8 128)) 5)) := by show _ = _; rw [hW4, hC]
  have hT : T = 128 :: List.replicate (pd - 1) 0 ++ Vint.fixL (8 * n) 8 := by rw [hpd, HT0.out]; rfl
  have hTl : T.length = pd + 8 := by rw [HT0.out, tl_len, ← hpd]
  have hTb : bvs T = bvs (128 :: List.replicate (pd - 1) 0) ++ bvs (Vint.fixL (8 * n) 8) := by rw [hT, bvs_app]
  have HTl := Lib.hid hTl
  have HTb := Lib.hid hTb
  have hF := fixed_any (8 * n) 8 W4
  rw [fixed8_] at hF
  have HF := Lib.hid hF
  clear hpd hC hW4 hT hTl hTb hF
  go_wp2_with (first | (at_make; go_loud (refine wpList_mk rfl (.tmp 28) (.tmp 28) 22 rfl elemB (.int .u8 0) zeroB rfl pd _ _ rfl rfl (by omega) (by omega) ?_)))
  rw [← HW4.out]
  refine HF.out.mono ?_
  rintro e w5 ⟨A5, c5, rfl, ho5, hb5⟩
  clear d9'
  have ho4' := ho4.below hb5
  have hbs5 : W3.heap.size ≤ w5.heap.size := Nat.le_trans hE4.size hb5.size
  rw [Vint.fixL_len] at ho5 ⊢
  have hr5 : Rd w5 1 A5 8 (bvs (Vint.fixL (8 * n) 8)) := ho5.rd
  go_wp2_with (at_builtin; refine wpList_app rfl (.tmp 33) (.tmp 39) 22 rfl elemB W3.heap.size (some ⟨w1.heap.size + 1, 0, none⟩) pd pd (bvs (128 :: List.replicate (pd - 1) 0)) rfl A5 8 c5 (bvs (Vint.fixL (8 * n) 8)) rfl (pd + 8) rfl (bvs T) HTb.out ho4' hr5 (bvs_one _) (by omega) (by omega) hbs5 ?_; intro A6 c6 w6 ho6 hg6 hr6)
  have hb6 : Below W3.heap.size W3 w6 := below_app (Ext.tr hE4 hb5) ho4' hg6 hbs5
  have hh6 := (hb6.block _ (lt_of_heap hh3)).trans hh3
  have ho36 := ho3.below hb6
  have hAg : ∀ ad, A6 = some ad → ad.block ≠ w1.heap.size := by
    intro ad h e
    have h1 := ho6.nc
    rcases ho6.mem with h2 | ⟨g', off, cur, h3, h4, _⟩
    · omega
    · rw [h3] at h
      cases h
      have h5 : g' = w1.heap.size := e
      omega
  have hw := write_any w1.heap.size s rs A1 c1 0 W0.drew.heap.size A6 T c6 w6 hh6 ho36 (Nat.le_trans (Nat.le_trans hb1.size hE3.size) hb6.size) hrow (ho6.rd') (fun _ => hAg) (by rw [HTl.out]; omega) (by rw [HTl.out]; omega)
  rw [HTl.out] at hw
  refine hw.mono ?_
  clear hw
  rintro e w7 ⟨A7, c7, rfl, hh7, _, hK7⟩
  have hB7 : Below w.heap.size w w7 := by
    have h0 := hB0.size
    have h1 := hb1.size
    have h2 : W0.drew.heap.size = W0.heap.size := rfl
    have h3 : Below w.heap.size w w6 := ext_trans hB0 (ext_trans hE03 hb6)
    exact h3.trans (hK7.below h3.size (by omega) (fun k hk => by have := (ho1.row_lt k hk).1; omega))
  have hz7 : w7.heap[w.heap.size]? = some (.cells (Array.replicate 32 (Value.int .u8 0)) 31 (0, 0)) := by
    have h6 := (hb6.block _ (lt_of_heap hz3)).trans hz3
    refine (hK7.block _ (lt_of_heap h6) ?_ ?_).trans h6
    · have h1 := hb1.size
      have h2 : W0.drew.heap.size = W0.heap.size := rfl
      omega
    · intro e
      have h1 := (ho1.row_lt _ e.symm).1
      have h2 : W0.drew.heap.size = W0.heap.size := rfl
      omega
  clear hK7 hb6 hh6 ho36 hAg ho6 hg6 hr6 hr5 ho5 ho4' ho4 hb5 hE4 d8 d9 ho3 hz3 hg3 hh3
  go_wp2_with fail
  refine (sum_words w1.heap.size _ _ _ w7 hh7).mono ?_
  rintro e w8 ⟨rfl, hb8⟩
  obtain ⟨z, hz⟩ : ∃ z, z = Sha.run s (rs ++ T) ((rs ++ T).length / 64) := ⟨_, rfl⟩
  rw [← hz, ← outC_all]
  have hz8 := (hb8.block _ (lt_of_heap hz7)).trans hz7
  have Hz := Lib.hid hz
  clear hz
  go_wp2_with (first | (refine wpList_store_row rfl 31 (.tmp 2) (.tmp 45) rfl w.heap.size (outC z 8) rfl rfl 31 _ hz8 (infoS z 8 (by omega)) (by rw [outC_size z 8 (by omega)]; simp) (outC_one z 8) ?_))
  have hg9 := setRow_heap w8 w.heap.size _ (outC z 8) _ _ hz8
  refine bodyPost_ret (v := .agg (outC z 8)) (results_cell_row rfl _ _ w.heap.size 31 (outC z 8) (0, 0) _ rfl hg9 Try.underlying31 rfl (infoS z 8 (by omega))) rfl ⟨by rw [outC_all, Hz.out], ?_⟩
  have hB := hB7.trans (hb8.mono hB7.size)
  exact ⟨hB.os, hB.tape, hB.output, by simpa using hB.size, fun i hi => (setRow_other _ _ _ _ (by omega)).trans (hB.block i hi)⟩
end Go.Proofs.Ytnagbhaknmoilaa
