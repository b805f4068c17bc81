
/- Contract: live of layer 22. -/

import Derived.Test.YtnagbhaknmoilaaSgnRFd

namespace Go.Proofs.Ytnagbhaknmoilaa

open Go.RowKit

attribute [local go_sem] Oper.semAt_some

def p22 : List UInt8 := (List.replicate 100 (0 : UInt8)).set 70 9
theorem p22_len : p22.length = 100 := rfl
theorem Sg.first_eq {P : Nat → Bool} {k j : Nat} (hj : j < k) (h : P j = true) (hn : ∀ i, i < j → P i = false) : Sg.first P k = (j : Int) := by
  by_cases h0 : 0 ≤ Sg.first P k
  · obtain ⟨i, hi, he, hp, hm⟩ := Sg.first_hit h0
    rw [he]
    rcases Nat.lt_trichotomy i j with hlt | heq | hlt
    · rw [hn i hlt] at hp; cases hp
    · rw [heq]
    · rw [hm j hlt] at h; cases h
  · have := Sg.first_neg (P := P) (k := k) (by omega) j hj
    rw [h] at this; cases this
theorem live_blocks : Sg.blocks 100 = 2 := by decide
theorem live_l0 : Sg.lenN 100 0 = 64 := by decide
theorem live_l1 : Sg.lenN 100 1 = 36 := by decide
theorem live_tab : Sg.table p22 = [Sg.of (Sg.win p22 0 64), Sg.of (Sg.win p22 64 36)] := by
  unfold Sg.table
  rw [p22_len, show ((100 : Nat) : Int) = 100 from rfl, live_blocks]
  simp only [List.range, List.range.loop, List.map_cons, List.map_nil, Sg.blk, p22_len, Nat.mul_zero, Nat.mul_one]
  rw [show ((100 : Nat) : Int) = 100 from rfl, live_l0, live_l1]
theorem live_w0 : Wk.sum (Sg.win (5 :: p22) 0 64) ≠ Wk.sum (Sg.win p22 0 64) := by decide +kernel
theorem live_w1 : ∀ i, i < 65 → Wk.sum (Sg.win (5 :: p22) i 36) ≠ Wk.sum (Sg.win p22 64 36) := by decide +kernel
theorem live_e0 : Sg.win (5 :: p22) 1 64 = Sg.win p22 0 64 := by decide +kernel
theorem live_e1 : Sg.win (5 :: p22) 65 36 = Sg.win p22 64 36 := by decide +kernel
theorem live_find : Sg.findR (5 :: p22) 100 (Sg.table p22) = ([1, 65], 0) := by
  unfold Sg.findR
  rw [if_neg (by rw [List.length_cons, p22_len]; decide), if_neg (by rw [live_tab, live_blocks]; decide)]
  unfold Sg.find
  rw [live_tab]
  simp only [List.length_cons, List.length_nil, Nat.zero_add, List.range, List.range.loop, List.map_cons, List.map_nil]
  have h0 : Sg.place (5 :: p22) 100 [Sg.of (Sg.win p22 0 64), Sg.of (Sg.win p22 64 36)] 0 = 1 := by
    unfold Sg.place
    rw [live_l0]
    refine Sg.first_eq (j := 1) (by rw [List.length_cons, p22_len]; decide) ?_ (fun i hi => ?_)
    · simp [Sg.hitP, Sg.wkOf, Fd.hit, Sg.of, live_e0]
    · obtain rfl : i = 0 := by omega
      simp [Sg.hitP, Sg.wkOf, Sg.of, live_w0]
  have h1 : Sg.place (5 :: p22) 100 [Sg.of (Sg.win p22 0 64), Sg.of (Sg.win p22 64 36)] 1 = 65 := by
    unfold Sg.place
    rw [live_l1]
    refine Sg.first_eq (j := 65) (by rw [List.length_cons, p22_len]; decide) ?_ (fun i hi => ?_)
    · simp [Sg.hitP, Sg.wkOf, Fd.hit, Sg.of, live_e1]
    · simp [Sg.hitP, Sg.wkOf, Sg.of, live_w1 i hi]
  rw [h0, h1]
theorem live_none : Sg.findR [] 100 [] = ([], 220) := by decide
set_option maxRecDepth 100000 in
set_option maxHeartbeats 2000000 in
theorem live22 (w : World) : Calls Try.prog 6 #[] w fun e w' => e = .returned (.bool true) ∧ Below w.heap.size w w' := by
  go_enter Try.func6, Try.ntmps6
  go_wp2_with (first | (refine wpList_mk rfl (.const (.int .i64 100)) (.const (.int .i64 100)) 22 rfl elemB (.int .u8 0) (by kernel_rfl) rfl 100 .i64 .i64 rfl rfl (by omega) (by omega) ?_) | (go_at_call 7; refine Hid.out ?_))
  have hcell : (Array.replicate 100 (Value.int .u8 0)).setIfInBounds 70 (Value.int .u8 9) = (bvs p22).toArray := by rfl
  rw [hcell]
  obtain ⟨w1, hw1⟩ : ∃ w1, w1 = w.alloc (.cells (bvs p22).toArray 5) := ⟨_, rfl⟩
  have hx1 : Ext w w1 := by rw [hw1]; exact Ext.alloc _ _
  have hrd1 : RdB w1 (some ⟨w.heap.size, 0, none⟩) p22 := by
    rw [hw1]
    have := Rd.new w 5 (bvs p22)
    rwa [bvs_len] at this
  rw [← hw1]
  obtain ⟨gp, hgp⟩ : ∃ gp, gp = w.heap.size := ⟨_, rfl⟩
  rw [← hgp] at hrd1 ⊢
  have ht := table_any (some ⟨gp, 0, none⟩) p22 100 w1 hrd1 (by rw [p22_len]; omega) (by rw [p22_len]; omega)
  rw [p22_len] at ht
  refine ht.mono ?_
  rintro e2 w2 ⟨A2, c2, rfl, ho2, hx2⟩
  have hG2 : RdG w2 A2 (Sg.table p22) := ⟨ho2.rd, Sg.table_ok p22⟩
  have hTl : (Sg.table p22).length = 2 := by rw [live_tab]; rfl
  obtain ⟨S, hS⟩ : ∃ S, S = Sg.table p22 := ⟨_, rfl⟩
  have hc2 := ho2.nc
  rw [hTl] at hc2
  rw [← hS] at hG2 hTl
  rw [← hS, hTl]
  have HS := Lib.hid hS
  have hrd2 := hrd1.below hx2
  have hE2 := Ext.tr hx1 hx2
  clear hcell hw1 hx1 ht ho2 hS hrd1 hgp
  -- append([]byte{5}, p...)
  have hE3 : Ext w2 (w2.alloc (.cells #[.int .u8 5] 5)) := Ext.alloc _ _
  have ho3 : Own (w2.alloc (.cells #[.int .u8 5] 5)) w.heap.size 5 1 (some ⟨w2.heap.size, 0, none⟩) 1 1 [.int .u8 5] :=
    ⟨rfl, Nat.le_refl _, by decide, .inr ⟨_, 0, #[.int .u8 5], rfl, hE2.size, heap_alloc_new w2 _, by decide, rfl⟩⟩
  have hrd3 := hrd2.below hE3
  have Hap : Hid (bvs (5 :: p22) = [.int .u8 5] ++ bvs p22) := rfl
  have hr3 : Rd (w2.alloc (.cells #[.int .u8 5] 5)) 1 (some ⟨gp, 0, none⟩) 100 (bvs p22) := hrd3
  have hs3 := Nat.le_trans hE2.size hE3.size
  clear hrd2 hrd3
  go_wp2_with (first | (refine wpList_app rfl (.tmp 15) (.tmp 16) 22 rfl elemB w.heap.size (some ⟨w2.heap.size, 0, none⟩) 1 1 [.int .u8 5] rfl (some ⟨gp, 0, none⟩) 100 100 (bvs p22) rfl 101 rfl (bvs (5 :: p22)) Hap.out ho3 hr3 (bvs_one _) (by omega) (by omega) hs3 ?_; intro A4 c4 w4 ho4 hg4 hr4; refine Hid.out ?_))
  have hE4 : Ext w w4 := (Ext.tr hE2 hE3).grown hg4 hs3 (fun k hk => (ho3.row_lt k hk).1)
  have hx4 : Ext w2 w4 := hE3.grown hg4 hE3.size (fun k hk => by
    have h1 : k = w2.heap.size := by unfold ownRow at hk; simpa using hk.symm
    omega)
  have hG4 := hG2.below hx4
  have hc4 := ho4.nc
  have hrd4 : RdB w4 A4 (5 :: p22) := ho4.rd
  have hf := find_any A4 c4 (5 :: p22) 100 A2 c2 S w4 hrd4 (by rw [List.length_cons, p22_len]; exact hc4) (by rw [List.length_cons, p22_len]; omega) hG4 (by rw [hTl]; exact hc2) (by omega) (by omega)
  rw [List.length_cons, p22_len, hTl, HS.out, live_find] at hf
  clear ho3 hr3 hg4 hr4 ho4 hG2 hG4 hrd4 hx2 hE2 hE3 hx4
  refine Lib.hid ?_
  go_wp2_with (first | (go_at_call 13; refine hf.mono ?_; refine Hid.out ?_))
  rintro e5 w5 ⟨A5, c5, rfl, hrd5, hx5⟩
  have hE5 := Ext.tr hE4 hx5
  have hf2 := find_any none 0 [] 100 none 0 [] w5 (RdB.nil_ _ _) (by simp) (by simp) (RdG.nil_ _ _) (by simp) (by omega) (by omega)
  rw [live_none] at hf2
  simp only [List.length_nil] at hf2
  clear hf hx5 hE4
  refine Lib.hid ?_
  go_wp2_with (first | (go_at_call 13; refine hf2.mono ?_; refine Hid.out ?_))
  rintro e6 w6 ⟨A6, c6, rfl, -, hx6⟩
  have hE6 := Ext.tr hE5 hx6
  have hrd6 := hrd5.below hx6
  have hbk := block_any 100 1 (by omega) (by omega) w6
  rw [show Sg.block 100 1 = (64, 36) by decide] at hbk
  unfold bl2 at hbk
  simp only at hbk
  have hbs := fun w => blocks_any 100 (by omega) (by omega) w
  rw [live_blocks] at hbs
  clear hf2 hx6 hE5 hrd5
  have hE7 : Ext w6 (w6.alloc (.cells #[.int .i64 1, .int .i64 65] 3)) := Ext.alloc _ _
  have hint := ref_ints22 A5 (some ⟨w6.heap.size, 0, none⟩) [1, 65] [1, 65] c5 2 _ (hrd6.below hE7) (Rd.new w6 3 (ivs [1, 65])) (by decide)
  rw [show decide (([1, 65] : List Int) = [1, 65]) = true by decide] at hint
  simp only [List.length_cons, List.length_nil, Nat.zero_add, Nat.reduceAdd] at hint
  refine Lib.hid ?_
  go_wp2_with (first | (go_at_call 9; refine hbk.mono ?_; clear hbk; rintro e7 w7 ⟨rfl, rfl⟩) | (go_at_call 11; refine (hbs _).mono ?_; rintro e8 w8 ⟨rfl, rfl⟩) | (go_at_call 16; refine (num22 _ _).mono ?_; rintro e9 w9 ⟨rfl, rfl⟩) | (go_at_call 15; refine hint.mono ?_; clear hint; rintro e10 w10 ⟨rfl, hx10⟩))
  go_ret
  exact ⟨rfl, Ext.tr hE6 (Ext.tr hE7 hx10)⟩
end Go.Proofs.Ytnagbhaknmoilaa
