/- The laws' own first line (scowlaw01.live): it returns true. Written by wip/tools/gen_live01.py. -/
import Derived.Test.YtajflhdaljnoaaaVintRef2
import Derived.Test.YtajflhdaljnoaaaReg2
namespace Go.Proofs.Ytajflhdaljnoaaa
open Go.RowKit
attribute [local go_sem] Oper.semAt_some

theorem RdB.lit' (w : World) (e : TypeId) (bs : List UInt8) (b : Nat) (hb : b = w.heap.size) : RdB (w.alloc (.cells (bvs bs).toArray e)) (some ⟨b, 0, none⟩) bs := by
  subst hb; exact RdB.lit w e bs
theorem live_get1 : getRes (Vint.get [172, 2, 9]) = .tuple #[.int .u64 300, .int .i64 2, .int .i64 0] := by
  rw [show Vint.get [172, 2, 9] = (300, 2, 0) by decide +kernel]; rfl
theorem live_get2 : getRes (Vint.get [128, 0]) = .tuple #[.int .u64 0, .int .i64 0, .int .i64 12] := by
  rw [show Vint.get [128, 0] = (0, 0, 12) by decide +kernel]; rfl
theorem live_get3 : Vint.getBytes [2, 7, 8, 9] = ([7, 8], 3, 0) := by decide +kernel
theorem live_put : Vint.put 300 = [172, 2] := by decide +kernel
theorem live_putb : Vint.putBytes [5] = [1, 5] := by decide +kernel
theorem live_fix : Vint.fixed 258 2 = [1, 2] := by decide +kernel
theorem live_num : Vint.number [1, 2] = 258 := by decide +kernel

set_option maxRecDepth 100000 in
set_option maxHeartbeats 4000000 in
theorem live01 (w : World) : Calls Try.prog 12 #[] w fun e w' => e = .returned (.bool true) ∧ Below w.heap.size w w' := by
  have h300 := fun W => vput_any 300 (by omega) W
  rw [live_put] at h300
  have h258 := fun W => fixed_any 258 2 W
  rw [live_fix] at h258
  have hnum := fun W A c (h : RdB W A [1, 2]) => number_any A [1, 2] c W h (by simp)
  rw [live_num] at hnum
  have h5 := fun W A c (h : RdB W A [5]) => putbytes_any A [5] c W h (by simp)
  rw [live_putb] at h5
  have hg1 := fun W A (h : RdB W A [172, 2, 9]) => get_any A [172, 2, 9] 3 W h (by simp)
  rw [live_get1] at hg1
  have hg2 := fun W A (h : RdB W A [128, 0]) => get_any A [128, 0] 2 W h (by simp)
  rw [live_get2] at hg2
  have hg3 := fun W A (h : RdB W A [2, 7, 8, 9]) => getbytes_any A [2, 7, 8, 9] 4 W h (by simp) (by simp)
  simp only [live_get3] at hg3
  have H300 := Lib.hid h300
  have H258 := Lib.hid h258
  have Hnum := Lib.hid hnum
  have H5 := Lib.hid h5
  have Hg2 := Lib.hid hg2
  have Hg3 := Lib.hid hg3
  clear h300 h258 hnum h5 hg2 hg3
  go_enter Try.func12, Try.ntmps12
  go_wp2_with fail
  refine (hg1 _ _ (RdB.lit _ 5 [172, 2, 9])).mono ?_
  rintro e w1 ⟨rfl, hb1⟩
  replace hb1 := Ext.tr (Ext.alloc w (.cells #[.int .u8 172, .int .u8 2, .int .u8 9] 5)) hb1
  clear hg1
  go_wp2_with fail
  refine (Hg2.out _ _ (RdB.lit _ 5 [128, 0])).mono ?_
  rintro e w2 ⟨rfl, hb2'⟩
  have hb2 := Ext.tr hb1 (Ext.tr (Ext.alloc w1 (.cells #[.int .u8 128, .int .u8 0] 5)) hb2')
  clear hb1 hb2'
  go_wp2_with fail
  refine (Hg3.out _ _ (RdB.lit _ 5 [2, 7, 8, 9])).mono ?_
  rintro e w3 ⟨A3, c3, rfl, ho3, hb3'⟩
  have hb3 := Ext.tr hb2 (Ext.tr (Ext.alloc w2 (.cells #[.int .u8 2, .int .u8 7, .int .u8 8, .int .u8 9] 5)) hb3')
  clear hb2 hb3'
  simp only [gotRes]
  go_wp2_with fail
  have h300 := H300.out
  have h258 := H258.out
  have hnum := Hnum.out
  have h5 := H5.out
  refine rg_start (by kernel_rfl) ?_
  have hE : Ext w3 w3.drew := Ext.drew w3
  refine rg_join w3 0 1 2 3 28 29 30 31 (.string ⟨#[172, 2]⟩) (.string ⟨#[172, 2]⟩) ?_ ?_
  · intro hrest
    simp only [Act.put, List.setIfInBounds_toArray, List.set_cons_zero, List.set_cons_succ] at hrest
    refine rg_two 0 2 (by kernel_rfl) ?_ ?_
    · refine op_call2 0 rfl (by rfl) (by go_simp <;> rfl) (h300 _) ?_
      rintro e w4 ⟨A4, c4, rfl, ho4, hb4⟩
      refine ⟨_, rfl, hb4, ?_⟩
      simp only [Act.put, List.setIfInBounds_toArray, List.set_cons_zero, List.set_cons_succ]
      refine rg_take 1 rfl (by kernel_rfl) (by kernel_rfl) (by kernel_rfl) (fun _ _ _ _ h => h) (by rfl) ⟨_, fun w' hx => ex_convert rfl rfl (run_str w' _ _ 5 A4 [172, 2] c4 Try.underlying23 Try.underlying5 Try.underlying9 (ho4.below hx).rd' _ rfl), ?_⟩
      simp only [Act.put, List.setIfInBounds_toArray, List.set_cons_zero, List.set_cons_succ]
      refine rg_make 2 rfl (by kernel_rfl) (by rfl) ⟨_, _, by (go_simp <;> first | exact ⟨rfl, rfl⟩ | rfl), Ext.alloc _ _, ?_⟩
      simp only [Act.put, List.setIfInBounds_toArray, List.set_cons_zero, List.set_cons_succ]
      refine rg_take 3 rfl (by kernel_rfl) (by kernel_rfl) (by kernel_rfl) (fun _ _ _ _ h => h) (by rfl) ⟨_, fun w' hx => ex_convert rfl rfl (run_str w' _ _ 5 _ [172, 2] 2 Try.underlying23 Try.underlying5 Try.underlying9 ((RdB.lit' w4 5 [172, 2] _ (by simp)).below hx) _ rfl), ?_⟩
      simp only [Act.put, List.setIfInBounds_toArray, List.set_cons_zero, List.set_cons_succ]
      have hE := Ext.tr (Ext.tr hE hb4) (Ext.alloc w4 (.cells #[.int .u8 172, .int .u8 2] 5))
      clear ho4 hb4
      exact rg_cast (by kernel_rfl) (hrest _ _ _ hE)
    · refine op_make 2 rfl (by rfl) ⟨_, _, by (go_simp <;> first | exact ⟨rfl, rfl⟩ | rfl), Ext.alloc _ _, ?_⟩
      simp only [Act.put, List.setIfInBounds_toArray, List.set_cons_zero, List.set_cons_succ]
      refine rg_take 3 rfl (by kernel_rfl) (by kernel_rfl) (by kernel_rfl) (fun _ _ _ _ h => h) (by rfl) ⟨_, fun w' hx => ex_convert rfl rfl (run_str w' _ _ 5 _ [172, 2] 2 Try.underlying23 Try.underlying5 Try.underlying9 ((RdB.lit' _ 5 [172, 2] _ (by simp)).below hx) _ rfl), ?_⟩
      simp only [Act.put, List.setIfInBounds_toArray, List.set_cons_zero, List.set_cons_succ]
      refine rg_call2 0 rfl (by kernel_rfl) (by rfl) (by go_simp <;> rfl) (h300 _) ?_
      rintro e w4 ⟨A4, c4, rfl, ho4, hb4⟩
      refine ⟨_, rfl, hb4, ?_⟩
      simp only [Act.put, List.setIfInBounds_toArray, List.set_cons_zero, List.set_cons_succ]
      refine rg_take 1 rfl (by kernel_rfl) (by kernel_rfl) (by kernel_rfl) (fun _ _ _ _ h => h) (by rfl) ⟨_, fun w' hx => ex_convert rfl rfl (run_str w' _ _ 5 A4 [172, 2] c4 Try.underlying23 Try.underlying5 Try.underlying9 (ho4.below hx).rd' _ rfl), ?_⟩
      simp only [Act.put, List.setIfInBounds_toArray, List.set_cons_zero, List.set_cons_succ]
      have hE := Ext.tr (Ext.tr hE (Ext.alloc _ (.cells #[.int .u8 172, .int .u8 2] 5))) hb4
      clear ho4 hb4
      exact rg_cast (by kernel_rfl) (hrest _ _ _ hE)
  clear hE
  intro v4 u4 W4 hE
  simp only [Act.put, List.setIfInBounds_toArray, List.set_cons_zero, List.set_cons_succ]
  refine rg_take 4 rfl (by kernel_rfl) (by kernel_rfl) (by kernel_rfl) (fun _ _ _ _ h => h) (by rfl) ⟨_, fun w' hx => by (go_simp <;> with_reducible rfl), ?_⟩
  simp only [Act.put, List.setIfInBounds_toArray, List.set_cons_zero, List.set_cons_succ]
  refine rg_take 5 rfl (by kernel_rfl) (by kernel_rfl) (by kernel_rfl) (fun _ _ _ _ h => h) (by rfl) ⟨_, fun w' hx => by (go_simp <;> with_reducible rfl), ?_⟩
  simp only [Act.put, List.setIfInBounds_toArray, List.set_cons_zero, List.set_cons_succ]
  refine rg_take 6 rfl (by kernel_rfl) (by kernel_rfl) (by kernel_rfl) (fun _ _ _ _ h => h) (by rfl) ⟨_, fun w' hx => by (go_simp <;> with_reducible rfl), ?_⟩
  simp only [Act.put, List.setIfInBounds_toArray, List.set_cons_zero, List.set_cons_succ]
  refine rg_take 7 rfl (by kernel_rfl) (by kernel_rfl) (by kernel_rfl) (fun _ _ _ _ h => h) (by rfl) ⟨_, fun w' hx => by (go_simp <;> with_reducible rfl), ?_⟩
  simp only [Act.put, List.setIfInBounds_toArray, List.set_cons_zero, List.set_cons_succ]
  refine rg_take 8 rfl (by kernel_rfl) (by kernel_rfl) (by kernel_rfl) (fun _ _ _ _ h => h) (by rfl) ⟨_, fun w' hx => by (go_simp <;> with_reducible rfl), ?_⟩
  simp only [Act.put, List.setIfInBounds_toArray, List.set_cons_zero, List.set_cons_succ]
  refine rg_take 9 rfl (by kernel_rfl) (by kernel_rfl) (by kernel_rfl) (fun _ _ _ _ h => h) (by rfl) ⟨_, fun w' hx => by (go_simp <;> with_reducible rfl), ?_⟩
  simp only [Act.put, List.setIfInBounds_toArray, List.set_cons_zero, List.set_cons_succ]
  refine rg_take 10 rfl (by kernel_rfl) (by kernel_rfl) (by kernel_rfl) (fun _ _ _ _ h => h) (by rfl) ⟨_, fun w' hx => by (go_simp <;> with_reducible rfl), ?_⟩
  simp only [Act.put, List.setIfInBounds_toArray, List.set_cons_zero, List.set_cons_succ]
  refine rg_take 11 rfl (by kernel_rfl) (by kernel_rfl) (by kernel_rfl) (fun _ _ _ _ h => h) (by rfl) ⟨_, fun w' hx => by (go_simp <;> with_reducible rfl), ?_⟩
  simp only [Act.put, List.setIfInBounds_toArray, List.set_cons_zero, List.set_cons_succ]
  refine rg_take 12 rfl (by kernel_rfl) (by kernel_rfl) (by kernel_rfl) (fun _ _ _ _ h => h) (by rfl) ⟨_, fun w' hx => by (go_simp <;> with_reducible rfl), ?_⟩
  simp only [Act.put, List.setIfInBounds_toArray, List.set_cons_zero, List.set_cons_succ]
  refine rg_take 13 rfl (by kernel_rfl) (by kernel_rfl) (by kernel_rfl) (fun _ _ _ _ h => h) (by rfl) ⟨_, fun w' hx => by (go_simp <;> with_reducible rfl), ?_⟩
  simp only [Act.put, List.setIfInBounds_toArray, List.set_cons_zero, List.set_cons_succ]
  refine rg_take 14 rfl (by kernel_rfl) (by kernel_rfl) (by kernel_rfl) (fun _ _ _ _ h => h) (by rfl) ⟨_, fun w' hx => by (go_simp <;> with_reducible rfl), ?_⟩
  simp only [Act.put, List.setIfInBounds_toArray, List.set_cons_zero, List.set_cons_succ]
  refine rg_call2 15 rfl (by kernel_rfl) (by rfl) (by go_simp <;> rfl) (num01 0 _) ?_
  rintro e w' ⟨rfl, rfl⟩
  refine ⟨_, rfl, Ext.refl _, ?_⟩
  simp only [Act.put, List.setIfInBounds_toArray, List.set_cons_zero, List.set_cons_succ]
  refine rg_take 16 rfl (by kernel_rfl) (by kernel_rfl) (by kernel_rfl) (fun _ _ _ _ h => h) (by rfl) ⟨_, fun w' hx => by (go_simp <;> with_reducible rfl), ?_⟩
  simp only [Act.put, List.setIfInBounds_toArray, List.set_cons_zero, List.set_cons_succ]
  refine rg_take 17 rfl (by kernel_rfl) (by kernel_rfl) (by kernel_rfl) (fun _ _ _ _ h => h) (by rfl) ⟨_, fun w' hx => by (go_simp <;> with_reducible rfl), ?_⟩
  simp only [Act.put, List.setIfInBounds_toArray, List.set_cons_zero, List.set_cons_succ]
  refine rg_take 18 rfl (by kernel_rfl) (by kernel_rfl) (by kernel_rfl) (fun _ _ _ _ h => h) (by rfl) ⟨_, fun w' hx => by (go_simp <;> with_reducible rfl), ?_⟩
  simp only [Act.put, List.setIfInBounds_toArray, List.set_cons_zero, List.set_cons_succ]
  refine rg_take 19 rfl (by kernel_rfl) (by kernel_rfl) (by kernel_rfl) (fun _ _ _ _ h => h) (by rfl) ⟨_, fun w' hx => by (go_simp <;> with_reducible rfl), ?_⟩
  simp only [Act.put, List.setIfInBounds_toArray, List.set_cons_zero, List.set_cons_succ]
  refine rg_call2 20 rfl (by kernel_rfl) (by rfl) (by go_simp <;> rfl) (num01 12 _) ?_
  rintro e w' ⟨rfl, rfl⟩
  refine ⟨_, rfl, Ext.refl _, ?_⟩
  simp only [Act.put, List.setIfInBounds_toArray, List.set_cons_zero, List.set_cons_succ]
  refine rg_take 21 rfl (by kernel_rfl) (by kernel_rfl) (by kernel_rfl) (fun _ _ _ _ h => h) (by rfl) ⟨_, fun w' hx => by (go_simp <;> with_reducible rfl), ?_⟩
  simp only [Act.put, List.setIfInBounds_toArray, List.set_cons_zero, List.set_cons_succ]
  refine rg_take 22 rfl (by kernel_rfl) (by kernel_rfl) (by kernel_rfl) (fun _ _ _ _ h => h) (by rfl) ⟨_, fun w' hx => by (go_simp <;> with_reducible rfl), ?_⟩
  simp only [Act.put, List.setIfInBounds_toArray, List.set_cons_zero, List.set_cons_succ]
  refine rg_take 23 rfl (by kernel_rfl) (by kernel_rfl) (by kernel_rfl) (fun _ _ _ _ h => h) (by rfl) ⟨_, fun w' hx => by (go_simp <;> with_reducible rfl), ?_⟩
  simp only [Act.put, List.setIfInBounds_toArray, List.set_cons_zero, List.set_cons_succ]
  refine rg_join w3 24 25 26 27 52 53 54 55 (.string ⟨#[1, 2]⟩) (.string ⟨#[1, 2]⟩) ?_ ?_
  · intro hrest
    simp only [Act.put, List.setIfInBounds_toArray, List.set_cons_zero, List.set_cons_succ] at hrest
    refine rg_two 24 26 (by kernel_rfl) ?_ ?_
    · refine op_call2 24 rfl (by rfl) (by go_simp <;> rfl) (h258 _) ?_
      rintro e w5 ⟨A5, c5, rfl, ho5, hb5⟩
      refine ⟨_, rfl, hb5, ?_⟩
      simp only [Act.put, List.setIfInBounds_toArray, List.set_cons_zero, List.set_cons_succ]
      refine rg_take 25 rfl (by kernel_rfl) (by kernel_rfl) (by kernel_rfl) (fun _ _ _ _ h => h) (by rfl) ⟨_, fun w' hx => ex_convert rfl rfl (run_str w' _ _ 5 A5 [1, 2] c5 Try.underlying23 Try.underlying5 Try.underlying9 (ho5.below hx).rd' _ rfl), ?_⟩
      simp only [Act.put, List.setIfInBounds_toArray, List.set_cons_zero, List.set_cons_succ]
      refine rg_make 26 rfl (by kernel_rfl) (by rfl) ⟨_, _, by (go_simp <;> first | exact ⟨rfl, rfl⟩ | rfl), Ext.alloc _ _, ?_⟩
      simp only [Act.put, List.setIfInBounds_toArray, List.set_cons_zero, List.set_cons_succ]
      refine rg_take 27 rfl (by kernel_rfl) (by kernel_rfl) (by kernel_rfl) (fun _ _ _ _ h => h) (by rfl) ⟨_, fun w' hx => ex_convert rfl rfl (run_str w' _ _ 5 _ [1, 2] 2 Try.underlying23 Try.underlying5 Try.underlying9 ((RdB.lit' w5 5 [1, 2] _ (by simp)).below hx) _ rfl), ?_⟩
      simp only [Act.put, List.setIfInBounds_toArray, List.set_cons_zero, List.set_cons_succ]
      have hE := Ext.tr (Ext.tr hE hb5) (Ext.alloc w5 (.cells #[.int .u8 1, .int .u8 2] 5))
      clear ho5 hb5
      exact rg_cast (by kernel_rfl) (hrest _ _ _ hE)
    · refine op_make 26 rfl (by rfl) ⟨_, _, by (go_simp <;> first | exact ⟨rfl, rfl⟩ | rfl), Ext.alloc _ _, ?_⟩
      simp only [Act.put, List.setIfInBounds_toArray, List.set_cons_zero, List.set_cons_succ]
      refine rg_take 27 rfl (by kernel_rfl) (by kernel_rfl) (by kernel_rfl) (fun _ _ _ _ h => h) (by rfl) ⟨_, fun w' hx => ex_convert rfl rfl (run_str w' _ _ 5 _ [1, 2] 2 Try.underlying23 Try.underlying5 Try.underlying9 ((RdB.lit' _ 5 [1, 2] _ (by simp)).below hx) _ rfl), ?_⟩
      simp only [Act.put, List.setIfInBounds_toArray, List.set_cons_zero, List.set_cons_succ]
      refine rg_call2 24 rfl (by kernel_rfl) (by rfl) (by go_simp <;> rfl) (h258 _) ?_
      rintro e w5 ⟨A5, c5, rfl, ho5, hb5⟩
      refine ⟨_, rfl, hb5, ?_⟩
      simp only [Act.put, List.setIfInBounds_toArray, List.set_cons_zero, List.set_cons_succ]
      refine rg_take 25 rfl (by kernel_rfl) (by kernel_rfl) (by kernel_rfl) (fun _ _ _ _ h => h) (by rfl) ⟨_, fun w' hx => ex_convert rfl rfl (run_str w' _ _ 5 A5 [1, 2] c5 Try.underlying23 Try.underlying5 Try.underlying9 (ho5.below hx).rd' _ rfl), ?_⟩
      simp only [Act.put, List.setIfInBounds_toArray, List.set_cons_zero, List.set_cons_succ]
      have hE := Ext.tr (Ext.tr hE (Ext.alloc _ (.cells #[.int .u8 1, .int .u8 2] 5))) hb5
      clear ho5 hb5
      exact rg_cast (by kernel_rfl) (hrest _ _ _ hE)
  clear hE
  intro v5 u5 W5 hE
  simp only [Act.put, List.setIfInBounds_toArray, List.set_cons_zero, List.set_cons_succ]
  refine rg_take 28 rfl (by kernel_rfl) (by kernel_rfl) (by kernel_rfl) (fun _ _ _ _ h => h) (by rfl) ⟨_, fun w' hx => by (go_simp <;> with_reducible rfl), ?_⟩
  simp only [Act.put, List.setIfInBounds_toArray, List.set_cons_zero, List.set_cons_succ]
  refine rg_take 29 rfl (by kernel_rfl) (by kernel_rfl) (by kernel_rfl) (fun _ _ _ _ h => h) (by rfl) ⟨_, fun w' hx => by (go_simp <;> with_reducible rfl), ?_⟩
  simp only [Act.put, List.setIfInBounds_toArray, List.set_cons_zero, List.set_cons_succ]
  refine rg_take 30 rfl (by kernel_rfl) (by kernel_rfl) (by kernel_rfl) (fun _ _ _ _ h => h) (by rfl) ⟨_, fun w' hx => by (go_simp <;> with_reducible rfl), ?_⟩
  simp only [Act.put, List.setIfInBounds_toArray, List.set_cons_zero, List.set_cons_succ]
  refine rg_make 31 rfl (by kernel_rfl) (by rfl) ⟨_, _, by (go_simp <;> first | exact ⟨rfl, rfl⟩ | rfl), Ext.alloc _ _, ?_⟩
  simp only [Act.put, List.setIfInBounds_toArray, List.set_cons_zero, List.set_cons_succ]
  refine rg_call2 32 rfl (by kernel_rfl) (by rfl) (by go_simp <;> rfl) (hnum _ _ 2 (RdB.lit' _ 5 [1, 2] _ (by simp))) ?_
  rintro e w6 ⟨rfl, rfl⟩
  refine ⟨_, rfl, Ext.refl _, ?_⟩
  simp only [Act.put, List.setIfInBounds_toArray, List.set_cons_zero, List.set_cons_succ]
  have hE := Ext.tr hE (Ext.alloc _ (.cells #[.int .u8 1, .int .u8 2] 5))
  refine rg_take 33 rfl (by kernel_rfl) (by kernel_rfl) (by kernel_rfl) (fun _ _ _ _ h => h) (by rfl) ⟨_, fun w' hx => by (go_simp <;> with_reducible rfl), ?_⟩
  simp only [Act.put, List.setIfInBounds_toArray, List.set_cons_zero, List.set_cons_succ]
  refine rg_take 34 rfl (by kernel_rfl) (by kernel_rfl) (by kernel_rfl) (fun _ _ _ _ h => h) (by rfl) ⟨_, fun w' hx => by (go_simp <;> with_reducible rfl), ?_⟩
  simp only [Act.put, List.setIfInBounds_toArray, List.set_cons_zero, List.set_cons_succ]
  refine rg_take 35 rfl (by kernel_rfl) (by kernel_rfl) (by kernel_rfl) (fun _ _ _ _ h => h) (by rfl) ⟨_, fun w' hx => by (go_simp <;> with_reducible rfl), ?_⟩
  simp only [Act.put, List.setIfInBounds_toArray, List.set_cons_zero, List.set_cons_succ]
  refine rg_take 36 rfl (by kernel_rfl) (by kernel_rfl) (by kernel_rfl) (fun _ _ _ _ h => h) (by rfl) ⟨_, fun w' hx => by (go_simp <;> with_reducible rfl), ?_⟩
  simp only [Act.put, List.setIfInBounds_toArray, List.set_cons_zero, List.set_cons_succ]
  refine rg_take 37 rfl (by kernel_rfl) (by kernel_rfl) (by kernel_rfl) (fun _ _ _ _ h => h) (by rfl) ⟨_, fun w' hx => ex_convert rfl rfl (run_str w' _ _ 5 A3 [7, 8] c3 Try.underlying23 Try.underlying5 Try.underlying9 ((ho3.below hE).below hx).rd' _ rfl), ?_⟩
  simp only [Act.put, List.setIfInBounds_toArray, List.set_cons_zero, List.set_cons_succ]
  refine rg_make 38 rfl (by kernel_rfl) (by rfl) ⟨_, _, by (go_simp <;> first | exact ⟨rfl, rfl⟩ | rfl), Ext.alloc _ _, ?_⟩
  simp only [Act.put, List.setIfInBounds_toArray, List.set_cons_zero, List.set_cons_succ]
  refine rg_take 39 rfl (by kernel_rfl) (by kernel_rfl) (by kernel_rfl) (fun _ _ _ _ h => h) (by rfl) ⟨_, fun w' hx => ex_convert rfl rfl (run_str w' _ _ 5 _ [7, 8] 2 Try.underlying23 Try.underlying5 Try.underlying9 ((RdB.lit' _ 5 [7, 8] _ (by simp)).below hx) _ rfl), ?_⟩
  simp only [Act.put, List.setIfInBounds_toArray, List.set_cons_zero, List.set_cons_succ]
  have hE := Ext.tr hE (Ext.alloc _ (.cells #[.int .u8 7, .int .u8 8] 5))
  refine rg_take 40 rfl (by kernel_rfl) (by kernel_rfl) (by kernel_rfl) (fun _ _ _ _ h => h) (by rfl) ⟨_, fun w' hx => by (go_simp <;> with_reducible rfl), ?_⟩
  simp only [Act.put, List.setIfInBounds_toArray, List.set_cons_zero, List.set_cons_succ]
  refine rg_take 41 rfl (by kernel_rfl) (by kernel_rfl) (by kernel_rfl) (fun _ _ _ _ h => h) (by rfl) ⟨_, fun w' hx => by (go_simp <;> with_reducible rfl), ?_⟩
  simp only [Act.put, List.setIfInBounds_toArray, List.set_cons_zero, List.set_cons_succ]
  refine rg_take 42 rfl (by kernel_rfl) (by kernel_rfl) (by kernel_rfl) (fun _ _ _ _ h => h) (by rfl) ⟨_, fun w' hx => by (go_simp <;> with_reducible rfl), ?_⟩
  simp only [Act.put, List.setIfInBounds_toArray, List.set_cons_zero, List.set_cons_succ]
  refine rg_take 43 rfl (by kernel_rfl) (by kernel_rfl) (by kernel_rfl) (fun _ _ _ _ h => h) (by rfl) ⟨_, fun w' hx => by (go_simp <;> with_reducible rfl), ?_⟩
  simp only [Act.put, List.setIfInBounds_toArray, List.set_cons_zero, List.set_cons_succ]
  refine rg_take 44 rfl (by kernel_rfl) (by kernel_rfl) (by kernel_rfl) (fun _ _ _ _ h => h) (by rfl) ⟨_, fun w' hx => by (go_simp <;> with_reducible rfl), ?_⟩
  simp only [Act.put, List.setIfInBounds_toArray, List.set_cons_zero, List.set_cons_succ]
  refine rg_take 45 rfl (by kernel_rfl) (by kernel_rfl) (by kernel_rfl) (fun _ _ _ _ h => h) (by rfl) ⟨_, fun w' hx => by (go_simp <;> with_reducible rfl), ?_⟩
  simp only [Act.put, List.setIfInBounds_toArray, List.set_cons_zero, List.set_cons_succ]
  refine rg_take 46 rfl (by kernel_rfl) (by kernel_rfl) (by kernel_rfl) (fun _ _ _ _ h => h) (by rfl) ⟨_, fun w' hx => by (go_simp <;> with_reducible rfl), ?_⟩
  simp only [Act.put, List.setIfInBounds_toArray, List.set_cons_zero, List.set_cons_succ]
  refine rg_take 47 rfl (by kernel_rfl) (by kernel_rfl) (by kernel_rfl) (fun _ _ _ _ h => h) (by rfl) ⟨_, fun w' hx => by (go_simp <;> with_reducible rfl), ?_⟩
  simp only [Act.put, List.setIfInBounds_toArray, List.set_cons_zero, List.set_cons_succ]
  refine rg_call2 48 rfl (by kernel_rfl) (by rfl) (by go_simp <;> rfl) (num01 0 _) ?_
  rintro e w' ⟨rfl, rfl⟩
  refine ⟨_, rfl, Ext.refl _, ?_⟩
  simp only [Act.put, List.setIfInBounds_toArray, List.set_cons_zero, List.set_cons_succ]
  refine rg_take 49 rfl (by kernel_rfl) (by kernel_rfl) (by kernel_rfl) (fun _ _ _ _ h => h) (by rfl) ⟨_, fun w' hx => by (go_simp <;> with_reducible rfl), ?_⟩
  simp only [Act.put, List.setIfInBounds_toArray, List.set_cons_zero, List.set_cons_succ]
  refine rg_take 50 rfl (by kernel_rfl) (by kernel_rfl) (by kernel_rfl) (fun _ _ _ _ h => h) (by rfl) ⟨_, fun w' hx => by (go_simp <;> with_reducible rfl), ?_⟩
  simp only [Act.put, List.setIfInBounds_toArray, List.set_cons_zero, List.set_cons_succ]
  refine rg_take 51 rfl (by kernel_rfl) (by kernel_rfl) (by kernel_rfl) (fun _ _ _ _ h => h) (by rfl) ⟨_, fun w' hx => by (go_simp <;> with_reducible rfl), ?_⟩
  simp only [Act.put, List.setIfInBounds_toArray, List.set_cons_zero, List.set_cons_succ]
  refine rg_join5 w3 52 53 54 55 56 80 81 82 83 84 (.string ⟨#[1, 5]⟩) (.string ⟨#[1, 5]⟩) ?_ ?_
  · intro hrest
    simp only [Act.put, List.setIfInBounds_toArray, List.set_cons_zero, List.set_cons_succ] at hrest
    refine rg_two 52 55 (by kernel_rfl) ?_ ?_
    · refine op_make 52 rfl (by rfl) ⟨_, _, by (go_simp <;> first | exact ⟨rfl, rfl⟩ | rfl), Ext.alloc _ _, ?_⟩
      simp only [Act.put, List.setIfInBounds_toArray, List.set_cons_zero, List.set_cons_succ]
      refine rg_two 53 55 (by kernel_rfl) ?_ ?_
      · refine op_call2 53 rfl (by rfl) (by go_simp <;> rfl) (h5 _ _ 1 (RdB.lit' _ 5 [5] _ (by simp))) ?_
        rintro e w7 ⟨A7, c7, rfl, ho7, hb7⟩
        refine ⟨_, rfl, hb7, ?_⟩
        simp only [Act.put, List.setIfInBounds_toArray, List.set_cons_zero, List.set_cons_succ]
        refine rg_take 54 rfl (by kernel_rfl) (by kernel_rfl) (by kernel_rfl) (fun _ _ _ _ h => h) (by rfl) ⟨_, fun w' hx => ex_convert rfl rfl (run_str w' _ _ 5 A7 [1, 5] c7 Try.underlying23 Try.underlying5 Try.underlying9 (ho7.below hx).rd' _ rfl), ?_⟩
        simp only [Act.put, List.setIfInBounds_toArray, List.set_cons_zero, List.set_cons_succ]
        refine rg_make 55 rfl (by kernel_rfl) (by rfl) ⟨_, _, by (go_simp <;> first | exact ⟨rfl, rfl⟩ | rfl), Ext.alloc _ _, ?_⟩
        simp only [Act.put, List.setIfInBounds_toArray, List.set_cons_zero, List.set_cons_succ]
        refine rg_take 56 rfl (by kernel_rfl) (by kernel_rfl) (by kernel_rfl) (fun _ _ _ _ h => h) (by rfl) ⟨_, fun w' hx => ex_convert rfl rfl (run_str w' _ _ 5 _ [1, 5] 2 Try.underlying23 Try.underlying5 Try.underlying9 ((RdB.lit' _ 5 [1, 5] _ (by simp)).below hx) _ rfl), ?_⟩
        simp only [Act.put, List.setIfInBounds_toArray, List.set_cons_zero, List.set_cons_succ]
        have hE := Ext.tr (Ext.tr (Ext.tr hE (Ext.alloc _ (.cells #[.int .u8 5] 5))) hb7) (Ext.alloc w7 (.cells #[.int .u8 1, .int .u8 5] 5))
        exact rg_cast (by kernel_rfl) (hrest _ _ _ _ hE)
      · refine op_make 55 rfl (by rfl) ⟨_, _, by (go_simp <;> first | exact ⟨rfl, rfl⟩ | rfl), Ext.alloc _ _, ?_⟩
        simp only [Act.put, List.setIfInBounds_toArray, List.set_cons_zero, List.set_cons_succ]
        refine rg_take 56 rfl (by kernel_rfl) (by kernel_rfl) (by kernel_rfl) (fun _ _ _ _ h => h) (by rfl) ⟨_, fun w' hx => ex_convert rfl rfl (run_str w' _ _ 5 _ [1, 5] 2 Try.underlying23 Try.underlying5 Try.underlying9 ((RdB.lit' _ 5 [1, 5] _ (by simp)).below hx) _ rfl), ?_⟩
        simp only [Act.put, List.setIfInBounds_toArray, List.set_cons_zero, List.set_cons_succ]
        refine rg_call2 53 rfl (by kernel_rfl) (by rfl) (by go_simp <;> rfl) (h5 _ _ 1 ((RdB.lit' _ 5 [5] _ (by simp)).below (Ext.alloc _ _))) ?_
        rintro e w7 ⟨A7, c7, rfl, ho7, hb7⟩
        refine ⟨_, rfl, hb7, ?_⟩
        simp only [Act.put, List.setIfInBounds_toArray, List.set_cons_zero, List.set_cons_succ]
        refine rg_take 54 rfl (by kernel_rfl) (by kernel_rfl) (by kernel_rfl) (fun _ _ _ _ h => h) (by rfl) ⟨_, fun w' hx => ex_convert rfl rfl (run_str w' _ _ 5 A7 [1, 5] c7 Try.underlying23 Try.underlying5 Try.underlying9 (ho7.below hx).rd' _ rfl), ?_⟩
        simp only [Act.put, List.setIfInBounds_toArray, List.set_cons_zero, List.set_cons_succ]
        have hE := Ext.tr (Ext.tr (Ext.tr hE (Ext.alloc _ (.cells #[.int .u8 5] 5))) (Ext.alloc _ (.cells #[.int .u8 1, .int .u8 5] 5))) hb7
        exact rg_cast (by kernel_rfl) (hrest _ _ _ _ hE)
    · refine op_make 55 rfl (by rfl) ⟨_, _, by (go_simp <;> first | exact ⟨rfl, rfl⟩ | rfl), Ext.alloc _ _, ?_⟩
      simp only [Act.put, List.setIfInBounds_toArray, List.set_cons_zero, List.set_cons_succ]
      refine rg_take 56 rfl (by kernel_rfl) (by kernel_rfl) (by kernel_rfl) (fun _ _ _ _ h => h) (by rfl) ⟨_, fun w' hx => ex_convert rfl rfl (run_str w' _ _ 5 _ [1, 5] 2 Try.underlying23 Try.underlying5 Try.underlying9 ((RdB.lit' _ 5 [1, 5] _ (by simp)).below hx) _ rfl), ?_⟩
      simp only [Act.put, List.setIfInBounds_toArray, List.set_cons_zero, List.set_cons_succ]
      refine rg_make 52 rfl (by kernel_rfl) (by rfl) ⟨_, _, by (go_simp <;> first | exact ⟨rfl, rfl⟩ | rfl), Ext.alloc _ _, ?_⟩
      simp only [Act.put, List.setIfInBounds_toArray, List.set_cons_zero, List.set_cons_succ]
      refine rg_call2 53 rfl (by kernel_rfl) (by rfl) (by go_simp <;> rfl) (h5 _ _ 1 (RdB.lit' _ 5 [5] _ (by simp))) ?_
      rintro e w7 ⟨A7, c7, rfl, ho7, hb7⟩
      refine ⟨_, rfl, hb7, ?_⟩
      simp only [Act.put, List.setIfInBounds_toArray, List.set_cons_zero, List.set_cons_succ]
      refine rg_take 54 rfl (by kernel_rfl) (by kernel_rfl) (by kernel_rfl) (fun _ _ _ _ h => h) (by rfl) ⟨_, fun w' hx => ex_convert rfl rfl (run_str w' _ _ 5 A7 [1, 5] c7 Try.underlying23 Try.underlying5 Try.underlying9 (ho7.below hx).rd' _ rfl), ?_⟩
      simp only [Act.put, List.setIfInBounds_toArray, List.set_cons_zero, List.set_cons_succ]
      have hE := Ext.tr (Ext.tr (Ext.tr hE (Ext.alloc _ (.cells #[.int .u8 1, .int .u8 5] 5))) (Ext.alloc _ (.cells #[.int .u8 5] 5))) hb7
      exact rg_cast (by kernel_rfl) (hrest _ _ _ _ hE)
  clear hE
  intro v80 v81 u83 W7 hE
  simp only [Act.put, List.setIfInBounds_toArray, List.set_cons_zero, List.set_cons_succ]
  refine rg_take 57 rfl (by kernel_rfl) (by kernel_rfl) (by kernel_rfl) (fun _ _ _ _ h => h) (by rfl) ⟨_, fun w' hx => by (go_simp <;> with_reducible rfl), ?_⟩
  simp only [Act.put, List.setIfInBounds_toArray, List.set_cons_zero, List.set_cons_succ]
  refine rg_take 58 rfl (by kernel_rfl) (by kernel_rfl) (by kernel_rfl) (fun _ _ _ _ h => h) (by rfl) ⟨_, fun w' hx => by (go_simp <;> with_reducible rfl), ?_⟩
  simp only [Act.put, List.setIfInBounds_toArray, List.set_cons_zero, List.set_cons_succ]
  refine rg_take 59 rfl (by kernel_rfl) (by kernel_rfl) (by kernel_rfl) (fun _ _ _ _ h => h) (by rfl) ⟨_, fun w' hx => by (go_simp <;> with_reducible rfl), ?_⟩
  simp only [Act.put, List.setIfInBounds_toArray, List.set_cons_zero, List.set_cons_succ]
  refine rg_done (by kernel_rfl) ?_
  go_wp2
  go_ret
  exact ⟨rfl, ext_trans hb3 hE⟩
end Go.Proofs.Ytajflhdaljnoaaa
