/- The laws' own first line (scowlaw03.live): it returns true. Written by wip/tools/gen_live03.py. -/
import Derived.Test.YtgpcfhdldmkijaaArrEq
import Derived.Test.YtgpcfhdldmkijaaShaAbc
import Derived.Test.YtgpcfhdldmkijaaShaObj
import Derived.Test.YtgpcfhdldmkijaaRegB
import Derived.Lib.SlBytesConst
namespace Go.Proofs.Ytgpcfhdldmkijaa
open Go.RowKit
attribute [local go_sem] Oper.semAt_some

theorem ex_load_row {P : Program} {o : Oper} {a : Act} {w : World} (ty : TypeId) (x : Operand) (ho : o.op = .load ty x)
    (g : Nat) (hx : a.eval x = .pointer (some ⟨g, 0, none⟩)) (t : TypeId) (cs : Array Value) (fr : Nat × Nat) (d : TypeDesc) (hg : w.heap[g]? = some (.cells cs t fr))
    (hu : P.underlying ty = some d) (hd : (match d with | .struct _ | .array _ _ => true | _ => false) = true) (hi : (P.info? ty).map (·.size) = some cs.size) :
    (execOp a.eval o).run P w = .ok (.value (.agg cs)) w := by
  unfold execOp
  simp only [ho, hx, Instr.loadAt, Instr.sureAddr, Sem.run_bind, Sem.run_pure, Result.andThen_ok, run_loadVar_row w g t ty cs fr d hg hu hd hi]
theorem sInf (z : List UInt8) (h : z.length = 32) : (Try.prog.info? 25).map (·.size) = some (bvs z).toArray.size := by rw [List.size_toArray, bvs_len, h]; kernel_rfl
theorem sOne (z : List UInt8) : (bvs z).toArray.all (·.oneCell') = true := by
  rw [Array.all_eq_true_iff_forall_mem]
  intro v hv
  exact bvs_one _ v (by simpa using hv)
theorem sOld (z : List UInt8) (h : z.length = 32) (a : Array Value) (ha : a.size = 32) : a.size = (bvs z).toArray.size := by
  have h9 : (bvs z).toArray.size = 32 := by rw [List.size_toArray, bvs_len, h]
  rw [ha, h9]
theorem run_eqTrue (x : List UInt8) (h : x.length = 32) (w : World) : (Op.equalIn 10000 25 (.agg (bvs x).toArray) (.agg (bvs x).toArray)).run Try.prog w = .ok true w := by
  rw [show (10000 : Nat) = 9998 + 2 from rfl, run_eqArr x x w 9998 _ Try.underlying25 h h]
  simp
/-- '[]byte' of a constant: the block of its bytes is marked, wherever it lies. -/
theorem conv_const {P : Program} {t e : TypeId} (ht : P.underlying t = some (.slice e)) (he : P.underlying e = some (.int .u8)) (w : World) (C : Array Value) (n c b : Nat) (hb : b = w.heap.size) :
    (convert t t (.slice (some ⟨b, 0, none⟩) n c)).run P (w.alloc (.cells C e)) = .ok (.slice (some ⟨b, 0, none⟩) n c) (w.alloc (.cells C e (C.size, C.size + 1))) := by
  subst hb
  exact Lib.run_convert_bytes_const w t e C n c ht he
theorem ex_convertW {P : Program} {o : Oper} {a : Act} {w w1 : World} {s d : TypeId} {x : Operand} {v v' : Value} (ho : o.op = .convert s d x) (hx : a.eval x = v) (hr : (convert s d v).run P w = .ok v' w1) : (execOp a.eval o).run P w = .ok (.value v') w1 := by
  unfold execOp
  simp only [ho, hx, Sem.run_bind, hr, Result.andThen_ok, Sem.run_pure]
theorem mark_below (w : World) (C : Array Value) (e : TypeId) (fr : Nat × Nat) (B : Nat) (hB : B ≤ w.heap.size) : Below B (w.alloc (.cells C e)) (w.alloc (.cells C e fr)) :=
  ⟨rfl, rfl, rfl, by simp, fun i hi => (((Ext.alloc w (.cells C e fr)).block i (by omega)).trans ((Ext.alloc w (.cells C e)).block i (by omega)).symm)⟩
theorem Lit.rdF (w : World) (bs : List UInt8) (fr : Nat × Nat) : RdB (w.alloc (.cells (bvs bs).toArray 5 fr)) (some ⟨w.heap.size, 0, none⟩) bs := RdB.litF w _ bs fr
theorem Lit.rd (w : World) (bs : List UInt8) : RdB (w.alloc (.cells (bvs bs).toArray 5)) (some ⟨w.heap.size, 0, none⟩) bs := RdB.lit w _ bs

set_option maxRecDepth 100000 in
set_option maxHeartbeats 2000000 in
theorem live03 (w : World) : Calls Try.prog 8 #[] w fun e w' => e = .returned (.bool true) ∧ Below w.heap.size w w' := by
  obtain ⟨z, hz⟩ : ∃ z, z = Sha.sum [97, 98, 99] := ⟨_, rfl⟩
  have hzl : z.length = 32 := by rw [hz]; exact Sha.sum_len _
  obtain ⟨y, hy⟩ : ∃ y, y = Sha.parsed [66, 65] := ⟨_, rfl⟩
  have hyl : y.length = 32 := by rw [hy]; unfold Sha.parsed; rw [BA_no]; rfl
  have hp1 := fun W => parse_any baL W
  rw [ba_ok, ba_sum, ← hz] at hp1
  have hp2 := fun W => parse_any [66, 65] W
  rw [BA_no, ← hy] at hp2
  have hhx : Sha.hex z = baL := by rw [hz]; exact ba_hex
  have Hz := Lib.hid hz
  have Hhx := Lib.hid hhx
  have iz := sInf z hzl
  have iy := sInf y hyl
  clear hz hhx hy
  have kc := conv_const (P := Try.prog) Try.underlying22 Try.underlying5
  go_enter Try.func8, Try.ntmps8
  go_wp2_with fail
  refine (hash_new w).mono ?_
  rintro e w1 ⟨g, rfl, hh1, hb1⟩
  have hg1 := hh1.lt
  go_wp2_with fail
  have hE1 := Ext.alloc w1 (.cells (bvs [97, 98]).toArray 5 (2, 3))
  have q2 := hash_write w.heap.size g [] none (some ⟨w1.heap.size, 0, none⟩) [97, 98] 2 _ (hh1.below hE1) (Nat.le_trans hb1.size hE1.size) (Lit.rdF w1 [97, 98] (2, 3)) (fun _ ad h => by cases h; show w1.heap.size ≠ g; omega) (by decide)
  rw [show (bvs [97, 98]).toArray = #[.int .u8 97, .int .u8 98] from rfl] at q2
  refine q2.mono ?_
  clear q2
  rintro e w2 ⟨row2, rfl, hh2, _, _, hb2⟩
  have hg2 := hh2.lt
  have hB2 : Below w.heap.size w w2 := (hb1.alloc hb1.size _).trans hb2
  go_wp2_with fail
  have hE2 := Ext.alloc w2 (.cells (bvs [99]).toArray 5 (1, 2))
  have q3 := hash_write w.heap.size g [97, 98] row2 (some ⟨w2.heap.size, 0, none⟩) [99] 1 _ (hh2.below hE2) (Nat.le_trans hB2.size hE2.size) (Lit.rdF w2 [99] (1, 2)) (fun _ ad h => by cases h; show w2.heap.size ≠ g; omega) (by decide)
  rw [show (bvs [99]).toArray = #[.int .u8 99] from rfl] at q3
  refine q3.mono ?_
  clear q3
  rintro e w3 ⟨row3, rfl, hh3, _, _, hb3⟩
  have hh3' : HashOf w3 w.heap.size g [97, 98, 99] row3 := hh3
  have hB3 : Below w.heap.size w w3 := (hB2.alloc hB2.size _).trans hb3
  clear hh1 hh2 hh3 hb1 hb2 hb3 hE1 hE2
  go_wp2_with fail
  refine (hp1 w3).mono ?_
  rintro e w4 ⟨rfl, hb4⟩
  go_wp2_with (refine wpList_store_row rfl 25 (.tmp 4) (.tmp 21) rfl w4.heap.size (bvs z).toArray rfl rfl 25 _ (heap_alloc_new w4 _) iz (sOld z hzl _ (by rfl)) (sOne z) ?_; rw [setRow_alloc])
  obtain ⟨W4, hW4⟩ : ∃ W4, W4 = w4.alloc (.cells (bvs z).toArray 25) := ⟨_, rfl⟩
  have hz4 : W4.heap[w4.heap.size]? = some (.cells (bvs z).toArray 25 (0, 0)) := by rw [hW4]; exact heap_alloc_new w4 _
  have hE34 : Ext w3 W4 := by rw [hW4]; exact Ext.tr hb4 (Ext.alloc w4 _)
  have hh4 := hh3'.below hE34
  have hB4 := hB3.trans (hE34.mono hB3.size)
  obtain ⟨gz, hgz⟩ : ∃ gz, gz = w4.heap.size := ⟨_, rfl⟩
  rw [← hgz] at hz4 ⊢
  rw [← hW4]
  clear hW4 hgz hE34 hb4 hB3 hh3' hB2 hg1 hg2
  refine (hp2 W4).mono ?_
  rintro e w5 ⟨rfl, hb5⟩
  go_wp2_with (refine wpList_store_row rfl 25 (.tmp 6) (.tmp 25) rfl w5.heap.size (bvs y).toArray rfl rfl 25 _ (heap_alloc_new w5 _) iy (sOld y hyl _ (by rfl)) (sOne y) ?_; rw [setRow_alloc])
  obtain ⟨W5, hW5⟩ : ∃ W5, W5 = w5.alloc (.cells (bvs y).toArray 25) := ⟨_, rfl⟩
  have hE45 : Ext W4 W5 := by rw [hW5]; exact Ext.tr hb5 (Ext.alloc w5 _)
  have hz5 := (hE45.block _ (lt_of_heap hz4)).trans hz4
  have hh5 := hh4.below hE45
  have hB5 := hB4.trans (hE45.mono hB4.size)
  rw [← hW5]
  have hd5 := Ext.drew W5
  have hz6 := (hd5.block _ (lt_of_heap hz5)).trans hz5
  have hh6 := hh5.below hd5
  have hB6 := hB5.drew
  have heq := fun w' => run_eqTrue z hzl w'
  clear hW5 hE45 hb5 hz4 hh4 hB4 hz5 hh5 hB5 hp1 hp2 hd5
  obtain ⟨BB, hBB⟩ : ∃ BB, BB = W5.drew.heap.size := ⟨_, rfl⟩
  have HBB := Lib.hid hBB
  have hgB : gz < BB := by rw [hBB]; exact lt_of_heap hz6
  clear hBB
  refine rb_start BB (by kernel_rfl) ?_
  refine rb_take 0 rfl (by kernel_rfl) (by kernel_rfl) (by kernel_rfl) (fun _ _ _ _ h => h) (by rfl) ⟨_, fun w' hx => by (go_simp <;> with_reducible rfl), ?_⟩
  simp only [Act.put, List.setIfInBounds_toArray, List.set_cons_zero, List.set_cons_succ]
  refine rb_take 1 rfl (by kernel_rfl) (by kernel_rfl) (by kernel_rfl) (fun _ _ _ _ h => h) (by rfl) ⟨_, fun w' hx => by (go_simp <;> with_reducible rfl), ?_⟩   -- t28 := binOp eql 3 t27 2:i64 3
  simp only [Act.put, List.setIfInBounds_toArray, List.set_cons_zero, List.set_cons_succ]
  refine rb_take 2 rfl (by kernel_rfl) (by kernel_rfl) (by kernel_rfl) (fun _ _ _ _ h => h) (by rfl) ⟨_, fun w' hx => by (go_simp <;> with_reducible rfl), ?_⟩
  simp only [Act.put, List.setIfInBounds_toArray, List.set_cons_zero, List.set_cons_succ]
  refine rb_take 3 rfl (by kernel_rfl) (by kernel_rfl) (by kernel_rfl) (fun _ _ _ _ h => h) (by rfl) ⟨_, fun w' hx => by (go_simp <;> with_reducible rfl), ?_⟩
  simp only [Act.put, List.setIfInBounds_toArray, List.set_cons_zero, List.set_cons_succ]
  refine rb_take 4 rfl (by kernel_rfl) (by kernel_rfl) (by kernel_rfl) (fun _ _ _ _ h => h) (by rfl) ⟨_, fun w' hx => by (go_simp <;> with_reducible rfl), ?_⟩   -- t31 := binOp eql 3 t30 1:i64 3
  simp only [Act.put, List.setIfInBounds_toArray, List.set_cons_zero, List.set_cons_succ]
  refine rb_take 5 rfl (by kernel_rfl) (by kernel_rfl) (by kernel_rfl) (fun _ _ _ _ h => h) (by rfl) ⟨_, fun w' hx => by (go_simp <;> with_reducible rfl), ?_⟩
  simp only [Act.put, List.setIfInBounds_toArray, List.set_cons_zero, List.set_cons_succ]
  refine rb_take 6 rfl (by kernel_rfl) (by kernel_rfl) (by kernel_rfl) (fun _ _ _ _ h => h) (by rfl) ⟨_, fun w' hx => by (go_simp <;> with_reducible rfl), ?_⟩
  simp only [Act.put, List.setIfInBounds_toArray, List.set_cons_zero, List.set_cons_succ]
  refine rb_take 7 rfl (by kernel_rfl) (by kernel_rfl) (by kernel_rfl) (fun _ _ _ _ h => h) (by rfl) ⟨_, fun w' hx => by (go_simp <;> with_reducible rfl), ?_⟩
  simp only [Act.put, List.setIfInBounds_toArray, List.set_cons_zero, List.set_cons_succ]
  refine rb_take 8 rfl (by kernel_rfl) (by kernel_rfl) (by kernel_rfl) (fun _ _ _ _ h => h) (by rfl) ⟨_, fun w' hx => by (go_simp <;> with_reducible rfl), ?_⟩
  simp only [Act.put, List.setIfInBounds_toArray, List.set_cons_zero, List.set_cons_succ]
  refine rb_take 9 rfl (by kernel_rfl) (by kernel_rfl) (by kernel_rfl) (fun _ _ _ _ h => h) (by rfl) ⟨_, fun w' hx => by (go_simp <;> with_reducible rfl), ?_⟩
  simp only [Act.put, List.setIfInBounds_toArray, List.set_cons_zero, List.set_cons_succ]
  refine rb_take 10 rfl (by kernel_rfl) (by kernel_rfl) (by kernel_rfl) (fun _ _ _ _ h => h) (by rfl) ⟨_, fun w' hx => by (go_simp <;> with_reducible rfl), ?_⟩
  simp only [Act.put, List.setIfInBounds_toArray, List.set_cons_zero, List.set_cons_succ]
  refine rb_take 11 rfl (by kernel_rfl) (by kernel_rfl) (by kernel_rfl) (fun _ _ _ _ h => h) (by rfl) ⟨_, fun w' hx => by (go_simp <;> with_reducible rfl), ?_⟩   -- t38 := unOp not 4 t37
  simp only [Act.put, List.setIfInBounds_toArray, List.set_cons_zero, List.set_cons_succ]
  refine rb_take 12 rfl (by kernel_rfl) (by kernel_rfl) (by kernel_rfl) (fun _ _ _ _ h => h) (by rfl) ⟨_, fun w' hx => by (go_simp <;> with_reducible rfl), ?_⟩
  simp only [Act.put, List.setIfInBounds_toArray, List.set_cons_zero, List.set_cons_succ]
  refine rb_take 13 rfl (by kernel_rfl) (by kernel_rfl) (by kernel_rfl) (fun _ _ _ _ h => h) (by rfl) ⟨_, fun w' hx => by (go_simp <;> with_reducible rfl), ?_⟩
  simp only [Act.put, List.setIfInBounds_toArray, List.set_cons_zero, List.set_cons_succ]
  refine rb_take 14 rfl (by kernel_rfl) (by kernel_rfl) (by kernel_rfl) (fun _ _ _ _ h => h) (by rfl) ⟨_, fun w' hx => by (go_simp <;> with_reducible rfl), ?_⟩
  simp only [Act.put, List.setIfInBounds_toArray, List.set_cons_zero, List.set_cons_succ]
  refine rb_take 16 rfl (by kernel_rfl) (by kernel_rfl) (by kernel_rfl) (fun _ _ _ _ h => h) (by rfl) ⟨.agg (bvs z).toArray, fun w' hx => ex_load_row 25 _ rfl gz rfl 25 _ (0, 0) _ ((hx.block _ hgB).trans hz6) Try.underlying25 rfl (sInf _ (by assumption)), ?_⟩
  simp only [Act.put, List.setIfInBounds_toArray, List.set_cons_zero, List.set_cons_succ]
  have hs15 := hash_sum w.heap.size g [97, 98, 99] row3 _ hh6 (by decide)
  rw [← Hz.out] at hs15
  refine rb_call 15 hs15 rfl (by kernel_rfl) (by rfl) (by go_simp) ?_
  rintro e w7 ⟨rfl, hb7⟩
  refine ⟨_, rfl, hb7.mono (Nat.le_of_eq HBB.out), ?_⟩
  have hs7 := hb7.size
  have hz7 := (hb7.block _ (lt_of_heap hz6)).trans hz6
  simp only [Act.put, List.setIfInBounds_toArray, List.set_cons_zero, List.set_cons_succ]
  refine rb_take 17 rfl (by kernel_rfl) (by kernel_rfl) (by kernel_rfl) (fun _ _ _ _ h => h) (by rfl) ⟨.bool true, fun w' hx => by go_simp, ?_⟩
  simp only [Act.put, List.setIfInBounds_toArray, List.set_cons_zero, List.set_cons_succ]
  refine rb_take 18 rfl (by kernel_rfl) (by kernel_rfl) (by kernel_rfl) (fun _ _ _ _ h => h) (by rfl) ⟨_, fun w' hx => by (go_simp <;> with_reducible rfl), ?_⟩
  simp only [Act.put, List.setIfInBounds_toArray, List.set_cons_zero, List.set_cons_succ]
  refine rb_take 19 rfl (by kernel_rfl) (by kernel_rfl) (by kernel_rfl) (fun _ _ _ _ h => h) (by rfl) ⟨_, fun w' hx => by (go_simp <;> with_reducible rfl), ?_⟩
  simp only [Act.put, List.setIfInBounds_toArray, List.set_cons_zero, List.set_cons_succ]
  refine rb_take 24 rfl (by kernel_rfl) (by kernel_rfl) (by kernel_rfl) (fun _ _ _ _ h => h) (by rfl) ⟨.agg (bvs z).toArray, fun w' hx => ex_load_row 25 _ rfl gz rfl 25 _ (0, 0) _ ((hx.block _ hgB).trans hz7) Try.underlying25 rfl (sInf _ (by assumption)), ?_⟩
  simp only [Act.put, List.setIfInBounds_toArray, List.set_cons_zero, List.set_cons_succ]
  refine rb_make 20 rfl (by kernel_rfl) (by rfl) ⟨.slice (some ⟨w7.heap.size, 0, none⟩) 3 3, w7.alloc (.cells #[.int .u8 97, .int .u8 98, .int .u8 99] 5), by (go_simp <;> first | exact ⟨rfl, rfl⟩ | rfl), (Ext.alloc w7 _).mono (Nat.le_trans (Nat.le_of_eq HBB.out) hs7), ?_⟩
  simp only [Act.put, List.setIfInBounds_toArray, List.set_cons_zero, List.set_cons_succ]
  refine rb_make 21 rfl (by kernel_rfl) (by rfl) ⟨.slice (some ⟨w7.heap.size, 0, none⟩) 3 3, w7.alloc (.cells #[.int .u8 97, .int .u8 98, .int .u8 99] 5 (3, 4)), ex_convertW rfl rfl (kc w7 _ 3 3 _ rfl), mark_below w7 _ _ _ _ (Nat.le_trans (Nat.le_of_eq HBB.out) hs7), ?_⟩
  simp only [Act.put, List.setIfInBounds_toArray, List.set_cons_zero, List.set_cons_succ]
  refine rb_make 22 rfl (by kernel_rfl) (by rfl) ⟨.slice (some ⟨w7.heap.size + 1, 0, none⟩) 1 1, (w7.alloc (.cells #[.int .u8 97, .int .u8 98, .int .u8 99] 5 (3, 4))).alloc (.cells #[.slice (some ⟨w7.heap.size, 0, none⟩) 3 3] 22), by (go_simp <;> first | exact ⟨rfl, rfl⟩ | rfl), (Ext.alloc _ _).mono (by have := HBB.out; simp; omega), ?_⟩
  simp only [Act.put, List.setIfInBounds_toArray, List.set_cons_zero, List.set_cons_succ]
  have hr7 : RdB (w7.alloc (.cells #[.int .u8 97, .int .u8 98, .int .u8 99] 5 (3, 4))) (some ⟨w7.heap.size, 0, none⟩) [97, 98, 99] := Lit.rdF w7 [97, 98, 99] (3, 4)
  have hs23 := sha_sum _ [⟨some ⟨w7.heap.size, 0, none⟩, [97, 98, 99], 3⟩] 1 _ (RdL.one (w7.alloc (.cells #[.int .u8 97, .int .u8 98, .int .u8 99] 5 (3, 4))) 22 _ [97, 98, 99] 3 hr7) (by simp) (by rw [cat_one]; decide)
  rw [cat_one, ← Hz.out] at hs23
  simp only [World.size_alloc] at hs23
  refine rb_call 23 hs23 rfl (by kernel_rfl) (by rfl) (by (go_simp <;> first | rfl | exact ⟨rfl, rfl⟩ | simp)) ?_
  rintro e w8 ⟨rfl, hb8⟩
  refine ⟨_, rfl, hb8.mono (by have := HBB.out; omega), ?_⟩
  have hE78 : Ext w7 w8 := Ext.tr (Ext.alloc w7 (.cells #[.int .u8 97, .int .u8 98, .int .u8 99] 5 (3, 4))) (Ext.tr (Ext.alloc _ (.cells #[.slice (some ⟨w7.heap.size, 0, none⟩) 3 3] 22)) (by simpa [Ext] using hb8))
  have hE68 := Ext.tr hb7 hE78
  have hz8 := (hE68.block _ (lt_of_heap hz6)).trans hz6
  simp only [Act.put, List.setIfInBounds_toArray, List.set_cons_zero, List.set_cons_succ]
  refine rb_take 25 rfl (by kernel_rfl) (by kernel_rfl) (by kernel_rfl) (fun _ _ _ _ h => h) (by rfl) ⟨.bool true, fun w' hx => by go_simp, ?_⟩
  simp only [Act.put, List.setIfInBounds_toArray, List.set_cons_zero, List.set_cons_succ]
  refine rb_take 26 rfl (by kernel_rfl) (by kernel_rfl) (by kernel_rfl) (fun _ _ _ _ h => h) (by rfl) ⟨_, fun w' hx => by (go_simp <;> with_reducible rfl), ?_⟩
  simp only [Act.put, List.setIfInBounds_toArray, List.set_cons_zero, List.set_cons_succ]
  refine rb_take 27 rfl (by kernel_rfl) (by kernel_rfl) (by kernel_rfl) (fun _ _ _ _ h => h) (by rfl) ⟨_, fun w' hx => by (go_simp <;> with_reducible rfl), ?_⟩
  simp only [Act.put, List.setIfInBounds_toArray, List.set_cons_zero, List.set_cons_succ]
  refine rb_take 28 rfl (by kernel_rfl) (by kernel_rfl) (by kernel_rfl) (fun _ _ _ _ h => h) (by rfl) ⟨.agg (bvs z).toArray, fun w' hx => ex_load_row 25 _ rfl gz rfl 25 _ (0, 0) _ ((hx.block _ hgB).trans hz8) Try.underlying25 rfl (sInf _ (by assumption)), ?_⟩
  simp only [Act.put, List.setIfInBounds_toArray, List.set_cons_zero, List.set_cons_succ]
  refine rb_call 29 (hex_any z hzl _) rfl (by kernel_rfl) (by rfl) (by go_simp) ?_
  rintro e w9 ⟨rfl, hb9⟩
  refine ⟨_, rfl, hb9.mono (by have := hE68.size; have := HBB.out; omega), ?_⟩
  simp only [Act.put, List.setIfInBounds_toArray, List.set_cons_zero, List.set_cons_succ]
  refine rb_take 30 rfl (by kernel_rfl) (by kernel_rfl) (by kernel_rfl) (fun _ _ _ _ h => h) (by rfl) ⟨.bool true, fun w' hx => by (rw [Hhx.out]; go_simp <;> first | rfl | decide), ?_⟩
  simp only [Act.put, List.setIfInBounds_toArray, List.set_cons_zero, List.set_cons_succ]
  refine rb_take 31 rfl (by kernel_rfl) (by kernel_rfl) (by kernel_rfl) (fun _ _ _ _ h => h) (by rfl) ⟨_, fun w' hx => by (go_simp <;> with_reducible rfl), ?_⟩
  simp only [Act.put, List.setIfInBounds_toArray, List.set_cons_zero, List.set_cons_succ]
  refine rb_take 32 rfl (by kernel_rfl) (by kernel_rfl) (by kernel_rfl) (fun _ _ _ _ h => h) (by rfl) ⟨_, fun w' hx => by (go_simp <;> with_reducible rfl), ?_⟩
  simp only [Act.put, List.setIfInBounds_toArray, List.set_cons_zero]
  refine rb_done (by kernel_rfl) ?_
  go_wp2
  go_ret
  exact ⟨rfl, hB6.trans ((Ext.tr hE68 hb9).mono hB6.size)⟩
end Go.Proofs.Ytgpcfhdldmkijaa
