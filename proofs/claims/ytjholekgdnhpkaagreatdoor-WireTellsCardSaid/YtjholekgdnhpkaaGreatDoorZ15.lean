/- Texts of the proof, laid together: WrNb. -/
import Derived.Deep.Cut
import Derived.Deep.Draws
import Derived.Deep.RegionHeld
import Derived.Great.BuildSlice
import Derived.Laws.BitsAllLaws
import Derived.Laws.CopyRow
import Derived.Laws.Externs
import Derived.Laws.ResultCell
import Derived.Laws.Rows
import Derived.Laws.StructEq
import Derived.Lib.Bytealg
import Derived.Lib.Hide
import Derived.LoopIn
import Derived.LoopNIn
import Derived.MapKept
import Derived.OrdersHeld
import Derived.OrdersIn
import Derived.OwnWalkIn
import Derived.RangeFuncBound
import Derived.RangeFuncCalls
import Derived.RangeFuncLeaves
import Derived.RangeFuncNested
import Derived.TacticsInMore
import Derived.WalkKit
import Derived.WalkLawsBesides
import Derived.WalkSpells
import Derived.Test.YtjholekgdnhpkaaGreatDoorZ32
import Derived.Test.YtjholekgdnhpkaaGreatDoorZ14
import Derived.Test.YtjholekgdnhpkaaGreatDoorZ30
set_option linter.unusedVariables false
set_option linter.unusedSimpArgs false
set_option linter.unusedSectionVars false
namespace Go.Proofs.YtjholekgdnhpkaaGreatDoor
open Go.RowKit
attribute [local go_sem] Oper.semAt_some
set_option maxRecDepth 100000 in
set_option maxHeartbeats 40000000 in
theorem wsame_any (M N : WmV) (w : World) (hM : M.In w) (hN : N.In w) (f1 : M.subs.length ≤ 1000000) (f2 : N.subs.length ≤ 1000000) (f3 : M.ents.length ≤ 1000000) (f4 : N.ents.length ≤ 1000000) (f5 : M.sigs.length ≤ 1000000) :
  Calls Tryz.prog 12 #[.agg M.cells, .agg N.cells] w fun e w' => e = .returned (.bool (decide (M.x = N.x))) ∧ Ext w w' := by
 have hE : Ext w ((w.alloc (.cells M.cells MT)).alloc (.cells N.cells MT)) := Ext.tr (Ext.alloc _ _) (Ext.alloc _ _)
 have g0 : ((w.alloc (.cells M.cells MT)).alloc (.cells N.cells MT)).heap[w.heap.size]? = some (.cells M.cells MT (0, 0)) := ((Ext.alloc _ _).block _ (lt_of_heap (heap_alloc_new w _))).trans (heap_alloc_new w _)
 have k0 : ((w.alloc (.cells M.cells MT)).alloc (.cells N.cells MT)).heap[w.heap.size + 1]? = some (.cells N.cells MT (0, 0)) := by simpa using heap_alloc_new (w.alloc (.cells M.cells MT)) (.cells N.cells MT)
 rw [wm_eq]
 have a0 : ((w.alloc (.cells M.cells MT)).alloc (.cells N.cells MT)).cell? ⟨w.heap.size, 0, none⟩ = _ := (cell_of_row _ _ 0 _ _ _ g0).trans (WmV.at0 M)
 have b0 : ((w.alloc (.cells M.cells MT)).alloc (.cells N.cells MT)).cell? ⟨w.heap.size + 1, 0, none⟩ = _ := (cell_of_row _ _ 0 _ _ _ k0).trans (WmV.at0 N)
 have a1 : ((w.alloc (.cells M.cells MT)).alloc (.cells N.cells MT)).cell? ⟨w.heap.size, 1, none⟩ = _ := (cell_of_row _ _ 1 _ _ _ g0).trans (WmV.at1 M)
 have b1 : ((w.alloc (.cells M.cells MT)).alloc (.cells N.cells MT)).cell? ⟨w.heap.size + 1, 1, none⟩ = _ := (cell_of_row _ _ 1 _ _ _ k0).trans (WmV.at1 N)
 have a2 : ((w.alloc (.cells M.cells MT)).alloc (.cells N.cells MT)).cell? ⟨w.heap.size, 2, none⟩ = _ := (cell_of_row _ _ 2 _ _ _ g0).trans (WmV.at2 M)
 have b2 : ((w.alloc (.cells M.cells MT)).alloc (.cells N.cells MT)).cell? ⟨w.heap.size + 1, 2, none⟩ = _ := (cell_of_row _ _ 2 _ _ _ k0).trans (WmV.at2 N)
 have a3 : ((w.alloc (.cells M.cells MT)).alloc (.cells N.cells MT)).cell? ⟨w.heap.size, 3, none⟩ = _ := (cell_of_row _ _ 3 _ _ _ g0).trans (WmV.at3 M)
 have b3 : ((w.alloc (.cells M.cells MT)).alloc (.cells N.cells MT)).cell? ⟨w.heap.size + 1, 3, none⟩ = _ := (cell_of_row _ _ 3 _ _ _ k0).trans (WmV.at3 N)
 have a4 : ((w.alloc (.cells M.cells MT)).alloc (.cells N.cells MT)).cell? ⟨w.heap.size, 4, none⟩ = _ := (cell_of_row _ _ 4 _ _ _ g0).trans (WmV.at4 M)
 have b4 : ((w.alloc (.cells M.cells MT)).alloc (.cells N.cells MT)).cell? ⟨w.heap.size + 1, 4, none⟩ = _ := (cell_of_row _ _ 4 _ _ _ k0).trans (WmV.at4 N)
 have a5 : ((w.alloc (.cells M.cells MT)).alloc (.cells N.cells MT)).cell? ⟨w.heap.size, 5, none⟩ = _ := (cell_of_row _ _ 5 _ _ _ g0).trans (WmV.at5 M)
 have b5 : ((w.alloc (.cells M.cells MT)).alloc (.cells N.cells MT)).cell? ⟨w.heap.size + 1, 5, none⟩ = _ := (cell_of_row _ _ 5 _ _ _ k0).trans (WmV.at5 N)
 have a6 : ((w.alloc (.cells M.cells MT)).alloc (.cells N.cells MT)).cell? ⟨w.heap.size, 6, none⟩ = _ := (cell_of_row _ _ 6 _ _ _ g0).trans (WmV.at6 M)
 have b6 : ((w.alloc (.cells M.cells MT)).alloc (.cells N.cells MT)).cell? ⟨w.heap.size + 1, 6, none⟩ = _ := (cell_of_row _ _ 6 _ _ _ k0).trans (WmV.at6 N)
 have a7 : ((w.alloc (.cells M.cells MT)).alloc (.cells N.cells MT)).cell? ⟨w.heap.size, 7, none⟩ = _ := (cell_of_row _ _ 7 _ _ _ g0).trans (WmV.at7 M)
 have b7 : ((w.alloc (.cells M.cells MT)).alloc (.cells N.cells MT)).cell? ⟨w.heap.size + 1, 7, none⟩ = _ := (cell_of_row _ _ 7 _ _ _ k0).trans (WmV.at7 N)
 have a40 : ((w.alloc (.cells M.cells MT)).alloc (.cells N.cells MT)).cell? ⟨w.heap.size, 40, none⟩ = _ := (cell_of_row _ _ 40 _ _ _ g0).trans (WmV.at40 hM.ok)
 have b40 : ((w.alloc (.cells M.cells MT)).alloc (.cells N.cells MT)).cell? ⟨w.heap.size + 1, 40, none⟩ = _ := (cell_of_row _ _ 40 _ _ _ k0).trans (WmV.at40 hN.ok)
 have a73 : ((w.alloc (.cells M.cells MT)).alloc (.cells N.cells MT)).cell? ⟨w.heap.size, 73, none⟩ = _ := (cell_of_row _ _ 73 _ _ _ g0).trans (WmV.at73 hM.ok)
 have b73 : ((w.alloc (.cells M.cells MT)).alloc (.cells N.cells MT)).cell? ⟨w.heap.size + 1, 73, none⟩ = _ := (cell_of_row _ _ 73 _ _ _ k0).trans (WmV.at73 hN.ok)
 have a74 : ((w.alloc (.cells M.cells MT)).alloc (.cells N.cells MT)).cell? ⟨w.heap.size, 74, none⟩ = _ := (cell_of_row _ _ 74 _ _ _ g0).trans (WmV.at74 hM.ok)
 have b74 : ((w.alloc (.cells M.cells MT)).alloc (.cells N.cells MT)).cell? ⟨w.heap.size + 1, 74, none⟩ = _ := (cell_of_row _ _ 74 _ _ _ k0).trans (WmV.at74 hN.ok)
 have a75 : ((w.alloc (.cells M.cells MT)).alloc (.cells N.cells MT)).cell? ⟨w.heap.size, 75, none⟩ = _ := (cell_of_row _ _ 75 _ _ _ g0).trans (WmV.at75 hM.ok)
 have b75 : ((w.alloc (.cells M.cells MT)).alloc (.cells N.cells MT)).cell? ⟨w.heap.size + 1, 75, none⟩ = _ := (cell_of_row _ _ 75 _ _ _ k0).trans (WmV.at75 hN.ok)
 have a76 : ((w.alloc (.cells M.cells MT)).alloc (.cells N.cells MT)).cell? ⟨w.heap.size, 76, none⟩ = _ := (cell_of_row _ _ 76 _ _ _ g0).trans (WmV.at76 hM.ok)
 have b76 : ((w.alloc (.cells M.cells MT)).alloc (.cells N.cells MT)).cell? ⟨w.heap.size + 1, 76, none⟩ = _ := (cell_of_row _ _ 76 _ _ _ k0).trans (WmV.at76 hN.ok)
 have a77 : ((w.alloc (.cells M.cells MT)).alloc (.cells N.cells MT)).cell? ⟨w.heap.size, 77, none⟩ = _ := (cell_of_row _ _ 77 _ _ _ g0).trans (WmV.at77 hM.ok)
 have b77 : ((w.alloc (.cells M.cells MT)).alloc (.cells N.cells MT)).cell? ⟨w.heap.size + 1, 77, none⟩ = _ := (cell_of_row _ _ 77 _ _ _ k0).trans (WmV.at77 hN.ok)
 have s1 : ∀ j u, ((bvs M.sum).toArray)[j]? = some u → ((w.alloc (.cells M.cells MT)).alloc (.cells N.cells MT)).cell? ((⟨w.heap.size, 8, none⟩ : Addr).add j) = some u := fun j u hj => by
  have hj2 : j < 32 := by have := (Array.getElem?_eq_some_iff.1 hj).1; rw [List.size_toArray, bvs_len, hM.ok.sum] at this; exact this
  rw [Addr.add_lit, cell_of_row _ _ _ _ _ _ g0, WmV.at8 hM.ok j hj2]; simpa using hj
 have s2 : ∀ j u, ((bvs N.sum).toArray)[j]? = some u → ((w.alloc (.cells M.cells MT)).alloc (.cells N.cells MT)).cell? ((⟨w.heap.size + 1, 8, none⟩ : Addr).add j) = some u := fun j u hj => by
  have hj2 : j < 32 := by have := (Array.getElem?_eq_some_iff.1 hj).1; rw [List.size_toArray, bvs_len, hN.ok.sum] at this; exact this
  rw [Addr.add_lit, cell_of_row _ _ _ _ _ _ k0, WmV.at8 hN.ok j hj2]; simpa using hj
 have s3 : ∀ j u, ((bvs M.file).toArray)[j]? = some u → ((w.alloc (.cells M.cells MT)).alloc (.cells N.cells MT)).cell? ((⟨w.heap.size, 41, none⟩ : Addr).add j) = some u := fun j u hj => by
  have hj2 : j < 32 := by have := (Array.getElem?_eq_some_iff.1 hj).1; rw [List.size_toArray, bvs_len, hM.ok.file] at this; exact this
  rw [Addr.add_lit, cell_of_row _ _ _ _ _ _ g0, WmV.at41 hM.ok j hj2]; simpa using hj
 have s4 : ∀ j u, ((bvs N.file).toArray)[j]? = some u → ((w.alloc (.cells M.cells MT)).alloc (.cells N.cells MT)).cell? ((⟨w.heap.size + 1, 41, none⟩ : Addr).add j) = some u := fun j u hj => by
  have hj2 : j < 32 := by have := (Array.getElem?_eq_some_iff.1 hj).1; rw [List.size_toArray, bvs_len, hN.ok.file] at this; exact this
  rw [Addr.add_lit, cell_of_row _ _ _ _ _ _ k0, WmV.at41 hN.ok j hj2]; simpa using hj
 have i1 : (Tryz.prog.info? 26).map (·.size) = some ((bvs M.sum).toArray).size := by rw [List.size_toArray, bvs_len, hM.ok.sum]; kernel_rfl
 have i2 : (Tryz.prog.info? 26).map (·.size) = some ((bvs N.sum).toArray).size := by rw [List.size_toArray, bvs_len, hN.ok.sum]; kernel_rfl
 have i3 : (Tryz.prog.info? 26).map (·.size) = some ((bvs M.file).toArray).size := by rw [List.size_toArray, bvs_len, hM.ok.file]; kernel_rfl
 have i4 : (Tryz.prog.info? 26).map (·.size) = some ((bvs N.file).toArray).size := by rw [List.size_toArray, bvs_len, hN.ok.file]; kernel_rfl
 have q1 := fun W => run_eqSum (w := W) (x := M.sum) (y := N.sum) hM.ok.sum hN.ok.sum
 have q2 := fun W => run_eqSum (w := W) (x := M.file) (y := N.file) hM.ok.file hN.ok.file
 have e1 := fun W (x : Ext w W) => equal_any M.la N.la M.lo N.lo M.lc N.lc W (hM.lr.below x) (hN.lr.below x)
 have e2 := fun W (x : Ext w W) => equal_any M.ha N.ha M.hi N.hi M.hc N.hc W (hM.hr.below x) (hN.hr.below x)
 have e3 := fun W (x : Ext w W) => equal_any M.da N.da M.data N.data M.dc N.dc W (hM.dr.below x) (hN.dr.below x)
 have e4 := fun W (x : Ext w W) => equalW_any M.sa N.sa M.subs N.subs M.sc N.sc W (hM.sr.below x) (hN.sr.below x) f1 f2
 have e5 := fun W (x : Ext w W) => equalE_any M.ea N.ea M.ents N.ents M.ec N.ec W (hM.er.below x) (hN.er.below x) f3 f4
 have e6 := fun W (x : Ext w W) => equalG_any M.ga N.ga M.sigs N.sigs M.gc N.gc W (hM.gr.below x) (hN.gr.below x) f5
 obtain ⟨c1, hc1⟩ : ∃ b, b = (M.x.kind == N.x.kind) := ⟨_, rfl⟩
 obtain ⟨c2, hc2⟩ : ∃ b, b = ((M.x.session : Int) == (N.x.session : Int)) := ⟨_, rfl⟩
 obtain ⟨c3, hc3⟩ : ∃ b, b = ((M.x.seq : Int) == (N.x.seq : Int)) := ⟨_, rfl⟩
 obtain ⟨c4, hc4⟩ : ∃ b, b = (M.x.n == N.x.n) := ⟨_, rfl⟩
 obtain ⟨c5, hc5⟩ : ∃ b, b = ((M.x.lsn : Int) == (N.x.lsn : Int)) := ⟨_, rfl⟩
 obtain ⟨c6, hc6⟩ : ∃ b, b = (M.x.count == N.x.count) := ⟨_, rfl⟩
 obtain ⟨c7, hc7⟩ : ∃ b, b = (M.x.sum == N.x.sum) := ⟨_, rfl⟩
 obtain ⟨c8, hc8⟩ : ∃ b, b = (M.x.size == N.x.size) := ⟨_, rfl⟩
 obtain ⟨c9, hc9⟩ : ∃ b, b = (M.x.file == N.x.file) := ⟨_, rfl⟩
 obtain ⟨c10, hc10⟩ : ∃ b, b = (M.x.more == N.x.more) := ⟨_, rfl⟩
 obtain ⟨c11, hc11⟩ : ∃ b, b = (M.x.lo == N.x.lo) := ⟨_, rfl⟩
 obtain ⟨c12, hc12⟩ : ∃ b, b = (M.x.hi == N.x.hi) := ⟨_, rfl⟩
 obtain ⟨c13, hc13⟩ : ∃ b, b = (M.x.data == N.x.data) := ⟨_, rfl⟩
 obtain ⟨c14, hc14⟩ : ∃ b, b = decide (M.x.subs = N.x.subs) := ⟨_, rfl⟩
 obtain ⟨c15, hc15⟩ : ∃ b, b = decide (M.x.ents = N.x.ents) := ⟨_, rfl⟩
 obtain ⟨c16, hc16⟩ : ∃ b, b = decide (M.x.sigs = N.x.sigs) := ⟨_, rfl⟩
 rw [← hc1, ← hc2, ← hc3, ← hc4, ← hc5, ← hc6, ← hc7, ← hc8, ← hc9, ← hc10, ← hc11, ← hc12, ← hc13, ← hc14, ← hc15, ← hc16]
 have r1 : (M.kind == N.kind) = c1 := hc1.symm
 have r2 : ((M.session : Int) == (N.session : Int)) = c2 := hc2.symm
 have r3 : ((M.seq : Int) == (N.seq : Int)) = c3 := hc3.symm
 have r4 : (M.n == N.n) = c4 := hc4.symm
 have r5 : ((M.lsn : Int) == (N.lsn : Int)) = c5 := hc5.symm
 have r6 : (M.count == N.count) = c6 := hc6.symm
 have r8 : (M.size == N.size) = c8 := hc8.symm
 have r10 : (M.more == N.more) = c10 := hc10.symm
 rw [show (M.sum == N.sum) = c7 from hc7.symm] at q1
 rw [show (M.file == N.file) = c9 from hc9.symm] at q2
 rw [show (M.lo == N.lo) = c11 from hc11.symm] at e1
 rw [show (M.hi == N.hi) = c12 from hc12.symm] at e2
 rw [show (M.data == N.data) = c13 from hc13.symm] at e3
 rw [show decide (M.subs.map WsV.x = N.subs.map WsV.x) = c14 from hc14.symm] at e4
 rw [show decide (M.ents.map EnV.x = N.ents.map EnV.x) = c15 from hc15.symm] at e5
 rw [show decide (M.sigs = N.sigs) = c16 from hc16.symm] at e6
 clear hc1 hc2 hc3 hc4 hc5 hc6 hc7 hc8 hc9 hc10 hc11 hc12 hc13 hc14 hc15 hc16
 obtain ⟨B5, hB5⟩ : ∃ b, b = ((c1 && c2) && c3) := ⟨_, rfl⟩
 obtain ⟨B6, hB6⟩ : ∃ b, b = ((((((c4 && c5) && c6) && c7) && c8) && c9) && c10) := ⟨_, rfl⟩
 obtain ⟨B7, hB7⟩ : ∃ b, b = ((c11 && c12) && c13) := ⟨_, rfl⟩
 rw [← hB5, ← hB6, ← hB7]
 have HB5 := Lib.hid hB5
 have HB6 := Lib.hid hB6
 have HB7 := Lib.hid hB7
 clear hB5 hB6 hB7
 have HE := Lib.hid hE
 have Hs1 := Lib.hid s1
 have Hs2 := Lib.hid s2
 have Hs3 := Lib.hid s3
 have Hs4 := Lib.hid s4
 have Q1 := Lib.hid q1
 have Q2 := Lib.hid q2
 clear hE s1 s2 s3 s4 q1 q2 g0 k0 hM hN f1 f2 f3 f4 f5
 obtain ⟨W0, hW0⟩ : ∃ W0, W0 = (w.alloc (.cells M.cells MT)).alloc (.cells N.cells MT) := ⟨_, rfl⟩
 obtain ⟨P, hP⟩ : ∃ P, P = M.cells := ⟨_, rfl⟩
 obtain ⟨Q, hQ⟩ : ∃ Q, Q = N.cells := ⟨_, rfl⟩
 rw [← hW0] at HE Hs1 Hs2 Hs3 Hs4 a0 b0 a1 b1 a2 b2 a3 b3 a4 b4 a5 b5 a6 b6 a7 b7 a40 b40 a73 b73 a74 b74 a75 b75 a76 b76 a77 b77
 rw [← hP, ← hQ] at hW0 ⊢
 have HW0 := Lib.hid hW0
 clear hP hQ hW0
 go_enter Tryz.func12, Tryz.ntmps12
 go_upto_region 1 with fail
 rw [← HW0.out]
 go_cut [5] from 8 (fun s5 w' => s5 = .bool B5 ∧ w' = W0)
 case first =>
  go_wp2_with fail
  all_goals (go_meet; exact ⟨by rw [HB5.out]; first | rfl | (simp [*]; done), rfl⟩)
 case rest =>
 obtain ⟨rfl, hw⟩ := hcut
 rw [hw]
 clear hw
 go_upto_region 2 with fail
 go_cut [5, 6] from 8 (fun s5 s6 w' => s5 = .bool B5 ∧ s6 = .bool B6 ∧ w' = W0)
 case first =>
  cases c4 with
  | false =>
   go_wp2_with fail
   all_goals (go_meet; exact ⟨rfl, by rw [HB6.out]; first | rfl | (simp; done), rfl⟩)
  | true =>
   cases c5 with
   | false =>
    go_wp2_with fail
    all_goals (go_meet; exact ⟨rfl, by rw [HB6.out]; first | rfl | (simp; done), rfl⟩)
   | true =>
    cases c6 with
    | false =>
     go_wp2_with fail
     all_goals (go_meet; exact ⟨rfl, by rw [HB6.out]; first | rfl | (simp; done), rfl⟩)
    | true =>
     cases c7 with
     | false =>
      go_wp2_with (first | (refine wpList_load_cells (by rfl) 26 (.tmp 47) rfl ⟨w.heap.size, 8, none⟩ rfl (bvs M.sum).toArray _ Hs1.out Tryz.underlying26 rfl i1 ?_) | (refine wpList_load_cells (by rfl) 26 (.tmp 49) rfl ⟨w.heap.size + 1, 8, none⟩ rfl (bvs N.sum).toArray _ Hs2.out Tryz.underlying26 rfl i2 ?_; refine wpList_eqM (t := 26) (u := 26) (x := .tmp 48) (y := .tmp 50) (p := .agg (bvs M.sum).toArray) (q := .agg (bvs N.sum).toArray) (b := _) rfl (by rfl) rfl rfl Q1.out (fun W => guardSumM W _ _ _ _) ?_) | (refine wpList_load_cells (by rfl) 26 (.tmp 61) rfl ⟨w.heap.size, 41, none⟩ rfl (bvs M.file).toArray _ Hs3.out Tryz.underlying26 rfl i3 ?_) | (refine wpList_load_cells (by rfl) 26 (.tmp 63) rfl ⟨w.heap.size + 1, 41, none⟩ rfl (bvs N.file).toArray _ Hs4.out Tryz.underlying26 rfl i4 ?_; refine wpList_eqM (t := 26) (u := 26) (x := .tmp 62) (y := .tmp 64) (p := .agg (bvs M.file).toArray) (q := .agg (bvs N.file).toArray) (b := _) rfl (by rfl) rfl rfl Q2.out (fun W => guardSumM W _ _ _ _) ?_))
      all_goals (go_meet; exact ⟨rfl, by rw [HB6.out]; first | rfl | (simp; done), rfl⟩)
     | true =>
      cases c8 with
      | false =>
       go_wp2_with (first | (refine wpList_load_cells (by rfl) 26 (.tmp 47) rfl ⟨w.heap.size, 8, none⟩ rfl (bvs M.sum).toArray _ Hs1.out Tryz.underlying26 rfl i1 ?_) | (refine wpList_load_cells (by rfl) 26 (.tmp 49) rfl ⟨w.heap.size + 1, 8, none⟩ rfl (bvs N.sum).toArray _ Hs2.out Tryz.underlying26 rfl i2 ?_; refine wpList_eqM (t := 26) (u := 26) (x := .tmp 48) (y := .tmp 50) (p := .agg (bvs M.sum).toArray) (q := .agg (bvs N.sum).toArray) (b := _) rfl (by rfl) rfl rfl Q1.out (fun W => guardSumM W _ _ _ _) ?_) | (refine wpList_load_cells (by rfl) 26 (.tmp 61) rfl ⟨w.heap.size, 41, none⟩ rfl (bvs M.file).toArray _ Hs3.out Tryz.underlying26 rfl i3 ?_) | (refine wpList_load_cells (by rfl) 26 (.tmp 63) rfl ⟨w.heap.size + 1, 41, none⟩ rfl (bvs N.file).toArray _ Hs4.out Tryz.underlying26 rfl i4 ?_; refine wpList_eqM (t := 26) (u := 26) (x := .tmp 62) (y := .tmp 64) (p := .agg (bvs M.file).toArray) (q := .agg (bvs N.file).toArray) (b := _) rfl (by rfl) rfl rfl Q2.out (fun W => guardSumM W _ _ _ _) ?_))
       all_goals (go_meet; exact ⟨rfl, by rw [HB6.out]; first | rfl | (simp; done), rfl⟩)
      | true =>
       cases c9 with
       | false =>
        go_wp2_with (first | (refine wpList_load_cells (by rfl) 26 (.tmp 47) rfl ⟨w.heap.size, 8, none⟩ rfl (bvs M.sum).toArray _ Hs1.out Tryz.underlying26 rfl i1 ?_) | (refine wpList_load_cells (by rfl) 26 (.tmp 49) rfl ⟨w.heap.size + 1, 8, none⟩ rfl (bvs N.sum).toArray _ Hs2.out Tryz.underlying26 rfl i2 ?_; refine wpList_eqM (t := 26) (u := 26) (x := .tmp 48) (y := .tmp 50) (p := .agg (bvs M.sum).toArray) (q := .agg (bvs N.sum).toArray) (b := _) rfl (by rfl) rfl rfl Q1.out (fun W => guardSumM W _ _ _ _) ?_) | (refine wpList_load_cells (by rfl) 26 (.tmp 61) rfl ⟨w.heap.size, 41, none⟩ rfl (bvs M.file).toArray _ Hs3.out Tryz.underlying26 rfl i3 ?_) | (refine wpList_load_cells (by rfl) 26 (.tmp 63) rfl ⟨w.heap.size + 1, 41, none⟩ rfl (bvs N.file).toArray _ Hs4.out Tryz.underlying26 rfl i4 ?_; refine wpList_eqM (t := 26) (u := 26) (x := .tmp 62) (y := .tmp 64) (p := .agg (bvs M.file).toArray) (q := .agg (bvs N.file).toArray) (b := _) rfl (by rfl) rfl rfl Q2.out (fun W => guardSumM W _ _ _ _) ?_))
        all_goals (go_meet; exact ⟨rfl, by rw [HB6.out]; first | rfl | (simp; done), rfl⟩)
       | true =>
        go_wp2_with (first | (refine wpList_load_cells (by rfl) 26 (.tmp 47) rfl ⟨w.heap.size, 8, none⟩ rfl (bvs M.sum).toArray _ Hs1.out Tryz.underlying26 rfl i1 ?_) | (refine wpList_load_cells (by rfl) 26 (.tmp 49) rfl ⟨w.heap.size + 1, 8, none⟩ rfl (bvs N.sum).toArray _ Hs2.out Tryz.underlying26 rfl i2 ?_; refine wpList_eqM (t := 26) (u := 26) (x := .tmp 48) (y := .tmp 50) (p := .agg (bvs M.sum).toArray) (q := .agg (bvs N.sum).toArray) (b := _) rfl (by rfl) rfl rfl Q1.out (fun W => guardSumM W _ _ _ _) ?_) | (refine wpList_load_cells (by rfl) 26 (.tmp 61) rfl ⟨w.heap.size, 41, none⟩ rfl (bvs M.file).toArray _ Hs3.out Tryz.underlying26 rfl i3 ?_) | (refine wpList_load_cells (by rfl) 26 (.tmp 63) rfl ⟨w.heap.size + 1, 41, none⟩ rfl (bvs N.file).toArray _ Hs4.out Tryz.underlying26 rfl i4 ?_; refine wpList_eqM (t := 26) (u := 26) (x := .tmp 62) (y := .tmp 64) (p := .agg (bvs M.file).toArray) (q := .agg (bvs N.file).toArray) (b := _) rfl (by rfl) rfl rfl Q2.out (fun W => guardSumM W _ _ _ _) ?_))
        all_goals (go_meet; exact ⟨rfl, by rw [HB6.out]; first | rfl | (simp; done), rfl⟩)
 case rest =>
 obtain ⟨rfl, rfl, hw⟩ := hcut
 rw [hw]
 clear hw
 go_upto_region 3 with fail
 go_cut [5, 6, 7] from 8 (fun s5 s6 s7 w' => s5 = .bool B5 ∧ s6 = .bool B6 ∧ s7 = .bool B7 ∧ w' = W0)
 case first =>
  cases c11 with
  | false =>
   go_wp2_with (go_at_call 27; first | (refine (e1 W0 HE.out).mono ?_; rintro e w' ⟨rfl, rfl⟩) | (refine (e2 W0 HE.out).mono ?_; rintro e w' ⟨rfl, rfl⟩) | (refine (e3 W0 HE.out).mono ?_; rintro e w' ⟨rfl, rfl⟩))
   all_goals (go_meet; exact ⟨rfl, rfl, by rw [HB7.out]; first | rfl | (simp; done), rfl⟩)
  | true =>
   cases c12 with
   | false =>
    go_wp2_with (go_at_call 27; first | (refine (e1 W0 HE.out).mono ?_; rintro e w' ⟨rfl, rfl⟩) | (refine (e2 W0 HE.out).mono ?_; rintro e w' ⟨rfl, rfl⟩) | (refine (e3 W0 HE.out).mono ?_; rintro e w' ⟨rfl, rfl⟩))
    all_goals (go_meet; exact ⟨rfl, rfl, by rw [HB7.out]; first | rfl | (simp; done), rfl⟩)
   | true =>
    go_wp2_with (go_at_call 27; first | (refine (e1 W0 HE.out).mono ?_; rintro e w' ⟨rfl, rfl⟩) | (refine (e2 W0 HE.out).mono ?_; rintro e w' ⟨rfl, rfl⟩) | (refine (e3 W0 HE.out).mono ?_; rintro e w' ⟨rfl, rfl⟩))
    all_goals (go_meet; exact ⟨rfl, rfl, by rw [HB7.out]; first | rfl | (simp; done), rfl⟩)
 case rest =>
 obtain ⟨rfl, rfl, rfl, hw⟩ := hcut
 rw [hw]
 clear hw
 cases B5 with
 | false =>
  go_wp2_with fail
  go_ret
  exact ⟨by simp, HE.out⟩
 | true =>
  cases B6 with
  | false =>
   go_wp2_with fail
   go_ret
   exact ⟨by simp, HE.out⟩
  | true =>
   cases B7 with
   | false =>
    go_wp2_with fail
    go_ret
    exact ⟨by simp, HE.out⟩
   | true =>
    cases c14 with
    | false =>
     go_wp2_with (go_at_call 30; refine (e4 W0 HE.out).mono ?_; rintro e wa ⟨rfl, hxa⟩; refine Hid.out ?_)
     have HXa := Lib.hid (HE.out.tr hxa)
     have a73 := Ext.load (hxa) a73
     have b73 := Ext.load (hxa) b73
     have a75 := Ext.load (hxa) a75
     have b75 := Ext.load (hxa) b75
     have a76 := Ext.load (hxa) a76
     have b76 := Ext.load (hxa) b76
     clear hxa
     refine Lib.hid ?_
     go_wp2_with fail
     go_ret
     exact ⟨by simp, HXa.out⟩
    | true =>
     cases c15 with
     | false =>
      go_wp2_with (go_at_call 30; refine (e4 W0 HE.out).mono ?_; rintro e wa ⟨rfl, hxa⟩; refine Hid.out ?_)
      have HXa := Lib.hid (HE.out.tr hxa)
      have a73 := Ext.load (hxa) a73
      have b73 := Ext.load (hxa) b73
      have a75 := Ext.load (hxa) a75
      have b75 := Ext.load (hxa) b75
      have a76 := Ext.load (hxa) a76
      have b76 := Ext.load (hxa) b76
      clear hxa
      refine Lib.hid ?_
      go_wp2_with (go_at_call 32; refine (e5 wa HXa.out).mono ?_; rintro e wb ⟨rfl, hxb⟩; refine Hid.out ?_)
      have HXb := Lib.hid (HXa.out.tr hxb)
      have a73 := Ext.load (hxb) a73
      have b73 := Ext.load (hxb) b73
      have a75 := Ext.load (hxb) a75
      have b75 := Ext.load (hxb) b75
      have a76 := Ext.load (hxb) a76
      have b76 := Ext.load (hxb) b76
      clear hxb
      refine Lib.hid ?_
      go_wp2_with fail
      go_ret
      exact ⟨by simp, HXb.out⟩
     | true =>
      go_wp2_with (go_at_call 30; refine (e4 W0 HE.out).mono ?_; rintro e wa ⟨rfl, hxa⟩; refine Hid.out ?_)
      have HXa := Lib.hid (HE.out.tr hxa)
      have a73 := Ext.load (hxa) a73
      have b73 := Ext.load (hxa) b73
      have a75 := Ext.load (hxa) a75
      have b75 := Ext.load (hxa) b75
      have a76 := Ext.load (hxa) a76
      have b76 := Ext.load (hxa) b76
      clear hxa
      refine Lib.hid ?_
      go_wp2_with (go_at_call 32; refine (e5 wa HXa.out).mono ?_; rintro e wb ⟨rfl, hxb⟩; refine Hid.out ?_)
      have HXb := Lib.hid (HXa.out.tr hxb)
      have a73 := Ext.load (hxb) a73
      have b73 := Ext.load (hxb) b73
      have a75 := Ext.load (hxb) a75
      have b75 := Ext.load (hxb) b75
      have a76 := Ext.load (hxb) a76
      have b76 := Ext.load (hxb) b76
      clear hxb
      refine Lib.hid ?_
      go_wp2_with (go_at_call 34; refine (e6 wb HXb.out).mono ?_; rintro e wd ⟨rfl, hxd⟩; refine Hid.out ?_)
      have HXd := Lib.hid (HXb.out.tr hxd)
      clear hxd
      refine Lib.hid ?_
      go_wp2_with fail
      go_ret
      exact ⟨by simp, HXd.out⟩
end Go.Proofs.YtjholekgdnhpkaaGreatDoor
