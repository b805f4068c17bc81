/- Texts of the proof, laid together: Const WrY. -/
import Derived.Test.YtjholekgdnhpkaaGreatDoorZ1
import Derived.Lib.SlBytesConst
import Derived.Test.YtjholekgdnhpkaaGreatDoorZ19
import Derived.Test.YtjholekgdnhpkaaGreatDoorZ20
import Derived.Test.YtjholekgdnhpkaaGreatDoorZ21
import Derived.Test.YtjholekgdnhpkaaGreatDoorZ15
set_option linter.unusedVariables false
set_option linter.unusedSimpArgs false
set_option linter.unusedSectionVars false
namespace Go.Proofs.YtjholekgdnhpkaaGreatDoor
open Go.RowKit
theorem convC {P : Program} {t e : TypeId} (ht : P.underlying t = some (.slice e)) (he : P.underlying e = some (.int .u8)) (w : World) (C : Array Value) (n c b : Nat) (hb : b = w.heap.size) :
  (convert t t (.slice (some ⟨b, 0, none⟩) n c)).run P (w.alloc (.cells C e)) = .ok (.slice (some ⟨b, 0, none⟩) n c) (w.alloc (.cells C e (C.size, C.size + 1))) := by
 subst hb
 exact Lib.run_convert_bytes_const w t e C n c ht he
end Go.Proofs.YtjholekgdnhpkaaGreatDoor
namespace Go.Proofs.YtjholekgdnhpkaaGreatDoor
open Go.RowKit
attribute [local go_sem] Oper.semAt_some
def liveM (A : Option Addr) : WmV := { WmV.nul with kind := 3, session := 1, seq := 2, la := A, lc := 1, lo := [97] }
def liveH : WmV := { WmV.nul with kind := 1, n := 1 }
def liveX : Wm := { Wm.nul with kind := 3, session := 1, seq := 2, lo := [97] }
theorem liveM_x (A : Option Addr) : (liveM A).x = liveX := rfl
theorem liveM_ok (A : Option Addr) : (liveM A).Ok := by constructor <;> simp [liveM, WmV.nul]
theorem liveH_ok : liveH.Ok := by constructor <;> decide
theorem liveX_own : liveX.Own := { session := by decide, seq := by decide, lsn := by decide, sum := by decide, file := by decide, sub := (fun s hs => by cases hs), sig := (fun s hs => by cases hs) }
theorem live_put : liveX.put.2 = 0 ∧ liveX.put.1.length = 16 := by decide +kernel
theorem live_no : liveH.x.put = ([], 240) := by decide +kernel
theorem ex_buildLive {w : World} {o : Oper} {a : Act} (x y z u : Operand) (ho : o.op = .build MT #[(0, x), (1, y), (2, z), (3, u)]) (A : Option Addr) (hx : a.eval x = .int .i64 3) (hy : a.eval y = .int .u32 1) (hz : a.eval z = .int .u32 2) (hu : a.eval u = .slice A 1 1) :
  (execOp a.eval o).run Tryz.prog w = .ok (.value (.agg (liveM A).cells)) w := by
 unfold execOp
 simp only [ho]
 rw [show (Array.map (fun (y : Nat × Operand) => (y.1, a.eval y.2)) #[(0, x), (1, y), (2, z), (3, u)]) = #[(0, Value.int .i64 3), (1, Value.int .u32 1), (2, Value.int .u32 2), (3, Value.slice A 1 1)] by simp [hx, hy, hz, hu]]
 kernel_rfl
theorem ex_buildHello {w : World} {o : Oper} {a : Act} (x y : Operand) (ho : o.op = .build MT #[(0, x), (5, y)]) (hx : a.eval x = .int .i64 1) (hy : a.eval y = .int .i64 1) :
  (execOp a.eval o).run Tryz.prog w = .ok (.value (.agg liveH.cells)) w := by
 unfold execOp
 simp only [ho]
 rw [show (Array.map (fun (y : Nat × Operand) => (y.1, a.eval y.2)) #[(0, x), (5, y)]) = #[(0, Value.int .i64 1), (5, Value.int .i64 1)] by simp [hx, hy]]
 kernel_rfl
set_option maxRecDepth 100000 in
set_option maxHeartbeats 4000000 in
theorem live24 (w : World) : Calls Tryz.prog 5 #[] w fun e w' => e = .returned (.bool true) ∧ Ext w w' := by
 have kc := convC (P := Tryz.prog) Tryz.underlying23 Tryz.underlying5
 obtain ⟨V1, hV1⟩ : ∃ V1, V1 = w.alloc (.cells #[.int .u8 97] 5 (1, 2)) := ⟨_, rfl⟩
 have hxv : Ext w V1 := by rw [hV1]; exact Ext.alloc _ _
 have e0 : V1.heap[w.heap.size]? = some (.cells (bvs [97]).toArray 5 (1, 2)) := by rw [hV1]; exact heap_alloc_new w _
 obtain ⟨n, hn⟩ : ∃ n, n = liveM (some ⟨w.heap.size, 0, none⟩) := ⟨_, rfl⟩
 have hnx : n.x = liveX := by rw [hn]; exact liveM_x _
 have hnl : n.subs = [] ∧ n.ents = [] ∧ n.sigs = [] := by rw [hn]; exact ⟨rfl, rfl, rfl⟩
 have hrd : RdB V1 (some ⟨w.heap.size, 0, none⟩) [97] := ⟨by rw [bvs_len]; omega, fun _ => ⟨_, rfl, fun j u hj => by rw [Addr.add_lit, cell_of_row V1 _ _ _ _ _ e0]; simpa using hj⟩⟩
 have hin : n.In V1 := by
  rw [hn]
  exact ⟨liveM_ok _, hrd, RdB.nil_ _ _, RdW.nil_ _ _, RdE.nil_ _ _, RdG.nil_ _ _, RdB.nil_ _ _⟩
 have hinfo := WmV.info hin.ok
 have hsz := WmV.size78 hin.ok
 have hone := WmV.one n
 obtain ⟨P, hP⟩ : ∃ P, P = n.cells := ⟨_, rfl⟩
 have hPl : (liveM (some ⟨w.heap.size, 0, none⟩)).cells = P := by rw [hP, hn]
 rw [← hP] at hinfo hsz hone
 obtain ⟨W1, hW1⟩ : ∃ W1, W1 = V1.alloc (.cells P MT) := ⟨_, rfl⟩
 have hx1 : Ext w W1 := by rw [hW1]; exact hxv.tr (Ext.alloc _ _)
 have g1 : W1.heap[V1.heap.size]? = some (.cells P MT (0, 0)) := by rw [hW1]; exact heap_alloc_new V1 _
 have n1 : n.In W1 := by rw [hW1]; exact hin.ext (Ext.alloc _ _)
 have hpu := wput_any n W1 n1 (by rw [hnl.1]; simp) (fun _ _ _ => by rw [hnl.2.1]; simp [Ent.total]) (by rw [hnl.2.1]; simp)
 rw [hnx, ← hP] at hpu
 have HPU := Lib.hid hpu
 have HW1 := Lib.hid hW1
 have HV1 := Lib.hid hV1
 have HPl := Lib.hid hPl
 have HP := Lib.hid hP
 have N1 := Lib.hid n1
 have HX1 := Lib.hid hx1
 have Hnx := Lib.hid hnx
 have Hnl := Lib.hid hnl
 have G1 := Lib.hid g1
 clear hpu hW1 hV1 hPl hP n1 hx1 hnx hnl hin hrd e0 hxv hn g1
 go_enter Tryz.func5, Tryz.ntmps5
 go_wp2_with (first | (refine wpList_run rfl _ _ (ex_buildLive _ _ _ _ rfl _ rfl rfl rfl rfl) ?_; rw [HPl.out, ← HV1.out]) | (refine wpList_run rfl _ _ (ex_allocMsg rfl) ?_) | (refine wpList_store_row rfl MT (.tmp 1) (.tmp 10) rfl V1.heap.size P rfl rfl MT _ (heap_alloc_new V1 _) hinfo (by rw [hsz]; rfl) hone ?_; rw [setRow_alloc, ← HW1.out]; refine Hid.out ?_))
 have g1 := G1.out
 have hpq := live_put
 have hgp := fun p (h : liveX.put = (p, 0)) => Wm.get_put liveX_own h
 have hPU := HPU.out
 unfold WPut at hPU
 generalize liveX.put = pu at hPU hgp hpq
 obtain ⟨p, er⟩ := pu
 simp only at hPU hpq
 obtain ⟨rfl, hpl⟩ := hpq
 have hpl2 : ((p.length : Int) == 16) = true := by rw [hpl]; rfl
 have HPL := Lib.hid hpl
 have HPL2 := Lib.hid hpl2
 have HGP := Lib.hid (hgp p rfl)
 have HPU2 := Lib.hid hPU
 clear hPU hgp hpl hpl2 HPU
 refine Lib.hid ?_
 go_wp2_with (first | (refine wpList_load_rowG (by rfl) MT (.tmp 1) rfl V1.heap.size rfl MT P (0, 0) _ g1 Tryz.underlying31 rfl hinfo ?_) | (go_at_call 8; refine HPU2.out.mono ?_; rintro e2 w2 ⟨A2, c2, rfl, ho2, hx2⟩; refine Hid.out ?_))
 have g2 := (hx2.block _ (lt_of_heap g1)).trans g1
 have X2 := Lib.hid (HX1.out.tr hx2)
 have N2 := Lib.hid (N1.out.ext hx2)
 have hg3 := wget_any A2 p c2 w2 (Own.rd' ho2) (by have := HPL.out; omega) ho2.nc
 rw [HGP.out] at hg3
 have HG3 := Lib.hid hg3
 clear g1 hx2 ho2 hg3 HPU2
 refine Lib.hid ?_
 go_wp2_with (go_at_call 9; refine HG3.out.mono ?_; rintro e3 w3 ⟨M3, rfl, hx3, hin3, hext3⟩; refine Hid.out ?_)
 try simp only at hx3
 have g3 := (hext3.block _ (lt_of_heap g2)).trans g2
 have hst3 := Ext.alloc w3 (.cells M3.cells MT)
 have i3 := WmV.info hin3.ok
 have s3 := WmV.size78 hin3.ok
 have o3 := WmV.one M3
 have hIn3 := hin3.ext hst3
 have K3 := heap_alloc_new w3 (.cells M3.cells MT)
 have hXX3 := (X2.out).tr (hext3.tr hst3)
 have hYY3 := hext3.tr hst3
 obtain ⟨P3, hP3⟩ : ∃ P, P = M3.cells := ⟨_, rfl⟩
 rw [← hP3] at i3 s3 o3 hIn3 K3 hXX3 hYY3 ⊢
 obtain ⟨W3, hW3⟩ : ∃ W, W = w3.alloc (.cells P3 MT) := ⟨_, rfl⟩
 rw [← hW3] at hIn3 K3 hXX3 hYY3
 have HW3 := Lib.hid hW3
 have HP3 := Lib.hid hP3
 have N3 := Lib.hid hIn3
 have X3 := Lib.hid hXX3
 have Y3 := Lib.hid hYY3
 clear hst3 hIn3 hXX3 hYY3 hW3 hP3 hin3 hext3
 have j3 := ((Ext.alloc w3 (.cells P3 MT)).block _ (lt_of_heap g3)).trans g3
 rw [← HW3.out] at j3
 have NN3 := Lib.hid (N2.out.ext Y3.out)
 have hpu4 := wput_any liveH W3 ⟨liveH_ok, RdB.nil_ _ _, RdB.nil_ _ _, RdW.nil_ _ _, RdE.nil_ _ _, RdG.nil_ _ _, RdB.nil_ _ _⟩ (by decide) (fun _ _ _ => by decide) (by decide)
 unfold WPut at hpu4
 rw [live_no] at hpu4
 have HPU4 := Lib.hid hpu4
 have Hx3 := Lib.hid hx3
 clear hpu4 hx3 g2 g3 N2
 refine Lib.hid ?_
 go_wp2_with (first | (refine wpList_run rfl _ _ (ex_allocMsg rfl) ?_) | (refine wpList_store_row rfl MT (.tmp 4) (.tmp 19) rfl w3.heap.size P3 rfl rfl MT _ (heap_alloc_new w3 _) i3 (by rw [s3]; rfl) o3 ?_; rw [setRow_alloc, ← HW3.out]) | (refine wpList_run rfl _ _ (ex_buildHello _ _ rfl rfl rfl) ?_) | (go_at_call 8; refine HPU4.out.mono ?_; rintro e4 w4 ⟨A4, c4, rfl, ho4, hx4⟩; refine Hid.out ?_))
 have g4 := (hx4.block _ (lt_of_heap j3)).trans j3
 have k4 := (hx4.block _ (lt_of_heap K3)).trans K3
 have X4 := Lib.hid (X3.out.tr hx4)
 have N4 := Lib.hid (NN3.out.ext hx4)
 have M4 := Lib.hid (N3.out.ext hx4)
 clear hx4 ho4 j3 K3 HPU4
 have hl3 : M3.subs.length = 0 ∧ M3.ents.length = 0 ∧ M3.sigs.length = 0 := by
  have h1 : M3.subs.map WsV.x = [] := congrArg Wm.subs Hx3.out
  have h2 : M3.ents.map EnV.x = [] := congrArg Wm.ents Hx3.out
  have h3 : M3.sigs = [] := congrArg Wm.sigs Hx3.out
  refine ⟨?_, ?_, by rw [h3]; rfl⟩
  ·
   rw [← List.length_map (f := WsV.x), h1]; rfl
  ·
   rw [← List.length_map (f := EnV.x), h2]; rfl
 have hr4 := rsame_any n M3 w4 N4.out M4.out (by rw [Hnl.out.1]; simp) (by rw [Hnl.out.2.1]; simp) (by rw [Hnl.out.2.2]; simp)
 rw [Hnx.out, Hx3.out, ← HP.out, ← HP3.out, show decide (liveX = liveX) = true from decide_eq_true rfl] at hr4
 have hs5 := fun W (x : Ext w4 W) => wsame_any n M3 W (N4.out.ext x) (M4.out.ext x) (by rw [Hnl.out.1]; simp) (by omega) (by rw [Hnl.out.2.1]; simp) (by omega) (by rw [Hnl.out.2.2]; simp)
 rw [Hnx.out, Hx3.out, ← HP.out, ← HP3.out, show decide (liveX = liveX) = true from decide_eq_true rfl] at hs5
 have hs6 := fun W (x : Ext w4 W) => wsame_any n WmV.nul W (N4.out.ext x) (WmV.nul_in _) (by rw [Hnl.out.1]; simp) (by simp [WmV.nul]) (by rw [Hnl.out.2.1]; simp) (by simp [WmV.nul]) (by rw [Hnl.out.2.2]; simp)
 rw [Hnx.out, ← HP.out, show decide (liveX = WmV.nul.x) = false by decide +kernel] at hs6
 have HR4 := Lib.hid hr4
 have HS5 := Lib.hid hs5
 have HS6 := Lib.hid hs6
 have hpl := HPL2.out
 clear hr4 hs5 hs6 hl3
 refine Lib.hid ?_
 go_wp2_with (first | (go_at_call 10; refine (num24 _ _).mono ?_; rintro e w' ⟨rfl, rfl⟩) | (refine wpList_load_rowG (by rfl) MT (.tmp 1) rfl V1.heap.size rfl MT P (0, 0) _ g4 Tryz.underlying31 rfl hinfo ?_) | (refine wpList_load_rowG (by rfl) MT (.tmp 4) rfl w3.heap.size rfl MT P3 (0, 0) _ k4 Tryz.underlying31 rfl i3 ?_) | (go_at_call 11; refine HR4.out.mono ?_; rintro e5 w5 ⟨rfl, hx5⟩; refine Hid.out ?_))
 have g5 := (hx5.block _ (lt_of_heap g4)).trans g4
 have k5 := (hx5.block _ (lt_of_heap k4)).trans k4
 have X5 := Lib.hid hx5
 clear g4 k4 hx5
 refine Lib.hid ?_
 go_wp2_with (first | (go_at_call 10; refine (num24 _ _).mono ?_; rintro e w' ⟨rfl, rfl⟩) | (refine wpList_load_rowG (by rfl) MT (.tmp 1) rfl V1.heap.size rfl MT P (0, 0) _ g5 Tryz.underlying31 rfl hinfo ?_) | (refine wpList_load_rowG (by rfl) MT (.tmp 4) rfl w3.heap.size rfl MT P3 (0, 0) _ k5 Tryz.underlying31 rfl i3 ?_) | (go_at_call 12; refine (HS5.out _ X5.out).mono ?_; rintro e6 w6 ⟨rfl, hx6⟩; refine Hid.out ?_))
 have g6 := (hx6.block _ (lt_of_heap g5)).trans g5
 have X6 := Lib.hid (X5.out.tr hx6)
 clear g5 k5 hx6
 refine Lib.hid ?_
 go_wp2_with (first | (refine wpList_load_rowG (by rfl) MT (.tmp 1) rfl V1.heap.size rfl MT P (0, 0) _ g6 Tryz.underlying31 rfl hinfo ?_) | (refine wpList_run (by rfl) _ _ (ex_buildMsg0 rfl) ?_) | (go_at_call 12; refine (HS6.out _ X6.out).mono ?_; rintro e7 w7 ⟨rfl, hx7⟩; have X7 := Lib.hid (X6.out.tr hx7); clear hx7))
 go_ret
 exact ⟨rfl, X4.out.tr X7.out⟩
end Go.Proofs.YtjholekgdnhpkaaGreatDoor
