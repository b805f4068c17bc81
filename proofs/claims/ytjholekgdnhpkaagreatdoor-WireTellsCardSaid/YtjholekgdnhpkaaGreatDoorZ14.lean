/- Texts of the proof, laid together: WrM. -/
import Derived.Deep.Draws
import Derived.Deep.RegionHeld
import Derived.Great.BuildSlice
import Derived.Laws.BitsAllLaws
import Derived.Laws.CopyRow
import Derived.Laws.Externs
import Derived.Laws.ResultCell
import Derived.Laws.Rows
import Derived.Laws.StructEq
import Derived.Lib.Bytealg
import Derived.Lib.Hide
import Derived.LoopIn
import Derived.LoopNIn
import Derived.MapKept
import Derived.OrdersHeld
import Derived.OrdersIn
import Derived.OwnWalkIn
import Derived.RangeFuncBound
import Derived.RangeFuncCalls
import Derived.RangeFuncLeaves
import Derived.RangeFuncNested
import Derived.TacticsInMore
import Derived.WalkKit
import Derived.WalkLawsBesides
import Derived.WalkSpells
import Derived.Test.YtjholekgdnhpkaaGreatDoorZ30
import Derived.Test.YtjholekgdnhpkaaGreatDoorZ31
import Derived.Test.YtjholekgdnhpkaaGreatDoorZ1
set_option linter.unusedVariables false
set_option linter.unusedSimpArgs false
set_option linter.unusedSectionVars false
namespace Go.Proofs.YtjholekgdnhpkaaGreatDoor
open Go.RowKit
attribute [local go_sem] Oper.semAt_some
theorem einfoM (e : EnV) : (Tryz.prog.info? 40).map (·.size) = some e.cells.size := by rw [show e.cells.size = 2 from rfl]; kernel_rfl
theorem RdE.atM {w : World} {A : Option Addr} {l : List EnV} (h : RdE w A l) {k : Nat} (hk : k < l.length) : ∃ ad, A = some ad ∧ (∀ j u, (l[k].cells)[j]? = some u → w.cell? ((ad.add (k * 2)).add j) = some u) ∧ l[k].In w := by
 obtain ⟨ad, e, hc, hi⟩ := h.at_ hk
 exact ⟨ad, e, fun j u hj => by rw [add_add']; exact hc j u hj, hi⟩
set_option maxRecDepth 100000 in
set_option maxHeartbeats 1000000 in
theorem sameEntry_0 (p q : EnV) (w : World) (hp : p.In w) (hq : q.In w) (h0 : (p.x.key == q.x.key) = false) :
  Calls Tryz.prog 33 #[.agg p.cells, .agg q.cells] w fun e w' => e = .returned (.bool false) ∧ Ext w w' := by
 have hE : Ext w ((w.alloc (.cells p.cells 40)).alloc (.cells q.cells 40)) := Ext.tr (Ext.alloc _ _) (Ext.alloc _ _)
 have g0 : ((w.alloc (.cells p.cells 40)).alloc (.cells q.cells 40)).heap[w.heap.size]? = some (.cells p.cells 40 (0, 0)) := ((Ext.alloc _ _).block _ (lt_of_heap (heap_alloc_new w _))).trans (heap_alloc_new w _)
 have k0 : ((w.alloc (.cells p.cells 40)).alloc (.cells q.cells 40)).heap[w.heap.size + 1]? = some (.cells q.cells 40 (0, 0)) := by simpa using heap_alloc_new (w.alloc (.cells p.cells 40)) (.cells q.cells 40)
 have cp0 : ((w.alloc (.cells p.cells 40)).alloc (.cells q.cells 40)).cell? ⟨w.heap.size, 0, none⟩ = some (.slice p.ka p.x.key.length p.kc) := cell_of_row _ _ 0 _ _ _ g0
 have cp1 : ((w.alloc (.cells p.cells 40)).alloc (.cells q.cells 40)).cell? ⟨w.heap.size, 1, none⟩ = some (.slice p.va p.x.val.length p.vc) := cell_of_row _ _ 1 _ _ _ g0
 have cq0 : ((w.alloc (.cells p.cells 40)).alloc (.cells q.cells 40)).cell? ⟨w.heap.size + 1, 0, none⟩ = some (.slice q.ka q.x.key.length q.kc) := cell_of_row _ _ 0 _ _ _ k0
 have cq1 : ((w.alloc (.cells p.cells 40)).alloc (.cells q.cells 40)).cell? ⟨w.heap.size + 1, 1, none⟩ = some (.slice q.va q.x.val.length q.vc) := cell_of_row _ _ 1 _ _ _ k0
 have e0 := equal_any p.ka q.ka p.x.key q.x.key p.kc q.kc _ (hp.kr.below hE) (hq.kr.below hE)
 have e1 := equal_any p.va q.va p.x.val q.x.val p.vc q.vc _ (hp.vr.below hE) (hq.vr.below hE)
 rw [h0] at e0
 have E0 := Lib.hid e0
 have E1 := Lib.hid e1
 have HE := Lib.hid hE
 clear e0 e1 hE hp hq g0 k0
 obtain ⟨P, hP⟩ : ∃ P, P = p.cells := ⟨_, rfl⟩
 obtain ⟨Q, hQ⟩ : ∃ Q, Q = q.cells := ⟨_, rfl⟩
 rw [← hP, ← hQ] at cp0 cp1 cq0 cq1 E0 E1 HE ⊢
 clear hP hQ
 go_enter Tryz.func33, Tryz.ntmps33
 go_wp2_with (go_at_call 27; first | (refine E0.out.mono ?_; rintro e w' ⟨rfl, rfl⟩) | (refine E1.out.mono ?_; rintro e w' ⟨rfl, rfl⟩))
 go_ret
 exact ⟨rfl, HE.out⟩
set_option maxRecDepth 100000 in
set_option maxHeartbeats 1000000 in
theorem sameEntry_1 (p q : EnV) (w : World) (hp : p.In w) (hq : q.In w) (h0 : (p.x.key == q.x.key) = true) (b : Bool) (h1 : (p.x.val == q.x.val) = b) :
  Calls Tryz.prog 33 #[.agg p.cells, .agg q.cells] w fun e w' => e = .returned (.bool b) ∧ Ext w w' := by
 have hE : Ext w ((w.alloc (.cells p.cells 40)).alloc (.cells q.cells 40)) := Ext.tr (Ext.alloc _ _) (Ext.alloc _ _)
 have g0 : ((w.alloc (.cells p.cells 40)).alloc (.cells q.cells 40)).heap[w.heap.size]? = some (.cells p.cells 40 (0, 0)) := ((Ext.alloc _ _).block _ (lt_of_heap (heap_alloc_new w _))).trans (heap_alloc_new w _)
 have k0 : ((w.alloc (.cells p.cells 40)).alloc (.cells q.cells 40)).heap[w.heap.size + 1]? = some (.cells q.cells 40 (0, 0)) := by simpa using heap_alloc_new (w.alloc (.cells p.cells 40)) (.cells q.cells 40)
 have cp0 : ((w.alloc (.cells p.cells 40)).alloc (.cells q.cells 40)).cell? ⟨w.heap.size, 0, none⟩ = some (.slice p.ka p.x.key.length p.kc) := cell_of_row _ _ 0 _ _ _ g0
 have cp1 : ((w.alloc (.cells p.cells 40)).alloc (.cells q.cells 40)).cell? ⟨w.heap.size, 1, none⟩ = some (.slice p.va p.x.val.length p.vc) := cell_of_row _ _ 1 _ _ _ g0
 have cq0 : ((w.alloc (.cells p.cells 40)).alloc (.cells q.cells 40)).cell? ⟨w.heap.size + 1, 0, none⟩ = some (.slice q.ka q.x.key.length q.kc) := cell_of_row _ _ 0 _ _ _ k0
 have cq1 : ((w.alloc (.cells p.cells 40)).alloc (.cells q.cells 40)).cell? ⟨w.heap.size + 1, 1, none⟩ = some (.slice q.va q.x.val.length q.vc) := cell_of_row _ _ 1 _ _ _ k0
 have e0 := equal_any p.ka q.ka p.x.key q.x.key p.kc q.kc _ (hp.kr.below hE) (hq.kr.below hE)
 have e1 := equal_any p.va q.va p.x.val q.x.val p.vc q.vc _ (hp.vr.below hE) (hq.vr.below hE)
 rw [h0] at e0
 rw [h1] at e1
 have E0 := Lib.hid e0
 have E1 := Lib.hid e1
 have HE := Lib.hid hE
 clear e0 e1 hE hp hq g0 k0
 obtain ⟨P, hP⟩ : ∃ P, P = p.cells := ⟨_, rfl⟩
 obtain ⟨Q, hQ⟩ : ∃ Q, Q = q.cells := ⟨_, rfl⟩
 rw [← hP, ← hQ] at cp0 cp1 cq0 cq1 E0 E1 HE ⊢
 clear hP hQ
 go_enter Tryz.func33, Tryz.ntmps33
 go_wp2_with (go_at_call 27; first | (refine E0.out.mono ?_; rintro e w' ⟨rfl, rfl⟩) | (refine E1.out.mono ?_; rintro e w' ⟨rfl, rfl⟩))
 go_ret
 exact ⟨rfl, HE.out⟩
theorem sameEntry_any (p q : EnV) (w : World) (hp : p.In w) (hq : q.In w) :
  Calls Tryz.prog 33 #[.agg p.cells, .agg q.cells] w fun e w' => e = .returned (.bool (decide (p.x = q.x))) ∧ Ext w w' := by
 have hd : decide (p.x = q.x) = ((p.x.key == q.x.key) && (p.x.val == q.x.val)) := by
  rw [Bool.eq_iff_iff]
  obtain ⟨_, _, _, _, ⟨a, b⟩⟩ := p
  obtain ⟨_, _, _, _, ⟨c, d⟩⟩ := q
  simp
 rw [hd]
 cases h0 : (p.x.key == q.x.key) with
 | false => exact sameEntry_0 p q w hp hq h0
 | true => exact sameEntry_1 p q w hp hq h0 _ rfl
set_option maxRecDepth 100000 in
set_option maxHeartbeats 1000000 in
theorem sameSub_b (p q : WsV) (w : World) (hp : p.In w) (hq : q.In w) (b : Bool) (hb : ((p.lsn : Int) == (q.lsn : Int)) = b) (s : Bool) (hs : p.p.x.same q.p.x = s) :
  Calls Tryz.prog 31 #[.agg p.cells, .agg q.cells] w fun e w' => e = .returned (.bool (b && s)) ∧ Ext w w' := by
 have hE : Ext w ((w.alloc (.cells p.cells 38)).alloc (.cells q.cells 38)) := Ext.tr (Ext.alloc _ _) (Ext.alloc _ _)
 have g0 : ((w.alloc (.cells p.cells 38)).alloc (.cells q.cells 38)).heap[w.heap.size]? = some (.cells p.cells 38 (0, 0)) := ((Ext.alloc _ _).block _ (lt_of_heap (heap_alloc_new w _))).trans (heap_alloc_new w _)
 have k0 : ((w.alloc (.cells p.cells 38)).alloc (.cells q.cells 38)).heap[w.heap.size + 1]? = some (.cells q.cells 38 (0, 0)) := by simpa using heap_alloc_new (w.alloc (.cells p.cells 38)) (.cells q.cells 38)
 have cp0 : ((w.alloc (.cells p.cells 38)).alloc (.cells q.cells 38)).cell? ⟨w.heap.size, 35, none⟩ = some (.int .u64 (p.lsn : Int)) := (cell_of_row _ _ 35 _ _ _ g0).trans (WsV.lsn_at hp.p.sum)
 have cq0 : ((w.alloc (.cells p.cells 38)).alloc (.cells q.cells 38)).cell? ⟨w.heap.size + 1, 35, none⟩ = some (.int .u64 (q.lsn : Int)) := (cell_of_row _ _ 35 _ _ _ k0).trans (WsV.lsn_at hq.p.sum)
 have lp : ∀ j u, (p.p.cells)[j]? = some u → ((w.alloc (.cells p.cells 38)).alloc (.cells q.cells 38)).cell? ((⟨w.heap.size, 0, none⟩ : Addr).add j) = some u := fun j u hj => by rw [Addr.add_lit, Nat.zero_add, cell_of_row _ _ _ _ _ _ g0]; exact WsV.part p j u hj
 have lq : ∀ j u, (q.p.cells)[j]? = some u → ((w.alloc (.cells p.cells 38)).alloc (.cells q.cells 38)).cell? ((⟨w.heap.size + 1, 0, none⟩ : Addr).add j) = some u := fun j u hj => by rw [Addr.add_lit, Nat.zero_add, cell_of_row _ _ _ _ _ _ k0]; exact WsV.part q j u hj
 have e0 := samePart_any p.p q.p _ (hp.p.below hE) (hq.p.below hE)
 rw [hs] at e0
 have i1 := pinfo hp.p.sum
 have i2 := pinfo hq.p.sum
 have E0 := Lib.hid (show Calls Tryz.prog 53 #[.agg p.p.cells, .agg q.p.cells] _ _ from e0)
 have HE := Lib.hid hE
 have LP := Lib.hid lp
 have LQ := Lib.hid lq
 clear e0 hE hp hq g0 k0 lp lq hs
 obtain ⟨P, hP⟩ : ∃ P, P = p.cells := ⟨_, rfl⟩
 obtain ⟨Q, hQ⟩ : ∃ Q, Q = q.cells := ⟨_, rfl⟩
 rw [← hP, ← hQ] at cp0 cq0 E0 HE LP LQ ⊢
 clear hP hQ
 obtain ⟨P2, hP2⟩ : ∃ P2, P2 = p.p.cells := ⟨_, rfl⟩
 obtain ⟨Q2, hQ2⟩ : ∃ Q2, Q2 = q.p.cells := ⟨_, rfl⟩
 rw [← hP2] at E0 LP i1
 rw [← hQ2] at E0 LQ i2
 clear hP2 hQ2
 go_enter Tryz.func31, Tryz.ntmps31
 cases b with
 | false =>
  go_wp2_with fail
  go_ret
  exact ⟨rfl, HE.out⟩
 | true =>
  go_wp2_with (first | (refine wpList_load_cells (by rfl) 36 (.tmp 11) rfl ⟨w.heap.size, 0, none⟩ rfl P2 _ LP.out Tryz.underlying36 rfl i1 ?_) | (refine wpList_load_cells (by rfl) 36 (.tmp 13) rfl ⟨w.heap.size + 1, 0, none⟩ rfl Q2 _ LQ.out Tryz.underlying36 rfl i2 ?_) | (go_at_call 53; refine E0.out.mono ?_; rintro e w' ⟨rfl, hx3⟩; have HX3 := Lib.hid hx3; clear hx3))
  go_ret
  exact ⟨by simp, HE.out.tr HX3.out⟩
theorem sameSub_any (p q : WsV) (w : World) (hp : p.In w) (hq : q.In w) :
  Calls Tryz.prog 31 #[.agg p.cells, .agg q.cells] w fun e w' => e = .returned (.bool (decide (p.x = q.x))) ∧ Ext w w' := by
 have hd : decide (p.x = q.x) = (((p.lsn : Int) == (q.lsn : Int)) && p.p.x.same q.p.x) := by
  rw [Bool.eq_iff_iff]
  have := Pt.same_iff p.p.x q.p.x
  obtain ⟨a, b⟩ := p
  obtain ⟨c, d⟩ := q
  simp only [WsV.x, Ws.mk.injEq, decide_eq_true_eq, Bool.and_eq_true, beq_iff_eq, this]
  constructor
  ·
   rintro ⟨h1, h2⟩; exact ⟨by omega, h1⟩
  ·
   rintro ⟨h1, h2⟩; exact ⟨h2, by omega⟩
 rw [hd]
 exact sameSub_b p q w hp hq _ rfl _ rfl
set_option maxRecDepth 100000 in
set_option maxHeartbeats 1000000 in
theorem equalE_any (A B : Option Addr) (l m : List EnV) (c d : Nat) (w : World) (hA : RdE w A l) (hB : RdE w B m) (hl : l.length ≤ 1000000) (_hm : m.length ≤ 1000000) :
  Calls Tryz.prog 32 #[.slice A l.length c, .slice B m.length d, .func (.func 33) #[] #[]] w fun e w' => e = .returned (.bool (decide (l.map EnV.x = m.map EnV.x))) ∧ Ext w w' := by
 have hno : l.length ≠ m.length → decide (l.map EnV.x = m.map EnV.x) = false := fun h => decide_eq_false (fun e => h (by have := congrArg List.length e; simpa using this))
 have hbad : ∀ j (h1 : j < l.length) (h2 : j < m.length), decide (l[j].x = m[j].x) = false → decide (l.map EnV.x = m.map EnV.x) = false := fun j h1 h2 h => decide_eq_false (fun e => by
  have h3 : (l.map EnV.x)[j]? = (m.map EnV.x)[j]? := by rw [e]
  rw [List.getElem?_map, List.getElem?_map, List.getElem?_eq_getElem h1, List.getElem?_eq_getElem h2] at h3
  injection h3 with h3
  exact absurd h3 (of_decide_eq_false h))
 have hgood : l.length = m.length → (∀ j (h1 : j < l.length) (h2 : j < m.length), decide (l[j].x = m[j].x) = true) → decide (l.map EnV.x = m.map EnV.x) = true := fun h h2 => by
  refine decide_eq_true (List.ext_getElem (by simpa using h) fun j h3 h4 => ?_)
  rw [List.getElem_map, List.getElem_map]
  exact of_decide_eq_true (h2 j (by simpa using h3) (by simpa using h4))
 obtain ⟨R, hR⟩ : ∃ R, R = decide (l.map EnV.x = m.map EnV.x) := ⟨_, rfl⟩
 rw [← hR] at hno hbad hgood ⊢
 clear hR
 have Hno := Lib.hid hno
 have Hbad := Lib.hid hbad
 have Hgood := Lib.hid hgood
 clear hno hbad hgood
 by_cases hlm : l.length = m.length
 ·
  have hlm2 : ((l.length : Int) != (m.length : Int)) = false := by rw [bne_eq_false_iff_eq]; omega
  have Hlm := Lib.hid hlm
  clear hlm
  go_enter Tryz.func32, Tryz.ntmps32
  go_wp2_with fail
  go_loopw [17] (fun i wr => ∃ k : Nat, k ≤ l.length ∧ i = .int .i64 k ∧ (∀ j (h1 : j < l.length) (h2 : j < m.length), j < k → decide (l[j].x = m[j].x) = true) ∧ Ext w wr) (fun i _ => l.length - (intOf i).toNat)
  case atStart => exact ⟨0, by omega, rfl, fun j _ _ h => absurd h (by omega), Ext.refl _⟩
  case round =>
   obtain ⟨k, hk, rfl, hyes, hbw⟩ := hrel
   have Hyes := Lib.hid hyes
   have Hbw := Lib.hid hbw
   clear hyes hbw
   by_cases h : k < l.length
   ·
    have hm2 : k < m.length := by have := Hlm.out; omega
    obtain ⟨ad, rfl, hcell, hin⟩ := (hA.below Hbw.out).atM h
    obtain ⟨W1, hW1⟩ : ∃ W1, W1 = wr.alloc (.cells l[k].cells 40) := ⟨_, rfl⟩
    have hx1 : Ext wr W1 := by rw [hW1]; exact Ext.alloc _ _
    have g1 : W1.heap[wr.heap.size]? = some (.cells l[k].cells 40 (0, 0)) := by rw [hW1]; exact heap_alloc_new wr _
    obtain ⟨bd, rfl, hcell2, hin2⟩ := ((hB.below Hbw.out).below hx1).atM hm2
    obtain ⟨W2, hW2⟩ : ∃ W2, W2 = W1.alloc (.cells m[k].cells 40) := ⟨_, rfl⟩
    have hx2 : Ext W1 W2 := by rw [hW2]; exact Ext.alloc _ _
    have g2 : W2.heap[W1.heap.size]? = some (.cells m[k].cells 40 (0, 0)) := by rw [hW2]; exact heap_alloc_new W1 _
    have g1' := (hx2.block _ (lt_of_heap g1)).trans g1
    have hsame := sameEntry_any l[k] m[k] W2 (hin.below (hx1.tr hx2)) (hin2.below hx2)
    have ik : (0 : Int) ≤ (k : Int) := by omega
    have ik2 : (k : Int) < (l.length : Int) := by omega
    have ik3 : (k : Int) < (m.length : Int) := by omega
    have hi1 := einfoM l[k]
    have hi2 := einfoM m[k]
    have ho1 := eone l[k]
    have ho2 := eone m[k]
    have Hb0 := Lib.hid (Hbad.out k h hm2)
    have Hn0 : decide (l[k].x = m[k].x) = true → Hid (∀ j (h1 : j < l.length) (h2 : j < m.length), j < k + 1 → decide (l[j].x = m[j].x) = true) := by
     intro hf
     show ∀ j (h1 : j < l.length) (h2 : j < m.length), j < k + 1 → decide (l[j].x = m[j].x) = true
     intro j hj hj2 hjk
     by_cases e : j = k
     ·
      subst e; exact hf
     ·
      exact Hyes.out j hj hj2 (by omega)
    obtain ⟨P, hP⟩ : ∃ P, P = l[k] := ⟨_, rfl⟩
    obtain ⟨Q, hQ⟩ : ∃ Q, Q = m[k] := ⟨_, rfl⟩
    rw [← hP] at hcell hW1 g1 hsame hi1 ho1 Hb0 Hn0 g1'
    rw [← hQ] at hcell2 hW2 g2 hsame hi2 ho2 Hb0 Hn0
    have HW1 := Lib.hid (show wr.alloc (.cells P.cells 40) = W1 from hW1.symm)
    have HW2 := Lib.hid (show W1.alloc (.cells Q.cells 40) = W2 from hW2.symm)
    have Hcx := Lib.hid hcell
    have Hcy := Lib.hid hcell2
    have Hx := Lib.hid (Hbw.out.tr (hx1.tr hx2))
    have G1 := Lib.hid g1'
    have G2 := Lib.hid g2
    obtain ⟨r, hr⟩ : ∃ r, r = decide (P.x = Q.x) := ⟨_, rfl⟩
    rw [← hr] at hsame Hb0 Hn0
    have Hsame := Lib.hid hsame
    clear hr hP hQ hW1 hW2 hcell hcell2 hx1 hx2 g1 g1' g2 hsame hin hin2
    cases r with
    | true =>
     have Hn1 := Hn0 rfl
     go_wp2_with (first | (have hcx := Hcx.out; refine wpList_load_cells (by rfl) 40 (.tmp 20) rfl _ rfl P.cells _ hcx Tryz.underlying40 rfl hi1 ?_; clear hcx) | (refine wpList_store_row (by rfl) 40 (.tmp 8) (.tmp 21) rfl wr.heap.size P.cells rfl rfl 40 _ (heap_alloc_new wr _) hi1 (by rfl) ho1 ?_; rw [setRow_alloc, HW1.out]) | (have hcy := Hcy.out; refine wpList_load_cells (by rfl) 40 (.tmp 24) rfl _ rfl Q.cells _ hcy Tryz.underlying40 rfl hi2 ?_; clear hcy) | (refine wpList_store_row (by rfl) 40 (.tmp 9) (.tmp 25) rfl W1.heap.size Q.cells rfl rfl 40 _ (heap_alloc_new W1 _) hi2 (by rfl) ho2 ?_; rw [setRow_alloc, HW2.out]) | (refine wpList_load_rowG (by rfl) 40 (.tmp 8) rfl wr.heap.size rfl 40 P.cells (0, 0) _ G1.out Tryz.underlying40 rfl hi1 ?_) | (refine wpList_load_rowG (by rfl) 40 (.tmp 9) rfl W1.heap.size rfl 40 Q.cells (0, 0) _ G2.out Tryz.underlying40 rfl hi2 ?_) | (go_at_call 33; refine Hsame.out.mono ?_; rintro e3 w3 ⟨rfl, hx3⟩; have Hx3 : Hid (Ext W2 w3) := Lib.hid hx3; clear hx3))
     go_roundw
     case rel => exact ⟨k + 1, by omega, by go_num, Hn1.out, Hx.out.tr Hx3.out⟩
     case measure => simp [intOf]; omega
    | false =>
     go_wp2_with (first | (have hcx := Hcx.out; refine wpList_load_cells (by rfl) 40 (.tmp 20) rfl _ rfl P.cells _ hcx Tryz.underlying40 rfl hi1 ?_; clear hcx) | (refine wpList_store_row (by rfl) 40 (.tmp 8) (.tmp 21) rfl wr.heap.size P.cells rfl rfl 40 _ (heap_alloc_new wr _) hi1 (by rfl) ho1 ?_; rw [setRow_alloc, HW1.out]) | (have hcy := Hcy.out; refine wpList_load_cells (by rfl) 40 (.tmp 24) rfl _ rfl Q.cells _ hcy Tryz.underlying40 rfl hi2 ?_; clear hcy) | (refine wpList_store_row (by rfl) 40 (.tmp 9) (.tmp 25) rfl W1.heap.size Q.cells rfl rfl 40 _ (heap_alloc_new W1 _) hi2 (by rfl) ho2 ?_; rw [setRow_alloc, HW2.out]) | (refine wpList_load_rowG (by rfl) 40 (.tmp 8) rfl wr.heap.size rfl 40 P.cells (0, 0) _ G1.out Tryz.underlying40 rfl hi1 ?_) | (refine wpList_load_rowG (by rfl) 40 (.tmp 9) rfl W1.heap.size rfl 40 Q.cells (0, 0) _ G2.out Tryz.underlying40 rfl hi2 ?_) | (go_at_call 33; refine Hsame.out.mono ?_; rintro e3 w3 ⟨rfl, hx3⟩; have Hx3 : Hid (Ext W2 w3) := Lib.hid hx3; clear hx3))
     go_ret
     exact ⟨by rw [Hb0.out (by first | rfl | trivial)]; rfl, Hx.out.tr Hx3.out⟩
   ·
    obtain rfl : k = l.length := by omega
    go_wp2_with fail
    go_ret
    exact ⟨by rw [Hgood.out Hlm.out (fun j h1 h2 => Hyes.out j h1 h2 h1)]; rfl, Hbw.out⟩
 ·
  have hlm2 : ((l.length : Int) != (m.length : Int)) = true := by rw [bne_iff_ne]; omega
  have Hlm := Lib.hid hlm
  clear hlm
  go_enter Tryz.func32, Tryz.ntmps32
  go_wp2_with fail
  go_ret
  exact ⟨by rw [Hno.out Hlm.out]; rfl, Ext.refl _⟩
set_option maxRecDepth 100000 in
set_option maxHeartbeats 1000000 in
theorem equalW_any (A B : Option Addr) (l m : List WsV) (c d : Nat) (w : World) (hA : RdW w A l) (hB : RdW w B m) (hl : l.length ≤ 1000000) (_hm : m.length ≤ 1000000) :
  Calls Tryz.prog 30 #[.slice A l.length c, .slice B m.length d, .func (.func 31) #[] #[]] w fun e w' => e = .returned (.bool (decide (l.map WsV.x = m.map WsV.x))) ∧ Ext w w' := by
 have hno : l.length ≠ m.length → decide (l.map WsV.x = m.map WsV.x) = false := fun h => decide_eq_false (fun e => h (by have := congrArg List.length e; simpa using this))
 have hbad : ∀ j (h1 : j < l.length) (h2 : j < m.length), decide (l[j].x = m[j].x) = false → decide (l.map WsV.x = m.map WsV.x) = false := fun j h1 h2 h => decide_eq_false (fun e => by
  have h3 : (l.map WsV.x)[j]? = (m.map WsV.x)[j]? := by rw [e]
  rw [List.getElem?_map, List.getElem?_map, List.getElem?_eq_getElem h1, List.getElem?_eq_getElem h2] at h3
  injection h3 with h3
  exact absurd h3 (of_decide_eq_false h))
 have hgood : l.length = m.length → (∀ j (h1 : j < l.length) (h2 : j < m.length), decide (l[j].x = m[j].x) = true) → decide (l.map WsV.x = m.map WsV.x) = true := fun h h2 => by
  refine decide_eq_true (List.ext_getElem (by simpa using h) fun j h3 h4 => ?_)
  rw [List.getElem_map, List.getElem_map]
  exact of_decide_eq_true (h2 j (by simpa using h3) (by simpa using h4))
 obtain ⟨R, hR⟩ : ∃ R, R = decide (l.map WsV.x = m.map WsV.x) := ⟨_, rfl⟩
 rw [← hR] at hno hbad hgood ⊢
 clear hR
 have Hno := Lib.hid hno
 have Hbad := Lib.hid hbad
 have Hgood := Lib.hid hgood
 clear hno hbad hgood
 by_cases hlm : l.length = m.length
 ·
  have hlm2 : ((l.length : Int) != (m.length : Int)) = false := by rw [bne_eq_false_iff_eq]; omega
  have Hlm := Lib.hid hlm
  clear hlm
  go_enter Tryz.func30, Tryz.ntmps30
  go_wp2_with fail
  go_loopw [17] (fun i wr => ∃ k : Nat, k ≤ l.length ∧ i = .int .i64 k ∧ (∀ j (h1 : j < l.length) (h2 : j < m.length), j < k → decide (l[j].x = m[j].x) = true) ∧ Ext w wr) (fun i _ => l.length - (intOf i).toNat)
  case atStart => exact ⟨0, by omega, rfl, fun j _ _ h => absurd h (by omega), Ext.refl _⟩
  case round =>
   obtain ⟨k, hk, rfl, hyes, hbw⟩ := hrel
   have Hyes := Lib.hid hyes
   have Hbw := Lib.hid hbw
   clear hyes hbw
   by_cases h : k < l.length
   ·
    have hm2 : k < m.length := by have := Hlm.out; omega
    obtain ⟨ad, rfl, hcell, hin⟩ := (hA.below Hbw.out).at_ h
    obtain ⟨W1, hW1⟩ : ∃ W1, W1 = wr.alloc (.cells l[k].cells 38) := ⟨_, rfl⟩
    have hx1 : Ext wr W1 := by rw [hW1]; exact Ext.alloc _ _
    have g1 : W1.heap[wr.heap.size]? = some (.cells l[k].cells 38 (0, 0)) := by rw [hW1]; exact heap_alloc_new wr _
    obtain ⟨bd, rfl, hcell2, hin2⟩ := ((hB.below Hbw.out).below hx1).at_ hm2
    obtain ⟨W2, hW2⟩ : ∃ W2, W2 = W1.alloc (.cells m[k].cells 38) := ⟨_, rfl⟩
    have hx2 : Ext W1 W2 := by rw [hW2]; exact Ext.alloc _ _
    have g2 : W2.heap[W1.heap.size]? = some (.cells m[k].cells 38 (0, 0)) := by rw [hW2]; exact heap_alloc_new W1 _
    have g1' := (hx2.block _ (lt_of_heap g1)).trans g1
    have hsame := sameSub_any l[k] m[k] W2 (hin.ext (hx1.tr hx2)) (hin2.ext hx2)
    have ik : (0 : Int) ≤ (k : Int) := by omega
    have ik2 : (k : Int) < (l.length : Int) := by omega
    have ik3 : (k : Int) < (m.length : Int) := by omega
    have hs1 := hin.p.sum
    have hs2 := hin2.p.sum
    have hz1 := WsV.size hs1
    have hz2 := WsV.size hs2
    have hi1 := WsV.info (s := l[k]) (by assumption)
    have hi2 := WsV.info (s := m[k]) (by assumption)
    have ho1 := WsV.one l[k]
    have ho2 := WsV.one m[k]
    have Hb0 := Lib.hid (Hbad.out k h hm2)
    have Hn0 : decide (l[k].x = m[k].x) = true → Hid (∀ j (h1 : j < l.length) (h2 : j < m.length), j < k + 1 → decide (l[j].x = m[j].x) = true) := by
     intro hf
     show ∀ j (h1 : j < l.length) (h2 : j < m.length), j < k + 1 → decide (l[j].x = m[j].x) = true
     intro j hj hj2 hjk
     by_cases e : j = k
     ·
      subst e; exact hf
     ·
      exact Hyes.out j hj hj2 (by omega)
    obtain ⟨P, hP⟩ : ∃ P, P = l[k] := ⟨_, rfl⟩
    obtain ⟨Q, hQ⟩ : ∃ Q, Q = m[k] := ⟨_, rfl⟩
    rw [← hP] at hz1 hcell hW1 g1 hsame hi1 ho1 Hb0 Hn0 g1'
    rw [← hQ] at hz2 hcell2 hW2 g2 hsame hi2 ho2 Hb0 Hn0
    have HW1 := Lib.hid (show wr.alloc (.cells P.cells 38) = W1 from hW1.symm)
    have HW2 := Lib.hid (show W1.alloc (.cells Q.cells 38) = W2 from hW2.symm)
    have Hcx := Lib.hid hcell
    have Hcy := Lib.hid hcell2
    have Hx := Lib.hid (Hbw.out.tr (hx1.tr hx2))
    have G1 := Lib.hid g1'
    have G2 := Lib.hid g2
    obtain ⟨r, hr⟩ : ∃ r, r = decide (P.x = Q.x) := ⟨_, rfl⟩
    rw [← hr] at hsame Hb0 Hn0
    have Hsame := Lib.hid hsame
    clear hr hP hQ hW1 hW2 hcell hcell2 hx1 hx2 g1 g1' g2 hsame hin hin2
    cases r with
    | true =>
     have Hn1 := Hn0 rfl
     go_wp2_with (first | (have hcx := Hcx.out; refine wpList_load_cells (by rfl) 38 (.tmp 20) rfl _ rfl P.cells _ hcx Tryz.underlying38 rfl hi1 ?_; clear hcx) | (refine wpList_store_row (by rfl) 38 (.tmp 8) (.tmp 21) rfl wr.heap.size P.cells rfl rfl 38 _ (heap_alloc_new wr _) hi1 (by rw [hz1]; rfl) ho1 ?_; rw [setRow_alloc, HW1.out]) | (have hcy := Hcy.out; refine wpList_load_cells (by rfl) 38 (.tmp 24) rfl _ rfl Q.cells _ hcy Tryz.underlying38 rfl hi2 ?_; clear hcy) | (refine wpList_store_row (by rfl) 38 (.tmp 9) (.tmp 25) rfl W1.heap.size Q.cells rfl rfl 38 _ (heap_alloc_new W1 _) hi2 (by rw [hz2]; rfl) ho2 ?_; rw [setRow_alloc, HW2.out]) | (refine wpList_load_rowG (by rfl) 38 (.tmp 8) rfl wr.heap.size rfl 38 P.cells (0, 0) _ G1.out Tryz.underlying38 rfl hi1 ?_) | (refine wpList_load_rowG (by rfl) 38 (.tmp 9) rfl W1.heap.size rfl 38 Q.cells (0, 0) _ G2.out Tryz.underlying38 rfl hi2 ?_) | (go_at_call 31; refine Hsame.out.mono ?_; rintro e3 w3 ⟨rfl, hx3⟩; have Hx3 : Hid (Ext W2 w3) := Lib.hid hx3; clear hx3))
     go_roundw
     case rel => exact ⟨k + 1, by omega, by go_num, Hn1.out, Hx.out.tr Hx3.out⟩
     case measure => simp [intOf]; omega
    | false =>
     go_wp2_with (first | (have hcx := Hcx.out; refine wpList_load_cells (by rfl) 38 (.tmp 20) rfl _ rfl P.cells _ hcx Tryz.underlying38 rfl hi1 ?_; clear hcx) | (refine wpList_store_row (by rfl) 38 (.tmp 8) (.tmp 21) rfl wr.heap.size P.cells rfl rfl 38 _ (heap_alloc_new wr _) hi1 (by rw [hz1]; rfl) ho1 ?_; rw [setRow_alloc, HW1.out]) | (have hcy := Hcy.out; refine wpList_load_cells (by rfl) 38 (.tmp 24) rfl _ rfl Q.cells _ hcy Tryz.underlying38 rfl hi2 ?_; clear hcy) | (refine wpList_store_row (by rfl) 38 (.tmp 9) (.tmp 25) rfl W1.heap.size Q.cells rfl rfl 38 _ (heap_alloc_new W1 _) hi2 (by rw [hz2]; rfl) ho2 ?_; rw [setRow_alloc, HW2.out]) | (refine wpList_load_rowG (by rfl) 38 (.tmp 8) rfl wr.heap.size rfl 38 P.cells (0, 0) _ G1.out Tryz.underlying38 rfl hi1 ?_) | (refine wpList_load_rowG (by rfl) 38 (.tmp 9) rfl W1.heap.size rfl 38 Q.cells (0, 0) _ G2.out Tryz.underlying38 rfl hi2 ?_) | (go_at_call 31; refine Hsame.out.mono ?_; rintro e3 w3 ⟨rfl, hx3⟩; have Hx3 : Hid (Ext W2 w3) := Lib.hid hx3; clear hx3))
     go_ret
     exact ⟨by rw [Hb0.out (by first | rfl | trivial)]; rfl, Hx.out.tr Hx3.out⟩
   ·
    obtain rfl : k = l.length := by omega
    go_wp2_with fail
    go_ret
    exact ⟨by rw [Hgood.out Hlm.out (fun j h1 h2 => Hyes.out j h1 h2 h1)]; rfl, Hbw.out⟩
 ·
  have hlm2 : ((l.length : Int) != (m.length : Int)) = true := by rw [bne_iff_ne]; omega
  have Hlm := Lib.hid hlm
  clear hlm
  go_enter Tryz.func30, Tryz.ntmps30
  go_wp2_with fail
  go_ret
  exact ⟨by rw [Hno.out Hlm.out]; rfl, Ext.refl _⟩
end Go.Proofs.YtjholekgdnhpkaaGreatDoor
