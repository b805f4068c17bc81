/- Texts of the proof, laid together: WrK. -/
import Derived.Test.YtjholekgdnhpkaaGreatDoorZ11
set_option linter.unusedVariables false
set_option linter.unusedSimpArgs false
set_option linter.unusedSectionVars false
namespace Go.Proofs.YtjholekgdnhpkaaGreatDoor
open Go.RowKit
attribute [local go_sem] Oper.semAt_some
def Wm.rdEnds (m : Wm) (d : List UInt8) (bad : Bool) : Wm × List UInt8 × Bool := ({ m with lo := Rt.val d, hi := Rt.val (Rt.rest d) }, Rt.rest (Rt.rest d), (bad || Rt.bad d) || Rt.bad (Rt.rest d))
def Wm.rd17 (m : Wm) (d : List UInt8) (bad : Bool) : Wm × List UInt8 × Bool :=
 let d1 := Rc.rest 8 d; let b1 := bad || decide (d.length < 8)
 let d2 := Rn.rest d1; let b2 := b1 || !Rn.ok d1
 let d3 := Rc.rest 32 d2; let b3 := b2 || decide (d2.length < 32)
 let d4 := Rn.rest d3; let b4 := b3 || !Rn.ok d3
 ({ m with lsn := Vint.number (Rc.val 8 d), count := Rn.val d1 m.count, sum := Rc.val 32 d2, size := Rn.val d3 m.size, file := Rc.val 32 d4 }, Rc.rest 32 d4, b4 || decide (d4.length < 32))
def Wm.read (m : Wm) (d : List UInt8) : Wm × List UInt8 × Bool :=
 if m.kind = 3 ∨ m.kind = 4 then m.rdEnds d false
 else if m.kind = 5 ∨ m.kind = 6 then ({ m with n := Rn.val d m.n }, Rn.rest d, false || !Rn.ok d)
 else if m.kind = 17 then m.rd17 d false
 else if m.kind = 18 then ({ m with subs := (Rs.all d false).1 }, (Rs.all d false).2)
 else if m.kind = 19 then let e := m.rdEnds d false; ({ e.1 with subs := (Rs.all e.2.1 e.2.2).1 }, (Rs.all e.2.1 e.2.2).2)
 else if m.kind = 20 then let e := m.rdEnds d false; ({ e.1 with more := decide (Rc.val 1 e.2.1 = [1]), ents := (Ent.getAll (Rc.rest 1 e.2.1)).getD [] }, [], (e.2.2 || decide (e.2.1.length < 1)) || (Ent.getAll (Rc.rest 1 e.2.1)).isNone)
 else if m.kind = 21 then let r := Rg.all (Rn.rest d) (false || !Rn.ok d); ({ m with n := Rn.val d m.n, sigs := r.1 }, r.2)
 else if m.kind = 22 then ({ m with n := Rn.val d m.n, data := Rn.rest d }, [], false || !Rn.ok d)
 else (m, d, false)
def RF (b : Bool) (S : Nat → Prop) (g bm : Nat) (r : Wm × List UInt8 × Bool) (w : World) (e : Ending) (w' : World) : Prop :=
 e = .returned (.bool b) ∧ Trn (Two g bm) w w' ∧ Rdr w' S g r.2.1 r.2.2 ∧ ∃ M', M'.x = r.1 ∧ MsgD w' S bm M'
set_option maxRecDepth 100000 in
set_option maxHeartbeats 1000000 in
theorem ends_rm (S : Nat → Prop) (g bm b1 b2 : Nat) (d : List UInt8) (bad : Bool) (M : WmV) (w : World) (h : Rdr w S g d bad) (hM : MsgR w S bm M) (hne : bm ≠ g) (hSb : S bm) (h1 : w.heap[b1]? = some (.cells #[.pointer (some ⟨g, 0, none⟩)] 85 (0, 0))) (h2 : w.heap[b2]? = some (.cells #[.pointer (some ⟨bm, 0, none⟩)] 91 (0, 0)))
  (hn1 : ¬ Two g bm b1) (hn2 : ¬ Two g bm b2) :
  Calls Tryz.prog 66 #[.pointer (some ⟨b1, 0, none⟩), .pointer (some ⟨b2, 0, none⟩)] w (RM S g bm (M.x.rdEnds d bad).1 (M.x.rdEnds d bad).2.1 (M.x.rdEnds d bad).2.2 w) := by
 have hT := lo_rm (h.ext (Ext.drew w)) (hM.ext (Ext.drew w)) hne hSb
 have hq1 : w.drew.cell? ⟨b1, 0, none⟩ = some (.pointer (some ⟨g, 0, none⟩)) := cell_of_row w b1 0 _ _ _ h1
 have hq2 : w.drew.cell? ⟨b2, 0, none⟩ = some (.pointer (some ⟨bm, 0, none⟩)) := cell_of_row w b2 0 _ _ _ h2
 have HT := Lib.hid hT
 clear hT h hM
 go_enter Tryz.func66, Tryz.ntmps66
 go_wp2_with fail
 refine rr_start (extW) [2, 3] (by kernel_rfl) ?_
 refine qS 0 rfl ⟨_, fun w' hx => by have hcx := hx.load hq1; (go_simp <;> with_reducible rfl), ?_⟩
 simp only [sP]
 refine qS 1 rfl ⟨_, fun w' hx => by have hcx := hx.load hq2; (go_simp <;> with_reducible rfl), ?_⟩
 simp only [sP]
 refine qAD 2 rfl ?_
 simp only [sP]
 refine qAD 3 rfl ?_
 simp only [sP]
 refine rr_callW 4 (HT.out) rfl (by kernel_rfl) (by kernel_rfl) (by rfl) (by go_simp) ?_
 rintro e1 w1 ⟨rfl, ht1, hR1, M1, hx1, hM1⟩
 refine ⟨_, rfl, ?_⟩
 simp only [sP]
 refine rr_done (by kernel_rfl) ?_
 have r1 := ht1.row h1 hn1
 have r2 := ht1.row h2 hn2
 have hT2 := hi_rm (hR1.ext (Ext.drew w1)) (hM1.ext (Ext.drew w1)) hne hSb
 have hq1 : w1.drew.cell? ⟨b1, 0, none⟩ = some (.pointer (some ⟨g, 0, none⟩)) := cell_of_row w1 b1 0 _ _ _ r1
 have hq2 : w1.drew.cell? ⟨b2, 0, none⟩ = some (.pointer (some ⟨bm, 0, none⟩)) := cell_of_row w1 b2 0 _ _ _ r2
 have HT2 := Lib.hid hT2
 have HX1 := Lib.hid hx1
 have HT1 := Lib.hid ht1
 clear hT2 HT hR1 hM1 hx1 ht1
 go_wp2_with fail
 refine rr_start (extW) [2, 3] (by kernel_rfl) ?_
 refine qS 0 rfl ⟨_, fun w' hx => by have hcx := hx.load hq1; (go_simp <;> with_reducible rfl), ?_⟩
 simp only [sP]
 refine qS 1 rfl ⟨_, fun w' hx => by have hcx := hx.load hq2; (go_simp <;> with_reducible rfl), ?_⟩
 simp only [sP]
 refine qAD 2 rfl ?_
 simp only [sP]
 refine qAD 3 rfl ?_
 simp only [sP]
 refine rr_callW 4 (HT2.out) rfl (by kernel_rfl) (by kernel_rfl) (by rfl) (by go_simp) ?_
 rintro e2 w2 ⟨rfl, ht2, hR2, M2, hx2, hM2⟩
 refine ⟨_, rfl, ?_⟩
 simp only [sP]
 refine rr_done (by kernel_rfl) ?_
 go_wp2_with fail
 (try simp only [Exit.inBlock, Exit.then])
 first | refine bodyPost_ret (results_none rfl _ _ _) rfl ?_ | refine bodyPost_end (results_none rfl _ _ _) rfl ?_
 exact ⟨rfl, ((Trn.ext (Ext.drew w)).tr HT1.out).tr ((Trn.ext (Ext.drew w1)).tr ht2), hR2, M2, by rw [hx2, HX1.out]; rfl, hM2⟩
theorem Wm.read_1 (m : Wm) (d : List UInt8) (h : m.kind = 1) : m.read d = (m, d, false) := by
 unfold Wm.read
 rw [if_neg (by rw [h]; decide), if_neg (by rw [h]; decide), if_neg (by rw [h]; decide), if_neg (by rw [h]; decide), if_neg (by rw [h]; decide), if_neg (by rw [h]; decide), if_neg (by rw [h]; decide), if_neg (by rw [h]; decide)]
 try rfl
theorem Wm.read_2 (m : Wm) (d : List UInt8) (h : m.kind = 2) : m.read d = (m, d, false) := by
 unfold Wm.read
 rw [if_neg (by rw [h]; decide), if_neg (by rw [h]; decide), if_neg (by rw [h]; decide), if_neg (by rw [h]; decide), if_neg (by rw [h]; decide), if_neg (by rw [h]; decide), if_neg (by rw [h]; decide), if_neg (by rw [h]; decide)]
 try rfl
theorem Wm.read_3 (m : Wm) (d : List UInt8) (h : m.kind = 3) : m.read d = m.rdEnds d false := by
 unfold Wm.read
 rw [if_pos (by rw [h]; decide)]
 try rfl
theorem Wm.read_4 (m : Wm) (d : List UInt8) (h : m.kind = 4) : m.read d = m.rdEnds d false := by
 unfold Wm.read
 rw [if_pos (by rw [h]; decide)]
 try rfl
theorem Wm.read_5 (m : Wm) (d : List UInt8) (h : m.kind = 5) : m.read d = ({ m with n := Rn.val d m.n }, Rn.rest d, false || !Rn.ok d) := by
 unfold Wm.read
 rw [if_neg (by rw [h]; decide), if_pos (by rw [h]; decide)]
 try rfl
theorem Wm.read_6 (m : Wm) (d : List UInt8) (h : m.kind = 6) : m.read d = ({ m with n := Rn.val d m.n }, Rn.rest d, false || !Rn.ok d) := by
 unfold Wm.read
 rw [if_neg (by rw [h]; decide), if_pos (by rw [h]; decide)]
 try rfl
theorem Wm.read_17 (m : Wm) (d : List UInt8) (h : m.kind = 17) : m.read d = ({ m with lsn := Vint.number (Rc.val 8 d), count := Rn.val (Rc.rest 8 d) m.count, sum := Rc.val 32 (Rn.rest (Rc.rest 8 d)), size := Rn.val (Rc.rest 32 (Rn.rest (Rc.rest 8 d))) m.size, file := Rc.val 32 (Rn.rest (Rc.rest 32 (Rn.rest (Rc.rest 8 d)))) }, Rc.rest 32 (Rn.rest (Rc.rest 32 (Rn.rest (Rc.rest 8 d)))), ((((false || decide (d.length < 8)) || !Rn.ok (Rc.rest 8 d)) || decide ((Rn.rest (Rc.rest 8 d)).length < 32)) || !Rn.ok (Rc.rest 32 (Rn.rest (Rc.rest 8 d)))) || decide ((Rn.rest (Rc.rest 32 (Rn.rest (Rc.rest 8 d)))).length < 32)) := by
 unfold Wm.read
 rw [if_neg (by rw [h]; decide), if_neg (by rw [h]; decide), if_pos h]
 try rfl
theorem Wm.read_18 (m : Wm) (d : List UInt8) (h : m.kind = 18) : m.read d = ({ m with subs := (Rs.all d false).1 }, (Rs.all d false).2) := by
 unfold Wm.read
 rw [if_neg (by rw [h]; decide), if_neg (by rw [h]; decide), if_neg (by rw [h]; decide), if_pos h]
 try rfl
theorem Wm.read_19 (m : Wm) (d : List UInt8) (h : m.kind = 19) : m.read d = ({ (m.rdEnds d false).1 with subs := (Rs.all (m.rdEnds d false).2.1 (m.rdEnds d false).2.2).1 }, (Rs.all (m.rdEnds d false).2.1 (m.rdEnds d false).2.2).2) := by
 unfold Wm.read
 rw [if_neg (by rw [h]; decide), if_neg (by rw [h]; decide), if_neg (by rw [h]; decide), if_neg (by rw [h]; decide), if_pos h]
 try rfl
theorem Wm.read_20 (m : Wm) (d : List UInt8) (h : m.kind = 20) : m.read d = ({ (m.rdEnds d false).1 with more := decide (Rc.val 1 (m.rdEnds d false).2.1 = [1]), ents := (Ent.getAll (Rc.rest 1 (m.rdEnds d false).2.1)).getD [] }, [], ((m.rdEnds d false).2.2 || decide ((m.rdEnds d false).2.1.length < 1)) || (Ent.getAll (Rc.rest 1 (m.rdEnds d false).2.1)).isNone) := by
 unfold Wm.read
 rw [if_neg (by rw [h]; decide), if_neg (by rw [h]; decide), if_neg (by rw [h]; decide), if_neg (by rw [h]; decide), if_neg (by rw [h]; decide), if_pos h]
 try rfl
theorem Wm.read_21 (m : Wm) (d : List UInt8) (h : m.kind = 21) : m.read d = ({ m with n := Rn.val d m.n, sigs := (Rg.all (Rn.rest d) (false || !Rn.ok d)).1 }, (Rg.all (Rn.rest d) (false || !Rn.ok d)).2) := by
 unfold Wm.read
 rw [if_neg (by rw [h]; decide), if_neg (by rw [h]; decide), if_neg (by rw [h]; decide), if_neg (by rw [h]; decide), if_neg (by rw [h]; decide), if_neg (by rw [h]; decide), if_pos h]
 try rfl
theorem Wm.read_22 (m : Wm) (d : List UInt8) (h : m.kind = 22) : m.read d = ({ m with n := Rn.val d m.n, data := Rn.rest d }, [], false || !Rn.ok d) := by
 unfold Wm.read
 rw [if_neg (by rw [h]; decide), if_neg (by rw [h]; decide), if_neg (by rw [h]; decide), if_neg (by rw [h]; decide), if_neg (by rw [h]; decide), if_neg (by rw [h]; decide), if_neg (by rw [h]; decide), if_pos h]
 try rfl
set_option maxRecDepth 100000 in
set_option maxHeartbeats 2000000 in
theorem fields_read_1 (S : Nat → Prop) (g bm : Nat) (d : List UInt8) (M : WmV) (w : World) (h : Rdr w S g d false) (hM : MsgR w S bm M) (_hne : bm ≠ g) (_hSb : S bm) (hk : M.kind = 1) :
  Calls Tryz.prog 49 #[.pointer (some ⟨g, 0, none⟩), .pointer (some ⟨bm, 0, none⟩)] w (RF true S g bm (M.x.read d) w) := by
 have hgl : g < w.heap.size := by obtain ⟨A, c, h⟩ := h; exact lt_of_heap h.row
 have hbl := lt_of_heap hM.row
 have hx0 : Ext w ((w.alloc (.cells #[.pointer (some ⟨g, 0, none⟩)] 85)).alloc (.cells #[.pointer (some ⟨bm, 0, none⟩)] 91)) := Ext.tr (Ext.alloc _ _) (Ext.alloc _ _)
 have hR0 := h.ext hx0
 have hM0 := hM.ext hx0
 have hkind : ((w.alloc (.cells #[.pointer (some ⟨g, 0, none⟩)] 85)).alloc (.cells #[.pointer (some ⟨bm, 0, none⟩)] 91)).cell? ⟨bm, 0, none⟩ = some (.int .i64 1) := by rw [cell_of_row _ _ _ _ _ _ hM0.row, WmV.at0, hk]
 have r1 := (Below.heap_alloc (w.alloc (.cells #[.pointer (some ⟨g, 0, none⟩)] 85)) (.cells #[.pointer (some ⟨bm, 0, none⟩)] 91) w.heap.size (by simp)).trans (heap_alloc_new w (.cells #[.pointer (some ⟨g, 0, none⟩)] 85))
 have r2 := heap_alloc_new (w.alloc (.cells #[.pointer (some ⟨g, 0, none⟩)] 85)) (.cells #[.pointer (some ⟨bm, 0, none⟩)] 91)
 rw [World.size_alloc] at r2
 have n1 : ¬ Two g bm w.heap.size := fun e => e.elim (fun e => by omega) (fun e => by omega)
 have n2 : ¬ Two g bm (w.heap.size + 1) := fun e => e.elim (fun e => by omega) (fun e => by omega)
 have hkx : M.x.kind = 1 := hk
 have HX0 := Lib.hid hx0
 obtain ⟨r, hr⟩ : ∃ r, r = M.x.read d := ⟨_, rfl⟩
 rw [← hr]
 have HR := Lib.hid hr
 clear h hM hr
 go_enter Tryz.func49, Tryz.ntmps49
 go_wp2_with fail
 obtain ⟨U0, hU0⟩ : ∃ U0, U0 = ((w.alloc (.cells #[.pointer (some ⟨g, 0, none⟩)] 85)).alloc (.cells #[.pointer (some ⟨bm, 0, none⟩)] 91)) := ⟨_, rfl⟩
 rw [← hU0] at r1 r2 hR0 hM0 hx0 ⊢
 clear hU0
 have HQ0 := Lib.hid (Trn.refl (Two g bm) U0)
 have HX := Lib.hid hx0
 have Hr1 := Lib.hid r1
 have Hr2 := Lib.hid r2
 clear hkind
 go_ret
 rw [HR.out, Wm.read_1 _ _ hkx]
 refine ⟨rfl, (Trn.ext HX.out).tr HQ0.out, ?_, M, ?_, hM0.done⟩
 ·
  (try dsimp only); exact hR0
 ·
  rfl
set_option maxRecDepth 100000 in
set_option maxHeartbeats 2000000 in
theorem fields_read_2 (S : Nat → Prop) (g bm : Nat) (d : List UInt8) (M : WmV) (w : World) (h : Rdr w S g d false) (hM : MsgR w S bm M) (_hne : bm ≠ g) (_hSb : S bm) (hk : M.kind = 2) :
  Calls Tryz.prog 49 #[.pointer (some ⟨g, 0, none⟩), .pointer (some ⟨bm, 0, none⟩)] w (RF true S g bm (M.x.read d) w) := by
 have hgl : g < w.heap.size := by obtain ⟨A, c, h⟩ := h; exact lt_of_heap h.row
 have hbl := lt_of_heap hM.row
 have hx0 : Ext w ((w.alloc (.cells #[.pointer (some ⟨g, 0, none⟩)] 85)).alloc (.cells #[.pointer (some ⟨bm, 0, none⟩)] 91)) := Ext.tr (Ext.alloc _ _) (Ext.alloc _ _)
 have hR0 := h.ext hx0
 have hM0 := hM.ext hx0
 have hkind : ((w.alloc (.cells #[.pointer (some ⟨g, 0, none⟩)] 85)).alloc (.cells #[.pointer (some ⟨bm, 0, none⟩)] 91)).cell? ⟨bm, 0, none⟩ = some (.int .i64 2) := by rw [cell_of_row _ _ _ _ _ _ hM0.row, WmV.at0, hk]
 have r1 := (Below.heap_alloc (w.alloc (.cells #[.pointer (some ⟨g, 0, none⟩)] 85)) (.cells #[.pointer (some ⟨bm, 0, none⟩)] 91) w.heap.size (by simp)).trans (heap_alloc_new w (.cells #[.pointer (some ⟨g, 0, none⟩)] 85))
 have r2 := heap_alloc_new (w.alloc (.cells #[.pointer (some ⟨g, 0, none⟩)] 85)) (.cells #[.pointer (some ⟨bm, 0, none⟩)] 91)
 rw [World.size_alloc] at r2
 have n1 : ¬ Two g bm w.heap.size := fun e => e.elim (fun e => by omega) (fun e => by omega)
 have n2 : ¬ Two g bm (w.heap.size + 1) := fun e => e.elim (fun e => by omega) (fun e => by omega)
 have hkx : M.x.kind = 2 := hk
 have HX0 := Lib.hid hx0
 obtain ⟨r, hr⟩ : ∃ r, r = M.x.read d := ⟨_, rfl⟩
 rw [← hr]
 have HR := Lib.hid hr
 clear h hM hr
 go_enter Tryz.func49, Tryz.ntmps49
 go_wp2_with fail
 obtain ⟨U0, hU0⟩ : ∃ U0, U0 = ((w.alloc (.cells #[.pointer (some ⟨g, 0, none⟩)] 85)).alloc (.cells #[.pointer (some ⟨bm, 0, none⟩)] 91)) := ⟨_, rfl⟩
 rw [← hU0] at r1 r2 hR0 hM0 hx0 ⊢
 clear hU0
 have HQ0 := Lib.hid (Trn.refl (Two g bm) U0)
 have HX := Lib.hid hx0
 have Hr1 := Lib.hid r1
 have Hr2 := Lib.hid r2
 clear hkind
 go_ret
 rw [HR.out, Wm.read_2 _ _ hkx]
 refine ⟨rfl, (Trn.ext HX.out).tr HQ0.out, ?_, M, ?_, hM0.done⟩
 ·
  (try dsimp only); exact hR0
 ·
  rfl
set_option maxRecDepth 100000 in
set_option maxHeartbeats 2000000 in
theorem fields_read_3 (S : Nat → Prop) (g bm : Nat) (d : List UInt8) (M : WmV) (w : World) (h : Rdr w S g d false) (hM : MsgR w S bm M) (hne : bm ≠ g) (hSb : S bm) (hk : M.kind = 3) :
  Calls Tryz.prog 49 #[.pointer (some ⟨g, 0, none⟩), .pointer (some ⟨bm, 0, none⟩)] w (RF true S g bm (M.x.read d) w) := by
 have hgl : g < w.heap.size := by obtain ⟨A, c, h⟩ := h; exact lt_of_heap h.row
 have hbl := lt_of_heap hM.row
 have hx0 : Ext w ((w.alloc (.cells #[.pointer (some ⟨g, 0, none⟩)] 85)).alloc (.cells #[.pointer (some ⟨bm, 0, none⟩)] 91)) := Ext.tr (Ext.alloc _ _) (Ext.alloc _ _)
 have hR0 := h.ext hx0
 have hM0 := hM.ext hx0
 have hkind : ((w.alloc (.cells #[.pointer (some ⟨g, 0, none⟩)] 85)).alloc (.cells #[.pointer (some ⟨bm, 0, none⟩)] 91)).cell? ⟨bm, 0, none⟩ = some (.int .i64 3) := by rw [cell_of_row _ _ _ _ _ _ hM0.row, WmV.at0, hk]
 have r1 := (Below.heap_alloc (w.alloc (.cells #[.pointer (some ⟨g, 0, none⟩)] 85)) (.cells #[.pointer (some ⟨bm, 0, none⟩)] 91) w.heap.size (by simp)).trans (heap_alloc_new w (.cells #[.pointer (some ⟨g, 0, none⟩)] 85))
 have r2 := heap_alloc_new (w.alloc (.cells #[.pointer (some ⟨g, 0, none⟩)] 85)) (.cells #[.pointer (some ⟨bm, 0, none⟩)] 91)
 rw [World.size_alloc] at r2
 have n1 : ¬ Two g bm w.heap.size := fun e => e.elim (fun e => by omega) (fun e => by omega)
 have n2 : ¬ Two g bm (w.heap.size + 1) := fun e => e.elim (fun e => by omega) (fun e => by omega)
 have hkx : M.x.kind = 3 := hk
 have HX0 := Lib.hid hx0
 obtain ⟨r, hr⟩ : ∃ r, r = M.x.read d := ⟨_, rfl⟩
 rw [← hr]
 have HR := Lib.hid hr
 clear h hM hr
 go_enter Tryz.func49, Tryz.ntmps49
 have hT := ends_rm S g bm w.heap.size (w.heap.size + 1) d false M _ hR0 hM0 hne hSb r1 r2 n1 n2
 have HT := Lib.hid hT
 clear hT
 go_wp2_with (go_at_call 66; refine HT.out.mono ?_; rintro e1 U1 ⟨rfl, ht1, hR1, M1, hx1, hM1⟩; refine Hid.out ?_)
 clear HT
 obtain ⟨U0, hU0⟩ : ∃ U0, U0 = ((w.alloc (.cells #[.pointer (some ⟨g, 0, none⟩)] 85)).alloc (.cells #[.pointer (some ⟨bm, 0, none⟩)] 91)) := ⟨_, rfl⟩
 rw [← hU0] at r1 r2 hR0 hM0 hx0 ht1
 clear hU0
 have HQ0 := Lib.hid (Trn.refl (Two g bm) U0)
 have HX := Lib.hid hx0
 have Hr1 := Lib.hid r1
 have Hr2 := Lib.hid r2
 clear hkind
 have HQ1 := Lib.hid (HQ0.out.tr ht1)
 have Hx1 := Lib.hid hx1
 have Hr1 := Lib.hid (ht1.row Hr1.out n1)
 have Hr2 := Lib.hid (ht1.row Hr2.out n2)
 clear ht1 hx1 hR0 hM0
 have HR1 := Lib.hid hR1
 have HM1 := Lib.hid hM1
 clear hR1 hM1
 refine Lib.hid ?_
 go_wp2_with fail
 have hR1 := HR1.out
 have hM1 := HM1.out
 go_ret
 rw [HR.out, Wm.read_3 _ _ hkx]
 refine ⟨rfl, (Trn.ext HX.out).tr HQ1.out, ?_, M1, ?_, hM1.done⟩
 ·
  (try dsimp only); exact hR1
 ·
  rw [Hx1.out]; try rfl
set_option maxRecDepth 100000 in
set_option maxHeartbeats 2000000 in
theorem fields_read_4 (S : Nat → Prop) (g bm : Nat) (d : List UInt8) (M : WmV) (w : World) (h : Rdr w S g d false) (hM : MsgR w S bm M) (hne : bm ≠ g) (hSb : S bm) (hk : M.kind = 4) :
  Calls Tryz.prog 49 #[.pointer (some ⟨g, 0, none⟩), .pointer (some ⟨bm, 0, none⟩)] w (RF true S g bm (M.x.read d) w) := by
 have hgl : g < w.heap.size := by obtain ⟨A, c, h⟩ := h; exact lt_of_heap h.row
 have hbl := lt_of_heap hM.row
 have hx0 : Ext w ((w.alloc (.cells #[.pointer (some ⟨g, 0, none⟩)] 85)).alloc (.cells #[.pointer (some ⟨bm, 0, none⟩)] 91)) := Ext.tr (Ext.alloc _ _) (Ext.alloc _ _)
 have hR0 := h.ext hx0
 have hM0 := hM.ext hx0
 have hkind : ((w.alloc (.cells #[.pointer (some ⟨g, 0, none⟩)] 85)).alloc (.cells #[.pointer (some ⟨bm, 0, none⟩)] 91)).cell? ⟨bm, 0, none⟩ = some (.int .i64 4) := by rw [cell_of_row _ _ _ _ _ _ hM0.row, WmV.at0, hk]
 have r1 := (Below.heap_alloc (w.alloc (.cells #[.pointer (some ⟨g, 0, none⟩)] 85)) (.cells #[.pointer (some ⟨bm, 0, none⟩)] 91) w.heap.size (by simp)).trans (heap_alloc_new w (.cells #[.pointer (some ⟨g, 0, none⟩)] 85))
 have r2 := heap_alloc_new (w.alloc (.cells #[.pointer (some ⟨g, 0, none⟩)] 85)) (.cells #[.pointer (some ⟨bm, 0, none⟩)] 91)
 rw [World.size_alloc] at r2
 have n1 : ¬ Two g bm w.heap.size := fun e => e.elim (fun e => by omega) (fun e => by omega)
 have n2 : ¬ Two g bm (w.heap.size + 1) := fun e => e.elim (fun e => by omega) (fun e => by omega)
 have hkx : M.x.kind = 4 := hk
 have HX0 := Lib.hid hx0
 obtain ⟨r, hr⟩ : ∃ r, r = M.x.read d := ⟨_, rfl⟩
 rw [← hr]
 have HR := Lib.hid hr
 clear h hM hr
 go_enter Tryz.func49, Tryz.ntmps49
 have hT := ends_rm S g bm w.heap.size (w.heap.size + 1) d false M _ hR0 hM0 hne hSb r1 r2 n1 n2
 have HT := Lib.hid hT
 clear hT
 go_wp2_with (go_at_call 66; refine HT.out.mono ?_; rintro e1 U1 ⟨rfl, ht1, hR1, M1, hx1, hM1⟩; refine Hid.out ?_)
 clear HT
 obtain ⟨U0, hU0⟩ : ∃ U0, U0 = ((w.alloc (.cells #[.pointer (some ⟨g, 0, none⟩)] 85)).alloc (.cells #[.pointer (some ⟨bm, 0, none⟩)] 91)) := ⟨_, rfl⟩
 rw [← hU0] at r1 r2 hR0 hM0 hx0 ht1
 clear hU0
 have HQ0 := Lib.hid (Trn.refl (Two g bm) U0)
 have HX := Lib.hid hx0
 have Hr1 := Lib.hid r1
 have Hr2 := Lib.hid r2
 clear hkind
 have HQ1 := Lib.hid (HQ0.out.tr ht1)
 have Hx1 := Lib.hid hx1
 have Hr1 := Lib.hid (ht1.row Hr1.out n1)
 have Hr2 := Lib.hid (ht1.row Hr2.out n2)
 clear ht1 hx1 hR0 hM0
 have HR1 := Lib.hid hR1
 have HM1 := Lib.hid hM1
 clear hR1 hM1
 refine Lib.hid ?_
 go_wp2_with fail
 have hR1 := HR1.out
 have hM1 := HM1.out
 go_ret
 rw [HR.out, Wm.read_4 _ _ hkx]
 refine ⟨rfl, (Trn.ext HX.out).tr HQ1.out, ?_, M1, ?_, hM1.done⟩
 ·
  (try dsimp only); exact hR1
 ·
  rw [Hx1.out]; try rfl
set_option maxRecDepth 100000 in
set_option maxHeartbeats 2000000 in
theorem fields_read_5 (S : Nat → Prop) (g bm : Nat) (d : List UInt8) (M : WmV) (w : World) (h : Rdr w S g d false) (hM : MsgR w S bm M) (hne : bm ≠ g) (hSb : S bm) (hk : M.kind = 5) :
  Calls Tryz.prog 49 #[.pointer (some ⟨g, 0, none⟩), .pointer (some ⟨bm, 0, none⟩)] w (RF true S g bm (M.x.read d) w) := by
 have hgl : g < w.heap.size := by obtain ⟨A, c, h⟩ := h; exact lt_of_heap h.row
 have hbl := lt_of_heap hM.row
 have hx0 : Ext w ((w.alloc (.cells #[.pointer (some ⟨g, 0, none⟩)] 85)).alloc (.cells #[.pointer (some ⟨bm, 0, none⟩)] 91)) := Ext.tr (Ext.alloc _ _) (Ext.alloc _ _)
 have hR0 := h.ext hx0
 have hM0 := hM.ext hx0
 have hkind : ((w.alloc (.cells #[.pointer (some ⟨g, 0, none⟩)] 85)).alloc (.cells #[.pointer (some ⟨bm, 0, none⟩)] 91)).cell? ⟨bm, 0, none⟩ = some (.int .i64 5) := by rw [cell_of_row _ _ _ _ _ _ hM0.row, WmV.at0, hk]
 have r1 := (Below.heap_alloc (w.alloc (.cells #[.pointer (some ⟨g, 0, none⟩)] 85)) (.cells #[.pointer (some ⟨bm, 0, none⟩)] 91) w.heap.size (by simp)).trans (heap_alloc_new w (.cells #[.pointer (some ⟨g, 0, none⟩)] 85))
 have r2 := heap_alloc_new (w.alloc (.cells #[.pointer (some ⟨g, 0, none⟩)] 85)) (.cells #[.pointer (some ⟨bm, 0, none⟩)] 91)
 rw [World.size_alloc] at r2
 have n1 : ¬ Two g bm w.heap.size := fun e => e.elim (fun e => by omega) (fun e => by omega)
 have n2 : ¬ Two g bm (w.heap.size + 1) := fun e => e.elim (fun e => by omega) (fun e => by omega)
 have hkx : M.x.kind = 5 := hk
 have HX0 := Lib.hid hx0
 obtain ⟨r, hr⟩ : ∃ r, r = M.x.read d := ⟨_, rfl⟩
 rw [← hr]
 have HR := Lib.hid hr
 clear h hM hr
 go_enter Tryz.func49, Tryz.ntmps49
 go_wp2_with fail
 obtain ⟨U0, hU0⟩ : ∃ U0, U0 = ((w.alloc (.cells #[.pointer (some ⟨g, 0, none⟩)] 85)).alloc (.cells #[.pointer (some ⟨bm, 0, none⟩)] 91)) := ⟨_, rfl⟩
 rw [← hU0] at r1 r2 hR0 hM0 hx0 ⊢
 clear hU0
 have HQ0 := Lib.hid (Trn.refl (Two g bm) U0)
 have HX := Lib.hid hx0
 have Hr1 := Lib.hid r1
 have Hr2 := Lib.hid r2
 clear hkind
 have hT := n_rm (hR0.ext (Ext.drew U0)) (hM0.ext (Ext.drew U0)) hne hSb
 have HT := Lib.hid hT
 have hq1 : U0.drew.cell? ⟨w.heap.size, 0, none⟩ = some (.pointer (some ⟨g, 0, none⟩)) := cell_of_row U0 _ 0 _ _ _ Hr1.out
 have hq2 : U0.drew.cell? ⟨w.heap.size + 1, 0, none⟩ = some (.pointer (some ⟨bm, 0, none⟩)) := cell_of_row U0 _ 0 _ _ _ Hr2.out
 clear hT
 refine rr_start (extW) [2, 3] (by kernel_rfl) ?_
 refine qS 0 rfl ⟨_, fun w' hx => by have hcx := hx.load hq1; (go_simp <;> with_reducible rfl), ?_⟩
 simp only [sP]
 refine qS 1 rfl ⟨_, fun w' hx => by have hcx := hx.load hq2; (go_simp <;> with_reducible rfl), ?_⟩
 simp only [sP]
 refine qAD 2 rfl ?_
 simp only [sP]
 refine qAD 3 rfl ?_
 simp only [sP]
 refine rr_callW 4 (HT.out) rfl (by kernel_rfl) (by kernel_rfl) (by rfl) (by go_simp) ?_
 rintro e1 U1 ⟨rfl, ht1, hR1, M1, hx1, hM1⟩
 refine ⟨_, rfl, ?_⟩
 simp only [sP]
 refine rr_done (by kernel_rfl) ?_
 have HQ1 := Lib.hid ((HQ0.out.tr (Trn.ext (Ext.drew U0))).tr ht1)
 have Hx1 := Lib.hid hx1
 have Hr1 := Lib.hid (ht1.row (show U0.drew.heap[w.heap.size]? = _ from Hr1.out) n1)
 have Hr2 := Lib.hid (ht1.row (show U0.drew.heap[w.heap.size + 1]? = _ from Hr2.out) n2)
 clear ht1 hx1 HT hq1 hq2 hR0 hM0
 have HR1 := Lib.hid hR1
 have HM1 := Lib.hid hM1
 clear hR1 hM1
 go_wp2_with fail
 have hR1 := HR1.out
 have hM1 := HM1.out
 go_ret
 rw [HR.out, Wm.read_5 _ _ hkx]
 refine ⟨rfl, (Trn.ext HX.out).tr HQ1.out, ?_, M1, ?_, hM1.done⟩
 ·
  (try dsimp only); exact hR1
 ·
  rw [Hx1.out]; try rfl
set_option maxRecDepth 100000 in
set_option maxHeartbeats 2000000 in
theorem fields_read_6 (S : Nat → Prop) (g bm : Nat) (d : List UInt8) (M : WmV) (w : World) (h : Rdr w S g d false) (hM : MsgR w S bm M) (hne : bm ≠ g) (hSb : S bm) (hk : M.kind = 6) :
  Calls Tryz.prog 49 #[.pointer (some ⟨g, 0, none⟩), .pointer (some ⟨bm, 0, none⟩)] w (RF true S g bm (M.x.read d) w) := by
 have hgl : g < w.heap.size := by obtain ⟨A, c, h⟩ := h; exact lt_of_heap h.row
 have hbl := lt_of_heap hM.row
 have hx0 : Ext w ((w.alloc (.cells #[.pointer (some ⟨g, 0, none⟩)] 85)).alloc (.cells #[.pointer (some ⟨bm, 0, none⟩)] 91)) := Ext.tr (Ext.alloc _ _) (Ext.alloc _ _)
 have hR0 := h.ext hx0
 have hM0 := hM.ext hx0
 have hkind : ((w.alloc (.cells #[.pointer (some ⟨g, 0, none⟩)] 85)).alloc (.cells #[.pointer (some ⟨bm, 0, none⟩)] 91)).cell? ⟨bm, 0, none⟩ = some (.int .i64 6) := by rw [cell_of_row _ _ _ _ _ _ hM0.row, WmV.at0, hk]
 have r1 := (Below.heap_alloc (w.alloc (.cells #[.pointer (some ⟨g, 0, none⟩)] 85)) (.cells #[.pointer (some ⟨bm, 0, none⟩)] 91) w.heap.size (by simp)).trans (heap_alloc_new w (.cells #[.pointer (some ⟨g, 0, none⟩)] 85))
 have r2 := heap_alloc_new (w.alloc (.cells #[.pointer (some ⟨g, 0, none⟩)] 85)) (.cells #[.pointer (some ⟨bm, 0, none⟩)] 91)
 rw [World.size_alloc] at r2
 have n1 : ¬ Two g bm w.heap.size := fun e => e.elim (fun e => by omega) (fun e => by omega)
 have n2 : ¬ Two g bm (w.heap.size + 1) := fun e => e.elim (fun e => by omega) (fun e => by omega)
 have hkx : M.x.kind = 6 := hk
 have HX0 := Lib.hid hx0
 obtain ⟨r, hr⟩ : ∃ r, r = M.x.read d := ⟨_, rfl⟩
 rw [← hr]
 have HR := Lib.hid hr
 clear h hM hr
 go_enter Tryz.func49, Tryz.ntmps49
 go_wp2_with fail
 obtain ⟨U0, hU0⟩ : ∃ U0, U0 = ((w.alloc (.cells #[.pointer (some ⟨g, 0, none⟩)] 85)).alloc (.cells #[.pointer (some ⟨bm, 0, none⟩)] 91)) := ⟨_, rfl⟩
 rw [← hU0] at r1 r2 hR0 hM0 hx0 ⊢
 clear hU0
 have HQ0 := Lib.hid (Trn.refl (Two g bm) U0)
 have HX := Lib.hid hx0
 have Hr1 := Lib.hid r1
 have Hr2 := Lib.hid r2
 clear hkind
 have hT := n_rm (hR0.ext (Ext.drew U0)) (hM0.ext (Ext.drew U0)) hne hSb
 have HT := Lib.hid hT
 have hq1 : U0.drew.cell? ⟨w.heap.size, 0, none⟩ = some (.pointer (some ⟨g, 0, none⟩)) := cell_of_row U0 _ 0 _ _ _ Hr1.out
 have hq2 : U0.drew.cell? ⟨w.heap.size + 1, 0, none⟩ = some (.pointer (some ⟨bm, 0, none⟩)) := cell_of_row U0 _ 0 _ _ _ Hr2.out
 clear hT
 refine rr_start (extW) [2, 3] (by kernel_rfl) ?_
 refine qS 0 rfl ⟨_, fun w' hx => by have hcx := hx.load hq1; (go_simp <;> with_reducible rfl), ?_⟩
 simp only [sP]
 refine qS 1 rfl ⟨_, fun w' hx => by have hcx := hx.load hq2; (go_simp <;> with_reducible rfl), ?_⟩
 simp only [sP]
 refine qAD 2 rfl ?_
 simp only [sP]
 refine qAD 3 rfl ?_
 simp only [sP]
 refine rr_callW 4 (HT.out) rfl (by kernel_rfl) (by kernel_rfl) (by rfl) (by go_simp) ?_
 rintro e1 U1 ⟨rfl, ht1, hR1, M1, hx1, hM1⟩
 refine ⟨_, rfl, ?_⟩
 simp only [sP]
 refine rr_done (by kernel_rfl) ?_
 have HQ1 := Lib.hid ((HQ0.out.tr (Trn.ext (Ext.drew U0))).tr ht1)
 have Hx1 := Lib.hid hx1
 have Hr1 := Lib.hid (ht1.row (show U0.drew.heap[w.heap.size]? = _ from Hr1.out) n1)
 have Hr2 := Lib.hid (ht1.row (show U0.drew.heap[w.heap.size + 1]? = _ from Hr2.out) n2)
 clear ht1 hx1 HT hq1 hq2 hR0 hM0
 have HR1 := Lib.hid hR1
 have HM1 := Lib.hid hM1
 clear hR1 hM1
 go_wp2_with fail
 have hR1 := HR1.out
 have hM1 := HM1.out
 go_ret
 rw [HR.out, Wm.read_6 _ _ hkx]
 refine ⟨rfl, (Trn.ext HX.out).tr HQ1.out, ?_, M1, ?_, hM1.done⟩
 ·
  (try dsimp only); exact hR1
 ·
  rw [Hx1.out]; try rfl
set_option maxRecDepth 100000 in
set_option maxHeartbeats 2000000 in
theorem fields_read_17 (S : Nat → Prop) (g bm : Nat) (d : List UInt8) (M : WmV) (w : World) (h : Rdr w S g d false) (hM : MsgR w S bm M) (hne : bm ≠ g) (hSb : S bm) (hk : M.kind = 17) :
  Calls Tryz.prog 49 #[.pointer (some ⟨g, 0, none⟩), .pointer (some ⟨bm, 0, none⟩)] w (RF true S g bm (M.x.read d) w) := by
 have hgl : g < w.heap.size := by obtain ⟨A, c, h⟩ := h; exact lt_of_heap h.row
 have hbl := lt_of_heap hM.row
 have hx0 : Ext w ((w.alloc (.cells #[.pointer (some ⟨g, 0, none⟩)] 85)).alloc (.cells #[.pointer (some ⟨bm, 0, none⟩)] 91)) := Ext.tr (Ext.alloc _ _) (Ext.alloc _ _)
 have hR0 := h.ext hx0
 have hM0 := hM.ext hx0
 have hkind : ((w.alloc (.cells #[.pointer (some ⟨g, 0, none⟩)] 85)).alloc (.cells #[.pointer (some ⟨bm, 0, none⟩)] 91)).cell? ⟨bm, 0, none⟩ = some (.int .i64 17) := by rw [cell_of_row _ _ _ _ _ _ hM0.row, WmV.at0, hk]
 have r1 := (Below.heap_alloc (w.alloc (.cells #[.pointer (some ⟨g, 0, none⟩)] 85)) (.cells #[.pointer (some ⟨bm, 0, none⟩)] 91) w.heap.size (by simp)).trans (heap_alloc_new w (.cells #[.pointer (some ⟨g, 0, none⟩)] 85))
 have r2 := heap_alloc_new (w.alloc (.cells #[.pointer (some ⟨g, 0, none⟩)] 85)) (.cells #[.pointer (some ⟨bm, 0, none⟩)] 91)
 rw [World.size_alloc] at r2
 have n1 : ¬ Two g bm w.heap.size := fun e => e.elim (fun e => by omega) (fun e => by omega)
 have n2 : ¬ Two g bm (w.heap.size + 1) := fun e => e.elim (fun e => by omega) (fun e => by omega)
 have hkx : M.x.kind = 17 := hk
 have HX0 := Lib.hid hx0
 obtain ⟨r, hr⟩ : ∃ r, r = M.x.read d := ⟨_, rfl⟩
 rw [← hr]
 have HR := Lib.hid hr
 clear h hM hr
 go_enter Tryz.func49, Tryz.ntmps49
 go_wp2_with fail
 obtain ⟨U0, hU0⟩ : ∃ U0, U0 = ((w.alloc (.cells #[.pointer (some ⟨g, 0, none⟩)] 85)).alloc (.cells #[.pointer (some ⟨bm, 0, none⟩)] 91)) := ⟨_, rfl⟩
 rw [← hU0] at r1 r2 hR0 hM0 hx0 ⊢
 clear hU0
 have HQ0 := Lib.hid (Trn.refl (Two g bm) U0)
 have HX := Lib.hid hx0
 have Hr1 := Lib.hid r1
 have Hr2 := Lib.hid r2
 clear hkind
 have hT := lsn_rm (hR0.ext (Ext.drew U0)) (hM0.ext (Ext.drew U0)) hne hSb
 have HT := Lib.hid hT
 have hq1 : U0.drew.cell? ⟨w.heap.size, 0, none⟩ = some (.pointer (some ⟨g, 0, none⟩)) := cell_of_row U0 _ 0 _ _ _ Hr1.out
 have hq2 : U0.drew.cell? ⟨w.heap.size + 1, 0, none⟩ = some (.pointer (some ⟨bm, 0, none⟩)) := cell_of_row U0 _ 0 _ _ _ Hr2.out
 clear hT
 refine rr_start (extW) [2, 3] (by kernel_rfl) ?_
 refine qS 0 rfl ⟨_, fun w' hx => by have hcx := hx.load hq1; (go_simp <;> with_reducible rfl), ?_⟩
 simp only [sP]
 refine qS 1 rfl ⟨_, fun w' hx => by have hcx := hx.load hq2; (go_simp <;> with_reducible rfl), ?_⟩
 simp only [sP]
 refine qAD 2 rfl ?_
 simp only [sP]
 refine qAD 3 rfl ?_
 simp only [sP]
 refine rr_callW 4 (HT.out) rfl (by kernel_rfl) (by kernel_rfl) (by rfl) (by go_simp) ?_
 rintro e1 U1 ⟨rfl, ht1, hR1, M1, hx1, hM1⟩
 refine ⟨_, rfl, ?_⟩
 simp only [sP]
 refine rr_done (by kernel_rfl) ?_
 have HQ1 := Lib.hid ((HQ0.out.tr (Trn.ext (Ext.drew U0))).tr ht1)
 have Hx1 := Lib.hid hx1
 have Hr1 := Lib.hid (ht1.row (show U0.drew.heap[w.heap.size]? = _ from Hr1.out) n1)
 have Hr2 := Lib.hid (ht1.row (show U0.drew.heap[w.heap.size + 1]? = _ from Hr2.out) n2)
 clear ht1 hx1 HT hq1 hq2 hR0 hM0
 have HR1 := Lib.hid hR1
 have HM1 := Lib.hid hM1
 clear hR1 hM1
 go_wp2_with fail
 have hR1 := HR1.out
 have hM1 := HM1.out
 have hT := count_rm (hR1.ext (Ext.drew U1)) (hM1.ext (Ext.drew U1)) hne hSb
 have HT := Lib.hid hT
 have hq1 : U1.drew.cell? ⟨w.heap.size, 0, none⟩ = some (.pointer (some ⟨g, 0, none⟩)) := cell_of_row U1 _ 0 _ _ _ Hr1.out
 have hq2 : U1.drew.cell? ⟨w.heap.size + 1, 0, none⟩ = some (.pointer (some ⟨bm, 0, none⟩)) := cell_of_row U1 _ 0 _ _ _ Hr2.out
 clear hT
 refine rr_start (extW) [2, 3] (by kernel_rfl) ?_
 refine qS 0 rfl ⟨_, fun w' hx => by have hcx := hx.load hq1; (go_simp <;> with_reducible rfl), ?_⟩
 simp only [sP]
 refine qS 1 rfl ⟨_, fun w' hx => by have hcx := hx.load hq2; (go_simp <;> with_reducible rfl), ?_⟩
 simp only [sP]
 refine qAD 2 rfl ?_
 simp only [sP]
 refine qAD 3 rfl ?_
 simp only [sP]
 refine rr_callW 4 (HT.out) rfl (by kernel_rfl) (by kernel_rfl) (by rfl) (by go_simp) ?_
 rintro e2 U2 ⟨rfl, ht2, hR2, M2, hx2, hM2⟩
 refine ⟨_, rfl, ?_⟩
 simp only [sP]
 refine rr_done (by kernel_rfl) ?_
 have HQ2 := Lib.hid ((HQ1.out.tr (Trn.ext (Ext.drew U1))).tr ht2)
 rw [Hx1.out] at hx2
 dsimp only at hx2
 have Hx2 := Lib.hid hx2
 have Hr1 := Lib.hid (ht2.row (show U1.drew.heap[w.heap.size]? = _ from Hr1.out) n1)
 have Hr2 := Lib.hid (ht2.row (show U1.drew.heap[w.heap.size + 1]? = _ from Hr2.out) n2)
 clear ht2 hx2 HT hq1 hq2 hR1 hM1
 have HR2 := Lib.hid hR2
 have HM2 := Lib.hid hM2
 clear hR2 hM2
 go_wp2_with fail
 have hR2 := HR2.out
 have hM2 := HM2.out
 have hT := sum_rm (hR2.ext (Ext.drew U2)) (hM2.ext (Ext.drew U2)) hne hSb
 have HT := Lib.hid hT
 have hq1 : U2.drew.cell? ⟨w.heap.size, 0, none⟩ = some (.pointer (some ⟨g, 0, none⟩)) := cell_of_row U2 _ 0 _ _ _ Hr1.out
 have hq2 : U2.drew.cell? ⟨w.heap.size + 1, 0, none⟩ = some (.pointer (some ⟨bm, 0, none⟩)) := cell_of_row U2 _ 0 _ _ _ Hr2.out
 clear hT
 refine rr_start (extW) [2, 3] (by kernel_rfl) ?_
 refine qS 0 rfl ⟨_, fun w' hx => by have hcx := hx.load hq1; (go_simp <;> with_reducible rfl), ?_⟩
 simp only [sP]
 refine qS 1 rfl ⟨_, fun w' hx => by have hcx := hx.load hq2; (go_simp <;> with_reducible rfl), ?_⟩
 simp only [sP]
 refine qAD 2 rfl ?_
 simp only [sP]
 refine qAD 3 rfl ?_
 simp only [sP]
 refine rr_callW 4 (HT.out) rfl (by kernel_rfl) (by kernel_rfl) (by rfl) (by go_simp) ?_
 rintro e3 U3 ⟨rfl, ht3, hR3, M3, hx3, hM3⟩
 refine ⟨_, rfl, ?_⟩
 simp only [sP]
 refine rr_done (by kernel_rfl) ?_
 have HQ3 := Lib.hid ((HQ2.out.tr (Trn.ext (Ext.drew U2))).tr ht3)
 rw [Hx2.out] at hx3
 dsimp only at hx3
 have Hx3 := Lib.hid hx3
 have Hr1 := Lib.hid (ht3.row (show U2.drew.heap[w.heap.size]? = _ from Hr1.out) n1)
 have Hr2 := Lib.hid (ht3.row (show U2.drew.heap[w.heap.size + 1]? = _ from Hr2.out) n2)
 clear ht3 hx3 HT hq1 hq2 hR2 hM2
 have HR3 := Lib.hid hR3
 have HM3 := Lib.hid hM3
 clear hR3 hM3
 go_wp2_with fail
 have hR3 := HR3.out
 have hM3 := HM3.out
 have hT := size_rm (hR3.ext (Ext.drew U3)) (hM3.ext (Ext.drew U3)) hne hSb
 have HT := Lib.hid hT
 have hq1 : U3.drew.cell? ⟨w.heap.size, 0, none⟩ = some (.pointer (some ⟨g, 0, none⟩)) := cell_of_row U3 _ 0 _ _ _ Hr1.out
 have hq2 : U3.drew.cell? ⟨w.heap.size + 1, 0, none⟩ = some (.pointer (some ⟨bm, 0, none⟩)) := cell_of_row U3 _ 0 _ _ _ Hr2.out
 clear hT
 refine rr_start (extW) [2, 3] (by kernel_rfl) ?_
 refine qS 0 rfl ⟨_, fun w' hx => by have hcx := hx.load hq1; (go_simp <;> with_reducible rfl), ?_⟩
 simp only [sP]
 refine qS 1 rfl ⟨_, fun w' hx => by have hcx := hx.load hq2; (go_simp <;> with_reducible rfl), ?_⟩
 simp only [sP]
 refine qAD 2 rfl ?_
 simp only [sP]
 refine qAD 3 rfl ?_
 simp only [sP]
 refine rr_callW 4 (HT.out) rfl (by kernel_rfl) (by kernel_rfl) (by rfl) (by go_simp) ?_
 rintro e4 U4 ⟨rfl, ht4, hR4, M4, hx4, hM4⟩
 refine ⟨_, rfl, ?_⟩
 simp only [sP]
 refine rr_done (by kernel_rfl) ?_
 have HQ4 := Lib.hid ((HQ3.out.tr (Trn.ext (Ext.drew U3))).tr ht4)
 rw [Hx3.out] at hx4
 dsimp only at hx4
 have Hx4 := Lib.hid hx4
 have Hr1 := Lib.hid (ht4.row (show U3.drew.heap[w.heap.size]? = _ from Hr1.out) n1)
 have Hr2 := Lib.hid (ht4.row (show U3.drew.heap[w.heap.size + 1]? = _ from Hr2.out) n2)
 clear ht4 hx4 HT hq1 hq2 hR3 hM3
 have HR4 := Lib.hid hR4
 have HM4 := Lib.hid hM4
 clear hR4 hM4
 go_wp2_with fail
 have hR4 := HR4.out
 have hM4 := HM4.out
 have hT := file_rm (hR4.ext (Ext.drew U4)) (hM4.ext (Ext.drew U4)) hne hSb
 have HT := Lib.hid hT
 have hq1 : U4.drew.cell? ⟨w.heap.size, 0, none⟩ = some (.pointer (some ⟨g, 0, none⟩)) := cell_of_row U4 _ 0 _ _ _ Hr1.out
 have hq2 : U4.drew.cell? ⟨w.heap.size + 1, 0, none⟩ = some (.pointer (some ⟨bm, 0, none⟩)) := cell_of_row U4 _ 0 _ _ _ Hr2.out
 clear hT
 refine rr_start (extW) [2, 3] (by kernel_rfl) ?_
 refine qS 0 rfl ⟨_, fun w' hx => by have hcx := hx.load hq1; (go_simp <;> with_reducible rfl), ?_⟩
 simp only [sP]
 refine qS 1 rfl ⟨_, fun w' hx => by have hcx := hx.load hq2; (go_simp <;> with_reducible rfl), ?_⟩
 simp only [sP]
 refine qAD 2 rfl ?_
 simp only [sP]
 refine qAD 3 rfl ?_
 simp only [sP]
 refine rr_callW 4 (HT.out) rfl (by kernel_rfl) (by kernel_rfl) (by rfl) (by go_simp) ?_
 rintro e5 U5 ⟨rfl, ht5, hR5, M5, hx5, hM5⟩
 refine ⟨_, rfl, ?_⟩
 simp only [sP]
 refine rr_done (by kernel_rfl) ?_
 have HQ5 := Lib.hid ((HQ4.out.tr (Trn.ext (Ext.drew U4))).tr ht5)
 rw [Hx4.out] at hx5
 dsimp only at hx5
 have Hx5 := Lib.hid hx5
 have Hr1 := Lib.hid (ht5.row (show U4.drew.heap[w.heap.size]? = _ from Hr1.out) n1)
 have Hr2 := Lib.hid (ht5.row (show U4.drew.heap[w.heap.size + 1]? = _ from Hr2.out) n2)
 clear ht5 hx5 HT hq1 hq2 hR4 hM4
 have HR5 := Lib.hid hR5
 have HM5 := Lib.hid hM5
 clear hR5 hM5
 go_wp2_with fail
 have hR5 := HR5.out
 have hM5 := HM5.out
 go_ret
 rw [HR.out, Wm.read_17 _ _ hkx]
 refine ⟨rfl, (Trn.ext HX.out).tr HQ5.out, ?_, M5, ?_, hM5.done⟩
 ·
  (try dsimp only); exact hR5
 ·
  rw [Hx5.out]; try rfl
set_option maxRecDepth 100000 in
set_option maxHeartbeats 2000000 in
theorem fields_read_18 (S : Nat → Prop) (g bm : Nat) (d : List UInt8) (M : WmV) (w : World) (h : Rdr w S g d false) (hM : MsgR w S bm M) (hne : bm ≠ g) (hSb : S bm) (hk : M.kind = 18) :
  Calls Tryz.prog 49 #[.pointer (some ⟨g, 0, none⟩), .pointer (some ⟨bm, 0, none⟩)] w (RF true S g bm (M.x.read d) w) := by
 have hgl : g < w.heap.size := by obtain ⟨A, c, h⟩ := h; exact lt_of_heap h.row
 have hbl := lt_of_heap hM.row
 have hx0 : Ext w ((w.alloc (.cells #[.pointer (some ⟨g, 0, none⟩)] 85)).alloc (.cells #[.pointer (some ⟨bm, 0, none⟩)] 91)) := Ext.tr (Ext.alloc _ _) (Ext.alloc _ _)
 have hR0 := h.ext hx0
 have hM0 := hM.ext hx0
 have hkind : ((w.alloc (.cells #[.pointer (some ⟨g, 0, none⟩)] 85)).alloc (.cells #[.pointer (some ⟨bm, 0, none⟩)] 91)).cell? ⟨bm, 0, none⟩ = some (.int .i64 18) := by rw [cell_of_row _ _ _ _ _ _ hM0.row, WmV.at0, hk]
 have r1 := (Below.heap_alloc (w.alloc (.cells #[.pointer (some ⟨g, 0, none⟩)] 85)) (.cells #[.pointer (some ⟨bm, 0, none⟩)] 91) w.heap.size (by simp)).trans (heap_alloc_new w (.cells #[.pointer (some ⟨g, 0, none⟩)] 85))
 have r2 := heap_alloc_new (w.alloc (.cells #[.pointer (some ⟨g, 0, none⟩)] 85)) (.cells #[.pointer (some ⟨bm, 0, none⟩)] 91)
 rw [World.size_alloc] at r2
 have n1 : ¬ Two g bm w.heap.size := fun e => e.elim (fun e => by omega) (fun e => by omega)
 have n2 : ¬ Two g bm (w.heap.size + 1) := fun e => e.elim (fun e => by omega) (fun e => by omega)
 have hkx : M.x.kind = 18 := hk
 have HX0 := Lib.hid hx0
 obtain ⟨r, hr⟩ : ∃ r, r = M.x.read d := ⟨_, rfl⟩
 rw [← hr]
 have HR := Lib.hid hr
 clear h hM hr
 go_enter Tryz.func49, Tryz.ntmps49
 go_wp2_with fail
 obtain ⟨U0, hU0⟩ : ∃ U0, U0 = ((w.alloc (.cells #[.pointer (some ⟨g, 0, none⟩)] 85)).alloc (.cells #[.pointer (some ⟨bm, 0, none⟩)] 91)) := ⟨_, rfl⟩
 rw [← hU0] at r1 r2 hR0 hM0 hx0 ⊢
 clear hU0
 have HQ0 := Lib.hid (Trn.refl (Two g bm) U0)
 have HX := Lib.hid hx0
 have Hr1 := Lib.hid r1
 have Hr2 := Lib.hid r2
 clear hkind
 have hT := subs_rd (hR0.ext (Ext.drew U0)) (hM0.ext (Ext.drew U0)) hne hSb
 have HT := Lib.hid hT
 have hq1 : U0.drew.cell? ⟨w.heap.size, 0, none⟩ = some (.pointer (some ⟨g, 0, none⟩)) := cell_of_row U0 _ 0 _ _ _ Hr1.out
 have hq2 : U0.drew.cell? ⟨w.heap.size + 1, 0, none⟩ = some (.pointer (some ⟨bm, 0, none⟩)) := cell_of_row U0 _ 0 _ _ _ Hr2.out
 clear hT
 refine rr_start (extW) [2, 3] (by kernel_rfl) ?_
 refine qS 0 rfl ⟨_, fun w' hx => by have hcx := hx.load hq1; (go_simp <;> with_reducible rfl), ?_⟩
 simp only [sP]
 refine qS 1 rfl ⟨_, fun w' hx => by have hcx := hx.load hq2; (go_simp <;> with_reducible rfl), ?_⟩
 simp only [sP]
 refine qAD 2 rfl ?_
 simp only [sP]
 refine qAD 3 rfl ?_
 simp only [sP]
 refine rr_callW 4 (HT.out) rfl (by kernel_rfl) (by kernel_rfl) (by rfl) (by go_simp) ?_
 rintro e1 U1 ⟨rfl, ht1, hR1, M1, hx1, hM1⟩
 refine ⟨_, rfl, ?_⟩
 simp only [sP]
 refine rr_done (by kernel_rfl) ?_
 have HQ1 := Lib.hid ((HQ0.out.tr (Trn.ext (Ext.drew U0))).tr ht1)
 have Hx1 := Lib.hid hx1
 have Hr1 := Lib.hid (ht1.row (show U0.drew.heap[w.heap.size]? = _ from Hr1.out) n1)
 have Hr2 := Lib.hid (ht1.row (show U0.drew.heap[w.heap.size + 1]? = _ from Hr2.out) n2)
 clear ht1 hx1 HT hq1 hq2 hR0 hM0
 have HR1 := Lib.hid hR1
 have HM1 := Lib.hid hM1
 clear hR1 hM1
 go_wp2_with fail
 have hR1 := HR1.out
 have hM1 := HM1.out
 go_ret
 rw [HR.out, Wm.read_18 _ _ hkx]
 refine ⟨rfl, (Trn.ext HX.out).tr HQ1.out, ?_, M1, ?_, hM1⟩
 ·
  (try dsimp only); exact hR1
 ·
  rw [Hx1.out]; try rfl
set_option maxRecDepth 100000 in
set_option maxHeartbeats 2000000 in
theorem fields_read_19 (S : Nat → Prop) (g bm : Nat) (d : List UInt8) (M : WmV) (w : World) (h : Rdr w S g d false) (hM : MsgR w S bm M) (hne : bm ≠ g) (hSb : S bm) (hk : M.kind = 19) :
  Calls Tryz.prog 49 #[.pointer (some ⟨g, 0, none⟩), .pointer (some ⟨bm, 0, none⟩)] w (RF true S g bm (M.x.read d) w) := by
 have hgl : g < w.heap.size := by obtain ⟨A, c, h⟩ := h; exact lt_of_heap h.row
 have hbl := lt_of_heap hM.row
 have hx0 : Ext w ((w.alloc (.cells #[.pointer (some ⟨g, 0, none⟩)] 85)).alloc (.cells #[.pointer (some ⟨bm, 0, none⟩)] 91)) := Ext.tr (Ext.alloc _ _) (Ext.alloc _ _)
 have hR0 := h.ext hx0
 have hM0 := hM.ext hx0
 have hkind : ((w.alloc (.cells #[.pointer (some ⟨g, 0, none⟩)] 85)).alloc (.cells #[.pointer (some ⟨bm, 0, none⟩)] 91)).cell? ⟨bm, 0, none⟩ = some (.int .i64 19) := by rw [cell_of_row _ _ _ _ _ _ hM0.row, WmV.at0, hk]
 have r1 := (Below.heap_alloc (w.alloc (.cells #[.pointer (some ⟨g, 0, none⟩)] 85)) (.cells #[.pointer (some ⟨bm, 0, none⟩)] 91) w.heap.size (by simp)).trans (heap_alloc_new w (.cells #[.pointer (some ⟨g, 0, none⟩)] 85))
 have r2 := heap_alloc_new (w.alloc (.cells #[.pointer (some ⟨g, 0, none⟩)] 85)) (.cells #[.pointer (some ⟨bm, 0, none⟩)] 91)
 rw [World.size_alloc] at r2
 have n1 : ¬ Two g bm w.heap.size := fun e => e.elim (fun e => by omega) (fun e => by omega)
 have n2 : ¬ Two g bm (w.heap.size + 1) := fun e => e.elim (fun e => by omega) (fun e => by omega)
 have hkx : M.x.kind = 19 := hk
 have HX0 := Lib.hid hx0
 obtain ⟨r, hr⟩ : ∃ r, r = M.x.read d := ⟨_, rfl⟩
 rw [← hr]
 have HR := Lib.hid hr
 clear h hM hr
 go_enter Tryz.func49, Tryz.ntmps49
 have hT := ends_rm S g bm w.heap.size (w.heap.size + 1) d false M _ hR0 hM0 hne hSb r1 r2 n1 n2
 have HT := Lib.hid hT
 clear hT
 go_wp2_with (go_at_call 66; refine HT.out.mono ?_; rintro e1 U1 ⟨rfl, ht1, hR1, M1, hx1, hM1⟩; refine Hid.out ?_)
 clear HT
 obtain ⟨U0, hU0⟩ : ∃ U0, U0 = ((w.alloc (.cells #[.pointer (some ⟨g, 0, none⟩)] 85)).alloc (.cells #[.pointer (some ⟨bm, 0, none⟩)] 91)) := ⟨_, rfl⟩
 rw [← hU0] at r1 r2 hR0 hM0 hx0 ht1
 clear hU0
 have HQ0 := Lib.hid (Trn.refl (Two g bm) U0)
 have HX := Lib.hid hx0
 have Hr1 := Lib.hid r1
 have Hr2 := Lib.hid r2
 clear hkind
 have HQ1 := Lib.hid (HQ0.out.tr ht1)
 have Hx1 := Lib.hid hx1
 have Hr1 := Lib.hid (ht1.row Hr1.out n1)
 have Hr2 := Lib.hid (ht1.row Hr2.out n2)
 clear ht1 hx1 hR0 hM0
 have HR1 := Lib.hid hR1
 have HM1 := Lib.hid hM1
 clear hR1 hM1
 refine Lib.hid ?_
 go_wp2_with fail
 have hR1 := HR1.out
 have hM1 := HM1.out
 have hT := subs_rd (hR1.ext (Ext.drew U1)) (hM1.ext (Ext.drew U1)) hne hSb
 have HT := Lib.hid hT
 have hq1 : U1.drew.cell? ⟨w.heap.size, 0, none⟩ = some (.pointer (some ⟨g, 0, none⟩)) := cell_of_row U1 _ 0 _ _ _ Hr1.out
 have hq2 : U1.drew.cell? ⟨w.heap.size + 1, 0, none⟩ = some (.pointer (some ⟨bm, 0, none⟩)) := cell_of_row U1 _ 0 _ _ _ Hr2.out
 clear hT
 refine rr_start (extW) [2, 3] (by kernel_rfl) ?_
 refine qS 0 rfl ⟨_, fun w' hx => by have hcx := hx.load hq1; (go_simp <;> with_reducible rfl), ?_⟩
 simp only [sP]
 refine qS 1 rfl ⟨_, fun w' hx => by have hcx := hx.load hq2; (go_simp <;> with_reducible rfl), ?_⟩
 simp only [sP]
 refine qAD 2 rfl ?_
 simp only [sP]
 refine qAD 3 rfl ?_
 simp only [sP]
 refine rr_callW 4 (HT.out) rfl (by kernel_rfl) (by kernel_rfl) (by rfl) (by go_simp) ?_
 rintro e2 U2 ⟨rfl, ht2, hR2, M2, hx2, hM2⟩
 refine ⟨_, rfl, ?_⟩
 simp only [sP]
 refine rr_done (by kernel_rfl) ?_
 have HQ2 := Lib.hid ((HQ1.out.tr (Trn.ext (Ext.drew U1))).tr ht2)
 rw [Hx1.out] at hx2
 dsimp only at hx2
 have Hx2 := Lib.hid hx2
 have Hr1 := Lib.hid (ht2.row (show U1.drew.heap[w.heap.size]? = _ from Hr1.out) n1)
 have Hr2 := Lib.hid (ht2.row (show U1.drew.heap[w.heap.size + 1]? = _ from Hr2.out) n2)
 clear ht2 hx2 HT hq1 hq2 hR1 hM1
 have HR2 := Lib.hid hR2
 have HM2 := Lib.hid hM2
 clear hR2 hM2
 go_wp2_with fail
 have hR2 := HR2.out
 have hM2 := HM2.out
 go_ret
 rw [HR.out, Wm.read_19 _ _ hkx]
 refine ⟨rfl, (Trn.ext HX.out).tr HQ2.out, ?_, M2, ?_, hM2⟩
 ·
  (try dsimp only); exact hR2
 ·
  rw [Hx2.out]; try rfl
set_option maxRecDepth 100000 in
set_option maxHeartbeats 2000000 in
theorem fields_read_20 (S : Nat → Prop) (g bm : Nat) (d : List UInt8) (M : WmV) (w : World) (h : Rdr w S g d false) (hM : MsgR w S bm M) (hne : bm ≠ g) (hSb : S bm) (hk : M.kind = 20) :
  Calls Tryz.prog 49 #[.pointer (some ⟨g, 0, none⟩), .pointer (some ⟨bm, 0, none⟩)] w (RF true S g bm (M.x.read d) w) := by
 have hgl : g < w.heap.size := by obtain ⟨A, c, h⟩ := h; exact lt_of_heap h.row
 have hbl := lt_of_heap hM.row
 have hx0 : Ext w ((w.alloc (.cells #[.pointer (some ⟨g, 0, none⟩)] 85)).alloc (.cells #[.pointer (some ⟨bm, 0, none⟩)] 91)) := Ext.tr (Ext.alloc _ _) (Ext.alloc _ _)
 have hR0 := h.ext hx0
 have hM0 := hM.ext hx0
 have hkind : ((w.alloc (.cells #[.pointer (some ⟨g, 0, none⟩)] 85)).alloc (.cells #[.pointer (some ⟨bm, 0, none⟩)] 91)).cell? ⟨bm, 0, none⟩ = some (.int .i64 20) := by rw [cell_of_row _ _ _ _ _ _ hM0.row, WmV.at0, hk]
 have r1 := (Below.heap_alloc (w.alloc (.cells #[.pointer (some ⟨g, 0, none⟩)] 85)) (.cells #[.pointer (some ⟨bm, 0, none⟩)] 91) w.heap.size (by simp)).trans (heap_alloc_new w (.cells #[.pointer (some ⟨g, 0, none⟩)] 85))
 have r2 := heap_alloc_new (w.alloc (.cells #[.pointer (some ⟨g, 0, none⟩)] 85)) (.cells #[.pointer (some ⟨bm, 0, none⟩)] 91)
 rw [World.size_alloc] at r2
 have n1 : ¬ Two g bm w.heap.size := fun e => e.elim (fun e => by omega) (fun e => by omega)
 have n2 : ¬ Two g bm (w.heap.size + 1) := fun e => e.elim (fun e => by omega) (fun e => by omega)
 have hkx : M.x.kind = 20 := hk
 have HX0 := Lib.hid hx0
 obtain ⟨r, hr⟩ : ∃ r, r = M.x.read d := ⟨_, rfl⟩
 rw [← hr]
 have HR := Lib.hid hr
 clear h hM hr
 go_enter Tryz.func49, Tryz.ntmps49
 have hT := ends_rm S g bm w.heap.size (w.heap.size + 1) d false M _ hR0 hM0 hne hSb r1 r2 n1 n2
 have HT := Lib.hid hT
 clear hT
 go_wp2_with (go_at_call 66; refine HT.out.mono ?_; rintro e1 U1 ⟨rfl, ht1, hR1, M1, hx1, hM1⟩; refine Hid.out ?_)
 clear HT
 obtain ⟨U0, hU0⟩ : ∃ U0, U0 = ((w.alloc (.cells #[.pointer (some ⟨g, 0, none⟩)] 85)).alloc (.cells #[.pointer (some ⟨bm, 0, none⟩)] 91)) := ⟨_, rfl⟩
 rw [← hU0] at r1 r2 hR0 hM0 hx0 ht1
 clear hU0
 have HQ0 := Lib.hid (Trn.refl (Two g bm) U0)
 have HX := Lib.hid hx0
 have Hr1 := Lib.hid r1
 have Hr2 := Lib.hid r2
 clear hkind
 have HQ1 := Lib.hid (HQ0.out.tr ht1)
 have Hx1 := Lib.hid hx1
 have Hr1 := Lib.hid (ht1.row Hr1.out n1)
 have Hr2 := Lib.hid (ht1.row Hr2.out n2)
 clear ht1 hx1 hR0 hM0
 have HR1 := Lib.hid hR1
 have HM1 := Lib.hid hM1
 clear hR1 hM1
 refine Lib.hid ?_
 go_wp2_with fail
 have hR1 := HR1.out
 have hM1 := HM1.out
 have hT := more_rm (hR1.ext (Ext.drew U1)) (hM1.ext (Ext.drew U1)) hne hSb
 have HT := Lib.hid hT
 have hq1 : U1.drew.cell? ⟨w.heap.size, 0, none⟩ = some (.pointer (some ⟨g, 0, none⟩)) := cell_of_row U1 _ 0 _ _ _ Hr1.out
 have hq2 : U1.drew.cell? ⟨w.heap.size + 1, 0, none⟩ = some (.pointer (some ⟨bm, 0, none⟩)) := cell_of_row U1 _ 0 _ _ _ Hr2.out
 clear hT
 refine rr_start (extW) [2, 3] (by kernel_rfl) ?_
 refine qS 0 rfl ⟨_, fun w' hx => by have hcx := hx.load hq1; (go_simp <;> with_reducible rfl), ?_⟩
 simp only [sP]
 refine qS 1 rfl ⟨_, fun w' hx => by have hcx := hx.load hq2; (go_simp <;> with_reducible rfl), ?_⟩
 simp only [sP]
 refine qAD 2 rfl ?_
 simp only [sP]
 refine qAD 3 rfl ?_
 simp only [sP]
 refine rr_callW 4 (HT.out) rfl (by kernel_rfl) (by kernel_rfl) (by rfl) (by go_simp) ?_
 rintro e2 U2 ⟨rfl, ht2, hR2, M2, hx2, hM2⟩
 refine ⟨_, rfl, ?_⟩
 simp only [sP]
 refine rr_done (by kernel_rfl) ?_
 have HQ2 := Lib.hid ((HQ1.out.tr (Trn.ext (Ext.drew U1))).tr ht2)
 rw [Hx1.out] at hx2
 dsimp only at hx2
 have Hx2 := Lib.hid hx2
 have Hr1 := Lib.hid (ht2.row (show U1.drew.heap[w.heap.size]? = _ from Hr1.out) n1)
 have Hr2 := Lib.hid (ht2.row (show U1.drew.heap[w.heap.size + 1]? = _ from Hr2.out) n2)
 clear ht2 hx2 HT hq1 hq2 hR1 hM1
 have HR2 := Lib.hid hR2
 have HM2 := Lib.hid hM2
 clear hR2 hM2
 go_wp2_with fail
 have hR2 := HR2.out
 have hM2 := HM2.out
 have hT := ents_rd (hR2.ext (Ext.drew U2)) (hM2.ext (Ext.drew U2)) hne hSb
 have HT := Lib.hid hT
 have hq1 : U2.drew.cell? ⟨w.heap.size, 0, none⟩ = some (.pointer (some ⟨g, 0, none⟩)) := cell_of_row U2 _ 0 _ _ _ Hr1.out
 have hq2 : U2.drew.cell? ⟨w.heap.size + 1, 0, none⟩ = some (.pointer (some ⟨bm, 0, none⟩)) := cell_of_row U2 _ 0 _ _ _ Hr2.out
 clear hT
 refine rr_start (extW) [2, 3] (by kernel_rfl) ?_
 refine qS 0 rfl ⟨_, fun w' hx => by have hcx := hx.load hq1; (go_simp <;> with_reducible rfl), ?_⟩
 simp only [sP]
 refine qS 1 rfl ⟨_, fun w' hx => by have hcx := hx.load hq2; (go_simp <;> with_reducible rfl), ?_⟩
 simp only [sP]
 refine qAD 2 rfl ?_
 simp only [sP]
 refine qAD 3 rfl ?_
 simp only [sP]
 refine rr_callW 4 (HT.out) rfl (by kernel_rfl) (by kernel_rfl) (by rfl) (by go_simp) ?_
 rintro e3 U3 ⟨rfl, ht3, hR3, M3, hx3, hM3⟩
 refine ⟨_, rfl, ?_⟩
 simp only [sP]
 refine rr_done (by kernel_rfl) ?_
 have HQ3 := Lib.hid ((HQ2.out.tr (Trn.ext (Ext.drew U2))).tr ht3)
 rw [Hx2.out] at hx3
 dsimp only at hx3
 have Hx3 := Lib.hid hx3
 have Hr1 := Lib.hid (ht3.row (show U2.drew.heap[w.heap.size]? = _ from Hr1.out) n1)
 have Hr2 := Lib.hid (ht3.row (show U2.drew.heap[w.heap.size + 1]? = _ from Hr2.out) n2)
 clear ht3 hx3 HT hq1 hq2 hR2 hM2
 have HR3 := Lib.hid hR3
 have HM3 := Lib.hid hM3
 clear hR3 hM3
 go_wp2_with fail
 have hR3 := HR3.out
 have hM3 := HM3.out
 go_ret
 rw [HR.out, Wm.read_20 _ _ hkx]
 refine ⟨rfl, (Trn.ext HX.out).tr HQ3.out, ?_, M3, ?_, hM3⟩
 ·
  (try dsimp only); exact hR3
 ·
  rw [Hx3.out]; try rfl
set_option maxRecDepth 100000 in
set_option maxHeartbeats 2000000 in
theorem fields_read_21 (S : Nat → Prop) (g bm : Nat) (d : List UInt8) (M : WmV) (w : World) (h : Rdr w S g d false) (hM : MsgR w S bm M) (hne : bm ≠ g) (hSb : S bm) (hk : M.kind = 21) :
  Calls Tryz.prog 49 #[.pointer (some ⟨g, 0, none⟩), .pointer (some ⟨bm, 0, none⟩)] w (RF true S g bm (M.x.read d) w) := by
 have hgl : g < w.heap.size := by obtain ⟨A, c, h⟩ := h; exact lt_of_heap h.row
 have hbl := lt_of_heap hM.row
 have hx0 : Ext w ((w.alloc (.cells #[.pointer (some ⟨g, 0, none⟩)] 85)).alloc (.cells #[.pointer (some ⟨bm, 0, none⟩)] 91)) := Ext.tr (Ext.alloc _ _) (Ext.alloc _ _)
 have hR0 := h.ext hx0
 have hM0 := hM.ext hx0
 have hkind : ((w.alloc (.cells #[.pointer (some ⟨g, 0, none⟩)] 85)).alloc (.cells #[.pointer (some ⟨bm, 0, none⟩)] 91)).cell? ⟨bm, 0, none⟩ = some (.int .i64 21) := by rw [cell_of_row _ _ _ _ _ _ hM0.row, WmV.at0, hk]
 have r1 := (Below.heap_alloc (w.alloc (.cells #[.pointer (some ⟨g, 0, none⟩)] 85)) (.cells #[.pointer (some ⟨bm, 0, none⟩)] 91) w.heap.size (by simp)).trans (heap_alloc_new w (.cells #[.pointer (some ⟨g, 0, none⟩)] 85))
 have r2 := heap_alloc_new (w.alloc (.cells #[.pointer (some ⟨g, 0, none⟩)] 85)) (.cells #[.pointer (some ⟨bm, 0, none⟩)] 91)
 rw [World.size_alloc] at r2
 have n1 : ¬ Two g bm w.heap.size := fun e => e.elim (fun e => by omega) (fun e => by omega)
 have n2 : ¬ Two g bm (w.heap.size + 1) := fun e => e.elim (fun e => by omega) (fun e => by omega)
 have hkx : M.x.kind = 21 := hk
 have HX0 := Lib.hid hx0
 obtain ⟨r, hr⟩ : ∃ r, r = M.x.read d := ⟨_, rfl⟩
 rw [← hr]
 have HR := Lib.hid hr
 clear h hM hr
 go_enter Tryz.func49, Tryz.ntmps49
 go_wp2_with fail
 obtain ⟨U0, hU0⟩ : ∃ U0, U0 = ((w.alloc (.cells #[.pointer (some ⟨g, 0, none⟩)] 85)).alloc (.cells #[.pointer (some ⟨bm, 0, none⟩)] 91)) := ⟨_, rfl⟩
 rw [← hU0] at r1 r2 hR0 hM0 hx0 ⊢
 clear hU0
 have HQ0 := Lib.hid (Trn.refl (Two g bm) U0)
 have HX := Lib.hid hx0
 have Hr1 := Lib.hid r1
 have Hr2 := Lib.hid r2
 clear hkind
 have hT := n_rm (hR0.ext (Ext.drew U0)) (hM0.ext (Ext.drew U0)) hne hSb
 have HT := Lib.hid hT
 have hq1 : U0.drew.cell? ⟨w.heap.size, 0, none⟩ = some (.pointer (some ⟨g, 0, none⟩)) := cell_of_row U0 _ 0 _ _ _ Hr1.out
 have hq2 : U0.drew.cell? ⟨w.heap.size + 1, 0, none⟩ = some (.pointer (some ⟨bm, 0, none⟩)) := cell_of_row U0 _ 0 _ _ _ Hr2.out
 clear hT
 refine rr_start (extW) [2, 3] (by kernel_rfl) ?_
 refine qS 0 rfl ⟨_, fun w' hx => by have hcx := hx.load hq1; (go_simp <;> with_reducible rfl), ?_⟩
 simp only [sP]
 refine qS 1 rfl ⟨_, fun w' hx => by have hcx := hx.load hq2; (go_simp <;> with_reducible rfl), ?_⟩
 simp only [sP]
 refine qAD 2 rfl ?_
 simp only [sP]
 refine qAD 3 rfl ?_
 simp only [sP]
 refine rr_callW 4 (HT.out) rfl (by kernel_rfl) (by kernel_rfl) (by rfl) (by go_simp) ?_
 rintro e1 U1 ⟨rfl, ht1, hR1, M1, hx1, hM1⟩
 refine ⟨_, rfl, ?_⟩
 simp only [sP]
 refine rr_done (by kernel_rfl) ?_
 have HQ1 := Lib.hid ((HQ0.out.tr (Trn.ext (Ext.drew U0))).tr ht1)
 have Hx1 := Lib.hid hx1
 have Hr1 := Lib.hid (ht1.row (show U0.drew.heap[w.heap.size]? = _ from Hr1.out) n1)
 have Hr2 := Lib.hid (ht1.row (show U0.drew.heap[w.heap.size + 1]? = _ from Hr2.out) n2)
 clear ht1 hx1 HT hq1 hq2 hR0 hM0
 have HR1 := Lib.hid hR1
 have HM1 := Lib.hid hM1
 clear hR1 hM1
 go_wp2_with fail
 have hR1 := HR1.out
 have hM1 := HM1.out
 have hT := sigs_rd (hR1.ext (Ext.drew U1)) (hM1.ext (Ext.drew U1)) hne hSb
 have HT := Lib.hid hT
 have hq1 : U1.drew.cell? ⟨w.heap.size, 0, none⟩ = some (.pointer (some ⟨g, 0, none⟩)) := cell_of_row U1 _ 0 _ _ _ Hr1.out
 have hq2 : U1.drew.cell? ⟨w.heap.size + 1, 0, none⟩ = some (.pointer (some ⟨bm, 0, none⟩)) := cell_of_row U1 _ 0 _ _ _ Hr2.out
 clear hT
 refine rr_start (extW) [2, 3] (by kernel_rfl) ?_
 refine qS 0 rfl ⟨_, fun w' hx => by have hcx := hx.load hq1; (go_simp <;> with_reducible rfl), ?_⟩
 simp only [sP]
 refine qS 1 rfl ⟨_, fun w' hx => by have hcx := hx.load hq2; (go_simp <;> with_reducible rfl), ?_⟩
 simp only [sP]
 refine qAD 2 rfl ?_
 simp only [sP]
 refine qAD 3 rfl ?_
 simp only [sP]
 refine rr_callW 4 (HT.out) rfl (by kernel_rfl) (by kernel_rfl) (by rfl) (by go_simp) ?_
 rintro e2 U2 ⟨rfl, ht2, hR2, M2, hx2, hM2⟩
 refine ⟨_, rfl, ?_⟩
 simp only [sP]
 refine rr_done (by kernel_rfl) ?_
 have HQ2 := Lib.hid ((HQ1.out.tr (Trn.ext (Ext.drew U1))).tr ht2)
 rw [Hx1.out] at hx2
 dsimp only at hx2
 have Hx2 := Lib.hid hx2
 have Hr1 := Lib.hid (ht2.row (show U1.drew.heap[w.heap.size]? = _ from Hr1.out) n1)
 have Hr2 := Lib.hid (ht2.row (show U1.drew.heap[w.heap.size + 1]? = _ from Hr2.out) n2)
 clear ht2 hx2 HT hq1 hq2 hR1 hM1
 have HR2 := Lib.hid hR2
 have HM2 := Lib.hid hM2
 clear hR2 hM2
 go_wp2_with fail
 have hR2 := HR2.out
 have hM2 := HM2.out
 go_ret
 rw [HR.out, Wm.read_21 _ _ hkx]
 refine ⟨rfl, (Trn.ext HX.out).tr HQ2.out, ?_, M2, ?_, hM2⟩
 ·
  (try dsimp only); exact hR2
 ·
  rw [Hx2.out]; try rfl
set_option maxRecDepth 100000 in
set_option maxHeartbeats 2000000 in
theorem fields_read_22 (S : Nat → Prop) (g bm : Nat) (d : List UInt8) (M : WmV) (w : World) (h : Rdr w S g d false) (hM : MsgR w S bm M) (hne : bm ≠ g) (hSb : S bm) (hk : M.kind = 22) :
  Calls Tryz.prog 49 #[.pointer (some ⟨g, 0, none⟩), .pointer (some ⟨bm, 0, none⟩)] w (RF true S g bm (M.x.read d) w) := by
 have hgl : g < w.heap.size := by obtain ⟨A, c, h⟩ := h; exact lt_of_heap h.row
 have hbl := lt_of_heap hM.row
 have hx0 : Ext w ((w.alloc (.cells #[.pointer (some ⟨g, 0, none⟩)] 85)).alloc (.cells #[.pointer (some ⟨bm, 0, none⟩)] 91)) := Ext.tr (Ext.alloc _ _) (Ext.alloc _ _)
 have hR0 := h.ext hx0
 have hM0 := hM.ext hx0
 have hkind : ((w.alloc (.cells #[.pointer (some ⟨g, 0, none⟩)] 85)).alloc (.cells #[.pointer (some ⟨bm, 0, none⟩)] 91)).cell? ⟨bm, 0, none⟩ = some (.int .i64 22) := by rw [cell_of_row _ _ _ _ _ _ hM0.row, WmV.at0, hk]
 have r1 := (Below.heap_alloc (w.alloc (.cells #[.pointer (some ⟨g, 0, none⟩)] 85)) (.cells #[.pointer (some ⟨bm, 0, none⟩)] 91) w.heap.size (by simp)).trans (heap_alloc_new w (.cells #[.pointer (some ⟨g, 0, none⟩)] 85))
 have r2 := heap_alloc_new (w.alloc (.cells #[.pointer (some ⟨g, 0, none⟩)] 85)) (.cells #[.pointer (some ⟨bm, 0, none⟩)] 91)
 rw [World.size_alloc] at r2
 have n1 : ¬ Two g bm w.heap.size := fun e => e.elim (fun e => by omega) (fun e => by omega)
 have n2 : ¬ Two g bm (w.heap.size + 1) := fun e => e.elim (fun e => by omega) (fun e => by omega)
 have hkx : M.x.kind = 22 := hk
 have HX0 := Lib.hid hx0
 obtain ⟨r, hr⟩ : ∃ r, r = M.x.read d := ⟨_, rfl⟩
 rw [← hr]
 have HR := Lib.hid hr
 clear h hM hr
 go_enter Tryz.func49, Tryz.ntmps49
 go_wp2_with fail
 obtain ⟨U0, hU0⟩ : ∃ U0, U0 = ((w.alloc (.cells #[.pointer (some ⟨g, 0, none⟩)] 85)).alloc (.cells #[.pointer (some ⟨bm, 0, none⟩)] 91)) := ⟨_, rfl⟩
 rw [← hU0] at r1 r2 hR0 hM0 hx0 ⊢
 clear hU0
 have HQ0 := Lib.hid (Trn.refl (Two g bm) U0)
 have HX := Lib.hid hx0
 have Hr1 := Lib.hid r1
 have Hr2 := Lib.hid r2
 clear hkind
 have hT := n_rm (hR0.ext (Ext.drew U0)) (hM0.ext (Ext.drew U0)) hne hSb
 have HT := Lib.hid hT
 have hq1 : U0.drew.cell? ⟨w.heap.size, 0, none⟩ = some (.pointer (some ⟨g, 0, none⟩)) := cell_of_row U0 _ 0 _ _ _ Hr1.out
 have hq2 : U0.drew.cell? ⟨w.heap.size + 1, 0, none⟩ = some (.pointer (some ⟨bm, 0, none⟩)) := cell_of_row U0 _ 0 _ _ _ Hr2.out
 clear hT
 refine rr_start (extW) [2, 3] (by kernel_rfl) ?_
 refine qS 0 rfl ⟨_, fun w' hx => by have hcx := hx.load hq1; (go_simp <;> with_reducible rfl), ?_⟩
 simp only [sP]
 refine qS 1 rfl ⟨_, fun w' hx => by have hcx := hx.load hq2; (go_simp <;> with_reducible rfl), ?_⟩
 simp only [sP]
 refine qAD 2 rfl ?_
 simp only [sP]
 refine qAD 3 rfl ?_
 simp only [sP]
 refine rr_callW 4 (HT.out) rfl (by kernel_rfl) (by kernel_rfl) (by rfl) (by go_simp) ?_
 rintro e1 U1 ⟨rfl, ht1, hR1, M1, hx1, hM1⟩
 refine ⟨_, rfl, ?_⟩
 simp only [sP]
 refine rr_done (by kernel_rfl) ?_
 have HQ1 := Lib.hid ((HQ0.out.tr (Trn.ext (Ext.drew U0))).tr ht1)
 have Hx1 := Lib.hid hx1
 have Hr1 := Lib.hid (ht1.row (show U0.drew.heap[w.heap.size]? = _ from Hr1.out) n1)
 have Hr2 := Lib.hid (ht1.row (show U0.drew.heap[w.heap.size + 1]? = _ from Hr2.out) n2)
 clear ht1 hx1 HT hq1 hq2 hR0 hM0
 have HR1 := Lib.hid hR1
 have HM1 := Lib.hid hM1
 clear hR1 hM1
 go_wp2_with fail
 have hR1 := HR1.out
 have hM1 := HM1.out
 have hT := data_rd (hR1.ext (Ext.drew U1)) (hM1.ext (Ext.drew U1)) hne hSb
 have HT := Lib.hid hT
 have hq1 : U1.drew.cell? ⟨w.heap.size, 0, none⟩ = some (.pointer (some ⟨g, 0, none⟩)) := cell_of_row U1 _ 0 _ _ _ Hr1.out
 have hq2 : U1.drew.cell? ⟨w.heap.size + 1, 0, none⟩ = some (.pointer (some ⟨bm, 0, none⟩)) := cell_of_row U1 _ 0 _ _ _ Hr2.out
 clear hT
 refine rr_start (extW) [2, 3] (by kernel_rfl) ?_
 refine qS 0 rfl ⟨_, fun w' hx => by have hcx := hx.load hq1; (go_simp <;> with_reducible rfl), ?_⟩
 simp only [sP]
 refine qS 1 rfl ⟨_, fun w' hx => by have hcx := hx.load hq2; (go_simp <;> with_reducible rfl), ?_⟩
 simp only [sP]
 refine qAD 2 rfl ?_
 simp only [sP]
 refine qAD 3 rfl ?_
 simp only [sP]
 refine rr_callW 4 (HT.out) rfl (by kernel_rfl) (by kernel_rfl) (by rfl) (by go_simp) ?_
 rintro e2 U2 ⟨rfl, ht2, hR2, M2, hx2, hM2⟩
 refine ⟨_, rfl, ?_⟩
 simp only [sP]
 refine rr_done (by kernel_rfl) ?_
 have HQ2 := Lib.hid ((HQ1.out.tr (Trn.ext (Ext.drew U1))).tr ht2)
 rw [Hx1.out] at hx2
 dsimp only at hx2
 have Hx2 := Lib.hid hx2
 have Hr1 := Lib.hid (ht2.row (show U1.drew.heap[w.heap.size]? = _ from Hr1.out) n1)
 have Hr2 := Lib.hid (ht2.row (show U1.drew.heap[w.heap.size + 1]? = _ from Hr2.out) n2)
 clear ht2 hx2 HT hq1 hq2 hR1 hM1
 have HR2 := Lib.hid hR2
 have HM2 := Lib.hid hM2
 clear hR2 hM2
 go_wp2_with fail
 have hR2 := HR2.out
 have hM2 := HM2.out
 go_ret
 rw [HR.out, Wm.read_22 _ _ hkx]
 refine ⟨rfl, (Trn.ext HX.out).tr HQ2.out, ?_, M2, ?_, hM2⟩
 ·
  (try dsimp only); exact hR2
 ·
  rw [Hx2.out]; try rfl
theorem Wm.read_none (m : Wm) (d : List UInt8) (h : Wm.known m.kind = false) : m.read d = (m, d, false) := by
 simp only [Wm.known, Bool.or_eq_false_iff, decide_eq_false_iff_not] at h
 obtain ⟨⟨⟨⟨⟨⟨⟨⟨⟨⟨⟨k1, k2⟩, k3⟩, k4⟩, k5⟩, k6⟩, k17⟩, k18⟩, k19⟩, k20⟩, k21⟩, k22⟩ := h
 unfold Wm.read
 rw [if_neg (fun e => e.elim k3 k4), if_neg (fun e => e.elim k5 k6), if_neg k17, if_neg k18, if_neg k19, if_neg k20, if_neg k21, if_neg k22]
set_option maxRecDepth 100000 in
set_option maxHeartbeats 2000000 in
theorem fields_read_none (S : Nat → Prop) (g bm : Nat) (d : List UInt8) (M : WmV) (w : World) (h : Rdr w S g d false) (hM : MsgR w S bm M) (hk : Wm.known M.kind = false) :
  Calls Tryz.prog 49 #[.pointer (some ⟨g, 0, none⟩), .pointer (some ⟨bm, 0, none⟩)] w (RF false S g bm (M.x.read d) w) := by
 rw [Wm.read_none M.x d hk]
 have hx0 : Ext w ((w.alloc (.cells #[.pointer (some ⟨g, 0, none⟩)] 85)).alloc (.cells #[.pointer (some ⟨bm, 0, none⟩)] 91)) := Ext.tr (Ext.alloc _ _) (Ext.alloc _ _)
 obtain ⟨kd, hkd⟩ : ∃ kd, kd = M.kind := ⟨_, rfl⟩
 have hkind : ((w.alloc (.cells #[.pointer (some ⟨g, 0, none⟩)] 85)).alloc (.cells #[.pointer (some ⟨bm, 0, none⟩)] 91)).cell? ⟨bm, 0, none⟩ = some (.int .i64 kd) := by rw [cell_of_row _ _ _ _ _ _ (hM.ext hx0).row, WmV.at0, hkd]
 rw [← hkd] at hk
 simp only [Wm.known, Bool.or_eq_false_iff, decide_eq_false_iff_not] at hk
 obtain ⟨⟨⟨⟨⟨⟨⟨⟨⟨⟨⟨k1, k2⟩, k3⟩, k4⟩, k5⟩, k6⟩, k17⟩, k18⟩, k19⟩, k20⟩, k21⟩, k22⟩ := hk
 have hL := Lib.hid (h.ext hx0)
 have hK := Lib.hid (hM.ext hx0)
 have hX := Lib.hid hx0
 clear hkd h hM hx0
 go_enter Tryz.func49, Tryz.ntmps49
 go_wp2_with fail
 go_ret
 exact ⟨rfl, Trn.ext hX.out, hL.out, M, rfl, hK.out.done⟩
theorem wfields_read (S : Nat → Prop) (g bm : Nat) (d : List UInt8) (M : WmV) (w : World) (h : Rdr w S g d false) (hM : MsgR w S bm M) (hne : bm ≠ g) (hSb : S bm) :
  Calls Tryz.prog 49 #[.pointer (some ⟨g, 0, none⟩), .pointer (some ⟨bm, 0, none⟩)] w (RF (Wm.known M.kind) S g bm (M.x.read d) w) := by
 cases hk : Wm.known M.kind with
 | false => exact fields_read_none S g bm d M w h hM hk
 | true =>
  simp only [Wm.known, Bool.or_eq_true, decide_eq_true_eq] at hk
  rcases hk with ((((((((((k | k) | k) | k) | k) | k) | k) | k) | k) | k) | k) | k
  ·
   exact fields_read_1 S g bm d M w h hM hne hSb k
  ·
   exact fields_read_2 S g bm d M w h hM hne hSb k
  ·
   exact fields_read_3 S g bm d M w h hM hne hSb k
  ·
   exact fields_read_4 S g bm d M w h hM hne hSb k
  ·
   exact fields_read_5 S g bm d M w h hM hne hSb k
  ·
   exact fields_read_6 S g bm d M w h hM hne hSb k
  ·
   exact fields_read_17 S g bm d M w h hM hne hSb k
  ·
   exact fields_read_18 S g bm d M w h hM hne hSb k
  ·
   exact fields_read_19 S g bm d M w h hM hne hSb k
  ·
   exact fields_read_20 S g bm d M w h hM hne hSb k
  ·
   exact fields_read_21 S g bm d M w h hM hne hSb k
  ·
   exact fields_read_22 S g bm d M w h hM hne hSb k
end Go.Proofs.YtjholekgdnhpkaaGreatDoor
