/- Texts of the proof, laid together: WrP. -/
import Derived.Deep.Cut
import Derived.Test.YtjholekgdnhpkaaGreatDoorZ14
import Derived.Test.YtjholekgdnhpkaaGreatDoorZ6
set_option linter.unusedVariables false
set_option linter.unusedSimpArgs false
set_option linter.unusedSectionVars false
namespace Go.Proofs.YtjholekgdnhpkaaGreatDoor
open Go.RowKit
attribute [local go_sem] Oper.semAt_some
theorem Ent.items_le : ∀ (n : Nat) (bs : List UInt8), (Ent.items n bs).length ≤ n
 | 0, _ => by simp [Ent.items]
 | n + 1, bs => by
  unfold Ent.items
  have := Ent.items_le n
  split
  ·
   simp
  ·
   split
   ·
    have := this (bs.drop (Ent.get bs).2.1)
    rw [List.length_cons]; omega
   ·
    simp
theorem Ent.getAll_le {d : List UInt8} {L : List Ent} (h : Ent.getAll d = some L) : L.length ≤ d.length := by
 have := Ent.run_len _ _ _ h
 have := Ent.items_le d.length d
 simp at *; omega
def Wm.isCnt (n : Int) : Bool := decide (0 ≤ n) && decide (n ≤ 2147483647)
def Wm.isSz (n : Int) : Bool := decide (0 ≤ n) && decide (n ≤ 131072)
def Ws.bad (s : Ws) : Bool := (!decide (s.p.lo.length ≤ 24) || !decide (s.p.hi.length ≤ 24)) || !Wm.isCnt s.p.count
def Ent.sent (l : List Ent) : Bool := decide (Ent.getAll (Ent.putAll l) = some l)
def Wm.right (m : Wm) : Bool := (((((((Wm.isSz m.n && Wm.isSz m.size) && Wm.isCnt m.count) && ((decide (m.subs.length ≤ 60) && decide (m.sigs.length ≤ 60)) && decide (m.data.length ≤ 64))) && decide (m.lo.length ≤ 24)) && decide (m.hi.length ≤ 24)) && !m.subs.any Ws.bad) && Ent.sent m.ents)
theorem isKey_any (A : Option Addr) (n c : Nat) (w : World) : Calls Tryz.prog 42 #[.slice A n c] w fun e w' => e = .returned (.bool (decide (n ≤ 24))) ∧ w = w' := by
 go_enter Tryz.func42, Tryz.ntmps42
 go_wp2_with fail
 go_ret
 have hd : decide ((n : Int) ≤ 24) = decide (n ≤ 24) := by rw [Bool.eq_iff_iff, decide_eq_true_eq, decide_eq_true_eq]; omega
 rw [← hd]
 exact ⟨rfl, rfl⟩
theorem isCount_any (n : Int) (w : World) : Calls Tryz.prog 43 #[.int .i64 n] w fun e w' => e = .returned (.bool (Wm.isCnt n)) ∧ w = w' := by
 unfold Wm.isCnt
 by_cases h : 0 ≤ n
 ·
  by_cases h2 : n ≤ 2147483647
  ·
   go_enter Tryz.func43, Tryz.ntmps43
   go_wp2_with fail
   go_ret
   exact ⟨by simp [h2]; omega, rfl⟩
  ·
   go_enter Tryz.func43, Tryz.ntmps43
   go_wp2_with fail
   go_ret
   exact ⟨by simp [h2], rfl⟩
 ·
  go_enter Tryz.func43, Tryz.ntmps43
  go_wp2_with fail
  go_ret
  exact ⟨by simp; omega, rfl⟩
theorem isSize_any (n : Int) (w : World) : Calls Tryz.prog 44 #[.int .i64 n] w fun e w' => e = .returned (.bool (Wm.isSz n)) ∧ w = w' := by
 unfold Wm.isSz
 by_cases h : 0 ≤ n
 ·
  by_cases h2 : n ≤ 131072
  ·
   go_enter Tryz.func44, Tryz.ntmps44
   go_wp2_with fail
   go_ret
   exact ⟨by simp [h2]; omega, rfl⟩
  ·
   go_enter Tryz.func44, Tryz.ntmps44
   go_wp2_with fail
   go_ret
   exact ⟨by simp [h2], rfl⟩
 ·
  go_enter Tryz.func44, Tryz.ntmps44
  go_wp2_with fail
  go_ret
  exact ⟨by simp; omega, rfl⟩
set_option maxRecDepth 100000 in
set_option maxHeartbeats 1000000 in
theorem badSub_any (s : WsV) (w : World) (_hs : s.In w) : Calls Tryz.prog 41 #[.agg s.cells] w fun e w' => e = .returned (.bool s.x.bad) ∧ Ext w w' := by
 have hE : Ext w (w.alloc (.cells s.cells 38)) := Ext.alloc _ _
 have g0 := heap_alloc_new w (.cells s.cells 38)
 have a0 : (w.alloc (.cells s.cells 38)).cell? ⟨w.heap.size, 0, none⟩ = some (.slice s.p.la s.p.x.lo.length s.p.lc) := cell_of_row _ _ 0 _ _ _ g0
 have a1 : (w.alloc (.cells s.cells 38)).cell? ⟨w.heap.size, 1, none⟩ = some (.slice s.p.ha s.p.x.hi.length s.p.hc) := cell_of_row _ _ 1 _ _ _ g0
 have a2 : (w.alloc (.cells s.cells 38)).cell? ⟨w.heap.size, 2, none⟩ = some (.int .i64 s.p.x.count) := cell_of_row _ _ 2 _ _ _ g0
 have e1 := isKey_any s.p.la s.p.x.lo.length s.p.lc (w.alloc (.cells s.cells 38))
 have e2 := isKey_any s.p.ha s.p.x.hi.length s.p.hc (w.alloc (.cells s.cells 38))
 have e3 := isCount_any s.p.x.count (w.alloc (.cells s.cells 38))
 have hb : s.x.bad = ((!decide (s.p.x.lo.length ≤ 24) || !decide (s.p.x.hi.length ≤ 24)) || !Wm.isCnt s.p.x.count) := rfl
 rw [hb]
 clear hb
 generalize decide (s.p.x.lo.length ≤ 24) = c1 at *
 generalize decide (s.p.x.hi.length ≤ 24) = c2 at *
 generalize Wm.isCnt s.p.x.count = c3 at *
 have E1 := Lib.hid e1
 have E2 := Lib.hid e2
 have E3 := Lib.hid e3
 have HE := Lib.hid hE
 clear e1 e2 e3 hE g0
 obtain ⟨P, hP⟩ : ∃ P, P = s.cells := ⟨_, rfl⟩
 rw [← hP] at a0 a1 a2 E1 E2 E3 HE ⊢
 clear hP
 go_enter Tryz.func41, Tryz.ntmps41
 cases c1 <;> cases c2
 all_goals
  go_wp2_with (first | (go_at_call 42; first | (refine E1.out.mono ?_; rintro e w' ⟨rfl, rfl⟩) | (refine E2.out.mono ?_; rintro e w' ⟨rfl, rfl⟩)) | (go_at_call 43; refine E3.out.mono ?_; rintro e w' ⟨rfl, rfl⟩))
  go_ret
  exact ⟨by simp, HE.out⟩
set_option maxRecDepth 100000 in
set_option maxHeartbeats 1000000 in
theorem indexW_any (A : Option Addr) (l : List WsV) (c : Nat) (w : World) (hA : RdW w A l) (hl : l.length ≤ 1000000) :
  Calls Tryz.prog 62 #[.slice A l.length c, .func (.func 41) #[] #[]] w fun e w' => ∃ r : Int, e = .returned (.int .i64 r) ∧ decide (0 ≤ r) = (l.map WsV.x).any Ws.bad ∧ Ext w w' := by
 obtain ⟨R, hR⟩ : ∃ R, R = (l.map WsV.x).any Ws.bad := ⟨_, rfl⟩
 rw [← hR]
 have HR := Lib.hid hR
 clear hR
 go_enter Tryz.func62, Tryz.ntmps62
 go_wp2_with fail
 go_loopw [8] (fun i wr => ∃ k : Nat, k ≤ l.length ∧ i = .int .i64 k ∧ (∀ s ∈ l.take k, s.x.bad = false) ∧ Ext w wr) (fun i _ => l.length - (intOf i).toNat)
 case atStart => exact ⟨0, by omega, rfl, by simp, Ext.refl _⟩
 case round =>
  obtain ⟨k, hk, rfl, hyes, hbw⟩ := hrel
  have Hyes := Lib.hid hyes
  have Hbw := Lib.hid hbw
  clear hyes hbw
  by_cases h : k < l.length
  ·
   obtain ⟨ad, rfl, hcs, hin⟩ := (hA.below Hbw.out).at_ h
   have ik : (0 : Int) ≤ (k : Int) := by omega
   have ik2 : (k : Int) < (l.length : Int) := by omega
   have Hn0 : l[k].x.bad = false → Hid (∀ s ∈ l.take (k + 1), s.x.bad = false) := fun e => by
    show ∀ s ∈ l.take (k + 1), s.x.bad = false
    intro s hs
    rw [List.take_add_one, List.getElem?_eq_getElem h] at hs
    rcases List.mem_append.1 hs with hs | hs
    ·
     exact Hyes.out s hs
    ·
     simp at hs; rw [hs]; exact e
   have Hb0 : l[k].x.bad = true → Hid (R = true) := fun e => by
    show R = true
    rw [HR.out, List.any_eq_true]
    exact ⟨_, List.mem_map.2 ⟨_, List.getElem_mem h, rfl⟩, e⟩
   obtain ⟨s, hs⟩ : ∃ s, s = l[k] := ⟨_, rfl⟩
   rw [← hs] at hcs hin Hn0 Hb0
   have hi := WsV.info hin.p.sum
   have hbad := badSub_any s wr hin
   obtain ⟨r, hr⟩ : ∃ r, r = s.x.bad := ⟨_, rfl⟩
   rw [← hr] at Hn0 Hb0 hbad
   obtain ⟨P, hP⟩ : ∃ P, P = s.cells := ⟨_, rfl⟩
   rw [← hP] at hcs hi hbad
   have Hc := Lib.hid hcs
   have HB := Lib.hid hbad
   clear hs hr hP hcs hbad hin
   cases r with
   | false =>
    have Hn1 := Hn0 rfl
    go_wp2_with (first | (refine wpList_load_cells (by rfl) 38 (.tmp 14) rfl _ rfl P _ Hc.out Tryz.underlying38 rfl hi ?_) | (go_at_call 41; refine HB.out.mono ?_; rintro e3 w3 ⟨rfl, hx3⟩; have HX3 := Lib.hid hx3; clear hx3))
    go_roundw
    case rel => exact ⟨k + 1, by omega, by go_num, Hn1.out, Hbw.out.tr HX3.out⟩
    case measure => simp [intOf]; omega
   | true =>
    have Hb1 := Hb0 rfl
    go_wp2_with (first | (refine wpList_load_cells (by rfl) 38 (.tmp 14) rfl _ rfl P _ Hc.out Tryz.underlying38 rfl hi ?_) | (go_at_call 41; refine HB.out.mono ?_; rintro e3 w3 ⟨rfl, hx3⟩; have HX3 := Lib.hid hx3; clear hx3))
    go_ret
    exact ⟨_, rfl, by rw [Hb1.out]; exact decide_eq_true ik, Hbw.out.tr HX3.out⟩
  ·
   obtain rfl : k = l.length := by omega
   have hlt : ¬ (l.length : Int) < (l.length : Int) := by omega
   go_wp2_with fail
   go_ret
   refine ⟨_, rfl, ?_, Hbw.out⟩
   have h1 := Hyes.out
   rw [List.take_length] at h1
   rw [HR.out]
   show false = _
   symm
   rw [List.any_eq_false]
   intro x hx
   obtain ⟨s, hs, rfl⟩ := List.mem_map.1 hx
   simp [h1 s hs]
theorem containsW_any (A : Option Addr) (l : List WsV) (c : Nat) (w : World) (hA : RdW w A l) (hl : l.length ≤ 1000000) :
  Calls Tryz.prog 45 #[.slice A l.length c, .func (.func 41) #[] #[]] w fun e w' => e = .returned (.bool ((l.map WsV.x).any Ws.bad)) ∧ Ext w w' := by
 have HI := Lib.hid (indexW_any A l c w hA hl)
 clear hA hl
 generalize (l.map WsV.x).any Ws.bad = R at HI ⊢
 go_enter Tryz.func45, Tryz.ntmps45
 go_wp2_with (go_at_call 62; refine HI.out.mono ?_; rintro e3 w3 ⟨r, rfl, hr, hx3⟩; have HX3 := Lib.hid hx3; have HRR := Lib.hid hr; clear hx3 hr)
 go_ret
 exact ⟨by rw [← HRR.out]; rfl, HX3.out⟩
set_option maxRecDepth 100000 in
set_option maxHeartbeats 1000000 in
theorem areEntries_any (A : Option Addr) (l : List EnV) (c : Nat) (w : World) (hA : RdE w A l) (hl : Ent.total (l.map EnV.x) + 20 * l.length ≤ 900000) :
  Calls Tryz.prog 46 #[.slice A l.length c] w fun e w' => e = .returned (.bool (Ent.sent (l.map EnV.x))) ∧ Ext w w' := by
 have hll : l.length ≤ 1000000 := by omega
 have HP := Lib.hid (eputall_any A l c w hA (by omega) (by omega))
 have hpl : (Ent.putAll (l.map EnV.x)).length ≤ 1000000 := by have := Ent.putAll_len (l.map EnV.x); rw [List.length_map] at this; omega
 have HA := Lib.hid hA
 unfold Ent.sent
 generalize Ent.putAll (l.map EnV.x) = d at HP hpl ⊢
 clear hA
 obtain ⟨R, hR⟩ : ∃ R, R = decide (Ent.getAll d = some (l.map EnV.x)) := ⟨_, rfl⟩
 rw [← hR]
 have HR := Lib.hid hR
 clear hR
 go_enter Tryz.func46, Tryz.ntmps46
 go_wp2_with (go_at_call 64; refine HP.out.mono ?_; rintro e1 w1 ⟨A1, c1, rfl, ho1, hx1⟩; refine Hid.out ?_)
 have HG := Lib.hid (getall_any A1 d c1 w1 (Own.rd' ho1) hpl ho1.nc)
 have HX1 := Lib.hid (show Ext w w1 from hx1)
 clear ho1 hx1 HP
 refine Lib.hid ?_
 go_wp2_with (go_at_call 63; refine HG.out.mono ?_; (rintro e2 w2 (⟨L, A2, c2, hg, rfl, hr2, hlc, hx2⟩ | ⟨hg, rfl, hx2⟩) <;> refine Hid.out ?_))
 ·
  have hL1 : L.length ≤ 1000000 := by
   have := Ent.getAll_le hg
   rw [List.length_map] at this; omega
  have hq := equalE_any A2 A L l c2 c w2 hr2 ((HA.out.below HX1.out).below hx2) hL1 hll
  have hR2 : R = decide (L.map EnV.x = l.map EnV.x) := by rw [HR.out, hg]; simp
  rw [← hR2] at hq
  have HQ := Lib.hid hq
  have HX2 := Lib.hid (HX1.out.tr hx2)
  clear hq hR2 hx2 hr2 hg HG
  refine Lib.hid ?_
  go_wp2_with (go_at_call 32; refine HQ.out.mono ?_; rintro e3 w3 ⟨rfl, hx3⟩; have HX3 := Lib.hid hx3; clear hx3)
  go_ret
  exact ⟨by simp, HX2.out.tr HX3.out⟩
 ·
  have hR2 : R = false := by rw [HR.out, hg]; simp
  have HR2 := Lib.hid hR2
  have HX2 := Lib.hid (HX1.out.tr hx2)
  clear hR2 hx2 hg HG
  refine Lib.hid ?_
  go_wp2_with fail
  go_ret
  exact ⟨by rw [HR2.out]; rfl, HX2.out⟩
set_option maxRecDepth 100000 in
set_option maxHeartbeats 4000000 in
theorem areRight_any (M : WmV) (w : World) (hM : M.In w) (f1 : M.subs.length ≤ 1000000) (f2 : M.data.length ≤ 64 → M.lo.length ≤ 24 → M.hi.length ≤ 24 → Ent.total (M.ents.map EnV.x) + 20 * M.ents.length ≤ 900000) :
  Calls Tryz.prog 22 #[.agg M.cells] w fun e w' => e = .returned (.bool M.x.right) ∧ Ext w w' := by
 have hE : Ext w (w.alloc (.cells M.cells 31)) := Ext.alloc _ _
 have g0 := heap_alloc_new w (.cells M.cells 31)
 have hright : M.x.right = (((((((Wm.isSz M.n && Wm.isSz M.size) && Wm.isCnt M.count) && ((decide (M.subs.length ≤ 60) && decide (M.sigs.length ≤ 60)) && decide (M.data.length ≤ 64))) && decide (M.lo.length ≤ 24)) && decide (M.hi.length ≤ 24)) && !(M.subs.map WsV.x).any Ws.bad) && Ent.sent (M.ents.map EnV.x)) := by
  show (((((((Wm.isSz M.n && Wm.isSz M.size) && Wm.isCnt M.count) && ((decide ((M.subs.map WsV.x).length ≤ 60) && decide (M.sigs.length ≤ 60)) && decide (M.data.length ≤ 64))) && decide (M.lo.length ≤ 24)) && decide (M.hi.length ≤ 24)) && !(M.subs.map WsV.x).any Ws.bad) && Ent.sent (M.ents.map EnV.x)) = _
  rw [List.length_map]
 rw [hright]
 clear hright
 have a3 : (w.alloc (.cells M.cells 31)).cell? ⟨w.heap.size, 3, none⟩ = _ := (cell_of_row _ _ 3 _ _ _ g0).trans (WmV.at3 M)
 have a4 : (w.alloc (.cells M.cells 31)).cell? ⟨w.heap.size, 4, none⟩ = _ := (cell_of_row _ _ 4 _ _ _ g0).trans (WmV.at4 M)
 have a5 : (w.alloc (.cells M.cells 31)).cell? ⟨w.heap.size, 5, none⟩ = _ := (cell_of_row _ _ 5 _ _ _ g0).trans (WmV.at5 M)
 have a7 : (w.alloc (.cells M.cells 31)).cell? ⟨w.heap.size, 7, none⟩ = _ := (cell_of_row _ _ 7 _ _ _ g0).trans (WmV.at7 M)
 have a40 : (w.alloc (.cells M.cells 31)).cell? ⟨w.heap.size, 40, none⟩ = _ := (cell_of_row _ _ 40 _ _ _ g0).trans (WmV.at40 hM.ok)
 have a73 : (w.alloc (.cells M.cells 31)).cell? ⟨w.heap.size, 73, none⟩ = _ := (cell_of_row _ _ 73 _ _ _ g0).trans (WmV.at73 hM.ok)
 have a75 : (w.alloc (.cells M.cells 31)).cell? ⟨w.heap.size, 75, none⟩ = _ := (cell_of_row _ _ 75 _ _ _ g0).trans (WmV.at75 hM.ok)
 have a76 : (w.alloc (.cells M.cells 31)).cell? ⟨w.heap.size, 76, none⟩ = _ := (cell_of_row _ _ 76 _ _ _ g0).trans (WmV.at76 hM.ok)
 have a77 : (w.alloc (.cells M.cells 31)).cell? ⟨w.heap.size, 77, none⟩ = _ := (cell_of_row _ _ 77 _ _ _ g0).trans (WmV.at77 hM.ok)
 have e1 := isSize_any M.n (w.alloc (.cells M.cells 31))
 have e2 := isSize_any M.size (w.alloc (.cells M.cells 31))
 have e3 := isCount_any M.count (w.alloc (.cells M.cells 31))
 have e4 := isKey_any M.la M.lo.length M.lc (w.alloc (.cells M.cells 31))
 have e5 := isKey_any M.ha M.hi.length M.hc (w.alloc (.cells M.cells 31))
 have e6 := containsW_any M.sa M.subs M.sc (w.alloc (.cells M.cells 31)) (hM.sr.below hE) f1
 have e7 := fun W (x : Ext w W) (h : ((decide (M.subs.length ≤ 60) && decide (M.sigs.length ≤ 60)) && decide (M.data.length ≤ 64)) = true) (h7 : decide (M.lo.length ≤ 24) = true) (h8 : decide (M.hi.length ≤ 24) = true) => areEntries_any M.ea M.ents M.ec W (hM.er.below x) (f2 (by rw [Bool.and_eq_true] at h; exact of_decide_eq_true h.2) (of_decide_eq_true h7) (of_decide_eq_true h8))
 have u1 : decide ((M.subs.length : Int) ≤ 60) = decide (M.subs.length ≤ 60) := by rw [Bool.eq_iff_iff, decide_eq_true_eq, decide_eq_true_eq]; omega
 have u2 : decide ((M.sigs.length : Int) ≤ 60) = decide (M.sigs.length ≤ 60) := by rw [Bool.eq_iff_iff, decide_eq_true_eq, decide_eq_true_eq]; omega
 have u3 : decide ((M.data.length : Int) ≤ 64) = decide (M.data.length ≤ 64) := by rw [Bool.eq_iff_iff, decide_eq_true_eq, decide_eq_true_eq]; omega
 generalize Wm.isSz M.n = c1 at *
 generalize Wm.isSz M.size = c2 at *
 generalize Wm.isCnt M.count = c3 at *
 generalize decide (M.subs.length ≤ 60) = c4 at *
 generalize decide (M.sigs.length ≤ 60) = c5 at *
 generalize decide (M.data.length ≤ 64) = c6 at *
 generalize decide (M.lo.length ≤ 24) = c7 at *
 generalize decide (M.hi.length ≤ 24) = c8 at *
 generalize (M.subs.map WsV.x).any Ws.bad = c9 at *
 generalize Ent.sent (M.ents.map EnV.x) = c10 at *
 obtain ⟨B4, hB4⟩ : ∃ b, b = ((c1 && c2) && c3) := ⟨_, rfl⟩
 obtain ⟨B5, hB5⟩ : ∃ b, b = ((c4 && c5) && c6) := ⟨_, rfl⟩
 rw [← hB4, ← hB5]
 rw [← hB5] at e7
 have HB4 := Lib.hid hB4
 have HB5 := Lib.hid hB5
 have E1 := Lib.hid e1
 have E2 := Lib.hid e2
 have E3 := Lib.hid e3
 have E4 := Lib.hid e4
 have E5 := Lib.hid e5
 have E6 := Lib.hid e6
 have E7 := Lib.hid e7
 have HE := Lib.hid hE
 clear e1 e2 e3 e4 e5 e6 e7 hE g0 hM f1 f2 hB4 hB5
 obtain ⟨W0, hW0⟩ : ∃ W0, W0 = w.alloc (.cells M.cells 31) := ⟨_, rfl⟩
 obtain ⟨P, hP⟩ : ∃ P, P = M.cells := ⟨_, rfl⟩
 rw [← hW0] at E1 E2 E3 E4 E5 E6 HE a3 a4 a5 a7 a40 a73 a75 a76 a77
 rw [← hP] at hW0 ⊢
 have HW0 := Lib.hid hW0
 clear hP hW0
 go_enter Tryz.func22, Tryz.ntmps22
 go_upto_region 2 with fail
 rw [← HW0.out]
 go_cut [4] from 6 (fun s4 w' => s4 = .bool B4 ∧ w' = W0)
 case first =>
  cases c1 with
  | false =>
   go_wp2_with (first | (go_at_call 44; first | (refine E1.out.mono ?_; rintro e w' ⟨rfl, rfl⟩) | (refine E2.out.mono ?_; rintro e w' ⟨rfl, rfl⟩)) | (go_at_call 43; refine E3.out.mono ?_; rintro e w' ⟨rfl, rfl⟩))
   all_goals (go_meet; exact ⟨by rw [HB4.out]; first | rfl | (simp; done), rfl⟩)
  | true =>
   cases c2 with
   | false =>
    go_wp2_with (first | (go_at_call 44; first | (refine E1.out.mono ?_; rintro e w' ⟨rfl, rfl⟩) | (refine E2.out.mono ?_; rintro e w' ⟨rfl, rfl⟩)) | (go_at_call 43; refine E3.out.mono ?_; rintro e w' ⟨rfl, rfl⟩))
    all_goals (go_meet; exact ⟨by rw [HB4.out]; first | rfl | (simp; done), rfl⟩)
   | true =>
    go_wp2_with (first | (go_at_call 44; first | (refine E1.out.mono ?_; rintro e w' ⟨rfl, rfl⟩) | (refine E2.out.mono ?_; rintro e w' ⟨rfl, rfl⟩)) | (go_at_call 43; refine E3.out.mono ?_; rintro e w' ⟨rfl, rfl⟩))
    all_goals (go_meet; exact ⟨by rw [HB4.out]; first | rfl | (simp; done), rfl⟩)
 case rest =>
 obtain ⟨rfl, hw⟩ := hcut
 rw [hw]
 clear hw
 go_upto_region 3 with fail
 go_cut [4, 5] from 6 (fun s4 s5 w' => s4 = .bool B4 ∧ s5 = .bool B5 ∧ w' = W0)
 case first =>
  cases c4 with
  | false =>
   go_wp2_with fail
   all_goals (go_meet; exact ⟨rfl, by rw [HB5.out]; first | rfl | (simp; done), rfl⟩)
  | true =>
   cases c5 with
   | false =>
    go_wp2_with fail
    all_goals (go_meet; exact ⟨rfl, by rw [HB5.out]; first | rfl | (simp; done), rfl⟩)
   | true =>
    go_wp2_with fail
    all_goals (go_meet; exact ⟨rfl, by rw [HB5.out]; first | rfl | (simp; done), rfl⟩)
 case rest =>
 obtain ⟨rfl, rfl, hw⟩ := hcut
 rw [hw]
 clear hw
 cases B4 with
 | false =>
  go_wp2_with fail
  go_ret
  exact ⟨by simp, HE.out⟩
 | true =>
  cases B5 with
  | false =>
   go_wp2_with fail
   go_ret
   exact ⟨by simp, HE.out⟩
  | true =>
   cases c7 with
   | false =>
    go_wp2_with (go_at_call 42; first | (refine E4.out.mono ?_; rintro e w' ⟨rfl, rfl⟩) | (refine E5.out.mono ?_; rintro e w' ⟨rfl, rfl⟩))
    go_ret
    exact ⟨by simp, HE.out⟩
   | true =>
    cases c8 with
    | false =>
     go_wp2_with (go_at_call 42; first | (refine E4.out.mono ?_; rintro e w' ⟨rfl, rfl⟩) | (refine E5.out.mono ?_; rintro e w' ⟨rfl, rfl⟩))
     go_ret
     exact ⟨by simp, HE.out⟩
    | true =>
     go_wp2_with (first | (go_at_call 42; first | (refine E4.out.mono ?_; rintro e w' ⟨rfl, rfl⟩) | (refine E5.out.mono ?_; rintro e w' ⟨rfl, rfl⟩)) | (go_at_call 45; refine E6.out.mono ?_; rintro e wa ⟨rfl, hxa⟩; refine Hid.out ?_))
     have HXa := Lib.hid (HE.out.tr hxa)
     have a75 := Ext.load hxa a75
     clear hxa
     refine Lib.hid ?_
     cases c9 with
     | true =>
      go_wp2_with fail
      go_ret
      exact ⟨by simp, HXa.out⟩
     | false =>
      go_wp2_with (go_at_call 46; refine (E7.out wa HXa.out (by trivial) (by trivial) (by trivial)).mono ?_; rintro e wb ⟨rfl, hxb⟩; have HXb := Lib.hid (HXa.out.tr hxb); clear hxb)
      go_ret
      exact ⟨by simp, HXb.out⟩
end Go.Proofs.YtjholekgdnhpkaaGreatDoor
