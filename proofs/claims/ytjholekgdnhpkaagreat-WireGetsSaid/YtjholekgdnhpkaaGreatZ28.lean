/- Texts of the proof, laid together: WpB. -/
import Derived.Deep.Cut
import Derived.Test.YtjholekgdnhpkaaGreatZ26
import Derived.Test.YtjholekgdnhpkaaGreatZ20
import Derived.Test.YtjholekgdnhpkaaGreatZ19
import Derived.Test.YtjholekgdnhpkaaGreatZ27
set_option linter.unusedVariables false
set_option linter.unusedSimpArgs false
set_option linter.unusedSectionVars false
namespace Go.Proofs.YtjholekgdnhpkaaGreat
open Go.RowKit
attribute [local go_sem] Oper.semAt_some
theorem Ent.get_ok {b : List UInt8} (h : (Ent.get b).2.2 = 0) : (Ent.get b).1.ok = true := by
 unfold Ent.get at h ⊢
 simp only at h ⊢
 split
 ·
  next h1 => rw [if_pos h1] at h; cases h
 ·
  next h1 =>
  rw [if_neg h1] at h
  split
  ·
   next h2 => rw [if_pos h2] at h; cases h
  ·
   next h2 =>
   rw [if_neg h2] at h
   split
   ·
    next h3 => exact h3
   ·
    next h3 => rw [if_neg h3] at h; cases h
theorem Ent.items_ok : ∀ (f : Nat) (b : List UInt8) (x : Ent × Nat), x ∈ Ent.items f b → x.2 = 0 → x.1.ok = true
 | 0, b, x, h, _ => by cases h
 | f + 1, b, x, h, h0 => by
  unfold Ent.items at h
  split at h
  ·
   cases h
  ·
   split at h
   ·
    next h1 =>
    rcases List.mem_cons.1 h with rfl | h
    ·
     exact Ent.get_ok h1
    ·
     exact Ent.items_ok f _ x h h0
   ·
    next h1 =>
    rw [List.mem_singleton] at h
    subst h
    exact absurd h0 h1
theorem Rise.snoc {acc : List Ent} {e : Ent} (h : Rise acc) (he : e.ok = true) (hb : Ent.bars acc e = false) : Rise (acc ++ [e]) := by
 simp only [Ent.ok, Bool.and_eq_true, decide_eq_true_eq] at he
 refine ⟨fun k hk => ?_, fun k hk => ?_⟩
 ·
  by_cases hk2 : k < acc.length
  ·
   rw [List.getElem_append_left hk2]; exact h.ok k hk2
  ·
   rw [List.getElem_append_right (by omega)]
   simp only [List.getElem_singleton]
   exact ⟨he.1.1, he.1.2, he.2⟩
 ·
  rw [List.length_append, List.length_singleton] at hk
  by_cases hk2 : k + 1 < acc.length
  ·
   rw [List.getElem_append_left (by omega), List.getElem_append_left hk2]; exact h.up k hk2
  ·
   have e1 : k + 1 = acc.length := by omega
   rw [List.getElem_append_left (by omega), List.getElem_append_right (by omega)]
   simp only [List.getElem_singleton]
   unfold Ent.bars at hb
   rw [List.getLast?_eq_getElem?, show acc.length - 1 = k by omega, List.getElem?_eq_getElem (by omega)] at hb
   simpa using hb
theorem Ent.run_riseI : ∀ (xs : List (Ent × Nat)) (acc L : List Ent), (∀ x ∈ xs, x.2 = 0 → x.1.ok = true) → Rise acc → Ent.run acc xs = some L → Rise L
 | [], acc, L, _, h, e => by
  simp only [Ent.run, Option.some.injEq] at e
  subst e; exact h
 | x :: xs, acc, L, hx, h, e => by
  unfold Ent.run at e
  split at e
  ·
   cases e
  ·
   next h0 =>
   split at e
   ·
    cases e
   ·
    next hb => exact Ent.run_riseI xs _ L (fun y hy => hx y (by simp [hy])) (h.snoc (hx x (by simp) (by omega)) (by simpa using hb)) e
theorem Ent.getAll_rise {d : List UInt8} {L : List Ent} (h : Ent.getAll d = some L) : Rise L :=
 Ent.run_riseI _ [] L (fun x hx => Ent.items_ok _ _ x hx) ⟨fun k hk => absurd hk (by simp), fun k hk => absurd hk (by simp)⟩ h
theorem Ent.sent_iff (l : List Ent) : Ent.sent l = true ↔ Rise l := by
 unfold Ent.sent
 rw [decide_eq_true_eq]
 exact ⟨Ent.getAll_rise, Ent.getAll_putAll l⟩
theorem rkey_any (A : Option Addr) (n c : Nat) (w : World) : Calls Tryz.prog 69 #[.slice A n c] w fun e w' => e = .returned (.bool (decide (n ≤ 24))) ∧ w = w' := by
 go_enter Tryz.func69, Tryz.ntmps69
 go_wp2_with fail
 go_ret
 have hd : decide ((n : Int) ≤ 24) = decide (n ≤ 24) := by rw [Bool.eq_iff_iff, decide_eq_true_eq, decide_eq_true_eq]; omega
 rw [← hd]
 exact ⟨rfl, rfl⟩
theorem rsize_any (n : Int) (w : World) : Calls Tryz.prog 70 #[.int .i64 n] w fun e w' => e = .returned (.bool (Wm.isSz n)) ∧ w = w' := by
 unfold Wm.isSz
 by_cases h : 0 ≤ n
 ·
  by_cases h2 : n ≤ 131072
  ·
   go_enter Tryz.func70, Tryz.ntmps70
   go_wp2_with fail
   go_ret
   exact ⟨by simp [h2]; omega, rfl⟩
  ·
   go_enter Tryz.func70, Tryz.ntmps70
   go_wp2_with fail
   go_ret
   exact ⟨by simp [h2], rfl⟩
 ·
  go_enter Tryz.func70, Tryz.ntmps70
  go_wp2_with fail
  go_ret
  exact ⟨by simp; omega, rfl⟩
theorem rcount_any (n : Int) (w : World) : Calls Tryz.prog 71 #[.int .i64 n] w fun e w' => e = .returned (.bool (Wm.isCnt n)) ∧ w = w' := by
 unfold Wm.isCnt
 by_cases h : 0 ≤ n
 ·
  by_cases h2 : n ≤ 2147483647
  ·
   go_enter Tryz.func71, Tryz.ntmps71
   go_wp2_with fail
   go_ret
   exact ⟨by simp [h2]; omega, rfl⟩
  ·
   go_enter Tryz.func71, Tryz.ntmps71
   go_wp2_with fail
   go_ret
   exact ⟨by simp [h2], rfl⟩
 ·
  go_enter Tryz.func71, Tryz.ntmps71
  go_wp2_with fail
  go_ret
  exact ⟨by simp; omega, rfl⟩
def Wm.may (m : Wm) : Bool := (Wm.known m.kind && decide (m.only = m)) && m.right
structure Wm.May (m : Wm) : Prop where
 known : Wm.known m.kind = true
 only : m.only = m
 lo : m.lo.length ≤ 24
 hi : m.hi.length ≤ 24
 n : Wm.isSz m.n = true
 size : Wm.isSz m.size = true
 count : Wm.isCnt m.count = true
 subs : m.subs.length ≤ 60
 sigs : m.sigs.length ≤ 60
 data : m.data.length ≤ 64
 ents : Rise m.ents
 sub : m.subs.any Ws.bad = false
theorem Wm.may_iff (m : Wm) : m.may = true ↔ m.May := by
 unfold Wm.may Wm.right
 simp only [Bool.and_eq_true, decide_eq_true_eq, Bool.not_eq_true', Ent.sent_iff]
 constructor
 ·
  rintro ⟨⟨h1, h2⟩, ⟨⟨⟨⟨⟨⟨⟨h3, h4⟩, h5⟩, ⟨⟨h6, h7⟩, h8⟩⟩, h9⟩, h10⟩, h11⟩, h12⟩⟩
  exact ⟨h1, h2, h9, h10, h3, h4, h5, h6, h7, h8, h12, h11⟩
 ·
  rintro ⟨h1, h2, h9, h10, h3, h4, h5, h6, h7, h8, h12, h11⟩
  exact ⟨⟨h1, h2⟩, ⟨⟨⟨⟨⟨⟨⟨h3, h4⟩, h5⟩, ⟨⟨h6, h7⟩, h8⟩⟩, h9⟩, h10⟩, h11⟩, h12⟩⟩
theorem Wm.may_no {m : Wm} (h : ¬ m.May) : m.may = false := Bool.eq_false_iff.2 fun e => h ((Wm.may_iff m).1 e)
set_option maxRecDepth 100000 in
set_option maxHeartbeats 8000000 in
theorem rmay_any (M : WmV) (w : World) (hM : M.In w) (f1 : M.subs.length ≤ 1000000) (f3 : M.ents.length ≤ 1000000) (f5 : M.sigs.length ≤ 1000000) : Calls Tryz.prog 40 #[.agg M.cells] w fun e w' => e = .returned (.bool (Wm.may M.x)) ∧ Ext w w' := by
 obtain ⟨R, hR⟩ : ∃ R, R = Wm.may M.x := ⟨_, rfl⟩
 rw [← hR]
 have hyes : M.x.May → Hid (R = true) := fun h => by show _ = _; rw [hR]; exact (Wm.may_iff _).2 h
 have hno : ¬ M.x.May → Hid (R = false) := fun h => by show _ = _; rw [hR]; exact Wm.may_no h
 obtain ⟨W0, hW0⟩ : ∃ W0, W0 = w.alloc (.cells M.cells MT) := ⟨_, rfl⟩
 have hx0 : Ext w W0 := by rw [hW0]; exact Ext.alloc _ _
 have g0 : W0.heap[w.heap.size]? = some (.cells M.cells MT (0, 0)) := by rw [hW0]; exact heap_alloc_new w _
 have i0 := WmV.info hM.ok
 have a3 : W0.cell? ⟨w.heap.size, 3, none⟩ = _ := (cell_of_row _ _ 3 _ _ _ g0).trans (WmV.at3 M)
 have a4 : W0.cell? ⟨w.heap.size, 4, none⟩ = _ := (cell_of_row _ _ 4 _ _ _ g0).trans (WmV.at4 M)
 have a5 : W0.cell? ⟨w.heap.size, 5, none⟩ = _ := (cell_of_row _ _ 5 _ _ _ g0).trans (WmV.at5 M)
 have a7 : W0.cell? ⟨w.heap.size, 7, none⟩ = _ := (cell_of_row _ _ 7 _ _ _ g0).trans (WmV.at7 M)
 have a40 : W0.cell? ⟨w.heap.size, 40, none⟩ = _ := (cell_of_row _ _ 40 _ _ _ g0).trans (WmV.at40 hM.ok)
 have a73 : W0.cell? ⟨w.heap.size, 73, none⟩ = _ := (cell_of_row _ _ 73 _ _ _ g0).trans (WmV.at73 hM.ok)
 have a75 : W0.cell? ⟨w.heap.size, 75, none⟩ = _ := (cell_of_row _ _ 75 _ _ _ g0).trans (WmV.at75 hM.ok)
 have a76 : W0.cell? ⟨w.heap.size, 76, none⟩ = _ := (cell_of_row _ _ 76 _ _ _ g0).trans (WmV.at76 hM.ok)
 have a77 : W0.cell? ⟨w.heap.size, 77, none⟩ = _ := (cell_of_row _ _ 77 _ _ _ g0).trans (WmV.at77 hM.ok)
 have HON := Lib.hid (ronly_any M W0 (hM.ext hx0))
 have HM0 := Lib.hid (hM.ext hx0)
 obtain ⟨P, hP⟩ : ∃ P, P = M.cells := ⟨_, rfl⟩
 rw [← hP] at hW0 g0 HON i0 ⊢
 have HW0 := Lib.hid hW0
 have HP := Lib.hid hP
 have HYES := Lib.hid hyes
 have HNO := Lib.hid hno
 have X0 := Lib.hid hx0
 clear hW0 hP hyes hno hR hx0 hM
 go_enter Tryz.func40, Tryz.ntmps40
 go_wp2_with (first | (rw [← HW0.out]; refine wpList_load_rowG (by rfl) MT (.tmp 1) rfl w.heap.size rfl MT P (0, 0) _ g0 Tryz.underlying31 rfl i0 ?_) | (go_at_call 68; refine HON.out.mono ?_; rintro e2 w2 ⟨X, rfl, hxx, hxin, hx2⟩; refine Hid.out ?_))
 have iX := WmV.info hxin.ok
 have zX := WmV.size78 hxin.ok
 have oX := WmV.one X
 obtain ⟨W3, hW3⟩ : ∃ W3, W3 = w2.alloc (.cells X.cells MT) := ⟨_, rfl⟩
 have hx23 : Ext w2 W3 := by rw [hW3]; exact Ext.alloc _ _
 have g3 : W3.heap[w2.heap.size]? = some (.cells X.cells MT (0, 0)) := by rw [hW3]; exact heap_alloc_new w2 _
 have hx03 := hx2.tr hx23
 have g03 := (hx03.block _ (lt_of_heap g0)).trans g0
 have hle := Wm.only_le M.x
 have hl1 : X.subs.length = M.x.only.subs.length := by rw [← hxx]; show _ = (X.subs.map WsV.x).length; rw [List.length_map]
 have hl2 : X.ents.length = M.x.only.ents.length := by rw [← hxx]; show _ = (X.ents.map EnV.x).length; rw [List.length_map]
 have hl3 : X.sigs.length = M.x.only.sigs.length := by rw [← hxx]; rfl
 have hl4 : M.x.subs.length = M.subs.length := by show (M.subs.map WsV.x).length = _; rw [List.length_map]
 have hl5 : M.x.ents.length = M.ents.length := by show (M.ents.map EnV.x).length = _; rw [List.length_map]
 have hl6 : M.x.sigs.length = M.sigs.length := rfl
 have hSA := rsame_any X M W3 (hxin.ext hx23) (HM0.out.ext hx03) (by omega) (by omega) (by omega)
 obtain ⟨sm, hsm⟩ : ∃ sm, sm = decide (X.x = M.x) := ⟨_, rfl⟩
 obtain ⟨kn, hkn⟩ : ∃ kn, kn = Wm.known M.kind := ⟨_, rfl⟩
 rw [← hsm, ← HP.out] at hSA
 rw [← hkn]
 have hsn : sm = false → ¬ M.x.May := fun e h => by rw [hsm, hxx] at e; exact (of_decide_eq_false e) h.only
 have hsy : sm = true → M.x.only = M.x := fun e => by rw [hsm, hxx] at e; exact of_decide_eq_true e
 have hkn2 : kn = false → ¬ M.x.May := fun e h => by rw [hkn] at e; have := h.known; rw [show M.x.kind = M.kind from rfl, e] at this; cases this
 have HSA := Lib.hid hSA
 have HSN := Lib.hid hsn
 have HSY := Lib.hid hsy
 have HKN := Lib.hid hkn2
 have HKN3 := Lib.hid hkn
 have X03 := Lib.hid hx03
 have HW3 := Lib.hid hW3
 clear hSA hsn hsy hkn2 hkn hsm hle hl1 hl2 hl3 hl4 hl5 hl6 hxx hxin hx2 hx23 hx03 hW3
 refine Lib.hid ?_
 go_upto_region 2 with (first | (refine wpList_run rfl _ _ (ex_allocMsg rfl) ?_) | (refine wpList_store_row rfl MT (.tmp 3) (.tmp 9) rfl w2.heap.size X.cells rfl rfl MT _ (heap_alloc_new w2 _) iX (by rw [zX]; rfl) oX ?_; rw [setRow_alloc, ← HW3.out]))
 cases kn with
 | false =>
  go_wp2_with fail
  go_ret
  exact ⟨by rw [(HNO.out (HKN.out (by trivial))).out]; rfl, X0.out.tr X03.out⟩
 | true =>
  go_wp2_with (first | (refine wpList_load_rowG (by rfl) MT (.tmp 3) rfl w2.heap.size rfl MT X.cells (0, 0) _ g3 Tryz.underlying31 rfl iX ?_) | (refine wpList_load_rowG (by rfl) MT (.tmp 1) rfl w.heap.size rfl MT P (0, 0) _ g03 Tryz.underlying31 rfl i0 ?_) | (go_at_call 8; refine HSA.out.mono ?_; rintro e4 w4 ⟨rfl, hx4⟩; refine Hid.out ?_))
  have X04 := Lib.hid (X03.out.tr hx4)
  clear hx4 HSA g3 g03 iX zX oX g0 i0
  have a3 := Ext.load X04.out a3
  have a4 := Ext.load X04.out a4
  have a5 := Ext.load X04.out a5
  have a7 := Ext.load X04.out a7
  have a40 := Ext.load X04.out a40
  have a73 := Ext.load X04.out a73
  have a75 := Ext.load X04.out a75
  have a76 := Ext.load X04.out a76
  have a77 := Ext.load X04.out a77
  refine Lib.hid ?_
  cases sm with
  | false =>
   go_wp2_with fail
   go_ret
   exact ⟨by rw [(HNO.out (HSN.out (by trivial))).out]; rfl, X0.out.tr X04.out⟩
  | true =>
   have e1 := rsize_any M.n w4
   have e2 := rsize_any M.size w4
   have e3 := rcount_any M.count w4
   have e7 := rkey_any M.la M.lo.length M.lc w4
   have e8 := rkey_any M.ha M.hi.length M.hc w4
   have e9 := ref_risingI M.ea M.ents M.ec w4 (HM0.out.er.below X04.out) f3
   obtain ⟨c1, h1⟩ : ∃ c, Wm.isSz M.n = c := ⟨_, rfl⟩
   obtain ⟨c2, h2⟩ : ∃ c, Wm.isSz M.size = c := ⟨_, rfl⟩
   obtain ⟨c3, h3⟩ : ∃ c, Wm.isCnt M.count = c := ⟨_, rfl⟩
   obtain ⟨c7, h7⟩ : ∃ c, decide (M.lo.length ≤ 24) = c := ⟨_, rfl⟩
   obtain ⟨c8, h8⟩ : ∃ c, decide (M.hi.length ≤ 24) = c := ⟨_, rfl⟩
   obtain ⟨d4, u4⟩ : ∃ c, decide ((60 : Int) < (M.subs.length : Int)) = c := ⟨_, rfl⟩
   obtain ⟨d5, u5⟩ : ∃ c, decide ((60 : Int) < (M.sigs.length : Int)) = c := ⟨_, rfl⟩
   obtain ⟨d6, u6⟩ : ∃ c, decide ((64 : Int) < (M.data.length : Int)) = c := ⟨_, rfl⟩
   rw [h1] at e1
   rw [h2] at e2
   rw [h3] at e3
   rw [h7] at e7
   rw [h8] at e8
   have n1 : c1 = false → ¬ M.x.May := fun e h => by have := h.n; rw [show M.x.n = M.n from rfl, h1, e] at this; cases this
   have n2 : c2 = false → ¬ M.x.May := fun e h => by have := h.size; rw [show M.x.size = M.size from rfl, h2, e] at this; cases this
   have n3 : c3 = false → ¬ M.x.May := fun e h => by have := h.count; rw [show M.x.count = M.count from rfl, h3, e] at this; cases this
   have n7 : c7 = false → ¬ M.x.May := fun e h => by rw [e] at h7; exact (of_decide_eq_false h7) h.lo
   have n8 : c8 = false → ¬ M.x.May := fun e h => by rw [e] at h8; exact (of_decide_eq_false h8) h.hi
   have hls : M.x.subs.length = M.subs.length := by show (M.subs.map WsV.x).length = _; rw [List.length_map]
   have n4 : d4 = true → ¬ M.x.May := fun e h => by rw [e] at u4; have := of_decide_eq_true u4; have := h.subs; omega
   have n5 : d5 = true → ¬ M.x.May := fun e h => by rw [e] at u5; have := of_decide_eq_true u5; have := h.sigs; have hq : M.x.sigs.length = M.sigs.length := rfl; omega
   have n6 : d6 = true → ¬ M.x.May := fun e h => by rw [e] at u6; have := of_decide_eq_true u6; have := h.data; have hq : M.x.data.length = M.data.length := rfl; omega
   have hall : c1 = true → c2 = true → c3 = true → c7 = true → c8 = true → d4 = false → d5 = false → d6 = false → Rise (M.ents.map EnV.x) → (M.subs.map WsV.x).any Ws.bad = false → M.x.May := fun q1 q2 q3 q7 q8 q4 q5 q6 hr hb =>
    ⟨HKN3.out.symm, HSY.out (by trivial), of_decide_eq_true (h7.trans q7), of_decide_eq_true (h8.trans q8), h1.trans q1, h2.trans q2, h3.trans q3, by have := of_decide_eq_false (u4.trans q4); omega, by have := of_decide_eq_false (u5.trans q5); show M.sigs.length ≤ 60; omega, by have := of_decide_eq_false (u6.trans q6); show M.data.length ≤ 64; omega, hr, hb⟩
   have E1 := Lib.hid e1
   have E2 := Lib.hid e2
   have E3 := Lib.hid e3
   have E7 := Lib.hid e7
   have E8 := Lib.hid e8
   have E9 := Lib.hid e9
   have N1 := Lib.hid n1
   have N2 := Lib.hid n2
   have N3 := Lib.hid n3
   have N4 := Lib.hid n4
   have N5 := Lib.hid n5
   have N6 := Lib.hid n6
   have N7 := Lib.hid n7
   have N8 := Lib.hid n8
   have HALL := Lib.hid hall
   clear e1 e2 e3 e7 e8 e9 n1 n2 n3 n4 n5 n6 n7 n8 hall h1 h2 h3 h7 h8 hls
   cases c7 with
   | false =>
    go_wp2_with (first | (go_at_call 69; first | (refine E7.out.mono ?_; rintro e w' ⟨rfl, rfl⟩) | (refine E8.out.mono ?_; rintro e w' ⟨rfl, rfl⟩)) | (go_at_call 70; first | (refine E1.out.mono ?_; rintro e w' ⟨rfl, rfl⟩) | (refine E2.out.mono ?_; rintro e w' ⟨rfl, rfl⟩)) | (go_at_call 71; refine E3.out.mono ?_; rintro e w' ⟨rfl, rfl⟩))
    go_ret
    exact ⟨by rw [(HNO.out (N7.out (by trivial))).out]; rfl, X0.out.tr X04.out⟩
   | true =>
    cases c8 with
    | false =>
     go_wp2_with (first | (go_at_call 69; first | (refine E7.out.mono ?_; rintro e w' ⟨rfl, rfl⟩) | (refine E8.out.mono ?_; rintro e w' ⟨rfl, rfl⟩)) | (go_at_call 70; first | (refine E1.out.mono ?_; rintro e w' ⟨rfl, rfl⟩) | (refine E2.out.mono ?_; rintro e w' ⟨rfl, rfl⟩)) | (go_at_call 71; refine E3.out.mono ?_; rintro e w' ⟨rfl, rfl⟩))
     go_ret
     exact ⟨by rw [(HNO.out (N8.out (by trivial))).out]; rfl, X0.out.tr X04.out⟩
    | true =>
     cases c1 with
     | false =>
      go_wp2_with (first | (go_at_call 69; first | (refine E7.out.mono ?_; rintro e w' ⟨rfl, rfl⟩) | (refine E8.out.mono ?_; rintro e w' ⟨rfl, rfl⟩)) | (go_at_call 70; first | (refine E1.out.mono ?_; rintro e w' ⟨rfl, rfl⟩) | (refine E2.out.mono ?_; rintro e w' ⟨rfl, rfl⟩)) | (go_at_call 71; refine E3.out.mono ?_; rintro e w' ⟨rfl, rfl⟩))
      go_ret
      exact ⟨by rw [(HNO.out (N1.out (by trivial))).out]; rfl, X0.out.tr X04.out⟩
     | true =>
      cases c2 with
      | false =>
       go_wp2_with (first | (go_at_call 69; first | (refine E7.out.mono ?_; rintro e w' ⟨rfl, rfl⟩) | (refine E8.out.mono ?_; rintro e w' ⟨rfl, rfl⟩)) | (go_at_call 70; first | (refine E1.out.mono ?_; rintro e w' ⟨rfl, rfl⟩) | (refine E2.out.mono ?_; rintro e w' ⟨rfl, rfl⟩)) | (go_at_call 71; refine E3.out.mono ?_; rintro e w' ⟨rfl, rfl⟩))
       go_ret
       exact ⟨by rw [(HNO.out (N2.out (by trivial))).out]; rfl, X0.out.tr X04.out⟩
      | true =>
       cases c3 with
       | false =>
        go_wp2_with (first | (go_at_call 69; first | (refine E7.out.mono ?_; rintro e w' ⟨rfl, rfl⟩) | (refine E8.out.mono ?_; rintro e w' ⟨rfl, rfl⟩)) | (go_at_call 70; first | (refine E1.out.mono ?_; rintro e w' ⟨rfl, rfl⟩) | (refine E2.out.mono ?_; rintro e w' ⟨rfl, rfl⟩)) | (go_at_call 71; refine E3.out.mono ?_; rintro e w' ⟨rfl, rfl⟩))
        go_ret
        exact ⟨by rw [(HNO.out (N3.out (by trivial))).out]; rfl, X0.out.tr X04.out⟩
       | true =>
        cases d4 with
        | true =>
         go_wp2_with (first | (go_at_call 69; first | (refine E7.out.mono ?_; rintro e w' ⟨rfl, rfl⟩) | (refine E8.out.mono ?_; rintro e w' ⟨rfl, rfl⟩)) | (go_at_call 70; first | (refine E1.out.mono ?_; rintro e w' ⟨rfl, rfl⟩) | (refine E2.out.mono ?_; rintro e w' ⟨rfl, rfl⟩)) | (go_at_call 71; refine E3.out.mono ?_; rintro e w' ⟨rfl, rfl⟩))
         go_ret
         exact ⟨by rw [(HNO.out (N4.out (by trivial))).out]; rfl, X0.out.tr X04.out⟩
        | false =>
         cases d5 with
         | true =>
          go_wp2_with (first | (go_at_call 69; first | (refine E7.out.mono ?_; rintro e w' ⟨rfl, rfl⟩) | (refine E8.out.mono ?_; rintro e w' ⟨rfl, rfl⟩)) | (go_at_call 70; first | (refine E1.out.mono ?_; rintro e w' ⟨rfl, rfl⟩) | (refine E2.out.mono ?_; rintro e w' ⟨rfl, rfl⟩)) | (go_at_call 71; refine E3.out.mono ?_; rintro e w' ⟨rfl, rfl⟩))
          go_ret
          exact ⟨by rw [(HNO.out (N5.out (by trivial))).out]; rfl, X0.out.tr X04.out⟩
         | false =>
          cases d6 with
          | true =>
           go_wp2_with (first | (go_at_call 69; first | (refine E7.out.mono ?_; rintro e w' ⟨rfl, rfl⟩) | (refine E8.out.mono ?_; rintro e w' ⟨rfl, rfl⟩)) | (go_at_call 70; first | (refine E1.out.mono ?_; rintro e w' ⟨rfl, rfl⟩) | (refine E2.out.mono ?_; rintro e w' ⟨rfl, rfl⟩)) | (go_at_call 71; refine E3.out.mono ?_; rintro e w' ⟨rfl, rfl⟩))
           go_ret
           exact ⟨by rw [(HNO.out (N6.out (by trivial))).out]; rfl, X0.out.tr X04.out⟩
          | false =>
           go_wp2_with (first | (go_at_call 69; first | (refine E7.out.mono ?_; rintro e w' ⟨rfl, rfl⟩) | (refine E8.out.mono ?_; rintro e w' ⟨rfl, rfl⟩)) | (go_at_call 70; first | (refine E1.out.mono ?_; rintro e w' ⟨rfl, rfl⟩) | (refine E2.out.mono ?_; rintro e w' ⟨rfl, rfl⟩)) | (go_at_call 71; refine E3.out.mono ?_; rintro e w' ⟨rfl, rfl⟩) | (go_at_call 72; refine E9.out.mono ?_; rintro e5 w5 ⟨b, rfl, hb5, hx5⟩; refine Hid.out ?_))
           have X45 := Lib.hid (show Ext w4 w5 from hx5)
           have a73 := Ext.load X45.out a73
           have HB5 := Lib.hid hb5
           have XW5 := Lib.hid (X0.out.tr (X04.out.tr X45.out))
           have XM5 := Lib.hid (X04.out.tr X45.out)
           clear hx5 hb5
           refine Lib.hid ?_
           cases b with
           | false =>
            have hnr : ¬ M.x.May := fun h => by have := HB5.out.2 h.ents; cases this
            have HNR := Lib.hid hnr
            clear hnr
            go_wp2_with fail
            go_ret
            exact ⟨by rw [(HNO.out HNR.out).out]; rfl, XW5.out⟩
           | true =>
            have hri := HB5.out.1 rfl
            have HRI := Lib.hid hri
            clear hri
            have hlM : (M.subs.map WsV.x).length = M.subs.length := List.length_map _
            have HLM := Lib.hid hlM
            clear hlM
            go_wp2_with fail
            go_loopw [5] (fun i wr => ∃ k : Nat, k ≤ M.subs.length ∧ i = .int .i64 k ∧ Hid (((M.subs.map WsV.x).take k).any Ws.bad = false) ∧ Ext w5 wr) (fun i _ => M.subs.length - (intOf i).toNat)
            case atStart => exact ⟨0, by omega, rfl, (show _ = _ by simp), Ext.refl _⟩
            case round =>
             obtain ⟨k, hk, rfl, hyes, hbw⟩ := hrel
             have a73 := Ext.load hbw a73
             have XMr := Lib.hid (XM5.out.tr hbw)
             have XWr := Lib.hid (XW5.out.tr hbw)
             have Hbw := Lib.hid hbw
             clear hbw
             by_cases h : k < M.subs.length
             ·
              obtain ⟨ad, hsa, hcs, hin⟩ := (HM0.out.sr.below XMr.out).at_ h
              have ik : (0 : Int) ≤ (k : Int) := by omega
              have ik2 : (k : Int) < (M.subs.length : Int) := by omega
              have hk2 : k < (M.subs.map WsV.x).length := by rw [HLM.out]; exact h
              have hel : (M.subs.map WsV.x)[k] = M.subs[k].x := by simp
              have hbadk : M.subs[k].x.bad = true → Hid (R = false) := fun e => HNO.out fun hm => by
               have := hm.sub
               rw [List.any_eq_false] at this
               exact this _ (List.mem_map.2 ⟨_, List.getElem_mem h, rfl⟩) e
              have hgood : M.subs[k].x.bad = false → Hid (((M.subs.map WsV.x).take (k + 1)).any Ws.bad = false) := fun e => by
               show _ = _
               rw [List.take_add_one, List.getElem?_eq_getElem hk2, List.any_append, hyes, hel]
               simp [e]
              have y0 : wr.cell? (ad.add (k * 36)) = some (.slice M.subs[k].p.la M.subs[k].p.x.lo.length M.subs[k].p.lc) := hcs 0 _ rfl
              have y1 : wr.cell? ⟨(ad.add (k * 36)).block, (ad.add (k * 36)).off + 1, none⟩ = some (.slice M.subs[k].p.ha M.subs[k].p.x.hi.length M.subs[k].p.hc) := hcs 1 _ rfl
              have y2 : wr.cell? ⟨(ad.add (k * 36)).block, (ad.add (k * 36)).off + 2, none⟩ = some (.int .i64 M.subs[k].p.x.count) := hcs 2 _ rfl
              obtain ⟨y, hy⟩ : ∃ y, y = M.subs[k] := ⟨_, rfl⟩
              rw [← hy] at y0 y1 y2 hbadk hgood
              have hb3 : y.x.bad = ((!decide (y.p.x.lo.length ≤ 24) || !decide (y.p.x.hi.length ≤ 24)) || !Wm.isCnt y.p.x.count) := rfl
              have ea := rkey_any y.p.la y.p.x.lo.length y.p.lc wr
              have eb := rkey_any y.p.ha y.p.x.hi.length y.p.hc wr
              have ec := rcount_any y.p.x.count wr
              obtain ⟨ca, hca⟩ : ∃ c, decide (y.p.x.lo.length ≤ 24) = c := ⟨_, rfl⟩
              obtain ⟨cb, hcb⟩ : ∃ c, decide (y.p.x.hi.length ≤ 24) = c := ⟨_, rfl⟩
              obtain ⟨cc, hcc⟩ : ∃ c, Wm.isCnt y.p.x.count = c := ⟨_, rfl⟩
              rw [hca] at ea hb3
              rw [hcb] at eb hb3
              rw [hcc] at ec hb3
              have EA := Lib.hid ea
              have EB := Lib.hid eb
              have EC := Lib.hid ec
              have HB3 := Lib.hid hb3
              have HBAD := Lib.hid hbadk
              have HGOOD := Lib.hid hgood
              rw [hsa] at a73
              clear hy hel hk2 hbadk hgood hcs hin hsa ea eb ec hca hcb hcc hb3
              cases ca with
              | false =>
               go_wp2_with (go_at_call 69; first | (refine EA.out.mono ?_; rintro e w' ⟨rfl, rfl⟩) | (refine EB.out.mono ?_; rintro e w' ⟨rfl, rfl⟩))
               go_ret
               exact ⟨by rw [(HBAD.out (by rw [HB3.out]; rfl)).out]; rfl, XWr.out⟩
              | true =>
               cases cb with
               | false =>
                go_wp2_with (go_at_call 69; first | (refine EA.out.mono ?_; rintro e w' ⟨rfl, rfl⟩) | (refine EB.out.mono ?_; rintro e w' ⟨rfl, rfl⟩))
                go_ret
                exact ⟨by rw [(HBAD.out (by rw [HB3.out]; rfl)).out]; rfl, XWr.out⟩
               | true =>
                cases cc with
                | false =>
                 go_wp2_with (first | (go_at_call 69; first | (refine EA.out.mono ?_; rintro e w' ⟨rfl, rfl⟩) | (refine EB.out.mono ?_; rintro e w' ⟨rfl, rfl⟩)) | (go_at_call 71; refine EC.out.mono ?_; rintro e w' ⟨rfl, rfl⟩))
                 go_ret
                 exact ⟨by rw [(HBAD.out (by rw [HB3.out]; rfl)).out]; rfl, XWr.out⟩
                | true =>
                 go_wp2_with (first | (go_at_call 69; first | (refine EA.out.mono ?_; rintro e w' ⟨rfl, rfl⟩) | (refine EB.out.mono ?_; rintro e w' ⟨rfl, rfl⟩)) | (go_at_call 71; refine EC.out.mono ?_; rintro e w' ⟨rfl, rfl⟩))
                 go_roundw
                 case rel => exact ⟨k + 1, by omega, by go_num, HGOOD.out (by rw [HB3.out]; rfl), Hbw.out⟩
                 case measure => simp [intOf]; omega
             ·
              obtain rfl : k = M.subs.length := by omega
              have hb := hyes.out
              rw [List.take_of_length_le (by rw [HLM.out]; exact Nat.le_refl _)] at hb
              have HBB := Lib.hid hb
              clear hb h
              go_wp2_with fail
              go_ret
              exact ⟨by rw [(HYES.out (HALL.out (by trivial) (by trivial) (by trivial) (by trivial) (by trivial) (by trivial) (by trivial) (by trivial) HRI.out HBB.out)).out]; rfl, XWr.out⟩
end Go.Proofs.YtjholekgdnhpkaaGreat
