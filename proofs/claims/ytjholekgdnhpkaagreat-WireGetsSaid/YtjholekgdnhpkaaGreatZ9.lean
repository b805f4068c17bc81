/- Texts of the proof, laid together: WrZC. -/
import Derived.Test.YtjholekgdnhpkaaGreatZ22
import Derived.Test.YtjholekgdnhpkaaGreatZ23
import Derived.Test.YtjholekgdnhpkaaGreatZ35
set_option linter.unusedVariables false
set_option linter.unusedSimpArgs false
set_option linter.unusedSectionVars false
namespace Go.Proofs.YtjholekgdnhpkaaGreat
open Go.RowKit
attribute [local go_sem] Oper.semAt_some
theorem Wm.get_small (b : List UInt8) : (Wm.get b).1.subs.length ≤ 60 ∧ Ent.total (Wm.get b).1.ents + 20 * (Wm.get b).1.ents.length ≤ 21 * b.length ∧ (Wm.get b).1.sigs.length ≤ 60 := by
 have h1 := Wm.take_small (Crc.got b)
 have h2 := Crc.got_len_le b
 have z1 : Wm.nul.subs = [] := rfl
 have z2 : Wm.nul.ents = [] := rfl
 have z3 : Wm.nul.sigs = [] := rfl
 unfold Wm.get
 split
 ·
  split
  ·
   next hp =>
   obtain ⟨⟨⟨hr, _⟩, _⟩, _⟩ := Wm.put_yes hp.2
   refine ⟨h1.1, by simp only; omega, ?_⟩
   unfold Wm.right at hr
   simp only [Bool.and_eq_true, decide_eq_true_eq] at hr
   exact hr.1.1.1.1.2.1.2
  ·
   exact ⟨by rw [z1]; simp, by rw [z2]; simp [Ent.total_nil], by rw [z3]; simp⟩
 ·
  exact ⟨by rw [z1]; simp, by rw [z2]; simp [Ent.total_nil], by rw [z3]; simp⟩
theorem WmV.lens {M : WmV} {m : Wm} (h : M.x = m) : M.subs.length = m.subs.length ∧ M.ents.length = m.ents.length ∧ M.sigs.length = m.sigs.length ∧ M.ents.map EnV.x = m.ents := by
 subst h
 refine ⟨?_, ?_, rfl, rfl⟩
 ·
  show _ = (M.subs.map WsV.x).length; rw [List.length_map]
 ·
  show _ = (M.ents.map EnV.x).length; rw [List.length_map]
set_option maxRecDepth 100000 in
set_option maxHeartbeats 4000000 in
theorem walkWireGets (w : World) (B : Option Addr) (b : List UInt8) (cap : Nat) (hB : RdB w B b) (hcap : b.length ≤ cap) (M : WmV) (hM : M.In w) : Calls Tryz.prog 3 #[.slice B b.length cap, .agg M.cells] w fun e w' => e = .returned (.bool true) ∧ Below w.heap.size w w' := by
 have HB := Lib.hid hB
 clear hB
 obtain ⟨W0, hW0⟩ : ∃ W0, W0 = w.alloc (.cells M.cells MT) := ⟨_, rfl⟩
 have hx0 : Ext w W0 := by rw [hW0]; exact Ext.alloc _ _
 have G0 : W0.heap[w.heap.size]? = some (.cells M.cells MT (0, 0)) := by rw [hW0]; exact heap_alloc_new w _
 have HS := Lib.hid (small24 M W0 (hM.ext hx0))
 have i0 := WmV.info hM.ok
 have hM0 := hM.ext hx0
 obtain ⟨P0, hP0⟩ : ∃ P, P = M.cells := ⟨_, rfl⟩
 rw [← hP0] at G0 HS i0 hW0 ⊢
 have HW0 := Lib.hid hW0
 have X0 := Lib.hid hx0
 have N0 := Lib.hid hM0
 have HP0 := Lib.hid hP0
 clear hW0 hx0 hM0 hM hP0
 go_enter Tryz.func3, Tryz.ntmps3
 by_cases hb : 20000 < b.length
 ·
  have hb1 : (20000 : Int) < (b.length : Int) := by omega
  go_wp2_with (go_at_call 5; refine (live24 _).mono ?_; rintro e9 w9 ⟨rfl, hx9⟩; have Hx9 := Lib.hid hx9; clear hx9)
  go_ret
  exact ⟨rfl, (show Ext w (w.alloc (.cells P0 MT)) from Ext.alloc _ _).tr Hx9.out⟩
 ·
  have hb1 : ¬ (20000 : Int) < (b.length : Int) := by omega
  go_wp2_with (first | (rw [← HW0.out]; refine wpList_load_rowG (by rfl) MT (.tmp 3) rfl w.heap.size rfl MT P0 (0, 0) _ G0 Tryz.underlying31 rfl i0 ?_) | (go_at_call 4; refine HS.out.mono ?_; rintro e1 w1 ⟨b1, rfl, hsb1, hx1⟩; refine Hid.out ?_))
  have G1 := (hx1.block _ (lt_of_heap G0)).trans G0
  have X1 := Lib.hid (X0.out.tr hx1)
  have N1 := Lib.hid (N0.out.ext hx1)
  have HB1 := Lib.hid hsb1
  clear G0 hx1 hsb1 HS X0 N0
  refine Lib.hid ?_
  cases b1 with
  | false =>
   go_wp2_with (go_at_call 5; refine (live24 _).mono ?_; rintro e9 w9 ⟨rfl, hx9⟩; have Hx9 := Lib.hid hx9; clear hx9)
   go_ret
   exact ⟨rfl, X1.out.tr Hx9.out⟩
  | true =>
   have hsmall := HB1.out rfl
   have HSML := Lib.hid hsmall
   have HSM := Lib.hid (Wm.get_small b)
   obtain ⟨gb, hgb⟩ : ∃ gb, gb = Wm.get b := ⟨_, rfl⟩
   have Hgb := Lib.hid hgb
   rw [← hgb] at HSM
   have hA1 : RdB (w1.alloc (.cells #[] 5)) B b := (HB.out.below X1.out).below (Ext.alloc _ _)
   clear hsmall hgb
   go_wp2_with (at_builtin; refine wpList_app rfl (.tmp 19) (.tmp 20) 22 rfl elemB w1.heap.size _ 0 0 [] rfl B b.length cap (bvs b) rfl b.length (by omega) (bvs b) rfl (Own.none_ _ _ _ _ _) hA1 (bvs_one _) (by omega) (by omega) (by simp) ?_; intro A2 c2 w2 ho2 hg2 hr2; refine Hid.out ?_)
   have hx2 : Ext w1 w2 := below_app ((Below.refl w1.heap.size w1).alloc (Nat.le_refl _) (.cells #[] 5)) (Own.none_ _ _ 5 1 (some ⟨w1.heap.size, 0, none⟩)) hg2 (by simp)
   have hgt := wget_any A2 b c2 w2 (Own.rd' ho2) (by omega) ho2.nc
   rw [← Hgb.out] at hgt
   have HGT := Lib.hid hgt
   have X2 := Lib.hid (X1.out.tr hx2)
   have HX12 := Lib.hid hx2
   clear hgt hx2 ho2 hg2 hr2 hA1
   refine Lib.hid ?_
   go_wp2_with (go_at_call 6; refine HGT.out.mono ?_; rintro e4 w4 ⟨M4, rfl, hx4, hin4, hext4⟩; refine Hid.out ?_)
   have hst4 := Ext.alloc w4 (.cells M4.cells MT)
   have i4 := WmV.info hin4.ok
   have s4 := WmV.size78 hin4.ok
   have o4 := WmV.one M4
   have hIn4 := hin4.ext hst4
   have K4 := heap_alloc_new w4 (.cells M4.cells MT)
   have hXX4 := (X2.out).tr (hext4.tr hst4)
   have hYY4 := hext4.tr hst4
   obtain ⟨P4, hP4⟩ : ∃ P, P = M4.cells := ⟨_, rfl⟩
   rw [← hP4] at i4 s4 o4 hIn4 K4 hXX4 hYY4 ⊢
   obtain ⟨W4, hW4⟩ : ∃ W, W = w4.alloc (.cells P4 MT) := ⟨_, rfl⟩
   rw [← hW4] at hIn4 K4 hXX4 hYY4
   have HW4 := Lib.hid hW4
   have HP4 := Lib.hid hP4
   have N4 := Lib.hid hIn4
   have X4 := Lib.hid hXX4
   have Y4 := Lib.hid hYY4
   clear hst4 hIn4 hXX4 hYY4 hW4 hP4 hin4 hext4
   have hgr := rget_any B b cap W4 (HB.out.below X4.out) (by omega) hcap
   rw [← Hgb.out] at hgr
   have HGR := Lib.hid hgr
   have HX4 := Lib.hid hx4
   clear hgr hx4 HGT
   refine Lib.hid ?_
   go_wp2_with (first | (refine wpList_run rfl _ _ (ex_allocMsg rfl) ?_) | (refine wpList_store_row rfl MT (.tmp 5) (.tmp 23) rfl w4.heap.size P4 rfl rfl MT _ (heap_alloc_new w4 _) i4 (by rw [s4]; rfl) o4 ?_; rw [setRow_alloc, ← HW4.out]) | (go_at_call 7; refine HGR.out.mono ?_; rintro e6 w6 ⟨M6, rfl, hx6, hin6, hext6⟩; refine Hid.out ?_))
   have hst6 := Ext.alloc w6 (.cells M6.cells MT)
   have i6 := WmV.info hin6.ok
   have s6 := WmV.size78 hin6.ok
   have o6 := WmV.one M6
   have hIn6 := hin6.ext hst6
   have K6 := heap_alloc_new w6 (.cells M6.cells MT)
   have hXX6 := (X4.out).tr (hext6.tr hst6)
   have hYY6 := hext6.tr hst6
   obtain ⟨P6, hP6⟩ : ∃ P, P = M6.cells := ⟨_, rfl⟩
   rw [← hP6] at i6 s6 o6 hIn6 K6 hXX6 hYY6 ⊢
   obtain ⟨W6, hW6⟩ : ∃ W, W = w6.alloc (.cells P6 MT) := ⟨_, rfl⟩
   rw [← hW6] at hIn6 K6 hXX6 hYY6
   have HW6 := Lib.hid hW6
   have HP6 := Lib.hid hP6
   have N6 := Lib.hid hIn6
   have X6 := Lib.hid hXX6
   have Y6 := Lib.hid hYY6
   clear hst6 hIn6 hXX6 hYY6 hW6 hP6 hin6 hext6
   have HX6 := Lib.hid hx6
   clear hx6 HGR
   refine Lib.hid ?_
   go_wp2_with (first | (refine wpList_run rfl _ _ (ex_allocMsg rfl) ?_) | (refine wpList_store_row rfl MT (.tmp 7) (.tmp 28) rfl w6.heap.size P6 rfl rfl MT _ (heap_alloc_new w6 _) i6 (by rw [s6]; rfl) o6 ?_; rw [setRow_alloc, ← HW6.out]))
   have hl4 := WmV.lens HX4.out
   have hl6 := WmV.lens HX6.out
   have hl0 := WmV.lens (M := M) rfl
   have hs := HSM.out
   have hs0 := HSML.out
   have j1 : W6.heap[w.heap.size]? = some (.cells P0 MT (0, 0)) := (((HX12.out.tr Y4.out).tr Y6.out).block _ (lt_of_heap G1)).trans G1
   have j4 : W6.heap[w4.heap.size]? = some (.cells P4 MT (0, 0)) := (Y6.out.block _ (lt_of_heap K4)).trans K4
   have n0 : M.In W6 := N1.out.ext ((HX12.out.tr Y4.out).tr Y6.out)
   have n4 : M4.In W6 := N4.out.ext Y6.out
   have n6 : M6.In W6 := N6.out
   obtain ⟨sm, hsm⟩ : ∃ sm, sm = decide (M6.x = M.x) := ⟨_, rfl⟩
   have c1 : ∀ W, Ext W6 W → Calls Tryz.prog 8 #[.agg P4, .agg P6] W fun e w' => e = .returned (.bool true) ∧ Ext W w' := fun W x => by
    have := rsame_any M4 M6 W (n4.ext x) (n6.ext x) (by omega) (by omega) (by omega)
    rw [HX4.out, HX6.out, decide_eq_true rfl, ← HP4.out, ← HP6.out] at this
    exact this
   have c2 : ∀ W, Ext W6 W → Calls Tryz.prog 10 #[.agg P6, .agg P0] W fun e w' => e = .returned (.bool sm) ∧ Ext W w' := fun W x => by
    have := wsame_any M6 M W (n6.ext x) (n0.ext x) (by omega) (by have := hs0.subs; omega) (by omega) (by have := hs0.ents; omega) (by omega)
    rw [← hsm, ← HP6.out, ← HP0.out] at this
    exact this
   have c3 : ∀ W, Ext W6 W → Calls Tryz.prog 8 #[.agg P6, .agg P0] W fun e w' => e = .returned (.bool sm) ∧ Ext W w' := fun W x => by
    have := rsame_any M6 M W (n6.ext x) (n0.ext x) (by omega) (by omega) (by omega)
    rw [← hsm, ← HP6.out, ← HP0.out] at this
    exact this
   have c4 : ∀ W, Ext W6 W → Calls Tryz.prog 10 #[.agg P0, .agg P0] W fun e w' => e = .returned (.bool true) ∧ Ext W w' := fun W x => by
    have := wsame_any M M W (n0.ext x) (n0.ext x) (by have := hs0.subs; omega) (by have := hs0.subs; omega) (by have := hs0.ents; omega) (by have := hs0.ents; omega) (by have := hs0.sigs; omega)
    rw [decide_eq_true rfl, ← HP0.out] at this
    exact this
   have C1 := Lib.hid c1
   have C2 := Lib.hid c2
   have C3 := Lib.hid c3
   have C4 := Lib.hid c4
   have J := Lib.hid (show ∀ W, Ext W6 W → W.heap[w4.heap.size]? = some (.cells P4 MT (0, 0)) ∧ W.heap[w6.heap.size]? = some (.cells P6 MT (0, 0)) ∧ W.heap[w.heap.size]? = some (.cells P0 MT (0, 0)) from fun W x => ⟨(x.block _ (lt_of_heap j4)).trans j4, (x.block _ (lt_of_heap K6)).trans K6, (x.block _ (lt_of_heap j1)).trans j1⟩)
   clear c1 c2 c3 c4 j1 j4 n0 n4 n6 hsm hl4 hl6 hl0 hs hs0 K4 K6 G1
   refine rg_start (by kernel_rfl) ?_
   refine gS 0 rfl ⟨.agg P4, fun w' hx => ex_load_row MT (.tmp 5) rfl w4.heap.size rfl MT P4 (0, 0) _ (J.out _ ((Ext.drew W6).tr hx)).1 Tryz.underlying31 rfl i4, ?_⟩
   simp only [sP]
   refine gS 1 rfl ⟨.agg P6, fun w' hx => ex_load_row MT (.tmp 7) rfl w6.heap.size rfl MT P6 (0, 0) _ (J.out _ ((Ext.drew W6).tr hx)).2.1 Tryz.underlying31 rfl i6, ?_⟩
   simp only [sP]
   refine rg_call 2 (C1.out _ (Ext.drew W6)) rfl (by kernel_rfl) (by rfl) (by go_simp) ?_
   rintro e w7 ⟨rfl, hx7⟩
   refine ⟨_, rfl, hx7, ?_⟩
   have e7 := (Ext.drew W6).tr hx7
   simp only [sP]
   refine gD 3 rfl ?_
   simp only [sP]
   refine gD 4 rfl ?_
   simp only [sP]
   refine gD 6 rfl ?_
   simp only [sP]
   refine rg_call 5 (num24 ((gb.2 : Nat) : Int) w7) rfl (by kernel_rfl) (by rfl) (by go_simp) ?_
   rintro e w' ⟨rfl, rfl⟩
   refine ⟨_, rfl, Ext.refl _, ?_⟩
   simp only [sP]
   refine gS 7 rfl ⟨.bool true, fun w' hx => by (go_simp <;> simp), ?_⟩
   simp only [sP]
   refine gD 8 rfl ?_
   simp only [sP]
   refine gD 9 rfl ?_
   simp only [sP]
   refine gS 10 rfl ⟨.agg P6, fun w' hx => ex_load_row MT (.tmp 7) rfl w6.heap.size rfl MT P6 (0, 0) _ (J.out _ (e7.tr hx)).2.1 Tryz.underlying31 rfl i6, ?_⟩
   simp only [sP]
   refine gS 11 rfl ⟨.agg P0, fun w' hx => ex_load_row MT (.tmp 3) rfl w.heap.size rfl MT P0 (0, 0) _ (J.out _ (e7.tr hx)).2.2 Tryz.underlying31 rfl i0, ?_⟩
   simp only [sP]
   refine gS 13 rfl ⟨.agg P6, fun w' hx => ex_load_row MT (.tmp 7) rfl w6.heap.size rfl MT P6 (0, 0) _ (J.out _ (e7.tr hx)).2.1 Tryz.underlying31 rfl i6, ?_⟩
   simp only [sP]
   refine gS 14 rfl ⟨.agg P0, fun w' hx => ex_load_row MT (.tmp 3) rfl w.heap.size rfl MT P0 (0, 0) _ (J.out _ (e7.tr hx)).2.2 Tryz.underlying31 rfl i0, ?_⟩
   simp only [sP]
   refine rg_call 12 (C2.out _ e7) rfl (by kernel_rfl) (by rfl) (by go_simp) ?_
   rintro e w10 ⟨rfl, hx10⟩
   refine ⟨_, rfl, hx10, ?_⟩
   have e10 := e7.tr hx10
   simp only [sP]
   refine rg_call 15 (C3.out _ e10) rfl (by kernel_rfl) (by rfl) (by go_simp) ?_
   rintro e w11 ⟨rfl, hx11⟩
   refine ⟨_, rfl, hx11, ?_⟩
   have e11 := e10.tr hx11
   simp only [sP]
   refine gS 16 rfl ⟨.bool true, fun w' hx => by (go_simp <;> simp), ?_⟩
   simp only [sP]
   refine gD 17 rfl ?_
   simp only [sP]
   refine gD 18 rfl ?_
   simp only [sP]
   refine gS 19 rfl ⟨.agg P0, fun w' hx => ex_load_row MT (.tmp 3) rfl w.heap.size rfl MT P0 (0, 0) _ (J.out _ (e11.tr hx)).2.2 Tryz.underlying31 rfl i0, ?_⟩
   simp only [sP]
   refine gS 20 rfl ⟨.agg P0, fun w' hx => ex_load_row MT (.tmp 3) rfl w.heap.size rfl MT P0 (0, 0) _ (J.out _ (e11.tr hx)).2.2 Tryz.underlying31 rfl i0, ?_⟩
   simp only [sP]
   refine rg_call 21 (C4.out _ e11) rfl (by kernel_rfl) (by rfl) (by go_simp) ?_
   rintro e w12 ⟨rfl, hx12⟩
   refine ⟨_, rfl, hx12, ?_⟩
   have e12 := e11.tr hx12
   simp only [sP]
   refine gD 22 rfl ?_
   simp only [sP]
   refine gD 23 rfl ?_
   simp only [sP]
   refine rg_call 24 (live24 w12) rfl (by kernel_rfl) (by rfl) (by go_simp) ?_
   rintro e w13 ⟨rfl, hx13⟩
   refine ⟨_, rfl, hx13, ?_⟩
   simp only [sP]
   refine gD 25 rfl ?_
   simp only [sP]
   refine gD 26 rfl ?_
   simp only [sP]
   refine rg_done (by kernel_rfl) ?_
   go_wp2_with fail
   go_ret
   exact ⟨rfl, X6.out.tr (e12.tr hx13)⟩
end Go.Proofs.YtjholekgdnhpkaaGreat
