/- Texts of the proof, laid together: WpA. -/
import Derived.Deep.Cut
import Derived.Laws.Rows
import Derived.Test.YtjholekgdnhpkaaGreatZ13
import Derived.Test.YtjholekgdnhpkaaGreatZ18
set_option linter.unusedVariables false
set_option linter.unusedSimpArgs false
set_option linter.unusedSectionVars false
namespace Go.Proofs.YtjholekgdnhpkaaGreat
open Go.RowKit
attribute [local go_sem] Oper.semAt_some
def WmV.sel (m : WmV) : WmV :=
 let x : WmV := WmV.only m.kind m.session m.seq
 if m.kind = 3 ∨ m.kind = 4 then { x with la := m.la, lc := m.lc, lo := m.lo, ha := m.ha, hc := m.hc, hi := m.hi }
 else if m.kind = 5 ∨ m.kind = 6 then { x with n := m.n }
 else if m.kind = 17 then { x with lsn := m.lsn, count := m.count, sum := m.sum, size := m.size, file := m.file }
 else if m.kind = 18 then { x with sa := m.sa, sc := m.sc, subs := m.subs }
 else if m.kind = 19 then { x with la := m.la, lc := m.lc, lo := m.lo, ha := m.ha, hc := m.hc, hi := m.hi, sa := m.sa, sc := m.sc, subs := m.subs }
 else if m.kind = 20 then { x with la := m.la, lc := m.lc, lo := m.lo, ha := m.ha, hc := m.hc, hi := m.hi, more := m.more, ea := m.ea, ec := m.ec, ents := m.ents }
 else if m.kind = 21 then { x with n := m.n, ga := m.ga, gc := m.gc, sigs := m.sigs }
 else if m.kind = 22 then { x with n := m.n, da := m.da, dc := m.dc, data := m.data } else x
theorem WmV.sel_x (m : WmV) : m.sel.x = m.x.only := by
 have hk : m.x.kind = m.kind := rfl
 unfold WmV.sel Wm.only
 rw [hk]
 repeat' split
 all_goals rfl
theorem WmV.only_ok {k : Int} {s q : Nat} (h1 : -9223372036854775808 ≤ k) (h2 : k ≤ 9223372036854775807) (h3 : s < 4294967296) (h4 : q < 4294967296) : (WmV.only k s q).Ok := by
 constructor <;> first | assumption | (simp [WmV.only, WmV.nul]; done) | (simp only [WmV.only]; assumption)
theorem WmV.sel_in {w : World} {m : WmV} (h : m.In w) : m.sel.In w := by
 have k := h.ok
 have h0 : (WmV.only m.kind m.session m.seq).In w := ⟨WmV.only_ok k.klo k.khi k.session k.seq, RdB.nil_ _ _, RdB.nil_ _ _, RdW.nil_ _ _, RdE.nil_ _ _, RdG.nil_ _ _, RdB.nil_ _ _⟩
 unfold WmV.sel
 repeat' split
 ·
  exact { h0 with ok := { h0.ok with lcap := k.lcap, hcap := k.hcap }, lr := h.lr, hr := h.hr }
 ·
  exact { h0 with ok := { h0.ok with nlo := k.nlo, nhi := k.nhi } }
 ·
  exact { h0 with ok := { h0.ok with lsn := k.lsn, clo := k.clo, chi := k.chi, sum := k.sum, zlo := k.zlo, zhi := k.zhi, file := k.file } }
 ·
  exact { h0 with ok := { h0.ok with scap := k.scap }, sr := h.sr }
 ·
  exact { h0 with ok := { h0.ok with lcap := k.lcap, hcap := k.hcap, scap := k.scap }, lr := h.lr, hr := h.hr, sr := h.sr }
 ·
  exact { h0 with ok := { h0.ok with lcap := k.lcap, hcap := k.hcap, ecap := k.ecap }, lr := h.lr, hr := h.hr, er := h.er }
 ·
  exact { h0 with ok := { h0.ok with nlo := k.nlo, nhi := k.nhi, gcap := k.gcap }, gr := h.gr }
 ·
  exact { h0 with ok := { h0.ok with nlo := k.nlo, nhi := k.nhi, dcap := k.dcap }, dr := h.dr }
 ·
  exact h0
set_option maxRecDepth 100000 in
set_option maxHeartbeats 4000000 in
theorem rplain_any (M : WmV) (w : World) (hM : M.In w) : Calls Tryz.prog 88 #[.agg M.cells] w fun e w' => e = .returned (.agg (WmV.only M.kind M.session M.seq).cells) ∧ Ext w w' := by
 obtain ⟨W0, hW0⟩ : ∃ W0, W0 = w.alloc (.cells M.cells MT) := ⟨_, rfl⟩
 have hx0 : Ext w W0 := by rw [hW0]; exact Ext.alloc _ _
 have g0 : W0.heap[w.heap.size]? = some (.cells M.cells MT (0, 0)) := by rw [hW0]; exact heap_alloc_new w _
 have a0 : W0.cell? ⟨w.heap.size, 0, none⟩ = _ := (cell_of_row _ _ 0 _ _ _ g0).trans (WmV.at0 M)
 have a1 : W0.cell? ⟨w.heap.size, 1, none⟩ = _ := (cell_of_row _ _ 1 _ _ _ g0).trans (WmV.at1 M)
 have a2 : W0.cell? ⟨w.heap.size, 2, none⟩ = _ := (cell_of_row _ _ 2 _ _ _ g0).trans (WmV.at2 M)
 have hok := WmV.only_ok hM.ok.klo hM.ok.khi hM.ok.session hM.ok.seq
 have hi := WmV.info hok
 have hs := WmV.size78 hok
 have ho := WmV.one (WmV.only M.kind M.session M.seq)
 obtain ⟨k, hk⟩ : ∃ k, k = M.kind := ⟨_, rfl⟩
 obtain ⟨s, hs1⟩ : ∃ k, k = M.session := ⟨_, rfl⟩
 obtain ⟨q, hq⟩ : ∃ k, k = M.seq := ⟨_, rfl⟩
 rw [← hk] at a0
 rw [← hs1] at a1
 rw [← hq] at a2
 rw [← hk, ← hs1, ← hq] at hi hs ho ⊢
 obtain ⟨P, hP⟩ : ∃ P, P = M.cells := ⟨_, rfl⟩
 rw [← hP] at hW0 ⊢
 have HW0 := Lib.hid hW0
 have X0 := Lib.hid hx0
 have hz : w.heap.size < W0.heap.size := lt_of_heap g0
 obtain ⟨W1, hW1⟩ : ∃ W1, W1 = W0.alloc (.cells WmV.nul.cells MT (0, 0)) := ⟨_, rfl⟩
 have hx1 : Ext W0 W1 := by rw [hW1]; exact Ext.alloc _ _
 have b0 := Ext.load hx1 a0
 have b1 := Ext.load hx1 a1
 have b2 := Ext.load hx1 a2
 have hn : W1.heap[W0.heap.size]? = some (.cells WmV.nul.cells MT (0, 0)) := by rw [hW1]; exact heap_alloc_new W0 _
 have hgr := setRow_heap W1 W0.heap.size _ (WmV.only k s q).cells _ _ hn
 have X2 := Lib.hid (show Ext w (W1.setRow W0.heap.size (WmV.only k s q).cells) from (hx0.tr hx1).trans ((Trn.set (S := fun i => i = W0.heap.size) W1 W0.heap.size (WmV.only k s q).cells rfl).below (hx0.tr hx1).size (fun i e => by subst e; omega)))
 have HW1 := Lib.hid hW1
 clear hW0 hx0 g0 a0 a1 a2 hW1 hx1 hP hM hok hk hs1 hq
 go_enter Tryz.func88, Tryz.ntmps88
 go_wp2_with (first | (rw [← HW0.out]; refine wpList_run rfl _ _ (ex_allocMsg rfl) ?_; rw [← HW1.out]) | (refine wpList_run rfl _ _ (ex_buildMsg3 _ _ _ rfl k s q rfl rfl rfl) ?_) | (refine wpList_store_row rfl MT (.tmp 2) (.tmp 9) rfl W0.heap.size (WmV.only k s q).cells rfl rfl MT _ hn hi (by rw [hs]; rfl) ho ?_))
 (try simp only [Exit.inBlock, Exit.then])
 refine bodyPost_ret (results_cell_row rfl _ _ W0.heap.size MT (WmV.only k s q).cells (0, 0) _ rfl hgr Tryz.underlying31 rfl hi) rfl ?_
 exact ⟨rfl, X2.out⟩
def ROnly (M : WmV) (w : World) (e : Ending) (w' : World) : Prop := ∃ X : WmV, e = .returned (.tuple #[.agg X.cells, .bool (Wm.known M.kind)]) ∧ X.x = M.x.only ∧ X.In w' ∧ Ext w w'
set_option maxRecDepth 100000 in
set_option maxHeartbeats 8000000 in
theorem ronly_any (M : WmV) (w : World) (hM : M.In w) : Calls Tryz.prog 68 #[.agg M.cells] w (ROnly M w) := by
 obtain ⟨W0, hW0⟩ : ∃ W0, W0 = w.alloc (.cells M.cells MT) := ⟨_, rfl⟩
 have hx0 : Ext w W0 := by rw [hW0]; exact Ext.alloc _ _
 have g0 : W0.heap[w.heap.size]? = some (.cells M.cells MT (0, 0)) := by rw [hW0]; exact heap_alloc_new w _
 have hz : w.heap.size < W0.heap.size := lt_of_heap g0
 have hi0 := WmV.info hM.ok
 have a0 : W0.cell? ⟨w.heap.size, 0, none⟩ = _ := (cell_of_row _ _ 0 _ _ _ g0).trans (WmV.at0 M)
 have a3 : W0.cell? ⟨w.heap.size, 3, none⟩ = _ := (cell_of_row _ _ 3 _ _ _ g0).trans (WmV.at3 M)
 have a4 : W0.cell? ⟨w.heap.size, 4, none⟩ = _ := (cell_of_row _ _ 4 _ _ _ g0).trans (WmV.at4 M)
 have a5 : W0.cell? ⟨w.heap.size, 5, none⟩ = _ := (cell_of_row _ _ 5 _ _ _ g0).trans (WmV.at5 M)
 have a6 : W0.cell? ⟨w.heap.size, 6, none⟩ = _ := (cell_of_row _ _ 6 _ _ _ g0).trans (WmV.at6 M)
 have a7 : W0.cell? ⟨w.heap.size, 7, none⟩ = _ := (cell_of_row _ _ 7 _ _ _ g0).trans (WmV.at7 M)
 have a40 : W0.cell? ⟨w.heap.size, 40, none⟩ = _ := (cell_of_row _ _ 40 _ _ _ g0).trans (WmV.at40 hM.ok)
 have a73 : W0.cell? ⟨w.heap.size, 73, none⟩ = _ := (cell_of_row _ _ 73 _ _ _ g0).trans (WmV.at73 hM.ok)
 have a74 : W0.cell? ⟨w.heap.size, 74, none⟩ = _ := (cell_of_row _ _ 74 _ _ _ g0).trans (WmV.at74 hM.ok)
 have a75 : W0.cell? ⟨w.heap.size, 75, none⟩ = _ := (cell_of_row _ _ 75 _ _ _ g0).trans (WmV.at75 hM.ok)
 have a76 : W0.cell? ⟨w.heap.size, 76, none⟩ = _ := (cell_of_row _ _ 76 _ _ _ g0).trans (WmV.at76 hM.ok)
 have a77 : W0.cell? ⟨w.heap.size, 77, none⟩ = _ := (cell_of_row _ _ 77 _ _ _ g0).trans (WmV.at77 hM.ok)
 have s8 : ∀ j u, ((bvs M.sum).toArray)[j]? = some u → W0.cell? ((⟨w.heap.size, 8, none⟩ : Addr).add j) = some u := fun j u hj => by
  have hj2 : j < 32 := by have := (Array.getElem?_eq_some_iff.1 hj).1; rw [List.size_toArray, bvs_len, hM.ok.sum] at this; exact this
  rw [Addr.add_lit, cell_of_row _ _ _ _ _ _ g0, WmV.at8 hM.ok j hj2]; simpa using hj
 have s41 : ∀ j u, ((bvs M.file).toArray)[j]? = some u → W0.cell? ((⟨w.heap.size, 41, none⟩ : Addr).add j) = some u := fun j u hj => by
  have hj2 : j < 32 := by have := (Array.getElem?_eq_some_iff.1 hj).1; rw [List.size_toArray, bvs_len, hM.ok.file] at this; exact this
  rw [Addr.add_lit, cell_of_row _ _ _ _ _ _ g0, WmV.at41 hM.ok j hj2]; simpa using hj
 obtain ⟨W1, hW1⟩ : ∃ W1, W1 = W0.alloc (.cells WmV.nul.cells MT (0, 0)) := ⟨_, rfl⟩
 have hx1 : Ext W0 W1 := by rw [hW1]; exact Ext.alloc _ _
 have hn : W1.heap[W0.heap.size]? = some (.cells WmV.nul.cells MT (0, 0)) := by rw [hW1]; exact heap_alloc_new W0 _
 obtain ⟨g2, hg2⟩ : ∃ g, g = W0.heap.size := ⟨_, rfl⟩
 have HPL := Lib.hid (rplain_any M W1 (hM.ext (hx0.tr hx1)))
 have g01 := Lib.hid ((hx1.block _ (lt_of_heap g0)).trans g0)
 have HM := Lib.hid hM
 obtain ⟨P, hP⟩ : ∃ P, P = M.cells := ⟨_, rfl⟩
 rw [← hP] at hW0 g01 HPL hi0 ⊢
 have HW0 := Lib.hid hW0
 have HW1 := Lib.hid hW1
 have Hg2 := Lib.hid hg2
 rw [← hg2] at hn
 clear hW0 hW1 hP hg2 g0
 go_enter Tryz.func68, Tryz.ntmps68
 go_wp2_with (first | (rw [← HW0.out]; refine wpList_run rfl _ _ (ex_allocMsg rfl) ?_; rw [← HW1.out, ← Hg2.out]) | (refine wpList_load_rowG (by rfl) MT (.tmp 1) rfl w.heap.size rfl MT P (0, 0) _ g01.out Tryz.underlying31 rfl hi0 ?_) | (go_at_call 88; refine HPL.out.mono ?_; rintro e2 w2 ⟨rfl, hx2⟩; refine Hid.out ?_))
 have ok0 := WmV.only_ok hM.ok.klo hM.ok.khi hM.ok.session hM.ok.seq
 have i0 := WmV.info ok0
 have z0 := WmV.size78 ok0
 have o0 := WmV.one (WmV.only M.kind M.session M.seq)
 obtain ⟨X0, hX0⟩ : ∃ X, X = WmV.only M.kind M.session M.seq := ⟨_, rfl⟩
 rw [← hX0] at i0 z0 o0 ok0 ⊢
 obtain ⟨W3, hW3⟩ : ∃ W3, W3 = w2.alloc (.cells X0.cells MT) := ⟨_, rfl⟩
 have hx23 : Ext w2 W3 := by rw [hW3]; exact Ext.alloc _ _
 have hg4 : W3.heap[w2.heap.size]? = some (.cells X0.cells MT (0, 0)) := by rw [hW3]; exact heap_alloc_new w2 _
 have hx13 := hx2.tr hx23
 have hx3 := hx1.tr hx13
 have hn3 := (hx13.block _ (lt_of_heap hn)).trans hn
 have hXw := hx0.tr hx3
 have a0 := Ext.load hx3 a0
 have a3 := Ext.load hx3 a3
 have a4 := Ext.load hx3 a4
 have a5 := Ext.load hx3 a5
 have a6 := Ext.load hx3 a6
 have a7 := Ext.load hx3 a7
 have a40 := Ext.load hx3 a40
 have a73 := Ext.load hx3 a73
 have a74 := Ext.load hx3 a74
 have a75 := Ext.load hx3 a75
 have a76 := Ext.load hx3 a76
 have a77 := Ext.load hx3 a77
 have s8 := fun j u hj => Ext.load hx3 (s8 j u hj)
 have s41 := fun j u hj => Ext.load hx3 (s41 j u hj)
 have hlt2 : g2 < w2.heap.size := Nat.lt_of_lt_of_le (lt_of_heap hn) hx2.size
 have hz2 : w.heap.size < g2 := by rw [Hg2.out]; exact hz
 obtain ⟨g4, hg4d⟩ : ∃ g, g = w2.heap.size := ⟨_, rfl⟩
 have HG4e := Lib.hid hg4d
 rw [← hg4d] at hg4 hlt2
 have hfin : ∀ V, Trn (fun i => i = g4 ∨ i = g2) W3 V → Ext w V := fun V hV => hXw.trans (hV.below hXw.size (fun i e => by rcases e with e | e <;> omega))
 have HW3 := Lib.hid hW3
 have HFIN := Lib.hid hfin
 have HN3 := Lib.hid hn3
 have HG4 := Lib.hid hg4
 have HX0 := Lib.hid hX0
 have HS8 := Lib.hid s8
 have HS41 := Lib.hid s41
 have OK0 := Lib.hid ok0
 have hg04 : ¬ w.heap.size = g4 := by omega
 have hg24 : ¬ g2 = g4 := by omega
 clear hW3 hfin hn3 hg4 hX0 s8 s41 ok0 hx0 hx1 hx2 hx23 hx13 hx3 hXw hn hM hg4d HPL g01 hz hi0
 refine Lib.hid ?_
 go_wp2_with (first | (refine wpList_run rfl _ _ (ex_allocMsg rfl) ?_) | (refine wpList_store_row rfl MT (.tmp 4) (.tmp 6) rfl w2.heap.size X0.cells rfl rfl MT _ (heap_alloc_new w2 _) i0 (by rw [z0]; rfl) o0 ?_; rw [setRow_alloc, ← HW3.out]; refine Hid.out ?_))
 rw [← HG4e.out]
 refine Lib.hid ?_
 clear i0 z0 o0
 by_cases hk : M.kind = 1
 ·
  have hn3 := HN3.out
  have g4r := HG4.out
  have iN := WmV.info OK0.out
  have sN := WmV.size78 OK0.out
  have oN := WmV.one X0
  have hXs : X0 = M.sel := by
   rw [HX0.out]
   unfold WmV.sel
   rw [if_neg (by rw [hk]; decide)]
   rw [if_neg (by rw [hk]; decide)]
   rw [if_neg (by rw [hk]; decide)]
   rw [if_neg (by rw [hk]; decide)]
   rw [if_neg (by rw [hk]; decide)]
   rw [if_neg (by rw [hk]; decide)]
   rw [if_neg (by rw [hk]; decide)]
   rw [if_neg (by rw [hk]; decide)]
  have hgr := setRow_heap W3 g2 _ X0.cells _ _ hn3
  have TF : Trn (fun i => i = g4 ∨ i = g2) W3 (W3.setRow g2 X0.cells) := Trn.set _ _ _ (.inr rfl)
  have XF := Lib.hid (HFIN.out _ TF)
  have HXs := Lib.hid hXs
  clear hXs TF
  go_wp2_with (first | (refine wpList_load_rowG (by rfl) MT (.tmp 4) rfl g4 rfl MT X0.cells (0, 0) _ g4r Tryz.underlying31 rfl iN ?_) | (refine wpList_store_row rfl MT (.tmp 2) (.tmp 91) rfl g2 X0.cells rfl rfl MT _ hn3 iN (by rw [sN]; rfl) oN ?_))
  (try simp only [Exit.inBlock, Exit.then])
  refine bodyPost_ret (results_row_tmpM rfl _ _ g2 MT X0.cells (0, 0) _ rfl hgr Tryz.underlying31 rfl iN) rfl ?_
  exact ⟨X0, by rw [show Wm.known M.kind = true from by rw [hk]; decide]; rfl, by rw [HXs.out]; exact WmV.sel_x M, (by have h := WmV.sel_in (HM.out.ext XF.out); rw [← HXs.out] at h; exact h), XF.out⟩
 ·
  by_cases hk : M.kind = 2
  ·
   have hn3 := HN3.out
   have g4r := HG4.out
   have iN := WmV.info OK0.out
   have sN := WmV.size78 OK0.out
   have oN := WmV.one X0
   have hXs : X0 = M.sel := by
    rw [HX0.out]
    unfold WmV.sel
    rw [if_neg (by rw [hk]; decide)]
    rw [if_neg (by rw [hk]; decide)]
    rw [if_neg (by rw [hk]; decide)]
    rw [if_neg (by rw [hk]; decide)]
    rw [if_neg (by rw [hk]; decide)]
    rw [if_neg (by rw [hk]; decide)]
    rw [if_neg (by rw [hk]; decide)]
    rw [if_neg (by rw [hk]; decide)]
   have hgr := setRow_heap W3 g2 _ X0.cells _ _ hn3
   have TF : Trn (fun i => i = g4 ∨ i = g2) W3 (W3.setRow g2 X0.cells) := Trn.set _ _ _ (.inr rfl)
   have XF := Lib.hid (HFIN.out _ TF)
   have HXs := Lib.hid hXs
   clear hXs TF
   go_wp2_with (first | (refine wpList_load_rowG (by rfl) MT (.tmp 4) rfl g4 rfl MT X0.cells (0, 0) _ g4r Tryz.underlying31 rfl iN ?_) | (refine wpList_store_row rfl MT (.tmp 2) (.tmp 91) rfl g2 X0.cells rfl rfl MT _ hn3 iN (by rw [sN]; rfl) oN ?_))
   (try simp only [Exit.inBlock, Exit.then])
   refine bodyPost_ret (results_row_tmpM rfl _ _ g2 MT X0.cells (0, 0) _ rfl hgr Tryz.underlying31 rfl iN) rfl ?_
   exact ⟨X0, by rw [show Wm.known M.kind = true from by rw [hk]; decide]; rfl, by rw [HXs.out]; exact WmV.sel_x M, (by have h := WmV.sel_in (HM.out.ext XF.out); rw [← HXs.out] at h; exact h), XF.out⟩
  ·
   by_cases hk : M.kind = 3
   ·
    obtain ⟨X1, hX1⟩ : ∃ X, X = ({ X0 with la := M.la, lc := M.lc, lo := M.lo } : WmV) := ⟨_, rfl⟩
    have ok1 : X1.Ok := by rw [hX1]; exact { OK0.out with lcap := HM.out.ok.lcap }
    obtain ⟨X2, hX2⟩ : ∃ X, X = ({ X1 with ha := M.ha, hc := M.hc, hi := M.hi } : WmV) := ⟨_, rfl⟩
    have ok2 : X2.Ok := by rw [hX2]; exact { ok1 with hcap := HM.out.ok.hcap }
    have HX1 := Lib.hid hX1
    have HX2 := Lib.hid hX2
    clear hX1 hX2
    have G0 : W3.drew.heap[g4]? = some (.cells X0.cells MT (0, 0)) := HG4.out
    obtain ⟨V1, hV1⟩ : ∃ V, V = (W3.drew).setRow g4 X1.cells := ⟨_, rfl⟩
    have G1 : V1.heap[g4]? = some (.cells X1.cells MT (0, 0)) := by rw [hV1]; exact setRow_heap _ _ _ _ _ _ G0
    have T1 : Trn (fun i => i = g4) W3.drew V1 := by rw [hV1]; exact Trn.set _ _ _ rfl
    have HV1 := Lib.hid hV1
    clear hV1
    obtain ⟨V2, hV2⟩ : ∃ V, V = (V1).setRow g4 X2.cells := ⟨_, rfl⟩
    have G2 : V2.heap[g4]? = some (.cells X2.cells MT (0, 0)) := by rw [hV2]; exact setRow_heap _ _ _ _ _ _ G1
    have T2 : Trn (fun i => i = g4) V1 V2 := by rw [hV2]; exact Trn.set _ _ _ rfl
    have HV2 := Lib.hid hV2
    clear hV2
    go_wp2_with fail
    have e3 := Ext.load (Ext.drew W3) a3
    have e4 := Ext.load (Ext.drew W3) a4
    refine rr_start (trnW (fun i => i = g4)) [0, 2, 4, 6] (by kernel_rfl) ?_
    refine qAD 0 rfl ?_
    simp only [sP]
    refine qS 1 rfl ⟨_, fun w' hx => by have hcx := Trn.load hx e3 (by show ¬ _ = _; exact hg04); (go_simp <;> with_reducible rfl), ?_⟩
    simp only [sP]
    refine qAD 2 rfl ?_
    simp only [sP]
    refine qS 3 rfl ⟨_, fun w' hx => by have hcx := Trn.load hx e4 (by show ¬ _ = _; exact hg04); (go_simp <;> with_reducible rfl), ?_⟩
    simp only [sP]
    refine qAD 4 rfl ?_
    simp only [sP]
    refine rr_storeR 5 rfl (by kernel_rfl) (by rfl) ⟨V1, by rw [HV1.out]; exact ex_put1 22 (.tmp 20) (.tmp 17) rfl ⟨g4, 3, none⟩ rfl g4 3 rfl (.slice M.la M.lo.length M.lc) rfl [.slice M.la M.lo.length M.lc] rfl X0.cells MT G0 (by kernel_rfl) (by rw [WmV.size78 OK0.out]; simp) (by simp [Value.oneCell']) X1.cells (by rw [HX1.out]; exact WmV.put3 X0 M.la M.lc M.lo), T1, ?_⟩
    simp only [Act.put]
    refine qAD 6 rfl ?_
    simp only [sP]
    refine rr_storeR 7 rfl (by kernel_rfl) (by rfl) ⟨V2, by rw [HV2.out]; exact ex_put1 22 (.tmp 21) (.tmp 19) rfl ⟨g4, 4, none⟩ rfl g4 4 rfl (.slice M.ha M.hi.length M.hc) rfl [.slice M.ha M.hi.length M.hc] rfl X1.cells MT G1 (by kernel_rfl) (by rw [WmV.size78 ok1]; simp) (by simp [Value.oneCell']) X2.cells (by rw [HX2.out]; exact WmV.put4 X1 M.ha M.hc M.hi), T2, ?_⟩
    simp only [Act.put]
    refine rr_done (by kernel_rfl) ?_
    clear e3 e4
    have TT : Trn (fun i => i = g4) W3 V2 := Trn.tr (Trn.ext (Ext.drew W3)) (Trn.tr (T1) T2)
    have hn3 := TT.row HN3.out hg24
    have g4r := G2
    have iN := WmV.info ok2
    have sN := WmV.size78 ok2
    have oN := WmV.one X2
    have hXs : X2 = M.sel := by
     rw [HX2.out, HX1.out, HX0.out]
     unfold WmV.sel
     rw [if_pos (by rw [hk]; decide)]
    have hgr := setRow_heap V2 g2 _ X2.cells _ _ hn3
    have TF : Trn (fun i => i = g4 ∨ i = g2) W3 (V2.setRow g2 X2.cells) := (TT.mono (fun i h _ => .inl h)).tr (Trn.set _ _ _ (.inr rfl))
    have XF := Lib.hid (HFIN.out _ TF)
    have HXs := Lib.hid hXs
    clear hXs TF
    go_wp2_with (first | (refine wpList_load_rowG (by rfl) MT (.tmp 4) rfl g4 rfl MT X2.cells (0, 0) _ g4r Tryz.underlying31 rfl iN ?_) | (refine wpList_store_row rfl MT (.tmp 2) (.tmp 91) rfl g2 X2.cells rfl rfl MT _ hn3 iN (by rw [sN]; rfl) oN ?_))
    (try simp only [Exit.inBlock, Exit.then])
    refine bodyPost_ret (results_row_tmpM rfl _ _ g2 MT X2.cells (0, 0) _ rfl hgr Tryz.underlying31 rfl iN) rfl ?_
    exact ⟨X2, by rw [show Wm.known M.kind = true from by rw [hk]; decide]; rfl, by rw [HXs.out]; exact WmV.sel_x M, (by have h := WmV.sel_in (HM.out.ext XF.out); rw [← HXs.out] at h; exact h), XF.out⟩
   ·
    by_cases hk : M.kind = 4
    ·
     obtain ⟨X1, hX1⟩ : ∃ X, X = ({ X0 with la := M.la, lc := M.lc, lo := M.lo } : WmV) := ⟨_, rfl⟩
     have ok1 : X1.Ok := by rw [hX1]; exact { OK0.out with lcap := HM.out.ok.lcap }
     obtain ⟨X2, hX2⟩ : ∃ X, X = ({ X1 with ha := M.ha, hc := M.hc, hi := M.hi } : WmV) := ⟨_, rfl⟩
     have ok2 : X2.Ok := by rw [hX2]; exact { ok1 with hcap := HM.out.ok.hcap }
     have HX1 := Lib.hid hX1
     have HX2 := Lib.hid hX2
     clear hX1 hX2
     have G0 : W3.drew.heap[g4]? = some (.cells X0.cells MT (0, 0)) := HG4.out
     obtain ⟨V1, hV1⟩ : ∃ V, V = (W3.drew).setRow g4 X1.cells := ⟨_, rfl⟩
     have G1 : V1.heap[g4]? = some (.cells X1.cells MT (0, 0)) := by rw [hV1]; exact setRow_heap _ _ _ _ _ _ G0
     have T1 : Trn (fun i => i = g4) W3.drew V1 := by rw [hV1]; exact Trn.set _ _ _ rfl
     have HV1 := Lib.hid hV1
     clear hV1
     obtain ⟨V2, hV2⟩ : ∃ V, V = (V1).setRow g4 X2.cells := ⟨_, rfl⟩
     have G2 : V2.heap[g4]? = some (.cells X2.cells MT (0, 0)) := by rw [hV2]; exact setRow_heap _ _ _ _ _ _ G1
     have T2 : Trn (fun i => i = g4) V1 V2 := by rw [hV2]; exact Trn.set _ _ _ rfl
     have HV2 := Lib.hid hV2
     clear hV2
     go_wp2_with fail
     have e3 := Ext.load (Ext.drew W3) a3
     have e4 := Ext.load (Ext.drew W3) a4
     refine rr_start (trnW (fun i => i = g4)) [0, 2, 4, 6] (by kernel_rfl) ?_
     refine qAD 0 rfl ?_
     simp only [sP]
     refine qS 1 rfl ⟨_, fun w' hx => by have hcx := Trn.load hx e3 (by show ¬ _ = _; exact hg04); (go_simp <;> with_reducible rfl), ?_⟩
     simp only [sP]
     refine qAD 2 rfl ?_
     simp only [sP]
     refine qS 3 rfl ⟨_, fun w' hx => by have hcx := Trn.load hx e4 (by show ¬ _ = _; exact hg04); (go_simp <;> with_reducible rfl), ?_⟩
     simp only [sP]
     refine qAD 4 rfl ?_
     simp only [sP]
     refine rr_storeR 5 rfl (by kernel_rfl) (by rfl) ⟨V1, by rw [HV1.out]; exact ex_put1 22 (.tmp 20) (.tmp 17) rfl ⟨g4, 3, none⟩ rfl g4 3 rfl (.slice M.la M.lo.length M.lc) rfl [.slice M.la M.lo.length M.lc] rfl X0.cells MT G0 (by kernel_rfl) (by rw [WmV.size78 OK0.out]; simp) (by simp [Value.oneCell']) X1.cells (by rw [HX1.out]; exact WmV.put3 X0 M.la M.lc M.lo), T1, ?_⟩
     simp only [Act.put]
     refine qAD 6 rfl ?_
     simp only [sP]
     refine rr_storeR 7 rfl (by kernel_rfl) (by rfl) ⟨V2, by rw [HV2.out]; exact ex_put1 22 (.tmp 21) (.tmp 19) rfl ⟨g4, 4, none⟩ rfl g4 4 rfl (.slice M.ha M.hi.length M.hc) rfl [.slice M.ha M.hi.length M.hc] rfl X1.cells MT G1 (by kernel_rfl) (by rw [WmV.size78 ok1]; simp) (by simp [Value.oneCell']) X2.cells (by rw [HX2.out]; exact WmV.put4 X1 M.ha M.hc M.hi), T2, ?_⟩
     simp only [Act.put]
     refine rr_done (by kernel_rfl) ?_
     clear e3 e4
     have TT : Trn (fun i => i = g4) W3 V2 := Trn.tr (Trn.ext (Ext.drew W3)) (Trn.tr (T1) T2)
     have hn3 := TT.row HN3.out hg24
     have g4r := G2
     have iN := WmV.info ok2
     have sN := WmV.size78 ok2
     have oN := WmV.one X2
     have hXs : X2 = M.sel := by
      rw [HX2.out, HX1.out, HX0.out]
      unfold WmV.sel
      rw [if_pos (by rw [hk]; decide)]
     have hgr := setRow_heap V2 g2 _ X2.cells _ _ hn3
     have TF : Trn (fun i => i = g4 ∨ i = g2) W3 (V2.setRow g2 X2.cells) := (TT.mono (fun i h _ => .inl h)).tr (Trn.set _ _ _ (.inr rfl))
     have XF := Lib.hid (HFIN.out _ TF)
     have HXs := Lib.hid hXs
     clear hXs TF
     go_wp2_with (first | (refine wpList_load_rowG (by rfl) MT (.tmp 4) rfl g4 rfl MT X2.cells (0, 0) _ g4r Tryz.underlying31 rfl iN ?_) | (refine wpList_store_row rfl MT (.tmp 2) (.tmp 91) rfl g2 X2.cells rfl rfl MT _ hn3 iN (by rw [sN]; rfl) oN ?_))
     (try simp only [Exit.inBlock, Exit.then])
     refine bodyPost_ret (results_row_tmpM rfl _ _ g2 MT X2.cells (0, 0) _ rfl hgr Tryz.underlying31 rfl iN) rfl ?_
     exact ⟨X2, by rw [show Wm.known M.kind = true from by rw [hk]; decide]; rfl, by rw [HXs.out]; exact WmV.sel_x M, (by have h := WmV.sel_in (HM.out.ext XF.out); rw [← HXs.out] at h; exact h), XF.out⟩
    ·
     by_cases hk : M.kind = 5
     ·
      obtain ⟨X1, hX1⟩ : ∃ X, X = ({ X0 with n := M.n } : WmV) := ⟨_, rfl⟩
      have ok1 : X1.Ok := by rw [hX1]; exact { OK0.out with nlo := HM.out.ok.nlo, nhi := HM.out.ok.nhi }
      have HX1 := Lib.hid hX1
      clear hX1
      have G0 : W3.heap[g4]? = some (.cells X0.cells MT (0, 0)) := HG4.out
      obtain ⟨V1, hV1⟩ : ∃ V, V = (W3).setRow g4 X1.cells := ⟨_, rfl⟩
      have G1 : V1.heap[g4]? = some (.cells X1.cells MT (0, 0)) := by rw [hV1]; exact setRow_heap _ _ _ _ _ _ G0
      have T1 : Trn (fun i => i = g4) W3 V1 := by rw [hV1]; exact Trn.set _ _ _ rfl
      have HV1 := Lib.hid hV1
      clear hV1
      go_wp2_with (refine wpList_put1 (by rfl) 3 (.tmp 27) (.tmp 26) rfl ⟨g4, 5, none⟩ rfl g4 5 rfl (.int .i64 M.n) rfl [.int .i64 M.n] rfl X0.cells MT G0 (by kernel_rfl) (by rw [WmV.size78 OK0.out]; simp) (by simp [Value.oneCell']) X1.cells (by rw [HX1.out]; exact WmV.put5 X0 M.n) ?_; rw [← HV1.out]; refine Hid.out ?_)
      refine Lib.hid ?_
      have TT := T1
      have hn3 := TT.row HN3.out hg24
      have g4r := G1
      have iN := WmV.info ok1
      have sN := WmV.size78 ok1
      have oN := WmV.one X1
      have hXs : X1 = M.sel := by
       rw [HX1.out, HX0.out]
       unfold WmV.sel
       rw [if_neg (by rw [hk]; decide)]
       rw [if_pos (by rw [hk]; decide)]
      have hgr := setRow_heap V1 g2 _ X1.cells _ _ hn3
      have TF : Trn (fun i => i = g4 ∨ i = g2) W3 (V1.setRow g2 X1.cells) := (TT.mono (fun i h _ => .inl h)).tr (Trn.set _ _ _ (.inr rfl))
      have XF := Lib.hid (HFIN.out _ TF)
      have HXs := Lib.hid hXs
      clear hXs TF
      go_wp2_with (first | (refine wpList_load_rowG (by rfl) MT (.tmp 4) rfl g4 rfl MT X1.cells (0, 0) _ g4r Tryz.underlying31 rfl iN ?_) | (refine wpList_store_row rfl MT (.tmp 2) (.tmp 91) rfl g2 X1.cells rfl rfl MT _ hn3 iN (by rw [sN]; rfl) oN ?_))
      (try simp only [Exit.inBlock, Exit.then])
      refine bodyPost_ret (results_row_tmpM rfl _ _ g2 MT X1.cells (0, 0) _ rfl hgr Tryz.underlying31 rfl iN) rfl ?_
      exact ⟨X1, by rw [show Wm.known M.kind = true from by rw [hk]; decide]; rfl, by rw [HXs.out]; exact WmV.sel_x M, (by have h := WmV.sel_in (HM.out.ext XF.out); rw [← HXs.out] at h; exact h), XF.out⟩
     ·
      by_cases hk : M.kind = 6
      ·
       obtain ⟨X1, hX1⟩ : ∃ X, X = ({ X0 with n := M.n } : WmV) := ⟨_, rfl⟩
       have ok1 : X1.Ok := by rw [hX1]; exact { OK0.out with nlo := HM.out.ok.nlo, nhi := HM.out.ok.nhi }
       have HX1 := Lib.hid hX1
       clear hX1
       have G0 : W3.heap[g4]? = some (.cells X0.cells MT (0, 0)) := HG4.out
       obtain ⟨V1, hV1⟩ : ∃ V, V = (W3).setRow g4 X1.cells := ⟨_, rfl⟩
       have G1 : V1.heap[g4]? = some (.cells X1.cells MT (0, 0)) := by rw [hV1]; exact setRow_heap _ _ _ _ _ _ G0
       have T1 : Trn (fun i => i = g4) W3 V1 := by rw [hV1]; exact Trn.set _ _ _ rfl
       have HV1 := Lib.hid hV1
       clear hV1
       go_wp2_with (refine wpList_put1 (by rfl) 3 (.tmp 27) (.tmp 26) rfl ⟨g4, 5, none⟩ rfl g4 5 rfl (.int .i64 M.n) rfl [.int .i64 M.n] rfl X0.cells MT G0 (by kernel_rfl) (by rw [WmV.size78 OK0.out]; simp) (by simp [Value.oneCell']) X1.cells (by rw [HX1.out]; exact WmV.put5 X0 M.n) ?_; rw [← HV1.out]; refine Hid.out ?_)
       refine Lib.hid ?_
       have TT := T1
       have hn3 := TT.row HN3.out hg24
       have g4r := G1
       have iN := WmV.info ok1
       have sN := WmV.size78 ok1
       have oN := WmV.one X1
       have hXs : X1 = M.sel := by
        rw [HX1.out, HX0.out]
        unfold WmV.sel
        rw [if_neg (by rw [hk]; decide)]
        rw [if_pos (by rw [hk]; decide)]
       have hgr := setRow_heap V1 g2 _ X1.cells _ _ hn3
       have TF : Trn (fun i => i = g4 ∨ i = g2) W3 (V1.setRow g2 X1.cells) := (TT.mono (fun i h _ => .inl h)).tr (Trn.set _ _ _ (.inr rfl))
       have XF := Lib.hid (HFIN.out _ TF)
       have HXs := Lib.hid hXs
       clear hXs TF
       go_wp2_with (first | (refine wpList_load_rowG (by rfl) MT (.tmp 4) rfl g4 rfl MT X1.cells (0, 0) _ g4r Tryz.underlying31 rfl iN ?_) | (refine wpList_store_row rfl MT (.tmp 2) (.tmp 91) rfl g2 X1.cells rfl rfl MT _ hn3 iN (by rw [sN]; rfl) oN ?_))
       (try simp only [Exit.inBlock, Exit.then])
       refine bodyPost_ret (results_row_tmpM rfl _ _ g2 MT X1.cells (0, 0) _ rfl hgr Tryz.underlying31 rfl iN) rfl ?_
       exact ⟨X1, by rw [show Wm.known M.kind = true from by rw [hk]; decide]; rfl, by rw [HXs.out]; exact WmV.sel_x M, (by have h := WmV.sel_in (HM.out.ext XF.out); rw [← HXs.out] at h; exact h), XF.out⟩
      ·
       by_cases hk : M.kind = 17
       ·
        obtain ⟨X1, hX1⟩ : ∃ X, X = ({ X0 with lsn := M.lsn } : WmV) := ⟨_, rfl⟩
        have ok1 : X1.Ok := by rw [hX1]; exact { OK0.out with lsn := HM.out.ok.lsn }
        obtain ⟨X2, hX2⟩ : ∃ X, X = ({ X1 with count := M.count } : WmV) := ⟨_, rfl⟩
        have ok2 : X2.Ok := by rw [hX2]; exact { ok1 with clo := HM.out.ok.clo, chi := HM.out.ok.chi }
        obtain ⟨X3, hX3⟩ : ∃ X, X = ({ X2 with sum := M.sum } : WmV) := ⟨_, rfl⟩
        have ok3 : X3.Ok := by rw [hX3]; exact { ok2 with sum := HM.out.ok.sum }
        obtain ⟨X4, hX4⟩ : ∃ X, X = ({ X3 with size := M.size } : WmV) := ⟨_, rfl⟩
        have ok4 : X4.Ok := by rw [hX4]; exact { ok3 with zlo := HM.out.ok.zlo, zhi := HM.out.ok.zhi }
        obtain ⟨X5, hX5⟩ : ∃ X, X = ({ X4 with file := M.file } : WmV) := ⟨_, rfl⟩
        have ok5 : X5.Ok := by rw [hX5]; exact { ok4 with file := HM.out.ok.file }
        have HX1 := Lib.hid hX1
        have HX2 := Lib.hid hX2
        have HX3 := Lib.hid hX3
        have HX4 := Lib.hid hX4
        have HX5 := Lib.hid hX5
        clear hX1 hX2 hX3 hX4 hX5
        have G0 : W3.drew.heap[g4]? = some (.cells X0.cells MT (0, 0)) := HG4.out
        obtain ⟨V1, hV1⟩ : ∃ V, V = (W3.drew).setRow g4 X1.cells := ⟨_, rfl⟩
        have G1 : V1.heap[g4]? = some (.cells X1.cells MT (0, 0)) := by rw [hV1]; exact setRow_heap _ _ _ _ _ _ G0
        have T1 : Trn (fun i => i = g4) W3.drew V1 := by rw [hV1]; exact Trn.set _ _ _ rfl
        have HV1 := Lib.hid hV1
        clear hV1
        obtain ⟨V2, hV2⟩ : ∃ V, V = (V1).setRow g4 X2.cells := ⟨_, rfl⟩
        have G2 : V2.heap[g4]? = some (.cells X2.cells MT (0, 0)) := by rw [hV2]; exact setRow_heap _ _ _ _ _ _ G1
        have T2 : Trn (fun i => i = g4) V1 V2 := by rw [hV2]; exact Trn.set _ _ _ rfl
        have HV2 := Lib.hid hV2
        clear hV2
        obtain ⟨V3, hV3⟩ : ∃ V, V = (V2).setRow g4 X3.cells := ⟨_, rfl⟩
        have G3 : V3.heap[g4]? = some (.cells X3.cells MT (0, 0)) := by rw [hV3]; exact setRow_heap _ _ _ _ _ _ G2
        have T3 : Trn (fun i => i = g4) V2 V3 := by rw [hV3]; exact Trn.set _ _ _ rfl
        have HV3 := Lib.hid hV3
        clear hV3
        obtain ⟨V4, hV4⟩ : ∃ V, V = (V3).setRow g4 X4.cells := ⟨_, rfl⟩
        have G4 : V4.heap[g4]? = some (.cells X4.cells MT (0, 0)) := by rw [hV4]; exact setRow_heap _ _ _ _ _ _ G3
        have T4 : Trn (fun i => i = g4) V3 V4 := by rw [hV4]; exact Trn.set _ _ _ rfl
        have HV4 := Lib.hid hV4
        clear hV4
        obtain ⟨V5, hV5⟩ : ∃ V, V = (V4).setRow g4 X5.cells := ⟨_, rfl⟩
        have G5 : V5.heap[g4]? = some (.cells X5.cells MT (0, 0)) := by rw [hV5]; exact setRow_heap _ _ _ _ _ _ G4
        have T5 : Trn (fun i => i = g4) V4 V5 := by rw [hV5]; exact Trn.set _ _ _ rfl
        have HV5 := Lib.hid hV5
        clear hV5
        go_wp2_with fail
        have e6 := Ext.load (Ext.drew W3) a6
        have e7 := Ext.load (Ext.drew W3) a7
        have e40 := Ext.load (Ext.drew W3) a40
        have S8 := Lib.hid (fun j u hj => Ext.load (Ext.drew W3) (HS8.out j u hj))
        have S41 := Lib.hid (fun j u hj => Ext.load (Ext.drew W3) (HS41.out j u hj))
        refine rr_start (trnW (fun i => i = g4)) [0, 2, 4, 6, 8, 10, 12, 14, 16, 18] (by kernel_rfl) ?_
        refine qAD 0 rfl ?_
        simp only [sP]
        refine qS 1 rfl ⟨_, fun w' hx => by have hcx := Trn.load hx e6 (by show ¬ _ = _; exact hg04); (go_simp <;> with_reducible rfl), ?_⟩
        simp only [sP]
        refine qAD 2 rfl ?_
        simp only [sP]
        refine qS 3 rfl ⟨_, fun w' hx => by have hcx := Trn.load hx e7 (by show ¬ _ = _; exact hg04); (go_simp <;> with_reducible rfl), ?_⟩
        simp only [sP]
        refine qAD 4 rfl ?_
        simp only [sP]
        refine qS 5 rfl ⟨.agg (bvs M.sum).toArray, fun w' hx => ex_load_cells 26 (.tmp 34) rfl ⟨w.heap.size, 8, none⟩ rfl (bvs M.sum).toArray _ (fun j u hj => Trn.load hx (S8.out j u hj) (by rw [Addr.add_lit]; exact hg04)) Tryz.underlying26 rfl (by rw [List.size_toArray, bvs_len, HM.out.ok.sum]; kernel_rfl), ?_⟩
        simp only [sP]
        refine qAD 6 rfl ?_
        simp only [sP]
        refine qS 7 rfl ⟨_, fun w' hx => by have hcx := Trn.load hx e40 (by show ¬ _ = _; exact hg04); (go_simp <;> with_reducible rfl), ?_⟩
        simp only [sP]
        refine qAD 8 rfl ?_
        simp only [sP]
        refine qS 9 rfl ⟨.agg (bvs M.file).toArray, fun w' hx => ex_load_cells 26 (.tmp 38) rfl ⟨w.heap.size, 41, none⟩ rfl (bvs M.file).toArray _ (fun j u hj => Trn.load hx (S41.out j u hj) (by rw [Addr.add_lit]; exact hg04)) Tryz.underlying26 rfl (by rw [List.size_toArray, bvs_len, HM.out.ok.file]; kernel_rfl), ?_⟩
        simp only [sP]
        refine qAD 10 rfl ?_
        simp only [sP]
        refine rr_storeR 11 rfl (by kernel_rfl) (by rfl) ⟨V1, by rw [HV1.out]; exact ex_put1 24 (.tmp 40) (.tmp 31) rfl ⟨g4, 6, none⟩ rfl g4 6 rfl (.int .u64 (M.lsn : Int)) rfl [.int .u64 (M.lsn : Int)] rfl X0.cells MT G0 (by kernel_rfl) (by rw [WmV.size78 OK0.out]; simp) (by simp [Value.oneCell']) X1.cells (by rw [HX1.out]; exact WmV.put6 X0 M.lsn), T1, ?_⟩
        simp only [Act.put]
        refine qAD 12 rfl ?_
        simp only [sP]
        refine rr_storeR 13 rfl (by kernel_rfl) (by rfl) ⟨V2, by rw [HV2.out]; exact ex_put1 3 (.tmp 41) (.tmp 33) rfl ⟨g4, 7, none⟩ rfl g4 7 rfl (.int .i64 M.count) rfl [.int .i64 M.count] rfl X1.cells MT G1 (by kernel_rfl) (by rw [WmV.size78 ok1]; simp) (by simp [Value.oneCell']) X2.cells (by rw [HX2.out]; exact WmV.put7 X1 M.count), T2, ?_⟩
        simp only [Act.put]
        refine qAD 14 rfl ?_
        simp only [sP]
        refine rr_storeR 15 rfl (by kernel_rfl) (by rfl) ⟨V3, by rw [HV3.out]; exact ex_put1 26 (.tmp 42) (.tmp 35) rfl ⟨g4, 8, none⟩ rfl g4 8 rfl (.agg (bvs M.sum).toArray) rfl (bvs M.sum) rfl X2.cells MT G2 (by rw [bvs_len, HM.out.ok.sum]; kernel_rfl) (by rw [WmV.size78 ok2, bvs_len, HM.out.ok.sum]; decide) (bvs_one _) X3.cells (by rw [HX3.out]; exact WmV.put8 ok2 M.sum HM.out.ok.sum), T3, ?_⟩
        simp only [Act.put]
        refine qAD 16 rfl ?_
        simp only [sP]
        refine rr_storeR 17 rfl (by kernel_rfl) (by rfl) ⟨V4, by rw [HV4.out]; exact ex_put1 3 (.tmp 43) (.tmp 37) rfl ⟨g4, 40, none⟩ rfl g4 40 rfl (.int .i64 M.size) rfl [.int .i64 M.size] rfl X3.cells MT G3 (by kernel_rfl) (by rw [WmV.size78 ok3]; simp) (by simp [Value.oneCell']) X4.cells (by rw [HX4.out]; exact WmV.put40 ok3 M.size), T4, ?_⟩
        simp only [Act.put]
        refine qAD 18 rfl ?_
        simp only [sP]
        refine rr_storeR 19 rfl (by kernel_rfl) (by rfl) ⟨V5, by rw [HV5.out]; exact ex_put1 26 (.tmp 44) (.tmp 39) rfl ⟨g4, 41, none⟩ rfl g4 41 rfl (.agg (bvs M.file).toArray) rfl (bvs M.file) rfl X4.cells MT G4 (by rw [bvs_len, HM.out.ok.file]; kernel_rfl) (by rw [WmV.size78 ok4, bvs_len, HM.out.ok.file]; decide) (bvs_one _) X5.cells (by rw [HX5.out]; exact WmV.put41 ok4 M.file HM.out.ok.file), T5, ?_⟩
        simp only [Act.put]
        refine rr_done (by kernel_rfl) ?_
        clear e6 e7 e40
        have TT : Trn (fun i => i = g4) W3 V5 := Trn.tr (Trn.ext (Ext.drew W3)) (Trn.tr (Trn.tr (Trn.tr (Trn.tr (T1) T2) T3) T4) T5)
        have hn3 := TT.row HN3.out hg24
        have g4r := G5
        have iN := WmV.info ok5
        have sN := WmV.size78 ok5
        have oN := WmV.one X5
        have hXs : X5 = M.sel := by
         rw [HX5.out, HX4.out, HX3.out, HX2.out, HX1.out, HX0.out]
         unfold WmV.sel
         rw [if_neg (by rw [hk]; decide)]
         rw [if_neg (by rw [hk]; decide)]
         rw [if_pos hk]
        have hgr := setRow_heap V5 g2 _ X5.cells _ _ hn3
        have TF : Trn (fun i => i = g4 ∨ i = g2) W3 (V5.setRow g2 X5.cells) := (TT.mono (fun i h _ => .inl h)).tr (Trn.set _ _ _ (.inr rfl))
        have XF := Lib.hid (HFIN.out _ TF)
        have HXs := Lib.hid hXs
        clear hXs TF
        go_wp2_with (first | (refine wpList_load_rowG (by rfl) MT (.tmp 4) rfl g4 rfl MT X5.cells (0, 0) _ g4r Tryz.underlying31 rfl iN ?_) | (refine wpList_store_row rfl MT (.tmp 2) (.tmp 91) rfl g2 X5.cells rfl rfl MT _ hn3 iN (by rw [sN]; rfl) oN ?_))
        (try simp only [Exit.inBlock, Exit.then])
        refine bodyPost_ret (results_row_tmpM rfl _ _ g2 MT X5.cells (0, 0) _ rfl hgr Tryz.underlying31 rfl iN) rfl ?_
        exact ⟨X5, by rw [show Wm.known M.kind = true from by rw [hk]; decide]; rfl, by rw [HXs.out]; exact WmV.sel_x M, (by have h := WmV.sel_in (HM.out.ext XF.out); rw [← HXs.out] at h; exact h), XF.out⟩
       ·
        by_cases hk : M.kind = 18
        ·
         obtain ⟨X1, hX1⟩ : ∃ X, X = ({ X0 with sa := M.sa, sc := M.sc, subs := M.subs } : WmV) := ⟨_, rfl⟩
         have ok1 : X1.Ok := by rw [hX1]; exact { OK0.out with scap := HM.out.ok.scap }
         have HX1 := Lib.hid hX1
         clear hX1
         have G0 : W3.heap[g4]? = some (.cells X0.cells MT (0, 0)) := HG4.out
         obtain ⟨V1, hV1⟩ : ∃ V, V = (W3).setRow g4 X1.cells := ⟨_, rfl⟩
         have G1 : V1.heap[g4]? = some (.cells X1.cells MT (0, 0)) := by rw [hV1]; exact setRow_heap _ _ _ _ _ _ G0
         have T1 : Trn (fun i => i = g4) W3 V1 := by rw [hV1]; exact Trn.set _ _ _ rfl
         have HV1 := Lib.hid hV1
         clear hV1
         go_wp2_with (refine wpList_put1 (by rfl) 27 (.tmp 49) (.tmp 48) rfl ⟨g4, 73, none⟩ rfl g4 73 rfl (.slice M.sa M.subs.length M.sc) rfl [.slice M.sa M.subs.length M.sc] rfl X0.cells MT G0 (by kernel_rfl) (by rw [WmV.size78 OK0.out]; simp) (by simp [Value.oneCell']) X1.cells (by rw [HX1.out]; exact WmV.put73 OK0.out M.sa M.sc M.subs) ?_; rw [← HV1.out]; refine Hid.out ?_)
         refine Lib.hid ?_
         have TT := T1
         have hn3 := TT.row HN3.out hg24
         have g4r := G1
         have iN := WmV.info ok1
         have sN := WmV.size78 ok1
         have oN := WmV.one X1
         have hXs : X1 = M.sel := by
          rw [HX1.out, HX0.out]
          unfold WmV.sel
          rw [if_neg (by rw [hk]; decide)]
          rw [if_neg (by rw [hk]; decide)]
          rw [if_neg (by rw [hk]; decide)]
          rw [if_pos hk]
         have hgr := setRow_heap V1 g2 _ X1.cells _ _ hn3
         have TF : Trn (fun i => i = g4 ∨ i = g2) W3 (V1.setRow g2 X1.cells) := (TT.mono (fun i h _ => .inl h)).tr (Trn.set _ _ _ (.inr rfl))
         have XF := Lib.hid (HFIN.out _ TF)
         have HXs := Lib.hid hXs
         clear hXs TF
         go_wp2_with (first | (refine wpList_load_rowG (by rfl) MT (.tmp 4) rfl g4 rfl MT X1.cells (0, 0) _ g4r Tryz.underlying31 rfl iN ?_) | (refine wpList_store_row rfl MT (.tmp 2) (.tmp 91) rfl g2 X1.cells rfl rfl MT _ hn3 iN (by rw [sN]; rfl) oN ?_))
         (try simp only [Exit.inBlock, Exit.then])
         refine bodyPost_ret (results_row_tmpM rfl _ _ g2 MT X1.cells (0, 0) _ rfl hgr Tryz.underlying31 rfl iN) rfl ?_
         exact ⟨X1, by rw [show Wm.known M.kind = true from by rw [hk]; decide]; rfl, by rw [HXs.out]; exact WmV.sel_x M, (by have h := WmV.sel_in (HM.out.ext XF.out); rw [← HXs.out] at h; exact h), XF.out⟩
        ·
         by_cases hk : M.kind = 19
         ·
          obtain ⟨X1, hX1⟩ : ∃ X, X = ({ X0 with la := M.la, lc := M.lc, lo := M.lo } : WmV) := ⟨_, rfl⟩
          have ok1 : X1.Ok := by rw [hX1]; exact { OK0.out with lcap := HM.out.ok.lcap }
          obtain ⟨X2, hX2⟩ : ∃ X, X = ({ X1 with ha := M.ha, hc := M.hc, hi := M.hi } : WmV) := ⟨_, rfl⟩
          have ok2 : X2.Ok := by rw [hX2]; exact { ok1 with hcap := HM.out.ok.hcap }
          obtain ⟨X3, hX3⟩ : ∃ X, X = ({ X2 with sa := M.sa, sc := M.sc, subs := M.subs } : WmV) := ⟨_, rfl⟩
          have ok3 : X3.Ok := by rw [hX3]; exact { ok2 with scap := HM.out.ok.scap }
          have HX1 := Lib.hid hX1
          have HX2 := Lib.hid hX2
          have HX3 := Lib.hid hX3
          clear hX1 hX2 hX3
          have G0 : W3.drew.heap[g4]? = some (.cells X0.cells MT (0, 0)) := HG4.out
          obtain ⟨V1, hV1⟩ : ∃ V, V = (W3.drew).setRow g4 X1.cells := ⟨_, rfl⟩
          have G1 : V1.heap[g4]? = some (.cells X1.cells MT (0, 0)) := by rw [hV1]; exact setRow_heap _ _ _ _ _ _ G0
          have T1 : Trn (fun i => i = g4) W3.drew V1 := by rw [hV1]; exact Trn.set _ _ _ rfl
          have HV1 := Lib.hid hV1
          clear hV1
          obtain ⟨V2, hV2⟩ : ∃ V, V = (V1).setRow g4 X2.cells := ⟨_, rfl⟩
          have G2 : V2.heap[g4]? = some (.cells X2.cells MT (0, 0)) := by rw [hV2]; exact setRow_heap _ _ _ _ _ _ G1
          have T2 : Trn (fun i => i = g4) V1 V2 := by rw [hV2]; exact Trn.set _ _ _ rfl
          have HV2 := Lib.hid hV2
          clear hV2
          obtain ⟨V3, hV3⟩ : ∃ V, V = (V2).setRow g4 X3.cells := ⟨_, rfl⟩
          have G3 : V3.heap[g4]? = some (.cells X3.cells MT (0, 0)) := by rw [hV3]; exact setRow_heap _ _ _ _ _ _ G2
          have T3 : Trn (fun i => i = g4) V2 V3 := by rw [hV3]; exact Trn.set _ _ _ rfl
          have HV3 := Lib.hid hV3
          clear hV3
          go_wp2_with fail
          have e3 := Ext.load (Ext.drew W3) a3
          have e4 := Ext.load (Ext.drew W3) a4
          have e73 := Ext.load (Ext.drew W3) a73
          refine rr_start (trnW (fun i => i = g4)) [0, 2, 4, 6, 8, 10] (by kernel_rfl) ?_
          refine qAD 0 rfl ?_
          simp only [sP]
          refine qS 1 rfl ⟨_, fun w' hx => by have hcx := Trn.load hx e3 (by show ¬ _ = _; exact hg04); (go_simp <;> with_reducible rfl), ?_⟩
          simp only [sP]
          refine qAD 2 rfl ?_
          simp only [sP]
          refine qS 3 rfl ⟨_, fun w' hx => by have hcx := Trn.load hx e4 (by show ¬ _ = _; exact hg04); (go_simp <;> with_reducible rfl), ?_⟩
          simp only [sP]
          refine qAD 4 rfl ?_
          simp only [sP]
          refine qS 5 rfl ⟨_, fun w' hx => by have hcx := Trn.load hx e73 (by show ¬ _ = _; exact hg04); (go_simp <;> with_reducible rfl), ?_⟩
          simp only [sP]
          refine qAD 6 rfl ?_
          simp only [sP]
          refine rr_storeR 7 rfl (by kernel_rfl) (by rfl) ⟨V1, by rw [HV1.out]; exact ex_put1 22 (.tmp 58) (.tmp 53) rfl ⟨g4, 3, none⟩ rfl g4 3 rfl (.slice M.la M.lo.length M.lc) rfl [.slice M.la M.lo.length M.lc] rfl X0.cells MT G0 (by kernel_rfl) (by rw [WmV.size78 OK0.out]; simp) (by simp [Value.oneCell']) X1.cells (by rw [HX1.out]; exact WmV.put3 X0 M.la M.lc M.lo), T1, ?_⟩
          simp only [Act.put]
          refine qAD 8 rfl ?_
          simp only [sP]
          refine rr_storeR 9 rfl (by kernel_rfl) (by rfl) ⟨V2, by rw [HV2.out]; exact ex_put1 22 (.tmp 59) (.tmp 55) rfl ⟨g4, 4, none⟩ rfl g4 4 rfl (.slice M.ha M.hi.length M.hc) rfl [.slice M.ha M.hi.length M.hc] rfl X1.cells MT G1 (by kernel_rfl) (by rw [WmV.size78 ok1]; simp) (by simp [Value.oneCell']) X2.cells (by rw [HX2.out]; exact WmV.put4 X1 M.ha M.hc M.hi), T2, ?_⟩
          simp only [Act.put]
          refine qAD 10 rfl ?_
          simp only [sP]
          refine rr_storeR 11 rfl (by kernel_rfl) (by rfl) ⟨V3, by rw [HV3.out]; exact ex_put1 27 (.tmp 60) (.tmp 57) rfl ⟨g4, 73, none⟩ rfl g4 73 rfl (.slice M.sa M.subs.length M.sc) rfl [.slice M.sa M.subs.length M.sc] rfl X2.cells MT G2 (by kernel_rfl) (by rw [WmV.size78 ok2]; simp) (by simp [Value.oneCell']) X3.cells (by rw [HX3.out]; exact WmV.put73 ok2 M.sa M.sc M.subs), T3, ?_⟩
          simp only [Act.put]
          refine rr_done (by kernel_rfl) ?_
          clear e3 e4 e73
          have TT : Trn (fun i => i = g4) W3 V3 := Trn.tr (Trn.ext (Ext.drew W3)) (Trn.tr (Trn.tr (T1) T2) T3)
          have hn3 := TT.row HN3.out hg24
          have g4r := G3
          have iN := WmV.info ok3
          have sN := WmV.size78 ok3
          have oN := WmV.one X3
          have hXs : X3 = M.sel := by
           rw [HX3.out, HX2.out, HX1.out, HX0.out]
           unfold WmV.sel
           rw [if_neg (by rw [hk]; decide)]
           rw [if_neg (by rw [hk]; decide)]
           rw [if_neg (by rw [hk]; decide)]
           rw [if_neg (by rw [hk]; decide)]
           rw [if_pos hk]
          have hgr := setRow_heap V3 g2 _ X3.cells _ _ hn3
          have TF : Trn (fun i => i = g4 ∨ i = g2) W3 (V3.setRow g2 X3.cells) := (TT.mono (fun i h _ => .inl h)).tr (Trn.set _ _ _ (.inr rfl))
          have XF := Lib.hid (HFIN.out _ TF)
          have HXs := Lib.hid hXs
          clear hXs TF
          go_wp2_with (first | (refine wpList_load_rowG (by rfl) MT (.tmp 4) rfl g4 rfl MT X3.cells (0, 0) _ g4r Tryz.underlying31 rfl iN ?_) | (refine wpList_store_row rfl MT (.tmp 2) (.tmp 91) rfl g2 X3.cells rfl rfl MT _ hn3 iN (by rw [sN]; rfl) oN ?_))
          (try simp only [Exit.inBlock, Exit.then])
          refine bodyPost_ret (results_row_tmpM rfl _ _ g2 MT X3.cells (0, 0) _ rfl hgr Tryz.underlying31 rfl iN) rfl ?_
          exact ⟨X3, by rw [show Wm.known M.kind = true from by rw [hk]; decide]; rfl, by rw [HXs.out]; exact WmV.sel_x M, (by have h := WmV.sel_in (HM.out.ext XF.out); rw [← HXs.out] at h; exact h), XF.out⟩
         ·
          by_cases hk : M.kind = 20
          ·
           obtain ⟨X1, hX1⟩ : ∃ X, X = ({ X0 with la := M.la, lc := M.lc, lo := M.lo } : WmV) := ⟨_, rfl⟩
           have ok1 : X1.Ok := by rw [hX1]; exact { OK0.out with lcap := HM.out.ok.lcap }
           obtain ⟨X2, hX2⟩ : ∃ X, X = ({ X1 with ha := M.ha, hc := M.hc, hi := M.hi } : WmV) := ⟨_, rfl⟩
           have ok2 : X2.Ok := by rw [hX2]; exact { ok1 with hcap := HM.out.ok.hcap }
           obtain ⟨X3, hX3⟩ : ∃ X, X = ({ X2 with more := M.more } : WmV) := ⟨_, rfl⟩
           have ok3 : X3.Ok := by rw [hX3]; exact { ok2 with  }
           obtain ⟨X4, hX4⟩ : ∃ X, X = ({ X3 with ea := M.ea, ec := M.ec, ents := M.ents } : WmV) := ⟨_, rfl⟩
           have ok4 : X4.Ok := by rw [hX4]; exact { ok3 with ecap := HM.out.ok.ecap }
           have HX1 := Lib.hid hX1
           have HX2 := Lib.hid hX2
           have HX3 := Lib.hid hX3
           have HX4 := Lib.hid hX4
           clear hX1 hX2 hX3 hX4
           have G0 : W3.drew.heap[g4]? = some (.cells X0.cells MT (0, 0)) := HG4.out
           obtain ⟨V1, hV1⟩ : ∃ V, V = (W3.drew).setRow g4 X1.cells := ⟨_, rfl⟩
           have G1 : V1.heap[g4]? = some (.cells X1.cells MT (0, 0)) := by rw [hV1]; exact setRow_heap _ _ _ _ _ _ G0
           have T1 : Trn (fun i => i = g4) W3.drew V1 := by rw [hV1]; exact Trn.set _ _ _ rfl
           have HV1 := Lib.hid hV1
           clear hV1
           obtain ⟨V2, hV2⟩ : ∃ V, V = (V1).setRow g4 X2.cells := ⟨_, rfl⟩
           have G2 : V2.heap[g4]? = some (.cells X2.cells MT (0, 0)) := by rw [hV2]; exact setRow_heap _ _ _ _ _ _ G1
           have T2 : Trn (fun i => i = g4) V1 V2 := by rw [hV2]; exact Trn.set _ _ _ rfl
           have HV2 := Lib.hid hV2
           clear hV2
           obtain ⟨V3, hV3⟩ : ∃ V, V = (V2).setRow g4 X3.cells := ⟨_, rfl⟩
           have G3 : V3.heap[g4]? = some (.cells X3.cells MT (0, 0)) := by rw [hV3]; exact setRow_heap _ _ _ _ _ _ G2
           have T3 : Trn (fun i => i = g4) V2 V3 := by rw [hV3]; exact Trn.set _ _ _ rfl
           have HV3 := Lib.hid hV3
           clear hV3
           obtain ⟨V4, hV4⟩ : ∃ V, V = (V3).setRow g4 X4.cells := ⟨_, rfl⟩
           have G4 : V4.heap[g4]? = some (.cells X4.cells MT (0, 0)) := by rw [hV4]; exact setRow_heap _ _ _ _ _ _ G3
           have T4 : Trn (fun i => i = g4) V3 V4 := by rw [hV4]; exact Trn.set _ _ _ rfl
           have HV4 := Lib.hid hV4
           clear hV4
           go_wp2_with fail
           have e3 := Ext.load (Ext.drew W3) a3
           have e4 := Ext.load (Ext.drew W3) a4
           have e74 := Ext.load (Ext.drew W3) a74
           have e75 := Ext.load (Ext.drew W3) a75
           refine rr_start (trnW (fun i => i = g4)) [0, 2, 4, 6, 8, 10, 12, 14] (by kernel_rfl) ?_
           refine qAD 0 rfl ?_
           simp only [sP]
           refine qS 1 rfl ⟨_, fun w' hx => by have hcx := Trn.load hx e3 (by show ¬ _ = _; exact hg04); (go_simp <;> with_reducible rfl), ?_⟩
           simp only [sP]
           refine qAD 2 rfl ?_
           simp only [sP]
           refine qS 3 rfl ⟨_, fun w' hx => by have hcx := Trn.load hx e4 (by show ¬ _ = _; exact hg04); (go_simp <;> with_reducible rfl), ?_⟩
           simp only [sP]
           refine qAD 4 rfl ?_
           simp only [sP]
           refine qS 5 rfl ⟨_, fun w' hx => by have hcx := Trn.load hx e74 (by show ¬ _ = _; exact hg04); (go_simp <;> with_reducible rfl), ?_⟩
           simp only [sP]
           refine qAD 6 rfl ?_
           simp only [sP]
           refine qS 7 rfl ⟨_, fun w' hx => by have hcx := Trn.load hx e75 (by show ¬ _ = _; exact hg04); (go_simp <;> with_reducible rfl), ?_⟩
           simp only [sP]
           refine qAD 8 rfl ?_
           simp only [sP]
           refine rr_storeR 9 rfl (by kernel_rfl) (by rfl) ⟨V1, by rw [HV1.out]; exact ex_put1 22 (.tmp 71) (.tmp 64) rfl ⟨g4, 3, none⟩ rfl g4 3 rfl (.slice M.la M.lo.length M.lc) rfl [.slice M.la M.lo.length M.lc] rfl X0.cells MT G0 (by kernel_rfl) (by rw [WmV.size78 OK0.out]; simp) (by simp [Value.oneCell']) X1.cells (by rw [HX1.out]; exact WmV.put3 X0 M.la M.lc M.lo), T1, ?_⟩
           simp only [Act.put]
           refine qAD 10 rfl ?_
           simp only [sP]
           refine rr_storeR 11 rfl (by kernel_rfl) (by rfl) ⟨V2, by rw [HV2.out]; exact ex_put1 22 (.tmp 72) (.tmp 66) rfl ⟨g4, 4, none⟩ rfl g4 4 rfl (.slice M.ha M.hi.length M.hc) rfl [.slice M.ha M.hi.length M.hc] rfl X1.cells MT G1 (by kernel_rfl) (by rw [WmV.size78 ok1]; simp) (by simp [Value.oneCell']) X2.cells (by rw [HX2.out]; exact WmV.put4 X1 M.ha M.hc M.hi), T2, ?_⟩
           simp only [Act.put]
           refine qAD 12 rfl ?_
           simp only [sP]
           refine rr_storeR 13 rfl (by kernel_rfl) (by rfl) ⟨V3, by rw [HV3.out]; exact ex_put1 4 (.tmp 73) (.tmp 68) rfl ⟨g4, 74, none⟩ rfl g4 74 rfl (.bool M.more) rfl [.bool M.more] rfl X2.cells MT G2 (by kernel_rfl) (by rw [WmV.size78 ok2]; simp) (by simp [Value.oneCell']) X3.cells (by rw [HX3.out]; exact WmV.put74 ok2 M.more), T3, ?_⟩
           simp only [Act.put]
           refine qAD 14 rfl ?_
           simp only [sP]
           refine rr_storeR 15 rfl (by kernel_rfl) (by rfl) ⟨V4, by rw [HV4.out]; exact ex_put1 28 (.tmp 74) (.tmp 70) rfl ⟨g4, 75, none⟩ rfl g4 75 rfl (.slice M.ea M.ents.length M.ec) rfl [.slice M.ea M.ents.length M.ec] rfl X3.cells MT G3 (by kernel_rfl) (by rw [WmV.size78 ok3]; simp) (by simp [Value.oneCell']) X4.cells (by rw [HX4.out]; exact WmV.put75 ok3 M.ea M.ec M.ents), T4, ?_⟩
           simp only [Act.put]
           refine rr_done (by kernel_rfl) ?_
           clear e3 e4 e74 e75
           have TT : Trn (fun i => i = g4) W3 V4 := Trn.tr (Trn.ext (Ext.drew W3)) (Trn.tr (Trn.tr (Trn.tr (T1) T2) T3) T4)
           have hn3 := TT.row HN3.out hg24
           have g4r := G4
           have iN := WmV.info ok4
           have sN := WmV.size78 ok4
           have oN := WmV.one X4
           have hXs : X4 = M.sel := by
            rw [HX4.out, HX3.out, HX2.out, HX1.out, HX0.out]
            unfold WmV.sel
            rw [if_neg (by rw [hk]; decide)]
            rw [if_neg (by rw [hk]; decide)]
            rw [if_neg (by rw [hk]; decide)]
            rw [if_neg (by rw [hk]; decide)]
            rw [if_neg (by rw [hk]; decide)]
            rw [if_pos hk]
           have hgr := setRow_heap V4 g2 _ X4.cells _ _ hn3
           have TF : Trn (fun i => i = g4 ∨ i = g2) W3 (V4.setRow g2 X4.cells) := (TT.mono (fun i h _ => .inl h)).tr (Trn.set _ _ _ (.inr rfl))
           have XF := Lib.hid (HFIN.out _ TF)
           have HXs := Lib.hid hXs
           clear hXs TF
           go_wp2_with (first | (refine wpList_load_rowG (by rfl) MT (.tmp 4) rfl g4 rfl MT X4.cells (0, 0) _ g4r Tryz.underlying31 rfl iN ?_) | (refine wpList_store_row rfl MT (.tmp 2) (.tmp 91) rfl g2 X4.cells rfl rfl MT _ hn3 iN (by rw [sN]; rfl) oN ?_))
           (try simp only [Exit.inBlock, Exit.then])
           refine bodyPost_ret (results_row_tmpM rfl _ _ g2 MT X4.cells (0, 0) _ rfl hgr Tryz.underlying31 rfl iN) rfl ?_
           exact ⟨X4, by rw [show Wm.known M.kind = true from by rw [hk]; decide]; rfl, by rw [HXs.out]; exact WmV.sel_x M, (by have h := WmV.sel_in (HM.out.ext XF.out); rw [← HXs.out] at h; exact h), XF.out⟩
          ·
           by_cases hk : M.kind = 21
           ·
            obtain ⟨X1, hX1⟩ : ∃ X, X = ({ X0 with n := M.n } : WmV) := ⟨_, rfl⟩
            have ok1 : X1.Ok := by rw [hX1]; exact { OK0.out with nlo := HM.out.ok.nlo, nhi := HM.out.ok.nhi }
            obtain ⟨X2, hX2⟩ : ∃ X, X = ({ X1 with ga := M.ga, gc := M.gc, sigs := M.sigs } : WmV) := ⟨_, rfl⟩
            have ok2 : X2.Ok := by rw [hX2]; exact { ok1 with gcap := HM.out.ok.gcap }
            have HX1 := Lib.hid hX1
            have HX2 := Lib.hid hX2
            clear hX1 hX2
            have G0 : W3.drew.heap[g4]? = some (.cells X0.cells MT (0, 0)) := HG4.out
            obtain ⟨V1, hV1⟩ : ∃ V, V = (W3.drew).setRow g4 X1.cells := ⟨_, rfl⟩
            have G1 : V1.heap[g4]? = some (.cells X1.cells MT (0, 0)) := by rw [hV1]; exact setRow_heap _ _ _ _ _ _ G0
            have T1 : Trn (fun i => i = g4) W3.drew V1 := by rw [hV1]; exact Trn.set _ _ _ rfl
            have HV1 := Lib.hid hV1
            clear hV1
            obtain ⟨V2, hV2⟩ : ∃ V, V = (V1).setRow g4 X2.cells := ⟨_, rfl⟩
            have G2 : V2.heap[g4]? = some (.cells X2.cells MT (0, 0)) := by rw [hV2]; exact setRow_heap _ _ _ _ _ _ G1
            have T2 : Trn (fun i => i = g4) V1 V2 := by rw [hV2]; exact Trn.set _ _ _ rfl
            have HV2 := Lib.hid hV2
            clear hV2
            go_wp2_with fail
            have e5 := Ext.load (Ext.drew W3) a5
            have e76 := Ext.load (Ext.drew W3) a76
            refine rr_start (trnW (fun i => i = g4)) [0, 2, 4, 6] (by kernel_rfl) ?_
            refine qAD 0 rfl ?_
            simp only [sP]
            refine qS 1 rfl ⟨_, fun w' hx => by have hcx := Trn.load hx e5 (by show ¬ _ = _; exact hg04); (go_simp <;> with_reducible rfl), ?_⟩
            simp only [sP]
            refine qAD 2 rfl ?_
            simp only [sP]
            refine qS 3 rfl ⟨_, fun w' hx => by have hcx := Trn.load hx e76 (by show ¬ _ = _; exact hg04); (go_simp <;> with_reducible rfl), ?_⟩
            simp only [sP]
            refine qAD 4 rfl ?_
            simp only [sP]
            refine rr_storeR 5 rfl (by kernel_rfl) (by rfl) ⟨V1, by rw [HV1.out]; exact ex_put1 3 (.tmp 81) (.tmp 78) rfl ⟨g4, 5, none⟩ rfl g4 5 rfl (.int .i64 M.n) rfl [.int .i64 M.n] rfl X0.cells MT G0 (by kernel_rfl) (by rw [WmV.size78 OK0.out]; simp) (by simp [Value.oneCell']) X1.cells (by rw [HX1.out]; exact WmV.put5 X0 M.n), T1, ?_⟩
            simp only [Act.put]
            refine qAD 6 rfl ?_
            simp only [sP]
            refine rr_storeR 7 rfl (by kernel_rfl) (by rfl) ⟨V2, by rw [HV2.out]; exact ex_put1 29 (.tmp 82) (.tmp 80) rfl ⟨g4, 76, none⟩ rfl g4 76 rfl (.slice M.ga M.sigs.length M.gc) rfl [.slice M.ga M.sigs.length M.gc] rfl X1.cells MT G1 (by kernel_rfl) (by rw [WmV.size78 ok1]; simp) (by simp [Value.oneCell']) X2.cells (by rw [HX2.out]; exact WmV.put76 ok1 M.ga M.gc M.sigs), T2, ?_⟩
            simp only [Act.put]
            refine rr_done (by kernel_rfl) ?_
            clear e5 e76
            have TT : Trn (fun i => i = g4) W3 V2 := Trn.tr (Trn.ext (Ext.drew W3)) (Trn.tr (T1) T2)
            have hn3 := TT.row HN3.out hg24
            have g4r := G2
            have iN := WmV.info ok2
            have sN := WmV.size78 ok2
            have oN := WmV.one X2
            have hXs : X2 = M.sel := by
             rw [HX2.out, HX1.out, HX0.out]
             unfold WmV.sel
             rw [if_neg (by rw [hk]; decide)]
             rw [if_neg (by rw [hk]; decide)]
             rw [if_neg (by rw [hk]; decide)]
             rw [if_neg (by rw [hk]; decide)]
             rw [if_neg (by rw [hk]; decide)]
             rw [if_neg (by rw [hk]; decide)]
             rw [if_pos hk]
            have hgr := setRow_heap V2 g2 _ X2.cells _ _ hn3
            have TF : Trn (fun i => i = g4 ∨ i = g2) W3 (V2.setRow g2 X2.cells) := (TT.mono (fun i h _ => .inl h)).tr (Trn.set _ _ _ (.inr rfl))
            have XF := Lib.hid (HFIN.out _ TF)
            have HXs := Lib.hid hXs
            clear hXs TF
            go_wp2_with (first | (refine wpList_load_rowG (by rfl) MT (.tmp 4) rfl g4 rfl MT X2.cells (0, 0) _ g4r Tryz.underlying31 rfl iN ?_) | (refine wpList_store_row rfl MT (.tmp 2) (.tmp 91) rfl g2 X2.cells rfl rfl MT _ hn3 iN (by rw [sN]; rfl) oN ?_))
            (try simp only [Exit.inBlock, Exit.then])
            refine bodyPost_ret (results_row_tmpM rfl _ _ g2 MT X2.cells (0, 0) _ rfl hgr Tryz.underlying31 rfl iN) rfl ?_
            exact ⟨X2, by rw [show Wm.known M.kind = true from by rw [hk]; decide]; rfl, by rw [HXs.out]; exact WmV.sel_x M, (by have h := WmV.sel_in (HM.out.ext XF.out); rw [← HXs.out] at h; exact h), XF.out⟩
           ·
            by_cases hk : M.kind = 22
            ·
             obtain ⟨X1, hX1⟩ : ∃ X, X = ({ X0 with n := M.n } : WmV) := ⟨_, rfl⟩
             have ok1 : X1.Ok := by rw [hX1]; exact { OK0.out with nlo := HM.out.ok.nlo, nhi := HM.out.ok.nhi }
             obtain ⟨X2, hX2⟩ : ∃ X, X = ({ X1 with da := M.da, dc := M.dc, data := M.data } : WmV) := ⟨_, rfl⟩
             have ok2 : X2.Ok := by rw [hX2]; exact { ok1 with dcap := HM.out.ok.dcap }
             have HX1 := Lib.hid hX1
             have HX2 := Lib.hid hX2
             clear hX1 hX2
             have G0 : W3.drew.heap[g4]? = some (.cells X0.cells MT (0, 0)) := HG4.out
             obtain ⟨V1, hV1⟩ : ∃ V, V = (W3.drew).setRow g4 X1.cells := ⟨_, rfl⟩
             have G1 : V1.heap[g4]? = some (.cells X1.cells MT (0, 0)) := by rw [hV1]; exact setRow_heap _ _ _ _ _ _ G0
             have T1 : Trn (fun i => i = g4) W3.drew V1 := by rw [hV1]; exact Trn.set _ _ _ rfl
             have HV1 := Lib.hid hV1
             clear hV1
             obtain ⟨V2, hV2⟩ : ∃ V, V = (V1).setRow g4 X2.cells := ⟨_, rfl⟩
             have G2 : V2.heap[g4]? = some (.cells X2.cells MT (0, 0)) := by rw [hV2]; exact setRow_heap _ _ _ _ _ _ G1
             have T2 : Trn (fun i => i = g4) V1 V2 := by rw [hV2]; exact Trn.set _ _ _ rfl
             have HV2 := Lib.hid hV2
             clear hV2
             go_wp2_with fail
             have e5 := Ext.load (Ext.drew W3) a5
             have e77 := Ext.load (Ext.drew W3) a77
             refine rr_start (trnW (fun i => i = g4)) [0, 2, 4, 6] (by kernel_rfl) ?_
             refine qAD 0 rfl ?_
             simp only [sP]
             refine qS 1 rfl ⟨_, fun w' hx => by have hcx := Trn.load hx e5 (by show ¬ _ = _; exact hg04); (go_simp <;> with_reducible rfl), ?_⟩
             simp only [sP]
             refine qAD 2 rfl ?_
             simp only [sP]
             refine qS 3 rfl ⟨_, fun w' hx => by have hcx := Trn.load hx e77 (by show ¬ _ = _; exact hg04); (go_simp <;> with_reducible rfl), ?_⟩
             simp only [sP]
             refine qAD 4 rfl ?_
             simp only [sP]
             refine rr_storeR 5 rfl (by kernel_rfl) (by rfl) ⟨V1, by rw [HV1.out]; exact ex_put1 3 (.tmp 89) (.tmp 86) rfl ⟨g4, 5, none⟩ rfl g4 5 rfl (.int .i64 M.n) rfl [.int .i64 M.n] rfl X0.cells MT G0 (by kernel_rfl) (by rw [WmV.size78 OK0.out]; simp) (by simp [Value.oneCell']) X1.cells (by rw [HX1.out]; exact WmV.put5 X0 M.n), T1, ?_⟩
             simp only [Act.put]
             refine qAD 6 rfl ?_
             simp only [sP]
             refine rr_storeR 7 rfl (by kernel_rfl) (by rfl) ⟨V2, by rw [HV2.out]; exact ex_put1 22 (.tmp 90) (.tmp 88) rfl ⟨g4, 77, none⟩ rfl g4 77 rfl (.slice M.da M.data.length M.dc) rfl [.slice M.da M.data.length M.dc] rfl X1.cells MT G1 (by kernel_rfl) (by rw [WmV.size78 ok1]; simp) (by simp [Value.oneCell']) X2.cells (by rw [HX2.out]; exact WmV.put77 ok1 M.da M.dc M.data), T2, ?_⟩
             simp only [Act.put]
             refine rr_done (by kernel_rfl) ?_
             clear e5 e77
             have TT : Trn (fun i => i = g4) W3 V2 := Trn.tr (Trn.ext (Ext.drew W3)) (Trn.tr (T1) T2)
             have hn3 := TT.row HN3.out hg24
             have g4r := G2
             have iN := WmV.info ok2
             have sN := WmV.size78 ok2
             have oN := WmV.one X2
             have hXs : X2 = M.sel := by
              rw [HX2.out, HX1.out, HX0.out]
              unfold WmV.sel
              rw [if_neg (by rw [hk]; decide)]
              rw [if_neg (by rw [hk]; decide)]
              rw [if_neg (by rw [hk]; decide)]
              rw [if_neg (by rw [hk]; decide)]
              rw [if_neg (by rw [hk]; decide)]
              rw [if_neg (by rw [hk]; decide)]
              rw [if_neg (by rw [hk]; decide)]
              rw [if_pos hk]
             have hgr := setRow_heap V2 g2 _ X2.cells _ _ hn3
             have TF : Trn (fun i => i = g4 ∨ i = g2) W3 (V2.setRow g2 X2.cells) := (TT.mono (fun i h _ => .inl h)).tr (Trn.set _ _ _ (.inr rfl))
             have XF := Lib.hid (HFIN.out _ TF)
             have HXs := Lib.hid hXs
             clear hXs TF
             go_wp2_with (first | (refine wpList_load_rowG (by rfl) MT (.tmp 4) rfl g4 rfl MT X2.cells (0, 0) _ g4r Tryz.underlying31 rfl iN ?_) | (refine wpList_store_row rfl MT (.tmp 2) (.tmp 91) rfl g2 X2.cells rfl rfl MT _ hn3 iN (by rw [sN]; rfl) oN ?_))
             (try simp only [Exit.inBlock, Exit.then])
             refine bodyPost_ret (results_row_tmpM rfl _ _ g2 MT X2.cells (0, 0) _ rfl hgr Tryz.underlying31 rfl iN) rfl ?_
             exact ⟨X2, by rw [show Wm.known M.kind = true from by rw [hk]; decide]; rfl, by rw [HXs.out]; exact WmV.sel_x M, (by have h := WmV.sel_in (HM.out.ext XF.out); rw [← HXs.out] at h; exact h), XF.out⟩
            ·
             have hunk : Wm.known M.kind = false := by simp [Wm.known, *]
             have hn3 := HN3.out
             have g4r := HG4.out
             have iN := WmV.info OK0.out
             have sN := WmV.size78 OK0.out
             have oN := WmV.one X0
             have hXs : X0 = M.sel := by
              rw [HX0.out]
              unfold WmV.sel
              rw [if_neg (by omega)]
              rw [if_neg (by omega)]
              rw [if_neg (by omega)]
              rw [if_neg (by omega)]
              rw [if_neg (by omega)]
              rw [if_neg (by omega)]
              rw [if_neg (by omega)]
              rw [if_neg (by omega)]
             have hgr := setRow_heap W3 g2 _ X0.cells _ _ hn3
             have TF : Trn (fun i => i = g4 ∨ i = g2) W3 (W3.setRow g2 X0.cells) := Trn.set _ _ _ (.inr rfl)
             have XF := Lib.hid (HFIN.out _ TF)
             have HXs := Lib.hid hXs
             clear hXs TF
             go_wp2_with (first | (refine wpList_load_rowG (by rfl) MT (.tmp 4) rfl g4 rfl MT X0.cells (0, 0) _ g4r Tryz.underlying31 rfl iN ?_) | (refine wpList_store_row rfl MT (.tmp 2) (.tmp 9) rfl g2 X0.cells rfl rfl MT _ hn3 iN (by rw [sN]; rfl) oN ?_))
             (try simp only [Exit.inBlock, Exit.then])
             refine bodyPost_ret (results_row_tmpM rfl _ _ g2 MT X0.cells (0, 0) _ rfl hgr Tryz.underlying31 rfl iN) rfl ?_
             exact ⟨X0, by rw [show Wm.known M.kind = false from hunk]; rfl, by rw [HXs.out]; exact WmV.sel_x M, (by have h := WmV.sel_in (HM.out.ext XF.out); rw [← HXs.out] at h; exact h), XF.out⟩
end Go.Proofs.YtjholekgdnhpkaaGreat
