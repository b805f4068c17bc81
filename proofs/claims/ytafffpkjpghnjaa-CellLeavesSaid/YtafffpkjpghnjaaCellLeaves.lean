/- The walks of the laws CellLeaves and CellBytes. -/
import Derived.Test.YtafffpkjpghnjaaCellLaw
namespace Go.Proofs.Ytafffpkjpghnjaa
open Go.RowKit
attribute [local go_sem] Oper.semAt_some

set_option maxRecDepth 100000 in
set_option maxHeartbeats 2000000 in
theorem leaves_big (w : World) (c : CellV) (hc : c.In w) (B : Option Addr) (bs : List UInt8) (cap : Nat) (h : c.small = false ∨ 3000 < bs.length) :
    Calls Try.prog 3 #[c.val, .slice B bs.length cap] w fun e w' => e = .returned (.bool true) ∧ Below w.heap.size w w' := by
  have hE0 := Ext.alloc w (.cells c.cells 25)
  have g0 := heap_alloc_new w (.cells c.cells 25)
  have hs := small07 c (w.alloc (.cells c.cells 25))
  simp only [CellV.val] at hs ⊢
  have hi := cinfo c
  cases hsm : c.small with
  | false =>
    rw [hsm] at hs
    clear hsm h
    go_enter Try.func3, Try.ntmps3
    go_wp2_with (refine wpList_load_rowG rfl 25 (.tmp 2) rfl w.heap.size rfl 25 c.cells (0, 0) _ g0 Try.underlying25 rfl hi ?_)
    refine hs.mono ?_
    rintro e w1 ⟨rfl, hb1⟩
    go_wp2_with fail
    refine (live07 _).mono ?_
    rintro e w2 ⟨rfl, hb2⟩
    go_wp2
    go_ret
    exact ⟨rfl, Ext.tr hE0 (Ext.tr hb1 hb2)⟩
  | true =>
    have hb : 3000 < (bs.length : Int) := by rcases h with h | h; (rw [hsm] at h; cases h); omega
    rw [hsm] at hs
    clear hsm h
    go_enter Try.func3, Try.ntmps3
    go_wp2_with (refine wpList_load_rowG rfl 25 (.tmp 2) rfl w.heap.size rfl 25 c.cells (0, 0) _ g0 Try.underlying25 rfl hi ?_)
    refine hs.mono ?_
    rintro e w1 ⟨rfl, hb1⟩
    go_wp2_with fail
    refine (live07 _).mono ?_
    rintro e w2 ⟨rfl, hb2⟩
    go_wp2
    go_ret
    exact ⟨rfl, Ext.tr hE0 (Ext.tr hb1 hb2)⟩

set_option maxRecDepth 100000 in
set_option maxHeartbeats 2000000 in
theorem leaves_go (w : World) (c : CellV) (hc : c.In w) (B : Option Addr) (bs : List UInt8) (cap : Nat) (hB : RdB w B bs) (hcap : bs.length ≤ cap) (hsm : c.small = true) (hl : bs.length ≤ 3000) :
    Calls Try.prog 3 #[c.val, .slice B bs.length cap] w fun e w' => e = .returned (.bool true) ∧ Below w.heap.size w w' := by
  have hE0 := Ext.alloc w (.cells c.cells 25)
  have g0 := heap_alloc_new w (.cells c.cells 25)
  have hs := small07 c (w.alloc (.cells c.cells 25))
  obtain ⟨L, m, hpl⟩ : ∃ L m, c.x.putL = (L, m) := ⟨_, _, rfl⟩
  obtain ⟨x, k, hgl⟩ : ∃ x k, Cl.getL bs = (x, k) := ⟨_, _, rfl⟩
  have hrl : Cl.refL bs = (x, k) := by rw [Cl.refL_is, hgl]
  have hP := fun W (h : c.In W) => putLeaf_any c W h
  have hR := fun W (h : c.In W) => ref_putLeaf c W h
  have hG := fun A cp W (h : RdB W A bs) (h2 : bs.length ≤ cp) => getLeaf_any A bs cp W h h2 (by omega)
  have hF := fun A cp W (h : RdB W A bs) (h2 : bs.length ≤ cp) => ref_getLeaf A bs cp W h h2 (by omega)
  simp only [hpl] at hP hR
  simp only [hgl] at hG
  simp only [hrl] at hF
  have HP := Lib.hid hP
  have HR := Lib.hid hR
  have HG := Lib.hid hG
  have HF := Lib.hid hF
  rw [hsm] at hs
  clear hP hR hG hF hpl hgl hrl hsm
  simp only [CellV.val] at hs HP HR ⊢
  have hi := cinfo c
  have hl' : (bs.length : Int) ≤ 3000 := by omega
  go_enter Try.func3, Try.ntmps3
  go_wp2_with (refine wpList_load_rowG rfl 25 (.tmp 2) rfl w.heap.size rfl 25 c.cells (0, 0) _ g0 Try.underlying25 rfl hi ?_)
  refine hs.mono ?_
  rintro e w1 ⟨rfl, hb1⟩
  have g1 := (hb1.block _ (lt_of_heap g0)).trans g0
  have hE1 := Ext.tr hE0 hb1
  clear hs hb1 g0 hE0
  go_wp2_with (refine wpList_load_rowG rfl 25 (.tmp 2) rfl w.heap.size rfl 25 c.cells (0, 0) _ g1 Try.underlying25 rfl hi ?_)
  refine (HP.out w1 (hc.below hE1)).mono ?_
  rintro e w2 ⟨A2, c2, rfl, ho2, hb2⟩
  have g2 := (hb2.block _ (lt_of_heap g1)).trans g1
  have hE2 := Ext.tr hE1 hb2
  have r2 := ho2.rd'
  clear g1 ho2 hb2 hE1
  go_wp2_with (refine wpList_load_rowG rfl 25 (.tmp 2) rfl w.heap.size rfl 25 c.cells (0, 0) _ g2 Try.underlying25 rfl hi ?_)
  refine (HR.out w2 (hc.below hE2)).mono ?_
  rintro e w3 ⟨A3, c3, rfl, ho3, hb3⟩
  have hE3 := Ext.tr hE2 hb3
  have r23 := r2.below hb3
  have r3 := ho3.rd'
  have hB3 := (hB.below hE3).below (Ext.alloc w3 (.cells #[] 5))
  clear g2 ho3 hb3 hE2 r2
  go_wp2_with (at_builtin; refine wpList_app rfl (.tmp 33) (.tmp 34) 22 rfl elemB w3.heap.size _ 0 0 [] rfl B bs.length cap (bvs bs) rfl bs.length (by omega) (bvs bs) rfl (Own.none_ _ _ _ _ _) hB3 (bvs_one _) (by omega) (by omega) (by simp) ?_; intro A4 c4 w4 ho4 hg4 hr4)
  have hb4 : Ext w3 w4 := below_app (Ext.alloc w3 (.cells #[] 5)) (Own.none_ _ _ 5 1 (some ⟨w3.heap.size, 0, none⟩)) hg4 (by simp)
  have r24 := r23.below hb4
  have r34 := r3.below hb4
  have hE4 := Ext.tr hE3 hb4
  have r4 := ho4.rd'
  have n4 := ho4.nc
  clear r23 r3 hE3 ho4 hg4 hr4 hb4 hB3
  refine (HG.out A4 c4 w4 r4 n4).mono ?_
  rintro e w5 ⟨P, rfl, hPx, hPin, hb5⟩
  have hi5 := cinfo P
  have r25 := r24.below hb5
  have r35 := r34.below hb5
  have hE5 := Ext.tr hE4 hb5
  have HPx := Lib.hid hPx
  simp only [CellV.val]
  clear r24 r34 hE4 hb5 r4 hPx
  go_wp2_with (refine wpList_store_row rfl 25 (.tmp 9) (.tmp 37) rfl w5.heap.size P.cells rfl rfl 25 _ (heap_alloc_new w5 _) hi5 (by rfl) (cone P) ?_; rw [setRow_alloc])
  obtain ⟨W5, hW5⟩ : ∃ W5, W5 = w5.alloc (.cells P.cells 25) := ⟨_, rfl⟩
  have p5 : W5.heap[w5.heap.size]? = some (.cells P.cells 25 (0, 0)) := by rw [hW5]; exact heap_alloc_new w5 _
  have hb5 : Ext w5 W5 := by rw [hW5]; exact Ext.alloc w5 _
  obtain ⟨b5, hb5'⟩ : ∃ b5, b5 = w5.heap.size := ⟨_, rfl⟩
  rw [← hb5'] at p5
  rw [← hW5, ← hb5']
  have s2 := r25.below hb5
  have s3 := r35.below hb5
  have hF5 := Ext.tr hE5 hb5
  have hPin5 := hPin.below hb5
  clear hW5 hb5' r25 r35 hE5 hPin hb5
  refine (HF.out B cap W5 (hB.below hF5) hcap).mono ?_
  rintro e w6 ⟨Q, rfl, hQx, hQin, hb6⟩
  have hi6 := cinfo Q
  have HQx := Lib.hid hQx
  have p6 := (hb6.block _ (lt_of_heap p5)).trans p5
  have t2 := s2.below hb6
  have t3 := s3.below hb6
  have hF6 := Ext.tr hF5 hb6
  have hPin6 := hPin5.below hb6
  simp only [CellV.val]
  clear s2 s3 hF5 hPin5 hb6 p5 hQx
  have q7 := heap_alloc_new w6 (.cells Q.cells 25)
  have hb7 := Ext.alloc w6 (.cells Q.cells 25)
  have p7 := (hb7.block _ (lt_of_heap p6)).trans p6
  have z1 := run_str _ 22 9 5 A2 L c2 Try.underlying22 Try.underlying5 Try.underlying9 (t2.below hb7) L.length rfl
  have z2 := run_str _ 22 9 5 A3 L c3 Try.underlying22 Try.underlying5 Try.underlying9 (t3.below hb7) L.length rfl
  have hF7 := Ext.tr hF6 hb7
  have hPin7 := hPin6.below hb7
  have hQin7 := hQin.below hb7
  have hSame := ref_cellsame P Q _ hPin7 hQin7
  rw [HPx.out, HQx.out, Cl.same_refl] at hSame
  have HS := Lib.hid hSame
  have HF7 := Lib.hid hF7
  clear hSame hF7 hPin7 hQin7 hPin6 hQin hF6 t2 t3 hb7 p6
  go_wp2_with (first | (refine wpList_store_row rfl 25 (.tmp 11) (.tmp 42) rfl w6.heap.size Q.cells rfl rfl 25 _ (heap_alloc_new w6 _) hi6 (by rfl) (cone Q) ?_; rw [setRow_alloc]) | (go_at_call 13; refine (num07 _ _).mono ?_; rintro e w' ⟨rfl, rfl⟩) | (refine wpList_load_rowG rfl 25 (.tmp 9) rfl b5 rfl 25 P.cells (0, 0) _ p7 Try.underlying25 rfl hi5 ?_) | (refine wpList_load_rowG rfl 25 (.tmp 11) rfl w6.heap.size rfl 25 Q.cells (0, 0) _ q7 Try.underlying25 rfl hi6 ?_))
  refine HS.out.mono ?_
  rintro e w8 ⟨rfl, hb8⟩
  go_wp2_with (go_at_call 13; refine (num07 _ _).mono ?_; rintro e w' ⟨rfl, rfl⟩)
  refine (live07 _).mono ?_
  rintro e w9 ⟨rfl, hb9⟩
  go_wp2
  go_ret
  exact ⟨rfl, Ext.tr HF7.out (Ext.tr hb8 hb9)⟩

theorem walkCellLeaves (w : World) (c : CellV) (hc : c.In w) (B : Option Addr) (bs : List UInt8) (cap : Nat) (hB : RdB w B bs) (hcap : bs.length ≤ cap) :
    Calls Try.prog 3 #[c.val, .slice B bs.length cap] w fun e w' => e = .returned (.bool true) ∧ Below w.heap.size w w' := by
  cases hsm : c.small with
  | false => exact leaves_big w c hc B bs cap (.inl hsm)
  | true =>
    by_cases hl : bs.length ≤ 3000
    · exact leaves_go w c hc B bs cap hB hcap hsm hl
    · exact leaves_big w c hc B bs cap (.inr (by omega))
end Go.Proofs.Ytafffpkjpghnjaa
