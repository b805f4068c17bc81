
/- The laws' own first line (scowlaw18.live): it returns true. -/

import Derived.Test.YtiiekdhlcmaabaaSplFive

import Derived.Test.YtiiekdhlcmaabaaSplSplit

namespace Go.Proofs.Ytiiekdhlcmaabaa

open Go.RowKit

attribute [local go_sem] Oper.semAt_some

theorem rd_one5 (W : World) (t : TypeId) (v : Value) : Rd (W.alloc (.cells #[v] t)) 1 (some ⟨W.heap.size, 0, none⟩) 1 [v] := ⟨rfl, fun _ => ⟨_, rfl, fun j u hj => by
  rw [Addr.add_lit, cell_of_row _ _ _ _ _ _ (heap_alloc_new W _), Nat.zero_add]; simpa using hj⟩⟩
theorem Fit.five {L : List EnV} (h : L.map EnV.x = l5) : Fit L := by
  unfold Fit
  have := congrArg List.length h
  rw [List.length_map] at this
  rw [h, this]; decide

set_option maxRecDepth 100000 in
set_option maxHeartbeats 4000000 in
theorem live18 (w : World) : Calls Try.prog 10 #[] w fun e w' => e = .returned (.bool true) ∧ Below w.heap.size w w' := by
  go_enter Try.func10, Try.ntmps10
  go_wp2_with fail
  refine (five18 w).mono ?_
  rintro e w1 ⟨A, L, rfl, hLx, hL, hb1⟩
  have hL5 : L.length = 5 := by have := congrArg List.length hLx; simpa [l5] using this
  have hsp := split_any A L 5 none none [] [] 0 0 2 w1 hL (Fit.five hLx) (RdB.nil_ _ _) (RdB.nil_ _ _) (Nat.le_refl _) (Nat.le_refl _)
  rw [hL5, hLx, l5_split] at hsp
  have HSP := Lib.hid hsp
  clear hsp hL hLx hL5
  go_wp2_with fail
  refine HSP.out.mono ?_
  clear HSP
  rintro e w2 ⟨A2, c2, T, rfl, hTx, hT, hTc, hb2⟩
  have hT2 : T.length = 2 := by have := congrArg List.length hTx; simpa [p5] using this
  have h0T : 0 < T.length := by omega
  have h1T : 1 < T.length := by omega
  obtain ⟨ad, rfl, hc0, hin0⟩ := hT.at_ h0T
  obtain ⟨_, hadd, hc1, hin1⟩ := hT.at_ h1T
  injection hadd with hadd
  subst hadd
  have x0 : T[0].x = p5[0]'(by decide) := by
    have h9 : (T.map PtV.x)[0]? = p5[0]? := by rw [hTx]
    rw [List.getElem?_map, List.getElem?_eq_getElem h0T] at h9
    simpa [p5] using h9
  have x1 : T[1].x = p5[1]'(by decide) := by
    have h9 : (T.map PtV.x)[1]? = p5[1]? := by rw [hTx]
    rw [List.getElem?_map, List.getElem?_eq_getElem h1T] at h9
    simpa [p5] using h9
  obtain ⟨p, hp⟩ : ∃ p, p = T[0] := ⟨_, rfl⟩
  obtain ⟨q, hq⟩ : ∃ q, q = T[1] := ⟨_, rfl⟩
  rw [← hp] at hc0 x0
  rw [← hq] at hc1 hin1 x1
  have k0 : w2.cell? ⟨ad.block, ad.off + 2, none⟩ = some (.int .i64 2) := by
    have := RdP.count_at (ad := ad.add (0 * 35)) hc0
    rw [x0] at this
    exact this
  have k1 : w2.cell? ⟨ad.block, ad.off + 35 + 2, none⟩ = some (.int .i64 3) := by
    have := RdP.count_at (ad := ad.add (1 * 35)) hc1
    rw [x1] at this
    exact this
  have k2 : w2.cell? ⟨ad.block, ad.off + 35, none⟩ = some (.slice q.la 1 q.lc) := by
    have := RdP.lo_at (ad := ad.add (1 * 35)) hc1
    rw [x1] at this
    exact this
  have r2 : RdB w2 q.la [99] := by have := hin1.lr; rw [x1] at this; exact this
  have z1 := run_str w2 23 9 5 q.la [99] q.lc Try.underlying23 Try.underlying5 Try.underlying9 r2 1 rfl
  have hcv := cover_any none none (some ad) [] [] 0 0 T c2 w2 (RdB.nil_ _ _) (RdB.nil_ _ _) hT (by omega)
  rw [hT2, hTx] at hcv
  rw [hT2]
  have HCV := Lib.hid hcv
  have HTX := Lib.hid hTx
  have HT2 := Lib.hid hT2
  clear hcv hTx hT2 hc0 hc1 hin0 hin1 x0 x1 hp hq r2 h0T h1T hTc
  go_wp2_with fail
  refine HCV.out.mono ?_
  clear HCV
  rintro e w3 ⟨b, rfl, hb, hb3⟩
  obtain rfl : b = true := hb.2 p5_cov
  clear hb
  have hcv := cover_any none none none [] [] 0 0 [] 0 w3 (RdB.nil_ _ _) (RdB.nil_ _ _) (RdP.nil_ _ _) (by decide)
  have HCV := Lib.hid hcv
  clear hcv
  go_wp2_with fail
  refine HCV.out.mono ?_
  clear HCV
  rintro e w4 ⟨b, rfl, hb, hb4⟩
  have hbf : b = false := by
    cases b with
    | false => rfl
    | true => exact absurd (hb.1 rfl).pos (by decide)
  subst hbf
  clear hb
  go_wp2_with fail
  refine (five18 w4).mono ?_
  rintro e w5 ⟨A6, L6, rfl, hLx, hL, hb5⟩
  have hL5 : L6.length = 5 := by have := congrArg List.length hLx; simpa [l5] using this
  obtain ⟨ad6, rfl⟩ : ∃ ad6, A6 = some ad6 := by
    obtain ⟨x, hx, _⟩ := hL.at_ (show 0 < L6.length by omega)
    exact ⟨x, hx⟩
  have hLd : RdE w5 (some ⟨ad6.block, ad6.off + 2, none⟩) (L6.drop 1) := hL.tail (k := 1) (c := 5) (by omega) (by omega)
  have hx25 := Ext.tr hb3 (Ext.tr hb4 hb5)
  have hT5 := hT.below hx25
  have hLdx : (L6.drop 1).map EnV.x = l5.drop 1 := by rw [List.map_drop, hLx]
  have hfd : Fit (L6.drop 1) := (Fit.five hLx).sub (List.drop_sublist _ _)
  have hdf := differ_any (some ⟨ad6.block, ad6.off + 2, none⟩) (some ad) (L6.drop 1) T 4 c2 w5 hLd hfd hT5 (by have := HT2.out; omega)
  rw [hLdx, HTX.out, l5_differ, HT2.out, List.length_drop, hL5, show 5 - 1 = 4 from rfl, show ([0] : List Nat).length = 1 from rfl] at hdf
  have HDF := Lib.hid hdf
  clear hdf hLdx hfd hLd hT5 hL hLx hL5
  go_wp2_with fail
  refine HDF.out.mono ?_
  clear HDF
  rintro e w6 ⟨A7, c7, rfl, hR7, hb6⟩
  have hxi := Ext.alloc w6 (.cells #[.int .i64 0] 3)
  have hin := ref_ints18 A7 (some ⟨w6.heap.size, 0, none⟩) [0] c7 1 (w6.alloc (.cells #[.int .i64 0] 3)) (Rd.below hR7 hxi) (rd_one5 w6 _ _) (by decide)
  have HIN := Lib.hid hin
  clear hin hR7
  go_wp2_with fail
  refine HIN.out.mono ?_
  clear HIN
  rintro e w7 ⟨rfl, hb7⟩
  go_wp2_with fail
  go_ret
  exact ⟨rfl, Ext.tr hb1 (Ext.tr hb2 (Ext.tr hx25 (Ext.tr hb6 (Ext.tr hxi hb7))))⟩
end Go.Proofs.Ytiiekdhlcmaabaa
