/- Texts of the proof, laid together: TlR. -/
import Derived.Test.YtjholekgdnhpkaaGreatDoorZ25
set_option linter.unusedVariables false
set_option linter.unusedSimpArgs false
set_option linter.unusedSectionVars false
namespace Go.Proofs.YtjholekgdnhpkaaGreatDoor
open Go.RowKit
attribute [local go_sem] Oper.semAt_some
set_option maxRecDepth 100000 in
set_option maxHeartbeats 4000000 in
theorem rtext_no (M : WmV) (w : World) (hM : M.In w) (hw0 : Tl.word M.kind = []) (h16 : 16 ≤ M.kind → Tl.word (M.kind - 16) = []) :
  Calls Tryz.prog 7 #[.agg M.cells] w fun e w' => e = .returned (.string ⟨(Tl.text M.x).toArray⟩) ∧ Below w.heap.size w w' := by
 have hka := hM.ok.klo
 have hkb := hM.ok.khi
 obtain ⟨W0, hW0⟩ : ∃ W0, W0 = w.alloc (.cells M.cells 31) := ⟨_, rfl⟩
 have hx0 : Ext w W0 := by rw [hW0]; exact Ext.alloc _ _
 have G0 : W0.heap[w.heap.size]? = some (.cells M.cells 31 (0, 0)) := by rw [hW0]; exact heap_alloc_new w _
 have c0 : W0.cell? ⟨w.heap.size, 0, none⟩ = _ := (cell_of_row _ _ 0 _ _ _ G0).trans (WmV.at0 M)
 have X0 := Lib.hid hx0
 have HC := Lib.hid (rword_any M.kind W0.drew)
 have HC2 := Lib.hid (rword_any (M.kind - 16) W0.drew)
 rw [hw0] at HC
 obtain ⟨P0, hP0⟩ : ∃ P, P = M.cells := ⟨_, rfl⟩
 rw [← hP0] at hW0 ⊢
 have HW0 := Lib.hid hW0
 clear hW0 hx0 G0 hP0 hM
 by_cases k16 : 16 ≤ M.kind
 ·
  have HT := Lib.hid (show Tl.text M.x = [63] by unfold Tl.text; rw [show Tl.kind M.x.kind = (M.kind - 16, true) from if_pos ⟨hw0, k16⟩]; exact if_pos (h16 k16))
  rw [h16 k16] at HC2
  clear hw0 h16
  go_enter Tryz.func7, Tryz.ntmps7
  go_wp2_with (rw [← HW0.out]; refine Hid.out ?_)
  refine Lib.hid ?_
  go_wp2_with fail
  refine rg_start (by kernel_rfl) ?_
  refine gD 0 rfl ?_
  simp only [sP]
  refine gS 1 rfl ⟨_, fun w' hx => by have hcx := hx.load c0; (go_simp <;> with_reducible rfl), ?_⟩
  simp only [sP]
  refine gD 3 rfl ?_
  simp only [sP]
  refine gS 4 rfl ⟨_, fun w' hx => by have hcx := hx.load c0; (go_simp <;> with_reducible rfl), ?_⟩
  simp only [sP]
  refine rg_call 2 (HC.out) rfl (by kernel_rfl) (by rfl) (by go_simp) ?_
  rintro e w' ⟨rfl, rfl⟩
  refine ⟨_, rfl, Ext.refl _, ?_⟩
  simp only [sP]
  refine gD 5 rfl ?_
  simp only [sP]
  refine gD 6 rfl ?_
  simp only [sP]
  refine gD 7 rfl ?_
  simp only [sP]
  refine rg_done (by kernel_rfl) ?_
  go_wp2_with (first | (go_at_call 18; refine HC2.out.mono ?_; rintro e w' ⟨rfl, rfl⟩) | (refine wpList_runT (by rfl) (.bool true) _ (ex_eqlS (p := []) (q := []) rfl rfl rfl) ?_))
  go_ret
  exact ⟨by rw [HT.out]; rfl, X0.out.tr (Ext.drew _)⟩
 ·
  have HT := Lib.hid (show Tl.text M.x = [63] by unfold Tl.text; rw [show Tl.kind M.x.kind = (M.kind, false) from if_neg (fun h => k16 h.2)]; exact if_pos hw0)
  clear hw0 h16
  go_enter Tryz.func7, Tryz.ntmps7
  go_wp2_with (rw [← HW0.out]; refine Hid.out ?_)
  refine Lib.hid ?_
  go_wp2_with fail
  refine rg_start (by kernel_rfl) ?_
  refine gD 0 rfl ?_
  simp only [sP]
  refine gS 1 rfl ⟨_, fun w' hx => by have hcx := hx.load c0; (go_simp <;> with_reducible rfl), ?_⟩
  simp only [sP]
  refine gD 3 rfl ?_
  simp only [sP]
  refine gS 4 rfl ⟨_, fun w' hx => by have hcx := hx.load c0; (go_simp <;> with_reducible rfl), ?_⟩
  simp only [sP]
  refine rg_call 2 (HC.out) rfl (by kernel_rfl) (by rfl) (by go_simp) ?_
  rintro e w' ⟨rfl, rfl⟩
  refine ⟨_, rfl, Ext.refl _, ?_⟩
  simp only [sP]
  refine gD 5 rfl ?_
  simp only [sP]
  refine gD 6 rfl ?_
  simp only [sP]
  refine gD 7 rfl ?_
  simp only [sP]
  refine rg_done (by kernel_rfl) ?_
  go_wp2_with (first | (refine wpList_runT (by rfl) (.bool true) _ (ex_eqlS (p := []) (q := []) rfl rfl rfl) ?_))
  go_ret
  exact ⟨by rw [HT.out]; rfl, X0.out.tr (Ext.drew _)⟩
set_option maxRecDepth 100000 in
set_option maxHeartbeats 4000000 in
theorem rtext_a1 (M : WmV) (w : World) (hM : M.In w) (hlo : M.lo.length ≤ 1000000) (hhi : M.hi.length ≤ 1000000) (hz : M.subs.length ≤ 1000000 ∧ M.ents.length ≤ 1000000 ∧ M.sigs.length ≤ 1000000 ∧ M.data.length ≤ 1000000) (hK : M.kind = 1) :
  Calls Tryz.prog 7 #[.agg M.cells] w fun e w' => e = .returned (.string ⟨(Tl.text M.x).toArray⟩) ∧ Below w.heap.size w w' := by
 have hs := hM.ok.session
 have hq := hM.ok.seq
 have hs64 : M.session < 18446744073709551616 := by omega
 have hq64 : M.seq < 18446744073709551616 := by omega
 have LD1 := Tl.dec_len M.session hs64
 have LD2 := Tl.dec_len M.seq hq64
 obtain ⟨W0, hW0⟩ : ∃ W0, W0 = w.alloc (.cells M.cells 31) := ⟨_, rfl⟩
 have hx0 : Ext w W0 := by rw [hW0]; exact Ext.alloc _ _
 have G0 : W0.heap[w.heap.size]? = some (.cells M.cells 31 (0, 0)) := by rw [hW0]; exact heap_alloc_new w _
 have c0 : W0.cell? ⟨w.heap.size, 0, none⟩ = _ := (cell_of_row _ _ 0 _ _ _ G0).trans (WmV.at0 M)
 have c1 : W0.cell? ⟨w.heap.size, 1, none⟩ = _ := (cell_of_row _ _ 1 _ _ _ G0).trans (WmV.at1 M)
 have c2 : W0.cell? ⟨w.heap.size, 2, none⟩ = _ := (cell_of_row _ _ 2 _ _ _ G0).trans (WmV.at2 M)
 have X0 := Lib.hid hx0
 have HX : Tl.text M.x = Lib.join ([[104, 101, 108, 108, 111] ++ [63], Tl.num M.x] ++ [] ++ []) [32] := by
  unfold Tl.text
  rw [show Tl.kind M.x.kind = (1, false) by rw [show M.x.kind = 1 from hK]; rfl]
  simp only [Tl.word, Tl.mark, Tl.asked, Tl.told, WmV.x]
  simp
 have HD1 := Lib.hid (fun W => digits_any M.session hs64 W)
 have HD2 := Lib.hid (fun W => digits_any M.seq hq64 W)
 have HC := Lib.hid (rword_any 1 W0.drew)
 rw [hK] at c0
 have HT : Tl.text M.x = [104, 101, 108, 108, 111] ++ [63] ++ [32] ++ (Lib.decDigits M.session) ++ [47] ++ (Lib.decDigits M.seq) := by
  rw [HX]
  simp [Lib.join_cons, Lib.joinTail, Tl.num, WmV.x]
 clear HX hK hz
 obtain ⟨D1, hD1⟩ : ∃ l, l = Lib.decDigits M.session := ⟨_, rfl⟩
 obtain ⟨D2, hD2⟩ : ∃ l, l = Lib.decDigits M.seq := ⟨_, rfl⟩
 rw [← hD1] at HT HD1 LD1
 rw [← hD2] at HT HD2 LD2
 clear hD1 hD2
 obtain ⟨d, hd⟩ : ∃ d : List UInt8, d = [104, 101, 108, 108, 111] := ⟨_, rfl⟩
 have he : (d == ([] : List UInt8)) = false := by rw [hd]; rfl
 have hwl : d.length ≤ 5 := by rw [hd]; decide
 obtain ⟨S, hS⟩ : ∃ S : List UInt8, S = d ++ [63] ++ [32] ++ D1 ++ [47] ++ D2 := ⟨_, rfl⟩
 have LS : S.length ≤ 60 := by rw [hS]; simp only [List.length_append, List.length_singleton]; omega
 have HS := Lib.hid hS
 replace HT : Tl.text M.x = S := by rw [HT, hS, hd]
 have HT := Lib.hid HT
 rw [show Tl.word 1 = d from hd.symm] at HC
 clear hd hS
 obtain ⟨P0, hP0⟩ : ∃ P, P = M.cells := ⟨_, rfl⟩
 rw [← hP0] at hW0 ⊢
 have HW0 := Lib.hid hW0
 clear hW0 hx0 G0 hP0 hM
 go_enter Tryz.func7, Tryz.ntmps7
 go_wp2_with (rw [← HW0.out]; refine Hid.out ?_)
 refine Lib.hid ?_
 go_wp2_with fail
 refine rg_start (by kernel_rfl) ?_
 refine gD 0 rfl ?_
 simp only [sP]
 refine gS 1 rfl ⟨_, fun w' hx => by have hcx := hx.load c0; (go_simp <;> with_reducible rfl), ?_⟩
 simp only [sP]
 refine gD 3 rfl ?_
 simp only [sP]
 refine gS 4 rfl ⟨_, fun w' hx => by have hcx := hx.load c0; (go_simp <;> with_reducible rfl), ?_⟩
 simp only [sP]
 refine rg_call 2 (HC.out) rfl (by kernel_rfl) (by rfl) (by go_simp) ?_
 rintro e w' ⟨rfl, rfl⟩
 refine ⟨_, rfl, Ext.refl _, ?_⟩
 simp only [sP]
 refine gD 5 rfl ?_
 simp only [sP]
 refine gD 6 rfl ?_
 simp only [sP]
 refine gD 7 rfl ?_
 simp only [sP]
 refine rg_done (by kernel_rfl) ?_
 go_wp2_with (first | (refine wpList_runT (by rfl) (.bool false) _ ((ex_eqlS (p := d) (q := []) rfl rfl rfl).trans (by rw [he])) ?_))
 refine rg_start (by kernel_rfl) ?_
 refine gD 0 rfl ?_
 simp only [sP]
 refine gD 1 rfl ?_
 simp only [sP]
 refine gS 2 rfl ⟨.string ⟨((d) ++ [63]).toArray⟩, fun w' hx => ex_addS (p := d) (q := [63]) rfl rfl rfl (by simp only [List.length_append, List.length_singleton, List.length_cons, List.length_nil] <;> omega), ?_⟩
 simp only [sP]
 refine gS 3 rfl ⟨.string ⟨((d ++ [63]) ++ [32]).toArray⟩, fun w' hx => ex_addS (p := d ++ [63]) (q := [32]) rfl rfl rfl (by simp only [List.length_append, List.length_singleton, List.length_cons, List.length_nil] <;> omega), ?_⟩
 simp only [sP]
 refine gD 4 rfl ?_
 simp only [sP]
 refine gS 5 rfl ⟨_, fun w' hx => by have hcx := hx.load c1; (go_simp <;> with_reducible rfl), ?_⟩
 simp only [sP]
 refine gS 6 rfl ⟨.int .u64 (M.session : Int), fun w' hx => by (go_simp <;> (rw [IntKind.wrap_u64]; omega)), ?_⟩
 simp only [sP]
 refine gD 10 rfl ?_
 simp only [sP]
 refine gS 11 rfl ⟨_, fun w' hx => by have hcx := hx.load c2; (go_simp <;> with_reducible rfl), ?_⟩
 simp only [sP]
 refine gS 12 rfl ⟨.int .u64 (M.seq : Int), fun w' hx => by (go_simp <;> (rw [IntKind.wrap_u64]; omega)), ?_⟩
 simp only [sP]
 refine rg_call 7 (HD1.out _) rfl (by kernel_rfl) (by rfl) (by go_simp) ?_
 rintro e w7 ⟨rfl, hx7⟩
 refine ⟨_, rfl, hx7, ?_⟩
 simp only [sP]
 refine gS 8 rfl ⟨.string ⟨((d ++ [63] ++ [32]) ++ D1).toArray⟩, fun w' hx => ex_addS (p := d ++ [63] ++ [32]) (q := D1) rfl rfl rfl (by simp only [List.length_append, List.length_singleton, List.length_cons, List.length_nil] <;> omega), ?_⟩
 simp only [sP]
 refine gS 9 rfl ⟨.string ⟨((d ++ [63] ++ [32] ++ D1) ++ [47]).toArray⟩, fun w' hx => ex_addS (p := d ++ [63] ++ [32] ++ D1) (q := [47]) rfl rfl rfl (by simp only [List.length_append, List.length_singleton, List.length_cons, List.length_nil] <;> omega), ?_⟩
 simp only [sP]
 refine rg_call 13 (HD2.out _) rfl (by kernel_rfl) (by rfl) (by go_simp) ?_
 rintro e w13 ⟨rfl, hx13⟩
 refine ⟨_, rfl, hx13, ?_⟩
 simp only [sP]
 refine gS 14 rfl ⟨.string ⟨S.toArray⟩, fun w' hx => (ex_addS (p := d ++ [63] ++ [32] ++ D1 ++ [47]) (q := D2) rfl rfl rfl (by simp only [List.length_append, List.length_singleton, List.length_cons, List.length_nil] <;> omega)).trans (by rw [HS.out]), ?_⟩
 simp only [sP]
 refine gD 15 rfl ?_
 simp only [sP]
 refine rg_done (by kernel_rfl) ?_
 have E8 := Lib.hid (show Ext W0 w13 from ((Ext.drew W0).tr (Ext.drew _)).tr (Ext.tr hx7 hx13))
 clear hx7 hx13 HS c0 c1 c2
 go_wp2_with fail
 go_ret
 exact ⟨by rw [HT.out] <;> first | rfl | simp, X0.out.tr E8.out⟩
set_option maxRecDepth 100000 in
set_option maxHeartbeats 4000000 in
theorem rtext_a2 (M : WmV) (w : World) (hM : M.In w) (hlo : M.lo.length ≤ 1000000) (hhi : M.hi.length ≤ 1000000) (hz : M.subs.length ≤ 1000000 ∧ M.ents.length ≤ 1000000 ∧ M.sigs.length ≤ 1000000 ∧ M.data.length ≤ 1000000) (hK : M.kind = 2) :
  Calls Tryz.prog 7 #[.agg M.cells] w fun e w' => e = .returned (.string ⟨(Tl.text M.x).toArray⟩) ∧ Below w.heap.size w w' := by
 have hs := hM.ok.session
 have hq := hM.ok.seq
 have hs64 : M.session < 18446744073709551616 := by omega
 have hq64 : M.seq < 18446744073709551616 := by omega
 have LD1 := Tl.dec_len M.session hs64
 have LD2 := Tl.dec_len M.seq hq64
 obtain ⟨W0, hW0⟩ : ∃ W0, W0 = w.alloc (.cells M.cells 31) := ⟨_, rfl⟩
 have hx0 : Ext w W0 := by rw [hW0]; exact Ext.alloc _ _
 have G0 : W0.heap[w.heap.size]? = some (.cells M.cells 31 (0, 0)) := by rw [hW0]; exact heap_alloc_new w _
 have c0 : W0.cell? ⟨w.heap.size, 0, none⟩ = _ := (cell_of_row _ _ 0 _ _ _ G0).trans (WmV.at0 M)
 have c1 : W0.cell? ⟨w.heap.size, 1, none⟩ = _ := (cell_of_row _ _ 1 _ _ _ G0).trans (WmV.at1 M)
 have c2 : W0.cell? ⟨w.heap.size, 2, none⟩ = _ := (cell_of_row _ _ 2 _ _ _ G0).trans (WmV.at2 M)
 have X0 := Lib.hid hx0
 have HX : Tl.text M.x = Lib.join ([[116, 97, 98, 108, 101] ++ [63], Tl.num M.x] ++ [] ++ []) [32] := by
  unfold Tl.text
  rw [show Tl.kind M.x.kind = (2, false) by rw [show M.x.kind = 2 from hK]; rfl]
  simp only [Tl.word, Tl.mark, Tl.asked, Tl.told, WmV.x]
  simp
 have HD1 := Lib.hid (fun W => digits_any M.session hs64 W)
 have HD2 := Lib.hid (fun W => digits_any M.seq hq64 W)
 have HC := Lib.hid (rword_any 2 W0.drew)
 rw [hK] at c0
 have HT : Tl.text M.x = [116, 97, 98, 108, 101] ++ [63] ++ [32] ++ (Lib.decDigits M.session) ++ [47] ++ (Lib.decDigits M.seq) := by
  rw [HX]
  simp [Lib.join_cons, Lib.joinTail, Tl.num, WmV.x]
 clear HX hK hz
 obtain ⟨D1, hD1⟩ : ∃ l, l = Lib.decDigits M.session := ⟨_, rfl⟩
 obtain ⟨D2, hD2⟩ : ∃ l, l = Lib.decDigits M.seq := ⟨_, rfl⟩
 rw [← hD1] at HT HD1 LD1
 rw [← hD2] at HT HD2 LD2
 clear hD1 hD2
 obtain ⟨d, hd⟩ : ∃ d : List UInt8, d = [116, 97, 98, 108, 101] := ⟨_, rfl⟩
 have he : (d == ([] : List UInt8)) = false := by rw [hd]; rfl
 have hwl : d.length ≤ 5 := by rw [hd]; decide
 obtain ⟨S, hS⟩ : ∃ S : List UInt8, S = d ++ [63] ++ [32] ++ D1 ++ [47] ++ D2 := ⟨_, rfl⟩
 have LS : S.length ≤ 60 := by rw [hS]; simp only [List.length_append, List.length_singleton]; omega
 have HS := Lib.hid hS
 replace HT : Tl.text M.x = S := by rw [HT, hS, hd]
 have HT := Lib.hid HT
 rw [show Tl.word 2 = d from hd.symm] at HC
 clear hd hS
 obtain ⟨P0, hP0⟩ : ∃ P, P = M.cells := ⟨_, rfl⟩
 rw [← hP0] at hW0 ⊢
 have HW0 := Lib.hid hW0
 clear hW0 hx0 G0 hP0 hM
 go_enter Tryz.func7, Tryz.ntmps7
 go_wp2_with (rw [← HW0.out]; refine Hid.out ?_)
 refine Lib.hid ?_
 go_wp2_with fail
 refine rg_start (by kernel_rfl) ?_
 refine gD 0 rfl ?_
 simp only [sP]
 refine gS 1 rfl ⟨_, fun w' hx => by have hcx := hx.load c0; (go_simp <;> with_reducible rfl), ?_⟩
 simp only [sP]
 refine gD 3 rfl ?_
 simp only [sP]
 refine gS 4 rfl ⟨_, fun w' hx => by have hcx := hx.load c0; (go_simp <;> with_reducible rfl), ?_⟩
 simp only [sP]
 refine rg_call 2 (HC.out) rfl (by kernel_rfl) (by rfl) (by go_simp) ?_
 rintro e w' ⟨rfl, rfl⟩
 refine ⟨_, rfl, Ext.refl _, ?_⟩
 simp only [sP]
 refine gD 5 rfl ?_
 simp only [sP]
 refine gD 6 rfl ?_
 simp only [sP]
 refine gD 7 rfl ?_
 simp only [sP]
 refine rg_done (by kernel_rfl) ?_
 go_wp2_with (first | (refine wpList_runT (by rfl) (.bool false) _ ((ex_eqlS (p := d) (q := []) rfl rfl rfl).trans (by rw [he])) ?_))
 refine rg_start (by kernel_rfl) ?_
 refine gD 0 rfl ?_
 simp only [sP]
 refine gD 1 rfl ?_
 simp only [sP]
 refine gS 2 rfl ⟨.string ⟨((d) ++ [63]).toArray⟩, fun w' hx => ex_addS (p := d) (q := [63]) rfl rfl rfl (by simp only [List.length_append, List.length_singleton, List.length_cons, List.length_nil] <;> omega), ?_⟩
 simp only [sP]
 refine gS 3 rfl ⟨.string ⟨((d ++ [63]) ++ [32]).toArray⟩, fun w' hx => ex_addS (p := d ++ [63]) (q := [32]) rfl rfl rfl (by simp only [List.length_append, List.length_singleton, List.length_cons, List.length_nil] <;> omega), ?_⟩
 simp only [sP]
 refine gD 4 rfl ?_
 simp only [sP]
 refine gS 5 rfl ⟨_, fun w' hx => by have hcx := hx.load c1; (go_simp <;> with_reducible rfl), ?_⟩
 simp only [sP]
 refine gS 6 rfl ⟨.int .u64 (M.session : Int), fun w' hx => by (go_simp <;> (rw [IntKind.wrap_u64]; omega)), ?_⟩
 simp only [sP]
 refine gD 10 rfl ?_
 simp only [sP]
 refine gS 11 rfl ⟨_, fun w' hx => by have hcx := hx.load c2; (go_simp <;> with_reducible rfl), ?_⟩
 simp only [sP]
 refine gS 12 rfl ⟨.int .u64 (M.seq : Int), fun w' hx => by (go_simp <;> (rw [IntKind.wrap_u64]; omega)), ?_⟩
 simp only [sP]
 refine rg_call 7 (HD1.out _) rfl (by kernel_rfl) (by rfl) (by go_simp) ?_
 rintro e w7 ⟨rfl, hx7⟩
 refine ⟨_, rfl, hx7, ?_⟩
 simp only [sP]
 refine gS 8 rfl ⟨.string ⟨((d ++ [63] ++ [32]) ++ D1).toArray⟩, fun w' hx => ex_addS (p := d ++ [63] ++ [32]) (q := D1) rfl rfl rfl (by simp only [List.length_append, List.length_singleton, List.length_cons, List.length_nil] <;> omega), ?_⟩
 simp only [sP]
 refine gS 9 rfl ⟨.string ⟨((d ++ [63] ++ [32] ++ D1) ++ [47]).toArray⟩, fun w' hx => ex_addS (p := d ++ [63] ++ [32] ++ D1) (q := [47]) rfl rfl rfl (by simp only [List.length_append, List.length_singleton, List.length_cons, List.length_nil] <;> omega), ?_⟩
 simp only [sP]
 refine rg_call 13 (HD2.out _) rfl (by kernel_rfl) (by rfl) (by go_simp) ?_
 rintro e w13 ⟨rfl, hx13⟩
 refine ⟨_, rfl, hx13, ?_⟩
 simp only [sP]
 refine gS 14 rfl ⟨.string ⟨S.toArray⟩, fun w' hx => (ex_addS (p := d ++ [63] ++ [32] ++ D1 ++ [47]) (q := D2) rfl rfl rfl (by simp only [List.length_append, List.length_singleton, List.length_cons, List.length_nil] <;> omega)).trans (by rw [HS.out]), ?_⟩
 simp only [sP]
 refine gD 15 rfl ?_
 simp only [sP]
 refine rg_done (by kernel_rfl) ?_
 have E8 := Lib.hid (show Ext W0 w13 from ((Ext.drew W0).tr (Ext.drew _)).tr (Ext.tr hx7 hx13))
 clear hx7 hx13 HS c0 c1 c2
 go_wp2_with fail
 go_ret
 exact ⟨by rw [HT.out] <;> first | rfl | simp, X0.out.tr E8.out⟩
set_option maxRecDepth 100000 in
set_option maxHeartbeats 4000000 in
theorem rtext_a3 (M : WmV) (w : World) (hM : M.In w) (hlo : M.lo.length ≤ 1000000) (hhi : M.hi.length ≤ 1000000) (hz : M.subs.length ≤ 1000000 ∧ M.ents.length ≤ 1000000 ∧ M.sigs.length ≤ 1000000 ∧ M.data.length ≤ 1000000) (hK : M.kind = 3) :
  Calls Tryz.prog 7 #[.agg M.cells] w fun e w' => e = .returned (.string ⟨(Tl.text M.x).toArray⟩) ∧ Below w.heap.size w w' := by
 have hs := hM.ok.session
 have hq := hM.ok.seq
 have hs64 : M.session < 18446744073709551616 := by omega
 have hq64 : M.seq < 18446744073709551616 := by omega
 have LD1 := Tl.dec_len M.session hs64
 have LD2 := Tl.dec_len M.seq hq64
 obtain ⟨W0, hW0⟩ : ∃ W0, W0 = w.alloc (.cells M.cells 31) := ⟨_, rfl⟩
 have hx0 : Ext w W0 := by rw [hW0]; exact Ext.alloc _ _
 have G0 : W0.heap[w.heap.size]? = some (.cells M.cells 31 (0, 0)) := by rw [hW0]; exact heap_alloc_new w _
 have c0 : W0.cell? ⟨w.heap.size, 0, none⟩ = _ := (cell_of_row _ _ 0 _ _ _ G0).trans (WmV.at0 M)
 have c1 : W0.cell? ⟨w.heap.size, 1, none⟩ = _ := (cell_of_row _ _ 1 _ _ _ G0).trans (WmV.at1 M)
 have c2 : W0.cell? ⟨w.heap.size, 2, none⟩ = _ := (cell_of_row _ _ 2 _ _ _ G0).trans (WmV.at2 M)
 have c3 : W0.cell? ⟨w.heap.size, 3, none⟩ = _ := (cell_of_row _ _ 3 _ _ _ G0).trans (WmV.at3 M)
 have c4 : W0.cell? ⟨w.heap.size, 4, none⟩ = _ := (cell_of_row _ _ 4 _ _ _ G0).trans (WmV.at4 M)
 have X0 := Lib.hid hx0
 have HHL := Lib.hid (fun W (x : Ext W0 W) => rhex_any M.la M.lo M.lc W (hM.lr.below (X0.out.tr x)) hlo)
 have HHH := Lib.hid (fun W (x : Ext W0 W) => rhex_any M.ha M.hi M.hc W (hM.hr.below (X0.out.tr x)) hhi)
 have LX1 := Tl.hex_len M.lo hlo
 have LX2 := Tl.hex_len M.hi hhi
 have HX : Tl.text M.x = Lib.join ([[115, 112, 108, 105, 116] ++ [63], Tl.num M.x] ++ [Tl.hex M.lo, Tl.hex M.hi] ++ []) [32] := by
  unfold Tl.text
  rw [show Tl.kind M.x.kind = (3, false) by rw [show M.x.kind = 3 from hK]; rfl]
  simp only [Tl.word, Tl.mark, Tl.asked, Tl.told, WmV.x]
  simp
 have HD1 := Lib.hid (fun W => digits_any M.session hs64 W)
 have HD2 := Lib.hid (fun W => digits_any M.seq hq64 W)
 have HC := Lib.hid (rword_any 3 W0.drew)
 rw [hK] at c0
 have HT : Tl.text M.x = ([115, 112, 108, 105, 116] ++ [63] ++ [32] ++ (Lib.decDigits M.session) ++ [47] ++ (Lib.decDigits M.seq)) ++ [32] ++ (Tl.hex M.lo) ++ [32] ++ (Tl.hex M.hi) := by
  rw [HX]
  simp [Lib.join_cons, Lib.joinTail, Tl.num, WmV.x]
 clear HX hK hz
 obtain ⟨D1, hD1⟩ : ∃ l, l = Lib.decDigits M.session := ⟨_, rfl⟩
 obtain ⟨D2, hD2⟩ : ∃ l, l = Lib.decDigits M.seq := ⟨_, rfl⟩
 obtain ⟨X1, hX1⟩ : ∃ l, l = Tl.hex M.lo := ⟨_, rfl⟩
 obtain ⟨X2, hX2⟩ : ∃ l, l = Tl.hex M.hi := ⟨_, rfl⟩
 rw [← hD1] at HT HD1 LD1
 rw [← hD2] at HT HD2 LD2
 rw [← hX1] at HT LX1 HHL
 rw [← hX2] at HT LX2 HHH
 clear hD1 hD2 hX1 hX2
 obtain ⟨d, hd⟩ : ∃ d : List UInt8, d = [115, 112, 108, 105, 116] := ⟨_, rfl⟩
 have he : (d == ([] : List UInt8)) = false := by rw [hd]; rfl
 have hwl : d.length ≤ 5 := by rw [hd]; decide
 obtain ⟨S, hS⟩ : ∃ S : List UInt8, S = d ++ [63] ++ [32] ++ D1 ++ [47] ++ D2 := ⟨_, rfl⟩
 have LS : S.length ≤ 60 := by rw [hS]; simp only [List.length_append, List.length_singleton]; omega
 have HS := Lib.hid hS
 replace HT : Tl.text M.x = S ++ [32] ++ X1 ++ [32] ++ X2 := by rw [HT, hS, hd]
 obtain ⟨S2, hS2⟩ : ∃ l : List UInt8, l = S ++ [32] ++ X1 ++ [32] ++ X2 := ⟨_, rfl⟩
 have LS2 : S2.length ≤ 4000100 := by rw [hS2]; simp only [List.length_append, List.length_singleton]; omega
 rw [← hS2] at HT
 have HS2 := Lib.hid hS2
 clear hS2
 have HT := Lib.hid HT
 rw [show Tl.word 3 = d from hd.symm] at HC
 clear hd hS
 obtain ⟨P0, hP0⟩ : ∃ P, P = M.cells := ⟨_, rfl⟩
 rw [← hP0] at hW0 ⊢
 have HW0 := Lib.hid hW0
 clear hW0 hx0 G0 hP0 hM
 go_enter Tryz.func7, Tryz.ntmps7
 go_wp2_with (rw [← HW0.out]; refine Hid.out ?_)
 refine Lib.hid ?_
 go_wp2_with fail
 refine rg_start (by kernel_rfl) ?_
 refine gD 0 rfl ?_
 simp only [sP]
 refine gS 1 rfl ⟨_, fun w' hx => by have hcx := hx.load c0; (go_simp <;> with_reducible rfl), ?_⟩
 simp only [sP]
 refine gD 3 rfl ?_
 simp only [sP]
 refine gS 4 rfl ⟨_, fun w' hx => by have hcx := hx.load c0; (go_simp <;> with_reducible rfl), ?_⟩
 simp only [sP]
 refine rg_call 2 (HC.out) rfl (by kernel_rfl) (by rfl) (by go_simp) ?_
 rintro e w' ⟨rfl, rfl⟩
 refine ⟨_, rfl, Ext.refl _, ?_⟩
 simp only [sP]
 refine gD 5 rfl ?_
 simp only [sP]
 refine gD 6 rfl ?_
 simp only [sP]
 refine gD 7 rfl ?_
 simp only [sP]
 refine rg_done (by kernel_rfl) ?_
 go_wp2_with (first | (refine wpList_runT (by rfl) (.bool false) _ ((ex_eqlS (p := d) (q := []) rfl rfl rfl).trans (by rw [he])) ?_))
 refine rg_start (by kernel_rfl) ?_
 refine gD 0 rfl ?_
 simp only [sP]
 refine gD 1 rfl ?_
 simp only [sP]
 refine gS 2 rfl ⟨.string ⟨((d) ++ [63]).toArray⟩, fun w' hx => ex_addS (p := d) (q := [63]) rfl rfl rfl (by simp only [List.length_append, List.length_singleton, List.length_cons, List.length_nil] <;> omega), ?_⟩
 simp only [sP]
 refine gS 3 rfl ⟨.string ⟨((d ++ [63]) ++ [32]).toArray⟩, fun w' hx => ex_addS (p := d ++ [63]) (q := [32]) rfl rfl rfl (by simp only [List.length_append, List.length_singleton, List.length_cons, List.length_nil] <;> omega), ?_⟩
 simp only [sP]
 refine gD 4 rfl ?_
 simp only [sP]
 refine gS 5 rfl ⟨_, fun w' hx => by have hcx := hx.load c1; (go_simp <;> with_reducible rfl), ?_⟩
 simp only [sP]
 refine gS 6 rfl ⟨.int .u64 (M.session : Int), fun w' hx => by (go_simp <;> (rw [IntKind.wrap_u64]; omega)), ?_⟩
 simp only [sP]
 refine gD 10 rfl ?_
 simp only [sP]
 refine gS 11 rfl ⟨_, fun w' hx => by have hcx := hx.load c2; (go_simp <;> with_reducible rfl), ?_⟩
 simp only [sP]
 refine gS 12 rfl ⟨.int .u64 (M.seq : Int), fun w' hx => by (go_simp <;> (rw [IntKind.wrap_u64]; omega)), ?_⟩
 simp only [sP]
 refine rg_call 7 (HD1.out _) rfl (by kernel_rfl) (by rfl) (by go_simp) ?_
 rintro e w7 ⟨rfl, hx7⟩
 refine ⟨_, rfl, hx7, ?_⟩
 simp only [sP]
 refine gS 8 rfl ⟨.string ⟨((d ++ [63] ++ [32]) ++ D1).toArray⟩, fun w' hx => ex_addS (p := d ++ [63] ++ [32]) (q := D1) rfl rfl rfl (by simp only [List.length_append, List.length_singleton, List.length_cons, List.length_nil] <;> omega), ?_⟩
 simp only [sP]
 refine gS 9 rfl ⟨.string ⟨((d ++ [63] ++ [32] ++ D1) ++ [47]).toArray⟩, fun w' hx => ex_addS (p := d ++ [63] ++ [32] ++ D1) (q := [47]) rfl rfl rfl (by simp only [List.length_append, List.length_singleton, List.length_cons, List.length_nil] <;> omega), ?_⟩
 simp only [sP]
 refine rg_call 13 (HD2.out _) rfl (by kernel_rfl) (by rfl) (by go_simp) ?_
 rintro e w13 ⟨rfl, hx13⟩
 refine ⟨_, rfl, hx13, ?_⟩
 simp only [sP]
 refine gS 14 rfl ⟨.string ⟨S.toArray⟩, fun w' hx => (ex_addS (p := d ++ [63] ++ [32] ++ D1 ++ [47]) (q := D2) rfl rfl rfl (by simp only [List.length_append, List.length_singleton, List.length_cons, List.length_nil] <;> omega)).trans (by rw [HS.out]), ?_⟩
 simp only [sP]
 refine gD 15 rfl ?_
 simp only [sP]
 refine rg_done (by kernel_rfl) ?_
 have E8 := Lib.hid (show Ext W0 w13 from ((Ext.drew W0).tr (Ext.drew _)).tr (Ext.tr hx7 hx13))
 have c3b := E8.out.load c3
 have c4b := E8.out.load c4
 clear hx7 hx13 HS c0 c1 c2 c3 c4
 go_wp2_with fail
 refine rg_start (by kernel_rfl) ?_
 refine gD 0 rfl ?_
 simp only [sP]
 refine gS 1 rfl ⟨.string ⟨((S) ++ [32]).toArray⟩, fun w' hx => ex_addS (p := S) (q := [32]) rfl rfl rfl (by simp only [List.length_append, List.length_singleton, List.length_cons, List.length_nil] <;> omega), ?_⟩
 simp only [sP]
 refine gD 2 rfl ?_
 simp only [sP]
 refine gS 3 rfl ⟨_, fun w' hx => by have hcx := hx.load c3b; (go_simp <;> with_reducible rfl), ?_⟩
 simp only [sP]
 refine gD 7 rfl ?_
 simp only [sP]
 refine gS 8 rfl ⟨_, fun w' hx => by have hcx := hx.load c4b; (go_simp <;> with_reducible rfl), ?_⟩
 simp only [sP]
 refine rg_call 4 (HHL.out _ (E8.out.tr (Ext.drew _))) rfl (by kernel_rfl) (by rfl) (by go_simp) ?_
 rintro e w4 ⟨rfl, hx4⟩
 refine ⟨_, rfl, hx4, ?_⟩
 simp only [sP]
 refine gS 5 rfl ⟨.string ⟨((S ++ [32]) ++ X1).toArray⟩, fun w' hx => ex_addS (p := S ++ [32]) (q := X1) rfl rfl rfl (by simp only [List.length_append, List.length_singleton, List.length_cons, List.length_nil] <;> omega), ?_⟩
 simp only [sP]
 refine gS 6 rfl ⟨.string ⟨((S ++ [32] ++ X1) ++ [32]).toArray⟩, fun w' hx => ex_addS (p := S ++ [32] ++ X1) (q := [32]) rfl rfl rfl (by simp only [List.length_append, List.length_singleton, List.length_cons, List.length_nil] <;> omega), ?_⟩
 simp only [sP]
 refine rg_call 9 (HHH.out _ ((E8.out.tr (Ext.drew _)).tr hx4)) rfl (by kernel_rfl) (by rfl) (by go_simp) ?_
 rintro e w9 ⟨rfl, hx9⟩
 refine ⟨_, rfl, hx9, ?_⟩
 simp only [sP]
 refine gS 10 rfl ⟨.string ⟨S2.toArray⟩, fun w' hx => (ex_addS (p := S ++ [32] ++ X1 ++ [32]) (q := X2) rfl rfl rfl (by simp only [List.length_append, List.length_singleton, List.length_cons, List.length_nil] <;> omega)).trans (by rw [HS2.out]), ?_⟩
 simp only [sP]
 refine gD 11 rfl ?_
 simp only [sP]
 refine rg_done (by kernel_rfl) ?_
 have E9 := Lib.hid ((E8.out.tr (Ext.drew _)).tr (Ext.tr hx4 hx9))
 clear hx4 hx9
 go_wp2_with fail
 go_ret
 exact ⟨by rw [HT.out] <;> first | rfl | simp, X0.out.tr E9.out⟩
set_option maxRecDepth 100000 in
set_option maxHeartbeats 4000000 in
theorem rtext_a4 (M : WmV) (w : World) (hM : M.In w) (hlo : M.lo.length ≤ 1000000) (hhi : M.hi.length ≤ 1000000) (hz : M.subs.length ≤ 1000000 ∧ M.ents.length ≤ 1000000 ∧ M.sigs.length ≤ 1000000 ∧ M.data.length ≤ 1000000) (hK : M.kind = 4) :
  Calls Tryz.prog 7 #[.agg M.cells] w fun e w' => e = .returned (.string ⟨(Tl.text M.x).toArray⟩) ∧ Below w.heap.size w w' := by
 have hs := hM.ok.session
 have hq := hM.ok.seq
 have hs64 : M.session < 18446744073709551616 := by omega
 have hq64 : M.seq < 18446744073709551616 := by omega
 have LD1 := Tl.dec_len M.session hs64
 have LD2 := Tl.dec_len M.seq hq64
 obtain ⟨W0, hW0⟩ : ∃ W0, W0 = w.alloc (.cells M.cells 31) := ⟨_, rfl⟩
 have hx0 : Ext w W0 := by rw [hW0]; exact Ext.alloc _ _
 have G0 : W0.heap[w.heap.size]? = some (.cells M.cells 31 (0, 0)) := by rw [hW0]; exact heap_alloc_new w _
 have c0 : W0.cell? ⟨w.heap.size, 0, none⟩ = _ := (cell_of_row _ _ 0 _ _ _ G0).trans (WmV.at0 M)
 have c1 : W0.cell? ⟨w.heap.size, 1, none⟩ = _ := (cell_of_row _ _ 1 _ _ _ G0).trans (WmV.at1 M)
 have c2 : W0.cell? ⟨w.heap.size, 2, none⟩ = _ := (cell_of_row _ _ 2 _ _ _ G0).trans (WmV.at2 M)
 have c3 : W0.cell? ⟨w.heap.size, 3, none⟩ = _ := (cell_of_row _ _ 3 _ _ _ G0).trans (WmV.at3 M)
 have c4 : W0.cell? ⟨w.heap.size, 4, none⟩ = _ := (cell_of_row _ _ 4 _ _ _ G0).trans (WmV.at4 M)
 have X0 := Lib.hid hx0
 have HHL := Lib.hid (fun W (x : Ext W0 W) => rhex_any M.la M.lo M.lc W (hM.lr.below (X0.out.tr x)) hlo)
 have HHH := Lib.hid (fun W (x : Ext W0 W) => rhex_any M.ha M.hi M.hc W (hM.hr.below (X0.out.tr x)) hhi)
 have LX1 := Tl.hex_len M.lo hlo
 have LX2 := Tl.hex_len M.hi hhi
 have HX : Tl.text M.x = Lib.join ([[102, 101, 116, 99, 104] ++ [63], Tl.num M.x] ++ [Tl.hex M.lo, Tl.hex M.hi] ++ []) [32] := by
  unfold Tl.text
  rw [show Tl.kind M.x.kind = (4, false) by rw [show M.x.kind = 4 from hK]; rfl]
  simp only [Tl.word, Tl.mark, Tl.asked, Tl.told, WmV.x]
  simp
 have HD1 := Lib.hid (fun W => digits_any M.session hs64 W)
 have HD2 := Lib.hid (fun W => digits_any M.seq hq64 W)
 have HC := Lib.hid (rword_any 4 W0.drew)
 rw [hK] at c0
 have HT : Tl.text M.x = ([102, 101, 116, 99, 104] ++ [63] ++ [32] ++ (Lib.decDigits M.session) ++ [47] ++ (Lib.decDigits M.seq)) ++ [32] ++ (Tl.hex M.lo) ++ [32] ++ (Tl.hex M.hi) := by
  rw [HX]
  simp [Lib.join_cons, Lib.joinTail, Tl.num, WmV.x]
 clear HX hK hz
 obtain ⟨D1, hD1⟩ : ∃ l, l = Lib.decDigits M.session := ⟨_, rfl⟩
 obtain ⟨D2, hD2⟩ : ∃ l, l = Lib.decDigits M.seq := ⟨_, rfl⟩
 obtain ⟨X1, hX1⟩ : ∃ l, l = Tl.hex M.lo := ⟨_, rfl⟩
 obtain ⟨X2, hX2⟩ : ∃ l, l = Tl.hex M.hi := ⟨_, rfl⟩
 rw [← hD1] at HT HD1 LD1
 rw [← hD2] at HT HD2 LD2
 rw [← hX1] at HT LX1 HHL
 rw [← hX2] at HT LX2 HHH
 clear hD1 hD2 hX1 hX2
 obtain ⟨d, hd⟩ : ∃ d : List UInt8, d = [102, 101, 116, 99, 104] := ⟨_, rfl⟩
 have he : (d == ([] : List UInt8)) = false := by rw [hd]; rfl
 have hwl : d.length ≤ 5 := by rw [hd]; decide
 obtain ⟨S, hS⟩ : ∃ S : List UInt8, S = d ++ [63] ++ [32] ++ D1 ++ [47] ++ D2 := ⟨_, rfl⟩
 have LS : S.length ≤ 60 := by rw [hS]; simp only [List.length_append, List.length_singleton]; omega
 have HS := Lib.hid hS
 replace HT : Tl.text M.x = S ++ [32] ++ X1 ++ [32] ++ X2 := by rw [HT, hS, hd]
 obtain ⟨S2, hS2⟩ : ∃ l : List UInt8, l = S ++ [32] ++ X1 ++ [32] ++ X2 := ⟨_, rfl⟩
 have LS2 : S2.length ≤ 4000100 := by rw [hS2]; simp only [List.length_append, List.length_singleton]; omega
 rw [← hS2] at HT
 have HS2 := Lib.hid hS2
 clear hS2
 have HT := Lib.hid HT
 rw [show Tl.word 4 = d from hd.symm] at HC
 clear hd hS
 obtain ⟨P0, hP0⟩ : ∃ P, P = M.cells := ⟨_, rfl⟩
 rw [← hP0] at hW0 ⊢
 have HW0 := Lib.hid hW0
 clear hW0 hx0 G0 hP0 hM
 go_enter Tryz.func7, Tryz.ntmps7
 go_wp2_with (rw [← HW0.out]; refine Hid.out ?_)
 refine Lib.hid ?_
 go_wp2_with fail
 refine rg_start (by kernel_rfl) ?_
 refine gD 0 rfl ?_
 simp only [sP]
 refine gS 1 rfl ⟨_, fun w' hx => by have hcx := hx.load c0; (go_simp <;> with_reducible rfl), ?_⟩
 simp only [sP]
 refine gD 3 rfl ?_
 simp only [sP]
 refine gS 4 rfl ⟨_, fun w' hx => by have hcx := hx.load c0; (go_simp <;> with_reducible rfl), ?_⟩
 simp only [sP]
 refine rg_call 2 (HC.out) rfl (by kernel_rfl) (by rfl) (by go_simp) ?_
 rintro e w' ⟨rfl, rfl⟩
 refine ⟨_, rfl, Ext.refl _, ?_⟩
 simp only [sP]
 refine gD 5 rfl ?_
 simp only [sP]
 refine gD 6 rfl ?_
 simp only [sP]
 refine gD 7 rfl ?_
 simp only [sP]
 refine rg_done (by kernel_rfl) ?_
 go_wp2_with (first | (refine wpList_runT (by rfl) (.bool false) _ ((ex_eqlS (p := d) (q := []) rfl rfl rfl).trans (by rw [he])) ?_))
 refine rg_start (by kernel_rfl) ?_
 refine gD 0 rfl ?_
 simp only [sP]
 refine gD 1 rfl ?_
 simp only [sP]
 refine gS 2 rfl ⟨.string ⟨((d) ++ [63]).toArray⟩, fun w' hx => ex_addS (p := d) (q := [63]) rfl rfl rfl (by simp only [List.length_append, List.length_singleton, List.length_cons, List.length_nil] <;> omega), ?_⟩
 simp only [sP]
 refine gS 3 rfl ⟨.string ⟨((d ++ [63]) ++ [32]).toArray⟩, fun w' hx => ex_addS (p := d ++ [63]) (q := [32]) rfl rfl rfl (by simp only [List.length_append, List.length_singleton, List.length_cons, List.length_nil] <;> omega), ?_⟩
 simp only [sP]
 refine gD 4 rfl ?_
 simp only [sP]
 refine gS 5 rfl ⟨_, fun w' hx => by have hcx := hx.load c1; (go_simp <;> with_reducible rfl), ?_⟩
 simp only [sP]
 refine gS 6 rfl ⟨.int .u64 (M.session : Int), fun w' hx => by (go_simp <;> (rw [IntKind.wrap_u64]; omega)), ?_⟩
 simp only [sP]
 refine gD 10 rfl ?_
 simp only [sP]
 refine gS 11 rfl ⟨_, fun w' hx => by have hcx := hx.load c2; (go_simp <;> with_reducible rfl), ?_⟩
 simp only [sP]
 refine gS 12 rfl ⟨.int .u64 (M.seq : Int), fun w' hx => by (go_simp <;> (rw [IntKind.wrap_u64]; omega)), ?_⟩
 simp only [sP]
 refine rg_call 7 (HD1.out _) rfl (by kernel_rfl) (by rfl) (by go_simp) ?_
 rintro e w7 ⟨rfl, hx7⟩
 refine ⟨_, rfl, hx7, ?_⟩
 simp only [sP]
 refine gS 8 rfl ⟨.string ⟨((d ++ [63] ++ [32]) ++ D1).toArray⟩, fun w' hx => ex_addS (p := d ++ [63] ++ [32]) (q := D1) rfl rfl rfl (by simp only [List.length_append, List.length_singleton, List.length_cons, List.length_nil] <;> omega), ?_⟩
 simp only [sP]
 refine gS 9 rfl ⟨.string ⟨((d ++ [63] ++ [32] ++ D1) ++ [47]).toArray⟩, fun w' hx => ex_addS (p := d ++ [63] ++ [32] ++ D1) (q := [47]) rfl rfl rfl (by simp only [List.length_append, List.length_singleton, List.length_cons, List.length_nil] <;> omega), ?_⟩
 simp only [sP]
 refine rg_call 13 (HD2.out _) rfl (by kernel_rfl) (by rfl) (by go_simp) ?_
 rintro e w13 ⟨rfl, hx13⟩
 refine ⟨_, rfl, hx13, ?_⟩
 simp only [sP]
 refine gS 14 rfl ⟨.string ⟨S.toArray⟩, fun w' hx => (ex_addS (p := d ++ [63] ++ [32] ++ D1 ++ [47]) (q := D2) rfl rfl rfl (by simp only [List.length_append, List.length_singleton, List.length_cons, List.length_nil] <;> omega)).trans (by rw [HS.out]), ?_⟩
 simp only [sP]
 refine gD 15 rfl ?_
 simp only [sP]
 refine rg_done (by kernel_rfl) ?_
 have E8 := Lib.hid (show Ext W0 w13 from ((Ext.drew W0).tr (Ext.drew _)).tr (Ext.tr hx7 hx13))
 have c3b := E8.out.load c3
 have c4b := E8.out.load c4
 clear hx7 hx13 HS c0 c1 c2 c3 c4
 go_wp2_with fail
 refine rg_start (by kernel_rfl) ?_
 refine gD 0 rfl ?_
 simp only [sP]
 refine gS 1 rfl ⟨.string ⟨((S) ++ [32]).toArray⟩, fun w' hx => ex_addS (p := S) (q := [32]) rfl rfl rfl (by simp only [List.length_append, List.length_singleton, List.length_cons, List.length_nil] <;> omega), ?_⟩
 simp only [sP]
 refine gD 2 rfl ?_
 simp only [sP]
 refine gS 3 rfl ⟨_, fun w' hx => by have hcx := hx.load c3b; (go_simp <;> with_reducible rfl), ?_⟩
 simp only [sP]
 refine gD 7 rfl ?_
 simp only [sP]
 refine gS 8 rfl ⟨_, fun w' hx => by have hcx := hx.load c4b; (go_simp <;> with_reducible rfl), ?_⟩
 simp only [sP]
 refine rg_call 4 (HHL.out _ (E8.out.tr (Ext.drew _))) rfl (by kernel_rfl) (by rfl) (by go_simp) ?_
 rintro e w4 ⟨rfl, hx4⟩
 refine ⟨_, rfl, hx4, ?_⟩
 simp only [sP]
 refine gS 5 rfl ⟨.string ⟨((S ++ [32]) ++ X1).toArray⟩, fun w' hx => ex_addS (p := S ++ [32]) (q := X1) rfl rfl rfl (by simp only [List.length_append, List.length_singleton, List.length_cons, List.length_nil] <;> omega), ?_⟩
 simp only [sP]
 refine gS 6 rfl ⟨.string ⟨((S ++ [32] ++ X1) ++ [32]).toArray⟩, fun w' hx => ex_addS (p := S ++ [32] ++ X1) (q := [32]) rfl rfl rfl (by simp only [List.length_append, List.length_singleton, List.length_cons, List.length_nil] <;> omega), ?_⟩
 simp only [sP]
 refine rg_call 9 (HHH.out _ ((E8.out.tr (Ext.drew _)).tr hx4)) rfl (by kernel_rfl) (by rfl) (by go_simp) ?_
 rintro e w9 ⟨rfl, hx9⟩
 refine ⟨_, rfl, hx9, ?_⟩
 simp only [sP]
 refine gS 10 rfl ⟨.string ⟨S2.toArray⟩, fun w' hx => (ex_addS (p := S ++ [32] ++ X1 ++ [32]) (q := X2) rfl rfl rfl (by simp only [List.length_append, List.length_singleton, List.length_cons, List.length_nil] <;> omega)).trans (by rw [HS2.out]), ?_⟩
 simp only [sP]
 refine gD 11 rfl ?_
 simp only [sP]
 refine rg_done (by kernel_rfl) ?_
 have E9 := Lib.hid ((E8.out.tr (Ext.drew _)).tr (Ext.tr hx4 hx9))
 clear hx4 hx9
 go_wp2_with fail
 go_ret
 exact ⟨by rw [HT.out] <;> first | rfl | simp, X0.out.tr E9.out⟩
set_option maxRecDepth 100000 in
set_option maxHeartbeats 4000000 in
theorem rtext_a5 (M : WmV) (w : World) (hM : M.In w) (hlo : M.lo.length ≤ 1000000) (hhi : M.hi.length ≤ 1000000) (hz : M.subs.length ≤ 1000000 ∧ M.ents.length ≤ 1000000 ∧ M.sigs.length ≤ 1000000 ∧ M.data.length ≤ 1000000) (hK : M.kind = 5) :
  Calls Tryz.prog 7 #[.agg M.cells] w fun e w' => e = .returned (.string ⟨(Tl.text M.x).toArray⟩) ∧ Below w.heap.size w w' := by
 have hs := hM.ok.session
 have hq := hM.ok.seq
 have hs64 : M.session < 18446744073709551616 := by omega
 have hq64 : M.seq < 18446744073709551616 := by omega
 have LD1 := Tl.dec_len M.session hs64
 have LD2 := Tl.dec_len M.seq hq64
 obtain ⟨W0, hW0⟩ : ∃ W0, W0 = w.alloc (.cells M.cells 31) := ⟨_, rfl⟩
 have hx0 : Ext w W0 := by rw [hW0]; exact Ext.alloc _ _
 have G0 : W0.heap[w.heap.size]? = some (.cells M.cells 31 (0, 0)) := by rw [hW0]; exact heap_alloc_new w _
 have c0 : W0.cell? ⟨w.heap.size, 0, none⟩ = _ := (cell_of_row _ _ 0 _ _ _ G0).trans (WmV.at0 M)
 have c1 : W0.cell? ⟨w.heap.size, 1, none⟩ = _ := (cell_of_row _ _ 1 _ _ _ G0).trans (WmV.at1 M)
 have c2 : W0.cell? ⟨w.heap.size, 2, none⟩ = _ := (cell_of_row _ _ 2 _ _ _ G0).trans (WmV.at2 M)
 have c5 : W0.cell? ⟨w.heap.size, 5, none⟩ = _ := (cell_of_row _ _ 5 _ _ _ G0).trans (WmV.at5 M)
 have X0 := Lib.hid hx0
 have HN0 := Lib.hid (fun W => signed_any M.n hM.ok.nlo hM.ok.nhi W)
 have LX1 := Lib.itoa_length_le M.n hM.ok.nlo hM.ok.nhi
 have HX : Tl.text M.x = Lib.join ([[115, 105, 103, 115] ++ [63], Tl.num M.x] ++ [Lib.itoa M.n] ++ []) [32] := by
  unfold Tl.text
  rw [show Tl.kind M.x.kind = (5, false) by rw [show M.x.kind = 5 from hK]; rfl]
  simp only [Tl.word, Tl.mark, Tl.asked, Tl.told, WmV.x]
  simp
 have HD1 := Lib.hid (fun W => digits_any M.session hs64 W)
 have HD2 := Lib.hid (fun W => digits_any M.seq hq64 W)
 have HC := Lib.hid (rword_any 5 W0.drew)
 rw [hK] at c0
 have HT : Tl.text M.x = ([115, 105, 103, 115] ++ [63] ++ [32] ++ (Lib.decDigits M.session) ++ [47] ++ (Lib.decDigits M.seq)) ++ [32] ++ (Lib.itoa M.n) := by
  rw [HX]
  simp [Lib.join_cons, Lib.joinTail, Tl.num, WmV.x]
 clear HX hK hz
 obtain ⟨D1, hD1⟩ : ∃ l, l = Lib.decDigits M.session := ⟨_, rfl⟩
 obtain ⟨D2, hD2⟩ : ∃ l, l = Lib.decDigits M.seq := ⟨_, rfl⟩
 obtain ⟨X1, hX1⟩ : ∃ l, l = Lib.itoa M.n := ⟨_, rfl⟩
 rw [← hD1] at HT HD1 LD1
 rw [← hD2] at HT HD2 LD2
 rw [← hX1] at HT LX1 HN0
 clear hD1 hD2 hX1
 obtain ⟨d, hd⟩ : ∃ d : List UInt8, d = [115, 105, 103, 115] := ⟨_, rfl⟩
 have he : (d == ([] : List UInt8)) = false := by rw [hd]; rfl
 have hwl : d.length ≤ 5 := by rw [hd]; decide
 obtain ⟨S, hS⟩ : ∃ S : List UInt8, S = d ++ [63] ++ [32] ++ D1 ++ [47] ++ D2 := ⟨_, rfl⟩
 have LS : S.length ≤ 60 := by rw [hS]; simp only [List.length_append, List.length_singleton]; omega
 have HS := Lib.hid hS
 replace HT : Tl.text M.x = S ++ [32] ++ X1 := by rw [HT, hS, hd]
 obtain ⟨S2, hS2⟩ : ∃ l : List UInt8, l = S ++ [32] ++ X1 := ⟨_, rfl⟩
 have LS2 : S2.length ≤ 4000100 := by rw [hS2]; simp only [List.length_append, List.length_singleton]; omega
 rw [← hS2] at HT
 have HS2 := Lib.hid hS2
 clear hS2
 have HT := Lib.hid HT
 rw [show Tl.word 5 = d from hd.symm] at HC
 clear hd hS
 obtain ⟨P0, hP0⟩ : ∃ P, P = M.cells := ⟨_, rfl⟩
 rw [← hP0] at hW0 ⊢
 have HW0 := Lib.hid hW0
 clear hW0 hx0 G0 hP0 hM
 go_enter Tryz.func7, Tryz.ntmps7
 go_wp2_with (rw [← HW0.out]; refine Hid.out ?_)
 refine Lib.hid ?_
 go_wp2_with fail
 refine rg_start (by kernel_rfl) ?_
 refine gD 0 rfl ?_
 simp only [sP]
 refine gS 1 rfl ⟨_, fun w' hx => by have hcx := hx.load c0; (go_simp <;> with_reducible rfl), ?_⟩
 simp only [sP]
 refine gD 3 rfl ?_
 simp only [sP]
 refine gS 4 rfl ⟨_, fun w' hx => by have hcx := hx.load c0; (go_simp <;> with_reducible rfl), ?_⟩
 simp only [sP]
 refine rg_call 2 (HC.out) rfl (by kernel_rfl) (by rfl) (by go_simp) ?_
 rintro e w' ⟨rfl, rfl⟩
 refine ⟨_, rfl, Ext.refl _, ?_⟩
 simp only [sP]
 refine gD 5 rfl ?_
 simp only [sP]
 refine gD 6 rfl ?_
 simp only [sP]
 refine gD 7 rfl ?_
 simp only [sP]
 refine rg_done (by kernel_rfl) ?_
 go_wp2_with (first | (refine wpList_runT (by rfl) (.bool false) _ ((ex_eqlS (p := d) (q := []) rfl rfl rfl).trans (by rw [he])) ?_))
 refine rg_start (by kernel_rfl) ?_
 refine gD 0 rfl ?_
 simp only [sP]
 refine gD 1 rfl ?_
 simp only [sP]
 refine gS 2 rfl ⟨.string ⟨((d) ++ [63]).toArray⟩, fun w' hx => ex_addS (p := d) (q := [63]) rfl rfl rfl (by simp only [List.length_append, List.length_singleton, List.length_cons, List.length_nil] <;> omega), ?_⟩
 simp only [sP]
 refine gS 3 rfl ⟨.string ⟨((d ++ [63]) ++ [32]).toArray⟩, fun w' hx => ex_addS (p := d ++ [63]) (q := [32]) rfl rfl rfl (by simp only [List.length_append, List.length_singleton, List.length_cons, List.length_nil] <;> omega), ?_⟩
 simp only [sP]
 refine gD 4 rfl ?_
 simp only [sP]
 refine gS 5 rfl ⟨_, fun w' hx => by have hcx := hx.load c1; (go_simp <;> with_reducible rfl), ?_⟩
 simp only [sP]
 refine gS 6 rfl ⟨.int .u64 (M.session : Int), fun w' hx => by (go_simp <;> (rw [IntKind.wrap_u64]; omega)), ?_⟩
 simp only [sP]
 refine gD 10 rfl ?_
 simp only [sP]
 refine gS 11 rfl ⟨_, fun w' hx => by have hcx := hx.load c2; (go_simp <;> with_reducible rfl), ?_⟩
 simp only [sP]
 refine gS 12 rfl ⟨.int .u64 (M.seq : Int), fun w' hx => by (go_simp <;> (rw [IntKind.wrap_u64]; omega)), ?_⟩
 simp only [sP]
 refine rg_call 7 (HD1.out _) rfl (by kernel_rfl) (by rfl) (by go_simp) ?_
 rintro e w7 ⟨rfl, hx7⟩
 refine ⟨_, rfl, hx7, ?_⟩
 simp only [sP]
 refine gS 8 rfl ⟨.string ⟨((d ++ [63] ++ [32]) ++ D1).toArray⟩, fun w' hx => ex_addS (p := d ++ [63] ++ [32]) (q := D1) rfl rfl rfl (by simp only [List.length_append, List.length_singleton, List.length_cons, List.length_nil] <;> omega), ?_⟩
 simp only [sP]
 refine gS 9 rfl ⟨.string ⟨((d ++ [63] ++ [32] ++ D1) ++ [47]).toArray⟩, fun w' hx => ex_addS (p := d ++ [63] ++ [32] ++ D1) (q := [47]) rfl rfl rfl (by simp only [List.length_append, List.length_singleton, List.length_cons, List.length_nil] <;> omega), ?_⟩
 simp only [sP]
 refine rg_call 13 (HD2.out _) rfl (by kernel_rfl) (by rfl) (by go_simp) ?_
 rintro e w13 ⟨rfl, hx13⟩
 refine ⟨_, rfl, hx13, ?_⟩
 simp only [sP]
 refine gS 14 rfl ⟨.string ⟨S.toArray⟩, fun w' hx => (ex_addS (p := d ++ [63] ++ [32] ++ D1 ++ [47]) (q := D2) rfl rfl rfl (by simp only [List.length_append, List.length_singleton, List.length_cons, List.length_nil] <;> omega)).trans (by rw [HS.out]), ?_⟩
 simp only [sP]
 refine gD 15 rfl ?_
 simp only [sP]
 refine rg_done (by kernel_rfl) ?_
 have E8 := Lib.hid (show Ext W0 w13 from ((Ext.drew W0).tr (Ext.drew _)).tr (Ext.tr hx7 hx13))
 have c5b := E8.out.load c5
 clear hx7 hx13 HS c0 c1 c2 c5
 go_wp2_with (first | (go_at_call 21; refine (HN0.out _).mono ?_; rintro e w9 ⟨rfl, hx9⟩; have E9 := Lib.hid (E8.out.tr hx9); clear hx9; refine Hid.out ?_) | (refine wpList_runT (by rfl) (.string ⟨((S) ++ [32]).toArray⟩) _ (ex_addS (p := S) (q := [32]) rfl rfl rfl (by simp only [List.length_append, List.length_singleton, List.length_cons, List.length_nil] <;> omega)) ?_))
 refine Lib.hid ?_
 go_wp2_with (first | (refine wpList_runT (by rfl) (.string ⟨S2.toArray⟩) _ ((ex_addS (p := S ++ [32]) (q := X1) rfl rfl rfl (by simp only [List.length_append, List.length_singleton, List.length_cons, List.length_nil] <;> omega)).trans (by rw [HS2.out])) ?_))
 go_ret
 exact ⟨by rw [HT.out] <;> first | rfl | simp, X0.out.tr E9.out⟩
set_option maxRecDepth 100000 in
set_option maxHeartbeats 4000000 in
theorem rtext_a6 (M : WmV) (w : World) (hM : M.In w) (hlo : M.lo.length ≤ 1000000) (hhi : M.hi.length ≤ 1000000) (hz : M.subs.length ≤ 1000000 ∧ M.ents.length ≤ 1000000 ∧ M.sigs.length ≤ 1000000 ∧ M.data.length ≤ 1000000) (hK : M.kind = 6) :
  Calls Tryz.prog 7 #[.agg M.cells] w fun e w' => e = .returned (.string ⟨(Tl.text M.x).toArray⟩) ∧ Below w.heap.size w w' := by
 have hs := hM.ok.session
 have hq := hM.ok.seq
 have hs64 : M.session < 18446744073709551616 := by omega
 have hq64 : M.seq < 18446744073709551616 := by omega
 have LD1 := Tl.dec_len M.session hs64
 have LD2 := Tl.dec_len M.seq hq64
 obtain ⟨W0, hW0⟩ : ∃ W0, W0 = w.alloc (.cells M.cells 31) := ⟨_, rfl⟩
 have hx0 : Ext w W0 := by rw [hW0]; exact Ext.alloc _ _
 have G0 : W0.heap[w.heap.size]? = some (.cells M.cells 31 (0, 0)) := by rw [hW0]; exact heap_alloc_new w _
 have c0 : W0.cell? ⟨w.heap.size, 0, none⟩ = _ := (cell_of_row _ _ 0 _ _ _ G0).trans (WmV.at0 M)
 have c1 : W0.cell? ⟨w.heap.size, 1, none⟩ = _ := (cell_of_row _ _ 1 _ _ _ G0).trans (WmV.at1 M)
 have c2 : W0.cell? ⟨w.heap.size, 2, none⟩ = _ := (cell_of_row _ _ 2 _ _ _ G0).trans (WmV.at2 M)
 have c5 : W0.cell? ⟨w.heap.size, 5, none⟩ = _ := (cell_of_row _ _ 5 _ _ _ G0).trans (WmV.at5 M)
 have X0 := Lib.hid hx0
 have HN0 := Lib.hid (fun W => signed_any M.n hM.ok.nlo hM.ok.nhi W)
 have LX1 := Lib.itoa_length_le M.n hM.ok.nlo hM.ok.nhi
 have HX : Tl.text M.x = Lib.join ([[98, 108, 111, 99, 107] ++ [63], Tl.num M.x] ++ [Lib.itoa M.n] ++ []) [32] := by
  unfold Tl.text
  rw [show Tl.kind M.x.kind = (6, false) by rw [show M.x.kind = 6 from hK]; rfl]
  simp only [Tl.word, Tl.mark, Tl.asked, Tl.told, WmV.x]
  simp
 have HD1 := Lib.hid (fun W => digits_any M.session hs64 W)
 have HD2 := Lib.hid (fun W => digits_any M.seq hq64 W)
 have HC := Lib.hid (rword_any 6 W0.drew)
 rw [hK] at c0
 have HT : Tl.text M.x = ([98, 108, 111, 99, 107] ++ [63] ++ [32] ++ (Lib.decDigits M.session) ++ [47] ++ (Lib.decDigits M.seq)) ++ [32] ++ (Lib.itoa M.n) := by
  rw [HX]
  simp [Lib.join_cons, Lib.joinTail, Tl.num, WmV.x]
 clear HX hK hz
 obtain ⟨D1, hD1⟩ : ∃ l, l = Lib.decDigits M.session := ⟨_, rfl⟩
 obtain ⟨D2, hD2⟩ : ∃ l, l = Lib.decDigits M.seq := ⟨_, rfl⟩
 obtain ⟨X1, hX1⟩ : ∃ l, l = Lib.itoa M.n := ⟨_, rfl⟩
 rw [← hD1] at HT HD1 LD1
 rw [← hD2] at HT HD2 LD2
 rw [← hX1] at HT LX1 HN0
 clear hD1 hD2 hX1
 obtain ⟨d, hd⟩ : ∃ d : List UInt8, d = [98, 108, 111, 99, 107] := ⟨_, rfl⟩
 have he : (d == ([] : List UInt8)) = false := by rw [hd]; rfl
 have hwl : d.length ≤ 5 := by rw [hd]; decide
 obtain ⟨S, hS⟩ : ∃ S : List UInt8, S = d ++ [63] ++ [32] ++ D1 ++ [47] ++ D2 := ⟨_, rfl⟩
 have LS : S.length ≤ 60 := by rw [hS]; simp only [List.length_append, List.length_singleton]; omega
 have HS := Lib.hid hS
 replace HT : Tl.text M.x = S ++ [32] ++ X1 := by rw [HT, hS, hd]
 obtain ⟨S2, hS2⟩ : ∃ l : List UInt8, l = S ++ [32] ++ X1 := ⟨_, rfl⟩
 have LS2 : S2.length ≤ 4000100 := by rw [hS2]; simp only [List.length_append, List.length_singleton]; omega
 rw [← hS2] at HT
 have HS2 := Lib.hid hS2
 clear hS2
 have HT := Lib.hid HT
 rw [show Tl.word 6 = d from hd.symm] at HC
 clear hd hS
 obtain ⟨P0, hP0⟩ : ∃ P, P = M.cells := ⟨_, rfl⟩
 rw [← hP0] at hW0 ⊢
 have HW0 := Lib.hid hW0
 clear hW0 hx0 G0 hP0 hM
 go_enter Tryz.func7, Tryz.ntmps7
 go_wp2_with (rw [← HW0.out]; refine Hid.out ?_)
 refine Lib.hid ?_
 go_wp2_with fail
 refine rg_start (by kernel_rfl) ?_
 refine gD 0 rfl ?_
 simp only [sP]
 refine gS 1 rfl ⟨_, fun w' hx => by have hcx := hx.load c0; (go_simp <;> with_reducible rfl), ?_⟩
 simp only [sP]
 refine gD 3 rfl ?_
 simp only [sP]
 refine gS 4 rfl ⟨_, fun w' hx => by have hcx := hx.load c0; (go_simp <;> with_reducible rfl), ?_⟩
 simp only [sP]
 refine rg_call 2 (HC.out) rfl (by kernel_rfl) (by rfl) (by go_simp) ?_
 rintro e w' ⟨rfl, rfl⟩
 refine ⟨_, rfl, Ext.refl _, ?_⟩
 simp only [sP]
 refine gD 5 rfl ?_
 simp only [sP]
 refine gD 6 rfl ?_
 simp only [sP]
 refine gD 7 rfl ?_
 simp only [sP]
 refine rg_done (by kernel_rfl) ?_
 go_wp2_with (first | (refine wpList_runT (by rfl) (.bool false) _ ((ex_eqlS (p := d) (q := []) rfl rfl rfl).trans (by rw [he])) ?_))
 refine rg_start (by kernel_rfl) ?_
 refine gD 0 rfl ?_
 simp only [sP]
 refine gD 1 rfl ?_
 simp only [sP]
 refine gS 2 rfl ⟨.string ⟨((d) ++ [63]).toArray⟩, fun w' hx => ex_addS (p := d) (q := [63]) rfl rfl rfl (by simp only [List.length_append, List.length_singleton, List.length_cons, List.length_nil] <;> omega), ?_⟩
 simp only [sP]
 refine gS 3 rfl ⟨.string ⟨((d ++ [63]) ++ [32]).toArray⟩, fun w' hx => ex_addS (p := d ++ [63]) (q := [32]) rfl rfl rfl (by simp only [List.length_append, List.length_singleton, List.length_cons, List.length_nil] <;> omega), ?_⟩
 simp only [sP]
 refine gD 4 rfl ?_
 simp only [sP]
 refine gS 5 rfl ⟨_, fun w' hx => by have hcx := hx.load c1; (go_simp <;> with_reducible rfl), ?_⟩
 simp only [sP]
 refine gS 6 rfl ⟨.int .u64 (M.session : Int), fun w' hx => by (go_simp <;> (rw [IntKind.wrap_u64]; omega)), ?_⟩
 simp only [sP]
 refine gD 10 rfl ?_
 simp only [sP]
 refine gS 11 rfl ⟨_, fun w' hx => by have hcx := hx.load c2; (go_simp <;> with_reducible rfl), ?_⟩
 simp only [sP]
 refine gS 12 rfl ⟨.int .u64 (M.seq : Int), fun w' hx => by (go_simp <;> (rw [IntKind.wrap_u64]; omega)), ?_⟩
 simp only [sP]
 refine rg_call 7 (HD1.out _) rfl (by kernel_rfl) (by rfl) (by go_simp) ?_
 rintro e w7 ⟨rfl, hx7⟩
 refine ⟨_, rfl, hx7, ?_⟩
 simp only [sP]
 refine gS 8 rfl ⟨.string ⟨((d ++ [63] ++ [32]) ++ D1).toArray⟩, fun w' hx => ex_addS (p := d ++ [63] ++ [32]) (q := D1) rfl rfl rfl (by simp only [List.length_append, List.length_singleton, List.length_cons, List.length_nil] <;> omega), ?_⟩
 simp only [sP]
 refine gS 9 rfl ⟨.string ⟨((d ++ [63] ++ [32] ++ D1) ++ [47]).toArray⟩, fun w' hx => ex_addS (p := d ++ [63] ++ [32] ++ D1) (q := [47]) rfl rfl rfl (by simp only [List.length_append, List.length_singleton, List.length_cons, List.length_nil] <;> omega), ?_⟩
 simp only [sP]
 refine rg_call 13 (HD2.out _) rfl (by kernel_rfl) (by rfl) (by go_simp) ?_
 rintro e w13 ⟨rfl, hx13⟩
 refine ⟨_, rfl, hx13, ?_⟩
 simp only [sP]
 refine gS 14 rfl ⟨.string ⟨S.toArray⟩, fun w' hx => (ex_addS (p := d ++ [63] ++ [32] ++ D1 ++ [47]) (q := D2) rfl rfl rfl (by simp only [List.length_append, List.length_singleton, List.length_cons, List.length_nil] <;> omega)).trans (by rw [HS.out]), ?_⟩
 simp only [sP]
 refine gD 15 rfl ?_
 simp only [sP]
 refine rg_done (by kernel_rfl) ?_
 have E8 := Lib.hid (show Ext W0 w13 from ((Ext.drew W0).tr (Ext.drew _)).tr (Ext.tr hx7 hx13))
 have c5b := E8.out.load c5
 clear hx7 hx13 HS c0 c1 c2 c5
 go_wp2_with (first | (go_at_call 21; refine (HN0.out _).mono ?_; rintro e w9 ⟨rfl, hx9⟩; have E9 := Lib.hid (E8.out.tr hx9); clear hx9; refine Hid.out ?_) | (refine wpList_runT (by rfl) (.string ⟨((S) ++ [32]).toArray⟩) _ (ex_addS (p := S) (q := [32]) rfl rfl rfl (by simp only [List.length_append, List.length_singleton, List.length_cons, List.length_nil] <;> omega)) ?_))
 refine Lib.hid ?_
 go_wp2_with (first | (refine wpList_runT (by rfl) (.string ⟨S2.toArray⟩) _ ((ex_addS (p := S ++ [32]) (q := X1) rfl rfl rfl (by simp only [List.length_append, List.length_singleton, List.length_cons, List.length_nil] <;> omega)).trans (by rw [HS2.out])) ?_))
 go_ret
 exact ⟨by rw [HT.out] <;> first | rfl | simp, X0.out.tr E9.out⟩
set_option maxRecDepth 100000 in
set_option maxHeartbeats 4000000 in
theorem rtext_t1 (M : WmV) (w : World) (hM : M.In w) (hlo : M.lo.length ≤ 1000000) (hhi : M.hi.length ≤ 1000000) (hz : M.subs.length ≤ 1000000 ∧ M.ents.length ≤ 1000000 ∧ M.sigs.length ≤ 1000000 ∧ M.data.length ≤ 1000000) (hK : M.kind = 17) :
  Calls Tryz.prog 7 #[.agg M.cells] w fun e w' => e = .returned (.string ⟨(Tl.text M.x).toArray⟩) ∧ Below w.heap.size w w' := by
 have hs := hM.ok.session
 have hq := hM.ok.seq
 have hs64 : M.session < 18446744073709551616 := by omega
 have hq64 : M.seq < 18446744073709551616 := by omega
 have LD1 := Tl.dec_len M.session hs64
 have LD2 := Tl.dec_len M.seq hq64
 obtain ⟨W0, hW0⟩ : ∃ W0, W0 = w.alloc (.cells M.cells 31) := ⟨_, rfl⟩
 have hx0 : Ext w W0 := by rw [hW0]; exact Ext.alloc _ _
 have G0 : W0.heap[w.heap.size]? = some (.cells M.cells 31 (0, 0)) := by rw [hW0]; exact heap_alloc_new w _
 have c0 : W0.cell? ⟨w.heap.size, 0, none⟩ = _ := (cell_of_row _ _ 0 _ _ _ G0).trans (WmV.at0 M)
 have c1 : W0.cell? ⟨w.heap.size, 1, none⟩ = _ := (cell_of_row _ _ 1 _ _ _ G0).trans (WmV.at1 M)
 have c2 : W0.cell? ⟨w.heap.size, 2, none⟩ = _ := (cell_of_row _ _ 2 _ _ _ G0).trans (WmV.at2 M)
 have c6 : W0.cell? ⟨w.heap.size, 6, none⟩ = _ := (cell_of_row _ _ 6 _ _ _ G0).trans (WmV.at6 M)
 have c7 : W0.cell? ⟨w.heap.size, 7, none⟩ = _ := (cell_of_row _ _ 7 _ _ _ G0).trans (WmV.at7 M)
 have c40 : W0.cell? ⟨w.heap.size, 40, none⟩ = _ := (cell_of_row _ _ 40 _ _ _ G0).trans (WmV.at40 hM.ok)
 have X0 := Lib.hid hx0
 have HN1 := Lib.hid (fun W => digits_any M.lsn hM.ok.lsn W)
 have HN2 := Lib.hid (fun W => signed_any M.count hM.ok.clo hM.ok.chi W)
 have HN3 := Lib.hid (fun W => signed_any M.size hM.ok.zlo hM.ok.zhi W)
 have LN1 := Tl.dec_len M.lsn hM.ok.lsn
 have LN2 := Lib.itoa_length_le M.count hM.ok.clo hM.ok.chi
 have LN3 := Lib.itoa_length_le M.size hM.ok.zlo hM.ok.zhi
 have HX : Tl.text M.x = Lib.join ([[104, 101, 108, 108, 111] ++ [33], Tl.num M.x] ++ [] ++ [Lib.decDigits M.lsn, Lib.itoa M.count, Lib.itoa M.size]) [32] := by
  unfold Tl.text
  rw [show Tl.kind M.x.kind = (1, true) by rw [show M.x.kind = 17 from hK]; rfl]
  simp only [Tl.word, Tl.mark, Tl.asked, Tl.told, WmV.x]
  simp
 have HD1 := Lib.hid (fun W => digits_any M.session hs64 W)
 have HD2 := Lib.hid (fun W => digits_any M.seq hq64 W)
 have HC := Lib.hid (rword_any 17 W0.drew)
 have HC2 := Lib.hid (rword_any 1 W0.drew)
 rw [hK] at c0
 have HT : Tl.text M.x = ([104, 101, 108, 108, 111] ++ [33] ++ [32] ++ (Lib.decDigits M.session) ++ [47] ++ (Lib.decDigits M.seq)) ++ [32] ++ (Lib.decDigits M.lsn) ++ [32] ++ (Lib.itoa M.count) ++ [32] ++ (Lib.itoa M.size) := by
  rw [HX]
  simp [Lib.join_cons, Lib.joinTail, Tl.num, WmV.x]
 clear HX hK hz
 obtain ⟨D1, hD1⟩ : ∃ l, l = Lib.decDigits M.session := ⟨_, rfl⟩
 obtain ⟨D2, hD2⟩ : ∃ l, l = Lib.decDigits M.seq := ⟨_, rfl⟩
 obtain ⟨N1, hN1⟩ : ∃ l, l = Lib.decDigits M.lsn := ⟨_, rfl⟩
 obtain ⟨N2, hN2⟩ : ∃ l, l = Lib.itoa M.count := ⟨_, rfl⟩
 obtain ⟨N3, hN3⟩ : ∃ l, l = Lib.itoa M.size := ⟨_, rfl⟩
 rw [← hD1] at HT HD1 LD1
 rw [← hD2] at HT HD2 LD2
 rw [← hN1] at HT LN1 HN1
 rw [← hN2] at HT LN2 HN2
 rw [← hN3] at HT LN3 HN3
 clear hD1 hD2 hN1 hN2 hN3
 obtain ⟨d, hd⟩ : ∃ d : List UInt8, d = [104, 101, 108, 108, 111] := ⟨_, rfl⟩
 have he : (d == ([] : List UInt8)) = false := by rw [hd]; rfl
 have hwl : d.length ≤ 5 := by rw [hd]; decide
 obtain ⟨S, hS⟩ : ∃ S : List UInt8, S = d ++ [33] ++ [32] ++ D1 ++ [47] ++ D2 := ⟨_, rfl⟩
 have LS : S.length ≤ 60 := by rw [hS]; simp only [List.length_append, List.length_singleton]; omega
 have HS := Lib.hid hS
 replace HT : Tl.text M.x = S ++ [32] ++ N1 ++ [32] ++ N2 ++ [32] ++ N3 := by rw [HT, hS, hd]
 obtain ⟨S4, hS4⟩ : ∃ l : List UInt8, l = S ++ [32] ++ N1 ++ [32] ++ N2 ++ [32] ++ N3 := ⟨_, rfl⟩
 have LS4 : S4.length ≤ 5000000 := by rw [hS4]; simp only [List.length_append, List.length_singleton]; omega
 rw [← hS4] at HT
 have HS4 := Lib.hid hS4
 clear hS4
 have HT := Lib.hid HT
 rw [show Tl.word 17 = [] from rfl] at HC
 rw [show Tl.word 1 = d from hd.symm] at HC2
 clear hd hS
 obtain ⟨P0, hP0⟩ : ∃ P, P = M.cells := ⟨_, rfl⟩
 rw [← hP0] at hW0 ⊢
 have HW0 := Lib.hid hW0
 clear hW0 hx0 G0 hP0 hM
 go_enter Tryz.func7, Tryz.ntmps7
 go_wp2_with (rw [← HW0.out]; refine Hid.out ?_)
 refine Lib.hid ?_
 go_wp2_with fail
 refine rg_start (by kernel_rfl) ?_
 refine gD 0 rfl ?_
 simp only [sP]
 refine gS 1 rfl ⟨_, fun w' hx => by have hcx := hx.load c0; (go_simp <;> with_reducible rfl), ?_⟩
 simp only [sP]
 refine gD 3 rfl ?_
 simp only [sP]
 refine gS 4 rfl ⟨_, fun w' hx => by have hcx := hx.load c0; (go_simp <;> with_reducible rfl), ?_⟩
 simp only [sP]
 refine rg_call 2 (HC.out) rfl (by kernel_rfl) (by rfl) (by go_simp) ?_
 rintro e w' ⟨rfl, rfl⟩
 refine ⟨_, rfl, Ext.refl _, ?_⟩
 simp only [sP]
 refine gD 5 rfl ?_
 simp only [sP]
 refine gD 6 rfl ?_
 simp only [sP]
 refine gD 7 rfl ?_
 simp only [sP]
 refine rg_done (by kernel_rfl) ?_
 go_wp2_with (first | (go_at_call 18; refine HC2.out.mono ?_; rintro e w' ⟨rfl, rfl⟩) | (refine wpList_runT (by rfl) (.bool false) _ ((ex_eqlS (p := d) (q := []) rfl rfl rfl).trans (by rw [he])) ?_) | (refine wpList_runT (by rfl) (.bool true) _ (ex_eqlS (p := []) (q := []) rfl rfl rfl) ?_))
 refine rg_start (by kernel_rfl) ?_
 refine gD 0 rfl ?_
 simp only [sP]
 refine gD 1 rfl ?_
 simp only [sP]
 refine gS 2 rfl ⟨.string ⟨((d) ++ [33]).toArray⟩, fun w' hx => ex_addS (p := d) (q := [33]) rfl rfl rfl (by simp only [List.length_append, List.length_singleton, List.length_cons, List.length_nil] <;> omega), ?_⟩
 simp only [sP]
 refine gS 3 rfl ⟨.string ⟨((d ++ [33]) ++ [32]).toArray⟩, fun w' hx => ex_addS (p := d ++ [33]) (q := [32]) rfl rfl rfl (by simp only [List.length_append, List.length_singleton, List.length_cons, List.length_nil] <;> omega), ?_⟩
 simp only [sP]
 refine gD 4 rfl ?_
 simp only [sP]
 refine gS 5 rfl ⟨_, fun w' hx => by have hcx := hx.load c1; (go_simp <;> with_reducible rfl), ?_⟩
 simp only [sP]
 refine gS 6 rfl ⟨.int .u64 (M.session : Int), fun w' hx => by (go_simp <;> (rw [IntKind.wrap_u64]; omega)), ?_⟩
 simp only [sP]
 refine gD 10 rfl ?_
 simp only [sP]
 refine gS 11 rfl ⟨_, fun w' hx => by have hcx := hx.load c2; (go_simp <;> with_reducible rfl), ?_⟩
 simp only [sP]
 refine gS 12 rfl ⟨.int .u64 (M.seq : Int), fun w' hx => by (go_simp <;> (rw [IntKind.wrap_u64]; omega)), ?_⟩
 simp only [sP]
 refine rg_call 7 (HD1.out _) rfl (by kernel_rfl) (by rfl) (by go_simp) ?_
 rintro e w7 ⟨rfl, hx7⟩
 refine ⟨_, rfl, hx7, ?_⟩
 simp only [sP]
 refine gS 8 rfl ⟨.string ⟨((d ++ [33] ++ [32]) ++ D1).toArray⟩, fun w' hx => ex_addS (p := d ++ [33] ++ [32]) (q := D1) rfl rfl rfl (by simp only [List.length_append, List.length_singleton, List.length_cons, List.length_nil] <;> omega), ?_⟩
 simp only [sP]
 refine gS 9 rfl ⟨.string ⟨((d ++ [33] ++ [32] ++ D1) ++ [47]).toArray⟩, fun w' hx => ex_addS (p := d ++ [33] ++ [32] ++ D1) (q := [47]) rfl rfl rfl (by simp only [List.length_append, List.length_singleton, List.length_cons, List.length_nil] <;> omega), ?_⟩
 simp only [sP]
 refine rg_call 13 (HD2.out _) rfl (by kernel_rfl) (by rfl) (by go_simp) ?_
 rintro e w13 ⟨rfl, hx13⟩
 refine ⟨_, rfl, hx13, ?_⟩
 simp only [sP]
 refine gS 14 rfl ⟨.string ⟨S.toArray⟩, fun w' hx => (ex_addS (p := d ++ [33] ++ [32] ++ D1 ++ [47]) (q := D2) rfl rfl rfl (by simp only [List.length_append, List.length_singleton, List.length_cons, List.length_nil] <;> omega)).trans (by rw [HS.out]), ?_⟩
 simp only [sP]
 refine gD 15 rfl ?_
 simp only [sP]
 refine rg_done (by kernel_rfl) ?_
 have E8 := Lib.hid (show Ext W0 w13 from ((Ext.drew W0).tr (Ext.drew _)).tr (Ext.tr hx7 hx13))
 have c6b := E8.out.load c6
 have c7b := E8.out.load c7
 have c40b := E8.out.load c40
 clear hx7 hx13 HS c0 c1 c2 c6 c7 c40
 go_wp2_with fail
 refine rg_start (by kernel_rfl) ?_
 refine gD 0 rfl ?_
 simp only [sP]
 refine gS 1 rfl ⟨.string ⟨((S) ++ [32]).toArray⟩, fun w' hx => ex_addS (p := S) (q := [32]) rfl rfl rfl (by simp only [List.length_append, List.length_singleton, List.length_cons, List.length_nil] <;> omega), ?_⟩
 simp only [sP]
 refine gD 2 rfl ?_
 simp only [sP]
 refine gS 3 rfl ⟨_, fun w' hx => by have hcx := hx.load c6b; (go_simp <;> with_reducible rfl), ?_⟩
 simp only [sP]
 refine gD 7 rfl ?_
 simp only [sP]
 refine gS 8 rfl ⟨_, fun w' hx => by have hcx := hx.load c7b; (go_simp <;> with_reducible rfl), ?_⟩
 simp only [sP]
 refine gD 12 rfl ?_
 simp only [sP]
 refine gS 13 rfl ⟨_, fun w' hx => by have hcx := hx.load c40b; (go_simp <;> with_reducible rfl), ?_⟩
 simp only [sP]
 refine rg_call 4 (HN1.out _) rfl (by kernel_rfl) (by rfl) (by go_simp) ?_
 rintro e w4 ⟨rfl, hx4⟩
 refine ⟨_, rfl, hx4, ?_⟩
 simp only [sP]
 refine gS 5 rfl ⟨.string ⟨((S ++ [32]) ++ N1).toArray⟩, fun w' hx => ex_addS (p := S ++ [32]) (q := N1) rfl rfl rfl (by simp only [List.length_append, List.length_singleton, List.length_cons, List.length_nil] <;> omega), ?_⟩
 simp only [sP]
 refine gS 6 rfl ⟨.string ⟨((S ++ [32] ++ N1) ++ [32]).toArray⟩, fun w' hx => ex_addS (p := S ++ [32] ++ N1) (q := [32]) rfl rfl rfl (by simp only [List.length_append, List.length_singleton, List.length_cons, List.length_nil] <;> omega), ?_⟩
 simp only [sP]
 refine rg_call 9 (HN2.out _) rfl (by kernel_rfl) (by rfl) (by go_simp) ?_
 rintro e w9 ⟨rfl, hx9⟩
 refine ⟨_, rfl, hx9, ?_⟩
 simp only [sP]
 refine gS 10 rfl ⟨.string ⟨((S ++ [32] ++ N1 ++ [32]) ++ N2).toArray⟩, fun w' hx => ex_addS (p := S ++ [32] ++ N1 ++ [32]) (q := N2) rfl rfl rfl (by simp only [List.length_append, List.length_singleton, List.length_cons, List.length_nil] <;> omega), ?_⟩
 simp only [sP]
 refine gS 11 rfl ⟨.string ⟨((S ++ [32] ++ N1 ++ [32] ++ N2) ++ [32]).toArray⟩, fun w' hx => ex_addS (p := S ++ [32] ++ N1 ++ [32] ++ N2) (q := [32]) rfl rfl rfl (by simp only [List.length_append, List.length_singleton, List.length_cons, List.length_nil] <;> omega), ?_⟩
 simp only [sP]
 refine rg_call 14 (HN3.out _) rfl (by kernel_rfl) (by rfl) (by go_simp) ?_
 rintro e w14 ⟨rfl, hx14⟩
 refine ⟨_, rfl, hx14, ?_⟩
 simp only [sP]
 refine gS 15 rfl ⟨.string ⟨S4.toArray⟩, fun w' hx => (ex_addS (p := S ++ [32] ++ N1 ++ [32] ++ N2 ++ [32]) (q := N3) rfl rfl rfl (by simp only [List.length_append, List.length_singleton, List.length_cons, List.length_nil] <;> omega)).trans (by rw [HS4.out]), ?_⟩
 simp only [sP]
 refine gD 16 rfl ?_
 simp only [sP]
 refine rg_done (by kernel_rfl) ?_
 have E20 := Lib.hid ((E8.out.tr (Ext.drew _)).tr (Ext.tr (Ext.tr hx4 hx9) hx14))
 clear hx4 hx9 hx14
 go_wp2_with fail
 go_ret
 exact ⟨by rw [HT.out] <;> first | rfl | simp, X0.out.tr E20.out⟩
set_option maxRecDepth 100000 in
set_option maxHeartbeats 4000000 in
theorem rtext_t2 (M : WmV) (w : World) (hM : M.In w) (hlo : M.lo.length ≤ 1000000) (hhi : M.hi.length ≤ 1000000) (hz : M.subs.length ≤ 1000000 ∧ M.ents.length ≤ 1000000 ∧ M.sigs.length ≤ 1000000 ∧ M.data.length ≤ 1000000) (hK : M.kind = 18) :
  Calls Tryz.prog 7 #[.agg M.cells] w fun e w' => e = .returned (.string ⟨(Tl.text M.x).toArray⟩) ∧ Below w.heap.size w w' := by
 have hs := hM.ok.session
 have hq := hM.ok.seq
 have hs64 : M.session < 18446744073709551616 := by omega
 have hq64 : M.seq < 18446744073709551616 := by omega
 have LD1 := Tl.dec_len M.session hs64
 have LD2 := Tl.dec_len M.seq hq64
 obtain ⟨W0, hW0⟩ : ∃ W0, W0 = w.alloc (.cells M.cells 31) := ⟨_, rfl⟩
 have hx0 : Ext w W0 := by rw [hW0]; exact Ext.alloc _ _
 have G0 : W0.heap[w.heap.size]? = some (.cells M.cells 31 (0, 0)) := by rw [hW0]; exact heap_alloc_new w _
 have c0 : W0.cell? ⟨w.heap.size, 0, none⟩ = _ := (cell_of_row _ _ 0 _ _ _ G0).trans (WmV.at0 M)
 have c1 : W0.cell? ⟨w.heap.size, 1, none⟩ = _ := (cell_of_row _ _ 1 _ _ _ G0).trans (WmV.at1 M)
 have c2 : W0.cell? ⟨w.heap.size, 2, none⟩ = _ := (cell_of_row _ _ 2 _ _ _ G0).trans (WmV.at2 M)
 have c73 : W0.cell? ⟨w.heap.size, 73, none⟩ = _ := (cell_of_row _ _ 73 _ _ _ G0).trans (WmV.at73 hM.ok)
 have X0 := Lib.hid hx0
 obtain ⟨z1, z2, z3, z4⟩ := hz
 have HN1 := Lib.hid (fun W => signed_any (M.subs.length : Int) (by omega) (by omega) W)
 have LN1 := Lib.itoa_length_le (M.subs.length : Int) (by omega) (by omega)
 have e9 : M.x.subs.length = M.subs.length := by simp [WmV.x]
 have HX : Tl.text M.x = Lib.join ([[116, 97, 98, 108, 101] ++ [33], Tl.num M.x] ++ [] ++ [Lib.itoa (M.subs.length : Int)]) [32] := by
  unfold Tl.text
  rw [show Tl.kind M.x.kind = (2, true) by rw [show M.x.kind = 18 from hK]; rfl]
  simp only [Tl.word, Tl.mark, Tl.asked, Tl.told, WmV.x]
  simp
 have HD1 := Lib.hid (fun W => digits_any M.session hs64 W)
 have HD2 := Lib.hid (fun W => digits_any M.seq hq64 W)
 have HC := Lib.hid (rword_any 18 W0.drew)
 have HC2 := Lib.hid (rword_any 2 W0.drew)
 rw [hK] at c0
 have HT : Tl.text M.x = ([116, 97, 98, 108, 101] ++ [33] ++ [32] ++ (Lib.decDigits M.session) ++ [47] ++ (Lib.decDigits M.seq)) ++ [32] ++ (Lib.itoa (M.subs.length : Int)) := by
  rw [HX]
  simp [Lib.join_cons, Lib.joinTail, Tl.num, WmV.x]
 clear HX hK
 obtain ⟨D1, hD1⟩ : ∃ l, l = Lib.decDigits M.session := ⟨_, rfl⟩
 obtain ⟨D2, hD2⟩ : ∃ l, l = Lib.decDigits M.seq := ⟨_, rfl⟩
 obtain ⟨N1, hN1⟩ : ∃ l, l = Lib.itoa (M.subs.length : Int) := ⟨_, rfl⟩
 rw [← hD1] at HT HD1 LD1
 rw [← hD2] at HT HD2 LD2
 rw [← hN1] at HT LN1 HN1
 clear hD1 hD2 hN1
 obtain ⟨d, hd⟩ : ∃ d : List UInt8, d = [116, 97, 98, 108, 101] := ⟨_, rfl⟩
 have he : (d == ([] : List UInt8)) = false := by rw [hd]; rfl
 have hwl : d.length ≤ 5 := by rw [hd]; decide
 obtain ⟨S, hS⟩ : ∃ S : List UInt8, S = d ++ [33] ++ [32] ++ D1 ++ [47] ++ D2 := ⟨_, rfl⟩
 have LS : S.length ≤ 60 := by rw [hS]; simp only [List.length_append, List.length_singleton]; omega
 have HS := Lib.hid hS
 replace HT : Tl.text M.x = S ++ [32] ++ N1 := by rw [HT, hS, hd]
 obtain ⟨S3, hS3⟩ : ∃ l : List UInt8, l = S ++ [32] ++ N1 := ⟨_, rfl⟩
 have LS3 : S3.length ≤ 5000000 := by rw [hS3]; simp only [List.length_append, List.length_singleton]; omega
 rw [← hS3] at HT
 have HS3 := Lib.hid hS3
 clear hS3
 have HT := Lib.hid HT
 rw [show Tl.word 18 = [] from rfl] at HC
 rw [show Tl.word 2 = d from hd.symm] at HC2
 clear hd hS
 obtain ⟨P0, hP0⟩ : ∃ P, P = M.cells := ⟨_, rfl⟩
 rw [← hP0] at hW0 ⊢
 have HW0 := Lib.hid hW0
 clear hW0 hx0 G0 hP0 hM
 go_enter Tryz.func7, Tryz.ntmps7
 go_wp2_with (rw [← HW0.out]; refine Hid.out ?_)
 refine Lib.hid ?_
 go_wp2_with fail
 refine rg_start (by kernel_rfl) ?_
 refine gD 0 rfl ?_
 simp only [sP]
 refine gS 1 rfl ⟨_, fun w' hx => by have hcx := hx.load c0; (go_simp <;> with_reducible rfl), ?_⟩
 simp only [sP]
 refine gD 3 rfl ?_
 simp only [sP]
 refine gS 4 rfl ⟨_, fun w' hx => by have hcx := hx.load c0; (go_simp <;> with_reducible rfl), ?_⟩
 simp only [sP]
 refine rg_call 2 (HC.out) rfl (by kernel_rfl) (by rfl) (by go_simp) ?_
 rintro e w' ⟨rfl, rfl⟩
 refine ⟨_, rfl, Ext.refl _, ?_⟩
 simp only [sP]
 refine gD 5 rfl ?_
 simp only [sP]
 refine gD 6 rfl ?_
 simp only [sP]
 refine gD 7 rfl ?_
 simp only [sP]
 refine rg_done (by kernel_rfl) ?_
 go_wp2_with (first | (go_at_call 18; refine HC2.out.mono ?_; rintro e w' ⟨rfl, rfl⟩) | (refine wpList_runT (by rfl) (.bool false) _ ((ex_eqlS (p := d) (q := []) rfl rfl rfl).trans (by rw [he])) ?_) | (refine wpList_runT (by rfl) (.bool true) _ (ex_eqlS (p := []) (q := []) rfl rfl rfl) ?_))
 refine rg_start (by kernel_rfl) ?_
 refine gD 0 rfl ?_
 simp only [sP]
 refine gD 1 rfl ?_
 simp only [sP]
 refine gS 2 rfl ⟨.string ⟨((d) ++ [33]).toArray⟩, fun w' hx => ex_addS (p := d) (q := [33]) rfl rfl rfl (by simp only [List.length_append, List.length_singleton, List.length_cons, List.length_nil] <;> omega), ?_⟩
 simp only [sP]
 refine gS 3 rfl ⟨.string ⟨((d ++ [33]) ++ [32]).toArray⟩, fun w' hx => ex_addS (p := d ++ [33]) (q := [32]) rfl rfl rfl (by simp only [List.length_append, List.length_singleton, List.length_cons, List.length_nil] <;> omega), ?_⟩
 simp only [sP]
 refine gD 4 rfl ?_
 simp only [sP]
 refine gS 5 rfl ⟨_, fun w' hx => by have hcx := hx.load c1; (go_simp <;> with_reducible rfl), ?_⟩
 simp only [sP]
 refine gS 6 rfl ⟨.int .u64 (M.session : Int), fun w' hx => by (go_simp <;> (rw [IntKind.wrap_u64]; omega)), ?_⟩
 simp only [sP]
 refine gD 10 rfl ?_
 simp only [sP]
 refine gS 11 rfl ⟨_, fun w' hx => by have hcx := hx.load c2; (go_simp <;> with_reducible rfl), ?_⟩
 simp only [sP]
 refine gS 12 rfl ⟨.int .u64 (M.seq : Int), fun w' hx => by (go_simp <;> (rw [IntKind.wrap_u64]; omega)), ?_⟩
 simp only [sP]
 refine rg_call 7 (HD1.out _) rfl (by kernel_rfl) (by rfl) (by go_simp) ?_
 rintro e w7 ⟨rfl, hx7⟩
 refine ⟨_, rfl, hx7, ?_⟩
 simp only [sP]
 refine gS 8 rfl ⟨.string ⟨((d ++ [33] ++ [32]) ++ D1).toArray⟩, fun w' hx => ex_addS (p := d ++ [33] ++ [32]) (q := D1) rfl rfl rfl (by simp only [List.length_append, List.length_singleton, List.length_cons, List.length_nil] <;> omega), ?_⟩
 simp only [sP]
 refine gS 9 rfl ⟨.string ⟨((d ++ [33] ++ [32] ++ D1) ++ [47]).toArray⟩, fun w' hx => ex_addS (p := d ++ [33] ++ [32] ++ D1) (q := [47]) rfl rfl rfl (by simp only [List.length_append, List.length_singleton, List.length_cons, List.length_nil] <;> omega), ?_⟩
 simp only [sP]
 refine rg_call 13 (HD2.out _) rfl (by kernel_rfl) (by rfl) (by go_simp) ?_
 rintro e w13 ⟨rfl, hx13⟩
 refine ⟨_, rfl, hx13, ?_⟩
 simp only [sP]
 refine gS 14 rfl ⟨.string ⟨S.toArray⟩, fun w' hx => (ex_addS (p := d ++ [33] ++ [32] ++ D1 ++ [47]) (q := D2) rfl rfl rfl (by simp only [List.length_append, List.length_singleton, List.length_cons, List.length_nil] <;> omega)).trans (by rw [HS.out]), ?_⟩
 simp only [sP]
 refine gD 15 rfl ?_
 simp only [sP]
 refine rg_done (by kernel_rfl) ?_
 have E8 := Lib.hid (show Ext W0 w13 from ((Ext.drew W0).tr (Ext.drew _)).tr (Ext.tr hx7 hx13))
 have c73b := E8.out.load c73
 clear hx7 hx13 HS c0 c1 c2 c73
 go_wp2_with (first | (go_at_call 21; refine (HN1.out _).mono ?_; rintro e w21 ⟨rfl, hx21⟩; have E21 := Lib.hid (Ext.tr E8.out hx21); clear hx21) | (refine wpList_runT (by rfl) (.string ⟨((S) ++ [32]).toArray⟩) _ (ex_addS (p := S) (q := [32]) rfl rfl rfl (by simp only [List.length_append, List.length_singleton, List.length_cons, List.length_nil] <;> omega)) ?_) | (refine wpList_runT (by rfl) (.string ⟨S3.toArray⟩) _ ((ex_addS (p := S ++ [32]) (q := N1) rfl rfl rfl (by simp only [List.length_append, List.length_singleton, List.length_cons, List.length_nil] <;> omega)).trans (by rw [HS3.out])) ?_))
 go_wp2_with fail
 go_ret
 exact ⟨by rw [HT.out] <;> first | rfl | simp, X0.out.tr E21.out⟩
set_option maxRecDepth 100000 in
set_option maxHeartbeats 4000000 in
theorem rtext_t3 (M : WmV) (w : World) (hM : M.In w) (hlo : M.lo.length ≤ 1000000) (hhi : M.hi.length ≤ 1000000) (hz : M.subs.length ≤ 1000000 ∧ M.ents.length ≤ 1000000 ∧ M.sigs.length ≤ 1000000 ∧ M.data.length ≤ 1000000) (hK : M.kind = 19) :
  Calls Tryz.prog 7 #[.agg M.cells] w fun e w' => e = .returned (.string ⟨(Tl.text M.x).toArray⟩) ∧ Below w.heap.size w w' := by
 have hs := hM.ok.session
 have hq := hM.ok.seq
 have hs64 : M.session < 18446744073709551616 := by omega
 have hq64 : M.seq < 18446744073709551616 := by omega
 have LD1 := Tl.dec_len M.session hs64
 have LD2 := Tl.dec_len M.seq hq64
 obtain ⟨W0, hW0⟩ : ∃ W0, W0 = w.alloc (.cells M.cells 31) := ⟨_, rfl⟩
 have hx0 : Ext w W0 := by rw [hW0]; exact Ext.alloc _ _
 have G0 : W0.heap[w.heap.size]? = some (.cells M.cells 31 (0, 0)) := by rw [hW0]; exact heap_alloc_new w _
 have c0 : W0.cell? ⟨w.heap.size, 0, none⟩ = _ := (cell_of_row _ _ 0 _ _ _ G0).trans (WmV.at0 M)
 have c1 : W0.cell? ⟨w.heap.size, 1, none⟩ = _ := (cell_of_row _ _ 1 _ _ _ G0).trans (WmV.at1 M)
 have c2 : W0.cell? ⟨w.heap.size, 2, none⟩ = _ := (cell_of_row _ _ 2 _ _ _ G0).trans (WmV.at2 M)
 have c3 : W0.cell? ⟨w.heap.size, 3, none⟩ = _ := (cell_of_row _ _ 3 _ _ _ G0).trans (WmV.at3 M)
 have c4 : W0.cell? ⟨w.heap.size, 4, none⟩ = _ := (cell_of_row _ _ 4 _ _ _ G0).trans (WmV.at4 M)
 have c73 : W0.cell? ⟨w.heap.size, 73, none⟩ = _ := (cell_of_row _ _ 73 _ _ _ G0).trans (WmV.at73 hM.ok)
 have X0 := Lib.hid hx0
 have HHL := Lib.hid (fun W (x : Ext W0 W) => rhex_any M.la M.lo M.lc W (hM.lr.below (X0.out.tr x)) hlo)
 have HHH := Lib.hid (fun W (x : Ext W0 W) => rhex_any M.ha M.hi M.hc W (hM.hr.below (X0.out.tr x)) hhi)
 have LX1 := Tl.hex_len M.lo hlo
 have LX2 := Tl.hex_len M.hi hhi
 obtain ⟨z1, z2, z3, z4⟩ := hz
 have HN1 := Lib.hid (fun W => signed_any (M.subs.length : Int) (by omega) (by omega) W)
 have LN1 := Lib.itoa_length_le (M.subs.length : Int) (by omega) (by omega)
 have e9 : M.x.subs.length = M.subs.length := by simp [WmV.x]
 have HX : Tl.text M.x = Lib.join ([[115, 112, 108, 105, 116] ++ [33], Tl.num M.x] ++ [Tl.hex M.lo, Tl.hex M.hi] ++ [Lib.itoa (M.subs.length : Int)]) [32] := by
  unfold Tl.text
  rw [show Tl.kind M.x.kind = (3, true) by rw [show M.x.kind = 19 from hK]; rfl]
  simp only [Tl.word, Tl.mark, Tl.asked, Tl.told, WmV.x]
  simp
 have HD1 := Lib.hid (fun W => digits_any M.session hs64 W)
 have HD2 := Lib.hid (fun W => digits_any M.seq hq64 W)
 have HC := Lib.hid (rword_any 19 W0.drew)
 have HC2 := Lib.hid (rword_any 3 W0.drew)
 rw [hK] at c0
 have HT : Tl.text M.x = ([115, 112, 108, 105, 116] ++ [33] ++ [32] ++ (Lib.decDigits M.session) ++ [47] ++ (Lib.decDigits M.seq)) ++ [32] ++ (Tl.hex M.lo) ++ [32] ++ (Tl.hex M.hi) ++ [32] ++ (Lib.itoa (M.subs.length : Int)) := by
  rw [HX]
  simp [Lib.join_cons, Lib.joinTail, Tl.num, WmV.x]
 clear HX hK
 obtain ⟨D1, hD1⟩ : ∃ l, l = Lib.decDigits M.session := ⟨_, rfl⟩
 obtain ⟨D2, hD2⟩ : ∃ l, l = Lib.decDigits M.seq := ⟨_, rfl⟩
 obtain ⟨X1, hX1⟩ : ∃ l, l = Tl.hex M.lo := ⟨_, rfl⟩
 obtain ⟨X2, hX2⟩ : ∃ l, l = Tl.hex M.hi := ⟨_, rfl⟩
 obtain ⟨N1, hN1⟩ : ∃ l, l = Lib.itoa (M.subs.length : Int) := ⟨_, rfl⟩
 rw [← hD1] at HT HD1 LD1
 rw [← hD2] at HT HD2 LD2
 rw [← hX1] at HT LX1 HHL
 rw [← hX2] at HT LX2 HHH
 rw [← hN1] at HT LN1 HN1
 clear hD1 hD2 hX1 hX2 hN1
 obtain ⟨d, hd⟩ : ∃ d : List UInt8, d = [115, 112, 108, 105, 116] := ⟨_, rfl⟩
 have he : (d == ([] : List UInt8)) = false := by rw [hd]; rfl
 have hwl : d.length ≤ 5 := by rw [hd]; decide
 obtain ⟨S, hS⟩ : ∃ S : List UInt8, S = d ++ [33] ++ [32] ++ D1 ++ [47] ++ D2 := ⟨_, rfl⟩
 have LS : S.length ≤ 60 := by rw [hS]; simp only [List.length_append, List.length_singleton]; omega
 have HS := Lib.hid hS
 replace HT : Tl.text M.x = S ++ [32] ++ X1 ++ [32] ++ X2 ++ [32] ++ N1 := by rw [HT, hS, hd]
 obtain ⟨S2, hS2⟩ : ∃ l : List UInt8, l = S ++ [32] ++ X1 ++ [32] ++ X2 := ⟨_, rfl⟩
 have LS2 : S2.length ≤ 4000100 := by rw [hS2]; simp only [List.length_append, List.length_singleton]; omega
 rw [← hS2] at HT
 have HS2 := Lib.hid hS2
 clear hS2
 obtain ⟨S3, hS3⟩ : ∃ l : List UInt8, l = S2 ++ [32] ++ N1 := ⟨_, rfl⟩
 have LS3 : S3.length ≤ 5000000 := by rw [hS3]; simp only [List.length_append, List.length_singleton]; omega
 rw [← hS3] at HT
 have HS3 := Lib.hid hS3
 clear hS3
 have HT := Lib.hid HT
 rw [show Tl.word 19 = [] from rfl] at HC
 rw [show Tl.word 3 = d from hd.symm] at HC2
 clear hd hS
 obtain ⟨P0, hP0⟩ : ∃ P, P = M.cells := ⟨_, rfl⟩
 rw [← hP0] at hW0 ⊢
 have HW0 := Lib.hid hW0
 clear hW0 hx0 G0 hP0 hM
 go_enter Tryz.func7, Tryz.ntmps7
 go_wp2_with (rw [← HW0.out]; refine Hid.out ?_)
 refine Lib.hid ?_
 go_wp2_with fail
 refine rg_start (by kernel_rfl) ?_
 refine gD 0 rfl ?_
 simp only [sP]
 refine gS 1 rfl ⟨_, fun w' hx => by have hcx := hx.load c0; (go_simp <;> with_reducible rfl), ?_⟩
 simp only [sP]
 refine gD 3 rfl ?_
 simp only [sP]
 refine gS 4 rfl ⟨_, fun w' hx => by have hcx := hx.load c0; (go_simp <;> with_reducible rfl), ?_⟩
 simp only [sP]
 refine rg_call 2 (HC.out) rfl (by kernel_rfl) (by rfl) (by go_simp) ?_
 rintro e w' ⟨rfl, rfl⟩
 refine ⟨_, rfl, Ext.refl _, ?_⟩
 simp only [sP]
 refine gD 5 rfl ?_
 simp only [sP]
 refine gD 6 rfl ?_
 simp only [sP]
 refine gD 7 rfl ?_
 simp only [sP]
 refine rg_done (by kernel_rfl) ?_
 go_wp2_with (first | (go_at_call 18; refine HC2.out.mono ?_; rintro e w' ⟨rfl, rfl⟩) | (refine wpList_runT (by rfl) (.bool false) _ ((ex_eqlS (p := d) (q := []) rfl rfl rfl).trans (by rw [he])) ?_) | (refine wpList_runT (by rfl) (.bool true) _ (ex_eqlS (p := []) (q := []) rfl rfl rfl) ?_))
 refine rg_start (by kernel_rfl) ?_
 refine gD 0 rfl ?_
 simp only [sP]
 refine gD 1 rfl ?_
 simp only [sP]
 refine gS 2 rfl ⟨.string ⟨((d) ++ [33]).toArray⟩, fun w' hx => ex_addS (p := d) (q := [33]) rfl rfl rfl (by simp only [List.length_append, List.length_singleton, List.length_cons, List.length_nil] <;> omega), ?_⟩
 simp only [sP]
 refine gS 3 rfl ⟨.string ⟨((d ++ [33]) ++ [32]).toArray⟩, fun w' hx => ex_addS (p := d ++ [33]) (q := [32]) rfl rfl rfl (by simp only [List.length_append, List.length_singleton, List.length_cons, List.length_nil] <;> omega), ?_⟩
 simp only [sP]
 refine gD 4 rfl ?_
 simp only [sP]
 refine gS 5 rfl ⟨_, fun w' hx => by have hcx := hx.load c1; (go_simp <;> with_reducible rfl), ?_⟩
 simp only [sP]
 refine gS 6 rfl ⟨.int .u64 (M.session : Int), fun w' hx => by (go_simp <;> (rw [IntKind.wrap_u64]; omega)), ?_⟩
 simp only [sP]
 refine gD 10 rfl ?_
 simp only [sP]
 refine gS 11 rfl ⟨_, fun w' hx => by have hcx := hx.load c2; (go_simp <;> with_reducible rfl), ?_⟩
 simp only [sP]
 refine gS 12 rfl ⟨.int .u64 (M.seq : Int), fun w' hx => by (go_simp <;> (rw [IntKind.wrap_u64]; omega)), ?_⟩
 simp only [sP]
 refine rg_call 7 (HD1.out _) rfl (by kernel_rfl) (by rfl) (by go_simp) ?_
 rintro e w7 ⟨rfl, hx7⟩
 refine ⟨_, rfl, hx7, ?_⟩
 simp only [sP]
 refine gS 8 rfl ⟨.string ⟨((d ++ [33] ++ [32]) ++ D1).toArray⟩, fun w' hx => ex_addS (p := d ++ [33] ++ [32]) (q := D1) rfl rfl rfl (by simp only [List.length_append, List.length_singleton, List.length_cons, List.length_nil] <;> omega), ?_⟩
 simp only [sP]
 refine gS 9 rfl ⟨.string ⟨((d ++ [33] ++ [32] ++ D1) ++ [47]).toArray⟩, fun w' hx => ex_addS (p := d ++ [33] ++ [32] ++ D1) (q := [47]) rfl rfl rfl (by simp only [List.length_append, List.length_singleton, List.length_cons, List.length_nil] <;> omega), ?_⟩
 simp only [sP]
 refine rg_call 13 (HD2.out _) rfl (by kernel_rfl) (by rfl) (by go_simp) ?_
 rintro e w13 ⟨rfl, hx13⟩
 refine ⟨_, rfl, hx13, ?_⟩
 simp only [sP]
 refine gS 14 rfl ⟨.string ⟨S.toArray⟩, fun w' hx => (ex_addS (p := d ++ [33] ++ [32] ++ D1 ++ [47]) (q := D2) rfl rfl rfl (by simp only [List.length_append, List.length_singleton, List.length_cons, List.length_nil] <;> omega)).trans (by rw [HS.out]), ?_⟩
 simp only [sP]
 refine gD 15 rfl ?_
 simp only [sP]
 refine rg_done (by kernel_rfl) ?_
 have E8 := Lib.hid (show Ext W0 w13 from ((Ext.drew W0).tr (Ext.drew _)).tr (Ext.tr hx7 hx13))
 have c3b := E8.out.load c3
 have c4b := E8.out.load c4
 have c73b := E8.out.load c73
 clear hx7 hx13 HS c0 c1 c2 c3 c4 c73
 go_wp2_with fail
 refine rg_start (by kernel_rfl) ?_
 refine gD 0 rfl ?_
 simp only [sP]
 refine gS 1 rfl ⟨.string ⟨((S) ++ [32]).toArray⟩, fun w' hx => ex_addS (p := S) (q := [32]) rfl rfl rfl (by simp only [List.length_append, List.length_singleton, List.length_cons, List.length_nil] <;> omega), ?_⟩
 simp only [sP]
 refine gD 2 rfl ?_
 simp only [sP]
 refine gS 3 rfl ⟨_, fun w' hx => by have hcx := hx.load c3b; (go_simp <;> with_reducible rfl), ?_⟩
 simp only [sP]
 refine gD 7 rfl ?_
 simp only [sP]
 refine gS 8 rfl ⟨_, fun w' hx => by have hcx := hx.load c4b; (go_simp <;> with_reducible rfl), ?_⟩
 simp only [sP]
 refine rg_call 4 (HHL.out _ (E8.out.tr (Ext.drew _))) rfl (by kernel_rfl) (by rfl) (by go_simp) ?_
 rintro e w4 ⟨rfl, hx4⟩
 refine ⟨_, rfl, hx4, ?_⟩
 simp only [sP]
 refine gS 5 rfl ⟨.string ⟨((S ++ [32]) ++ X1).toArray⟩, fun w' hx => ex_addS (p := S ++ [32]) (q := X1) rfl rfl rfl (by simp only [List.length_append, List.length_singleton, List.length_cons, List.length_nil] <;> omega), ?_⟩
 simp only [sP]
 refine gS 6 rfl ⟨.string ⟨((S ++ [32] ++ X1) ++ [32]).toArray⟩, fun w' hx => ex_addS (p := S ++ [32] ++ X1) (q := [32]) rfl rfl rfl (by simp only [List.length_append, List.length_singleton, List.length_cons, List.length_nil] <;> omega), ?_⟩
 simp only [sP]
 refine rg_call 9 (HHH.out _ ((E8.out.tr (Ext.drew _)).tr hx4)) rfl (by kernel_rfl) (by rfl) (by go_simp) ?_
 rintro e w9 ⟨rfl, hx9⟩
 refine ⟨_, rfl, hx9, ?_⟩
 simp only [sP]
 refine gS 10 rfl ⟨.string ⟨S2.toArray⟩, fun w' hx => (ex_addS (p := S ++ [32] ++ X1 ++ [32]) (q := X2) rfl rfl rfl (by simp only [List.length_append, List.length_singleton, List.length_cons, List.length_nil] <;> omega)).trans (by rw [HS2.out]), ?_⟩
 simp only [sP]
 refine gD 11 rfl ?_
 simp only [sP]
 refine rg_done (by kernel_rfl) ?_
 have c73c := (show Ext w13 w9 from ((Ext.drew _).tr (Ext.tr hx4 hx9))).load c73b
 have E9 := Lib.hid ((E8.out.tr (Ext.drew _)).tr (Ext.tr hx4 hx9))
 clear hx4 hx9
 go_wp2_with (first | (go_at_call 21; refine (HN1.out _).mono ?_; rintro e w21 ⟨rfl, hx21⟩; have E21 := Lib.hid (Ext.tr E9.out hx21); clear hx21) | (refine wpList_runT (by rfl) (.string ⟨((S2) ++ [32]).toArray⟩) _ (ex_addS (p := S2) (q := [32]) rfl rfl rfl (by simp only [List.length_append, List.length_singleton, List.length_cons, List.length_nil] <;> omega)) ?_) | (refine wpList_runT (by rfl) (.string ⟨S3.toArray⟩) _ ((ex_addS (p := S2 ++ [32]) (q := N1) rfl rfl rfl (by simp only [List.length_append, List.length_singleton, List.length_cons, List.length_nil] <;> omega)).trans (by rw [HS3.out])) ?_))
 go_wp2_with fail
 go_ret
 exact ⟨by rw [HT.out] <;> first | rfl | simp, X0.out.tr E21.out⟩
set_option maxRecDepth 100000 in
set_option maxHeartbeats 4000000 in
theorem rtext_t4m (M : WmV) (w : World) (hM : M.In w) (hlo : M.lo.length ≤ 1000000) (hhi : M.hi.length ≤ 1000000) (hz : M.subs.length ≤ 1000000 ∧ M.ents.length ≤ 1000000 ∧ M.sigs.length ≤ 1000000 ∧ M.data.length ≤ 1000000) (hK : M.kind = 20) (hmore : M.more = true) :
  Calls Tryz.prog 7 #[.agg M.cells] w fun e w' => e = .returned (.string ⟨(Tl.text M.x).toArray⟩) ∧ Below w.heap.size w w' := by
 have hs := hM.ok.session
 have hq := hM.ok.seq
 have hs64 : M.session < 18446744073709551616 := by omega
 have hq64 : M.seq < 18446744073709551616 := by omega
 have LD1 := Tl.dec_len M.session hs64
 have LD2 := Tl.dec_len M.seq hq64
 obtain ⟨W0, hW0⟩ : ∃ W0, W0 = w.alloc (.cells M.cells 31) := ⟨_, rfl⟩
 have hx0 : Ext w W0 := by rw [hW0]; exact Ext.alloc _ _
 have G0 : W0.heap[w.heap.size]? = some (.cells M.cells 31 (0, 0)) := by rw [hW0]; exact heap_alloc_new w _
 have c0 : W0.cell? ⟨w.heap.size, 0, none⟩ = _ := (cell_of_row _ _ 0 _ _ _ G0).trans (WmV.at0 M)
 have c1 : W0.cell? ⟨w.heap.size, 1, none⟩ = _ := (cell_of_row _ _ 1 _ _ _ G0).trans (WmV.at1 M)
 have c2 : W0.cell? ⟨w.heap.size, 2, none⟩ = _ := (cell_of_row _ _ 2 _ _ _ G0).trans (WmV.at2 M)
 have c3 : W0.cell? ⟨w.heap.size, 3, none⟩ = _ := (cell_of_row _ _ 3 _ _ _ G0).trans (WmV.at3 M)
 have c4 : W0.cell? ⟨w.heap.size, 4, none⟩ = _ := (cell_of_row _ _ 4 _ _ _ G0).trans (WmV.at4 M)
 have c74 : W0.cell? ⟨w.heap.size, 74, none⟩ = _ := (cell_of_row _ _ 74 _ _ _ G0).trans (WmV.at74 hM.ok)
 have c75 : W0.cell? ⟨w.heap.size, 75, none⟩ = _ := (cell_of_row _ _ 75 _ _ _ G0).trans (WmV.at75 hM.ok)
 rw [hmore] at c74
 have X0 := Lib.hid hx0
 have HHL := Lib.hid (fun W (x : Ext W0 W) => rhex_any M.la M.lo M.lc W (hM.lr.below (X0.out.tr x)) hlo)
 have HHH := Lib.hid (fun W (x : Ext W0 W) => rhex_any M.ha M.hi M.hc W (hM.hr.below (X0.out.tr x)) hhi)
 have LX1 := Tl.hex_len M.lo hlo
 have LX2 := Tl.hex_len M.hi hhi
 obtain ⟨z1, z2, z3, z4⟩ := hz
 have HN1 := Lib.hid (fun W => signed_any (M.ents.length : Int) (by omega) (by omega) W)
 have LN1 := Lib.itoa_length_le (M.ents.length : Int) (by omega) (by omega)
 have e9 : M.x.ents.length = M.ents.length := by simp [WmV.x]
 have HX : Tl.text M.x = Lib.join ([[102, 101, 116, 99, 104] ++ [33], Tl.num M.x] ++ [Tl.hex M.lo, Tl.hex M.hi] ++ [Lib.itoa (M.ents.length : Int), [109, 111, 114, 101]]) [32] := by
  unfold Tl.text
  rw [show Tl.kind M.x.kind = (4, true) by rw [show M.x.kind = 20 from hK]; rfl]
  simp only [Tl.word, Tl.mark, Tl.asked, Tl.told, WmV.x, hmore]
  simp
 have HD1 := Lib.hid (fun W => digits_any M.session hs64 W)
 have HD2 := Lib.hid (fun W => digits_any M.seq hq64 W)
 have HC := Lib.hid (rword_any 20 W0.drew)
 have HC2 := Lib.hid (rword_any 4 W0.drew)
 rw [hK] at c0
 have HT : Tl.text M.x = ([102, 101, 116, 99, 104] ++ [33] ++ [32] ++ (Lib.decDigits M.session) ++ [47] ++ (Lib.decDigits M.seq)) ++ [32] ++ (Tl.hex M.lo) ++ [32] ++ (Tl.hex M.hi) ++ [32] ++ (Lib.itoa (M.ents.length : Int)) ++ [32, 109, 111, 114, 101] := by
  rw [HX]
  simp [Lib.join_cons, Lib.joinTail, Tl.num, WmV.x]
 clear HX hK
 obtain ⟨D1, hD1⟩ : ∃ l, l = Lib.decDigits M.session := ⟨_, rfl⟩
 obtain ⟨D2, hD2⟩ : ∃ l, l = Lib.decDigits M.seq := ⟨_, rfl⟩
 obtain ⟨X1, hX1⟩ : ∃ l, l = Tl.hex M.lo := ⟨_, rfl⟩
 obtain ⟨X2, hX2⟩ : ∃ l, l = Tl.hex M.hi := ⟨_, rfl⟩
 obtain ⟨N1, hN1⟩ : ∃ l, l = Lib.itoa (M.ents.length : Int) := ⟨_, rfl⟩
 rw [← hD1] at HT HD1 LD1
 rw [← hD2] at HT HD2 LD2
 rw [← hX1] at HT LX1 HHL
 rw [← hX2] at HT LX2 HHH
 rw [← hN1] at HT LN1 HN1
 clear hD1 hD2 hX1 hX2 hN1
 obtain ⟨d, hd⟩ : ∃ d : List UInt8, d = [102, 101, 116, 99, 104] := ⟨_, rfl⟩
 have he : (d == ([] : List UInt8)) = false := by rw [hd]; rfl
 have hwl : d.length ≤ 5 := by rw [hd]; decide
 obtain ⟨S, hS⟩ : ∃ S : List UInt8, S = d ++ [33] ++ [32] ++ D1 ++ [47] ++ D2 := ⟨_, rfl⟩
 have LS : S.length ≤ 60 := by rw [hS]; simp only [List.length_append, List.length_singleton]; omega
 have HS := Lib.hid hS
 replace HT : Tl.text M.x = S ++ [32] ++ X1 ++ [32] ++ X2 ++ [32] ++ N1 ++ [32, 109, 111, 114, 101] := by rw [HT, hS, hd]
 obtain ⟨S2, hS2⟩ : ∃ l : List UInt8, l = S ++ [32] ++ X1 ++ [32] ++ X2 := ⟨_, rfl⟩
 have LS2 : S2.length ≤ 4000100 := by rw [hS2]; simp only [List.length_append, List.length_singleton]; omega
 rw [← hS2] at HT
 have HS2 := Lib.hid hS2
 clear hS2
 obtain ⟨S3, hS3⟩ : ∃ l : List UInt8, l = S2 ++ [32] ++ N1 := ⟨_, rfl⟩
 have LS3 : S3.length ≤ 5000000 := by rw [hS3]; simp only [List.length_append, List.length_singleton]; omega
 rw [← hS3] at HT
 have HS3 := Lib.hid hS3
 clear hS3
 have HT := Lib.hid HT
 rw [show Tl.word 20 = [] from rfl] at HC
 rw [show Tl.word 4 = d from hd.symm] at HC2
 clear hd hS
 obtain ⟨P0, hP0⟩ : ∃ P, P = M.cells := ⟨_, rfl⟩
 rw [← hP0] at hW0 ⊢
 have HW0 := Lib.hid hW0
 clear hW0 hx0 G0 hP0 hM
 go_enter Tryz.func7, Tryz.ntmps7
 go_wp2_with (rw [← HW0.out]; refine Hid.out ?_)
 refine Lib.hid ?_
 go_wp2_with fail
 refine rg_start (by kernel_rfl) ?_
 refine gD 0 rfl ?_
 simp only [sP]
 refine gS 1 rfl ⟨_, fun w' hx => by have hcx := hx.load c0; (go_simp <;> with_reducible rfl), ?_⟩
 simp only [sP]
 refine gD 3 rfl ?_
 simp only [sP]
 refine gS 4 rfl ⟨_, fun w' hx => by have hcx := hx.load c0; (go_simp <;> with_reducible rfl), ?_⟩
 simp only [sP]
 refine rg_call 2 (HC.out) rfl (by kernel_rfl) (by rfl) (by go_simp) ?_
 rintro e w' ⟨rfl, rfl⟩
 refine ⟨_, rfl, Ext.refl _, ?_⟩
 simp only [sP]
 refine gD 5 rfl ?_
 simp only [sP]
 refine gD 6 rfl ?_
 simp only [sP]
 refine gD 7 rfl ?_
 simp only [sP]
 refine rg_done (by kernel_rfl) ?_
 go_wp2_with (first | (go_at_call 18; refine HC2.out.mono ?_; rintro e w' ⟨rfl, rfl⟩) | (refine wpList_runT (by rfl) (.bool false) _ ((ex_eqlS (p := d) (q := []) rfl rfl rfl).trans (by rw [he])) ?_) | (refine wpList_runT (by rfl) (.bool true) _ (ex_eqlS (p := []) (q := []) rfl rfl rfl) ?_))
 refine rg_start (by kernel_rfl) ?_
 refine gD 0 rfl ?_
 simp only [sP]
 refine gD 1 rfl ?_
 simp only [sP]
 refine gS 2 rfl ⟨.string ⟨((d) ++ [33]).toArray⟩, fun w' hx => ex_addS (p := d) (q := [33]) rfl rfl rfl (by simp only [List.length_append, List.length_singleton, List.length_cons, List.length_nil] <;> omega), ?_⟩
 simp only [sP]
 refine gS 3 rfl ⟨.string ⟨((d ++ [33]) ++ [32]).toArray⟩, fun w' hx => ex_addS (p := d ++ [33]) (q := [32]) rfl rfl rfl (by simp only [List.length_append, List.length_singleton, List.length_cons, List.length_nil] <;> omega), ?_⟩
 simp only [sP]
 refine gD 4 rfl ?_
 simp only [sP]
 refine gS 5 rfl ⟨_, fun w' hx => by have hcx := hx.load c1; (go_simp <;> with_reducible rfl), ?_⟩
 simp only [sP]
 refine gS 6 rfl ⟨.int .u64 (M.session : Int), fun w' hx => by (go_simp <;> (rw [IntKind.wrap_u64]; omega)), ?_⟩
 simp only [sP]
 refine gD 10 rfl ?_
 simp only [sP]
 refine gS 11 rfl ⟨_, fun w' hx => by have hcx := hx.load c2; (go_simp <;> with_reducible rfl), ?_⟩
 simp only [sP]
 refine gS 12 rfl ⟨.int .u64 (M.seq : Int), fun w' hx => by (go_simp <;> (rw [IntKind.wrap_u64]; omega)), ?_⟩
 simp only [sP]
 refine rg_call 7 (HD1.out _) rfl (by kernel_rfl) (by rfl) (by go_simp) ?_
 rintro e w7 ⟨rfl, hx7⟩
 refine ⟨_, rfl, hx7, ?_⟩
 simp only [sP]
 refine gS 8 rfl ⟨.string ⟨((d ++ [33] ++ [32]) ++ D1).toArray⟩, fun w' hx => ex_addS (p := d ++ [33] ++ [32]) (q := D1) rfl rfl rfl (by simp only [List.length_append, List.length_singleton, List.length_cons, List.length_nil] <;> omega), ?_⟩
 simp only [sP]
 refine gS 9 rfl ⟨.string ⟨((d ++ [33] ++ [32] ++ D1) ++ [47]).toArray⟩, fun w' hx => ex_addS (p := d ++ [33] ++ [32] ++ D1) (q := [47]) rfl rfl rfl (by simp only [List.length_append, List.length_singleton, List.length_cons, List.length_nil] <;> omega), ?_⟩
 simp only [sP]
 refine rg_call 13 (HD2.out _) rfl (by kernel_rfl) (by rfl) (by go_simp) ?_
 rintro e w13 ⟨rfl, hx13⟩
 refine ⟨_, rfl, hx13, ?_⟩
 simp only [sP]
 refine gS 14 rfl ⟨.string ⟨S.toArray⟩, fun w' hx => (ex_addS (p := d ++ [33] ++ [32] ++ D1 ++ [47]) (q := D2) rfl rfl rfl (by simp only [List.length_append, List.length_singleton, List.length_cons, List.length_nil] <;> omega)).trans (by rw [HS.out]), ?_⟩
 simp only [sP]
 refine gD 15 rfl ?_
 simp only [sP]
 refine rg_done (by kernel_rfl) ?_
 have E8 := Lib.hid (show Ext W0 w13 from ((Ext.drew W0).tr (Ext.drew _)).tr (Ext.tr hx7 hx13))
 have c3b := E8.out.load c3
 have c4b := E8.out.load c4
 have c74b := E8.out.load c74
 have c75b := E8.out.load c75
 clear hx7 hx13 HS c0 c1 c2 c3 c4 c74 c75
 go_wp2_with fail
 refine rg_start (by kernel_rfl) ?_
 refine gD 0 rfl ?_
 simp only [sP]
 refine gS 1 rfl ⟨.string ⟨((S) ++ [32]).toArray⟩, fun w' hx => ex_addS (p := S) (q := [32]) rfl rfl rfl (by simp only [List.length_append, List.length_singleton, List.length_cons, List.length_nil] <;> omega), ?_⟩
 simp only [sP]
 refine gD 2 rfl ?_
 simp only [sP]
 refine gS 3 rfl ⟨_, fun w' hx => by have hcx := hx.load c3b; (go_simp <;> with_reducible rfl), ?_⟩
 simp only [sP]
 refine gD 7 rfl ?_
 simp only [sP]
 refine gS 8 rfl ⟨_, fun w' hx => by have hcx := hx.load c4b; (go_simp <;> with_reducible rfl), ?_⟩
 simp only [sP]
 refine rg_call 4 (HHL.out _ (E8.out.tr (Ext.drew _))) rfl (by kernel_rfl) (by rfl) (by go_simp) ?_
 rintro e w4 ⟨rfl, hx4⟩
 refine ⟨_, rfl, hx4, ?_⟩
 simp only [sP]
 refine gS 5 rfl ⟨.string ⟨((S ++ [32]) ++ X1).toArray⟩, fun w' hx => ex_addS (p := S ++ [32]) (q := X1) rfl rfl rfl (by simp only [List.length_append, List.length_singleton, List.length_cons, List.length_nil] <;> omega), ?_⟩
 simp only [sP]
 refine gS 6 rfl ⟨.string ⟨((S ++ [32] ++ X1) ++ [32]).toArray⟩, fun w' hx => ex_addS (p := S ++ [32] ++ X1) (q := [32]) rfl rfl rfl (by simp only [List.length_append, List.length_singleton, List.length_cons, List.length_nil] <;> omega), ?_⟩
 simp only [sP]
 refine rg_call 9 (HHH.out _ ((E8.out.tr (Ext.drew _)).tr hx4)) rfl (by kernel_rfl) (by rfl) (by go_simp) ?_
 rintro e w9 ⟨rfl, hx9⟩
 refine ⟨_, rfl, hx9, ?_⟩
 simp only [sP]
 refine gS 10 rfl ⟨.string ⟨S2.toArray⟩, fun w' hx => (ex_addS (p := S ++ [32] ++ X1 ++ [32]) (q := X2) rfl rfl rfl (by simp only [List.length_append, List.length_singleton, List.length_cons, List.length_nil] <;> omega)).trans (by rw [HS2.out]), ?_⟩
 simp only [sP]
 refine gD 11 rfl ?_
 simp only [sP]
 refine rg_done (by kernel_rfl) ?_
 have c74c := (show Ext w13 w9 from ((Ext.drew _).tr (Ext.tr hx4 hx9))).load c74b
 have c75c := (show Ext w13 w9 from ((Ext.drew _).tr (Ext.tr hx4 hx9))).load c75b
 have E9 := Lib.hid ((E8.out.tr (Ext.drew _)).tr (Ext.tr hx4 hx9))
 clear hx4 hx9
 go_wp2_with (first | (go_at_call 21; refine (HN1.out _).mono ?_; rintro e w21 ⟨rfl, hx21⟩; have E21 := Lib.hid (Ext.tr E9.out hx21); clear hx21) | (refine wpList_runT (by rfl) (.string ⟨((S2) ++ [32]).toArray⟩) _ (ex_addS (p := S2) (q := [32]) rfl rfl rfl (by simp only [List.length_append, List.length_singleton, List.length_cons, List.length_nil] <;> omega)) ?_) | (refine wpList_runT (by rfl) (.string ⟨S3.toArray⟩) _ ((ex_addS (p := S2 ++ [32]) (q := N1) rfl rfl rfl (by simp only [List.length_append, List.length_singleton, List.length_cons, List.length_nil] <;> omega)).trans (by rw [HS3.out])) ?_) | (refine wpList_runT (by rfl) (.string ⟨((S3) ++ [32, 109, 111, 114, 101]).toArray⟩) _ (ex_addS (p := S3) (q := [32, 109, 111, 114, 101]) rfl rfl rfl (by simp only [List.length_append, List.length_singleton, List.length_cons, List.length_nil] <;> omega)) ?_))
 go_wp2_with fail
 go_ret
 exact ⟨by rw [HT.out] <;> first | rfl | simp, X0.out.tr E21.out⟩
set_option maxRecDepth 100000 in
set_option maxHeartbeats 4000000 in
theorem rtext_t4l (M : WmV) (w : World) (hM : M.In w) (hlo : M.lo.length ≤ 1000000) (hhi : M.hi.length ≤ 1000000) (hz : M.subs.length ≤ 1000000 ∧ M.ents.length ≤ 1000000 ∧ M.sigs.length ≤ 1000000 ∧ M.data.length ≤ 1000000) (hK : M.kind = 20) (hmore : M.more = false) :
  Calls Tryz.prog 7 #[.agg M.cells] w fun e w' => e = .returned (.string ⟨(Tl.text M.x).toArray⟩) ∧ Below w.heap.size w w' := by
 have hs := hM.ok.session
 have hq := hM.ok.seq
 have hs64 : M.session < 18446744073709551616 := by omega
 have hq64 : M.seq < 18446744073709551616 := by omega
 have LD1 := Tl.dec_len M.session hs64
 have LD2 := Tl.dec_len M.seq hq64
 obtain ⟨W0, hW0⟩ : ∃ W0, W0 = w.alloc (.cells M.cells 31) := ⟨_, rfl⟩
 have hx0 : Ext w W0 := by rw [hW0]; exact Ext.alloc _ _
 have G0 : W0.heap[w.heap.size]? = some (.cells M.cells 31 (0, 0)) := by rw [hW0]; exact heap_alloc_new w _
 have c0 : W0.cell? ⟨w.heap.size, 0, none⟩ = _ := (cell_of_row _ _ 0 _ _ _ G0).trans (WmV.at0 M)
 have c1 : W0.cell? ⟨w.heap.size, 1, none⟩ = _ := (cell_of_row _ _ 1 _ _ _ G0).trans (WmV.at1 M)
 have c2 : W0.cell? ⟨w.heap.size, 2, none⟩ = _ := (cell_of_row _ _ 2 _ _ _ G0).trans (WmV.at2 M)
 have c3 : W0.cell? ⟨w.heap.size, 3, none⟩ = _ := (cell_of_row _ _ 3 _ _ _ G0).trans (WmV.at3 M)
 have c4 : W0.cell? ⟨w.heap.size, 4, none⟩ = _ := (cell_of_row _ _ 4 _ _ _ G0).trans (WmV.at4 M)
 have c74 : W0.cell? ⟨w.heap.size, 74, none⟩ = _ := (cell_of_row _ _ 74 _ _ _ G0).trans (WmV.at74 hM.ok)
 have c75 : W0.cell? ⟨w.heap.size, 75, none⟩ = _ := (cell_of_row _ _ 75 _ _ _ G0).trans (WmV.at75 hM.ok)
 rw [hmore] at c74
 have X0 := Lib.hid hx0
 have HHL := Lib.hid (fun W (x : Ext W0 W) => rhex_any M.la M.lo M.lc W (hM.lr.below (X0.out.tr x)) hlo)
 have HHH := Lib.hid (fun W (x : Ext W0 W) => rhex_any M.ha M.hi M.hc W (hM.hr.below (X0.out.tr x)) hhi)
 have LX1 := Tl.hex_len M.lo hlo
 have LX2 := Tl.hex_len M.hi hhi
 obtain ⟨z1, z2, z3, z4⟩ := hz
 have HN1 := Lib.hid (fun W => signed_any (M.ents.length : Int) (by omega) (by omega) W)
 have LN1 := Lib.itoa_length_le (M.ents.length : Int) (by omega) (by omega)
 have e9 : M.x.ents.length = M.ents.length := by simp [WmV.x]
 have HX : Tl.text M.x = Lib.join ([[102, 101, 116, 99, 104] ++ [33], Tl.num M.x] ++ [Tl.hex M.lo, Tl.hex M.hi] ++ [Lib.itoa (M.ents.length : Int), [97, 108, 108]]) [32] := by
  unfold Tl.text
  rw [show Tl.kind M.x.kind = (4, true) by rw [show M.x.kind = 20 from hK]; rfl]
  simp only [Tl.word, Tl.mark, Tl.asked, Tl.told, WmV.x, hmore]
  simp
 have HD1 := Lib.hid (fun W => digits_any M.session hs64 W)
 have HD2 := Lib.hid (fun W => digits_any M.seq hq64 W)
 have HC := Lib.hid (rword_any 20 W0.drew)
 have HC2 := Lib.hid (rword_any 4 W0.drew)
 rw [hK] at c0
 have HT : Tl.text M.x = ([102, 101, 116, 99, 104] ++ [33] ++ [32] ++ (Lib.decDigits M.session) ++ [47] ++ (Lib.decDigits M.seq)) ++ [32] ++ (Tl.hex M.lo) ++ [32] ++ (Tl.hex M.hi) ++ [32] ++ (Lib.itoa (M.ents.length : Int)) ++ [32, 97, 108, 108] := by
  rw [HX]
  simp [Lib.join_cons, Lib.joinTail, Tl.num, WmV.x]
 clear HX hK
 obtain ⟨D1, hD1⟩ : ∃ l, l = Lib.decDigits M.session := ⟨_, rfl⟩
 obtain ⟨D2, hD2⟩ : ∃ l, l = Lib.decDigits M.seq := ⟨_, rfl⟩
 obtain ⟨X1, hX1⟩ : ∃ l, l = Tl.hex M.lo := ⟨_, rfl⟩
 obtain ⟨X2, hX2⟩ : ∃ l, l = Tl.hex M.hi := ⟨_, rfl⟩
 obtain ⟨N1, hN1⟩ : ∃ l, l = Lib.itoa (M.ents.length : Int) := ⟨_, rfl⟩
 rw [← hD1] at HT HD1 LD1
 rw [← hD2] at HT HD2 LD2
 rw [← hX1] at HT LX1 HHL
 rw [← hX2] at HT LX2 HHH
 rw [← hN1] at HT LN1 HN1
 clear hD1 hD2 hX1 hX2 hN1
 obtain ⟨d, hd⟩ : ∃ d : List UInt8, d = [102, 101, 116, 99, 104] := ⟨_, rfl⟩
 have he : (d == ([] : List UInt8)) = false := by rw [hd]; rfl
 have hwl : d.length ≤ 5 := by rw [hd]; decide
 obtain ⟨S, hS⟩ : ∃ S : List UInt8, S = d ++ [33] ++ [32] ++ D1 ++ [47] ++ D2 := ⟨_, rfl⟩
 have LS : S.length ≤ 60 := by rw [hS]; simp only [List.length_append, List.length_singleton]; omega
 have HS := Lib.hid hS
 replace HT : Tl.text M.x = S ++ [32] ++ X1 ++ [32] ++ X2 ++ [32] ++ N1 ++ [32, 97, 108, 108] := by rw [HT, hS, hd]
 obtain ⟨S2, hS2⟩ : ∃ l : List UInt8, l = S ++ [32] ++ X1 ++ [32] ++ X2 := ⟨_, rfl⟩
 have LS2 : S2.length ≤ 4000100 := by rw [hS2]; simp only [List.length_append, List.length_singleton]; omega
 rw [← hS2] at HT
 have HS2 := Lib.hid hS2
 clear hS2
 obtain ⟨S3, hS3⟩ : ∃ l : List UInt8, l = S2 ++ [32] ++ N1 := ⟨_, rfl⟩
 have LS3 : S3.length ≤ 5000000 := by rw [hS3]; simp only [List.length_append, List.length_singleton]; omega
 rw [← hS3] at HT
 have HS3 := Lib.hid hS3
 clear hS3
 have HT := Lib.hid HT
 rw [show Tl.word 20 = [] from rfl] at HC
 rw [show Tl.word 4 = d from hd.symm] at HC2
 clear hd hS
 obtain ⟨P0, hP0⟩ : ∃ P, P = M.cells := ⟨_, rfl⟩
 rw [← hP0] at hW0 ⊢
 have HW0 := Lib.hid hW0
 clear hW0 hx0 G0 hP0 hM
 go_enter Tryz.func7, Tryz.ntmps7
 go_wp2_with (rw [← HW0.out]; refine Hid.out ?_)
 refine Lib.hid ?_
 go_wp2_with fail
 refine rg_start (by kernel_rfl) ?_
 refine gD 0 rfl ?_
 simp only [sP]
 refine gS 1 rfl ⟨_, fun w' hx => by have hcx := hx.load c0; (go_simp <;> with_reducible rfl), ?_⟩
 simp only [sP]
 refine gD 3 rfl ?_
 simp only [sP]
 refine gS 4 rfl ⟨_, fun w' hx => by have hcx := hx.load c0; (go_simp <;> with_reducible rfl), ?_⟩
 simp only [sP]
 refine rg_call 2 (HC.out) rfl (by kernel_rfl) (by rfl) (by go_simp) ?_
 rintro e w' ⟨rfl, rfl⟩
 refine ⟨_, rfl, Ext.refl _, ?_⟩
 simp only [sP]
 refine gD 5 rfl ?_
 simp only [sP]
 refine gD 6 rfl ?_
 simp only [sP]
 refine gD 7 rfl ?_
 simp only [sP]
 refine rg_done (by kernel_rfl) ?_
 go_wp2_with (first | (go_at_call 18; refine HC2.out.mono ?_; rintro e w' ⟨rfl, rfl⟩) | (refine wpList_runT (by rfl) (.bool false) _ ((ex_eqlS (p := d) (q := []) rfl rfl rfl).trans (by rw [he])) ?_) | (refine wpList_runT (by rfl) (.bool true) _ (ex_eqlS (p := []) (q := []) rfl rfl rfl) ?_))
 refine rg_start (by kernel_rfl) ?_
 refine gD 0 rfl ?_
 simp only [sP]
 refine gD 1 rfl ?_
 simp only [sP]
 refine gS 2 rfl ⟨.string ⟨((d) ++ [33]).toArray⟩, fun w' hx => ex_addS (p := d) (q := [33]) rfl rfl rfl (by simp only [List.length_append, List.length_singleton, List.length_cons, List.length_nil] <;> omega), ?_⟩
 simp only [sP]
 refine gS 3 rfl ⟨.string ⟨((d ++ [33]) ++ [32]).toArray⟩, fun w' hx => ex_addS (p := d ++ [33]) (q := [32]) rfl rfl rfl (by simp only [List.length_append, List.length_singleton, List.length_cons, List.length_nil] <;> omega), ?_⟩
 simp only [sP]
 refine gD 4 rfl ?_
 simp only [sP]
 refine gS 5 rfl ⟨_, fun w' hx => by have hcx := hx.load c1; (go_simp <;> with_reducible rfl), ?_⟩
 simp only [sP]
 refine gS 6 rfl ⟨.int .u64 (M.session : Int), fun w' hx => by (go_simp <;> (rw [IntKind.wrap_u64]; omega)), ?_⟩
 simp only [sP]
 refine gD 10 rfl ?_
 simp only [sP]
 refine gS 11 rfl ⟨_, fun w' hx => by have hcx := hx.load c2; (go_simp <;> with_reducible rfl), ?_⟩
 simp only [sP]
 refine gS 12 rfl ⟨.int .u64 (M.seq : Int), fun w' hx => by (go_simp <;> (rw [IntKind.wrap_u64]; omega)), ?_⟩
 simp only [sP]
 refine rg_call 7 (HD1.out _) rfl (by kernel_rfl) (by rfl) (by go_simp) ?_
 rintro e w7 ⟨rfl, hx7⟩
 refine ⟨_, rfl, hx7, ?_⟩
 simp only [sP]
 refine gS 8 rfl ⟨.string ⟨((d ++ [33] ++ [32]) ++ D1).toArray⟩, fun w' hx => ex_addS (p := d ++ [33] ++ [32]) (q := D1) rfl rfl rfl (by simp only [List.length_append, List.length_singleton, List.length_cons, List.length_nil] <;> omega), ?_⟩
 simp only [sP]
 refine gS 9 rfl ⟨.string ⟨((d ++ [33] ++ [32] ++ D1) ++ [47]).toArray⟩, fun w' hx => ex_addS (p := d ++ [33] ++ [32] ++ D1) (q := [47]) rfl rfl rfl (by simp only [List.length_append, List.length_singleton, List.length_cons, List.length_nil] <;> omega), ?_⟩
 simp only [sP]
 refine rg_call 13 (HD2.out _) rfl (by kernel_rfl) (by rfl) (by go_simp) ?_
 rintro e w13 ⟨rfl, hx13⟩
 refine ⟨_, rfl, hx13, ?_⟩
 simp only [sP]
 refine gS 14 rfl ⟨.string ⟨S.toArray⟩, fun w' hx => (ex_addS (p := d ++ [33] ++ [32] ++ D1 ++ [47]) (q := D2) rfl rfl rfl (by simp only [List.length_append, List.length_singleton, List.length_cons, List.length_nil] <;> omega)).trans (by rw [HS.out]), ?_⟩
 simp only [sP]
 refine gD 15 rfl ?_
 simp only [sP]
 refine rg_done (by kernel_rfl) ?_
 have E8 := Lib.hid (show Ext W0 w13 from ((Ext.drew W0).tr (Ext.drew _)).tr (Ext.tr hx7 hx13))
 have c3b := E8.out.load c3
 have c4b := E8.out.load c4
 have c74b := E8.out.load c74
 have c75b := E8.out.load c75
 clear hx7 hx13 HS c0 c1 c2 c3 c4 c74 c75
 go_wp2_with fail
 refine rg_start (by kernel_rfl) ?_
 refine gD 0 rfl ?_
 simp only [sP]
 refine gS 1 rfl ⟨.string ⟨((S) ++ [32]).toArray⟩, fun w' hx => ex_addS (p := S) (q := [32]) rfl rfl rfl (by simp only [List.length_append, List.length_singleton, List.length_cons, List.length_nil] <;> omega), ?_⟩
 simp only [sP]
 refine gD 2 rfl ?_
 simp only [sP]
 refine gS 3 rfl ⟨_, fun w' hx => by have hcx := hx.load c3b; (go_simp <;> with_reducible rfl), ?_⟩
 simp only [sP]
 refine gD 7 rfl ?_
 simp only [sP]
 refine gS 8 rfl ⟨_, fun w' hx => by have hcx := hx.load c4b; (go_simp <;> with_reducible rfl), ?_⟩
 simp only [sP]
 refine rg_call 4 (HHL.out _ (E8.out.tr (Ext.drew _))) rfl (by kernel_rfl) (by rfl) (by go_simp) ?_
 rintro e w4 ⟨rfl, hx4⟩
 refine ⟨_, rfl, hx4, ?_⟩
 simp only [sP]
 refine gS 5 rfl ⟨.string ⟨((S ++ [32]) ++ X1).toArray⟩, fun w' hx => ex_addS (p := S ++ [32]) (q := X1) rfl rfl rfl (by simp only [List.length_append, List.length_singleton, List.length_cons, List.length_nil] <;> omega), ?_⟩
 simp only [sP]
 refine gS 6 rfl ⟨.string ⟨((S ++ [32] ++ X1) ++ [32]).toArray⟩, fun w' hx => ex_addS (p := S ++ [32] ++ X1) (q := [32]) rfl rfl rfl (by simp only [List.length_append, List.length_singleton, List.length_cons, List.length_nil] <;> omega), ?_⟩
 simp only [sP]
 refine rg_call 9 (HHH.out _ ((E8.out.tr (Ext.drew _)).tr hx4)) rfl (by kernel_rfl) (by rfl) (by go_simp) ?_
 rintro e w9 ⟨rfl, hx9⟩
 refine ⟨_, rfl, hx9, ?_⟩
 simp only [sP]
 refine gS 10 rfl ⟨.string ⟨S2.toArray⟩, fun w' hx => (ex_addS (p := S ++ [32] ++ X1 ++ [32]) (q := X2) rfl rfl rfl (by simp only [List.length_append, List.length_singleton, List.length_cons, List.length_nil] <;> omega)).trans (by rw [HS2.out]), ?_⟩
 simp only [sP]
 refine gD 11 rfl ?_
 simp only [sP]
 refine rg_done (by kernel_rfl) ?_
 have c74c := (show Ext w13 w9 from ((Ext.drew _).tr (Ext.tr hx4 hx9))).load c74b
 have c75c := (show Ext w13 w9 from ((Ext.drew _).tr (Ext.tr hx4 hx9))).load c75b
 have E9 := Lib.hid ((E8.out.tr (Ext.drew _)).tr (Ext.tr hx4 hx9))
 clear hx4 hx9
 go_wp2_with (first | (go_at_call 21; refine (HN1.out _).mono ?_; rintro e w21 ⟨rfl, hx21⟩; have E21 := Lib.hid (Ext.tr E9.out hx21); clear hx21) | (refine wpList_runT (by rfl) (.string ⟨((S2) ++ [32]).toArray⟩) _ (ex_addS (p := S2) (q := [32]) rfl rfl rfl (by simp only [List.length_append, List.length_singleton, List.length_cons, List.length_nil] <;> omega)) ?_) | (refine wpList_runT (by rfl) (.string ⟨S3.toArray⟩) _ ((ex_addS (p := S2 ++ [32]) (q := N1) rfl rfl rfl (by simp only [List.length_append, List.length_singleton, List.length_cons, List.length_nil] <;> omega)).trans (by rw [HS3.out])) ?_) | (refine wpList_runT (by rfl) (.string ⟨((S3) ++ [32, 97, 108, 108]).toArray⟩) _ (ex_addS (p := S3) (q := [32, 97, 108, 108]) rfl rfl rfl (by simp only [List.length_append, List.length_singleton, List.length_cons, List.length_nil] <;> omega)) ?_))
 go_wp2_with fail
 go_ret
 exact ⟨by rw [HT.out] <;> first | rfl | simp, X0.out.tr E21.out⟩
set_option maxRecDepth 100000 in
set_option maxHeartbeats 4000000 in
theorem rtext_t5 (M : WmV) (w : World) (hM : M.In w) (hlo : M.lo.length ≤ 1000000) (hhi : M.hi.length ≤ 1000000) (hz : M.subs.length ≤ 1000000 ∧ M.ents.length ≤ 1000000 ∧ M.sigs.length ≤ 1000000 ∧ M.data.length ≤ 1000000) (hK : M.kind = 21) :
  Calls Tryz.prog 7 #[.agg M.cells] w fun e w' => e = .returned (.string ⟨(Tl.text M.x).toArray⟩) ∧ Below w.heap.size w w' := by
 have hs := hM.ok.session
 have hq := hM.ok.seq
 have hs64 : M.session < 18446744073709551616 := by omega
 have hq64 : M.seq < 18446744073709551616 := by omega
 have LD1 := Tl.dec_len M.session hs64
 have LD2 := Tl.dec_len M.seq hq64
 obtain ⟨W0, hW0⟩ : ∃ W0, W0 = w.alloc (.cells M.cells 31) := ⟨_, rfl⟩
 have hx0 : Ext w W0 := by rw [hW0]; exact Ext.alloc _ _
 have G0 : W0.heap[w.heap.size]? = some (.cells M.cells 31 (0, 0)) := by rw [hW0]; exact heap_alloc_new w _
 have c0 : W0.cell? ⟨w.heap.size, 0, none⟩ = _ := (cell_of_row _ _ 0 _ _ _ G0).trans (WmV.at0 M)
 have c1 : W0.cell? ⟨w.heap.size, 1, none⟩ = _ := (cell_of_row _ _ 1 _ _ _ G0).trans (WmV.at1 M)
 have c2 : W0.cell? ⟨w.heap.size, 2, none⟩ = _ := (cell_of_row _ _ 2 _ _ _ G0).trans (WmV.at2 M)
 have c5 : W0.cell? ⟨w.heap.size, 5, none⟩ = _ := (cell_of_row _ _ 5 _ _ _ G0).trans (WmV.at5 M)
 have c76 : W0.cell? ⟨w.heap.size, 76, none⟩ = _ := (cell_of_row _ _ 76 _ _ _ G0).trans (WmV.at76 hM.ok)
 have X0 := Lib.hid hx0
 have HN0 := Lib.hid (fun W => signed_any M.n hM.ok.nlo hM.ok.nhi W)
 have LX1 := Lib.itoa_length_le M.n hM.ok.nlo hM.ok.nhi
 obtain ⟨z1, z2, z3, z4⟩ := hz
 have HN1 := Lib.hid (fun W => signed_any (M.sigs.length : Int) (by omega) (by omega) W)
 have LN1 := Lib.itoa_length_le (M.sigs.length : Int) (by omega) (by omega)
 have e9 : M.x.sigs.length = M.sigs.length := by simp [WmV.x]
 have HX : Tl.text M.x = Lib.join ([[115, 105, 103, 115] ++ [33], Tl.num M.x] ++ [Lib.itoa M.n] ++ [Lib.itoa (M.sigs.length : Int)]) [32] := by
  unfold Tl.text
  rw [show Tl.kind M.x.kind = (5, true) by rw [show M.x.kind = 21 from hK]; rfl]
  simp only [Tl.word, Tl.mark, Tl.asked, Tl.told, WmV.x]
  simp
 have HD1 := Lib.hid (fun W => digits_any M.session hs64 W)
 have HD2 := Lib.hid (fun W => digits_any M.seq hq64 W)
 have HC := Lib.hid (rword_any 21 W0.drew)
 have HC2 := Lib.hid (rword_any 5 W0.drew)
 rw [hK] at c0
 have HT : Tl.text M.x = ([115, 105, 103, 115] ++ [33] ++ [32] ++ (Lib.decDigits M.session) ++ [47] ++ (Lib.decDigits M.seq)) ++ [32] ++ (Lib.itoa M.n) ++ [32] ++ (Lib.itoa (M.sigs.length : Int)) := by
  rw [HX]
  simp [Lib.join_cons, Lib.joinTail, Tl.num, WmV.x]
 clear HX hK
 obtain ⟨D1, hD1⟩ : ∃ l, l = Lib.decDigits M.session := ⟨_, rfl⟩
 obtain ⟨D2, hD2⟩ : ∃ l, l = Lib.decDigits M.seq := ⟨_, rfl⟩
 obtain ⟨X1, hX1⟩ : ∃ l, l = Lib.itoa M.n := ⟨_, rfl⟩
 obtain ⟨N1, hN1⟩ : ∃ l, l = Lib.itoa (M.sigs.length : Int) := ⟨_, rfl⟩
 rw [← hD1] at HT HD1 LD1
 rw [← hD2] at HT HD2 LD2
 rw [← hX1] at HT LX1 HN0
 rw [← hN1] at HT LN1 HN1
 clear hD1 hD2 hX1 hN1
 obtain ⟨d, hd⟩ : ∃ d : List UInt8, d = [115, 105, 103, 115] := ⟨_, rfl⟩
 have he : (d == ([] : List UInt8)) = false := by rw [hd]; rfl
 have hwl : d.length ≤ 5 := by rw [hd]; decide
 obtain ⟨S, hS⟩ : ∃ S : List UInt8, S = d ++ [33] ++ [32] ++ D1 ++ [47] ++ D2 := ⟨_, rfl⟩
 have LS : S.length ≤ 60 := by rw [hS]; simp only [List.length_append, List.length_singleton]; omega
 have HS := Lib.hid hS
 replace HT : Tl.text M.x = S ++ [32] ++ X1 ++ [32] ++ N1 := by rw [HT, hS, hd]
 obtain ⟨S2, hS2⟩ : ∃ l : List UInt8, l = S ++ [32] ++ X1 := ⟨_, rfl⟩
 have LS2 : S2.length ≤ 4000100 := by rw [hS2]; simp only [List.length_append, List.length_singleton]; omega
 rw [← hS2] at HT
 have HS2 := Lib.hid hS2
 clear hS2
 obtain ⟨S3, hS3⟩ : ∃ l : List UInt8, l = S2 ++ [32] ++ N1 := ⟨_, rfl⟩
 have LS3 : S3.length ≤ 5000000 := by rw [hS3]; simp only [List.length_append, List.length_singleton]; omega
 rw [← hS3] at HT
 have HS3 := Lib.hid hS3
 clear hS3
 have HT := Lib.hid HT
 rw [show Tl.word 21 = [] from rfl] at HC
 rw [show Tl.word 5 = d from hd.symm] at HC2
 clear hd hS
 obtain ⟨P0, hP0⟩ : ∃ P, P = M.cells := ⟨_, rfl⟩
 rw [← hP0] at hW0 ⊢
 have HW0 := Lib.hid hW0
 clear hW0 hx0 G0 hP0 hM
 go_enter Tryz.func7, Tryz.ntmps7
 go_wp2_with (rw [← HW0.out]; refine Hid.out ?_)
 refine Lib.hid ?_
 go_wp2_with fail
 refine rg_start (by kernel_rfl) ?_
 refine gD 0 rfl ?_
 simp only [sP]
 refine gS 1 rfl ⟨_, fun w' hx => by have hcx := hx.load c0; (go_simp <;> with_reducible rfl), ?_⟩
 simp only [sP]
 refine gD 3 rfl ?_
 simp only [sP]
 refine gS 4 rfl ⟨_, fun w' hx => by have hcx := hx.load c0; (go_simp <;> with_reducible rfl), ?_⟩
 simp only [sP]
 refine rg_call 2 (HC.out) rfl (by kernel_rfl) (by rfl) (by go_simp) ?_
 rintro e w' ⟨rfl, rfl⟩
 refine ⟨_, rfl, Ext.refl _, ?_⟩
 simp only [sP]
 refine gD 5 rfl ?_
 simp only [sP]
 refine gD 6 rfl ?_
 simp only [sP]
 refine gD 7 rfl ?_
 simp only [sP]
 refine rg_done (by kernel_rfl) ?_
 go_wp2_with (first | (go_at_call 18; refine HC2.out.mono ?_; rintro e w' ⟨rfl, rfl⟩) | (refine wpList_runT (by rfl) (.bool false) _ ((ex_eqlS (p := d) (q := []) rfl rfl rfl).trans (by rw [he])) ?_) | (refine wpList_runT (by rfl) (.bool true) _ (ex_eqlS (p := []) (q := []) rfl rfl rfl) ?_))
 refine rg_start (by kernel_rfl) ?_
 refine gD 0 rfl ?_
 simp only [sP]
 refine gD 1 rfl ?_
 simp only [sP]
 refine gS 2 rfl ⟨.string ⟨((d) ++ [33]).toArray⟩, fun w' hx => ex_addS (p := d) (q := [33]) rfl rfl rfl (by simp only [List.length_append, List.length_singleton, List.length_cons, List.length_nil] <;> omega), ?_⟩
 simp only [sP]
 refine gS 3 rfl ⟨.string ⟨((d ++ [33]) ++ [32]).toArray⟩, fun w' hx => ex_addS (p := d ++ [33]) (q := [32]) rfl rfl rfl (by simp only [List.length_append, List.length_singleton, List.length_cons, List.length_nil] <;> omega), ?_⟩
 simp only [sP]
 refine gD 4 rfl ?_
 simp only [sP]
 refine gS 5 rfl ⟨_, fun w' hx => by have hcx := hx.load c1; (go_simp <;> with_reducible rfl), ?_⟩
 simp only [sP]
 refine gS 6 rfl ⟨.int .u64 (M.session : Int), fun w' hx => by (go_simp <;> (rw [IntKind.wrap_u64]; omega)), ?_⟩
 simp only [sP]
 refine gD 10 rfl ?_
 simp only [sP]
 refine gS 11 rfl ⟨_, fun w' hx => by have hcx := hx.load c2; (go_simp <;> with_reducible rfl), ?_⟩
 simp only [sP]
 refine gS 12 rfl ⟨.int .u64 (M.seq : Int), fun w' hx => by (go_simp <;> (rw [IntKind.wrap_u64]; omega)), ?_⟩
 simp only [sP]
 refine rg_call 7 (HD1.out _) rfl (by kernel_rfl) (by rfl) (by go_simp) ?_
 rintro e w7 ⟨rfl, hx7⟩
 refine ⟨_, rfl, hx7, ?_⟩
 simp only [sP]
 refine gS 8 rfl ⟨.string ⟨((d ++ [33] ++ [32]) ++ D1).toArray⟩, fun w' hx => ex_addS (p := d ++ [33] ++ [32]) (q := D1) rfl rfl rfl (by simp only [List.length_append, List.length_singleton, List.length_cons, List.length_nil] <;> omega), ?_⟩
 simp only [sP]
 refine gS 9 rfl ⟨.string ⟨((d ++ [33] ++ [32] ++ D1) ++ [47]).toArray⟩, fun w' hx => ex_addS (p := d ++ [33] ++ [32] ++ D1) (q := [47]) rfl rfl rfl (by simp only [List.length_append, List.length_singleton, List.length_cons, List.length_nil] <;> omega), ?_⟩
 simp only [sP]
 refine rg_call 13 (HD2.out _) rfl (by kernel_rfl) (by rfl) (by go_simp) ?_
 rintro e w13 ⟨rfl, hx13⟩
 refine ⟨_, rfl, hx13, ?_⟩
 simp only [sP]
 refine gS 14 rfl ⟨.string ⟨S.toArray⟩, fun w' hx => (ex_addS (p := d ++ [33] ++ [32] ++ D1 ++ [47]) (q := D2) rfl rfl rfl (by simp only [List.length_append, List.length_singleton, List.length_cons, List.length_nil] <;> omega)).trans (by rw [HS.out]), ?_⟩
 simp only [sP]
 refine gD 15 rfl ?_
 simp only [sP]
 refine rg_done (by kernel_rfl) ?_
 have E8 := Lib.hid (show Ext W0 w13 from ((Ext.drew W0).tr (Ext.drew _)).tr (Ext.tr hx7 hx13))
 have c5b := E8.out.load c5
 have c76b := E8.out.load c76
 clear hx7 hx13 HS c0 c1 c2 c5 c76
 go_wp2_with (first | (go_at_call 21; refine (HN0.out _).mono ?_; rintro e w9 ⟨rfl, hx9⟩; have E9 := Lib.hid (E8.out.tr hx9); have c76c := Ext.load hx9 c76b; clear hx9; refine Hid.out ?_) | (refine wpList_runT (by rfl) (.string ⟨((S) ++ [32]).toArray⟩) _ (ex_addS (p := S) (q := [32]) rfl rfl rfl (by simp only [List.length_append, List.length_singleton, List.length_cons, List.length_nil] <;> omega)) ?_))
 refine Lib.hid ?_
 go_wp2_with (first | (go_at_call 21; refine (HN1.out _).mono ?_; rintro e w21 ⟨rfl, hx21⟩; have E21 := Lib.hid (Ext.tr E9.out hx21); clear hx21) | (refine wpList_runT (by rfl) (.string ⟨S2.toArray⟩) _ ((ex_addS (p := S ++ [32]) (q := X1) rfl rfl rfl (by simp only [List.length_append, List.length_singleton, List.length_cons, List.length_nil] <;> omega)).trans (by rw [HS2.out])) ?_) | (refine wpList_runT (by rfl) (.string ⟨((S2) ++ [32]).toArray⟩) _ (ex_addS (p := S2) (q := [32]) rfl rfl rfl (by simp only [List.length_append, List.length_singleton, List.length_cons, List.length_nil] <;> omega)) ?_) | (refine wpList_runT (by rfl) (.string ⟨S3.toArray⟩) _ ((ex_addS (p := S2 ++ [32]) (q := N1) rfl rfl rfl (by simp only [List.length_append, List.length_singleton, List.length_cons, List.length_nil] <;> omega)).trans (by rw [HS3.out])) ?_))
 go_wp2_with fail
 go_ret
 exact ⟨by rw [HT.out] <;> first | rfl | simp, X0.out.tr E21.out⟩
set_option maxRecDepth 100000 in
set_option maxHeartbeats 4000000 in
theorem rtext_t6 (M : WmV) (w : World) (hM : M.In w) (hlo : M.lo.length ≤ 1000000) (hhi : M.hi.length ≤ 1000000) (hz : M.subs.length ≤ 1000000 ∧ M.ents.length ≤ 1000000 ∧ M.sigs.length ≤ 1000000 ∧ M.data.length ≤ 1000000) (hK : M.kind = 22) :
  Calls Tryz.prog 7 #[.agg M.cells] w fun e w' => e = .returned (.string ⟨(Tl.text M.x).toArray⟩) ∧ Below w.heap.size w w' := by
 have hs := hM.ok.session
 have hq := hM.ok.seq
 have hs64 : M.session < 18446744073709551616 := by omega
 have hq64 : M.seq < 18446744073709551616 := by omega
 have LD1 := Tl.dec_len M.session hs64
 have LD2 := Tl.dec_len M.seq hq64
 obtain ⟨W0, hW0⟩ : ∃ W0, W0 = w.alloc (.cells M.cells 31) := ⟨_, rfl⟩
 have hx0 : Ext w W0 := by rw [hW0]; exact Ext.alloc _ _
 have G0 : W0.heap[w.heap.size]? = some (.cells M.cells 31 (0, 0)) := by rw [hW0]; exact heap_alloc_new w _
 have c0 : W0.cell? ⟨w.heap.size, 0, none⟩ = _ := (cell_of_row _ _ 0 _ _ _ G0).trans (WmV.at0 M)
 have c1 : W0.cell? ⟨w.heap.size, 1, none⟩ = _ := (cell_of_row _ _ 1 _ _ _ G0).trans (WmV.at1 M)
 have c2 : W0.cell? ⟨w.heap.size, 2, none⟩ = _ := (cell_of_row _ _ 2 _ _ _ G0).trans (WmV.at2 M)
 have c5 : W0.cell? ⟨w.heap.size, 5, none⟩ = _ := (cell_of_row _ _ 5 _ _ _ G0).trans (WmV.at5 M)
 have c77 : W0.cell? ⟨w.heap.size, 77, none⟩ = _ := (cell_of_row _ _ 77 _ _ _ G0).trans (WmV.at77 hM.ok)
 have X0 := Lib.hid hx0
 have HN0 := Lib.hid (fun W => signed_any M.n hM.ok.nlo hM.ok.nhi W)
 have LX1 := Lib.itoa_length_le M.n hM.ok.nlo hM.ok.nhi
 obtain ⟨z1, z2, z3, z4⟩ := hz
 have HN1 := Lib.hid (fun W => signed_any (M.data.length : Int) (by omega) (by omega) W)
 have LN1 := Lib.itoa_length_le (M.data.length : Int) (by omega) (by omega)
 have e9 : M.x.data.length = M.data.length := by simp [WmV.x]
 have HX : Tl.text M.x = Lib.join ([[98, 108, 111, 99, 107] ++ [33], Tl.num M.x] ++ [Lib.itoa M.n] ++ [Lib.itoa (M.data.length : Int)]) [32] := by
  unfold Tl.text
  rw [show Tl.kind M.x.kind = (6, true) by rw [show M.x.kind = 22 from hK]; rfl]
  simp only [Tl.word, Tl.mark, Tl.asked, Tl.told, WmV.x]
  simp
 have HD1 := Lib.hid (fun W => digits_any M.session hs64 W)
 have HD2 := Lib.hid (fun W => digits_any M.seq hq64 W)
 have HC := Lib.hid (rword_any 22 W0.drew)
 have HC2 := Lib.hid (rword_any 6 W0.drew)
 rw [hK] at c0
 have HT : Tl.text M.x = ([98, 108, 111, 99, 107] ++ [33] ++ [32] ++ (Lib.decDigits M.session) ++ [47] ++ (Lib.decDigits M.seq)) ++ [32] ++ (Lib.itoa M.n) ++ [32] ++ (Lib.itoa (M.data.length : Int)) := by
  rw [HX]
  simp [Lib.join_cons, Lib.joinTail, Tl.num, WmV.x]
 clear HX hK
 obtain ⟨D1, hD1⟩ : ∃ l, l = Lib.decDigits M.session := ⟨_, rfl⟩
 obtain ⟨D2, hD2⟩ : ∃ l, l = Lib.decDigits M.seq := ⟨_, rfl⟩
 obtain ⟨X1, hX1⟩ : ∃ l, l = Lib.itoa M.n := ⟨_, rfl⟩
 obtain ⟨N1, hN1⟩ : ∃ l, l = Lib.itoa (M.data.length : Int) := ⟨_, rfl⟩
 rw [← hD1] at HT HD1 LD1
 rw [← hD2] at HT HD2 LD2
 rw [← hX1] at HT LX1 HN0
 rw [← hN1] at HT LN1 HN1
 clear hD1 hD2 hX1 hN1
 obtain ⟨d, hd⟩ : ∃ d : List UInt8, d = [98, 108, 111, 99, 107] := ⟨_, rfl⟩
 have he : (d == ([] : List UInt8)) = false := by rw [hd]; rfl
 have hwl : d.length ≤ 5 := by rw [hd]; decide
 obtain ⟨S, hS⟩ : ∃ S : List UInt8, S = d ++ [33] ++ [32] ++ D1 ++ [47] ++ D2 := ⟨_, rfl⟩
 have LS : S.length ≤ 60 := by rw [hS]; simp only [List.length_append, List.length_singleton]; omega
 have HS := Lib.hid hS
 replace HT : Tl.text M.x = S ++ [32] ++ X1 ++ [32] ++ N1 := by rw [HT, hS, hd]
 obtain ⟨S2, hS2⟩ : ∃ l : List UInt8, l = S ++ [32] ++ X1 := ⟨_, rfl⟩
 have LS2 : S2.length ≤ 4000100 := by rw [hS2]; simp only [List.length_append, List.length_singleton]; omega
 rw [← hS2] at HT
 have HS2 := Lib.hid hS2
 clear hS2
 obtain ⟨S3, hS3⟩ : ∃ l : List UInt8, l = S2 ++ [32] ++ N1 := ⟨_, rfl⟩
 have LS3 : S3.length ≤ 5000000 := by rw [hS3]; simp only [List.length_append, List.length_singleton]; omega
 rw [← hS3] at HT
 have HS3 := Lib.hid hS3
 clear hS3
 have HT := Lib.hid HT
 rw [show Tl.word 22 = [] from rfl] at HC
 rw [show Tl.word 6 = d from hd.symm] at HC2
 clear hd hS
 obtain ⟨P0, hP0⟩ : ∃ P, P = M.cells := ⟨_, rfl⟩
 rw [← hP0] at hW0 ⊢
 have HW0 := Lib.hid hW0
 clear hW0 hx0 G0 hP0 hM
 go_enter Tryz.func7, Tryz.ntmps7
 go_wp2_with (rw [← HW0.out]; refine Hid.out ?_)
 refine Lib.hid ?_
 go_wp2_with fail
 refine rg_start (by kernel_rfl) ?_
 refine gD 0 rfl ?_
 simp only [sP]
 refine gS 1 rfl ⟨_, fun w' hx => by have hcx := hx.load c0; (go_simp <;> with_reducible rfl), ?_⟩
 simp only [sP]
 refine gD 3 rfl ?_
 simp only [sP]
 refine gS 4 rfl ⟨_, fun w' hx => by have hcx := hx.load c0; (go_simp <;> with_reducible rfl), ?_⟩
 simp only [sP]
 refine rg_call 2 (HC.out) rfl (by kernel_rfl) (by rfl) (by go_simp) ?_
 rintro e w' ⟨rfl, rfl⟩
 refine ⟨_, rfl, Ext.refl _, ?_⟩
 simp only [sP]
 refine gD 5 rfl ?_
 simp only [sP]
 refine gD 6 rfl ?_
 simp only [sP]
 refine gD 7 rfl ?_
 simp only [sP]
 refine rg_done (by kernel_rfl) ?_
 go_wp2_with (first | (go_at_call 18; refine HC2.out.mono ?_; rintro e w' ⟨rfl, rfl⟩) | (refine wpList_runT (by rfl) (.bool false) _ ((ex_eqlS (p := d) (q := []) rfl rfl rfl).trans (by rw [he])) ?_) | (refine wpList_runT (by rfl) (.bool true) _ (ex_eqlS (p := []) (q := []) rfl rfl rfl) ?_))
 refine rg_start (by kernel_rfl) ?_
 refine gD 0 rfl ?_
 simp only [sP]
 refine gD 1 rfl ?_
 simp only [sP]
 refine gS 2 rfl ⟨.string ⟨((d) ++ [33]).toArray⟩, fun w' hx => ex_addS (p := d) (q := [33]) rfl rfl rfl (by simp only [List.length_append, List.length_singleton, List.length_cons, List.length_nil] <;> omega), ?_⟩
 simp only [sP]
 refine gS 3 rfl ⟨.string ⟨((d ++ [33]) ++ [32]).toArray⟩, fun w' hx => ex_addS (p := d ++ [33]) (q := [32]) rfl rfl rfl (by simp only [List.length_append, List.length_singleton, List.length_cons, List.length_nil] <;> omega), ?_⟩
 simp only [sP]
 refine gD 4 rfl ?_
 simp only [sP]
 refine gS 5 rfl ⟨_, fun w' hx => by have hcx := hx.load c1; (go_simp <;> with_reducible rfl), ?_⟩
 simp only [sP]
 refine gS 6 rfl ⟨.int .u64 (M.session : Int), fun w' hx => by (go_simp <;> (rw [IntKind.wrap_u64]; omega)), ?_⟩
 simp only [sP]
 refine gD 10 rfl ?_
 simp only [sP]
 refine gS 11 rfl ⟨_, fun w' hx => by have hcx := hx.load c2; (go_simp <;> with_reducible rfl), ?_⟩
 simp only [sP]
 refine gS 12 rfl ⟨.int .u64 (M.seq : Int), fun w' hx => by (go_simp <;> (rw [IntKind.wrap_u64]; omega)), ?_⟩
 simp only [sP]
 refine rg_call 7 (HD1.out _) rfl (by kernel_rfl) (by rfl) (by go_simp) ?_
 rintro e w7 ⟨rfl, hx7⟩
 refine ⟨_, rfl, hx7, ?_⟩
 simp only [sP]
 refine gS 8 rfl ⟨.string ⟨((d ++ [33] ++ [32]) ++ D1).toArray⟩, fun w' hx => ex_addS (p := d ++ [33] ++ [32]) (q := D1) rfl rfl rfl (by simp only [List.length_append, List.length_singleton, List.length_cons, List.length_nil] <;> omega), ?_⟩
 simp only [sP]
 refine gS 9 rfl ⟨.string ⟨((d ++ [33] ++ [32] ++ D1) ++ [47]).toArray⟩, fun w' hx => ex_addS (p := d ++ [33] ++ [32] ++ D1) (q := [47]) rfl rfl rfl (by simp only [List.length_append, List.length_singleton, List.length_cons, List.length_nil] <;> omega), ?_⟩
 simp only [sP]
 refine rg_call 13 (HD2.out _) rfl (by kernel_rfl) (by rfl) (by go_simp) ?_
 rintro e w13 ⟨rfl, hx13⟩
 refine ⟨_, rfl, hx13, ?_⟩
 simp only [sP]
 refine gS 14 rfl ⟨.string ⟨S.toArray⟩, fun w' hx => (ex_addS (p := d ++ [33] ++ [32] ++ D1 ++ [47]) (q := D2) rfl rfl rfl (by simp only [List.length_append, List.length_singleton, List.length_cons, List.length_nil] <;> omega)).trans (by rw [HS.out]), ?_⟩
 simp only [sP]
 refine gD 15 rfl ?_
 simp only [sP]
 refine rg_done (by kernel_rfl) ?_
 have E8 := Lib.hid (show Ext W0 w13 from ((Ext.drew W0).tr (Ext.drew _)).tr (Ext.tr hx7 hx13))
 have c5b := E8.out.load c5
 have c77b := E8.out.load c77
 clear hx7 hx13 HS c0 c1 c2 c5 c77
 go_wp2_with (first | (go_at_call 21; refine (HN0.out _).mono ?_; rintro e w9 ⟨rfl, hx9⟩; have E9 := Lib.hid (E8.out.tr hx9); have c77c := Ext.load hx9 c77b; clear hx9; refine Hid.out ?_) | (refine wpList_runT (by rfl) (.string ⟨((S) ++ [32]).toArray⟩) _ (ex_addS (p := S) (q := [32]) rfl rfl rfl (by simp only [List.length_append, List.length_singleton, List.length_cons, List.length_nil] <;> omega)) ?_))
 refine Lib.hid ?_
 go_wp2_with (first | (go_at_call 21; refine (HN1.out _).mono ?_; rintro e w21 ⟨rfl, hx21⟩; have E21 := Lib.hid (Ext.tr E9.out hx21); clear hx21) | (refine wpList_runT (by rfl) (.string ⟨S2.toArray⟩) _ ((ex_addS (p := S ++ [32]) (q := X1) rfl rfl rfl (by simp only [List.length_append, List.length_singleton, List.length_cons, List.length_nil] <;> omega)).trans (by rw [HS2.out])) ?_) | (refine wpList_runT (by rfl) (.string ⟨((S2) ++ [32]).toArray⟩) _ (ex_addS (p := S2) (q := [32]) rfl rfl rfl (by simp only [List.length_append, List.length_singleton, List.length_cons, List.length_nil] <;> omega)) ?_) | (refine wpList_runT (by rfl) (.string ⟨S3.toArray⟩) _ ((ex_addS (p := S2 ++ [32]) (q := N1) rfl rfl rfl (by simp only [List.length_append, List.length_singleton, List.length_cons, List.length_nil] <;> omega)).trans (by rw [HS3.out])) ?_))
 go_wp2_with fail
 go_ret
 exact ⟨by rw [HT.out] <;> first | rfl | simp, X0.out.tr E21.out⟩
theorem rtext_any (M : WmV) (w : World) (hM : M.In w) (hlo : M.lo.length ≤ 1000000) (hhi : M.hi.length ≤ 1000000) (hz : M.subs.length ≤ 1000000 ∧ M.ents.length ≤ 1000000 ∧ M.sigs.length ≤ 1000000 ∧ M.data.length ≤ 1000000) :
  Calls Tryz.prog 7 #[.agg M.cells] w fun e w' => e = .returned (.string ⟨(Tl.text M.x).toArray⟩) ∧ Below w.heap.size w w' := by
 by_cases a1 : M.kind = 1
 ·
  exact rtext_a1 M w hM hlo hhi hz a1
 by_cases a2 : M.kind = 2
 ·
  exact rtext_a2 M w hM hlo hhi hz a2
 by_cases a3 : M.kind = 3
 ·
  exact rtext_a3 M w hM hlo hhi hz a3
 by_cases a4 : M.kind = 4
 ·
  exact rtext_a4 M w hM hlo hhi hz a4
 by_cases a5 : M.kind = 5
 ·
  exact rtext_a5 M w hM hlo hhi hz a5
 by_cases a6 : M.kind = 6
 ·
  exact rtext_a6 M w hM hlo hhi hz a6
 by_cases b1 : M.kind = 17
 ·
  exact rtext_t1 M w hM hlo hhi hz b1
 by_cases b2 : M.kind = 18
 ·
  exact rtext_t2 M w hM hlo hhi hz b2
 by_cases b3 : M.kind = 19
 ·
  exact rtext_t3 M w hM hlo hhi hz b3
 by_cases b4 : M.kind = 20
 ·
  cases hm : M.more
  ·
   exact rtext_t4l M w hM hlo hhi hz b4 hm
  ·
   exact rtext_t4m M w hM hlo hhi hz b4 hm
 by_cases b5 : M.kind = 21
 ·
  exact rtext_t5 M w hM hlo hhi hz b5
 by_cases b6 : M.kind = 22
 ·
  exact rtext_t6 M w hM hlo hhi hz b6
 refine rtext_no M w hM ?_ fun h => ?_
 ·
  unfold Tl.word; rw [if_neg a1, if_neg a2, if_neg a3, if_neg a4, if_neg a5, if_neg a6]
 ·
  unfold Tl.word; rw [if_neg (by omega), if_neg (by omega), if_neg (by omega), if_neg (by omega), if_neg (by omega), if_neg (by omega)]
end Go.Proofs.YtjholekgdnhpkaaGreatDoor
