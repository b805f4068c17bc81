/- Texts of the proof, laid together: TlZ TlW. -/
import Derived.Test.YtjholekgdnhpkaaGreatDoorZ26
import Derived.Test.YtjholekgdnhpkaaGreatDoorZ22
import Derived.Test.YtjholekgdnhpkaaGreatDoorZ30
import Derived.Test.YtjholekgdnhpkaaGreatDoorZ23
import Derived.SizedLaws
set_option linter.unusedVariables false
set_option linter.unusedSimpArgs false
set_option linter.unusedSectionVars false
namespace Go.Proofs.YtjholekgdnhpkaaGreatDoor
open Go.RowKit
attribute [local go_sem] Oper.semAt_some
theorem text_live : Tl.text liveX = [115, 112, 108, 105, 116, 63, 32, 49, 47, 50, 32, 54, 49, 32, 45] := by decide +kernel
theorem liveT (A : Option Addr) (w : World) (hA : RdB w A [97]) (htab : Lib.TabIs Tryz.prog w "internal/strconv.uint64pow10" .u64 Lib.pow10Tab) :
  Calls Tryz.prog 6 #[.agg (liveM A).cells] w fun e w' => e = .returned (.string ⟨([115, 112, 108, 105, 116, 63, 32, 49, 47, 50, 32, 54, 49, 32, 45] : List UInt8).toArray⟩) ∧ Below w.heap.size w w' := by
 have h := wtext_any (liveM A) w ⟨liveM_ok A, hA, RdB.nil_ _ _, RdW.nil_ _ _, RdE.nil_ _ _, RdG.nil_ _ _, RdB.nil_ _ _⟩ (by simp [liveM, WmV.nul]) (by simp [liveM, WmV.nul]) (by simp [liveM, WmV.nul]) htab
 rw [liveM_x, text_live] at h
 exact h
set_option maxRecDepth 100000 in
set_option maxHeartbeats 2000000 in
theorem small24big (M : WmV) (w : World) (hM : M.In w) (g1 : M.lo.length ≤ 140737488355328) (g2 : M.hi.length ≤ 140737488355328) (g3 : M.data.length ≤ 140737488355328) (hb : 20000 < M.lo.length + M.hi.length + M.data.length) :
  Calls Tryz.prog 4 #[.agg M.cells] w fun e w' => e = .returned (.bool false) ∧ Ext w w' := by
 have hE : Ext w (w.alloc (.cells M.cells 31)) := Ext.alloc _ _
 have g0 := heap_alloc_new w (.cells M.cells 31)
 have a3 : (w.alloc (.cells M.cells 31)).cell? ⟨w.heap.size, 3, none⟩ = _ := (cell_of_row _ _ 3 _ _ _ g0).trans (WmV.at3 M)
 have a4 : (w.alloc (.cells M.cells 31)).cell? ⟨w.heap.size, 4, none⟩ = _ := (cell_of_row _ _ 4 _ _ _ g0).trans (WmV.at4 M)
 have a73 : (w.alloc (.cells M.cells 31)).cell? ⟨w.heap.size, 73, none⟩ = _ := (cell_of_row _ _ 73 _ _ _ g0).trans (WmV.at73 hM.ok)
 have a75 : (w.alloc (.cells M.cells 31)).cell? ⟨w.heap.size, 75, none⟩ = _ := (cell_of_row _ _ 75 _ _ _ g0).trans (WmV.at75 hM.ok)
 have a76 : (w.alloc (.cells M.cells 31)).cell? ⟨w.heap.size, 76, none⟩ = _ := (cell_of_row _ _ 76 _ _ _ g0).trans (WmV.at76 hM.ok)
 have a77 : (w.alloc (.cells M.cells 31)).cell? ⟨w.heap.size, 77, none⟩ = _ := (cell_of_row _ _ 77 _ _ _ g0).trans (WmV.at77 hM.ok)
 obtain ⟨x1, hx1⟩ : ∃ x, IntKind.i64.wrap ((M.lo.length : Int) + (M.hi.length : Int)) = x := ⟨_, rfl⟩
 obtain ⟨n0, hn0⟩ : ∃ x, IntKind.i64.wrap (x1 + (M.data.length : Int)) = x := ⟨_, rfl⟩
 have l4 : 20000 < n0 := by rw [← hn0, ← hx1, IntKind.wrap_i64, IntKind.wrap_i64]; omega
 have HE := Lib.hid hE
 clear hE g0 hM g1 g2 g3 hb
 obtain ⟨W0, hW0⟩ : ∃ W0, W0 = w.alloc (.cells M.cells 31) := ⟨_, rfl⟩
 obtain ⟨P, hP⟩ : ∃ P, P = M.cells := ⟨_, rfl⟩
 rw [← hW0] at HE a3 a4 a73 a75 a76 a77
 rw [← hP] at hW0 ⊢
 have HW0 := Lib.hid hW0
 clear hP hW0
 go_enter Tryz.func4, Tryz.ntmps4
 go_upto_region 1 with fail
 rw [← HW0.out]
 by_cases l1 : 200 < M.subs.length
 ·
  go_wp2_with fail
  go_ret
  exact ⟨rfl, HE.out⟩
 ·
  by_cases l2 : 200 < M.ents.length
  ·
   go_wp2_with fail
   go_ret
   exact ⟨rfl, HE.out⟩
  ·
   by_cases l3 : 200 < M.sigs.length
   ·
    go_wp2_with fail
    go_ret
    exact ⟨rfl, HE.out⟩
   ·
    go_wp2_with fail
    go_ret
    exact ⟨rfl, HE.out⟩
set_option maxRecDepth 100000 in
set_option maxHeartbeats 4000000 in
theorem walkWireTells (w : World) (M : WmV) (hM : M.In w) (g1 : M.lo.length ≤ 140737488355328) (g2 : M.hi.length ≤ 140737488355328) (g3 : M.data.length ≤ 140737488355328) (htab0 : Lib.TabIs Tryz.prog w "internal/strconv.uint64pow10" .u64 Lib.pow10Tab) :
  Calls Tryz.prog 3 #[.agg M.cells] w fun e w' => e = .returned (.bool true) ∧ Below w.heap.size w w' := by
 obtain ⟨W0, hW0⟩ : ∃ W0, W0 = w.alloc (.cells M.cells MT) := ⟨_, rfl⟩
 have hx0 : Ext w W0 := by rw [hW0]; exact Ext.alloc _ _
 have G0 : W0.heap[w.heap.size]? = some (.cells M.cells MT (0, 0)) := by rw [hW0]; exact heap_alloc_new w _
 have i0 := WmV.info hM.ok
 have htab := Lib.hid htab0
 by_cases hbig : 20000 < M.lo.length + M.hi.length + M.data.length
 ·
  have HS := Lib.hid (small24big M W0 (hM.ext hx0) g1 g2 g3 hbig)
  obtain ⟨P0, hP0⟩ : ∃ P, P = M.cells := ⟨_, rfl⟩
  rw [← hP0] at G0 HS i0 hW0 ⊢
  have HW0 := Lib.hid hW0
  have X0 := Lib.hid hx0
  clear hW0 hx0 hM hP0 hbig g1 g2 g3 htab htab0
  go_enter Tryz.func3, Tryz.ntmps3
  go_wp2_with (first | (rw [← HW0.out]; refine wpList_load_rowG (by rfl) MT (.tmp 1) rfl w.heap.size rfl MT P0 (0, 0) _ G0 Tryz.underlying31 rfl i0 ?_) | (go_at_call 4; refine HS.out.mono ?_; rintro e1 w1 ⟨rfl, hx1⟩; have X1 := Lib.hid (X0.out.tr hx1); clear hx1) | (go_at_call 5; refine (live24 _).mono ?_; rintro e9 w9 ⟨rfl, hx9⟩; have Hx9 := Lib.hid hx9; clear hx9))
  go_ret
  exact ⟨rfl, X1.out.tr Hx9.out⟩
 have HS := Lib.hid (small24 M W0 (hM.ext hx0))
 have HTX : Hid (M.Small → ∀ W, Ext w W → Calls Tryz.prog 6 #[.agg M.cells] W fun e w' => e = .returned (.string ⟨(Tl.text M.x).toArray⟩) ∧ Below W.heap.size W w') :=
  Lib.hid (fun s W x => wtext_any M W (hM.ext x) (by omega) (by omega) ⟨by have := s.subs; omega, by have := s.ents; omega, by have := s.sigs; omega, by omega⟩ (tab_belowT htab0 x))
 have HRX : Hid (M.Small → ∀ W, Ext w W → Calls Tryz.prog 7 #[.agg M.cells] W fun e w' => e = .returned (.string ⟨(Tl.text M.x).toArray⟩) ∧ Below W.heap.size W w') :=
  Lib.hid (fun s W x => rtext_any M W (hM.ext x) (by omega) (by omega) ⟨by have := s.subs; omega, by have := s.ents; omega, by have := s.sigs; omega, by omega⟩)
 obtain ⟨P0, hP0⟩ : ∃ P, P = M.cells := ⟨_, rfl⟩
 obtain ⟨T, hT⟩ : ∃ T, T = Tl.text M.x := ⟨_, rfl⟩
 rw [← hT] at HTX HRX
 rw [← hP0] at G0 HS i0 hW0 HTX HRX ⊢
 have HW0 := Lib.hid hW0
 have X0 := Lib.hid hx0
 clear hW0 hx0 hM hP0 hbig g1 g2 g3 htab0 hT
 go_enter Tryz.func3, Tryz.ntmps3
 go_wp2_with (first | (rw [← HW0.out]; refine wpList_load_rowG (by rfl) MT (.tmp 1) rfl w.heap.size rfl MT P0 (0, 0) _ G0 Tryz.underlying31 rfl i0 ?_) | (go_at_call 4; refine HS.out.mono ?_; rintro e1 w1 ⟨b1, rfl, hb1, hx1⟩; refine Hid.out ?_))
 have G1 := (hx1.block _ (lt_of_heap G0)).trans G0
 have X1 := Lib.hid (X0.out.tr hx1)
 have HB1 := Lib.hid hb1
 clear G0 hx1 hb1 HS X0
 refine Lib.hid ?_
 cases b1 with
 | false =>
  go_wp2_with (go_at_call 5; refine (live24 _).mono ?_; rintro e9 w9 ⟨rfl, hx9⟩; have Hx9 := Lib.hid hx9; clear hx9)
  go_ret
  exact ⟨rfl, X1.out.tr Hx9.out⟩
 | true =>
  replace HTX := Lib.hid (HTX.out (HB1.out rfl))
  replace HRX := Lib.hid (HRX.out (HB1.out rfl))
  have GV : (w1.drew).heap[w.heap.size]? = some (.cells P0 MT (0, 0)) := G1
  have EV : Ext w w1.drew := X1.out.tr (Ext.drew w1)
  clear G1 HB1
  go_wp2_with fail
  refine rk_start (keepW w.heap.size) (by kernel_rfl) ?_
  refine rk_take 0 rfl (by kernel_rfl) (by kernel_rfl) (by kernel_rfl) (fun _ _ _ _ h => h) (by rfl) ⟨.agg P0, fun w' hx => by obtain ⟨fr, hf⟩ := hx.2 _ _ _ _ GV; exact ex_load_row MT (.tmp 1) rfl w.heap.size rfl MT P0 fr _ hf Tryz.underlying31 rfl i0, ?_⟩
  simp only [sP]
  refine rk_take 2 rfl (by kernel_rfl) (by kernel_rfl) (by kernel_rfl) (fun _ _ _ _ h => h) (by rfl) ⟨.agg P0, fun w' hx => by obtain ⟨fr, hf⟩ := hx.2 _ _ _ _ GV; exact ex_load_row MT (.tmp 1) rfl w.heap.size rfl MT P0 fr _ hf Tryz.underlying31 rfl i0, ?_⟩
  simp only [sP]
  refine rk_call 1 (HTX.out _ EV) rfl (by kernel_rfl) (by rfl) (by go_simp) ?_
  rintro e w2 ⟨rfl, hx2⟩
  refine ⟨_, rfl, Keep.ext hx2 EV.size, ?_⟩
  have GV2 := (hx2.block _ (lt_of_heap GV)).trans GV
  have E2 := EV.tr hx2
  simp only [sP]
  refine rk_call 3 (HRX.out _ E2) rfl (by kernel_rfl) (by rfl) (by go_simp) ?_
  rintro e w4 ⟨rfl, hx4⟩
  refine ⟨_, rfl, Keep.ext hx4 E2.size, ?_⟩
  have E4 := E2.tr hx4
  simp only [sP]
  refine rk_take 4 rfl (by kernel_rfl) (by kernel_rfl) (by kernel_rfl) (fun _ _ _ _ h => h) (by rfl) ⟨.bool true, fun w' hx => (ex_eqlS (p := T) (q := T) rfl rfl rfl).trans (by rw [beq_self_eq_true]), ?_⟩
  simp only [sP]
  refine rk_take 5 rfl (by kernel_rfl) (by kernel_rfl) (by kernel_rfl) (fun _ _ _ _ h => h) (by rfl) ⟨_, fun w' hx => by (go_simp <;> with_reducible rfl), ?_⟩
  simp only [sP]
  refine rk_make 6 rfl (by kernel_rfl) (by rfl) ⟨_, _, by (go_simp <;> first | exact ⟨rfl, rfl⟩ | rfl), Keep.ext (Ext.alloc _ _) E4.size, ?_⟩
  simp only [sP]
  obtain ⟨w7, hr7, hk7⟩ := run_convMark (P := Tryz.prog) Tryz.underlying23 Tryz.underlying5 w.heap.size _ w4.heap.size 1 1 _ (0, 0) (heap_alloc_new w4 (.cells #[.int .u8 97] 5)) E4.size
  refine rk_make 7 rfl (by kernel_rfl) (by rfl) ⟨_, w7, ex_convK rfl rfl hr7, hk7, ?_⟩
  have E7 : Ext w w7 := (E4.tr (Ext.alloc w4 (.cells #[.int .u8 97] 5))).trans hk7.below
  have R7 := hk7.rdB (one_row w4 97 97 rfl)
  have HL9 := liveT (some ⟨w4.heap.size, 0, none⟩) w7 R7 (tab_belowT htab.out E7)
  obtain ⟨PL, hPL⟩ : ∃ P, P = (liveM (some ⟨w4.heap.size, 0, none⟩)).cells := ⟨_, rfl⟩
  rw [← hPL] at HL9
  simp only [sP]
  refine rk_take 8 rfl (by kernel_rfl) (by kernel_rfl) (by kernel_rfl) (fun _ _ _ _ h => h) (by rfl) ⟨.agg PL, fun w' hx => by rw [hPL]; exact ex_buildLive _ _ _ _ rfl _ rfl rfl rfl rfl, ?_⟩
  simp only [sP]
  refine rk_call 9 HL9 rfl (by kernel_rfl) (by rfl) (by go_simp) ?_
  rintro e w9 ⟨rfl, hx9⟩
  refine ⟨_, rfl, Keep.ext hx9 E7.size, ?_⟩
  have E9 := E7.tr hx9
  simp only [sP]
  refine rk_take 10 rfl (by kernel_rfl) (by kernel_rfl) (by kernel_rfl) (fun _ _ _ _ h => h) (by rfl) ⟨.bool true, fun w' hx => (ex_eqlS (p := [115, 112, 108, 105, 116, 63, 32, 49, 47, 50, 32, 54, 49, 32, 45]) (q := [115, 112, 108, 105, 116, 63, 32, 49, 47, 50, 32, 54, 49, 32, 45]) rfl rfl rfl).trans rfl, ?_⟩
  simp only [sP]
  refine rk_take 11 rfl (by kernel_rfl) (by kernel_rfl) (by kernel_rfl) (fun _ _ _ _ h => h) (by rfl) ⟨_, fun w' hx => by (go_simp <;> with_reducible rfl), ?_⟩
  simp only [sP]
  refine rk_take 12 rfl (by kernel_rfl) (by kernel_rfl) (by kernel_rfl) (fun _ _ _ _ h => h) (by rfl) ⟨_, fun w' hx => by (go_simp <;> with_reducible rfl), ?_⟩
  simp only [sP]
  refine rk_call 13 (live24 _) rfl (by kernel_rfl) (by rfl) (by go_simp) ?_
  rintro e w13 ⟨rfl, hx13⟩
  refine ⟨_, rfl, Keep.ext hx13 E9.size, ?_⟩
  have E13 := E9.tr hx13
  simp only [sP]
  refine rk_take 14 rfl (by kernel_rfl) (by kernel_rfl) (by kernel_rfl) (fun _ _ _ _ h => h) (by rfl) ⟨_, fun w' hx => by (go_simp <;> with_reducible rfl), ?_⟩
  simp only [sP]
  refine rk_take 15 rfl (by kernel_rfl) (by kernel_rfl) (by kernel_rfl) (fun _ _ _ _ h => h) (by rfl) ⟨_, fun w' hx => by (go_simp <;> with_reducible rfl), ?_⟩
  simp only [sP]
  refine rk_done (by kernel_rfl) ?_
  go_wp2_with fail
  go_ret
  exact ⟨rfl, E13⟩
end Go.Proofs.YtjholekgdnhpkaaGreatDoor
namespace Go.Proofs.YtjholekgdnhpkaaGreatDoor
open Go.RowKit
open Go.ChangeShapes Go.WideShapes Go.ChangeAt Go.Joins
set_option maxRecDepth 20000 in
theorem msg_len {H : Type} {enc : TypeId × Value → H} {W : World} {base : Nat} {spare : Nat → Bool} {held : Bool} {d : DataW H} {p : List MemPlace} {M : WmV} {ts : List TypeId} {ds : List (DataW H)}
  (h : DataW.Trod enc Tryz.prog W base spare held 31 (.agg M.cells) d p) (hsz : (DataW.weightsEach Tryz.prog ts ds).all (· ≤ reachBytes) = true) {i : Nat} (hts : ts[i]? = some 31) (hds : ds[i]? = some d)
  (j off : Nat) (f : Field) (hj : j < 16) (hf : (Tryz.prog.fieldsOf 31)[j]? = some f) (ht2 : f.type = 23) (ho : f.offset = off) {A : Option Addr} {len cap : Nat} (hc : M.cells[off]? = some (.slice A len cap)) : len ≤ 140737488355328 := by
 obtain ⟨fuel, h⟩ := h
 have h1 : DataW.trod enc Tryz.prog W base spare held fuel 31 M.cells.toList = some (d, p) := by simpa [Value.cells] using h
 obtain ⟨ys, n, _, hx, _, hyl, hfs⟩ := DataW.trod_struct Tryz.underlying31 h1
 have hy : ys.length = 16 := hyl
 have hd : d = .agg (ys.map (·.1)) := congrArg Prod.fst hx
 have h2 := hfs j f hf
 rw [ht2, ho, show Tryz.prog.cellsOf 23 = 1 by kernel_rfl] at h2
 have h3 : (M.cells.toList.drop off).take 1 = [.slice A len cap] := by
  have h4 : M.cells.toList[off]? = some (.slice A len cap) := by rw [Array.getElem?_toList]; exact hc
  obtain ⟨hlt, h5⟩ := List.getElem?_eq_some_iff.1 h4
  rw [List.drop_eq_getElem_cons hlt, h5]
  rfl
 rw [h3, List.getElem?_eq_getElem (by omega)] at h2
 obtain ⟨y, hye⟩ : ∃ y, y = ys[j]'(by omega) := ⟨_, rfl⟩
 rw [← hye] at h2
 rcases DataW.trod_slice Tryz.underlying23 h2 with ⟨hcs, _⟩ | ⟨a, len', cap', elems, rest, n', _, hcs, hyy, _, _, _, hel, _⟩
 ·
  have : Value.slice A len cap = .slice none 0 0 := by injection hcs
  injection this with _ e2 _
  omega
 ·
  have e1 : Value.slice A len cap = .slice (some a) len' cap' := by injection hcs
  injection e1 with _ e2 _
  have hp : (ys.map (·.1))[j]? = some (.slice (elems.map (·.1)) (rest.map (·.1))) := by
   rw [List.getElem?_map, List.getElem?_eq_getElem (by omega), ← hye, hyy]
   rfl
  have hfl : ((Tryz.prog.fieldsOf 31).toList.map (·.type))[j]? = some 23 := by
   rw [List.getElem?_map, Array.getElem?_toList, hf, ← ht2]
   rfl
  have m1 : ((elems.map (·.1)).length + (rest.map (·.1)).length) * Tryz.prog.bytesOf 5 ∈ DataW.weightsEach Tryz.prog ((Tryz.prog.fieldsOf 31).toList.map (·.type)) (ys.map (·.1)) :=
   DataW.weights_mem_each hfl hp _ (by simp [DataW.weights, Tryz.underlying23])
  have m2 : ((elems.map (·.1)).length + (rest.map (·.1)).length) * Tryz.prog.bytesOf 5 ∈ DataW.weightsEach Tryz.prog ts ds :=
   DataW.weights_mem_each hts hds _ (by rw [hd]; unfold DataW.weights; rw [Tryz.underlying31]; exact m1)
  have m3 := List.all_eq_true.1 hsz _ m2
  have hr := reachBytes_lt
  have e3 : (2 : Nat) ^ 47 = 140737488355328 := by decide
  have e4 : Tryz.prog.bytesOf 5 = 1 := by kernel_rfl
  simp only [decide_eq_true_eq, e4, List.length_map, Nat.mul_one] at m3
  omega
end Go.Proofs.YtjholekgdnhpkaaGreatDoor
