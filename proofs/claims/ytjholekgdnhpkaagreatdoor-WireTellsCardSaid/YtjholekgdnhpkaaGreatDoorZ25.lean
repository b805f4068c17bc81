/- Texts of the proof, laid together: TlX. -/
import Derived.Test.YtjholekgdnhpkaaGreatDoorZ24
import Derived.Test.YtjholekgdnhpkaaGreatDoorZ1
import Derived.Lib.ItoaLen
set_option linter.unusedVariables false
set_option linter.unusedSimpArgs false
set_option linter.unusedSectionVars false
namespace Go.Proofs.YtjholekgdnhpkaaGreatDoor
open Go.RowKit
attribute [local go_sem] Oper.semAt_some
theorem svT_join (l : List (List UInt8)) : (l.map fun s => (⟨s.toArray⟩ : ByteArray)).map (·.data.toList) = l := by simp [Function.comp_def]
theorem Tl.word_len (k : Int) : (Tl.word k).length ≤ 5 := by unfold Tl.word; (repeat' split) <;> simp
theorem join_own {w : World} {base c n : Nat} {A : Option Addr} (l : List (List UInt8)) (hn : n = l.length) (h : Own w base 9 1 A n c (svT l)) (h0 : l ≠ []) (hlen : (Lib.join l [32]).length ≤ 140737488355328) (hN : l.length ≤ 140737488355328) :
  Calls Tryz.prog 17 #[.slice A n c, .string ⟨#[32]⟩] w fun e w' => e = .returned (.string ⟨(Lib.join l [32]).toArray⟩) ∧ Below w.heap.size w w' := by
 subst hn
 have hl0 : 0 < l.length := List.length_pos_iff.2 h0
 have hnc := h.nc
 obtain ⟨g, off, rfl, hg⟩ : ∃ g off, A = some ⟨g, off, none⟩ ∧ g < w.heap.size := by
  rcases h.mem with h1 | ⟨g, off, cur, h1, h2, h3, h4, h5⟩
  ·
   omega
  ·
   exact ⟨g, off, h1, lt_of_heap h3⟩
 obtain ⟨ad, e, hc⟩ := h.rd.2 (by intro e; have := svT_len l; rw [e] at this; simp at this; omega)
 injection e with e
 subst e
 have := Tryz.strings_Join g off c (l.map fun s => (⟨s.toArray⟩ : ByteArray)) ⟨#[32]⟩ w (by
  intro j x hj
  have h9 := hc j (.string x) (by
   rw [List.getElem?_map, Option.map_eq_some_iff] at hj
   obtain ⟨s, hs, rfl⟩ := hj
   rw [svT, List.getElem?_map, hs]; rfl)
  rw [Addr.add_lit] at h9
  exact h9) hg (by rw [List.length_map]; exact hN) (by rw [List.length_map]; exact hnc) (by rw [svT_join]; exact hlen)
 rw [svT_join, List.length_map] at this
 exact this
theorem Tl.lens_le (B : Nat) (l : List (List UInt8)) (h : ∀ s ∈ l, s.length ≤ B) : Lib.lens l ≤ B * l.length := by
 induction l with
 | nil => simp [Lib.lens]
 | cons x l ih =>
  have h1 := ih (fun s hs => h s (List.mem_cons_of_mem _ hs))
  have h2 := h x (List.mem_cons_self ..)
  simp only [Lib.lens, List.map_cons, List.sum_cons, List.length_cons, Nat.mul_succ] at *
  omega
theorem Tl.join_le (B : Nat) (l : List (List UInt8)) (h : ∀ s ∈ l, s.length ≤ B) : (Lib.join l [32]).length ≤ (B + 1) * l.length := by
 cases l with
 | nil => simp [Lib.join_nil]
 | cons x l =>
  have h1 := Tl.lens_le B (x :: l) h
  rw [Lib.join_length, Nat.add_mul]
  simp only [List.length_cons, List.length_nil] at *
  omega
theorem Tl.hex_len (d : List UInt8) (h : d.length ≤ 1000000) : (Tl.hex d).length ≤ 2000000 := by
 unfold Tl.hex
 split
 ·
  simp
 ·
  rw [Tl.hx_len]; omega
theorem Tl.asked_len (k : Int) (m : Wm) : (Tl.asked k m).length ≤ 2 := by unfold Tl.asked; (repeat' split) <;> simp
theorem Tl.told_len (k : Int) (m : Wm) : (Tl.told k m).length ≤ 3 := by unfold Tl.told; (repeat' split) <;> simp
theorem Tl.asked_le (k : Int) (M : WmV) (h : M.Ok) (hlo : M.lo.length ≤ 1000000) (hhi : M.hi.length ≤ 1000000) : ∀ s ∈ Tl.asked k M.x, s.length ≤ 2000000 := by
 have h1 := Tl.hex_len _ hlo
 have h2 := Tl.hex_len _ hhi
 have h3 := Lib.itoa_length_le M.n h.nlo h.nhi
 unfold Tl.asked
 split
 ·
  intro s hs
  simp only [List.mem_cons, List.not_mem_nil, or_false] at hs
  rcases hs with rfl | rfl
  ·
   exact h1
  ·
   exact h2
 ·
  split
  ·
   intro s hs
   simp only [List.mem_cons, List.not_mem_nil, or_false] at hs
   subst hs
   exact Nat.le_trans h3 (by omega)
  ·
   simp
theorem Tl.told_le (k : Int) (M : WmV) (h : M.Ok) (hz : M.subs.length ≤ 1000000 ∧ M.ents.length ≤ 1000000 ∧ M.sigs.length ≤ 1000000 ∧ M.data.length ≤ 1000000) : ∀ s ∈ Tl.told k M.x, s.length ≤ 2000000 := by
 obtain ⟨z1, z2, z3, z4⟩ := hz
 have e1 : M.x.ents.length = M.ents.length := by simp [WmV.x]
 have e2 : M.x.subs.length = M.subs.length := by simp [WmV.x]
 have e3 : M.x.sigs.length = M.sigs.length := by simp [WmV.x]
 have e4 : M.x.data.length = M.data.length := by simp [WmV.x]
 have g1 := Lib.itoa_length_le (M.x.ents.length : Int) (by omega) (by omega)
 have g2 := Lib.itoa_length_le (M.x.subs.length : Int) (by omega) (by omega)
 have g3 := Lib.itoa_length_le (M.x.sigs.length : Int) (by omega) (by omega)
 have g4 := Lib.itoa_length_le (M.x.data.length : Int) (by omega) (by omega)
 have g5 := Lib.itoa_length_le M.x.count h.clo h.chi
 have g6 := Lib.itoa_length_le M.x.size h.zlo h.zhi
 have g7 := Tl.dec_len M.x.lsn h.lsn
 unfold Tl.told
 by_cases k1 : k = 1
 ·
  rw [if_pos k1]
  intro s hs
  simp only [List.mem_cons, List.not_mem_nil, or_false] at hs
  rcases hs with rfl | rfl | rfl <;> omega
 rw [if_neg k1]
 by_cases k4 : k = 4
 ·
  rw [if_pos k4]
  intro s hs
  simp only [List.mem_cons, List.not_mem_nil, or_false] at hs
  rcases hs with rfl | rfl
  ·
   omega
  ·
   split <;> simp
 rw [if_neg k4]
 by_cases k5 : k = 5
 ·
  rw [if_pos k5]
  intro s hs
  simp only [List.mem_cons, List.not_mem_nil, or_false] at hs
  subst hs; omega
 rw [if_neg k5]
 by_cases k6 : k = 6
 ·
  rw [if_pos k6]
  intro s hs
  simp only [List.mem_cons, List.not_mem_nil, or_false] at hs
  subst hs; omega
 rw [if_neg k6]
 intro s hs
 simp only [List.mem_cons, List.not_mem_nil, or_false] at hs
 subst hs; omega
theorem Tl.num_len (M : WmV) (h : M.Ok) : (Tl.num M.x).length ≤ 41 := by
 have h1 := Tl.dec_len M.x.session (by have := h.session; show M.session < _; omega)
 have h2 := Tl.dec_len M.x.seq (by have := h.seq; show M.seq < _; omega)
 unfold Tl.num
 simp only [List.length_append, List.length_singleton]
 omega
set_option maxRecDepth 100000 in
set_option maxHeartbeats 4000000 in
theorem wtext_ask (M : WmV) (w : World) (hM : M.In w) (hlo : M.lo.length ≤ 1000000) (hhi : M.hi.length ≤ 1000000) (hz : M.subs.length ≤ 1000000 ∧ M.ents.length ≤ 1000000 ∧ M.sigs.length ≤ 1000000 ∧ M.data.length ≤ 1000000) (htab : Lib.TabIs Tryz.prog w "internal/strconv.uint64pow10" .u64 Lib.pow10Tab) (hw : Tl.word M.kind ≠ []) :
  Calls Tryz.prog 6 #[.agg M.cells] w fun e w' => e = .returned (.string ⟨(Tl.text M.x).toArray⟩) ∧ Below w.heap.size w w' := by
 have hka := hM.ok.klo
 have hkb := hM.ok.khi
 have hs := hM.ok.session
 have hq := hM.ok.seq
 have hs64 : M.session < 18446744073709551616 := by omega
 have hq64 : M.seq < 18446744073709551616 := by omega
 have LD1 := Lib.hid (Tl.dec_len M.session hs64)
 have LD2 := Lib.hid (Tl.dec_len M.seq hq64)
 have HNL := Lib.hid (Tl.num_len M hM.ok)
 have HAL := Lib.hid (fun k => Tl.asked_le k M hM.ok hlo hhi)
 have HTL := Lib.hid (fun k => Tl.told_le k M hM.ok hz)
 have hi := Lib.hid (WmV.info hM.ok)
 obtain ⟨W0, hW0⟩ : ∃ W0, W0 = w.alloc (.cells M.cells 31) := ⟨_, rfl⟩
 have hx0 : Ext w W0 := by rw [hW0]; exact Ext.alloc _ _
 have G0 : W0.heap[w.heap.size]? = some (.cells M.cells 31 (0, 0)) := by rw [hW0]; exact heap_alloc_new w _
 have c0 : W0.cell? ⟨w.heap.size, 0, none⟩ = _ := (cell_of_row _ _ 0 _ _ _ G0).trans (WmV.at0 M)
 have c1 : W0.cell? ⟨w.heap.size, 1, none⟩ = _ := (cell_of_row _ _ 1 _ _ _ G0).trans (WmV.at1 M)
 have c2 : W0.cell? ⟨w.heap.size, 2, none⟩ = _ := (cell_of_row _ _ 2 _ _ _ G0).trans (WmV.at2 M)
 have T0 := Lib.hid (tab_belowT htab hx0)
 have X0 := Lib.hid hx0
 have HA := Lib.hid (fun k W (x : Ext W0 W) => wasked_any k M W (hM.ext (X0.out.tr x)) hlo hhi (tab_belowT T0.out x))
 have HT := Lib.hid (fun k W (x : Ext W0 W) => wtold_any k M W (hM.ext (X0.out.tr x)) hz (tab_belowT T0.out x))
 have HG := Lib.hid (fun W (x : Ext W0 W) => (x.block _ (lt_of_heap G0)).trans G0)
 obtain ⟨P0, hP0⟩ : ∃ P, P = M.cells := ⟨_, rfl⟩
 rw [← hP0] at hW0 HA HT HG hi ⊢
 have HW0 := Lib.hid hW0
 clear hW0 hx0 G0 hP0 htab hM
 have HQ : Hid (∀ u, Calls Tryz.prog 13 #[.int .i64 u] W0 fun e w' => e = .returned (.string ⟨(Tl.word u).toArray⟩) ∧ W0 = w') := Lib.hid fun u => wword_any u W0
 have hk : Tl.kind M.kind = (M.kind, false) := if_neg (fun h => hw h.1)
 have HX := Lib.hid (show Tl.text M.x = Lib.join ([Tl.word M.kind ++ [63], Tl.num M.x] ++ Tl.asked M.kind M.x) [32] by
  unfold Tl.text; rw [show M.x.kind = M.kind from rfl, hk]; rw [if_neg hw, if_neg (by simp), List.append_nil]; rfl)
 have he : (Tl.word M.kind == ([] : List UInt8)) = false := by rw [beq_eq_false_iff_ne]; exact hw
 have HC := Lib.hid (HQ.out M.kind)
 have hwl := Tl.word_len M.kind
 have hal := Tl.asked_len M.kind M.x
 have HLJ := Lib.hid (show (Lib.join ([Tl.word M.kind ++ [63], Tl.num M.x] ++ Tl.asked M.kind M.x) [32]).length ≤ 140737488355328 from
  Nat.le_trans (Tl.join_le 2000000 _ (by
   intro s hs
   simp only [List.mem_append, List.mem_cons, List.not_mem_nil, or_false] at hs
   rcases hs with (rfl | rfl) | h
   ·
    simp only [List.length_append, List.length_singleton]; omega
   ·
    have := HNL.out; omega
   ·
    exact HAL.out _ _ h)) (by simp only [List.length_append, List.length_cons, List.length_nil]; omega))
 obtain ⟨d, hd⟩ : ∃ d, d = Tl.word M.kind := ⟨_, rfl⟩
 rw [← hd] at HX HC he hwl HLJ
 clear hd hk hw HQ HT HAL HTL
 go_enter Tryz.func6, Tryz.ntmps6
 go_wp2_with (first | (rw [← HW0.out]; refine Hid.out ?_))
 refine Lib.hid ?_
 go_wp2_with (first | (go_at_call 13; refine HC.out.mono ?_; rintro e w' ⟨rfl, rfl⟩) | (refine wpList_runT (by rfl) (.bool false) _ ((ex_eqlS (p := d) (q := []) rfl rfl rfl).trans (by rw [he])) ?_))
 refine rg_start (by kernel_rfl) ?_
 refine gD 0 rfl ?_
 simp only [sP]
 refine gS 1 rfl ⟨_, fun w' hx => by have hcx := hx.load c1; (go_simp <;> with_reducible rfl), ?_⟩
 simp only [sP]
 refine gS 2 rfl ⟨.int .u64 (M.session : Int), fun w' hx => by (go_simp <;> (rw [IntKind.wrap_u64]; omega)), ?_⟩
 simp only [sP]
 refine gD 5 rfl ?_
 simp only [sP]
 refine gS 6 rfl ⟨_, fun w' hx => by have hcx := hx.load c2; (go_simp <;> with_reducible rfl), ?_⟩
 simp only [sP]
 refine gS 7 rfl ⟨.int .u64 (M.seq : Int), fun w' hx => by (go_simp <;> (rw [IntKind.wrap_u64]; omega)), ?_⟩
 simp only [sP]
 refine rg_call 3 (fmtU_any M.session hs64 _ (tab_belowT T0.out (Ext.drew W0))) rfl (by kernel_rfl) (by rfl) (by go_simp) ?_
 rintro e w3 ⟨rfl, hx3⟩
 refine ⟨_, rfl, hx3, ?_⟩
 simp only [sP]
 refine gS 4 rfl ⟨.string ⟨((Lib.decDigits M.session) ++ [47]).toArray⟩, fun w' hx => ex_addS (p := (Lib.decDigits M.session)) (q := [47]) rfl rfl rfl (by have := LD1.out; have := LD2.out; simp only [List.length_append, List.length_singleton] <;> omega), ?_⟩
 simp only [sP]
 refine rg_call 8 (fmtU_any M.seq hq64 _ (tab_belowT (tab_belowT T0.out (Ext.drew W0)) hx3)) rfl (by kernel_rfl) (by rfl) (by go_simp) ?_
 rintro e w8 ⟨rfl, hx8⟩
 refine ⟨_, rfl, hx8, ?_⟩
 simp only [sP]
 refine gS 9 rfl ⟨.string ⟨(Tl.num M.x).toArray⟩, fun w' hx => ex_addS (p := Lib.decDigits M.session ++ [47]) (q := Lib.decDigits M.seq) rfl rfl rfl (by have := LD1.out; have := LD2.out; simp only [List.length_append, List.length_singleton] <;> omega), ?_⟩
 simp only [sP]
 refine gD 10 rfl ?_
 simp only [sP]
 refine rg_done (by kernel_rfl) ?_
 have hx38 := Lib.hid ((Ext.drew W0).tr (Ext.tr hx3 hx8))
 have hb0 := Lib.hid (show w.heap.size ≤ w8.heap.size from Nat.le_trans X0.out.size hx38.out.size)
 clear hx3 hx8
 go_wp2_with (first | (refine wpList_runT (by rfl) (.string ⟨(d ++ [63]).toArray⟩) _ (ex_addS (q := [63]) rfl rfl rfl (by simp only [List.length_singleton]; omega)) ?_) | (refine wpList_load_rowG (by rfl) 31 (.tmp 1) rfl w.heap.size rfl 31 P0 (0, 0) _ (HG.out _ (hx38.out.tr (Ext.alloc _ _))) Tryz.underlying31 rfl hi.out ?_) | (go_at_call 15; go_loud (refine (HA.out _ _ (hx38.out.tr (Ext.alloc _ _))).mono ?_; rintro e w9 ⟨A9, c9, rfl, hr9, hb9⟩; have ho9 := Lib.hid (Own.below (Own.new w8 9 1 #[.string ⟨((d ++ [63] : List UInt8)).toArray⟩, .string ⟨(Tl.num M.x).toArray⟩] 2 2 (Nat.le_refl _) (by decide) (by simp)) hb9); have HB9 := Lib.hid ((Ext.alloc w8 (.cells #[.string ⟨((d ++ [63] : List UInt8)).toArray⟩, .string ⟨(Tl.num M.x).toArray⟩] 9)).tr hb9); clear hb9)) | (at_builtin; go_loud (refine wpList_app (by rfl) (.tmp 37) (.tmp 40) 50 rfl elemTx w8.heap.size (some ⟨w8.heap.size, 0, none⟩) 2 2 (svT [d ++ [63], Tl.num M.x]) rfl A9 (Tl.asked (M.kind) M.x).length c9 (svT (Tl.asked (M.kind) M.x)) rfl (2 + (Tl.asked (M.kind) M.x).length) rfl (svT ([d ++ [63], Tl.num M.x] ++ Tl.asked (M.kind) M.x)) (svT_app _ _) ho9.out hr9 (svT_one _) (by omega) (by omega) HB9.out.size ?_; intro A10 c10 w10 ho10 hg10 hr10; have HB10 := Lib.hid (below_app HB9.out ho9.out hg10 HB9.out.size); have HO10 := Lib.hid ho10; clear hg10 hr10 hr9 ho10; refine Hid.out ?_)))
 refine Lib.hid ?_
 go_wp2_with (first | (refine wpList_runT (by rfl) (.bool false) _ (ex_eqlS (p := [63]) (q := [33]) rfl rfl rfl) ?_))
 refine (join_own ([d ++ [63], Tl.num M.x] ++ Tl.asked (M.kind) M.x) (by simp <;> omega) HO10.out (by simp) HLJ.out (by simp <;> omega)).mono ?_
 rintro e w15 ⟨rfl, hb15⟩
 have HB15 := Lib.hid hb15
 clear hb15
 go_wp2_with fail
 go_ret
 exact ⟨by rw [HX.out]; rfl, (X0.out.tr (hx38.out.tr HB10.out)).tr HB15.out⟩
set_option maxRecDepth 100000 in
set_option maxHeartbeats 4000000 in
theorem wtext_tell (M : WmV) (w : World) (hM : M.In w) (hlo : M.lo.length ≤ 1000000) (hhi : M.hi.length ≤ 1000000) (hz : M.subs.length ≤ 1000000 ∧ M.ents.length ≤ 1000000 ∧ M.sigs.length ≤ 1000000 ∧ M.data.length ≤ 1000000) (htab : Lib.TabIs Tryz.prog w "internal/strconv.uint64pow10" .u64 Lib.pow10Tab) (hw0 : Tl.word M.kind = []) (h16 : 16 ≤ M.kind) (hw : Tl.word (M.kind - 16) ≠ []) :
  Calls Tryz.prog 6 #[.agg M.cells] w fun e w' => e = .returned (.string ⟨(Tl.text M.x).toArray⟩) ∧ Below w.heap.size w w' := by
 have hka := hM.ok.klo
 have hkb := hM.ok.khi
 have hs := hM.ok.session
 have hq := hM.ok.seq
 have hs64 : M.session < 18446744073709551616 := by omega
 have hq64 : M.seq < 18446744073709551616 := by omega
 have LD1 := Lib.hid (Tl.dec_len M.session hs64)
 have LD2 := Lib.hid (Tl.dec_len M.seq hq64)
 have HNL := Lib.hid (Tl.num_len M hM.ok)
 have HAL := Lib.hid (fun k => Tl.asked_le k M hM.ok hlo hhi)
 have HTL := Lib.hid (fun k => Tl.told_le k M hM.ok hz)
 have hi := Lib.hid (WmV.info hM.ok)
 obtain ⟨W0, hW0⟩ : ∃ W0, W0 = w.alloc (.cells M.cells 31) := ⟨_, rfl⟩
 have hx0 : Ext w W0 := by rw [hW0]; exact Ext.alloc _ _
 have G0 : W0.heap[w.heap.size]? = some (.cells M.cells 31 (0, 0)) := by rw [hW0]; exact heap_alloc_new w _
 have c0 : W0.cell? ⟨w.heap.size, 0, none⟩ = _ := (cell_of_row _ _ 0 _ _ _ G0).trans (WmV.at0 M)
 have c1 : W0.cell? ⟨w.heap.size, 1, none⟩ = _ := (cell_of_row _ _ 1 _ _ _ G0).trans (WmV.at1 M)
 have c2 : W0.cell? ⟨w.heap.size, 2, none⟩ = _ := (cell_of_row _ _ 2 _ _ _ G0).trans (WmV.at2 M)
 have T0 := Lib.hid (tab_belowT htab hx0)
 have X0 := Lib.hid hx0
 have HA := Lib.hid (fun k W (x : Ext W0 W) => wasked_any k M W (hM.ext (X0.out.tr x)) hlo hhi (tab_belowT T0.out x))
 have HT := Lib.hid (fun k W (x : Ext W0 W) => wtold_any k M W (hM.ext (X0.out.tr x)) hz (tab_belowT T0.out x))
 have HG := Lib.hid (fun W (x : Ext W0 W) => (x.block _ (lt_of_heap G0)).trans G0)
 obtain ⟨P0, hP0⟩ : ∃ P, P = M.cells := ⟨_, rfl⟩
 rw [← hP0] at hW0 HA HT HG hi ⊢
 have HW0 := Lib.hid hW0
 clear hW0 hx0 G0 hP0 htab hM
 have HQ : Hid (∀ u, Calls Tryz.prog 13 #[.int .i64 u] W0 fun e w' => e = .returned (.string ⟨(Tl.word u).toArray⟩) ∧ W0 = w') := Lib.hid fun u => wword_any u W0
 have hk : Tl.kind M.kind = (M.kind - 16, true) := if_pos ⟨hw0, h16⟩
 have HX := Lib.hid (show Tl.text M.x = Lib.join ([Tl.word (M.kind - 16) ++ [33], Tl.num M.x] ++ Tl.asked (M.kind - 16) M.x ++ Tl.told (M.kind - 16) M.x) [32] by
  unfold Tl.text; rw [show M.x.kind = M.kind from rfl, hk]; rw [if_neg hw, if_pos rfl]; rfl)
 have he : (Tl.word (M.kind - 16) == ([] : List UInt8)) = false := by rw [beq_eq_false_iff_ne]; exact hw
 have HC0 := Lib.hid (HQ.out M.kind)
 rw [hw0] at HC0
 have HC := Lib.hid (HQ.out (M.kind - 16))
 have hwl := Tl.word_len (M.kind - 16)
 have hal := Tl.asked_len (M.kind - 16) M.x
 have htl := Tl.told_len (M.kind - 16) M.x
 have HLJ := Lib.hid (show (Lib.join ([Tl.word (M.kind - 16) ++ [33], Tl.num M.x] ++ Tl.asked (M.kind - 16) M.x ++ Tl.told (M.kind - 16) M.x) [32]).length ≤ 140737488355328 from
  Nat.le_trans (Tl.join_le 2000000 _ (by
   intro s hs
   simp only [List.mem_append, List.mem_cons, List.not_mem_nil, or_false] at hs
   rcases hs with ((rfl | rfl) | h) | h
   ·
    simp only [List.length_append, List.length_singleton]; omega
   ·
    have := HNL.out; omega
   ·
    exact HAL.out _ _ h
   ·
    exact HTL.out _ _ h)) (by simp only [List.length_append, List.length_cons, List.length_nil]; omega))
 obtain ⟨d, hd⟩ : ∃ d, d = Tl.word (M.kind - 16) := ⟨_, rfl⟩
 rw [← hd] at HX HC he hwl HLJ
 clear hd hk hw hw0 HQ HAL HTL
 go_enter Tryz.func6, Tryz.ntmps6
 go_wp2_with (first | (rw [← HW0.out]; refine Hid.out ?_))
 refine Lib.hid ?_
 go_wp2_with (go_at_call 13; refine HC0.out.mono ?_; rintro e w' ⟨rfl, rfl⟩; refine Hid.out ?_)
 refine Lib.hid ?_
 go_wp2_with (first | (go_at_call 13; refine HC.out.mono ?_; rintro e w' ⟨rfl, rfl⟩) | (refine wpList_runT (by rfl) (.bool false) _ ((ex_eqlS (p := d) (q := []) rfl rfl rfl).trans (by rw [he])) ?_) | (refine wpList_runT (by rfl) (.bool true) _ (ex_eqlS (p := []) (q := []) rfl rfl rfl) ?_))
 refine rg_start (by kernel_rfl) ?_
 refine gD 0 rfl ?_
 simp only [sP]
 refine gS 1 rfl ⟨_, fun w' hx => by have hcx := hx.load c1; (go_simp <;> with_reducible rfl), ?_⟩
 simp only [sP]
 refine gS 2 rfl ⟨.int .u64 (M.session : Int), fun w' hx => by (go_simp <;> (rw [IntKind.wrap_u64]; omega)), ?_⟩
 simp only [sP]
 refine gD 5 rfl ?_
 simp only [sP]
 refine gS 6 rfl ⟨_, fun w' hx => by have hcx := hx.load c2; (go_simp <;> with_reducible rfl), ?_⟩
 simp only [sP]
 refine gS 7 rfl ⟨.int .u64 (M.seq : Int), fun w' hx => by (go_simp <;> (rw [IntKind.wrap_u64]; omega)), ?_⟩
 simp only [sP]
 refine rg_call 3 (fmtU_any M.session hs64 _ (tab_belowT T0.out (Ext.drew W0))) rfl (by kernel_rfl) (by rfl) (by go_simp) ?_
 rintro e w3 ⟨rfl, hx3⟩
 refine ⟨_, rfl, hx3, ?_⟩
 simp only [sP]
 refine gS 4 rfl ⟨.string ⟨((Lib.decDigits M.session) ++ [47]).toArray⟩, fun w' hx => ex_addS (p := (Lib.decDigits M.session)) (q := [47]) rfl rfl rfl (by have := LD1.out; have := LD2.out; simp only [List.length_append, List.length_singleton] <;> omega), ?_⟩
 simp only [sP]
 refine rg_call 8 (fmtU_any M.seq hq64 _ (tab_belowT (tab_belowT T0.out (Ext.drew W0)) hx3)) rfl (by kernel_rfl) (by rfl) (by go_simp) ?_
 rintro e w8 ⟨rfl, hx8⟩
 refine ⟨_, rfl, hx8, ?_⟩
 simp only [sP]
 refine gS 9 rfl ⟨.string ⟨(Tl.num M.x).toArray⟩, fun w' hx => ex_addS (p := Lib.decDigits M.session ++ [47]) (q := Lib.decDigits M.seq) rfl rfl rfl (by have := LD1.out; have := LD2.out; simp only [List.length_append, List.length_singleton] <;> omega), ?_⟩
 simp only [sP]
 refine gD 10 rfl ?_
 simp only [sP]
 refine rg_done (by kernel_rfl) ?_
 have hx38 := Lib.hid ((Ext.drew W0).tr (Ext.tr hx3 hx8))
 have hb0 := Lib.hid (show w.heap.size ≤ w8.heap.size from Nat.le_trans X0.out.size hx38.out.size)
 clear hx3 hx8
 go_wp2_with (first | (refine wpList_runT (by rfl) (.string ⟨(d ++ [33]).toArray⟩) _ (ex_addS (q := [33]) rfl rfl rfl (by simp only [List.length_singleton]; omega)) ?_) | (refine wpList_load_rowG (by rfl) 31 (.tmp 1) rfl w.heap.size rfl 31 P0 (0, 0) _ (HG.out _ (hx38.out.tr (Ext.alloc _ _))) Tryz.underlying31 rfl hi.out ?_) | (go_at_call 15; go_loud (refine (HA.out _ _ (hx38.out.tr (Ext.alloc _ _))).mono ?_; rintro e w9 ⟨A9, c9, rfl, hr9, hb9⟩; have ho9 := Lib.hid (Own.below (Own.new w8 9 1 #[.string ⟨((d ++ [33] : List UInt8)).toArray⟩, .string ⟨(Tl.num M.x).toArray⟩] 2 2 (Nat.le_refl _) (by decide) (by simp)) hb9); have HB9 := Lib.hid ((Ext.alloc w8 (.cells #[.string ⟨((d ++ [33] : List UInt8)).toArray⟩, .string ⟨(Tl.num M.x).toArray⟩] 9)).tr hb9); clear hb9)) | (at_builtin; go_loud (refine wpList_app (by rfl) (.tmp 37) (.tmp 40) 50 rfl elemTx w8.heap.size (some ⟨w8.heap.size, 0, none⟩) 2 2 (svT [d ++ [33], Tl.num M.x]) rfl A9 (Tl.asked (M.kind - 16) M.x).length c9 (svT (Tl.asked (M.kind - 16) M.x)) rfl (2 + (Tl.asked (M.kind - 16) M.x).length) rfl (svT ([d ++ [33], Tl.num M.x] ++ Tl.asked (M.kind - 16) M.x)) (svT_app _ _) ho9.out hr9 (svT_one _) (by omega) (by omega) HB9.out.size ?_; intro A10 c10 w10 ho10 hg10 hr10; have HB10 := Lib.hid (below_app HB9.out ho9.out hg10 HB9.out.size); have HO10 := Lib.hid ho10; clear hg10 hr10 hr9 ho10; refine Hid.out ?_)))
 refine Lib.hid ?_
 go_wp2_with (first | (refine wpList_runT (by rfl) (.bool true) _ (ex_eqlS (p := [33]) (q := [33]) rfl rfl rfl) ?_) | (refine wpList_load_rowG (by rfl) 31 (.tmp 1) rfl w.heap.size rfl 31 P0 (0, 0) _ (HG.out _ (hx38.out.tr HB10.out)) Tryz.underlying31 rfl hi.out ?_) | (go_at_call 16; go_loud (refine (HT.out _ _ (hx38.out.tr HB10.out)).mono ?_; rintro e w11 ⟨A11, c11, rfl, hr11, hb11⟩; have ho11 := Lib.hid (Own.below HO10.out hb11); have HB11 := Lib.hid (Ext.tr HB10.out hb11); clear hb11)) | (at_builtin; go_loud (refine wpList_app (by rfl) (.tmp 44) (.tmp 47) 50 rfl elemTx w8.heap.size A10 (2 + (Tl.asked (M.kind - 16) M.x).length) c10 (svT ([d ++ [33], Tl.num M.x] ++ Tl.asked (M.kind - 16) M.x)) rfl A11 (Tl.told (M.kind - 16) M.x).length c11 (svT (Tl.told (M.kind - 16) M.x)) rfl (2 + (Tl.asked (M.kind - 16) M.x).length + (Tl.told (M.kind - 16) M.x).length) rfl (svT ([d ++ [33], Tl.num M.x] ++ Tl.asked (M.kind - 16) M.x ++ Tl.told (M.kind - 16) M.x)) (svT_app _ _) ho11.out hr11 (svT_one _) (by omega) (by omega) HB11.out.size ?_; intro A12 c12 w12 ho12 hg12 hr12; have HB12 := Lib.hid (below_app HB11.out ho11.out hg12 HB11.out.size); have HO12 := Lib.hid ho12; clear hg12 hr12 hr11 ho12; refine Hid.out ?_)))
 refine Lib.hid ?_
 go_wp2_with fail
 refine (join_own ([d ++ [33], Tl.num M.x] ++ Tl.asked (M.kind - 16) M.x ++ Tl.told (M.kind - 16) M.x) (by simp <;> omega) HO12.out (by simp) HLJ.out (by simp <;> omega)).mono ?_
 rintro e w15 ⟨rfl, hb15⟩
 have HB15 := Lib.hid hb15
 clear hb15
 go_wp2_with fail
 go_ret
 exact ⟨by rw [HX.out]; rfl, (X0.out.tr (hx38.out.tr HB12.out)).tr HB15.out⟩
set_option maxRecDepth 100000 in
set_option maxHeartbeats 4000000 in
theorem wtext_no (M : WmV) (w : World) (hM : M.In w) (hlo : M.lo.length ≤ 1000000) (hhi : M.hi.length ≤ 1000000) (hz : M.subs.length ≤ 1000000 ∧ M.ents.length ≤ 1000000 ∧ M.sigs.length ≤ 1000000 ∧ M.data.length ≤ 1000000) (htab : Lib.TabIs Tryz.prog w "internal/strconv.uint64pow10" .u64 Lib.pow10Tab) (hw0 : Tl.word M.kind = []) (h16 : 16 ≤ M.kind → Tl.word (M.kind - 16) = []) :
  Calls Tryz.prog 6 #[.agg M.cells] w fun e w' => e = .returned (.string ⟨(Tl.text M.x).toArray⟩) ∧ Below w.heap.size w w' := by
 have hka := hM.ok.klo
 have hkb := hM.ok.khi
 have hs := hM.ok.session
 have hq := hM.ok.seq
 have hs64 : M.session < 18446744073709551616 := by omega
 have hq64 : M.seq < 18446744073709551616 := by omega
 have LD1 := Lib.hid (Tl.dec_len M.session hs64)
 have LD2 := Lib.hid (Tl.dec_len M.seq hq64)
 have HNL := Lib.hid (Tl.num_len M hM.ok)
 have HAL := Lib.hid (fun k => Tl.asked_le k M hM.ok hlo hhi)
 have HTL := Lib.hid (fun k => Tl.told_le k M hM.ok hz)
 have hi := Lib.hid (WmV.info hM.ok)
 obtain ⟨W0, hW0⟩ : ∃ W0, W0 = w.alloc (.cells M.cells 31) := ⟨_, rfl⟩
 have hx0 : Ext w W0 := by rw [hW0]; exact Ext.alloc _ _
 have G0 : W0.heap[w.heap.size]? = some (.cells M.cells 31 (0, 0)) := by rw [hW0]; exact heap_alloc_new w _
 have c0 : W0.cell? ⟨w.heap.size, 0, none⟩ = _ := (cell_of_row _ _ 0 _ _ _ G0).trans (WmV.at0 M)
 have c1 : W0.cell? ⟨w.heap.size, 1, none⟩ = _ := (cell_of_row _ _ 1 _ _ _ G0).trans (WmV.at1 M)
 have c2 : W0.cell? ⟨w.heap.size, 2, none⟩ = _ := (cell_of_row _ _ 2 _ _ _ G0).trans (WmV.at2 M)
 have T0 := Lib.hid (tab_belowT htab hx0)
 have X0 := Lib.hid hx0
 have HA := Lib.hid (fun k W (x : Ext W0 W) => wasked_any k M W (hM.ext (X0.out.tr x)) hlo hhi (tab_belowT T0.out x))
 have HT := Lib.hid (fun k W (x : Ext W0 W) => wtold_any k M W (hM.ext (X0.out.tr x)) hz (tab_belowT T0.out x))
 have HG := Lib.hid (fun W (x : Ext W0 W) => (x.block _ (lt_of_heap G0)).trans G0)
 obtain ⟨P0, hP0⟩ : ∃ P, P = M.cells := ⟨_, rfl⟩
 rw [← hP0] at hW0 HA HT HG hi ⊢
 have HW0 := Lib.hid hW0
 clear hW0 hx0 G0 hP0 htab hM
 have HQ : Hid (∀ u, Calls Tryz.prog 13 #[.int .i64 u] W0 fun e w' => e = .returned (.string ⟨(Tl.word u).toArray⟩) ∧ W0 = w') := Lib.hid fun u => wword_any u W0
 have HC0 := Lib.hid (HQ.out M.kind)
 rw [hw0] at HC0
 by_cases k16 : 16 ≤ M.kind
 ·
  have hk : Tl.kind M.kind = (M.kind - 16, true) := if_pos ⟨hw0, k16⟩
  have HX := Lib.hid (show Tl.text M.x = [63] by unfold Tl.text; rw [show M.x.kind = M.kind from rfl, hk]; exact if_pos (h16 k16))
  have HC := Lib.hid (HQ.out (M.kind - 16))
  rw [h16 k16] at HC
  clear hk hw0 HQ HAL HTL h16
  go_enter Tryz.func6, Tryz.ntmps6
  go_wp2_with (first | (rw [← HW0.out]; refine Hid.out ?_))
  refine Lib.hid ?_
  go_wp2_with (go_at_call 13; refine HC0.out.mono ?_; rintro e w' ⟨rfl, rfl⟩; refine Hid.out ?_)
  refine Lib.hid ?_
  go_wp2_with (first | (go_at_call 13; refine HC.out.mono ?_; rintro e w' ⟨rfl, rfl⟩) | (refine wpList_runT (by rfl) (.bool true) _ (ex_eqlS (p := []) (q := []) rfl rfl rfl) ?_))
  go_ret
  exact ⟨by rw [HX.out]; rfl, X0.out⟩
 ·
  have hk : Tl.kind M.kind = (M.kind, false) := if_neg (fun h => k16 h.2)
  have HX := Lib.hid (show Tl.text M.x = [63] by unfold Tl.text; rw [show M.x.kind = M.kind from rfl, hk]; exact if_pos hw0)
  clear hk hw0 HQ HAL HTL h16
  go_enter Tryz.func6, Tryz.ntmps6
  go_wp2_with (first | (rw [← HW0.out]; refine Hid.out ?_))
  refine Lib.hid ?_
  go_wp2_with (first | (go_at_call 13; refine HC0.out.mono ?_; rintro e w' ⟨rfl, rfl⟩) | (refine wpList_runT (by rfl) (.bool true) _ (ex_eqlS (p := []) (q := []) rfl rfl rfl) ?_))
  go_ret
  exact ⟨by rw [HX.out]; rfl, X0.out⟩
theorem wtext_any (M : WmV) (w : World) (hM : M.In w) (hlo : M.lo.length ≤ 1000000) (hhi : M.hi.length ≤ 1000000) (hz : M.subs.length ≤ 1000000 ∧ M.ents.length ≤ 1000000 ∧ M.sigs.length ≤ 1000000 ∧ M.data.length ≤ 1000000) (htab : Lib.TabIs Tryz.prog w "internal/strconv.uint64pow10" .u64 Lib.pow10Tab) :
  Calls Tryz.prog 6 #[.agg M.cells] w fun e w' => e = .returned (.string ⟨(Tl.text M.x).toArray⟩) ∧ Below w.heap.size w w' := by
 by_cases h0 : Tl.word M.kind = []
 ·
  by_cases h1 : 16 ≤ M.kind ∧ Tl.word (M.kind - 16) ≠ []
  ·
   exact wtext_tell M w hM hlo hhi hz htab h0 h1.1 h1.2
  ·
   exact wtext_no M w hM hlo hhi hz htab h0 (fun h => Classical.byContradiction fun e => h1 ⟨h, e⟩)
 ·
  exact wtext_ask M w hM hlo hhi hz htab h0
end Go.Proofs.YtjholekgdnhpkaaGreatDoor
