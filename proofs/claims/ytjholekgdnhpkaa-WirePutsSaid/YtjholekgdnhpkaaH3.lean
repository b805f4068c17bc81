
/- Texts laid together by wip/tools/lay2.py: EntPut Compare EntIn EntBetween ShaWord Mem2 Mem3 EntDigest Part Equal ArrEq. -/

import Derived.Test.YtjholekgdnhpkaaProg

import Derived.Test.YtjholekgdnhpkaaH1

import Derived.Test.YtjholekgdnhpkaaH2

import Derived.Lib.Bytealg

import Derived.Laws.Externs

import Derived.WalkLawsBesides

import Derived.Laws.BitsAllLaws

import Derived.Laws.CopyRow

import Derived.MapKept

import Derived.Laws.StructEq

set_option linter.unusedVariables false

set_option linter.unusedSimpArgs false

set_option linter.unusedSectionVars false

/- Contracts: an entry's bytes, entries' bytes (entry.Put, PutAll, the document's). Printed by wip/tools/gen_ent17.py. -/

namespace Go.Proofs.Ytjholekgdnhpkaa

open Go.RowKit

attribute [local go_sem] Oper.semAt_some

theorem einfo (e : EnV) : (Try.prog.info? 50).map (·.size) = some e.cells.size := by
 rw [show e.cells.size = 2 from rfl]; kernel_rfl
theorem elemE : ElemT Try.prog 28 50 2 48 := ElemT.mk' Try.underlying28 (z := .agg #[.slice none 0 0, .slice none 0 0]) (by kernel_rfl) (by rfl) (by decide)
def Ent.put (e : Ent) : List UInt8 := Vint.putBytes e.key ++ Vint.putBytes e.val
def Ent.putAll (l : List Ent) : List UInt8 := l.flatMap Ent.put
theorem Ent.putAll_snoc (l : List Ent) (k : Nat) (h : k < l.length) : Ent.putAll (l.take (k + 1)) = Ent.putAll (l.take k) ++ l[k].put := by
 unfold Ent.putAll
 rw [List.take_succ_eq_append_getElem h, List.flatMap_append]
 simp
def Ent.size (e : Ent) : Nat := e.key.length + e.val.length
def Ent.total (l : List Ent) : Nat := (l.map Ent.size).foldl (· + ·) 0
theorem foldl_add (l : List Nat) : ∀ n, l.foldl (· + ·) n = n + l.foldl (· + ·) 0 := by
 induction l with
 | nil => intro n; rfl
 | cons x l ih => intro n; simp only [List.foldl_cons]; rw [ih (n + x), ih (0 + x)]; omega
theorem Ent.total_snoc (l : List Ent) (k : Nat) (h : k < l.length) : Ent.total (l.take (k + 1)) = Ent.total (l.take k) + l[k].size := by
 unfold Ent.total
 rw [List.take_succ_eq_append_getElem h, List.map_append, List.foldl_append]
 rfl
theorem Ent.total_cons (e : Ent) (l : List Ent) : Ent.total (e :: l) = e.size + Ent.total l := by
 unfold Ent.total
 simp only [List.map_cons, List.foldl_cons]
 rw [foldl_add]; omega
theorem Ent.one_total (l : List Ent) (k : Nat) (h : k < l.length) : l[k].size ≤ Ent.total l := by
 induction l generalizing k with
 | nil => simp at h
 | cons e l ih =>
  rw [Ent.total_cons]
  cases k with
  | zero => simp
  | succ k => have := ih k (by simpa using h); simp; omega
theorem Ent.put_len (e : Ent) : e.put.length ≤ e.size + 20 := by
 have h1 := (Vint.put_len e.key.length).2
 have h2 := (Vint.put_len e.val.length).2
 simp only [Ent.put, Ent.size, Vint.putBytes, List.length_append]
 omega
theorem Ent.putAll_len (l : List Ent) : (Ent.putAll l).length ≤ Ent.total l + 20 * l.length := by
 induction l with
 | nil => simp [Ent.putAll, Ent.total]
 | cons e l ih =>
  have h1 := e.put_len
  have h2 := Ent.total_cons e l
  show (e.put ++ Ent.putAll l).length ≤ _
  rw [List.length_append, h2, List.length_cons]
  omega
theorem Ent.putAll_take_le (l : List Ent) (k : Nat) : (Ent.putAll (l.take k)).length ≤ (Ent.putAll l).length := by
 conv => rhs; rw [← List.take_append_drop k l]
 unfold Ent.putAll
 rw [List.flatMap_append, List.length_append]
 omega

set_option maxRecDepth 100000 in
set_option maxHeartbeats 1000000 in
theorem eput_any (e : EnV) (w : World) (hin : e.In w) (h1 : e.x.key.length ≤ 1000000) (h2 : e.x.val.length ≤ 1000000) :
  Calls Try.prog 76 #[.agg e.cells] w fun e' w' => ∃ A' c', e' = .returned (.slice A' e.x.put.length c') ∧ Own w' w.heap.size 5 1 A' e.x.put.length c' (bvs e.x.put) ∧ Below w.heap.size w w' := by
 have hE0 := Ext.alloc w (.cells e.cells 50)
 have g0 := heap_alloc_new w (.cells e.cells 50)
 have hc0 : (w.alloc (.cells e.cells 50)).drew.cell? ⟨w.heap.size, 0, none⟩ = some (.slice e.ka e.x.key.length e.kc) := cell_of_row _ _ 0 _ _ _ g0
 have hc1 : (w.alloc (.cells e.cells 50)).drew.cell? ⟨w.heap.size, 1, none⟩ = some (.slice e.va e.x.val.length e.vc) := cell_of_row _ _ 1 _ _ _ g0
 have hE1 := Ext.tr hE0 (Ext.drew (w.alloc (.cells e.cells 50)))
 obtain ⟨D, hD⟩ : ∃ D, D = e.x.put := ⟨_, rfl⟩
 have HD1 : Hid (D.length = (Vint.putBytes e.x.key).length + (Vint.putBytes e.x.val).length) := by show _ = _; rw [hD]; simp [Ent.put]
 have HD2 : Hid (bvs D = bvs (Vint.putBytes e.x.key) ++ bvs (Vint.putBytes e.x.val)) := by show _ = _; rw [hD, ← bvs_app]; rfl
 have HDl : Hid (D.length ≤ 3000000) := by show _ ≤ _; rw [hD]; have := e.x.put_len; unfold Ent.size at this; omega
 rw [← hD]
 clear hD g0
 go_enter Try.func76, Try.ntmps76
 go_wp2_with fail
 refine rg_start (by kernel_rfl) ?_
 refine rg_take 0 rfl (by kernel_rfl) (by kernel_rfl) (by kernel_rfl) (fun _ _ _ _ h => h) (by rfl) ⟨_, fun w' hx => by (go_simp <;> with_reducible rfl), ?_⟩
 simp only [Act.put, sA, sB, sC]
 refine rg_take 1 rfl (by kernel_rfl) (by kernel_rfl) (by kernel_rfl) (fun _ _ _ _ h => h) (by rfl) ⟨_, fun w' hx => by have hcx := hx.load hc0; (go_simp <;> with_reducible rfl), ?_⟩
 simp only [Act.put, sA, sB, sC]
 refine rg_take 3 rfl (by kernel_rfl) (by kernel_rfl) (by kernel_rfl) (fun _ _ _ _ h => h) (by rfl) ⟨_, fun w' hx => by (go_simp <;> with_reducible rfl), ?_⟩
 simp only [Act.put, sA, sB, sC]
 refine rg_take 4 rfl (by kernel_rfl) (by kernel_rfl) (by kernel_rfl) (fun _ _ _ _ h => h) (by rfl) ⟨_, fun w' hx => by have hcx := hx.load hc1; (go_simp <;> with_reducible rfl), ?_⟩
 simp only [Act.put, sA, sB, sC]
 refine rg_call 2 (putbytes_any e.ka e.x.key e.kc _ (hin.kr.below hE1) h1) rfl (by kernel_rfl) (by rfl) (by go_simp) ?_
 rintro e2 w2 ⟨A2, c2, rfl, ho2, hb2⟩
 refine ⟨_, rfl, hb2, ?_⟩
 simp only [Act.put, sA, sB, sC]
 refine rg_call 5 (putbytes_any e.va e.x.val e.vc _ (hin.vr.below (Ext.tr hE1 hb2)) h2) rfl (by kernel_rfl) (by rfl) (by go_simp) ?_
 rintro e3 w3 ⟨A3, c3, rfl, ho3, hb3⟩
 refine ⟨_, rfl, hb3, ?_⟩
 simp only [Act.put, sA, sB, sC]
 have hE3 := Ext.tr hE1 (Ext.tr hb2 hb3)
 have ho23 := (ho2.below hb3).mono hE1.size
 have hr3 := ho3.rd'
 have hsz := hE3.size
 refine rg_last 6 rfl (by kernel_rfl) (by kernel_rfl) (by rfl) fun K hK => wp_app (.tmp 5) (.tmp 8) 23 rfl elemB w.heap.size A2 (Vint.putBytes e.x.key).length c2 _ rfl A3 (Vint.putBytes e.x.val).length c3 (bvs (Vint.putBytes e.x.val)) rfl D.length HD1.out (bvs D) HD2.out ho23 hr3 (bvs_one _) (by have := HDl.out; omega) (by have := HDl.out; omega) hsz fun A4 c4 w4 ho4 hg4 hr4 => hK _ _ ?_
 simp only [Act.put, sA, sB, sC]
 refine rg_take 7 rfl (by kernel_rfl) (by kernel_rfl) (by kernel_rfl) (fun _ _ _ _ h => h) (by rfl) ⟨_, fun w' hx => by (go_simp <;> with_reducible rfl), ?_⟩
 simp only [Act.put, sA, sB, sC]
 refine rg_done (by kernel_rfl) ?_
 go_wp2
 go_ret
 exact ⟨A4, c4, rfl, ho4, below_app hE3 ho23 hg4 hsz⟩

set_option maxRecDepth 100000 in
set_option maxHeartbeats 1000000 in
theorem ref_eput (e : EnV) (w : World) (hin : e.In w) (h1 : e.x.key.length ≤ 1000000) (h2 : e.x.val.length ≤ 1000000) :
  Calls Try.prog 72 #[.agg e.cells] w fun e' w' => ∃ A' c', e' = .returned (.slice A' e.x.put.length c') ∧ Own w' w.heap.size 5 1 A' e.x.put.length c' (bvs e.x.put) ∧ Below w.heap.size w w' := by
 have hE0 := Ext.alloc w (.cells e.cells 50)
 have g0 := heap_alloc_new w (.cells e.cells 50)
 have hc0 : (w.alloc (.cells e.cells 50)).drew.cell? ⟨w.heap.size, 0, none⟩ = some (.slice e.ka e.x.key.length e.kc) := cell_of_row _ _ 0 _ _ _ g0
 have hc1 : (w.alloc (.cells e.cells 50)).drew.cell? ⟨w.heap.size, 1, none⟩ = some (.slice e.va e.x.val.length e.vc) := cell_of_row _ _ 1 _ _ _ g0
 have hE1 := Ext.tr hE0 (Ext.drew (w.alloc (.cells e.cells 50)))
 obtain ⟨D, hD⟩ : ∃ D, D = e.x.put := ⟨_, rfl⟩
 have HD1 : Hid (D.length = (Vint.putBytes e.x.key).length + (Vint.putBytes e.x.val).length) := by show _ = _; rw [hD]; simp [Ent.put]
 have HD2 : Hid (bvs D = bvs (Vint.putBytes e.x.key) ++ bvs (Vint.putBytes e.x.val)) := by show _ = _; rw [hD, ← bvs_app]; rfl
 have HDl : Hid (D.length ≤ 3000000) := by show _ ≤ _; rw [hD]; have := e.x.put_len; unfold Ent.size at this; omega
 rw [← hD]
 clear hD g0
 go_enter Try.func72, Try.ntmps72
 go_wp2_with fail
 refine rg_start (by kernel_rfl) ?_
 refine rg_take 0 rfl (by kernel_rfl) (by kernel_rfl) (by kernel_rfl) (fun _ _ _ _ h => h) (by rfl) ⟨_, fun w' hx => by (go_simp <;> with_reducible rfl), ?_⟩
 simp only [Act.put, sA, sB, sC]
 refine rg_take 1 rfl (by kernel_rfl) (by kernel_rfl) (by kernel_rfl) (fun _ _ _ _ h => h) (by rfl) ⟨_, fun w' hx => by have hcx := hx.load hc0; (go_simp <;> with_reducible rfl), ?_⟩
 simp only [Act.put, sA, sB, sC]
 refine rg_take 3 rfl (by kernel_rfl) (by kernel_rfl) (by kernel_rfl) (fun _ _ _ _ h => h) (by rfl) ⟨_, fun w' hx => by (go_simp <;> with_reducible rfl), ?_⟩
 simp only [Act.put, sA, sB, sC]
 refine rg_take 4 rfl (by kernel_rfl) (by kernel_rfl) (by kernel_rfl) (fun _ _ _ _ h => h) (by rfl) ⟨_, fun w' hx => by have hcx := hx.load hc1; (go_simp <;> with_reducible rfl), ?_⟩
 simp only [Act.put, sA, sB, sC]
 refine rg_call 2 (ref_putbytes01 e.ka e.x.key e.kc _ (hin.kr.below hE1) h1) rfl (by kernel_rfl) (by rfl) (by go_simp) ?_
 rintro e2 w2 ⟨A2, c2, rfl, ho2, hb2⟩
 refine ⟨_, rfl, hb2, ?_⟩
 simp only [Act.put, sA, sB, sC]
 refine rg_call 5 (ref_putbytes01 e.va e.x.val e.vc _ (hin.vr.below (Ext.tr hE1 hb2)) h2) rfl (by kernel_rfl) (by rfl) (by go_simp) ?_
 rintro e3 w3 ⟨A3, c3, rfl, ho3, hb3⟩
 refine ⟨_, rfl, hb3, ?_⟩
 simp only [Act.put, sA, sB, sC]
 have hE3 := Ext.tr hE1 (Ext.tr hb2 hb3)
 have ho23 := (ho2.below hb3).mono hE1.size
 have hr3 := ho3.rd'
 have hsz := hE3.size
 refine rg_last 6 rfl (by kernel_rfl) (by kernel_rfl) (by rfl) fun K hK => wp_app (.tmp 5) (.tmp 8) 23 rfl elemB w.heap.size A2 (Vint.putBytes e.x.key).length c2 _ rfl A3 (Vint.putBytes e.x.val).length c3 (bvs (Vint.putBytes e.x.val)) rfl D.length HD1.out (bvs D) HD2.out ho23 hr3 (bvs_one _) (by have := HDl.out; omega) (by have := HDl.out; omega) hsz fun A4 c4 w4 ho4 hg4 hr4 => hK _ _ ?_
 simp only [Act.put, sA, sB, sC]
 refine rg_take 7 rfl (by kernel_rfl) (by kernel_rfl) (by kernel_rfl) (fun _ _ _ _ h => h) (by rfl) ⟨_, fun w' hx => by (go_simp <;> with_reducible rfl), ?_⟩
 simp only [Act.put, sA, sB, sC]
 refine rg_done (by kernel_rfl) ?_
 go_wp2
 go_ret
 exact ⟨A4, c4, rfl, ho4, below_app hE3 ho23 hg4 hsz⟩

set_option maxRecDepth 100000 in
set_option maxHeartbeats 1000000 in
theorem eputall_any (A : Option Addr) (l : List EnV) (cap : Nat) (w : World) (hl : RdE w A l) (hc : l.length ≤ 1000000) (ht : Ent.total (l.map EnV.x) ≤ 1000000) :
  Calls Try.prog 57 #[.slice A l.length cap] w fun e' w' => ∃ A' c', e' = .returned (.slice A' (Ent.putAll (l.map EnV.x)).length c') ∧ Own w' w.heap.size 5 1 A' (Ent.putAll (l.map EnV.x)).length c' (bvs (Ent.putAll (l.map EnV.x))) ∧ Below w.heap.size w w' := by
 obtain ⟨m, hm⟩ : ∃ m, m = l.map EnV.x := ⟨_, rfl⟩
 have hml : m.length = l.length := by rw [hm]; simp
 have htot := Ent.putAll_len m
 rw [← hm] at ht ⊢
 have HM := Lib.hid hm
 have Hml := Lib.hid hml
 have htot2 : (Ent.putAll m).length ≤ 30000000 := by omega
 have Htot := Lib.hid htot2
 have Ht := Lib.hid ht
 clear hm hml htot htot2 ht
 go_enter Try.func57, Try.ntmps57
 go_wp2
 go_loopw [3, 8] (fun v i wr => ∃ (k : Nat) (A' : Option Addr) (c' : Nat), k ≤ l.length ∧ i = .int .i64 k ∧ v = .slice A' (Ent.putAll (m.take k)).length c' ∧ Own wr w.heap.size 5 1 A' (Ent.putAll (m.take k)).length c' (bvs (Ent.putAll (m.take k))) ∧ Below w.heap.size w wr) (fun _ i _ => l.length - (intOf i).toNat)
 case atStart => exact ⟨0, none, 0, by omega, rfl, rfl, Own.none_ _ _ _ _ _, Below.refl _ _⟩
 case round =>
  obtain ⟨k, A', c', hk, rfl, rfl, hown, hbw⟩ := hrel
  by_cases h : k < l.length
  ·
   obtain ⟨ad, rfl, hcell, hin⟩ := (hl.below hbw).at_ h
   have hkm : k < m.length := by rw [Hml.out]; exact h
   have hx : Hid (m[k] = l[k].x) := by show _ = _; have := HM.out; subst this; simp
   have hs := Lib.hid (Ent.putAll_snoc m k hkm)
   have hle := Ent.one_total m k hkm
   rw [hx.out] at hs hle
   have hle2 := Ent.putAll_take_le m (k + 1)
   rw [hs.out, List.length_append] at hle2
   have htt := Htot.out
   have ht0 := Ht.out
   have hbnd : (Ent.putAll (m.take k)).length + l[k].x.put.length ≤ 30000000 := by omega
   have hk1 : l[k].x.key.length ≤ 1000000 := by unfold Ent.size at hle; omega
   have hk2 : l[k].x.val.length ≤ 1000000 := by unfold Ent.size at hle; omega
   clear hle hle2 htt ht0
   have hsnl : Hid ((Ent.putAll (m.take (k + 1))).length = (Ent.putAll (m.take k)).length + l[k].x.put.length) := by show _ = _; rw [hs.out, List.length_append]
   have hsnb : Hid (bvs (Ent.putAll (m.take (k + 1))) = bvs (Ent.putAll (m.take k)) ++ bvs l[k].x.put) := by show _ = _; rw [hs.out, bvs_app]
   obtain ⟨d, hd⟩ : ∃ d, d = Ent.putAll (m.take k) := ⟨_, rfl⟩
   obtain ⟨d2, hd2⟩ : ∃ d2, d2 = Ent.putAll (m.take (k + 1)) := ⟨_, rfl⟩
   rw [← hd, ← hd2] at hsnl hsnb
   rw [← hd] at hown hbnd ⊢
   clear hs hd
   have hcx : ∀ j u, (l[k].cells)[j]? = some u → wr.cell? ((ad.add (k * 2)).add j) = some u := fun j u hj => by rw [add_add']; exact hcell j u hj
   have Hcx := Lib.hid hcx
   clear hcell hcx
   go_wp2_with (first | (have hcx := Hcx.out; refine wpList_load_cells rfl 50 (.tmp 10) rfl _ rfl l[k].cells _ hcx Try.underlying50 rfl (einfo _) ?_; clear hcx) | (refine wpList_store_row rfl 50 (.tmp 5) (.tmp 11) rfl wr.heap.size l[k].cells rfl rfl 50 _ (heap_alloc_new wr _) (einfo _) (by rfl) (eone _) ?_; rw [setRow_alloc]) | (refine wpList_load_rowG rfl 50 (.tmp 5) rfl wr.heap.size rfl 50 l[k].cells (0, 0) _ (heap_alloc_new wr _) Try.underlying50 rfl (einfo _) ?_))
   have hbx : Ext wr (wr.alloc (.cells l[k].cells 50)) := Ext.alloc wr _
   refine (eput_any l[k] _ (hin.below hbx) hk1 hk2).mono ?_
   rintro e' w2 ⟨A2, c2, rfl, ho2, hb2⟩
   have hb3 := Ext.tr hbx hb2
   have hown2 := hown.below hb3
   have hbw2 := hbw.trans (hb3.mono hbw.size)
   have hr2 := ho2.rd'
   clear hown ho2 hb2 hbx hb3 hbw Hcx hin
   go_wp2_with (at_builtin; refine wpList_app rfl (.tmp 12) (.tmp 14) 23 rfl elemB w.heap.size A' d.length c' (bvs d) rfl A2 l[k].x.put.length c2 (bvs l[k].x.put) rfl d2.length hsnl.out (bvs d2) hsnb.out hown2 hr2 (bvs_one _) (by rw [hsnl.out]; omega) (by rw [hsnl.out]; omega) hbw2.size ?_; intro A4 c4 w4 ho4 hg4 hr4)
   go_roundw
   case rel => exact ⟨k + 1, A4, c4, by omega, by go_num, by rw [← hd2], by rw [← hd2]; exact ho4, below_app hbw2 hown2 hg4 hbw2.size⟩
   case measure => simp [intOf]; omega
  ·
   have hkl : k = l.length := by omega
   subst hkl
   rw [List.take_of_length_le (by rw [Hml.out]; omega)] at hown ⊢
   go_wp2
   go_ret
   exact ⟨A', c', rfl, hown, hbw⟩

set_option maxRecDepth 100000 in
set_option maxHeartbeats 1000000 in
theorem ref_eputall (A : Option Addr) (l : List EnV) (cap : Nat) (w : World) (hl : RdE w A l) (hc : l.length ≤ 1000000) (ht : Ent.total (l.map EnV.x) ≤ 1000000) :
  Calls Try.prog 51 #[.slice A l.length cap] w fun e' w' => ∃ A' c', e' = .returned (.slice A' (Ent.putAll (l.map EnV.x)).length c') ∧ Own w' w.heap.size 5 1 A' (Ent.putAll (l.map EnV.x)).length c' (bvs (Ent.putAll (l.map EnV.x))) ∧ Below w.heap.size w w' := by
 obtain ⟨m, hm⟩ : ∃ m, m = l.map EnV.x := ⟨_, rfl⟩
 have hml : m.length = l.length := by rw [hm]; simp
 have htot := Ent.putAll_len m
 rw [← hm] at ht ⊢
 have HM := Lib.hid hm
 have Hml := Lib.hid hml
 have htot2 : (Ent.putAll m).length ≤ 30000000 := by omega
 have Htot := Lib.hid htot2
 have Ht := Lib.hid ht
 clear hm hml htot htot2 ht
 go_enter Try.func51, Try.ntmps51
 go_wp2
 go_loopw [3, 4] (fun v i wr => ∃ (k : Nat) (A' : Option Addr) (c' : Nat), k ≤ l.length ∧ i = .int .i64 k ∧ v = .slice A' (Ent.putAll (m.take k)).length c' ∧ Own wr w.heap.size 5 1 A' (Ent.putAll (m.take k)).length c' (bvs (Ent.putAll (m.take k))) ∧ Below w.heap.size w wr) (fun _ i _ => l.length - (intOf i).toNat)
 case atStart => exact ⟨0, none, 0, by omega, rfl, rfl, Own.none_ _ _ _ _ _, Below.refl _ _⟩
 case round =>
  obtain ⟨k, A', c', hk, rfl, rfl, hown, hbw⟩ := hrel
  by_cases h : k < l.length
  ·
   obtain ⟨ad, rfl, hcell, hin⟩ := (hl.below hbw).at_ h
   have hkm : k < m.length := by rw [Hml.out]; exact h
   have hx : Hid (m[k] = l[k].x) := by show _ = _; have := HM.out; subst this; simp
   have hs := Lib.hid (Ent.putAll_snoc m k hkm)
   have hle := Ent.one_total m k hkm
   rw [hx.out] at hs hle
   have hle2 := Ent.putAll_take_le m (k + 1)
   rw [hs.out, List.length_append] at hle2
   have htt := Htot.out
   have ht0 := Ht.out
   have hbnd : (Ent.putAll (m.take k)).length + l[k].x.put.length ≤ 30000000 := by omega
   have hk1 : l[k].x.key.length ≤ 1000000 := by unfold Ent.size at hle; omega
   have hk2 : l[k].x.val.length ≤ 1000000 := by unfold Ent.size at hle; omega
   clear hle hle2 htt ht0
   have hsnl : Hid ((Ent.putAll (m.take (k + 1))).length = (Ent.putAll (m.take k)).length + l[k].x.put.length) := by show _ = _; rw [hs.out, List.length_append]
   have hsnb : Hid (bvs (Ent.putAll (m.take (k + 1))) = bvs (Ent.putAll (m.take k)) ++ bvs l[k].x.put) := by show _ = _; rw [hs.out, bvs_app]
   obtain ⟨d, hd⟩ : ∃ d, d = Ent.putAll (m.take k) := ⟨_, rfl⟩
   obtain ⟨d2, hd2⟩ : ∃ d2, d2 = Ent.putAll (m.take (k + 1)) := ⟨_, rfl⟩
   rw [← hd, ← hd2] at hsnl hsnb
   rw [← hd] at hown hbnd ⊢
   clear hs hd
   have hcx : ∀ j u, (l[k].cells)[j]? = some u → wr.cell? ((ad.add (k * 2)).add j) = some u := fun j u hj => by rw [add_add']; exact hcell j u hj
   have Hcx := Lib.hid hcx
   clear hcell hcx
   go_wp2_with (first | (have hcx := Hcx.out; refine wpList_load_cells rfl 50 (.tmp 14) rfl _ rfl l[k].cells _ hcx Try.underlying50 rfl (einfo _) ?_; clear hcx) )
   have hbx : Ext wr wr := Ext.refl wr
   refine (ref_eput l[k] _ (hin.below hbx) hk1 hk2).mono ?_
   rintro e' w2 ⟨A2, c2, rfl, ho2, hb2⟩
   have hb3 := Ext.tr hbx hb2
   have hown2 := hown.below hb3
   have hbw2 := hbw.trans (hb3.mono hbw.size)
   have hr2 := ho2.rd'
   clear hown ho2 hb2 hbx hb3 hbw Hcx hin
   go_wp2_with (at_builtin; refine wpList_app rfl (.tmp 11) (.tmp 16) 23 rfl elemB w.heap.size A' d.length c' (bvs d) rfl A2 l[k].x.put.length c2 (bvs l[k].x.put) rfl d2.length hsnl.out (bvs d2) hsnb.out hown2 hr2 (bvs_one _) (by rw [hsnl.out]; omega) (by rw [hsnl.out]; omega) hbw2.size ?_; intro A4 c4 w4 ho4 hg4 hr4)
   go_roundw
   case rel => exact ⟨k + 1, A4, c4, by omega, by go_num, by rw [← hd2], by rw [← hd2]; exact ho4, below_app hbw2 hown2 hg4 hbw2.size⟩
   case measure => simp [intOf]; omega
  ·
   have hkl : k = l.length := by omega
   subst hkl
   rw [List.take_of_length_le (by rw [Hml.out]; omega)] at hown ⊢
   go_wp2
   go_ret
   exact ⟨A', c', rfl, hown, hbw⟩

end Go.Proofs.Ytjholekgdnhpkaa

/- Contract: bytes.Compare; the order of texts. -/

namespace Go.Proofs.Ytjholekgdnhpkaa

open Go.RowKit

attribute [local go_sem] Oper.semAt_some

theorem run_loadBytes {P : Program} (w : World) : ∀ (bs : List UInt8) (a : Addr) (acc : ByteArray), (∀ j u, (bvs bs)[j]? = some u → w.cell? (a.add j) = some u) →
  (Extern.Bytes.loadBytes a bs.length acc).run P w = .ok ⟨acc.data ++ bs.toArray⟩ w := by
 intro bs
 induction bs with
 | nil => intro a acc _; simp [Extern.Bytes.loadBytes]
 | cons b bs ih =>
  intro a acc h
  have h0 := h 0 (bv b) (by simp [bvs])
  rw [show a.add 0 = a from rfl] at h0
  have hrest : ∀ j u, (bvs bs)[j]? = some u → w.cell? ((a.add 1).add j) = some u := fun j u hj => by
   rw [add_add', Nat.add_comm]
   exact h (j + 1) u (by simpa [bvs] using hj)
  have hl : (load a).run P w = .ok (bv b) w := by rw [run_load]; simp [h0]
  simp only [List.length_cons, Extern.Bytes.loadBytes, Sem.run_bind, hl, Result.andThen_ok, bv]
  rw [ih (a.add 1) _ hrest]
  simp [ByteArray.push]
theorem run_bytesOf {P : Program} (w : World) (A : Option Addr) (bs : List UInt8) (c : Nat) (h : RdB w A bs) : (Extern.Bytes.bytesOf (.slice A bs.length c)).run P w = .ok ⟨bs.toArray⟩ w := by
 rcases A with _ | ad
 ·
  have h0 : bs = [] := by
   rcases bs with _ | ⟨b, l⟩
   ·
    rfl
   ·
    obtain ⟨ad, e, _⟩ := h.2 (by simp [bvs])
    cases e
  subst h0
  simp [Extern.Bytes.bytesOf]
  rfl
 ·
  have hc : ∀ j u, (bvs bs)[j]? = some u → w.cell? (ad.add j) = some u := fun j u hj => by
   obtain ⟨ad', e, hc⟩ := h.2 (by intro e; rw [e] at hj; simp at hj)
   injection e with e
   subst e
   exact hc j u hj
  simp only [Extern.Bytes.bytesOf]
  rw [run_loadBytes w bs ad .empty hc]
  simp
theorem run_compareSlices {P : Program} (w : World) (A B : Option Addr) (p q : List UInt8) (c d : Nat) (hA : RdB w A p) (hB : RdB w B q) :
  (Extern.BytealgCompare.compare #[.slice A p.length c, .slice B q.length d]).run P w = .ok (.int .i64 (Lib.compareBytes p q)) w := by
 change Sem.run P (do pure (goInt (Extern.BytealgCompare.cmp (← Extern.Bytes.bytesOf (.slice A p.length c)) (← Extern.Bytes.bytesOf (.slice B q.length d))))) w = _
 simp only [Sem.run_bind, Sem.run_pure, run_bytesOf w A p c hA, run_bytesOf w B q d hB, Result.andThen_ok]
 rw [Lib.cmp_eq]
 rfl
set_option maxHeartbeats 400000 in
set_option maxRecDepth 100000 in
theorem compare_any (A B : Option Addr) (p q : List UInt8) (c d : Nat) (w : World) (hA : RdB w A p) (hB : RdB w B q) :
  Calls Try.prog 75 #[.slice A p.length c, .slice B q.length d] w fun e w' => e = .returned (.int .i64 (Lib.compareBytes p q)) ∧ w = w' := by
 go_enter Try.func75, Try.ntmps75
 go_wp2
 rw [run_callFunc_extern Try.func85 (by kernel_rfl) (by kernel_rfl) (by kernel_rfl) (e := Extern.BytealgCompare.compare) (by kernel_rfl), run_compareSlices w A B p q c d hA hB]
 simp only [Result.andThen]
 rw [Oper.upon_value]
 go_wp2
 go_ret
 exact ⟨rfl, rfl⟩
/-! ### the order -/

/-- Is a text ahead of another one? -/
def ltB : List UInt8 → List UInt8 → Bool
 | [], [] => false
 | [], _ :: _ => true
 | _ :: _, [] => false
 | a :: p, b :: q => if a < b then true else if b < a then false else ltB p q
theorem compare_lt (a b : List UInt8) : (Lib.compareBytes a b < 0) ↔ ltB a b = true := by
 induction a generalizing b with
 | nil => cases b <;> simp [Lib.compareBytes, ltB]
 | cons x a ih =>
  cases b with
  | nil => simp [Lib.compareBytes, ltB]
  | cons y b =>
   unfold Lib.compareBytes ltB
   by_cases h1 : x < y
   ·
    simp [h1]
   ·
    by_cases h2 : y < x
    ·
     simp [h1, h2]
    ·
     simp only [if_neg h1, if_neg h2]; exact ih b
theorem compare_zero (a b : List UInt8) : Lib.compareBytes a b = 0 ↔ a = b := by
 induction a generalizing b with
 | nil => cases b <;> simp [Lib.compareBytes]
 | cons x a ih =>
  cases b with
  | nil => simp [Lib.compareBytes]
  | cons y b =>
   unfold Lib.compareBytes
   by_cases h1 : x < y
   ·
    rw [if_pos h1]
    refine ⟨fun h => by simp at h, fun h => ?_⟩
    injection h with h _
    rw [h] at h1; exact absurd h1 (UInt8.lt_irrefl y)
   ·
    by_cases h2 : y < x
    ·
     rw [if_neg h1, if_pos h2]
     refine ⟨fun h => by simp at h, fun h => ?_⟩
     injection h with h _
     rw [h] at h2; exact absurd h2 (UInt8.lt_irrefl y)
    ·
     rw [if_neg h1, if_neg h2, ih b]
     have : x = y := UInt8.le_antisymm (UInt8.not_lt.1 h2) (UInt8.not_lt.1 h1)
     simp [this]
theorem compare_swap (a b : List UInt8) : Lib.compareBytes b a = - Lib.compareBytes a b := by
 induction a generalizing b with
 | nil => cases b <;> simp [Lib.compareBytes]
 | cons x a ih =>
  cases b with
  | nil => simp [Lib.compareBytes]
  | cons y b =>
   unfold Lib.compareBytes
   by_cases h1 : x < y
   ·
    have h2 : ¬ y < x := fun h => UInt8.lt_irrefl _ (UInt8.lt_trans h1 h)
    simp [h1, h2]
   ·
    by_cases h2 : y < x
    ·
     simp [h1, h2]
    ·
     simp only [if_neg h1, if_neg h2]; exact ih b
theorem compare_one (a b : List UInt8) : Lib.compareBytes a b = -1 ∨ Lib.compareBytes a b = 0 ∨ Lib.compareBytes a b = 1 := by
 induction a generalizing b with
 | nil => cases b <;> simp [Lib.compareBytes]
 | cons x a ih =>
  cases b with
  | nil => simp [Lib.compareBytes]
  | cons y b =>
   unfold Lib.compareBytes
   by_cases h1 : x < y
   ·
    simp [h1]
   ·
    by_cases h2 : y < x
    ·
     simp [h1, h2]
    ·
     simp only [if_neg h1, if_neg h2]; exact ih b
theorem ltB_irrefl (a : List UInt8) : ltB a a = false := by
 cases h : ltB a a with
 | false => rfl
 | true => have := (compare_lt a a).2 h; rw [(compare_zero a a).2 rfl] at this; omega
theorem ltB_asymm {a b : List UInt8} (h : ltB a b = true) : ltB b a = false := by
 cases h2 : ltB b a with
 | false => rfl
 | true =>
  have h3 := (compare_lt a b).2 h
  have h4 := (compare_lt b a).2 h2
  rw [compare_swap a b] at h4
  omega
theorem ltB_tri (a b : List UInt8) : ltB a b = true ∨ a = b ∨ ltB b a = true := by
 rcases compare_one a b with h | h | h
 ·
  exact .inl ((compare_lt a b).1 (by omega))
 ·
  exact .inr (.inl ((compare_zero a b).1 h))
 ·
  exact .inr (.inr ((compare_lt b a).1 (by rw [compare_swap a b]; omega)))
theorem ltB_trans : ∀ {a b c : List UInt8}, ltB a b = true → ltB b c = true → ltB a c = true
 | [], [], c, h, _ => by simp [ltB] at h
 | [], _ :: _, [], _, h => by simp [ltB] at h
 | [], _ :: _, _ :: _, _, _ => rfl
 | _ :: _, [], _, h, _ => by simp [ltB] at h
 | _ :: _, _ :: _, [], _, h => by simp [ltB] at h
 | x :: a, y :: b, z :: c, h1, h2 => by
  unfold ltB at h1 h2 ⊢
  by_cases e1 : x < y
  ·
   by_cases e2 : y < z
   ·
    rw [if_pos (UInt8.lt_trans e1 e2)]
   ·
    rw [if_neg e2] at h2
    by_cases e3 : z < y
    ·
     rw [if_pos e3] at h2; cases h2
    ·
     have : y = z := UInt8.le_antisymm (UInt8.not_lt.1 e3) (UInt8.not_lt.1 e2)
     rw [← this, if_pos e1]
  ·
   rw [if_neg e1] at h1
   by_cases e4 : y < x
   ·
    rw [if_pos e4] at h1; cases h1
   ·
    have e5 : x = y := UInt8.le_antisymm (UInt8.not_lt.1 e4) (UInt8.not_lt.1 e1)
    rw [if_neg e4] at h1
    subst e5
    by_cases e2 : x < z
    ·
     rw [if_pos e2]
    ·
     rw [if_neg e2] at h2 ⊢
     by_cases e3 : z < x
     ·
      rw [if_pos e3] at h2; cases h2
     ·
      rw [if_neg e3] at h2 ⊢
      exact ltB_trans h1 h2
end Go.Proofs.Ytjholekgdnhpkaa

/- Contracts: whether a key is in a range (entry.isIn, scowref17.In). -/

namespace Go.Proofs.Ytjholekgdnhpkaa

open Go.RowKit

attribute [local go_sem] Oper.semAt_some

theorem less_ltB : ∀ (a b : List UInt8), Op.bytesLess a b = ltB a b
 | [], [] => rfl
 | _ :: _, [] => rfl
 | [], _ :: _ => rfl
 | x :: a, y :: b => by
  unfold Op.bytesLess ltB
  rw [less_ltB a b]
  by_cases h1 : x < y
  ·
   simp [h1]
  ·
   by_cases h2 : y < x
   ·
    have : ¬ x = y := fun e => by rw [e] at h2; exact absurd h2 (UInt8.lt_irrefl y)
    simp [h1, h2, this]
   ·
    have : x = y := UInt8.le_antisymm (UInt8.not_lt.1 h2) (UInt8.not_lt.1 h1)
    simp [this, UInt8.lt_irrefl]
def inR (k lo hi : List UInt8) : Bool := !ltB k lo && (hi.isEmpty || ltB k hi)
theorem cmp_ge {a b : List UInt8} (h : ltB a b = false) : 0 ≤ Lib.compareBytes a b := by
 have := (compare_lt a b)
 rw [h] at this
 have h2 : ¬ Lib.compareBytes a b < 0 := fun h => by have := this.1 h; cases this
 omega
theorem cmp_lt {a b : List UInt8} (h : ltB a b = true) : Lib.compareBytes a b < 0 := (compare_lt a b).2 h

end Go.Proofs.Ytjholekgdnhpkaa

/- Contracts: the entries in a range (entry.Between, scowref17.Between). -/

namespace Go.Proofs.Ytjholekgdnhpkaa

open Go.RowKit

attribute [local go_sem] Oper.semAt_some

/-- The entries in a range, as they lie. -/
def betV (l : List EnV) (lo hi : List UInt8) : List EnV := l.filter fun e => inR e.x.key lo hi
theorem betV_snoc (l : List EnV) (lo hi : List UInt8) (k : Nat) (h : k < l.length) : betV (l.take (k + 1)) lo hi = betV (l.take k) lo hi ++ if inR l[k].x.key lo hi then [l[k]] else [] := by
 unfold betV
 rw [List.take_succ_eq_append_getElem h, List.filter_append]
 congr 1
 simp only [List.filter_cons, List.filter_nil]
theorem betV_len (l : List EnV) (lo hi : List UInt8) : (betV l lo hi).length ≤ l.length := List.length_filter_le _ _
theorem betV_mem {l : List EnV} {lo hi : List UInt8} {e : EnV} (h : e ∈ betV l lo hi) : e ∈ l := (List.mem_filter.1 h).1
theorem ecs_snoc (l : List EnV) (e : EnV) : ecs (l ++ [e]) = ecs l ++ e.cells.toList := by simp [ecs]
theorem cells_one (e : EnV) : ∀ u ∈ e.cells.toList, u.oneCell' = true := by
 intro u hu
 simp only [EnV.cells, List.mem_cons, List.not_mem_nil, or_false] at hu
 rcases hu with rfl | rfl <;> rfl

end Go.Proofs.Ytjholekgdnhpkaa

/- SHA-256 in plain Lean: words, blocks, digests, and what is put behind bytes. -/

namespace Go.Proofs.Ytjholekgdnhpkaa

open Go.RowKit

/-- A word as the model's number. -/
def W (x : UInt32) : Int := (x.toNat : Int)
def wv (x : UInt32) : Value := .int .u32 (W x)

namespace Sha

def rotr (x : UInt32) (n : Nat) : UInt32 := x >>> (UInt32.ofNat n) ||| x <<< (UInt32.ofNat (32 - n))
def big1 (e : UInt32) : UInt32 := rotr e 6 ^^^ rotr e 11 ^^^ rotr e 25
def big0 (a : UInt32) : UInt32 := rotr a 2 ^^^ rotr a 13 ^^^ rotr a 22
def small1 (x : UInt32) : UInt32 := rotr x 17 ^^^ rotr x 19 ^^^ x >>> 10
def small0 (y : UInt32) : UInt32 := rotr y 7 ^^^ rotr y 18 ^^^ y >>> 3
def ch (e f g : UInt32) : UInt32 := e &&& f ^^^ ~~~e &&& g
def maj (a b c : UInt32) : UInt32 := a &&& b ^^^ a &&& c ^^^ b &&& c
structure St where
 a : UInt32
 b : UInt32
 c : UInt32
 d : UInt32
 e : UInt32
 f : UInt32
 g : UInt32
 h : UInt32
deriving DecidableEq
def St.list (s : St) : List UInt32 := [s.a, s.b, s.c, s.d, s.e, s.f, s.g, s.h]
def first : St := ⟨0x6a09e667, 0xbb67ae85, 0x3c6ef372, 0xa54ff53a, 0x510e527f, 0x9b05688c, 0x1f83d9ab, 0x5be0cd19⟩
def k : List UInt32 := [
 0x428a2f98, 0x71374491, 0xb5c0fbcf, 0xe9b5dba5, 0x3956c25b, 0x59f111f1, 0x923f82a4, 0xab1c5ed5,
 0xd807aa98, 0x12835b01, 0x243185be, 0x550c7dc3, 0x72be5d74, 0x80deb1fe, 0x9bdc06a7, 0xc19bf174,
 0xe49b69c1, 0xefbe4786, 0x0fc19dc6, 0x240ca1cc, 0x2de92c6f, 0x4a7484aa, 0x5cb0a9dc, 0x76f988da,
 0x983e5152, 0xa831c66d, 0xb00327c8, 0xbf597fc7, 0xc6e00bf3, 0xd5a79147, 0x06ca6351, 0x14292967,
 0x27b70a85, 0x2e1b2138, 0x4d2c6dfc, 0x53380d13, 0x650a7354, 0x766a0abb, 0x81c2c92e, 0x92722c85,
 0xa2bfe8a1, 0xa81a664b, 0xc24b8b70, 0xc76c51a3, 0xd192e819, 0xd6990624, 0xf40e3585, 0x106aa070,
 0x19a4c116, 0x1e376c08, 0x2748774c, 0x34b0bcb5, 0x391c0cb3, 0x4ed8aa4a, 0x5b9cca4f, 0x682e6ff3,
 0x748f82ee, 0x78a5636f, 0x84c87814, 0x8cc70208, 0x90befffa, 0xa4506ceb, 0xbef9a3f7, 0xc67178f2]
theorem k_len : k.length = 64 := rfl

/-- The four bytes from 4 t on, as a word. -/
def be (b : List UInt8) (t : Nat) : UInt32 := UInt32.ofNat ((((b.getD (4 * t) 0).toNat * 256 + (b.getD (4 * t + 1) 0).toNat) * 256 + (b.getD (4 * t + 2) 0).toNat) * 256 + (b.getD (4 * t + 3) 0).toNat)
def nextw (b : List UInt8) (t : Nat) (l : List UInt32) : UInt32 :=
 if t < 16 then be b t else small1 (l.getD (t - 2) 0) + l.getD (t - 7) 0 + small0 (l.getD (t - 15) 0) + l.getD (t - 16) 0
/-- The first t words of a block. -/
def sch (b : List UInt8) : Nat → List UInt32
 | 0 => []
 | t + 1 => sch b t ++ [nextw b t (sch b t)]
theorem sch_len (b : List UInt8) (t : Nat) : (sch b t).length = t := by
 induction t with
 | zero => rfl
 | succ t ih => simp [sch, ih]
def add1 (s : St) (kt wt : UInt32) : UInt32 := s.h + big1 s.e + ch s.e s.f s.g + kt + wt
def rnd (s : St) (kt wt : UInt32) : St := ⟨add1 s kt wt + big0 s.a + maj s.a s.b s.c, s.a, s.b, s.c, s.d + add1 s kt wt, s.e, s.f, s.g⟩
def rnds (w : List UInt32) (s : St) : Nat → St
 | 0 => s
 | t + 1 => rnd (rnds w s t) (k.getD t 0) (w.getD t 0)
def plus (s v : St) : St := ⟨s.a + v.a, s.b + v.b, s.c + v.c, s.d + v.d, s.e + v.e, s.f + v.f, s.g + v.g, s.h + v.h⟩
def block (s : St) (b : List UInt8) : St := plus s (rnds (sch b 64) s 64)
/-- n blocks taken in. -/
def run (s : St) (l : List UInt8) : Nat → St
 | 0 => s
 | n + 1 => block (run s l n) ((l.drop (64 * n)).take 64)
theorem run_app (s : St) (d p : List UInt8) (n : Nat) (h : 64 * n ≤ d.length) : run s (d ++ p) n = run s d n := by
 induction n with
 | zero => rfl
 | succ n ih =>
  simp only [run]
  rw [ih (by omega), List.drop_append_of_le_length (by omega), List.take_append_of_le_length (by rw [List.length_drop]; omega)]
theorem run_add (s : St) (l : List UInt8) (m n : Nat) : run s l (m + n) = run (run s l m) (l.drop (64 * m)) n := by
 induction n with
 | zero => rfl
 | succ n ih =>
  rw [← Nat.add_assoc]
  simp only [run]
  rw [ih, List.drop_drop]
  congr 4
  omega
/-- What is known of bytes that came in: the words behind the whole blocks, and the rest. -/
def words (d : List UInt8) : St := run first d (d.length / 64)
def rest (d : List UInt8) : List UInt8 := d.drop (64 * (d.length / 64))
theorem rest_len (d : List UInt8) : (rest d).length = d.length % 64 := by
 unfold rest
 rw [List.length_drop]
 omega
theorem words_app (d p : List UInt8) : words (d ++ p) = run (words d) (rest d ++ p) ((rest d ++ p).length / 64) := by
 have h1 : (d ++ p).length / 64 = d.length / 64 + (rest d ++ p).length / 64 := by
  rw [List.length_append, List.length_append, rest_len]; omega
 unfold words
 rw [h1, run_add, run_app _ _ _ _ (by omega), List.drop_append_of_le_length (by omega)]
 rfl
theorem rest_app (d p : List UInt8) : rest (d ++ p) = (rest d ++ p).drop (64 * ((rest d ++ p).length / 64)) := by
 have h1 : (d ++ p).length / 64 = d.length / 64 + (rest d ++ p).length / 64 := by
  rw [List.length_append, List.length_append, rest_len]; omega
 have h2 : (d ++ p).drop (64 * (d.length / 64)) = rest d ++ p := by
  rw [List.drop_append_of_le_length (by omega)]; rfl
 show (d ++ p).drop (64 * ((d ++ p).length / 64)) = _
 rw [h1, Nat.mul_add, ← List.drop_drop, h2]
/-- What is put behind bytes. -/
def padn (n : Nat) : Nat := 64 - (n + 8) % 64
def tail (n : Nat) : List UInt8 := 128 :: List.replicate (padn n - 1) 0 ++ Vint.fixL (8 * n) 8
def pad (l : List UInt8) : List UInt8 := l ++ tail l.length
theorem tail_len (n : Nat) : (tail n).length = padn n + 8 := by
 simp only [tail, List.cons_append, List.length_cons, List.length_append, List.length_replicate, Vint.fixL_len]
 unfold padn
 omega
theorem pad_len (l : List UInt8) : (pad l).length % 64 = 0 := by
 unfold pad
 rw [List.length_append, tail_len]
 unfold padn
 omega
def out (s : St) : List UInt8 := s.list.flatMap fun w => Vint.fixL w.toNat 4
/-- The digest. -/
def sum (l : List UInt8) : List UInt8 := out (words (pad l))
theorem fix4 (n : Nat) : Vint.fixL n 4 = [Vint.fixB n 4 0, Vint.fixB n 4 1, Vint.fixB n 4 2, Vint.fixB n 4 3] := rfl
theorem out_len (s : St) : (out s).length = 32 := by simp [out, St.list, fix4]
theorem sum_len (l : List UInt8) : (sum l).length = 32 := out_len _
end Sha

end Go.Proofs.Ytjholekgdnhpkaa

/- Words of 32 bits in walks; the program's and the reference's turning of a word. -/

namespace Go.Proofs.Ytjholekgdnhpkaa

open Go.RowKit

theorem W_lt (x : UInt32) : x.toNat < 4294967296 := x.toNat_lt
theorem W_xor (a b : UInt32) : bits .xor .u32 (W a) (W b) = W (a ^^^ b) := by unfold W; rw [u32_xor_nat _ _ a.toNat_lt b.toNat_lt, UInt32.toNat_xor]
theorem W_and (a b : UInt32) : bits .and .u32 (W a) (W b) = W (a &&& b) := by unfold W; rw [u32_and_nat _ _ a.toNat_lt b.toNat_lt, UInt32.toNat_and]
theorem W_or (a b : UInt32) : bits .or .u32 (W a) (W b) = W (a ||| b) := by unfold W; rw [u32_or_nat _ _ a.toNat_lt b.toNat_lt, UInt32.toNat_or]
theorem W_add (a b : UInt32) : IntKind.u32.wrap (W a + W b) = W (a + b) := by
 unfold W
 rw [UInt32.toNat_add, IntKind.wrap_u32']
 omega
theorem W_add' (a b : UInt32) : (W a + W b) % 4294967296 = W (a + b) := by
 unfold W
 rw [UInt32.toNat_add]
 omega
theorem W_not (a : UInt32) : bits .xor .u32 IntKind.u32.max (W a) = W (~~~a) := by
 unfold W
 rw [not32 _ a.toNat_lt, UInt32.toNat_not]
 rfl
theorem W_shr (a : UInt32) (n : Nat) (h : n < 32) : W a / 2 ^ n = W (a >>> UInt32.ofNat n) := by
 unfold W
 rw [UInt32.toNat_shiftRight, UInt32.toNat_ofNat', Nat.shiftRight_eq_div_pow, Nat.mod_eq_of_lt (a := n) (by omega), Nat.mod_eq_of_lt h]
 simp
theorem W_shl (a : UInt32) (n : Nat) (h : n < 32) : (W a * 2 ^ n) % 4294967296 = W (a <<< UInt32.ofNat n) := by
 unfold W
 rw [UInt32.toNat_shiftLeft, UInt32.toNat_ofNat', Nat.shiftLeft_eq, Nat.mod_eq_of_lt (a := n) (by omega), Nat.mod_eq_of_lt h]
 simp
theorem W_shr3 (a : UInt32) : W a / (8 : Int) = W (a >>> 3) := W_shr a 3 (by omega)
theorem W_shr10 (a : UInt32) : W a / (1024 : Int) = W (a >>> 10) := W_shr a 10 (by omega)

theorem rot_cnt (n : Nat) (h0 : 1 ≤ n) (h : n < 32) : bits .and .u64 (IntKind.u64.wrap (-(n : Int))) 31 = ((32 - n : Nat) : Int) := by
 have h1 : IntKind.u64.wrap (-(n : Int)) = ((18446744073709551616 - n : Nat) : Int) := by rw [IntKind.wrap_u64]; omega
 rw [h1]
 have h2 := u64_and_nat (18446744073709551616 - n) 31 (by omega) (by omega)
 rw [show ((31 : Nat) : Int) = 31 from rfl] at h2
 rw [h2]
 have h3 := Nat.and_two_pow_sub_one_eq_mod (18446744073709551616 - n) 5
 simp only [Nat.reducePow, Nat.reduceSub] at h3
 rw [h3]
 omega
end Go.Proofs.Ytjholekgdnhpkaa

/- Append onto a slice that is full: the result is a new row, nothing that was there changes. -/

namespace Go.Proofs.Ytjholekgdnhpkaa

open Go.RowKit

section

variable {P : Program} {w : World} {o : Oper} {a : Act} {Q : Exit → Act → World → Prop}

theorem wp_app_grow {K : Act → World → Prop} (s x : Operand) (t : TypeId) (ho : o.op = .call { callee := .builtin .append, args := #[s, x], argTypes := #[t, t] })
  {e : TypeId} {size bytes : Nat} (T : ElemT P t e size bytes) (ad0 : Addr) (n c : Nat) (xs : List Value) (hs : a.eval s = .slice (some ad0) n c)
  (A2 : Option Addr) (m c2 : Nat) (ys : List Value) (hx : a.eval x = .slice A2 m c2) (k : Nat) (hk : k = n + m) (zs : List Value) (hz : zs = xs ++ ys)
  (hA : Rd w size (some ad0) n xs) (hr : Rd w size A2 m ys) (hn : 0 < n) (hm : 0 < m) (hfull : c < n + m)
  (hbytes : k * bytes ≤ 140737488355328) (h63 : k ≤ 140737488355328)
  (h : ∀ A' c' w', Own w' w.heap.size e size A' k c' zs → Below w.heap.size w w' → K (a.put o.dst (.slice A' k c')) w') : o.wp P a w K Q := by
 subst hk
 subst hz
 obtain ⟨i, z, g1, g2, g3, g4, g5⟩ := T.hi
 have hpos := T.pos
 subst g3
 subst g4
 have hlen : (xs ++ ys).length = (n + m) * i.size := by rw [List.length_append, hA.1, hr.1, Nat.add_mul]
 obtain ⟨ad, rfl, hcells⟩ := hr.2 (by rintro rfl; have h9 := hr.1; simp only [List.length_nil] at h9; have : 0 < m * i.size := Nat.mul_pos hm hpos; omega)
 obtain ⟨ad1, he1, hcells1⟩ := hA.2 (by rintro rfl; have h9 := hA.1; simp only [List.length_nil] at h9; have : 0 < n * i.size := Nat.mul_pos hn hpos; omega)
 injection he1 with he1
 subst he1
 have hrun := run_append_grow (P := P) w t o.type e i z T.ht g1 g2 ad0 n c xs hA.1 hcells1 ad m c2 ys hr.1 hcells (by omega) (by omega) (growslice_fits (by omega) hbytes)
 have hge := grownCap_ge w (n + m) c e
 have hcm : grownCap w (n + m) c e ≤ maxLen := grownCap_le_maxLen w (n + m) c e (by unfold maxLen; omega)
 unfold Oper.wp execOp
 simp only [ho, resolve, invoke, builtin, Sem.run_bind, Sem.run_pure, Result.andThen_ok, List.map_toArray, List.map_cons, List.map_nil, hs, hx, hrun]
 refine h _ _ _ ⟨hlen, hge, hcm, .inr ⟨w.heap.size, 0, _, rfl, Nat.le_refl _, heap_alloc_new w.drew _, ?_, ?_⟩⟩ ⟨rfl, rfl, rfl, by simp, fun k hk => Below.heap_alloc w.drew _ k hk⟩
 ·
  simp only [Array.size_append, List.size_toArray, size_zeroCells, g5, hA.1, hr.1, ← Nat.add_mul, Nat.zero_add]
  refine Nat.mul_le_mul_right _ (by omega)
 ·
  simp only [Array.toList_append, List.append_assoc, List.drop_zero]
  rw [← List.append_assoc, ← hlen]
  exact List.take_left

/-- Copy into a part of a row. -/
theorem wp_copy {K : Act → World → Prop} (d x : Operand) (t : TypeId) (ho : o.op = .call { callee := .builtin .copy, args := #[d, x], argTypes := #[t, t] })
  {e : TypeId} {bytes : Nat} (T : ElemT P t e 1 bytes) (g f dCap : Nat) (m : Nat) (hd : a.eval d = .slice (some ⟨g, f, none⟩) m dCap) (A2 : Option Addr) (c2 : Nat) (ys : List Value) (hx : a.eval x = .slice A2 m c2)
  (hr : Rd w 1 A2 m ys) (hm : 0 < m) (cur : Array Value) (hg : w.heap[g]? = some (.cells cur e (0, 0))) (hfit : f + m ≤ cur.size) (h1 : ∀ u ∈ ys, u.oneCell' = true)
  (h : K (a.put o.dst (.int .i64 (m : Int))) (w.setRow g (cur.toList.take f ++ ys ++ cur.toList.drop (f + m)).toArray)) : o.wp P a w K Q := by
 have hl : ys.length = m := by have := hr.1; omega
 obtain ⟨ad, rfl, hcells⟩ := hr.2 (by rintro rfl; simp at hl; omega)
 have hrun := run_copy_row (P := P) w t t o.type e g f m dCap ad m c2 cur e ys T.ht T.one hg (by rw [hl]; simp) hcells (by rw [hl]; exact hfit) h1
 rw [hl] at hrun
 unfold Oper.wp execOp
 simp only [ho, resolve, invoke, builtin, Sem.run_bind, Sem.run_pure, Result.andThen_ok, List.map_toArray, List.map_cons, List.map_nil, hd, hx, hrun]
 exact h
/-- The same where the row is an array's. -/
theorem wp_copyT {K : Act → World → Prop} (d x : Operand) (t : TypeId) (ho : o.op = .call { callee := .builtin .copy, args := #[d, x], argTypes := #[t, t] })
  {e : TypeId} {bytes : Nat} (T : ElemT P t e 1 bytes) (g f dCap : Nat) (m : Nat) (hd : a.eval d = .slice (some ⟨g, f, none⟩) m dCap) (A2 : Option Addr) (c2 : Nat) (ys : List Value) (hx : a.eval x = .slice A2 m c2)
  (hr : Rd w 1 A2 m ys) (hm : 0 < m) (cur : Array Value) (rt : TypeId) (hg : w.heap[g]? = some (.cells cur rt (0, 0))) (hfit : f + m ≤ cur.size) (h1 : ∀ u ∈ ys, u.oneCell' = true)
  (h : K (a.put o.dst (.int .i64 (m : Int))) (w.setRow g (cur.toList.take f ++ ys ++ cur.toList.drop (f + m)).toArray)) : o.wp P a w K Q := by
 have hl : ys.length = m := by have := hr.1; omega
 obtain ⟨ad, rfl, hcells⟩ := hr.2 (by rintro rfl; simp at hl; omega)
 have hrun := run_copy_row (P := P) w t t o.type e g f m dCap ad m c2 cur rt ys T.ht T.one hg (by rw [hl]; simp) hcells (by rw [hl]; exact hfit) h1
 rw [hl] at hrun
 unfold Oper.wp execOp
 simp only [ho, resolve, invoke, builtin, Sem.run_bind, Sem.run_pure, Result.andThen_ok, List.map_toArray, List.map_cons, List.map_nil, hd, hx, hrun]
 exact h
end

end Go.Proofs.Ytjholekgdnhpkaa

/- Copy of a few cells into a longer slice of a row. -/

namespace Go.Proofs.Ytjholekgdnhpkaa

open Go.RowKit

section

variable {P : Program} {w : World} {ops : Array Oper} {o : Oper} {a : Act} {Q : Exit → Act → World → Prop}

theorem wp_copyL {K : Act → World → Prop} (d x : Operand) (t : TypeId) (ho : o.op = .call { callee := .builtin .copy, args := #[d, x], argTypes := #[t, t] })
  {e : TypeId} {bytes : Nat} (T : ElemT P t e 1 bytes) (g f dLen dCap : Nat) (m : Nat) (hd : a.eval d = .slice (some ⟨g, f, none⟩) dLen dCap) (A2 : Option Addr) (c2 : Nat) (ys : List Value) (hx : a.eval x = .slice A2 m c2)
  (hr : Rd w 1 A2 m ys) (hm : 0 < m) (hmd : m ≤ dLen) (cur : Array Value) (rt : TypeId) (hg : w.heap[g]? = some (.cells cur rt (0, 0))) (hfit : f + m ≤ cur.size) (h1 : ∀ u ∈ ys, u.oneCell' = true)
  (h : K (a.put o.dst (.int .i64 (m : Int))) (w.setRow g (cur.toList.take f ++ ys ++ cur.toList.drop (f + m)).toArray)) : o.wp P a w K Q := by
 have hl : ys.length = m := by have := hr.1; omega
 obtain ⟨ad, rfl, hcells⟩ := hr.2 (by rintro rfl; simp at hl; omega)
 have hrun := run_copy_row (P := P) w t t o.type e g f dLen dCap ad m c2 cur rt ys T.ht T.one hg (by rw [hl]; exact (Nat.min_eq_left hmd).symm) hcells (by rw [hl]; exact hfit) h1
 rw [hl] at hrun
 unfold Oper.wp execOp
 simp only [ho, resolve, invoke, builtin, Sem.run_bind, Sem.run_pure, Result.andThen_ok, List.map_toArray, List.map_cons, List.map_nil, hd, hx, hrun]
 exact h
end

end Go.Proofs.Ytjholekgdnhpkaa

/- Contracts: entries' digest (entry.Digest, the document's). Printed by wip/tools/gen_digest17.py. -/

namespace Go.Proofs.Ytjholekgdnhpkaa

open Go.RowKit

attribute [local go_sem] Oper.semAt_some

def Ent.digest (l : List Ent) : List UInt8 := Sha.sum (Ent.putAll l)
theorem Ent.digest_len (l : List Ent) : (Ent.digest l).length = 32 := Sha.sum_len _
theorem sumInfo (z : List UInt8) (h : z.length = 32) : (Try.prog.info? 26).map (·.size) = some (bvs z).toArray.size := by rw [List.size_toArray, bvs_len, h]; kernel_rfl
theorem arrInfo (z : List UInt8) (h : z.length = 32) : (Try.prog.info? 25).map (·.size) = some (bvs z).toArray.size := by rw [List.size_toArray, bvs_len, h]; kernel_rfl
theorem sumOne (z : List UInt8) : (bvs z).toArray.all (·.oneCell') = true := by
 rw [Array.all_eq_true_iff_forall_mem]
 intro v hv
 exact bvs_one _ v (by simpa using hv)

theorem ext_rowD {w w' : World} {g : Nat} (h : Ext w w') (hg : w.heap.size ≤ g) (cs : Array Value) : Ext w (w'.setRow g cs) := ⟨h.os, h.tape, h.output, by simpa using h.size, fun i hi => (setRow_other _ _ _ _ (by omega)).trans (h.block i hi)⟩

end Go.Proofs.Ytjholekgdnhpkaa

/- A part of a range in memory; contracts: what is in a range (entry.PartOf, scowref17.PartOf). -/

namespace Go.Proofs.Ytjholekgdnhpkaa

open Go.RowKit

attribute [local go_sem] Oper.semAt_some

structure Pt where
 lo : List UInt8
 hi : List UInt8
 count : Int
 sum : List UInt8
structure PtV where
 la : Option Addr
 lc : Nat
 ha : Option Addr
 hc : Nat
 x : Pt
def PtV.cells (e : PtV) : Array Value := #[.slice e.la e.x.lo.length e.lc, .slice e.ha e.x.hi.length e.hc, .int .i64 e.x.count] ++ (bvs e.x.sum).toArray
def PtV.val (e : PtV) : Value := .agg e.cells
structure PtV.In (w : World) (e : PtV) : Prop where
 lr : RdB w e.la e.x.lo
 hr : RdB w e.ha e.x.hi
 lcap : e.x.lo.length ≤ e.lc
 hcap : e.x.hi.length ≤ e.hc
 sum : e.x.sum.length = 32
 clo : -9223372036854775808 ≤ e.x.count
 chi : e.x.count ≤ 9223372036854775807
theorem PtV.In.below {w w' : World} {e : PtV} (h : e.In w) (hb : Below w.heap.size w w') : e.In w' := ⟨h.lr.below hb, h.hr.below hb, h.lcap, h.hcap, h.sum, h.clo, h.chi⟩
theorem psize {e : PtV} (h : e.x.sum.length = 32) : e.cells.size = 35 := by simp [PtV.cells, bvs, h]
theorem pinfo {e : PtV} (h : e.x.sum.length = 32) : (Try.prog.info? 46).map (·.size) = some e.cells.size := by rw [psize h]; kernel_rfl
theorem pone (e : PtV) : e.cells.all (·.oneCell') = true := by
 rw [Array.all_eq_true_iff_forall_mem]
 intro v hv
 simp only [PtV.cells, Array.mem_append, List.mem_toArray, List.mem_cons, List.not_mem_nil, or_false] at hv
 rcases hv with (rfl | rfl | rfl) | hv
 ·
  rfl
 ·
  rfl
 ·
  rfl
 ·
  exact bvs_one _ v hv
def Ent.between (l : List Ent) (lo hi : List UInt8) : List Ent := l.filter fun e => inR e.key lo hi
theorem betV_map (l : List EnV) (lo hi : List UInt8) : (betV l lo hi).map EnV.x = Ent.between (l.map EnV.x) lo hi := by
 unfold betV Ent.between
 rw [List.filter_map]
 rfl
theorem Ent.total_filter (p : Ent → Bool) (l : List Ent) : Ent.total (l.filter p) ≤ Ent.total l := by
 induction l with
 | nil => exact Nat.le_refl _
 | cons e l ih =>
  have h := Ent.total_cons e l
  rw [List.filter_cons]
  split
  ·
   rw [Ent.total_cons]; omega
  ·
   omega
def Ent.partOf (l : List Ent) (lo hi : List UInt8) : Pt := ⟨lo, hi, ((Ent.between l lo hi).length : Int), Ent.digest (Ent.between l lo hi)⟩
/-- Entries of which something is asked. -/
def Fit (l : List EnV) : Prop := Ent.total (l.map EnV.x) + 20 * l.length ≤ 100000
theorem Fit.bet {l : List EnV} (h : Fit l) (lo hi : List UInt8) : Fit (betV l lo hi) := by
 unfold Fit at h ⊢
 have h1 := Ent.total_filter (fun e => inR e.key lo hi) (l.map EnV.x)
 have h2 := betV_len l lo hi
 rw [betV_map]
 unfold Ent.between
 omega
theorem Fit.total {l : List EnV} (h : Fit l) : Ent.total (l.map EnV.x) ≤ 1000000 := by unfold Fit at h; omega
theorem Fit.len {l : List EnV} (h : Fit l) : l.length ≤ 5000 := by unfold Fit at h; omega
theorem Fit.putAll {l : List EnV} (h : Fit l) : (Ent.putAll (l.map EnV.x)).length ≤ 100000 := by
 have := Ent.putAll_len (l.map EnV.x)
 unfold Fit at h
 rw [List.length_map] at this
 omega
theorem Own.rdE {w : World} {B : Nat} {t : TypeId} {A : Option Addr} {c : Nat} {l : List EnV} (h : Own w B t 2 A l.length c (ecs l)) (he : ∀ e ∈ l, e.In w) : RdE w A l := ⟨h.rd, he⟩

/-- What a struct is built of: an array's cells laid into it. -/
theorem fold_set (o : Nat) (l : List Value) : ∀ (k : Nat) (base : Array Value), (List.foldl (fun (cs : Array Value) (x : Value × Nat) => cs.setIfInBounds (o + x.2) x.1) base (l.zipIdx k)).size = base.size ∧
  ∀ i, i < base.size → (List.foldl (fun (cs : Array Value) (x : Value × Nat) => cs.setIfInBounds (o + x.2) x.1) base (l.zipIdx k))[i]? = if o + k ≤ i ∧ i < o + k + l.length then l[i - (o + k)]? else base[i]? := by
 induction l with
 | nil => intro k base; exact ⟨rfl, fun i _ => by rw [if_neg (by simp only [List.length_nil]; omega)]; rfl⟩
 | cons v l ih =>
  intro k base
  obtain ⟨h1, h2⟩ := ih (k + 1) (base.setIfInBounds (o + k) v)
  refine ⟨by rw [List.zipIdx_cons, List.foldl_cons, h1, Array.size_setIfInBounds], fun i hi => ?_⟩
  rw [List.zipIdx_cons, List.foldl_cons, h2 i (by rw [Array.size_setIfInBounds]; exact hi)]
  by_cases hk : i = o + k
  ·
   subst hk
   rw [if_neg (by omega), if_pos ⟨by omega, by simp only [List.length_cons]; omega⟩, Nat.sub_self, Array.getElem?_setIfInBounds_self_of_lt hi]
   rfl
  ·
   by_cases hin : o + (k + 1) ≤ i ∧ i < o + (k + 1) + l.length
   ·
    rw [if_pos hin, if_pos ⟨by omega, by simp only [List.length_cons]; omega⟩, show i - (o + k) = (i - (o + (k + 1))) + 1 by omega]
    rfl
   ·
    rw [if_neg hin, if_neg (by simp only [List.length_cons]; omega), Array.getElem?_setIfInBounds_ne (by omega)]
theorem fold35 (a b c : Value) (base : Array Value) (hb : base.size = 35) (h0 : base[0]? = some a) (h1 : base[1]? = some b) (h2 : base[2]? = some c) (z : List UInt8) (hz : z.length = 32) :
  List.foldl (fun (cs : Array Value) (x : Value × Nat) => cs.setIfInBounds (3 + x.2) x.1) base ((bvs z).zipIdx) = #[a, b, c] ++ (bvs z).toArray := by
 obtain ⟨k1, k2⟩ := fold_set 3 (bvs z) 0 base
 apply Array.ext_getElem?
 intro i
 by_cases hi : i < 35
 ·
  rw [k2 i (by omega), bvs_len, hz]
  by_cases h3 : i < 3
  ·
   rw [if_neg (by omega), Array.getElem?_append_left (by simpa using h3)]
   rcases (by omega : i = 0 ∨ i = 1 ∨ i = 2) with rfl | rfl | rfl
   ·
    exact h0
   ·
    exact h1
   ·
    exact h2
  ·
   rw [if_pos (by omega), Array.getElem?_append_right (by simp; omega)]
   simp
 ·
  rw [Array.getElem?_eq_none (by omega), Array.getElem?_eq_none (by simp [bvs, hz]; omega)]

theorem wpList_build {P : Program} {w : World} {ops : Array Oper} {rest : List Oper} {o : Oper} {a : Act} {Q : Exit → Act → World → Prop} (hgd : Region.wanted o (yielded ops a.tmps) = true) (ty : TypeId) (ps : Array (Nat × Operand)) (ho : o.op = .build ty ps) (v : Value)
  (hr : (execOp a.eval o).run P w = .ok (.value v) w) (h : wpList P ops Q rest (a.put o.dst v) w) : wpList P ops Q (o :: rest) a w :=
 wpList_want hgd fun K hK => by
  unfold Oper.wp
  rw [hr, Oper.upon_value]
  exact hK _ _ h

end Go.Proofs.Ytjholekgdnhpkaa

/- Contract: bytes.Equal. -/

namespace Go.Proofs.Ytjholekgdnhpkaa

open Go.RowKit

theorem bytes_eq (l m : List UInt8) : ((⟨l.toArray⟩ : ByteArray) == ⟨m.toArray⟩) = (l == m) := by
 rw [Bool.eq_iff_iff, Go.MapKept.bytes_beq, beq_iff_eq]
 constructor
 ·
  intro e
  injection e with e
  simpa using congrArg Array.toList e
 ·
  rintro rfl; rfl

set_option maxRecDepth 100000 in
set_option maxHeartbeats 1000000 in
theorem equal_any (A B : Option Addr) (p q : List UInt8) (c d : Nat) (w : World) (hA : RdB w A p) (hB : RdB w B q) :
  Calls Try.prog 23 #[.slice A p.length c, .slice B q.length d] w fun e w' => e = .returned (.bool (p == q)) ∧ w = w' := by
 have r1 := run_str w 23 9 5 A p c Try.underlying23 Try.underlying5 Try.underlying9 hA p.length rfl
 have r2 := run_str w 23 9 5 B q d Try.underlying23 Try.underlying5 Try.underlying9 hB q.length rfl
 have Heq := Lib.hid (bytes_eq p q)
 go_enter Try.func23, Try.ntmps23
 go_wp2
 go_ret
 exact ⟨by rw [← Heq.out]; rfl, rfl⟩

end Go.Proofs.Ytjholekgdnhpkaa

/- Whether two arrays of 32 bytes are the same. -/

namespace Go.Proofs.Ytjholekgdnhpkaa

open Go.RowKit

theorem bvs_getA (l : List UInt8) (k : Nat) (h : k < l.length) : (bvs l).toArray[k]? = some (.int .u8 ((l.getD k 0).toNat : Int)) := by
 rw [List.getElem?_toArray, bvs_get l k h]
 simp [bv, List.getElem?_eq_getElem h]
section

variable (x y : List UInt8) (w : World)

theorem run_part (x : List UInt8) (i : Nat) (h : i < x.length) (w : World) : (part 5 (bvs x).toArray (i * 1)).run Try.prog w = .ok (.int .u8 ((x.getD i 0).toNat : Int)) w := by
 have hc := bvs_getA x i h
 rw [Nat.mul_one]
 unfold part
 go_simp
theorem run_eqb (d : Nat) (a b : UInt8) (w : World) : (Op.equalIn (d + 1) 5 (.int .u8 (a.toNat : Int)) (.int .u8 (b.toNat : Int))).run Try.prog w = .ok (a == b) w := by
 rw [run_equalIn_int w d 5 .u8 .u8 _ _ Try.underlying5]
 congr 1
 rw [Bool.eq_iff_iff, beq_iff_eq, beq_iff_eq, Int.natCast_inj, UInt8.toNat_inj]
theorem run_eqArr (d : Nat) (t : TypeId) (ht : Try.prog.underlying t = some (.array 32 5)) (hx : x.length = 32) (hy : y.length = 32) :
  (Op.equalIn (d + 2) t (.agg (bvs x).toArray) (.agg (bvs y).toArray)).run Try.prog w = .ok (x == y) w := by
 have hsz : ∀ w', (sizeOf 5).run Try.prog w' = .ok 1 w' := fun w' => by go_simp
 have hall : (x == y) = (List.range' 0 32).all fun i => x.getD i 0 == y.getD i 0 := by
  rw [Bool.eq_iff_iff, beq_iff_eq, List.all_eq_true]
  constructor
  ·
   rintro rfl i _
   simp
  ·
   intro h
   apply List.ext_getElem (by omega)
   intro i h1 h2
   have h3 := h i (by simp [List.mem_range']; omega)
   simpa [List.getElem?_eq_getElem h1, List.getElem?_eq_getElem h2] using h3
 rw [hall]
 unfold Op.equalIn
 simp only [Sem.run_bind, run_underlying ht, Result.andThen_ok, hsz]
 simp only [Std.Legacy.Range.forIn_eq_forIn_range', Std.Legacy.Range.size, Nat.sub_zero, Nat.add_sub_cancel, Nat.div_one]
 have hm : ∀ i ∈ List.range' 0 32, i < 32 := by intro i hi; simp [List.mem_range'] at hi; omega
 generalize List.range' 0 32 = L at hm
 clear hall
 induction L with
 | nil => simp
 | cons i L ih =>
  have hi := hm i (List.mem_cons_self ..)
  have h1 := run_part x i (by omega) w
  have h2 := run_part y i (by omega) w
  have h3 := run_eqb d (x.getD i 0) (y.getD i 0) w
  have h4 := ih (fun j hj => hm j (List.mem_cons_of_mem _ hj))
  simp only [List.forIn_cons, Sem.run_bind, h1, h2, h3, Result.andThen_ok, List.all_cons]
  cases hb : (x.getD i 0 == y.getD i 0) with
  | false => simp
  | true =>
   simp only [Bool.not_true, Bool.false_eq_true, if_false, Sem.run_pure, Result.andThen_ok, Bool.true_and]
   exact h4
theorem run_eqSum (hx : x.length = 32) (hy : y.length = 32) : (binOp .eql 26 (.agg (bvs x).toArray) (.agg (bvs y).toArray)).run Try.prog w = .ok (.bool (x == y)) w := by
 rw [run_eql_struct, show (10000 : Nat) = 9998 + 2 from rfl, run_eqArr x y w 9998 _ Try.underlying26 hx hy]
 rfl
end

end Go.Proofs.Ytjholekgdnhpkaa
