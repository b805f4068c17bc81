
/- Contracts: an entry's bytes, entries' bytes (entry.Put, PutAll, the document's). Printed by wip/tools/gen_ent17.py. -/

import Derived.Test.YtiiekdhlcmaabaaProg

import Derived.Test.YtiiekdhlcmaabaaEnt

import Derived.Test.YtiiekdhlcmaabaaReg3

import Derived.Test.YtiiekdhlcmaabaaVintRef2

namespace Go.Proofs.Ytiiekdhlcmaabaa

open Go.RowKit

attribute [local go_sem] Oper.semAt_some

theorem einfo (e : EnV) : (Try.prog.info? 49).map (·.size) = some e.cells.size := by
  rw [show e.cells.size = 2 from rfl]; kernel_rfl
theorem elemE : ElemT Try.prog 22 49 2 48 := ElemT.mk' Try.underlying22 (z := .agg #[.slice none 0 0, .slice none 0 0]) (by kernel_rfl) (by rfl) (by decide)
def Ent.put (e : Ent) : List UInt8 := Vint.putBytes e.key ++ Vint.putBytes e.val
def Ent.putAll (l : List Ent) : List UInt8 := l.flatMap Ent.put
theorem Ent.putAll_snoc (l : List Ent) (k : Nat) (h : k < l.length) : Ent.putAll (l.take (k + 1)) = Ent.putAll (l.take k) ++ l[k].put := by
  unfold Ent.putAll
  rw [List.take_succ_eq_append_getElem h, List.flatMap_append]
  simp
def Ent.size (e : Ent) : Nat := e.key.length + e.val.length
def Ent.total (l : List Ent) : Nat := (l.map Ent.size).foldl (· + ·) 0
theorem foldl_add (l : List Nat) : ∀ n, l.foldl (· + ·) n = n + l.foldl (· + ·) 0 := by
  induction l with
  | nil => intro n; rfl
  | cons x l ih => intro n; simp only [List.foldl_cons]; rw [ih (n + x), ih (0 + x)]; omega
theorem Ent.total_snoc (l : List Ent) (k : Nat) (h : k < l.length) : Ent.total (l.take (k + 1)) = Ent.total (l.take k) + l[k].size := by
  unfold Ent.total
  rw [List.take_succ_eq_append_getElem h, List.map_append, List.foldl_append]
  rfl
theorem Ent.total_cons (e : Ent) (l : List Ent) : Ent.total (e :: l) = e.size + Ent.total l := by
  unfold Ent.total
  simp only [List.map_cons, List.foldl_cons]
  rw [foldl_add]; omega
theorem Ent.one_total (l : List Ent) (k : Nat) (h : k < l.length) : l[k].size ≤ Ent.total l := by
  induction l generalizing k with
  | nil => simp at h
  | cons e l ih =>
    rw [Ent.total_cons]
    cases k with
    | zero => simp
    | succ k => have := ih k (by simpa using h); simp; omega
theorem Ent.put_len (e : Ent) : e.put.length ≤ e.size + 20 := by
  have h1 := (Vint.put_len e.key.length).2
  have h2 := (Vint.put_len e.val.length).2
  simp only [Ent.put, Ent.size, Vint.putBytes, List.length_append]
  omega
theorem Ent.putAll_len (l : List Ent) : (Ent.putAll l).length ≤ Ent.total l + 20 * l.length := by
  induction l with
  | nil => simp [Ent.putAll, Ent.total]
  | cons e l ih =>
    have h1 := e.put_len
    have h2 := Ent.total_cons e l
    show (e.put ++ Ent.putAll l).length ≤ _
    rw [List.length_append, h2, List.length_cons]
    omega
theorem Ent.putAll_take_le (l : List Ent) (k : Nat) : (Ent.putAll (l.take k)).length ≤ (Ent.putAll l).length := by
  conv => rhs; rw [← List.take_append_drop k l]
  unfold Ent.putAll
  rw [List.flatMap_append, List.length_append]
  omega

set_option maxRecDepth 100000 in
set_option maxHeartbeats 1000000 in
theorem eput_any (e : EnV) (w : World) (hin : e.In w) (h1 : e.x.key.length ≤ 1000000) (h2 : e.x.val.length ≤ 1000000) :
    Calls Try.prog 42 #[.agg e.cells] w fun e' w' => ∃ A' c', e' = .returned (.slice A' e.x.put.length c') ∧ Own w' w.heap.size 5 1 A' e.x.put.length c' (bvs e.x.put) ∧ Below w.heap.size w w' := by
  have hE0 := Ext.alloc w (.cells e.cells 49)
  have g0 := heap_alloc_new w (.cells e.cells 49)
  have hc0 : (w.alloc (.cells e.cells 49)).drew.cell? ⟨w.heap.size, 0, none⟩ = some (.slice e.ka e.x.key.length e.kc) := cell_of_row _ _ 0 _ _ _ g0
  have hc1 : (w.alloc (.cells e.cells 49)).drew.cell? ⟨w.heap.size, 1, none⟩ = some (.slice e.va e.x.val.length e.vc) := cell_of_row _ _ 1 _ _ _ g0
  have hE1 := Ext.tr hE0 (Ext.drew (w.alloc (.cells e.cells 49)))
  obtain ⟨D, hD⟩ : ∃ D, D = e.x.put := ⟨_, rfl⟩
  have HD1 : Hid (D.length = (Vint.putBytes e.x.key).length + (Vint.putBytes e.x.val).length) := by show _ = _; rw [hD]; simp [Ent.put]
  have HD2 : Hid (bvs D = bvs (Vint.putBytes e.x.key) ++ bvs (Vint.putBytes e.x.val)) := by show _ = _; rw [hD, ← bvs_app]; rfl
  have HDl : Hid (D.length ≤ 3000000) := by show _ ≤ _; rw [hD]; have := e.x.put_len; unfold Ent.size at this; omega
  rw [← hD]
  clear hD g0
  go_enter Try.func42, Try.ntmps42
  go_wp2_with fail
  refine rg_start (by kernel_rfl) ?_
  refine rg_take 0 rfl (by kernel_rfl) (by kernel_rfl) (by kernel_rfl) (fun _ _ _ _ h => h) (by rfl) ⟨_, fun w' hx => by (go_simp <;> with_reducible rfl), ?_⟩   -- t3 := fieldAddr 28 t1 0
  simp only [Act.put, List.setIfInBounds_toArray, List.set_cons_zero, List.set_cons_succ]
  refine rg_take 1 rfl (by kernel_rfl) (by kernel_rfl) (by kernel_rfl) (fun _ _ _ _ h => h) (by rfl) ⟨_, fun w' hx => by have hcx := hx.load hc0; (go_simp <;> with_reducible rfl), ?_⟩
  simp only [Act.put, List.setIfInBounds_toArray, List.set_cons_zero, List.set_cons_succ]
  refine rg_take 3 rfl (by kernel_rfl) (by kernel_rfl) (by kernel_rfl) (fun _ _ _ _ h => h) (by rfl) ⟨_, fun w' hx => by (go_simp <;> with_reducible rfl), ?_⟩   -- t6 := fieldAddr 28 t1 1
  simp only [Act.put, List.setIfInBounds_toArray, List.set_cons_zero, List.set_cons_succ]
  refine rg_take 4 rfl (by kernel_rfl) (by kernel_rfl) (by kernel_rfl) (fun _ _ _ _ h => h) (by rfl) ⟨_, fun w' hx => by have hcx := hx.load hc1; (go_simp <;> with_reducible rfl), ?_⟩
  simp only [Act.put, List.setIfInBounds_toArray, List.set_cons_zero, List.set_cons_succ]
  refine rg_call 2 (putbytes_any e.ka e.x.key e.kc _ (hin.kr.below hE1) h1) rfl (by kernel_rfl) (by rfl) (by go_simp) ?_
  rintro e2 w2 ⟨A2, c2, rfl, ho2, hb2⟩
  refine ⟨_, rfl, hb2, ?_⟩
  simp only [Act.put, List.setIfInBounds_toArray, List.set_cons_zero, List.set_cons_succ]
  refine rg_call 5 (putbytes_any e.va e.x.val e.vc _ (hin.vr.below (Ext.tr hE1 hb2)) h2) rfl (by kernel_rfl) (by rfl) (by go_simp) ?_
  rintro e3 w3 ⟨A3, c3, rfl, ho3, hb3⟩
  refine ⟨_, rfl, hb3, ?_⟩
  simp only [Act.put, List.setIfInBounds_toArray, List.set_cons_zero, List.set_cons_succ]
  have hE3 := Ext.tr hE1 (Ext.tr hb2 hb3)
  have ho23 := (ho2.below hb3).mono hE1.size
  have hr3 := ho3.rd'
  have hsz := hE3.size
  refine rg_last 6 rfl (by kernel_rfl) (by kernel_rfl) (by rfl) fun K hK => wp_app (.tmp 5) (.tmp 8) 23 rfl elemB w.heap.size A2 (Vint.putBytes e.x.key).length c2 _ rfl A3 (Vint.putBytes e.x.val).length c3 (bvs (Vint.putBytes e.x.val)) rfl D.length HD1.out (bvs D) HD2.out ho23 hr3 (bvs_one _) (by have := HDl.out; omega) (by have := HDl.out; omega) hsz fun A4 c4 w4 ho4 hg4 hr4 => hK _ _ ?_
  simp only [Act.put, List.setIfInBounds_toArray, List.set_cons_zero, List.set_cons_succ]
  refine rg_take 7 rfl (by kernel_rfl) (by kernel_rfl) (by kernel_rfl) (fun _ _ _ _ h => h) (by rfl) ⟨_, fun w' hx => by (go_simp <;> with_reducible rfl), ?_⟩
  simp only [Act.put, List.setIfInBounds_toArray, List.set_cons_zero, List.set_cons_succ]
  refine rg_done (by kernel_rfl) ?_
  go_wp2
  go_ret
  exact ⟨A4, c4, rfl, ho4, below_app hE3 ho23 hg4 hsz⟩

set_option maxRecDepth 100000 in
set_option maxHeartbeats 1000000 in
theorem ref_eput (e : EnV) (w : World) (hin : e.In w) (h1 : e.x.key.length ≤ 1000000) (h2 : e.x.val.length ≤ 1000000) :
    Calls Try.prog 46 #[.agg e.cells] w fun e' w' => ∃ A' c', e' = .returned (.slice A' e.x.put.length c') ∧ Own w' w.heap.size 5 1 A' e.x.put.length c' (bvs e.x.put) ∧ Below w.heap.size w w' := by
  have hE0 := Ext.alloc w (.cells e.cells 49)
  have g0 := heap_alloc_new w (.cells e.cells 49)
  have hc0 : (w.alloc (.cells e.cells 49)).drew.cell? ⟨w.heap.size, 0, none⟩ = some (.slice e.ka e.x.key.length e.kc) := cell_of_row _ _ 0 _ _ _ g0
  have hc1 : (w.alloc (.cells e.cells 49)).drew.cell? ⟨w.heap.size, 1, none⟩ = some (.slice e.va e.x.val.length e.vc) := cell_of_row _ _ 1 _ _ _ g0
  have hE1 := Ext.tr hE0 (Ext.drew (w.alloc (.cells e.cells 49)))
  obtain ⟨D, hD⟩ : ∃ D, D = e.x.put := ⟨_, rfl⟩
  have HD1 : Hid (D.length = (Vint.putBytes e.x.key).length + (Vint.putBytes e.x.val).length) := by show _ = _; rw [hD]; simp [Ent.put]
  have HD2 : Hid (bvs D = bvs (Vint.putBytes e.x.key) ++ bvs (Vint.putBytes e.x.val)) := by show _ = _; rw [hD, ← bvs_app]; rfl
  have HDl : Hid (D.length ≤ 3000000) := by show _ ≤ _; rw [hD]; have := e.x.put_len; unfold Ent.size at this; omega
  rw [← hD]
  clear hD g0
  go_enter Try.func46, Try.ntmps46
  go_wp2_with fail
  refine rg_start (by kernel_rfl) ?_
  refine rg_take 0 rfl (by kernel_rfl) (by kernel_rfl) (by kernel_rfl) (fun _ _ _ _ h => h) (by rfl) ⟨_, fun w' hx => by (go_simp <;> with_reducible rfl), ?_⟩   -- t3 := fieldAddr 28 t1 0
  simp only [Act.put, List.setIfInBounds_toArray, List.set_cons_zero, List.set_cons_succ]
  refine rg_take 1 rfl (by kernel_rfl) (by kernel_rfl) (by kernel_rfl) (fun _ _ _ _ h => h) (by rfl) ⟨_, fun w' hx => by have hcx := hx.load hc0; (go_simp <;> with_reducible rfl), ?_⟩
  simp only [Act.put, List.setIfInBounds_toArray, List.set_cons_zero, List.set_cons_succ]
  refine rg_take 3 rfl (by kernel_rfl) (by kernel_rfl) (by kernel_rfl) (fun _ _ _ _ h => h) (by rfl) ⟨_, fun w' hx => by (go_simp <;> with_reducible rfl), ?_⟩   -- t6 := fieldAddr 28 t1 1
  simp only [Act.put, List.setIfInBounds_toArray, List.set_cons_zero, List.set_cons_succ]
  refine rg_take 4 rfl (by kernel_rfl) (by kernel_rfl) (by kernel_rfl) (fun _ _ _ _ h => h) (by rfl) ⟨_, fun w' hx => by have hcx := hx.load hc1; (go_simp <;> with_reducible rfl), ?_⟩
  simp only [Act.put, List.setIfInBounds_toArray, List.set_cons_zero, List.set_cons_succ]
  refine rg_call 2 (ref_putbytes01 e.ka e.x.key e.kc _ (hin.kr.below hE1) h1) rfl (by kernel_rfl) (by rfl) (by go_simp) ?_
  rintro e2 w2 ⟨A2, c2, rfl, ho2, hb2⟩
  refine ⟨_, rfl, hb2, ?_⟩
  simp only [Act.put, List.setIfInBounds_toArray, List.set_cons_zero, List.set_cons_succ]
  refine rg_call 5 (ref_putbytes01 e.va e.x.val e.vc _ (hin.vr.below (Ext.tr hE1 hb2)) h2) rfl (by kernel_rfl) (by rfl) (by go_simp) ?_
  rintro e3 w3 ⟨A3, c3, rfl, ho3, hb3⟩
  refine ⟨_, rfl, hb3, ?_⟩
  simp only [Act.put, List.setIfInBounds_toArray, List.set_cons_zero, List.set_cons_succ]
  have hE3 := Ext.tr hE1 (Ext.tr hb2 hb3)
  have ho23 := (ho2.below hb3).mono hE1.size
  have hr3 := ho3.rd'
  have hsz := hE3.size
  refine rg_last 6 rfl (by kernel_rfl) (by kernel_rfl) (by rfl) fun K hK => wp_app (.tmp 5) (.tmp 8) 23 rfl elemB w.heap.size A2 (Vint.putBytes e.x.key).length c2 _ rfl A3 (Vint.putBytes e.x.val).length c3 (bvs (Vint.putBytes e.x.val)) rfl D.length HD1.out (bvs D) HD2.out ho23 hr3 (bvs_one _) (by have := HDl.out; omega) (by have := HDl.out; omega) hsz fun A4 c4 w4 ho4 hg4 hr4 => hK _ _ ?_
  simp only [Act.put, List.setIfInBounds_toArray, List.set_cons_zero, List.set_cons_succ]
  refine rg_take 7 rfl (by kernel_rfl) (by kernel_rfl) (by kernel_rfl) (fun _ _ _ _ h => h) (by rfl) ⟨_, fun w' hx => by (go_simp <;> with_reducible rfl), ?_⟩
  simp only [Act.put, List.setIfInBounds_toArray, List.set_cons_zero, List.set_cons_succ]
  refine rg_done (by kernel_rfl) ?_
  go_wp2
  go_ret
  exact ⟨A4, c4, rfl, ho4, below_app hE3 ho23 hg4 hsz⟩

set_option maxRecDepth 100000 in
set_option maxHeartbeats 1000000 in
theorem ref_eputall (A : Option Addr) (l : List EnV) (cap : Nat) (w : World) (hl : RdE w A l) (hc : l.length ≤ 1000000) (ht : Ent.total (l.map EnV.x) ≤ 1000000) :
    Calls Try.prog 37 #[.slice A l.length cap] w fun e' w' => ∃ A' c', e' = .returned (.slice A' (Ent.putAll (l.map EnV.x)).length c') ∧ Own w' w.heap.size 5 1 A' (Ent.putAll (l.map EnV.x)).length c' (bvs (Ent.putAll (l.map EnV.x))) ∧ Below w.heap.size w w' := by
  obtain ⟨m, hm⟩ : ∃ m, m = l.map EnV.x := ⟨_, rfl⟩
  have hml : m.length = l.length := by rw [hm]; simp
  have htot := Ent.putAll_len m
  rw [← hm] at ht ⊢
  have HM := Lib.hid hm
  have Hml := Lib.hid hml
  have htot2 : (Ent.putAll m).length ≤ 30000000 := by omega
  have Htot := Lib.hid htot2
  have Ht := Lib.hid ht
  clear hm hml htot htot2 ht
  go_enter Try.func37, Try.ntmps37
  go_wp2
  go_loopw [3, 4] (fun v i wr => ∃ (k : Nat) (A' : Option Addr) (c' : Nat), k ≤ l.length ∧ i = .int .i64 k ∧ v = .slice A' (Ent.putAll (m.take k)).length c' ∧ Own wr w.heap.size 5 1 A' (Ent.putAll (m.take k)).length c' (bvs (Ent.putAll (m.take k))) ∧ Below w.heap.size w wr) (fun _ i _ => l.length - (intOf i).toNat)
  case atStart => exact ⟨0, none, 0, by omega, rfl, rfl, Own.none_ _ _ _ _ _, Below.refl _ _⟩
  case round =>
    obtain ⟨k, A', c', hk, rfl, rfl, hown, hbw⟩ := hrel
    by_cases h : k < l.length
    · obtain ⟨ad, rfl, hcell, hin⟩ := (hl.below hbw).at_ h
      have hkm : k < m.length := by rw [Hml.out]; exact h
      have hx : Hid (m[k] = l[k].x) := by show _ = _; have := HM.out; subst this; simp
      have hs := Lib.hid (Ent.putAll_snoc m k hkm)
      have hle := Ent.one_total m k hkm
      rw [hx.out] at hs hle
      have hle2 := Ent.putAll_take_le m (k + 1)
      rw [hs.out, List.length_append] at hle2
      have htt := Htot.out
      have ht0 := Ht.out
      have hbnd : (Ent.putAll (m.take k)).length + l[k].x.put.length ≤ 30000000 := by omega
      have hk1 : l[k].x.key.length ≤ 1000000 := by unfold Ent.size at hle; omega
      have hk2 : l[k].x.val.length ≤ 1000000 := by unfold Ent.size at hle; omega
      clear hle hle2 htt ht0
      have hsnl : Hid ((Ent.putAll (m.take (k + 1))).length = (Ent.putAll (m.take k)).length + l[k].x.put.length) := by show _ = _; rw [hs.out, List.length_append]
      have hsnb : Hid (bvs (Ent.putAll (m.take (k + 1))) = bvs (Ent.putAll (m.take k)) ++ bvs l[k].x.put) := by show _ = _; rw [hs.out, bvs_app]
      obtain ⟨d, hd⟩ : ∃ d, d = Ent.putAll (m.take k) := ⟨_, rfl⟩
      obtain ⟨d2, hd2⟩ : ∃ d2, d2 = Ent.putAll (m.take (k + 1)) := ⟨_, rfl⟩
      rw [← hd, ← hd2] at hsnl hsnb
      rw [← hd] at hown hbnd ⊢
      clear hs hd
      have hcx : ∀ j u, (l[k].cells)[j]? = some u → wr.cell? ((ad.add (k * 2)).add j) = some u := fun j u hj => by rw [add_add']; exact hcell j u hj
      have Hcx := Lib.hid hcx
      clear hcell hcx
      go_wp2_with (first | (have hcx := Hcx.out; refine wpList_load_cells rfl 49 (.tmp 14) rfl _ rfl l[k].cells _ hcx Try.underlying49 rfl (einfo _) ?_; clear hcx) )
      have hbx : Ext wr wr := Ext.refl wr
      refine (ref_eput l[k] _ (hin.below hbx) hk1 hk2).mono ?_
      rintro e' w2 ⟨A2, c2, rfl, ho2, hb2⟩
      have hb3 := Ext.tr hbx hb2
      have hown2 := hown.below hb3
      have hbw2 := hbw.trans (hb3.mono hbw.size)
      have hr2 := ho2.rd'
      clear hown ho2 hb2 hbx hb3 hbw Hcx hin
      go_wp2_with (at_builtin; refine wpList_app rfl (.tmp 11) (.tmp 16) 23 rfl elemB w.heap.size A' d.length c' (bvs d) rfl A2 l[k].x.put.length c2 (bvs l[k].x.put) rfl d2.length hsnl.out (bvs d2) hsnb.out hown2 hr2 (bvs_one _) (by rw [hsnl.out]; omega) (by rw [hsnl.out]; omega) hbw2.size ?_; intro A4 c4 w4 ho4 hg4 hr4)
      go_roundw
      case rel => exact ⟨k + 1, A4, c4, by omega, by go_num, by rw [← hd2], by rw [← hd2]; exact ho4, below_app hbw2 hown2 hg4 hbw2.size⟩
      case measure => simp [intOf]; omega
    · have hkl : k = l.length := by omega
      subst hkl
      rw [List.take_of_length_le (by rw [Hml.out]; omega)] at hown ⊢
      go_wp2
      go_ret
      exact ⟨A', c', rfl, hown, hbw⟩

end Go.Proofs.Ytiiekdhlcmaabaa
