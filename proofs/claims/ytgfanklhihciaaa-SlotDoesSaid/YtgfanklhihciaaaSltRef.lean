
/- The document's body of cells in memory (scowref06.Body); contracts: New, sum, Free, Holes. Printed by wip/tools/gen_sltref06.py. -/

import Derived.Test.YtgfanklhihciaaaSltProg

import Derived.Test.YtgfanklhihciaaaFlat

import Derived.Test.YtgfanklhihciaaaEnt

import Derived.Test.YtgfanklhihciaaaReg2

import Derived.Test.YtgfanklhihciaaaRowG

namespace Go.Proofs.Ytgfanklhihciaaa

open Go.RowKit

attribute [local go_sem] Oper.semAt_some

structure ScV where
  pa : Option Addr
  pc : Nat
  x : SCell
def ScV.cells (e : ScV) : Array Value := #[.int .i64 (e.x.pos : Int), .slice e.pa e.x.p.length e.pc]
theorem scone (e : ScV) : e.cells.all (·.oneCell') = true := by simp [ScV.cells, Value.oneCell']
def scs (l : List ScV) : List Value := l.flatMap fun e => e.cells.toList
theorem scell_len (l : List ScV) : ∀ e ∈ l, e.cells.toList.length = 2 := fun _ _ => rfl
theorem scs_len (l : List ScV) : (scs l).length = l.length * 2 := flat_len _ 2 l (scell_len l)
theorem scs_app (l m : List ScV) : scs (l ++ m) = scs l ++ scs m := by simp [scs]
theorem scs_one_cell (l : List ScV) : ∀ u ∈ scs l, u.oneCell' = true := by
  intro u hu
  simp only [scs, List.mem_flatMap, ScV.cells, List.mem_cons, List.not_mem_nil, or_false] at hu
  obtain ⟨e, _, rfl | rfl⟩ := hu <;> rfl
theorem scs_at (l : List ScV) (k : Nat) (h : k < l.length) (j : Nat) (hj : j < 2) : (scs l)[k * 2 + j]? = (l[k].cells)[j]? := by
  rw [scs, flat_at _ 2 l (scell_len l) k h j hj, Array.getElem?_toList]
theorem scs_take (l : List ScV) (k : Nat) : (scs l).take (k * 2) = scs (l.take k) := flat_take _ 2 l (scell_len l) k
theorem scs_drop (l : List ScV) (k : Nat) : (scs l).drop (k * 2) = scs (l.drop k) := flat_drop _ 2 l (scell_len l) k
/-- The document's body in memory. -/
structure MAt (w : World) (g : Nat) (A : Option Addr) (c : Nat) (L : List ScV) (m : SBody) : Prop where
  row : w.heap[g]? = some (.cells #[.int .i64 (m.top : Int), .slice A L.length c] 50 (0, 0))
  own : Own w (g + 1) 54 2 A L.length c (scs L)
  each : ∀ e ∈ L, Own w (g + 1) 5 1 e.pa e.x.p.length e.pc (bvs e.x.p)
  l : L.map ScV.x = m.l
  inv : m.Inv
section

variable {w w' : World} {g : Nat} {A : Option Addr} {c : Nat} {L : List ScV} {m : SBody}

theorem MAt.ext (h : MAt w g A c L m) (hx : Ext w w') : MAt w' g A c L m := ⟨(hx.block _ (lt_of_heap h.row)).trans h.row, h.own.below hx, fun e he => (h.each e he).below hx, h.l, h.inv⟩
theorem MAt.len (h : MAt w g A c L m) : L.length = m.l.length := by rw [← h.l, List.length_map]
theorem MAt.top (h : MAt w g A c L m) : w.cell? ⟨g, 0, none⟩ = some (.int .i64 (m.top : Int)) := by rw [cell_of_row w g 0 _ _ _ h.row]; rfl
theorem MAt.list (h : MAt w g A c L m) : w.cell? ⟨g, 1, none⟩ = some (.slice A L.length c) := by rw [cell_of_row w g 1 _ _ _ h.row]; rfl
theorem MAt.get (h : MAt w g A c L m) {k : Nat} (hk : k < L.length) : L[k].x = m.l[k]'(by rw [← h.len]; exact hk) := by
  have := h.l
  subst_vars
  simp [← this]
/-- Cell k: where it lies. -/
theorem MAt.at_ (h : MAt w g A c L m) {k : Nat} (hk : k < L.length) : ∃ ad, A = some ad ∧ w.cell? (ad.add (k * 2)) = some (.int .i64 (L[k].x.pos : Int)) ∧ w.cell? ⟨(ad.add (k * 2)).block, (ad.add (k * 2)).off + 1, none⟩ = some (.slice L[k].pa L[k].x.p.length L[k].pc) := by
  obtain ⟨ad, e, hc⟩ := h.own.rd.2 (by intro e; have := scs_len L; rw [e] at this; simp at this; omega)
  have key : ∀ j u, (L[k].cells)[j]? = some u → w.cell? ((ad.add (k * 2)).add j) = some u := fun j u hj => by
    have hj2 : j < 2 := (Array.getElem?_eq_some_iff.1 hj).1
    rw [add_add']
    refine hc _ u ?_
    rw [scs_at L k hk j hj2]; exact hj
  exact ⟨ad, e, key 0 _ rfl, key 1 _ rfl⟩
end

theorem ref_snew (w : World) : Calls Try.prog 10 #[] w fun e w' => e = .returned (.pointer (some ⟨w.heap.size, 0, none⟩)) ∧ MAt w' w.heap.size none 0 [] SBody.new ∧ Ext w w' := by
  go_enter Try.func10, Try.ntmps10
  go_wp2
  go_ret
  exact ⟨rfl, ⟨heap_alloc_new w _, Own.none_ _ _ _ _ _, fun e he => by simp at he, rfl, SBody.new_inv⟩, Ext.alloc _ _⟩
set_option maxRecDepth 100000 in
theorem ref_ssum (g : Nat) (A : Option Addr) (c : Nat) (L : List ScV) (m : SBody) (w : World) (h : MAt w g A c L m) : Calls Try.prog 36 #[.pointer (some ⟨g, 0, none⟩)] w fun e w' => e = .returned (.int .i64 (m.sum : Int)) ∧ w = w' := by
  have hn := h.inv.n
  have hs := h.inv.sum
  have hlen := h.len
  have hl := h.list
  obtain ⟨n, hnn⟩ : ∃ n, n = L.length := ⟨_, rfl⟩
  rw [← hnn] at hl hlen
  have Hn := Lib.hid hnn
  have Hlen := Lib.hid hlen
  have hn120 : n ≤ 120 := by omega
  clear hnn hlen
  go_enter Try.func36, Try.ntmps36
  go_wp2
  go_loopw [3, 4] (fun s i wr => ∃ (k : Nat) (sm : Nat), k ≤ n ∧ s = .int .i64 (sm : Int) ∧ i = .int .i64 k ∧ sm = sumL (m.l.take k) ∧ w = wr) (fun _ i _ => n - (intOf i).toNat)
  case atStart => exact ⟨0, 0, by omega, rfl, rfl, rfl, rfl⟩
  case round =>
    obtain ⟨k, sm, hk, rfl, rfl, hsm, rfl⟩ := hrel
    have Hsm := Lib.hid hsm
    have hle : sm ≤ 243 := by have := sumL_take_le m.l k; have : sumL m.l = m.sum := rfl; omega
    clear hsm
    by_cases hkn : k < n
    · obtain ⟨ad, rfl, _, hp⟩ := h.at_ (k := k) (by have := Hn.out; omega)
      have hx := h.get (k := k) (by have := Hn.out; omega)
      have h2 := sumL_take_succ m.l k (by have := Hlen.out; omega)
      rw [← hx] at h2
      obtain ⟨y, hy⟩ : ∃ y, L[k]'(by have := Hn.out; omega) = y := ⟨_, rfl⟩
      rw [hy] at hp h2
      have h3 := sumL_take_le m.l (k + 1)
      have h4 : sumL m.l = m.sum := rfl
      have hsn : sm + y.x.p.length = sumL (m.l.take (k + 1)) := by rw [Hsm.out]; exact h2.symm
      have hsw : IntKind.i64.wrap ((sm : Int) + (y.x.p.length : Int)) = ((sm + y.x.p.length : Nat) : Int) := by rw [IntKind.wrap_i64]; omega
      have Hsn := Lib.hid hsn
      have ik : (0 : Int) ≤ (k : Int) := by omega
      have ik2 : (k : Int) < (n : Int) := by omega
      clear hsn hy hx h2 h3 h4 hs
      go_wp2
      go_roundw
      case rel => exact ⟨k + 1, sm + y.x.p.length, by omega, rfl, by go_num, Hsn.out, by first | trivial | rfl⟩
      case measure => simp [intOf]; omega
    · obtain rfl : k = n := by omega
      have hse : sm = m.sum := by rw [Hsm.out, Hlen.out, List.take_length]; rfl
      go_wp2
      go_ret
      exact ⟨by rw [hse]; rfl, rfl⟩
set_option maxRecDepth 100000 in
theorem ref_sfree (g : Nat) (A : Option Addr) (c : Nat) (L : List ScV) (m : SBody) (w : World) (h : MAt w g A c L m) : Calls Try.prog 26 #[.pointer (some ⟨g, 0, none⟩)] w fun e w' => e = .returned (.int .i64 (m.free : Int)) ∧ Ext w w' := by
  have hn := h.inv.n
  have hs := h.inv.sum
  have hf := h.inv.freeI
  have hl := h.list
  have hlen := h.len
  have hS := ref_ssum g A c L m w.drew (h.ext (Ext.drew w))
  have w1 : IntKind.i64.wrap (2 * (L.length : Int)) = 2 * (L.length : Int) := by rw [IntKind.wrap_i64]; omega
  have w2 : IntKind.i64.wrap (241 - 2 * (L.length : Int)) = 241 - 2 * (L.length : Int) := by rw [IntKind.wrap_i64]; omega
  have w3 : IntKind.i64.wrap (241 - 2 * (L.length : Int) - (m.sum : Int)) = (m.free : Int) := by rw [IntKind.wrap_i64, hf]; omega
  have hld : w.drew.cell? _ = _ := hl
  clear hlen hf
  go_enter Try.func26, Try.ntmps26
  go_wp2_with fail
  refine rg_start (by kernel_rfl) ?_
  refine rg_take 0 rfl (by kernel_rfl) (by kernel_rfl) (by kernel_rfl) (fun _ _ _ _ h => h) (by rfl) ⟨_, fun w' hx => by (go_simp <;> with_reducible rfl), ?_⟩
  simp only [Act.put, List.setIfInBounds_toArray, List.set_cons_zero, List.set_cons_succ]
  refine rg_take 1 rfl (by kernel_rfl) (by kernel_rfl) (by kernel_rfl) (fun _ _ _ _ h => h) (by rfl) ⟨_, fun w' hx => by (go_simp <;> with_reducible rfl), ?_⟩   -- t4 := nilCheck t3
  simp only [Act.put, List.setIfInBounds_toArray, List.set_cons_zero, List.set_cons_succ]
  refine rg_take 2 rfl (by kernel_rfl) (by kernel_rfl) (by kernel_rfl) (fun _ _ _ _ h => h) (by rfl) ⟨_, fun w' hx => by (go_simp <;> with_reducible rfl), ?_⟩   -- t5 := fieldAddr 50 t4 1
  simp only [Act.put, List.setIfInBounds_toArray, List.set_cons_zero, List.set_cons_succ]
  refine rg_take 3 rfl (by kernel_rfl) (by kernel_rfl) (by kernel_rfl) (fun _ _ _ _ h => h) (by rfl) ⟨_, fun w' hx => by have hcx := hx.load hld; (go_simp <;> with_reducible rfl), ?_⟩
  simp only [Act.put, List.setIfInBounds_toArray, List.set_cons_zero, List.set_cons_succ]
  refine rg_take 4 rfl (by kernel_rfl) (by kernel_rfl) (by kernel_rfl) (fun _ _ _ _ h => h) (by rfl) ⟨_, fun w' hx => by (go_simp <;> with_reducible rfl), ?_⟩   -- t7 := len(t6)
  simp only [Act.put, List.setIfInBounds_toArray, List.set_cons_zero, List.set_cons_succ]
  refine rg_take 5 rfl (by kernel_rfl) (by kernel_rfl) (by kernel_rfl) (fun _ _ _ _ h => h) (by rfl) ⟨.int .i64 (2 * (L.length : Int)), fun w' hx => by (go_simp <;> with_reducible rfl), ?_⟩
  simp only [Act.put, List.setIfInBounds_toArray, List.set_cons_zero, List.set_cons_succ]
  refine rg_take 6 rfl (by kernel_rfl) (by kernel_rfl) (by kernel_rfl) (fun _ _ _ _ h => h) (by rfl) ⟨.int .i64 (241 - 2 * (L.length : Int)), fun w' hx => by (go_simp <;> with_reducible rfl), ?_⟩
  simp only [Act.put, List.setIfInBounds_toArray, List.set_cons_zero, List.set_cons_succ]
  refine rg_take 7 rfl (by kernel_rfl) (by kernel_rfl) (by kernel_rfl) (fun _ _ _ _ h => h) (by rfl) ⟨_, fun w' hx => by (go_simp <;> with_reducible rfl), ?_⟩
  simp only [Act.put, List.setIfInBounds_toArray, List.set_cons_zero, List.set_cons_succ]
  refine rg_call 8 hS rfl (by kernel_rfl) (by rfl) (by go_simp) ?_
  rintro e w' ⟨rfl, rfl⟩
  refine ⟨_, rfl, Ext.refl _, ?_⟩
  simp only [Act.put, List.setIfInBounds_toArray, List.set_cons_zero, List.set_cons_succ]
  refine rg_take 9 rfl (by kernel_rfl) (by kernel_rfl) (by kernel_rfl) (fun _ _ _ _ h => h) (by rfl) ⟨.int .i64 (m.free : Int), fun w' hx => by (go_simp <;> with_reducible rfl), ?_⟩
  simp only [Act.put, List.setIfInBounds_toArray, List.set_cons_zero, List.set_cons_succ]
  refine rg_take 10 rfl (by kernel_rfl) (by kernel_rfl) (by kernel_rfl) (fun _ _ _ _ h => h) (by rfl) ⟨_, fun w' hx => by (go_simp <;> with_reducible rfl), ?_⟩
  simp only [Act.put, List.setIfInBounds_toArray, List.set_cons_zero, List.set_cons_succ]
  refine rg_done (by kernel_rfl) ?_
  go_wp2_with fail
  go_ret
  exact ⟨rfl, Ext.drew w⟩
set_option maxRecDepth 100000 in
theorem ref_sholes (g : Nat) (A : Option Addr) (c : Nat) (L : List ScV) (m : SBody) (w : World) (h : MAt w g A c L m) : Calls Try.prog 27 #[.pointer (some ⟨g, 0, none⟩)] w fun e w' => e = .returned (.int .i64 (m.holes : Int)) ∧ Ext w w' := by
  have hs := h.inv.sum
  have hf := h.inv.holesI
  have hl := h.top
  have hS := ref_ssum g A c L m w.drew (h.ext (Ext.drew w))
  have w2 : IntKind.i64.wrap (243 - (m.top : Int)) = 243 - (m.top : Int) := by rw [IntKind.wrap_i64]; omega
  have w3 : IntKind.i64.wrap (243 - (m.top : Int) - (m.sum : Int)) = (m.holes : Int) := by rw [IntKind.wrap_i64, hf]; omega
  have hld : w.drew.cell? _ = _ := hl
  clear hf
  go_enter Try.func27, Try.ntmps27
  go_wp2_with fail
  refine rg_start (by kernel_rfl) ?_
  refine rg_take 0 rfl (by kernel_rfl) (by kernel_rfl) (by kernel_rfl) (fun _ _ _ _ h => h) (by rfl) ⟨_, fun w' hx => by (go_simp <;> with_reducible rfl), ?_⟩
  simp only [Act.put, List.setIfInBounds_toArray, List.set_cons_zero, List.set_cons_succ]
  refine rg_take 1 rfl (by kernel_rfl) (by kernel_rfl) (by kernel_rfl) (fun _ _ _ _ h => h) (by rfl) ⟨_, fun w' hx => by (go_simp <;> with_reducible rfl), ?_⟩   -- t4 := nilCheck t3
  simp only [Act.put, List.setIfInBounds_toArray, List.set_cons_zero, List.set_cons_succ]
  refine rg_take 2 rfl (by kernel_rfl) (by kernel_rfl) (by kernel_rfl) (fun _ _ _ _ h => h) (by rfl) ⟨_, fun w' hx => by (go_simp <;> with_reducible rfl), ?_⟩   -- t5 := fieldAddr 50 t4 0
  simp only [Act.put, List.setIfInBounds_toArray, List.set_cons_zero, List.set_cons_succ]
  refine rg_take 3 rfl (by kernel_rfl) (by kernel_rfl) (by kernel_rfl) (fun _ _ _ _ h => h) (by rfl) ⟨_, fun w' hx => by have hcx := hx.load hld; (go_simp <;> with_reducible rfl), ?_⟩
  simp only [Act.put, List.setIfInBounds_toArray, List.set_cons_zero, List.set_cons_succ]
  refine rg_take 4 rfl (by kernel_rfl) (by kernel_rfl) (by kernel_rfl) (fun _ _ _ _ h => h) (by rfl) ⟨.int .i64 (243 - (m.top : Int)), fun w' hx => by (go_simp <;> with_reducible rfl), ?_⟩
  simp only [Act.put, List.setIfInBounds_toArray, List.set_cons_zero, List.set_cons_succ]
  refine rg_take 5 rfl (by kernel_rfl) (by kernel_rfl) (by kernel_rfl) (fun _ _ _ _ h => h) (by rfl) ⟨_, fun w' hx => by (go_simp <;> with_reducible rfl), ?_⟩
  simp only [Act.put, List.setIfInBounds_toArray, List.set_cons_zero, List.set_cons_succ]
  refine rg_call 6 hS rfl (by kernel_rfl) (by rfl) (by go_simp) ?_
  rintro e w' ⟨rfl, rfl⟩
  refine ⟨_, rfl, Ext.refl _, ?_⟩
  simp only [Act.put, List.setIfInBounds_toArray, List.set_cons_zero, List.set_cons_succ]
  refine rg_take 7 rfl (by kernel_rfl) (by kernel_rfl) (by kernel_rfl) (fun _ _ _ _ h => h) (by rfl) ⟨.int .i64 (m.holes : Int), fun w' hx => by (go_simp <;> with_reducible rfl), ?_⟩
  simp only [Act.put, List.setIfInBounds_toArray, List.set_cons_zero, List.set_cons_succ]
  refine rg_take 8 rfl (by kernel_rfl) (by kernel_rfl) (by kernel_rfl) (fun _ _ _ _ h => h) (by rfl) ⟨_, fun w' hx => by (go_simp <;> with_reducible rfl), ?_⟩
  simp only [Act.put, List.setIfInBounds_toArray, List.set_cons_zero, List.set_cons_succ]
  refine rg_done (by kernel_rfl) ?_
  go_wp2_with fail
  go_ret
  exact ⟨rfl, Ext.drew w⟩
end Go.Proofs.Ytgfanklhihciaaa
