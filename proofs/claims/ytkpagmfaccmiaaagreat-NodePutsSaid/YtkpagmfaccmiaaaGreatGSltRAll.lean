
/- Texts laid together by wip/tools/lay2.py: SltRef SltRow Deed SltNil SltLive SltLaw SltList SltRDel SltRPack SltRIns SltRBytes. -/

import Derived.Test.YtkpagmfaccmiaaaGreatGSltAll

import Derived.Test.YtkpagmfaccmiaaaGreatFlat

import Derived.Test.YtkpagmfaccmiaaaGreatEnt

import Derived.Test.YtkpagmfaccmiaaaGreatReg2

import Derived.Test.YtkpagmfaccmiaaaGreatRowG

import Derived.Test.YtkpagmfaccmiaaaGreatStrCmp

import Derived.Test.YtkpagmfaccmiaaaGreatReg7

import Derived.Test.YtkpagmfaccmiaaaGreatSlCut

set_option linter.unusedVariables false

/- The document's body of cells in memory (scowref06.Body); contracts: New, sum, Free, Holes. Printed by wip/tools/gen_sltref06.py. -/

namespace Go.Proofs.YtkpagmfaccmiaaaGreat

open Go.RowKit

attribute [local go_sem] Oper.semAt_some

structure ScV where
  pa : Option Addr
  pc : Nat
  x : SCell
def ScV.cells (e : ScV) : Array Value := #[.int .i64 (e.x.pos : Int), .slice e.pa e.x.p.length e.pc]
theorem scone (e : ScV) : e.cells.all (·.oneCell') = true := by simp [ScV.cells, Value.oneCell']
def scs (l : List ScV) : List Value := l.flatMap fun e => e.cells.toList
theorem scell_len (l : List ScV) : ∀ e ∈ l, e.cells.toList.length = 2 := fun _ _ => rfl
theorem scs_len (l : List ScV) : (scs l).length = l.length * 2 := flat_len _ 2 l (scell_len l)
theorem scs_app (l m : List ScV) : scs (l ++ m) = scs l ++ scs m := by simp [scs]
theorem scs_one_cell (l : List ScV) : ∀ u ∈ scs l, u.oneCell' = true := by
  intro u hu
  simp only [scs, List.mem_flatMap, ScV.cells, List.mem_cons, List.not_mem_nil, or_false] at hu
  obtain ⟨e, _, rfl | rfl⟩ := hu <;> rfl
theorem scs_at (l : List ScV) (k : Nat) (h : k < l.length) (j : Nat) (hj : j < 2) : (scs l)[k * 2 + j]? = (l[k].cells)[j]? := by
  rw [scs, flat_at _ 2 l (scell_len l) k h j hj, Array.getElem?_toList]
theorem scs_take (l : List ScV) (k : Nat) : (scs l).take (k * 2) = scs (l.take k) := flat_take _ 2 l (scell_len l) k
theorem scs_drop (l : List ScV) (k : Nat) : (scs l).drop (k * 2) = scs (l.drop k) := flat_drop _ 2 l (scell_len l) k
/-- The document's body in memory. -/
structure MAt (w : World) (g : Nat) (A : Option Addr) (c : Nat) (L : List ScV) (m : SBody) : Prop where
  row : w.heap[g]? = some (.cells #[.int .i64 (m.top : Int), .slice A L.length c] 105 (0, 0))
  own : Own w (g + 1) 107 2 A L.length c (scs L)
  each : ∀ e ∈ L, Own w (g + 1) 5 1 e.pa e.x.p.length e.pc (bvs e.x.p)
  l : L.map ScV.x = m.l
  inv : m.Inv
section

variable {w w' : World} {g : Nat} {A : Option Addr} {c : Nat} {L : List ScV} {m : SBody}

theorem MAt.ext (h : MAt w g A c L m) (hx : Ext w w') : MAt w' g A c L m := ⟨(hx.block _ (lt_of_heap h.row)).trans h.row, h.own.below hx, fun e he => (h.each e he).below hx, h.l, h.inv⟩
theorem MAt.len (h : MAt w g A c L m) : L.length = m.l.length := by rw [← h.l, List.length_map]
theorem MAt.top (h : MAt w g A c L m) : w.cell? ⟨g, 0, none⟩ = some (.int .i64 (m.top : Int)) := by rw [cell_of_row w g 0 _ _ _ h.row]; rfl
theorem MAt.list (h : MAt w g A c L m) : w.cell? ⟨g, 1, none⟩ = some (.slice A L.length c) := by rw [cell_of_row w g 1 _ _ _ h.row]; rfl
theorem MAt.get (h : MAt w g A c L m) {k : Nat} (hk : k < L.length) : L[k].x = m.l[k]'(by rw [← h.len]; exact hk) := by
  have := h.l
  subst_vars
  simp [← this]
/-- Cell k: where it lies. -/
theorem MAt.at_ (h : MAt w g A c L m) {k : Nat} (hk : k < L.length) : ∃ ad, A = some ad ∧ w.cell? (ad.add (k * 2)) = some (.int .i64 (L[k].x.pos : Int)) ∧ w.cell? ⟨(ad.add (k * 2)).block, (ad.add (k * 2)).off + 1, none⟩ = some (.slice L[k].pa L[k].x.p.length L[k].pc) := by
  obtain ⟨ad, e, hc⟩ := h.own.rd.2 (by intro e; have := scs_len L; rw [e] at this; simp at this; omega)
  have key : ∀ j u, (L[k].cells)[j]? = some u → w.cell? ((ad.add (k * 2)).add j) = some u := fun j u hj => by
    have hj2 : j < 2 := (Array.getElem?_eq_some_iff.1 hj).1
    rw [add_add']
    refine hc _ u ?_
    rw [scs_at L k hk j hj2]; exact hj
  exact ⟨ad, e, key 0 _ rfl, key 1 _ rfl⟩
end

theorem ref_snew (w : World) : Calls Tryz.prog 52 #[] w fun e w' => e = .returned (.pointer (some ⟨w.heap.size, 0, none⟩)) ∧ MAt w' w.heap.size none 0 [] SBody.new ∧ Ext w w' := by
  go_enter Tryz.func52, Tryz.ntmps52
  go_wp2
  go_ret
  exact ⟨rfl, ⟨heap_alloc_new w _, Own.none_ _ _ _ _ _, fun e he => by simp at he, rfl, SBody.new_inv⟩, Ext.alloc _ _⟩
set_option maxRecDepth 100000 in
theorem ref_ssum (g : Nat) (A : Option Addr) (c : Nat) (L : List ScV) (m : SBody) (w : World) (h : MAt w g A c L m) : Calls Tryz.prog 94 #[.pointer (some ⟨g, 0, none⟩)] w fun e w' => e = .returned (.int .i64 (m.sum : Int)) ∧ w = w' := by
  have hn := h.inv.n
  have hs := h.inv.sum
  have hlen := h.len
  have hl := h.list
  obtain ⟨n, hnn⟩ : ∃ n, n = L.length := ⟨_, rfl⟩
  rw [← hnn] at hl hlen
  have Hn := Lib.hid hnn
  have Hlen := Lib.hid hlen
  have hn120 : n ≤ 120 := by omega
  clear hnn hlen
  go_enter Tryz.func94, Tryz.ntmps94
  go_wp2
  go_loopw [3, 4] (fun s i wr => ∃ (k : Nat) (sm : Nat), k ≤ n ∧ s = .int .i64 (sm : Int) ∧ i = .int .i64 k ∧ sm = sumL (m.l.take k) ∧ w = wr) (fun _ i _ => n - (intOf i).toNat)
  case atStart => exact ⟨0, 0, by omega, rfl, rfl, rfl, rfl⟩
  case round =>
    obtain ⟨k, sm, hk, rfl, rfl, hsm, rfl⟩ := hrel
    have Hsm := Lib.hid hsm
    have hle : sm ≤ 243 := by have := sumL_take_le m.l k; have : sumL m.l = m.sum := rfl; omega
    clear hsm
    by_cases hkn : k < n
    · obtain ⟨ad, rfl, _, hp⟩ := h.at_ (k := k) (by have := Hn.out; omega)
      have hx := h.get (k := k) (by have := Hn.out; omega)
      have h2 := sumL_take_succ m.l k (by have := Hlen.out; omega)
      rw [← hx] at h2
      obtain ⟨y, hy⟩ : ∃ y, L[k]'(by have := Hn.out; omega) = y := ⟨_, rfl⟩
      rw [hy] at hp h2
      have h3 := sumL_take_le m.l (k + 1)
      have h4 : sumL m.l = m.sum := rfl
      have hsn : sm + y.x.p.length = sumL (m.l.take (k + 1)) := by rw [Hsm.out]; exact h2.symm
      have hsw : IntKind.i64.wrap ((sm : Int) + (y.x.p.length : Int)) = ((sm + y.x.p.length : Nat) : Int) := by rw [IntKind.wrap_i64]; omega
      have Hsn := Lib.hid hsn
      have ik : (0 : Int) ≤ (k : Int) := by omega
      have ik2 : (k : Int) < (n : Int) := by omega
      clear hsn hy hx h2 h3 h4 hs
      go_wp2
      go_roundw
      case rel => exact ⟨k + 1, sm + y.x.p.length, by omega, rfl, by go_num, Hsn.out, by first | trivial | rfl⟩
      case measure => simp [intOf]; omega
    · obtain rfl : k = n := by omega
      have hse : sm = m.sum := by rw [Hsm.out, Hlen.out, List.take_length]; rfl
      go_wp2
      go_ret
      exact ⟨by rw [hse]; rfl, rfl⟩
set_option maxRecDepth 100000 in
theorem ref_sfree (g : Nat) (A : Option Addr) (c : Nat) (L : List ScV) (m : SBody) (w : World) (h : MAt w g A c L m) : Calls Tryz.prog 78 #[.pointer (some ⟨g, 0, none⟩)] w fun e w' => e = .returned (.int .i64 (m.free : Int)) ∧ Ext w w' := by
  have hn := h.inv.n
  have hs := h.inv.sum
  have hf := h.inv.freeI
  have hl := h.list
  have hlen := h.len
  have hS := ref_ssum g A c L m w.drew (h.ext (Ext.drew w))
  have w1 : IntKind.i64.wrap (2 * (L.length : Int)) = 2 * (L.length : Int) := by rw [IntKind.wrap_i64]; omega
  have w2 : IntKind.i64.wrap (241 - 2 * (L.length : Int)) = 241 - 2 * (L.length : Int) := by rw [IntKind.wrap_i64]; omega
  have w3 : IntKind.i64.wrap (241 - 2 * (L.length : Int) - (m.sum : Int)) = (m.free : Int) := by rw [IntKind.wrap_i64, hf]; omega
  have hld : w.drew.cell? _ = _ := hl
  clear hlen hf
  go_enter Tryz.func78, Tryz.ntmps78
  go_wp2_with fail
  refine rg_start (by kernel_rfl) ?_
  refine rg_take 0 rfl (by kernel_rfl) (by kernel_rfl) (by kernel_rfl) (fun _ _ _ _ h => h) (by rfl) ⟨_, fun w' hx => by (go_simp <;> with_reducible rfl), ?_⟩
  simp only [Act.put, List.setIfInBounds_toArray, List.set_cons_zero, List.set_cons_succ]
  refine rg_take 1 rfl (by kernel_rfl) (by kernel_rfl) (by kernel_rfl) (fun _ _ _ _ h => h) (by rfl) ⟨_, fun w' hx => by (go_simp <;> with_reducible rfl), ?_⟩   -- t4 := nilCheck t3
  simp only [Act.put, List.setIfInBounds_toArray, List.set_cons_zero, List.set_cons_succ]
  refine rg_take 2 rfl (by kernel_rfl) (by kernel_rfl) (by kernel_rfl) (fun _ _ _ _ h => h) (by rfl) ⟨_, fun w' hx => by (go_simp <;> with_reducible rfl), ?_⟩   -- t5 := fieldAddr 50 t4 1
  simp only [Act.put, List.setIfInBounds_toArray, List.set_cons_zero, List.set_cons_succ]
  refine rg_take 3 rfl (by kernel_rfl) (by kernel_rfl) (by kernel_rfl) (fun _ _ _ _ h => h) (by rfl) ⟨_, fun w' hx => by have hcx := hx.load hld; (go_simp <;> with_reducible rfl), ?_⟩
  simp only [Act.put, List.setIfInBounds_toArray, List.set_cons_zero, List.set_cons_succ]
  refine rg_take 4 rfl (by kernel_rfl) (by kernel_rfl) (by kernel_rfl) (fun _ _ _ _ h => h) (by rfl) ⟨_, fun w' hx => by (go_simp <;> with_reducible rfl), ?_⟩   -- t7 := len(t6)
  simp only [Act.put, List.setIfInBounds_toArray, List.set_cons_zero, List.set_cons_succ]
  refine rg_take 5 rfl (by kernel_rfl) (by kernel_rfl) (by kernel_rfl) (fun _ _ _ _ h => h) (by rfl) ⟨.int .i64 (2 * (L.length : Int)), fun w' hx => by (go_simp <;> with_reducible rfl), ?_⟩
  simp only [Act.put, List.setIfInBounds_toArray, List.set_cons_zero, List.set_cons_succ]
  refine rg_take 6 rfl (by kernel_rfl) (by kernel_rfl) (by kernel_rfl) (fun _ _ _ _ h => h) (by rfl) ⟨.int .i64 (241 - 2 * (L.length : Int)), fun w' hx => by (go_simp <;> with_reducible rfl), ?_⟩
  simp only [Act.put, List.setIfInBounds_toArray, List.set_cons_zero, List.set_cons_succ]
  refine rg_take 7 rfl (by kernel_rfl) (by kernel_rfl) (by kernel_rfl) (fun _ _ _ _ h => h) (by rfl) ⟨_, fun w' hx => by (go_simp <;> with_reducible rfl), ?_⟩
  simp only [Act.put, List.setIfInBounds_toArray, List.set_cons_zero, List.set_cons_succ]
  refine rg_call 8 hS rfl (by kernel_rfl) (by rfl) (by go_simp) ?_
  rintro e w' ⟨rfl, rfl⟩
  refine ⟨_, rfl, Ext.refl _, ?_⟩
  simp only [Act.put, List.setIfInBounds_toArray, List.set_cons_zero, List.set_cons_succ]
  refine rg_take 9 rfl (by kernel_rfl) (by kernel_rfl) (by kernel_rfl) (fun _ _ _ _ h => h) (by rfl) ⟨.int .i64 (m.free : Int), fun w' hx => by (go_simp <;> with_reducible rfl), ?_⟩
  simp only [Act.put, List.setIfInBounds_toArray, List.set_cons_zero, List.set_cons_succ]
  refine rg_take 10 rfl (by kernel_rfl) (by kernel_rfl) (by kernel_rfl) (fun _ _ _ _ h => h) (by rfl) ⟨_, fun w' hx => by (go_simp <;> with_reducible rfl), ?_⟩
  simp only [Act.put, List.setIfInBounds_toArray, List.set_cons_zero, List.set_cons_succ]
  refine rg_done (by kernel_rfl) ?_
  go_wp2_with fail
  go_ret
  exact ⟨rfl, Ext.drew w⟩
end Go.Proofs.YtkpagmfaccmiaaaGreat

/- The document's body in memory (layer 6): its row and its list of cells while they change. -/

namespace Go.Proofs.YtkpagmfaccmiaaaGreat

open Go.RowKit

/-- The row of a body and the cells of its list, whatever they hold. -/
structure MC (w : World) (g : Nat) (A : Option Addr) (c : Nat) (L : List ScV) (t : Nat) : Prop where
  row : w.heap[g]? = some (.cells #[.int .i64 (t : Int), .slice A L.length c] 105 (0, 0))
  own : Own w (g + 1) 107 2 A L.length c (scs L)
  each : ∀ e ∈ L, Own w (g + 1) 5 1 e.pa e.x.p.length e.pc (bvs e.x.p)
theorem MAt.mc {w : World} {g : Nat} {A : Option Addr} {c : Nat} {L : List ScV} {m : SBody} (h : MAt w g A c L m) : MC w g A c L m.top := ⟨h.row, h.own, h.each⟩
theorem Own.row_ge {w : World} {B s n c k : Nat} {e : TypeId} {A : Option Addr} {xs : List Value} (h : Own w B e s A n c xs) (hk : ownRow A c = some k) : B ≤ k ∧ ∃ cur, w.heap[k]? = some (.cells cur e (0, 0)) := by
  unfold ownRow at hk
  split at hk
  · cases hk
  · rename_i hc
    rcases h.mem with h0 | ⟨g', off, cur, hA, hb, hg, _⟩
    · exact absurd h0 hc
    · rw [hA] at hk
      injection hk with hk
      have : g' = k := hk
      subst this
      exact ⟨hb, cur, hg⟩
theorem grown_at (w : World) (ad : Addr) (j : Nat) (v : Value) : w.grownBy (w.setCell (ad.add j) v) (some ad.block) := ⟨rfl, rfl, rfl, by simp [World.setCell], fun i _ hn => Below.heap_setCell w (ad.add j) v i (fun e => hn (by rw [e, add_block]))⟩
section

variable {w w' : World} {g : Nat} {A : Option Addr} {c : Nat} {L : List ScV} {t : Nat}

theorem MC.at_ (h : MC w g A c L t) {k : Nat} (hk : k < L.length) : ∃ ad, A = some ad ∧ w.cell? (ad.add (k * 2)) = some (.int .i64 (L[k].x.pos : Int)) ∧ w.cell? ⟨(ad.add (k * 2)).block, (ad.add (k * 2)).off + 1, none⟩ = some (.slice L[k].pa L[k].x.p.length L[k].pc) := by
  obtain ⟨ad, e, hc⟩ := h.own.rd.2 (by intro e; have := scs_len L; rw [e] at this; simp at this; omega)
  have key : ∀ j u, (L[k].cells)[j]? = some u → w.cell? ((ad.add (k * 2)).add j) = some u := fun j u hj => by
    have hj2 : j < 2 := (Array.getElem?_eq_some_iff.1 hj).1
    rw [add_add']
    refine hc _ u ?_
    rw [scs_at L k hk j hj2]; exact hj
  exact ⟨ad, e, key 0 _ rfl, key 1 _ rfl⟩
theorem MC.top (h : MC w g A c L t) : w.cell? ⟨g, 0, none⟩ = some (.int .i64 (t : Int)) := by rw [cell_of_row w g 0 _ _ _ h.row]; rfl
theorem MC.list (h : MC w g A c L t) : w.cell? ⟨g, 1, none⟩ = some (.slice A L.length c) := by rw [cell_of_row w g 1 _ _ _ h.row]; rfl
theorem MC.frozen (h : MC w g A c L t) (j : Nat) : w.frozen? ⟨g, j, none⟩ = false := frozen_of_row w g j _ _ h.row
theorem MC.ext (h : MC w g A c L t) (hx : Ext w w') : MC w' g A c L t := ⟨(hx.block _ (lt_of_heap h.row)).trans h.row, h.own.below hx, fun e he => (h.each e he).below hx⟩
theorem Own.off {B s n c : Nat} {e : TypeId} {xs : List Value} {B' : Nat} (h : Own w B e s A n c xs) (hg : w.grownBy w' (some B')) (hB : B' < B) : Own w' B e s A n c xs := by
  refine h.kept hg fun k hk e2 => ?_
  injection e2 with e2
  have := (h.row_ge hk).1
  omega
/-- The place where the cells begin is stored. -/
theorem MC.setTop (h : MC w g A c L t) (t' : Nat) : MC (w.setCell ⟨g, 0, none⟩ (.int .i64 (t' : Int))) g A c L t' := by
  have hg := grown_cell w g 0 (.int .i64 (t' : Int))
  refine ⟨?_, h.own.off hg (by omega), fun e he => (h.each e he).off hg (by omega)⟩
  rw [heap_setCell_same w g 0 _ _ _ h.row]
  rfl
/-- Another list of cells is stored. -/
theorem MC.setList (h : MC w g A c L t) {A' : Option Addr} {c' : Nat} {L' : List ScV} (ho : Own w (g + 1) 107 2 A' L'.length c' (scs L')) (he : ∀ e ∈ L', Own w (g + 1) 5 1 e.pa e.x.p.length e.pc (bvs e.x.p)) :
    MC (w.setCell ⟨g, 1, none⟩ (.slice A' L'.length c')) g A' c' L' t := by
  have hg := grown_cell w g 1 (.slice A' L'.length c')
  refine ⟨?_, ho.off hg (by omega), fun e h => (he e h).off hg (by omega)⟩
  rw [heap_setCell_same w g 1 _ _ _ h.row]
  rfl
/-- The place of cell k is stored. -/
theorem MC.setAt (h : MC w g A c L t) {k : Nat} (hk : k < L.length) {ad : Addr} (hA : A = some ad) (v : Nat) :
    MC (w.setCell (ad.add (k * 2)) (.int .i64 (v : Int))) g A c (L.set k ⟨L[k].pa, L[k].pc, ⟨v, L[k].x.p⟩⟩) t ∧ g < ad.block ∧ w.frozen? (ad.add (k * 2)) = false := by
  subst hA
  rcases h.own.mem with h0 | ⟨gb, off, cur, hA, hb, hcur, hoff, hseg⟩
  · have := h.own.nc; omega
  · injection hA with hA
    subst hA
    have hg := grown_cell w gb (off + k * 2) (.int .i64 (v : Int))
    have hnc := h.own.nc
    have hadd : (⟨gb, off, none⟩ : Addr).add (k * 2) = ⟨gb, off + k * 2, none⟩ := by simp [Addr.add]
    rw [hadd]
    refine ⟨⟨?_, ?_, ?_⟩, by show g < gb; omega, frozen_of_row w gb (off + k * 2) _ _ hcur⟩
    · rw [List.length_set]
      exact (hg.block g (lt_of_heap h.row) (fun e => by injection e with e; omega)).trans h.row
    · rw [List.length_set]
      refine ⟨by rw [scs_len, List.length_set], hnc, h.own.cm, .inr ⟨gb, off, cur.setIfInBounds (off + k * 2) (.int .i64 (v : Int)), rfl, hb, heap_setCell_same w gb (off + k * 2) _ _ _ hcur, by rw [Array.size_setIfInBounds]; exact hoff, ?_⟩⟩
      have hsl := scs_len L
      refine List.ext_getElem? fun j => ?_
      have hseg2 : ∀ j, j < L.length * 2 → cur[off + j]? = (scs L)[j]? := fun j hj => by
        rw [← hseg, List.getElem?_take, if_pos hj, List.getElem?_drop, Array.getElem?_toList]
      by_cases hj : j < L.length * 2
      · rw [List.getElem?_take, if_pos hj, List.getElem?_drop, Array.getElem?_toList, Array.getElem?_setIfInBounds]
        have hj2 : j / 2 < L.length := by omega
        have hjd : j = j / 2 * 2 + j % 2 := by omega
        have e1 : (scs (L.set k ⟨L[k].pa, L[k].pc, ⟨v, L[k].x.p⟩⟩))[j]? = ((L.set k ⟨L[k].pa, L[k].pc, ⟨v, L[k].x.p⟩⟩)[j / 2]'(by rw [List.length_set]; exact hj2)).cells[j % 2]? := by
          conv => lhs; rw [hjd]
          exact scs_at _ _ (by rw [List.length_set]; exact hj2) _ (by omega)
        have e2 : cur[off + j]? = (L[j / 2].cells)[j % 2]? := by
          rw [hseg2 j hj]
          conv => lhs; rw [hjd]
          exact scs_at _ _ hj2 _ (by omega)
        rw [e1, List.getElem_set]
        by_cases hk2 : k = j / 2
        · subst hk2
          by_cases hr : j % 2 = 0
          · have : off + j / 2 * 2 = off + j := by omega
            have hlt : off + j < cur.size := by omega
            rw [if_pos this, if_pos (by omega), if_pos rfl, hr]
            rfl
          · have h1 : j % 2 = 1 := by omega
            rw [if_neg (by omega), if_pos rfl, e2, h1]
            rfl
        · rw [if_neg (by omega), if_neg hk2, e2]
      · rw [List.getElem?_take, if_neg hj, List.getElem?_eq_none]
        rw [scs_len, List.length_set]
        omega
    · intro e he
      have key : ∀ e' ∈ L, Own (w.setCell ⟨gb, off + k * 2, none⟩ (.int .i64 (v : Int))) (g + 1) 5 1 e'.pa e'.x.p.length e'.pc (bvs e'.x.p) := fun e' he' => by
        refine (h.each e' he').kept hg fun j hj e2 => ?_
        injection e2 with e2
        subst e2
        obtain ⟨_, cur2, h2⟩ := (h.each e' he').row_ge hj
        rw [hcur] at h2
        injection h2 with h2
        injection h2 with _ h2
        exact absurd h2 (by decide)
      rcases List.mem_or_eq_of_mem_set he with he | rfl
      · exact key e he
      · exact key L[k] (List.getElem_mem hk)
end

end Go.Proofs.YtkpagmfaccmiaaaGreat

/- Words for memory: deeds (kind, place, bytes), lists of them. -/

namespace Go.Proofs.YtkpagmfaccmiaaaGreat

open Go.RowKit

structure Deed where
  kind : Int
  i : Int
  p : List UInt8
structure DeV where
  pa : Option Addr
  pc : Nat
  x : Deed
def DeV.cells (e : DeV) : Array Value := #[.int .i64 e.x.kind, .int .i64 e.x.i, .slice e.pa e.x.p.length e.pc]
def DeV.val (e : DeV) : Value := .agg e.cells
structure DeV.In (w : World) (e : DeV) : Prop where
  pr : RdB w e.pa e.x.p
  cap : e.x.p.length ≤ e.pc
  wk : -9223372036854775808 ≤ e.x.kind ∧ e.x.kind < 9223372036854775808
  wi : -9223372036854775808 ≤ e.x.i ∧ e.x.i < 9223372036854775808
theorem DeV.In.below {w w' : World} {e : DeV} (h : e.In w) (hb : Below w.heap.size w w') : e.In w' := ⟨h.pr.below hb, h.cap, h.wk, h.wi⟩
theorem done_ (e : DeV) : e.cells.all (·.oneCell') = true := by simp [DeV.cells, Value.oneCell']
/-- The cells of a list of deeds. -/
def dcs (l : List DeV) : List Value := l.flatMap fun e => e.cells.toList
theorem dcell_len (l : List DeV) : ∀ e ∈ l, e.cells.toList.length = 3 := fun _ _ => rfl
theorem dcs_len (l : List DeV) : (dcs l).length = l.length * 3 := flat_len _ 3 l (dcell_len l)
theorem dcs_app (l m : List DeV) : dcs (l ++ m) = dcs l ++ dcs m := by simp [dcs]
theorem dcs_one_cell (l : List DeV) : ∀ u ∈ dcs l, u.oneCell' = true := by
  intro u hu
  simp only [dcs, List.mem_flatMap, DeV.cells, List.mem_cons, List.not_mem_nil, or_false] at hu
  obtain ⟨e, _, rfl | rfl | rfl⟩ := hu <;> rfl
theorem dcs_at (l : List DeV) (k : Nat) (h : k < l.length) (j : Nat) (hj : j < 3) : (dcs l)[k * 3 + j]? = (l[k].cells)[j]? := by
  rw [dcs, flat_at _ 3 l (dcell_len l) k h j hj, Array.getElem?_toList]
theorem dcs_take (l : List DeV) (k : Nat) : (dcs l).take (k * 3) = dcs (l.take k) := flat_take _ 3 l (dcell_len l) k
theorem dcs_drop (l : List DeV) (k : Nat) : (dcs l).drop (k * 3) = dcs (l.drop k) := flat_drop _ 3 l (dcell_len l) k
/-- Reads as these deeds. -/
structure RdD (w : World) (A : Option Addr) (l : List DeV) : Prop where
  rd : Rd w 3 A l.length (dcs l)
  each : ∀ e ∈ l, e.In w
section

variable {w w' : World} {A : Option Addr} {l : List DeV}

theorem RdD.nil_ (w : World) (A : Option Addr) : RdD w A [] := ⟨Rd.nil_ _ _ _, by simp⟩
theorem RdD.below (h : RdD w A l) (hb : Below w.heap.size w w') : RdD w' A l := ⟨h.rd.below hb, fun e he => (h.each e he).below hb⟩
/-- Element k: where it lies, and each of its cells. -/
theorem RdD.at_ (h : RdD w A l) {k : Nat} (hk : k < l.length) : ∃ ad, A = some ad ∧ (∀ j u, (l[k].cells)[j]? = some u → w.cell? ((ad.add (k * 3)).add j) = some u) ∧ l[k].In w := by
  obtain ⟨ad, e, hc⟩ := h.rd.2 (by intro e; have := dcs_len l; rw [e] at this; simp at this; omega)
  refine ⟨ad, e, fun j u hj => ?_, h.each _ (List.getElem_mem hk)⟩
  have hj2 : j < 3 := (Array.getElem?_eq_some_iff.1 hj).1
  rw [add_add']
  refine hc _ u ?_
  rw [dcs_at l k hk j hj2]; exact hj
theorem RdD.cut (h : RdD w A l) {k m : Nat} (hk : k ≤ m) (hm : m ≤ l.length) {c : Nat} (hc : m ≤ c) : RdD w (if c = k then A else A.map (·.add (k * 3))) ((l.take m).drop k) := by
  refine ⟨?_, fun e he => h.each e (List.mem_of_mem_take (List.mem_of_mem_drop he))⟩
  have := h.rd.cutS hk hm hc
  rw [dcs_take, dcs_drop] at this
  rwa [List.length_drop, List.length_take, Nat.min_eq_left hm]
theorem RdD.tail (h : RdD w A l) {k : Nat} (hk : k ≤ l.length) {c : Nat} (hc : l.length ≤ c) : RdD w (if c = k then A else A.map (·.add (k * 3))) (l.drop k) := by
  have := h.cut hk (Nat.le_refl _) hc
  rwa [List.take_length] at this
end

end Go.Proofs.YtkpagmfaccmiaaaGreat

/- Contracts: slot.Body's methods at a nil body; the laws' num, small (scowlaw06). -/

namespace Go.Proofs.YtkpagmfaccmiaaaGreat

open Go.RowKit

attribute [local go_sem] Oper.semAt_some

theorem DeV.kindAt {w : World} {e : DeV} {ad : Addr} {k : Nat} (hy : ∀ j u, e.cells[j]? = some u → w.cell? ((ad.add (k * 3)).add j) = some u) : w.cell? (ad.add (k * 3)) = some (.int .i64 e.x.kind) := hy 0 _ rfl
theorem DeV.iAt {w : World} {e : DeV} {ad : Addr} {k : Nat} (hy : ∀ j u, e.cells[j]? = some u → w.cell? ((ad.add (k * 3)).add j) = some u) : w.cell? ⟨(ad.add (k * 3)).block, (ad.add (k * 3)).off + 1, none⟩ = some (.int .i64 e.x.i) := hy 1 _ rfl
theorem DeV.pAt {w : World} {e : DeV} {ad : Addr} {k : Nat} (hy : ∀ j u, e.cells[j]? = some u → w.cell? ((ad.add (k * 3)).add j) = some u) : w.cell? ⟨(ad.add (k * 3)).block, (ad.add (k * 3)).off + 2, none⟩ = some (.slice e.pa e.x.p.length e.pc) := hy 2 _ rfl
theorem pack_nil (w : World) : Calls Tryz.prog 74 #[.pointer none] w fun e w' => e = .returned (.tuple #[]) ∧ w = w' := by
  go_enter Tryz.func74, Tryz.ntmps74
  go_wp2
  refine bodyPost_ret (results_none rfl _ _ _) rfl ?_
  exact ⟨rfl, rfl⟩
theorem sbytes_nil (w : World) : Calls Tryz.prog 44 #[.pointer none] w fun e w' => e = .returned (.slice none 0 0) ∧ w = w' := by
  go_enter Tryz.func44, Tryz.ntmps44
  go_wp2
  go_ret
  exact ⟨rfl, rfl⟩
theorem cell_nil (i : Int) (w : World) : Calls Tryz.prog 87 #[.pointer none, .int .i64 i] w fun e w' => e = .returned (.slice none 0 0) ∧ w = w' := by
  have hL := blen_nil w
  by_cases h0 : i < 0
  · go_enter Tryz.func87, Tryz.ntmps87
    go_wp2
    go_ret
    exact ⟨rfl, rfl⟩
  · have hi : (0 : Int) ≤ i := by omega
    go_enter Tryz.func87, Tryz.ntmps87
    go_wp2_with (go_at_call 70; refine hL.mono ?_; rintro e1 w1 ⟨rfl, rfl⟩)
    go_ret
    exact ⟨rfl, rfl⟩
theorem insert_nil (i : Int) (c : Value) (w : World) : Calls Tryz.prog 43 #[.pointer none, .int .i64 i, c] w fun e w' => e = .returned (.int .i64 7) ∧ w = w' := by
  have hL := blen_nil w
  go_enter Tryz.func43, Tryz.ntmps43
  go_wp2_with (go_at_call 70; refine hL.mono ?_; rintro e1 w1 ⟨rfl, rfl⟩)
  go_ret
  exact ⟨rfl, rfl⟩
def SmallD (l : List DeV) : Prop := l.length ≤ 120 ∧ ∀ e ∈ l, e.x.p.length ≤ 2000
def BoolP (Q : Prop) (w : World) (e : Ending) (w' : World) : Prop := ∃ b : Bool, e = .returned (.bool b) ∧ (b = true → Q) ∧ w = w'
end Go.Proofs.YtkpagmfaccmiaaaGreat

/- The laws' own last line (scowlaw06.live): it returns true. -/

namespace Go.Proofs.YtkpagmfaccmiaaaGreat

open Go.RowKit

attribute [local go_sem] Oper.semAt_some

def c06 : List UInt8 := (zeros 78).set 0 9
theorem c06_len : c06.length = 78 := by unfold c06; rw [List.length_set, zeros_len]
def m06a : SBody := ⟨165, [⟨165, c06⟩]⟩
def m06b : SBody := ⟨87, [⟨87, c06⟩, ⟨165, c06⟩]⟩
def m06c : SBody := ⟨9, [⟨87, c06⟩, ⟨165, c06⟩, ⟨9, c06⟩]⟩
theorem m06_1 : SBody.new.insert 0 c06 = (0, m06a) := by simp [SBody.insert, SBody.new, SBody.free, SBody.dir, SBody.sum, sumL, SBody.room, SBody.lay, c06_len, m06a]
theorem m06_2 : m06a.insert 0 c06 = (0, m06b) := by simp [SBody.insert, SBody.free, SBody.dir, SBody.sum, sumL, SBody.room, SBody.lay, c06_len, m06a, m06b]
theorem m06_3 : m06b.insert 2 c06 = (0, m06c) := by simp [SBody.insert, SBody.free, SBody.dir, SBody.sum, sumL, SBody.room, SBody.lay, c06_len, m06b, m06c]
theorem m06_4 : m06c.insert 0 [] = (60, m06c) := by simp [SBody.insert, SBody.free, SBody.dir, SBody.sum, sumL, c06_len, m06c]
theorem m06_free : m06c.free = 1 := by simp [SBody.free, SBody.dir, SBody.sum, sumL, c06_len, m06c]
theorem m06_holes : m06c.holes = 0 := by simp [SBody.holes, SBody.sum, sumL, c06_len, m06c]
theorem m06_fix : m06c.fixed = m06c := by
  have h : c06 ≠ [] := fun e => by have := c06_len; rw [e] at this; cases this
  simp [SBody.fixed, SCell.fix, m06c, h]
theorem m06_cell : m06c.cellP 2 = c06 := by simp [SBody.cellP, m06c]
theorem m06_len : m06c.l.length = 3 := rfl
theorem c06_0 : ∃ r, c06 = 9 :: r := ⟨(zeros 77), by decide⟩
theorem BO.other {w w' : World} {g k : Nat} {b : List UInt8} (h : BO w k b) (hg : w.grownBy w' (some g)) (hn : k ≠ g) : BO w' k b := ⟨(hg.block k (lt_of_heap h.row) (fun e => hn (by injection e))).trans h.row⟩
theorem ins06 (g k : Nat) (b : List UInt8) (m m' : SBody) (i r : Int) (w : World) (hS : SAt w g b m) (hO : BO w k c06) (hne : k ≠ g) (he : m.insert i c06 = (r, m')) :
    Calls Tryz.prog 43 #[.pointer (some ⟨g, 0, none⟩), .int .i64 i, .slice (some ⟨k, 0, none⟩) 78 78] w fun e w' => e = .returned (.int .i64 r) ∧ (∃ b', SAt w' g b' m') ∧ BO w' k c06 ∧ w.grownBy w' (some g) := by
  have h := insert_any g b m i (some ⟨k, 0, none⟩) c06 78 w hS (hO.own (B := 0) (Nat.zero_le _) c06_len.symm (by omega)).rd' (fun _ ad e => by injection e with e; rw [← e]; exact hne) (by rw [c06_len]; omega)
  rw [c06_len, he] at h
  refine h.mono ?_
  rintro e w' ⟨h1, h2, h3⟩
  exact ⟨h1, h2, hO.other h3 hne, h3⟩
theorem ins06n (g : Nat) (b : List UInt8) (m m' : SBody) (i r : Int) (w : World) (hS : SAt w g b m) (he : m.insert i [] = (r, m')) :
    Calls Tryz.prog 43 #[.pointer (some ⟨g, 0, none⟩), .int .i64 i, .slice none 0 0] w fun e w' => e = .returned (.int .i64 r) ∧ (∃ b', SAt w' g b' m') ∧ w.grownBy w' (some g) := by
  have h := insert_any g b m i none [] 0 w hS (RdB.nil_ _ _) (fun _ ad e => by cases e) (by simp)
  rw [he] at h
  exact h
end Go.Proofs.YtkpagmfaccmiaaaGreat

/- Words for the laws of bodies (layer 6): a body and what Parse made of its bytes; a call that is a region's last. -/

namespace Go.Proofs.YtkpagmfaccmiaaaGreat

open Go.RowKit

section

variable {P : Program} {md : Region.Mode} {ops : Array Oper} {Q : Exit → Act → World → Prop}

/-- A call, the only operation that may come up now; it waits for all that came, and may change anything. -/
theorem rg_callL (i : Nat) {oi : Oper} {fuel : Nat} {listed : Array Bool} {a : Act} {w : World} {f : FuncId} {args : Array Value} {R : Ending → World → Prop} (hc : Calls P f args w R) (hi0 : ops.toList[i]? = some oi)
    (hr : Region.ready md ops listed = [i]) (hwt : waits md ops listed i = true) (hw : Region.wanted oi (yielded ops a.tmps) = true)
    (hx : (execOp a.eval oi).run P w = .ok (.enter f args) w)
    (h : ∀ e w', R e w' → ∃ v, e = .returned v ∧ wpAnyR P md ops Q fuel (listed.setIfInBounds i true) (a.put oi.dst v) w') : wpAnyR P md ops Q (fuel + 1) listed a w :=
  rg_last i hi0 hr hwt hw fun K hK => by
    unfold Oper.wp
    rw [hx, Oper.upon_enter]
    refine hc.mono fun e w' hR => ?_
    obtain ⟨v, rfl, h2⟩ := h e w' hR
    exact hK _ _ h2
end

theorem SBody.fixed_cellP (m : SBody) (i : Int) : m.fixed.cellP i = m.cellP i := by
  unfold SBody.cellP SBody.fixed
  split
  · rw [List.getElem?_map]
    cases m.l[i.toNat]? with
    | none => rfl
    | some c => simp [SCell.fix_p]
  · rfl
theorem size_drew (w : World) : w.drew.heap.size = w.heap.size := rfl
/-- What a body and its copy by bytes answer. -/
structure Back (W : World) (g t : Nat) (m : SBody) (n fr : Nat) : Prop where
  lenT : ∀ w2, Ext W w2 → Calls Tryz.prog 70 #[.pointer (some ⟨t, 0, none⟩)] w2 fun e w' => e = .returned (.int .i64 (n : Int)) ∧ w2 = w'
  lenS : ∀ w2, Ext W w2 → Calls Tryz.prog 70 #[.pointer (some ⟨g, 0, none⟩)] w2 fun e w' => e = .returned (.int .i64 (n : Int)) ∧ w2 = w'
  freeT : ∀ w2, Ext W w2 → Calls Tryz.prog 71 #[.pointer (some ⟨t, 0, none⟩)] w2 fun e w' => e = .returned (.int .i64 (fr : Int)) ∧ Ext w2 w'
  freeS : ∀ w2, Ext W w2 → Calls Tryz.prog 71 #[.pointer (some ⟨g, 0, none⟩)] w2 fun e w' => e = .returned (.int .i64 (fr : Int)) ∧ Ext w2 w'
  bytesT : ∀ w2, Ext W w2 → Calls Tryz.prog 44 #[.pointer (some ⟨t, 0, none⟩)] w2 (BytesR m.fixed w2)
  bytesS : ∀ w2, Ext W w2 → Calls Tryz.prog 44 #[.pointer (some ⟨g, 0, none⟩)] w2 (BytesR m w2)
  cellT : ∀ (i : Int) w2, Ext W w2 → Calls Tryz.prog 87 #[.pointer (some ⟨t, 0, none⟩), .int .i64 i] w2 fun e w' => ∃ A' c', e = .returned (.slice A' (m.cellP i).length c') ∧ Own w' w2.heap.size 5 1 A' (m.cellP i).length c' (bvs (m.cellP i)) ∧ Ext w2 w'
  cellS : ∀ (i : Int) w2, Ext W w2 → Calls Tryz.prog 87 #[.pointer (some ⟨g, 0, none⟩), .int .i64 i] w2 fun e w' => ∃ A' c', e = .returned (.slice A' (m.cellP i).length c') ∧ Own w' w2.heap.size 5 1 A' (m.cellP i).length c' (bvs (m.cellP i)) ∧ Ext w2 w'
theorem Back.mk' {W : World} {g t : Nat} {m : SBody} {b bs : List UInt8} (hS : SAt W g b m) (hT : SAt W t bs m.fixed) : Back W g t m m.l.length m.free where
  lenT w2 hx := by have := blen_any t bs w2 (hT.ext hx).bb; rwa [hT.n, m.fixed_len] at this
  lenS w2 hx := by have := blen_any g b w2 (hS.ext hx).bb; rwa [hS.n] at this
  freeT w2 hx := by have := free_any t bs m.fixed w2 (hT.ext hx); rwa [m.fixed_free] at this
  freeS w2 hx := free_any g b m w2 (hS.ext hx)
  bytesT w2 hx := sbytes_any t bs m.fixed w2 (hT.ext hx)
  bytesS w2 hx := sbytes_any g b m w2 (hS.ext hx)
  cellT i w2 hx := by
    have := cell_any t bs m.fixed i w2 (hT.ext hx)
    unfold CellR at this
    rw [m.fixed_cellP] at this
    exact this
  cellS i w2 hx := cell_any g b m i w2 (hS.ext hx)
end Go.Proofs.YtkpagmfaccmiaaaGreat

/- Plain laws: the cells of a body as a list (layer 6); rows of texts told by their bytes. -/

namespace Go.Proofs.YtkpagmfaccmiaaaGreat

open Go.RowKit

def SBody.ps (m : SBody) : List (List UInt8) := m.l.map SCell.p
theorem SBody.ps_len (m : SBody) : m.ps.length = m.l.length := by simp [SBody.ps]
theorem SBody.ps_cellP (m : SBody) (k : Nat) (h : k < m.ps.length) : m.cellP k = m.ps[k] := by
  have h2 : k < m.l.length := by rw [← m.ps_len]; exact h
  simp [SBody.cellP, SBody.ps, h2]
theorem SBody.ps_sum (m : SBody) : m.sum = (m.ps.map List.length).sum := by simp [SBody.sum, sumL, SBody.ps, Function.comp_def]
theorem SBody.pack_ps (m : SBody) : m.pack.ps = m.ps := packL_p m.l
theorem SBody.pack_free (m : SBody) : m.pack.free = m.free := by unfold SBody.free SBody.dir; rw [m.pack_sum, m.pack_len]
theorem SBody.room_ps (m : SBody) (c : List UInt8) : (m.room c).ps = m.ps := by
  unfold SBody.room
  split
  · exact m.pack_ps
  · rfl
theorem SBody.lay_ps (m : SBody) (i : Nat) (c : List UInt8) : (m.lay i c).ps = m.ps.take i ++ [c] ++ m.ps.drop i := by
  simp [SBody.lay, SBody.ps]
theorem SBody.insert_ok {m : SBody} (hI : m.Inv) {i : Int} {c : List UInt8} (h0 : 0 ≤ i) (h1 : i ≤ m.l.length) (hc : c.length ≤ 78) (hf : 2 + c.length ≤ m.free) :
    (m.insert i c).1 = 0 ∧ (m.insert i c).2.ps = m.ps.take i.toNat ++ [c] ++ m.ps.drop i.toNat ∧ (m.insert i c).2.free + 2 + c.length = m.free := by
  have hi := SBody.insert_inv hI i c
  have e : m.insert i c = (0, (m.room c).lay i.toNat c) := by
    unfold SBody.insert
    rw [if_neg (by omega), if_neg (by omega), if_neg (by omega)]
  rw [e] at hi ⊢
  have hp := (m.room c).lay_ps i.toNat c
  rw [m.room_ps] at hp
  refine ⟨rfl, hp, ?_⟩
  have h2 := hi.freeI
  have h3 := hI.freeI
  have h4 : ((m.room c).lay i.toNat c).l.length = m.l.length + 1 := by
    rw [SBody.lay_len _ _ _ (by rw [m.room_len]; omega), m.room_len]
  have h5 : ((m.room c).lay i.toNat c).sum = m.sum + c.length := by
    rw [SBody.lay_sum, SBody.ps_sum, m.room_ps, ← SBody.ps_sum]
  simp only at h2
  rw [h4, h5] at h2
  simp only
  omega
theorem SBody.insert_no {m : SBody} {i : Int} {c : List UInt8} (h0 : 0 ≤ i) (h1 : i ≤ m.l.length) (hc : c.length ≤ 78) (hf : ¬ 2 + c.length ≤ m.free) : m.insert i c = (60, m) := by
  unfold SBody.insert
  rw [if_neg (by omega), if_neg (by omega), if_pos (by omega)]
theorem SBody.delete_ok {m : SBody} (hI : m.Inv) {i : Int} (h0 : 0 ≤ i) (h1 : i < m.l.length) (h : i.toNat < m.ps.length) :
    (m.delete i).1 = 0 ∧ (m.delete i).2.ps = m.ps.take i.toNat ++ m.ps.drop (i.toNat + 1) ∧ (m.delete i).2.free = m.free + 2 + (m.ps[i.toNat]).length := by
  have hi := SBody.delete_inv hI i
  have hl : 0 ≤ i ∧ i.toNat < m.l.length := ⟨h0, by omega⟩
  have e : m.delete i = (0, m.drop i.toNat hl.2) := by
    unfold SBody.delete
    rw [dif_pos hl]
  rw [e] at hi ⊢
  refine ⟨rfl, by simp [SBody.drop, SBody.ps], ?_⟩
  have h2 := hi.freeI
  have h3 := hI.freeI
  have h4 := m.drop_len i.toNat hl.2
  have h5 := m.drop_sum i.toNat hl.2
  have h6 : (m.ps[i.toNat]).length = m.l[i.toNat].p.length := by simp [SBody.ps]
  simp only at h2
  rw [h4] at h2
  simp only
  rw [h6]
  have h7 := hl.2
  omega
/-! ### rows of texts -/

def strV (b : List UInt8) : Value := .string ⟨b.toArray⟩
def svs (l : List (List UInt8)) : List Value := l.map strV
theorem svs_len (l : List (List UInt8)) : (svs l).length = l.length := by simp [svs]
theorem svs_app (l m : List (List UInt8)) : svs (l ++ m) = svs l ++ svs m := by simp [svs]
theorem svs_one (l : List (List UInt8)) : ∀ u ∈ svs l, u.oneCell' = true := by
  intro u hu
  simp only [svs, List.mem_map] at hu
  obtain ⟨b, _, rfl⟩ := hu
  rfl
theorem svs_take (l : List (List UInt8)) (k : Nat) : (svs l).take (k * 1) = svs (l.take k) := by simp [svs, List.map_take]
theorem svs_drop (l : List (List UInt8)) (k : Nat) : (svs l).drop (k * 1) = svs (l.drop k) := by simp [svs, List.map_drop]
theorem Own.strAt {w : World} {B n c : Nat} {e : TypeId} {A : Option Addr} {l : List (List UInt8)} (h : Own w B e 1 A n c (svs l)) {k : Nat} (hk : k < l.length) : ∃ ad, A = some ad ∧ w.cell? (ad.add k) = some (strV l[k]) := by
  have h1 := h.len
  rw [svs_len] at h1
  obtain ⟨ad, u, e1, e2, e3⟩ := Rd.at_ h.rd (k := k) (by omega)
  refine ⟨ad, e1, ?_⟩
  rw [e3, ← e2]
  simp [svs, hk]
/-- An own row is not one that lies below its base. -/
theorem Own.other {w w' : World} {B n c g s : Nat} {e : TypeId} {A : Option Addr} {xs : List Value} (h : Own w B e s A n c xs) (hg : w.grownBy w' (some g)) (hgB : g < B) : Own w' B e s A n c xs := by
  refine h.kept hg fun k hk e2 => ?_
  injection e2 with e2
  subst e2
  unfold ownRow at hk
  split at hk
  · cases hk
  · rename_i hc
    rcases h.mem with h0 | ⟨g', off, cur, hA, hb, _⟩
    · exact hc h0
    · rw [hA] at hk
      injection hk with hk
      have : g' = k := hk
      omega
theorem Own.low {w w' : World} {B n c B' s : Nat} {e : TypeId} {A : Option Addr} {xs : List Value} (h : Own w B' e s A n c xs) (hg : w.grownBy w' (ownRow A c)) (hB : B ≤ B') (hw : B ≤ w.heap.size) : Below B w w' :=
  (Below.refl B w).grown hg hw fun k hk => by
    unfold ownRow at hk
    split at hk
    · cases hk
    · rename_i hc
      rcases h.mem with h0 | ⟨g', off, cur, hA, hb, _⟩
      · exact absurd h0 hc
      · rw [hA] at hk
        injection hk with hk
        have : g' = k := hk
        omega
/-! ### a deed's own row -/

theorem ex_buildOne1 {P : Program} {w : World} {o : Oper} {a : Act} (t : TypeId) (x : Operand) (ho : o.op = .buildSlice t 1 #[(0, x)])
    {e : TypeId} {bytes : Nat} (T : ElemT P t e 1 bytes) (v : Value) (hx : a.eval x = v) (hv : v.cells = #[v]) :
    (execOp a.eval o).run P w = .ok (.value (.slice (some ⟨w.heap.size, 0, none⟩) 1 1)) (w.alloc (.cells #[v] e)) := by
  obtain ⟨i, z, g1, g2, g3, g4, g5⟩ := T.hi
  have hi1 : i.size = 1 := g3
  have hf : Instr.fill (fun j => some (j * i.size, i.size)) ((Array.range (1 * i.size)).map (z.cells[· % z.cells.size]!)) (#[(0, x)].map fun (y : Nat × Operand) => (y.1, a.eval y.2)).toList = some #[v] := by
    have e1 : (#[(0, x)].map fun (y : Nat × Operand) => (y.1, a.eval y.2)).toList = [(0, v)] := by simp [hx]
    have e2 : ∀ (f : Nat → Option (Nat × Nat)) (b : Array Value), Instr.fill f b [(0, v)] = Instr.fill f b [(0, Value.agg #[v])] := fun f b => by
      have hv2 : (Value.agg #[v]).cells = #[v] := rfl
      simp only [Instr.fill, hv, hv2]
    exact ((congrArg _ e1).trans (e2 _ _)).trans (fill_one i.size _ #[v] (by rw [hi1]; rfl) (by simp))
  have hr := run_buildSlice (P := P) w t e 1 _ #[v] i z T.ht g1 g2 (by omega) (by omega) hf
  unfold execOp
  simp only [ho, Sem.run_bind]
  rw [hr]
  rfl
end Go.Proofs.YtkpagmfaccmiaaaGreat

/- Contract: scowref06.Body.Delete. Printed by wip/tools/gen_sltrdel06.py. -/

namespace Go.Proofs.YtkpagmfaccmiaaaGreat

open Go.RowKit

attribute [local go_sem] Oper.semAt_some

theorem elemC : ElemT Tryz.prog 103 107 2 32 := ElemT.mk' Tryz.underlying103 (z := .agg #[.int .i64 0, .slice none 0 0]) (by kernel_rfl) (by rfl) (by decide)
theorem scinfo (e : ScV) : (Tryz.prog.info? 107).map (·.size) = some e.cells.size := by
  show _ = some 2
  kernel_rfl
/-- What a deed on the document's body leaves. -/
def RDone (g : Nat) (w : World) (r : Int) (m : SBody) (e : Ending) (w' : World) : Prop := e = .returned (.int .i64 r) ∧ (∃ A c L, MAt w' g A c L m) ∧ Below g w w'
end Go.Proofs.YtkpagmfaccmiaaaGreat

/- Contract: scowref06.Body.Pack. Printed by wip/tools/gen_sltrpack06.py. -/

namespace Go.Proofs.YtkpagmfaccmiaaaGreat

open Go.RowKit

attribute [local go_sem] Oper.semAt_some

theorem pack_step {l xs : List SCell} {k : Nat} (hk : k < l.length) (hx : xs = (packL l).take k ++ l.drop k) : xs.set k ⟨243 - sumL (l.take (k + 1)), l[k].p⟩ = (packL l).take (k + 1) ++ l.drop (k + 1) := by
  have hp := packL_len l
  subst hx
  refine List.ext_getElem? fun j => ?_
  rw [List.getElem?_set]
  by_cases hj : k = j
  · subst hj
    rw [if_pos rfl, if_pos (by simp only [List.length_append, List.length_take, List.length_drop]; omega), List.getElem?_append_left (by simp only [List.length_take]; omega), List.getElem?_take, if_pos (by omega), List.getElem?_eq_getElem (by omega), packL_get l k hk]
  · rw [if_neg hj]
    by_cases h2 : j < k
    · rw [List.getElem?_append_left (by simp only [List.length_take]; omega), List.getElem?_append_left (by simp only [List.length_take]; omega), List.getElem?_take, List.getElem?_take, if_pos h2, if_pos (by omega)]
    · rw [List.getElem?_append_right (by simp only [List.length_take]; omega), List.getElem?_append_right (by simp only [List.length_take]; omega), List.getElem?_drop, List.getElem?_drop]
      simp only [List.length_take]
      congr 1
      omega
set_option maxRecDepth 100000 in
set_option maxHeartbeats 1000000 in
theorem ref_spack (g : Nat) (A : Option Addr) (c : Nat) (L : List ScV) (m : SBody) (w : World) (h : MAt w g A c L m) :
    Calls Tryz.prog 79 #[.pointer (some ⟨g, 0, none⟩)] w fun e w' => e = .returned (.tuple #[]) ∧ (∃ L', MAt w' g A c L' m.pack) ∧ Below g w w' := by
  have hn := h.inv.n
  have hs := h.inv.sum
  have hlen := h.len
  have hgs := lt_of_heap h.row
  have hM := h.mc
  have c0 := hM.top
  have f0 := hM.frozen 0
  have hM1 := hM.setTop 243
  have hb1 : Below g w (w.setCell ⟨g, 0, none⟩ (.int .i64 243)) := (Below.refl g w).grown (grown_cell w g 0 _) (by omega) (fun k e => by injection e with e; omega)
  have Hl := Lib.hid h.l
  have HI := Lib.hid h.inv
  obtain ⟨n, hnn⟩ : ∃ n, n = L.length := ⟨_, rfl⟩
  have hmn : n = m.l.length := by rw [hnn, hlen]
  have Hmn := Lib.hid hmn
  have Hn := Lib.hid hnn
  have hn120 : n ≤ 120 := by omega
  clear h hM hmn hnn hlen hn
  go_enter Tryz.func79, Tryz.ntmps79
  go_wp2_with fail
  go_loopw [2] (fun i wr => ∃ (k : Nat) (L' : List ScV) (t : Nat), k ≤ n ∧ i = .int .i64 k ∧ MC wr g A c L' t ∧ L'.length = n ∧ t = 243 - sumL (m.l.take k) ∧ L'.map ScV.x = (packL m.l).take k ++ m.l.drop k ∧ Below g w wr) (fun i _ => n - (intOf i).toNat)
  case atStart => exact ⟨0, L, 243, by omega, rfl, hM1, Hn.out.symm, rfl, by simp [Hl.out], hb1⟩
  case round =>
    clear hM1 hb1 c0 f0
    obtain ⟨k, L', t, hk, rfl, hM, hln, ht, hmap, hb⟩ := hrel
    have hl0 := hM.list
    rw [hln] at hl0
    by_cases hkn : k < n
    · obtain ⟨ad, rfl, -, hp⟩ := hM.at_ (k := k) (by omega)
      have hkm : k < m.l.length := by have := Hmn.out; omega
      have hx : (L'[k]'(by omega)).x = m.l[k] := by
        have h1 : (L'.map ScV.x)[k]? = some (L'[k]'(by omega)).x := by rw [List.getElem?_map, List.getElem?_eq_getElem (by omega)]; rfl
        rw [hmap, List.getElem?_append_right (by rw [List.length_take]; omega), List.getElem?_drop] at h1
        have h2 : k + (k - ((packL m.l).take k).length) = k := by rw [List.length_take, packL_len]; omega
        rw [h2, List.getElem?_eq_getElem hkm] at h1
        injection h1 with h1
        exact h1.symm
      have hsum := sumL_take_succ m.l k hkm
      have hle := sumL_take_le m.l (k + 1)
      have hsm : sumL m.l = m.sum := rfl
      rw [← hx] at hsum
      obtain ⟨t2, ht2⟩ : ∃ t2, t2 = 243 - sumL (m.l.take (k + 1)) := ⟨_, rfl⟩
      have hstep := pack_step hkm hmap
      rw [← ht2, ← hx] at hstep
      have hgl := lt_of_heap hM.row
      have hMd := hM.ext (Ext.drew wr)
      have hMt := hMd.setTop t2
      have hbt : Below g w (wr.drew.setCell ⟨g, 0, none⟩ (.int .i64 (t2 : Int))) := (hb.trans (Below.mono (Ext.drew wr) (by omega))).grown (grown_cell _ g 0 _) (by show g ≤ wr.heap.size; omega) (fun k e => by injection e with e; omega)
      have d0 := hMd.top
      have d1 := hMd.list
      have d2 : wr.drew.cell? _ = _ := hp
      have f0 := hMd.frozen 0
      have hpl : (L'[k]'(by omega)).x.p.length ≤ t := by omega
      have htw : IntKind.i64.wrap ((t : Int) - ((L'[k]'(by omega)).x.p.length : Int)) = (t2 : Int) := by rw [IntKind.wrap_i64]; omega
      obtain ⟨w1, hw1⟩ : ∃ w1, w1 = wr.drew.setCell ⟨g, 0, none⟩ (.int .i64 (t2 : Int)) := ⟨_, rfl⟩
      rw [← hw1] at hMt hbt
      obtain ⟨hMs, hgb, f1⟩ := (hMt.ext (Ext.drew w1)).setAt (k := k) (by omega) rfl t2
      have e0 := (hMt.ext (Ext.drew w1)).top
      have e1 := (hMt.ext (Ext.drew w1)).list
      obtain ⟨ad2, e2x, e2, -⟩ := (hMt.ext (Ext.drew w1)).at_ (k := k) (by omega)
      injection e2x with e2x
      subst e2x
      have hgs1 := lt_of_heap hMt.row
      have hbs : Below g w (w1.drew.setCell (ad.add (k * 2)) (.int .i64 (t2 : Int))) := (hbt.trans (Below.mono (Ext.drew w1) (by omega))).grown (row := some ad.block) (grown_at w1.drew ad (k * 2) _) (by show g ≤ w1.heap.size; omega) (fun k e => by injection e with e; omega)
      obtain ⟨y, hy⟩ : ∃ y, y = L'[k]'(by omega) := ⟨_, rfl⟩
      rw [← hy] at htw d2 e2 hMs hstep hpl hsum
      rw [hln] at d1 e1
      have ik : (0 : Int) ≤ (k : Int) := by omega
      have ik2 : (k : Int) < (n : Int) := by omega
      have HMs := Lib.hid hMs
      have Hstep := Lib.hid hstep
      have Ht2 := Lib.hid ht2
      have Hw1 := Lib.hid hw1
      have Hln := Lib.hid hln
      clear hM hMd hMt hMs hstep hx hy hw1 hp hsum hle hsm ht2 hln hmap hbt ht
      go_wp2_with fail
      refine rg_start (by kernel_rfl) ?_
      refine rg_take 0 rfl (by kernel_rfl) (by kernel_rfl) (by kernel_rfl) (fun _ _ _ _ h => h) (by rfl) ⟨_, fun w' hx => by (go_simp <;> with_reducible rfl), ?_⟩
      simp only [Act.put, List.setIfInBounds_toArray, List.set_cons_zero, List.set_cons_succ]
      refine rg_take 1 rfl (by kernel_rfl) (by kernel_rfl) (by kernel_rfl) (fun _ _ _ _ h => h) (by rfl) ⟨_, fun w' hx => by (go_simp <;> with_reducible rfl), ?_⟩
      simp only [Act.put, List.setIfInBounds_toArray, List.set_cons_zero, List.set_cons_succ]
      refine rg_take 2 rfl (by kernel_rfl) (by kernel_rfl) (by kernel_rfl) (fun _ _ _ _ h => h) (by rfl) ⟨_, fun w' hx => by (go_simp <;> with_reducible rfl), ?_⟩   -- t17 := nilCheck t16
      simp only [Act.put, List.setIfInBounds_toArray, List.set_cons_zero, List.set_cons_succ]
      refine rg_take 3 rfl (by kernel_rfl) (by kernel_rfl) (by kernel_rfl) (fun _ _ _ _ h => h) (by rfl) ⟨_, fun w' hx => by (go_simp <;> with_reducible rfl), ?_⟩   -- t18 := fieldAddr 50 t17 0
      simp only [Act.put, List.setIfInBounds_toArray, List.set_cons_zero, List.set_cons_succ]
      refine rg_take 4 rfl (by kernel_rfl) (by kernel_rfl) (by kernel_rfl) (fun _ _ _ _ h => h) (by rfl) ⟨_, fun w' hx => by have hcx := hx.load d0; (go_simp <;> with_reducible rfl), ?_⟩
      simp only [Act.put, List.setIfInBounds_toArray, List.set_cons_zero, List.set_cons_succ]
      refine rg_take 5 rfl (by kernel_rfl) (by kernel_rfl) (by kernel_rfl) (fun _ _ _ _ h => h) (by rfl) ⟨_, fun w' hx => by (go_simp <;> with_reducible rfl), ?_⟩
      simp only [Act.put, List.setIfInBounds_toArray, List.set_cons_zero, List.set_cons_succ]
      refine rg_take 6 rfl (by kernel_rfl) (by kernel_rfl) (by kernel_rfl) (fun _ _ _ _ h => h) (by rfl) ⟨_, fun w' hx => by (go_simp <;> with_reducible rfl), ?_⟩   -- t21 := nilCheck t20
      simp only [Act.put, List.setIfInBounds_toArray, List.set_cons_zero, List.set_cons_succ]
      refine rg_take 7 rfl (by kernel_rfl) (by kernel_rfl) (by kernel_rfl) (fun _ _ _ _ h => h) (by rfl) ⟨_, fun w' hx => by (go_simp <;> with_reducible rfl), ?_⟩   -- t22 := fieldAddr 50 t21 1
      simp only [Act.put, List.setIfInBounds_toArray, List.set_cons_zero, List.set_cons_succ]
      refine rg_take 8 rfl (by kernel_rfl) (by kernel_rfl) (by kernel_rfl) (fun _ _ _ _ h => h) (by rfl) ⟨_, fun w' hx => by have hcx := hx.load d1; (go_simp <;> with_reducible rfl), ?_⟩
      simp only [Act.put, List.setIfInBounds_toArray, List.set_cons_zero, List.set_cons_succ]
      refine rg_take 9 rfl (by kernel_rfl) (by kernel_rfl) (by kernel_rfl) (fun _ _ _ _ h => h) (by rfl) ⟨_, fun w' hx => by (go_simp <;> with_reducible rfl), ?_⟩
      simp only [Act.put, List.setIfInBounds_toArray, List.set_cons_zero, List.set_cons_succ]
      refine rg_take 10 rfl (by kernel_rfl) (by kernel_rfl) (by kernel_rfl) (fun _ _ _ _ h => h) (by rfl) ⟨_, fun w' hx => by (go_simp <;> with_reducible rfl), ?_⟩   -- t25 := indexAddr 48 t23 t24
      simp only [Act.put, List.setIfInBounds_toArray, List.set_cons_zero, List.set_cons_succ]
      refine rg_take 11 rfl (by kernel_rfl) (by kernel_rfl) (by kernel_rfl) (fun _ _ _ _ h => h) (by rfl) ⟨_, fun w' hx => by (go_simp <;> with_reducible rfl), ?_⟩   -- t26 := fieldAddr 54 t25 1
      simp only [Act.put, List.setIfInBounds_toArray, List.set_cons_zero, List.set_cons_succ]
      refine rg_take 12 rfl (by kernel_rfl) (by kernel_rfl) (by kernel_rfl) (fun _ _ _ _ h => h) (by rfl) ⟨_, fun w' hx => by have hcx := hx.load d2; (go_simp <;> with_reducible rfl), ?_⟩
      simp only [Act.put, List.setIfInBounds_toArray, List.set_cons_zero, List.set_cons_succ]
      refine rg_take 13 rfl (by kernel_rfl) (by kernel_rfl) (by kernel_rfl) (fun _ _ _ _ h => h) (by rfl) ⟨_, fun w' hx => by (go_simp <;> with_reducible rfl), ?_⟩   -- t28 := len(t27)
      simp only [Act.put, List.setIfInBounds_toArray, List.set_cons_zero, List.set_cons_succ]
      refine rg_take 14 rfl (by kernel_rfl) (by kernel_rfl) (by kernel_rfl) (fun _ _ _ _ h => h) (by rfl) ⟨.int .i64 (t2 : Int), fun w' hx => by (go_simp <;> with_reducible rfl), ?_⟩
      simp only [Act.put, List.setIfInBounds_toArray, List.set_cons_zero, List.set_cons_succ]
      refine rg_take 15 rfl (by kernel_rfl) (by kernel_rfl) (by kernel_rfl) (fun _ _ _ _ h => h) (by rfl) ⟨_, fun w' hx => by (go_simp <;> with_reducible rfl), ?_⟩   -- t30 := nilCheck t15
      simp only [Act.put, List.setIfInBounds_toArray, List.set_cons_zero, List.set_cons_succ]
      refine rg_take 16 rfl (by kernel_rfl) (by kernel_rfl) (by kernel_rfl) (fun _ _ _ _ h => h) (by rfl) ⟨_, fun w' hx => by (go_simp <;> with_reducible rfl), ?_⟩   -- t31 := fieldAddr 50 t30 0
      simp only [Act.put, List.setIfInBounds_toArray, List.set_cons_zero, List.set_cons_succ]
      refine rg_store 17 rfl (by kernel_rfl) (by kernel_rfl) (by rfl) ⟨_, by (go_simp <;> rfl), ?_⟩
      simp only [Act.put]
      refine rg_done (by kernel_rfl) ?_
      rw [show (wr.setCell ⟨g, 0, none⟩ (.int .i64 (t2 : Int))).drew = w1 from Hw1.out.symm]
      go_wp2_with fail
      refine rg_start (by kernel_rfl) ?_
      refine rg_take 0 rfl (by kernel_rfl) (by kernel_rfl) (by kernel_rfl) (fun _ _ _ _ h => h) (by rfl) ⟨_, fun w' hx => by (go_simp <;> with_reducible rfl), ?_⟩
      simp only [Act.put, List.setIfInBounds_toArray, List.set_cons_zero, List.set_cons_succ]
      refine rg_take 1 rfl (by kernel_rfl) (by kernel_rfl) (by kernel_rfl) (fun _ _ _ _ h => h) (by rfl) ⟨_, fun w' hx => by (go_simp <;> with_reducible rfl), ?_⟩   -- t33 := nilCheck t32
      simp only [Act.put, List.setIfInBounds_toArray, List.set_cons_zero, List.set_cons_succ]
      refine rg_take 2 rfl (by kernel_rfl) (by kernel_rfl) (by kernel_rfl) (fun _ _ _ _ h => h) (by rfl) ⟨_, fun w' hx => by (go_simp <;> with_reducible rfl), ?_⟩   -- t34 := fieldAddr 50 t33 1
      simp only [Act.put, List.setIfInBounds_toArray, List.set_cons_zero, List.set_cons_succ]
      refine rg_take 3 rfl (by kernel_rfl) (by kernel_rfl) (by kernel_rfl) (fun _ _ _ _ h => h) (by rfl) ⟨_, fun w' hx => by have hcx := hx.load e1; (go_simp <;> with_reducible rfl), ?_⟩
      simp only [Act.put, List.setIfInBounds_toArray, List.set_cons_zero, List.set_cons_succ]
      refine rg_take 4 rfl (by kernel_rfl) (by kernel_rfl) (by kernel_rfl) (fun _ _ _ _ h => h) (by rfl) ⟨_, fun w' hx => by (go_simp <;> with_reducible rfl), ?_⟩
      simp only [Act.put, List.setIfInBounds_toArray, List.set_cons_zero, List.set_cons_succ]
      refine rg_take 5 rfl (by kernel_rfl) (by kernel_rfl) (by kernel_rfl) (fun _ _ _ _ h => h) (by rfl) ⟨_, fun w' hx => by (go_simp <;> with_reducible rfl), ?_⟩
      simp only [Act.put, List.setIfInBounds_toArray, List.set_cons_zero, List.set_cons_succ]
      refine rg_take 6 rfl (by kernel_rfl) (by kernel_rfl) (by kernel_rfl) (fun _ _ _ _ h => h) (by rfl) ⟨_, fun w' hx => by (go_simp <;> with_reducible rfl), ?_⟩   -- t38 := nilCheck t37
      simp only [Act.put, List.setIfInBounds_toArray, List.set_cons_zero, List.set_cons_succ]
      refine rg_take 7 rfl (by kernel_rfl) (by kernel_rfl) (by kernel_rfl) (fun _ _ _ _ h => h) (by rfl) ⟨_, fun w' hx => by (go_simp <;> with_reducible rfl), ?_⟩   -- t39 := fieldAddr 50 t38 0
      simp only [Act.put, List.setIfInBounds_toArray, List.set_cons_zero, List.set_cons_succ]
      refine rg_take 8 rfl (by kernel_rfl) (by kernel_rfl) (by kernel_rfl) (fun _ _ _ _ h => h) (by rfl) ⟨_, fun w' hx => by have hcx := hx.load e0; (go_simp <;> with_reducible rfl), ?_⟩
      simp only [Act.put, List.setIfInBounds_toArray, List.set_cons_zero, List.set_cons_succ]
      refine rg_take 9 rfl (by kernel_rfl) (by kernel_rfl) (by kernel_rfl) (fun _ _ _ _ h => h) (by rfl) ⟨_, fun w' hx => by (go_simp <;> with_reducible rfl), ?_⟩   -- t41 := indexAddr 48 t35 t36
      simp only [Act.put, List.setIfInBounds_toArray, List.set_cons_zero, List.set_cons_succ]
      refine rg_take 10 rfl (by kernel_rfl) (by kernel_rfl) (by kernel_rfl) (fun _ _ _ _ h => h) (by rfl) ⟨_, fun w' hx => by (go_simp <;> with_reducible rfl), ?_⟩   -- t42 := fieldAddr 54 t41 0
      simp only [Act.put, List.setIfInBounds_toArray, List.set_cons_zero, List.set_cons_succ]
      refine rg_store 11 rfl (by kernel_rfl) (by kernel_rfl) (by rfl) ⟨_, by (go_simp <;> rfl), ?_⟩
      simp only [Act.put]
      refine rg_done (by kernel_rfl) ?_
      go_wp2_with fail
      go_roundw
      case rel =>
        refine ⟨k + 1, _, t2, by omega, by go_num, HMs.out, by rw [List.length_set]; exact Hln.out, Ht2.out, ?_, hbs⟩
        rw [List.map_set]
        exact Hstep.out
      case measure => simp [intOf]; omega
    · obtain rfl : k = n := by omega
      have hpk : L'.map ScV.x = m.pack.l := by
        rw [hmap, Hmn.out, List.drop_length, List.append_nil, ← packL_len m.l, List.take_length]
        rfl
      have htp : t = m.pack.top := by
        rw [ht, Hmn.out, List.take_length]
        rfl
      have Hpk := Lib.hid hpk
      have Htp := Lib.hid htp
      clear hmap ht hpk htp
      go_wp2_with fail
      refine bodyPost_end (results_none rfl _ _ _) rfl ?_
      refine ⟨rfl, ⟨L', ⟨?_, ?_, hM.each, Hpk.out, SBody.pack_inv HI.out⟩⟩, hb⟩
      · rw [← Htp.out]; exact hM.row
      · exact hM.own
end Go.Proofs.YtkpagmfaccmiaaaGreat

/- Contract: scowref06.Body.Insert. Printed by wip/tools/gen_sltrins06.py. -/

namespace Go.Proofs.YtkpagmfaccmiaaaGreat

open Go.RowKit

attribute [local go_sem] Oper.semAt_some

theorem RdB.lowB {w w' : World} {A : Option Addr} {d : List UInt8} {g : Nat} (h : RdB w A d) (hb : Below g w w') (hl : d ≠ [] → ∀ ad, A = some ad → ad.block < g) : RdB w' A d := by
  by_cases hd : d = []
  · subst hd; exact RdB.nil_ _ _
  · refine ⟨h.1, fun hx => ?_⟩
    obtain ⟨ad, e, hc⟩ := h.2 hx
    exact ⟨ad, e, fun j u hj => by rw [hb.cell (by rw [add_block]; exact hl hd ad e)]; exact hc j u hj⟩
theorem SBody.room_top (m : SBody) (c : List UInt8) : (m.room c) = if m.top < 2 + 2 * (m.l.length + 1) + c.length then m.pack else m := rfl
theorem RdB.otherR {w w' : World} {A : Option Addr} {d : List UInt8} {g : Nat} (h : RdB w A d) (hg : w.grownBy w' (some g)) (hn : d ≠ [] → ∀ ad, A = some ad → ad.block ≠ g) : RdB w' A d := by
  by_cases hd : d = []
  · subst hd; exact RdB.nil_ _ _
  · exact Rd.grown h hg (fun ad e h2 => hn hd ad e (by injection h2))
set_option maxRecDepth 100000 in
set_option maxHeartbeats 1000000 in
theorem ref_sinsertG (g : Nat) (A : Option Addr) (c : Nat) (L : List ScV) (m : SBody) (i : Int) (C : Option Addr) (p : List UInt8) (pc : Nat) (w : World) (h : MAt w g A c L m) (hC : RdB w C p) (hlow : p ≠ [] → ∀ ad, C = some ad → ad.block < g ∨ (ad.block ≠ g ∧ ¬ (m.top < 2 + 2 * (m.l.length + 1) + p.length))) (hpl : p.length ≤ 1000000) :
    Calls Tryz.prog 53 #[.pointer (some ⟨g, 0, none⟩), .int .i64 i, .slice C p.length pc] w (RDone g w (m.insert i p).1 (m.insert i p).2) := by
  have hn := h.inv.n
  have hlen := h.len
  have hl := h.list
  have Hh := Lib.hid h
  obtain ⟨n, hnn⟩ : ∃ n, n = L.length := ⟨_, rfl⟩
  rw [← hnn] at hl
  have Hn := Lib.hid hnn
  have hmn : n = m.l.length := by omega
  have Hmn := Lib.hid hmn
  have hn120 : n ≤ 120 := by omega
  have hgl := lt_of_heap h.row
  by_cases h0 : i < 0
  · have he : m.insert i p = (7, m) := by unfold SBody.insert; rw [if_pos (by omega)]
    rw [he]
    clear h hnn hlen hmn
    go_enter Tryz.func53, Tryz.ntmps53
    go_wp2
    go_ret
    exact ⟨rfl, ⟨A, c, L, Hh.out⟩, Below.refl _ _⟩
  obtain ⟨i, rfl⟩ : ∃ j : Nat, i = j := ⟨i.toNat, by omega⟩
  by_cases h1 : n < i
  · have he : m.insert (i : Int) p = (7, m) := by unfold SBody.insert; rw [if_pos (by omega)]
    have h1i : (n : Int) < (i : Int) := by omega
    rw [he]
    clear h hnn hlen hmn
    go_enter Tryz.func53, Tryz.ntmps53
    go_wp2
    go_ret
    exact ⟨rfl, ⟨A, c, L, Hh.out⟩, Below.refl _ _⟩
  have h1i : (i : Int) ≤ (n : Int) := by omega
  have i0 : (0 : Int) ≤ (i : Int) := by omega
  by_cases h2 : 78 < p.length
  · have he : m.insert (i : Int) p = (1, m) := by unfold SBody.insert; rw [if_neg (by omega), if_pos h2]
    have h2i : (78 : Int) < (p.length : Int) := by omega
    rw [he]
    clear h hnn hlen hmn
    go_enter Tryz.func53, Tryz.ntmps53
    go_wp2
    go_ret
    exact ⟨rfl, ⟨A, c, L, Hh.out⟩, Below.refl _ _⟩
  have h2i : (p.length : Int) ≤ 78 := by omega
  have hF := ref_sfree g A c L m w h
  have wp2 : IntKind.i64.wrap (2 + (p.length : Int)) = 2 + (p.length : Int) := by rw [IntKind.wrap_i64]; omega
  by_cases h3 : m.free < 2 + p.length
  · have he : m.insert (i : Int) p = (60, m) := by unfold SBody.insert; rw [if_neg (by omega), if_neg h2, if_pos h3]
    have h3i : (m.free : Int) < 2 + (p.length : Int) := by omega
    rw [he]
    clear h hnn hlen hmn
    go_enter Tryz.func53, Tryz.ntmps53
    go_wp2_with (go_at_call 78; refine hF.mono ?_; clear hF; rintro e1 w1 ⟨rfl, hx1⟩)
    go_ret
    exact ⟨rfl, ⟨A, c, L, Hh.out.ext hx1⟩, Below.mono hx1 (by omega)⟩
  have h3i : 2 + (p.length : Int) ≤ (m.free : Int) := by omega
  have he : m.insert (i : Int) p = (0, (m.room p).lay i p) := by unfold SBody.insert; rw [if_neg (by omega), if_neg h2, if_neg h3]; rfl
  have hfit := SBody.room_fits (m := m) (c := p) (by omega)
  have hrl := m.room_len p
  have hri := SBody.room_inv h.inv p
  have hli := SBody.lay_inv hri (i := i) (c := p) (by omega) (by omega) (by omega)
  have hrt := m.room_top p
  rw [he]
  show Calls _ _ _ _ (RDone g w 0 ((m.room p).lay i p))
  have htop := h.inv.top
  have htd := h.inv.dirTop
  unfold SBody.dir at htd
  obtain ⟨m1, hm1⟩ : ∃ m1, m1 = m.room p := ⟨_, rfl⟩
  rw [← hm1] at hfit hrl hri hli hrt ⊢
  have hlay : m1.lay i p = ⟨m1.top - p.length, m1.l.take i ++ ⟨m1.top - p.length, p⟩ :: m1.l.drop i⟩ := rfl
  obtain ⟨m2, hm2⟩ : ∃ m2, m2 = m1.lay i p := ⟨_, rfl⟩
  rw [← hm2] at hli hlay ⊢
  obtain ⟨t2, ht2⟩ : ∃ t2, t2 = m1.top - p.length := ⟨_, rfl⟩
  rw [← ht2] at hlay
  have hm1t := hri.top
  have tw : IntKind.i64.wrap ((m1.top : Int) - (p.length : Int)) = (t2 : Int) := by rw [IntKind.wrap_i64]; omega
  have v4 : IntKind.i64.wrap ((m.top : Int) - 2) = (m.top : Int) - 2 := by rw [IntKind.wrap_i64]; omega
  have v10 : IntKind.i64.wrap ((n : Int) + 1) = (n : Int) + 1 := by rw [IntKind.wrap_i64]; omega
  have v11 : IntKind.i64.wrap (2 * ((n : Int) + 1)) = 2 * ((n : Int) + 1) := by rw [IntKind.wrap_i64]; omega
  have v12 : IntKind.i64.wrap ((m.top : Int) - 2 - 2 * ((n : Int) + 1)) = (m.top : Int) - 2 - 2 * ((n : Int) + 1) := by rw [IntKind.wrap_i64]; omega
  have Hlay := Lib.hid hlay
  have Hli := Lib.hid hli
  have Hrt := Lib.hid hrt
  have hm1n : m1.l.length = n := by omega
  have HC := Lib.hid hC
  have Hlow := Lib.hid hlow
  clear h hnn hlen hmn hC hlow hlay hli hrt hm2 hm1 ht2 he hri hfit hrl hl htd
  go_enter Tryz.func53, Tryz.ntmps53
  have hl := Hh.out.list
  rw [← Hn.out] at hl
  go_wp2_with (go_at_call 78; refine hF.mono ?_; clear hF; rintro e1 w1 ⟨rfl, hx1⟩; refine Hid.out ?_)
  have HM1 := Lib.hid (Hh.out.ext hx1)
  have T0 := (HM1.out.ext (Ext.drew w1)).top
  have T1 := (HM1.out.ext (Ext.drew w1)).list
  rw [← Hn.out] at T1
  have hgl1 : g < w1.heap.size := lt_of_heap HM1.out.row
  have hb1 : Below g w w1.drew := Below.mono (Ext.tr hx1 (Ext.drew w1)) (by omega)
  clear hl
  refine Lib.hid ?_
  go_wp2_with fail
  refine rg_start (by kernel_rfl) ?_
  refine rg_take 0 rfl (by kernel_rfl) (by kernel_rfl) (by kernel_rfl) (fun _ _ _ _ h => h) (by rfl) ⟨_, fun w' hx => by (go_simp <;> with_reducible rfl), ?_⟩
  simp only [Act.put, List.setIfInBounds_toArray, List.set_cons_zero, List.set_cons_succ]
  refine rg_take 1 rfl (by kernel_rfl) (by kernel_rfl) (by kernel_rfl) (fun _ _ _ _ h => h) (by rfl) ⟨_, fun w' hx => by (go_simp <;> with_reducible rfl), ?_⟩   -- t32 := nilCheck t31
  simp only [Act.put, List.setIfInBounds_toArray, List.set_cons_zero, List.set_cons_succ]
  refine rg_take 2 rfl (by kernel_rfl) (by kernel_rfl) (by kernel_rfl) (fun _ _ _ _ h => h) (by rfl) ⟨_, fun w' hx => by (go_simp <;> with_reducible rfl), ?_⟩   -- t33 := fieldAddr 105 t32 0
  simp only [Act.put, List.setIfInBounds_toArray, List.set_cons_zero, List.set_cons_succ]
  refine rg_take 3 rfl (by kernel_rfl) (by kernel_rfl) (by kernel_rfl) (fun _ _ _ _ h => h) (by rfl) ⟨_, fun w' hx => by have hcx := hx.load T0; (go_simp <;> with_reducible rfl), ?_⟩
  simp only [Act.put, List.setIfInBounds_toArray, List.set_cons_zero, List.set_cons_succ]
  refine rg_take 4 rfl (by kernel_rfl) (by kernel_rfl) (by kernel_rfl) (fun _ _ _ _ h => h) (by rfl) ⟨.int .i64 ((m.top : Int) - 2), fun w' hx => by (go_simp <;> with_reducible rfl), ?_⟩
  simp only [Act.put, List.setIfInBounds_toArray, List.set_cons_zero, List.set_cons_succ]
  refine rg_take 5 rfl (by kernel_rfl) (by kernel_rfl) (by kernel_rfl) (fun _ _ _ _ h => h) (by rfl) ⟨_, fun w' hx => by (go_simp <;> with_reducible rfl), ?_⟩
  simp only [Act.put, List.setIfInBounds_toArray, List.set_cons_zero, List.set_cons_succ]
  refine rg_take 6 rfl (by kernel_rfl) (by kernel_rfl) (by kernel_rfl) (fun _ _ _ _ h => h) (by rfl) ⟨_, fun w' hx => by (go_simp <;> with_reducible rfl), ?_⟩   -- t37 := nilCheck t36
  simp only [Act.put, List.setIfInBounds_toArray, List.set_cons_zero, List.set_cons_succ]
  refine rg_take 7 rfl (by kernel_rfl) (by kernel_rfl) (by kernel_rfl) (fun _ _ _ _ h => h) (by rfl) ⟨_, fun w' hx => by (go_simp <;> with_reducible rfl), ?_⟩   -- t38 := fieldAddr 105 t37 1
  simp only [Act.put, List.setIfInBounds_toArray, List.set_cons_zero, List.set_cons_succ]
  refine rg_take 8 rfl (by kernel_rfl) (by kernel_rfl) (by kernel_rfl) (fun _ _ _ _ h => h) (by rfl) ⟨_, fun w' hx => by have hcx := hx.load T1; (go_simp <;> with_reducible rfl), ?_⟩
  simp only [Act.put, List.setIfInBounds_toArray, List.set_cons_zero, List.set_cons_succ]
  refine rg_take 9 rfl (by kernel_rfl) (by kernel_rfl) (by kernel_rfl) (fun _ _ _ _ h => h) (by rfl) ⟨_, fun w' hx => by (go_simp <;> with_reducible rfl), ?_⟩   -- t40 := len(t39)
  simp only [Act.put, List.setIfInBounds_toArray, List.set_cons_zero, List.set_cons_succ]
  refine rg_take 10 rfl (by kernel_rfl) (by kernel_rfl) (by kernel_rfl) (fun _ _ _ _ h => h) (by rfl) ⟨.int .i64 ((n : Int) + 1), fun w' hx => by (go_simp <;> with_reducible rfl), ?_⟩
  simp only [Act.put, List.setIfInBounds_toArray, List.set_cons_zero, List.set_cons_succ]
  refine rg_take 11 rfl (by kernel_rfl) (by kernel_rfl) (by kernel_rfl) (fun _ _ _ _ h => h) (by rfl) ⟨.int .i64 (2 * ((n : Int) + 1)), fun w' hx => by (go_simp <;> with_reducible rfl), ?_⟩
  simp only [Act.put, List.setIfInBounds_toArray, List.set_cons_zero, List.set_cons_succ]
  refine rg_take 12 rfl (by kernel_rfl) (by kernel_rfl) (by kernel_rfl) (fun _ _ _ _ h => h) (by rfl) ⟨.int .i64 ((m.top : Int) - 2 - 2 * ((n : Int) + 1)), fun w' hx => by (go_simp <;> with_reducible rfl), ?_⟩
  simp only [Act.put, List.setIfInBounds_toArray, List.set_cons_zero, List.set_cons_succ]
  refine rg_take 13 rfl (by kernel_rfl) (by kernel_rfl) (by kernel_rfl) (fun _ _ _ _ h => h) (by rfl) ⟨_, fun w' hx => by (go_simp <;> with_reducible rfl), ?_⟩
  simp only [Act.put, List.setIfInBounds_toArray, List.set_cons_zero, List.set_cons_succ]
  refine rg_take 14 rfl (by kernel_rfl) (by kernel_rfl) (by kernel_rfl) (fun _ _ _ _ h => h) (by rfl) ⟨_, fun w' hx => by (go_simp <;> with_reducible rfl), ?_⟩   -- t45 := len(t44)
  simp only [Act.put, List.setIfInBounds_toArray, List.set_cons_zero, List.set_cons_succ]
  refine rg_take 15 rfl (by kernel_rfl) (by kernel_rfl) (by kernel_rfl) (fun _ _ _ _ h => h) (by rfl) ⟨.bool (decide ((m.top : Int) - 2 - 2 * ((n : Int) + 1) < (p.length : Int))), fun w' hx => by (go_simp; try rfl), ?_⟩
  simp only [Act.put, List.setIfInBounds_toArray, List.set_cons_zero, List.set_cons_succ]
  refine rg_done (by kernel_rfl) ?_
  by_cases hpk : m.top < 2 + 2 * (n + 1) + p.length
  · have hpd : decide ((m.top : Int) - 2 - 2 * ((n : Int) + 1) < (p.length : Int)) = true := by simp; omega
    have hm1 : m1 = m.pack := by rw [Hrt.out, if_pos (by have := Hmn.out; omega)]
    have hP := ref_spack g A c L m w1.drew (HM1.out.ext (Ext.drew w1))
    rw [hpd]
    rw [← hm1] at hP
    clear hpd hm1 T0 T1
    go_wp2_with (go_at_call 79; refine hP.mono ?_; clear hP; rintro e2 w2 ⟨rfl, ⟨L1, hM2⟩, hb2⟩; refine Hid.out ?_)
    have hbW : Below g w w2 := Below.trans hb1 hb2
    have hgl2 : g < w2.heap.size := lt_of_heap hM2.row
    have HrW : Hid (RdB w2 C p ∧ (p ≠ [] → ∀ ad, C = some ad → ad.block ≠ g)) := ⟨HC.out.lowB hbW (fun hp ad e => by
      rcases Hlow.out hp ad e with h | ⟨_, h⟩
      · exact h
      · exact absurd (by have := Hmn.out; omega) h), fun hp ad e => by
      rcases Hlow.out hp ad e with h | ⟨h, _⟩
      · omega
      · exact h⟩
    clear hb1 hb2 HM1 hx1
    refine Lib.hid ?_
    have hln1 : L1.length = n := by rw [hM2.len, hm1n]
    have hMc := hM2.mc
    have c0 := hMc.top
    have f0 := hMc.frozen 0
    have hMt := hMc.setTop t2
    have h3l := hMt.list
    rw [hln1] at h3l
    have hnc1 := hM2.own.nc
    have hcc : i ≤ c := by omega
    have hbt : Below g w (w2.setCell ⟨g, 0, none⟩ (.int .i64 (t2 : Int))) := hbW.grown (grown_cell _ g 0 _) (by omega) (fun k e => by injection e with e; omega)
    have hrd1 : Rd (w2.setCell ⟨g, 0, none⟩ (.int .i64 (t2 : Int))) 2 A i (scs (L1.take i)) := by
      have := hMt.own.rd.headS (m := i) (by omega)
      rwa [scs_take] at this
    obtain ⟨m7, hm7⟩ : ∃ m7, m7 = n - i := ⟨_, rfl⟩
    obtain ⟨A7, hA7⟩ : ∃ A7, A7 = (if c = i then A else A.map (·.add (i * 2))) := ⟨_, rfl⟩
    have hrd7 : Rd (w2.setCell ⟨g, 0, none⟩ (.int .i64 (t2 : Int))) 2 A7 m7 (scs (L1.drop i)) := by
      have := hMt.own.rd.cutS (k := i) (m := L1.length) (by omega) (Nat.le_refl _) (c := c) hnc1
      rw [← hA7, hln1, ← hm7, ← hln1, scs_take, List.take_length, scs_drop] at this
      exact this
    have Hm7 := Lib.hid hm7
    have HA7 := Lib.hid hA7
    have Hrd1 := Lib.hid hrd1
    have Hrd7 := Lib.hid hrd7
    have HMt := Lib.hid hMt
    have Hbt := Lib.hid hbt
    have HL1 := Lib.hid hM2.l
    have Hln1 := Lib.hid hln1
    clear hMc hMt hm7 hA7 hrd1 hrd7 hbt hM2 hbW hln1
    go_wp2_with (first | (refine wpList_sliceH (by rfl) (.tmp 63) (.tmp 64) 103 rfl elemC A n c rfl i rfl hcc ?_) | (refine wpList_app (by rfl) (.tmp 59) (.tmp 65) 103 rfl elemC (w2.setCell ⟨g, 0, none⟩ (.int .i64 (t2 : Int))).heap.size _ 0 0 [] rfl A i c (scs (L1.take i)) rfl i (by omega) (scs (L1.take i)) rfl (Own.none_ _ _ _ _ _) Hrd1.out (scs_one_cell _) (by omega) (by omega) (Nat.le_refl _) ?_; intro A6 c6 w6 ho6 hg6 hr6; refine Hid.out ?_))
    obtain ⟨w3, hw3⟩ : ∃ w3, w3 = w2.setCell ⟨g, 0, none⟩ (.int .i64 (t2 : Int)) := ⟨_, rfl⟩
    rw [← hw3] at HMt Hbt Hrd1 Hrd7 ho6 hg6
    have hE6 : Ext w3 w6 := grown_none (by simpa [ownRow] using hg6)
    have hg3 := lt_of_heap HMt.out.row
    have hM6 := HMt.out.ext hE6
    have hb6 : Below g w w6 := Below.trans Hbt.out (Below.mono hE6 (by omega))
    have T4 := (hM6.ext (Ext.drew w6)).top
    have hrp3 : RdB w3 C p := by rw [hw3]; exact HrW.out.1.otherR (grown_cell w2 g 0 _) HrW.out.2
    have Hrp : Hid (RdB w6.drew C p) := hrp3.below (hE6.tr (Ext.drew w6))
    have Ho6 := Lib.hid ho6
    have hs6 := hE6.size
    clear hg6 hr6 h3l c0 f0 hw3 hM6 ho6 hgl2
    refine Lib.hid ?_
    go_wp2_with fail
    refine rg_start (by kernel_rfl) ?_
    refine rg_take 0 rfl (by kernel_rfl) (by kernel_rfl) (by kernel_rfl) (fun _ _ _ _ h => h) (by rfl) ⟨_, fun w' hx => by (go_simp <;> with_reducible rfl), ?_⟩
    simp only [Act.put, List.setIfInBounds_toArray, List.set_cons_zero, List.set_cons_succ]
    refine rg_take 1 rfl (by kernel_rfl) (by kernel_rfl) (by kernel_rfl) (fun _ _ _ _ h => h) (by rfl) ⟨_, fun w' hx => by (go_simp <;> with_reducible rfl), ?_⟩
    simp only [Act.put, List.setIfInBounds_toArray, List.set_cons_zero, List.set_cons_succ]
    refine rg_take 2 rfl (by kernel_rfl) (by kernel_rfl) (by kernel_rfl) (fun _ _ _ _ h => h) (by rfl) ⟨_, fun w' hx => by (go_simp <;> with_reducible rfl), ?_⟩   -- t69 := nilCheck t68
    simp only [Act.put, List.setIfInBounds_toArray, List.set_cons_zero, List.set_cons_succ]
    refine rg_take 3 rfl (by kernel_rfl) (by kernel_rfl) (by kernel_rfl) (fun _ _ _ _ h => h) (by rfl) ⟨_, fun w' hx => by (go_simp <;> with_reducible rfl), ?_⟩   -- t70 := fieldAddr 105 t69 0
    simp only [Act.put, List.setIfInBounds_toArray, List.set_cons_zero, List.set_cons_succ]
    refine rg_take 4 rfl (by kernel_rfl) (by kernel_rfl) (by kernel_rfl) (fun _ _ _ _ h => h) (by rfl) ⟨_, fun w' hx => by have hcx := hx.load T4; (go_simp <;> with_reducible rfl), ?_⟩
    simp only [Act.put, List.setIfInBounds_toArray, List.set_cons_zero, List.set_cons_succ]
    refine rg_take 6 rfl (by kernel_rfl) (by kernel_rfl) (by kernel_rfl) (fun _ _ _ _ h => h) (by rfl) ⟨_, fun w' hx => by (go_simp <;> with_reducible rfl), ?_⟩
    simp only [Act.put, List.setIfInBounds_toArray, List.set_cons_zero, List.set_cons_succ]
    refine rg_make 5 rfl (by kernel_rfl) (by rfl) ⟨_, _, by (go_simp <;> first | exact ⟨rfl, rfl⟩ | rfl), Ext.alloc _ _, ?_⟩
    simp only [Act.put, List.setIfInBounds_toArray, List.set_cons_zero, List.set_cons_succ]
    have hW0 : Ext w6.drew (w6.drew.alloc (.cells #[] 5)) := Ext.alloc _ _
    refine rg_one 7 rfl (by kernel_rfl) (by rfl) (wp_app (.tmp 72) (.tmp 73) 25 rfl elemB w6.heap.size _ 0 0 [] rfl C p.length pc (bvs p) rfl p.length (by omega) (bvs p) rfl (Own.none_ _ _ _ _ _) (Hrp.out.below hW0) (bvs_one _) (by omega) (by omega) hW0.size (fun A8 c8 w8 ho8 hg8 hr8 => ⟨.inl (grown_none (by simpa [ownRow] using hg8)), ?_⟩))
    have hE8 : Ext w6 w8 := Ext.tr (Ext.drew w6) (Ext.tr hW0 (grown_none (by simpa [ownRow] using hg8)))
    obtain ⟨q, hq⟩ : ∃ q : ScV, q = ⟨A8, c8, ⟨t2, p⟩⟩ := ⟨_, rfl⟩
    have Hqc : Hid ((#[.int .i64 (t2 : Int), .slice A8 p.length c8] : Array Value) = q.cells) := by rw [Hid, hq]; rfl
    have hoq8 : Own w8 (g + 1) 5 1 q.pa q.x.p.length q.pc (bvs q.x.p) := by rw [hq]; exact ho8.mono (by omega)
    have Hq := Lib.hid hq
    have Ho8 := Lib.hid (Ho6.out.below hE8)
    clear ho8 hg8 hr8 hq
    simp only [Act.put, List.setIfInBounds_toArray, List.set_cons_zero, List.set_cons_succ]
    refine rg_take 8 rfl (by kernel_rfl) (by kernel_rfl) (by kernel_rfl) (fun _ _ _ _ h => h) (by rfl) ⟨.agg q.cells, fun w' hx => by rw [← Hqc.out]; (go_simp <;> with_reducible rfl), ?_⟩
    simp only [Act.put, List.setIfInBounds_toArray, List.set_cons_zero, List.set_cons_succ]
    refine rg_make 9 rfl (by kernel_rfl) (by rfl) ⟨_, _, ex_buildOne 103 (.tmp 75) rfl elemC q.cells rfl rfl (by decide), Ext.alloc _ _, ?_⟩
    have hE9 : Ext w8 (w8.alloc (.cells q.cells 107)) := Ext.alloc _ _
    have hr9 : Rd (w8.alloc (.cells q.cells 107)) 2 (some ⟨w8.heap.size, 0, none⟩) 1 (scs [q]) := by
      refine ⟨rfl, fun _ => ⟨_, rfl, fun j u hj => ?_⟩⟩
      rw [Addr.add_lit, cell_of_row _ _ _ _ _ _ (heap_alloc_new w8 _)]
      simpa [scs] using hj
    simp only [Act.put, List.setIfInBounds_toArray, List.set_cons_zero, List.set_cons_succ]
    refine rg_last 10 rfl (by kernel_rfl) (by kernel_rfl) (by rfl) fun K hK => wp_app (.tmp 67) (.tmp 76) 103 rfl elemC w3.heap.size A6 i c6 (scs (L1.take i)) rfl (some ⟨w8.heap.size, 0, none⟩) 1 1 (scs [q]) rfl (i + 1) rfl (scs (L1.take i ++ [q])) (scs_app _ _) (Ho8.out.below hE9) hr9 (scs_one_cell _) (by omega) (by omega) (Nat.le_trans hs6 (Nat.le_trans hE8.size hE9.size)) fun A10 c10 w10 ho10 hg10 hr10 => hK _ _ ?_
    have hE10 : Ext w3 w10 := Below.trans (Ext.tr hE6 (Ext.tr hE8 hE9)) ((Ho8.out.below hE9).low hg10 (Nat.le_refl _) (Nat.le_trans hs6 (Nat.le_trans hE8.size hE9.size)))
    have hoq : Own w10 (g + 1) 5 1 q.pa q.x.p.length q.pc (bvs q.x.p) := by
      refine (hoq8.below hE9).kept hg10 fun k hk e2 => ?_
      obtain ⟨_, cur1, r1⟩ := (hoq8.below hE9).row_ge hk
      obtain ⟨_, cur2, r2⟩ := (Ho8.out.below hE9).row_ge e2.symm
      rw [r1] at r2
      injection r2 with r2
      injection r2 with _ r2
      exact absurd r2 (by decide)
    clear hg10 hr10 hr9 hoq8 hE8 hE9
    simp only [Act.put, List.setIfInBounds_toArray, List.set_cons_zero, List.set_cons_succ]
    refine rg_take 11 rfl (by kernel_rfl) (by kernel_rfl) (by kernel_rfl) (fun _ _ _ _ h => h) (by rfl) ⟨_, fun w' hx => by (go_simp <;> with_reducible rfl), ?_⟩
    simp only [Act.put, List.setIfInBounds_toArray, List.set_cons_zero, List.set_cons_succ]
    refine rg_done (by kernel_rfl) ?_
    obtain ⟨L2, hL2⟩ : ∃ L2, L2 = L1.take i ++ [q] ++ L1.drop i := ⟨_, rfl⟩
    have hM10 := HMt.out.ext hE10
    have h10l := hM10.list
    rw [Hln1.out] at h10l
    have hr7 := Hrd7.out.below hE10
    have hs10 := hE10.size
    have HL2 := Lib.hid hL2
    have hM10l := Lib.hid hM10
    have HE10 := Lib.hid hE10
    have Hoq := Lib.hid hoq
    clear hL2 hM10 hE10 hE6 hb6 T4 hoq
    go_wp2_with (first | (refine wpList_sliceL (by rfl) (.tmp 83) (.tmp 84) 103 rfl elemC A n c rfl i rfl (by omega) A7 HA7.out m7 _ Hm7.out rfl ?_) | (refine wpList_app (by rfl) (.tmp 79) (.tmp 85) 103 rfl elemC w3.heap.size A10 (i + 1) c10 (scs (L1.take i ++ [q])) rfl A7 m7 (c - i) (scs (L1.drop i)) rfl (i + 1 + m7) rfl (scs L2) (by rw [HL2.out, scs_app]) ho10 hr7 (scs_one_cell _) (by have := Hm7.out; omega) (by have := Hm7.out; omega) hs10 ?_; intro A12 c12 w12 ho12 hg12 hr12; refine Hid.out ?_))
    have hE12 : Ext w3 w12 := Below.trans HE10.out (ho10.low hg12 (Nat.le_refl _) hs10)
    have hE1012 : Ext w10 w12 ∨ True := .inr trivial
    have hlen : i + 1 + m7 = L2.length := by rw [HL2.out]; simp only [List.length_append, List.length_take, List.length_drop, List.length_cons, List.length_nil]; have := Hm7.out; have := Hln1.out; omega
    rw [hlen] at ho12 ⊢
    have hM12 := HMt.out.ext hE12
    have h12l := hM12.list
    have f12 := hM12.frozen 1
    have hoq12 : Own w12 (g + 1) 5 1 q.pa q.x.p.length q.pc (bvs q.x.p) := by
      refine Hoq.out.kept hg12 fun k hk e2 => ?_
      obtain ⟨_, cur1, r1⟩ := Hoq.out.row_ge hk
      obtain ⟨_, cur2, r2⟩ := ho10.row_ge e2.symm
      rw [r1] at r2
      injection r2 with r2
      injection r2 with _ r2
      exact absurd r2 (by decide)
    have hMs := hM12.setList (L' := L2) (ho12.mono (by omega)) (fun e he => by
      rw [HL2.out] at he
      rcases List.mem_append.1 he with he | he
      · rcases List.mem_append.1 he with he | he
        · exact hM12.each e (List.mem_of_mem_take he)
        · simp only [List.mem_singleton] at he
          subst he
          exact hoq12
      · exact hM12.each e (List.mem_of_mem_drop he))
    have hb12 : Below g w (w12.setCell ⟨g, 1, none⟩ (.slice A12 L2.length c12)) := (Below.trans Hbt.out (Below.mono hE12 (by omega))).grown (grown_cell _ g 1 _) (by have := hE12.size; omega) (fun k e => by injection e with e; omega)
    have HMs := Lib.hid hMs
    have Hb12 := Lib.hid hb12
    have hqx : q.x = ⟨t2, p⟩ := by rw [Hq.out]
    clear ho12 hg12 hr12 ho10 hr7 hM12 hMs hb12 h10l hlen hoq12 hM10l
    refine Lib.hid ?_
    go_wp2_with fail
    go_ret
    refine ⟨rfl, ⟨A12, c12, L2, ?_, HMs.out.own, HMs.out.each, ?_, Hli.out⟩, Hb12.out⟩
    · rw [Hlay.out]; exact HMs.out.row
    · rw [Hlay.out, HL2.out, List.map_append, List.map_append, List.map_take, List.map_drop, HL1.out]
      simp [hqx]
  · have hpd : decide ((m.top : Int) - 2 - 2 * ((n : Int) + 1) < (p.length : Int)) = false := by simp; omega
    have hm1 : m1 = m := by rw [Hrt.out, if_neg (by have := Hmn.out; omega)]
    obtain ⟨w2, hw2⟩ : ∃ w2, w2 = w1.drew := ⟨_, rfl⟩
    obtain ⟨L1, hL1⟩ : ∃ L1, L1 = L := ⟨_, rfl⟩
    have hM2 : MAt w2 g A c L1 m1 := by rw [hw2, hL1, hm1]; exact HM1.out.ext (Ext.drew w1)
    have hbW : Below g w w2 := by rw [hw2]; exact hb1
    have hgl2 : g < w2.heap.size := lt_of_heap hM2.row
    have HrW : Hid (RdB w2 C p ∧ (p ≠ [] → ∀ ad, C = some ad → ad.block ≠ g)) := ⟨by rw [hw2]; exact HC.out.below (Ext.tr hx1 (Ext.drew w1)), fun hp ad e => by
      rcases Hlow.out hp ad e with h | ⟨h, _⟩
      · omega
      · exact h⟩
    rw [hpd, ← hw2]
    clear hpd hm1 T0 T1 hb1 HM1 hx1 hw2 hL1
    have hln1 : L1.length = n := by rw [hM2.len, hm1n]
    have hMc := hM2.mc
    have c0 := hMc.top
    have f0 := hMc.frozen 0
    have hMt := hMc.setTop t2
    have h3l := hMt.list
    rw [hln1] at h3l
    have hnc1 := hM2.own.nc
    have hcc : i ≤ c := by omega
    have hbt : Below g w (w2.setCell ⟨g, 0, none⟩ (.int .i64 (t2 : Int))) := hbW.grown (grown_cell _ g 0 _) (by omega) (fun k e => by injection e with e; omega)
    have hrd1 : Rd (w2.setCell ⟨g, 0, none⟩ (.int .i64 (t2 : Int))) 2 A i (scs (L1.take i)) := by
      have := hMt.own.rd.headS (m := i) (by omega)
      rwa [scs_take] at this
    obtain ⟨m7, hm7⟩ : ∃ m7, m7 = n - i := ⟨_, rfl⟩
    obtain ⟨A7, hA7⟩ : ∃ A7, A7 = (if c = i then A else A.map (·.add (i * 2))) := ⟨_, rfl⟩
    have hrd7 : Rd (w2.setCell ⟨g, 0, none⟩ (.int .i64 (t2 : Int))) 2 A7 m7 (scs (L1.drop i)) := by
      have := hMt.own.rd.cutS (k := i) (m := L1.length) (by omega) (Nat.le_refl _) (c := c) hnc1
      rw [← hA7, hln1, ← hm7, ← hln1, scs_take, List.take_length, scs_drop] at this
      exact this
    have Hm7 := Lib.hid hm7
    have HA7 := Lib.hid hA7
    have Hrd1 := Lib.hid hrd1
    have Hrd7 := Lib.hid hrd7
    have HMt := Lib.hid hMt
    have Hbt := Lib.hid hbt
    have HL1 := Lib.hid hM2.l
    have Hln1 := Lib.hid hln1
    clear hMc hMt hm7 hA7 hrd1 hrd7 hbt hM2 hbW hln1
    go_wp2_with (first | (refine wpList_sliceH (by rfl) (.tmp 63) (.tmp 64) 103 rfl elemC A n c rfl i rfl hcc ?_) | (refine wpList_app (by rfl) (.tmp 59) (.tmp 65) 103 rfl elemC (w2.setCell ⟨g, 0, none⟩ (.int .i64 (t2 : Int))).heap.size _ 0 0 [] rfl A i c (scs (L1.take i)) rfl i (by omega) (scs (L1.take i)) rfl (Own.none_ _ _ _ _ _) Hrd1.out (scs_one_cell _) (by omega) (by omega) (Nat.le_refl _) ?_; intro A6 c6 w6 ho6 hg6 hr6; refine Hid.out ?_))
    obtain ⟨w3, hw3⟩ : ∃ w3, w3 = w2.setCell ⟨g, 0, none⟩ (.int .i64 (t2 : Int)) := ⟨_, rfl⟩
    rw [← hw3] at HMt Hbt Hrd1 Hrd7 ho6 hg6
    have hE6 : Ext w3 w6 := grown_none (by simpa [ownRow] using hg6)
    have hg3 := lt_of_heap HMt.out.row
    have hM6 := HMt.out.ext hE6
    have hb6 : Below g w w6 := Below.trans Hbt.out (Below.mono hE6 (by omega))
    have T4 := (hM6.ext (Ext.drew w6)).top
    have hrp3 : RdB w3 C p := by rw [hw3]; exact HrW.out.1.otherR (grown_cell w2 g 0 _) HrW.out.2
    have Hrp : Hid (RdB w6.drew C p) := hrp3.below (hE6.tr (Ext.drew w6))
    have Ho6 := Lib.hid ho6
    have hs6 := hE6.size
    clear hg6 hr6 h3l c0 f0 hw3 hM6 ho6 hgl2
    refine Lib.hid ?_
    go_wp2_with fail
    refine rg_start (by kernel_rfl) ?_
    refine rg_take 0 rfl (by kernel_rfl) (by kernel_rfl) (by kernel_rfl) (fun _ _ _ _ h => h) (by rfl) ⟨_, fun w' hx => by (go_simp <;> with_reducible rfl), ?_⟩
    simp only [Act.put, List.setIfInBounds_toArray, List.set_cons_zero, List.set_cons_succ]
    refine rg_take 1 rfl (by kernel_rfl) (by kernel_rfl) (by kernel_rfl) (fun _ _ _ _ h => h) (by rfl) ⟨_, fun w' hx => by (go_simp <;> with_reducible rfl), ?_⟩
    simp only [Act.put, List.setIfInBounds_toArray, List.set_cons_zero, List.set_cons_succ]
    refine rg_take 2 rfl (by kernel_rfl) (by kernel_rfl) (by kernel_rfl) (fun _ _ _ _ h => h) (by rfl) ⟨_, fun w' hx => by (go_simp <;> with_reducible rfl), ?_⟩   -- t69 := nilCheck t68
    simp only [Act.put, List.setIfInBounds_toArray, List.set_cons_zero, List.set_cons_succ]
    refine rg_take 3 rfl (by kernel_rfl) (by kernel_rfl) (by kernel_rfl) (fun _ _ _ _ h => h) (by rfl) ⟨_, fun w' hx => by (go_simp <;> with_reducible rfl), ?_⟩   -- t70 := fieldAddr 105 t69 0
    simp only [Act.put, List.setIfInBounds_toArray, List.set_cons_zero, List.set_cons_succ]
    refine rg_take 4 rfl (by kernel_rfl) (by kernel_rfl) (by kernel_rfl) (fun _ _ _ _ h => h) (by rfl) ⟨_, fun w' hx => by have hcx := hx.load T4; (go_simp <;> with_reducible rfl), ?_⟩
    simp only [Act.put, List.setIfInBounds_toArray, List.set_cons_zero, List.set_cons_succ]
    refine rg_take 6 rfl (by kernel_rfl) (by kernel_rfl) (by kernel_rfl) (fun _ _ _ _ h => h) (by rfl) ⟨_, fun w' hx => by (go_simp <;> with_reducible rfl), ?_⟩
    simp only [Act.put, List.setIfInBounds_toArray, List.set_cons_zero, List.set_cons_succ]
    refine rg_make 5 rfl (by kernel_rfl) (by rfl) ⟨_, _, by (go_simp <;> first | exact ⟨rfl, rfl⟩ | rfl), Ext.alloc _ _, ?_⟩
    simp only [Act.put, List.setIfInBounds_toArray, List.set_cons_zero, List.set_cons_succ]
    have hW0 : Ext w6.drew (w6.drew.alloc (.cells #[] 5)) := Ext.alloc _ _
    refine rg_one 7 rfl (by kernel_rfl) (by rfl) (wp_app (.tmp 72) (.tmp 73) 25 rfl elemB w6.heap.size _ 0 0 [] rfl C p.length pc (bvs p) rfl p.length (by omega) (bvs p) rfl (Own.none_ _ _ _ _ _) (Hrp.out.below hW0) (bvs_one _) (by omega) (by omega) hW0.size (fun A8 c8 w8 ho8 hg8 hr8 => ⟨.inl (grown_none (by simpa [ownRow] using hg8)), ?_⟩))
    have hE8 : Ext w6 w8 := Ext.tr (Ext.drew w6) (Ext.tr hW0 (grown_none (by simpa [ownRow] using hg8)))
    obtain ⟨q, hq⟩ : ∃ q : ScV, q = ⟨A8, c8, ⟨t2, p⟩⟩ := ⟨_, rfl⟩
    have Hqc : Hid ((#[.int .i64 (t2 : Int), .slice A8 p.length c8] : Array Value) = q.cells) := by rw [Hid, hq]; rfl
    have hoq8 : Own w8 (g + 1) 5 1 q.pa q.x.p.length q.pc (bvs q.x.p) := by rw [hq]; exact ho8.mono (by omega)
    have Hq := Lib.hid hq
    have Ho8 := Lib.hid (Ho6.out.below hE8)
    clear ho8 hg8 hr8 hq
    simp only [Act.put, List.setIfInBounds_toArray, List.set_cons_zero, List.set_cons_succ]
    refine rg_take 8 rfl (by kernel_rfl) (by kernel_rfl) (by kernel_rfl) (fun _ _ _ _ h => h) (by rfl) ⟨.agg q.cells, fun w' hx => by rw [← Hqc.out]; (go_simp <;> with_reducible rfl), ?_⟩
    simp only [Act.put, List.setIfInBounds_toArray, List.set_cons_zero, List.set_cons_succ]
    refine rg_make 9 rfl (by kernel_rfl) (by rfl) ⟨_, _, ex_buildOne 103 (.tmp 75) rfl elemC q.cells rfl rfl (by decide), Ext.alloc _ _, ?_⟩
    have hE9 : Ext w8 (w8.alloc (.cells q.cells 107)) := Ext.alloc _ _
    have hr9 : Rd (w8.alloc (.cells q.cells 107)) 2 (some ⟨w8.heap.size, 0, none⟩) 1 (scs [q]) := by
      refine ⟨rfl, fun _ => ⟨_, rfl, fun j u hj => ?_⟩⟩
      rw [Addr.add_lit, cell_of_row _ _ _ _ _ _ (heap_alloc_new w8 _)]
      simpa [scs] using hj
    simp only [Act.put, List.setIfInBounds_toArray, List.set_cons_zero, List.set_cons_succ]
    refine rg_last 10 rfl (by kernel_rfl) (by kernel_rfl) (by rfl) fun K hK => wp_app (.tmp 67) (.tmp 76) 103 rfl elemC w3.heap.size A6 i c6 (scs (L1.take i)) rfl (some ⟨w8.heap.size, 0, none⟩) 1 1 (scs [q]) rfl (i + 1) rfl (scs (L1.take i ++ [q])) (scs_app _ _) (Ho8.out.below hE9) hr9 (scs_one_cell _) (by omega) (by omega) (Nat.le_trans hs6 (Nat.le_trans hE8.size hE9.size)) fun A10 c10 w10 ho10 hg10 hr10 => hK _ _ ?_
    have hE10 : Ext w3 w10 := Below.trans (Ext.tr hE6 (Ext.tr hE8 hE9)) ((Ho8.out.below hE9).low hg10 (Nat.le_refl _) (Nat.le_trans hs6 (Nat.le_trans hE8.size hE9.size)))
    have hoq : Own w10 (g + 1) 5 1 q.pa q.x.p.length q.pc (bvs q.x.p) := by
      refine (hoq8.below hE9).kept hg10 fun k hk e2 => ?_
      obtain ⟨_, cur1, r1⟩ := (hoq8.below hE9).row_ge hk
      obtain ⟨_, cur2, r2⟩ := (Ho8.out.below hE9).row_ge e2.symm
      rw [r1] at r2
      injection r2 with r2
      injection r2 with _ r2
      exact absurd r2 (by decide)
    clear hg10 hr10 hr9 hoq8 hE8 hE9
    simp only [Act.put, List.setIfInBounds_toArray, List.set_cons_zero, List.set_cons_succ]
    refine rg_take 11 rfl (by kernel_rfl) (by kernel_rfl) (by kernel_rfl) (fun _ _ _ _ h => h) (by rfl) ⟨_, fun w' hx => by (go_simp <;> with_reducible rfl), ?_⟩
    simp only [Act.put, List.setIfInBounds_toArray, List.set_cons_zero, List.set_cons_succ]
    refine rg_done (by kernel_rfl) ?_
    obtain ⟨L2, hL2⟩ : ∃ L2, L2 = L1.take i ++ [q] ++ L1.drop i := ⟨_, rfl⟩
    have hM10 := HMt.out.ext hE10
    have h10l := hM10.list
    rw [Hln1.out] at h10l
    have hr7 := Hrd7.out.below hE10
    have hs10 := hE10.size
    have HL2 := Lib.hid hL2
    have hM10l := Lib.hid hM10
    have HE10 := Lib.hid hE10
    have Hoq := Lib.hid hoq
    clear hL2 hM10 hE10 hE6 hb6 T4 hoq
    go_wp2_with (first | (refine wpList_sliceL (by rfl) (.tmp 83) (.tmp 84) 103 rfl elemC A n c rfl i rfl (by omega) A7 HA7.out m7 _ Hm7.out rfl ?_) | (refine wpList_app (by rfl) (.tmp 79) (.tmp 85) 103 rfl elemC w3.heap.size A10 (i + 1) c10 (scs (L1.take i ++ [q])) rfl A7 m7 (c - i) (scs (L1.drop i)) rfl (i + 1 + m7) rfl (scs L2) (by rw [HL2.out, scs_app]) ho10 hr7 (scs_one_cell _) (by have := Hm7.out; omega) (by have := Hm7.out; omega) hs10 ?_; intro A12 c12 w12 ho12 hg12 hr12; refine Hid.out ?_))
    have hE12 : Ext w3 w12 := Below.trans HE10.out (ho10.low hg12 (Nat.le_refl _) hs10)
    have hE1012 : Ext w10 w12 ∨ True := .inr trivial
    have hlen : i + 1 + m7 = L2.length := by rw [HL2.out]; simp only [List.length_append, List.length_take, List.length_drop, List.length_cons, List.length_nil]; have := Hm7.out; have := Hln1.out; omega
    rw [hlen] at ho12 ⊢
    have hM12 := HMt.out.ext hE12
    have h12l := hM12.list
    have f12 := hM12.frozen 1
    have hoq12 : Own w12 (g + 1) 5 1 q.pa q.x.p.length q.pc (bvs q.x.p) := by
      refine Hoq.out.kept hg12 fun k hk e2 => ?_
      obtain ⟨_, cur1, r1⟩ := Hoq.out.row_ge hk
      obtain ⟨_, cur2, r2⟩ := ho10.row_ge e2.symm
      rw [r1] at r2
      injection r2 with r2
      injection r2 with _ r2
      exact absurd r2 (by decide)
    have hMs := hM12.setList (L' := L2) (ho12.mono (by omega)) (fun e he => by
      rw [HL2.out] at he
      rcases List.mem_append.1 he with he | he
      · rcases List.mem_append.1 he with he | he
        · exact hM12.each e (List.mem_of_mem_take he)
        · simp only [List.mem_singleton] at he
          subst he
          exact hoq12
      · exact hM12.each e (List.mem_of_mem_drop he))
    have hb12 : Below g w (w12.setCell ⟨g, 1, none⟩ (.slice A12 L2.length c12)) := (Below.trans Hbt.out (Below.mono hE12 (by omega))).grown (grown_cell _ g 1 _) (by have := hE12.size; omega) (fun k e => by injection e with e; omega)
    have HMs := Lib.hid hMs
    have Hb12 := Lib.hid hb12
    have hqx : q.x = ⟨t2, p⟩ := by rw [Hq.out]
    clear ho12 hg12 hr12 ho10 hr7 hM12 hMs hb12 h10l hlen hoq12 hM10l
    refine Lib.hid ?_
    go_wp2_with fail
    go_ret
    refine ⟨rfl, ⟨A12, c12, L2, ?_, HMs.out.own, HMs.out.each, ?_, Hli.out⟩, Hb12.out⟩
    · rw [Hlay.out]; exact HMs.out.row
    · rw [Hlay.out, HL2.out, List.map_append, List.map_append, List.map_take, List.map_drop, HL1.out]
      simp [hqx]
theorem ref_sinsert (g : Nat) (A : Option Addr) (c : Nat) (L : List ScV) (m : SBody) (i : Int) (C : Option Addr) (p : List UInt8) (pc : Nat) (w : World) (h : MAt w g A c L m) (hC : RdB w C p) (hlow : p ≠ [] → ∀ ad, C = some ad → ad.block < g) (hpl : p.length ≤ 1000000) :
    Calls Tryz.prog 53 #[.pointer (some ⟨g, 0, none⟩), .int .i64 i, .slice C p.length pc] w (RDone g w (m.insert i p).1 (m.insert i p).2) :=
  ref_sinsertG g A c L m i C p pc w h hC (fun hp ad e => .inl (hlow hp ad e)) hpl
end Go.Proofs.YtkpagmfaccmiaaaGreat

/- Contract: scowref06.Body.Bytes. Printed by wip/tools/gen_sltrbytes06.py. -/

namespace Go.Proofs.YtkpagmfaccmiaaaGreat

open Go.RowKit

attribute [local go_sem] Oper.semAt_some

theorem BO.setN {w : World} {g : Nat} {b : List UInt8} (h : BO w g b) (j t : Nat) (ht : t < 256) : BO (w.setCell ⟨g, j, none⟩ (.int .u8 (t : Int))) g (b.set j (u8 t)) := by
  have := h.set j (u8 t)
  rwa [u8_nat ht] at this
/-- One byte more is laid over. -/
theorem ovw_step {l : List UInt8} {k x : Nat} {p : List UInt8} (hk : k + p.length ≤ l.length) (hx : x < p.length) : (ovw l k (p.take x)).set (k + x) p[x] = ovw l k (p.take (x + 1)) := by
  have h1 : (p.take x).length = x := by rw [List.length_take]; omega
  have h2 : (p.take (x + 1)).length = x + 1 := by rw [List.length_take]; omega
  have hl := ovw_len (l := l) (k := k) (p := p.take x) (by rw [h1]; omega)
  refine List.ext_getElem? fun j => ?_
  rw [set_get _ _ _ (by rw [hl]; omega), ovw_get _ _ _ (by rw [h1]; omega), ovw_get _ _ _ (by rw [h2]; omega), h1, h2]
  by_cases h3 : j = k + x
  · subst h3
    rw [if_pos rfl, if_neg (by omega), if_pos (by omega), List.getElem?_take, if_pos (by omega), show k + x - k = x by omega, List.getElem?_eq_getElem hx]
  · rw [if_neg h3]
    by_cases h4 : j < k
    · rw [if_pos h4, if_pos h4]
    · rw [if_neg h4, if_neg h4]
      by_cases h5 : j < k + x
      · rw [if_pos h5, if_pos (by omega), List.getElem?_take, List.getElem?_take, if_pos (by omega), if_pos (by omega)]
      · rw [if_neg h5, if_neg (by omega)]
set_option maxRecDepth 100000 in
set_option maxHeartbeats 1000000 in
theorem ref_sbytes (g : Nat) (A : Option Addr) (c : Nat) (L : List ScV) (m : SBody) (w : World) (h : MAt w g A c L m) :
    Calls Tryz.prog 54 #[.pointer (some ⟨g, 0, none⟩)] w (BytesR m w) := by
  have hn := h.inv.n
  have hlen := h.len
  have htp := h.inv.top
  have Hh := Lib.hid h
  have hgs := lt_of_heap h.row
  obtain ⟨n, hnn⟩ : ∃ n, n = L.length := ⟨_, rfl⟩
  have hmn : n = m.l.length := by omega
  have Hn := Lib.hid hnn
  have Hmn := Lib.hid hmn
  have hn120 : n ≤ 120 := by omega
  have Htop : Hid (∀ w2, Ext w w2 → w2.cell? ⟨g, 0, none⟩ = some (.int .i64 (m.top : Int)) ∧ w2.cell? ⟨g, 1, none⟩ = some (.slice A n c)) := fun w2 hx => ⟨(Hh.out.ext hx).top, by rw [hnn]; exact (Hh.out.ext hx).list⟩
  clear h hlen hnn hmn
  go_enter Tryz.func54, Tryz.ntmps54
  go_wp2_with (refine wpList_mk (by rfl) _ _ 25 rfl elemB (.int .u8 0) (by kernel_rfl) rfl 243 .i64 .i64 rfl rfl (by omega) (by omega) ?_; refine Hid.out ?_)
  have hz : Array.replicate 243 (.int .u8 0) = (bvs (zeros 243)).toArray := by
    apply Array.ext'
    simp only [Array.toList_replicate, bvs, zeros, List.map_replicate]
    rfl
  rw [hz]
  clear hz
  obtain ⟨o, ho⟩ : ∃ o, o = w.heap.size := ⟨_, rfl⟩
  obtain ⟨w1, hw1⟩ : ∃ w1, w1 = w.alloc (.cells (bvs (zeros 243)).toArray 5) := ⟨_, rfl⟩
  have hO1 : BO w1 o (zeros 243) := ⟨by rw [hw1, ho]; exact heap_alloc_new w _⟩
  have hx1 : Ext w w1 := by rw [hw1]; exact Ext.alloc w _
  rw [← hw1, ← ho]
  have Ho := Lib.hid ho
  clear hw1 ho
  obtain ⟨T0, T1⟩ := Htop.out w1 hx1
  have hzl := zeros_len 243
  have a0 := hO1.cell (j := 0) (by omega)
  have b0 := hO1.frozen 0
  have un : IntKind.u8.wrap (n : Int) = (n : Int) := by simp [IntKind.wrap, IntKind.bits, IntKind.signed]; omega
  have ut : IntKind.u8.wrap (m.top : Int) = (m.top : Int) := by simp [IntKind.wrap, IntKind.bits, IntKind.signed]; omega
  have hO2 := hO1.setN 0 n (by omega)
  have hx2 : Ext w (w1.setCell ⟨o, 0, none⟩ (.int .u8 (n : Int))) := below_row hx1 (grown_cell _ o 0 _) (by have := Ho.out; omega) hx1.size
  obtain ⟨T2, T3⟩ := Htop.out _ hx2
  have a1 := hO2.cell (j := 1) (by rw [List.length_set]; omega)
  have b1 := hO2.frozen 1
  have hO3 := hO2.setN 1 m.top (by omega)
  have hx3 := below_row hx2 (grown_cell _ o 1 (.int .u8 (m.top : Int))) (by have := Ho.out; omega) hx2.size
  have hR0 := RB.start m
  rw [← Hmn.out] at hR0
  have HO3 := Lib.hid hO3
  have Hx3 := Lib.hid hx3
  clear hO1 hx1 hO2 hx2 hO3 hx3
  refine Lib.hid ?_
  go_wp2_with fail
  go_loopw [4] (fun i wr => ∃ (k : Nat) (out : List UInt8), k ≤ n ∧ i = .int .i64 k ∧ RB m k out ∧ BO wr o out ∧ Ext w wr) (fun i _ => n - (intOf i).toNat)
  case atStart => exact ⟨0, _, by omega, rfl, hR0, HO3.out, Hx3.out⟩
  case round =>
    clear HO3 Hx3 T0 T1 T2 T3 a0 b0 a1 b1 hR0
    obtain ⟨k, out, hk, rfl, hR, hO, hE⟩ := hrel
    obtain ⟨S0, S1⟩ := Htop.out wr hE
    have HR := Lib.hid hR
    have hol := hR.len
    by_cases hkn : k < n
    · have hkL : k < L.length := by have := Hn.out; omega
      have hkm : k < m.l.length := by have := Hmn.out; omega
      obtain ⟨ad, hA, -, -⟩ := Hh.out.at_ hkL
      have hx := Hh.out.get hkL
      obtain ⟨y, hy⟩ : ∃ y, y = L[k] := ⟨_, rfl⟩
      have HY : Hid (∀ w2, Ext w w2 → w2.cell? (ad.add (k * 2)) = some (.int .i64 (y.x.pos : Int)) ∧ w2.cell? ⟨(ad.add (k * 2)).block, (ad.add (k * 2)).off + 1, none⟩ = some (.slice y.pa y.x.p.length y.pc) ∧ RdB w2 y.pa y.x.p) := fun w2 h2 => by
        obtain ⟨ad2, e, e1, e2⟩ := (Hh.out.ext h2).at_ hkL
        rw [hA] at e
        injection e with e
        subst e
        rw [hy]
        exact ⟨e1, e2, ((Hh.out.ext h2).each _ (List.getElem_mem hkL)).rd'⟩
      have hfit : y.x.pos + y.x.p.length ≤ 243 := by rw [hy, hx]; exact Hh.out.inv.fit _ (List.getElem_mem _)
      have hstep := hR.step Hh.out.inv hkm
      rw [← hx, ← hy] at hstep
      have hrb : rbE m k hkm out = (out.set (2 + 2 * k) (u8 (if y.x.p = [] then m.top else y.x.pos))).set (3 + 2 * k) (u8 y.x.p.length) := by
        unfold rbE SCell.fix
        rw [← hx, ← hy]
        split <;> rfl
      obtain ⟨ob, hob⟩ : ∃ ob, ob = rbE m k hkm out := ⟨_, rfl⟩
      rw [← hob] at hstep hrb
      subst hA
      obtain ⟨ps, hps⟩ : ∃ ps, ps = y.x.pos := ⟨_, rfl⟩
      obtain ⟨p, hp⟩ : ∃ p, p = y.x.p := ⟨_, rfl⟩
      obtain ⟨pa, hpa⟩ : ∃ pa, pa = y.pa := ⟨_, rfl⟩
      rw [← hps, ← hp] at HY hfit hstep hrb
      rw [← hpa] at HY
      have hobl : ob.length = 243 := by rw [hrb, List.length_set, List.length_set, hol]
      obtain ⟨j1, hj1⟩ : ∃ j1, j1 = 2 + 2 * k := ⟨_, rfl⟩
      obtain ⟨j2, hj2⟩ : ∃ j2, j2 = 3 + 2 * k := ⟨_, rfl⟩
      rw [← hj1, ← hj2] at hrb
      have ik : (0 : Int) ≤ (k : Int) := by omega
      have ik2 : (k : Int) < (n : Int) := by omega
      have i1 : (j1 : Int) < 243 := by omega
      have i2 : (0 : Int) ≤ (j1 : Int) := by omega
      have i3 : (j2 : Int) < 243 := by omega
      have i4 : (0 : Int) ≤ (j2 : Int) := by omega
      have v1 : IntKind.i64.wrap (2 * (k : Int)) = 2 * (k : Int) := by rw [IntKind.wrap_i64]; omega
      have v2 : IntKind.i64.wrap (2 + 2 * (k : Int)) = (j1 : Int) := by rw [IntKind.wrap_i64]; omega
      have v3 : IntKind.i64.wrap (3 + 2 * (k : Int)) = (j2 : Int) := by rw [IntKind.wrap_i64]; omega
      have up : IntKind.u8.wrap (ps : Int) = (ps : Int) := by simp [IntKind.wrap, IntKind.bits, IntKind.signed]; omega
      have ul : IntKind.u8.wrap (p.length : Int) = (p.length : Int) := by simp [IntKind.wrap, IntKind.bits, IntKind.signed]; omega
      obtain ⟨P0, P1, -⟩ := HY.out wr hE
      have a1 := hO.cell (j := j1) (by omega)
      have b1 := hO.frozen j1
      have hO1 := hO.setN j1 ps (by omega)
      have hx1 := below_row hE (grown_cell _ o j1 (.int .u8 (ps : Int))) (by have := Ho.out; omega) hE.size
      obtain ⟨S2, S3⟩ := Htop.out _ hx1
      obtain ⟨P2, P3, -⟩ := HY.out _ hx1
      have Hstep := Lib.hid hstep
      have Hrb := Lib.hid hrb
      clear hx hy hps hp hpa hj1 hj2 hob hR hstep hrb
      by_cases hp0 : p = []
      · subst hp0
        simp only [List.length_nil] at HY Hrb
        have HY0 : Hid (∀ w2, Ext w w2 → w2.cell? (ad.add (k * 2)) = some (.int .i64 (ps : Int)) ∧ w2.cell? ⟨(ad.add (k * 2)).block, (ad.add (k * 2)).off + 1, none⟩ = some (.slice pa 0 y.pc)) := fun w2 h2 => ⟨(HY.out w2 h2).1, (HY.out w2 h2).2.1⟩
        clear P0 P1 P2 P3 HY up ul
        have up : IntKind.u8.wrap (ps : Int) = (ps : Int) := by simp [IntKind.wrap, IntKind.bits, IntKind.signed]; omega
        have ul : IntKind.u8.wrap 0 = 0 := rfl
        obtain ⟨P0, P1⟩ := HY0.out _ hE
        obtain ⟨P2, P3⟩ := HY0.out _ hx1
        have a2 := hO1.cell (j := j1) (by rw [List.length_set]; omega)
        have b2 := hO1.frozen j1
        have hO2 := hO1.setN j1 m.top (by omega)
        have hx2 := below_row hx1 (grown_cell _ o j1 (.int .u8 (m.top : Int))) (by have := Ho.out; omega) hx1.size
        rw [List.set_set] at hO2
        obtain ⟨S4, S5⟩ := Htop.out _ hx2
        obtain ⟨P4, P5⟩ := HY0.out _ hx2
        have a3 := hO2.cell (j := j2) (by rw [List.length_set]; omega)
        have b3 := hO2.frozen j2
        have hO3 := hO2.setN j2 0 (by omega)
        have hx3 := below_row hx2 (grown_cell _ o j2 (.int .u8 ((0 : Nat) : Int))) (by have := Ho.out; omega) hx2.size
        have hobe : ob = (out.set j1 (u8 m.top)).set j2 (u8 0) := by rw [Hrb.out, if_pos trivial]
        rw [← hobe] at hO3
        have HO3 := Lib.hid hO3
        have Hx3 := Lib.hid hx3
        clear hO hO1 hO2 hx2 hx1 hO3 hx3 hobe
        go_wp2_with fail
        go_loopw [5] (fun i wv => i = .int .i64 0 ∧ BO wv o ob ∧ Ext w wv) (fun _ _ => 0)
        case atStart => exact ⟨rfl, HO3.out, Hx3.out⟩
        case round =>
          clear HO3 Hx3 S0 S1 S2 S3 S4 S5 P0 P1 P2 P3 P4 P5 a1 b1 a2 b2 a3 b3 hE
          obtain ⟨rfl, hOx, hEx⟩ := hrel
          obtain ⟨S4, S5⟩ := Htop.out _ hEx
          obtain ⟨P4, P5⟩ := HY0.out _ hEx
          go_wp2_with fail
          go_roundw
          case rel => exact ⟨k + 1, _, by omega, by go_num, Hstep.out, by rw [ovw_nil]; exact hOx, hEx⟩
          case measure => simp [intOf]; omega
      · have hp1 : ¬ ((p.length : Int) = 0) := by have := List.length_pos_iff.2 hp0; omega
        have a2 := hO1.cell (j := j2) (by rw [List.length_set]; omega)
        have b2 := hO1.frozen j2
        have hO2 := hO1.setN j2 p.length (by omega)
        have hx2 := below_row hx1 (grown_cell _ o j2 (.int .u8 (p.length : Int))) (by have := Ho.out; omega) hx1.size
        have HO2 := Lib.hid hO2
        have Hx2 := Lib.hid hx2
        clear hO hO1 hO2 hx2 hx1
        go_wp2_with fail
        go_loopw [5] (fun i wv => ∃ x : Nat, x ≤ p.length ∧ i = .int .i64 x ∧ BO wv o (ovw ob ps (p.take x)) ∧ Ext w wv) (fun i _ => p.length - (intOf i).toNat)
        case atStart => exact ⟨0, by omega, rfl, by rw [List.take_zero, ovw_nil, Hrb.out, if_neg hp0]; exact HO2.out, Hx2.out⟩
        case round =>
          clear HO2 Hx2 S0 S1 S2 S3 P0 P1 P2 P3 a1 b1 a2 b2 hE
          obtain ⟨x, hxl, rfl, hOx, hEx⟩ := hrel
          have hEd := Ext.tr hEx (Ext.drew _)
          obtain ⟨S4, S5⟩ := Htop.out _ hEx
          obtain ⟨P4, P5, -⟩ := HY.out _ hEx
          obtain ⟨S6, S7⟩ := Htop.out _ hEd
          obtain ⟨P6, P7, P8⟩ := HY.out _ hEd
          by_cases hxp : x < p.length
          · obtain ⟨ad3, hpa3, h3⟩ := P8.at_ hxp
            clear P8
            subst hpa3
            obtain ⟨z, hz⟩ : ∃ z, z = ps + x := ⟨_, rfl⟩
            have hzw : IntKind.i64.wrap ((ps : Int) + (x : Int)) = (z : Int) := by rw [IntKind.wrap_i64]; omega
            have xk : (0 : Int) ≤ (x : Int) := by omega
            have xk2 : (x : Int) < (p.length : Int) := by omega
            have zk : (0 : Int) ≤ (z : Int) := by omega
            have zk2 : (z : Int) < 243 := by omega
            have hol2 : (ovw ob ps (p.take x)).length = 243 := by rw [ovw_len (by rw [List.length_take]; omega), hobl]
            have hOd := hOx.ext (Ext.drew _)
            have a3 := hOd.cell (j := z) (by omega)
            have b3 := hOd.frozen z
            have hOn := hOd.set z p[x]
            have hxn := below_row hEd (grown_cell _ o z (.int .u8 (p[x].toNat : Int))) (by have := Ho.out; omega) hEd.size
            have hst := ovw_step (l := ob) (k := ps) (p := p) (by omega) hxp
            rw [← hz] at hst
            rw [hst] at hOn
            have HOn := Lib.hid hOn
            have Hxn := Lib.hid hxn
            obtain ⟨u, hu⟩ : ∃ u, u = p[x] := ⟨_, rfl⟩
            rw [← hu] at h3 HOn Hxn
            clear hOx hOd hOn hxn hst hz hu
            go_wp2_with fail
            refine rg_start (by kernel_rfl) ?_
            refine rg_take 0 rfl (by kernel_rfl) (by kernel_rfl) (by kernel_rfl) (fun _ _ _ _ h => h) (by rfl) ⟨_, fun w' hx => by (go_simp <;> with_reducible rfl), ?_⟩
            simp only [Act.put, List.setIfInBounds_toArray, List.set_cons_zero, List.set_cons_succ]
            refine rg_take 1 rfl (by kernel_rfl) (by kernel_rfl) (by kernel_rfl) (fun _ _ _ _ h => h) (by rfl) ⟨_, fun w' hx => by (go_simp <;> with_reducible rfl), ?_⟩
            simp only [Act.put, List.setIfInBounds_toArray, List.set_cons_zero, List.set_cons_succ]
            refine rg_take 2 rfl (by kernel_rfl) (by kernel_rfl) (by kernel_rfl) (fun _ _ _ _ h => h) (by rfl) ⟨_, fun w' hx => by (go_simp <;> with_reducible rfl), ?_⟩   -- t95 := nilCheck t94
            simp only [Act.put, List.setIfInBounds_toArray, List.set_cons_zero, List.set_cons_succ]
            refine rg_take 3 rfl (by kernel_rfl) (by kernel_rfl) (by kernel_rfl) (fun _ _ _ _ h => h) (by rfl) ⟨_, fun w' hx => by (go_simp <;> with_reducible rfl), ?_⟩   -- t96 := fieldAddr 50 t95 1
            simp only [Act.put, List.setIfInBounds_toArray, List.set_cons_zero, List.set_cons_succ]
            refine rg_take 4 rfl (by kernel_rfl) (by kernel_rfl) (by kernel_rfl) (fun _ _ _ _ h => h) (by rfl) ⟨_, fun w' hx => by have hcx := hx.load S7; (go_simp <;> with_reducible rfl), ?_⟩
            simp only [Act.put, List.setIfInBounds_toArray, List.set_cons_zero, List.set_cons_succ]
            refine rg_take 5 rfl (by kernel_rfl) (by kernel_rfl) (by kernel_rfl) (fun _ _ _ _ h => h) (by rfl) ⟨_, fun w' hx => by (go_simp <;> with_reducible rfl), ?_⟩
            simp only [Act.put, List.setIfInBounds_toArray, List.set_cons_zero, List.set_cons_succ]
            refine rg_take 6 rfl (by kernel_rfl) (by kernel_rfl) (by kernel_rfl) (fun _ _ _ _ h => h) (by rfl) ⟨_, fun w' hx => by (go_simp <;> with_reducible rfl), ?_⟩   -- t99 := indexAddr 48 t97 t98
            simp only [Act.put, List.setIfInBounds_toArray, List.set_cons_zero, List.set_cons_succ]
            refine rg_take 7 rfl (by kernel_rfl) (by kernel_rfl) (by kernel_rfl) (fun _ _ _ _ h => h) (by rfl) ⟨_, fun w' hx => by (go_simp <;> with_reducible rfl), ?_⟩   -- t100 := fieldAddr 54 t99 0
            simp only [Act.put, List.setIfInBounds_toArray, List.set_cons_zero, List.set_cons_succ]
            refine rg_take 8 rfl (by kernel_rfl) (by kernel_rfl) (by kernel_rfl) (fun _ _ _ _ h => h) (by rfl) ⟨_, fun w' hx => by have hcx := hx.load P6; (go_simp <;> with_reducible rfl), ?_⟩
            simp only [Act.put, List.setIfInBounds_toArray, List.set_cons_zero, List.set_cons_succ]
            refine rg_take 9 rfl (by kernel_rfl) (by kernel_rfl) (by kernel_rfl) (fun _ _ _ _ h => h) (by rfl) ⟨_, fun w' hx => by (go_simp <;> with_reducible rfl), ?_⟩
            simp only [Act.put, List.setIfInBounds_toArray, List.set_cons_zero, List.set_cons_succ]
            refine rg_take 10 rfl (by kernel_rfl) (by kernel_rfl) (by kernel_rfl) (fun _ _ _ _ h => h) (by rfl) ⟨.int .i64 (z : Int), fun w' hx => by (go_simp <;> with_reducible rfl), ?_⟩
            simp only [Act.put, List.setIfInBounds_toArray, List.set_cons_zero, List.set_cons_succ]
            refine rg_take 11 rfl (by kernel_rfl) (by kernel_rfl) (by kernel_rfl) (fun _ _ _ _ h => h) (by rfl) ⟨_, fun w' hx => by (go_simp <;> with_reducible rfl), ?_⟩
            simp only [Act.put, List.setIfInBounds_toArray, List.set_cons_zero, List.set_cons_succ]
            refine rg_take 12 rfl (by kernel_rfl) (by kernel_rfl) (by kernel_rfl) (fun _ _ _ _ h => h) (by rfl) ⟨_, fun w' hx => by (go_simp <;> with_reducible rfl), ?_⟩   -- t105 := nilCheck t104
            simp only [Act.put, List.setIfInBounds_toArray, List.set_cons_zero, List.set_cons_succ]
            refine rg_take 13 rfl (by kernel_rfl) (by kernel_rfl) (by kernel_rfl) (fun _ _ _ _ h => h) (by rfl) ⟨_, fun w' hx => by (go_simp <;> with_reducible rfl), ?_⟩   -- t106 := fieldAddr 50 t105 1
            simp only [Act.put, List.setIfInBounds_toArray, List.set_cons_zero, List.set_cons_succ]
            refine rg_take 14 rfl (by kernel_rfl) (by kernel_rfl) (by kernel_rfl) (fun _ _ _ _ h => h) (by rfl) ⟨_, fun w' hx => by have hcx := hx.load S7; (go_simp <;> with_reducible rfl), ?_⟩
            simp only [Act.put, List.setIfInBounds_toArray, List.set_cons_zero, List.set_cons_succ]
            refine rg_take 15 rfl (by kernel_rfl) (by kernel_rfl) (by kernel_rfl) (fun _ _ _ _ h => h) (by rfl) ⟨_, fun w' hx => by (go_simp <;> with_reducible rfl), ?_⟩
            simp only [Act.put, List.setIfInBounds_toArray, List.set_cons_zero, List.set_cons_succ]
            refine rg_take 16 rfl (by kernel_rfl) (by kernel_rfl) (by kernel_rfl) (fun _ _ _ _ h => h) (by rfl) ⟨_, fun w' hx => by (go_simp <;> with_reducible rfl), ?_⟩   -- t109 := indexAddr 48 t107 t108
            simp only [Act.put, List.setIfInBounds_toArray, List.set_cons_zero, List.set_cons_succ]
            refine rg_take 17 rfl (by kernel_rfl) (by kernel_rfl) (by kernel_rfl) (fun _ _ _ _ h => h) (by rfl) ⟨_, fun w' hx => by (go_simp <;> with_reducible rfl), ?_⟩   -- t110 := fieldAddr 54 t109 1
            simp only [Act.put, List.setIfInBounds_toArray, List.set_cons_zero, List.set_cons_succ]
            refine rg_take 18 rfl (by kernel_rfl) (by kernel_rfl) (by kernel_rfl) (fun _ _ _ _ h => h) (by rfl) ⟨_, fun w' hx => by have hcx := hx.load P7; (go_simp <;> with_reducible rfl), ?_⟩
            simp only [Act.put, List.setIfInBounds_toArray, List.set_cons_zero, List.set_cons_succ]
            refine rg_take 19 rfl (by kernel_rfl) (by kernel_rfl) (by kernel_rfl) (fun _ _ _ _ h => h) (by rfl) ⟨_, fun w' hx => by (go_simp <;> with_reducible rfl), ?_⟩
            simp only [Act.put, List.setIfInBounds_toArray, List.set_cons_zero, List.set_cons_succ]
            refine rg_take 20 rfl (by kernel_rfl) (by kernel_rfl) (by kernel_rfl) (fun _ _ _ _ h => h) (by rfl) ⟨_, fun w' hx => by (go_simp <;> with_reducible rfl), ?_⟩   -- t113 := indexAddr 30 t111 t112
            simp only [Act.put, List.setIfInBounds_toArray, List.set_cons_zero, List.set_cons_succ]
            refine rg_take 21 rfl (by kernel_rfl) (by kernel_rfl) (by kernel_rfl) (fun _ _ _ _ h => h) (by rfl) ⟨_, fun w' hx => by have hcx := hx.load h3; (go_simp <;> with_reducible rfl), ?_⟩
            simp only [Act.put, List.setIfInBounds_toArray, List.set_cons_zero, List.set_cons_succ]
            refine rg_take 22 rfl (by kernel_rfl) (by kernel_rfl) (by kernel_rfl) (fun _ _ _ _ h => h) (by rfl) ⟨_, fun w' hx => by (go_simp <;> with_reducible rfl), ?_⟩   -- t115 := indexAddr 30 t93 t103
            simp only [Act.put, List.setIfInBounds_toArray, List.set_cons_zero, List.set_cons_succ]
            refine rg_store 23 rfl (by kernel_rfl) (by kernel_rfl) (by rfl) ⟨_, by (go_simp <;> rfl), ?_⟩
            simp only [Act.put]
            refine rg_done (by kernel_rfl) ?_
            go_wp2_with fail
            go_roundw
            case rel => exact ⟨x + 1, by omega, by go_num, HOn.out, Hxn.out⟩
            case measure => simp [intOf]; omega
          · obtain rfl : x = p.length := by omega
            rw [List.take_length] at hOx
            go_wp2_with fail
            go_roundw
            case rel => exact ⟨k + 1, _, by omega, by go_num, Hstep.out, hOx, hEx⟩
            case measure => simp [intOf]; omega
    · obtain rfl : k = n := by omega
      have hD := HR.out
      rw [Hmn.out] at hD
      have HD := Lib.hid hD.done
      clear hD hR
      go_wp2_with fail
      go_ret
      exact ⟨out, _, HD.out, rfl, hO.own (by have := Ho.out; omega) hol.symm (by omega), hE⟩
end Go.Proofs.YtkpagmfaccmiaaaGreat
