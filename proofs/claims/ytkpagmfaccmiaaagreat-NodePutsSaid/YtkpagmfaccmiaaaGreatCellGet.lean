
/- Contracts: bytes as a leaf's cell (cell.GetLeaf). -/

import Derived.Test.YtkpagmfaccmiaaaGreatCellPut2

import Derived.Test.YtkpagmfaccmiaaaGreatEqual

import Derived.Test.YtkpagmfaccmiaaaGreatCellCut

import Derived.Test.YtkpagmfaccmiaaaGreatVintGet3

import Derived.Laws.ResultCell

namespace Go.Proofs.YtkpagmfaccmiaaaGreat

open Go.RowKit

attribute [local go_sem] Oper.semAt_some

theorem results_row_tmp {P : Program} {fn : Func} {p u : Tmp} {ty : TypeId} (h : fn.results = #[.cell p ty, .tmp u]) (tmps : Array Value) (w : World) (g : Nat) (t : TypeId) (cs : Array Value) (fr : Nat × Nat) (d : TypeDesc)
    (hp : tmps.getD p undef = .pointer (some ⟨g, 0, none⟩)) (hg : w.heap[g]? = some (.cells cs t fr))
    (hu : P.underlying ty = some d) (hd : (match d with | .struct _ | .array _ _ => true | _ => false) = true) (hi : (P.info? ty).map (·.size) = some cs.size) :
    (results fn tmps).run P w = .ok (.tuple #[.agg cs, tmps.getD u undef]) w := by
  rw [results_cell_tmp h, hp]
  simp [asAddr, run_loadVar_row w g t ty cs fr d hg hu hd hi, Result.andThen]
theorem cut_ext {w w1 w2 : World} {g : Nat} {v : Value} (h : w1.setCell ⟨g, 0, none⟩ v = w2) (hb : Ext w w1) (hg : w.heap.size ≤ g) : Ext w w2 := h ▸ hb.setCell hg v
theorem cut_row {w1 w2 : World} {g j : Nat} {v : Value} (h : w1.setCell ⟨g, 0, none⟩ v = w2) (hj : j ≠ g) : w2.heap[j]? = w1.heap[j]? := h ▸ Below.heap_setCell w1 ⟨g, 0, none⟩ v j hj
def CellV.zero : CellV := ⟨none, 0, none, 0, Cl.zero⟩
theorem CellV.zero_in (w : World) : CellV.zero.In w := ⟨by decide, by decide, by decide, by decide, RdB.nil_ _ _, RdB.nil_ _ _, Nat.zero_le _, Nat.zero_le _⟩
def cz : Array Value := #[.slice none 0 0, .int .i64 0, .slice none 0 0, .int .u32 0, .int .u32 0]
theorem CellV.zero_val : CellV.zero.val = .agg cz := rfl
theorem ext_row {w w' : World} {g : Nat} (h : Ext w w') (hg : w.heap.size ≤ g) (cs : Array Value) : Ext w (w'.setRow g cs) := ⟨h.os, h.tape, h.output, by simpa using h.size, fun i hi => (setRow_other _ _ _ _ (by omega)).trans (h.block i hi)⟩
/-- The two blocks that reading makes first. -/
structure Two (w w1 : World) (bs : List UInt8) : Prop where
  row : w1.heap[w.heap.size]? = some (.cells #[.slice none 0 0, .int .i64 0, .slice none 0 0, .int .u32 0, .int .u32 0] 43 (0, 0))
  ext : Ext w w1
  cut : CutAt w1 w (w.heap.size + 1) bs
theorem Two.new (w w1 : World) (A : Option Addr) (bs : List UInt8) (c : Nat) (hA : RdB w A bs) (hc : bs.length ≤ c)
    (h : (w.alloc (.cells #[.slice none 0 0, .int .i64 0, .slice none 0 0, .int .u32 0, .int .u32 0] 43)).alloc (.cells #[.slice A bs.length c] 25) = w1) : Two w w1 bs := by
  have h1 := heap_alloc_new w (.cells #[.slice none 0 0, .int .i64 0, .slice none 0 0, .int .u32 0, .int .u32 0] 43)
  have h2 := heap_alloc_new (w.alloc (.cells #[.slice none 0 0, .int .i64 0, .slice none 0 0, .int .u32 0, .int .u32 0] 43)) (.cells #[.slice A bs.length c] 25)
  subst h
  refine ⟨((Ext.alloc _ _).block _ (lt_of_heap h1)).trans h1, Ext.tr (Ext.alloc _ _) (Ext.alloc _ _), ⟨A, c, ?_, hA, hc⟩⟩
  simpa using h2
theorem Two.step {w w1 w2 : World} {bs rest : List UInt8} {v : Value} (h : Two w w1 bs) (e : w1.setCell ⟨w.heap.size + 1, 0, none⟩ v = w2) (hc : CutAt w2 w (w.heap.size + 1) rest) : Two w w2 rest :=
  ⟨(cut_row e (by omega)).trans h.row, cut_ext e h.ext (by omega), hc⟩
theorem Two.below {w w1 w2 : World} {bs : List UInt8} (h : Two w w1 bs) (hb : Ext w1 w2) : Two w w2 bs :=
  ⟨(hb.block _ (lt_of_heap h.row)).trans h.row, Ext.tr h.ext hb, h.cut.below hb⟩

set_option maxRecDepth 100000 in
set_option maxHeartbeats 2000000 in
theorem getLeaf_nil (A : Option Addr) (c : Nat) (w : World) (hA : RdB w A []) :
    Calls Tryz.prog 56 #[.slice A ([] : List UInt8).length c] w fun e w' => e = .returned (.tuple #[.agg cz, .int .i64 70]) ∧ Below w.heap.size w w' := by
  go_enter Tryz.func56, Tryz.ntmps56
  go_wp2_with fail
  refine (cutter_any A ([] : List UInt8).length c _).mono ?_
  rintro e w1 ⟨rfl, hw1⟩
  have T1 := Two.new w w1 A [] c hA (Nat.zero_le _) hw1
  clear hw1
  go_wp2_with fail
  have hcut := cut_any (w.heap.size + 1) [] 1 w1 w T1.cut
  simp only [List.take_nil, List.drop_nil] at hcut
  (try simp only [World.size_alloc])
  refine hcut.mono ?_
  clear hcut
  rintro e w2 ⟨A1, c1, A2, c2, rfl, hw2, h1, h2, h3⟩
  have T2 := T1.step hw2 h2
  clear hw2 h1 h2 h3 T1
  have hg2 := T2.row
  go_wp2_with (first | ((refine wpList_store_row rfl 43 (.tmp 2) (.tmp 20) rfl w.heap.size #[.slice none 0 0, .int .i64 0, .slice none 0 0, .int .u32 0, .int .u32 0] rfl rfl _ _ hg2 (by kernel_rfl) rfl (by kernel_rfl) ?_)))
  have hg3 := setRow_heap w2 w.heap.size _ #[.slice none 0 0, .int .i64 0, .slice none 0 0, .int .u32 0, .int .u32 0] _ _ hg2
  (try simp only [Exit.inBlock, Exit.then])
  refine bodyPost_ret (results_row_tmp rfl _ _ w.heap.size 43 #[.slice none 0 0, .int .i64 0, .slice none 0 0, .int .u32 0, .int .u32 0] (0, 0) _ rfl hg3 Tryz.underlying43 rfl (by kernel_rfl)) rfl ?_
  exact ⟨rfl, ext_row T2.ext (Nat.le_refl _) _⟩

end Go.Proofs.YtkpagmfaccmiaaaGreat
