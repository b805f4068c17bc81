
/- Words for memory: deeds (kind, place, bytes), lists of them. -/

import Derived.Test.YtgfanklhihciaaaFlat

import Derived.Test.YtgfanklhihciaaaEnt

namespace Go.Proofs.Ytgfanklhihciaaa

open Go.RowKit

structure Deed where
  kind : Int
  i : Int
  p : List UInt8
structure DeV where
  pa : Option Addr
  pc : Nat
  x : Deed
def DeV.cells (e : DeV) : Array Value := #[.int .i64 e.x.kind, .int .i64 e.x.i, .slice e.pa e.x.p.length e.pc]
def DeV.val (e : DeV) : Value := .agg e.cells
structure DeV.In (w : World) (e : DeV) : Prop where
  pr : RdB w e.pa e.x.p
  cap : e.x.p.length ≤ e.pc
  wk : -9223372036854775808 ≤ e.x.kind ∧ e.x.kind < 9223372036854775808
  wi : -9223372036854775808 ≤ e.x.i ∧ e.x.i < 9223372036854775808
theorem DeV.In.below {w w' : World} {e : DeV} (h : e.In w) (hb : Below w.heap.size w w') : e.In w' := ⟨h.pr.below hb, h.cap, h.wk, h.wi⟩
theorem done_ (e : DeV) : e.cells.all (·.oneCell') = true := by simp [DeV.cells, Value.oneCell']
/-- The cells of a list of deeds. -/
def dcs (l : List DeV) : List Value := l.flatMap fun e => e.cells.toList
theorem dcell_len (l : List DeV) : ∀ e ∈ l, e.cells.toList.length = 3 := fun _ _ => rfl
theorem dcs_len (l : List DeV) : (dcs l).length = l.length * 3 := flat_len _ 3 l (dcell_len l)
theorem dcs_app (l m : List DeV) : dcs (l ++ m) = dcs l ++ dcs m := by simp [dcs]
theorem dcs_one_cell (l : List DeV) : ∀ u ∈ dcs l, u.oneCell' = true := by
  intro u hu
  simp only [dcs, List.mem_flatMap, DeV.cells, List.mem_cons, List.not_mem_nil, or_false] at hu
  obtain ⟨e, _, rfl | rfl | rfl⟩ := hu <;> rfl
theorem dcs_at (l : List DeV) (k : Nat) (h : k < l.length) (j : Nat) (hj : j < 3) : (dcs l)[k * 3 + j]? = (l[k].cells)[j]? := by
  rw [dcs, flat_at _ 3 l (dcell_len l) k h j hj, Array.getElem?_toList]
theorem dcs_take (l : List DeV) (k : Nat) : (dcs l).take (k * 3) = dcs (l.take k) := flat_take _ 3 l (dcell_len l) k
theorem dcs_drop (l : List DeV) (k : Nat) : (dcs l).drop (k * 3) = dcs (l.drop k) := flat_drop _ 3 l (dcell_len l) k
/-- Reads as these deeds. -/
structure RdD (w : World) (A : Option Addr) (l : List DeV) : Prop where
  rd : Rd w 3 A l.length (dcs l)
  each : ∀ e ∈ l, e.In w
section

variable {w w' : World} {A : Option Addr} {l : List DeV}

theorem RdD.nil_ (w : World) (A : Option Addr) : RdD w A [] := ⟨Rd.nil_ _ _ _, by simp⟩
theorem RdD.below (h : RdD w A l) (hb : Below w.heap.size w w') : RdD w' A l := ⟨h.rd.below hb, fun e he => (h.each e he).below hb⟩
/-- Element k: where it lies, and each of its cells. -/
theorem RdD.at_ (h : RdD w A l) {k : Nat} (hk : k < l.length) : ∃ ad, A = some ad ∧ (∀ j u, (l[k].cells)[j]? = some u → w.cell? ((ad.add (k * 3)).add j) = some u) ∧ l[k].In w := by
  obtain ⟨ad, e, hc⟩ := h.rd.2 (by intro e; have := dcs_len l; rw [e] at this; simp at this; omega)
  refine ⟨ad, e, fun j u hj => ?_, h.each _ (List.getElem_mem hk)⟩
  have hj2 : j < 3 := (Array.getElem?_eq_some_iff.1 hj).1
  rw [add_add']
  refine hc _ u ?_
  rw [dcs_at l k hk j hj2]; exact hj
theorem RdD.cut (h : RdD w A l) {k m : Nat} (hk : k ≤ m) (hm : m ≤ l.length) {c : Nat} (hc : m ≤ c) : RdD w (if c = k then A else A.map (·.add (k * 3))) ((l.take m).drop k) := by
  refine ⟨?_, fun e he => h.each e (List.mem_of_mem_take (List.mem_of_mem_drop he))⟩
  have := h.rd.cutS hk hm hc
  rw [dcs_take, dcs_drop] at this
  rwa [List.length_drop, List.length_take, Nat.min_eq_left hm]
theorem RdD.tail (h : RdD w A l) {k : Nat} (hk : k ≤ l.length) {c : Nat} (hc : l.length ≤ c) : RdD w (if c = k then A else A.map (·.add (k * 3))) (l.drop k) := by
  have := h.cut hk (Nat.le_refl _) hc
  rwa [List.take_length] at this
end

end Go.Proofs.Ytgfanklhihciaaa
