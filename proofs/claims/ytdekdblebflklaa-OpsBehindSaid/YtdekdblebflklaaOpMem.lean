
/- Words for memory: operations (what, key, value), lists of them. -/

import Derived.Test.YtdekdblebflklaaOpBytes

import Derived.Test.YtdekdblebflklaaFlat

namespace Go.Proofs.Ytdekdblebflklaa

open Go.RowKit

structure OpV where
  ka : Option Addr
  kc : Nat
  va : Option Addr
  vc : Nat
  x : Opn
def OpV.cells (e : OpV) : Array Value := #[.bool e.x.del, .slice e.ka e.x.key.length e.kc, .slice e.va e.x.val.length e.vc]
def OpV.val (e : OpV) : Value := .agg e.cells
structure OpV.In (w : World) (e : OpV) : Prop where
  kr : RdB w e.ka e.x.key
  vr : RdB w e.va e.x.val
  kcap : e.x.key.length ≤ e.kc
  vcap : e.x.val.length ≤ e.vc
theorem OpV.In.below {w w' : World} {e : OpV} (h : e.In w) (hb : Below w.heap.size w w') : e.In w' := ⟨h.kr.below hb, h.vr.below hb, h.kcap, h.vcap⟩
theorem oone (e : OpV) : e.cells.all (·.oneCell') = true := by simp [OpV.cells, Value.oneCell']
theorem osz (e : OpV) : e.cells.size = 3 := rfl
/-- The entry that an operation puts. -/
def OpV.env (e : OpV) : EnV := ⟨e.ka, e.kc, e.va, e.vc, e.x.ent⟩
theorem OpV.In.env {w : World} {e : OpV} (h : e.In w) : e.env.In w := ⟨h.kr, h.vr, h.kcap, h.vcap⟩
/-- The cells of a list of operations. -/
def ocs (l : List OpV) : List Value := l.flatMap fun e => e.cells.toList
theorem ocell_len (l : List OpV) : ∀ e ∈ l, e.cells.toList.length = 3 := fun _ _ => rfl
theorem ocs_len (l : List OpV) : (ocs l).length = l.length * 3 := flat_len _ 3 l (ocell_len l)
theorem ocs_app (l m : List OpV) : ocs (l ++ m) = ocs l ++ ocs m := by simp [ocs]
theorem ocs_one_cell (l : List OpV) : ∀ u ∈ ocs l, u.oneCell' = true := by
  intro u hu
  simp only [ocs, List.mem_flatMap, OpV.cells, List.mem_cons, List.not_mem_nil, or_false] at hu
  obtain ⟨e, _, rfl | rfl | rfl⟩ := hu <;> rfl
theorem ocs_at (l : List OpV) (k : Nat) (h : k < l.length) (j : Nat) (hj : j < 3) : (ocs l)[k * 3 + j]? = (l[k].cells)[j]? := by
  rw [ocs, flat_at _ 3 l (ocell_len l) k h j hj, Array.getElem?_toList]
theorem ocs_take (l : List OpV) (k : Nat) : (ocs l).take (k * 3) = ocs (l.take k) := flat_take _ 3 l (ocell_len l) k
theorem ocs_drop (l : List OpV) (k : Nat) : (ocs l).drop (k * 3) = ocs (l.drop k) := flat_drop _ 3 l (ocell_len l) k
/-- Reads as these operations. -/
structure RdO (w : World) (A : Option Addr) (l : List OpV) : Prop where
  rd : Rd w 3 A l.length (ocs l)
  each : ∀ e ∈ l, e.In w
section

variable {w w' : World} {A : Option Addr} {l : List OpV}

theorem RdO.nil_ (w : World) (A : Option Addr) : RdO w A [] := ⟨Rd.nil_ _ _ _, by simp⟩
theorem RdO.below (h : RdO w A l) (hb : Below w.heap.size w w') : RdO w' A l := ⟨h.rd.below hb, fun e he => (h.each e he).below hb⟩
/-- Element k: where it lies, and each of its cells. -/
theorem RdO.at_ (h : RdO w A l) {k : Nat} (hk : k < l.length) : ∃ ad, A = some ad ∧ (∀ j u, (l[k].cells)[j]? = some u → w.cell? ((ad.add (k * 3)).add j) = some u) ∧ l[k].In w := by
  obtain ⟨ad, e, hc⟩ := h.rd.2 (by intro e; have := ocs_len l; rw [e] at this; simp at this; omega)
  refine ⟨ad, e, fun j u hj => ?_, h.each _ (List.getElem_mem hk)⟩
  have hj2 : j < 3 := (Array.getElem?_eq_some_iff.1 hj).1
  rw [add_add']
  refine hc _ u ?_
  rw [ocs_at l k hk j hj2]; exact hj
theorem RdO.cut (h : RdO w A l) {k m : Nat} (hk : k ≤ m) (hm : m ≤ l.length) {c : Nat} (hc : m ≤ c) : RdO w (if c = k then A else A.map (·.add (k * 3))) ((l.take m).drop k) := by
  refine ⟨?_, fun e he => h.each e (List.mem_of_mem_take (List.mem_of_mem_drop he))⟩
  have := h.rd.cutS hk hm hc
  rw [ocs_take, ocs_drop] at this
  rwa [List.length_drop, List.length_take, Nat.min_eq_left hm]
theorem RdO.tail (h : RdO w A l) {k : Nat} (hk : k ≤ l.length) {c : Nat} (hc : l.length ≤ c) : RdO w (if c = k then A else A.map (·.add (k * 3))) (l.drop k) := by
  have := h.cut hk (Nat.le_refl _) hc
  rwa [List.take_length] at this
end

theorem RdO.one (w : World) (t : TypeId) (e : OpV) (h : e.In w) : RdO (w.alloc (.cells e.cells t)) (some ⟨w.heap.size, 0, none⟩) [e] := by
  refine ⟨⟨by rw [ocs_len], fun _ => ⟨_, rfl, fun j u hj => ?_⟩⟩, fun e' he => ?_⟩
  · rw [Addr.add_lit, cell_of_row _ _ _ e.cells t (0, 0) (heap_alloc_new w _)]
    simpa [ocs] using hj
  · simp only [List.mem_cons, List.not_mem_nil, or_false] at he
    subst he
    exact h.below ((Below.refl _ _).alloc (Nat.le_refl _) _)
theorem elemO : ElemT Try.prog 23 50 3 56 := ElemT.mk' (z := .agg #[.bool false, .slice none 0 0, .slice none 0 0]) Try.underlying23 (by kernel_rfl) (by decide) (by decide)
end Go.Proofs.Ytdekdblebflklaa
