
/- Words for memory: entries (two texts), lists of entries. -/

import Derived.Test.YtkpagmfaccmiaaaGreatSl

import Derived.Test.YtkpagmfaccmiaaaGreatRowG

namespace Go.Proofs.YtkpagmfaccmiaaaGreat

open Go.RowKit

/-! ### slices of elements of several cells -/

section

variable {w w' : World} {s n : Nat} {A : Option Addr} {xs : List Value}

theorem Rd.cutS (h : Rd w s A n xs) {k m : Nat} (hk : k ≤ m) (hm : m ≤ n) {c : Nat} (hc : m ≤ c) : Rd w s (if c = k then A else A.map (·.add (k * s))) (m - k) ((xs.take (m * s)).drop (k * s)) := by
  have hl := h.1
  have hks : k * s ≤ m * s := Nat.mul_le_mul_right s hk
  have hms : m * s ≤ n * s := Nat.mul_le_mul_right s hm
  refine ⟨by simp only [List.length_drop, List.length_take, Nat.sub_mul]; omega, fun hx => ?_⟩
  have hkm : k < m := by
    rcases Nat.lt_or_ge k m with h' | h'
    · exact h'
    · exact absurd (List.drop_eq_nil_of_le (by simp only [List.length_take]; have := Nat.mul_le_mul_right s h'; omega)) hx
  obtain ⟨ad, rfl, hcell⟩ := h.2 (by intro e; rw [e] at hx; simp at hx)
  rw [if_neg (by omega)]
  refine ⟨ad.add (k * s), rfl, fun j u hj => ?_⟩
  rw [add_add']
  refine hcell _ u ?_
  rw [List.getElem?_drop, List.getElem?_take] at hj
  split at hj
  · exact hj
  · cases hj
theorem Rd.headS (h : Rd w s A n xs) {m : Nat} (hm : m ≤ n) : Rd w s A m (xs.take (m * s)) := by
  have hms : m * s ≤ n * s := Nat.mul_le_mul_right s hm
  refine ⟨by have := h.1; simp only [List.length_take]; omega, fun hx => ?_⟩
  obtain ⟨ad, rfl, hcell⟩ := h.2 (by intro e; rw [e] at hx; simp at hx)
  refine ⟨ad, rfl, fun j u hj => hcell j u ?_⟩
  rw [List.getElem?_take] at hj
  split at hj
  · exact hj
  · cases hj
end

/-! ### entries -/

structure Ent where
  key : List UInt8
  val : List UInt8
structure EnV where
  ka : Option Addr
  kc : Nat
  va : Option Addr
  vc : Nat
  x : Ent
def EnV.cells (e : EnV) : Array Value := #[.slice e.ka e.x.key.length e.kc, .slice e.va e.x.val.length e.vc]
def EnV.val (e : EnV) : Value := .agg e.cells
structure EnV.In (w : World) (e : EnV) : Prop where
  kr : RdB w e.ka e.x.key
  vr : RdB w e.va e.x.val
  kcap : e.x.key.length ≤ e.kc
  vcap : e.x.val.length ≤ e.vc
theorem EnV.In.below {w w' : World} {e : EnV} (h : e.In w) (hb : Below w.heap.size w w') : e.In w' := ⟨h.kr.below hb, h.vr.below hb, h.kcap, h.vcap⟩
theorem eone (e : EnV) : e.cells.all (·.oneCell') = true := by simp [EnV.cells, Value.oneCell']
/-- The cells of a list of entries. -/
def ecs (l : List EnV) : List Value := l.flatMap fun e => e.cells.toList
theorem ecs_len (l : List EnV) : (ecs l).length = l.length * 2 := by
  induction l with
  | nil => rfl
  | cons e l ih =>
    show (e.cells.toList ++ ecs l).length = _
    rw [List.length_append, ih, List.length_cons]
    simp [EnV.cells]
    omega
theorem ecs_app (l m : List EnV) : ecs (l ++ m) = ecs l ++ ecs m := by simp [ecs]
theorem ecs_one_cell (l : List EnV) : ∀ u ∈ ecs l, u.oneCell' = true := by
  intro u hu
  simp only [ecs, List.mem_flatMap, EnV.cells, List.mem_cons, List.not_mem_nil, or_false] at hu
  obtain ⟨e, _, rfl | rfl⟩ := hu <;> rfl
theorem ecs_at (l : List EnV) (k : Nat) (h : k < l.length) (j : Nat) (hj : j < 2) : (ecs l)[k * 2 + j]? = (l[k].cells)[j]? := by
  induction l generalizing k with
  | nil => simp at h
  | cons e l ih =>
    show (e.cells.toList ++ ecs l)[k * 2 + j]? = _
    have he : e.cells.toList.length = 2 := by simp [EnV.cells]
    cases k with
    | zero =>
      rw [List.getElem?_append_left (by omega)]
      simp
    | succ k =>
      rw [List.getElem?_append_right (by omega), he, show (k + 1) * 2 + j - 2 = k * 2 + j by omega, ih k (by simpa using h)]
      simp
theorem ecs_take (l : List EnV) (k : Nat) : (ecs l).take (k * 2) = ecs (l.take k) := by
  induction l generalizing k with
  | nil => simp [ecs]
  | cons e l ih =>
    cases k with
    | zero => simp [ecs]
    | succ k =>
      have he : e.cells.toList.length = 2 := by simp [EnV.cells]
      rw [List.take_succ_cons]
      show (e.cells.toList ++ ecs l).take _ = e.cells.toList ++ ecs (l.take k)
      rw [List.take_append, he, show (k + 1) * 2 - 2 = k * 2 by omega, ih k, List.take_of_length_le (by omega)]
theorem ecs_drop (l : List EnV) (k : Nat) : (ecs l).drop (k * 2) = ecs (l.drop k) := by
  induction l generalizing k with
  | nil => simp [ecs]
  | cons e l ih =>
    cases k with
    | zero => simp
    | succ k =>
      have he : e.cells.toList.length = 2 := by simp [EnV.cells]
      rw [List.drop_succ_cons]
      show (e.cells.toList ++ ecs l).drop _ = ecs (l.drop k)
      rw [List.drop_append, he, show (k + 1) * 2 - 2 = k * 2 by omega, ih k, List.drop_of_length_le (by omega)]
      rfl

/-- Reads as these entries. -/
structure RdE (w : World) (A : Option Addr) (l : List EnV) : Prop where
  rd : Rd w 2 A l.length (ecs l)
  each : ∀ e ∈ l, e.In w
section

variable {w w' : World} {A : Option Addr} {l : List EnV}

theorem RdE.nil_ (w : World) (A : Option Addr) : RdE w A [] := ⟨Rd.nil_ _ _ _, by simp⟩
theorem RdE.below (h : RdE w A l) (hb : Below w.heap.size w w') : RdE w' A l := ⟨h.rd.below hb, fun e he => (h.each e he).below hb⟩
/-- Element k: where it lies, and each of its cells. -/
theorem RdE.at_ (h : RdE w A l) {k : Nat} (hk : k < l.length) : ∃ ad, A = some ad ∧ (∀ j u, (l[k].cells)[j]? = some u → w.cell? (ad.add (k * 2 + j)) = some u) ∧ l[k].In w := by
  obtain ⟨ad, e, hc⟩ := h.rd.2 (by intro e; have := ecs_len l; rw [e] at this; simp at this; omega)
  refine ⟨ad, e, fun j u hj => hc _ u ?_, h.each _ (List.getElem_mem hk)⟩
  have hj2 : j < 2 := by
    have := (Array.getElem?_eq_some_iff.1 hj).1
    simpa [EnV.cells] using this
  rw [ecs_at l k hk j hj2]; exact hj
theorem RdE.cut (h : RdE w A l) {k m : Nat} (hk : k ≤ m) (hm : m ≤ l.length) {c : Nat} (hc : m ≤ c) : RdE w (if c = k then A else A.map (·.add (k * 2))) ((l.take m).drop k) := by
  refine ⟨?_, fun e he => h.each e (List.mem_of_mem_take (List.mem_of_mem_drop he))⟩
  have := h.rd.cutS hk hm hc
  rw [ecs_take, ecs_drop] at this
  rwa [List.length_drop, List.length_take, Nat.min_eq_left hm]
theorem RdE.tail (h : RdE w A l) {k : Nat} (hk : k ≤ l.length) {c : Nat} (hc : l.length ≤ c) : RdE w (if c = k then A else A.map (·.add (k * 2))) (l.drop k) := by
  have := h.cut hk (Nat.le_refl _) hc
  rwa [List.take_length] at this
end

/-- A new block of one entry. -/
theorem RdE.one (w : World) (t : TypeId) (e : EnV) (h : e.In w) : RdE (w.alloc (.cells e.cells t)) (some ⟨w.heap.size, 0, none⟩) [e] := by
  refine ⟨⟨by rw [ecs_len], fun _ => ⟨_, rfl, fun j u hj => ?_⟩⟩, fun e' he => ?_⟩
  · rw [Addr.add_lit, cell_of_row _ _ _ e.cells t (0, 0) (heap_alloc_new w _)]
    simpa [ecs] using hj
  · simp only [List.mem_cons, List.not_mem_nil, or_false] at he
    subst he
    exact h.below ((Below.refl _ _).alloc (Nat.le_refl _) _)

/-! ### a struct loaded out of anywhere -/

theorem run_loadVar_cells {P : Program} (w : World) (p : Addr) (ty : TypeId) (cs : Array Value) (d : TypeDesc) (hc : ∀ j u, cs[j]? = some u → w.cell? (p.add j) = some u)
    (hu : P.underlying ty = some d) (hd : (match d with | .struct _ | .array _ _ => true | _ => false) = true) (hi : (P.info? ty).map (·.size) = some cs.size) :
    (loadVar ty p).run P w = .ok (.agg cs) w := by
  have hl : (loadCells p cs.toList.length).run P w = .ok cs.toList.toArray w :=
    run_loadCells_list (P := P) w p cs.toList (fun j v hv => hc j v (by simpa using hv))
  cases hq : P.info? ty with
  | none => simp [hq] at hi
  | some i =>
    have hs : i.size = cs.size := by simpa [hq] using hi
    have hagg : (isAgg ty).run P w = .ok true w := by
      unfold isAgg
      rw [Sem.run_bind, run_underlying hu w]
      cases d <;> simp_all
    simp only [Array.length_toList, Array.toArray_toList] at hl
    simp [loadVar, Sem.run_bind, hagg, sizeOf, typeInfo, hq, hs, hl]
section

variable {P : Program} {w : World} {ops : Array Oper} {rest : List Oper} {o : Oper} {a : Act} {Q : Exit → Act → World → Prop}

theorem ex_load_cells (ty : TypeId) (x : Operand) (ho : o.op = .load ty x) (p : Addr) (hx : a.eval x = .pointer (some p)) (cs : Array Value) (d : TypeDesc) (hc : ∀ j u, cs[j]? = some u → w.cell? (p.add j) = some u)
    (hu : P.underlying ty = some d) (hd : (match d with | .struct _ | .array _ _ => true | _ => false) = true) (hi : (P.info? ty).map (·.size) = some cs.size) : (execOp a.eval o).run P w = .ok (.value (.agg cs)) w := by
  unfold execOp
  simp only [ho, hx, Instr.loadAt, Instr.sureAddr, Sem.run_bind, Sem.run_pure, Result.andThen_ok, run_loadVar_cells w p ty cs d hc hu hd hi]
theorem wpList_load_cells (hgd : Region.wanted o (yielded ops a.tmps) = true) (ty : TypeId) (x : Operand) (ho : o.op = .load ty x) (p : Addr) (hx : a.eval x = .pointer (some p)) (cs : Array Value) (d : TypeDesc) (hc : ∀ j u, cs[j]? = some u → w.cell? (p.add j) = some u)
    (hu : P.underlying ty = some d) (hd : (match d with | .struct _ | .array _ _ => true | _ => false) = true) (hi : (P.info? ty).map (·.size) = some cs.size)
    (h : wpList P ops Q rest (a.put o.dst (.agg cs)) w) : wpList P ops Q (o :: rest) a w :=
  wpList_want hgd fun K hK => by
    unfold Oper.wp
    rw [ex_load_cells (P := P) (w := w) ty x ho p hx cs d hc hu hd hi, Oper.upon_value]
    exact hK _ _ h
end

end Go.Proofs.YtkpagmfaccmiaaaGreat
