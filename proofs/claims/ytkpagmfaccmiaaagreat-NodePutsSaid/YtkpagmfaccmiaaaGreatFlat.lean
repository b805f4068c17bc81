
/- Rows of elements of many cells: lists of cells, store into an element, make, a slice literal of one struct (the general part of XParts). -/

import Derived.Test.YtkpagmfaccmiaaaGreatSl

import Derived.Great.BuildSlice

namespace Go.Proofs.YtkpagmfaccmiaaaGreat

open Go.RowKit

theorem flat_len {α : Type} (f : α → List Value) (s : Nat) (l : List α) (hs : ∀ x ∈ l, (f x).length = s) : (l.flatMap f).length = l.length * s := by
  induction l with
  | nil => simp
  | cons x l ih =>
    rw [List.flatMap_cons, List.length_append, hs x (by simp), ih fun y hy => hs y (by simp [hy]), List.length_cons, Nat.succ_mul]
    omega
theorem flat_at {α : Type} (f : α → List Value) (s : Nat) (l : List α) (hs : ∀ x ∈ l, (f x).length = s) (k : Nat) (h : k < l.length) (j : Nat) (hj : j < s) : (l.flatMap f)[k * s + j]? = (f l[k])[j]? := by
  induction l generalizing k with
  | nil => simp at h
  | cons x l ih =>
    have hx := hs x (by simp)
    rw [List.flatMap_cons]
    cases k with
    | zero => rw [Nat.zero_mul, Nat.zero_add, List.getElem?_append_left (by omega)]; rfl
    | succ k =>
      rw [List.getElem?_append_right (by rw [hx, Nat.succ_mul]; omega), hx, show (k + 1) * s + j - s = k * s + j by rw [Nat.succ_mul]; omega]
      exact ih (fun y hy => hs y (by simp [hy])) k (by simpa using h)
theorem flat_take {α : Type} (f : α → List Value) (s : Nat) (l : List α) (hs : ∀ x ∈ l, (f x).length = s) (k : Nat) : (l.flatMap f).take (k * s) = (l.take k).flatMap f := by
  induction l generalizing k with
  | nil => simp
  | cons x l ih =>
    have hx := hs x (by simp)
    cases k with
    | zero => simp
    | succ k =>
      rw [List.flatMap_cons, List.take_succ_cons, List.flatMap_cons, List.take_append, hx, List.take_of_length_le (by rw [hx, Nat.succ_mul]; omega), show (k + 1) * s - s = k * s by rw [Nat.succ_mul]; omega, ih fun y hy => hs y (by simp [hy])]
theorem flat_drop {α : Type} (f : α → List Value) (s : Nat) (l : List α) (hs : ∀ x ∈ l, (f x).length = s) (k : Nat) : (l.flatMap f).drop (k * s) = (l.drop k).flatMap f := by
  induction l generalizing k with
  | nil => simp
  | cons x l ih =>
    have hx := hs x (by simp)
    cases k with
    | zero => simp
    | succ k =>
      rw [List.flatMap_cons, List.drop_succ_cons, List.drop_append, hx, List.drop_of_length_le (by rw [hx, Nat.succ_mul]; omega), List.nil_append, show (k + 1) * s - s = k * s by rw [Nat.succ_mul]; omega, ih fun y hy => hs y (by simp [hy])]
theorem flat_set {α : Type} (f : α → List Value) (s : Nat) (l : List α) (hs : ∀ x ∈ l, (f x).length = s) (k : Nat) (hk : k < l.length) (y : α) :
    (l.set k y).flatMap f = (l.flatMap f).take (k * s) ++ f y ++ (l.flatMap f).drop (k * s + s) := by
  rw [show k * s + s = (k + 1) * s by rw [Nat.succ_mul], flat_take f s l hs, flat_drop f s l hs, List.set_eq_take_append_cons_drop, if_pos hk, List.flatMap_append, List.flatMap_cons, List.append_assoc]

section

variable {P : Program} {w : World} {ops : Array Oper} {rest : List Oper} {o : Oper} {a : Act} {Q : Exit → Act → World → Prop}

theorem wpList_store_at (hgd : Region.wanted o (yielded ops a.tmps) = true) (ty : TypeId) (x y : Operand) (ho : o.op = .store ty x y) (ad : Addr) (hx : a.eval x = .pointer (some ad)) (g off : Nat) (had : ad = ⟨g, off, none⟩)
    (v : Value) (hy : a.eval y = v) (cells : Array Value) (hv : v.cells = cells) (cur : Array Value) (t : TypeId) (hg : w.heap[g]? = some (.cells cur t (0, 0))) (hi : (P.info? ty).map (·.size) = some cells.size) (hfit : off + cells.size ≤ cur.size)
    (h1 : cells.all (·.oneCell') = true) (cur' : Array Value) (hc : (cur.toList.take off ++ cells.toList ++ cur.toList.drop (off + cells.size)).toArray = cur')
    (h : wpList P ops Q rest (a.put o.dst undef) (w.setRow g cur')) : wpList P ops Q (o :: rest) a w := by
  subst had
  subst hc
  refine wpList_want hgd fun _ hK => ?_
  have hr := run_storeCells_at (P := P) g off t cells.toList 0 cur w hg (by simpa using hfit) (fun v hv => (Array.all_eq_true_iff_forall_mem.1 h1) v (by simpa using hv))
  simp only [Nat.add_zero, Array.length_toList] at hr
  have hst : (storeVar ty ⟨g, off, none⟩ v).run P w = .ok () (w.setRow g (cur.toList.take off ++ cells.toList ++ cur.toList.drop (off + cells.size)).toArray) := by
    cases hq : P.info? ty with
    | none => simp [hq] at hi
    | some i =>
      have hs : cells.size = i.size := by simp [hq] at hi; omega
      simp [storeVar, sizeOf, typeInfo, hq, hv, hs]
      rw [hs] at hr
      simpa using hr
  unfold Oper.wp execOp
  simp only [ho, hx, hy, Instr.storeAt, Instr.sureAddr, Sem.run_bind, Sem.run_pure, Result.andThen_ok, hst]
  exact hK _ _ h
theorem ex_store_rowS (ty : TypeId) (x y : Operand) (ho : o.op = .store ty x y) (g : Nat) (hx : a.eval x = .pointer (some ⟨g, 0, none⟩)) (cells : Array Value) (hy : a.eval y = .agg cells) (cur : Array Value) (t : TypeId)
    (hg : w.heap[g]? = some (.cells cur t (0, 0))) (hi : (P.info? ty).map (·.size) = some cells.size) (hs : cur.size = cells.size) (h1 : cells.all (·.oneCell') = true) : (execOp a.eval o).run P w = .ok .skip (w.setRow g cells) := by
  have hr := run_storeCells_at (P := P) g 0 t cells.toList 0 cur w hg (by simp; omega) (fun v hv => (Array.all_eq_true_iff_forall_mem.1 h1) v (by simpa using hv))
  have e : (cur.toList.take 0 ++ cells.toList ++ cur.toList.drop (0 + 0 + cells.toList.length)).toArray = cells := by
    rw [List.drop_of_length_le (by simp; omega)]
    simp
  simp only [Nat.add_zero] at hr e
  rw [e] at hr
  have hst : (storeVar ty ⟨g, 0, none⟩ (.agg cells)).run P w = .ok () (w.setRow g cells) := by
    cases hq : P.info? ty with
    | none => simp [hq] at hi
    | some i =>
      have hs2 : cells.size = i.size := by simp [hq] at hi; omega
      have hv : (Value.agg cells).cells = cells := rfl
      simp [storeVar, sizeOf, typeInfo, hq, hv, hs2]
      exact hr
  unfold execOp
  simp only [ho, hx, hy, Instr.storeAt, Instr.sureAddr, Sem.run_bind, Sem.run_pure, Result.andThen_ok, hst]
/-- 'make' of elements of many cells. -/
theorem wpList_mkS (hgd : Region.wanted o (yielded ops a.tmps) = true) (l c : Operand) (t : TypeId) (ho : o.op = .makeSlice t l c) {e : TypeId} {size bytes : Nat} (T : ElemT P t e size bytes) (z : Value) (hz : (P.info? e).bind (·.zero) = some z)
    (n : Nat) (kl kc : IntKind) (hl : a.eval l = .int kl (n : Int)) (hc : a.eval c = .int kc (n : Int)) (hn : bytes * n ≤ 140737488355328) (h63 : n ≤ 140737488355328) (C : Array Value) (hC : madeCells z.cells (n * size) = C)
    (h : wpList P ops Q rest (a.put o.dst (.slice (some ⟨w.heap.size, 0, none⟩) n n)) (w.alloc (.cells C e))) : wpList P ops Q (o :: rest) a w := by
  refine wpList_want hgd fun K hK => ?_
  obtain ⟨i, z', g1, g2, g3, g4, g5⟩ := T.hi
  obtain rfl : z' = z := by rw [g1] at hz; simpa [g2] using hz
  have hb : (i.bytes : Int) * (n : Int) ≤ 281474976710656 := by
    rw [g4]
    have : ((bytes * n : Nat) : Int) ≤ 140737488355328 := by omega
    rw [Int.natCast_mul] at this
    omega
  have hr := run_make (P := P) w t e i z' T.ht g1 g2 kl kc n n (by omega) (by omega) hb (by omega)
  rw [g3, Int.toNat_natCast, hC] at hr
  unfold Oper.wp
  simp [execOp, ho, hl, hc, hr, Result.andThen]
  exact hK _ _ h
end

theorem fold_set (o : Nat) (l : List Value) : ∀ (k : Nat) (base : Array Value), (List.foldl (fun (cs : Array Value) (x : Value × Nat) => cs.setIfInBounds (o + x.2) x.1) base (l.zipIdx k)).size = base.size ∧
    ∀ i, i < base.size → (List.foldl (fun (cs : Array Value) (x : Value × Nat) => cs.setIfInBounds (o + x.2) x.1) base (l.zipIdx k))[i]? = if o + k ≤ i ∧ i < o + k + l.length then l[i - (o + k)]? else base[i]? := by
  induction l with
  | nil => intro k base; exact ⟨rfl, fun i _ => by rw [if_neg (by simp only [List.length_nil]; omega)]; rfl⟩
  | cons v l ih =>
    intro k base
    obtain ⟨h1, h2⟩ := ih (k + 1) (base.setIfInBounds (o + k) v)
    refine ⟨by rw [List.zipIdx_cons, List.foldl_cons, h1, Array.size_setIfInBounds], fun i hi => ?_⟩
    rw [List.zipIdx_cons, List.foldl_cons, h2 i (by rw [Array.size_setIfInBounds]; exact hi)]
    by_cases hk : i = o + k
    · subst hk
      rw [if_neg (by omega), if_pos ⟨by omega, by simp only [List.length_cons]; omega⟩, Nat.sub_self, Array.getElem?_setIfInBounds_self_of_lt hi]
      rfl
    · by_cases hin : o + (k + 1) ≤ i ∧ i < o + (k + 1) + l.length
      · rw [if_pos hin, if_pos ⟨by omega, by simp only [List.length_cons]; omega⟩, show i - (o + k) = (i - (o + (k + 1))) + 1 by omega]
        rfl
      · rw [if_neg hin, if_neg (by simp only [List.length_cons]; omega), Array.getElem?_setIfInBounds_ne (by omega)]
theorem fold_full (cs base : Array Value) (s : Nat) (h : base.size = cs.size) : cs.zipIdx.foldl (fun (a : Array Value) (x : Value × Nat) => a.setIfInBounds (0 * s + x.2) x.1) base = cs := by
  rw [← Array.foldl_toList, Array.toList_zipIdx]
  obtain ⟨k1, k2⟩ := fold_set (0 * s) cs.toList 0 base
  apply Array.ext_getElem?
  intro i
  by_cases hi : i < base.size
  · rw [k2 i hi, if_pos (by simp; omega)]
    simp
  · rw [Array.getElem?_eq_none (by rw [k1]; omega), Array.getElem?_eq_none (by omega)]
theorem fill_one (s : Nat) (base cs : Array Value) (h1 : cs.size = s) (h2 : base.size = s) : Instr.fill (fun i => some (i * s, s)) base [(0, Value.agg cs)] = some cs := by
  have hc : (Value.agg cs).cells = cs := rfl
  have hb : (decide ((Value.agg cs).cells.size ≠ s) || decide (0 * s + (Value.agg cs).cells.size > base.size)) = false := by rw [hc]; simp [h1, h2]
  unfold Instr.fill
  simp only
  rw [hb]
  simp only [Bool.false_eq_true, if_false, hc]
  unfold Instr.fill
  congr 1
  exact fold_full cs base s (by omega)
/-- A slice literal of one struct. -/
theorem wpList_buildOne {P : Program} {w : World} {ops : Array Oper} {rest : List Oper} {o : Oper} {a : Act} {Q : Exit → Act → World → Prop} (hgd : Region.wanted o (yielded ops a.tmps) = true) (t : TypeId) (x : Operand) (ho : o.op = .buildSlice t 1 #[(0, x)])
    {e : TypeId} {size bytes : Nat} (T : ElemT P t e size bytes) (cs : Array Value) (hx : a.eval x = .agg cs) (hs : cs.size = size) (hsm : size ≤ 1000)
    (h : wpList P ops Q rest (a.put o.dst (.slice (some ⟨w.heap.size, 0, none⟩) 1 1)) (w.alloc (.cells cs e))) : wpList P ops Q (o :: rest) a w := by
  obtain ⟨i, z, g1, g2, g3, g4, g5⟩ := T.hi
  have hpos := T.pos
  subst g3
  refine wpList_want hgd fun K hK => wp_buildSlice t e 1 _ ho cs i z T.ht g1 g2 (by omega) (by omega) ?_ (hK _ _ h)
  have e1 : (#[(0, x)].map fun (y : Nat × Operand) => (y.1, a.eval y.2)).toList = [(0, Value.agg cs)] := by simp [hx]
  refine (congrArg _ e1).trans ?_
  exact fill_one i.size _ cs hs (by simp)
theorem ex_buildOne {P : Program} {w : World} {o : Oper} {a : Act} (t : TypeId) (x : Operand) (ho : o.op = .buildSlice t 1 #[(0, x)])
    {e : TypeId} {size bytes : Nat} (T : ElemT P t e size bytes) (cs : Array Value) (hx : a.eval x = .agg cs) (hs : cs.size = size) (hsm : size ≤ 1000) :
    (execOp a.eval o).run P w = .ok (.value (.slice (some ⟨w.heap.size, 0, none⟩) 1 1)) (w.alloc (.cells cs e)) := by
  obtain ⟨i, z, g1, g2, g3, g4, g5⟩ := T.hi
  have hpos := T.pos
  subst g3
  have hf : Instr.fill (fun j => some (j * i.size, i.size)) ((Array.range (1 * i.size)).map (z.cells[· % z.cells.size]!)) (#[(0, x)].map fun (y : Nat × Operand) => (y.1, a.eval y.2)).toList = some cs := by
    have e1 : (#[(0, x)].map fun (y : Nat × Operand) => (y.1, a.eval y.2)).toList = [(0, Value.agg cs)] := by simp [hx]
    exact (congrArg _ e1).trans (fill_one i.size _ cs hs (by simp))
  have hr := run_buildSlice (P := P) w t e 1 _ cs i z T.ht g1 g2 (by omega) (by omega) hf
  unfold execOp
  simp only [ho, Sem.run_bind]
  rw [hr]
  rfl
end Go.Proofs.YtkpagmfaccmiaaaGreat
