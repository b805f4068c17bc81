
/- Words for memory: a slice that reads as a list; a slice of the call's own; append, slicing, text. Nothing here speaks of a program. -/

import Derived.WalkKit

import Derived.Lib.Hide

import Derived.Deep.Draws

namespace Go.Proofs.YtkpagmfaccmiaaaGreat

open Go.RowKit

/-! ### worlds -/

theorem ext_trans {a b c : World} (h : Below a.heap.size a b) (k : Below b.heap.size b c) : Below a.heap.size a c := h.trans (k.mono h.size)
theorem ext_drewN {B : Nat} {a w : World} (h : Below B a w) (n : Nat) : Below B a (w.drewN n) := ⟨h.os, h.tape, h.output, h.size, h.block⟩
theorem ext_grown {B : Nat} {a w w' : World} {row : Option Nat} (h : Below B a w) (hg : w.grownBy w' row) (hB : B ≤ w.heap.size) (hr : ∀ k, row = some k → B ≤ k) : Below B a w' := h.grown hg hB hr
theorem grown_ext {w w' : World} (h : Below w.heap.size w w') (row : Option Nat) : w.grownBy w' row := ⟨h.os, h.tape, h.output, h.size, fun i hi _ => h.block i hi⟩
theorem grown_none {w w' : World} (h : w.grownBy w' none) : Below w.heap.size w w' := ⟨h.os, h.tape, h.output, h.size, fun i hi => h.block i hi (by simp)⟩
theorem grown_tr {a b c : World} {row : Option Nat} (h : a.grownBy b row) (k : b.grownBy c row) : a.grownBy c row :=
  ⟨k.os.trans h.os, k.tape.trans h.tape, k.output.trans h.output, Nat.le_trans h.size k.size, fun i hi hn => (k.block i (Nat.lt_of_lt_of_le hi h.size) hn).trans (h.block i hi hn)⟩
theorem grown_tr_new {a b c : World} {row row' : Option Nat} (h : a.grownBy b row) (k : b.grownBy c row') (hr : row' = row ∨ ∃ g, row' = some g ∧ a.heap.size ≤ g) : a.grownBy c row :=
  ⟨k.os.trans h.os, k.tape.trans h.tape, k.output.trans h.output, Nat.le_trans h.size k.size, fun i hi hn => (k.block i (Nat.lt_of_lt_of_le hi h.size) (by
    rcases hr with rfl | ⟨g, rfl, hg⟩
    · exact hn
    · intro e; injection e with e; omega)).trans (h.block i hi hn)⟩

/-! ### reading -/

def bv (b : UInt8) : Value := .int .u8 (b.toNat : Int)
def bvs (l : List UInt8) : List Value := l.map bv
theorem bvs_len (l : List UInt8) : (bvs l).length = l.length := by simp [bvs]
theorem bvs_app (l m : List UInt8) : bvs (l ++ m) = bvs l ++ bvs m := by simp [bvs]
theorem bvs_get (l : List UInt8) (k : Nat) (h : k < l.length) : (bvs l)[k]? = some (bv l[k]) := by simp [bvs, h]
theorem bvs_one (l : List UInt8) : ∀ u ∈ bvs l, u.oneCell' = true := by
  intro u hu
  simp only [bvs, List.mem_map] at hu
  obtain ⟨b, _, rfl⟩ := hu
  rfl
theorem bv_inj {a b : UInt8} (h : bv a = bv b) : a = b := by
  simp only [bv, Value.int.injEq, Int.natCast_inj, true_and] at h
  exact UInt8.toNat_inj.1 h
theorem bvs_inj {a b : List UInt8} (h : bvs a = bvs b) : a = b := by
  induction a generalizing b with
  | nil => cases b with
    | nil => rfl
    | cons _ _ => simp [bvs] at h
  | cons x xs ih => cases b with
    | nil => simp [bvs] at h
    | cons y ys =>
      simp only [bvs, List.map_cons, List.cons.injEq] at h
      rw [bv_inj h.1, ih (by simpa [bvs] using h.2)]

/-- The slice (A, n) reads as the cells xs ('size' of them an element). -/
def Rd (w : World) (size : Nat) (A : Option Addr) (n : Nat) (xs : List Value) : Prop :=
  xs.length = n * size ∧ (xs ≠ [] → ∃ ad, A = some ad ∧ ∀ j u, xs[j]? = some u → w.cell? (ad.add j) = some u)

theorem add_block (a : Addr) (n : Nat) : (a.add n).block = a.block := by unfold Addr.add; split <;> rfl
theorem add_add' (a : Addr) (i j : Nat) : (a.add i).add j = a.add (i + j) := by
  unfold Addr.add
  by_cases hi : i = 0 <;> by_cases hj : j = 0 <;> simp [hi, hj, Nat.add_assoc]

section

variable {w w' : World} {size n : Nat} {A : Option Addr} {xs : List Value}

theorem Rd.nil_ (w : World) (size : Nat) (A : Option Addr) : Rd w size A 0 [] := ⟨by simp, fun h => absurd rfl h⟩
theorem Rd.below (h : Rd w size A n xs) (hb : Below w.heap.size w w') : Rd w' size A n xs := ⟨h.1, fun hx => by
  obtain ⟨ad, e, hc⟩ := h.2 hx
  refine ⟨ad, e, fun j u hj => ?_⟩
  have h1 := hc j u hj
  rw [hb.cell (World.block_lt_of_cell? _ _ h1)]; exact h1⟩
theorem Rd.grown (h : Rd w size A n xs) {row : Option Nat} (hg : w.grownBy w' row) (hne : ∀ ad, A = some ad → some ad.block ≠ row) : Rd w' size A n xs := ⟨h.1, fun hx => by
  obtain ⟨ad, e, hc⟩ := h.2 hx
  exact ⟨ad, e, fun j u hj => hg.cell (hc j u hj) (by rw [add_block]; exact hne ad e)⟩⟩
theorem Rd.at_ (h : Rd w 1 A n xs) {k : Nat} (hk : k < n) : ∃ ad u, A = some ad ∧ xs[k]? = some u ∧ w.cell? (ad.add k) = some u := by
  have hl : k < xs.length := by have := h.1; omega
  obtain ⟨ad, e, hc⟩ := h.2 (by intro e; rw [e] at hl; simp at hl)
  exact ⟨ad, xs[k], e, List.getElem?_eq_getElem hl, hc k _ (List.getElem?_eq_getElem hl)⟩
theorem Rd.cut (h : Rd w 1 A n xs) {k m : Nat} (hk : k ≤ m) (hm : m ≤ n) {c : Nat} (hc : m ≤ c) : Rd w 1 (if c = k then A else A.map (·.add k)) (m - k) ((xs.take m).drop k) := by
  have hl := h.1
  refine ⟨by simp; omega, fun hx => ?_⟩
  have hkm : k < m := by
    rcases Nat.lt_or_ge k m with h' | h'
    · exact h'
    · exact absurd (List.drop_eq_nil_of_le (by simp; omega)) hx
  obtain ⟨ad, rfl, hcell⟩ := h.2 (by intro e; rw [e] at hl; simp at hl; omega)
  rw [if_neg (by omega)]
  refine ⟨ad.add k, rfl, fun j u hj => ?_⟩
  rw [add_add']
  refine hcell _ u ?_
  rw [List.getElem?_drop, List.getElem?_take] at hj
  split at hj
  · exact hj
  · cases hj
theorem Rd.head (h : Rd w 1 A n xs) {m : Nat} (hm : m ≤ n) : Rd w 1 A m (xs.take m) := by
  refine ⟨by have := h.1; simp; omega, fun hx => ?_⟩
  obtain ⟨ad, rfl, hcell⟩ := h.2 (by intro e; rw [e] at hx; simp at hx)
  refine ⟨ad, rfl, fun j u hj => hcell j u ?_⟩
  rw [List.getElem?_take] at hj
  split at hj
  · exact hj
  · cases hj
theorem Rd.tail (h : Rd w 1 A n xs) {k : Nat} (hk : k ≤ n) {c : Nat} (hc : n ≤ c) : Rd w 1 (if c = k then A else A.map (·.add k)) (n - k) (xs.drop k) := by
  have := h.cut hk (Nat.le_refl n) hc
  rwa [List.take_of_length_le (by have := h.1; omega)] at this
end

/-- The slice (A, n) reads as the bytes bs. -/
def RdB (w : World) (A : Option Addr) (bs : List UInt8) : Prop := Rd w 1 A bs.length (bvs bs)
section

variable {w w' : World} {A : Option Addr} {bs : List UInt8}

theorem RdB.below (h : RdB w A bs) (hb : Below w.heap.size w w') : RdB w' A bs := Rd.below h hb
theorem RdB.at_ (h : RdB w A bs) {k : Nat} (hk : k < bs.length) : ∃ ad, A = some ad ∧ w.cell? (ad.add k) = some (.int .u8 (bs[k].toNat : Int)) := by
  obtain ⟨ad, u, e, hu, hc⟩ := Rd.at_ h hk
  rw [bvs_get bs k hk] at hu
  injection hu with hu
  exact ⟨ad, e, by rw [hc, ← hu]; rfl⟩
theorem RdB.nil_ (w : World) (A : Option Addr) : RdB w A [] := Rd.nil_ w 1 A
theorem bvs_drop (l : List UInt8) (k : Nat) : (bvs l).drop k = bvs (l.drop k) := by simp [bvs]
theorem bvs_take (l : List UInt8) (k : Nat) : (bvs l).take k = bvs (l.take k) := by simp [bvs]
theorem RdB.tail (h : RdB w A bs) {k : Nat} (hk : k ≤ bs.length) {c : Nat} (hc : bs.length ≤ c) : RdB w (if c = k then A else A.map (·.add k)) (bs.drop k) := by
  have := Rd.tail h hk hc
  rw [bvs_drop] at this
  unfold RdB
  rwa [List.length_drop]
theorem RdB.head (h : RdB w A bs) {m : Nat} (hm : m ≤ bs.length) : RdB w A (bs.take m) := by
  have := Rd.head h hm
  rw [bvs_take] at this
  unfold RdB
  rwa [List.length_take, Nat.min_eq_left hm]
theorem RdB.cut (h : RdB w A bs) {k m : Nat} (hk : k ≤ m) (hm : m ≤ bs.length) {c : Nat} (hc : m ≤ c) : RdB w (if c = k then A else A.map (·.add k)) ((bs.take m).drop k) := by
  have := Rd.cut h hk hm hc
  rw [bvs_take, bvs_drop] at this
  unfold RdB
  rwa [List.length_drop, List.length_take, Nat.min_eq_left hm]
end

/-! ### a slice of the call's own (from block 'base' on), or one without room -/

structure Own (w : World) (base : Nat) (e : TypeId) (size : Nat) (A : Option Addr) (n c : Nat) (xs : List Value) : Prop where
  len : xs.length = n * size
  nc : n ≤ c
  cm : c ≤ maxLen
  mem : c = 0 ∨ ∃ g off cur, A = some ⟨g, off, none⟩ ∧ base ≤ g ∧ w.heap[g]? = some (.cells cur e (0, 0)) ∧ off + c * size ≤ cur.size ∧ (cur.toList.drop off).take (n * size) = xs

def ownRow (A : Option Addr) (c : Nat) : Option Nat := if c = 0 then none else A.map (·.block)

theorem lt_of_heap {w : World} {g : Nat} {o : Obj} (h : w.heap[g]? = some o) : g < w.heap.size := by
  rcases Nat.lt_or_ge g w.heap.size with h' | h'
  · exact h'
  · rw [Array.getElem?_eq_none h'] at h; cases h

section

variable {w w' : World} {base size n c : Nat} {e : TypeId} {A : Option Addr} {xs : List Value}

theorem Own.none_ (w : World) (base : Nat) (e : TypeId) (size : Nat) (A : Option Addr) : Own w base e size A 0 0 [] := ⟨by simp, Nat.le_refl _, Nat.zero_le _, .inl rfl⟩
theorem Own.rd (h : Own w base e size A n c xs) : Rd w size A n xs := by
  refine ⟨h.len, fun hx => ?_⟩
  rcases h.mem with rfl | ⟨g, off, cur, rfl, _, hg, _, ht⟩
  · have := h.nc
    obtain rfl : n = 0 := by omega
    exact absurd (List.eq_nil_of_length_eq_zero (by simpa using h.len)) hx
  · refine ⟨_, rfl, fun j u hj => ?_⟩
    rw [Addr.add_lit, cell_of_row w g _ cur e (0, 0) hg]
    rw [← ht, List.getElem?_take] at hj
    split at hj
    · rw [List.getElem?_drop] at hj
      simpa using hj
    · cases hj
theorem Own.row_lt (h : Own w base e size A n c xs) : ∀ k, ownRow A c = some k → base ≤ k ∧ k < w.heap.size := by
  intro k hk
  unfold ownRow at hk
  rcases h.mem with rfl | ⟨g, off, cur, rfl, hb, hg, _, ht⟩
  · simp at hk
  · split at hk
    · cases hk
    · simp only [Option.map_some, Option.some.injEq] at hk
      subst hk
      exact ⟨hb, lt_of_heap hg⟩
theorem Own.kept (h : Own w base e size A n c xs) {row : Option Nat} (hg : w.grownBy w' row) (hne : ∀ k, ownRow A c = some k → some k ≠ row) : Own w' base e size A n c xs := by
  refine ⟨h.len, h.nc, h.cm, ?_⟩
  by_cases hc : c = 0
  · exact .inl hc
  rcases h.mem with rfl | ⟨g, off, cur, rfl, hb, hh, ho, ht⟩
  · exact .inl rfl
  · exact .inr ⟨g, off, cur, rfl, hb, (hg.block g (lt_of_heap hh) (hne g (by simp [ownRow, hc]))).trans hh, ho, ht⟩
theorem Own.below (h : Own w base e size A n c xs) (hb : Below w.heap.size w w') : Own w' base e size A n c xs := h.kept (grown_ext hb none) (fun _ _ => by simp)
theorem Own.mono (h : Own w base e size A n c xs) {base' : Nat} (hb : base' ≤ base) : Own w base' e size A n c xs := ⟨h.len, h.nc, h.cm, h.mem.imp id (fun ⟨g, off, cur, h1, h2, h3⟩ => ⟨g, off, cur, h1, Nat.le_trans hb h2, h3⟩)⟩
/-- A new block. -/
theorem Own.new (w : World) (e : TypeId) (size : Nat) (cur : Array Value) (n c : Nat) (hn : n ≤ c) (hc : c ≤ maxLen) (hs : c * size ≤ cur.size) :
    Own (w.alloc (.cells cur e)) w.heap.size e size (some ⟨w.heap.size, 0, none⟩) n c (cur.toList.take (n * size)) :=
  ⟨by simp only [List.length_take, Array.length_toList]; have := Nat.mul_le_mul_right size hn; omega, hn, hc, .inr ⟨_, 0, cur, rfl, Nat.le_refl _, heap_alloc_new w _, by omega, by simp⟩⟩
theorem Own.rd' {bs : List UInt8} {n : Nat} (h : Own w base e 1 A n c (bvs bs)) : RdB w A bs := by
  have h1 := h.rd
  have h2 : n = bs.length := by have := h.len; rw [bvs_len] at this; omega
  rw [h2] at h1; exact h1
/-- A head of it, its room kept. -/
theorem Own.head (h : Own w base e size A n c xs) {m : Nat} (hm : m ≤ n) : Own w base e size A m c (xs.take (m * size)) := by
  refine ⟨by have := h.len; have := Nat.mul_le_mul_right size hm; simp only [List.length_take]; omega, Nat.le_trans hm h.nc, h.cm, ?_⟩
  rcases h.mem with h0 | ⟨g, off, cur, h1, h2, h3, h4, h5⟩
  · exact .inl h0
  · refine .inr ⟨g, off, cur, h1, h2, h3, h4, ?_⟩
    rw [← h5, List.take_take, Nat.min_eq_left (Nat.mul_le_mul_right size hm)]
end

theorem size_of_take {c size : Nat} {l : List Value} (h : l.length = c * size) : c * size ≤ l.toArray.size := by simp [h]

section

variable {P : Program} (w : World)

theorem run_app (base : Nat) (t ty e : TypeId) (i : TypeInfo) (z : Value) (size bytes : Nat) (ht : P.underlying t = some (.slice e)) (hi : P.info? e = some i) (hz : i.zero = some z)
    (hsize : i.size = size) (hby : i.bytes = bytes) (hzs : z.cells.size = size) (hsz : 0 < size)
    (A : Option Addr) (n c : Nat) (xs : List Value) (hown : Own w base e size A n c xs)
    (A2 : Option Addr) (m c2 : Nat) (ys : List Value) (hr : Rd w size A2 m ys) (h1 : ∀ u ∈ ys, u.oneCell' = true)
    (h63 : n + m ≤ maxLen) (hbytes : (n + m) * bytes ≤ 140737488355328) (hbase : base ≤ w.heap.size) :
    ∃ A' c' w', (Builtin.append_ #[t, t] ty #[.slice A n c, .slice A2 m c2]).run P w = .ok (.slice A' (n + m) c') w' ∧ Own w' base e size A' (n + m) c' (xs ++ ys) ∧ w.grownBy w' (ownRow A c) ∧
      (ownRow A' c' = ownRow A c ∨ ownRow A' c' = some w.heap.size) := by
  subst hsize
  subst hby
  have hsmall : n + m ≤ 9223372036854775807 := by simp only [maxLen] at h63; omega
  have hlen : (xs ++ ys).length = (n + m) * i.size := by rw [List.length_append, hown.len, hr.1, Nat.add_mul]
  -- the source's cells
  rcases Nat.eq_zero_or_pos m with hm0 | hmp
  · subst hm0
    have hy : ys = [] := List.eq_nil_of_length_eq_zero (by simpa using hr.1)
    subst hy
    refine ⟨A, c, w, ?_, by simpa using hown, ⟨rfl, rfl, rfl, Nat.le_refl _, fun _ _ _ => rfl⟩, .inl rfl⟩
    have hnc := hown.nc
    rcases A with _ | a <;> rcases A2 with _ | a2 <;>
      simp [Builtin.append_, run_underlying ht, sizeOf, typeInfo, hi, Builtin.lenOf, Builtin.firstCells, hnc, storeCells, loadCells, loadCellsFrom]
  · obtain ⟨ad, rfl, hcells⟩ := hr.2 (by rintro rfl; have h9 := hr.1; simp only [List.length_nil] at h9; have : 0 < m * i.size := Nat.mul_pos hmp hsz; omega)
    have grown : ∀ (old : Nat), old < n + m → ∀ (row : Option Nat),
        Own (w.drew.alloc (.cells (xs.toArray ++ ys.toArray ++ Builtin.zeroCells z.cells (grownCap w (n + m) old e - (n + m))) e)) base e i.size
          (some ⟨w.heap.size, 0, none⟩) (n + m) (grownCap w (n + m) old e) (xs ++ ys) ∧
        w.grownBy (w.drew.alloc (.cells (xs.toArray ++ ys.toArray ++ Builtin.zeroCells z.cells (grownCap w (n + m) old e - (n + m))) e)) row ∧
        (ownRow (some ⟨w.heap.size, 0, none⟩) (grownCap w (n + m) old e) = some w.heap.size) := by
      intro old ho row
      have hge := grownCap_ge w (n + m) old e
      have hcm : grownCap w (n + m) old e ≤ maxLen := grownCap_le_maxLen w (n + m) old e h63
      refine ⟨⟨hlen, hge, hcm, .inr ⟨w.heap.size, 0, _, rfl, hbase, heap_alloc_new w.drew _, ?_, ?_⟩⟩, ⟨rfl, rfl, rfl, by simp, fun k hk _ => Below.heap_alloc w.drew _ k hk⟩, ?_⟩
      · simp only [Array.size_append, List.size_toArray, size_zeroCells, hzs, hown.len, hr.1, ← Nat.add_mul, Nat.zero_add]
        refine Nat.mul_le_mul_right _ (by omega)
      · simp only [Array.toList_append, List.append_assoc, List.drop_zero]
        rw [← List.append_assoc, ← hlen]
        exact List.take_left
      · unfold ownRow; rw [if_neg (by omega)]; rfl
    rcases hown.mem with hc0 | ⟨g, off, cur, rfl, hbg, hg, hoff, htake⟩
    · subst hc0
      have hn0 : n = 0 := by have := hown.nc; omega
      subst hn0
      have hx : xs = [] := List.eq_nil_of_length_eq_zero (by simpa using hown.len)
      subst hx
      have hgr := grown 0 (by omega) (ownRow A 0)
      simp only [Nat.zero_add, List.nil_append, Array.empty_append] at hgr ⊢
      rcases A with _ | a
      · have hrun := run_append_nil (P := P) w t ty e i z ht hi hz ad m c2 ys hr.1 hcells hmp (by omega) (by have hb := hbytes; simp only [Nat.zero_add] at hb; omega)
        exact ⟨_, _, _, hrun, hgr.1, hgr.2.1, .inr hgr.2.2⟩
      · have hrun := run_append_grow (P := P) w t ty e i z ht hi hz a 0 0 [] (by simp) (by simp) ad m c2 ys hr.1 hcells (by omega) (by omega) (growslice_fits (by omega) hbytes)
        simp only [Nat.zero_add, Array.empty_append] at hrun
        exact ⟨_, _, _, hrun, hgr.1, hgr.2.1, .inr hgr.2.2⟩
    · by_cases hroom : n + m ≤ c
      · have hf := run_firstCells_some (P := P) w i.size m ad m c2 ys hr.1 hcells
        have hfit : off + n * i.size + 0 + ys.length ≤ cur.size := by
          have : (n + m) * i.size ≤ c * i.size := Nat.mul_le_mul_right _ hroom
          rw [Nat.add_mul] at this
          have := hr.1
          omega
        have hst := run_storeCells_at P g (off + n * i.size) e ys 0 cur w hg hfit h1
        simp only [Nat.add_zero] at hst
        refine ⟨some ⟨g, off, none⟩, c, w.setRow g (cur.toList.take (off + n * i.size) ++ (ys ++ cur.toList.drop (off + n * i.size + ys.length))).toArray, ?_, ⟨hlen, hroom, hown.cm, .inr ⟨g, off, _, rfl, hbg, setRow_heap w g cur _ e _ hg, ?_, ?_⟩⟩, ⟨rfl, rfl, rfl, by simp, fun k _ hk => setRow_other w g k _ (fun e => hk (by unfold ownRow; rw [if_neg (by omega)]; simp [e]))⟩, .inl rfl⟩
        · simp [Builtin.append_, run_underlying ht, sizeOf, typeInfo, hi, Builtin.lenOf, hroom, hf, Addr.add_lit, hst]
        · simp only [List.size_toArray, List.length_append, List.length_take, List.length_drop, Array.length_toList]
          omega
        · have hlx : ((cur.toList.drop off).take (n * i.size)).length = n * i.size := by rw [htake]; exact hown.len
          have e1 : (cur.toList.take (off + n * i.size) ++ (ys ++ cur.toList.drop (off + n * i.size + ys.length))).drop off = xs ++ (ys ++ cur.toList.drop (off + n * i.size + ys.length)) := by
            rw [List.take_add, List.append_assoc, htake]
            exact List.drop_left' (by simp; omega)
          rw [e1, ← List.append_assoc, ← hlen]
          exact List.take_left
      · have holds : ∀ j u, xs[j]? = some u → w.cell? ((⟨g, off, none⟩ : Addr).add j) = some u := by
          intro j u hj
          have h2 := hown.rd.2 (by intro e0; rw [e0] at hj; simp at hj)
          obtain ⟨ad', he, hc'⟩ := h2
          injection he with he
          subst he
          exact hc' j u hj
        have hrun := run_append_grow (P := P) w t ty e i z ht hi hz ⟨g, off, none⟩ n c xs hown.len holds ad m c2 ys hr.1 hcells (by omega) (by omega) (growslice_fits (by omega) hbytes)
        have hgr := grown c (by omega) (ownRow (some ⟨g, off, none⟩) c)
        exact ⟨_, _, _, hrun, hgr.1, hgr.2.1, .inr hgr.2.2⟩
end

theorem Rd.new (w : World) (e : TypeId) (l : List Value) : Rd (w.alloc (.cells l.toArray e)) 1 (some ⟨w.heap.size, 0, none⟩) l.length l :=
  ⟨by simp, fun _ => ⟨_, rfl, fun j u hj => by rw [Addr.add_lit, cell_of_row _ _ _ l.toArray e (0, 0) (heap_alloc_new w _)]; simpa using hj⟩⟩
theorem below_app {w0 w w' : World} {base size n c : Nat} {e : TypeId} {A : Option Addr} {xs : List Value} (hb : Below base w0 w) (ho : Own w base e size A n c xs) (hg : w.grownBy w' (ownRow A c)) (hB : base ≤ w.heap.size) : Below base w0 w' :=
  hb.grown hg hB (fun k hk => (ho.row_lt k hk).1)

theorem setRow_alloc (w : World) (old cs : Array Value) (t : TypeId) : (w.alloc (.cells old t)).setRow w.heap.size cs = w.alloc (.cells cs t) := by
  simp only [World.setRow, World.alloc]
  congr 1
  apply Array.ext_getElem?
  intro i
  rw [Array.getElem?_modify, Array.getElem?_push, Array.getElem?_push]
  by_cases hi : i = w.heap.size
  · subst hi; simp
  · simp [hi, Ne.symm hi]

/-- A slice type of the program, and its elements. -/
structure ElemT (P : Program) (t e : TypeId) (size bytes : Nat) : Prop where
  ht : P.underlying t = some (.slice e)
  hi : ∃ (i : TypeInfo) (z : Value), P.info? e = some i ∧ i.zero = some z ∧ i.size = size ∧ i.bytes = bytes ∧ z.cells.size = size
  pos : 0 < size

theorem ElemT.mk' {P : Program} {t e : TypeId} {size bytes : Nat} {z : Value} (ht : P.underlying t = some (.slice e)) (h : (P.info? e).map (fun i => (i.zero, i.size, i.bytes)) = some (some z, size, bytes))
    (hz : z.cells.size = size) (pos : 0 < size) : ElemT P t e size bytes := by
  obtain ⟨i, hi, h1⟩ := Option.map_eq_some_iff.1 h
  simp only [Prod.mk.injEq] at h1
  exact ⟨ht, ⟨i, z, hi, h1.1, h1.2.1, h1.2.2, hz⟩, pos⟩
theorem ElemT.one {P : Program} {t e : TypeId} {bytes : Nat} (T : ElemT P t e 1 bytes) : (P.info? e).map (·.size) = some 1 := by
  obtain ⟨i, z, h1, _, h3, _⟩ := T.hi
  rw [h1]; simp [h3]

section

variable {P : Program} {w : World} {ops : Array Oper} {rest : List Oper} {o : Oper} {a : Act} {Q : Exit → Act → World → Prop}

theorem wp_app {K : Act → World → Prop} (s x : Operand) (t : TypeId) (ho : o.op = .call { callee := .builtin .append, args := #[s, x], argTypes := #[t, t] })
    {e : TypeId} {size bytes : Nat} (T : ElemT P t e size bytes) (base : Nat) (A : Option Addr) (n c : Nat) (xs : List Value) (hs : a.eval s = .slice A n c)
    (A2 : Option Addr) (m c2 : Nat) (ys : List Value) (hx : a.eval x = .slice A2 m c2) (k : Nat) (hk : k = n + m) (zs : List Value) (hz : zs = xs ++ ys)
    (hown : Own w base e size A n c xs) (hr : Rd w size A2 m ys) (h1 : ∀ u ∈ ys, u.oneCell' = true)
    (hbytes : k * bytes ≤ 140737488355328) (h63 : k ≤ 140737488355328) (hbase : base ≤ w.heap.size)
    (h : ∀ A' c' w', Own w' base e size A' k c' zs → w.grownBy w' (ownRow A c) → (ownRow A' c' = ownRow A c ∨ ownRow A' c' = some w.heap.size) → K (a.put o.dst (.slice A' k c')) w') : o.wp P a w K Q := by
  subst hk
  subst hz
  obtain ⟨i, z, g1, g2, g3, g4, g5⟩ := T.hi
  obtain ⟨A', c', w', hrun, h2, h3, h4⟩ := run_app (P := P) w base t o.type e i z size bytes T.ht g1 g2 g3 g4 g5 T.pos A n c xs hown A2 m c2 ys hr h1 (by unfold maxLen; omega) hbytes hbase
  unfold Oper.wp execOp
  simp only [ho, resolve, invoke, builtin, Sem.run_bind, Sem.run_pure, Result.andThen_ok, List.map_toArray, List.map_cons, List.map_nil, hs, hx, hrun]
  exact h A' c' w' h2 h3 h4

theorem wpList_want (hgd : Region.wanted o (yielded ops a.tmps) = true)
    (h : ∀ K : Act → World → Prop, (∀ a w, wpList P ops Q rest a w → K a w) → o.wp P a w K Q) : wpList P ops Q (o :: rest) a w :=
  wpList_step fun K hK => by rw [if_pos hgd]; exact h K hK

theorem wpList_app (hgd : Region.wanted o (yielded ops a.tmps) = true) (s x : Operand) (t : TypeId) (ho : o.op = .call { callee := .builtin .append, args := #[s, x], argTypes := #[t, t] })
    {e : TypeId} {size bytes : Nat} (T : ElemT P t e size bytes) (base : Nat) (A : Option Addr) (n c : Nat) (xs : List Value) (hs : a.eval s = .slice A n c)
    (A2 : Option Addr) (m c2 : Nat) (ys : List Value) (hx : a.eval x = .slice A2 m c2) (k : Nat) (hk : k = n + m) (zs : List Value) (hz : zs = xs ++ ys)
    (hown : Own w base e size A n c xs) (hr : Rd w size A2 m ys) (h1 : ∀ u ∈ ys, u.oneCell' = true)
    (hbytes : k * bytes ≤ 140737488355328) (h63 : k ≤ 140737488355328) (hbase : base ≤ w.heap.size)
    (h : ∀ A' c' w', Own w' base e size A' k c' zs → w.grownBy w' (ownRow A c) → (ownRow A' c' = ownRow A c ∨ ownRow A' c' = some w.heap.size) → wpList P ops Q rest (a.put o.dst (.slice A' k c')) w') : wpList P ops Q (o :: rest) a w :=
  wpList_want hgd fun _ hK => wp_app s x t ho T base A n c xs hs A2 m c2 ys hx k hk zs hz hown hr h1 hbytes h63 hbase fun A' c' w' h2 h3 h4 => hK _ _ (h A' c' w' h2 h3 h4)
end

/-! ### the text of bytes -/

theorem foldl_push (l : List UInt8) : ∀ s : ByteArray, (l.map fun b => (b.toNat : Int)).foldl (fun r n => r.push (UInt8.ofNat n.toNat)) s = ⟨s.data ++ l.toArray⟩ := by
  induction l with
  | nil => intro s; simp
  | cons x xs ih =>
    intro s
    simp only [List.map_cons, List.foldl_cons, Int.toNat_natCast, UInt8.ofNat_toNat]
    rw [ih]
    simp [ByteArray.push]

theorem run_str {P : Program} (w : World) (src dst e : TypeId) (A : Option Addr) (bs : List UInt8) (c : Nat) (hs : P.underlying src = some (.slice e)) (he : P.underlying e = some (.int .u8)) (hd : P.underlying dst = some .string)
    (h : RdB w A bs) (n : Nat) (hn : n = bs.length) : (convert src dst (.slice A n c)).run P w = .ok (.string ⟨bs.toArray⟩) w := by
  subst hn
  rw [run_convert_bytes_string w src dst e A _ c hs he hd]
  rcases A with _ | ad
  · have h0 : bvs bs = [] := by
      rcases Nat.eq_zero_or_pos (bvs bs).length with h0 | h0
      · exact List.eq_nil_of_length_eq_zero h0
      · obtain ⟨ad, e0, _⟩ := h.2 (by intro e0; rw [e0] at h0; simp at h0)
        cases e0
    have h1 : bs = [] := by simpa [bvs] using h0
    subst h1
    simp [Conv.bytesToString]
    rfl
  · have hb : bs.length = (bvs bs).length := (bvs_len bs).symm
    have hload : (loadCells ad bs.length).run P w = .ok ((bs.map fun b => (b.toNat : Int)).map (Value.int .u8)).toArray w := by
      have e1 : ((bs.map fun b => (b.toNat : Int)).map (Value.int .u8)) = bvs bs := by simp [bvs, bv]
      rw [e1, hb]
      refine run_loadCells_list w ad (bvs bs) fun j v hj => ?_
      obtain ⟨ad', e0, hc⟩ := h.2 (by intro e0; rw [e0] at hj; simp at hj)
      injection e0 with e0
      subst e0
      exact hc j v hj
    rw [run_bytesToString w ad bs.length c _ hload, foldl_push]
    simp

end Go.Proofs.YtkpagmfaccmiaaaGreat
