/- Texts of the proof, laid together: Mem Sl RowG Ent Reg2 Reg3 Num VintMath VintNum VintRefN Seq. -/
import Derived.WalkKit
import Derived.Lib.Hide
import Derived.Deep.Draws
import Derived.Laws.Rows
import Derived.OrdersHeld
import Derived.Deep.RegionHeld
import Derived.Test.YtjholekgdnhpkaaGreatDoorProg
import Derived.RangeFuncNested
import Derived.RangeFuncBound
import Derived.RangeFuncCalls
import Derived.RangeFuncLeaves
import Derived.OwnWalkIn
import Derived.TacticsInMore
import Derived.LoopNIn
import Derived.LoopIn
set_option linter.unusedVariables false
set_option linter.unusedSimpArgs false
set_option linter.unusedSectionVars false
namespace Go.Proofs.YtjholekgdnhpkaaGreatDoor
theorem sA {α : Type} (l : List α) (i : Nat) (a : α) : l.toArray.setIfInBounds i a = (l.set i a).toArray := List.setIfInBounds_toArray ..
theorem sB {α : Type} (x : α) (l : List α) (a : α) : (x :: l).set 0 a = a :: l := rfl
theorem sC {α : Type} (x : α) (l : List α) (i : Nat) (a : α) : (x :: l).set (i + 1) a = x :: l.set i a := rfl
theorem sP : (∀ (a : Act) (d : Tmp) (v : Value), a.put (some d) v = { a with tmps := a.tmps.setIfInBounds d v }) ∧ (∀ (a : Act) (v : Value), a.put none v = a) ∧ (∀ (l : List Value) (i : Nat) (a : Value), l.toArray.setIfInBounds i a = (l.set i a).toArray) ∧ (∀ (x : Value) (l : List Value) (a : Value), (x :: l).set 0 a = a :: l) ∧ (∀ (x : Value) (l : List Value) (i : Nat) (a : Value), (x :: l).set (i + 1) a = x :: l.set i a) :=
  ⟨fun _ _ _ => rfl, fun _ _ => rfl, fun l i a => List.setIfInBounds_toArray .., fun _ _ _ => rfl, fun _ _ _ _ => rfl⟩
end Go.Proofs.YtjholekgdnhpkaaGreatDoor
namespace Go.Proofs.YtjholekgdnhpkaaGreatDoor
open Go.RowKit
theorem ext_trans {a b c : World} (h : Below a.heap.size a b) (k : Below b.heap.size b c) : Below a.heap.size a c := h.trans (k.mono h.size)
theorem grown_ext {w w' : World} (h : Below w.heap.size w w') (row : Option Nat) : w.grownBy w' row := ⟨h.os, h.tape, h.output, h.size, fun i hi _ => h.block i hi⟩
def bv (b : UInt8) : Value := .int .u8 (b.toNat : Int)
def bvs (l : List UInt8) : List Value := l.map bv
theorem bvs_len (l : List UInt8) : (bvs l).length = l.length := by simp [bvs]
theorem bvs_app (l m : List UInt8) : bvs (l ++ m) = bvs l ++ bvs m := by simp [bvs]
theorem bvs_get (l : List UInt8) (k : Nat) (h : k < l.length) : (bvs l)[k]? = some (bv l[k]) := by simp [bvs, h]
theorem bvs_one (l : List UInt8) : ∀ u ∈ bvs l, u.oneCell' = true := by
 intro u hu
 simp only [bvs, List.mem_map] at hu
 obtain ⟨b, _, rfl⟩ := hu
 rfl
def Rd (w : World) (size : Nat) (A : Option Addr) (n : Nat) (xs : List Value) : Prop :=
 xs.length = n * size ∧ (xs ≠ [] → ∃ ad, A = some ad ∧ ∀ j u, xs[j]? = some u → w.cell? (ad.add j) = some u)
theorem add_block (a : Addr) (n : Nat) : (a.add n).block = a.block := by unfold Addr.add; split <;> rfl
theorem add_add' (a : Addr) (i j : Nat) : (a.add i).add j = a.add (i + j) := by
 unfold Addr.add
 by_cases hi : i = 0 <;> by_cases hj : j = 0 <;> simp [hi, hj, Nat.add_assoc]
section
variable {w w' : World} {size n : Nat} {A : Option Addr} {xs : List Value}
theorem Rd.nil_ (w : World) (size : Nat) (A : Option Addr) : Rd w size A 0 [] := ⟨by simp, fun h => absurd rfl h⟩
theorem Rd.below (h : Rd w size A n xs) (hb : Below w.heap.size w w') : Rd w' size A n xs := ⟨h.1, fun hx => by
 obtain ⟨ad, e, hc⟩ := h.2 hx
 refine ⟨ad, e, fun j u hj => ?_⟩
 have h1 := hc j u hj
 rw [hb.cell (World.block_lt_of_cell? _ _ h1)]; exact h1⟩
theorem Rd.at_ (h : Rd w 1 A n xs) {k : Nat} (hk : k < n) : ∃ ad u, A = some ad ∧ xs[k]? = some u ∧ w.cell? (ad.add k) = some u := by
 have hl : k < xs.length := by have := h.1; omega
 obtain ⟨ad, e, hc⟩ := h.2 (by intro e; rw [e] at hl; simp at hl)
 exact ⟨ad, xs[k], e, List.getElem?_eq_getElem hl, hc k _ (List.getElem?_eq_getElem hl)⟩
theorem Rd.cut (h : Rd w 1 A n xs) {k m : Nat} (hk : k ≤ m) (hm : m ≤ n) {c : Nat} (hc : m ≤ c) : Rd w 1 (if c = k then A else A.map (·.add k)) (m - k) ((xs.take m).drop k) := by
 have hl := h.1
 refine ⟨by simp; omega, fun hx => ?_⟩
 have hkm : k < m := by
  rcases Nat.lt_or_ge k m with h' | h'
  ·
   exact h'
  ·
   exact absurd (List.drop_eq_nil_of_le (by simp; omega)) hx
 obtain ⟨ad, rfl, hcell⟩ := h.2 (by intro e; rw [e] at hl; simp at hl; omega)
 rw [if_neg (by omega)]
 refine ⟨ad.add k, rfl, fun j u hj => ?_⟩
 rw [add_add']
 refine hcell _ u ?_
 rw [List.getElem?_drop, List.getElem?_take] at hj
 split at hj
 ·
  exact hj
 ·
  cases hj
theorem Rd.head (h : Rd w 1 A n xs) {m : Nat} (hm : m ≤ n) : Rd w 1 A m (xs.take m) := by
 refine ⟨by have := h.1; simp; omega, fun hx => ?_⟩
 obtain ⟨ad, rfl, hcell⟩ := h.2 (by intro e; rw [e] at hx; simp at hx)
 refine ⟨ad, rfl, fun j u hj => hcell j u ?_⟩
 rw [List.getElem?_take] at hj
 split at hj
 ·
  exact hj
 ·
  cases hj
theorem Rd.tail (h : Rd w 1 A n xs) {k : Nat} (hk : k ≤ n) {c : Nat} (hc : n ≤ c) : Rd w 1 (if c = k then A else A.map (·.add k)) (n - k) (xs.drop k) := by
 have := h.cut hk (Nat.le_refl n) hc
 rwa [List.take_of_length_le (by have := h.1; omega)] at this
end
def RdB (w : World) (A : Option Addr) (bs : List UInt8) : Prop := Rd w 1 A bs.length (bvs bs)
section
variable {w w' : World} {A : Option Addr} {bs : List UInt8}
theorem RdB.below (h : RdB w A bs) (hb : Below w.heap.size w w') : RdB w' A bs := Rd.below h hb
theorem RdB.at_ (h : RdB w A bs) {k : Nat} (hk : k < bs.length) : ∃ ad, A = some ad ∧ w.cell? (ad.add k) = some (.int .u8 (bs[k].toNat : Int)) := by
 obtain ⟨ad, u, e, hu, hc⟩ := Rd.at_ h hk
 rw [bvs_get bs k hk] at hu
 injection hu with hu
 exact ⟨ad, e, by rw [hc, ← hu]; rfl⟩
theorem RdB.nil_ (w : World) (A : Option Addr) : RdB w A [] := Rd.nil_ w 1 A
theorem bvs_drop (l : List UInt8) (k : Nat) : (bvs l).drop k = bvs (l.drop k) := by simp [bvs]
theorem bvs_take (l : List UInt8) (k : Nat) : (bvs l).take k = bvs (l.take k) := by simp [bvs]
theorem RdB.tail (h : RdB w A bs) {k : Nat} (hk : k ≤ bs.length) {c : Nat} (hc : bs.length ≤ c) : RdB w (if c = k then A else A.map (·.add k)) (bs.drop k) := by
 have := Rd.tail h hk hc
 rw [bvs_drop] at this
 unfold RdB
 rwa [List.length_drop]
theorem RdB.head (h : RdB w A bs) {m : Nat} (hm : m ≤ bs.length) : RdB w A (bs.take m) := by
 have := Rd.head h hm
 rw [bvs_take] at this
 unfold RdB
 rwa [List.length_take, Nat.min_eq_left hm]
theorem RdB.cut (h : RdB w A bs) {k m : Nat} (hk : k ≤ m) (hm : m ≤ bs.length) {c : Nat} (hc : m ≤ c) : RdB w (if c = k then A else A.map (·.add k)) ((bs.take m).drop k) := by
 have := Rd.cut h hk hm hc
 rw [bvs_take, bvs_drop] at this
 unfold RdB
 rwa [List.length_drop, List.length_take, Nat.min_eq_left hm]
end
structure Own (w : World) (base : Nat) (e : TypeId) (size : Nat) (A : Option Addr) (n c : Nat) (xs : List Value) : Prop where
 len : xs.length = n * size
 nc : n ≤ c
 cm : c ≤ maxLen
 mem : c = 0 ∨ ∃ g off cur, A = some ⟨g, off, none⟩ ∧ base ≤ g ∧ w.heap[g]? = some (.cells cur e (0, 0)) ∧ off + c * size ≤ cur.size ∧ (cur.toList.drop off).take (n * size) = xs
def ownRow (A : Option Addr) (c : Nat) : Option Nat := if c = 0 then none else A.map (·.block)
theorem lt_of_heap {w : World} {g : Nat} {o : Obj} (h : w.heap[g]? = some o) : g < w.heap.size := by
 rcases Nat.lt_or_ge g w.heap.size with h' | h'
 ·
  exact h'
 ·
  rw [Array.getElem?_eq_none h'] at h; cases h
section
variable {w w' : World} {base size n c : Nat} {e : TypeId} {A : Option Addr} {xs : List Value}
theorem Own.none_ (w : World) (base : Nat) (e : TypeId) (size : Nat) (A : Option Addr) : Own w base e size A 0 0 [] := ⟨by simp, Nat.le_refl _, Nat.zero_le _, .inl rfl⟩
theorem Own.rd (h : Own w base e size A n c xs) : Rd w size A n xs := by
 refine ⟨h.len, fun hx => ?_⟩
 rcases h.mem with rfl | ⟨g, off, cur, rfl, _, hg, _, ht⟩
 ·
  have := h.nc
  obtain rfl : n = 0 := by omega
  exact absurd (List.eq_nil_of_length_eq_zero (by simpa using h.len)) hx
 ·
  refine ⟨_, rfl, fun j u hj => ?_⟩
  rw [Addr.add_lit, cell_of_row w g _ cur e (0, 0) hg]
  rw [← ht, List.getElem?_take] at hj
  split at hj
  ·
   rw [List.getElem?_drop] at hj
   simpa using hj
  ·
   cases hj
theorem Own.row_lt (h : Own w base e size A n c xs) : ∀ k, ownRow A c = some k → base ≤ k ∧ k < w.heap.size := by
 intro k hk
 unfold ownRow at hk
 rcases h.mem with rfl | ⟨g, off, cur, rfl, hb, hg, _, ht⟩
 ·
  simp at hk
 ·
  split at hk
  ·
   cases hk
  ·
   simp only [Option.map_some, Option.some.injEq] at hk
   subst hk
   exact ⟨hb, lt_of_heap hg⟩
theorem Own.kept (h : Own w base e size A n c xs) {row : Option Nat} (hg : w.grownBy w' row) (hne : ∀ k, ownRow A c = some k → some k ≠ row) : Own w' base e size A n c xs := by
 refine ⟨h.len, h.nc, h.cm, ?_⟩
 by_cases hc : c = 0
 ·
  exact .inl hc
 rcases h.mem with rfl | ⟨g, off, cur, rfl, hb, hh, ho, ht⟩
 ·
  exact .inl rfl
 ·
  exact .inr ⟨g, off, cur, rfl, hb, (hg.block g (lt_of_heap hh) (hne g (by simp [ownRow, hc]))).trans hh, ho, ht⟩
theorem Own.below (h : Own w base e size A n c xs) (hb : Below w.heap.size w w') : Own w' base e size A n c xs := h.kept (grown_ext hb none) (fun _ _ => by simp)
theorem Own.mono (h : Own w base e size A n c xs) {base' : Nat} (hb : base' ≤ base) : Own w base' e size A n c xs := ⟨h.len, h.nc, h.cm, h.mem.imp id (fun ⟨g, off, cur, h1, h2, h3⟩ => ⟨g, off, cur, h1, Nat.le_trans hb h2, h3⟩)⟩
theorem Own.new (w : World) (e : TypeId) (size : Nat) (cur : Array Value) (n c : Nat) (hn : n ≤ c) (hc : c ≤ maxLen) (hs : c * size ≤ cur.size) :
  Own (w.alloc (.cells cur e)) w.heap.size e size (some ⟨w.heap.size, 0, none⟩) n c (cur.toList.take (n * size)) :=
 ⟨by simp only [List.length_take, Array.length_toList]; have := Nat.mul_le_mul_right size hn; omega, hn, hc, .inr ⟨_, 0, cur, rfl, Nat.le_refl _, heap_alloc_new w _, by omega, by simp⟩⟩
theorem Own.rd' {bs : List UInt8} {n : Nat} (h : Own w base e 1 A n c (bvs bs)) : RdB w A bs := by
 have h1 := h.rd
 have h2 : n = bs.length := by have := h.len; rw [bvs_len] at this; omega
 rw [h2] at h1; exact h1
end
section
variable {P : Program} (w : World)
theorem run_app (base : Nat) (t ty e : TypeId) (i : TypeInfo) (z : Value) (size bytes : Nat) (ht : P.underlying t = some (.slice e)) (hi : P.info? e = some i) (hz : i.zero = some z)
  (hsize : i.size = size) (hby : i.bytes = bytes) (hzs : z.cells.size = size) (hsz : 0 < size)
  (A : Option Addr) (n c : Nat) (xs : List Value) (hown : Own w base e size A n c xs)
  (A2 : Option Addr) (m c2 : Nat) (ys : List Value) (hr : Rd w size A2 m ys) (h1 : ∀ u ∈ ys, u.oneCell' = true)
  (h63 : n + m ≤ maxLen) (hbytes : (n + m) * bytes ≤ 140737488355328) (hbase : base ≤ w.heap.size) :
  ∃ A' c' w', (Builtin.append_ #[t, t] ty #[.slice A n c, .slice A2 m c2]).run P w = .ok (.slice A' (n + m) c') w' ∧ Own w' base e size A' (n + m) c' (xs ++ ys) ∧ w.grownBy w' (ownRow A c) ∧
   (ownRow A' c' = ownRow A c ∨ ownRow A' c' = some w.heap.size) := by
 subst hsize
 subst hby
 have hsmall : n + m ≤ 9223372036854775807 := by simp only [maxLen] at h63; omega
 have hlen : (xs ++ ys).length = (n + m) * i.size := by rw [List.length_append, hown.len, hr.1, Nat.add_mul]

 rcases Nat.eq_zero_or_pos m with hm0 | hmp
 ·
  subst hm0
  have hy : ys = [] := List.eq_nil_of_length_eq_zero (by simpa using hr.1)
  subst hy
  refine ⟨A, c, w, ?_, by simpa using hown, ⟨rfl, rfl, rfl, Nat.le_refl _, fun _ _ _ => rfl⟩, .inl rfl⟩
  have hnc := hown.nc
  rcases A with _ | a <;> rcases A2 with _ | a2 <;>
   simp [Builtin.append_, run_underlying ht, sizeOf, typeInfo, hi, Builtin.lenOf, Builtin.firstCells, hnc, storeCells, loadCells, loadCellsFrom]
 ·
  obtain ⟨ad, rfl, hcells⟩ := hr.2 (by rintro rfl; have h9 := hr.1; simp only [List.length_nil] at h9; have : 0 < m * i.size := Nat.mul_pos hmp hsz; omega)
  have grown : ∀ (old : Nat), old < n + m → ∀ (row : Option Nat),
    Own (w.drew.alloc (.cells (xs.toArray ++ ys.toArray ++ Builtin.zeroCells z.cells (grownCap w (n + m) old e - (n + m))) e)) base e i.size
     (some ⟨w.heap.size, 0, none⟩) (n + m) (grownCap w (n + m) old e) (xs ++ ys) ∧
    w.grownBy (w.drew.alloc (.cells (xs.toArray ++ ys.toArray ++ Builtin.zeroCells z.cells (grownCap w (n + m) old e - (n + m))) e)) row ∧
    (ownRow (some ⟨w.heap.size, 0, none⟩) (grownCap w (n + m) old e) = some w.heap.size) := by
   intro old ho row
   have hge := grownCap_ge w (n + m) old e
   have hcm : grownCap w (n + m) old e ≤ maxLen := grownCap_le_maxLen w (n + m) old e h63
   refine ⟨⟨hlen, hge, hcm, .inr ⟨w.heap.size, 0, _, rfl, hbase, heap_alloc_new w.drew _, ?_, ?_⟩⟩, ⟨rfl, rfl, rfl, by simp, fun k hk _ => Below.heap_alloc w.drew _ k hk⟩, ?_⟩
   ·
    simp only [Array.size_append, List.size_toArray, size_zeroCells, hzs, hown.len, hr.1, ← Nat.add_mul, Nat.zero_add]
    refine Nat.mul_le_mul_right _ (by omega)
   ·
    simp only [Array.toList_append, List.append_assoc, List.drop_zero]
    rw [← List.append_assoc, ← hlen]
    exact List.take_left
   ·
    unfold ownRow; rw [if_neg (by omega)]; rfl
  rcases hown.mem with hc0 | ⟨g, off, cur, rfl, hbg, hg, hoff, htake⟩
  ·
   subst hc0
   have hn0 : n = 0 := by have := hown.nc; omega
   subst hn0
   have hx : xs = [] := List.eq_nil_of_length_eq_zero (by simpa using hown.len)
   subst hx
   have hgr := grown 0 (by omega) (ownRow A 0)
   simp only [Nat.zero_add, List.nil_append, Array.empty_append] at hgr ⊢
   rcases A with _ | a
   ·
    have hrun := run_append_nil (P := P) w t ty e i z ht hi hz ad m c2 ys hr.1 hcells hmp (by omega) (by have hb := hbytes; simp only [Nat.zero_add] at hb; omega)
    exact ⟨_, _, _, hrun, hgr.1, hgr.2.1, .inr hgr.2.2⟩
   ·
    have hrun := run_append_grow (P := P) w t ty e i z ht hi hz a 0 0 [] (by simp) (by simp) ad m c2 ys hr.1 hcells (by omega) (by omega) (growslice_fits (by omega) hbytes)
    simp only [Nat.zero_add, Array.empty_append] at hrun
    exact ⟨_, _, _, hrun, hgr.1, hgr.2.1, .inr hgr.2.2⟩
  ·
   by_cases hroom : n + m ≤ c
   ·
    have hf := run_firstCells_some (P := P) w i.size m ad m c2 ys hr.1 hcells
    have hfit : off + n * i.size + 0 + ys.length ≤ cur.size := by
     have : (n + m) * i.size ≤ c * i.size := Nat.mul_le_mul_right _ hroom
     rw [Nat.add_mul] at this
     have := hr.1
     omega
    have hst := run_storeCells_at P g (off + n * i.size) e ys 0 cur w hg hfit h1
    simp only [Nat.add_zero] at hst
    refine ⟨some ⟨g, off, none⟩, c, w.setRow g (cur.toList.take (off + n * i.size) ++ (ys ++ cur.toList.drop (off + n * i.size + ys.length))).toArray, ?_, ⟨hlen, hroom, hown.cm, .inr ⟨g, off, _, rfl, hbg, setRow_heap w g cur _ e _ hg, ?_, ?_⟩⟩, ⟨rfl, rfl, rfl, by simp, fun k _ hk => setRow_other w g k _ (fun e => hk (by unfold ownRow; rw [if_neg (by omega)]; simp [e]))⟩, .inl rfl⟩
    ·
     simp [Builtin.append_, run_underlying ht, sizeOf, typeInfo, hi, Builtin.lenOf, hroom, hf, Addr.add_lit, hst]
    ·
     simp only [List.size_toArray, List.length_append, List.length_take, List.length_drop, Array.length_toList]
     omega
    ·
     have hlx : ((cur.toList.drop off).take (n * i.size)).length = n * i.size := by rw [htake]; exact hown.len
     have e1 : (cur.toList.take (off + n * i.size) ++ (ys ++ cur.toList.drop (off + n * i.size + ys.length))).drop off = xs ++ (ys ++ cur.toList.drop (off + n * i.size + ys.length)) := by
      rw [List.take_add, List.append_assoc, htake]
      exact List.drop_left' (by simp; omega)
     rw [e1, ← List.append_assoc, ← hlen]
     exact List.take_left
   ·
    have holds : ∀ j u, xs[j]? = some u → w.cell? ((⟨g, off, none⟩ : Addr).add j) = some u := by
     intro j u hj
     have h2 := hown.rd.2 (by intro e0; rw [e0] at hj; simp at hj)
     obtain ⟨ad', he, hc'⟩ := h2
     injection he with he
     subst he
     exact hc' j u hj
    have hrun := run_append_grow (P := P) w t ty e i z ht hi hz ⟨g, off, none⟩ n c xs hown.len holds ad m c2 ys hr.1 hcells (by omega) (by omega) (growslice_fits (by omega) hbytes)
    have hgr := grown c (by omega) (ownRow (some ⟨g, off, none⟩) c)
    exact ⟨_, _, _, hrun, hgr.1, hgr.2.1, .inr hgr.2.2⟩
end
theorem Rd.new (w : World) (e : TypeId) (l : List Value) : Rd (w.alloc (.cells l.toArray e)) 1 (some ⟨w.heap.size, 0, none⟩) l.length l :=
 ⟨by simp, fun _ => ⟨_, rfl, fun j u hj => by rw [Addr.add_lit, cell_of_row _ _ _ l.toArray e (0, 0) (heap_alloc_new w _)]; simpa using hj⟩⟩
theorem below_app {w0 w w' : World} {base size n c : Nat} {e : TypeId} {A : Option Addr} {xs : List Value} (hb : Below base w0 w) (ho : Own w base e size A n c xs) (hg : w.grownBy w' (ownRow A c)) (hB : base ≤ w.heap.size) : Below base w0 w' :=
 hb.grown hg hB (fun k hk => (ho.row_lt k hk).1)
theorem setRow_alloc (w : World) (old cs : Array Value) (t : TypeId) : (w.alloc (.cells old t)).setRow w.heap.size cs = w.alloc (.cells cs t) := by
 simp only [World.setRow, World.alloc]
 congr 1
 apply Array.ext_getElem?
 intro i
 rw [Array.getElem?_modify, Array.getElem?_push, Array.getElem?_push]
 by_cases hi : i = w.heap.size
 ·
  subst hi; simp
 ·
  simp [hi, Ne.symm hi]
structure ElemT (P : Program) (t e : TypeId) (size bytes : Nat) : Prop where
 ht : P.underlying t = some (.slice e)
 hi : ∃ (i : TypeInfo) (z : Value), P.info? e = some i ∧ i.zero = some z ∧ i.size = size ∧ i.bytes = bytes ∧ z.cells.size = size
 pos : 0 < size
theorem ElemT.mk' {P : Program} {t e : TypeId} {size bytes : Nat} {z : Value} (ht : P.underlying t = some (.slice e)) (h : (P.info? e).map (fun i => (i.zero, i.size, i.bytes)) = some (some z, size, bytes))
  (hz : z.cells.size = size) (pos : 0 < size) : ElemT P t e size bytes := by
 obtain ⟨i, hi, h1⟩ := Option.map_eq_some_iff.1 h
 simp only [Prod.mk.injEq] at h1
 exact ⟨ht, ⟨i, z, hi, h1.1, h1.2.1, h1.2.2, hz⟩, pos⟩
theorem ElemT.one {P : Program} {t e : TypeId} {bytes : Nat} (T : ElemT P t e 1 bytes) : (P.info? e).map (·.size) = some 1 := by
 obtain ⟨i, z, h1, _, h3, _⟩ := T.hi
 rw [h1]; simp [h3]
section
variable {P : Program} {w : World} {ops : Array Oper} {rest : List Oper} {o : Oper} {a : Act} {Q : Exit → Act → World → Prop}
theorem wp_app {K : Act → World → Prop} (s x : Operand) (t : TypeId) (ho : o.op = .call { callee := .builtin .append, args := #[s, x], argTypes := #[t, t] })
  {e : TypeId} {size bytes : Nat} (T : ElemT P t e size bytes) (base : Nat) (A : Option Addr) (n c : Nat) (xs : List Value) (hs : a.eval s = .slice A n c)
  (A2 : Option Addr) (m c2 : Nat) (ys : List Value) (hx : a.eval x = .slice A2 m c2) (k : Nat) (hk : k = n + m) (zs : List Value) (hz : zs = xs ++ ys)
  (hown : Own w base e size A n c xs) (hr : Rd w size A2 m ys) (h1 : ∀ u ∈ ys, u.oneCell' = true)
  (hbytes : k * bytes ≤ 140737488355328) (h63 : k ≤ 140737488355328) (hbase : base ≤ w.heap.size)
  (h : ∀ A' c' w', Own w' base e size A' k c' zs → w.grownBy w' (ownRow A c) → (ownRow A' c' = ownRow A c ∨ ownRow A' c' = some w.heap.size) → K (a.put o.dst (.slice A' k c')) w') : o.wp P a w K Q := by
 subst hk
 subst hz
 obtain ⟨i, z, g1, g2, g3, g4, g5⟩ := T.hi
 obtain ⟨A', c', w', hrun, h2, h3, h4⟩ := run_app (P := P) w base t o.type e i z size bytes T.ht g1 g2 g3 g4 g5 T.pos A n c xs hown A2 m c2 ys hr h1 (by unfold maxLen; omega) hbytes hbase
 unfold Oper.wp execOp
 simp only [ho, resolve, invoke, builtin, Sem.run_bind, Sem.run_pure, Result.andThen_ok, List.map_toArray, List.map_cons, List.map_nil, hs, hx, hrun]
 exact h A' c' w' h2 h3 h4
theorem wpList_want (hgd : Region.wanted o (yielded ops a.tmps) = true)
  (h : ∀ K : Act → World → Prop, (∀ a w, wpList P ops Q rest a w → K a w) → o.wp P a w K Q) : wpList P ops Q (o :: rest) a w :=
 wpList_step fun K hK => by rw [if_pos hgd]; exact h K hK
theorem wpList_app (hgd : Region.wanted o (yielded ops a.tmps) = true) (s x : Operand) (t : TypeId) (ho : o.op = .call { callee := .builtin .append, args := #[s, x], argTypes := #[t, t] })
  {e : TypeId} {size bytes : Nat} (T : ElemT P t e size bytes) (base : Nat) (A : Option Addr) (n c : Nat) (xs : List Value) (hs : a.eval s = .slice A n c)
  (A2 : Option Addr) (m c2 : Nat) (ys : List Value) (hx : a.eval x = .slice A2 m c2) (k : Nat) (hk : k = n + m) (zs : List Value) (hz : zs = xs ++ ys)
  (hown : Own w base e size A n c xs) (hr : Rd w size A2 m ys) (h1 : ∀ u ∈ ys, u.oneCell' = true)
  (hbytes : k * bytes ≤ 140737488355328) (h63 : k ≤ 140737488355328) (hbase : base ≤ w.heap.size)
  (h : ∀ A' c' w', Own w' base e size A' k c' zs → w.grownBy w' (ownRow A c) → (ownRow A' c' = ownRow A c ∨ ownRow A' c' = some w.heap.size) → wpList P ops Q rest (a.put o.dst (.slice A' k c')) w') : wpList P ops Q (o :: rest) a w :=
 wpList_want hgd fun _ hK => wp_app s x t ho T base A n c xs hs A2 m c2 ys hx k hk zs hz hown hr h1 hbytes h63 hbase fun A' c' w' h2 h3 h4 => hK _ _ (h A' c' w' h2 h3 h4)
end
theorem foldl_push (l : List UInt8) : ∀ s : ByteArray, (l.map fun b => (b.toNat : Int)).foldl (fun r n => r.push (UInt8.ofNat n.toNat)) s = ⟨s.data ++ l.toArray⟩ := by
 induction l with
 | nil => intro s; simp
 | cons x xs ih =>
  intro s
  simp only [List.map_cons, List.foldl_cons, Int.toNat_natCast, UInt8.ofNat_toNat]
  rw [ih]
  simp [ByteArray.push]
theorem run_str {P : Program} (w : World) (src dst e : TypeId) (A : Option Addr) (bs : List UInt8) (c : Nat) (hs : P.underlying src = some (.slice e)) (he : P.underlying e = some (.int .u8)) (hd : P.underlying dst = some .string)
  (h : RdB w A bs) (n : Nat) (hn : n = bs.length) : (convert src dst (.slice A n c)).run P w = .ok (.string ⟨bs.toArray⟩) w := by
 subst hn
 rw [run_convert_bytes_string w src dst e A _ c hs he hd]
 rcases A with _ | ad
 ·
  have h0 : bvs bs = [] := by
   rcases Nat.eq_zero_or_pos (bvs bs).length with h0 | h0
   ·
    exact List.eq_nil_of_length_eq_zero h0
   ·
    obtain ⟨ad, e0, _⟩ := h.2 (by intro e0; rw [e0] at h0; simp at h0)
    cases e0
  have h1 : bs = [] := by simpa [bvs] using h0
  subst h1
  simp [Conv.bytesToString]
  rfl
 ·
  have hb : bs.length = (bvs bs).length := (bvs_len bs).symm
  have hload : (loadCells ad bs.length).run P w = .ok ((bs.map fun b => (b.toNat : Int)).map (Value.int .u8)).toArray w := by
   have e1 : ((bs.map fun b => (b.toNat : Int)).map (Value.int .u8)) = bvs bs := by simp [bvs, bv]
   rw [e1, hb]
   refine run_loadCells_list w ad (bvs bs) fun j v hj => ?_
   obtain ⟨ad', e0, hc⟩ := h.2 (by intro e0; rw [e0] at hj; simp at hj)
   injection e0 with e0
   subst e0
   exact hc j v hj
  rw [run_bytesToString w ad bs.length c _ hload, foldl_push]
  simp
end Go.Proofs.YtjholekgdnhpkaaGreatDoor
namespace Go.Proofs.YtjholekgdnhpkaaGreatDoor
open Go.RowKit
section
variable {P : Program} {w : World} {ops : Array Oper} {rest : List Oper} {o : Oper} {a : Act} {Q : Exit → Act → World → Prop}
theorem made_one (z : Value) (n : Nat) (hz : z.cells = #[z]) : madeCells z.cells n = Array.replicate n z := by
 rw [hz]
 apply Array.ext'
 rw [toList_madeCells_one]
 simp
theorem wpList_mk (hgd : Region.wanted o (yielded ops a.tmps) = true) (l c : Operand) (t : TypeId) (ho : o.op = .makeSlice t l c) {e : TypeId} {bytes : Nat} (T : ElemT P t e 1 bytes) (z : Value) (hz : (P.info? e).bind (·.zero) = some z) (hz1 : z.cells = #[z])
  (n : Nat) (kl kc : IntKind) (hl : a.eval l = .int kl (n : Int)) (hc : a.eval c = .int kc (n : Int)) (hn : bytes * n ≤ 140737488355328) (h63 : n ≤ 140737488355328)
  (h : wpList P ops Q rest (a.put o.dst (.slice (some ⟨w.heap.size, 0, none⟩) n n)) (w.alloc (.cells (Array.replicate n z) e))) : wpList P ops Q (o :: rest) a w := by
 refine wpList_want hgd fun K hK => ?_
 obtain ⟨i, z', g1, g2, g3, g4, g5⟩ := T.hi
 obtain rfl : z' = z := by rw [g1] at hz; simpa [g2] using hz
 have hb : (i.bytes : Int) * (n : Int) ≤ 281474976710656 := by
  rw [g4]
  have : ((bytes * n : Nat) : Int) ≤ 140737488355328 := by omega
  rw [Int.natCast_mul] at this
  omega
 have hr := run_make (P := P) w t e i z' T.ht g1 g2 kl kc n n (by omega) (by omega) hb (by omega)
 rw [g3, Int.toNat_natCast, Nat.mul_one, made_one _ _ hz1] at hr
 unfold Oper.wp
 simp [execOp, ho, hl, hc, hr, Result.andThen]
 exact hK _ _ h
end
structure Sl where
 a : Option Addr
 bs : List UInt8
 c : Nat
def Sl.val (s : Sl) : Value := .slice s.a s.bs.length s.c
structure RdL (w : World) (A : Option Addr) (l : List Sl) : Prop where
 rd : Rd w 1 A l.length (l.map Sl.val)
 each : ∀ s ∈ l, RdB w s.a s.bs
theorem RdL.below {w w' : World} {A : Option Addr} {l : List Sl} (h : RdL w A l) (hb : Below w.heap.size w w') : RdL w' A l := ⟨h.rd.below hb, fun s hs => (h.each s hs).below hb⟩
theorem RdL.at_ {w : World} {A : Option Addr} {l : List Sl} (h : RdL w A l) {k : Nat} (hk : k < l.length) :
  ∃ ad, A = some ad ∧ w.cell? (ad.add k) = some (.slice l[k].a l[k].bs.length l[k].c) ∧ RdB w l[k].a l[k].bs := by
 obtain ⟨ad, u, e, hu, hc⟩ := h.rd.at_ hk
 rw [List.getElem?_map, List.getElem?_eq_getElem hk] at hu
 simp only [Option.map_some, Option.some.injEq] at hu
 exact ⟨ad, e, by rw [hc, ← hu]; rfl, h.each _ (List.getElem_mem hk)⟩
def cat (l : List Sl) : List UInt8 := l.flatMap Sl.bs
theorem cat_snoc (l : List Sl) (k : Nat) (h : k < l.length) : cat (l.take (k + 1)) = cat (l.take k) ++ l[k].bs := by
 unfold cat
 rw [List.take_succ_eq_append_getElem h, List.flatMap_append]
 simp only [List.flatMap_cons, List.flatMap_nil, List.append_nil]
theorem cat_take_le (l : List Sl) (k : Nat) : (cat (l.take k)).length ≤ (cat l).length := by
 conv => rhs; rw [← List.take_append_drop k l]
 unfold cat
 rw [List.flatMap_append, List.length_append]
 omega
theorem one_le_cat (l : List Sl) (k : Nat) (h : k < l.length) : (cat (l.take k)).length + l[k].bs.length ≤ (cat l).length := by
 have := cat_take_le l (k + 1)
 rw [cat_snoc l k h] at this
 simpa using this
theorem RdL.new (w : World) (e : TypeId) (l : List Sl) (h : ∀ s ∈ l, RdB w s.a s.bs) : RdL (w.alloc (.cells (l.map Sl.val).toArray e)) (some ⟨w.heap.size, 0, none⟩) l :=
 ⟨by have := Rd.new w e (l.map Sl.val); rwa [List.length_map] at this, fun s hs => (h s hs).below ((Below.refl _ _).alloc (Nat.le_refl _) _)⟩
theorem RdL.one (w : World) (e : TypeId) (A : Option Addr) (bs : List UInt8) (c : Nat) (h : RdB w A bs) : RdL (w.alloc (.cells #[.slice A bs.length c] e)) (some ⟨w.heap.size, 0, none⟩) [⟨A, bs, c⟩] :=
 RdL.new w e [⟨A, bs, c⟩] (by simpa using h)
theorem RdL.two (w : World) (e : TypeId) (A B : Option Addr) (bs cs : List UInt8) (c d : Nat) (h : RdB w A bs) (k : RdB w B cs) : RdL (w.alloc (.cells #[.slice A bs.length c, .slice B cs.length d] e)) (some ⟨w.heap.size, 0, none⟩) [⟨A, bs, c⟩, ⟨B, cs, d⟩] :=
 RdL.new w e [⟨A, bs, c⟩, ⟨B, cs, d⟩] (by simpa using ⟨h, k⟩)
theorem cat_one (A : Option Addr) (bs : List UInt8) (c : Nat) : cat [⟨A, bs, c⟩] = bs := by simp [cat]
theorem cat_two (A B : Option Addr) (bs cs : List UInt8) (c d : Nat) : cat [⟨A, bs, c⟩, ⟨B, cs, d⟩] = bs ++ cs := by simp [cat]
theorem RdB.lit (w : World) (e : TypeId) (bs : List UInt8) : RdB (w.alloc (.cells (bvs bs).toArray e)) (some ⟨w.heap.size, 0, none⟩) bs := by
 have := Rd.new w e (bvs bs)
 unfold RdB
 rwa [bvs_len] at this
end Go.Proofs.YtjholekgdnhpkaaGreatDoor
namespace Go.Proofs.YtjholekgdnhpkaaGreatDoor
open Go.RowKit
theorem wpList_load_rowG {P : Program} {ops : Array Oper} {rest : List Oper} {o : Oper} {a : Act} {w : World} {Q : Exit → Act → World → Prop} (hgd : Region.wanted o (yielded ops a.tmps) = true) (ty : TypeId) (x : Operand) (ho : o.op = .load ty x)
  (g : Nat) (hx : a.eval x = .pointer (some ⟨g, 0, none⟩)) (t : TypeId) (cs : Array Value) (fr : Nat × Nat) (d : TypeDesc) (hg : w.heap[g]? = some (.cells cs t fr))
  (hu : P.underlying ty = some d) (hd : (match d with | .struct _ | .array _ _ => true | _ => false) = true) (hi : (P.info? ty).map (·.size) = some cs.size)
  (h : wpList P ops Q rest (a.put o.dst (.agg cs)) w) : wpList P ops Q (o :: rest) a w :=
 wpList_want hgd fun _ hK => wp_load_row ty x ho g hx t cs fr d hg hu hd hi (hK _ _ h)
theorem ex_load_row {P : Program} {o : Oper} {a : Act} {w : World} (ty : TypeId) (x : Operand) (ho : o.op = .load ty x)
  (g : Nat) (hx : a.eval x = .pointer (some ⟨g, 0, none⟩)) (t : TypeId) (cs : Array Value) (fr : Nat × Nat) (d : TypeDesc) (hg : w.heap[g]? = some (.cells cs t fr))
  (hu : P.underlying ty = some d) (hd : (match d with | .struct _ | .array _ _ => true | _ => false) = true) (hi : (P.info? ty).map (·.size) = some cs.size) :
  (execOp a.eval o).run P w = .ok (.value (.agg cs)) w := by
 unfold execOp
 simp only [ho, hx, Instr.loadAt, Instr.sureAddr, Sem.run_bind, Sem.run_pure, Result.andThen_ok, run_loadVar_row w g t ty cs fr d hg hu hd hi]
end Go.Proofs.YtjholekgdnhpkaaGreatDoor
namespace Go.Proofs.YtjholekgdnhpkaaGreatDoor
open Go.RowKit
structure Ent where
 key : List UInt8
 val : List UInt8
structure EnV where
 ka : Option Addr
 kc : Nat
 va : Option Addr
 vc : Nat
 x : Ent
def EnV.cells (e : EnV) : Array Value := #[.slice e.ka e.x.key.length e.kc, .slice e.va e.x.val.length e.vc]
def EnV.val (e : EnV) : Value := .agg e.cells
structure EnV.In (w : World) (e : EnV) : Prop where
 kr : RdB w e.ka e.x.key
 vr : RdB w e.va e.x.val
 kcap : e.x.key.length ≤ e.kc
 vcap : e.x.val.length ≤ e.vc
theorem EnV.In.below {w w' : World} {e : EnV} (h : e.In w) (hb : Below w.heap.size w w') : e.In w' := ⟨h.kr.below hb, h.vr.below hb, h.kcap, h.vcap⟩
theorem eone (e : EnV) : e.cells.all (·.oneCell') = true := by simp [EnV.cells, Value.oneCell']
def ecs (l : List EnV) : List Value := l.flatMap fun e => e.cells.toList
theorem ecs_len (l : List EnV) : (ecs l).length = l.length * 2 := by
 induction l with
 | nil => rfl
 | cons e l ih =>
  show (e.cells.toList ++ ecs l).length = _
  rw [List.length_append, ih, List.length_cons]
  simp [EnV.cells]
  omega
theorem ecs_one_cell (l : List EnV) : ∀ u ∈ ecs l, u.oneCell' = true := by
 intro u hu
 simp only [ecs, List.mem_flatMap, EnV.cells, List.mem_cons, List.not_mem_nil, or_false] at hu
 obtain ⟨e, _, rfl | rfl⟩ := hu <;> rfl
theorem ecs_at (l : List EnV) (k : Nat) (h : k < l.length) (j : Nat) (hj : j < 2) : (ecs l)[k * 2 + j]? = (l[k].cells)[j]? := by
 induction l generalizing k with
 | nil => simp at h
 | cons e l ih =>
  show (e.cells.toList ++ ecs l)[k * 2 + j]? = _
  have he : e.cells.toList.length = 2 := by simp [EnV.cells]
  cases k with
  | zero =>
   rw [List.getElem?_append_left (by omega)]
   simp
  | succ k =>
   rw [List.getElem?_append_right (by omega), he, show (k + 1) * 2 + j - 2 = k * 2 + j by omega, ih k (by simpa using h)]
   simp
structure RdE (w : World) (A : Option Addr) (l : List EnV) : Prop where
 rd : Rd w 2 A l.length (ecs l)
 each : ∀ e ∈ l, e.In w
section
variable {w w' : World} {A : Option Addr} {l : List EnV}
theorem RdE.nil_ (w : World) (A : Option Addr) : RdE w A [] := ⟨Rd.nil_ _ _ _, by simp⟩
theorem RdE.below (h : RdE w A l) (hb : Below w.heap.size w w') : RdE w' A l := ⟨h.rd.below hb, fun e he => (h.each e he).below hb⟩
theorem RdE.at_ (h : RdE w A l) {k : Nat} (hk : k < l.length) : ∃ ad, A = some ad ∧ (∀ j u, (l[k].cells)[j]? = some u → w.cell? (ad.add (k * 2 + j)) = some u) ∧ l[k].In w := by
 obtain ⟨ad, e, hc⟩ := h.rd.2 (by intro e; have := ecs_len l; rw [e] at this; simp at this; omega)
 refine ⟨ad, e, fun j u hj => hc _ u ?_, h.each _ (List.getElem_mem hk)⟩
 have hj2 : j < 2 := by
  have := (Array.getElem?_eq_some_iff.1 hj).1
  simpa [EnV.cells] using this
 rw [ecs_at l k hk j hj2]; exact hj
end
theorem RdE.one (w : World) (t : TypeId) (e : EnV) (h : e.In w) : RdE (w.alloc (.cells e.cells t)) (some ⟨w.heap.size, 0, none⟩) [e] := by
 refine ⟨⟨by rw [ecs_len], fun _ => ⟨_, rfl, fun j u hj => ?_⟩⟩, fun e' he => ?_⟩
 ·
  rw [Addr.add_lit, cell_of_row _ _ _ e.cells t (0, 0) (heap_alloc_new w _)]
  simpa [ecs] using hj
 ·
  simp only [List.mem_cons, List.not_mem_nil, or_false] at he
  subst he
  exact h.below ((Below.refl _ _).alloc (Nat.le_refl _) _)
theorem run_loadVar_cells {P : Program} (w : World) (p : Addr) (ty : TypeId) (cs : Array Value) (d : TypeDesc) (hc : ∀ j u, cs[j]? = some u → w.cell? (p.add j) = some u)
  (hu : P.underlying ty = some d) (hd : (match d with | .struct _ | .array _ _ => true | _ => false) = true) (hi : (P.info? ty).map (·.size) = some cs.size) :
  (loadVar ty p).run P w = .ok (.agg cs) w := by
 have hl : (loadCells p cs.toList.length).run P w = .ok cs.toList.toArray w :=
  run_loadCells_list (P := P) w p cs.toList (fun j v hv => hc j v (by simpa using hv))
 cases hq : P.info? ty with
 | none => simp [hq] at hi
 | some i =>
  have hs : i.size = cs.size := by simpa [hq] using hi
  have hagg : (isAgg ty).run P w = .ok true w := by
   unfold isAgg
   rw [Sem.run_bind, run_underlying hu w]
   cases d <;> simp_all
  simp only [Array.length_toList, Array.toArray_toList] at hl
  simp [loadVar, Sem.run_bind, hagg, sizeOf, typeInfo, hq, hs, hl]
section
variable {P : Program} {w : World} {ops : Array Oper} {rest : List Oper} {o : Oper} {a : Act} {Q : Exit → Act → World → Prop}
theorem ex_load_cells (ty : TypeId) (x : Operand) (ho : o.op = .load ty x) (p : Addr) (hx : a.eval x = .pointer (some p)) (cs : Array Value) (d : TypeDesc) (hc : ∀ j u, cs[j]? = some u → w.cell? (p.add j) = some u)
  (hu : P.underlying ty = some d) (hd : (match d with | .struct _ | .array _ _ => true | _ => false) = true) (hi : (P.info? ty).map (·.size) = some cs.size) : (execOp a.eval o).run P w = .ok (.value (.agg cs)) w := by
 unfold execOp
 simp only [ho, hx, Instr.loadAt, Instr.sureAddr, Sem.run_bind, Sem.run_pure, Result.andThen_ok, run_loadVar_cells w p ty cs d hc hu hd hi]
theorem wpList_load_cells (hgd : Region.wanted o (yielded ops a.tmps) = true) (ty : TypeId) (x : Operand) (ho : o.op = .load ty x) (p : Addr) (hx : a.eval x = .pointer (some p)) (cs : Array Value) (d : TypeDesc) (hc : ∀ j u, cs[j]? = some u → w.cell? (p.add j) = some u)
  (hu : P.underlying ty = some d) (hd : (match d with | .struct _ | .array _ _ => true | _ => false) = true) (hi : (P.info? ty).map (·.size) = some cs.size)
  (h : wpList P ops Q rest (a.put o.dst (.agg cs)) w) : wpList P ops Q (o :: rest) a w :=
 wpList_want hgd fun K hK => by
  unfold Oper.wp
  rw [ex_load_cells (P := P) (w := w) ty x ho p hx cs d hc hu hd hi, Oper.upon_value]
  exact hK _ _ h
end
end Go.Proofs.YtjholekgdnhpkaaGreatDoor
namespace Go.Proofs.YtjholekgdnhpkaaGreatDoor
open Go.RowKit
def Ext (w w' : World) : Prop := Below w.heap.size w w'
theorem Ext.refl (w : World) : Ext w w := Below.refl _ _
theorem Ext.tr {a b c : World} (h : Ext a b) (k : Ext b c) : Ext a c := ext_trans h k
theorem Ext.alloc (w : World) (o : Obj) : Ext w (w.alloc o) := (Below.refl _ _).alloc (Nat.le_refl _) o
theorem Ext.load {w w' : World} {a : Addr} {v : Value} (h : Ext w w') (hc : w.cell? a = some v) : w'.cell? a = some v := by
 rw [h.cell (World.block_lt_of_cell? _ _ hc)]; exact hc
theorem Ext.drew (w : World) : Ext w w.drew := (Below.refl _ _).drew
def reach (md : Region.Mode) (ops : Array Oper) : Nat → Nat → Nat → Bool
 | 0, _, _ => false
 | f + 1, j, k => ((ops[j]?).map (fun o => (o.after.any fun e => Region.binds md e && e.on == k) || (o.after.any fun e => Region.binds md e && reach md ops f e.on k))).getD false
def waits (md : Region.Mode) (ops : Array Oper) (listed : Array Bool) (i : Nat) : Bool :=
 (List.range ops.size).all fun k => !listed.getD k false || reach md ops ops.size i k
def closedB (md : Region.Mode) (ops : Array Oper) (listed : Array Bool) : Bool :=
 (List.range ops.size).all fun k => !listed.getD k false || ((ops[k]?).map (fun o => o.after.all fun e => !Region.binds md e || listed.getD e.on false)).getD true
def Closed (md : Region.Mode) (ops : Array Oper) (listed : Array Bool) : Prop :=
 ∀ k ok, listed.getD k false = true → ops[k]? = some ok → ∀ e ∈ ok.after, Region.binds md e = true → listed.getD e.on false = true
section
variable {P : Program} {ops : Array Oper} {md : Region.Mode} {Q : Exit → Act → World → Prop}
theorem closed_of {listed : Array Bool} (h : closedB md ops listed = true) : Closed md ops listed := by
 intro k ok hk hok e he hb
 have h1 := (List.all_eq_true.1 h) k (List.mem_range.2 (Array.getElem?_eq_some_iff.1 hok).1)
 rw [hk, hok] at h1
 simp only [Bool.not_true, Bool.false_or, Option.map_some, Option.getD_some, Array.all_eq_true] at h1
 obtain ⟨n, hn, rfl⟩ := Array.getElem_of_mem he
 have h2 := h1 n hn
 rw [hb] at h2
 simpa using h2
theorem closed_set {listed : Array Bool} {j : Nat} (h : Closed md ops listed) (hj : j ∈ Region.ready md ops listed) : Closed md ops (listed.setIfInBounds j true) := by
 obtain ⟨_, oj, hoj, hall⟩ := mem_ready.1 hj
 intro k ok hk hok e he hb
 by_cases hjk : j = k
 ·
  subst hjk
  rw [hoj] at hok
  cases hok
  exact getD_set_true (hall e he hb)
 ·
  rw [getD_set_ne false hjk] at hk
  exact getD_set_true (h k ok hk hok e he hb)
theorem reach_listed {listed : Array Bool} (hcl : Closed md ops listed) : ∀ (f j : Nat) (oj : Oper) (k : Nat), ops[j]? = some oj → (∀ e ∈ oj.after, Region.binds md e = true → listed.getD e.on false = true) → reach md ops f j k = true → listed.getD k false = true := by
 intro f
 induction f with
 | zero => intro j oj k _ _ h; simp [reach] at h
 | succ f ih =>
  intro j oj k hoj hall h
  unfold reach at h
  rw [hoj] at h
  simp only [Option.map_some, Option.getD_some, Bool.or_eq_true, Array.any_eq_true, Bool.and_eq_true, beq_iff_eq] at h
  rcases h with ⟨n, hn, hb, he⟩ | ⟨n, hn, hb, hr⟩
  ·
   rw [← he]; exact hall _ (Array.getElem_mem hn) hb
  ·
   have h1 := hall _ (Array.getElem_mem hn) hb
   cases hoe : ops[(oj.after[n]).on]? with
   | none =>
    exfalso
    cases f with
    | zero => simp [reach] at hr
    | succ f => unfold reach at hr; rw [hoe] at hr; simp at hr
   | some oe => exact ih _ oe k hoe (hcl _ oe h1 hoe) hr
theorem waits_listed {listed : Array Bool} {j k : Nat} {oj : Oper} (hcl : Closed md ops listed) (hoj : ops[j]? = some oj) (hall : ∀ e ∈ oj.after, Region.binds md e = true → listed.getD e.on false = true)
  {listed' : Array Bool} (h : waits md ops listed' j = true) (hk : k < ops.size) (hl : listed'.getD k false = true) : listed.getD k false = true := by
 unfold waits at h
 have h1 := (List.all_eq_true.1 h) k (List.mem_range.2 hk)
 rw [hl] at h1
 exact reach_listed hcl _ j oj k hoj hall (by simpa using h1)
def wpAnyR (P : Program) (md : Region.Mode) (ops : Array Oper) (Q : Exit → Act → World → Prop) : Nat → Array Bool → Act → World → Prop
 | 0, listed, a, w => Region.ready md ops listed = [] ∧ Q .normal a w
 | fuel + 1, listed, a, w =>
  (Region.ready md ops listed = [] → Q .normal a w) ∧
  ∀ i ∈ Region.ready md ops listed, wpOp P ops Q i (fun a' w' => (Ext w w' ∨ waits md ops listed i = true) ∧ wpAnyR P md ops Q fuel (listed.setIfInBounds i true) a' w') a w
theorem wpAny_of_R : ∀ (fuel : Nat) (listed : Array Bool) (a : Act) (w : World), wpAnyR P md ops Q fuel listed a w → wpAny P md ops Q fuel listed a w
 | 0, _, _, _, h => h
 | fuel + 1, _, _, _, h => ⟨h.1, fun i hi => wpOp_mono (fun a' w' h' => wpAny_of_R fuel _ a' w' h'.2) (h.2 i hi)⟩
theorem yields_ext {o : Oper} {v : Value} {a : Act} {w w' : World} (h : YieldsIf P ops (Ext w) o v a) (hx : Ext w w') : YieldsIf P ops (Ext w') o v a :=
 h.imp (fun ⟨h1, h2⟩ => ⟨h1, fun w'' h3 => h2 w'' (hx.tr h3)⟩) id
theorem wpAnyR_first {i : Nat} {oi : Oper} {v : Value} (hi : ops[i]? = some oi) (hsel : ∀ (j : Nat) (o : Oper) cs b, ops[j]? = some o → o.op ≠ .select cs b)
  (hQ : ∀ c a w, Q (.panic c) (a.put oi.dst v) w → Q (.panic c) a w) :
  ∀ (fuel : Nat) (listed : Array Bool) (a : Act) (w : World), Closed md ops listed →
   (∀ j oj, ops[j]? = some oj → j ≠ i → listed.getD j true = false → (∀ e ∈ oj.after, Region.binds md e = true → e.on ≠ i) → oi.apart ops oj = true) →
   i ∈ Region.ready md ops listed → YieldsIf P ops (Ext w) oi v a →
   wpAnyR P md ops Q fuel (listed.setIfInBounds i true) (a.put oi.dst v) w → wpAnyR P md ops Q (fuel + 1) listed a w := by
 intro fuel
 induction fuel with
 | zero =>
  intro listed a w _ _ hr hy H
  refine ⟨fun h => (by rw [h] at hr; cases hr), fun j hj => ?_⟩
  by_cases hji : j = i
  ·
   subst hji; exact hy.wpOp hi (Ext.refl w) ⟨.inl (Ext.refl w), H⟩
  ·
   have := ready_mono hj hji
   rw [H.1] at this
   cases this
 | succ fuel ih =>
  intro listed a w hcl hfree hr hy H
  refine ⟨fun h => (by rw [h] at hr; cases hr), fun j hj => ?_⟩
  by_cases hji : j = i
  ·
   subst hji; exact hy.wpOp hi (Ext.refl w) ⟨.inl (Ext.refl w), H⟩
  ·
   have h1 := H.2 j (ready_mono hj hji)
   obtain ⟨hjun, oj, hoj, hall⟩ := mem_ready.1 hj
   have hiun := (mem_ready.1 hr).1
   have hilt : i < listed.size := by
    rcases Nat.lt_or_ge i listed.size with h' | h'
    ·
     exact h'
    ·
     simp [Array.getElem?_eq_none h'] at hiun
   have hnot : ∀ e ∈ oj.after, Region.binds md e = true → e.on ≠ i := fun e he hb heq => by
    have h1 := hall e he hb
    rw [heq] at h1
    simp [hilt] at hiun h1
    rw [hiun] at h1; cases h1
   have hnow : waits md ops (listed.setIfInBounds i true) j ≠ true := fun hw => by
    have h3 := waits_listed (k := i) hcl hoj hall hw (Array.getElem?_eq_some_iff.1 hi).1 (by simp [hilt])
    simp [hilt] at hiun h3
    rw [hiun] at h3; cases h3
   have h2 := wpOp_putIf hoj (hfree j oj hoj hji hjun hnot) (fun cs b => hsel i oi cs b hi) (fun cs b => hsel j oj cs b hoj) hQ hy h1
   have hfree' : ∀ k ok, ops[k]? = some ok → k ≠ i → (listed.setIfInBounds j true).getD k true = false →
     (∀ e ∈ ok.after, Region.binds md e = true → e.on ≠ i) → oi.apart ops ok = true := fun k ok hk hki hun hno => by
    refine hfree k ok hk hki ?_ hno
    by_cases hjk : j = k
    ·
     subst hjk; exact hjun
    ·
     rw [getD_set_ne true hjk] at hun; exact hun
   refine wpOp_mono (fun a' w' h3 => ?_) h2
   have hx : Ext w w' := h3.2.1.resolve_right hnow
   refine ⟨.inl hx, ih (listed.setIfInBounds j true) a' w' (closed_set hcl hj) hfree' (ready_mono hr (Ne.symm hji)) (yields_ext h3.1 hx) ?_⟩
   rw [Array.setIfInBounds_comm _ _ hji]
   exact h3.2.2
theorem rg_start {id : Nat} {a : Act} {w : World} (hm : P.follows .mixedOrders = true)
  (h : wpAnyR P .any ops Q ops.size (Array.replicate ops.size false) a w.drew) : (Code.region id ops true).wp P Q a w := wp_region_any hm (wpAny_of_R _ _ _ _ h)
theorem rg_take (i : Nat) {oi : Oper} {fuel : Nat} {listed : Array Bool} {a : Act} {w : World} (hi0 : ops.toList[i]? = some oi)
  (hs : Region.noSelect ops = true) (hf : (closedB md ops listed && Region.free md ops listed i) = true) (hr : (Region.ready md ops listed).contains i = true)
  (hQ : ∀ c a v w, Q (.panic c) (a.put oi.dst v) w → Q (.panic c) a w) (hw : Region.wanted oi (yielded ops a.tmps) = true)
  (h : ∃ v, (∀ w', Ext w w' → (execOp a.eval oi).run P w' = .ok (.value v) w') ∧ wpAnyR P md ops Q fuel (listed.setIfInBounds i true) (a.put oi.dst v) w) : wpAnyR P md ops Q (fuel + 1) listed a w := by
 have hi : ops[i]? = some oi := by rw [← hi0]; simp
 obtain ⟨v, hv, h⟩ := h
 exact wpAnyR_first hi (Region.noSelect_spec hs) (fun c a w => hQ c a v w) fuel listed a w (closed_of (Bool.and_eq_true _ _ ▸ hf).1) (Region.free_spec hi (Bool.and_eq_true _ _ ▸ hf).2) (by simpa using hr) (.inl ⟨hw, hv⟩) h
theorem rg_skip (i : Nat) {oi : Oper} {fuel : Nat} {listed : Array Bool} {a : Act} {w : World} (hi0 : ops.toList[i]? = some oi)
  (hs : Region.noSelect ops = true) (hf : (closedB md ops listed && Region.free md ops listed i) = true) (hr : (Region.ready md ops listed).contains i = true)
  (hQ : ∀ c a v w, Q (.panic c) (a.put oi.dst v) w → Q (.panic c) a w) (hw : Region.wanted oi (yielded ops a.tmps) = false)
  (h : wpAnyR P md ops Q fuel (listed.setIfInBounds i true) (a.put oi.dst undef) w) : wpAnyR P md ops Q (fuel + 1) listed a w := by
 have hi : ops[i]? = some oi := by rw [← hi0]; simp
 exact wpAnyR_first hi (Region.noSelect_spec hs) (fun c a w => hQ c a _ w) fuel listed a w (closed_of (Bool.and_eq_true _ _ ▸ hf).1) (Region.free_spec hi (Bool.and_eq_true _ _ ▸ hf).2) (by simpa using hr) (.inr ⟨hw, rfl⟩) h
theorem gS (i : Nat) {oi : Oper} {fuel : Nat} {listed : Array Bool} {a : Act} {w : World} (hi0 : ops.toList[i]? = some oi)
    (h : ∃ v, (∀ w', Ext w w' → (execOp a.eval oi).run P w' = .ok (.value v) w') ∧ wpAnyR P md ops Q fuel (listed.setIfInBounds i true) (a.put oi.dst v) w)
    (hs : Region.noSelect ops = true := by kernel_rfl) (hf : (closedB md ops listed && Region.free md ops listed i) = true := by kernel_rfl) (hr : (Region.ready md ops listed).contains i = true := by kernel_rfl)
    (hQ : ∀ c a v w, Q (.panic c) (a.put oi.dst v) w → Q (.panic c) a w := by exact fun _ _ _ _ h => h) (hw : Region.wanted oi (yielded ops a.tmps) = true := by rfl) : wpAnyR P md ops Q (fuel + 1) listed a w := rg_take i hi0 hs hf hr hQ hw h
theorem gD (i : Nat) {oi : Oper} {fuel : Nat} {listed : Array Bool} {a : Act} {w : World} {v : Value} (hi0 : ops.toList[i]? = some oi) (h : wpAnyR P md ops Q fuel (listed.setIfInBounds i true) (a.put oi.dst v) w)
    (hv : ∀ w', Ext w w' → (execOp a.eval oi).run P w' = .ok (.value v) w' := by intros; (go_simp <;> with_reducible rfl))
    (hs : Region.noSelect ops = true := by kernel_rfl) (hf : (closedB md ops listed && Region.free md ops listed i) = true := by kernel_rfl) (hr : (Region.ready md ops listed).contains i = true := by kernel_rfl)
    (hQ : ∀ c a v w, Q (.panic c) (a.put oi.dst v) w → Q (.panic c) a w := by exact fun _ _ _ _ h => h) (hw : Region.wanted oi (yielded ops a.tmps) = true := by rfl) : wpAnyR P md ops Q (fuel + 1) listed a w := rg_take i hi0 hs hf hr hQ hw ⟨v, hv, h⟩
theorem gK (i : Nat) {oi : Oper} {fuel : Nat} {listed : Array Bool} {a : Act} {w : World} (hi0 : ops.toList[i]? = some oi) (h : wpAnyR P md ops Q fuel (listed.setIfInBounds i true) (a.put oi.dst undef) w)
    (hs : Region.noSelect ops = true := by kernel_rfl) (hf : (closedB md ops listed && Region.free md ops listed i) = true := by kernel_rfl) (hr : (Region.ready md ops listed).contains i = true := by kernel_rfl)
    (hQ : ∀ c a v w, Q (.panic c) (a.put oi.dst v) w → Q (.panic c) a w := by exact fun _ _ _ _ h => h) (hw : Region.wanted oi (yielded ops a.tmps) = false := by rfl) : wpAnyR P md ops Q (fuel + 1) listed a w := rg_skip i hi0 hs hf hr hQ hw h
theorem rg_one (i : Nat) {oi : Oper} {fuel : Nat} {listed : Array Bool} {a : Act} {w : World} (hi0 : ops.toList[i]? = some oi)
  (hr : Region.ready md ops listed = [i]) (hw : Region.wanted oi (yielded ops a.tmps) = true)
  (h : oi.wp P a w (fun a' w' => (Ext w w' ∨ waits md ops listed i = true) ∧ wpAnyR P md ops Q fuel (listed.setIfInBounds i true) a' w') Q) : wpAnyR P md ops Q (fuel + 1) listed a w := by
 have hi : ops[i]? = some oi := by rw [← hi0]; simp
 refine ⟨fun h0 => absurd (hr ▸ h0) (by simp), fun j hj => ?_⟩
 rw [hr] at hj
 obtain rfl : j = i := by simpa using hj
 unfold wpOp
 rw [hi]
 show if _ then _ else _
 rw [if_pos hw]
 exact .inl h
theorem rg_call (i : Nat) {oi : Oper} {fuel : Nat} {listed : Array Bool} {a : Act} {w : World} {f : FuncId} {args : Array Value} {R : Ending → World → Prop} (hc : Calls P f args w R) (hi0 : ops.toList[i]? = some oi)
  (hr : Region.ready md ops listed = [i]) (hw : Region.wanted oi (yielded ops a.tmps) = true)
  (hx : (execOp a.eval oi).run P w = .ok (.enter f args) w)
  (h : ∀ e w', R e w' → ∃ v, e = .returned v ∧ Ext w w' ∧ wpAnyR P md ops Q fuel (listed.setIfInBounds i true) (a.put oi.dst v) w') : wpAnyR P md ops Q (fuel + 1) listed a w := by
 refine rg_one i hi0 hr hw ?_
 unfold Oper.wp
 rw [hx, Oper.upon_enter]
 refine hc.mono fun e w' hR => ?_
 obtain ⟨v, rfl, h1, h2⟩ := h e w' hR
 exact ⟨.inl h1, h2⟩
theorem rg_make (i : Nat) {oi : Oper} {fuel : Nat} {listed : Array Bool} {a : Act} {w : World} (hi0 : ops.toList[i]? = some oi)
  (hr : Region.ready md ops listed = [i]) (hw : Region.wanted oi (yielded ops a.tmps) = true)
  (h : ∃ v w', (execOp a.eval oi).run P w = .ok (.value v) w' ∧ Ext w w' ∧ wpAnyR P md ops Q fuel (listed.setIfInBounds i true) (a.put oi.dst v) w') : wpAnyR P md ops Q (fuel + 1) listed a w := by
 obtain ⟨v, w', hx, h1, h2⟩ := h
 refine rg_one i hi0 hr hw ?_
 unfold Oper.wp
 rw [hx, Oper.upon_value]
 exact ⟨.inl h1, h2⟩
theorem rg_last (i : Nat) {oi : Oper} {fuel : Nat} {listed : Array Bool} {a : Act} {w : World} (hi0 : ops.toList[i]? = some oi)
  (hr : Region.ready md ops listed = [i]) (hwt : waits md ops listed i = true) (hw : Region.wanted oi (yielded ops a.tmps) = true)
  (h : ∀ K : Act → World → Prop, (∀ a' w', wpAnyR P md ops Q fuel (listed.setIfInBounds i true) a' w' → K a' w') → oi.wp P a w K Q) : wpAnyR P md ops Q (fuel + 1) listed a w :=
 rg_one i hi0 hr hw (h _ fun _ _ h1 => ⟨.inr hwt, h1⟩)
theorem rg_store (i : Nat) {oi : Oper} {fuel : Nat} {listed : Array Bool} {a : Act} {w : World} (hi0 : ops.toList[i]? = some oi)
  (hr : Region.ready md ops listed = [i]) (hwt : waits md ops listed i = true) (hw : Region.wanted oi (yielded ops a.tmps) = true)
  (h : ∃ w', (execOp a.eval oi).run P w = .ok .skip w' ∧ wpAnyR P md ops Q fuel (listed.setIfInBounds i true) (a.put oi.dst undef) w') : wpAnyR P md ops Q (fuel + 1) listed a w := by
 obtain ⟨w', hx, h2⟩ := h
 refine rg_one i hi0 hr hw ?_
 unfold Oper.wp
 rw [hx, Oper.upon_skip]
 exact ⟨.inr hwt, h2⟩
theorem rg_done {fuel : Nat} {listed : Array Bool} {a : Act} {w : World} (hr : Region.ready md ops listed = []) (h : Q .normal a w) : wpAnyR P md ops Q fuel listed a w := by
 cases fuel with
 | zero => exact ⟨hr, h⟩
 | succ n => exact ⟨fun _ => h, by rw [hr]; simp⟩
theorem ex_convert {o : Oper} {a : Act} {w : World} {s d : TypeId} {x : Operand} {v v' : Value} (ho : o.op = .convert s d x) (hx : a.eval x = v) (hr : (convert s d v).run P w = .ok v' w) : (execOp a.eval o).run P w = .ok (.value v') w := by
 unfold execOp
 simp only [ho, hx, Sem.run_bind, hr, Result.andThen_ok, Sem.run_pure]
end
end Go.Proofs.YtjholekgdnhpkaaGreatDoor
namespace Go.Proofs.YtjholekgdnhpkaaGreatDoor
open Go.RowKit
end Go.Proofs.YtjholekgdnhpkaaGreatDoor
namespace Go.Proofs.YtjholekgdnhpkaaGreatDoor
open Go.RowKit
section
variable {P : Program} {ops : Array Oper} {md : Region.Mode} {Q : Exit → Act → World → Prop}
def Yld (P : Program) (o : Oper) (a : Act) (w : World) (Φ : Value → World → Prop) : Prop :=
 (∃ v w', (execOp a.eval o).run P w = .ok (.value v) w' ∧ Ext w w' ∧ Φ v w') ∨
 (∃ f args, (execOp a.eval o).run P w = .ok (.enter f args) w ∧ Calls P f args w fun e w' => ∃ v, e = .returned v ∧ Ext w w' ∧ Φ v w')
theorem yld_make {o : Oper} {a : Act} {w : World} {Φ : Value → World → Prop} (h : ∃ v w', (execOp a.eval o).run P w = .ok (.value v) w' ∧ Ext w w' ∧ Φ v w') : Yld P o a w Φ := .inl h
theorem yld_quiet {o : Oper} {a : Act} {w : World} {Φ : Value → World → Prop} (h : ∃ v, (execOp a.eval o).run P w = .ok (.value v) w ∧ Φ v w) : Yld P o a w Φ :=
 let ⟨v, h1, h2⟩ := h; .inl ⟨v, w, h1, Ext.refl w, h2⟩
theorem yld_call {o : Oper} {a : Act} {w : World} {Φ : Value → World → Prop} {f : FuncId} {args : Array Value} {R : Ending → World → Prop} (hx : (execOp a.eval o).run P w = .ok (.enter f args) w) (hc : Calls P f args w R)
  (h : ∀ e w', R e w' → ∃ v, e = .returned v ∧ Ext w w' ∧ Φ v w') : Yld P o a w Φ := .inr ⟨f, args, hx, hc.mono h⟩
theorem Yld.wpOp {i : Nat} {oi : Oper} {a : Act} {w : World} {Φ : Value → World → Prop} {K : Act → World → Prop} (hi : ops[i]? = some oi) (hw : Region.wanted oi (yielded ops a.tmps) = true) (h : Yld P oi a w Φ)
  (hK : ∀ v w', Ext w w' → Φ v w' → K (a.put oi.dst v) w') : wpOp P ops Q i K a w := by
 unfold Go.wpOp
 rw [hi]
 show if _ then _ else _
 rw [if_pos hw]
 refine .inl ?_
 unfold Oper.wp
 rcases h with ⟨v, w', hx, h1, h2⟩ | ⟨f, args, hx, hc⟩
 ·
  rw [hx, Oper.upon_value]; exact hK v w' h1 h2
 ·
  rw [hx, Oper.upon_enter]
  refine hc.mono fun e w' ⟨v, he, h1, h2⟩ => ?_
  subst he
  exact hK v w' h1 h2
def fillS (S : List (Nat × Tmp)) (f : Nat → Value) (a : Act) : Act := S.foldl (fun a p => a.put (some p.2) (f p.1)) a
def updV (f : Nat → Value) (i : Nat) (v : Value) : Nat → Value := fun k => if k = i then v else f k
theorem put_put (a : Act) (d : Tmp) (u v : Value) : (a.put (some d) u).put (some d) v = a.put (some d) v := by
 simp only [Act.put]
 congr 1
 apply Array.ext_getElem?
 intro k
 simp only [Array.getElem?_setIfInBounds, Array.size_setIfInBounds]
 split <;> rfl
theorem fill_put_out (S : List (Nat × Tmp)) (f : Nat → Value) : ∀ (a : Act) (d : Tmp) (v : Value), (∀ p ∈ S, p.2 ≠ d) → (fillS S f a).put (some d) v = fillS S f (a.put (some d) v) := by
 induction S with
 | nil => intro a d v _; rfl
 | cons p S ih =>
  intro a d v h
  show (fillS S f (a.put (some p.2) (f p.1))).put (some d) v = fillS S f ((a.put (some d) v).put (some p.2) (f p.1))
  rw [ih _ d v (fun q hq => h q (List.mem_cons_of_mem _ hq)), Act.put_comm a (f p.1) v (by simpa using (h p (List.mem_cons_self ..)).symm)]
theorem fill_congr (S : List (Nat × Tmp)) (f g : Nat → Value) : ∀ (a : Act), (∀ p ∈ S, f p.1 = g p.1) → fillS S f a = fillS S g a := by
 induction S with
 | nil => intro a _; rfl
 | cons p S ih =>
  intro a h
  show fillS S f (a.put (some p.2) (f p.1)) = fillS S g (a.put (some p.2) (g p.1))
  rw [h p (List.mem_cons_self ..), ih _ (fun q hq => h q (List.mem_cons_of_mem _ hq))]
theorem fill_put (S : List (Nat × Tmp)) (f : Nat → Value) : ∀ (a : Act) (p : Nat × Tmp) (v : Value), p ∈ S → (S.map (·.1)).Nodup → (S.map (·.2)).Nodup → (fillS S f a).put (some p.2) v = fillS S (updV f p.1 v) a := by
 induction S with
 | nil => intro a p v h; cases h
 | cons q S ih =>
  intro a p v h n1 n2
  simp only [List.map_cons, List.nodup_cons, List.mem_map, not_exists, not_and] at n1 n2
  show (fillS S f (a.put (some q.2) (f q.1))).put (some p.2) v = fillS S (updV f p.1 v) (a.put (some q.2) (updV f p.1 v q.1))
  rcases List.mem_cons.1 h with rfl | h
  ·
   rw [fill_put_out S f _ p.2 v (fun q hq => n2.1 q hq), put_put, fill_congr S (updV f p.1 v) f _ (fun q hq => by unfold updV; rw [if_neg (n1.1 q hq)])]
   unfold updV; rw [if_pos rfl]
  ·
   rw [ih _ p v h n1.2 n2.2]
   have : q.1 ≠ p.1 := fun e => n1.1 p h e.symm
   unfold updV; rw [if_neg this]
theorem put_old (a : Act) (d : Tmp) : a.put (some d) (a.tmps.getD d undef) = a := by
 cases a with
 | mk t ds =>
  simp only [Act.put, Act.mk.injEq, and_true]
  apply Array.ext_getElem?
  intro k
  simp only [Array.getElem?_setIfInBounds]
  split
  ·
   rename_i h
   subst h
   split
   ·
    rename_i h2
    simp [h2]
   ·
    rename_i h2
    rw [Array.getElem?_eq_none (by omega)]
  ·
   rfl
theorem fill_old (S : List (Nat × Tmp)) : ∀ (a : Act), (S.map (·.1)).Nodup → ∃ f, fillS S f a = a ∧ ∀ p ∈ S, f p.1 = a.tmps.getD p.2 undef := by
 induction S with
 | nil => intro a _; exact ⟨fun _ => undef, rfl, fun p hp => absurd hp (by simp)⟩
 | cons p S ih =>
  intro a n
  simp only [List.map_cons, List.nodup_cons, List.mem_map, not_exists, not_and] at n
  obtain ⟨f, hf, hv⟩ := ih a n.2
  refine ⟨updV f p.1 (a.tmps.getD p.2 undef), ?_, ?_⟩
  ·
   show fillS S _ (a.put (some p.2) (updV f p.1 _ p.1)) = a
   rw [show updV f p.1 (a.tmps.getD p.2 undef) p.1 = a.tmps.getD p.2 undef by unfold updV; rw [if_pos rfl], put_old, fill_congr S _ f a (fun q hq => by unfold updV; rw [if_neg (n.1 q hq)]), hf]
  ·
   intro q hq
   rcases List.mem_cons.1 hq with rfl | hq
   ·
    unfold updV; rw [if_pos rfl]
   ·
    unfold updV; rw [if_neg (n.1 q hq)]; exact hv q hq
def parB (md : Region.Mode) (ops : Array Oper) (listed : Array Bool) (S : List (Nat × Tmp)) : Bool :=
 closedB md ops listed && decide ((S.map (·.1)).Nodup) && decide ((S.map (·.2)).Nodup) && decide (listed.size = ops.size) &&
 (S.all fun p => decide (p.1 < ops.size) && !listed.getD p.1 true && ((ops[p.1]?).map (fun o => o.dst == some p.2)).getD false) &&
 ((List.range S.length).all fun k => ((S[k]?).map fun p => ((ops[p.1]?).map (fun o => o.after.all fun e => !Region.binds md e || listed.getD e.on false || ((S.take k).map (·.1)).contains e.on)).getD false).getD false) &&
 ((List.range ops.size).all fun k => listed.getD k false || (S.map (·.1)).contains k || S.all fun p => reach md ops ops.size k p.1)
theorem getD_set_eq {listed : Array Bool} {i j : Nat} (d : Bool) (h : i < listed.size) : (listed.setIfInBounds i true).getD j d = if i = j then true else listed.getD j d := by
 by_cases hij : i = j
 ·
  subst hij; simp [h]
 ·
  rw [if_neg hij, getD_set_ne d hij]
def left (S : List (Nat × Tmp)) (L : Array Bool) : Nat := (S.filter fun p => !L.getD p.1 false).length
theorem left_set (S : List (Nat × Tmp)) (L : Array Bool) (p : Nat × Tmp) (hp : p ∈ S) (n : (S.map (·.1)).Nodup) (hl : L.getD p.1 false = false) (hs : p.1 < L.size) : left S (L.setIfInBounds p.1 true) + 1 = left S L := by
 unfold left
 induction S with
 | nil => cases hp
 | cons q S ih =>
  simp only [List.map_cons, List.nodup_cons, List.mem_map, not_exists, not_and] at n
  simp only [List.filter_cons]
  rcases List.mem_cons.1 hp with rfl | hp
  ·
   have e : S.filter (fun p_1 => !(L.setIfInBounds p.1 true).getD p_1.1 false) = S.filter fun p => !L.getD p.1 false :=
    List.filter_congr fun q hq => by rw [getD_set_ne false (fun e => n.1 q hq e.symm)]
   rw [e, getD_set_eq false hs, if_pos rfl, hl]
   simp
  ·
   have hne : q.1 ≠ p.1 := fun e => n.1 p hp e.symm
   rw [getD_set_ne false (Ne.symm hne)]
   have := ih hp n.2
   split <;> (try simp only [List.length_cons]) <;> omega
theorem rg_par_aux {fuel : Nat} {listed : Array Bool} {a : Act} {w : World} (S : List (Nat × Tmp)) (Φ : Nat → Value → World → Prop)
  (hb : parB md ops listed S = true) (st : ∀ i v w w', Φ i v w → Ext w w' → Φ i v w')
  (hop : ∀ p ∈ S, ∀ oi, ops[p.1]? = some oi → ∀ f W, Ext w W → (∀ q ∈ S, reach md ops ops.size p.1 q.1 = true → Φ q.1 (f q.1) W) → Region.wanted oi (yielded ops (fillS S f a).tmps) = true ∧ Yld P oi (fillS S f a) W (Φ p.1))
  (rest : ∀ f W, Ext w W → (∀ p ∈ S, Φ p.1 (f p.1) W) → wpAnyR P md ops Q fuel (S.foldl (fun l p => l.setIfInBounds p.1 true) listed) (fillS S f a) W) :
  ∀ (m : Nat) (L : Array Bool) (f : Nat → Value) (W : World), left S L = m → Closed md ops L → L.size = listed.size → (∀ k, (S.map (·.1)).contains k = false → L.getD k false = listed.getD k false) →
   Ext w W → (∀ p ∈ S, L.getD p.1 false = true → Φ p.1 (f p.1) W) → wpAnyR P md ops Q (fuel + m) L (fillS S f a) W := by
 unfold parB at hb
 simp only [Bool.and_eq_true, decide_eq_true_eq, List.all_eq_true, List.mem_range] at hb
 obtain ⟨⟨⟨⟨⟨⟨hcl, n1⟩, n2⟩, hsz⟩, hS⟩, hord⟩, hwait⟩ := hb
 intro m
 induction m with
 | zero =>
  intro L f W hl _ hsL hout hx hφ
  have hall : ∀ p ∈ S, L.getD p.1 false = true := by
   intro p hp
   unfold left at hl
   have := List.eq_nil_of_length_eq_zero hl
   rw [List.filter_eq_nil_iff] at this
   have := this p hp
   simpa using this
  have hL : L = S.foldl (fun l p => l.setIfInBounds p.1 true) listed := by
   have key : ∀ (T : List (Nat × Tmp)) (l : Array Bool), (T.foldl (fun l p => l.setIfInBounds p.1 true) l).size = l.size ∧ ∀ k, k < l.size → (T.foldl (fun l p => l.setIfInBounds p.1 true) l).getD k false = (l.getD k false || (T.map (·.1)).contains k) := by
    intro T
    induction T with
    | nil => intro l; exact ⟨rfl, fun k _ => by simp⟩
    | cons p T ih =>
     intro l
     obtain ⟨h1, h2⟩ := ih (l.setIfInBounds p.1 true)
     refine ⟨by rw [List.foldl_cons, h1, Array.size_setIfInBounds], fun k hk => ?_⟩
     rw [List.foldl_cons, h2 k (by rw [Array.size_setIfInBounds]; exact hk), List.map_cons, List.contains_cons]
     by_cases e : p.1 = k
     ·
      subst e
      rw [getD_set_eq false hk]; simp
     ·
      rw [getD_set_ne false e]
      have : (k == p.1) = false := by simp; omega
      rw [this]; simp
   obtain ⟨k1, k2⟩ := key S listed
   apply Array.ext
   ·
    rw [hsL, k1]
   ·
    intro k hk1 hk2
    have hk : k < listed.size := by omega
    have e1 : L[k] = L.getD k false := by simp [hk1]
    have e2 : (S.foldl (fun l p => l.setIfInBounds p.1 true) listed)[k] = (S.foldl (fun l p => l.setIfInBounds p.1 true) listed).getD k false := by simp [hk2]
    rw [e1, e2, k2 k hk]
    cases hc : (S.map (·.1)).contains k with
    | false => rw [hout k hc]; simp
    | true =>
     simp only [List.contains_iff_mem, List.mem_map] at hc
     obtain ⟨p, hp, rfl⟩ := hc
     rw [hall p hp]; simp
  rw [Nat.add_zero, hL]
  exact rest f W hx fun p hp => hφ p hp (hall p hp)
 | succ m ih =>
  intro L f W hl hclL hsL hout hx hφ

  have hex : ∃ k, k < S.length ∧ (∃ p, S[k]? = some p ∧ L.getD p.1 false = false) ∧ ∀ j, j < k → ∀ p, S[j]? = some p → L.getD p.1 false = true := by
   have : ∃ k, k < S.length ∧ ∃ p, S[k]? = some p ∧ L.getD p.1 false = false := by
    refine Classical.byContradiction fun h => ?_
    have : S.filter (fun p => !L.getD p.1 false) = [] := by
     rw [List.filter_eq_nil_iff]
     intro p hp
     obtain ⟨k, hk, rfl⟩ := List.getElem_of_mem hp
     intro h2
     exact h ⟨k, hk, _, List.getElem?_eq_getElem hk, by simpa using h2⟩
    unfold left at hl
    rw [this] at hl
    simp at hl
   obtain ⟨k, hk⟩ := this
   induction k using Nat.strongRecOn with
   | ind k ihk =>
    by_cases h : ∃ j, j < k ∧ ∃ p, S[j]? = some p ∧ L.getD p.1 false = false
    ·
     obtain ⟨j, hj, p, hp, hpl⟩ := h
     exact ihk j hj ⟨by omega, p, hp, hpl⟩
    ·
     refine ⟨k, hk.1, hk.2, fun j hj p hp => ?_⟩
     cases hv : L.getD p.1 false with
     | true => rfl
     | false => exact absurd ⟨j, hj, p, hp, hv⟩ h
  have hlS : ∀ k, L.getD k true = false ↔ k < L.size ∧ L.getD k false = false := by
   intro k
   rcases Nat.lt_or_ge k L.size with h | h
   ·
    simp [h]
   ·
    simp [h]
  refine ⟨fun h0 => ?_, fun i hi => ?_⟩
  ·
   exfalso
   obtain ⟨k, hk, ⟨p, hp, hpl⟩, hbef⟩ := hex
   have hpS : p ∈ S := List.mem_of_getElem? hp
   have h1 := hord k hk
   rw [hp] at h1
   simp only [Option.map_some, Option.getD_some] at h1
   have h2 := hS p hpS
   have : p.1 ∈ Region.ready md ops L := by
    rw [mem_ready]
    refine ⟨(hlS _).2 ⟨by omega, hpl⟩, ops[p.1]'(h2.1.1), by simp, fun e he hb => ?_⟩
    rw [Array.getElem?_eq_getElem h2.1.1] at h1
    simp only [Option.map_some, Option.getD_some, Array.all_eq_true] at h1
    obtain ⟨n, hn, rfl⟩ := Array.getElem_of_mem he
    have h3 := h1 n hn
    rw [hb] at h3
    simp only [Bool.not_true, Bool.false_or, Bool.or_eq_true, List.contains_iff_mem, List.mem_map] at h3
    by_cases hc : (S.map (·.1)).contains ((ops[p.1]'(h2.1.1)).after[n]).on = true
    ·
     simp only [List.contains_iff_mem, List.mem_map] at hc
     obtain ⟨q, hq, hqe⟩ := hc
     rcases h3 with h3 | ⟨q', hq', hqe'⟩
     ·
      have h4 := hS q hq
      have h5 : listed.getD q.1 true = false := by simpa using h4.1.2
      rw [hqe] at h5
      rcases Nat.lt_or_ge ((ops[p.1]'(h2.1.1)).after[n]).on listed.size with h6 | h6
      ·
       simp [h6] at h5 h3; rw [h3] at h5; cases h5
      ·
       simp [h6] at h5
     ·
      obtain ⟨j, hj, rfl⟩ := List.getElem_of_mem hq'
      rw [← hqe']
      have hj2 : j < k ∧ j < S.length := by rw [List.length_take] at hj; omega
      refine hbef j hj2.1 _ ?_
      rw [List.getElem_take, List.getElem?_eq_getElem hj2.2]
    ·
     have hc' : (S.map (·.1)).contains ((ops[p.1]'(h2.1.1)).after[n]).on = false := by simpa using hc
     rw [hout _ hc']
     rcases h3 with h3 | ⟨q', hq', hqe'⟩
     ·
      exact h3
     ·
      exfalso; apply hc
      simp only [List.contains_iff_mem, List.mem_map]
      exact ⟨q', List.mem_of_mem_take hq', hqe'⟩
   rw [h0] at this
   cases this
  ·
   obtain ⟨hiu, oi, hoi, hall⟩ := mem_ready.1 hi
   obtain ⟨hisz, hiu'⟩ := (hlS i).1 hiu
   have hiS : (S.map (·.1)).contains i = true := by
    cases hc : (S.map (·.1)).contains i with
    | true => rfl
    | false =>
     exfalso
     have h1 := hwait i (by omega)
     rw [hc, ← hout i hc, hiu'] at h1
     simp only [Bool.false_or, List.all_eq_true] at h1
     obtain ⟨k, hk, ⟨p, hp, hpl⟩, _⟩ := hex
     have h2 := reach_listed hclL _ i oi p.1 hoi hall (h1 p (List.mem_of_getElem? hp))
     rw [hpl] at h2; cases h2
   simp only [List.contains_iff_mem, List.mem_map] at hiS
   obtain ⟨p, hp, rfl⟩ := hiS
   have hdst : oi.dst = some p.2 := by
    have h2 := hS p hp
    rw [hoi] at h2
    simp only [Option.map_some, Option.getD_some, beq_iff_eq] at h2
    exact h2.2
   obtain ⟨hwnt, hy⟩ := hop p hp oi hoi f W hx fun q hq hr => hφ q hq (reach_listed hclL _ p.1 oi q.1 hoi hall hr)
   refine hy.wpOp hoi hwnt fun v W' hxW hv => ⟨.inl hxW, ?_⟩
   rw [hdst, fill_put S f a p v hp n1 n2]
   refine ih _ _ W' ?_ (closed_set hclL hi) (by rw [Array.size_setIfInBounds]; exact hsL) ?_ (Ext.tr hx hxW) ?_
   ·
    have := left_set S L p hp n1 hiu' hisz
    omega
   ·
    intro k hk
    have hne : p.1 ≠ k := fun e => by
     rw [← e] at hk
     have : (S.map (·.1)).contains p.1 = true := by simp only [List.contains_iff_mem, List.mem_map]; exact ⟨p, hp, rfl⟩
     rw [this] at hk; cases hk
    rw [getD_set_ne false hne]; exact hout k hk
   ·
    intro q hq hql
    by_cases hqp : q.1 = p.1
    ·
     rw [hqp]
     unfold updV
     rw [if_pos rfl]
     exact hv
    ·
     unfold updV
     rw [if_neg hqp]
     rw [getD_set_ne false (Ne.symm hqp)] at hql
     exact st _ _ _ _ (hφ q hq hql) hxW
theorem rg_par {fuel : Nat} {listed : Array Bool} {a : Act} {w : World} (S : List (Nat × Tmp)) (Φ : Nat → Value → World → Prop) (m : Nat)
  (hb : (parB md ops listed S && decide (left S listed = m)) = true) (st : ∀ i v w w', Φ i v w → Ext w w' → Φ i v w')
  (hop : ∀ p ∈ S, ∀ oi, ops[p.1]? = some oi → ∀ f W, Ext w W → (∀ q ∈ S, reach md ops ops.size p.1 q.1 = true → Φ q.1 (f q.1) W) → Region.wanted oi (yielded ops (fillS S f a).tmps) = true ∧ Yld P oi (fillS S f a) W (Φ p.1))
  (rest : ∀ f W, Ext w W → (∀ p ∈ S, Φ p.1 (f p.1) W) → wpAnyR P md ops Q fuel (S.foldl (fun l p => l.setIfInBounds p.1 true) listed) (fillS S f a) W) : wpAnyR P md ops Q (fuel + m) listed a w := by
 obtain ⟨hb1, hb2⟩ := Bool.and_eq_true _ _ ▸ hb
 have hpar := hb1
 unfold parB at hb1
 simp only [Bool.and_eq_true, decide_eq_true_eq, List.all_eq_true] at hb1
 obtain ⟨⟨⟨⟨⟨⟨hcl, n1⟩, n2⟩, hsz⟩, hS⟩, hord⟩, hwait⟩ := hb1
 obtain ⟨f, hf, _⟩ := fill_old S a n1
 have := rg_par_aux (P := P) (Q := Q) (fuel := fuel) (a := a) (w := w) S Φ hpar st hop rest m listed f w (by simpa using hb2) (closed_of hcl) rfl (fun _ _ => rfl) (Ext.refl w) (fun p hp h => by
  have h2 := (hS p hp).1.2
  rcases Nat.lt_or_ge p.1 listed.size with h6 | h6
  ·
   simp [h6] at h2 h; rw [h] at h2; cases h2
  ·
   simp [h6] at h2)
 rwa [hf] at this
end
end Go.Proofs.YtjholekgdnhpkaaGreatDoor
namespace Go.Proofs.YtjholekgdnhpkaaGreatDoor
open Go.RowKit
theorem ret_int {k : IntKind} {a b : Int} (h : a = b) : Ending.returned (.int k a) = .returned (.int k b) := by rw [h]
theorem val_int {k : IntKind} {a b : Int} (h : a = b) : Value.int k a = .int k b := by rw [h]
theorem x32 (a b : Nat) (ha : a < 4294967296) (hb : b < 4294967296) : bits .xor .u32 (a : Int) (b : Int) = ((a ^^^ b : Nat) : Int) := u32_xor_nat a b ha hb
theorem a32_1 (a : Nat) (ha : a < 4294967296) : bits .and .u32 (a : Int) 1 = ((a % 2 : Nat) : Int) := by
 have := u32_and_nat a 1 ha (by omega)
 rw [nat_mask1] at this
 exact this
theorem a32_15 (a : Nat) (ha : a < 4294967296) : bits .and .u32 (a : Int) 15 = ((a % 16 : Nat) : Int) := by
 have := u32_and_nat a 15 ha (by omega)
 rw [nat_mask4] at this
 exact this
theorem byte_div (n d : Nat) : (n : Int) / (d : Int) % 256 = ((UInt8.ofNat (n / d)).toNat : Int) := by simp [UInt8.toNat_ofNat']
theorem wrap_u64 (n : Nat) (h : n < 18446744073709551616) : IntKind.u64.wrap (n : Int) = (n : Int) := by
 simp [IntKind.wrap, IntKind.bits, IntKind.signed]; omega
theorem x8 (a b : UInt8) : bits .xor .u8 (a.toNat : Int) (b.toNat : Int) = ((a ^^^ b).toNat : Int) := by
 rw [u8_xor_nat _ _ a.toNat_lt b.toNat_lt, UInt8.toNat_xor]
theorem xor_max (c : Nat) (h : c < 4294967296) : 4294967295 ^^^ c = 4294967295 - c := by
 have h1 := BitVec.toNat_not (x := BitVec.ofNat 32 c)
 have h2 : (BitVec.ofNat 32 c).toNat = c := by rw [BitVec.toNat_ofNat]; exact Nat.mod_eq_of_lt (by simpa using h)
 rw [← BitVec.allOnes_xor, BitVec.toNat_xor, BitVec.toNat_allOnes, h2] at h1
 simpa using h1
theorem not32 (c : Nat) (h : c < 4294967296) : bits .xor .u32 IntKind.u32.max (c : Int) = ((4294967295 - c : Nat) : Int) := by
 have h1 := u32_xor_nat 4294967295 c (by omega) h
 rw [xor_max c h] at h1
 have h2 : IntKind.u32.max = ((4294967295 : Nat) : Int) := by decide
 rw [h2]; exact h1
end Go.Proofs.YtjholekgdnhpkaaGreatDoor
namespace Go.Proofs.YtjholekgdnhpkaaGreatDoor.Vint
def numL (l : List UInt8) : Nat := l.foldl (fun n b => n * 256 + b.toNat) 0
def number (l : List UInt8) : Nat := if l.length ≤ 8 then numL l else 0
theorem numL_snoc (l : List UInt8) (k : Nat) (h : k < l.length) : numL (l.take (k + 1)) = numL (l.take k) * 256 + l[k].toNat := by
 unfold numL
 rw [List.take_succ_eq_append_getElem h, List.foldl_append]
 rfl
theorem fold_lt (l : List UInt8) : ∀ n m : Nat, n < m → l.foldl (fun n b => n * 256 + b.toNat) n < m * 256 ^ l.length := by
 induction l with
 | nil => intro n m h; simpa using h
 | cons x xs ih =>
  intro n m h
  have hx := x.toNat_lt
  have := ih (n * 256 + x.toNat) (m * 256) (by omega)
  simp only [List.foldl_cons, List.length_cons, Nat.pow_succ]
  rw [Nat.mul_comm (256 ^ xs.length) 256, ← Nat.mul_assoc]
  exact this
theorem numL_lt (l : List UInt8) : numL l < 256 ^ l.length := by
 have := fold_lt l 0 1 (by omega)
 simpa [numL] using this
theorem numL_lt7 (l : List UInt8) (h : l.length ≤ 7) : numL l < 72057594037927936 := by
 have h1 := numL_lt l
 have h2 : 256 ^ l.length ≤ 256 ^ 7 := Nat.pow_le_pow_right (by omega) h
 omega
theorem numL_lt8 (l : List UInt8) (h : l.length ≤ 8) : numL l < 256 ^ 8 := by
 have h1 := numL_lt l
 have h2 : 256 ^ l.length ≤ 256 ^ 8 := Nat.pow_le_pow_right (by omega) h
 omega
theorem number_lt (l : List UInt8) : number l < 256 ^ 8 := by
 unfold number
 split
 ·
  exact numL_lt8 l ‹_›
 ·
  exact Nat.pow_pos (by omega)
def fixB (n size j : Nat) : UInt8 := UInt8.ofNat (n / 256 ^ (size - 1 - j))
def fixL (n size : Nat) : List UInt8 := (List.range size).map (fixB n size)
def fixed (n : Nat) (size : Int) : List UInt8 := if 1 ≤ size ∧ size ≤ 8 then fixL n size.toNat else []
theorem fixL_len (n size : Nat) : (fixL n size).length = size := by simp [fixL]
def grpF : Nat → Nat → List (UInt8 × Bool)
 | 0, n => [(UInt8.ofNat n, false)]
 | f + 1, n => if n < 128 then [(UInt8.ofNat n, false)] else (UInt8.ofNat (n % 128), true) :: grpF f (n / 128)
def outOf (x : UInt8 × Bool) : UInt8 := if x.2 then x.1 ||| 128 else x.1
def put (n : Nat) : List UInt8 := (grpF 9 n).map outOf
theorem grpF_len (f n : Nat) : 1 ≤ (grpF f n).length ∧ (grpF f n).length ≤ f + 1 := by
 induction f generalizing n with
 | zero => simp [grpF]
 | succ f ih =>
  unfold grpF
  split
  ·
   simp
  ·
   have := ih (n / 128)
   simp only [List.length_cons]
   omega
theorem put_len (n : Nat) : 1 ≤ (put n).length ∧ (put n).length ≤ 10 := by
 have := grpF_len 9 n
 unfold put
 rw [List.length_map]
 omega
def first (l : List UInt8) : Nat := l.findIdx (fun c => decide (c.toNat < 128))
theorem first_at {l : List UInt8} {i : Nat} (h : i < l.length) (hi : l[i].toNat < 128) (hj : ∀ j (h : j < i), 128 ≤ l[j].toNat) : first l = i := by
 unfold first
 rw [List.findIdx_eq h]
 refine ⟨by simpa using hi, fun j hji => ?_⟩
 have := hj j hji
 simp; omega
theorem first_none {l : List UInt8} (hj : ∀ j (h : j < l.length), 128 ≤ l[j].toNat) : first l = l.length := by
 unfold first
 rw [List.findIdx_eq_length]
 intro x hx
 obtain ⟨j, h, rfl⟩ := List.getElem_of_mem hx
 have := hj j h
 simp; omega
theorem first_le (l : List UInt8) : first l ≤ l.length := List.findIdx_le_length
def firstI (l : List UInt8) : Int := if first l = l.length then -1 else (first l : Int)
def val : List UInt8 → Nat
 | [] => 0
 | c :: t => c.toNat % 128 + 128 * val t
def get (l : List UInt8) : Nat × Nat × Nat :=
 let b := l.take 10
 let i := first b
 if i = b.length then (if l.length < 10 then (0, 0, 10) else (0, 0, 11))
 else if i = 9 ∧ 1 < (b.getD i 0).toNat then (0, 0, 11)
 else if 0 < i ∧ (b.getD i 0).toNat = 0 then (0, 0, 12)
 else (val (b.take (i + 1)), i + 1, 0)
def back (l : List UInt8) : List (Nat × UInt8) := (List.range l.length).reverse.map fun i => (i, l.getD i 0)
theorem back_len (l : List UInt8) : (back l).length = l.length := by simp [back]
theorem back_get (l : List UInt8) (j : Nat) (h : j < l.length) : (back l)[j]? = some (l.length - 1 - j, l[l.length - 1 - j]) := by
 unfold back
 rw [List.getElem?_map, List.getElem?_reverse (by simpa using h), List.length_range, List.getElem?_range (by omega)]
 simp only [Option.map_some, Option.some.injEq, Prod.mk.injEq, true_and]
 rw [List.getD_eq_getElem?_getD, List.getElem?_eq_getElem (by omega)]
 rfl
theorem back_next (l : List UInt8) (k : Nat) (h : k < l.length) : (back l).take (l.length - (k + 1)) ++ [(k, l[k])] = (back l).take (l.length - k) := by
 have hj : l.length - (k + 1) < (back l).length := by rw [back_len]; omega
 have h1 := back_get l (l.length - (k + 1)) (by omega)
 rw [show l.length - k = (l.length - (k + 1)) + 1 by omega, List.take_add_one, h1]
 simp only [Option.toList_some]
 congr 3
 ·
  omega
 ·
  congr 1; omega
theorem val_app (a b : List UInt8) : val (a ++ b) = val a + 128 ^ a.length * val b := by
 induction a with
 | nil => simp [val]
 | cons c t ih => simp only [List.cons_append, val, ih, List.length_cons, Nat.pow_succ]; rw [Nat.mul_add, ← Nat.mul_assoc, Nat.mul_comm 128 (128 ^ t.length)]; omega
theorem val_drop_le (l : List UInt8) (k : Nat) : val (l.drop k) ≤ val l := by
 conv => rhs; rw [← List.take_append_drop k l, val_app]
 have : 1 ≤ 128 ^ (l.take k).length := Nat.one_le_pow _ _ (by omega)
 have := Nat.mul_le_mul_right (val (l.drop k)) this
 omega
theorem val_cons_drop (l : List UInt8) (k : Nat) (h : k < l.length) : val (l.drop k) = val (l.drop (k + 1)) * 128 + l[k].toNat % 128 := by
 rw [List.drop_eq_getElem_cons h, val]; omega
theorem val_lt (l : List UInt8) : val l < 128 ^ l.length := by
 induction l with
 | nil => simp [val]
 | cons c t ih => simp only [val, List.length_cons, Nat.pow_succ]; omega
theorem val_take_lt (b : List UInt8) (i : Nat) (hi : i < b.length) (h10 : b.length ≤ 10) (h9 : ¬ (i = 9 ∧ 1 < b[i].toNat)) : val (b.take (i + 1)) < 18446744073709551616 := by
 rw [List.take_succ_eq_append_getElem hi, val_app]
 have h1 := val_lt (b.take i)
 have hl : (b.take i).length = i := by rw [List.length_take]; omega
 rw [hl] at h1 ⊢
 simp only [val, Nat.mul_zero, Nat.add_zero]
 by_cases h : i = 9
 ·
  subst h
  have hx : b[9].toNat % 128 ≤ 1 := by
   have : ¬ 1 < b[9].toNat := fun h2 => h9 ⟨rfl, h2⟩
   omega
  have := Nat.mul_le_mul_left (128 ^ 9) hx
  omega
 ·
  have h2 : 128 ^ i ≤ 128 ^ 8 := Nat.pow_le_pow_right (by omega) (by omega)
  have hx : b[i].toNat % 128 ≤ 127 := by omega
  have := Nat.mul_le_mul h2 hx
  omega
theorem back_pre {l : List UInt8} {pre : List (Nat × UInt8)} {j : Nat} {y : UInt8} (h : pre ++ [(j, y)] <+: back l) : pre.length < l.length ∧ ∃ h2 : l.length - 1 - pre.length < l.length, j = l.length - 1 - pre.length ∧ y = l[l.length - 1 - pre.length] := by
 have h1 := h.length_le
 rw [back_len] at h1
 simp at h1
 have h2 : pre.length < l.length := by omega
 have h3 := h.getElem (i := pre.length) (by simp)
 simp only [List.getElem_concat_length] at h3
 have h4 := back_get l pre.length h2
 rw [List.getElem?_eq_getElem (by rw [back_len]; exact h2), ← h3] at h4
 injection h4 with h4
 injection h4 with h5 h6
 exact ⟨h2, by omega, h5, h6⟩
end Go.Proofs.YtjholekgdnhpkaaGreatDoor.Vint
namespace Go.Proofs.YtjholekgdnhpkaaGreatDoor
open Go.RowKit
theorem or64 (a b : Nat) (ha : a < 72057594037927936) (hb : b < 256) : bits .or .u64 ((a : Int) * 256) (b : Int) = ((a * 256 + b : Nat) : Int) := by
 rw [show ((a : Int) * 256) = ((a * 256 : Nat) : Int) by omega, u64_or_nat _ _ (by omega) (by omega)]
 have := nat_join 8 (a * 256) b (by omega) (by omega)
 rw [this]
set_option maxHeartbeats 400000 in
theorem number_any (A : Option Addr) (bs : List UInt8) (cap : Nat) (w : World) (hA : RdB w A bs) (hl : bs.length ≤ 140737488355328) :
  Calls Tryz.prog 50 #[.slice A bs.length cap] w fun e w' => e = .returned (.int .u64 (Vint.number bs : Nat)) ∧ w = w' := by
 by_cases h8 : bs.length ≤ 8
 ·
  have hfin : Hid (Vint.number bs = Vint.numL bs) := by unfold Vint.number; exact if_pos h8
  go_enter Tryz.func50, Tryz.ntmps50
  go_wp2
  go_loop [2, 10] (fun a i => ∃ k : Nat, k ≤ bs.length ∧ i = .int .i64 k ∧ a = .int .u64 (Vint.numL (bs.take k) : Nat)) (fun _ i => bs.length - (intOf i).toNat)
  case atStart => exact ⟨0, by omega, rfl, rfl⟩
  case round =>
   obtain ⟨k, hk, rfl, rfl⟩ := hrel
   by_cases h : k < bs.length
   ·
    obtain ⟨ad, rfl, hcell⟩ := hA.at_ h
    have hb := bs[k].toNat_lt
    have hs := Lib.hid (Vint.numL_snoc bs k h)
    have hn := Vint.numL_lt7 (bs.take k) (by simp; omega)
    generalize Vint.numL (bs.take k) = d at *
    have ho := or64 d bs[k].toNat hn hb
    generalize bs[k].toNat = b at *
    go_wp2
    go_round
    case rel => exact ⟨k + 1, by omega, by go_num, val_int (by rw [hs.out]; omega)⟩
    case measure => simp [intOf]; omega
   ·
    obtain rfl : k = bs.length := by omega
    rw [List.take_length]
    go_wp2
    go_ret
    exact ⟨ret_int (by rw [hfin.out]), rfl⟩
 ·
  have hfin : Hid (Vint.number bs = 0) := by unfold Vint.number; exact if_neg h8
  go_enter Tryz.func50, Tryz.ntmps50
  go_wp2
  go_ret
  exact ⟨ret_int (by rw [hfin.out]; rfl), rfl⟩
def fixC (n size k : Nat) : Array Value := ((List.range size).map fun j => if size - 1 - j < k then bv (Vint.fixB n size j) else Value.int .u8 0).toArray
theorem fixC_size (n size k : Nat) : (fixC n size k).size = size := by simp [fixC]
theorem fixC_get (n size k j : Nat) (h : j < size) : (fixC n size k)[j]? = some (if size - 1 - j < k then bv (Vint.fixB n size j) else Value.int .u8 0) := by
 simp [fixC, List.getElem?_map, List.getElem?_range h]
theorem fixC_set (n size k : Nat) (h : k < size) : (fixC n size k).setIfInBounds (size - 1 - k) (bv (Vint.fixB n size (size - 1 - k))) = fixC n size (k + 1) := by
 apply Array.ext_getElem?
 intro j
 rw [Array.getElem?_setIfInBounds]
 by_cases hj : j < size
 ·
  rw [fixC_get _ _ _ _ hj, fixC_get _ _ _ _ hj, fixC_size]
  by_cases he : size - 1 - k = j
  ·
   subst he
   rw [if_pos rfl, if_pos (by omega), if_pos (by omega)]
  ·
   rw [if_neg he]
   by_cases h2 : size - 1 - j < k
   ·
    rw [if_pos h2, if_pos (by omega)]
   ·
    rw [if_neg h2, if_neg (by omega)]
 ·
  rw [if_neg (by omega), Array.getElem?_eq_none (by rw [fixC_size]; omega), Array.getElem?_eq_none (by rw [fixC_size]; omega)]
theorem fixC_zero (n size : Nat) : fixC n size 0 = Array.replicate size (Value.int .u8 0) := by
 apply Array.ext_getElem?
 intro j
 by_cases hj : j < size
 ·
  rw [fixC_get _ _ _ _ hj, if_neg (by omega)]; simp [hj]
 ·
  rw [Array.getElem?_eq_none (by rw [fixC_size]; omega), Array.getElem?_eq_none (by simp; omega)]
theorem fixC_all (n size : Nat) : (fixC n size size).toList = bvs (Vint.fixL n size) := by
 apply List.ext_getElem?
 intro j
 by_cases hj : j < size
 ·
  rw [Array.getElem?_toList, fixC_get _ _ _ _ hj, if_pos (by omega)]
  simp [bvs, Vint.fixL, hj]
 ·
  rw [List.getElem?_eq_none (by simp [fixC_size]; omega), List.getElem?_eq_none (by simp [bvs, Vint.fixL_len]; omega)]
theorem fixB_at (n z k : Nat) (h : k < z) : Value.int .u8 ((n : Int) / 2 ^ (8 * k) % 256) = bv (Vint.fixB n z (z - 1 - k)) := by
 have h1 := byte_div n (256 ^ k)
 have h2 : z - 1 - (z - 1 - k) = k := by omega
 have h3 : ((256 ^ k : Nat) : Int) = 2 ^ (8 * k) := by
  rw [Int.pow_mul]; simp
 rw [h3] at h1
 rw [h1]
 unfold Vint.fixB
 rw [h2]
 rfl
theorem elemB : ElemT Tryz.prog 23 5 1 1 := ElemT.mk' (z := .int .u8 0) Tryz.underlying23 (by kernel_rfl) rfl (by omega)
theorem zeroB : (Tryz.prog.info? 5).bind (·.zero) = some (.int .u8 0) := by kernel_rfl
set_option maxHeartbeats 400000 in
theorem fixed_any (n : Nat) (size : Int) (w : World) :
  Calls Tryz.prog 48 #[.int .u64 (n : Int), .int .i64 size] w fun e w' => ∃ A' c', e = .returned (.slice A' (Vint.fixed n size).length c') ∧ Own w' w.heap.size 5 1 A' (Vint.fixed n size).length c' (bvs (Vint.fixed n size)) ∧ Below w.heap.size w w' := by
 by_cases hs : 1 ≤ size ∧ size ≤ 8
 ·
  obtain ⟨h1, h2⟩ := hs
  obtain ⟨z, rfl⟩ := Int.eq_ofNat_of_zero_le (show 0 ≤ size by omega)
  have hfin : Hid (Vint.fixed n (z : Int) = Vint.fixL n z) := by unfold Vint.fixed; rw [if_pos ⟨h1, h2⟩, Int.toNat_natCast]; exact rfl
  go_enter Tryz.func48, Tryz.ntmps48
  go_wp2_with (first | (at_make; go_loud (refine wpList_mk rfl (.tmp 13) (.tmp 13) 23 rfl elemB (.int .u8 0) zeroB rfl z _ _ rfl rfl (by omega) (by omega) ?_)))
  rw [← fixC_zero n z]
  go_loopw [17] (fun i wr => ∃ k : Nat, k ≤ z ∧ i = .int .i64 k ∧ wr = w.alloc (.cells (fixC n z k) 5)) (fun i _ => z - (intOf i).toNat)
  case atStart => exact ⟨0, by omega, rfl, rfl⟩
  case round =>
   obtain ⟨k, hk, rfl, rfl⟩ := hrel
   by_cases h : k < z
   ·
    have hset := Lib.hid (fixC_set n z k h)
    have hcell := fixC_get n z k (z - 1 - k) (by omega)
    have hv := Lib.hid (fixB_at n z k h)
    go_wp2
    go_roundw
    case rel => exact ⟨k + 1, by omega, by go_num, by rw [← hset.out, hv.out]⟩
    case measure => simp [intOf]; omega
   ·
    obtain rfl : k = z := by omega
    go_wp2
    go_ret
    have := Own.new w 5 1 (fixC n k k) k k (Nat.le_refl _) (by unfold maxLen; omega) (by rw [fixC_size]; omega)
    rw [Nat.mul_one, List.take_of_length_le (by simp [fixC_size]), fixC_all] at this
    rw [hfin.out, Vint.fixL_len]
    exact ⟨_, _, rfl, this, (Below.refl _ _).alloc (Nat.le_refl _) _⟩
 ·
  have hfin : Hid (Vint.fixed n size = []) := by unfold Vint.fixed; exact if_neg hs
  by_cases h1 : size < 1
  ·
   go_enter Tryz.func48, Tryz.ntmps48
   go_wp2
   go_ret
   rw [hfin.out]
   exact ⟨none, 0, rfl, Own.none_ _ _ _ _ _, Below.refl _ _⟩
  ·
   have h2 : 8 < size := by omega
   go_enter Tryz.func48, Tryz.ntmps48
   go_wp2
   go_ret
   rw [hfin.out]
   exact ⟨none, 0, rfl, Own.none_ _ _ _ _ _, Below.refl _ _⟩
end Go.Proofs.YtjholekgdnhpkaaGreatDoor
namespace Go.Proofs.YtjholekgdnhpkaaGreatDoor
open Go.RowKit
theorem wpListIn_app {F : Fence} {n : Nat} {P : Program} {w : World} {ops : Array Oper} {rest : List Oper} {o : Oper} {a : Act} {Q : Exit → Act → World → Prop} (hgd : o.guard = none) (s x : Operand) (t : TypeId)
  (ho : o.op = .call { callee := .builtin .append, args := #[s, x], argTypes := #[t, t] })
  {e : TypeId} {size bytes : Nat} (T : ElemT P t e size bytes) (base : Nat) (A : Option Addr) (m c : Nat) (xs : List Value) (hs : a.eval s = .slice A m c)
  (A2 : Option Addr) (m2 c2 : Nat) (ys : List Value) (hx : a.eval x = .slice A2 m2 c2) (k : Nat) (hk : k = m + m2) (zs : List Value) (hz : zs = xs ++ ys)
  (hown : Own w base e size A m c xs) (hr : Rd w size A2 m2 ys) (h1 : ∀ u ∈ ys, u.oneCell' = true)
  (hbytes : k * bytes ≤ 140737488355328) (h63 : k ≤ 140737488355328) (hbase : base ≤ w.heap.size)
  (h : ∀ A' c' w', Own w' base e size A' k c' zs → w.grownBy w' (ownRow A c) → (ownRow A' c' = ownRow A c ∨ ownRow A' c' = some w.heap.size) → wpListIn F n P ops Q rest (a.put o.dst (.slice A' k c')) w') : wpListIn F n P ops Q (o :: rest) a w := by
 refine wpListIn_plain hgd fun K hK => ?_
 subst hk
 subst hz
 obtain ⟨i, z, g1, g2, g3, g4, g5⟩ := T.hi
 obtain ⟨A', c', w', hrun, h2, h3, h4⟩ := run_app (P := P) w base t o.type e i z size bytes T.ht g1 g2 g3 g4 g5 T.pos A m c xs hown A2 m2 c2 ys hr h1 (by unfold maxLen; omega) hbytes hbase
 unfold Oper.wpIn
 refine ⟨?_, ?_⟩
 ·
  simp [Oper.about, ho, resolve, Target.leads, Sem.run_pure]
 ·
  rw [Oper.semAt_plain F _ _ (by rw [ho]; intro c hc'; cases hc')]
  simp [execOp, ho, resolve, invoke, builtin, hs, hx, hrun, Result.andThen]
  exact hK _ _ (h A' c' w' h2 h3 h4)
theorem enters_fn {P : Program} {f : FuncId} {fn : Func} {c : Code} (hf : P.funcs[f]? = some fn) (hname : (fn.name == "runtime.NumGoroutine") = false) (hb : fn.body = some c) :
  ∀ args w, (callFunc f args).run P w = .ok (.enter f args) w := by
 intro args w
 have h1 : fn.name ≠ "runtime.NumGoroutine" := by simpa using hname
 simp [callFunc, hf, h1, hb, mark]
def GivesAll {α : Type} (F : Fence) (n : Nat) (P : Program) (gf : Nat) (lb : Array Value) (encs : α → Array Value) (Kp : World → World → Prop) (xs : List α) (gb : Nat) (w : World) : Prop :=
 ∀ (l : Nat) (J : List α → World → Prop) (W : World), Below w.heap.size w W → (∀ s A B, J s A → A.grownBy B (some gb) → (A.heap[gb]?.map Obj.isCells) = some true → J s B) →
  (∀ pre x W1, J pre W1 → (pre ++ [x]) <+: xs → YieldAt F (n - 1) P l (encs x) W1 fun e W' => e = .returned (.bool true) ∧ J (pre ++ [x]) W' ∧ Kp W1 W') →
  J [] W →
  CallsIn F n P gf (#[.func (.yield l) #[] #[]] ++ lb) W fun e W' => (∃ v, e = .returned v) ∧ J xs W'
def goesOn {α : Type} (Kp : World → World → Prop) (I : List α → World → Prop) (xs : List α) (W : World) : Exit → Act → World → Prop
 | .normal, _, W' => KeepsOthers W W' ∧ Kp W W' ∧ I xs W'
 | _, _, _ => False
theorem wp_range_all {P : Program} {α : Type} {g : Operand} {ps : Array Tmp} {assign body : Code} {Q : Exit → Act → World → Prop} {a : Act} {w : World} {n : Nat} (hn : 1 ≤ n)
  {gf : Nat} {lb : Array Value} (hg : a.eval g = .func (.func gf) #[] lb) (eg : ∀ args w, (callFunc gf args).run P w = .ok (.enter gf args) w)
  {encs : α → Array Value} {Kp : World → World → Prop} {xs : List α} {gb : Nat} (hseq : GivesAll Fence.wide (n - 1) P gf lb encs Kp xs gb w)
  (hgb : gb < w.heap.size) (hKt : ∀ {A B C : World}, Kp A B → Kp B C → Kp A C) (hKb : ∀ (W : World) (l : Nat) (o o' : Obj), w.heap.size ≤ l → W.heap[l]? = some o → o.isCells = false → Kp W (W.putObj l o')) (hps : ∀ x, (encs x).size = ps.size)
  (I : List α → World → Prop) (hI : ∀ s A B row, I s A → A.grownBy B row → (∀ r, row = some r → w.heap.size ≤ r ∧ (A.heap[r]?.map Obj.isCells) = some false) → I s B)
  (hIg : ∀ s A B, I s A → A.grownBy B (some gb) → (A.heap[gb]?.map Obj.isCells) = some true → I s B) (h0 : I [] w) (a₁ : α → Act)
  (hassign : ∀ (l : Nat) (x : α) (W : World) (K : Act → World → Prop), K (a₁ x) W →
   assign.wpIn (Fence.wide.inRound l) (n - 1 - 1) P (Exit.then K (fun _ _ _ => False)) { tmps := (ps.zip (encs x)).foldl (fun t (p, v) => t.setIfInBounds p v) a.tmps, defers := [] } W)
  (hbody : ∀ (l : Nat) (pre : List α) (x : α) (W : World), I pre W → (pre ++ [x]) <+: xs → body.wpIn (Fence.wide.inRound l) (n - 1 - 1) P (goesOn Kp I (pre ++ [x]) W) (a₁ x) W)
  (hdone : ∀ (D : Nat) (W : World), I xs W → w.heap.size ≤ D → W.heap[D]? = some (.deferred (some [])) → Q .normal { a with defers := { target := .collected D, args := #[] } :: a.defers } W) :
  (Code.rangeFunc g ps assign body).wp P Q a w := by
 refine (wpIn_wide (n := n)).1 (wpIn_rangeFunc ?_)
 intro fn hfn
 obtain ⟨rec, hrec⟩ : ∃ rec : LoopState → Option Code → Loop, rec = fun st pe => { state := st, pending := pe, fn, tmps := a.tmps, params := ps, assign, body, defers := w.heap.size } := ⟨_, rfl⟩
 obtain ⟨W1, hW1⟩ : ∃ W1, (w.alloc (.deferred (some []))).alloc (.loop (rec .ready none)) = W1 := ⟨_, rfl⟩
 have hL1 : W1.heap[w.heap.size + 1]? = some (.loop (rec .ready none)) := by
  rw [← hW1]; have := World.alloc_heap_new (w.alloc (.deferred (some []))) (.loop (rec .ready none)); rwa [World.size_alloc] at this
 have hK1 : W1.heap[w.heap.size]? = some (.deferred (some [])) := by
  rw [← hW1]; exact (Below.heap_alloc _ _ _ (by simp)).trans (World.alloc_heap_new w _)
 have hIalloc : ∀ s (A : World) (o : Obj), I s A → I s (A.alloc o) := fun s A o h => hI s A _ none h (World.grownBy_alloc A o none) (fun r e => by cases e)
 have hIput : ∀ s (A : World) (l : Nat) (o o' : Obj), I s A → w.heap.size ≤ l → A.heap[l]? = some o → o.isCells = false → I s (A.putObj l o') := fun s A l o o' h hl ho hc =>
  hI s A _ (some l) h (grownBy_putObj' A l o') (fun r e => by cases e; exact ⟨hl, by rw [ho]; simp [hc]⟩)
 have hI1 : I [] W1 := by rw [← hW1]; exact hIalloc _ _ _ (hIalloc _ _ _ h0)
 have hb1 : Below w.heap.size w W1 := by
  rw [← hW1]; exact ((Below.refl _ w).alloc (Nat.le_refl _) _).alloc (by simp) _
 refine ⟨w.heap.size + 1, [{ target := .collected w.heap.size, args := #[] }], W1, { target := .fn (.func gf) lb, args := #[.func (.yield (w.heap.size + 1)) #[] #[]] }, W1, gf,
  #[.func (.yield (w.heap.size + 1)) #[] #[]] ++ lb, W1, ?_, ?_, ?_, ?_, fun _ => hn, ?_⟩
 ·
  rw [← hW1, hrec]; exact run_enterLoop_outer _ _ _ _ _
 ·
  simp only [resolve, hg]
  simp [go_sem]
 ·
  intro f' hf'; trivial
 ·
  simp [invoke, go_sem, eg]
 ·
  refine (hseq (w.heap.size + 1)
   (fun pre W => I pre W ∧ W.heap[w.heap.size + 1]? = some (.loop (rec .ready none)) ∧ W.heap[w.heap.size]? = some (.deferred (some [])))
   W1 hb1
   (fun s A B hs hg' hc => ⟨hIg s A B hs.1 hg' hc, (hg'.block _ (Array.getElem?_eq_some_iff.1 hs.2.1).1 (by intro e; injection e with e; omega)).trans hs.2.1, (hg'.block _ (Array.getElem?_eq_some_iff.1 hs.2.2).1 (by intro e; injection e with e; omega)).trans hs.2.2⟩)
   ?_ ⟨hI1, hL1, hK1⟩).mono ?_
  ·
   rintro pre x W ⟨hi, hl, hk⟩ hpre
   have hlt : w.heap.size + 1 < W.heap.size := (Array.getElem?_eq_some_iff.1 hl).1
   have hy := run_yield (P := P) (args := encs x) hl (by rw [hrec]; exact hps x)
   rw [hrec] at hy
   refine ⟨fn, _, assign, body, hy, roundIn_of_wpIn hfn (hassign _ x W _ ⟨_, run_beginRound hl (by rw [hrec]), ?_⟩)⟩
   have hl2 : (W.putObj (w.heap.size + 1) (.loop { rec .ready none with state := .busy })).heap[w.heap.size + 1]? = some (.loop { rec .ready none with state := .busy }) := World.putObj_heap_same hlt
   have hk2 : (W.putObj (w.heap.size + 1) (.loop { rec .ready none with state := .busy })).heap[w.heap.size]? = some (.deferred (some [])) := (World.putObj_heap_other (by omega)).trans hk
   have hw2 : Kp W (W.putObj (w.heap.size + 1) (.loop { rec .ready none with state := .busy })) := hKb _ _ _ _ (by omega) hl rfl
   refine wpIn_mono (hbody _ pre x _ (hIput _ _ _ _ _ hi (by omega) hl rfl) hpre) ?_
   rintro e a3 W3 hp
   cases e with
   | normal =>
    obtain ⟨hk3, hkp3, hi3⟩ := hp
    have hl3 := hk3.same _ _ hl2 rfl
    have hr := run_endRound (P := P) none hl3
    rw [hrec] at hr hl3
    have hl4 : (W3.putObj (w.heap.size + 1) (.loop (rec .ready none))).heap[w.heap.size + 1]? = some (.loop (rec .ready none)) := World.putObj_heap_same (Array.getElem?_eq_some_iff.1 hl3).1
    have hk4 : (W3.putObj (w.heap.size + 1) (.loop (rec .ready none))).heap[w.heap.size]? = some (.deferred (some [])) := (World.putObj_heap_other (by omega)).trans (hk3.same _ _ hk2 rfl)
    rw [hrec] at hl4 hk4
    refine ⟨_, _, hr, rfl, ⟨hIput _ _ _ _ _ hi3 (by omega) hl3 rfl, ?_, ?_⟩, hKt (hKt hw2 hkp3) (hKb _ _ _ _ (by omega) hl3 rfl)⟩
    ·
     rw [hrec]; exact hl4
    ·
     exact hk4
   | ret => exact hp.elim
   | exit id => exact hp.elim
   | goto t => exact hp.elim
   | panic ch => exact hp.elim
   | outgrown => exact hp.elim
  ·
   rintro e W2 ⟨⟨v, rfl⟩, hi, hl, hk⟩
   refine ⟨none, _, by have := run_endLoop (P := P) hl (by rw [hrec]; simp); rw [hrec] at this; exact this, hdone _ _ (hIput _ _ _ _ _ hi (by omega) hl rfl) (Nat.le_refl _) ((World.putObj_heap_other (by omega)).trans hk)⟩
end Go.Proofs.YtjholekgdnhpkaaGreatDoor
