
/- Words for memory: a slice of slices of bytes. -/

import Derived.Test.YtkpagmfaccmiaaaGreatMem

namespace Go.Proofs.YtkpagmfaccmiaaaGreat

open Go.RowKit

/-! ### make -/

section

variable {P : Program} {w : World} {ops : Array Oper} {rest : List Oper} {o : Oper} {a : Act} {Q : Exit → Act → World → Prop}

theorem made_one (z : Value) (n : Nat) (hz : z.cells = #[z]) : madeCells z.cells n = Array.replicate n z := by
  rw [hz]
  apply Array.ext'
  rw [toList_madeCells_one]
  simp
/-- 'make' of elements of one cell. -/
theorem wpList_mk (hgd : Region.wanted o (yielded ops a.tmps) = true) (l c : Operand) (t : TypeId) (ho : o.op = .makeSlice t l c) {e : TypeId} {bytes : Nat} (T : ElemT P t e 1 bytes) (z : Value) (hz : (P.info? e).bind (·.zero) = some z) (hz1 : z.cells = #[z])
    (n : Nat) (kl kc : IntKind) (hl : a.eval l = .int kl (n : Int)) (hc : a.eval c = .int kc (n : Int)) (hn : bytes * n ≤ 140737488355328) (h63 : n ≤ 140737488355328)
    (h : wpList P ops Q rest (a.put o.dst (.slice (some ⟨w.heap.size, 0, none⟩) n n)) (w.alloc (.cells (Array.replicate n z) e))) : wpList P ops Q (o :: rest) a w := by
  refine wpList_want hgd fun K hK => ?_
  obtain ⟨i, z', g1, g2, g3, g4, g5⟩ := T.hi
  obtain rfl : z' = z := by rw [g1] at hz; simpa [g2] using hz
  have hb : (i.bytes : Int) * (n : Int) ≤ 281474976710656 := by
    rw [g4]
    have : ((bytes * n : Nat) : Int) ≤ 140737488355328 := by omega
    rw [Int.natCast_mul] at this
    omega
  have hr := run_make (P := P) w t e i z' T.ht g1 g2 kl kc n n (by omega) (by omega) hb (by omega)
  rw [g3, Int.toNat_natCast, Nat.mul_one, made_one _ _ hz1] at hr
  unfold Oper.wp
  simp [execOp, ho, hl, hc, hr, Result.andThen]
  exact hK _ _ h
end

/-- A cell of one's own row: it is there, may be written, and what the row reads as then. -/
theorem Own.set_ {w : World} {base n c : Nat} {e : TypeId} {A : Option Addr} {xs : List Value} (h : Own w base e 1 A n c xs) {i : Nat} (hi : i < n) :
    ∃ (ad : Addr) (u : Value), A = some ad ∧ xs[i]? = some u ∧ w.cell? (ad.add i) = some u ∧ w.frozen? (ad.add i) = false ∧ base ≤ (ad.add i).block ∧ ownRow A c = some (ad.add i).block ∧ ∀ v, Own (w.setCell (ad.add i) v) base e 1 A n c (xs.set i v) := by
  have hnc := h.nc
  have hcm := h.cm
  have hxl := h.len
  rcases h.mem with h0 | ⟨g, off, cur, rfl, hb, hg, ho, ht⟩
  · omega
  · have hix : i < xs.length := by omega
    have hcur : off + i < cur.size := by omega
    have hu : cur[off + i]? = some xs[i] := by
      have h1 : xs[i]? = some xs[i] := List.getElem?_eq_getElem hix
      rw [← h1, ← ht, List.getElem?_take, if_pos (by omega), List.getElem?_drop]
      simp
    refine ⟨_, xs[i], rfl, List.getElem?_eq_getElem hix, ?_, ?_, ?_, ?_, fun v => ⟨by simpa using hxl, hnc, hcm, .inr ⟨g, off, cur.setIfInBounds (off + i) v, rfl, hb, ?_, by simpa using ho, ?_⟩⟩⟩
    · rw [Addr.add_lit, cell_of_row w g _ cur e (0, 0) hg]; exact hu
    · rw [Addr.add_lit]; exact frozen_of_row w g _ cur e hg
    · rw [Addr.add_lit]; exact hb
    · rw [Addr.add_lit]; unfold ownRow; rw [if_neg (by omega)]; rfl
    · rw [Addr.add_lit]; exact heap_setCell_same w g _ cur e v hg
    · rw [← ht]
      apply List.ext_getElem?
      intro j
      simp only [List.getElem?_take, List.getElem?_drop, Array.toList_setIfInBounds, List.getElem?_set, List.length_take, List.length_drop, Array.length_toList]
      by_cases hj : j < n * 1
      · rw [if_pos hj, if_pos hj]
        by_cases hij : i = j
        · subst hij
          rw [if_pos rfl, if_pos rfl, if_pos hcur, if_pos (by omega)]
        · rw [if_neg (by omega), if_neg hij]
      · rw [if_neg hj]
        by_cases hij : i = j
        · omega
        · rw [if_neg hij, if_neg hj]
theorem bvs_set (l : List UInt8) (i : Nat) (b : UInt8) : (bvs l).set i (bv b) = bvs (l.set i b) := by simp [bvs, List.map_set]

theorem Own.setB {w : World} {base n c : Nat} {e : TypeId} {A : Option Addr} {l : List UInt8} (h : Own w base e 1 A n c (bvs l)) {i : Nat} (hi : i < l.length) :
    ∃ ad : Addr, A = some ad ∧ w.cell? (ad.add i) = some (.int .u8 (l[i].toNat : Int)) ∧ w.frozen? (ad.add i) = false ∧ base ≤ (ad.add i).block ∧ ownRow A c = some (ad.add i).block ∧
      ∀ b : UInt8, Own (w.setCell (ad.add i) (.int .u8 (b.toNat : Int))) base e 1 A n c (bvs (l.set i b)) := by
  have hn : n = l.length := by have := h.len; rw [bvs_len] at this; omega
  obtain ⟨ad, u, h1, h2, h3, h4, h5, h6, h7⟩ := h.set_ (i := i) (by omega)
  rw [bvs_get l i hi] at h2
  injection h2 with h2
  refine ⟨ad, h1, by rw [h3, ← h2]; rfl, h4, h5, h6, fun b => ?_⟩
  rw [← bvs_set]
  exact h7 (bv b)

/-! ### a slice of slices of bytes -/

structure Sl where
  a : Option Addr
  bs : List UInt8
  c : Nat
def Sl.val (s : Sl) : Value := .slice s.a s.bs.length s.c
/-- Reads as these slices, each of which reads as its bytes. -/
structure RdL (w : World) (A : Option Addr) (l : List Sl) : Prop where
  rd : Rd w 1 A l.length (l.map Sl.val)
  each : ∀ s ∈ l, RdB w s.a s.bs
theorem RdL.below {w w' : World} {A : Option Addr} {l : List Sl} (h : RdL w A l) (hb : Below w.heap.size w w') : RdL w' A l := ⟨h.rd.below hb, fun s hs => (h.each s hs).below hb⟩
theorem RdL.at_ {w : World} {A : Option Addr} {l : List Sl} (h : RdL w A l) {k : Nat} (hk : k < l.length) :
    ∃ ad, A = some ad ∧ w.cell? (ad.add k) = some (.slice l[k].a l[k].bs.length l[k].c) ∧ RdB w l[k].a l[k].bs := by
  obtain ⟨ad, u, e, hu, hc⟩ := h.rd.at_ hk
  rw [List.getElem?_map, List.getElem?_eq_getElem hk] at hu
  simp only [Option.map_some, Option.some.injEq] at hu
  exact ⟨ad, e, by rw [hc, ← hu]; rfl, h.each _ (List.getElem_mem hk)⟩
/-- All their bytes, one behind the other. -/
def cat (l : List Sl) : List UInt8 := l.flatMap Sl.bs
theorem cat_snoc (l : List Sl) (k : Nat) (h : k < l.length) : cat (l.take (k + 1)) = cat (l.take k) ++ l[k].bs := by
  unfold cat
  rw [List.take_succ_eq_append_getElem h, List.flatMap_append]
  simp only [List.flatMap_cons, List.flatMap_nil, List.append_nil]
theorem cat_take_le (l : List Sl) (k : Nat) : (cat (l.take k)).length ≤ (cat l).length := by
  conv => rhs; rw [← List.take_append_drop k l]
  unfold cat
  rw [List.flatMap_append, List.length_append]
  omega
theorem cat_all (l : List Sl) : cat (l.take l.length) = cat l := by rw [List.take_length]
theorem one_le_cat (l : List Sl) (k : Nat) (h : k < l.length) : (cat (l.take k)).length + l[k].bs.length ≤ (cat l).length := by
  have := cat_take_le l (k + 1)
  rw [cat_snoc l k h] at this
  simpa using this
theorem RdL.new (w : World) (e : TypeId) (l : List Sl) (h : ∀ s ∈ l, RdB w s.a s.bs) : RdL (w.alloc (.cells (l.map Sl.val).toArray e)) (some ⟨w.heap.size, 0, none⟩) l :=
  ⟨by have := Rd.new w e (l.map Sl.val); rwa [List.length_map] at this, fun s hs => (h s hs).below ((Below.refl _ _).alloc (Nat.le_refl _) _)⟩
theorem RdL.one (w : World) (e : TypeId) (A : Option Addr) (bs : List UInt8) (c : Nat) (h : RdB w A bs) : RdL (w.alloc (.cells #[.slice A bs.length c] e)) (some ⟨w.heap.size, 0, none⟩) [⟨A, bs, c⟩] :=
  RdL.new w e [⟨A, bs, c⟩] (by simpa using h)
theorem RdL.two (w : World) (e : TypeId) (A B : Option Addr) (bs cs : List UInt8) (c d : Nat) (h : RdB w A bs) (k : RdB w B cs) : RdL (w.alloc (.cells #[.slice A bs.length c, .slice B cs.length d] e)) (some ⟨w.heap.size, 0, none⟩) [⟨A, bs, c⟩, ⟨B, cs, d⟩] :=
  RdL.new w e [⟨A, bs, c⟩, ⟨B, cs, d⟩] (by simpa using ⟨h, k⟩)
theorem cat_one (A : Option Addr) (bs : List UInt8) (c : Nat) : cat [⟨A, bs, c⟩] = bs := by simp [cat]
theorem cat_two (A B : Option Addr) (bs cs : List UInt8) (c d : Nat) : cat [⟨A, bs, c⟩, ⟨B, cs, d⟩] = bs ++ cs := by simp [cat]
theorem RdB.lit (w : World) (e : TypeId) (bs : List UInt8) : RdB (w.alloc (.cells (bvs bs).toArray e)) (some ⟨w.heap.size, 0, none⟩) bs := by
  have := Rd.new w e (bvs bs)
  unfold RdB
  rwa [bvs_len] at this
theorem RdB.litF (w : World) (e : TypeId) (bs : List UInt8) (fr : Nat × Nat) : RdB (w.alloc (.cells (bvs bs).toArray e fr)) (some ⟨w.heap.size, 0, none⟩) bs :=
  ⟨by rw [bvs_len]; omega, fun _ => ⟨_, rfl, fun j u hj => by rw [Addr.add_lit, cell_of_row _ _ _ (bvs bs).toArray e fr (heap_alloc_new w _)]; simpa using hj⟩⟩
end Go.Proofs.YtkpagmfaccmiaaaGreat
