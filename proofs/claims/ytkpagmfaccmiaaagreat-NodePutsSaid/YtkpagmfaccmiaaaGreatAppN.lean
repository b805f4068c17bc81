
/- Append to a slice of the call's own of which each cell (also what lies behind its end) is as p says; what other blocks hold is kept if p bars it. Printed by wip/tools/gen_appn.py. -/

import Derived.Test.YtkpagmfaccmiaaaGreatReg2

namespace Go.Proofs.YtkpagmfaccmiaaaGreat

open Go.RowKit

/-- All cells of the slice's row are so. -/
def RowAll (p : Value → Prop) (w : World) (A : Option Addr) (c : Nat) : Prop := ∀ k, ownRow A c = some k → ∀ cur t fr, w.heap[k]? = some (Obj.cells cur t fr) → ∀ v ∈ cur.toList, p v
theorem RowAll.none_ (p : Value → Prop) (w : World) (A : Option Addr) : RowAll p w A 0 := by intro k hk; simp [ownRow] at hk
theorem RowAll.ext {p : Value → Prop} {w w' : World} {A : Option Addr} {c : Nat} (h : RowAll p w A c) (hx : Ext w w') (hlt : ∀ k, ownRow A c = some k → k < w.heap.size) : RowAll p w' A c := fun k hk cur t fr e => h k hk cur t fr ((hx.block k (hlt k hk)).symm.trans e)
theorem zeroCells_mem (zs : Array Value) (n : Nat) : ∀ v ∈ (Builtin.zeroCells zs n).toList, v ∈ zs.toList := by
  intro v hv
  simp only [Builtin.zeroCells, Array.toList_map, List.mem_map, Array.toList_range, List.mem_range] at hv
  obtain ⟨i, hi, rfl⟩ := hv
  have hz : 0 < zs.size := by
    rcases Nat.eq_zero_or_pos zs.size with h | h
    · rw [h] at hi; omega
    · exact h
  have hm := Nat.mod_lt i hz
  rw [getElem!_pos zs (i % zs.size) hm]
  exact Array.getElem_mem_toList hm
section

variable {P : Program} (w : World)

theorem run_appN (p : Value → Prop) (base : Nat) (t ty e : TypeId) (i : TypeInfo) (z : Value) (size bytes : Nat) (ht : P.underlying t = some (.slice e)) (hi : P.info? e = some i) (hz : i.zero = some z)
    (hsize : i.size = size) (hby : i.bytes = bytes) (hzs : z.cells.size = size) (hsz : 0 < size)
    (A : Option Addr) (n c : Nat) (xs : List Value) (hown : Own w base e size A n c xs)
    (A2 : Option Addr) (m c2 : Nat) (ys : List Value) (hr : Rd w size A2 m ys) (h1 : ∀ u ∈ ys, u.oneCell' = true)
    (hp : RowAll p w A c) (hpx : ∀ v ∈ xs, p v) (hpy : ∀ v ∈ ys, p v) (hpz : ∀ v ∈ z.cells.toList, p v) (h63 : n + m ≤ maxLen) (hbytes : (n + m) * bytes ≤ 140737488355328) (hbase : base ≤ w.heap.size) :
    ∃ A' c' w', (Builtin.append_ #[t, t] ty #[.slice A n c, .slice A2 m c2]).run P w = .ok (.slice A' (n + m) c') w' ∧ Own w' base e size A' (n + m) c' (xs ++ ys) ∧ w.grownBy w' (ownRow A c) ∧
      (ownRow A' c' = ownRow A c ∨ ownRow A' c' = some w.heap.size) ∧ RowAll p w' A' c' := by
  subst hsize
  subst hby
  have hsmall : n + m ≤ 9223372036854775807 := by simp only [maxLen] at h63; omega
  have hlen : (xs ++ ys).length = (n + m) * i.size := by rw [List.length_append, hown.len, hr.1, Nat.add_mul]
  -- the source's cells
  rcases Nat.eq_zero_or_pos m with hm0 | hmp
  · subst hm0
    have hy : ys = [] := List.eq_nil_of_length_eq_zero (by simpa using hr.1)
    subst hy
    refine ⟨A, c, w, ?_, by simpa using hown, ⟨rfl, rfl, rfl, Nat.le_refl _, fun _ _ _ => rfl⟩, .inl rfl, hp⟩
    have hnc := hown.nc
    rcases A with _ | a <;> rcases A2 with _ | a2 <;>
      simp [Builtin.append_, run_underlying ht, sizeOf, typeInfo, hi, Builtin.lenOf, Builtin.firstCells, hnc, storeCells, loadCells, loadCellsFrom]
  · obtain ⟨ad, rfl, hcells⟩ := hr.2 (by rintro rfl; have h9 := hr.1; simp only [List.length_nil] at h9; have : 0 < m * i.size := Nat.mul_pos hmp hsz; omega)
    have grown : ∀ (old : Nat), old < n + m → ∀ (row : Option Nat),
        Own (w.drew.alloc (.cells (xs.toArray ++ ys.toArray ++ Builtin.zeroCells z.cells (grownCap w (n + m) old e - (n + m))) e)) base e i.size
          (some ⟨w.heap.size, 0, none⟩) (n + m) (grownCap w (n + m) old e) (xs ++ ys) ∧
        w.grownBy (w.drew.alloc (.cells (xs.toArray ++ ys.toArray ++ Builtin.zeroCells z.cells (grownCap w (n + m) old e - (n + m))) e)) row ∧
        (ownRow (some ⟨w.heap.size, 0, none⟩) (grownCap w (n + m) old e) = some w.heap.size) ∧
        RowAll p (w.drew.alloc (.cells (xs.toArray ++ ys.toArray ++ Builtin.zeroCells z.cells (grownCap w (n + m) old e - (n + m))) e)) (some ⟨w.heap.size, 0, none⟩) (grownCap w (n + m) old e) := by
      intro old ho row
      have hge := grownCap_ge w (n + m) old e
      have hcm : grownCap w (n + m) old e ≤ maxLen := grownCap_le_maxLen w (n + m) old e h63
      refine ⟨⟨hlen, hge, hcm, .inr ⟨w.heap.size, 0, _, rfl, hbase, heap_alloc_new w.drew _, ?_, ?_⟩⟩, ⟨rfl, rfl, rfl, by simp, fun k hk _ => Below.heap_alloc w.drew _ k hk⟩, ?_, ?_⟩
      · simp only [Array.size_append, List.size_toArray, size_zeroCells, hzs, hown.len, hr.1, ← Nat.add_mul, Nat.zero_add]
        refine Nat.mul_le_mul_right _ (by omega)
      · simp only [Array.toList_append, List.append_assoc, List.drop_zero]
        rw [← List.append_assoc, ← hlen]
        exact List.take_left
      · unfold ownRow; rw [if_neg (by omega)]; rfl
      · intro k hk cur t fr hcur v hv
        unfold ownRow at hk
        rw [if_neg (by omega)] at hk
        simp only [Option.map_some, Option.some.injEq] at hk
        subst hk
        have hnew := heap_alloc_new w.drew (.cells (xs.toArray ++ ys.toArray ++ Builtin.zeroCells z.cells (grownCap w (n + m) old e - (n + m))) e)
        rw [show w.drew.heap.size = w.heap.size from rfl] at hnew
        rw [hnew] at hcur
        injection hcur with hcur
        injection hcur with hcur _ _
        rw [← hcur] at hv
        simp only [Array.toList_append, List.mem_append] at hv
        rcases hv with (hv | hv) | hv
        · exact hpx v hv
        · exact hpy v hv
        · exact hpz v (zeroCells_mem _ _ v hv)
    rcases hown.mem with hc0 | ⟨g, off, cur, rfl, hbg, hg, hoff, htake⟩
    · subst hc0
      have hn0 : n = 0 := by have := hown.nc; omega
      subst hn0
      have hx : xs = [] := List.eq_nil_of_length_eq_zero (by simpa using hown.len)
      subst hx
      have hgr := grown 0 (by omega) (ownRow A 0)
      simp only [Nat.zero_add, List.nil_append, Array.empty_append] at hgr ⊢
      rcases A with _ | a
      · have hrun := run_append_nil (P := P) w t ty e i z ht hi hz ad m c2 ys hr.1 hcells hmp (by omega) (by have hb := hbytes; simp only [Nat.zero_add] at hb; omega)
        exact ⟨_, _, _, hrun, hgr.1, hgr.2.1, .inr hgr.2.2.1, hgr.2.2.2⟩
      · have hrun := run_append_grow (P := P) w t ty e i z ht hi hz a 0 0 [] (by simp) (by simp) ad m c2 ys hr.1 hcells (by omega) (by omega) (growslice_fits (by omega) hbytes)
        simp only [Nat.zero_add, Array.empty_append] at hrun
        exact ⟨_, _, _, hrun, hgr.1, hgr.2.1, .inr hgr.2.2.1, hgr.2.2.2⟩
    · by_cases hroom : n + m ≤ c
      · have hf := run_firstCells_some (P := P) w i.size m ad m c2 ys hr.1 hcells
        have hfit : off + n * i.size + 0 + ys.length ≤ cur.size := by
          have : (n + m) * i.size ≤ c * i.size := Nat.mul_le_mul_right _ hroom
          rw [Nat.add_mul] at this
          have := hr.1
          omega
        have hst := run_storeCells_at P g (off + n * i.size) e ys 0 cur w hg hfit h1
        simp only [Nat.add_zero] at hst
        refine ⟨some ⟨g, off, none⟩, c, w.setRow g (cur.toList.take (off + n * i.size) ++ (ys ++ cur.toList.drop (off + n * i.size + ys.length))).toArray, ?_, ⟨hlen, hroom, hown.cm, .inr ⟨g, off, _, rfl, hbg, setRow_heap w g cur _ e _ hg, ?_, ?_⟩⟩, ⟨rfl, rfl, rfl, by simp, fun k _ hk => setRow_other w g k _ (fun e => hk (by unfold ownRow; rw [if_neg (by omega)]; simp [e]))⟩, .inl rfl, ?_⟩
        · simp [Builtin.append_, run_underlying ht, sizeOf, typeInfo, hi, Builtin.lenOf, hroom, hf, Addr.add_lit, hst]
        · simp only [List.size_toArray, List.length_append, List.length_take, List.length_drop, Array.length_toList]
          omega
        · have hlx : ((cur.toList.drop off).take (n * i.size)).length = n * i.size := by rw [htake]; exact hown.len
          have e1 : (cur.toList.take (off + n * i.size) ++ (ys ++ cur.toList.drop (off + n * i.size + ys.length))).drop off = xs ++ (ys ++ cur.toList.drop (off + n * i.size + ys.length)) := by
            rw [List.take_add, List.append_assoc, htake]
            exact List.drop_left' (by simp; omega)
          rw [e1, ← List.append_assoc, ← hlen]
          exact List.take_left
        · intro k hk cur2 t2 fr2 hcur v hv
          unfold ownRow at hk
          rw [if_neg (by omega)] at hk
          simp only [Option.map_some, Option.some.injEq] at hk
          subst hk
          rw [setRow_heap w g cur _ e _ hg] at hcur
          injection hcur with hcur
          injection hcur with hcur _ _
          rw [← hcur] at hv
          simp only [List.mem_append] at hv
          have hold := hp g (by unfold ownRow; rw [if_neg (by omega)]; rfl) cur e (0, 0) hg
          rcases hv with hv | hv | hv
          · exact hold v (List.mem_of_mem_take hv)
          · exact hpy v hv
          · exact hold v (List.mem_of_mem_drop hv)
      · have holds : ∀ j u, xs[j]? = some u → w.cell? ((⟨g, off, none⟩ : Addr).add j) = some u := by
          intro j u hj
          have h2 := hown.rd.2 (by intro e0; rw [e0] at hj; simp at hj)
          obtain ⟨ad', he, hc'⟩ := h2
          injection he with he
          subst he
          exact hc' j u hj
        have hrun := run_append_grow (P := P) w t ty e i z ht hi hz ⟨g, off, none⟩ n c xs hown.len holds ad m c2 ys hr.1 hcells (by omega) (by omega) (growslice_fits (by omega) hbytes)
        have hgr := grown c (by omega) (ownRow (some ⟨g, off, none⟩) c)
        exact ⟨_, _, _, hrun, hgr.1, hgr.2.1, .inr hgr.2.2.1, hgr.2.2.2⟩
end

/-- No byte. -/
def noB (v : Value) : Prop := ∀ n : Int, v ≠ .int .u8 n
/-- Bytes stay where an append of others turns a row in which there is none. -/
theorem RdB.keptN {w w' : World} {A B : Option Addr} {bs : List UInt8} {c : Nat} (h : RdB w A bs) (hr : RowAll noB w B c) (hty : ∀ k, ownRow B c = some k → ∃ cur t fr, w.heap[k]? = some (Obj.cells cur t fr)) (hg : w.grownBy w' (ownRow B c)) : RdB w' A bs := ⟨h.1, fun hx => by
  obtain ⟨ad, e, hc⟩ := h.2 hx
  refine ⟨ad, e, fun j u hj => ?_⟩
  have h1 := hc j u hj
  refine hg.cell h1 fun hk => ?_
  obtain ⟨cur, t, fr, hcur⟩ := hty _ hk.symm
  have hall := hr _ hk.symm cur t fr hcur
  unfold World.cell? at h1
  rw [hcur] at h1
  simp only at h1
  have hm : u ∈ cur.toList := by
    by_cases hsp : (ad.add j).spot.isSome = true
    · rw [if_pos hsp] at h1; cases h1
    · rw [if_neg hsp] at h1; exact Array.mem_toList_iff.2 (Array.mem_of_getElem? h1)
  simp only [bvs, List.getElem?_map, Option.map_eq_some_iff] at hj
  obtain ⟨b, _, rfl⟩ := hj
  exact hall _ hm _ rfl⟩
section

variable {P : Program} {w : World} {ops : Array Oper} {rest : List Oper} {o : Oper} {a : Act} {Q : Exit → Act → World → Prop}

theorem wp_appN {K : Act → World → Prop} (p : Value → Prop) (s x : Operand) (t : TypeId) (ho : o.op = .call { callee := .builtin .append, args := #[s, x], argTypes := #[t, t] })
    {e : TypeId} {size bytes : Nat} (T : ElemT P t e size bytes) (hpz : ∀ (i : TypeInfo) (z : Value), P.info? e = some i → i.zero = some z → ∀ v ∈ z.cells.toList, p v) (base : Nat) (A : Option Addr) (n c : Nat) (xs : List Value) (hs : a.eval s = .slice A n c)
    (A2 : Option Addr) (m c2 : Nat) (ys : List Value) (hx : a.eval x = .slice A2 m c2) (k : Nat) (hk : k = n + m) (zs : List Value) (hz : zs = xs ++ ys)
    (hown : Own w base e size A n c xs) (hr : Rd w size A2 m ys) (h1 : ∀ u ∈ ys, u.oneCell' = true) (hp : RowAll p w A c) (hpx : ∀ v ∈ xs, p v) (hpy : ∀ v ∈ ys, p v)
    (hbytes : k * bytes ≤ 140737488355328) (h63 : k ≤ 140737488355328) (hbase : base ≤ w.heap.size)
    (h : ∀ A' c' w', Own w' base e size A' k c' zs → w.grownBy w' (ownRow A c) → (ownRow A' c' = ownRow A c ∨ ownRow A' c' = some w.heap.size) → RowAll p w' A' c' → K (a.put o.dst (.slice A' k c')) w') : o.wp P a w K Q := by
  subst hk
  subst hz
  obtain ⟨i, z, g1, g2, g3, g4, g5⟩ := T.hi
  obtain ⟨A', c', w', hrun, h2, h3, h4, h5⟩ := run_appN (P := P) w p base t o.type e i z size bytes T.ht g1 g2 g3 g4 g5 T.pos A n c xs hown A2 m c2 ys hr h1 hp hpx hpy (hpz i z g1 g2) (by unfold maxLen; omega) hbytes hbase
  unfold Oper.wp execOp
  simp only [ho, resolve, invoke, builtin, Sem.run_bind, Sem.run_pure, Result.andThen_ok, List.map_toArray, List.map_cons, List.map_nil, hs, hx, hrun]
  exact h A' c' w' h2 h3 h4 h5
theorem wpList_appN (hgd : Region.wanted o (yielded ops a.tmps) = true) (p : Value → Prop) (s x : Operand) (t : TypeId) (ho : o.op = .call { callee := .builtin .append, args := #[s, x], argTypes := #[t, t] })
    {e : TypeId} {size bytes : Nat} (T : ElemT P t e size bytes) (hpz : ∀ (i : TypeInfo) (z : Value), P.info? e = some i → i.zero = some z → ∀ v ∈ z.cells.toList, p v) (base : Nat) (A : Option Addr) (n c : Nat) (xs : List Value) (hs : a.eval s = .slice A n c)
    (A2 : Option Addr) (m c2 : Nat) (ys : List Value) (hx : a.eval x = .slice A2 m c2) (k : Nat) (hk : k = n + m) (zs : List Value) (hz : zs = xs ++ ys)
    (hown : Own w base e size A n c xs) (hr : Rd w size A2 m ys) (h1 : ∀ u ∈ ys, u.oneCell' = true) (hp : RowAll p w A c) (hpx : ∀ v ∈ xs, p v) (hpy : ∀ v ∈ ys, p v)
    (hbytes : k * bytes ≤ 140737488355328) (h63 : k ≤ 140737488355328) (hbase : base ≤ w.heap.size)
    (h : ∀ A' c' w', Own w' base e size A' k c' zs → w.grownBy w' (ownRow A c) → (ownRow A' c' = ownRow A c ∨ ownRow A' c' = some w.heap.size) → RowAll p w' A' c' → wpList P ops Q rest (a.put o.dst (.slice A' k c')) w') : wpList P ops Q (o :: rest) a w :=
  wpList_want hgd fun _ hK => wp_appN p s x t ho T hpz base A n c xs hs A2 m c2 ys hx k hk zs hz hown hr h1 hp hpx hpy hbytes h63 hbase fun A' c' w' h2 h3 h4 h5 => hK _ _ (h A' c' w' h2 h3 h4 h5)
end

end Go.Proofs.YtkpagmfaccmiaaaGreat
