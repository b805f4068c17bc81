
/- Plain laws: the cells of a body as a list (layer 6); rows of texts told by their bytes. -/

import Derived.Test.YtgfanklhihciaaaSltLaw

import Derived.Test.YtgfanklhihciaaaReg7

import Derived.Test.YtgfanklhihciaaaSlCut

import Derived.Test.YtgfanklhihciaaaFlat

namespace Go.Proofs.Ytgfanklhihciaaa

open Go.RowKit

def SBody.ps (m : SBody) : List (List UInt8) := m.l.map SCell.p
theorem SBody.ps_len (m : SBody) : m.ps.length = m.l.length := by simp [SBody.ps]
theorem SBody.ps_cellP (m : SBody) (k : Nat) (h : k < m.ps.length) : m.cellP k = m.ps[k] := by
  have h2 : k < m.l.length := by rw [← m.ps_len]; exact h
  simp [SBody.cellP, SBody.ps, h2]
theorem SBody.ps_sum (m : SBody) : m.sum = (m.ps.map List.length).sum := by simp [SBody.sum, sumL, SBody.ps, Function.comp_def]
theorem SBody.pack_ps (m : SBody) : m.pack.ps = m.ps := packL_p m.l
theorem SBody.pack_free (m : SBody) : m.pack.free = m.free := by unfold SBody.free SBody.dir; rw [m.pack_sum, m.pack_len]
theorem SBody.room_ps (m : SBody) (c : List UInt8) : (m.room c).ps = m.ps := by
  unfold SBody.room
  split
  · exact m.pack_ps
  · rfl
theorem SBody.lay_ps (m : SBody) (i : Nat) (c : List UInt8) : (m.lay i c).ps = m.ps.take i ++ [c] ++ m.ps.drop i := by
  simp [SBody.lay, SBody.ps]
theorem SBody.insert_ok {m : SBody} (hI : m.Inv) {i : Int} {c : List UInt8} (h0 : 0 ≤ i) (h1 : i ≤ m.l.length) (hc : c.length ≤ 78) (hf : 2 + c.length ≤ m.free) :
    (m.insert i c).1 = 0 ∧ (m.insert i c).2.ps = m.ps.take i.toNat ++ [c] ++ m.ps.drop i.toNat ∧ (m.insert i c).2.free + 2 + c.length = m.free := by
  have hi := SBody.insert_inv hI i c
  have e : m.insert i c = (0, (m.room c).lay i.toNat c) := by
    unfold SBody.insert
    rw [if_neg (by omega), if_neg (by omega), if_neg (by omega)]
  rw [e] at hi ⊢
  have hp := (m.room c).lay_ps i.toNat c
  rw [m.room_ps] at hp
  refine ⟨rfl, hp, ?_⟩
  have h2 := hi.freeI
  have h3 := hI.freeI
  have h4 : ((m.room c).lay i.toNat c).l.length = m.l.length + 1 := by
    rw [SBody.lay_len _ _ _ (by rw [m.room_len]; omega), m.room_len]
  have h5 : ((m.room c).lay i.toNat c).sum = m.sum + c.length := by
    rw [SBody.lay_sum, SBody.ps_sum, m.room_ps, ← SBody.ps_sum]
  simp only at h2
  rw [h4, h5] at h2
  simp only
  omega
theorem SBody.insert_no {m : SBody} {i : Int} {c : List UInt8} (h0 : 0 ≤ i) (h1 : i ≤ m.l.length) (hc : c.length ≤ 78) (hf : ¬ 2 + c.length ≤ m.free) : m.insert i c = (60, m) := by
  unfold SBody.insert
  rw [if_neg (by omega), if_neg (by omega), if_pos (by omega)]
theorem SBody.delete_ok {m : SBody} (hI : m.Inv) {i : Int} (h0 : 0 ≤ i) (h1 : i < m.l.length) (h : i.toNat < m.ps.length) :
    (m.delete i).1 = 0 ∧ (m.delete i).2.ps = m.ps.take i.toNat ++ m.ps.drop (i.toNat + 1) ∧ (m.delete i).2.free = m.free + 2 + (m.ps[i.toNat]).length := by
  have hi := SBody.delete_inv hI i
  have hl : 0 ≤ i ∧ i.toNat < m.l.length := ⟨h0, by omega⟩
  have e : m.delete i = (0, m.drop i.toNat hl.2) := by
    unfold SBody.delete
    rw [dif_pos hl]
  rw [e] at hi ⊢
  refine ⟨rfl, by simp [SBody.drop, SBody.ps], ?_⟩
  have h2 := hi.freeI
  have h3 := hI.freeI
  have h4 := m.drop_len i.toNat hl.2
  have h5 := m.drop_sum i.toNat hl.2
  have h6 : (m.ps[i.toNat]).length = m.l[i.toNat].p.length := by simp [SBody.ps]
  simp only at h2
  rw [h4] at h2
  simp only
  rw [h6]
  have h7 := hl.2
  omega
/-! ### rows of texts -/

def strV (b : List UInt8) : Value := .string ⟨b.toArray⟩
def svs (l : List (List UInt8)) : List Value := l.map strV
theorem svs_len (l : List (List UInt8)) : (svs l).length = l.length := by simp [svs]
theorem svs_app (l m : List (List UInt8)) : svs (l ++ m) = svs l ++ svs m := by simp [svs]
theorem svs_one (l : List (List UInt8)) : ∀ u ∈ svs l, u.oneCell' = true := by
  intro u hu
  simp only [svs, List.mem_map] at hu
  obtain ⟨b, _, rfl⟩ := hu
  rfl
theorem svs_take (l : List (List UInt8)) (k : Nat) : (svs l).take (k * 1) = svs (l.take k) := by simp [svs, List.map_take]
theorem svs_drop (l : List (List UInt8)) (k : Nat) : (svs l).drop (k * 1) = svs (l.drop k) := by simp [svs, List.map_drop]
theorem elemSt : ElemT Try.prog 34 9 1 16 := ElemT.mk' (z := .string ByteArray.empty) Try.underlying34 (by kernel_rfl) rfl (by omega)
theorem Own.strAt {w : World} {B n c : Nat} {e : TypeId} {A : Option Addr} {l : List (List UInt8)} (h : Own w B e 1 A n c (svs l)) {k : Nat} (hk : k < l.length) : ∃ ad, A = some ad ∧ w.cell? (ad.add k) = some (strV l[k]) := by
  have h1 := h.len
  rw [svs_len] at h1
  obtain ⟨ad, u, e1, e2, e3⟩ := Rd.at_ h.rd (k := k) (by omega)
  refine ⟨ad, e1, ?_⟩
  rw [e3, ← e2]
  simp [svs, hk]
/-- An own row is not one that lies below its base. -/
theorem Own.other {w w' : World} {B n c g s : Nat} {e : TypeId} {A : Option Addr} {xs : List Value} (h : Own w B e s A n c xs) (hg : w.grownBy w' (some g)) (hgB : g < B) : Own w' B e s A n c xs := by
  refine h.kept hg fun k hk e2 => ?_
  injection e2 with e2
  subst e2
  unfold ownRow at hk
  split at hk
  · cases hk
  · rename_i hc
    rcases h.mem with h0 | ⟨g', off, cur, hA, hb, _⟩
    · exact hc h0
    · rw [hA] at hk
      injection hk with hk
      have : g' = k := hk
      omega
theorem Own.low {w w' : World} {B n c B' s : Nat} {e : TypeId} {A : Option Addr} {xs : List Value} (h : Own w B' e s A n c xs) (hg : w.grownBy w' (ownRow A c)) (hB : B ≤ B') (hw : B ≤ w.heap.size) : Below B w w' :=
  (Below.refl B w).grown hg hw fun k hk => by
    unfold ownRow at hk
    split at hk
    · cases hk
    · rename_i hc
      rcases h.mem with h0 | ⟨g', off, cur, hA, hb, _⟩
      · exact absurd h0 hc
      · rw [hA] at hk
        injection hk with hk
        have : g' = k := hk
        omega
/-! ### a deed's own row -/

structure DX (w : World) (x : Nat) (e : DeV) : Prop where
  row : w.heap[x]? = some (.cells e.cells 32 (0, 0))
theorem DX.ext {w w' : World} {x : Nat} {e : DeV} (h : DX w x e) (hx : Ext w w') : DX w' x e := ⟨(hx.block _ (lt_of_heap h.row)).trans h.row⟩
theorem DX.other {w w' : World} {x g : Nat} {e : DeV} (h : DX w x e) (hg : w.grownBy w' (some g)) (hn : x ≠ g) : DX w' x e := ⟨(hg.block x (lt_of_heap h.row) (fun e => hn (by injection e))).trans h.row⟩
theorem DX.kind {w : World} {x : Nat} {e : DeV} (h : DX w x e) : w.cell? ⟨x, 0, none⟩ = some (.int .i64 e.x.kind) := by rw [cell_of_row w x 0 _ _ _ h.row]; rfl
theorem DX.i {w : World} {x : Nat} {e : DeV} (h : DX w x e) : w.cell? ⟨x, 1, none⟩ = some (.int .i64 e.x.i) := by rw [cell_of_row w x 1 _ _ _ h.row]; rfl
theorem DX.p {w : World} {x : Nat} {e : DeV} (h : DX w x e) : w.cell? ⟨x, 2, none⟩ = some (.slice e.pa e.x.p.length e.pc) := by rw [cell_of_row w x 2 _ _ _ h.row]; rfl
theorem dinfo (e : DeV) : (Try.prog.info? 32).map (·.size) = some e.cells.size := by
  show _ = some 3
  kernel_rfl
theorem ex_buildOne1 {P : Program} {w : World} {o : Oper} {a : Act} (t : TypeId) (x : Operand) (ho : o.op = .buildSlice t 1 #[(0, x)])
    {e : TypeId} {bytes : Nat} (T : ElemT P t e 1 bytes) (v : Value) (hx : a.eval x = v) (hv : v.cells = #[v]) :
    (execOp a.eval o).run P w = .ok (.value (.slice (some ⟨w.heap.size, 0, none⟩) 1 1)) (w.alloc (.cells #[v] e)) := by
  obtain ⟨i, z, g1, g2, g3, g4, g5⟩ := T.hi
  have hi1 : i.size = 1 := g3
  have hf : Instr.fill (fun j => some (j * i.size, i.size)) ((Array.range (1 * i.size)).map (z.cells[· % z.cells.size]!)) (#[(0, x)].map fun (y : Nat × Operand) => (y.1, a.eval y.2)).toList = some #[v] := by
    have e1 : (#[(0, x)].map fun (y : Nat × Operand) => (y.1, a.eval y.2)).toList = [(0, v)] := by simp [hx]
    have e2 : ∀ (f : Nat → Option (Nat × Nat)) (b : Array Value), Instr.fill f b [(0, v)] = Instr.fill f b [(0, Value.agg #[v])] := fun f b => by
      have hv2 : (Value.agg #[v]).cells = #[v] := rfl
      simp only [Instr.fill, hv, hv2]
    exact ((congrArg _ e1).trans (e2 _ _)).trans (fill_one i.size _ #[v] (by rw [hi1]; rfl) (by simp))
  have hr := run_buildSlice (P := P) w t e 1 _ #[v] i z T.ht g1 g2 (by omega) (by omega) hf
  unfold execOp
  simp only [ho, Sem.run_bind]
  rw [hr]
  rfl
end Go.Proofs.Ytgfanklhihciaaa
