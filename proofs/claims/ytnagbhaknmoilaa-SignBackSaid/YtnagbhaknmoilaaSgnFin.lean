
/- Contracts: a finder in memory; newFinder, try. Printed by wip/tools/gen_sgnfin22.py. -/

import Derived.Test.YtnagbhaknmoilaaMapI

import Derived.Test.YtnagbhaknmoilaaSgnTab

import Derived.Test.YtnagbhaknmoilaaArrEq

import Derived.Test.YtnagbhaknmoilaaReg2

namespace Go.Proofs.Ytnagbhaknmoilaa

open Go.RowKit

open Go.ChangeMaps

attribute [local go_sem] Oper.semAt_some

theorem run_loadVar_cellsG {P : Program} (w : World) (p : Addr) (ty : TypeId) (cs : Array Value) (d : TypeDesc) (hc : ∀ j u, cs[j]? = some u → w.cell? (p.add j) = some u)
    (hu : P.underlying ty = some d) (hd : (match d with | .struct _ | .array _ _ => true | _ => false) = true) (hi : (P.info? ty).map (·.size) = some cs.size) :
    (loadVar ty p).run P w = .ok (.agg cs) w := by
  have hl : (loadCells p cs.toList.length).run P w = .ok cs.toList.toArray w :=
    run_loadCells_list (P := P) w p cs.toList (fun j v hv => hc j v (by simpa using hv))
  cases hq : P.info? ty with
  | none => simp [hq] at hi
  | some i =>
    have hs : i.size = cs.size := by simpa [hq] using hi
    have hagg : (isAgg ty).run P w = .ok true w := by
      unfold isAgg
      rw [Sem.run_bind, run_underlying hu w]
      cases d <;> simp_all
    simp only [Array.length_toList, Array.toArray_toList] at hl
    simp [loadVar, Sem.run_bind, hagg, sizeOf, typeInfo, hq, hs, hl]
section

variable {P : Program} {w : World} {ops : Array Oper} {rest : List Oper} {o : Oper} {a : Act} {Q : Exit → Act → World → Prop}

theorem ex_load_cellsG (ty : TypeId) (x : Operand) (ho : o.op = .load ty x) (p : Addr) (hx : a.eval x = .pointer (some p)) (cs : Array Value) (d : TypeDesc) (hc : ∀ j u, cs[j]? = some u → w.cell? (p.add j) = some u)
    (hu : P.underlying ty = some d) (hd : (match d with | .struct _ | .array _ _ => true | _ => false) = true) (hi : (P.info? ty).map (·.size) = some cs.size) : (execOp a.eval o).run P w = .ok (.value (.agg cs)) w := by
  unfold execOp
  simp only [ho, hx, Instr.loadAt, Instr.sureAddr, Sem.run_bind, Sem.run_pure, Result.andThen_ok, run_loadVar_cellsG w p ty cs d hc hu hd hi]
end

/-- The row of answers. -/
structure IRow (w : World) (g : Nat) (L : List Int) : Prop where
  row : w.heap[g]? = some (.cells (ivs L).toArray 3 (0, 0))
section

variable {w w' : World} {g : Nat} {L : List Int}

theorem IRow.ext (h : IRow w g L) (hx : Ext w w') : IRow w' g L := ⟨(hx.block _ (lt_of_heap h.row)).trans h.row⟩
theorem IRow.turn {S : Nat → Prop} (h : IRow w g L) (hx : Turn S w w') (hn : ¬ S g) : IRow w' g L := ⟨(hx.block _ (lt_of_heap h.row) hn).trans h.row⟩
theorem IRow.free (h : IRow w g L) (j : Nat) : w.frozen? ⟨g, j, none⟩ = false := frozen_of_row w g j _ _ h.row
theorem IRow.cell (h : IRow w g L) {j : Nat} (hj : j < L.length) : w.cell? ⟨g, j, none⟩ = some (.int .i64 L[j]) := by
  rw [cell_of_row w g j _ _ _ h.row]
  simp [ivs, hj, iv]
theorem IRow.set (h : IRow w g L) (j : Nat) (x : Int) : IRow (w.setCell ⟨g, j, none⟩ (.int .i64 x)) g (L.set j x) := by
  refine ⟨?_⟩
  rw [heap_setCell_same w g j _ _ _ h.row]
  congr 2
  apply Array.ext'
  simp [ivs, List.map_set, iv]
theorem IRow.rd (h : IRow w g L) : RdI w (some ⟨g, 0, none⟩) L := ⟨by simp [ivs], fun _ => ⟨_, rfl, fun j u hj => by rw [Addr.add_lit, cell_of_row w g _ _ _ _ h.row, Nat.zero_add]; simpa using hj⟩⟩
theorem IRow.grown (w : World) (g j : Nat) (v : Value) : w.grownBy (w.setCell ⟨g, j, none⟩ v) (some g) :=
  ⟨rfl, rfl, rfl, by simp [World.setCell], fun i _ hn => Below.heap_setCell w ⟨g, j, none⟩ v i (fun e => hn (by rw [e]))⟩
end

def finC (oA : Option Addr) (oL oC : Nat) (M : Value) (sA : Option Addr) (sL sC gO : Nat) : Array Value := #[.slice oA oL oC, M, .slice sA sL sC, .slice (some ⟨gO, 0, none⟩) sL sL]
/-- A finder, all that it names ahead of the map. -/
structure FA (w : World) (gf gO : Nat) (M : Value) (oA : Option Addr) (oC : Nat) (o : List UInt8) (sA : Option Addr) (sC : Nat) (S : List Sg) (L : List Int) : Prop where
  fin : w.heap[gf]? = some (.cells (finC oA o.length oC M sA S.length sC gO) 55 (0, 0))
  out : IRow w gO L
  len : L.length = S.length
  old : RdB w oA o
  oldc : o.length ≤ oC
  oldB : o ≠ [] → ∀ ad, oA = some ad → ad.block < gO
  sig : RdG w sA S
  sigc : S.length ≤ sC
  sigB : S ≠ [] → ∀ ad, sA = some ad → ad.block < gO
  ord : gO < gf
section

variable {w w' : World} {gf gO : Nat} {M : Value} {oA sA : Option Addr} {oC sC : Nat} {o : List UInt8} {S : List Sg} {L : List Int}

theorem FA.ext (h : FA w gf gO M oA oC o sA sC S L) (hx : Ext w w') : FA w' gf gO M oA oC o sA sC S L :=
  ⟨(hx.block _ (lt_of_heap h.fin)).trans h.fin, h.out.ext hx, h.len, h.old.below hx, h.oldc, h.oldB, h.sig.below hx, h.sigc, h.sigB, h.ord⟩
theorem FA.c0 (h : FA w gf gO M oA oC o sA sC S L) : w.cell? ⟨gf, 0, none⟩ = some (.slice oA o.length oC) := cell_of_row w gf 0 _ _ _ h.fin
theorem FA.c1 (h : FA w gf gO M oA oC o sA sC S L) : w.cell? ⟨gf, 1, none⟩ = some M := cell_of_row w gf 1 _ _ _ h.fin
theorem FA.c2 (h : FA w gf gO M oA oC o sA sC S L) : w.cell? ⟨gf, 2, none⟩ = some (.slice sA S.length sC) := cell_of_row w gf 2 _ _ _ h.fin
theorem FA.c3 (h : FA w gf gO M oA oC o sA sC S L) : w.cell? ⟨gf, 3, none⟩ = some (.slice (some ⟨gO, 0, none⟩) S.length S.length) := cell_of_row w gf 3 _ _ _ h.fin
theorem FA.free (h : FA w gf gO M oA oC o sA sC S L) (j : Nat) : w.frozen? ⟨gf, j, none⟩ = false := frozen_of_row w gf j _ _ h.fin
/-- Other blocks turn, none of which is the finder's. -/
theorem FA.turn {K : Nat → Prop} (h : FA w gf gO M oA oC o sA sC S L) (ht : Turn K w w') (hK : ∀ i, K i → gf < i) : FA w' gf gO M oA oC o sA sC S L := by
  have hlo : ∀ i, i ≤ gf → ¬ K i := fun i hi hk => by have := hK i hk; omega
  have ho := h.ord
  refine ⟨(ht.block _ (lt_of_heap h.fin) (hlo _ (Nat.le_refl _))).trans h.fin, h.out.turn ht (hlo _ (by omega)), h.len, ?_, h.oldc, h.oldB, ⟨?_, h.sig.ok⟩, h.sigc, h.sigB, h.ord⟩
  · exact Rd.turn h.old ht (fun hx ad hA => hlo _ (by have := h.oldB (fun e => hx (by rw [e]; rfl)) ad hA; omega))
  · exact Rd.turn h.sig.rd ht (fun hx ad hA => hlo _ (by have := h.sigB (fun e => hx (by rw [e]; rfl)) ad hA; omega))
/-- An answer is written. -/
theorem FA.put (h : FA w gf gO M oA oC o sA sC S L) (j : Nat) (x : Int) : FA (w.setCell ⟨gO, j, none⟩ (.int .i64 x)) gf gO M oA oC o sA sC S (L.set j x) := by
  have ho := h.ord
  have ht : Turn (fun i => i = gO) w (w.setCell ⟨gO, j, none⟩ (.int .i64 x)) := Turn.grown (IRow.grown w gO j _) rfl
  refine ⟨(ht.block _ (lt_of_heap h.fin) (by omega)).trans h.fin, h.out.set j x, by rw [List.length_set]; exact h.len, ?_, h.oldc, h.oldB, ⟨?_, h.sig.ok⟩, h.sigc, h.sigB, h.ord⟩
  · exact Rd.turn h.old ht (fun hx ad hA => by have := h.oldB (fun e => hx (by rw [e]; rfl)) ad hA; omega)
  · exact Rd.turn h.sig.rd ht (fun hx ad hA => by have := h.sigB (fun e => hx (by rw [e]; rfl)) ad hA; omega)
end

theorem finfo (oA : Option Addr) (oL oC : Nat) (M : Value) (sA : Option Addr) (sL sC gO : Nat) : (Try.prog.info? 55).map (·.size) = some (finC oA oL oC M sA sL sC gO).size := by
  show _ = some 4
  kernel_rfl
set_option maxRecDepth 100000 in
set_option maxHeartbeats 1000000 in
theorem newfinder_any (oA : Option Addr) (oC : Nat) (o : List UInt8) (sA : Option Addr) (sC : Nat) (S : List Sg) (w : World) (ho : RdB w oA o) (hoc : o.length ≤ oC) (hs : RdG w sA S) (hsc : S.length ≤ sC) (hS : S.length ≤ 2048)
    (hoB : o ≠ [] → ∀ ad, oA = some ad → ad.block < w.heap.size) (hsB : S ≠ [] → ∀ ad, sA = some ad → ad.block < w.heap.size) :
    Calls Try.prog 21 #[.slice oA o.length oC, .slice sA S.length sC] w fun e w' => e = .returned (.pointer (some ⟨w.heap.size + 1, 0, none⟩)) ∧ FA w' (w.heap.size + 1) w.heap.size (.map none) oA oC o sA sC S (List.replicate S.length (-1)) ∧ Ext w w' := by
  obtain ⟨n, hn⟩ : ∃ n, n = S.length := ⟨_, rfl⟩
  obtain ⟨m, hm⟩ : ∃ m, m = o.length := ⟨_, rfl⟩
  rw [← hn] at hS ⊢
  rw [← hm]
  have Hn := Lib.hid hn
  have Hm := Lib.hid hm
  clear hn hm
  go_enter Try.func21, Try.ntmps21
  go_wp2_with (refine wpList_mk rfl (.tmp 10) (.tmp 10) 35 rfl elemI (.int .i64 0) (by kernel_rfl) rfl n .i64 .i64 rfl rfl (by omega) (by omega) ?_)
  obtain ⟨W1, hW1⟩ : ∃ W1, W1 = (w.alloc (.cells (Array.replicate n (.int .i64 0)) 3)).alloc (.cells (finC oA m oC (.map none) sA n sC w.heap.size) 55) := ⟨_, rfl⟩
  have hx1 : Ext w W1 := by rw [hW1]; exact Ext.tr (Ext.alloc _ _) (Ext.alloc _ _)
  have hr0 : IRow W1 w.heap.size (List.replicate n 0) := by
    refine ⟨?_⟩
    rw [hW1]
    refine ((Ext.alloc _ _).block _ (by simp)).trans ((heap_alloc_new w _).trans ?_)
    congr 2
    simp [ivs, iv]
  have hr1 : W1.heap[w.heap.size + 1]? = some (.cells (finC oA m oC (.map none) sA n sC w.heap.size) 55 (0, 0)) := by
    rw [hW1]
    have := heap_alloc_new (w.alloc (.cells (Array.replicate n (.int .i64 0)) 3)) (.cells (finC oA m oC (.map none) sA n sC w.heap.size) 55)
    rwa [World.size_alloc] at this
  have hF0 : FA W1 (w.heap.size + 1) w.heap.size (.map none) oA oC o sA sC S (List.replicate n 0) := by
    rw [Hm.out, Hn.out] at hr1
    exact ⟨hr1, hr0, by rw [List.length_replicate, Hn.out], ho.below hx1, hoc, hoB, hs.below hx1, hsc, hsB, by omega⟩
  rw [show (w.alloc (.cells (Array.replicate n (.int .i64 0)) 3)).alloc (.cells #[.slice oA m oC, .map none, .slice sA n sC, .slice (some ⟨w.heap.size, 0, none⟩) n n] 55) = W1 from hW1.symm]
  obtain ⟨gO, hgO⟩ : ∃ gO, gO = w.heap.size := ⟨_, rfl⟩
  rw [← hgO] at hF0 ⊢
  have HgO := Lib.hid hgO
  clear hW1 hr0 hr1 hgO ho hs
  go_loopw [19] (fun i wr => ∃ (j : Nat) (L : List Int), j ≤ n ∧ i = .int .i64 j ∧ FA wr (gO + 1) gO (.map none) oA oC o sA sC S L ∧ (∀ r (h : r < L.length), r < j → L[r] = -1) ∧ Ext w wr) (fun i _ => n - (intOf i).toNat)
  case atStart => exact ⟨0, _, by omega, rfl, hF0, fun r h h2 => by omega, hx1⟩
  case round =>
    clear hF0 hx1 W1
    obtain ⟨j, L, hj, rfl, hF, hL, hE⟩ := hrel
    have hlen := hF.len
    have c3 := hF.c3
    rw [← Hn.out] at hlen c3
    by_cases hjn : j < n
    · have ij : (0 : Int) ≤ (j : Int) := by omega
      have ij2 : (j : Int) < (n : Int) := by omega
      have hjl : j < L.length := by omega
      have cj := hF.out.cell hjl
      have fj := hF.out.free j
      have hF2 := hF.put j (-1)
      have Hlen := Lib.hid hlen
      have HL := Lib.hid hL
      have hgw : w.heap.size ≤ gO := by have := HgO.out; omega
      clear hlen hL
      go_wp2_with fail
      go_roundw
      case rel => exact ⟨j + 1, L.set j (-1), by omega, by go_num, hF2, fun r h h2 => by
        rw [List.length_set] at h
        rw [List.getElem_set]
        split
        · rfl
        · exact HL.out r h (by omega), hE.setCell hgw _⟩
      case measure => simp [intOf]; omega
    · obtain rfl : j = n := by omega
      have he : L = List.replicate j (-1) := List.ext_getElem (by rw [hlen, List.length_replicate]) fun r h1 h2 => by rw [hL r h1 (by omega), List.getElem_replicate]
      rw [he] at hF
      have HF := Lib.hid hF
      clear hlen hL he hF c3
      go_wp2_with fail
      rw [HgO.out]
      have HF2 := HF.out
      rw [HgO.out] at HF2
      go_ret
      exact ⟨rfl, HF2, hE⟩
theorem sumInfoZ {z : List UInt8} (h : z.length = 32) : (Try.prog.info? 31).map (·.size) = some (bvs z).toArray.size := by
  rw [show (bvs z).toArray.size = 32 by rw [List.size_toArray, bvs_len, h]]; kernel_rfl
theorem sumOneZ (z : List UInt8) : (bvs z).toArray.all (·.oneCell') = true := by
  rw [Array.all_eq_true_iff_forall_mem]
  intro x hx
  exact bvs_one z x (by simpa using hx)
theorem ex_load_rowZ {P : Program} {o : Oper} {a : Act} {w : World} (ty : TypeId) (x : Operand) (ho : o.op = .load ty x)
    (g : Nat) (hx : a.eval x = .pointer (some ⟨g, 0, none⟩)) (t : TypeId) (cs : Array Value) (fr : Nat × Nat) (d : TypeDesc) (hg : w.heap[g]? = some (.cells cs t fr))
    (hu : P.underlying ty = some d) (hd : (match d with | .struct _ | .array _ _ => true | _ => false) = true) (hi : (P.info? ty).map (·.size) = some cs.size) :
    (execOp a.eval o).run P w = .ok (.value (.agg cs)) w :=
  ex_load_cellsG ty x ho ⟨g, 0, none⟩ hx cs d (fun j u hj => by rw [Addr.add_lit, cell_of_row w g _ _ _ _ hg, Nat.zero_add]; exact hj) hu hd hi
theorem guardSum (w : World) (x y : Operand) (a b : Array Value) : (eqGuard .eql 31 x y (.agg a) (.agg b)).run Try.prog w = .ok () w := by
  have h : Try.prog.eqGuardType Try.prog.depth 31 = false := by kernel_rfl
  unfold eqGuard
  simp [h]
theorem ex_eqlArr {P : Program} {o : Oper} {a : Act} {w : World} {t u : TypeId} {x y : Operand} {p q : Value} {b : Bool} (ho : o.op = .binOp .eql t x y u) (hx : a.eval x = p) (hy : a.eval y = q) (hr : (binOp .eql t p q).run P w = .ok (.bool b) w) (hg : (eqGuard .eql t x y p q).run P w = .ok () w) :
    (execOp a.eval o).run P w = .ok (.value (.bool b)) w := by
  unfold execOp
  simp only [ho, hx, hy, Sem.run_bind]
  rw [hg]
  simp only [Result.andThen_ok]
  rw [hr]
  rfl
theorem sg_strong {w : World} {p : Addr} {s : Sg} (hc : ∀ j u, (s.cells)[j]? = some u → w.cell? (p.add j) = some u) (j : Nat) (u : Value) (hj : (bvs s.strong).toArray[j]? = some u) : w.cell? (Addr.add ⟨p.block, p.off + 1, none⟩ j) = some u := by
  have h := hc (j + 1) u (by simpa [Sg.cells, Sg.cl] using hj)
  have e : Addr.add ⟨p.block, p.off + 1, none⟩ j = p.add (j + 1) := by
    rw [Addr.add_lit]
    unfold Addr.add
    rw [if_neg (by omega)]
    congr 1
    omega
  rw [e]; exact h
/-! ### try -/

/-- The answers, and what is left to be found, when the blocks of l were looked at. -/
def Fd.mark (hit : Nat → Bool) (at_ : Int) : List Int → List Int → List Int
  | L, [] => L
  | L, i :: l => Fd.mark hit at_ (if hit i.toNat then L.set i.toNat at_ else L) l
theorem Fd.mark_snoc (hit : Nat → Bool) (at_ : Int) (l : List Int) (i : Int) : ∀ L, Fd.mark hit at_ L (l ++ [i]) = if hit i.toNat then (Fd.mark hit at_ L l).set i.toNat at_ else Fd.mark hit at_ L l := by
  induction l with
  | nil => intro L; rfl
  | cons x l ih => intro L; exact ih _
theorem Fd.mark_len (hit : Nat → Bool) (at_ : Int) (l : List Int) : ∀ L, (Fd.mark hit at_ L l).length = L.length := by
  induction l with
  | nil => intro L; rfl
  | cons x l ih => intro L; rw [Fd.mark, ih]; split <;> simp
def Fd.left (hit : Nat → Bool) (l : List Int) : List Int := l.filter fun i => !hit i.toNat
def Fd.hit (S : List Sg) (z : List UInt8) (i : Nat) : Bool := match S[i]? with | some s => s.strong == z | none => false
set_option maxRecDepth 100000 in
set_option maxHeartbeats 1000000 in
theorem try_any (gf gO gm B : Nat) (oA : Option Addr) (oC : Nat) (o : List UInt8) (sA : Option Addr) (sC : Nat) (S : List Sg) (L : List Int) (f : Int → List Int) (es : Array MapEntry) (clock : Nat) (k n s : Nat) (w : World)
    (hF : FA w gf gO (.map (some gm)) oA oC o sA sC S L) (hM : MR w gm .u32 B f es clock) (hfm : gf < gm) (hmB : gm < B) (hBw : B ≤ w.heap.size) (hk : k + n ≤ o.length) (hn : 1 ≤ n) (hol : o.length ≤ 100000) (hs : s < 4294967296) (hS : S.length ≤ 2048)
    (hf : ∀ a, ∀ x ∈ f a, 0 ≤ x ∧ x < (S.length : Int)) (hfl : ∀ a, (f a).length ≤ 2048) :
    Calls Try.prog 31 #[.pointer (some ⟨gf, 0, none⟩), .int .i64 (k : Int), .int .i64 (n : Int), .int .u32 (s : Int)] w fun e w' => e = .returned (.tuple #[]) ∧
      (∃ es' clock', FA w' gf gO (.map (some gm)) oA oC o sA sC S (Fd.mark (Fd.hit S (Sha.sum (Sg.win o k n))) (k : Int) L (f (s : Int))) ∧ MR w' gm .u32 B (fun b => if b = (s : Int) then Fd.left (Fd.hit S (Sha.sum (Sg.win o k n))) (f (s : Int)) else f b) es' clock') ∧
      Turn (fun i => i = gO ∨ i = gm) w w' := by
  have hlook := hM.look (P := Try.prog) Try.underlying53 Try.underlying29 (by go_simp) (s : Int) (by simp [Lit.wf, IntKind.min, IntKind.max, IntKind.bits, IntKind.signed]; omega)
  obtain ⟨A1, c1, hrun, hA1, hB1⟩ := hlook
  have c_1 := hF.c1
  have hfls := hfl (s : Int)
  have hfs := hf (s : Int)
  obtain ⟨l, hl⟩ : ∃ l, l = f (s : Int) := ⟨_, rfl⟩
  rw [← hl] at hrun hA1 hB1 hfls hfs ⊢
  have Hl := Lib.hid hl
  by_cases hl0 : l = []
  · have hfe : (fun b => if b = (s : Int) then Fd.left (Fd.hit S (Sha.sum (Sg.win o k n))) l else f b) = f := by
      funext b
      split
      · rename_i e; rw [e, ← hl, hl0]; rfl
      · rfl
    rw [hfe, hl0]
    rw [hl0] at hrun
    have HF := Lib.hid hF
    have HM := Lib.hid hM
    clear hfe hl hl0 hF hM hfs hA1 hB1
    simp only [List.length_nil] at hrun
    go_enter Try.func31, Try.ntmps31
    go_wp2_with fail
    refine bodyPost_ret (results_none rfl _ _ _) rfl ?_
    exact ⟨rfl, ⟨_, _, HF.out, HM.out⟩, Turn.refl _ _⟩
  · have c_0 := hF.c0
    have hlp : 0 < l.length := List.length_pos_iff.2 hl0
    have hlpI : ¬ (l.length : Int) = 0 := by omega
    have hlpN : ¬ l.length = 0 := by omega
    have hoc := hF.oldc
    have i1 : IntKind.i64.wrap ((k : Int) + (n : Int)) = ((k + n : Nat) : Int) := by rw [IntKind.wrap_i64]; omega
    have i2 : ¬ oC = k := by omega
    obtain ⟨b, hb⟩ : ∃ b, b = Sg.win o k n := ⟨_, rfl⟩
    obtain ⟨A2, hA2⟩ : ∃ A2 : Option Addr, A2 = oA.map (fun x => x.add k) := ⟨_, rfl⟩
    have hbl : b.length = n := by rw [hb, Sg.win_len hk]
    have hrd : RdB w A2 b := by
      have h1 := hF.old.cut (k := k) (m := k + n) (by omega) hk (c := oC) (by omega)
      rw [if_neg i2] at h1
      rw [hA2, hb]
      unfold Sg.win
      rwa [List.drop_take, Nat.add_sub_cancel_left] at h1
    have hsha := sha_sum (some ⟨w.heap.size, 0, none⟩) [⟨A2, b, oC - k⟩] 1 _ (RdL.one w 22 A2 b (oC - k) hrd) (by simp) (by simp [cat]; omega)
    rw [hbl, show cat [(⟨A2, b, oC - k⟩ : Sl)] = b by simp [cat]] at hsha
    simp only [List.length_singleton] at hsha
    obtain ⟨z, hz⟩ : ∃ z, z = Sha.sum b := ⟨_, rfl⟩
    have hzl : z.length = 32 := by rw [hz]; exact Sha.sum_len b
    rw [← hb, ← hz]
    rw [← hz] at hsha
    obtain ⟨hit, hhit⟩ : ∃ hit, hit = Fd.hit S z := ⟨_, rfl⟩
    rw [← hhit]
    have Hhit := Lib.hid hhit
    obtain ⟨oL, hoL⟩ : ∃ oL, oL = o.length := ⟨_, rfl⟩
    rw [← hoL] at c_0 hk hol hoc
    have hsub : k + n - k = n := by omega
    have HA2 := Lib.hid hA2
    have HF := Lib.hid hF
    have HM := Lib.hid hM
    have HoL := Lib.hid hoL
    have Hfs := Lib.hid hfs
    have HA1 := Lib.hid hA1
    have HB1 := Lib.hid hB1
    have kI : (0 : Int) ≤ (k : Int) := by omega
    clear hl hl0 hF hM hfs hA1 hB1 hA2 hb hz hoL hrd hhit
    go_enter Try.func31, Try.ntmps31
    go_wp2_with (first | (go_at_call 19; (try rw [← HA2.out]); refine hsha.mono ?_; refine Hid.out ?_))
    rintro e2 w2 ⟨rfl, hx2⟩
    have hE2 := Ext.tr (Ext.alloc w _) hx2
    clear hsha hx2
    refine Lib.hid ?_
    go_wp2_with (refine wpList_store_row rfl 31 (.tmp 9) (.tmp 32) rfl w2.heap.size (bvs z).toArray rfl rfl 31 _ (heap_alloc_new w2 _) (sumInfoZ hzl) (by simp [bvs_len, hzl]) (sumOneZ z) ?_; rw [setRow_alloc])
    obtain ⟨w3, hw3⟩ : ∃ w3, w3 = w2.alloc (.cells (bvs z).toArray 31) := ⟨_, rfl⟩
    obtain ⟨gz, hgz⟩ : ∃ gz, gz = w2.heap.size := ⟨_, rfl⟩
    have hz3 : w3.heap[gz]? = some (.cells (bvs z).toArray 31 (0, 0)) := by rw [hw3, hgz]; exact heap_alloc_new w2 _
    have hE3 : Ext w w3 := by rw [hw3]; exact Ext.tr hE2 (Ext.alloc _ _)
    rw [← hw3, ← hgz]
    have hgzw : w.heap.size ≤ gz := by have := hE2.size; omega
    have hw3s : w.heap.size ≤ w3.heap.size := hE3.size
    have Hz3 := Lib.hid hz3
    have hgOf := HF.out.ord
    obtain ⟨nl, hnl⟩ : ∃ nl, nl = l.length := ⟨_, rfl⟩
    rw [← hnl] at hfls hlp hlpI hlpN hrun ⊢
    have Hnl := Lib.hid hnl
    clear hw3 hgz hE2 hz3 hnl c_0 c_1 hrun
    go_loopw [10, 35] (fun v i wr => ∃ (j : Nat) (m : Nat) (A' : Option Addr) (c' : Nat), j ≤ nl ∧ i = .int .i64 j ∧ m = (Fd.left hit (l.take j)).length ∧ v = .slice A' m c' ∧ FA wr gf gO (.map (some gm)) oA oC o sA sC S (Fd.mark hit (k : Int) L (l.take j)) ∧ Own wr w.heap.size 3 1 A' m c' (ivs (Fd.left hit (l.take j))) ∧
      wr.heap[gz]? = some (.cells (bvs z).toArray 31 (0, 0)) ∧ Turn (fun i => i = gO) w wr) (fun _ i _ => nl - (intOf i).toNat)
    case atStart => exact ⟨0, 0, none, 0, by omega, rfl, rfl, rfl, HF.out.ext hE3, Own.none_ _ _ _ _ _, Hz3.out, Turn.ext hE3⟩
    case round =>
      obtain ⟨j, m, A3, c3, hj, rfl, hm, rfl, hF3, hO3, hz3, hT3⟩ := hrel
      by_cases hjn : j < nl
      · have ij : (0 : Int) ≤ (j : Int) := by omega
        have ij2 : (j : Int) < (nl : Int) := by omega
        have hjl : j < l.length := by have := Hnl.out; omega
        have hA1r : RdI wr A1 l := HA1.out.turn hT3 (fun hx ad hA e => by have := HB1.out ad hA hx; omega)
        obtain ⟨ad1, rfl, cj⟩ := hA1r.at_ hjl
        obtain ⟨x, hx⟩ : ∃ x, x = l[j] := ⟨_, rfl⟩
        have hxr := Hfs.out x (by rw [hx]; exact List.getElem_mem _)
        rw [← hx] at cj
        obtain ⟨i, rfl⟩ : ∃ i : Nat, x = i := ⟨x.toNat, by omega⟩
        have hi : i < S.length := by omega
        have hFd := hF3.ext (Ext.drew wr)
        obtain ⟨ad2, hs2, cs, hok⟩ := hFd.sig.at_ hi
        obtain ⟨sg, hsg⟩ : ∃ sg, sg = S[i] := ⟨_, rfl⟩
        rw [← hsg] at cs hok
        have c_2 := hFd.c2
        rw [hs2] at c_2
        obtain ⟨ns, hns⟩ : ∃ ns, ns = S.length := ⟨_, rfl⟩
        rw [← hns] at c_2
        have ii : (0 : Int) ≤ (i : Int) := by omega
        have ii2 : (i : Int) < (ns : Int) := by omega
        have hzd : wr.drew.heap[gz]? = some (.cells (bvs z).toArray 31 (0, 0)) := hz3
        have Hzd := Lib.hid hzd
        have Hcs := Lib.hid cs
        have Hm := Lib.hid hm
        have Hx := Lib.hid hx
        have Hsg := Lib.hid hsg
        have hnsS : ns ≤ 2048 := by omega
        clear hA1r hzd cs hm hx hsg hs2 hFd
        go_wp2_with fail
        refine rg_start (by kernel_rfl) ?_
        refine rg_take 0 rfl (by kernel_rfl) (by kernel_rfl) (by kernel_rfl) (fun _ _ _ _ h => h) (by rfl) ⟨_, fun w' hx => by (go_simp <;> with_reducible rfl), ?_⟩
        simp only [Act.put, List.setIfInBounds_toArray, List.set_cons_zero, List.set_cons_succ]
        refine rg_take 1 rfl (by kernel_rfl) (by kernel_rfl) (by kernel_rfl) (fun _ _ _ _ h => h) (by rfl) ⟨_, fun w' hx => by (go_simp <;> with_reducible rfl), ?_⟩   -- t40 := nilCheck t39
        simp only [Act.put, List.setIfInBounds_toArray, List.set_cons_zero, List.set_cons_succ]
        refine rg_take 2 rfl (by kernel_rfl) (by kernel_rfl) (by kernel_rfl) (fun _ _ _ _ h => h) (by rfl) ⟨_, fun w' hx => by (go_simp <;> with_reducible rfl), ?_⟩   -- t41 := fieldAddr 55 t40 2
        simp only [Act.put, List.setIfInBounds_toArray, List.set_cons_zero, List.set_cons_succ]
        refine rg_take 3 rfl (by kernel_rfl) (by kernel_rfl) (by kernel_rfl) (fun _ _ _ _ h => h) (by rfl) ⟨_, fun w' hx => by have hcx := hx.load c_2; (go_simp <;> with_reducible rfl), ?_⟩
        simp only [Act.put, List.setIfInBounds_toArray, List.set_cons_zero, List.set_cons_succ]
        refine rg_take 4 rfl (by kernel_rfl) (by kernel_rfl) (by kernel_rfl) (fun _ _ _ _ h => h) (by rfl) ⟨_, fun w' hx => by (go_simp <;> with_reducible rfl), ?_⟩
        simp only [Act.put, List.setIfInBounds_toArray, List.set_cons_zero, List.set_cons_succ]
        refine rg_take 5 rfl (by kernel_rfl) (by kernel_rfl) (by kernel_rfl) (fun _ _ _ _ h => h) (by rfl) ⟨_, fun w' hx => by (go_simp <;> with_reducible rfl), ?_⟩   -- t44 := indexAddr 24 t42 t43
        simp only [Act.put, List.setIfInBounds_toArray, List.set_cons_zero, List.set_cons_succ]
        refine rg_take 6 rfl (by kernel_rfl) (by kernel_rfl) (by kernel_rfl) (fun _ _ _ _ h => h) (by rfl) ⟨_, fun w' hx => by (go_simp <;> with_reducible rfl), ?_⟩   -- t45 := fieldAddr 33 t44 1
        simp only [Act.put, List.setIfInBounds_toArray, List.set_cons_zero, List.set_cons_succ]
        refine rg_take 7 rfl (by kernel_rfl) (by kernel_rfl) (by kernel_rfl) (fun _ _ _ _ h => h) (by rfl) ⟨.agg (bvs sg.strong).toArray, fun w' hx => ex_load_cellsG 31 (.tmp 45) rfl _ rfl (bvs sg.strong).toArray _ (fun j u hj => hx.load (sg_strong Hcs.out j u hj)) Try.underlying31 rfl (sumInfoZ hok.len), ?_⟩
        simp only [Act.put, List.setIfInBounds_toArray, List.set_cons_zero, List.set_cons_succ]
        refine rg_take 8 rfl (by kernel_rfl) (by kernel_rfl) (by kernel_rfl) (fun _ _ _ _ h => h) (by rfl) ⟨.agg (bvs z).toArray, fun w' hx => ex_load_rowZ 31 (.tmp 9) rfl gz rfl 31 _ (0, 0) _ ((hx.block gz (lt_of_heap Hzd.out)).trans Hzd.out) Try.underlying31 rfl (sumInfoZ hzl), ?_⟩
        simp only [Act.put, List.setIfInBounds_toArray, List.set_cons_zero, List.set_cons_succ]
        refine rg_take 9 rfl (by kernel_rfl) (by kernel_rfl) (by kernel_rfl) (fun _ _ _ _ h => h) (by rfl) ⟨.bool (sg.strong == z), fun w' hx => ex_eqlArr rfl rfl rfl (run_eqSum _ _ _ hok.len hzl) (guardSum _ _ _ _ _), ?_⟩
        simp only [Act.put, List.setIfInBounds_toArray, List.set_cons_zero, List.set_cons_succ]
        refine rg_done (by kernel_rfl) ?_
        have htk : l.take (j + 1) = l.take j ++ [(i : Int)] := by rw [List.take_add_one, List.getElem?_eq_getElem hjl, ← Hx.out]; rfl
        have hhi : hit i = (sg.strong == z) := by
          rw [Hhit.out]
          unfold Fd.hit
          rw [List.getElem?_eq_getElem hi, ← Hsg.out]
        have hmk : Fd.mark hit (k : Int) L (l.take (j + 1)) = if sg.strong == z then (Fd.mark hit (k : Int) L (l.take j)).set i (k : Int) else Fd.mark hit (k : Int) L (l.take j) := by
          rw [htk, Fd.mark_snoc, Int.toNat_natCast, hhi]
        have hlf : Fd.left hit (l.take (j + 1)) = if sg.strong == z then Fd.left hit (l.take j) else Fd.left hit (l.take j) ++ [(i : Int)] := by
          rw [htk, Fd.left, List.filter_append]
          simp only [List.filter_cons, Int.toNat_natCast, hhi, List.filter_nil]
          cases (sg.strong == z) <;> simp [Fd.left]
        have hFd := hF3.ext (Ext.drew wr)
        have hTd : Turn (fun i => i = gO) w wr.drew := hT3.tr (Turn.ext (Ext.drew wr))
        have hOd := hO3.below (Ext.drew wr)
        have hlm := Fd.mark_len hit (k : Int) (l.take j) L
        have hFl := hFd.len
        have c_3 := hFd.c3
        rw [← hns] at c_3
        obtain ⟨xv, ci⟩ : ∃ xv, wr.drew.cell? ⟨gO, i, none⟩ = some (.int .i64 xv) := ⟨_, hFd.out.cell (j := i) (by omega)⟩
        have fi := hFd.out.free i
        have hput := hFd.put i (k : Int)
        obtain ⟨mk, hmkd⟩ : ∃ mk, mk = Fd.mark hit (k : Int) L (l.take j) := ⟨_, rfl⟩
        obtain ⟨lf, hlfd⟩ : ∃ lf, lf = Fd.left hit (l.take j) := ⟨_, rfl⟩
        rw [← hmkd] at hmk hput hFd
        rw [← hlfd] at hlf hOd
        have hmlf : m = lf.length := by rw [hlfd]; exact Hm.out
        have Hmk := Lib.hid hmk
        have Hlf := Lib.hid hlf
        have Hmlf := Lib.hid hmlf
        have hm2k : m ≤ 2048 := by
          rw [Hm.out]
          have h1 : (Fd.left hit (l.take j)).length ≤ (l.take j).length := List.length_filter_le _ _
          have h2 : (l.take j).length ≤ l.length := by rw [List.length_take]; omega
          have := Hnl.out
          omega
        have Hzd2 := Lib.hid Hzd.out
        have hEi : Ext wr.drew (wr.drew.alloc (.cells #[.int .i64 (i : Int)] 3)) := Ext.alloc _ _
        have hws := hTd.size
        generalize hbo : (sg.strong == z) = bo at *
        clear hmk hlf htk hhi hmkd hlfd hmlf hbo hF3 hT3 hO3 hFl hlm hz3 Hcs cj c_2 Hm
        cases bo
        · have hOi := hOd.below hEi
          have hri : Rd (wr.drew.alloc (.cells #[.int .i64 (i : Int)] 3)) 1 (some ⟨wr.drew.heap.size, 0, none⟩) 1 (ivs [(i : Int)]) := Rd.new wr.drew 3 (ivs [(i : Int)])
          have hsi := hEi.size
          rw [if_neg (by decide)] at Hmk Hlf
          have hivs : ivs (lf ++ [(i : Int)]) = ivs lf ++ ivs [(i : Int)] := ivs_app _ _
          have Hivs := Lib.hid hivs
          clear hput hivs ci fi c_3
          go_wp2_with (first | (refine wpList_app rfl (.tmp 56) (.tmp 58) 35 rfl elemI w.heap.size A3 m c3 (ivs lf) rfl (some ⟨wr.drew.heap.size, 0, none⟩) 1 1 (ivs [(i : Int)]) rfl (m + 1) rfl (ivs (lf ++ [(i : Int)])) Hivs.out hOi hri (ivs_one _) (by omega) (by omega) (Nat.le_trans hws hEi.size) ?_; intro A5 c5 w5 ho5 hg5 hr5; refine Hid.out ?_))
          have hE5 : Below w.heap.size wr.drew w5 := (hEi.mono hws).grown hg5 (by omega) (fun k hk => (hOi.row_lt k hk).1)
          have hT5 : Turn (fun i => w.heap.size ≤ i) wr.drew w5 := ⟨hE5.os, hE5.tape, hE5.output, hE5.size, fun i hi hn => hE5.block i (by omega)⟩
          have hF5 := hFd.turn hT5 (fun i hi => by omega)
          have hT5w : Turn (fun i => i = gO) w w5 := ⟨hE5.os.trans hTd.os, hE5.tape.trans hTd.tape, hE5.output.trans hTd.output, Nat.le_trans hTd.size hE5.size, fun i hi hn => (hE5.block i hi).trans (hTd.block i hi hn)⟩
          have hz5 : w5.heap[gz]? = some (.cells (bvs z).toArray 31 (0, 0)) := by
            refine (hg5.block gz (lt_of_heap (((hEi.block gz (lt_of_heap Hzd2.out)).trans Hzd2.out))) (fun e => ?_)).trans ((hEi.block gz (lt_of_heap Hzd2.out)).trans Hzd2.out)
            obtain ⟨cur, hcur⟩ := hOi.row_is e.symm
            rw [(hEi.block gz (lt_of_heap Hzd2.out)).trans Hzd2.out] at hcur
            injection hcur with e1
            injection e1 with _ e2
            exact absurd e2 (by decide)
          clear hE5 hT5 hg5 hr5 hOi hri hFd hTd hOd
          refine Lib.hid ?_
          go_wp2_with fail
          go_roundw
          case rel => exact ⟨j + 1, m + 1, A5, c5, by omega, by go_num, by rw [Hlf.out, List.length_append, ← Hmlf.out]; rfl, rfl, by rw [Hmk.out]; exact hF5, by rw [Hlf.out]; exact ho5, hz5, hT5w⟩
          case measure => simp [intOf]; omega
        · rw [if_pos rfl] at Hmk Hlf
          have hg6 := IRow.grown wr.drew gO i (.int .i64 (k : Int))
          have hT6 : Turn (fun i => i = gO) w (wr.drew.setCell ⟨gO, i, none⟩ (.int .i64 (k : Int))) := hTd.tr (Turn.grown hg6 rfl)
          have hO6 := hOd.kept hg6 (fun r hr e => by injection e with e; have := (hOd.row_lt r hr).1; omega)
          have hz6 := (hg6.block gz (lt_of_heap Hzd2.out) (fun e => by injection e with e; omega)).trans Hzd2.out
          clear hFd hTd hOd hg6 hEi
          go_wp2_with fail
          go_roundw
          case rel => exact ⟨j + 1, m, A3, c3, by omega, by go_num, by rw [Hlf.out, ← Hmlf.out], rfl, by rw [Hmk.out]; exact hput, by rw [Hlf.out]; exact hO6, hz6, hT6⟩
          case measure => simp [intOf]; omega
      · obtain rfl : j = nl := by omega
        rw [List.take_of_length_le (by have := Hnl.out; omega)] at hm hF3 hO3
        have hMr := HM.out.turn hT3 (by omega) (fun i hi => by omega)
        have c_1 := hF3.c1
        have hrd3 : RdI wr A3 (Fd.left hit l) := by
          have := hO3.rd
          rw [hm] at this
          exact this
        have hput := hMr.put (P := Try.prog) (A' := A3) (c' := c3) (n := m) (l := Fd.left hit l) Try.underlying53 Try.underlying29 (s : Int) (by simp [Lit.wf, IntKind.min, IntKind.max, IntKind.bits, IntKind.signed]; omega) hm hrd3
          (fun ad hA hne => by
            have hc : c3 ≠ 0 := fun e0 => by have := hO3.nc; have := List.length_pos_iff.2 hne; omega
            have := (hO3.row_lt ad.block (by unfold ownRow; rw [if_neg hc, hA]; rfl)).1
            omega) hmB (fun b => if b = (s : Int) then Fd.left hit l else f b) (fun b => rfl)
        obtain ⟨es', clock', hrun, hM4, hg4⟩ := hput
        have hT4 : Turn (fun i => i = gO ∨ i = gm) w (setBlock wr gm (.map es' clock')) := (hT3.mono (fun i hi _ => .inl hi)).tr (Turn.grown hg4 (.inr rfl))
        have hF4 := hF3.turn (K := fun i => i = gm) (Turn.grown hg4 rfl) (fun i hi => by omega)
        have HF4 := Lib.hid hF4
        have HM4 := Lib.hid hM4
        have HT4 := Lib.hid hT4
        clear hF3 hO3 hMr hrd3 hM4 hg4 hT4 hF4 hm hz3 hT3
        go_wp2_with fail
        refine bodyPost_end (results_none rfl _ _ _) rfl ?_
        exact ⟨rfl, ⟨_, _, HF4.out, HM4.out⟩, HT4.out⟩
end Go.Proofs.Ytnagbhaknmoilaa
