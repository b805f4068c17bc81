
/- Words for the laws of bodies (layer 6): a body and what Parse made of its bytes; a call that is a region's last. -/

import Derived.Test.YtgfanklhihciaaaSltLive

import Derived.Test.YtgfanklhihciaaaStrCmp

namespace Go.Proofs.Ytgfanklhihciaaa

open Go.RowKit

section

variable {P : Program} {md : Region.Mode} {ops : Array Oper} {Q : Exit → Act → World → Prop}

/-- A call, the only operation that may come up now; it waits for all that came, and may change anything. -/
theorem rg_callL (i : Nat) {oi : Oper} {fuel : Nat} {listed : Array Bool} {a : Act} {w : World} {f : FuncId} {args : Array Value} {R : Ending → World → Prop} (hc : Calls P f args w R) (hi0 : ops.toList[i]? = some oi)
    (hr : Region.ready md ops listed = [i]) (hwt : waits md ops listed i = true) (hw : Region.wanted oi (yielded ops a.tmps) = true)
    (hx : (execOp a.eval oi).run P w = .ok (.enter f args) w)
    (h : ∀ e w', R e w' → ∃ v, e = .returned v ∧ wpAnyR P md ops Q fuel (listed.setIfInBounds i true) (a.put oi.dst v) w') : wpAnyR P md ops Q (fuel + 1) listed a w :=
  rg_last i hi0 hr hwt hw fun K hK => by
    unfold Oper.wp
    rw [hx, Oper.upon_enter]
    refine hc.mono fun e w' hR => ?_
    obtain ⟨v, rfl, h2⟩ := h e w' hR
    exact hK _ _ h2
end

theorem SBody.fixed_cellP (m : SBody) (i : Int) : m.fixed.cellP i = m.cellP i := by
  unfold SBody.cellP SBody.fixed
  split
  · rw [List.getElem?_map]
    cases m.l[i.toNat]? with
    | none => rfl
    | some c => simp [SCell.fix_p]
  · rfl
theorem size_drew (w : World) : w.drew.heap.size = w.heap.size := rfl
/-- What a body and its copy by bytes answer. -/
structure Back (W : World) (g t : Nat) (m : SBody) (n fr : Nat) : Prop where
  lenT : ∀ w2, Ext W w2 → Calls Try.prog 18 #[.pointer (some ⟨t, 0, none⟩)] w2 fun e w' => e = .returned (.int .i64 (n : Int)) ∧ w2 = w'
  lenS : ∀ w2, Ext W w2 → Calls Try.prog 18 #[.pointer (some ⟨g, 0, none⟩)] w2 fun e w' => e = .returned (.int .i64 (n : Int)) ∧ w2 = w'
  freeT : ∀ w2, Ext W w2 → Calls Try.prog 19 #[.pointer (some ⟨t, 0, none⟩)] w2 fun e w' => e = .returned (.int .i64 (fr : Int)) ∧ Ext w2 w'
  freeS : ∀ w2, Ext W w2 → Calls Try.prog 19 #[.pointer (some ⟨g, 0, none⟩)] w2 fun e w' => e = .returned (.int .i64 (fr : Int)) ∧ Ext w2 w'
  bytesT : ∀ w2, Ext W w2 → Calls Try.prog 22 #[.pointer (some ⟨t, 0, none⟩)] w2 (BytesR m.fixed w2)
  bytesS : ∀ w2, Ext W w2 → Calls Try.prog 22 #[.pointer (some ⟨g, 0, none⟩)] w2 (BytesR m w2)
  cellT : ∀ (i : Int) w2, Ext W w2 → Calls Try.prog 20 #[.pointer (some ⟨t, 0, none⟩), .int .i64 i] w2 fun e w' => ∃ A' c', e = .returned (.slice A' (m.cellP i).length c') ∧ Own w' w2.heap.size 5 1 A' (m.cellP i).length c' (bvs (m.cellP i)) ∧ Ext w2 w'
  cellS : ∀ (i : Int) w2, Ext W w2 → Calls Try.prog 20 #[.pointer (some ⟨g, 0, none⟩), .int .i64 i] w2 fun e w' => ∃ A' c', e = .returned (.slice A' (m.cellP i).length c') ∧ Own w' w2.heap.size 5 1 A' (m.cellP i).length c' (bvs (m.cellP i)) ∧ Ext w2 w'
theorem Back.mk' {W : World} {g t : Nat} {m : SBody} {b bs : List UInt8} (hS : SAt W g b m) (hT : SAt W t bs m.fixed) : Back W g t m m.l.length m.free where
  lenT w2 hx := by have := blen_any t bs w2 (hT.ext hx).bb; rwa [hT.n, m.fixed_len] at this
  lenS w2 hx := by have := blen_any g b w2 (hS.ext hx).bb; rwa [hS.n] at this
  freeT w2 hx := by have := free_any t bs m.fixed w2 (hT.ext hx); rwa [m.fixed_free] at this
  freeS w2 hx := free_any g b m w2 (hS.ext hx)
  bytesT w2 hx := sbytes_any t bs m.fixed w2 (hT.ext hx)
  bytesS w2 hx := sbytes_any g b m w2 (hS.ext hx)
  cellT i w2 hx := by
    have := cell_any t bs m.fixed i w2 (hT.ext hx)
    unfold CellR at this
    rw [m.fixed_cellP] at this
    exact this
  cellS i w2 hx := cell_any g b m i w2 (hS.ext hx)
end Go.Proofs.Ytgfanklhihciaaa
