/- Two operations that make memory may both come up: both orders. -/
import Derived.Test.YtafffpkjpghnjaaReg
namespace Go.Proofs.Ytafffpkjpghnjaa
open Go.RowKit
section
variable {P : Program} {ops : Array Oper} {md : Region.Mode} {Q : Exit → Act → World → Prop}

theorem rg_two (i j : Nat) {fuel : Nat} {listed : Array Bool} {a : Act} {w : World} (hr : Region.ready md ops listed = [i, j])
    (h1 : wpOp P ops Q i (fun a' w' => (Ext w w' ∨ waits md ops listed i = true) ∧ wpAnyR P md ops Q fuel (listed.setIfInBounds i true) a' w') a w)
    (h2 : wpOp P ops Q j (fun a' w' => (Ext w w' ∨ waits md ops listed j = true) ∧ wpAnyR P md ops Q fuel (listed.setIfInBounds j true) a' w') a w) : wpAnyR P md ops Q (fuel + 1) listed a w := by
  refine ⟨fun h0 => absurd (hr ▸ h0) (by simp), fun k hk => ?_⟩
  rw [hr] at hk
  rcases List.mem_cons.1 hk with rfl | hk
  · exact h1
  · obtain rfl : k = j := by simpa using hk
    exact h2

theorem op_call (i : Nat) {oi : Oper} {fuel : Nat} {listed : Array Bool} {a : Act} {w : World} {f : FuncId} {args : Array Value} {R : Ending → World → Prop} (hc : Calls P f args w R) (hi0 : ops.toList[i]? = some oi)
    (hw : Region.wanted oi (yielded ops a.tmps) = true) (hx : (execOp a.eval oi).run P w = .ok (.enter f args) w)
    (h : ∀ e w', R e w' → ∃ v, e = .returned v ∧ Ext w w' ∧ wpAnyR P md ops Q fuel (listed.setIfInBounds i true) (a.put oi.dst v) w') :
    wpOp P ops Q i (fun a' w' => (Ext w w' ∨ waits md ops listed i = true) ∧ wpAnyR P md ops Q fuel (listed.setIfInBounds i true) a' w') a w := by
  have hi : ops[i]? = some oi := by rw [← hi0]; simp
  unfold wpOp
  rw [hi]
  show if _ then _ else _
  rw [if_pos hw]
  refine .inl ?_
  unfold Oper.wp
  rw [hx, Oper.upon_enter]
  refine hc.mono fun e w' hR => ?_
  obtain ⟨v, rfl, h1, h2⟩ := h e w' hR
  exact ⟨.inl h1, h2⟩

theorem op_make (i : Nat) {oi : Oper} {fuel : Nat} {listed : Array Bool} {a : Act} {w : World} (hi0 : ops.toList[i]? = some oi)
    (hw : Region.wanted oi (yielded ops a.tmps) = true)
    (h : ∃ v w', (execOp a.eval oi).run P w = .ok (.value v) w' ∧ Ext w w' ∧ wpAnyR P md ops Q fuel (listed.setIfInBounds i true) (a.put oi.dst v) w') :
    wpOp P ops Q i (fun a' w' => (Ext w w' ∨ waits md ops listed i = true) ∧ wpAnyR P md ops Q fuel (listed.setIfInBounds i true) a' w') a w := by
  have hi : ops[i]? = some oi := by rw [← hi0]; simp
  obtain ⟨v, w', hx, h1, h2⟩ := h
  unfold wpOp
  rw [hi]
  show if _ then _ else _
  rw [if_pos hw]
  refine .inl ?_
  unfold Oper.wp
  rw [hx, Oper.upon_value]
  exact ⟨.inl h1, h2⟩
theorem op_call2 (i : Nat) {oi : Oper} {fuel : Nat} {listed : Array Bool} {a : Act} {w : World} {f : FuncId} {args : Array Value} {R : Ending → World → Prop} (hi0 : ops.toList[i]? = some oi)
    (hw : Region.wanted oi (yielded ops a.tmps) = true) (hx : (execOp a.eval oi).run P w = .ok (.enter f args) w) (hc : Calls P f args w R)
    (h : ∀ e w', R e w' → ∃ v, e = .returned v ∧ Ext w w' ∧ wpAnyR P md ops Q fuel (listed.setIfInBounds i true) (a.put oi.dst v) w') :
    wpOp P ops Q i (fun a' w' => (Ext w w' ∨ waits md ops listed i = true) ∧ wpAnyR P md ops Q fuel (listed.setIfInBounds i true) a' w') a w := op_call i hc hi0 hw hx h
theorem rg_call2 (i : Nat) {oi : Oper} {fuel : Nat} {listed : Array Bool} {a : Act} {w : World} {f : FuncId} {args : Array Value} {R : Ending → World → Prop} (hi0 : ops.toList[i]? = some oi)
    (hr : Region.ready md ops listed = [i]) (hw : Region.wanted oi (yielded ops a.tmps) = true)
    (hx : (execOp a.eval oi).run P w = .ok (.enter f args) w) (hc : Calls P f args w R)
    (h : ∀ e w', R e w' → ∃ v, e = .returned v ∧ Ext w w' ∧ wpAnyR P md ops Q fuel (listed.setIfInBounds i true) (a.put oi.dst v) w') : wpAnyR P md ops Q (fuel + 1) listed a w := rg_call i hc hi0 hr hw hx h

/-- Two orders meet again: what comes behind them is shown once, whatever the two results are. -/
theorem rg_join {fuel : Nat} {listed : Array Bool} {a : Act} {w : World} (w0 : World) (i1 c1 i2 c2 : Nat) (t1 t2 t3 t4 : Tmp) (s1 s2 : Value)
    (h : (∀ v u W, Ext w0 W → wpAnyR P md ops Q fuel ((((listed.setIfInBounds i1 true).setIfInBounds c1 true).setIfInBounds i2 true).setIfInBounds c2 true) ((((a.put (some t1) v).put (some t2) s1).put (some t3) u).put (some t4) s2) W) → wpAnyR P md ops Q (fuel + 4) listed a w)
    (rest : ∀ v u W, Ext w0 W → wpAnyR P md ops Q fuel ((((listed.setIfInBounds i1 true).setIfInBounds c1 true).setIfInBounds i2 true).setIfInBounds c2 true) ((((a.put (some t1) v).put (some t2) s1).put (some t3) u).put (some t4) s2) W) : wpAnyR P md ops Q (fuel + 4) listed a w := h rest
theorem rg_join5 {fuel : Nat} {listed : Array Bool} {a : Act} {w : World} (w0 : World) (i0 i1 c1 i2 c2 : Nat) (t0 t1 t2 t3 t4 : Tmp) (s1 s2 : Value)
    (h : (∀ v0 v u W, Ext w0 W → wpAnyR P md ops Q fuel (((((listed.setIfInBounds i0 true).setIfInBounds i1 true).setIfInBounds c1 true).setIfInBounds i2 true).setIfInBounds c2 true) (((((a.put (some t0) v0).put (some t1) v).put (some t2) s1).put (some t3) u).put (some t4) s2) W) → wpAnyR P md ops Q (fuel + 5) listed a w)
    (rest : ∀ v0 v u W, Ext w0 W → wpAnyR P md ops Q fuel (((((listed.setIfInBounds i0 true).setIfInBounds i1 true).setIfInBounds c1 true).setIfInBounds i2 true).setIfInBounds c2 true) (((((a.put (some t0) v0).put (some t1) v).put (some t2) s1).put (some t3) u).put (some t4) s2) W) : wpAnyR P md ops Q (fuel + 5) listed a w := h rest
/-- The same, with what is known of the two results and of the world. -/
theorem rg_joinP {fuel : Nat} {listed : Array Bool} {a : Act} {w : World} (Φ : Value → Value → World → Prop) (i j : Nat) (t1 t2 : Tmp)
    (h : (∀ v u W, Φ v u W → wpAnyR P md ops Q fuel ((listed.setIfInBounds i true).setIfInBounds j true) ((a.put (some t1) v).put (some t2) u) W) → wpAnyR P md ops Q (fuel + 2) listed a w)
    (rest : ∀ v u W, Φ v u W → wpAnyR P md ops Q fuel ((listed.setIfInBounds i true).setIfInBounds j true) ((a.put (some t1) v).put (some t2) u) W) : wpAnyR P md ops Q (fuel + 2) listed a w := h rest
theorem rg_cast {fuel : Nat} {l l' : Array Bool} {a : Act} {w : World} (h : l = l') (H : wpAnyR P md ops Q fuel l a w) : wpAnyR P md ops Q fuel l' a w := h ▸ H
end
end Go.Proofs.Ytafffpkjpghnjaa
