
/- A region that draws its order: as XReg2, but what changes memory need not wait for operations of a list E, whose values are the same in every world. -/

import Derived.Test.YtkpagmfaccmiaaaGreatReg2

namespace Go.Proofs.YtkpagmfaccmiaaaGreat

open Go.RowKit

/-- Operation i waits for all that came, but for moves. -/
def waitsE (E : List Nat) (md : Region.Mode) (ops : Array Oper) (listed : Array Bool) (i : Nat) : Bool :=
  (List.range ops.size).all fun k => !listed.getD k false || (reach md ops ops.size i k || E.contains k)
section

variable {E : List Nat} {P : Program} {ops : Array Oper} {md : Region.Mode} {Q : Exit → Act → World → Prop}

theorem waitsE_less {listed : Array Bool} {i j : Nat} (h : waitsE E md ops (listed.setIfInBounds i true) j = true) : waitsE E md ops listed j = true := by
  unfold waitsE at h ⊢
  rw [List.all_eq_true] at h ⊢
  intro k hk
  have h1 := h k hk
  cases hl : listed.getD k false with
  | false => simp
  | true => rw [getD_set_true hl] at h1; exact h1
/-- Whatever order is picked from here on: behind each operation what was there is as it was, or the operation waits for all that came before it. -/
def wpAnyE (E : List Nat) (P : Program) (md : Region.Mode) (ops : Array Oper) (Q : Exit → Act → World → Prop) : Nat → Array Bool → Act → World → Prop
  | 0, listed, a, w => Region.ready md ops listed = [] ∧ Q .normal a w
  | fuel + 1, listed, a, w =>
    (Region.ready md ops listed = [] → Q .normal a w) ∧
    ∀ i ∈ Region.ready md ops listed, wpOp P ops Q i (fun a' w' => (Ext w w' ∨ waitsE E md ops listed i = true) ∧ wpAnyE E P md ops Q fuel (listed.setIfInBounds i true) a' w') a w

theorem wpAny_of_E : ∀ (fuel : Nat) (listed : Array Bool) (a : Act) (w : World), wpAnyE E P md ops Q fuel listed a w → wpAny P md ops Q fuel listed a w
  | 0, _, _, _, h => h
  | fuel + 1, _, _, _, h => ⟨h.1, fun i hi => wpOp_mono (fun a' w' h' => wpAny_of_E fuel _ a' w' h'.2) (h.2 i hi)⟩

theorem wpAnyE_first {i : Nat} {oi : Oper} {v : Value} (hE : E.contains i = false) (hi : ops[i]? = some oi) (hsel : ∀ (j : Nat) (o : Oper) cs b, ops[j]? = some o → o.op ≠ .select cs b)
    (hQ : ∀ c a w, Q (.panic c) (a.put oi.dst v) w → Q (.panic c) a w) :
    ∀ (fuel : Nat) (listed : Array Bool) (a : Act) (w : World), Closed md ops listed →
      (∀ j oj, ops[j]? = some oj → j ≠ i → listed.getD j true = false → (∀ e ∈ oj.after, Region.binds md e = true → e.on ≠ i) → oi.apart ops oj = true) →
      i ∈ Region.ready md ops listed → YieldsIf P ops (Ext w) oi v a →
      wpAnyE E P md ops Q fuel (listed.setIfInBounds i true) (a.put oi.dst v) w → wpAnyE E P md ops Q (fuel + 1) listed a w := by
  intro fuel
  induction fuel with
  | zero =>
    intro listed a w _ _ hr hy H
    refine ⟨fun h => (by rw [h] at hr; cases hr), fun j hj => ?_⟩
    by_cases hji : j = i
    · subst hji; exact hy.wpOp hi (Ext.refl w) ⟨.inl (Ext.refl w), H⟩
    · have := ready_mono hj hji
      rw [H.1] at this
      cases this
  | succ fuel ih =>
    intro listed a w hcl hfree hr hy H
    refine ⟨fun h => (by rw [h] at hr; cases hr), fun j hj => ?_⟩
    by_cases hji : j = i
    · subst hji; exact hy.wpOp hi (Ext.refl w) ⟨.inl (Ext.refl w), H⟩
    · have h1 := H.2 j (ready_mono hj hji)
      obtain ⟨hjun, oj, hoj, hall⟩ := mem_ready.1 hj
      have hiun := (mem_ready.1 hr).1
      have hilt : i < listed.size := by
        rcases Nat.lt_or_ge i listed.size with h' | h'
        · exact h'
        · simp [Array.getElem?_eq_none h'] at hiun
      have hnot : ∀ e ∈ oj.after, Region.binds md e = true → e.on ≠ i := fun e he hb heq => by
        have h1 := hall e he hb
        rw [heq] at h1
        simp [hilt] at hiun h1
        rw [hiun] at h1; cases h1
      have hnow : waitsE E md ops (listed.setIfInBounds i true) j = true → False := fun hw => by
        unfold waitsE at hw
        have h1 := (List.all_eq_true.1 hw) i (List.mem_range.2 (Array.getElem?_eq_some_iff.1 hi).1)
        have hset : (listed.setIfInBounds i true).getD i false = true := by simp [hilt]
        rw [hset] at h1
        simp only [Bool.not_true, Bool.false_or, Bool.or_eq_true] at h1
        rcases h1 with h1 | h1
        · have h3 := reach_listed hcl _ j oj i hoj hall h1
          simp [hilt] at hiun h3
          rw [hiun] at h3; cases h3
        · rw [hE] at h1; cases h1
      have h2 := wpOp_putIf hoj (hfree j oj hoj hji hjun hnot) (fun cs b => hsel i oi cs b hi) (fun cs b => hsel j oj cs b hoj) hQ hy h1
      have hfree' : ∀ k ok, ops[k]? = some ok → k ≠ i → (listed.setIfInBounds j true).getD k true = false →
          (∀ e ∈ ok.after, Region.binds md e = true → e.on ≠ i) → oi.apart ops ok = true := fun k ok hk hki hun hno => by
        refine hfree k ok hk hki ?_ hno
        by_cases hjk : j = k
        · subst hjk; exact hjun
        · rw [getD_set_ne true hjk] at hun; exact hun
      refine wpOp_mono (fun a' w' h3 => ?_) h2
      have hrest : wpAnyE E P md ops Q fuel ((listed.setIfInBounds j true).setIfInBounds i true) (a'.put oi.dst v) w' := by
        rw [Array.setIfInBounds_comm _ _ hji]
        exact h3.2.2
      rcases h3.2.1 with hx | hw
      · exact ⟨.inl hx, ih (listed.setIfInBounds j true) a' w' (closed_set hcl hj) hfree' (ready_mono hr (Ne.symm hji)) (yields_ext h3.1 hx) hrest⟩
      · exact (hnow hw).elim

theorem wpAnyE_firstA {i : Nat} {oi : Oper} {v : Value} (hi : ops[i]? = some oi) (hsel : ∀ (j : Nat) (o : Oper) cs b, ops[j]? = some o → o.op ≠ .select cs b)
    (hQ : ∀ c a w, Q (.panic c) (a.put oi.dst v) w → Q (.panic c) a w) :
    ∀ (fuel : Nat) (listed : Array Bool) (a : Act) (w : World), Closed md ops listed →
      (∀ j oj, ops[j]? = some oj → j ≠ i → listed.getD j true = false → (∀ e ∈ oj.after, Region.binds md e = true → e.on ≠ i) → oi.apart ops oj = true) →
      i ∈ Region.ready md ops listed → YieldsIf P ops (fun _ => True) oi v a →
      wpAnyE E P md ops Q fuel (listed.setIfInBounds i true) (a.put oi.dst v) w → wpAnyE E P md ops Q (fuel + 1) listed a w := by
  intro fuel
  induction fuel with
  | zero =>
    intro listed a w _ _ hr hy H
    refine ⟨fun h => (by rw [h] at hr; cases hr), fun j hj => ?_⟩
    by_cases hji : j = i
    · subst hji; exact hy.wpOp hi trivial ⟨.inl (Ext.refl w), H⟩
    · have := ready_mono hj hji
      rw [H.1] at this
      cases this
  | succ fuel ih =>
    intro listed a w hcl hfree hr hy H
    refine ⟨fun h => (by rw [h] at hr; cases hr), fun j hj => ?_⟩
    by_cases hji : j = i
    · subst hji; exact hy.wpOp hi trivial ⟨.inl (Ext.refl w), H⟩
    · have h1 := H.2 j (ready_mono hj hji)
      obtain ⟨hjun, oj, hoj, hall⟩ := mem_ready.1 hj
      have hiun := (mem_ready.1 hr).1
      have hilt : i < listed.size := by
        rcases Nat.lt_or_ge i listed.size with h' | h'
        · exact h'
        · simp [Array.getElem?_eq_none h'] at hiun
      have hnot : ∀ e ∈ oj.after, Region.binds md e = true → e.on ≠ i := fun e he hb heq => by
        have h1 := hall e he hb
        rw [heq] at h1
        simp [hilt] at hiun h1
        rw [hiun] at h1; cases h1
      have h2 := wpOp_putIf hoj (hfree j oj hoj hji hjun hnot) (fun cs b => hsel i oi cs b hi) (fun cs b => hsel j oj cs b hoj) hQ hy h1
      have hfree' : ∀ k ok, ops[k]? = some ok → k ≠ i → (listed.setIfInBounds j true).getD k true = false →
          (∀ e ∈ ok.after, Region.binds md e = true → e.on ≠ i) → oi.apart ops ok = true := fun k ok hk hki hun hno => by
        refine hfree k ok hk hki ?_ hno
        by_cases hjk : j = k
        · subst hjk; exact hjun
        · rw [getD_set_ne true hjk] at hun; exact hun
      refine wpOp_mono (fun a' w' h3 => ?_) h2
      have hrest : wpAnyE E P md ops Q fuel ((listed.setIfInBounds j true).setIfInBounds i true) (a'.put oi.dst v) w' := by
        rw [Array.setIfInBounds_comm _ _ hji]
        exact h3.2.2
      rcases h3.2.1 with hx | hw
      · exact ⟨.inl hx, ih (listed.setIfInBounds j true) a' w' (closed_set hcl hj) hfree' (ready_mono hr (Ne.symm hji)) h3.1 hrest⟩
      · exact ⟨.inr (waitsE_less hw), ih (listed.setIfInBounds j true) a' w' (closed_set hcl hj) hfree' (ready_mono hr (Ne.symm hji)) h3.1 hrest⟩

theorem re_start (E : List Nat) {id : Nat} {a : Act} {w : World} (hm : P.follows .mixedOrders = true)
    (h : wpAnyE E P .any ops Q ops.size (Array.replicate ops.size false) a w.drew) : (Code.region id ops true).wp P Q a w := wp_region_any hm (wpAny_of_E _ _ _ _ h)

/-- A quiet operation. -/
theorem re_take (i : Nat) (hE : E.contains i = false) {oi : Oper} {fuel : Nat} {listed : Array Bool} {a : Act} {w : World} (hi0 : ops.toList[i]? = some oi)
    (hs : Region.noSelect ops = true) (hf : (closedB md ops listed && Region.free md ops listed i) = true) (hr : (Region.ready md ops listed).contains i = true)
    (hQ : ∀ c a v w, Q (.panic c) (a.put oi.dst v) w → Q (.panic c) a w) (hw : Region.wanted oi (yielded ops a.tmps) = true)
    (h : ∃ v, (∀ w', Ext w w' → (execOp a.eval oi).run P w' = .ok (.value v) w') ∧ wpAnyE E P md ops Q fuel (listed.setIfInBounds i true) (a.put oi.dst v) w) : wpAnyE E P md ops Q (fuel + 1) listed a w := by
  have hi : ops[i]? = some oi := by rw [← hi0]; simp
  obtain ⟨v, hv, h⟩ := h
  exact wpAnyE_first hE hi (Region.noSelect_spec hs) (fun c a w => hQ c a v w) fuel listed a w (closed_of (Bool.and_eq_true _ _ ▸ hf).1) (Region.free_spec hi (Bool.and_eq_true _ _ ▸ hf).2) (by simpa using hr) (.inl ⟨hw, hv⟩) h

/-- A quiet operation whose value is the same in every world. -/
theorem re_takeA (i : Nat) {oi : Oper} {fuel : Nat} {listed : Array Bool} {a : Act} {w : World} (hi0 : ops.toList[i]? = some oi)
    (hs : Region.noSelect ops = true) (hf : (closedB md ops listed && Region.free md ops listed i) = true) (hr : (Region.ready md ops listed).contains i = true)
    (hQ : ∀ c a v w, Q (.panic c) (a.put oi.dst v) w → Q (.panic c) a w) (hw : Region.wanted oi (yielded ops a.tmps) = true)
    (h : ∃ v, (∀ w', (execOp a.eval oi).run P w' = .ok (.value v) w') ∧ wpAnyE E P md ops Q fuel (listed.setIfInBounds i true) (a.put oi.dst v) w) : wpAnyE E P md ops Q (fuel + 1) listed a w := by
  have hi : ops[i]? = some oi := by rw [← hi0]; simp
  obtain ⟨v, hv, h⟩ := h
  exact wpAnyE_firstA hi (Region.noSelect_spec hs) (fun c a w => hQ c a v w) fuel listed a w (closed_of (Bool.and_eq_true _ _ ▸ hf).1) (Region.free_spec hi (Bool.and_eq_true _ _ ▸ hf).2) (by simpa using hr) (.inl ⟨hw, fun w' _ => hv w'⟩) h

/-- One that its guard leaves out. -/
theorem re_skip (i : Nat) {oi : Oper} {fuel : Nat} {listed : Array Bool} {a : Act} {w : World} (hi0 : ops.toList[i]? = some oi)
    (hs : Region.noSelect ops = true) (hf : (closedB md ops listed && Region.free md ops listed i) = true) (hr : (Region.ready md ops listed).contains i = true)
    (hQ : ∀ c a v w, Q (.panic c) (a.put oi.dst v) w → Q (.panic c) a w) (hw : Region.wanted oi (yielded ops a.tmps) = false)
    (h : wpAnyE E P md ops Q fuel (listed.setIfInBounds i true) (a.put oi.dst undef) w) : wpAnyE E P md ops Q (fuel + 1) listed a w := by
  have hi : ops[i]? = some oi := by rw [← hi0]; simp
  exact wpAnyE_firstA hi (Region.noSelect_spec hs) (fun c a w => hQ c a _ w) fuel listed a w (closed_of (Bool.and_eq_true _ _ ▸ hf).1) (Region.free_spec hi (Bool.and_eq_true _ _ ▸ hf).2) (by simpa using hr) (.inr ⟨hw, rfl⟩) h

theorem re_one (i : Nat) {oi : Oper} {fuel : Nat} {listed : Array Bool} {a : Act} {w : World} (hi0 : ops.toList[i]? = some oi)
    (hr : Region.ready md ops listed = [i]) (hw : Region.wanted oi (yielded ops a.tmps) = true)
    (h : oi.wp P a w (fun a' w' => (Ext w w' ∨ waitsE E md ops listed i = true) ∧ wpAnyE E P md ops Q fuel (listed.setIfInBounds i true) a' w') Q) : wpAnyE E P md ops Q (fuel + 1) listed a w := by
  have hi : ops[i]? = some oi := by rw [← hi0]; simp
  refine ⟨fun h0 => absurd (hr ▸ h0) (by simp), fun j hj => ?_⟩
  rw [hr] at hj
  obtain rfl : j = i := by simpa using hj
  unfold wpOp
  rw [hi]
  show if _ then _ else _
  rw [if_pos hw]
  exact .inl h

/-- A call, the only operation that may come up now. -/
theorem re_call (i : Nat) {oi : Oper} {fuel : Nat} {listed : Array Bool} {a : Act} {w : World} {f : FuncId} {args : Array Value} {R : Ending → World → Prop} (hc : Calls P f args w R) (hi0 : ops.toList[i]? = some oi)
    (hr : Region.ready md ops listed = [i]) (hw : Region.wanted oi (yielded ops a.tmps) = true)
    (hx : (execOp a.eval oi).run P w = .ok (.enter f args) w)
    (h : ∀ e w', R e w' → ∃ v, e = .returned v ∧ Ext w w' ∧ wpAnyE E P md ops Q fuel (listed.setIfInBounds i true) (a.put oi.dst v) w') : wpAnyE E P md ops Q (fuel + 1) listed a w := by
  refine re_one i hi0 hr hw ?_
  unfold Oper.wp
  rw [hx, Oper.upon_enter]
  refine hc.mono fun e w' hR => ?_
  obtain ⟨v, rfl, h1, h2⟩ := h e w' hR
  exact ⟨.inl h1, h2⟩

/-- Another operation that only makes memory, the only one that may come up now. -/
theorem re_make (i : Nat) {oi : Oper} {fuel : Nat} {listed : Array Bool} {a : Act} {w : World} (hi0 : ops.toList[i]? = some oi)
    (hr : Region.ready md ops listed = [i]) (hw : Region.wanted oi (yielded ops a.tmps) = true)
    (h : ∃ v w', (execOp a.eval oi).run P w = .ok (.value v) w' ∧ Ext w w' ∧ wpAnyE E P md ops Q fuel (listed.setIfInBounds i true) (a.put oi.dst v) w') : wpAnyE E P md ops Q (fuel + 1) listed a w := by
  obtain ⟨v, w', hx, h1, h2⟩ := h
  refine re_one i hi0 hr hw ?_
  unfold Oper.wp
  rw [hx, Oper.upon_value]
  exact ⟨.inl h1, h2⟩

/-- An operation that may change anything, the only one that may come up now; it waits for all that came. -/
theorem re_last (i : Nat) {oi : Oper} {fuel : Nat} {listed : Array Bool} {a : Act} {w : World} (hi0 : ops.toList[i]? = some oi)
    (hr : Region.ready md ops listed = [i]) (hwt : waitsE E md ops listed i = true) (hw : Region.wanted oi (yielded ops a.tmps) = true)
    (h : ∀ K : Act → World → Prop, (∀ a' w', wpAnyE E P md ops Q fuel (listed.setIfInBounds i true) a' w' → K a' w') → oi.wp P a w K Q) : wpAnyE E P md ops Q (fuel + 1) listed a w :=
  re_one i hi0 hr hw (h _ fun _ _ h1 => ⟨.inr hwt, h1⟩)

/-- A store, the only operation that may come up now; it waits for all that came. -/
theorem re_store (i : Nat) {oi : Oper} {fuel : Nat} {listed : Array Bool} {a : Act} {w : World} (hi0 : ops.toList[i]? = some oi)
    (hr : Region.ready md ops listed = [i]) (hwt : waitsE E md ops listed i = true) (hw : Region.wanted oi (yielded ops a.tmps) = true)
    (h : ∃ w', (execOp a.eval oi).run P w = .ok .skip w' ∧ wpAnyE E P md ops Q fuel (listed.setIfInBounds i true) (a.put oi.dst undef) w') : wpAnyE E P md ops Q (fuel + 1) listed a w := by
  obtain ⟨w', hx, h2⟩ := h
  refine re_one i hi0 hr hw ?_
  unfold Oper.wp
  rw [hx, Oper.upon_skip]
  exact ⟨.inr hwt, h2⟩

theorem re_done {fuel : Nat} {listed : Array Bool} {a : Act} {w : World} (hr : Region.ready md ops listed = []) (h : Q .normal a w) : wpAnyE E P md ops Q fuel listed a w := by
  cases fuel with
  | zero => exact ⟨hr, h⟩
  | succ n => exact ⟨fun _ => h, by rw [hr]; simp⟩

end

end Go.Proofs.YtkpagmfaccmiaaaGreat
