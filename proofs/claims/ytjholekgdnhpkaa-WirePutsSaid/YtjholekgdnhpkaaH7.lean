
/- Texts laid together by wip/tools/lay2.py: Reg5 Reg8 Reg9 WrTx WrA SlCut. -/

import Derived.Test.YtjholekgdnhpkaaH1

import Derived.Test.YtjholekgdnhpkaaH6

import Derived.Test.YtjholekgdnhpkaaH2

import Derived.Test.YtjholekgdnhpkaaH3

set_option linter.unusedVariables false

set_option linter.unusedSimpArgs false

set_option linter.unusedSectionVars false

/- A region that draws its order: as XReg2, but what changes memory need not wait for operations of a list E, whose values are the same in every world. -/

namespace Go.Proofs.Ytjholekgdnhpkaa

open Go.RowKit

/-- Operation i waits for all that came, but for moves. -/
def waitsE (E : List Nat) (md : Region.Mode) (ops : Array Oper) (listed : Array Bool) (i : Nat) : Bool :=
 (List.range ops.size).all fun k => !listed.getD k false || (reach md ops ops.size i k || E.contains k)
section

variable {E : List Nat} {P : Program} {ops : Array Oper} {md : Region.Mode} {Q : Exit → Act → World → Prop}

theorem waitsE_less {listed : Array Bool} {i j : Nat} (h : waitsE E md ops (listed.setIfInBounds i true) j = true) : waitsE E md ops listed j = true := by
 unfold waitsE at h ⊢
 rw [List.all_eq_true] at h ⊢
 intro k hk
 have h1 := h k hk
 cases hl : listed.getD k false with
 | false => simp
 | true => rw [getD_set_true hl] at h1; exact h1
/-- Whatever order is picked from here on: behind each operation what was there is as it was, or the operation waits for all that came before it. -/
def wpAnyE (E : List Nat) (P : Program) (md : Region.Mode) (ops : Array Oper) (Q : Exit → Act → World → Prop) : Nat → Array Bool → Act → World → Prop
 | 0, listed, a, w => Region.ready md ops listed = [] ∧ Q .normal a w
 | fuel + 1, listed, a, w =>
  (Region.ready md ops listed = [] → Q .normal a w) ∧
  ∀ i ∈ Region.ready md ops listed, wpOp P ops Q i (fun a' w' => (Ext w w' ∨ waitsE E md ops listed i = true) ∧ wpAnyE E P md ops Q fuel (listed.setIfInBounds i true) a' w') a w

theorem wpAny_of_E : ∀ (fuel : Nat) (listed : Array Bool) (a : Act) (w : World), wpAnyE E P md ops Q fuel listed a w → wpAny P md ops Q fuel listed a w
 | 0, _, _, _, h => h
 | fuel + 1, _, _, _, h => ⟨h.1, fun i hi => wpOp_mono (fun a' w' h' => wpAny_of_E fuel _ a' w' h'.2) (h.2 i hi)⟩

theorem wpAnyE_first {i : Nat} {oi : Oper} {v : Value} (hE : E.contains i = false) (hi : ops[i]? = some oi) (hsel : ∀ (j : Nat) (o : Oper) cs b, ops[j]? = some o → o.op ≠ .select cs b)
  (hQ : ∀ c a w, Q (.panic c) (a.put oi.dst v) w → Q (.panic c) a w) :
  ∀ (fuel : Nat) (listed : Array Bool) (a : Act) (w : World), Closed md ops listed →
   (∀ j oj, ops[j]? = some oj → j ≠ i → listed.getD j true = false → (∀ e ∈ oj.after, Region.binds md e = true → e.on ≠ i) → oi.apart ops oj = true) →
   i ∈ Region.ready md ops listed → YieldsIf P ops (Ext w) oi v a →
   wpAnyE E P md ops Q fuel (listed.setIfInBounds i true) (a.put oi.dst v) w → wpAnyE E P md ops Q (fuel + 1) listed a w := by
 intro fuel
 induction fuel with
 | zero =>
  intro listed a w _ _ hr hy H
  refine ⟨fun h => (by rw [h] at hr; cases hr), fun j hj => ?_⟩
  by_cases hji : j = i
  ·
   subst hji; exact hy.wpOp hi (Ext.refl w) ⟨.inl (Ext.refl w), H⟩
  ·
   have := ready_mono hj hji
   rw [H.1] at this
   cases this
 | succ fuel ih =>
  intro listed a w hcl hfree hr hy H
  refine ⟨fun h => (by rw [h] at hr; cases hr), fun j hj => ?_⟩
  by_cases hji : j = i
  ·
   subst hji; exact hy.wpOp hi (Ext.refl w) ⟨.inl (Ext.refl w), H⟩
  ·
   have h1 := H.2 j (ready_mono hj hji)
   obtain ⟨hjun, oj, hoj, hall⟩ := mem_ready.1 hj
   have hiun := (mem_ready.1 hr).1
   have hilt : i < listed.size := by
    rcases Nat.lt_or_ge i listed.size with h' | h'
    ·
     exact h'
    ·
     simp [Array.getElem?_eq_none h'] at hiun
   have hnot : ∀ e ∈ oj.after, Region.binds md e = true → e.on ≠ i := fun e he hb heq => by
    have h1 := hall e he hb
    rw [heq] at h1
    simp [hilt] at hiun h1
    rw [hiun] at h1; cases h1
   have hnow : waitsE E md ops (listed.setIfInBounds i true) j = true → False := fun hw => by
    unfold waitsE at hw
    have h1 := (List.all_eq_true.1 hw) i (List.mem_range.2 (Array.getElem?_eq_some_iff.1 hi).1)
    have hset : (listed.setIfInBounds i true).getD i false = true := by simp [hilt]
    rw [hset] at h1
    simp only [Bool.not_true, Bool.false_or, Bool.or_eq_true] at h1
    rcases h1 with h1 | h1
    ·
     have h3 := reach_listed hcl _ j oj i hoj hall h1
     simp [hilt] at hiun h3
     rw [hiun] at h3; cases h3
    ·
     rw [hE] at h1; cases h1
   have h2 := wpOp_putIf hoj (hfree j oj hoj hji hjun hnot) (fun cs b => hsel i oi cs b hi) (fun cs b => hsel j oj cs b hoj) hQ hy h1
   have hfree' : ∀ k ok, ops[k]? = some ok → k ≠ i → (listed.setIfInBounds j true).getD k true = false →
     (∀ e ∈ ok.after, Region.binds md e = true → e.on ≠ i) → oi.apart ops ok = true := fun k ok hk hki hun hno => by
    refine hfree k ok hk hki ?_ hno
    by_cases hjk : j = k
    ·
     subst hjk; exact hjun
    ·
     rw [getD_set_ne true hjk] at hun; exact hun
   refine wpOp_mono (fun a' w' h3 => ?_) h2
   have hrest : wpAnyE E P md ops Q fuel ((listed.setIfInBounds j true).setIfInBounds i true) (a'.put oi.dst v) w' := by
    rw [Array.setIfInBounds_comm _ _ hji]
    exact h3.2.2
   rcases h3.2.1 with hx | hw
   ·
    exact ⟨.inl hx, ih (listed.setIfInBounds j true) a' w' (closed_set hcl hj) hfree' (ready_mono hr (Ne.symm hji)) (yields_ext h3.1 hx) hrest⟩
   ·
    exact (hnow hw).elim

theorem wpAnyE_firstA {i : Nat} {oi : Oper} {v : Value} (hi : ops[i]? = some oi) (hsel : ∀ (j : Nat) (o : Oper) cs b, ops[j]? = some o → o.op ≠ .select cs b)
  (hQ : ∀ c a w, Q (.panic c) (a.put oi.dst v) w → Q (.panic c) a w) :
  ∀ (fuel : Nat) (listed : Array Bool) (a : Act) (w : World), Closed md ops listed →
   (∀ j oj, ops[j]? = some oj → j ≠ i → listed.getD j true = false → (∀ e ∈ oj.after, Region.binds md e = true → e.on ≠ i) → oi.apart ops oj = true) →
   i ∈ Region.ready md ops listed → YieldsIf P ops (fun _ => True) oi v a →
   wpAnyE E P md ops Q fuel (listed.setIfInBounds i true) (a.put oi.dst v) w → wpAnyE E P md ops Q (fuel + 1) listed a w := by
 intro fuel
 induction fuel with
 | zero =>
  intro listed a w _ _ hr hy H
  refine ⟨fun h => (by rw [h] at hr; cases hr), fun j hj => ?_⟩
  by_cases hji : j = i
  ·
   subst hji; exact hy.wpOp hi trivial ⟨.inl (Ext.refl w), H⟩
  ·
   have := ready_mono hj hji
   rw [H.1] at this
   cases this
 | succ fuel ih =>
  intro listed a w hcl hfree hr hy H
  refine ⟨fun h => (by rw [h] at hr; cases hr), fun j hj => ?_⟩
  by_cases hji : j = i
  ·
   subst hji; exact hy.wpOp hi trivial ⟨.inl (Ext.refl w), H⟩
  ·
   have h1 := H.2 j (ready_mono hj hji)
   obtain ⟨hjun, oj, hoj, hall⟩ := mem_ready.1 hj
   have hiun := (mem_ready.1 hr).1
   have hilt : i < listed.size := by
    rcases Nat.lt_or_ge i listed.size with h' | h'
    ·
     exact h'
    ·
     simp [Array.getElem?_eq_none h'] at hiun
   have hnot : ∀ e ∈ oj.after, Region.binds md e = true → e.on ≠ i := fun e he hb heq => by
    have h1 := hall e he hb
    rw [heq] at h1
    simp [hilt] at hiun h1
    rw [hiun] at h1; cases h1
   have h2 := wpOp_putIf hoj (hfree j oj hoj hji hjun hnot) (fun cs b => hsel i oi cs b hi) (fun cs b => hsel j oj cs b hoj) hQ hy h1
   have hfree' : ∀ k ok, ops[k]? = some ok → k ≠ i → (listed.setIfInBounds j true).getD k true = false →
     (∀ e ∈ ok.after, Region.binds md e = true → e.on ≠ i) → oi.apart ops ok = true := fun k ok hk hki hun hno => by
    refine hfree k ok hk hki ?_ hno
    by_cases hjk : j = k
    ·
     subst hjk; exact hjun
    ·
     rw [getD_set_ne true hjk] at hun; exact hun
   refine wpOp_mono (fun a' w' h3 => ?_) h2
   have hrest : wpAnyE E P md ops Q fuel ((listed.setIfInBounds j true).setIfInBounds i true) (a'.put oi.dst v) w' := by
    rw [Array.setIfInBounds_comm _ _ hji]
    exact h3.2.2
   rcases h3.2.1 with hx | hw
   ·
    exact ⟨.inl hx, ih (listed.setIfInBounds j true) a' w' (closed_set hcl hj) hfree' (ready_mono hr (Ne.symm hji)) h3.1 hrest⟩
   ·
    exact ⟨.inr (waitsE_less hw), ih (listed.setIfInBounds j true) a' w' (closed_set hcl hj) hfree' (ready_mono hr (Ne.symm hji)) h3.1 hrest⟩

theorem re_start (E : List Nat) {id : Nat} {a : Act} {w : World} (hm : P.follows .mixedOrders = true)
  (h : wpAnyE E P .any ops Q ops.size (Array.replicate ops.size false) a w.drew) : (Code.region id ops true).wp P Q a w := wp_region_any hm (wpAny_of_E _ _ _ _ h)

/-- A quiet operation. -/
theorem re_take (i : Nat) (hE : E.contains i = false) {oi : Oper} {fuel : Nat} {listed : Array Bool} {a : Act} {w : World} (hi0 : ops.toList[i]? = some oi)
  (hs : Region.noSelect ops = true) (hf : (closedB md ops listed && Region.free md ops listed i) = true) (hr : (Region.ready md ops listed).contains i = true)
  (hQ : ∀ c a v w, Q (.panic c) (a.put oi.dst v) w → Q (.panic c) a w) (hw : Region.wanted oi (yielded ops a.tmps) = true)
  (h : ∃ v, (∀ w', Ext w w' → (execOp a.eval oi).run P w' = .ok (.value v) w') ∧ wpAnyE E P md ops Q fuel (listed.setIfInBounds i true) (a.put oi.dst v) w) : wpAnyE E P md ops Q (fuel + 1) listed a w := by
 have hi : ops[i]? = some oi := by rw [← hi0]; simp
 obtain ⟨v, hv, h⟩ := h
 exact wpAnyE_first hE hi (Region.noSelect_spec hs) (fun c a w => hQ c a v w) fuel listed a w (closed_of (Bool.and_eq_true _ _ ▸ hf).1) (Region.free_spec hi (Bool.and_eq_true _ _ ▸ hf).2) (by simpa using hr) (.inl ⟨hw, hv⟩) h

/-- A quiet operation whose value is the same in every world. -/
theorem re_takeA (i : Nat) {oi : Oper} {fuel : Nat} {listed : Array Bool} {a : Act} {w : World} (hi0 : ops.toList[i]? = some oi)
  (hs : Region.noSelect ops = true) (hf : (closedB md ops listed && Region.free md ops listed i) = true) (hr : (Region.ready md ops listed).contains i = true)
  (hQ : ∀ c a v w, Q (.panic c) (a.put oi.dst v) w → Q (.panic c) a w) (hw : Region.wanted oi (yielded ops a.tmps) = true)
  (h : ∃ v, (∀ w', (execOp a.eval oi).run P w' = .ok (.value v) w') ∧ wpAnyE E P md ops Q fuel (listed.setIfInBounds i true) (a.put oi.dst v) w) : wpAnyE E P md ops Q (fuel + 1) listed a w := by
 have hi : ops[i]? = some oi := by rw [← hi0]; simp
 obtain ⟨v, hv, h⟩ := h
 exact wpAnyE_firstA hi (Region.noSelect_spec hs) (fun c a w => hQ c a v w) fuel listed a w (closed_of (Bool.and_eq_true _ _ ▸ hf).1) (Region.free_spec hi (Bool.and_eq_true _ _ ▸ hf).2) (by simpa using hr) (.inl ⟨hw, fun w' _ => hv w'⟩) h

/-- One that its guard leaves out. -/
theorem re_skip (i : Nat) {oi : Oper} {fuel : Nat} {listed : Array Bool} {a : Act} {w : World} (hi0 : ops.toList[i]? = some oi)
  (hs : Region.noSelect ops = true) (hf : (closedB md ops listed && Region.free md ops listed i) = true) (hr : (Region.ready md ops listed).contains i = true)
  (hQ : ∀ c a v w, Q (.panic c) (a.put oi.dst v) w → Q (.panic c) a w) (hw : Region.wanted oi (yielded ops a.tmps) = false)
  (h : wpAnyE E P md ops Q fuel (listed.setIfInBounds i true) (a.put oi.dst undef) w) : wpAnyE E P md ops Q (fuel + 1) listed a w := by
 have hi : ops[i]? = some oi := by rw [← hi0]; simp
 exact wpAnyE_firstA hi (Region.noSelect_spec hs) (fun c a w => hQ c a _ w) fuel listed a w (closed_of (Bool.and_eq_true _ _ ▸ hf).1) (Region.free_spec hi (Bool.and_eq_true _ _ ▸ hf).2) (by simpa using hr) (.inr ⟨hw, rfl⟩) h

theorem re_one (i : Nat) {oi : Oper} {fuel : Nat} {listed : Array Bool} {a : Act} {w : World} (hi0 : ops.toList[i]? = some oi)
  (hr : Region.ready md ops listed = [i]) (hw : Region.wanted oi (yielded ops a.tmps) = true)
  (h : oi.wp P a w (fun a' w' => (Ext w w' ∨ waitsE E md ops listed i = true) ∧ wpAnyE E P md ops Q fuel (listed.setIfInBounds i true) a' w') Q) : wpAnyE E P md ops Q (fuel + 1) listed a w := by
 have hi : ops[i]? = some oi := by rw [← hi0]; simp
 refine ⟨fun h0 => absurd (hr ▸ h0) (by simp), fun j hj => ?_⟩
 rw [hr] at hj
 obtain rfl : j = i := by simpa using hj
 unfold wpOp
 rw [hi]
 show if _ then _ else _
 rw [if_pos hw]
 exact .inl h

/-- A call, the only operation that may come up now. -/
theorem re_call (i : Nat) {oi : Oper} {fuel : Nat} {listed : Array Bool} {a : Act} {w : World} {f : FuncId} {args : Array Value} {R : Ending → World → Prop} (hc : Calls P f args w R) (hi0 : ops.toList[i]? = some oi)
  (hr : Region.ready md ops listed = [i]) (hw : Region.wanted oi (yielded ops a.tmps) = true)
  (hx : (execOp a.eval oi).run P w = .ok (.enter f args) w)
  (h : ∀ e w', R e w' → ∃ v, e = .returned v ∧ Ext w w' ∧ wpAnyE E P md ops Q fuel (listed.setIfInBounds i true) (a.put oi.dst v) w') : wpAnyE E P md ops Q (fuel + 1) listed a w := by
 refine re_one i hi0 hr hw ?_
 unfold Oper.wp
 rw [hx, Oper.upon_enter]
 refine hc.mono fun e w' hR => ?_
 obtain ⟨v, rfl, h1, h2⟩ := h e w' hR
 exact ⟨.inl h1, h2⟩

/-- Another operation that only makes memory, the only one that may come up now. -/
theorem re_make (i : Nat) {oi : Oper} {fuel : Nat} {listed : Array Bool} {a : Act} {w : World} (hi0 : ops.toList[i]? = some oi)
  (hr : Region.ready md ops listed = [i]) (hw : Region.wanted oi (yielded ops a.tmps) = true)
  (h : ∃ v w', (execOp a.eval oi).run P w = .ok (.value v) w' ∧ Ext w w' ∧ wpAnyE E P md ops Q fuel (listed.setIfInBounds i true) (a.put oi.dst v) w') : wpAnyE E P md ops Q (fuel + 1) listed a w := by
 obtain ⟨v, w', hx, h1, h2⟩ := h
 refine re_one i hi0 hr hw ?_
 unfold Oper.wp
 rw [hx, Oper.upon_value]
 exact ⟨.inl h1, h2⟩

/-- An operation that may change anything, the only one that may come up now; it waits for all that came. -/
theorem re_last (i : Nat) {oi : Oper} {fuel : Nat} {listed : Array Bool} {a : Act} {w : World} (hi0 : ops.toList[i]? = some oi)
  (hr : Region.ready md ops listed = [i]) (hwt : waitsE E md ops listed i = true) (hw : Region.wanted oi (yielded ops a.tmps) = true)
  (h : ∀ K : Act → World → Prop, (∀ a' w', wpAnyE E P md ops Q fuel (listed.setIfInBounds i true) a' w' → K a' w') → oi.wp P a w K Q) : wpAnyE E P md ops Q (fuel + 1) listed a w :=
 re_one i hi0 hr hw (h _ fun _ _ h1 => ⟨.inr hwt, h1⟩)

/-- A store, the only operation that may come up now; it waits for all that came. -/
theorem re_store (i : Nat) {oi : Oper} {fuel : Nat} {listed : Array Bool} {a : Act} {w : World} (hi0 : ops.toList[i]? = some oi)
  (hr : Region.ready md ops listed = [i]) (hwt : waitsE E md ops listed i = true) (hw : Region.wanted oi (yielded ops a.tmps) = true)
  (h : ∃ w', (execOp a.eval oi).run P w = .ok .skip w' ∧ wpAnyE E P md ops Q fuel (listed.setIfInBounds i true) (a.put oi.dst undef) w') : wpAnyE E P md ops Q (fuel + 1) listed a w := by
 obtain ⟨w', hx, h2⟩ := h
 refine re_one i hi0 hr hw ?_
 unfold Oper.wp
 rw [hx, Oper.upon_skip]
 exact ⟨.inr hwt, h2⟩

theorem re_done {fuel : Nat} {listed : Array Bool} {a : Act} {w : World} (hr : Region.ready md ops listed = []) (h : Q .normal a w) : wpAnyE E P md ops Q fuel listed a w := by
 cases fuel with
 | zero => exact ⟨hr, h⟩
 | succ n => exact ⟨fun _ => h, by rw [hr]; simp⟩

end

end Go.Proofs.Ytjholekgdnhpkaa

/- A region that draws its order: as XReg2, but what is kept behind each operation is told by a relation of worlds. Printed by wip/tools/gen_reg8.py. -/

namespace Go.Proofs.Ytjholekgdnhpkaa

open Go.RowKit

/-- What is kept from one world to the next. -/
structure Wr where
 r : World → World → Prop
 refl : ∀ w, r w w
 tr : ∀ {a b c}, r a b → r b c → r a c
section

variable {ρ : Wr} {P : Program} {ops : Array Oper} {md : Region.Mode} {Q : Exit → Act → World → Prop}

/-- Whatever order is picked from here on: behind each operation what was there is as it was, or the operation waits for all that came before it. -/
def wpAnyK (ρ : Wr) (P : Program) (md : Region.Mode) (ops : Array Oper) (Q : Exit → Act → World → Prop) : Nat → Array Bool → Act → World → Prop
 | 0, listed, a, w => Region.ready md ops listed = [] ∧ Q .normal a w
 | fuel + 1, listed, a, w =>
  (Region.ready md ops listed = [] → Q .normal a w) ∧
  ∀ i ∈ Region.ready md ops listed, wpOp P ops Q i (fun a' w' => (ρ.r w w' ∨ waits md ops listed i = true) ∧ wpAnyK ρ P md ops Q fuel (listed.setIfInBounds i true) a' w') a w

theorem wpAny_of_K : ∀ (fuel : Nat) (listed : Array Bool) (a : Act) (w : World), wpAnyK ρ P md ops Q fuel listed a w → wpAny P md ops Q fuel listed a w
 | 0, _, _, _, h => h
 | fuel + 1, _, _, _, h => ⟨h.1, fun i hi => wpOp_mono (fun a' w' h' => wpAny_of_K fuel _ a' w' h'.2) (h.2 i hi)⟩

theorem yields_keep {o : Oper} {v : Value} {a : Act} {w w' : World} (h : YieldsIf P ops (ρ.r w) o v a) (hx : ρ.r w w') : YieldsIf P ops (ρ.r w') o v a :=
 h.imp (fun ⟨h1, h2⟩ => ⟨h1, fun w'' h3 => h2 w'' (ρ.tr hx h3)⟩) id

theorem wpAnyK_first {i : Nat} {oi : Oper} {v : Value} (hi : ops[i]? = some oi) (hsel : ∀ (j : Nat) (o : Oper) cs b, ops[j]? = some o → o.op ≠ .select cs b)
  (hQ : ∀ c a w, Q (.panic c) (a.put oi.dst v) w → Q (.panic c) a w) :
  ∀ (fuel : Nat) (listed : Array Bool) (a : Act) (w : World), Closed md ops listed →
   (∀ j oj, ops[j]? = some oj → j ≠ i → listed.getD j true = false → (∀ e ∈ oj.after, Region.binds md e = true → e.on ≠ i) → oi.apart ops oj = true) →
   i ∈ Region.ready md ops listed → YieldsIf P ops (ρ.r w) oi v a →
   wpAnyK ρ P md ops Q fuel (listed.setIfInBounds i true) (a.put oi.dst v) w → wpAnyK ρ P md ops Q (fuel + 1) listed a w := by
 intro fuel
 induction fuel with
 | zero =>
  intro listed a w _ _ hr hy H
  refine ⟨fun h => (by rw [h] at hr; cases hr), fun j hj => ?_⟩
  by_cases hji : j = i
  ·
   subst hji; exact hy.wpOp hi (ρ.refl w) ⟨.inl (ρ.refl w), H⟩
  ·
   have := ready_mono hj hji
   rw [H.1] at this
   cases this
 | succ fuel ih =>
  intro listed a w hcl hfree hr hy H
  refine ⟨fun h => (by rw [h] at hr; cases hr), fun j hj => ?_⟩
  by_cases hji : j = i
  ·
   subst hji; exact hy.wpOp hi (ρ.refl w) ⟨.inl (ρ.refl w), H⟩
  ·
   have h1 := H.2 j (ready_mono hj hji)
   obtain ⟨hjun, oj, hoj, hall⟩ := mem_ready.1 hj
   have hiun := (mem_ready.1 hr).1
   have hilt : i < listed.size := by
    rcases Nat.lt_or_ge i listed.size with h' | h'
    ·
     exact h'
    ·
     simp [Array.getElem?_eq_none h'] at hiun
   have hnot : ∀ e ∈ oj.after, Region.binds md e = true → e.on ≠ i := fun e he hb heq => by
    have h1 := hall e he hb
    rw [heq] at h1
    simp [hilt] at hiun h1
    rw [hiun] at h1; cases h1
   have hnow : waits md ops (listed.setIfInBounds i true) j ≠ true := fun hw => by
    have h3 := waits_listed (k := i) hcl hoj hall hw (Array.getElem?_eq_some_iff.1 hi).1 (by simp [hilt])
    simp [hilt] at hiun h3
    rw [hiun] at h3; cases h3
   have h2 := wpOp_putIf hoj (hfree j oj hoj hji hjun hnot) (fun cs b => hsel i oi cs b hi) (fun cs b => hsel j oj cs b hoj) hQ hy h1
   have hfree' : ∀ k ok, ops[k]? = some ok → k ≠ i → (listed.setIfInBounds j true).getD k true = false →
     (∀ e ∈ ok.after, Region.binds md e = true → e.on ≠ i) → oi.apart ops ok = true := fun k ok hk hki hun hno => by
    refine hfree k ok hk hki ?_ hno
    by_cases hjk : j = k
    ·
     subst hjk; exact hjun
    ·
     rw [getD_set_ne true hjk] at hun; exact hun
   refine wpOp_mono (fun a' w' h3 => ?_) h2
   have hx : ρ.r w w' := h3.2.1.resolve_right hnow
   refine ⟨.inl hx, ih (listed.setIfInBounds j true) a' w' (closed_set hcl hj) hfree' (ready_mono hr (Ne.symm hji)) (yields_keep h3.1 hx) ?_⟩
   rw [Array.setIfInBounds_comm _ _ hji]
   exact h3.2.2

theorem rk_start (ρ : Wr) {id : Nat} {a : Act} {w : World} (hm : P.follows .mixedOrders = true)
  (h : wpAnyK ρ P .any ops Q ops.size (Array.replicate ops.size false) a w.drew) : (Code.region id ops true).wp P Q a w := wp_region_any hm (wpAny_of_K _ _ _ _ h)

/-- A quiet operation. -/
theorem rk_take (i : Nat) {oi : Oper} {fuel : Nat} {listed : Array Bool} {a : Act} {w : World} (hi0 : ops.toList[i]? = some oi)
  (hs : Region.noSelect ops = true) (hf : (closedB md ops listed && Region.free md ops listed i) = true) (hr : (Region.ready md ops listed).contains i = true)
  (hQ : ∀ c a v w, Q (.panic c) (a.put oi.dst v) w → Q (.panic c) a w) (hw : Region.wanted oi (yielded ops a.tmps) = true)
  (h : ∃ v, (∀ w', ρ.r w w' → (execOp a.eval oi).run P w' = .ok (.value v) w') ∧ wpAnyK ρ P md ops Q fuel (listed.setIfInBounds i true) (a.put oi.dst v) w) : wpAnyK ρ P md ops Q (fuel + 1) listed a w := by
 have hi : ops[i]? = some oi := by rw [← hi0]; simp
 obtain ⟨v, hv, h⟩ := h
 exact wpAnyK_first hi (Region.noSelect_spec hs) (fun c a w => hQ c a v w) fuel listed a w (closed_of (Bool.and_eq_true _ _ ▸ hf).1) (Region.free_spec hi (Bool.and_eq_true _ _ ▸ hf).2) (by simpa using hr) (.inl ⟨hw, hv⟩) h

/-- One that its guard leaves out. -/
theorem rk_skip (i : Nat) {oi : Oper} {fuel : Nat} {listed : Array Bool} {a : Act} {w : World} (hi0 : ops.toList[i]? = some oi)
  (hs : Region.noSelect ops = true) (hf : (closedB md ops listed && Region.free md ops listed i) = true) (hr : (Region.ready md ops listed).contains i = true)
  (hQ : ∀ c a v w, Q (.panic c) (a.put oi.dst v) w → Q (.panic c) a w) (hw : Region.wanted oi (yielded ops a.tmps) = false)
  (h : wpAnyK ρ P md ops Q fuel (listed.setIfInBounds i true) (a.put oi.dst undef) w) : wpAnyK ρ P md ops Q (fuel + 1) listed a w := by
 have hi : ops[i]? = some oi := by rw [← hi0]; simp
 exact wpAnyK_first hi (Region.noSelect_spec hs) (fun c a w => hQ c a _ w) fuel listed a w (closed_of (Bool.and_eq_true _ _ ▸ hf).1) (Region.free_spec hi (Bool.and_eq_true _ _ ▸ hf).2) (by simpa using hr) (.inr ⟨hw, rfl⟩) h

theorem rk_one (i : Nat) {oi : Oper} {fuel : Nat} {listed : Array Bool} {a : Act} {w : World} (hi0 : ops.toList[i]? = some oi)
  (hr : Region.ready md ops listed = [i]) (hw : Region.wanted oi (yielded ops a.tmps) = true)
  (h : oi.wp P a w (fun a' w' => (ρ.r w w' ∨ waits md ops listed i = true) ∧ wpAnyK ρ P md ops Q fuel (listed.setIfInBounds i true) a' w') Q) : wpAnyK ρ P md ops Q (fuel + 1) listed a w := by
 have hi : ops[i]? = some oi := by rw [← hi0]; simp
 refine ⟨fun h0 => absurd (hr ▸ h0) (by simp), fun j hj => ?_⟩
 rw [hr] at hj
 obtain rfl : j = i := by simpa using hj
 unfold wpOp
 rw [hi]
 show if _ then _ else _
 rw [if_pos hw]
 exact .inl h

/-- A call, the only operation that may come up now. -/
theorem rk_call (i : Nat) {oi : Oper} {fuel : Nat} {listed : Array Bool} {a : Act} {w : World} {f : FuncId} {args : Array Value} {R : Ending → World → Prop} (hc : Calls P f args w R) (hi0 : ops.toList[i]? = some oi)
  (hr : Region.ready md ops listed = [i]) (hw : Region.wanted oi (yielded ops a.tmps) = true)
  (hx : (execOp a.eval oi).run P w = .ok (.enter f args) w)
  (h : ∀ e w', R e w' → ∃ v, e = .returned v ∧ ρ.r w w' ∧ wpAnyK ρ P md ops Q fuel (listed.setIfInBounds i true) (a.put oi.dst v) w') : wpAnyK ρ P md ops Q (fuel + 1) listed a w := by
 refine rk_one i hi0 hr hw ?_
 unfold Oper.wp
 rw [hx, Oper.upon_enter]
 refine hc.mono fun e w' hR => ?_
 obtain ⟨v, rfl, h1, h2⟩ := h e w' hR
 exact ⟨.inl h1, h2⟩

/-- Another operation that only makes memory, the only one that may come up now. -/
theorem rk_make (i : Nat) {oi : Oper} {fuel : Nat} {listed : Array Bool} {a : Act} {w : World} (hi0 : ops.toList[i]? = some oi)
  (hr : Region.ready md ops listed = [i]) (hw : Region.wanted oi (yielded ops a.tmps) = true)
  (h : ∃ v w', (execOp a.eval oi).run P w = .ok (.value v) w' ∧ ρ.r w w' ∧ wpAnyK ρ P md ops Q fuel (listed.setIfInBounds i true) (a.put oi.dst v) w') : wpAnyK ρ P md ops Q (fuel + 1) listed a w := by
 obtain ⟨v, w', hx, h1, h2⟩ := h
 refine rk_one i hi0 hr hw ?_
 unfold Oper.wp
 rw [hx, Oper.upon_value]
 exact ⟨.inl h1, h2⟩

/-- An operation that may change anything, the only one that may come up now; it waits for all that came. -/
theorem rk_last (i : Nat) {oi : Oper} {fuel : Nat} {listed : Array Bool} {a : Act} {w : World} (hi0 : ops.toList[i]? = some oi)
  (hr : Region.ready md ops listed = [i]) (hwt : waits md ops listed i = true) (hw : Region.wanted oi (yielded ops a.tmps) = true)
  (h : ∀ K : Act → World → Prop, (∀ a' w', wpAnyK ρ P md ops Q fuel (listed.setIfInBounds i true) a' w' → K a' w') → oi.wp P a w K Q) : wpAnyK ρ P md ops Q (fuel + 1) listed a w :=
 rk_one i hi0 hr hw (h _ fun _ _ h1 => ⟨.inr hwt, h1⟩)

/-- A store, the only operation that may come up now; it waits for all that came. -/
theorem rk_store (i : Nat) {oi : Oper} {fuel : Nat} {listed : Array Bool} {a : Act} {w : World} (hi0 : ops.toList[i]? = some oi)
  (hr : Region.ready md ops listed = [i]) (hwt : waits md ops listed i = true) (hw : Region.wanted oi (yielded ops a.tmps) = true)
  (h : ∃ w', (execOp a.eval oi).run P w = .ok .skip w' ∧ wpAnyK ρ P md ops Q fuel (listed.setIfInBounds i true) (a.put oi.dst undef) w') : wpAnyK ρ P md ops Q (fuel + 1) listed a w := by
 obtain ⟨w', hx, h2⟩ := h
 refine rk_one i hi0 hr hw ?_
 unfold Oper.wp
 rw [hx, Oper.upon_skip]
 exact ⟨.inr hwt, h2⟩

theorem rk_done {fuel : Nat} {listed : Array Bool} {a : Act} {w : World} (hr : Region.ready md ops listed = []) (h : Q .normal a w) : wpAnyK ρ P md ops Q fuel listed a w := by
 cases fuel with
 | zero => exact ⟨hr, h⟩
 | succ n => exact ⟨fun _ => h, by rw [hr]; simp⟩

/-- What an operation yields: a value of which Φ holds, in a world that has what was there. -/
def YldK (ρ : Wr) (P : Program) (o : Oper) (a : Act) (w : World) (Φ : Value → World → Prop) : Prop :=
 (∃ v w', (execOp a.eval o).run P w = .ok (.value v) w' ∧ ρ.r w w' ∧ Φ v w') ∨
 (∃ f args, (execOp a.eval o).run P w = .ok (.enter f args) w ∧ Calls P f args w fun e w' => ∃ v, e = .returned v ∧ ρ.r w w' ∧ Φ v w')
theorem yldk_make {o : Oper} {a : Act} {w : World} {Φ : Value → World → Prop} (h : ∃ v w', (execOp a.eval o).run P w = .ok (.value v) w' ∧ ρ.r w w' ∧ Φ v w') : YldK ρ P o a w Φ := .inl h
theorem yldk_quiet {o : Oper} {a : Act} {w : World} {Φ : Value → World → Prop} (h : ∃ v, (execOp a.eval o).run P w = .ok (.value v) w ∧ Φ v w) : YldK ρ P o a w Φ :=
 let ⟨v, h1, h2⟩ := h; .inl ⟨v, w, h1, ρ.refl w, h2⟩
theorem yldk_call {o : Oper} {a : Act} {w : World} {Φ : Value → World → Prop} {f : FuncId} {args : Array Value} {R : Ending → World → Prop} (hx : (execOp a.eval o).run P w = .ok (.enter f args) w) (hc : Calls P f args w R)
  (h : ∀ e w', R e w' → ∃ v, e = .returned v ∧ ρ.r w w' ∧ Φ v w') : YldK ρ P o a w Φ := .inr ⟨f, args, hx, hc.mono h⟩
theorem YldK.wpOp {i : Nat} {oi : Oper} {a : Act} {w : World} {Φ : Value → World → Prop} {K : Act → World → Prop} (hi : ops[i]? = some oi) (hw : Region.wanted oi (yielded ops a.tmps) = true) (h : YldK ρ P oi a w Φ)
  (hK : ∀ v w', ρ.r w w' → Φ v w' → K (a.put oi.dst v) w') : wpOp P ops Q i K a w := by
 unfold Go.wpOp
 rw [hi]
 show if _ then _ else _
 rw [if_pos hw]
 refine .inl ?_
 unfold Oper.wp
 rcases h with ⟨v, w', hx, h1, h2⟩ | ⟨f, args, hx, hc⟩
 ·
  rw [hx, Oper.upon_value]; exact hK v w' h1 h2
 ·
  rw [hx, Oper.upon_enter]
  refine hc.mono fun e w' ⟨v, he, h1, h2⟩ => ?_
  subst he
  exact hK v w' h1 h2

theorem rk_par_aux {fuel : Nat} {listed : Array Bool} {a : Act} {w : World} (S : List (Nat × Tmp)) (Φ : Nat → Value → World → Prop)
  (hb : parB md ops listed S = true) (st : ∀ i v w w', Φ i v w → ρ.r w w' → Φ i v w')
  (hop : ∀ p ∈ S, ∀ oi, ops[p.1]? = some oi → ∀ f W, ρ.r w W → (∀ q ∈ S, reach md ops ops.size p.1 q.1 = true → Φ q.1 (f q.1) W) → Region.wanted oi (yielded ops (fillS S f a).tmps) = true ∧ YldK ρ P oi (fillS S f a) W (Φ p.1))
  (rest : ∀ f W, ρ.r w W → (∀ p ∈ S, Φ p.1 (f p.1) W) → wpAnyK ρ P md ops Q fuel (S.foldl (fun l p => l.setIfInBounds p.1 true) listed) (fillS S f a) W) :
  ∀ (m : Nat) (L : Array Bool) (f : Nat → Value) (W : World), left S L = m → Closed md ops L → L.size = listed.size → (∀ k, (S.map (·.1)).contains k = false → L.getD k false = listed.getD k false) →
   ρ.r w W → (∀ p ∈ S, L.getD p.1 false = true → Φ p.1 (f p.1) W) → wpAnyK ρ P md ops Q (fuel + m) L (fillS S f a) W := by
 unfold parB at hb
 simp only [Bool.and_eq_true, decide_eq_true_eq, List.all_eq_true, List.mem_range] at hb
 obtain ⟨⟨⟨⟨⟨⟨hcl, n1⟩, n2⟩, hsz⟩, hS⟩, hord⟩, hwait⟩ := hb
 intro m
 induction m with
 | zero =>
  intro L f W hl _ hsL hout hx hφ
  have hall : ∀ p ∈ S, L.getD p.1 false = true := by
   intro p hp
   unfold left at hl
   have := List.eq_nil_of_length_eq_zero hl
   rw [List.filter_eq_nil_iff] at this
   have := this p hp
   simpa using this
  have hL : L = S.foldl (fun l p => l.setIfInBounds p.1 true) listed := by
   have key : ∀ (T : List (Nat × Tmp)) (l : Array Bool), (T.foldl (fun l p => l.setIfInBounds p.1 true) l).size = l.size ∧ ∀ k, k < l.size → (T.foldl (fun l p => l.setIfInBounds p.1 true) l).getD k false = (l.getD k false || (T.map (·.1)).contains k) := by
    intro T
    induction T with
    | nil => intro l; exact ⟨rfl, fun k _ => by simp⟩
    | cons p T ih =>
     intro l
     obtain ⟨h1, h2⟩ := ih (l.setIfInBounds p.1 true)
     refine ⟨by rw [List.foldl_cons, h1, Array.size_setIfInBounds], fun k hk => ?_⟩
     rw [List.foldl_cons, h2 k (by rw [Array.size_setIfInBounds]; exact hk), List.map_cons, List.contains_cons]
     by_cases e : p.1 = k
     ·
      subst e
      rw [getD_set_eq false hk]; simp
     ·
      rw [getD_set_ne false e]
      have : (k == p.1) = false := by simp; omega
      rw [this]; simp
   obtain ⟨k1, k2⟩ := key S listed
   apply Array.ext
   ·
    rw [hsL, k1]
   ·
    intro k hk1 hk2
    have hk : k < listed.size := by omega
    have e1 : L[k] = L.getD k false := by simp [hk1]
    have e2 : (S.foldl (fun l p => l.setIfInBounds p.1 true) listed)[k] = (S.foldl (fun l p => l.setIfInBounds p.1 true) listed).getD k false := by simp [hk2]
    rw [e1, e2, k2 k hk]
    cases hc : (S.map (·.1)).contains k with
    | false => rw [hout k hc]; simp
    | true =>
     simp only [List.contains_iff_mem, List.mem_map] at hc
     obtain ⟨p, hp, rfl⟩ := hc
     rw [hall p hp]; simp
  rw [Nat.add_zero, hL]
  exact rest f W hx fun p hp => hφ p hp (hall p hp)
 | succ m ih =>
  intro L f W hl hclL hsL hout hx hφ
  -- the first that has not come up
  have hex : ∃ k, k < S.length ∧ (∃ p, S[k]? = some p ∧ L.getD p.1 false = false) ∧ ∀ j, j < k → ∀ p, S[j]? = some p → L.getD p.1 false = true := by
   have : ∃ k, k < S.length ∧ ∃ p, S[k]? = some p ∧ L.getD p.1 false = false := by
    refine Classical.byContradiction fun h => ?_
    have : S.filter (fun p => !L.getD p.1 false) = [] := by
     rw [List.filter_eq_nil_iff]
     intro p hp
     obtain ⟨k, hk, rfl⟩ := List.getElem_of_mem hp
     intro h2
     exact h ⟨k, hk, _, List.getElem?_eq_getElem hk, by simpa using h2⟩
    unfold left at hl
    rw [this] at hl
    simp at hl
   obtain ⟨k, hk⟩ := this
   induction k using Nat.strongRecOn with
   | ind k ihk =>
    by_cases h : ∃ j, j < k ∧ ∃ p, S[j]? = some p ∧ L.getD p.1 false = false
    ·
     obtain ⟨j, hj, p, hp, hpl⟩ := h
     exact ihk j hj ⟨by omega, p, hp, hpl⟩
    ·
     refine ⟨k, hk.1, hk.2, fun j hj p hp => ?_⟩
     cases hv : L.getD p.1 false with
     | true => rfl
     | false => exact absurd ⟨j, hj, p, hp, hv⟩ h
  have hlS : ∀ k, L.getD k true = false ↔ k < L.size ∧ L.getD k false = false := by
   intro k
   rcases Nat.lt_or_ge k L.size with h | h
   ·
    simp [h]
   ·
    simp [h]
  refine ⟨fun h0 => ?_, fun i hi => ?_⟩
  ·
   exfalso
   obtain ⟨k, hk, ⟨p, hp, hpl⟩, hbef⟩ := hex
   have hpS : p ∈ S := List.mem_of_getElem? hp
   have h1 := hord k hk
   rw [hp] at h1
   simp only [Option.map_some, Option.getD_some] at h1
   have h2 := hS p hpS
   have : p.1 ∈ Region.ready md ops L := by
    rw [mem_ready]
    refine ⟨(hlS _).2 ⟨by omega, hpl⟩, ops[p.1]'(h2.1.1), by simp, fun e he hb => ?_⟩
    rw [Array.getElem?_eq_getElem h2.1.1] at h1
    simp only [Option.map_some, Option.getD_some, Array.all_eq_true] at h1
    obtain ⟨n, hn, rfl⟩ := Array.getElem_of_mem he
    have h3 := h1 n hn
    rw [hb] at h3
    simp only [Bool.not_true, Bool.false_or, Bool.or_eq_true, List.contains_iff_mem, List.mem_map] at h3
    by_cases hc : (S.map (·.1)).contains ((ops[p.1]'(h2.1.1)).after[n]).on = true
    ·
     simp only [List.contains_iff_mem, List.mem_map] at hc
     obtain ⟨q, hq, hqe⟩ := hc
     rcases h3 with h3 | ⟨q', hq', hqe'⟩
     ·
      have h4 := hS q hq
      have h5 : listed.getD q.1 true = false := by simpa using h4.1.2
      rw [hqe] at h5
      rcases Nat.lt_or_ge ((ops[p.1]'(h2.1.1)).after[n]).on listed.size with h6 | h6
      ·
       simp [h6] at h5 h3; rw [h3] at h5; cases h5
      ·
       simp [h6] at h5
     ·
      obtain ⟨j, hj, rfl⟩ := List.getElem_of_mem hq'
      rw [← hqe']
      have hj2 : j < k ∧ j < S.length := by rw [List.length_take] at hj; omega
      refine hbef j hj2.1 _ ?_
      rw [List.getElem_take, List.getElem?_eq_getElem hj2.2]
    ·
     have hc' : (S.map (·.1)).contains ((ops[p.1]'(h2.1.1)).after[n]).on = false := by simpa using hc
     rw [hout _ hc']
     rcases h3 with h3 | ⟨q', hq', hqe'⟩
     ·
      exact h3
     ·
      exfalso; apply hc
      simp only [List.contains_iff_mem, List.mem_map]
      exact ⟨q', List.mem_of_mem_take hq', hqe'⟩
   rw [h0] at this
   cases this
  ·
   obtain ⟨hiu, oi, hoi, hall⟩ := mem_ready.1 hi
   obtain ⟨hisz, hiu'⟩ := (hlS i).1 hiu
   have hiS : (S.map (·.1)).contains i = true := by
    cases hc : (S.map (·.1)).contains i with
    | true => rfl
    | false =>
     exfalso
     have h1 := hwait i (by omega)
     rw [hc, ← hout i hc, hiu'] at h1
     simp only [Bool.false_or, List.all_eq_true] at h1
     obtain ⟨k, hk, ⟨p, hp, hpl⟩, _⟩ := hex
     have h2 := reach_listed hclL _ i oi p.1 hoi hall (h1 p (List.mem_of_getElem? hp))
     rw [hpl] at h2; cases h2
   simp only [List.contains_iff_mem, List.mem_map] at hiS
   obtain ⟨p, hp, rfl⟩ := hiS
   have hdst : oi.dst = some p.2 := by
    have h2 := hS p hp
    rw [hoi] at h2
    simp only [Option.map_some, Option.getD_some, beq_iff_eq] at h2
    exact h2.2
   obtain ⟨hwnt, hy⟩ := hop p hp oi hoi f W hx fun q hq hr => hφ q hq (reach_listed hclL _ p.1 oi q.1 hoi hall hr)
   refine hy.wpOp hoi hwnt fun v W' hxW hv => ⟨.inl hxW, ?_⟩
   rw [hdst, fill_put S f a p v hp n1 n2]
   refine ih _ _ W' ?_ (closed_set hclL hi) (by rw [Array.size_setIfInBounds]; exact hsL) ?_ (ρ.tr hx hxW) ?_
   ·
    have := left_set S L p hp n1 hiu' hisz
    omega
   ·
    intro k hk
    have hne : p.1 ≠ k := fun e => by
     rw [← e] at hk
     have : (S.map (·.1)).contains p.1 = true := by simp only [List.contains_iff_mem, List.mem_map]; exact ⟨p, hp, rfl⟩
     rw [this] at hk; cases hk
    rw [getD_set_ne false hne]; exact hout k hk
   ·
    intro q hq hql
    by_cases hqp : q.1 = p.1
    ·
     rw [hqp]
     unfold updV
     rw [if_pos rfl]
     exact hv
    ·
     unfold updV
     rw [if_neg hqp]
     rw [getD_set_ne false (Ne.symm hqp)] at hql
     exact st _ _ _ _ (hφ q hq hql) hxW

/-- Operations S may come up beside one another, in this order or another one: each is shown once. -/
theorem rk_par {fuel : Nat} {listed : Array Bool} {a : Act} {w : World} (S : List (Nat × Tmp)) (Φ : Nat → Value → World → Prop) (m : Nat)
  (hb : (parB md ops listed S && decide (left S listed = m)) = true) (st : ∀ i v w w', Φ i v w → ρ.r w w' → Φ i v w')
  (hop : ∀ p ∈ S, ∀ oi, ops[p.1]? = some oi → ∀ f W, ρ.r w W → (∀ q ∈ S, reach md ops ops.size p.1 q.1 = true → Φ q.1 (f q.1) W) → Region.wanted oi (yielded ops (fillS S f a).tmps) = true ∧ YldK ρ P oi (fillS S f a) W (Φ p.1))
  (rest : ∀ f W, ρ.r w W → (∀ p ∈ S, Φ p.1 (f p.1) W) → wpAnyK ρ P md ops Q fuel (S.foldl (fun l p => l.setIfInBounds p.1 true) listed) (fillS S f a) W) : wpAnyK ρ P md ops Q (fuel + m) listed a w := by
 obtain ⟨hb1, hb2⟩ := Bool.and_eq_true _ _ ▸ hb
 have hpar := hb1
 unfold parB at hb1
 simp only [Bool.and_eq_true, decide_eq_true_eq, List.all_eq_true] at hb1
 obtain ⟨⟨⟨⟨⟨⟨hcl, n1⟩, n2⟩, hsz⟩, hS⟩, hord⟩, hwait⟩ := hb1
 obtain ⟨f, hf, _⟩ := fill_old S a n1
 have := rk_par_aux (P := P) (Q := Q) (fuel := fuel) (a := a) (w := w) S Φ hpar st hop rest m listed f w (by simpa using hb2) (closed_of hcl) rfl (fun _ _ => rfl) (ρ.refl w) (fun p hp h => by
  have h2 := (hS p hp).1.2
  rcases Nat.lt_or_ge p.1 listed.size with h6 | h6
  ·
   simp [h6] at h2 h; rw [h] at h2; cases h2
  ·
   simp [h6] at h2)
 rwa [hf] at this

end

/-- The blocks below B are as they are, each row is as it is but for its mark. -/
structure Keep (B : Nat) (w w' : World) : Prop where
 below : Below B w w'
 row : ∀ (i : Nat) (cs : Array Value) (t : TypeId) (fr : Nat × Nat), w.heap[i]? = some (Obj.cells cs t fr) → ∃ fr', w'.heap[i]? = some (Obj.cells cs t fr')
theorem Keep.refl (B : Nat) (w : World) : Keep B w w := ⟨Below.refl B w, fun _ _ _ fr h => ⟨fr, h⟩⟩
theorem Keep.tr {B : Nat} {a b c : World} (h : Keep B a b) (k : Keep B b c) : Keep B a c := ⟨h.below.trans k.below, fun i _ _ fr e => by
 obtain ⟨fr', e'⟩ := h.row i _ _ fr e
 exact k.row i _ _ fr' e'⟩
theorem Keep.ext {B : Nat} {a b : World} (h : Ext a b) (hB : B ≤ a.heap.size) : Keep B a b := ⟨h.mono hB, fun i _ _ fr e => ⟨fr, (h.block i (lt_of_heap e)).trans e⟩⟩
def keepW (B : Nat) : Wr := ⟨Keep B, Keep.refl B, Keep.tr⟩
theorem Keep.cell {B : Nat} {w w' : World} (h : Keep B w w') {a : Addr} {v : Value} (hc : w.cell? a = some v) : w'.cell? a = some v := by
 unfold World.cell? at hc ⊢
 split at hc
 ·
  rename_i cs t fr hb
  obtain ⟨fr', e⟩ := h.row _ _ _ _ hb
  rw [e]
  exact hc
 ·
  cases hc
theorem Keep.rd {B size n : Nat} {w w' : World} {A : Option Addr} {xs : List Value} (h : Keep B w w') (hr : Rd w size A n xs) : Rd w' size A n xs := ⟨hr.1, fun hx => by
 obtain ⟨ad, e, hc⟩ := hr.2 hx
 exact ⟨ad, e, fun j u hj => h.cell (hc j u hj)⟩⟩
theorem Keep.rdB {B : Nat} {w w' : World} {A : Option Addr} {bs : List UInt8} (h : Keep B w w') (hr : RdB w A bs) : RdB w' A bs := Keep.rd h hr
theorem IsB.stK {B : Nat} (bs : List UInt8) : ∀ v w w', IsB bs v w → (keepW B).r w w' → IsB bs v w' := fun _ _ _ ⟨A, c, h1, h2, h3⟩ hx => ⟨A, c, h1, Keep.rdB hx h2, h3⟩
/-- '[]byte' of a constant text: the row is marked. -/
theorem run_convMark {P : Program} {t e : TypeId} (ht : P.underlying t = some (.slice e)) (he : P.underlying e = some (.int .u8)) (B : Nat) (w : World) (g n c : Nat) (C : Array Value) (fr : Nat × Nat) (hg : w.heap[g]? = some (.cells C e fr)) (hB : B ≤ g) :
  ∃ w', (convert t t (.slice (some ⟨g, 0, none⟩) n c)).run P w = .ok (.slice (some ⟨g, 0, none⟩) n c) w' ∧ Keep B w w' := by
 have hsh : w.shape? g = some (e, C.size) := by unfold World.shape?; rw [hg]
 refine ⟨_, by simp [convert, run_underlying ht, run_underlying he, markStringish, hsh]; rfl, ?_⟩
 unfold World.freeze
 rw [if_neg (by decide)]
 refine ⟨⟨rfl, rfl, rfl, by simp, fun i hi => ?_⟩, fun i cs t' fr' h => ?_⟩
 ·
  simp only [Array.getElem?_modify]
  rw [if_neg (by omega)]
 ·
  simp only [Array.getElem?_modify]
  by_cases hi : g = i
  ·
   subst hi
   rw [if_pos rfl, h]
   exact ⟨_, rfl⟩
  ·
   rw [if_neg hi]
   exact ⟨fr', h⟩
theorem ex_convK {P : Program} {o : Oper} {a : Act} {w w1 : World} {s d : TypeId} {x : Operand} {v v' : Value} (ho : o.op = .convert s d x) (hx : a.eval x = v) (hr : (convert s d v).run P w = .ok v' w1) : (execOp a.eval o).run P w = .ok (.value v') w1 := by
 unfold execOp
 simp only [ho, hx, Sem.run_bind, hr, Result.andThen_ok, Sem.run_pure]
theorem IsB.rd {bs : List UInt8} {A : Option Addr} {n c : Nat} {w : World} (h : IsB bs (.slice A n c) w) : RdB w A bs := by
 obtain ⟨A', c', e, h2, _⟩ := h
 injection e with e1 _ _
 rw [e1]; exact h2
/-- A row of the region's own with these bytes. -/
def IsLit (B : Nat) (e : TypeId) (bs : List UInt8) (v : Value) (w : World) : Prop := ∃ g fr, v = .slice (some ⟨g, 0, none⟩) bs.length bs.length ∧ B ≤ g ∧ w.heap[g]? = some (.cells (bvs bs).toArray e fr)
theorem IsLit.stK {B : Nat} {e : TypeId} {bs : List UInt8} : ∀ v w w', IsLit B e bs v w → (keepW B).r w w' → IsLit B e bs v w' := fun _ _ _ ⟨g, fr, h1, h2, h3⟩ hx => by
 obtain ⟨fr', h4⟩ := hx.row _ _ _ _ h3
 exact ⟨g, fr', h1, h2, h4⟩
theorem IsLit.isB {B : Nat} {e : TypeId} {bs : List UInt8} {v : Value} {w : World} (h : IsLit B e bs v w) : IsB bs v w := by
 obtain ⟨g, fr, h1, _, h3⟩ := h
 refine ⟨_, _, h1, ⟨by rw [bvs_len]; omega, fun _ => ⟨_, rfl, fun j u hj => ?_⟩⟩, Nat.le_refl _⟩
 rw [Addr.add_lit, cell_of_row w g _ _ _ _ h3]
 simpa using hj
end Go.Proofs.Ytjholekgdnhpkaa

/- A region that draws its order: a relation of worlds ρ that operations keep (as XReg8), and a list E of operations whose values are the same in every world (as XReg5). Printed by wip/tools/gen_reg9.py. -/

namespace Go.Proofs.Ytjholekgdnhpkaa

open Go.RowKit

section

variable {ρ : Wr} {E : List Nat} {P : Program} {ops : Array Oper} {md : Region.Mode} {Q : Exit → Act → World → Prop}

/-- Whatever order is picked from here on: behind each operation what was there is as it was, or the operation waits for all that came before it. -/
def wpAnyQ (ρ : Wr) (E : List Nat) (P : Program) (md : Region.Mode) (ops : Array Oper) (Q : Exit → Act → World → Prop) : Nat → Array Bool → Act → World → Prop
 | 0, listed, a, w => Region.ready md ops listed = [] ∧ Q .normal a w
 | fuel + 1, listed, a, w =>
  (Region.ready md ops listed = [] → Q .normal a w) ∧
  ∀ i ∈ Region.ready md ops listed, wpOp P ops Q i (fun a' w' => (ρ.r w w' ∨ waitsE E md ops listed i = true) ∧ wpAnyQ ρ E P md ops Q fuel (listed.setIfInBounds i true) a' w') a w

theorem wpAny_of_Q : ∀ (fuel : Nat) (listed : Array Bool) (a : Act) (w : World), wpAnyQ ρ E P md ops Q fuel listed a w → wpAny P md ops Q fuel listed a w
 | 0, _, _, _, h => h
 | fuel + 1, _, _, _, h => ⟨h.1, fun i hi => wpOp_mono (fun a' w' h' => wpAny_of_Q fuel _ a' w' h'.2) (h.2 i hi)⟩

theorem wpAnyQ_first {i : Nat} {oi : Oper} {v : Value} (hE : E.contains i = false) (hi : ops[i]? = some oi) (hsel : ∀ (j : Nat) (o : Oper) cs b, ops[j]? = some o → o.op ≠ .select cs b)
  (hQ : ∀ c a w, Q (.panic c) (a.put oi.dst v) w → Q (.panic c) a w) :
  ∀ (fuel : Nat) (listed : Array Bool) (a : Act) (w : World), Closed md ops listed →
   (∀ j oj, ops[j]? = some oj → j ≠ i → listed.getD j true = false → (∀ e ∈ oj.after, Region.binds md e = true → e.on ≠ i) → oi.apart ops oj = true) →
   i ∈ Region.ready md ops listed → YieldsIf P ops (ρ.r w) oi v a →
   wpAnyQ ρ E P md ops Q fuel (listed.setIfInBounds i true) (a.put oi.dst v) w → wpAnyQ ρ E P md ops Q (fuel + 1) listed a w := by
 intro fuel
 induction fuel with
 | zero =>
  intro listed a w _ _ hr hy H
  refine ⟨fun h => (by rw [h] at hr; cases hr), fun j hj => ?_⟩
  by_cases hji : j = i
  ·
   subst hji; exact hy.wpOp hi (ρ.refl w) ⟨.inl (ρ.refl w), H⟩
  ·
   have := ready_mono hj hji
   rw [H.1] at this
   cases this
 | succ fuel ih =>
  intro listed a w hcl hfree hr hy H
  refine ⟨fun h => (by rw [h] at hr; cases hr), fun j hj => ?_⟩
  by_cases hji : j = i
  ·
   subst hji; exact hy.wpOp hi (ρ.refl w) ⟨.inl (ρ.refl w), H⟩
  ·
   have h1 := H.2 j (ready_mono hj hji)
   obtain ⟨hjun, oj, hoj, hall⟩ := mem_ready.1 hj
   have hiun := (mem_ready.1 hr).1
   have hilt : i < listed.size := by
    rcases Nat.lt_or_ge i listed.size with h' | h'
    ·
     exact h'
    ·
     simp [Array.getElem?_eq_none h'] at hiun
   have hnot : ∀ e ∈ oj.after, Region.binds md e = true → e.on ≠ i := fun e he hb heq => by
    have h1 := hall e he hb
    rw [heq] at h1
    simp [hilt] at hiun h1
    rw [hiun] at h1; cases h1
   have hnow : waitsE E md ops (listed.setIfInBounds i true) j = true → False := fun hw => by
    unfold waitsE at hw
    have h1 := (List.all_eq_true.1 hw) i (List.mem_range.2 (Array.getElem?_eq_some_iff.1 hi).1)
    have hset : (listed.setIfInBounds i true).getD i false = true := by simp [hilt]
    rw [hset] at h1
    simp only [Bool.not_true, Bool.false_or, Bool.or_eq_true] at h1
    rcases h1 with h1 | h1
    ·
     have h3 := reach_listed hcl _ j oj i hoj hall h1
     simp [hilt] at hiun h3
     rw [hiun] at h3; cases h3
    ·
     rw [hE] at h1; cases h1
   have h2 := wpOp_putIf hoj (hfree j oj hoj hji hjun hnot) (fun cs b => hsel i oi cs b hi) (fun cs b => hsel j oj cs b hoj) hQ hy h1
   have hfree' : ∀ k ok, ops[k]? = some ok → k ≠ i → (listed.setIfInBounds j true).getD k true = false →
     (∀ e ∈ ok.after, Region.binds md e = true → e.on ≠ i) → oi.apart ops ok = true := fun k ok hk hki hun hno => by
    refine hfree k ok hk hki ?_ hno
    by_cases hjk : j = k
    ·
     subst hjk; exact hjun
    ·
     rw [getD_set_ne true hjk] at hun; exact hun
   refine wpOp_mono (fun a' w' h3 => ?_) h2
   have hrest : wpAnyQ ρ E P md ops Q fuel ((listed.setIfInBounds j true).setIfInBounds i true) (a'.put oi.dst v) w' := by
    rw [Array.setIfInBounds_comm _ _ hji]
    exact h3.2.2
   rcases h3.2.1 with hx | hw
   ·
    exact ⟨.inl hx, ih (listed.setIfInBounds j true) a' w' (closed_set hcl hj) hfree' (ready_mono hr (Ne.symm hji)) (yields_keep h3.1 hx) hrest⟩
   ·
    exact (hnow hw).elim

theorem wpAnyQ_firstA {i : Nat} {oi : Oper} {v : Value} (hi : ops[i]? = some oi) (hsel : ∀ (j : Nat) (o : Oper) cs b, ops[j]? = some o → o.op ≠ .select cs b)
  (hQ : ∀ c a w, Q (.panic c) (a.put oi.dst v) w → Q (.panic c) a w) :
  ∀ (fuel : Nat) (listed : Array Bool) (a : Act) (w : World), Closed md ops listed →
   (∀ j oj, ops[j]? = some oj → j ≠ i → listed.getD j true = false → (∀ e ∈ oj.after, Region.binds md e = true → e.on ≠ i) → oi.apart ops oj = true) →
   i ∈ Region.ready md ops listed → YieldsIf P ops (fun _ => True) oi v a →
   wpAnyQ ρ E P md ops Q fuel (listed.setIfInBounds i true) (a.put oi.dst v) w → wpAnyQ ρ E P md ops Q (fuel + 1) listed a w := by
 intro fuel
 induction fuel with
 | zero =>
  intro listed a w _ _ hr hy H
  refine ⟨fun h => (by rw [h] at hr; cases hr), fun j hj => ?_⟩
  by_cases hji : j = i
  ·
   subst hji; exact hy.wpOp hi trivial ⟨.inl (ρ.refl w), H⟩
  ·
   have := ready_mono hj hji
   rw [H.1] at this
   cases this
 | succ fuel ih =>
  intro listed a w hcl hfree hr hy H
  refine ⟨fun h => (by rw [h] at hr; cases hr), fun j hj => ?_⟩
  by_cases hji : j = i
  ·
   subst hji; exact hy.wpOp hi trivial ⟨.inl (ρ.refl w), H⟩
  ·
   have h1 := H.2 j (ready_mono hj hji)
   obtain ⟨hjun, oj, hoj, hall⟩ := mem_ready.1 hj
   have hiun := (mem_ready.1 hr).1
   have hilt : i < listed.size := by
    rcases Nat.lt_or_ge i listed.size with h' | h'
    ·
     exact h'
    ·
     simp [Array.getElem?_eq_none h'] at hiun
   have hnot : ∀ e ∈ oj.after, Region.binds md e = true → e.on ≠ i := fun e he hb heq => by
    have h1 := hall e he hb
    rw [heq] at h1
    simp [hilt] at hiun h1
    rw [hiun] at h1; cases h1
   have h2 := wpOp_putIf hoj (hfree j oj hoj hji hjun hnot) (fun cs b => hsel i oi cs b hi) (fun cs b => hsel j oj cs b hoj) hQ hy h1
   have hfree' : ∀ k ok, ops[k]? = some ok → k ≠ i → (listed.setIfInBounds j true).getD k true = false →
     (∀ e ∈ ok.after, Region.binds md e = true → e.on ≠ i) → oi.apart ops ok = true := fun k ok hk hki hun hno => by
    refine hfree k ok hk hki ?_ hno
    by_cases hjk : j = k
    ·
     subst hjk; exact hjun
    ·
     rw [getD_set_ne true hjk] at hun; exact hun
   refine wpOp_mono (fun a' w' h3 => ?_) h2
   have hrest : wpAnyQ ρ E P md ops Q fuel ((listed.setIfInBounds j true).setIfInBounds i true) (a'.put oi.dst v) w' := by
    rw [Array.setIfInBounds_comm _ _ hji]
    exact h3.2.2
   rcases h3.2.1 with hx | hw
   ·
    exact ⟨.inl hx, ih (listed.setIfInBounds j true) a' w' (closed_set hcl hj) hfree' (ready_mono hr (Ne.symm hji)) h3.1 hrest⟩
   ·
    exact ⟨.inr (waitsE_less hw), ih (listed.setIfInBounds j true) a' w' (closed_set hcl hj) hfree' (ready_mono hr (Ne.symm hji)) h3.1 hrest⟩

theorem rr_start (ρ : Wr) (E : List Nat) {id : Nat} {a : Act} {w : World} (hm : P.follows .mixedOrders = true)
  (h : wpAnyQ ρ E P .any ops Q ops.size (Array.replicate ops.size false) a w.drew) : (Code.region id ops true).wp P Q a w := wp_region_any hm (wpAny_of_Q _ _ _ _ h)

/-- A quiet operation. -/
theorem rr_take (i : Nat) (hE : E.contains i = false) {oi : Oper} {fuel : Nat} {listed : Array Bool} {a : Act} {w : World} (hi0 : ops.toList[i]? = some oi)
  (hs : Region.noSelect ops = true) (hf : (closedB md ops listed && Region.free md ops listed i) = true) (hr : (Region.ready md ops listed).contains i = true)
  (hQ : ∀ c a v w, Q (.panic c) (a.put oi.dst v) w → Q (.panic c) a w) (hw : Region.wanted oi (yielded ops a.tmps) = true)
  (h : ∃ v, (∀ w', ρ.r w w' → (execOp a.eval oi).run P w' = .ok (.value v) w') ∧ wpAnyQ ρ E P md ops Q fuel (listed.setIfInBounds i true) (a.put oi.dst v) w) : wpAnyQ ρ E P md ops Q (fuel + 1) listed a w := by
 have hi : ops[i]? = some oi := by rw [← hi0]; simp
 obtain ⟨v, hv, h⟩ := h
 exact wpAnyQ_first hE hi (Region.noSelect_spec hs) (fun c a w => hQ c a v w) fuel listed a w (closed_of (Bool.and_eq_true _ _ ▸ hf).1) (Region.free_spec hi (Bool.and_eq_true _ _ ▸ hf).2) (by simpa using hr) (.inl ⟨hw, hv⟩) h

/-- A quiet operation whose value is the same in every world. -/
theorem rr_takeA (i : Nat) {oi : Oper} {fuel : Nat} {listed : Array Bool} {a : Act} {w : World} (hi0 : ops.toList[i]? = some oi)
  (hs : Region.noSelect ops = true) (hf : (closedB md ops listed && Region.free md ops listed i) = true) (hr : (Region.ready md ops listed).contains i = true)
  (hQ : ∀ c a v w, Q (.panic c) (a.put oi.dst v) w → Q (.panic c) a w) (hw : Region.wanted oi (yielded ops a.tmps) = true)
  (h : ∃ v, (∀ w', (execOp a.eval oi).run P w' = .ok (.value v) w') ∧ wpAnyQ ρ E P md ops Q fuel (listed.setIfInBounds i true) (a.put oi.dst v) w) : wpAnyQ ρ E P md ops Q (fuel + 1) listed a w := by
 have hi : ops[i]? = some oi := by rw [← hi0]; simp
 obtain ⟨v, hv, h⟩ := h
 exact wpAnyQ_firstA hi (Region.noSelect_spec hs) (fun c a w => hQ c a v w) fuel listed a w (closed_of (Bool.and_eq_true _ _ ▸ hf).1) (Region.free_spec hi (Bool.and_eq_true _ _ ▸ hf).2) (by simpa using hr) (.inl ⟨hw, fun w' _ => hv w'⟩) h

/-- One that its guard leaves out. -/
theorem rr_skip (i : Nat) {oi : Oper} {fuel : Nat} {listed : Array Bool} {a : Act} {w : World} (hi0 : ops.toList[i]? = some oi)
  (hs : Region.noSelect ops = true) (hf : (closedB md ops listed && Region.free md ops listed i) = true) (hr : (Region.ready md ops listed).contains i = true)
  (hQ : ∀ c a v w, Q (.panic c) (a.put oi.dst v) w → Q (.panic c) a w) (hw : Region.wanted oi (yielded ops a.tmps) = false)
  (h : wpAnyQ ρ E P md ops Q fuel (listed.setIfInBounds i true) (a.put oi.dst undef) w) : wpAnyQ ρ E P md ops Q (fuel + 1) listed a w := by
 have hi : ops[i]? = some oi := by rw [← hi0]; simp
 exact wpAnyQ_firstA hi (Region.noSelect_spec hs) (fun c a w => hQ c a _ w) fuel listed a w (closed_of (Bool.and_eq_true _ _ ▸ hf).1) (Region.free_spec hi (Bool.and_eq_true _ _ ▸ hf).2) (by simpa using hr) (.inr ⟨hw, rfl⟩) h

theorem rr_one (i : Nat) {oi : Oper} {fuel : Nat} {listed : Array Bool} {a : Act} {w : World} (hi0 : ops.toList[i]? = some oi)
  (hr : Region.ready md ops listed = [i]) (hw : Region.wanted oi (yielded ops a.tmps) = true)
  (h : oi.wp P a w (fun a' w' => (ρ.r w w' ∨ waitsE E md ops listed i = true) ∧ wpAnyQ ρ E P md ops Q fuel (listed.setIfInBounds i true) a' w') Q) : wpAnyQ ρ E P md ops Q (fuel + 1) listed a w := by
 have hi : ops[i]? = some oi := by rw [← hi0]; simp
 refine ⟨fun h0 => absurd (hr ▸ h0) (by simp), fun j hj => ?_⟩
 rw [hr] at hj
 obtain rfl : j = i := by simpa using hj
 unfold wpOp
 rw [hi]
 show if _ then _ else _
 rw [if_pos hw]
 exact .inl h

/-- A call, the only operation that may come up now. -/
theorem rr_call (i : Nat) {oi : Oper} {fuel : Nat} {listed : Array Bool} {a : Act} {w : World} {f : FuncId} {args : Array Value} {R : Ending → World → Prop} (hc : Calls P f args w R) (hi0 : ops.toList[i]? = some oi)
  (hr : Region.ready md ops listed = [i]) (hw : Region.wanted oi (yielded ops a.tmps) = true)
  (hx : (execOp a.eval oi).run P w = .ok (.enter f args) w)
  (h : ∀ e w', R e w' → ∃ v, e = .returned v ∧ ρ.r w w' ∧ wpAnyQ ρ E P md ops Q fuel (listed.setIfInBounds i true) (a.put oi.dst v) w') : wpAnyQ ρ E P md ops Q (fuel + 1) listed a w := by
 refine rr_one i hi0 hr hw ?_
 unfold Oper.wp
 rw [hx, Oper.upon_enter]
 refine hc.mono fun e w' hR => ?_
 obtain ⟨v, rfl, h1, h2⟩ := h e w' hR
 exact ⟨.inl h1, h2⟩

/-- Another operation that only makes memory, the only one that may come up now. -/
theorem rr_make (i : Nat) {oi : Oper} {fuel : Nat} {listed : Array Bool} {a : Act} {w : World} (hi0 : ops.toList[i]? = some oi)
  (hr : Region.ready md ops listed = [i]) (hw : Region.wanted oi (yielded ops a.tmps) = true)
  (h : ∃ v w', (execOp a.eval oi).run P w = .ok (.value v) w' ∧ ρ.r w w' ∧ wpAnyQ ρ E P md ops Q fuel (listed.setIfInBounds i true) (a.put oi.dst v) w') : wpAnyQ ρ E P md ops Q (fuel + 1) listed a w := by
 obtain ⟨v, w', hx, h1, h2⟩ := h
 refine rr_one i hi0 hr hw ?_
 unfold Oper.wp
 rw [hx, Oper.upon_value]
 exact ⟨.inl h1, h2⟩

/-- An operation that may change anything, the only one that may come up now; it waits for all that came. -/
theorem rr_last (i : Nat) {oi : Oper} {fuel : Nat} {listed : Array Bool} {a : Act} {w : World} (hi0 : ops.toList[i]? = some oi)
  (hr : Region.ready md ops listed = [i]) (hwt : waitsE E md ops listed i = true) (hw : Region.wanted oi (yielded ops a.tmps) = true)
  (h : ∀ K : Act → World → Prop, (∀ a' w', wpAnyQ ρ E P md ops Q fuel (listed.setIfInBounds i true) a' w' → K a' w') → oi.wp P a w K Q) : wpAnyQ ρ E P md ops Q (fuel + 1) listed a w :=
 rr_one i hi0 hr hw (h _ fun _ _ h1 => ⟨.inr hwt, h1⟩)

/-- A store, the only operation that may come up now; it waits for all that came. -/
theorem rr_store (i : Nat) {oi : Oper} {fuel : Nat} {listed : Array Bool} {a : Act} {w : World} (hi0 : ops.toList[i]? = some oi)
  (hr : Region.ready md ops listed = [i]) (hwt : waitsE E md ops listed i = true) (hw : Region.wanted oi (yielded ops a.tmps) = true)
  (h : ∃ w', (execOp a.eval oi).run P w = .ok .skip w' ∧ wpAnyQ ρ E P md ops Q fuel (listed.setIfInBounds i true) (a.put oi.dst undef) w') : wpAnyQ ρ E P md ops Q (fuel + 1) listed a w := by
 obtain ⟨w', hx, h2⟩ := h
 refine rr_one i hi0 hr hw ?_
 unfold Oper.wp
 rw [hx, Oper.upon_skip]
 exact ⟨.inr hwt, h2⟩

theorem rr_done {fuel : Nat} {listed : Array Bool} {a : Act} {w : World} (hr : Region.ready md ops listed = []) (h : Q .normal a w) : wpAnyQ ρ E P md ops Q fuel listed a w := by
 cases fuel with
 | zero => exact ⟨hr, h⟩
 | succ n => exact ⟨fun _ => h, by rw [hr]; simp⟩

/-- A call that may change anything, the only operation that may come up now; it waits for all that came. -/
theorem rr_callW (i : Nat) {oi : Oper} {fuel : Nat} {listed : Array Bool} {a : Act} {w : World} {f : FuncId} {args : Array Value} {R : Ending → World → Prop} (hc : Calls P f args w R) (hi0 : ops.toList[i]? = some oi)
  (hr : Region.ready md ops listed = [i]) (hwt : waitsE E md ops listed i = true) (hw : Region.wanted oi (yielded ops a.tmps) = true)
  (hx : (execOp a.eval oi).run P w = .ok (.enter f args) w)
  (h : ∀ e w', R e w' → ∃ v, e = .returned v ∧ wpAnyQ ρ E P md ops Q fuel (listed.setIfInBounds i true) (a.put oi.dst v) w') : wpAnyQ ρ E P md ops Q (fuel + 1) listed a w := by
 refine rr_one i hi0 hr hw ?_
 unfold Oper.wp
 rw [hx, Oper.upon_enter]
 refine hc.mono fun e w' hR => ?_
 obtain ⟨v, rfl, h2⟩ := h e w' hR
 exact ⟨.inr hwt, h2⟩
/-- Two stores that may come up in either order. -/
theorem rr_two (i j : Nat) {oi oj : Oper} {fuel : Nat} {listed : Array Bool} {a : Act} {w : World} (hi0 : ops.toList[i]? = some oi) (hj0 : ops.toList[j]? = some oj)
  (hr : Region.ready md ops listed = [i, j]) (hri : Region.ready md ops (listed.setIfInBounds i true) = [j]) (hrj : Region.ready md ops (listed.setIfInBounds j true) = [i])
  (hd : oi.dst = none ∧ oj.dst = none ∧ i ≠ j) (hwi : Region.wanted oi (yielded ops a.tmps) = true) (hwj : Region.wanted oj (yielded ops a.tmps) = true)
  (h : ∃ w1 w2 w3, (execOp a.eval oi).run P w = .ok .skip w1 ∧ (ρ.r w w1 ∨ waitsE E md ops listed i = true) ∧ (execOp a.eval oj).run P w1 = .ok .skip w3 ∧ (ρ.r w1 w3 ∨ waitsE E md ops (listed.setIfInBounds i true) j = true) ∧
   (execOp a.eval oj).run P w = .ok .skip w2 ∧ (ρ.r w w2 ∨ waitsE E md ops listed j = true) ∧ (execOp a.eval oi).run P w2 = .ok .skip w3 ∧ (ρ.r w2 w3 ∨ waitsE E md ops (listed.setIfInBounds j true) i = true) ∧
   wpAnyQ ρ E P md ops Q fuel ((listed.setIfInBounds i true).setIfInBounds j true) a w3) : wpAnyQ ρ E P md ops Q (fuel + 2) listed a w := by
 obtain ⟨w1, w2, w3, h1, c1, h2, c2, h3, c3, h4, c4, hk⟩ := h
 have hi : ops[i]? = some oi := by rw [← hi0]; simp
 have hj : ops[j]? = some oj := by rw [← hj0]; simp
 have hpi : ∀ v, a.put oi.dst v = a := fun v => by rw [hd.1]; rfl
 have hpj : ∀ v, a.put oj.dst v = a := fun v => by rw [hd.2.1]; rfl
 refine ⟨fun h0 => absurd (hr ▸ h0) (by simp), fun k hk' => ?_⟩
 rw [hr] at hk'
 simp only [List.mem_cons, List.not_mem_nil, or_false] at hk'
 rcases hk' with rfl | rfl
 ·
  unfold wpOp
  rw [hi]
  show if _ then _ else _
  rw [if_pos hwi]
  refine .inl ?_
  unfold Oper.wp
  rw [h1, Oper.upon_skip, hpi]
  refine ⟨c1, ?_⟩
  refine rr_one j hj0 hri hwj ?_
  unfold Oper.wp
  rw [h2, Oper.upon_skip, hpj]
  exact ⟨c2, hk⟩
 ·
  unfold wpOp
  rw [hj]
  show if _ then _ else _
  rw [if_pos hwj]
  refine .inl ?_
  unfold Oper.wp
  rw [h3, Oper.upon_skip, hpj]
  refine ⟨c3, ?_⟩
  refine rr_one i hi0 hrj hwi ?_
  unfold Oper.wp
  rw [h4, Oper.upon_skip, hpi]
  refine ⟨c4, ?_⟩
  rw [Array.setIfInBounds_comm _ _ (Ne.symm hd.2.2)]
  exact hk
end

end Go.Proofs.Ytjholekgdnhpkaa

/- Words for the coder in memory (layer 24): what turns, texts that stay, the coder while it lays and while it reads. -/

namespace Go.Proofs.Ytjholekgdnhpkaa

open Go.RowKit

attribute [local go_sem] Oper.semAt_some

/-- Only blocks of S turn. -/
structure Trn (S : Nat → Prop) (w w' : World) : Prop where
 os : w'.os = w.os
 tape : w'.tape = w.tape
 output : w'.output = w.output
 size : w.heap.size ≤ w'.heap.size
 block : ∀ i, i < w.heap.size → ¬ S i → w'.heap[i]? = w.heap[i]?
theorem Trn.refl (S : Nat → Prop) (w : World) : Trn S w w := ⟨rfl, rfl, rfl, Nat.le_refl _, fun _ _ _ => rfl⟩
theorem Trn.tr {S : Nat → Prop} {a b c : World} (h : Trn S a b) (k : Trn S b c) : Trn S a c := ⟨k.os.trans h.os, k.tape.trans h.tape, k.output.trans h.output, Nat.le_trans h.size k.size, fun i hi hn => (k.block i (Nat.lt_of_lt_of_le hi h.size) hn).trans (h.block i hi hn)⟩
theorem Trn.mono {S T : Nat → Prop} {a b : World} (h : Trn S a b) (hs : ∀ i, S i → i < a.heap.size → T i) : Trn T a b := ⟨h.os, h.tape, h.output, h.size, fun i hi hn => h.block i hi (fun e => hn (hs i e hi))⟩
theorem Trn.ext {S : Nat → Prop} {a b : World} (h : Ext a b) : Trn S a b := ⟨h.os, h.tape, h.output, h.size, fun i hi _ => h.block i hi⟩
theorem Trn.grown {S : Nat → Prop} {a b : World} {k : Nat} (h : a.grownBy b (some k)) (hk : S k) : Trn S a b := ⟨h.os, h.tape, h.output, h.size, fun i hi hn => h.block i hi (fun e => by injection e with e; exact hn (e ▸ hk))⟩
theorem Trn.below {S : Nat → Prop} {a b : World} {B : Nat} (h : Trn S a b) (hB : B ≤ a.heap.size) (hs : ∀ i, S i → B ≤ i) : Below B a b := ⟨h.os, h.tape, h.output, h.size, fun i hi => h.block i (by omega) (fun e => by have := hs i e; omega)⟩
theorem Trn.set {S : Nat → Prop} (w : World) (g : Nat) (cs : Array Value) (hg : S g) : Trn S w (w.setRow g cs) := Trn.grown (grown_row w g cs) hg
theorem Trn.row {S : Nat → Prop} {a b : World} {i : Nat} {o : Obj} (h : Trn S a b) (ho : a.heap[i]? = some o) (hn : ¬ S i) : b.heap[i]? = some o := (h.block i (lt_of_heap ho) hn).trans ho
theorem set_keeps {w : World} {g i : Nat} {cs : Array Value} {o : Obj} (h : w.heap[i]? = some o) (hn : i ≠ g) : (w.setRow g cs).heap[i]? = some o := (setRow_other w g i cs hn).trans h

/-- A text that stays whatever of S turns. -/
structure Tx (w : World) (S : Nat → Prop) (A : Option Addr) (c : Nat) (d : List UInt8) : Prop where
 rd : RdB w A d
 cap : d.length ≤ c
 off : d ≠ [] → ∀ ad, A = some ad → ¬ S ad.block
section

variable {w w' : World} {S T : Nat → Prop} {A : Option Addr} {c : Nat} {d : List UInt8}

theorem Rd.trn {s n : Nat} {xs : List Value} (h : Rd w s A n xs) (ht : Trn T w w') (hn : xs ≠ [] → ∀ ad, A = some ad → ¬ T ad.block) : Rd w' s A n xs := ⟨h.1, fun hx => by
 obtain ⟨ad, e, hc⟩ := h.2 hx
 refine ⟨ad, e, fun j u hj => ?_⟩
 have h1 := hc j u hj
 have h2 := ht.block (ad.add j).block (World.block_lt_of_cell? _ _ h1) (by rw [add_block]; exact hn hx ad e)
 unfold World.cell? at h1 ⊢
 rw [h2]; exact h1⟩
theorem Tx.trn (h : Tx w S A c d) (t : Trn T w w') (hT : ∀ i, T i → S i) : Tx w' S A c d :=
 ⟨Rd.trn h.rd t (fun hx ad e hb => h.off (by rintro rfl; exact hx rfl) ad e (hT _ hb)), h.cap, h.off⟩
theorem Tx.ext (h : Tx w S A c d) (t : Ext w w') : Tx w' S A c d := h.trn (T := fun _ => False) (Trn.ext t) (fun _ => False.elim)
theorem Tx.lt (h : Tx w S A c d) (hd : d ≠ []) {ad : Addr} (e : A = some ad) : ad.block < w.heap.size := by
 obtain ⟨ad', e', hc⟩ := h.rd.2 (by intro e; exact hd (by cases d with | nil => rfl | cons _ _ => simp [bvs] at e))
 obtain rfl : ad = ad' := by rw [e] at e'; injection e'
 cases d with
 | nil => exact absurd rfl hd
 | cons x xs =>
  have := World.block_lt_of_cell? _ _ (hc 0 (bv x) rfl)
  rwa [add_block] at this
theorem Tx.more (h : Tx w S A c d) (hS : ∀ i, T i → S i ∨ w.heap.size ≤ i) : Tx w T A c d := ⟨h.rd, h.cap, fun hd ad e ht => by
 rcases hS _ ht with h1 | h1
 ·
  exact h.off hd ad e h1
 ·
  have := h.lt hd e; omega⟩
theorem Tx.own {B n : Nat} {e : TypeId} (h : Own w B e 1 A n c (bvs d)) (hS : ∀ i, S i → i < B) : Tx w S A c d := by
 have hn : n = d.length := by have := h.len; rw [bvs_len] at this; omega
 refine ⟨h.rd', by have := h.nc; omega, fun hd ad e' hs => ?_⟩
 have h1 := hS _ hs
 rcases h.mem with h0 | ⟨g, off, cur, hA, hb, _⟩
 ·
  have := h.nc
  have := List.length_pos_iff.2 hd
  omega
 ·
  rw [hA] at e'
  injection e' with e'
  subst e'
  simp only at h1
  omega
theorem Tx.nil_ (w : World) (S : Nat → Prop) (A : Option Addr) (c : Nat) : Tx w S A c [] := ⟨RdB.nil_ _ _, Nat.zero_le _, fun h => absurd rfl h⟩
theorem Tx.new {B : Nat} (hr : RdB w A d) (hc : d.length ≤ c) (hf : FarB B w A d) (hS : ∀ i, S i → i < B) : Tx w S A c d := ⟨hr, hc, fun hd ad e hs => by
 obtain ⟨ad', _, _, e', h1, _⟩ := hf hd
 rw [e] at e'
 injection e' with e'
 subst e'
 have := hS _ hs
 omega⟩
theorem Tx.tail (h : Tx w S A c d) {k : Nat} (hk : k ≤ d.length) : Tx w S (if c = k then A else A.map (·.add k)) (c - k) (d.drop k) := by
 refine ⟨h.rd.tail hk h.cap, by rw [List.length_drop]; have := h.cap; omega, fun hd ad e hs => ?_⟩
 have hd' : d ≠ [] := by rintro rfl; simp at hd
 split at e
 ·
  exact h.off hd' ad e hs
 ·
  cases A with
  | none => cases e
  | some a =>
   simp only [Option.map_some, Option.some.injEq] at e
   subst e
   rw [add_block] at hs
   exact h.off hd' a rfl hs
theorem Tx.head (h : Tx w S A c d) {k : Nat} (hk : k ≤ d.length) : Tx w S A c (d.take k) := by
 refine ⟨h.rd.head hk, by rw [List.length_take]; have := h.cap; omega, fun hd ad e => h.off (by rintro rfl; simp at hd) ad e⟩
theorem Rd.row {s n : Nat} {g : Nat} {xs : List Value} {t : TypeId} {fr : Nat × Nat} (h : w.heap[g]? = some (.cells xs.toArray t fr)) (hl : xs.length = n * s) : Rd w s (some ⟨g, 0, none⟩) n xs :=
 ⟨hl, fun _ => ⟨_, rfl, fun j u hj => by rw [Addr.add_lit, Nat.zero_add, cell_of_row _ _ _ _ _ _ h]; simpa using hj⟩⟩
theorem FarB.trn {B : Nat} (h : FarB B w A d) (t : Trn T w w') (hT : ∀ i, T i → i < B) : FarB B w' A d := fun hd => by
 obtain ⟨ad, cur, fr, hA, hb, hh⟩ := h hd
 exact ⟨ad, cur, fr, hA, hb, t.row hh (fun hs => by have := hT _ hs; omega)⟩
theorem EnV.At.trn {B : Nat} {e : EnV} (h : e.At B w) (t : Trn T w w') (hT : ∀ i, T i → i < B) : e.At B w' := by
 have h1 : ∀ {A : Option Addr} {d : List UInt8}, RdB w A d → FarB B w A d → RdB w' A d := fun hr hf => Rd.trn hr t (fun hx ad e ht => by
  obtain ⟨ad', _, _, e', hb, _⟩ := hf (by rintro rfl; exact hx rfl)
  rw [e] at e'
  injection e' with e'
  subst e'
  have := hT _ ht
  omega)
 exact ⟨⟨h1 h.i.kr h.k, h1 h.i.vr h.v, h.i.kcap, h.i.vcap⟩, h.k.trn t hT, h.v.trn t hT⟩
theorem Own.trn {B n size : Nat} {e : TypeId} {xs : List Value} (h : Own w B e size A n c xs) (t : Trn T w w') (hT : ∀ i, T i → i < B) : Own w' B e size A n c xs := by
 refine ⟨h.len, h.nc, h.cm, h.mem.imp id ?_⟩
 rintro ⟨g, off, cur, hA, hb, hg, ho, ht⟩
 exact ⟨g, off, cur, hA, hb, t.row hg (fun hs => by have := hT _ hs; omega), ho, ht⟩
end

/-! ### the coder -/

abbrev CT : TypeId := 77
/-- While it lays: bs is laid. -/
structure LayAt (w : World) (B g : Nat) (A : Option Addr) (c : Nat) (bs : List UInt8) : Prop where
 row : w.heap[g]? = some (.cells #[.slice A bs.length c, .slice none 0 0, .bool false, .bool false] CT (0, 0))
 own : Own w B 5 1 A bs.length c (bvs bs)
 base : B ≤ g
def Lay (w : World) (B g : Nat) (bs : List UInt8) : Prop := ∃ A c, LayAt w B g A c bs
theorem Own.ne {w : World} {B n c size g : Nat} {e t : TypeId} {A : Option Addr} {xs : List Value} {cur : Array Value} {fr : Nat × Nat} (h : Own w B e size A n c xs) (hg : w.heap[g]? = some (.cells cur t fr)) (hne : t ≠ e) : ownRow A c ≠ some g := by
 intro hk
 rcases h.mem with h0 | ⟨g', off, cur', hA, hb, hgg, _⟩
 ·
  simp [ownRow, h0] at hk
 ·
  have : g' = g := by
   rw [hA] at hk
   unfold ownRow at hk
   split at hk
   ·
    cases hk
   ·
    simpa using hk
  subst this
  rw [hg] at hgg
  injection hgg with hgg
  injection hgg with _ h2 _
  exact hne h2
theorem LayAt.ext {w w' : World} {B g : Nat} {A : Option Addr} {c : Nat} {bs : List UInt8} (h : LayAt w B g A c bs) (hx : Ext w w') : LayAt w' B g A c bs := ⟨(hx.block _ (lt_of_heap h.row)).trans h.row, h.own.below hx, h.base⟩
/-- What laying keeps: all below B, and each row that is no row of bytes, but for the coder's own. -/
structure Kept (B g : Nat) (w w' : World) : Prop where
 below : Below B w w'
 rows : ∀ (i : Nat) (cs : Array Value) (t : TypeId) (fr : Nat × Nat), w.heap[i]? = some (.cells cs t fr) → t ≠ 5 → i ≠ g → w'.heap[i]? = some (.cells cs t fr)
theorem Kept.refl (B g : Nat) (w : World) : Kept B g w w := ⟨Below.refl B w, fun _ _ _ _ h _ _ => h⟩
theorem Kept.tr {B g : Nat} {a b c : World} (h : Kept B g a b) (k : Kept B g b c) : Kept B g a c := ⟨h.below.trans k.below, fun i cs t fr e h1 h2 => k.rows i cs t fr (h.rows i cs t fr e h1 h2) h1 h2⟩
theorem Kept.ext {B g : Nat} {a b : World} (h : Ext a b) (hB : B ≤ a.heap.size) : Kept B g a b := ⟨Below.mono h hB, fun i _ _ _ e _ _ => (h.block i (lt_of_heap e)).trans e⟩
theorem LayAt.size {w : World} {B g : Nat} {A : Option Addr} {c : Nat} {bs : List UInt8} (h : LayAt w B g A c bs) : B ≤ w.heap.size := Nat.le_of_lt (Nat.lt_of_le_of_lt h.base (lt_of_heap h.row))
/-- What an append and the store behind it leave. -/
theorem LayAt.step {w w' : World} {B g : Nat} {A A' : Option Addr} {c c' : Nat} {bs xs : List UInt8} (h : LayAt w B g A c bs) (hg : w.grownBy w' (ownRow A c)) (ho : Own w' B 5 1 A' (bs ++ xs).length c' (bvs (bs ++ xs))) :
  LayAt (w'.setRow g #[.slice A' (bs ++ xs).length c', .slice none 0 0, .bool false, .bool false]) B g A' c' (bs ++ xs) ∧ Kept B g w (w'.setRow g #[.slice A' (bs ++ xs).length c', .slice none 0 0, .bool false, .bool false]) := by
 have hlt := lt_of_heap h.row
 have hB : B ≤ w.heap.size := h.size
 have hne := h.own.ne h.row (by decide)
 have hrow : w'.heap[g]? = some (.cells #[.slice A bs.length c, .slice none 0 0, .bool false, .bool false] CT (0, 0)) := (hg.block g hlt (fun e => hne e.symm)).trans h.row
 have hb : Below B w w' := (Below.refl _ _).grown hg hB (fun k e => (h.own.row_lt k e).1)
 refine ⟨⟨setRow_heap w' g _ _ _ _ hrow, ho.kept (grown_row _ _ _) (fun k hk e => ?_), h.base⟩, hb.grown (grown_row _ _ _) (Nat.le_trans hB hb.size) (fun k e => by injection e with e; subst e; exact h.base), fun i cs t fr e h1 h2 => ?_⟩
 ·
  injection e with e
  subst e
  exact ho.ne hrow (by decide) hk
 ·
  refine set_keeps ((hg.block i (lt_of_heap e) (fun e' => h.own.ne e h1 e'.symm)).trans e) h2
/-- While it reads: d is left. -/
structure RdrAt (w : World) (S : Nat → Prop) (g : Nat) (A : Option Addr) (c : Nat) (d : List UInt8) (bad : Bool) : Prop where
 row : w.heap[g]? = some (.cells #[.slice none 0 0, .slice A d.length c, .bool true, .bool bad] CT (0, 0))
 tx : Tx w S A c d
 mem : S g
 lt : ∀ i, S i → i < w.heap.size
 len : d.length ≤ 1000000
def Rdr (w : World) (S : Nat → Prop) (g : Nat) (d : List UInt8) (bad : Bool) : Prop := ∃ A c, RdrAt w S g A c d bad
theorem Rdr.trn {w w' : World} {S T : Nat → Prop} {g : Nat} {d : List UInt8} {bad : Bool} (h : Rdr w S g d bad) (t : Trn T w w') (hT : ∀ i, T i → S i) (hg : ¬ T g) : Rdr w' S g d bad := by
 obtain ⟨A, c, h⟩ := h
 exact ⟨A, c, t.row h.row hg, h.tx.trn t hT, h.mem, fun i hi => Nat.lt_of_lt_of_le (h.lt i hi) t.size, h.len⟩
theorem Rdr.more {w w' : World} {S T : Nat → Prop} {g : Nat} {d : List UInt8} {bad : Bool} (h : Rdr w S g d bad) (hx : Ext w w') (hS : ∀ i, T i → S i ∨ (w.heap.size ≤ i ∧ i < w'.heap.size)) (hg : T g) : Rdr w' T g d bad := by
 obtain ⟨A, c, h⟩ := h
 exact ⟨A, c, (hx.block _ (lt_of_heap h.row)).trans h.row, (h.tx.more (fun i hi => (hS i hi).imp id (·.1))).ext hx, hg, fun i hi => (hS i hi).elim (fun k => Nat.lt_of_lt_of_le (h.lt i k) hx.size) (·.2), h.len⟩
/-- Fewer blocks may turn. -/
theorem Rdr.less {w : World} {S T : Nat → Prop} {g : Nat} {d : List UInt8} {bad : Bool} (h : Rdr w S g d bad) (hS : ∀ i, T i → S i) (hg : T g) : Rdr w T g d bad := by
 obtain ⟨A, c, h⟩ := h
 exact ⟨A, c, h.row, h.tx.more (fun i hi => .inl (hS i hi)), hg, fun i hi => h.lt i (hS i hi), h.len⟩
/-! ### stores -/

section

variable {P : Program} {w : World} {ops : Array Oper} {rest : List Oper} {o : Oper} {a : Act} {Q : Exit → Act → World → Prop}

theorem ex_put1 (ty : TypeId) (x y : Operand) (ho : o.op = .store ty x y) (ad : Addr) (hx : a.eval x = .pointer (some ad)) (g off : Nat) (had : ad = ⟨g, off, none⟩)
  (v : Value) (hy : a.eval y = v) (cs : List Value) (hv : v.cells = cs.toArray) (cur : Array Value) (t : TypeId) (hg : w.heap[g]? = some (.cells cur t (0, 0))) (hi : (P.info? ty).map (·.size) = some cs.length) (hfit : off + cs.length ≤ cur.size)
  (h1 : ∀ u ∈ cs, u.oneCell' = true) (cur' : Array Value) (hc : put1 cur off cs = cur') : (execOp a.eval o).run P w = .ok .skip (w.setRow g cur') := by
 subst had
 subst hc
 have hr := run_storeCells_at (P := P) g off t cs 0 cur w hg (by simpa using hfit) h1
 simp only [Nat.add_zero] at hr
 have hst : (storeVar ty ⟨g, off, none⟩ v).run P w = .ok () (w.setRow g (put1 cur off cs)) := by
  cases hq : P.info? ty with
  | none => simp [hq] at hi
  | some i =>
   have hs : i.size = cs.length := by simpa [hq] using hi
   have hst := hr
   unfold put1
   simp only [List.append_assoc]
   simp [storeVar, sizeOf, typeInfo, hq, hv, hs, hst]
 unfold execOp
 simp only [ho, hx, hy, Instr.storeAt, Instr.sureAddr, Sem.run_bind, Sem.run_pure, Result.andThen_ok, hst]
theorem wpList_put1 (hgd : Region.wanted o (yielded ops a.tmps) = true) (ty : TypeId) (x y : Operand) (ho : o.op = .store ty x y) (ad : Addr) (hx : a.eval x = .pointer (some ad)) (g off : Nat) (had : ad = ⟨g, off, none⟩)
  (v : Value) (hy : a.eval y = v) (cs : List Value) (hv : v.cells = cs.toArray) (cur : Array Value) (t : TypeId) (hg : w.heap[g]? = some (.cells cur t (0, 0))) (hi : (P.info? ty).map (·.size) = some cs.length) (hfit : off + cs.length ≤ cur.size)
  (h1 : ∀ u ∈ cs, u.oneCell' = true) (cur' : Array Value) (hc : put1 cur off cs = cur') (h : wpList P ops Q rest (a.put o.dst undef) (w.setRow g cur')) : wpList P ops Q (o :: rest) a w := by
 refine wpList_want hgd fun _ hK => ?_
 unfold Oper.wp
 rw [ex_put1 (P := P) ty x y ho ad hx g off had v hy cs hv cur t hg hi hfit h1 cur' hc, Oper.upon_skip]
 exact hK _ _ h
end

/-- The blocks of these two. -/
def Two (g b : Nat) : Nat → Prop := fun i => i = g ∨ i = b
end Go.Proofs.Ytjholekgdnhpkaa

/- Contracts: wire.coder while it lays: text, number, wide, sum, flag, entries, rest. Printed by wip/tools/gen_wra24.py. -/

namespace Go.Proofs.Ytjholekgdnhpkaa

open Go.RowKit

attribute [local go_sem] Oper.semAt_some

/-- What is kept: everything. -/
def extW : Wr := ⟨Ext, Ext.refl, Ext.tr⟩
theorem LayAt.cell0 {w : World} {B g : Nat} {A : Option Addr} {c : Nat} {bs : List UInt8} (h : LayAt w B g A c bs) : w.cell? ⟨g, 0, none⟩ = some (.slice A bs.length c) := cell_of_row w g 0 _ _ _ h.row
theorem LayAt.cell2 {w : World} {B g : Nat} {A : Option Addr} {c : Nat} {bs : List UInt8} (h : LayAt w B g A c bs) : w.cell? ⟨g, 2, none⟩ = some (.bool false) := cell_of_row w g 2 _ _ _ h.row
/-- What laying yields. -/
def Laid (B g : Nat) (bs : List UInt8) (w : World) (e : Ending) (w' : World) : Prop := e = .returned (.tuple #[]) ∧ Lay w' B g bs ∧ Kept B g w w'
theorem Laid.of {B g : Nat} {bs bs' : List UInt8} {w w' : World} {e : Ending} (h : Laid B g bs w e w') (hb : bs = bs') : Laid B g bs' w e w' := hb ▸ h

set_option maxRecDepth 100000 in
set_option maxHeartbeats 1000000 in
theorem text_lay (B g : Nat) (A : Option Addr) (c : Nat) (bs : List UInt8) (p : Addr) (K : Option Addr) (ck : Nat) (k : List UInt8) (w : World) (h : LayAt w B g A c bs) (hp : w.cell? p = some (.slice K k.length ck)) (hk : RdB w K k) (hl : k.length ≤ 1000000) (hb : bs.length ≤ 100000000) :
  Calls Try.prog 60 #[.pointer (some ⟨g, 0, none⟩), .pointer (some p)] w (Laid B g (bs ++ Vint.putBytes k) w) := by
 have h2 := h.cell2
 have hd0 := h.ext (Ext.drew w)
 have h0 := hd0.cell0
 have hpd : w.drew.cell? p = some (.slice K k.length ck) := hp
 have hkd := hk.below (Ext.drew w)
 have hpl : (Vint.putBytes k).length ≤ 10000000 := by have := Vint.put_len k.length; unfold Vint.putBytes; rw [List.length_append]; omega
 have HPL := Lib.hid hpl
 have H := Lib.hid hd0
 have H' := Lib.hid h
 clear h hpl hd0
 go_enter Try.func60, Try.ntmps60
 go_wp2_with fail
 refine rr_start (extW) [0, 1, 2, 3, 5, 6, 10, 11] (by kernel_rfl) ?_
 refine rr_takeA 0 rfl (by kernel_rfl) (by kernel_rfl) (by kernel_rfl) (fun _ _ _ _ h => h) (by rfl) ⟨_, fun w' => by (go_simp <;> with_reducible rfl), ?_⟩
 simp only [Act.put, sA, sB, sC]
 refine rr_takeA 1 rfl (by kernel_rfl) (by kernel_rfl) (by kernel_rfl) (fun _ _ _ _ h => h) (by rfl) ⟨_, fun w' => by (go_simp <;> with_reducible rfl), ?_⟩
 simp only [Act.put, sA, sB, sC]
 refine rr_takeA 2 rfl (by kernel_rfl) (by kernel_rfl) (by kernel_rfl) (fun _ _ _ _ h => h) (by rfl) ⟨_, fun w' => by (go_simp <;> with_reducible rfl), ?_⟩
 simp only [Act.put, sA, sB, sC]
 refine rr_takeA 3 rfl (by kernel_rfl) (by kernel_rfl) (by kernel_rfl) (fun _ _ _ _ h => h) (by rfl) ⟨_, fun w' => by (go_simp <;> with_reducible rfl), ?_⟩
 simp only [Act.put, sA, sB, sC]
 refine rr_take 4 (by rfl) rfl (by kernel_rfl) (by kernel_rfl) (by kernel_rfl) (fun _ _ _ _ h => h) (by rfl) ⟨_, fun w' hx => by have hcx := hx.load h0; (go_simp <;> with_reducible rfl), ?_⟩
 simp only [Act.put, sA, sB, sC]
 refine rr_takeA 5 rfl (by kernel_rfl) (by kernel_rfl) (by kernel_rfl) (fun _ _ _ _ h => h) (by rfl) ⟨_, fun w' => by (go_simp <;> with_reducible rfl), ?_⟩
 simp only [Act.put, sA, sB, sC]
 refine rr_takeA 6 rfl (by kernel_rfl) (by kernel_rfl) (by kernel_rfl) (fun _ _ _ _ h => h) (by rfl) ⟨_, fun w' => by (go_simp <;> with_reducible rfl), ?_⟩
 simp only [Act.put, sA, sB, sC]
 refine rr_take 7 (by rfl) rfl (by kernel_rfl) (by kernel_rfl) (by kernel_rfl) (fun _ _ _ _ h => h) (by rfl) ⟨_, fun w' hx => by have hcx := hx.load hpd; (go_simp <;> with_reducible rfl), ?_⟩
 simp only [Act.put, sA, sB, sC]
 refine rr_call 8 (putbytes_any K k ck w.drew hkd (by omega)) rfl (by kernel_rfl) (by rfl) (by go_simp) ?_
 rintro e1 w1 ⟨A2, c2, rfl, ho2, hb2⟩
 refine ⟨_, rfl, hb2, ?_⟩
 simp only [Act.put, sA, sB, sC]
 have hH2 := H.out.ext hb2
 obtain ⟨d, hd⟩ : ∃ d, d = Vint.putBytes k := ⟨_, rfl⟩
 rw [← hd] at HPL ho2 ⊢
 refine rr_last 9 rfl (by kernel_rfl) (by kernel_rfl) (by rfl) fun KK hK => wp_app (.tmp 16) (.tmp 20) 23 rfl elemB B A bs.length c (bvs bs) rfl A2 d.length c2 (bvs d) rfl (bs.length + d.length) rfl (bvs (bs ++ d)) (bvs_app _ _) hH2.own ho2.rd (bvs_one _) (by have := HPL.out; omega) (by have := HPL.out; omega) (Nat.le_of_lt (Nat.lt_of_le_of_lt hH2.base (lt_of_heap hH2.row))) (fun A3 c3 w3 ho3 hg3 hr3 => hK _ _ ?_)
 simp only [Act.put, sA, sB, sC]
 refine rr_takeA 10 rfl (by kernel_rfl) (by kernel_rfl) (by kernel_rfl) (fun _ _ _ _ h => h) (by rfl) ⟨_, fun w' => by (go_simp <;> with_reducible rfl), ?_⟩
 simp only [Act.put, sA, sB, sC]
 refine rr_takeA 11 rfl (by kernel_rfl) (by kernel_rfl) (by kernel_rfl) (fun _ _ _ _ h => h) (by rfl) ⟨_, fun w' => by (go_simp <;> with_reducible rfl), ?_⟩
 simp only [Act.put, sA, sB, sC]
 have hrow3 := (hg3.block g (lt_of_heap hH2.row) (fun e => hH2.own.ne hH2.row (by decide) e.symm)).trans hH2.row
 obtain ⟨hL, hB⟩ := hH2.step hg3 (by rw [List.length_append]; exact ho3)
 refine rr_store 12 rfl (by kernel_rfl) (by kernel_rfl) (by rfl) ⟨w3.setRow g #[.slice A3 (bs ++ d).length c3, .slice none 0 0, .bool false, .bool false], ex_put1 23 (.tmp 23) (.tmp 21) rfl ⟨g, 0, none⟩ rfl g 0 rfl _ rfl [.slice A3 (bs.length + d.length) c3] rfl _ _ hrow3 (by kernel_rfl) (by simp) (by simp [Value.oneCell']) _ (by rw [List.length_append]; simp [put1]), ?_⟩
 simp only [Act.put]
 refine rr_done (by kernel_rfl) ?_
 obtain ⟨W9, hW9⟩ : ∃ W9, W9 = w3.setRow g #[.slice A3 (bs ++ d).length c3, .slice none 0 0, .bool false, .bool false] := ⟨_, rfl⟩
 rw [← hW9] at hL hB ⊢
 clear hW9
 have hBB : Kept B g w W9 := (Kept.ext (Ext.drew w) H'.out.size).tr ((Kept.ext hb2 H.out.size).tr hB)
 go_wp2_with fail
 (try simp only [Exit.inBlock, Exit.then])
 refine bodyPost_ret (results_none rfl _ _ _) rfl ?_
 exact ⟨rfl, ⟨_, _, by first | exact hL | (rw [← hd]; exact hL)⟩, hBB⟩

set_option maxRecDepth 100000 in
set_option maxHeartbeats 1000000 in
theorem number_lay (B g : Nat) (A : Option Addr) (c : Nat) (bs : List UInt8) (p : Addr) (n : Nat) (w : World) (h : LayAt w B g A c bs) (hp : w.cell? p = some (.int .i64 (n : Int))) (hn : n ≤ 9223372036854775807) (hb : bs.length ≤ 100000000) :
  Calls Try.prog 61 #[.pointer (some ⟨g, 0, none⟩), .pointer (some p)] w (Laid B g (bs ++ Vint.put n) w) := by
 have h2 := h.cell2
 have hd0 := h.ext (Ext.drew w)
 have h0 := hd0.cell0
 have hpd : w.drew.cell? p = some (.int .i64 (n : Int)) := hp
 have hwn : IntKind.u64.wrap (n : Int) = (n : Int) := by simp [IntKind.wrap, IntKind.bits, IntKind.signed]; omega
 have hpl : (Vint.put n).length ≤ 10000000 := by have := Vint.put_len n; omega
 have HPL := Lib.hid hpl
 have H := Lib.hid hd0
 have H' := Lib.hid h
 clear h hpl hd0
 go_enter Try.func61, Try.ntmps61
 go_wp2_with fail
 refine rr_start (extW) [0, 1, 2, 3, 5, 6, 8, 11, 12] (by kernel_rfl) ?_
 refine rr_takeA 0 rfl (by kernel_rfl) (by kernel_rfl) (by kernel_rfl) (fun _ _ _ _ h => h) (by rfl) ⟨_, fun w' => by (go_simp <;> with_reducible rfl), ?_⟩
 simp only [Act.put, sA, sB, sC]
 refine rr_takeA 1 rfl (by kernel_rfl) (by kernel_rfl) (by kernel_rfl) (fun _ _ _ _ h => h) (by rfl) ⟨_, fun w' => by (go_simp <;> with_reducible rfl), ?_⟩
 simp only [Act.put, sA, sB, sC]
 refine rr_takeA 2 rfl (by kernel_rfl) (by kernel_rfl) (by kernel_rfl) (fun _ _ _ _ h => h) (by rfl) ⟨_, fun w' => by (go_simp <;> with_reducible rfl), ?_⟩
 simp only [Act.put, sA, sB, sC]
 refine rr_takeA 3 rfl (by kernel_rfl) (by kernel_rfl) (by kernel_rfl) (fun _ _ _ _ h => h) (by rfl) ⟨_, fun w' => by (go_simp <;> with_reducible rfl), ?_⟩
 simp only [Act.put, sA, sB, sC]
 refine rr_take 4 (by rfl) rfl (by kernel_rfl) (by kernel_rfl) (by kernel_rfl) (fun _ _ _ _ h => h) (by rfl) ⟨_, fun w' hx => by have hcx := hx.load h0; (go_simp <;> with_reducible rfl), ?_⟩
 simp only [Act.put, sA, sB, sC]
 refine rr_takeA 5 rfl (by kernel_rfl) (by kernel_rfl) (by kernel_rfl) (fun _ _ _ _ h => h) (by rfl) ⟨_, fun w' => by (go_simp <;> with_reducible rfl), ?_⟩
 simp only [Act.put, sA, sB, sC]
 refine rr_takeA 6 rfl (by kernel_rfl) (by kernel_rfl) (by kernel_rfl) (fun _ _ _ _ h => h) (by rfl) ⟨_, fun w' => by (go_simp <;> with_reducible rfl), ?_⟩
 simp only [Act.put, sA, sB, sC]
 refine rr_take 7 (by rfl) rfl (by kernel_rfl) (by kernel_rfl) (by kernel_rfl) (fun _ _ _ _ h => h) (by rfl) ⟨_, fun w' hx => by have hcx := hx.load hpd; (go_simp <;> with_reducible rfl), ?_⟩
 simp only [Act.put, sA, sB, sC]
 refine rr_takeA 8 rfl (by kernel_rfl) (by kernel_rfl) (by kernel_rfl) (fun _ _ _ _ h => h) (by rfl) ⟨.int .u64 (n : Int), fun w' => by (go_simp <;> with_reducible rfl), ?_⟩
 simp only [Act.put, sA, sB, sC]
 refine rr_call 9 (vput_any n (by omega) w.drew) rfl (by kernel_rfl) (by rfl) (by go_simp) ?_
 rintro e1 w1 ⟨A2, c2, rfl, ho2, hb2⟩
 refine ⟨_, rfl, hb2, ?_⟩
 simp only [Act.put, sA, sB, sC]
 have hH2 := H.out.ext hb2
 obtain ⟨d, hd⟩ : ∃ d, d = Vint.put n := ⟨_, rfl⟩
 rw [← hd] at HPL ho2 ⊢
 refine rr_last 10 rfl (by kernel_rfl) (by kernel_rfl) (by rfl) fun KK hK => wp_app (.tmp 16) (.tmp 21) 23 rfl elemB B A bs.length c (bvs bs) rfl A2 d.length c2 (bvs d) rfl (bs.length + d.length) rfl (bvs (bs ++ d)) (bvs_app _ _) hH2.own ho2.rd (bvs_one _) (by have := HPL.out; omega) (by have := HPL.out; omega) (Nat.le_of_lt (Nat.lt_of_le_of_lt hH2.base (lt_of_heap hH2.row))) (fun A3 c3 w3 ho3 hg3 hr3 => hK _ _ ?_)
 simp only [Act.put, sA, sB, sC]
 refine rr_takeA 11 rfl (by kernel_rfl) (by kernel_rfl) (by kernel_rfl) (fun _ _ _ _ h => h) (by rfl) ⟨_, fun w' => by (go_simp <;> with_reducible rfl), ?_⟩
 simp only [Act.put, sA, sB, sC]
 refine rr_takeA 12 rfl (by kernel_rfl) (by kernel_rfl) (by kernel_rfl) (fun _ _ _ _ h => h) (by rfl) ⟨_, fun w' => by (go_simp <;> with_reducible rfl), ?_⟩
 simp only [Act.put, sA, sB, sC]
 have hrow3 := (hg3.block g (lt_of_heap hH2.row) (fun e => hH2.own.ne hH2.row (by decide) e.symm)).trans hH2.row
 obtain ⟨hL, hB⟩ := hH2.step hg3 (by rw [List.length_append]; exact ho3)
 refine rr_store 13 rfl (by kernel_rfl) (by kernel_rfl) (by rfl) ⟨w3.setRow g #[.slice A3 (bs ++ d).length c3, .slice none 0 0, .bool false, .bool false], ex_put1 23 (.tmp 24) (.tmp 22) rfl ⟨g, 0, none⟩ rfl g 0 rfl _ rfl [.slice A3 (bs.length + d.length) c3] rfl _ _ hrow3 (by kernel_rfl) (by simp) (by simp [Value.oneCell']) _ (by rw [List.length_append]; simp [put1]), ?_⟩
 simp only [Act.put]
 refine rr_done (by kernel_rfl) ?_
 obtain ⟨W9, hW9⟩ : ∃ W9, W9 = w3.setRow g #[.slice A3 (bs ++ d).length c3, .slice none 0 0, .bool false, .bool false] := ⟨_, rfl⟩
 rw [← hW9] at hL hB ⊢
 clear hW9
 have hBB : Kept B g w W9 := (Kept.ext (Ext.drew w) H'.out.size).tr ((Kept.ext hb2 H.out.size).tr hB)
 go_wp2_with fail
 (try simp only [Exit.inBlock, Exit.then])
 refine bodyPost_ret (results_none rfl _ _ _) rfl ?_
 exact ⟨rfl, ⟨_, _, by first | exact hL | (rw [← hd]; exact hL)⟩, hBB⟩

set_option maxRecDepth 100000 in
set_option maxHeartbeats 1000000 in
theorem wide_lay (B g : Nat) (A : Option Addr) (c : Nat) (bs : List UInt8) (p : Addr) (n : Nat) (w : World) (h : LayAt w B g A c bs) (hp : w.cell? p = some (.int .u64 (n : Int))) (hb : bs.length ≤ 100000000) :
  Calls Try.prog 62 #[.pointer (some ⟨g, 0, none⟩), .pointer (some p)] w (Laid B g (bs ++ Vint.fixed n 8) w) := by
 have h2 := h.cell2
 have hd0 := h.ext (Ext.drew w)
 have h0 := hd0.cell0
 have hpd : w.drew.cell? p = some (.int .u64 (n : Int)) := hp
 have hpl : (Vint.fixed n 8).length ≤ 10000000 := by show (Vint.fixL n 8).length ≤ _; rw [Vint.fixL_len]; omega
 have HPL := Lib.hid hpl
 have H := Lib.hid hd0
 have H' := Lib.hid h
 clear h hpl hd0
 go_enter Try.func62, Try.ntmps62
 go_wp2_with fail
 refine rr_start (extW) [0, 1, 2, 3, 5, 6, 10, 11] (by kernel_rfl) ?_
 refine rr_takeA 0 rfl (by kernel_rfl) (by kernel_rfl) (by kernel_rfl) (fun _ _ _ _ h => h) (by rfl) ⟨_, fun w' => by (go_simp <;> with_reducible rfl), ?_⟩
 simp only [Act.put, sA, sB, sC]
 refine rr_takeA 1 rfl (by kernel_rfl) (by kernel_rfl) (by kernel_rfl) (fun _ _ _ _ h => h) (by rfl) ⟨_, fun w' => by (go_simp <;> with_reducible rfl), ?_⟩
 simp only [Act.put, sA, sB, sC]
 refine rr_takeA 2 rfl (by kernel_rfl) (by kernel_rfl) (by kernel_rfl) (fun _ _ _ _ h => h) (by rfl) ⟨_, fun w' => by (go_simp <;> with_reducible rfl), ?_⟩
 simp only [Act.put, sA, sB, sC]
 refine rr_takeA 3 rfl (by kernel_rfl) (by kernel_rfl) (by kernel_rfl) (fun _ _ _ _ h => h) (by rfl) ⟨_, fun w' => by (go_simp <;> with_reducible rfl), ?_⟩
 simp only [Act.put, sA, sB, sC]
 refine rr_take 4 (by rfl) rfl (by kernel_rfl) (by kernel_rfl) (by kernel_rfl) (fun _ _ _ _ h => h) (by rfl) ⟨_, fun w' hx => by have hcx := hx.load h0; (go_simp <;> with_reducible rfl), ?_⟩
 simp only [Act.put, sA, sB, sC]
 refine rr_takeA 5 rfl (by kernel_rfl) (by kernel_rfl) (by kernel_rfl) (fun _ _ _ _ h => h) (by rfl) ⟨_, fun w' => by (go_simp <;> with_reducible rfl), ?_⟩
 simp only [Act.put, sA, sB, sC]
 refine rr_takeA 6 rfl (by kernel_rfl) (by kernel_rfl) (by kernel_rfl) (fun _ _ _ _ h => h) (by rfl) ⟨_, fun w' => by (go_simp <;> with_reducible rfl), ?_⟩
 simp only [Act.put, sA, sB, sC]
 refine rr_take 7 (by rfl) rfl (by kernel_rfl) (by kernel_rfl) (by kernel_rfl) (fun _ _ _ _ h => h) (by rfl) ⟨_, fun w' hx => by have hcx := hx.load hpd; (go_simp <;> with_reducible rfl), ?_⟩
 simp only [Act.put, sA, sB, sC]
 refine rr_call 8 (fixed_any n 8 w.drew) rfl (by kernel_rfl) (by rfl) (by go_simp) ?_
 rintro e1 w1 ⟨A2, c2, rfl, ho2, hb2⟩
 refine ⟨_, rfl, hb2, ?_⟩
 simp only [Act.put, sA, sB, sC]
 have hH2 := H.out.ext hb2
 obtain ⟨d, hd⟩ : ∃ d, d = Vint.fixed n 8 := ⟨_, rfl⟩
 rw [← hd] at HPL ho2 ⊢
 refine rr_last 9 rfl (by kernel_rfl) (by kernel_rfl) (by rfl) fun KK hK => wp_app (.tmp 13) (.tmp 17) 23 rfl elemB B A bs.length c (bvs bs) rfl A2 d.length c2 (bvs d) rfl (bs.length + d.length) rfl (bvs (bs ++ d)) (bvs_app _ _) hH2.own ho2.rd (bvs_one _) (by have := HPL.out; omega) (by have := HPL.out; omega) (Nat.le_of_lt (Nat.lt_of_le_of_lt hH2.base (lt_of_heap hH2.row))) (fun A3 c3 w3 ho3 hg3 hr3 => hK _ _ ?_)
 simp only [Act.put, sA, sB, sC]
 refine rr_takeA 10 rfl (by kernel_rfl) (by kernel_rfl) (by kernel_rfl) (fun _ _ _ _ h => h) (by rfl) ⟨_, fun w' => by (go_simp <;> with_reducible rfl), ?_⟩
 simp only [Act.put, sA, sB, sC]
 refine rr_takeA 11 rfl (by kernel_rfl) (by kernel_rfl) (by kernel_rfl) (fun _ _ _ _ h => h) (by rfl) ⟨_, fun w' => by (go_simp <;> with_reducible rfl), ?_⟩
 simp only [Act.put, sA, sB, sC]
 have hrow3 := (hg3.block g (lt_of_heap hH2.row) (fun e => hH2.own.ne hH2.row (by decide) e.symm)).trans hH2.row
 obtain ⟨hL, hB⟩ := hH2.step hg3 (by rw [List.length_append]; exact ho3)
 refine rr_store 12 rfl (by kernel_rfl) (by kernel_rfl) (by rfl) ⟨w3.setRow g #[.slice A3 (bs ++ d).length c3, .slice none 0 0, .bool false, .bool false], ex_put1 23 (.tmp 20) (.tmp 18) rfl ⟨g, 0, none⟩ rfl g 0 rfl _ rfl [.slice A3 (bs.length + d.length) c3] rfl _ _ hrow3 (by kernel_rfl) (by simp) (by simp [Value.oneCell']) _ (by rw [List.length_append]; simp [put1]), ?_⟩
 simp only [Act.put]
 refine rr_done (by kernel_rfl) ?_
 obtain ⟨W9, hW9⟩ : ∃ W9, W9 = w3.setRow g #[.slice A3 (bs ++ d).length c3, .slice none 0 0, .bool false, .bool false] := ⟨_, rfl⟩
 rw [← hW9] at hL hB ⊢
 clear hW9
 have hBB : Kept B g w W9 := (Kept.ext (Ext.drew w) H'.out.size).tr ((Kept.ext hb2 H.out.size).tr hB)
 go_wp2_with fail
 (try simp only [Exit.inBlock, Exit.then])
 refine bodyPost_ret (results_none rfl _ _ _) rfl ?_
 exact ⟨rfl, ⟨_, _, by first | exact hL | (rw [← hd]; exact hL)⟩, hBB⟩

set_option maxRecDepth 100000 in
set_option maxHeartbeats 1000000 in
theorem sum_lay (B g : Nat) (A : Option Addr) (c : Nat) (bs : List UInt8) (p : Addr) (d : List UInt8) (w : World) (h : LayAt w B g A c bs) (hp : ∀ j u, (bvs d)[j]? = some u → w.cell? (p.add j) = some u) (hd32 : d.length = 32) (hb : bs.length ≤ 100000000) :
  Calls Try.prog 63 #[.pointer (some ⟨g, 0, none⟩), .pointer (some p)] w (Laid B g (bs ++ d) w) := by
 have h2 := h.cell2
 have hd0 := h.ext (Ext.drew w)
 have h0 := hd0.cell0
 have HRD := Lib.hid (show Rd w.drew 1 (some p) 32 (bvs d) from ⟨by rw [bvs_len]; omega, fun _ => ⟨p, rfl, hp⟩⟩)
 have hpl : d.length ≤ 10000000 := by omega
 have HPL := Lib.hid hpl
 have H := Lib.hid hd0
 have H' := Lib.hid h
 clear h hpl hd0
 go_enter Try.func63, Try.ntmps63
 go_wp2_with fail
 refine rr_start (extW) [0, 1, 2, 3, 5, 6, 7, 9, 10] (by kernel_rfl) ?_
 refine rr_takeA 0 rfl (by kernel_rfl) (by kernel_rfl) (by kernel_rfl) (fun _ _ _ _ h => h) (by rfl) ⟨_, fun w' => by (go_simp <;> with_reducible rfl), ?_⟩
 simp only [Act.put, sA, sB, sC]
 refine rr_takeA 1 rfl (by kernel_rfl) (by kernel_rfl) (by kernel_rfl) (fun _ _ _ _ h => h) (by rfl) ⟨_, fun w' => by (go_simp <;> with_reducible rfl), ?_⟩
 simp only [Act.put, sA, sB, sC]
 refine rr_takeA 2 rfl (by kernel_rfl) (by kernel_rfl) (by kernel_rfl) (fun _ _ _ _ h => h) (by rfl) ⟨_, fun w' => by (go_simp <;> with_reducible rfl), ?_⟩
 simp only [Act.put, sA, sB, sC]
 refine rr_takeA 3 rfl (by kernel_rfl) (by kernel_rfl) (by kernel_rfl) (fun _ _ _ _ h => h) (by rfl) ⟨_, fun w' => by (go_simp <;> with_reducible rfl), ?_⟩
 simp only [Act.put, sA, sB, sC]
 refine rr_take 4 (by rfl) rfl (by kernel_rfl) (by kernel_rfl) (by kernel_rfl) (fun _ _ _ _ h => h) (by rfl) ⟨_, fun w' hx => by have hcx := hx.load h0; (go_simp <;> with_reducible rfl), ?_⟩
 simp only [Act.put, sA, sB, sC]
 refine rr_takeA 5 rfl (by kernel_rfl) (by kernel_rfl) (by kernel_rfl) (fun _ _ _ _ h => h) (by rfl) ⟨_, fun w' => by (go_simp <;> with_reducible rfl), ?_⟩
 simp only [Act.put, sA, sB, sC]
 refine rr_takeA 6 rfl (by kernel_rfl) (by kernel_rfl) (by kernel_rfl) (fun _ _ _ _ h => h) (by rfl) ⟨_, fun w' => by (go_simp <;> with_reducible rfl), ?_⟩
 simp only [Act.put, sA, sB, sC]
 refine rr_takeA 7 rfl (by kernel_rfl) (by kernel_rfl) (by kernel_rfl) (fun _ _ _ _ h => h) (by rfl) ⟨.slice (some p) 32 32, fun w' => by (go_simp <;> with_reducible rfl), ?_⟩
 simp only [Act.put, sA, sB, sC]
 have hH2 := H.out
 refine rr_last 8 rfl (by kernel_rfl) (by kernel_rfl) (by rfl) fun KK hK => wp_app (.tmp 13) (.tmp 16) 23 rfl elemB B A bs.length c (bvs bs) rfl (some p) 32 32 (bvs d) rfl (bs.length + d.length) (by omega) (bvs (bs ++ d)) (bvs_app _ _) hH2.own HRD.out (bvs_one _) (by have := HPL.out; omega) (by have := HPL.out; omega) (Nat.le_of_lt (Nat.lt_of_le_of_lt hH2.base (lt_of_heap hH2.row))) (fun A3 c3 w3 ho3 hg3 hr3 => hK _ _ ?_)
 simp only [Act.put, sA, sB, sC]
 refine rr_takeA 9 rfl (by kernel_rfl) (by kernel_rfl) (by kernel_rfl) (fun _ _ _ _ h => h) (by rfl) ⟨_, fun w' => by (go_simp <;> with_reducible rfl), ?_⟩
 simp only [Act.put, sA, sB, sC]
 refine rr_takeA 10 rfl (by kernel_rfl) (by kernel_rfl) (by kernel_rfl) (fun _ _ _ _ h => h) (by rfl) ⟨_, fun w' => by (go_simp <;> with_reducible rfl), ?_⟩
 simp only [Act.put, sA, sB, sC]
 have hrow3 := (hg3.block g (lt_of_heap hH2.row) (fun e => hH2.own.ne hH2.row (by decide) e.symm)).trans hH2.row
 obtain ⟨hL, hB⟩ := hH2.step hg3 (by rw [List.length_append]; exact ho3)
 refine rr_store 11 rfl (by kernel_rfl) (by kernel_rfl) (by rfl) ⟨w3.setRow g #[.slice A3 (bs ++ d).length c3, .slice none 0 0, .bool false, .bool false], ex_put1 23 (.tmp 19) (.tmp 17) rfl ⟨g, 0, none⟩ rfl g 0 rfl _ rfl [.slice A3 (bs.length + d.length) c3] rfl _ _ hrow3 (by kernel_rfl) (by simp) (by simp [Value.oneCell']) _ (by rw [List.length_append]; simp [put1]), ?_⟩
 simp only [Act.put]
 refine rr_done (by kernel_rfl) ?_
 obtain ⟨W9, hW9⟩ : ∃ W9, W9 = w3.setRow g #[.slice A3 (bs ++ d).length c3, .slice none 0 0, .bool false, .bool false] := ⟨_, rfl⟩
 rw [← hW9] at hL hB ⊢
 clear hW9
 have hBB : Kept B g w W9 := (Kept.ext (Ext.drew w) H'.out.size).tr hB
 go_wp2_with fail
 (try simp only [Exit.inBlock, Exit.then])
 refine bodyPost_ret (results_none rfl _ _ _) rfl ?_
 exact ⟨rfl, ⟨_, _, by first | exact hL | (rw [← hd]; exact hL)⟩, hBB⟩

set_option maxRecDepth 100000 in
set_option maxHeartbeats 1000000 in
theorem entries_lay (B g : Nat) (A : Option Addr) (c : Nat) (bs : List UInt8) (p : Addr) (K : Option Addr) (ck : Nat) (l : List EnV) (w : World) (h : LayAt w B g A c bs) (hp : w.cell? p = some (.slice K l.length ck)) (hk : RdE w K l) (hl : Ent.total (l.map EnV.x) + 20 * l.length ≤ 1000000) (hb : bs.length ≤ 100000000) :
  Calls Try.prog 66 #[.pointer (some ⟨g, 0, none⟩), .pointer (some p)] w (Laid B g (bs ++ Ent.putAll (l.map EnV.x)) w) := by
 have h2 := h.cell2
 have hd0 := h.ext (Ext.drew w)
 have h0 := hd0.cell0
 have hpd : w.drew.cell? p = some (.slice K l.length ck) := hp
 have hkd := hk.below (Ext.drew w)
 have hpl : (Ent.putAll (l.map EnV.x)).length ≤ 10000000 := by have := Ent.putAll_len (l.map EnV.x); rw [List.length_map] at this; omega
 have HPL := Lib.hid hpl
 have H := Lib.hid hd0
 have H' := Lib.hid h
 clear h hpl hd0
 go_enter Try.func66, Try.ntmps66
 go_wp2_with fail
 refine rr_start (extW) [0, 1, 2, 3, 5, 6, 10, 11] (by kernel_rfl) ?_
 refine rr_takeA 0 rfl (by kernel_rfl) (by kernel_rfl) (by kernel_rfl) (fun _ _ _ _ h => h) (by rfl) ⟨_, fun w' => by (go_simp <;> with_reducible rfl), ?_⟩
 simp only [Act.put, sA, sB, sC]
 refine rr_takeA 1 rfl (by kernel_rfl) (by kernel_rfl) (by kernel_rfl) (fun _ _ _ _ h => h) (by rfl) ⟨_, fun w' => by (go_simp <;> with_reducible rfl), ?_⟩
 simp only [Act.put, sA, sB, sC]
 refine rr_takeA 2 rfl (by kernel_rfl) (by kernel_rfl) (by kernel_rfl) (fun _ _ _ _ h => h) (by rfl) ⟨_, fun w' => by (go_simp <;> with_reducible rfl), ?_⟩
 simp only [Act.put, sA, sB, sC]
 refine rr_takeA 3 rfl (by kernel_rfl) (by kernel_rfl) (by kernel_rfl) (fun _ _ _ _ h => h) (by rfl) ⟨_, fun w' => by (go_simp <;> with_reducible rfl), ?_⟩
 simp only [Act.put, sA, sB, sC]
 refine rr_take 4 (by rfl) rfl (by kernel_rfl) (by kernel_rfl) (by kernel_rfl) (fun _ _ _ _ h => h) (by rfl) ⟨_, fun w' hx => by have hcx := hx.load h0; (go_simp <;> with_reducible rfl), ?_⟩
 simp only [Act.put, sA, sB, sC]
 refine rr_takeA 5 rfl (by kernel_rfl) (by kernel_rfl) (by kernel_rfl) (fun _ _ _ _ h => h) (by rfl) ⟨_, fun w' => by (go_simp <;> with_reducible rfl), ?_⟩
 simp only [Act.put, sA, sB, sC]
 refine rr_takeA 6 rfl (by kernel_rfl) (by kernel_rfl) (by kernel_rfl) (fun _ _ _ _ h => h) (by rfl) ⟨_, fun w' => by (go_simp <;> with_reducible rfl), ?_⟩
 simp only [Act.put, sA, sB, sC]
 refine rr_take 7 (by rfl) rfl (by kernel_rfl) (by kernel_rfl) (by kernel_rfl) (fun _ _ _ _ h => h) (by rfl) ⟨_, fun w' hx => by have hcx := hx.load hpd; (go_simp <;> with_reducible rfl), ?_⟩
 simp only [Act.put, sA, sB, sC]
 refine rr_call 8 (eputall_any K l ck w.drew hkd (by omega) (by omega)) rfl (by kernel_rfl) (by rfl) (by go_simp) ?_
 rintro e1 w1 ⟨A2, c2, rfl, ho2, hb2⟩
 refine ⟨_, rfl, hb2, ?_⟩
 simp only [Act.put, sA, sB, sC]
 have hH2 := H.out.ext hb2
 obtain ⟨d, hd⟩ : ∃ d, d = Ent.putAll (l.map EnV.x) := ⟨_, rfl⟩
 rw [← hd] at HPL ho2 ⊢
 refine rr_last 9 rfl (by kernel_rfl) (by kernel_rfl) (by rfl) fun KK hK => wp_app (.tmp 15) (.tmp 19) 23 rfl elemB B A bs.length c (bvs bs) rfl A2 d.length c2 (bvs d) rfl (bs.length + d.length) rfl (bvs (bs ++ d)) (bvs_app _ _) hH2.own ho2.rd (bvs_one _) (by have := HPL.out; omega) (by have := HPL.out; omega) (Nat.le_of_lt (Nat.lt_of_le_of_lt hH2.base (lt_of_heap hH2.row))) (fun A3 c3 w3 ho3 hg3 hr3 => hK _ _ ?_)
 simp only [Act.put, sA, sB, sC]
 refine rr_takeA 10 rfl (by kernel_rfl) (by kernel_rfl) (by kernel_rfl) (fun _ _ _ _ h => h) (by rfl) ⟨_, fun w' => by (go_simp <;> with_reducible rfl), ?_⟩
 simp only [Act.put, sA, sB, sC]
 refine rr_takeA 11 rfl (by kernel_rfl) (by kernel_rfl) (by kernel_rfl) (fun _ _ _ _ h => h) (by rfl) ⟨_, fun w' => by (go_simp <;> with_reducible rfl), ?_⟩
 simp only [Act.put, sA, sB, sC]
 have hrow3 := (hg3.block g (lt_of_heap hH2.row) (fun e => hH2.own.ne hH2.row (by decide) e.symm)).trans hH2.row
 obtain ⟨hL, hB⟩ := hH2.step hg3 (by rw [List.length_append]; exact ho3)
 refine rr_store 12 rfl (by kernel_rfl) (by kernel_rfl) (by rfl) ⟨w3.setRow g #[.slice A3 (bs ++ d).length c3, .slice none 0 0, .bool false, .bool false], ex_put1 23 (.tmp 22) (.tmp 20) rfl ⟨g, 0, none⟩ rfl g 0 rfl _ rfl [.slice A3 (bs.length + d.length) c3] rfl _ _ hrow3 (by kernel_rfl) (by simp) (by simp [Value.oneCell']) _ (by rw [List.length_append]; simp [put1]), ?_⟩
 simp only [Act.put]
 refine rr_done (by kernel_rfl) ?_
 obtain ⟨W9, hW9⟩ : ∃ W9, W9 = w3.setRow g #[.slice A3 (bs ++ d).length c3, .slice none 0 0, .bool false, .bool false] := ⟨_, rfl⟩
 rw [← hW9] at hL hB ⊢
 clear hW9
 have hBB : Kept B g w W9 := (Kept.ext (Ext.drew w) H'.out.size).tr ((Kept.ext hb2 H.out.size).tr hB)
 go_wp2_with fail
 (try simp only [Exit.inBlock, Exit.then])
 refine bodyPost_ret (results_none rfl _ _ _) rfl ?_
 exact ⟨rfl, ⟨_, _, by first | exact hL | (rw [← hd]; exact hL)⟩, hBB⟩

set_option maxRecDepth 100000 in
set_option maxHeartbeats 1000000 in
theorem rest_lay (B g : Nat) (A : Option Addr) (c : Nat) (bs : List UInt8) (p : Addr) (K : Option Addr) (ck : Nat) (d : List UInt8) (w : World) (h : LayAt w B g A c bs) (hp : w.cell? p = some (.slice K d.length ck)) (hk : RdB w K d) (hl : d.length ≤ 1000000) (hb : bs.length ≤ 100000000) :
  Calls Try.prog 68 #[.pointer (some ⟨g, 0, none⟩), .pointer (some p)] w (Laid B g (bs ++ d) w) := by
 have h2 := h.cell2
 have hd0 := h.ext (Ext.drew w)
 have h0 := hd0.cell0
 have hpd : w.drew.cell? p = some (.slice K d.length ck) := hp
 have HRD := Lib.hid (hk.below (Ext.drew w))
 have hpl : d.length ≤ 10000000 := by omega
 have HPL := Lib.hid hpl
 have H := Lib.hid hd0
 have H' := Lib.hid h
 clear h hpl hd0
 go_enter Try.func68, Try.ntmps68
 go_wp2_with fail
 refine rr_start (extW) [0, 1, 2, 3, 5, 6, 9, 10] (by kernel_rfl) ?_
 refine rr_takeA 0 rfl (by kernel_rfl) (by kernel_rfl) (by kernel_rfl) (fun _ _ _ _ h => h) (by rfl) ⟨_, fun w' => by (go_simp <;> with_reducible rfl), ?_⟩
 simp only [Act.put, sA, sB, sC]
 refine rr_takeA 1 rfl (by kernel_rfl) (by kernel_rfl) (by kernel_rfl) (fun _ _ _ _ h => h) (by rfl) ⟨_, fun w' => by (go_simp <;> with_reducible rfl), ?_⟩
 simp only [Act.put, sA, sB, sC]
 refine rr_takeA 2 rfl (by kernel_rfl) (by kernel_rfl) (by kernel_rfl) (fun _ _ _ _ h => h) (by rfl) ⟨_, fun w' => by (go_simp <;> with_reducible rfl), ?_⟩
 simp only [Act.put, sA, sB, sC]
 refine rr_takeA 3 rfl (by kernel_rfl) (by kernel_rfl) (by kernel_rfl) (fun _ _ _ _ h => h) (by rfl) ⟨_, fun w' => by (go_simp <;> with_reducible rfl), ?_⟩
 simp only [Act.put, sA, sB, sC]
 refine rr_take 4 (by rfl) rfl (by kernel_rfl) (by kernel_rfl) (by kernel_rfl) (fun _ _ _ _ h => h) (by rfl) ⟨_, fun w' hx => by have hcx := hx.load h0; (go_simp <;> with_reducible rfl), ?_⟩
 simp only [Act.put, sA, sB, sC]
 refine rr_takeA 5 rfl (by kernel_rfl) (by kernel_rfl) (by kernel_rfl) (fun _ _ _ _ h => h) (by rfl) ⟨_, fun w' => by (go_simp <;> with_reducible rfl), ?_⟩
 simp only [Act.put, sA, sB, sC]
 refine rr_takeA 6 rfl (by kernel_rfl) (by kernel_rfl) (by kernel_rfl) (fun _ _ _ _ h => h) (by rfl) ⟨_, fun w' => by (go_simp <;> with_reducible rfl), ?_⟩
 simp only [Act.put, sA, sB, sC]
 refine rr_take 7 (by rfl) rfl (by kernel_rfl) (by kernel_rfl) (by kernel_rfl) (fun _ _ _ _ h => h) (by rfl) ⟨_, fun w' hx => by have hcx := hx.load hpd; (go_simp <;> with_reducible rfl), ?_⟩
 simp only [Act.put, sA, sB, sC]
 have hH2 := H.out
 refine rr_last 8 rfl (by kernel_rfl) (by kernel_rfl) (by rfl) fun KK hK => wp_app (.tmp 13) (.tmp 16) 23 rfl elemB B A bs.length c (bvs bs) rfl K d.length ck (bvs d) rfl (bs.length + d.length) rfl (bvs (bs ++ d)) (bvs_app _ _) hH2.own HRD.out (bvs_one _) (by have := HPL.out; omega) (by have := HPL.out; omega) (Nat.le_of_lt (Nat.lt_of_le_of_lt hH2.base (lt_of_heap hH2.row))) (fun A3 c3 w3 ho3 hg3 hr3 => hK _ _ ?_)
 simp only [Act.put, sA, sB, sC]
 refine rr_takeA 9 rfl (by kernel_rfl) (by kernel_rfl) (by kernel_rfl) (fun _ _ _ _ h => h) (by rfl) ⟨_, fun w' => by (go_simp <;> with_reducible rfl), ?_⟩
 simp only [Act.put, sA, sB, sC]
 refine rr_takeA 10 rfl (by kernel_rfl) (by kernel_rfl) (by kernel_rfl) (fun _ _ _ _ h => h) (by rfl) ⟨_, fun w' => by (go_simp <;> with_reducible rfl), ?_⟩
 simp only [Act.put, sA, sB, sC]
 have hrow3 := (hg3.block g (lt_of_heap hH2.row) (fun e => hH2.own.ne hH2.row (by decide) e.symm)).trans hH2.row
 obtain ⟨hL, hB⟩ := hH2.step hg3 (by rw [List.length_append]; exact ho3)
 refine rr_store 11 rfl (by kernel_rfl) (by kernel_rfl) (by rfl) ⟨w3.setRow g #[.slice A3 (bs ++ d).length c3, .slice none 0 0, .bool false, .bool false], ex_put1 23 (.tmp 19) (.tmp 17) rfl ⟨g, 0, none⟩ rfl g 0 rfl _ rfl [.slice A3 (bs.length + d.length) c3] rfl _ _ hrow3 (by kernel_rfl) (by simp) (by simp [Value.oneCell']) _ (by rw [List.length_append]; simp [put1]), ?_⟩
 simp only [Act.put]
 refine rr_done (by kernel_rfl) ?_
 obtain ⟨W9, hW9⟩ : ∃ W9, W9 = w3.setRow g #[.slice A3 (bs ++ d).length c3, .slice none 0 0, .bool false, .bool false] := ⟨_, rfl⟩
 rw [← hW9] at hL hB ⊢
 clear hW9
 have hBB : Kept B g w W9 := (Kept.ext (Ext.drew w) H'.out.size).tr hB
 go_wp2_with fail
 (try simp only [Exit.inBlock, Exit.then])
 refine bodyPost_ret (results_none rfl _ _ _) rfl ?_
 exact ⟨rfl, ⟨_, _, by first | exact hL | (rw [← hd]; exact hL)⟩, hBB⟩
end Go.Proofs.Ytjholekgdnhpkaa

/- A part of a slice, its index no literal: the operation told in one equation (with a named address). -/

namespace Go.Proofs.Ytjholekgdnhpkaa

open Go.RowKit

section

variable {P : Program} {w : World} {ops : Array Oper} {rest : List Oper} {o : Oper} {act : Act} {Q : Exit → Act → World → Prop}

theorem ex_sliceL (x lo : Operand) (t : TypeId) (ho : o.op = .slice t x (some lo) none none) {e : TypeId} {s bytes : Nat} (T : ElemT P t e s bytes) (A : Option Addr) (n c : Nat) (hx : act.eval x = .slice A n c) (k : Nat) (hlo : act.eval lo = .int .i64 (k : Int)) (hk : k ≤ n)
  (A2 : Option Addr) (hA : A2 = if c = k then A else A.map (·.add (k * s))) (m d : Nat) (hm : m = n - k) (hd : d = c - k) :
  (execOp act.eval o).run P w = .ok (.value (.slice A2 m d)) w := by
 subst hA hm hd
 obtain ⟨i, z, g1, g2, g3, g4, g5⟩ := T.hi
 have hs : Instr.sliceAt t (act.eval x) (some (act.eval lo)) none none = Instr.sliceAt t (.slice A n c) (some (.int .i64 (k : Int))) none none := by rw [hx, hlo]
 unfold execOp
 simp only [ho, Option.map_some, Option.map_none, hs]
 have h1 : (Instr.sliceAt t (.slice A n c) (some (.int .i64 (k : Int))) none none).run P w = .ok (.slice (if c = k then A else A.map (·.add (k * s))) (n - k) (c - k)) w := by
  have h0 : (Instr.sliceAt t (.slice A n c) (some (.int .i64 (k : Int))) none none).run P w = (Instr.slice t (.slice A n c) (some (.int .i64 (k : Int))) none none).run P w := by
   simp [Instr.sliceAt, run_underlying T.ht]
  rw [h0]
  simp [Instr.slice, run_underlying T.ht, Instr.sliceBounds, run_sliceBound, hk, sizeOf, typeInfo, g1, g3]
 simp [h1, Result.andThen]
theorem ex_sliceH (x hi : Operand) (t : TypeId) (ho : o.op = .slice t x none (some hi) none) {e : TypeId} {s bytes : Nat} (T : ElemT P t e s bytes) (A : Option Addr) (n c : Nat) (hx : act.eval x = .slice A n c) (k : Nat) (hlo : act.eval hi = .int .i64 (k : Int)) (hk : k ≤ c) :
  (execOp act.eval o).run P w = .ok (.value (.slice A k c)) w := by
 obtain ⟨i, z, g1, g2, g3, g4, g5⟩ := T.hi
 have hs : Instr.sliceAt t (act.eval x) none (some (act.eval hi)) none = Instr.sliceAt t (.slice A n c) none (some (.int .i64 (k : Int))) none := by rw [hx, hlo]
 unfold execOp
 simp only [ho, Option.map_some, Option.map_none, hs]
 have h1 : (Instr.sliceAt t (.slice A n c) none (some (.int .i64 (k : Int))) none).run P w = .ok (.slice A k c) w := by
  have h0 : (Instr.sliceAt t (.slice A n c) none (some (.int .i64 (k : Int))) none).run P w = (Instr.slice t (.slice A n c) none (some (.int .i64 (k : Int))) none).run P w := by
   simp [Instr.sliceAt, run_underlying T.ht]
  rw [h0]
  simp [Instr.slice, run_underlying T.ht, Instr.sliceBounds, run_sliceBound, hk, sizeOf, typeInfo, g1]
  cases A <;> simp [Addr.add]
 simp [h1, Result.andThen]
theorem wpList_sliceL (hgd : Region.wanted o (yielded ops act.tmps) = true) (x lo : Operand) (t : TypeId) (ho : o.op = .slice t x (some lo) none none) {e : TypeId} {s bytes : Nat} (T : ElemT P t e s bytes) (A : Option Addr) (n c : Nat) (hx : act.eval x = .slice A n c) (k : Nat) (hlo : act.eval lo = .int .i64 (k : Int)) (hk : k ≤ n)
  (A2 : Option Addr) (hA : A2 = if c = k then A else A.map (·.add (k * s))) (m d : Nat) (hm : m = n - k) (hd : d = c - k) (h : wpList P ops Q rest (act.put o.dst (.slice A2 m d)) w) : wpList P ops Q (o :: rest) act w :=
 wpList_want hgd fun K hK => by
  unfold Oper.wp
  rw [ex_sliceL x lo t ho T A n c hx k hlo hk A2 hA m d hm hd]
  exact hK _ _ h
theorem wpList_sliceH (hgd : Region.wanted o (yielded ops act.tmps) = true) (x hi : Operand) (t : TypeId) (ho : o.op = .slice t x none (some hi) none) {e : TypeId} {s bytes : Nat} (T : ElemT P t e s bytes) (A : Option Addr) (n c : Nat) (hx : act.eval x = .slice A n c) (k : Nat) (hlo : act.eval hi = .int .i64 (k : Int)) (hk : k ≤ c)
  (h : wpList P ops Q rest (act.put o.dst (.slice A k c)) w) : wpList P ops Q (o :: rest) act w :=
 wpList_want hgd fun K hK => by
  unfold Oper.wp
  rw [ex_sliceH x hi t ho T A n c hx k hlo hk]
  exact hK _ _ h
end

end Go.Proofs.Ytjholekgdnhpkaa
