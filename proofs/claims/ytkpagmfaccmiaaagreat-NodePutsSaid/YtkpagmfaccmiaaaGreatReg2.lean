
/- A region that draws its order: quiet operations are taken as soon as they may come up, each call when it is the only one left that may, a store when it waits for all that came. One goal an operation, whatever the orders. -/

import Derived.Test.YtkpagmfaccmiaaaGreatMem

import Derived.OrdersHeld

import Derived.Deep.RegionHeld

namespace Go.Proofs.YtkpagmfaccmiaaaGreat

open Go.RowKit

def Ext (w w' : World) : Prop := Below w.heap.size w w'
theorem Ext.refl (w : World) : Ext w w := Below.refl _ _
theorem Ext.tr {a b c : World} (h : Ext a b) (k : Ext b c) : Ext a c := ext_trans h k
theorem Ext.alloc (w : World) (o : Obj) : Ext w (w.alloc o) := (Below.refl _ _).alloc (Nat.le_refl _) o
theorem Ext.load {w w' : World} {a : Addr} {v : Value} (h : Ext w w') (hc : w.cell? a = some v) : w'.cell? a = some v := by
  rw [h.cell (World.block_lt_of_cell? _ _ hc)]; exact hc
theorem Ext.drew (w : World) : Ext w w.drew := (Below.refl _ _).drew

/-- Operation j waits, by its edges or by those of what it waits for, for operation k. -/
def reach (md : Region.Mode) (ops : Array Oper) : Nat → Nat → Nat → Bool
  | 0, _, _ => false
  | f + 1, j, k => ((ops[j]?).map (fun o => (o.after.any fun e => Region.binds md e && e.on == k) || (o.after.any fun e => Region.binds md e && reach md ops f e.on k))).getD false
/-- Operation i waits for all that has come up. -/
def waits (md : Region.Mode) (ops : Array Oper) (listed : Array Bool) (i : Nat) : Bool :=
  (List.range ops.size).all fun k => !listed.getD k false || reach md ops ops.size i k
/-- What has come up had all that it waits for. -/
def closedB (md : Region.Mode) (ops : Array Oper) (listed : Array Bool) : Bool :=
  (List.range ops.size).all fun k => !listed.getD k false || ((ops[k]?).map (fun o => o.after.all fun e => !Region.binds md e || listed.getD e.on false)).getD true
def Closed (md : Region.Mode) (ops : Array Oper) (listed : Array Bool) : Prop :=
  ∀ k ok, listed.getD k false = true → ops[k]? = some ok → ∀ e ∈ ok.after, Region.binds md e = true → listed.getD e.on false = true

section

variable {P : Program} {ops : Array Oper} {md : Region.Mode} {Q : Exit → Act → World → Prop}

theorem closed_of {listed : Array Bool} (h : closedB md ops listed = true) : Closed md ops listed := by
  intro k ok hk hok e he hb
  have h1 := (List.all_eq_true.1 h) k (List.mem_range.2 (Array.getElem?_eq_some_iff.1 hok).1)
  rw [hk, hok] at h1
  simp only [Bool.not_true, Bool.false_or, Option.map_some, Option.getD_some, Array.all_eq_true] at h1
  obtain ⟨n, hn, rfl⟩ := Array.getElem_of_mem he
  have h2 := h1 n hn
  rw [hb] at h2
  simpa using h2
theorem closed_set {listed : Array Bool} {j : Nat} (h : Closed md ops listed) (hj : j ∈ Region.ready md ops listed) : Closed md ops (listed.setIfInBounds j true) := by
  obtain ⟨_, oj, hoj, hall⟩ := mem_ready.1 hj
  intro k ok hk hok e he hb
  by_cases hjk : j = k
  · subst hjk
    rw [hoj] at hok
    cases hok
    exact getD_set_true (hall e he hb)
  · rw [getD_set_ne false hjk] at hk
    exact getD_set_true (h k ok hk hok e he hb)
theorem reach_listed {listed : Array Bool} (hcl : Closed md ops listed) : ∀ (f j : Nat) (oj : Oper) (k : Nat), ops[j]? = some oj → (∀ e ∈ oj.after, Region.binds md e = true → listed.getD e.on false = true) → reach md ops f j k = true → listed.getD k false = true := by
  intro f
  induction f with
  | zero => intro j oj k _ _ h; simp [reach] at h
  | succ f ih =>
    intro j oj k hoj hall h
    unfold reach at h
    rw [hoj] at h
    simp only [Option.map_some, Option.getD_some, Bool.or_eq_true, Array.any_eq_true, Bool.and_eq_true, beq_iff_eq] at h
    rcases h with ⟨n, hn, hb, he⟩ | ⟨n, hn, hb, hr⟩
    · rw [← he]; exact hall _ (Array.getElem_mem hn) hb
    · have h1 := hall _ (Array.getElem_mem hn) hb
      cases hoe : ops[(oj.after[n]).on]? with
      | none =>
        exfalso
        cases f with
        | zero => simp [reach] at hr
        | succ f => unfold reach at hr; rw [hoe] at hr; simp at hr
      | some oe => exact ih _ oe k hoe (hcl _ oe h1 hoe) hr
theorem waits_listed {listed : Array Bool} {j k : Nat} {oj : Oper} (hcl : Closed md ops listed) (hoj : ops[j]? = some oj) (hall : ∀ e ∈ oj.after, Region.binds md e = true → listed.getD e.on false = true)
    {listed' : Array Bool} (h : waits md ops listed' j = true) (hk : k < ops.size) (hl : listed'.getD k false = true) : listed.getD k false = true := by
  unfold waits at h
  have h1 := (List.all_eq_true.1 h) k (List.mem_range.2 hk)
  rw [hl] at h1
  exact reach_listed hcl _ j oj k hoj hall (by simpa using h1)

/-- Whatever order is picked from here on: behind each operation what was there is as it was, or the operation waits for all that came before it. -/
def wpAnyR (P : Program) (md : Region.Mode) (ops : Array Oper) (Q : Exit → Act → World → Prop) : Nat → Array Bool → Act → World → Prop
  | 0, listed, a, w => Region.ready md ops listed = [] ∧ Q .normal a w
  | fuel + 1, listed, a, w =>
    (Region.ready md ops listed = [] → Q .normal a w) ∧
    ∀ i ∈ Region.ready md ops listed, wpOp P ops Q i (fun a' w' => (Ext w w' ∨ waits md ops listed i = true) ∧ wpAnyR P md ops Q fuel (listed.setIfInBounds i true) a' w') a w

theorem wpAny_of_R : ∀ (fuel : Nat) (listed : Array Bool) (a : Act) (w : World), wpAnyR P md ops Q fuel listed a w → wpAny P md ops Q fuel listed a w
  | 0, _, _, _, h => h
  | fuel + 1, _, _, _, h => ⟨h.1, fun i hi => wpOp_mono (fun a' w' h' => wpAny_of_R fuel _ a' w' h'.2) (h.2 i hi)⟩

theorem yields_ext {o : Oper} {v : Value} {a : Act} {w w' : World} (h : YieldsIf P ops (Ext w) o v a) (hx : Ext w w') : YieldsIf P ops (Ext w') o v a :=
  h.imp (fun ⟨h1, h2⟩ => ⟨h1, fun w'' h3 => h2 w'' (hx.tr h3)⟩) id

theorem wpAnyR_first {i : Nat} {oi : Oper} {v : Value} (hi : ops[i]? = some oi) (hsel : ∀ (j : Nat) (o : Oper) cs b, ops[j]? = some o → o.op ≠ .select cs b)
    (hQ : ∀ c a w, Q (.panic c) (a.put oi.dst v) w → Q (.panic c) a w) :
    ∀ (fuel : Nat) (listed : Array Bool) (a : Act) (w : World), Closed md ops listed →
      (∀ j oj, ops[j]? = some oj → j ≠ i → listed.getD j true = false → (∀ e ∈ oj.after, Region.binds md e = true → e.on ≠ i) → oi.apart ops oj = true) →
      i ∈ Region.ready md ops listed → YieldsIf P ops (Ext w) oi v a →
      wpAnyR P md ops Q fuel (listed.setIfInBounds i true) (a.put oi.dst v) w → wpAnyR P md ops Q (fuel + 1) listed a w := by
  intro fuel
  induction fuel with
  | zero =>
    intro listed a w _ _ hr hy H
    refine ⟨fun h => (by rw [h] at hr; cases hr), fun j hj => ?_⟩
    by_cases hji : j = i
    · subst hji; exact hy.wpOp hi (Ext.refl w) ⟨.inl (Ext.refl w), H⟩
    · have := ready_mono hj hji
      rw [H.1] at this
      cases this
  | succ fuel ih =>
    intro listed a w hcl hfree hr hy H
    refine ⟨fun h => (by rw [h] at hr; cases hr), fun j hj => ?_⟩
    by_cases hji : j = i
    · subst hji; exact hy.wpOp hi (Ext.refl w) ⟨.inl (Ext.refl w), H⟩
    · have h1 := H.2 j (ready_mono hj hji)
      obtain ⟨hjun, oj, hoj, hall⟩ := mem_ready.1 hj
      have hiun := (mem_ready.1 hr).1
      have hilt : i < listed.size := by
        rcases Nat.lt_or_ge i listed.size with h' | h'
        · exact h'
        · simp [Array.getElem?_eq_none h'] at hiun
      have hnot : ∀ e ∈ oj.after, Region.binds md e = true → e.on ≠ i := fun e he hb heq => by
        have h1 := hall e he hb
        rw [heq] at h1
        simp [hilt] at hiun h1
        rw [hiun] at h1; cases h1
      have hnow : waits md ops (listed.setIfInBounds i true) j ≠ true := fun hw => by
        have h3 := waits_listed (k := i) hcl hoj hall hw (Array.getElem?_eq_some_iff.1 hi).1 (by simp [hilt])
        simp [hilt] at hiun h3
        rw [hiun] at h3; cases h3
      have h2 := wpOp_putIf hoj (hfree j oj hoj hji hjun hnot) (fun cs b => hsel i oi cs b hi) (fun cs b => hsel j oj cs b hoj) hQ hy h1
      have hfree' : ∀ k ok, ops[k]? = some ok → k ≠ i → (listed.setIfInBounds j true).getD k true = false →
          (∀ e ∈ ok.after, Region.binds md e = true → e.on ≠ i) → oi.apart ops ok = true := fun k ok hk hki hun hno => by
        refine hfree k ok hk hki ?_ hno
        by_cases hjk : j = k
        · subst hjk; exact hjun
        · rw [getD_set_ne true hjk] at hun; exact hun
      refine wpOp_mono (fun a' w' h3 => ?_) h2
      have hx : Ext w w' := h3.2.1.resolve_right hnow
      refine ⟨.inl hx, ih (listed.setIfInBounds j true) a' w' (closed_set hcl hj) hfree' (ready_mono hr (Ne.symm hji)) (yields_ext h3.1 hx) ?_⟩
      rw [Array.setIfInBounds_comm _ _ hji]
      exact h3.2.2

theorem rg_start {id : Nat} {a : Act} {w : World} (hm : P.follows .mixedOrders = true)
    (h : wpAnyR P .any ops Q ops.size (Array.replicate ops.size false) a w.drew) : (Code.region id ops true).wp P Q a w := wp_region_any hm (wpAny_of_R _ _ _ _ h)

/-- A quiet operation. -/
theorem rg_take (i : Nat) {oi : Oper} {fuel : Nat} {listed : Array Bool} {a : Act} {w : World} (hi0 : ops.toList[i]? = some oi)
    (hs : Region.noSelect ops = true) (hf : (closedB md ops listed && Region.free md ops listed i) = true) (hr : (Region.ready md ops listed).contains i = true)
    (hQ : ∀ c a v w, Q (.panic c) (a.put oi.dst v) w → Q (.panic c) a w) (hw : Region.wanted oi (yielded ops a.tmps) = true)
    (h : ∃ v, (∀ w', Ext w w' → (execOp a.eval oi).run P w' = .ok (.value v) w') ∧ wpAnyR P md ops Q fuel (listed.setIfInBounds i true) (a.put oi.dst v) w) : wpAnyR P md ops Q (fuel + 1) listed a w := by
  have hi : ops[i]? = some oi := by rw [← hi0]; simp
  obtain ⟨v, hv, h⟩ := h
  exact wpAnyR_first hi (Region.noSelect_spec hs) (fun c a w => hQ c a v w) fuel listed a w (closed_of (Bool.and_eq_true _ _ ▸ hf).1) (Region.free_spec hi (Bool.and_eq_true _ _ ▸ hf).2) (by simpa using hr) (.inl ⟨hw, hv⟩) h

/-- One that its guard leaves out. -/
theorem rg_skip (i : Nat) {oi : Oper} {fuel : Nat} {listed : Array Bool} {a : Act} {w : World} (hi0 : ops.toList[i]? = some oi)
    (hs : Region.noSelect ops = true) (hf : (closedB md ops listed && Region.free md ops listed i) = true) (hr : (Region.ready md ops listed).contains i = true)
    (hQ : ∀ c a v w, Q (.panic c) (a.put oi.dst v) w → Q (.panic c) a w) (hw : Region.wanted oi (yielded ops a.tmps) = false)
    (h : wpAnyR P md ops Q fuel (listed.setIfInBounds i true) (a.put oi.dst undef) w) : wpAnyR P md ops Q (fuel + 1) listed a w := by
  have hi : ops[i]? = some oi := by rw [← hi0]; simp
  exact wpAnyR_first hi (Region.noSelect_spec hs) (fun c a w => hQ c a _ w) fuel listed a w (closed_of (Bool.and_eq_true _ _ ▸ hf).1) (Region.free_spec hi (Bool.and_eq_true _ _ ▸ hf).2) (by simpa using hr) (.inr ⟨hw, rfl⟩) h

theorem rg_one (i : Nat) {oi : Oper} {fuel : Nat} {listed : Array Bool} {a : Act} {w : World} (hi0 : ops.toList[i]? = some oi)
    (hr : Region.ready md ops listed = [i]) (hw : Region.wanted oi (yielded ops a.tmps) = true)
    (h : oi.wp P a w (fun a' w' => (Ext w w' ∨ waits md ops listed i = true) ∧ wpAnyR P md ops Q fuel (listed.setIfInBounds i true) a' w') Q) : wpAnyR P md ops Q (fuel + 1) listed a w := by
  have hi : ops[i]? = some oi := by rw [← hi0]; simp
  refine ⟨fun h0 => absurd (hr ▸ h0) (by simp), fun j hj => ?_⟩
  rw [hr] at hj
  obtain rfl : j = i := by simpa using hj
  unfold wpOp
  rw [hi]
  show if _ then _ else _
  rw [if_pos hw]
  exact .inl h

/-- A call, the only operation that may come up now. -/
theorem rg_call (i : Nat) {oi : Oper} {fuel : Nat} {listed : Array Bool} {a : Act} {w : World} {f : FuncId} {args : Array Value} {R : Ending → World → Prop} (hc : Calls P f args w R) (hi0 : ops.toList[i]? = some oi)
    (hr : Region.ready md ops listed = [i]) (hw : Region.wanted oi (yielded ops a.tmps) = true)
    (hx : (execOp a.eval oi).run P w = .ok (.enter f args) w)
    (h : ∀ e w', R e w' → ∃ v, e = .returned v ∧ Ext w w' ∧ wpAnyR P md ops Q fuel (listed.setIfInBounds i true) (a.put oi.dst v) w') : wpAnyR P md ops Q (fuel + 1) listed a w := by
  refine rg_one i hi0 hr hw ?_
  unfold Oper.wp
  rw [hx, Oper.upon_enter]
  refine hc.mono fun e w' hR => ?_
  obtain ⟨v, rfl, h1, h2⟩ := h e w' hR
  exact ⟨.inl h1, h2⟩

/-- Another operation that only makes memory, the only one that may come up now. -/
theorem rg_make (i : Nat) {oi : Oper} {fuel : Nat} {listed : Array Bool} {a : Act} {w : World} (hi0 : ops.toList[i]? = some oi)
    (hr : Region.ready md ops listed = [i]) (hw : Region.wanted oi (yielded ops a.tmps) = true)
    (h : ∃ v w', (execOp a.eval oi).run P w = .ok (.value v) w' ∧ Ext w w' ∧ wpAnyR P md ops Q fuel (listed.setIfInBounds i true) (a.put oi.dst v) w') : wpAnyR P md ops Q (fuel + 1) listed a w := by
  obtain ⟨v, w', hx, h1, h2⟩ := h
  refine rg_one i hi0 hr hw ?_
  unfold Oper.wp
  rw [hx, Oper.upon_value]
  exact ⟨.inl h1, h2⟩

/-- An operation that may change anything, the only one that may come up now; it waits for all that came. -/
theorem rg_last (i : Nat) {oi : Oper} {fuel : Nat} {listed : Array Bool} {a : Act} {w : World} (hi0 : ops.toList[i]? = some oi)
    (hr : Region.ready md ops listed = [i]) (hwt : waits md ops listed i = true) (hw : Region.wanted oi (yielded ops a.tmps) = true)
    (h : ∀ K : Act → World → Prop, (∀ a' w', wpAnyR P md ops Q fuel (listed.setIfInBounds i true) a' w' → K a' w') → oi.wp P a w K Q) : wpAnyR P md ops Q (fuel + 1) listed a w :=
  rg_one i hi0 hr hw (h _ fun _ _ h1 => ⟨.inr hwt, h1⟩)

/-- A store, the only operation that may come up now; it waits for all that came. -/
theorem rg_store (i : Nat) {oi : Oper} {fuel : Nat} {listed : Array Bool} {a : Act} {w : World} (hi0 : ops.toList[i]? = some oi)
    (hr : Region.ready md ops listed = [i]) (hwt : waits md ops listed i = true) (hw : Region.wanted oi (yielded ops a.tmps) = true)
    (h : ∃ w', (execOp a.eval oi).run P w = .ok .skip w' ∧ wpAnyR P md ops Q fuel (listed.setIfInBounds i true) (a.put oi.dst undef) w') : wpAnyR P md ops Q (fuel + 1) listed a w := by
  obtain ⟨w', hx, h2⟩ := h
  refine rg_one i hi0 hr hw ?_
  unfold Oper.wp
  rw [hx, Oper.upon_skip]
  exact ⟨.inr hwt, h2⟩

theorem rg_done {fuel : Nat} {listed : Array Bool} {a : Act} {w : World} (hr : Region.ready md ops listed = []) (h : Q .normal a w) : wpAnyR P md ops Q fuel listed a w := by
  cases fuel with
  | zero => exact ⟨hr, h⟩
  | succ n => exact ⟨fun _ => h, by rw [hr]; simp⟩

theorem ex_convert {o : Oper} {a : Act} {w : World} {s d : TypeId} {x : Operand} {v v' : Value} (ho : o.op = .convert s d x) (hx : a.eval x = v) (hr : (convert s d v).run P w = .ok v' w) : (execOp a.eval o).run P w = .ok (.value v') w := by
  unfold execOp
  simp only [ho, hx, Sem.run_bind, hr, Result.andThen_ok, Sem.run_pure]
end

end Go.Proofs.YtkpagmfaccmiaaaGreat

/- Two operations that make memory may both come up: both orders. -/

namespace Go.Proofs.YtkpagmfaccmiaaaGreat

open Go.RowKit

section

variable {P : Program} {ops : Array Oper} {md : Region.Mode} {Q : Exit → Act → World → Prop}

theorem rg_two (i j : Nat) {fuel : Nat} {listed : Array Bool} {a : Act} {w : World} (hr : Region.ready md ops listed = [i, j])
    (h1 : wpOp P ops Q i (fun a' w' => (Ext w w' ∨ waits md ops listed i = true) ∧ wpAnyR P md ops Q fuel (listed.setIfInBounds i true) a' w') a w)
    (h2 : wpOp P ops Q j (fun a' w' => (Ext w w' ∨ waits md ops listed j = true) ∧ wpAnyR P md ops Q fuel (listed.setIfInBounds j true) a' w') a w) : wpAnyR P md ops Q (fuel + 1) listed a w := by
  refine ⟨fun h0 => absurd (hr ▸ h0) (by simp), fun k hk => ?_⟩
  rw [hr] at hk
  rcases List.mem_cons.1 hk with rfl | hk
  · exact h1
  · obtain rfl : k = j := by simpa using hk
    exact h2

theorem op_call (i : Nat) {oi : Oper} {fuel : Nat} {listed : Array Bool} {a : Act} {w : World} {f : FuncId} {args : Array Value} {R : Ending → World → Prop} (hc : Calls P f args w R) (hi0 : ops.toList[i]? = some oi)
    (hw : Region.wanted oi (yielded ops a.tmps) = true) (hx : (execOp a.eval oi).run P w = .ok (.enter f args) w)
    (h : ∀ e w', R e w' → ∃ v, e = .returned v ∧ Ext w w' ∧ wpAnyR P md ops Q fuel (listed.setIfInBounds i true) (a.put oi.dst v) w') :
    wpOp P ops Q i (fun a' w' => (Ext w w' ∨ waits md ops listed i = true) ∧ wpAnyR P md ops Q fuel (listed.setIfInBounds i true) a' w') a w := by
  have hi : ops[i]? = some oi := by rw [← hi0]; simp
  unfold wpOp
  rw [hi]
  show if _ then _ else _
  rw [if_pos hw]
  refine .inl ?_
  unfold Oper.wp
  rw [hx, Oper.upon_enter]
  refine hc.mono fun e w' hR => ?_
  obtain ⟨v, rfl, h1, h2⟩ := h e w' hR
  exact ⟨.inl h1, h2⟩

theorem op_make (i : Nat) {oi : Oper} {fuel : Nat} {listed : Array Bool} {a : Act} {w : World} (hi0 : ops.toList[i]? = some oi)
    (hw : Region.wanted oi (yielded ops a.tmps) = true)
    (h : ∃ v w', (execOp a.eval oi).run P w = .ok (.value v) w' ∧ Ext w w' ∧ wpAnyR P md ops Q fuel (listed.setIfInBounds i true) (a.put oi.dst v) w') :
    wpOp P ops Q i (fun a' w' => (Ext w w' ∨ waits md ops listed i = true) ∧ wpAnyR P md ops Q fuel (listed.setIfInBounds i true) a' w') a w := by
  have hi : ops[i]? = some oi := by rw [← hi0]; simp
  obtain ⟨v, w', hx, h1, h2⟩ := h
  unfold wpOp
  rw [hi]
  show if _ then _ else _
  rw [if_pos hw]
  refine .inl ?_
  unfold Oper.wp
  rw [hx, Oper.upon_value]
  exact ⟨.inl h1, h2⟩
theorem op_call2 (i : Nat) {oi : Oper} {fuel : Nat} {listed : Array Bool} {a : Act} {w : World} {f : FuncId} {args : Array Value} {R : Ending → World → Prop} (hi0 : ops.toList[i]? = some oi)
    (hw : Region.wanted oi (yielded ops a.tmps) = true) (hx : (execOp a.eval oi).run P w = .ok (.enter f args) w) (hc : Calls P f args w R)
    (h : ∀ e w', R e w' → ∃ v, e = .returned v ∧ Ext w w' ∧ wpAnyR P md ops Q fuel (listed.setIfInBounds i true) (a.put oi.dst v) w') :
    wpOp P ops Q i (fun a' w' => (Ext w w' ∨ waits md ops listed i = true) ∧ wpAnyR P md ops Q fuel (listed.setIfInBounds i true) a' w') a w := op_call i hc hi0 hw hx h
theorem rg_call2 (i : Nat) {oi : Oper} {fuel : Nat} {listed : Array Bool} {a : Act} {w : World} {f : FuncId} {args : Array Value} {R : Ending → World → Prop} (hi0 : ops.toList[i]? = some oi)
    (hr : Region.ready md ops listed = [i]) (hw : Region.wanted oi (yielded ops a.tmps) = true)
    (hx : (execOp a.eval oi).run P w = .ok (.enter f args) w) (hc : Calls P f args w R)
    (h : ∀ e w', R e w' → ∃ v, e = .returned v ∧ Ext w w' ∧ wpAnyR P md ops Q fuel (listed.setIfInBounds i true) (a.put oi.dst v) w') : wpAnyR P md ops Q (fuel + 1) listed a w := rg_call i hc hi0 hr hw hx h

/-- Two orders meet again: what comes behind them is shown once, whatever the two results are. -/
theorem rg_join {fuel : Nat} {listed : Array Bool} {a : Act} {w : World} (w0 : World) (i1 c1 i2 c2 : Nat) (t1 t2 t3 t4 : Tmp) (s1 s2 : Value)
    (h : (∀ v u W, Ext w0 W → wpAnyR P md ops Q fuel ((((listed.setIfInBounds i1 true).setIfInBounds c1 true).setIfInBounds i2 true).setIfInBounds c2 true) ((((a.put (some t1) v).put (some t2) s1).put (some t3) u).put (some t4) s2) W) → wpAnyR P md ops Q (fuel + 4) listed a w)
    (rest : ∀ v u W, Ext w0 W → wpAnyR P md ops Q fuel ((((listed.setIfInBounds i1 true).setIfInBounds c1 true).setIfInBounds i2 true).setIfInBounds c2 true) ((((a.put (some t1) v).put (some t2) s1).put (some t3) u).put (some t4) s2) W) : wpAnyR P md ops Q (fuel + 4) listed a w := h rest
theorem rg_join5 {fuel : Nat} {listed : Array Bool} {a : Act} {w : World} (w0 : World) (i0 i1 c1 i2 c2 : Nat) (t0 t1 t2 t3 t4 : Tmp) (s1 s2 : Value)
    (h : (∀ v0 v u W, Ext w0 W → wpAnyR P md ops Q fuel (((((listed.setIfInBounds i0 true).setIfInBounds i1 true).setIfInBounds c1 true).setIfInBounds i2 true).setIfInBounds c2 true) (((((a.put (some t0) v0).put (some t1) v).put (some t2) s1).put (some t3) u).put (some t4) s2) W) → wpAnyR P md ops Q (fuel + 5) listed a w)
    (rest : ∀ v0 v u W, Ext w0 W → wpAnyR P md ops Q fuel (((((listed.setIfInBounds i0 true).setIfInBounds i1 true).setIfInBounds c1 true).setIfInBounds i2 true).setIfInBounds c2 true) (((((a.put (some t0) v0).put (some t1) v).put (some t2) s1).put (some t3) u).put (some t4) s2) W) : wpAnyR P md ops Q (fuel + 5) listed a w := h rest
/-- The same, with what is known of the two results and of the world. -/
theorem rg_joinP {fuel : Nat} {listed : Array Bool} {a : Act} {w : World} (Φ : Value → Value → World → Prop) (i j : Nat) (t1 t2 : Tmp)
    (h : (∀ v u W, Φ v u W → wpAnyR P md ops Q fuel ((listed.setIfInBounds i true).setIfInBounds j true) ((a.put (some t1) v).put (some t2) u) W) → wpAnyR P md ops Q (fuel + 2) listed a w)
    (rest : ∀ v u W, Φ v u W → wpAnyR P md ops Q fuel ((listed.setIfInBounds i true).setIfInBounds j true) ((a.put (some t1) v).put (some t2) u) W) : wpAnyR P md ops Q (fuel + 2) listed a w := h rest
theorem rg_cast {fuel : Nat} {l l' : Array Bool} {a : Act} {w : World} (h : l = l') (H : wpAnyR P md ops Q fuel l a w) : wpAnyR P md ops Q fuel l' a w := h ▸ H
end

end Go.Proofs.YtkpagmfaccmiaaaGreat
