
/- A region that draws its order: as XReg2, but what is kept behind each operation is told by a relation of worlds. Printed by wip/tools/gen_reg8.py. -/

import Derived.Test.YtkpagmfaccmiaaaGreatReg3

namespace Go.Proofs.YtkpagmfaccmiaaaGreat

open Go.RowKit

/-- What is kept from one world to the next. -/
structure Wr where
  r : World → World → Prop
  refl : ∀ w, r w w
  tr : ∀ {a b c}, r a b → r b c → r a c
section

variable {ρ : Wr} {P : Program} {ops : Array Oper} {md : Region.Mode} {Q : Exit → Act → World → Prop}

/-- Whatever order is picked from here on: behind each operation what was there is as it was, or the operation waits for all that came before it. -/
def wpAnyK (ρ : Wr) (P : Program) (md : Region.Mode) (ops : Array Oper) (Q : Exit → Act → World → Prop) : Nat → Array Bool → Act → World → Prop
  | 0, listed, a, w => Region.ready md ops listed = [] ∧ Q .normal a w
  | fuel + 1, listed, a, w =>
    (Region.ready md ops listed = [] → Q .normal a w) ∧
    ∀ i ∈ Region.ready md ops listed, wpOp P ops Q i (fun a' w' => (ρ.r w w' ∨ waits md ops listed i = true) ∧ wpAnyK ρ P md ops Q fuel (listed.setIfInBounds i true) a' w') a w

theorem wpAny_of_K : ∀ (fuel : Nat) (listed : Array Bool) (a : Act) (w : World), wpAnyK ρ P md ops Q fuel listed a w → wpAny P md ops Q fuel listed a w
  | 0, _, _, _, h => h
  | fuel + 1, _, _, _, h => ⟨h.1, fun i hi => wpOp_mono (fun a' w' h' => wpAny_of_K fuel _ a' w' h'.2) (h.2 i hi)⟩

theorem yields_keep {o : Oper} {v : Value} {a : Act} {w w' : World} (h : YieldsIf P ops (ρ.r w) o v a) (hx : ρ.r w w') : YieldsIf P ops (ρ.r w') o v a :=
  h.imp (fun ⟨h1, h2⟩ => ⟨h1, fun w'' h3 => h2 w'' (ρ.tr hx h3)⟩) id

theorem wpAnyK_first {i : Nat} {oi : Oper} {v : Value} (hi : ops[i]? = some oi) (hsel : ∀ (j : Nat) (o : Oper) cs b, ops[j]? = some o → o.op ≠ .select cs b)
    (hQ : ∀ c a w, Q (.panic c) (a.put oi.dst v) w → Q (.panic c) a w) :
    ∀ (fuel : Nat) (listed : Array Bool) (a : Act) (w : World), Closed md ops listed →
      (∀ j oj, ops[j]? = some oj → j ≠ i → listed.getD j true = false → (∀ e ∈ oj.after, Region.binds md e = true → e.on ≠ i) → oi.apart ops oj = true) →
      i ∈ Region.ready md ops listed → YieldsIf P ops (ρ.r w) oi v a →
      wpAnyK ρ P md ops Q fuel (listed.setIfInBounds i true) (a.put oi.dst v) w → wpAnyK ρ P md ops Q (fuel + 1) listed a w := by
  intro fuel
  induction fuel with
  | zero =>
    intro listed a w _ _ hr hy H
    refine ⟨fun h => (by rw [h] at hr; cases hr), fun j hj => ?_⟩
    by_cases hji : j = i
    · subst hji; exact hy.wpOp hi (ρ.refl w) ⟨.inl (ρ.refl w), H⟩
    · have := ready_mono hj hji
      rw [H.1] at this
      cases this
  | succ fuel ih =>
    intro listed a w hcl hfree hr hy H
    refine ⟨fun h => (by rw [h] at hr; cases hr), fun j hj => ?_⟩
    by_cases hji : j = i
    · subst hji; exact hy.wpOp hi (ρ.refl w) ⟨.inl (ρ.refl w), H⟩
    · have h1 := H.2 j (ready_mono hj hji)
      obtain ⟨hjun, oj, hoj, hall⟩ := mem_ready.1 hj
      have hiun := (mem_ready.1 hr).1
      have hilt : i < listed.size := by
        rcases Nat.lt_or_ge i listed.size with h' | h'
        · exact h'
        · simp [Array.getElem?_eq_none h'] at hiun
      have hnot : ∀ e ∈ oj.after, Region.binds md e = true → e.on ≠ i := fun e he hb heq => by
        have h1 := hall e he hb
        rw [heq] at h1
        simp [hilt] at hiun h1
        rw [hiun] at h1; cases h1
      have hnow : waits md ops (listed.setIfInBounds i true) j ≠ true := fun hw => by
        have h3 := waits_listed (k := i) hcl hoj hall hw (Array.getElem?_eq_some_iff.1 hi).1 (by simp [hilt])
        simp [hilt] at hiun h3
        rw [hiun] at h3; cases h3
      have h2 := wpOp_putIf hoj (hfree j oj hoj hji hjun hnot) (fun cs b => hsel i oi cs b hi) (fun cs b => hsel j oj cs b hoj) hQ hy h1
      have hfree' : ∀ k ok, ops[k]? = some ok → k ≠ i → (listed.setIfInBounds j true).getD k true = false →
          (∀ e ∈ ok.after, Region.binds md e = true → e.on ≠ i) → oi.apart ops ok = true := fun k ok hk hki hun hno => by
        refine hfree k ok hk hki ?_ hno
        by_cases hjk : j = k
        · subst hjk; exact hjun
        · rw [getD_set_ne true hjk] at hun; exact hun
      refine wpOp_mono (fun a' w' h3 => ?_) h2
      have hx : ρ.r w w' := h3.2.1.resolve_right hnow
      refine ⟨.inl hx, ih (listed.setIfInBounds j true) a' w' (closed_set hcl hj) hfree' (ready_mono hr (Ne.symm hji)) (yields_keep h3.1 hx) ?_⟩
      rw [Array.setIfInBounds_comm _ _ hji]
      exact h3.2.2

theorem rk_start (ρ : Wr) {id : Nat} {a : Act} {w : World} (hm : P.follows .mixedOrders = true)
    (h : wpAnyK ρ P .any ops Q ops.size (Array.replicate ops.size false) a w.drew) : (Code.region id ops true).wp P Q a w := wp_region_any hm (wpAny_of_K _ _ _ _ h)

/-- A quiet operation. -/
theorem rk_take (i : Nat) {oi : Oper} {fuel : Nat} {listed : Array Bool} {a : Act} {w : World} (hi0 : ops.toList[i]? = some oi)
    (hs : Region.noSelect ops = true) (hf : (closedB md ops listed && Region.free md ops listed i) = true) (hr : (Region.ready md ops listed).contains i = true)
    (hQ : ∀ c a v w, Q (.panic c) (a.put oi.dst v) w → Q (.panic c) a w) (hw : Region.wanted oi (yielded ops a.tmps) = true)
    (h : ∃ v, (∀ w', ρ.r w w' → (execOp a.eval oi).run P w' = .ok (.value v) w') ∧ wpAnyK ρ P md ops Q fuel (listed.setIfInBounds i true) (a.put oi.dst v) w) : wpAnyK ρ P md ops Q (fuel + 1) listed a w := by
  have hi : ops[i]? = some oi := by rw [← hi0]; simp
  obtain ⟨v, hv, h⟩ := h
  exact wpAnyK_first hi (Region.noSelect_spec hs) (fun c a w => hQ c a v w) fuel listed a w (closed_of (Bool.and_eq_true _ _ ▸ hf).1) (Region.free_spec hi (Bool.and_eq_true _ _ ▸ hf).2) (by simpa using hr) (.inl ⟨hw, hv⟩) h

/-- One that its guard leaves out. -/
theorem rk_skip (i : Nat) {oi : Oper} {fuel : Nat} {listed : Array Bool} {a : Act} {w : World} (hi0 : ops.toList[i]? = some oi)
    (hs : Region.noSelect ops = true) (hf : (closedB md ops listed && Region.free md ops listed i) = true) (hr : (Region.ready md ops listed).contains i = true)
    (hQ : ∀ c a v w, Q (.panic c) (a.put oi.dst v) w → Q (.panic c) a w) (hw : Region.wanted oi (yielded ops a.tmps) = false)
    (h : wpAnyK ρ P md ops Q fuel (listed.setIfInBounds i true) (a.put oi.dst undef) w) : wpAnyK ρ P md ops Q (fuel + 1) listed a w := by
  have hi : ops[i]? = some oi := by rw [← hi0]; simp
  exact wpAnyK_first hi (Region.noSelect_spec hs) (fun c a w => hQ c a _ w) fuel listed a w (closed_of (Bool.and_eq_true _ _ ▸ hf).1) (Region.free_spec hi (Bool.and_eq_true _ _ ▸ hf).2) (by simpa using hr) (.inr ⟨hw, rfl⟩) h

theorem rk_one (i : Nat) {oi : Oper} {fuel : Nat} {listed : Array Bool} {a : Act} {w : World} (hi0 : ops.toList[i]? = some oi)
    (hr : Region.ready md ops listed = [i]) (hw : Region.wanted oi (yielded ops a.tmps) = true)
    (h : oi.wp P a w (fun a' w' => (ρ.r w w' ∨ waits md ops listed i = true) ∧ wpAnyK ρ P md ops Q fuel (listed.setIfInBounds i true) a' w') Q) : wpAnyK ρ P md ops Q (fuel + 1) listed a w := by
  have hi : ops[i]? = some oi := by rw [← hi0]; simp
  refine ⟨fun h0 => absurd (hr ▸ h0) (by simp), fun j hj => ?_⟩
  rw [hr] at hj
  obtain rfl : j = i := by simpa using hj
  unfold wpOp
  rw [hi]
  show if _ then _ else _
  rw [if_pos hw]
  exact .inl h

/-- A call, the only operation that may come up now. -/
theorem rk_call (i : Nat) {oi : Oper} {fuel : Nat} {listed : Array Bool} {a : Act} {w : World} {f : FuncId} {args : Array Value} {R : Ending → World → Prop} (hc : Calls P f args w R) (hi0 : ops.toList[i]? = some oi)
    (hr : Region.ready md ops listed = [i]) (hw : Region.wanted oi (yielded ops a.tmps) = true)
    (hx : (execOp a.eval oi).run P w = .ok (.enter f args) w)
    (h : ∀ e w', R e w' → ∃ v, e = .returned v ∧ ρ.r w w' ∧ wpAnyK ρ P md ops Q fuel (listed.setIfInBounds i true) (a.put oi.dst v) w') : wpAnyK ρ P md ops Q (fuel + 1) listed a w := by
  refine rk_one i hi0 hr hw ?_
  unfold Oper.wp
  rw [hx, Oper.upon_enter]
  refine hc.mono fun e w' hR => ?_
  obtain ⟨v, rfl, h1, h2⟩ := h e w' hR
  exact ⟨.inl h1, h2⟩

/-- Another operation that only makes memory, the only one that may come up now. -/
theorem rk_make (i : Nat) {oi : Oper} {fuel : Nat} {listed : Array Bool} {a : Act} {w : World} (hi0 : ops.toList[i]? = some oi)
    (hr : Region.ready md ops listed = [i]) (hw : Region.wanted oi (yielded ops a.tmps) = true)
    (h : ∃ v w', (execOp a.eval oi).run P w = .ok (.value v) w' ∧ ρ.r w w' ∧ wpAnyK ρ P md ops Q fuel (listed.setIfInBounds i true) (a.put oi.dst v) w') : wpAnyK ρ P md ops Q (fuel + 1) listed a w := by
  obtain ⟨v, w', hx, h1, h2⟩ := h
  refine rk_one i hi0 hr hw ?_
  unfold Oper.wp
  rw [hx, Oper.upon_value]
  exact ⟨.inl h1, h2⟩

/-- An operation that may change anything, the only one that may come up now; it waits for all that came. -/
theorem rk_last (i : Nat) {oi : Oper} {fuel : Nat} {listed : Array Bool} {a : Act} {w : World} (hi0 : ops.toList[i]? = some oi)
    (hr : Region.ready md ops listed = [i]) (hwt : waits md ops listed i = true) (hw : Region.wanted oi (yielded ops a.tmps) = true)
    (h : ∀ K : Act → World → Prop, (∀ a' w', wpAnyK ρ P md ops Q fuel (listed.setIfInBounds i true) a' w' → K a' w') → oi.wp P a w K Q) : wpAnyK ρ P md ops Q (fuel + 1) listed a w :=
  rk_one i hi0 hr hw (h _ fun _ _ h1 => ⟨.inr hwt, h1⟩)

/-- A store, the only operation that may come up now; it waits for all that came. -/
theorem rk_store (i : Nat) {oi : Oper} {fuel : Nat} {listed : Array Bool} {a : Act} {w : World} (hi0 : ops.toList[i]? = some oi)
    (hr : Region.ready md ops listed = [i]) (hwt : waits md ops listed i = true) (hw : Region.wanted oi (yielded ops a.tmps) = true)
    (h : ∃ w', (execOp a.eval oi).run P w = .ok .skip w' ∧ wpAnyK ρ P md ops Q fuel (listed.setIfInBounds i true) (a.put oi.dst undef) w') : wpAnyK ρ P md ops Q (fuel + 1) listed a w := by
  obtain ⟨w', hx, h2⟩ := h
  refine rk_one i hi0 hr hw ?_
  unfold Oper.wp
  rw [hx, Oper.upon_skip]
  exact ⟨.inr hwt, h2⟩

theorem rk_done {fuel : Nat} {listed : Array Bool} {a : Act} {w : World} (hr : Region.ready md ops listed = []) (h : Q .normal a w) : wpAnyK ρ P md ops Q fuel listed a w := by
  cases fuel with
  | zero => exact ⟨hr, h⟩
  | succ n => exact ⟨fun _ => h, by rw [hr]; simp⟩

/-- What an operation yields: a value of which Φ holds, in a world that has what was there. -/
def YldK (ρ : Wr) (P : Program) (o : Oper) (a : Act) (w : World) (Φ : Value → World → Prop) : Prop :=
  (∃ v w', (execOp a.eval o).run P w = .ok (.value v) w' ∧ ρ.r w w' ∧ Φ v w') ∨
  (∃ f args, (execOp a.eval o).run P w = .ok (.enter f args) w ∧ Calls P f args w fun e w' => ∃ v, e = .returned v ∧ ρ.r w w' ∧ Φ v w')
theorem yldk_make {o : Oper} {a : Act} {w : World} {Φ : Value → World → Prop} (h : ∃ v w', (execOp a.eval o).run P w = .ok (.value v) w' ∧ ρ.r w w' ∧ Φ v w') : YldK ρ P o a w Φ := .inl h
theorem yldk_quiet {o : Oper} {a : Act} {w : World} {Φ : Value → World → Prop} (h : ∃ v, (execOp a.eval o).run P w = .ok (.value v) w ∧ Φ v w) : YldK ρ P o a w Φ :=
  let ⟨v, h1, h2⟩ := h; .inl ⟨v, w, h1, ρ.refl w, h2⟩
theorem yldk_call {o : Oper} {a : Act} {w : World} {Φ : Value → World → Prop} {f : FuncId} {args : Array Value} {R : Ending → World → Prop} (hx : (execOp a.eval o).run P w = .ok (.enter f args) w) (hc : Calls P f args w R)
    (h : ∀ e w', R e w' → ∃ v, e = .returned v ∧ ρ.r w w' ∧ Φ v w') : YldK ρ P o a w Φ := .inr ⟨f, args, hx, hc.mono h⟩
theorem YldK.wpOp {i : Nat} {oi : Oper} {a : Act} {w : World} {Φ : Value → World → Prop} {K : Act → World → Prop} (hi : ops[i]? = some oi) (hw : Region.wanted oi (yielded ops a.tmps) = true) (h : YldK ρ P oi a w Φ)
    (hK : ∀ v w', ρ.r w w' → Φ v w' → K (a.put oi.dst v) w') : wpOp P ops Q i K a w := by
  unfold Go.wpOp
  rw [hi]
  show if _ then _ else _
  rw [if_pos hw]
  refine .inl ?_
  unfold Oper.wp
  rcases h with ⟨v, w', hx, h1, h2⟩ | ⟨f, args, hx, hc⟩
  · rw [hx, Oper.upon_value]; exact hK v w' h1 h2
  · rw [hx, Oper.upon_enter]
    refine hc.mono fun e w' ⟨v, he, h1, h2⟩ => ?_
    subst he
    exact hK v w' h1 h2

theorem rk_par_aux {fuel : Nat} {listed : Array Bool} {a : Act} {w : World} (S : List (Nat × Tmp)) (Φ : Nat → Value → World → Prop)
    (hb : parB md ops listed S = true) (st : ∀ i v w w', Φ i v w → ρ.r w w' → Φ i v w')
    (hop : ∀ p ∈ S, ∀ oi, ops[p.1]? = some oi → ∀ f W, ρ.r w W → (∀ q ∈ S, reach md ops ops.size p.1 q.1 = true → Φ q.1 (f q.1) W) → Region.wanted oi (yielded ops (fillS S f a).tmps) = true ∧ YldK ρ P oi (fillS S f a) W (Φ p.1))
    (rest : ∀ f W, ρ.r w W → (∀ p ∈ S, Φ p.1 (f p.1) W) → wpAnyK ρ P md ops Q fuel (S.foldl (fun l p => l.setIfInBounds p.1 true) listed) (fillS S f a) W) :
    ∀ (m : Nat) (L : Array Bool) (f : Nat → Value) (W : World), left S L = m → Closed md ops L → L.size = listed.size → (∀ k, (S.map (·.1)).contains k = false → L.getD k false = listed.getD k false) →
      ρ.r w W → (∀ p ∈ S, L.getD p.1 false = true → Φ p.1 (f p.1) W) → wpAnyK ρ P md ops Q (fuel + m) L (fillS S f a) W := by
  unfold parB at hb
  simp only [Bool.and_eq_true, decide_eq_true_eq, List.all_eq_true, List.mem_range] at hb
  obtain ⟨⟨⟨⟨⟨⟨hcl, n1⟩, n2⟩, hsz⟩, hS⟩, hord⟩, hwait⟩ := hb
  intro m
  induction m with
  | zero =>
    intro L f W hl _ hsL hout hx hφ
    have hall : ∀ p ∈ S, L.getD p.1 false = true := by
      intro p hp
      unfold left at hl
      have := List.eq_nil_of_length_eq_zero hl
      rw [List.filter_eq_nil_iff] at this
      have := this p hp
      simpa using this
    have hL : L = S.foldl (fun l p => l.setIfInBounds p.1 true) listed := by
      have key : ∀ (T : List (Nat × Tmp)) (l : Array Bool), (T.foldl (fun l p => l.setIfInBounds p.1 true) l).size = l.size ∧ ∀ k, k < l.size → (T.foldl (fun l p => l.setIfInBounds p.1 true) l).getD k false = (l.getD k false || (T.map (·.1)).contains k) := by
        intro T
        induction T with
        | nil => intro l; exact ⟨rfl, fun k _ => by simp⟩
        | cons p T ih =>
          intro l
          obtain ⟨h1, h2⟩ := ih (l.setIfInBounds p.1 true)
          refine ⟨by rw [List.foldl_cons, h1, Array.size_setIfInBounds], fun k hk => ?_⟩
          rw [List.foldl_cons, h2 k (by rw [Array.size_setIfInBounds]; exact hk), List.map_cons, List.contains_cons]
          by_cases e : p.1 = k
          · subst e
            rw [getD_set_eq false hk]; simp
          · rw [getD_set_ne false e]
            have : (k == p.1) = false := by simp; omega
            rw [this]; simp
      obtain ⟨k1, k2⟩ := key S listed
      apply Array.ext
      · rw [hsL, k1]
      · intro k hk1 hk2
        have hk : k < listed.size := by omega
        have e1 : L[k] = L.getD k false := by simp [hk1]
        have e2 : (S.foldl (fun l p => l.setIfInBounds p.1 true) listed)[k] = (S.foldl (fun l p => l.setIfInBounds p.1 true) listed).getD k false := by simp [hk2]
        rw [e1, e2, k2 k hk]
        cases hc : (S.map (·.1)).contains k with
        | false => rw [hout k hc]; simp
        | true =>
          simp only [List.contains_iff_mem, List.mem_map] at hc
          obtain ⟨p, hp, rfl⟩ := hc
          rw [hall p hp]; simp
    rw [Nat.add_zero, hL]
    exact rest f W hx fun p hp => hφ p hp (hall p hp)
  | succ m ih =>
    intro L f W hl hclL hsL hout hx hφ
    -- the first that has not come up
    have hex : ∃ k, k < S.length ∧ (∃ p, S[k]? = some p ∧ L.getD p.1 false = false) ∧ ∀ j, j < k → ∀ p, S[j]? = some p → L.getD p.1 false = true := by
      have : ∃ k, k < S.length ∧ ∃ p, S[k]? = some p ∧ L.getD p.1 false = false := by
        refine Classical.byContradiction fun h => ?_
        have : S.filter (fun p => !L.getD p.1 false) = [] := by
          rw [List.filter_eq_nil_iff]
          intro p hp
          obtain ⟨k, hk, rfl⟩ := List.getElem_of_mem hp
          intro h2
          exact h ⟨k, hk, _, List.getElem?_eq_getElem hk, by simpa using h2⟩
        unfold left at hl
        rw [this] at hl
        simp at hl
      obtain ⟨k, hk⟩ := this
      induction k using Nat.strongRecOn with
      | ind k ihk =>
        by_cases h : ∃ j, j < k ∧ ∃ p, S[j]? = some p ∧ L.getD p.1 false = false
        · obtain ⟨j, hj, p, hp, hpl⟩ := h
          exact ihk j hj ⟨by omega, p, hp, hpl⟩
        · refine ⟨k, hk.1, hk.2, fun j hj p hp => ?_⟩
          cases hv : L.getD p.1 false with
          | true => rfl
          | false => exact absurd ⟨j, hj, p, hp, hv⟩ h
    have hlS : ∀ k, L.getD k true = false ↔ k < L.size ∧ L.getD k false = false := by
      intro k
      rcases Nat.lt_or_ge k L.size with h | h
      · simp [h]
      · simp [h]
    refine ⟨fun h0 => ?_, fun i hi => ?_⟩
    · exfalso
      obtain ⟨k, hk, ⟨p, hp, hpl⟩, hbef⟩ := hex
      have hpS : p ∈ S := List.mem_of_getElem? hp
      have h1 := hord k hk
      rw [hp] at h1
      simp only [Option.map_some, Option.getD_some] at h1
      have h2 := hS p hpS
      have : p.1 ∈ Region.ready md ops L := by
        rw [mem_ready]
        refine ⟨(hlS _).2 ⟨by omega, hpl⟩, ops[p.1]'(h2.1.1), by simp, fun e he hb => ?_⟩
        rw [Array.getElem?_eq_getElem h2.1.1] at h1
        simp only [Option.map_some, Option.getD_some, Array.all_eq_true] at h1
        obtain ⟨n, hn, rfl⟩ := Array.getElem_of_mem he
        have h3 := h1 n hn
        rw [hb] at h3
        simp only [Bool.not_true, Bool.false_or, Bool.or_eq_true, List.contains_iff_mem, List.mem_map] at h3
        by_cases hc : (S.map (·.1)).contains ((ops[p.1]'(h2.1.1)).after[n]).on = true
        · simp only [List.contains_iff_mem, List.mem_map] at hc
          obtain ⟨q, hq, hqe⟩ := hc
          rcases h3 with h3 | ⟨q', hq', hqe'⟩
          · have h4 := hS q hq
            have h5 : listed.getD q.1 true = false := by simpa using h4.1.2
            rw [hqe] at h5
            rcases Nat.lt_or_ge ((ops[p.1]'(h2.1.1)).after[n]).on listed.size with h6 | h6
            · simp [h6] at h5 h3; rw [h3] at h5; cases h5
            · simp [h6] at h5
          · obtain ⟨j, hj, rfl⟩ := List.getElem_of_mem hq'
            rw [← hqe']
            have hj2 : j < k ∧ j < S.length := by rw [List.length_take] at hj; omega
            refine hbef j hj2.1 _ ?_
            rw [List.getElem_take, List.getElem?_eq_getElem hj2.2]
        · have hc' : (S.map (·.1)).contains ((ops[p.1]'(h2.1.1)).after[n]).on = false := by simpa using hc
          rw [hout _ hc']
          rcases h3 with h3 | ⟨q', hq', hqe'⟩
          · exact h3
          · exfalso; apply hc
            simp only [List.contains_iff_mem, List.mem_map]
            exact ⟨q', List.mem_of_mem_take hq', hqe'⟩
      rw [h0] at this
      cases this
    · obtain ⟨hiu, oi, hoi, hall⟩ := mem_ready.1 hi
      obtain ⟨hisz, hiu'⟩ := (hlS i).1 hiu
      have hiS : (S.map (·.1)).contains i = true := by
        cases hc : (S.map (·.1)).contains i with
        | true => rfl
        | false =>
          exfalso
          have h1 := hwait i (by omega)
          rw [hc, ← hout i hc, hiu'] at h1
          simp only [Bool.false_or, List.all_eq_true] at h1
          obtain ⟨k, hk, ⟨p, hp, hpl⟩, _⟩ := hex
          have h2 := reach_listed hclL _ i oi p.1 hoi hall (h1 p (List.mem_of_getElem? hp))
          rw [hpl] at h2; cases h2
      simp only [List.contains_iff_mem, List.mem_map] at hiS
      obtain ⟨p, hp, rfl⟩ := hiS
      have hdst : oi.dst = some p.2 := by
        have h2 := hS p hp
        rw [hoi] at h2
        simp only [Option.map_some, Option.getD_some, beq_iff_eq] at h2
        exact h2.2
      obtain ⟨hwnt, hy⟩ := hop p hp oi hoi f W hx fun q hq hr => hφ q hq (reach_listed hclL _ p.1 oi q.1 hoi hall hr)
      refine hy.wpOp hoi hwnt fun v W' hxW hv => ⟨.inl hxW, ?_⟩
      rw [hdst, fill_put S f a p v hp n1 n2]
      refine ih _ _ W' ?_ (closed_set hclL hi) (by rw [Array.size_setIfInBounds]; exact hsL) ?_ (ρ.tr hx hxW) ?_
      · have := left_set S L p hp n1 hiu' hisz
        omega
      · intro k hk
        have hne : p.1 ≠ k := fun e => by
          rw [← e] at hk
          have : (S.map (·.1)).contains p.1 = true := by simp only [List.contains_iff_mem, List.mem_map]; exact ⟨p, hp, rfl⟩
          rw [this] at hk; cases hk
        rw [getD_set_ne false hne]; exact hout k hk
      · intro q hq hql
        by_cases hqp : q.1 = p.1
        · rw [hqp]
          unfold updV
          rw [if_pos rfl]
          exact hv
        · unfold updV
          rw [if_neg hqp]
          rw [getD_set_ne false (Ne.symm hqp)] at hql
          exact st _ _ _ _ (hφ q hq hql) hxW

/-- Operations S may come up beside one another, in this order or another one: each is shown once. -/
theorem rk_par {fuel : Nat} {listed : Array Bool} {a : Act} {w : World} (S : List (Nat × Tmp)) (Φ : Nat → Value → World → Prop) (m : Nat)
    (hb : (parB md ops listed S && decide (left S listed = m)) = true) (st : ∀ i v w w', Φ i v w → ρ.r w w' → Φ i v w')
    (hop : ∀ p ∈ S, ∀ oi, ops[p.1]? = some oi → ∀ f W, ρ.r w W → (∀ q ∈ S, reach md ops ops.size p.1 q.1 = true → Φ q.1 (f q.1) W) → Region.wanted oi (yielded ops (fillS S f a).tmps) = true ∧ YldK ρ P oi (fillS S f a) W (Φ p.1))
    (rest : ∀ f W, ρ.r w W → (∀ p ∈ S, Φ p.1 (f p.1) W) → wpAnyK ρ P md ops Q fuel (S.foldl (fun l p => l.setIfInBounds p.1 true) listed) (fillS S f a) W) : wpAnyK ρ P md ops Q (fuel + m) listed a w := by
  obtain ⟨hb1, hb2⟩ := Bool.and_eq_true _ _ ▸ hb
  have hpar := hb1
  unfold parB at hb1
  simp only [Bool.and_eq_true, decide_eq_true_eq, List.all_eq_true] at hb1
  obtain ⟨⟨⟨⟨⟨⟨hcl, n1⟩, n2⟩, hsz⟩, hS⟩, hord⟩, hwait⟩ := hb1
  obtain ⟨f, hf, _⟩ := fill_old S a n1
  have := rk_par_aux (P := P) (Q := Q) (fuel := fuel) (a := a) (w := w) S Φ hpar st hop rest m listed f w (by simpa using hb2) (closed_of hcl) rfl (fun _ _ => rfl) (ρ.refl w) (fun p hp h => by
    have h2 := (hS p hp).1.2
    rcases Nat.lt_or_ge p.1 listed.size with h6 | h6
    · simp [h6] at h2 h; rw [h] at h2; cases h2
    · simp [h6] at h2)
  rwa [hf] at this

end

/-- The blocks below B are as they are, each row is as it is but for its mark. -/
structure Keep (B : Nat) (w w' : World) : Prop where
  below : Below B w w'
  row : ∀ (i : Nat) (cs : Array Value) (t : TypeId) (fr : Nat × Nat), w.heap[i]? = some (Obj.cells cs t fr) → ∃ fr', w'.heap[i]? = some (Obj.cells cs t fr')
theorem Keep.refl (B : Nat) (w : World) : Keep B w w := ⟨Below.refl B w, fun _ _ _ fr h => ⟨fr, h⟩⟩
theorem Keep.tr {B : Nat} {a b c : World} (h : Keep B a b) (k : Keep B b c) : Keep B a c := ⟨h.below.trans k.below, fun i _ _ fr e => by
  obtain ⟨fr', e'⟩ := h.row i _ _ fr e
  exact k.row i _ _ fr' e'⟩
theorem Keep.ext {B : Nat} {a b : World} (h : Ext a b) (hB : B ≤ a.heap.size) : Keep B a b := ⟨h.mono hB, fun i _ _ fr e => ⟨fr, (h.block i (lt_of_heap e)).trans e⟩⟩
def keepW (B : Nat) : Wr := ⟨Keep B, Keep.refl B, Keep.tr⟩
theorem Keep.cell {B : Nat} {w w' : World} (h : Keep B w w') {a : Addr} {v : Value} (hc : w.cell? a = some v) : w'.cell? a = some v := by
  unfold World.cell? at hc ⊢
  split at hc
  · rename_i cs t fr hb
    obtain ⟨fr', e⟩ := h.row _ _ _ _ hb
    rw [e]
    exact hc
  · cases hc
theorem Keep.rd {B size n : Nat} {w w' : World} {A : Option Addr} {xs : List Value} (h : Keep B w w') (hr : Rd w size A n xs) : Rd w' size A n xs := ⟨hr.1, fun hx => by
  obtain ⟨ad, e, hc⟩ := hr.2 hx
  exact ⟨ad, e, fun j u hj => h.cell (hc j u hj)⟩⟩
theorem Keep.rdB {B : Nat} {w w' : World} {A : Option Addr} {bs : List UInt8} (h : Keep B w w') (hr : RdB w A bs) : RdB w' A bs := Keep.rd h hr
theorem IsB.stK {B : Nat} (bs : List UInt8) : ∀ v w w', IsB bs v w → (keepW B).r w w' → IsB bs v w' := fun _ _ _ ⟨A, c, h1, h2, h3⟩ hx => ⟨A, c, h1, Keep.rdB hx h2, h3⟩
/-- '[]byte' of a constant text: the row is marked. -/
theorem run_convMark {P : Program} {t e : TypeId} (ht : P.underlying t = some (.slice e)) (he : P.underlying e = some (.int .u8)) (B : Nat) (w : World) (g n c : Nat) (C : Array Value) (fr : Nat × Nat) (hg : w.heap[g]? = some (.cells C e fr)) (hB : B ≤ g) :
    ∃ w', (convert t t (.slice (some ⟨g, 0, none⟩) n c)).run P w = .ok (.slice (some ⟨g, 0, none⟩) n c) w' ∧ Keep B w w' := by
  have hsh : w.shape? g = some (e, C.size) := by unfold World.shape?; rw [hg]
  refine ⟨_, by simp [convert, run_underlying ht, run_underlying he, markStringish, hsh]; rfl, ?_⟩
  unfold World.freeze
  rw [if_neg (by decide)]
  refine ⟨⟨rfl, rfl, rfl, by simp, fun i hi => ?_⟩, fun i cs t' fr' h => ?_⟩
  · simp only [Array.getElem?_modify]
    rw [if_neg (by omega)]
  · simp only [Array.getElem?_modify]
    by_cases hi : g = i
    · subst hi
      rw [if_pos rfl, h]
      exact ⟨_, rfl⟩
    · rw [if_neg hi]
      exact ⟨fr', h⟩
theorem ex_convK {P : Program} {o : Oper} {a : Act} {w w1 : World} {s d : TypeId} {x : Operand} {v v' : Value} (ho : o.op = .convert s d x) (hx : a.eval x = v) (hr : (convert s d v).run P w = .ok v' w1) : (execOp a.eval o).run P w = .ok (.value v') w1 := by
  unfold execOp
  simp only [ho, hx, Sem.run_bind, hr, Result.andThen_ok, Sem.run_pure]
theorem IsB.rd {bs : List UInt8} {A : Option Addr} {n c : Nat} {w : World} (h : IsB bs (.slice A n c) w) : RdB w A bs := by
  obtain ⟨A', c', e, h2, _⟩ := h
  injection e with e1 _ _
  rw [e1]; exact h2
/-- A row of the region's own with these bytes. -/
def IsLit (B : Nat) (e : TypeId) (bs : List UInt8) (v : Value) (w : World) : Prop := ∃ g fr, v = .slice (some ⟨g, 0, none⟩) bs.length bs.length ∧ B ≤ g ∧ w.heap[g]? = some (.cells (bvs bs).toArray e fr)
theorem IsLit.stK {B : Nat} {e : TypeId} {bs : List UInt8} : ∀ v w w', IsLit B e bs v w → (keepW B).r w w' → IsLit B e bs v w' := fun _ _ _ ⟨g, fr, h1, h2, h3⟩ hx => by
  obtain ⟨fr', h4⟩ := hx.row _ _ _ _ h3
  exact ⟨g, fr', h1, h2, h4⟩
theorem IsLit.isB {B : Nat} {e : TypeId} {bs : List UInt8} {v : Value} {w : World} (h : IsLit B e bs v w) : IsB bs v w := by
  obtain ⟨g, fr, h1, _, h3⟩ := h
  refine ⟨_, _, h1, ⟨by rw [bvs_len]; omega, fun _ => ⟨_, rfl, fun j u hj => ?_⟩⟩, Nat.le_refl _⟩
  rw [Addr.add_lit, cell_of_row w g _ _ _ _ h3]
  simpa using hj
end Go.Proofs.YtkpagmfaccmiaaaGreat
