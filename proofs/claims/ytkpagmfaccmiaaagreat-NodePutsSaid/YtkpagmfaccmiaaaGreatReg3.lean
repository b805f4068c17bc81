
/- A region that draws its order: several operations that may come up beside one another, each shown once, whatever the order (by what is known of each one's value). -/

import Derived.Test.YtkpagmfaccmiaaaGreatReg2

namespace Go.Proofs.YtkpagmfaccmiaaaGreat

open Go.RowKit

section

variable {P : Program} {ops : Array Oper} {md : Region.Mode} {Q : Exit → Act → World → Prop}

/-- What an operation yields: a value of which Φ holds, in a world that has what was there. -/
def Yld (P : Program) (o : Oper) (a : Act) (w : World) (Φ : Value → World → Prop) : Prop :=
  (∃ v w', (execOp a.eval o).run P w = .ok (.value v) w' ∧ Ext w w' ∧ Φ v w') ∨
  (∃ f args, (execOp a.eval o).run P w = .ok (.enter f args) w ∧ Calls P f args w fun e w' => ∃ v, e = .returned v ∧ Ext w w' ∧ Φ v w')
theorem yld_make {o : Oper} {a : Act} {w : World} {Φ : Value → World → Prop} (h : ∃ v w', (execOp a.eval o).run P w = .ok (.value v) w' ∧ Ext w w' ∧ Φ v w') : Yld P o a w Φ := .inl h
theorem yld_quiet {o : Oper} {a : Act} {w : World} {Φ : Value → World → Prop} (h : ∃ v, (execOp a.eval o).run P w = .ok (.value v) w ∧ Φ v w) : Yld P o a w Φ :=
  let ⟨v, h1, h2⟩ := h; .inl ⟨v, w, h1, Ext.refl w, h2⟩
theorem yld_call {o : Oper} {a : Act} {w : World} {Φ : Value → World → Prop} {f : FuncId} {args : Array Value} {R : Ending → World → Prop} (hx : (execOp a.eval o).run P w = .ok (.enter f args) w) (hc : Calls P f args w R)
    (h : ∀ e w', R e w' → ∃ v, e = .returned v ∧ Ext w w' ∧ Φ v w') : Yld P o a w Φ := .inr ⟨f, args, hx, hc.mono h⟩
theorem Yld.wpOp {i : Nat} {oi : Oper} {a : Act} {w : World} {Φ : Value → World → Prop} {K : Act → World → Prop} (hi : ops[i]? = some oi) (hw : Region.wanted oi (yielded ops a.tmps) = true) (h : Yld P oi a w Φ)
    (hK : ∀ v w', Ext w w' → Φ v w' → K (a.put oi.dst v) w') : wpOp P ops Q i K a w := by
  unfold Go.wpOp
  rw [hi]
  show if _ then _ else _
  rw [if_pos hw]
  refine .inl ?_
  unfold Oper.wp
  rcases h with ⟨v, w', hx, h1, h2⟩ | ⟨f, args, hx, hc⟩
  · rw [hx, Oper.upon_value]; exact hK v w' h1 h2
  · rw [hx, Oper.upon_enter]
    refine hc.mono fun e w' ⟨v, he, h1, h2⟩ => ?_
    subst he
    exact hK v w' h1 h2

/-- The frame with these values. -/
def fillS (S : List (Nat × Tmp)) (f : Nat → Value) (a : Act) : Act := S.foldl (fun a p => a.put (some p.2) (f p.1)) a
def updV (f : Nat → Value) (i : Nat) (v : Value) : Nat → Value := fun k => if k = i then v else f k
theorem put_put (a : Act) (d : Tmp) (u v : Value) : (a.put (some d) u).put (some d) v = a.put (some d) v := by
  simp only [Act.put]
  congr 1
  apply Array.ext_getElem?
  intro k
  simp only [Array.getElem?_setIfInBounds, Array.size_setIfInBounds]
  split <;> rfl
theorem fill_put_out (S : List (Nat × Tmp)) (f : Nat → Value) : ∀ (a : Act) (d : Tmp) (v : Value), (∀ p ∈ S, p.2 ≠ d) → (fillS S f a).put (some d) v = fillS S f (a.put (some d) v) := by
  induction S with
  | nil => intro a d v _; rfl
  | cons p S ih =>
    intro a d v h
    show (fillS S f (a.put (some p.2) (f p.1))).put (some d) v = fillS S f ((a.put (some d) v).put (some p.2) (f p.1))
    rw [ih _ d v (fun q hq => h q (List.mem_cons_of_mem _ hq)), Act.put_comm a (f p.1) v (by simpa using (h p (List.mem_cons_self ..)).symm)]
theorem fill_congr (S : List (Nat × Tmp)) (f g : Nat → Value) : ∀ (a : Act), (∀ p ∈ S, f p.1 = g p.1) → fillS S f a = fillS S g a := by
  induction S with
  | nil => intro a _; rfl
  | cons p S ih =>
    intro a h
    show fillS S f (a.put (some p.2) (f p.1)) = fillS S g (a.put (some p.2) (g p.1))
    rw [h p (List.mem_cons_self ..), ih _ (fun q hq => h q (List.mem_cons_of_mem _ hq))]
theorem fill_put (S : List (Nat × Tmp)) (f : Nat → Value) : ∀ (a : Act) (p : Nat × Tmp) (v : Value), p ∈ S → (S.map (·.1)).Nodup → (S.map (·.2)).Nodup → (fillS S f a).put (some p.2) v = fillS S (updV f p.1 v) a := by
  induction S with
  | nil => intro a p v h; cases h
  | cons q S ih =>
    intro a p v h n1 n2
    simp only [List.map_cons, List.nodup_cons, List.mem_map, not_exists, not_and] at n1 n2
    show (fillS S f (a.put (some q.2) (f q.1))).put (some p.2) v = fillS S (updV f p.1 v) (a.put (some q.2) (updV f p.1 v q.1))
    rcases List.mem_cons.1 h with rfl | h
    · rw [fill_put_out S f _ p.2 v (fun q hq => n2.1 q hq), put_put, fill_congr S (updV f p.1 v) f _ (fun q hq => by unfold updV; rw [if_neg (n1.1 q hq)])]
      unfold updV; rw [if_pos rfl]
    · rw [ih _ p v h n1.2 n2.2]
      have : q.1 ≠ p.1 := fun e => n1.1 p h e.symm
      unfold updV; rw [if_neg this]
theorem put_old (a : Act) (d : Tmp) : a.put (some d) (a.tmps.getD d undef) = a := by
  cases a with
  | mk t ds =>
    simp only [Act.put, Act.mk.injEq, and_true]
    apply Array.ext_getElem?
    intro k
    simp only [Array.getElem?_setIfInBounds]
    split
    · rename_i h
      subst h
      split
      · rename_i h2
        simp [h2]
      · rename_i h2
        rw [Array.getElem?_eq_none (by omega)]
    · rfl
theorem fill_old (S : List (Nat × Tmp)) : ∀ (a : Act), (S.map (·.1)).Nodup → ∃ f, fillS S f a = a ∧ ∀ p ∈ S, f p.1 = a.tmps.getD p.2 undef := by
  induction S with
  | nil => intro a _; exact ⟨fun _ => undef, rfl, fun p hp => absurd hp (by simp)⟩
  | cons p S ih =>
    intro a n
    simp only [List.map_cons, List.nodup_cons, List.mem_map, not_exists, not_and] at n
    obtain ⟨f, hf, hv⟩ := ih a n.2
    refine ⟨updV f p.1 (a.tmps.getD p.2 undef), ?_, ?_⟩
    · show fillS S _ (a.put (some p.2) (updV f p.1 _ p.1)) = a
      rw [show updV f p.1 (a.tmps.getD p.2 undef) p.1 = a.tmps.getD p.2 undef by unfold updV; rw [if_pos rfl], put_old, fill_congr S _ f a (fun q hq => by unfold updV; rw [if_neg (n.1 q hq)]), hf]
    · intro q hq
      rcases List.mem_cons.1 hq with rfl | hq
      · unfold updV; rw [if_pos rfl]
      · unfold updV; rw [if_neg (n.1 q hq)]; exact hv q hq

/-- The checks: these operations may come up in this order, the others wait for all of them. -/
def parB (md : Region.Mode) (ops : Array Oper) (listed : Array Bool) (S : List (Nat × Tmp)) : Bool :=
  closedB md ops listed && decide ((S.map (·.1)).Nodup) && decide ((S.map (·.2)).Nodup) && decide (listed.size = ops.size) &&
  (S.all fun p => decide (p.1 < ops.size) && !listed.getD p.1 true && ((ops[p.1]?).map (fun o => o.dst == some p.2)).getD false) &&
  ((List.range S.length).all fun k => ((S[k]?).map fun p => ((ops[p.1]?).map (fun o => o.after.all fun e => !Region.binds md e || listed.getD e.on false || ((S.take k).map (·.1)).contains e.on)).getD false).getD false) &&
  ((List.range ops.size).all fun k => listed.getD k false || (S.map (·.1)).contains k || S.all fun p => reach md ops ops.size k p.1)

theorem getD_set_eq {listed : Array Bool} {i j : Nat} (d : Bool) (h : i < listed.size) : (listed.setIfInBounds i true).getD j d = if i = j then true else listed.getD j d := by
  by_cases hij : i = j
  · subst hij; simp [h]
  · rw [if_neg hij, getD_set_ne d hij]
def left (S : List (Nat × Tmp)) (L : Array Bool) : Nat := (S.filter fun p => !L.getD p.1 false).length
theorem left_set (S : List (Nat × Tmp)) (L : Array Bool) (p : Nat × Tmp) (hp : p ∈ S) (n : (S.map (·.1)).Nodup) (hl : L.getD p.1 false = false) (hs : p.1 < L.size) : left S (L.setIfInBounds p.1 true) + 1 = left S L := by
  unfold left
  induction S with
  | nil => cases hp
  | cons q S ih =>
    simp only [List.map_cons, List.nodup_cons, List.mem_map, not_exists, not_and] at n
    simp only [List.filter_cons]
    rcases List.mem_cons.1 hp with rfl | hp
    · have e : S.filter (fun p_1 => !(L.setIfInBounds p.1 true).getD p_1.1 false) = S.filter fun p => !L.getD p.1 false :=
        List.filter_congr fun q hq => by rw [getD_set_ne false (fun e => n.1 q hq e.symm)]
      rw [e, getD_set_eq false hs, if_pos rfl, hl]
      simp
    · have hne : q.1 ≠ p.1 := fun e => n.1 p hp e.symm
      rw [getD_set_ne false (Ne.symm hne)]
      have := ih hp n.2
      split <;> (try simp only [List.length_cons]) <;> omega

theorem rg_par_aux {fuel : Nat} {listed : Array Bool} {a : Act} {w : World} (S : List (Nat × Tmp)) (Φ : Nat → Value → World → Prop)
    (hb : parB md ops listed S = true) (st : ∀ i v w w', Φ i v w → Ext w w' → Φ i v w')
    (hop : ∀ p ∈ S, ∀ oi, ops[p.1]? = some oi → ∀ f W, Ext w W → (∀ q ∈ S, reach md ops ops.size p.1 q.1 = true → Φ q.1 (f q.1) W) → Region.wanted oi (yielded ops (fillS S f a).tmps) = true ∧ Yld P oi (fillS S f a) W (Φ p.1))
    (rest : ∀ f W, Ext w W → (∀ p ∈ S, Φ p.1 (f p.1) W) → wpAnyR P md ops Q fuel (S.foldl (fun l p => l.setIfInBounds p.1 true) listed) (fillS S f a) W) :
    ∀ (m : Nat) (L : Array Bool) (f : Nat → Value) (W : World), left S L = m → Closed md ops L → L.size = listed.size → (∀ k, (S.map (·.1)).contains k = false → L.getD k false = listed.getD k false) →
      Ext w W → (∀ p ∈ S, L.getD p.1 false = true → Φ p.1 (f p.1) W) → wpAnyR P md ops Q (fuel + m) L (fillS S f a) W := by
  unfold parB at hb
  simp only [Bool.and_eq_true, decide_eq_true_eq, List.all_eq_true, List.mem_range] at hb
  obtain ⟨⟨⟨⟨⟨⟨hcl, n1⟩, n2⟩, hsz⟩, hS⟩, hord⟩, hwait⟩ := hb
  intro m
  induction m with
  | zero =>
    intro L f W hl _ hsL hout hx hφ
    have hall : ∀ p ∈ S, L.getD p.1 false = true := by
      intro p hp
      unfold left at hl
      have := List.eq_nil_of_length_eq_zero hl
      rw [List.filter_eq_nil_iff] at this
      have := this p hp
      simpa using this
    have hL : L = S.foldl (fun l p => l.setIfInBounds p.1 true) listed := by
      have key : ∀ (T : List (Nat × Tmp)) (l : Array Bool), (T.foldl (fun l p => l.setIfInBounds p.1 true) l).size = l.size ∧ ∀ k, k < l.size → (T.foldl (fun l p => l.setIfInBounds p.1 true) l).getD k false = (l.getD k false || (T.map (·.1)).contains k) := by
        intro T
        induction T with
        | nil => intro l; exact ⟨rfl, fun k _ => by simp⟩
        | cons p T ih =>
          intro l
          obtain ⟨h1, h2⟩ := ih (l.setIfInBounds p.1 true)
          refine ⟨by rw [List.foldl_cons, h1, Array.size_setIfInBounds], fun k hk => ?_⟩
          rw [List.foldl_cons, h2 k (by rw [Array.size_setIfInBounds]; exact hk), List.map_cons, List.contains_cons]
          by_cases e : p.1 = k
          · subst e
            rw [getD_set_eq false hk]; simp
          · rw [getD_set_ne false e]
            have : (k == p.1) = false := by simp; omega
            rw [this]; simp
      obtain ⟨k1, k2⟩ := key S listed
      apply Array.ext
      · rw [hsL, k1]
      · intro k hk1 hk2
        have hk : k < listed.size := by omega
        have e1 : L[k] = L.getD k false := by simp [hk1]
        have e2 : (S.foldl (fun l p => l.setIfInBounds p.1 true) listed)[k] = (S.foldl (fun l p => l.setIfInBounds p.1 true) listed).getD k false := by simp [hk2]
        rw [e1, e2, k2 k hk]
        cases hc : (S.map (·.1)).contains k with
        | false => rw [hout k hc]; simp
        | true =>
          simp only [List.contains_iff_mem, List.mem_map] at hc
          obtain ⟨p, hp, rfl⟩ := hc
          rw [hall p hp]; simp
    rw [Nat.add_zero, hL]
    exact rest f W hx fun p hp => hφ p hp (hall p hp)
  | succ m ih =>
    intro L f W hl hclL hsL hout hx hφ
    -- the first that has not come up
    have hex : ∃ k, k < S.length ∧ (∃ p, S[k]? = some p ∧ L.getD p.1 false = false) ∧ ∀ j, j < k → ∀ p, S[j]? = some p → L.getD p.1 false = true := by
      have : ∃ k, k < S.length ∧ ∃ p, S[k]? = some p ∧ L.getD p.1 false = false := by
        refine Classical.byContradiction fun h => ?_
        have : S.filter (fun p => !L.getD p.1 false) = [] := by
          rw [List.filter_eq_nil_iff]
          intro p hp
          obtain ⟨k, hk, rfl⟩ := List.getElem_of_mem hp
          intro h2
          exact h ⟨k, hk, _, List.getElem?_eq_getElem hk, by simpa using h2⟩
        unfold left at hl
        rw [this] at hl
        simp at hl
      obtain ⟨k, hk⟩ := this
      induction k using Nat.strongRecOn with
      | ind k ihk =>
        by_cases h : ∃ j, j < k ∧ ∃ p, S[j]? = some p ∧ L.getD p.1 false = false
        · obtain ⟨j, hj, p, hp, hpl⟩ := h
          exact ihk j hj ⟨by omega, p, hp, hpl⟩
        · refine ⟨k, hk.1, hk.2, fun j hj p hp => ?_⟩
          cases hv : L.getD p.1 false with
          | true => rfl
          | false => exact absurd ⟨j, hj, p, hp, hv⟩ h
    have hlS : ∀ k, L.getD k true = false ↔ k < L.size ∧ L.getD k false = false := by
      intro k
      rcases Nat.lt_or_ge k L.size with h | h
      · simp [h]
      · simp [h]
    refine ⟨fun h0 => ?_, fun i hi => ?_⟩
    · exfalso
      obtain ⟨k, hk, ⟨p, hp, hpl⟩, hbef⟩ := hex
      have hpS : p ∈ S := List.mem_of_getElem? hp
      have h1 := hord k hk
      rw [hp] at h1
      simp only [Option.map_some, Option.getD_some] at h1
      have h2 := hS p hpS
      have : p.1 ∈ Region.ready md ops L := by
        rw [mem_ready]
        refine ⟨(hlS _).2 ⟨by omega, hpl⟩, ops[p.1]'(h2.1.1), by simp, fun e he hb => ?_⟩
        rw [Array.getElem?_eq_getElem h2.1.1] at h1
        simp only [Option.map_some, Option.getD_some, Array.all_eq_true] at h1
        obtain ⟨n, hn, rfl⟩ := Array.getElem_of_mem he
        have h3 := h1 n hn
        rw [hb] at h3
        simp only [Bool.not_true, Bool.false_or, Bool.or_eq_true, List.contains_iff_mem, List.mem_map] at h3
        by_cases hc : (S.map (·.1)).contains ((ops[p.1]'(h2.1.1)).after[n]).on = true
        · simp only [List.contains_iff_mem, List.mem_map] at hc
          obtain ⟨q, hq, hqe⟩ := hc
          rcases h3 with h3 | ⟨q', hq', hqe'⟩
          · have h4 := hS q hq
            have h5 : listed.getD q.1 true = false := by simpa using h4.1.2
            rw [hqe] at h5
            rcases Nat.lt_or_ge ((ops[p.1]'(h2.1.1)).after[n]).on listed.size with h6 | h6
            · simp [h6] at h5 h3; rw [h3] at h5; cases h5
            · simp [h6] at h5
          · obtain ⟨j, hj, rfl⟩ := List.getElem_of_mem hq'
            rw [← hqe']
            have hj2 : j < k ∧ j < S.length := by rw [List.length_take] at hj; omega
            refine hbef j hj2.1 _ ?_
            rw [List.getElem_take, List.getElem?_eq_getElem hj2.2]
        · have hc' : (S.map (·.1)).contains ((ops[p.1]'(h2.1.1)).after[n]).on = false := by simpa using hc
          rw [hout _ hc']
          rcases h3 with h3 | ⟨q', hq', hqe'⟩
          · exact h3
          · exfalso; apply hc
            simp only [List.contains_iff_mem, List.mem_map]
            exact ⟨q', List.mem_of_mem_take hq', hqe'⟩
      rw [h0] at this
      cases this
    · obtain ⟨hiu, oi, hoi, hall⟩ := mem_ready.1 hi
      obtain ⟨hisz, hiu'⟩ := (hlS i).1 hiu
      have hiS : (S.map (·.1)).contains i = true := by
        cases hc : (S.map (·.1)).contains i with
        | true => rfl
        | false =>
          exfalso
          have h1 := hwait i (by omega)
          rw [hc, ← hout i hc, hiu'] at h1
          simp only [Bool.false_or, List.all_eq_true] at h1
          obtain ⟨k, hk, ⟨p, hp, hpl⟩, _⟩ := hex
          have h2 := reach_listed hclL _ i oi p.1 hoi hall (h1 p (List.mem_of_getElem? hp))
          rw [hpl] at h2; cases h2
      simp only [List.contains_iff_mem, List.mem_map] at hiS
      obtain ⟨p, hp, rfl⟩ := hiS
      have hdst : oi.dst = some p.2 := by
        have h2 := hS p hp
        rw [hoi] at h2
        simp only [Option.map_some, Option.getD_some, beq_iff_eq] at h2
        exact h2.2
      obtain ⟨hwnt, hy⟩ := hop p hp oi hoi f W hx fun q hq hr => hφ q hq (reach_listed hclL _ p.1 oi q.1 hoi hall hr)
      refine hy.wpOp hoi hwnt fun v W' hxW hv => ⟨.inl hxW, ?_⟩
      rw [hdst, fill_put S f a p v hp n1 n2]
      refine ih _ _ W' ?_ (closed_set hclL hi) (by rw [Array.size_setIfInBounds]; exact hsL) ?_ (Ext.tr hx hxW) ?_
      · have := left_set S L p hp n1 hiu' hisz
        omega
      · intro k hk
        have hne : p.1 ≠ k := fun e => by
          rw [← e] at hk
          have : (S.map (·.1)).contains p.1 = true := by simp only [List.contains_iff_mem, List.mem_map]; exact ⟨p, hp, rfl⟩
          rw [this] at hk; cases hk
        rw [getD_set_ne false hne]; exact hout k hk
      · intro q hq hql
        by_cases hqp : q.1 = p.1
        · rw [hqp]
          unfold updV
          rw [if_pos rfl]
          exact hv
        · unfold updV
          rw [if_neg hqp]
          rw [getD_set_ne false (Ne.symm hqp)] at hql
          exact st _ _ _ _ (hφ q hq hql) hxW

/-- Operations S may come up beside one another, in this order or another one: each is shown once. -/
theorem rg_par {fuel : Nat} {listed : Array Bool} {a : Act} {w : World} (S : List (Nat × Tmp)) (Φ : Nat → Value → World → Prop) (m : Nat)
    (hb : (parB md ops listed S && decide (left S listed = m)) = true) (st : ∀ i v w w', Φ i v w → Ext w w' → Φ i v w')
    (hop : ∀ p ∈ S, ∀ oi, ops[p.1]? = some oi → ∀ f W, Ext w W → (∀ q ∈ S, reach md ops ops.size p.1 q.1 = true → Φ q.1 (f q.1) W) → Region.wanted oi (yielded ops (fillS S f a).tmps) = true ∧ Yld P oi (fillS S f a) W (Φ p.1))
    (rest : ∀ f W, Ext w W → (∀ p ∈ S, Φ p.1 (f p.1) W) → wpAnyR P md ops Q fuel (S.foldl (fun l p => l.setIfInBounds p.1 true) listed) (fillS S f a) W) : wpAnyR P md ops Q (fuel + m) listed a w := by
  obtain ⟨hb1, hb2⟩ := Bool.and_eq_true _ _ ▸ hb
  have hpar := hb1
  unfold parB at hb1
  simp only [Bool.and_eq_true, decide_eq_true_eq, List.all_eq_true] at hb1
  obtain ⟨⟨⟨⟨⟨⟨hcl, n1⟩, n2⟩, hsz⟩, hS⟩, hord⟩, hwait⟩ := hb1
  obtain ⟨f, hf, _⟩ := fill_old S a n1
  have := rg_par_aux (P := P) (Q := Q) (fuel := fuel) (a := a) (w := w) S Φ hpar st hop rest m listed f w (by simpa using hb2) (closed_of hcl) rfl (fun _ _ => rfl) (Ext.refl w) (fun p hp h => by
    have h2 := (hS p hp).1.2
    rcases Nat.lt_or_ge p.1 listed.size with h6 | h6
    · simp [h6] at h2 h; rw [h] at h2; cases h2
    · simp [h6] at h2)
  rwa [hf] at this

/-- Two of them, neither of which waits for the other. -/
theorem rg_par2 {fuel : Nat} {listed : Array Bool} {a : Act} {w : World} (i : Nat) (ti : Tmp) (Φ : Value → World → Prop) (j : Nat) (tj : Tmp) (Ψ : Value → World → Prop) (oi oj : Oper) (hi : ops.toList[i]? = some oi) (hj : ops.toList[j]? = some oj)
    (hb : (parB md ops listed [(i, ti), (j, tj)] && decide (left [(i, ti), (j, tj)] listed = 2)) = true) (sΦ : ∀ v w w', Φ v w → Ext w w' → Φ v w') (sΨ : ∀ v w w', Ψ v w → Ext w w' → Ψ v w')
    (hwi : ∀ v u, Region.wanted oi (yielded ops ((a.put (some ti) v).put (some tj) u).tmps) = true) (hwj : ∀ v u, Region.wanted oj (yielded ops ((a.put (some ti) v).put (some tj) u).tmps) = true)
    (hyi : ∀ v u W, Ext w W → Yld P oi ((a.put (some ti) v).put (some tj) u) W Φ) (hyj : ∀ v u W, Ext w W → Yld P oj ((a.put (some ti) v).put (some tj) u) W Ψ)
    (rest : ∀ v u W, Ext w W → Φ v W → Ψ u W → wpAnyR P md ops Q fuel ((listed.setIfInBounds i true).setIfInBounds j true) ((a.put (some ti) v).put (some tj) u) W) : wpAnyR P md ops Q (fuel + 2) listed a w := by
  have hij : i ≠ j := by
    have h := (Bool.and_eq_true _ _ ▸ hb).1
    unfold parB at h
    simp only [Bool.and_eq_true, decide_eq_true_eq, List.map_cons, List.map_nil, List.nodup_cons, List.mem_singleton] at h
    exact h.1.1.1.1.1.2.1
  have hi' : ops[i]? = some oi := by rw [← hi]; simp
  have hj' : ops[j]? = some oj := by rw [← hj]; simp
  refine rg_par [(i, ti), (j, tj)] (fun k v w => (k = i → Φ v w) ∧ (k = j → Ψ v w)) 2 hb (fun k v w w' h hx => ⟨fun e => sΦ _ _ _ (h.1 e) hx, fun e => sΨ _ _ _ (h.2 e) hx⟩) ?_ ?_
  · intro p hp o ho f W hx _
    simp only [List.mem_cons, List.not_mem_nil, or_false] at hp
    rcases hp with rfl | rfl
    · simp only at ho
      rw [hi'] at ho; injection ho with ho; subst ho
      refine ⟨hwi _ _, ?_⟩
      rcases hyi (f i) (f j) W hx with ⟨v, w', h1, h2, h3⟩ | ⟨g, args, h1, h2⟩
      · exact .inl ⟨v, w', h1, h2, fun _ => h3, fun e => absurd e hij⟩
      · exact .inr ⟨g, args, h1, h2.mono fun e w' ⟨v, h3, h4, h5⟩ => ⟨v, h3, h4, fun _ => h5, fun e => absurd e hij⟩⟩
    · simp only at ho
      rw [hj'] at ho; injection ho with ho; subst ho
      refine ⟨hwj _ _, ?_⟩
      rcases hyj (f i) (f j) W hx with ⟨v, w', h1, h2, h3⟩ | ⟨g, args, h1, h2⟩
      · exact .inl ⟨v, w', h1, h2, fun e => absurd e.symm hij, fun _ => h3⟩
      · exact .inr ⟨g, args, h1, h2.mono fun e w' ⟨v, h3, h4, h5⟩ => ⟨v, h3, h4, fun e => absurd e.symm hij, fun _ => h5⟩⟩
  · intro f W hx hφ
    exact rest (f i) (f j) W hx ((hφ (i, ti) (by simp)).1 rfl) ((hφ (j, tj) (by simp)).2 rfl)
end

/-- A slice that reads as these bytes. -/
def IsB (bs : List UInt8) (v : Value) (w : World) : Prop := ∃ A c, v = .slice A bs.length c ∧ RdB w A bs ∧ bs.length ≤ c
theorem IsB.st (bs : List UInt8) : ∀ v w w', IsB bs v w → Ext w w' → IsB bs v w' := fun _ _ _ ⟨A, c, h1, h2, h3⟩ hx => ⟨A, c, h1, h2.below hx, h3⟩
/-- One of the call's own (from block B on). -/
def IsO (B : Nat) (e : TypeId) (bs : List UInt8) (v : Value) (w : World) : Prop := ∃ A c, v = .slice A bs.length c ∧ Own w B e 1 A bs.length c (bvs bs)
theorem IsO.st (B : Nat) (e : TypeId) (bs : List UInt8) : ∀ v w w', IsO B e bs v w → Ext w w' → IsO B e bs v w' := fun _ _ _ ⟨A, c, h1, h2⟩ hx => ⟨A, c, h1, h2.below hx⟩
/-- Append to a slice without room. -/
theorem yld_app0 {P : Program} {o : Oper} {a : Act} {w : World} {Φ : Value → World → Prop} (s x : Operand) (t : TypeId) (ho : o.op = .call { callee := .builtin .append, args := #[s, x], argTypes := #[t, t] })
    {e : TypeId} {size bytes : Nat} (T : ElemT P t e size bytes) (A : Option Addr) (hs : a.eval s = .slice A 0 0) (A2 : Option Addr) (m c2 : Nat) (ys : List Value) (hx : a.eval x = .slice A2 m c2) (hr : Rd w size A2 m ys) (h1 : ∀ u ∈ ys, u.oneCell' = true)
    (hbytes : m * bytes ≤ 140737488355328) (h63 : m ≤ 140737488355328)
    (h : ∀ A' c' w', Own w' w.heap.size e size A' m c' ys → Ext w w' → Φ (.slice A' m c') w') : Yld P o a w Φ := by
  obtain ⟨i, z, g1, g2, g3, g4, g5⟩ := T.hi
  obtain ⟨A', c', w', hrun, h2, h3, h4⟩ := run_app (P := P) w w.heap.size t o.type e i z size bytes T.ht g1 g2 g3 g4 g5 T.pos A 0 0 [] (Own.none_ _ _ _ _ _) A2 m c2 ys hr h1 (by unfold maxLen; omega) (by rw [Nat.zero_add]; exact hbytes) (Nat.le_refl _)
  have hE : Ext w w' := grown_none (by simpa [ownRow] using h3)
  refine .inl ⟨.slice A' m c', w', ?_, hE, ?_⟩
  · unfold execOp
    simp only [ho, resolve, invoke, builtin, Sem.run_bind, Sem.run_pure, Result.andThen_ok, List.map_toArray, List.map_cons, List.map_nil, hs, hx, hrun, Nat.zero_add]
  · simp only [Nat.zero_add, List.nil_append] at h2
    exact h A' c' w' h2 hE
theorem IsV.st (x : Value) : ∀ v (w w' : World), v = x → Ext w w' → v = x := fun _ _ _ h _ => h
end Go.Proofs.YtkpagmfaccmiaaaGreat
