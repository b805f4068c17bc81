
/- Maps from ints to slices of ints, made by the call itself: look-up, store, a list in a map that grows. -/

import Derived.Test.YtnagbhaknmoilaaSgnSmall

import Derived.Maps.OwnRows

namespace Go.Proofs.Ytnagbhaknmoilaa

open Go.RowKit

open Go.Maps

open Go.ChangeMaps

/-- What a store makes of a map's entries. -/
def Upd (l l' : List MapEntry) (key val : Value) : Prop :=
  (∃ b, l' = l ++ [⟨key, val, b⟩] ∧ ∀ e ∈ l, e.key ≠ key) ∨ ∃ j e0, l[j]? = some e0 ∧ e0.key = key ∧ l' = l.set j { e0 with key := key, val := val }
def Keys (q : IntKind) (l : List MapEntry) : Prop := (∀ e ∈ l, ∃ a : Int, e.key = .int q a ∧ (Lit.int q a).wf = true) ∧ (l.map (·.key)).Nodup
section

variable {P : Program} {w : World} {t kt et : TypeId} {q : IntKind} {g : Nat} {es : Array MapEntry} {clock : Nat} {z : Value}

theorem keys_lit (hk : P.underlying kt = some (.int q)) (h : Keys q es.toList) : ∀ e ∈ es.toList, ∃ l, keyOf P kt e.key = some l := fun e he => by
  obtain ⟨a, h1, h2⟩ := h.1 e he
  exact ⟨_, by rw [h1]; exact keyOf_int_mk hk h2⟩
theorem run_lookI (ht : P.underlying t = some (.map kt et)) (hk : P.underlying kt = some (.int q)) (hz : (zeroValue et).run P w = .ok z w) (hb : w.heap[g]? = some (.map es clock)) (hK : Keys q es.toList) (a : Int) (ha : (Lit.int q a).wf = true) :
    ((Instr.lookup t (.map (some g)) (.int q a) false).run P w = .ok z w ∧ ∀ e ∈ es.toList, e.key ≠ .int q a) ∨ ∃ e0 ∈ es.toList, e0.key = .int q a ∧ (Instr.lookup t (.map (some g)) (.int q a) false).run P w = .ok e0.val w := by
  have K : Keyed P kt := int_keyed hk
  have hkey := keyOf_int_mk (P := P) hk ha
  rcases K.find w hkey es.toList (keys_lit hk hK) with ⟨h1, h2⟩ | ⟨j, e0, h1, h2, h3⟩
  · exact .inl ⟨by simp [Instr.lookup, run_underlying ht, MapKept.run_getObj_map hb, K.check w _ hkey, h1, hz, Result.andThen], h2⟩
  · exact .inr ⟨e0, List.mem_of_getElem? h2, h3, by simp [Instr.lookup, run_underlying ht, MapKept.run_getObj_map hb, K.check w _ hkey, h1, Result.andThen]⟩
theorem run_updI (ht : P.underlying t = some (.map kt et)) (hk : P.underlying kt = some (.int q)) (hb : w.heap[g]? = some (.map es clock)) (hK : Keys q es.toList) (a : Int) (ha : (Lit.int q a).wf = true) (val : Value) :
    ∃ es' clock', (Instr.mapUpdate t (.map (some g)) (.int q a) val).run P w = .ok () (setBlock w g (.map es' clock')) ∧ Upd es.toList es'.toList (.int q a) val := by
  have K : Keyed P kt := int_keyed hk
  have hkey := keyOf_int_mk (P := P) hk ha
  rcases K.find w hkey es.toList (keys_lit hk hK) with ⟨h1, h2⟩ | ⟨j, e0, h1, h2, h3⟩
  · refine ⟨es.push ⟨.int q a, val, clock⟩, clock + 1, ?_, .inl ⟨clock, by simp, h2⟩⟩
    simp [Instr.mapUpdate, run_underlying ht, MapKept.run_getObj_map hb, K.check w false hkey, h1, MapKept.run_setObj_map _ hb, Result.andThen, setBlock]
  · have hj : es[j]? = some e0 := by simpa using h2
    refine ⟨es.modify j (fun e' => { e' with key := .int q a, val := val }), clock, ?_, .inr ⟨j, e0, h2, h3, ?_⟩⟩
    · simp [Instr.mapUpdate, run_underlying ht, MapKept.run_getObj_map hb, K.check w false hkey, h1, hj, h3, K.stays w hkey, MapKept.run_setObj_map _ hb, Result.andThen, setBlock]
    · rw [Array.toList_modify]
      apply List.ext_getElem?
      intro i
      rw [List.getElem?_modify, List.getElem?_set]
      by_cases hij : j = i
      · subst hij
        have hjl := (List.getElem?_eq_some_iff.1 h2).1
        have hjs : j < es.size := by simpa using hjl
        have e1 := (Array.getElem?_eq_some_iff.1 hj).2
        simp [hjs, e1]
      · rw [if_neg hij]
        simp [hij]
end

theorem Upd.keys {q : IntKind} {l l' : List MapEntry} {a : Int} {val : Value} (h : Upd l l' (.int q a) val) (hK : Keys q l) (ha : (Lit.int q a).wf = true) : Keys q l' := by
  rcases h with ⟨b, rfl, h2⟩ | ⟨j, e0, h1, h2, rfl⟩
  · refine ⟨fun e he => ?_, ?_⟩
    · rcases List.mem_append.1 he with h | h
      · exact hK.1 e h
      · simp at h; subst h; exact ⟨a, rfl, ha⟩
    · rw [List.map_append, List.nodup_append]
      refine ⟨hK.2, by simp, ?_⟩
      intro x hx y hy
      simp at hy
      subst hy
      obtain ⟨e, he, rfl⟩ := List.mem_map.1 hx
      exact h2 e he
  · refine ⟨fun e he => ?_, ?_⟩
    · rcases List.mem_or_eq_of_mem_set he with h | h
      · exact hK.1 e h
      · subst h; exact ⟨a, rfl, ha⟩
    · rw [List.map_set]
      have : (l.map (·.key)).set j (Value.int q a) = l.map (·.key) := by
        apply List.ext_getElem?
        intro i
        rw [List.getElem?_set]
        split
        · rename_i hij
          subst hij
          have hjl := (List.getElem?_eq_some_iff.1 h1).1
          have e1 := (List.getElem?_eq_some_iff.1 h1).2
          rw [if_pos (by simpa using hjl), List.getElem?_map, h1]
          simp [h2]
        · rfl
      simp only
      rw [this]
      exact hK.2
theorem Upd.mem {l l' : List MapEntry} {key val : Value} (h : Upd l l' key val) (hn : (l.map (·.key)).Nodup) : ∀ x ∈ l', (x ∈ l ∧ x.key ≠ key) ∨ (x.key = key ∧ x.val = val) := by
  intro x hx
  rcases h with ⟨b, rfl, h2⟩ | ⟨j, e0, h1, h2, rfl⟩
  · rcases List.mem_append.1 hx with h | h
    · exact .inl ⟨h, h2 x h⟩
    · simp at h; subst h; exact .inr ⟨rfl, rfl⟩
  · obtain ⟨i, hi, ex⟩ := List.getElem_of_mem hx
    rw [List.getElem_set] at ex
    split at ex
    · subst ex; exact .inr ⟨rfl, rfl⟩
    · rename_i hne
      have hi' : i < l.length := by simpa using hi
      refine .inl ⟨ex ▸ List.getElem_mem hi', fun e => hne ?_⟩
      have hjl := (List.getElem?_eq_some_iff.1 h1).1
      have e1 : (l.map (·.key))[j]'(by simpa using hjl) = (l.map (·.key))[i]'(by simpa using hi') := by
        rw [List.getElem_map, List.getElem_map, ex, e, (List.getElem?_eq_some_iff.1 h1).2, h2]
      have hp := List.pairwise_iff_getElem.1 hn
      rcases Nat.lt_trichotomy j i with hlt | heq | hlt
      · exact absurd e1 (hp j i (by simpa using hjl) (by simpa using hi') hlt)
      · exact heq
      · exact absurd e1.symm (hp i j (by simpa using hi') (by simpa using hjl) hlt)
theorem Upd.keep {l l' : List MapEntry} {key val : Value} (h : Upd l l' key val) : ∀ x ∈ l, x.key ≠ key → x ∈ l' := by
  intro x hx hne
  rcases h with ⟨b, rfl, h2⟩ | ⟨j, e0, h1, h2, rfl⟩
  · exact List.mem_append_left _ hx
  · obtain ⟨i, hi, rfl⟩ := List.getElem_of_mem hx
    have hij : j ≠ i := fun e => by
      subst e
      rw [(List.getElem?_eq_some_iff.1 h1).2] at hne
      exact hne h2
    have : (l.set j { e0 with key := key, val := val })[i]'(by simpa using hi) = l[i] := by rw [List.getElem_set, if_neg hij]
    rw [← this]
    exact List.getElem_mem _
theorem Upd.has {l l' : List MapEntry} {key val : Value} (h : Upd l l' key val) : ∃ x ∈ l', x.key = key := by
  rcases h with ⟨b, rfl, h2⟩ | ⟨j, e0, h1, h2, rfl⟩
  · exact ⟨⟨key, val, b⟩, List.mem_append_right _ (by simp), rfl⟩
  · have hjl := (List.getElem?_eq_some_iff.1 h1).1
    exact ⟨_, List.mem_set hjl _, rfl⟩

/-! ### lists of ints in a map -/

def vrow : Value → Option Nat
  | .slice A _ c => ownRow A c
  | _ => none
/-- Block g is a map from ints to slices of ints of the call's own, each with a row of its own; f: what they hold. -/
structure MG (w : World) (g : Nat) (q : IntKind) (B : Nat) (f : Int → List Int) (es : Array MapEntry) (clock : Nat) : Prop where
  row : w.heap[g]? = some (.map es clock)
  keys : Keys q es.toList
  lists : ∀ e ∈ es.toList, ∀ a, e.key = .int q a → ∃ A c, e.val = .slice A (f a).length c ∧ Own w B 3 1 A (f a).length c (ivs (f a))
  none_ : ∀ a, (∀ e ∈ es.toList, e.key ≠ .int q a) → f a = []
  apart : ∀ e ∈ es.toList, ∀ e' ∈ es.toList, e.key ≠ e'.key → ∀ r, vrow e.val = some r → vrow e'.val ≠ some r
/-- As MG, but the lists are only read; no row of them lies below B. -/
structure MR (w : World) (g : Nat) (q : IntKind) (B : Nat) (f : Int → List Int) (es : Array MapEntry) (clock : Nat) : Prop where
  row : w.heap[g]? = some (.map es clock)
  keys : Keys q es.toList
  lists : ∀ e ∈ es.toList, ∀ a, e.key = .int q a → ∃ A c, e.val = .slice A (f a).length c ∧ RdI w A (f a) ∧ ∀ ad, A = some ad → f a ≠ [] → B ≤ ad.block
  none_ : ∀ a, (∀ e ∈ es.toList, e.key ≠ .int q a) → f a = []
/-- Only blocks of S turn. -/
structure Turn (S : Nat → Prop) (w w' : World) : Prop where
  os : w'.os = w.os
  tape : w'.tape = w.tape
  output : w'.output = w.output
  size : w.heap.size ≤ w'.heap.size
  block : ∀ i, i < w.heap.size → ¬ S i → w'.heap[i]? = w.heap[i]?
theorem Turn.refl (S : Nat → Prop) (w : World) : Turn S w w := ⟨rfl, rfl, rfl, Nat.le_refl _, fun _ _ _ => rfl⟩
theorem Turn.tr {S : Nat → Prop} {a b c : World} (h : Turn S a b) (k : Turn S b c) : Turn S a c := ⟨k.os.trans h.os, k.tape.trans h.tape, k.output.trans h.output, Nat.le_trans h.size k.size, fun i hi hn => (k.block i (Nat.lt_of_lt_of_le hi h.size) hn).trans (h.block i hi hn)⟩
theorem Turn.mono {S T : Nat → Prop} {a b : World} (h : Turn S a b) (hs : ∀ i, S i → i < a.heap.size → T i) : Turn T a b := ⟨h.os, h.tape, h.output, h.size, fun i hi hn => h.block i hi (fun e => hn (hs i e hi))⟩
theorem Turn.ext {S : Nat → Prop} {a b : World} (h : Ext a b) : Turn S a b := ⟨h.os, h.tape, h.output, h.size, fun i hi _ => h.block i hi⟩
theorem Turn.grown {S : Nat → Prop} {a b : World} {k : Nat} (h : a.grownBy b (some k)) (hk : S k) : Turn S a b := ⟨h.os, h.tape, h.output, h.size, fun i hi hn => h.block i hi (fun e => by injection e with e; exact hn (e ▸ hk))⟩
theorem Turn.below {S : Nat → Prop} {a b : World} {B : Nat} (h : Turn S a b) (hB : B ≤ a.heap.size) (hs : ∀ i, S i → B ≤ i) : Below B a b := ⟨h.os, h.tape, h.output, h.size, fun i hi => h.block i (by omega) (fun e => by have := hs i e; omega)⟩
section

variable {w w' : World} {g B : Nat} {q : IntKind} {f : Int → List Int} {es : Array MapEntry} {clock : Nat}

theorem MG.new (w : World) (q : IntKind) (B : Nat) : MG (w.alloc (.map #[] 0)) w.heap.size q B (fun _ => []) #[] 0 :=
  ⟨heap_alloc_new w _, ⟨by simp, by simp⟩, by simp, fun _ _ => rfl, by simp⟩
theorem MG.ext (h : MG w g q B f es clock) (hx : Ext w w') : MG w' g q B f es clock :=
  ⟨(hx.block _ (lt_of_heap h.row)).trans h.row, h.keys, fun e he a hk => by obtain ⟨A, c, h1, h2⟩ := h.lists e he a hk; exact ⟨A, c, h1, h2.below hx⟩, h.none_, h.apart⟩
/-- Block k, which is no row of ints, turns. -/
theorem MG.other (h : MG w g q B f es clock) {k : Nat} (hg : w.grownBy w' (some k)) (hk : k ≠ g) (hn : ∀ cur, w.heap[k]? ≠ some (.cells cur 3 (0, 0))) : MG w' g q B f es clock :=
  ⟨(hg.block _ (lt_of_heap h.row) (fun e => hk (by injection e with e; exact e.symm))).trans h.row, h.keys, fun e he a ha => by
    obtain ⟨A, c, h1, h2⟩ := h.lists e he a ha
    refine ⟨A, c, h1, h2.kept hg fun r hr e => ?_⟩
    injection e with e
    subst e
    obtain ⟨cur, hc⟩ := h2.row_is hr
    exact hn cur hc, h.none_, h.apart⟩
theorem MG.look {P : Program} {t kt et : TypeId} (h : MG w g q B f es clock) (ht : P.underlying t = some (.map kt et)) (hk : P.underlying kt = some (.int q)) (hz : (zeroValue et).run P w = .ok (.slice none 0 0) w) (a : Int) (ha : (Lit.int q a).wf = true) :
    ∃ A c, (Instr.lookup t (.map (some g)) (.int q a) false).run P w = .ok (.slice A (f a).length c) w ∧ Own w B 3 1 A (f a).length c (ivs (f a)) ∧
      (∀ e ∈ es.toList, e.key ≠ .int q a → ∀ r, ownRow A c = some r → vrow e.val ≠ some r) := by
  rcases run_lookI ht hk hz h.row h.keys a ha with ⟨h1, h2⟩ | ⟨e0, h1, h2, h3⟩
  · rw [h.none_ a h2]
    exact ⟨none, 0, h1, Own.none_ _ _ _ _ _, fun e _ _ r hr => by simp [ownRow] at hr⟩
  · obtain ⟨A, c, h4, h5⟩ := h.lists e0 h1 a h2
    refine ⟨A, c, by rw [h3, h4], h5, fun e he hne r hr => ?_⟩
    exact h.apart e0 h1 e he (by rw [h2]; exact fun e => hne e.symm) r (by rw [h4]; exact hr)
/-- A list of the map, longer by what was appended, is put back. -/
theorem MG.put {P : Program} {t kt et : TypeId} (h : MG w g q B f es clock) (ht : P.underlying t = some (.map kt et)) (hk : P.underlying kt = some (.int q)) (a : Int) (ha : (Lit.int q a).wf = true) {A A' : Option Addr} {c c' n : Nat} {l : List Int}
    (hg : w.grownBy w' (ownRow A c)) (hrow : ∃ cur, ∀ r, ownRow A c = some r → w.heap[r]? = some (.cells cur 3 (0, 0))) (hap : ∀ e ∈ es.toList, e.key ≠ .int q a → ∀ r, ownRow A c = some r → vrow e.val ≠ some r)
    (hn : n = l.length) (ho : Own w' B 3 1 A' n c' (ivs l)) (hr : ownRow A' c' = ownRow A c ∨ ∀ r, ownRow A' c' = some r → w.heap.size ≤ r) (f' : Int → List Int) (hf : ∀ b, f' b = if b = a then l else f b) :
    ∃ es' clock', (Instr.mapUpdate t (.map (some g)) (.int q a) (.slice A' n c')).run P w' = .ok () (setBlock w' g (.map es' clock')) ∧ MG (setBlock w' g (.map es' clock')) g q B f' es' clock' := by
  subst hn
  obtain ⟨cur, hcur⟩ := hrow
  have hgr : w'.heap[g]? = some (.map es clock) := (hg.block _ (lt_of_heap h.row) (fun e => by have := hcur g e.symm; rw [h.row] at this; cases this)).trans h.row
  obtain ⟨es', clock', hrun, hU⟩ := run_updI (P := P) ht hk hgr h.keys a ha (.slice A' l.length c')
  have hgl := lt_of_heap hgr
  have hset : w'.grownBy (setBlock w' g (.map es' clock')) (some g) := ⟨rfl, rfl, rfl, by simp [setBlock], fun i _ hi => by
    show (w'.heap.setIfInBounds g _)[i]? = _
    rw [Array.getElem?_setIfInBounds_ne (fun e => hi (by rw [e]))]⟩
  have keepO : ∀ {A : Option Addr} {n c : Nat} {xs : List Value}, Own w' B 3 1 A n c xs → Own (setBlock w' g (.map es' clock')) B 3 1 A n c xs := fun ho => ho.kept hset fun r hr e => by
    injection e with e
    subst e
    obtain ⟨cur, hc⟩ := ho.row_is hr
    rw [hgr] at hc
    cases hc
  have keepE : ∀ e ∈ es.toList, e.key ≠ .int q a → ∀ b, e.key = .int q b → ∃ A c, e.val = .slice A (f b).length c ∧ Own w' B 3 1 A (f b).length c (ivs (f b)) := fun e he hne b hb => by
    obtain ⟨A1, c1, h1, h2⟩ := h.lists e he b hb
    refine ⟨A1, c1, h1, h2.kept hg fun r hr e2 => ?_⟩
    exact hap e he hne r e2.symm (by rw [h1]; exact hr)
  refine ⟨es', clock', hrun, ?_, hU.keys h.keys ha, ?_, ?_, ?_⟩
  · show (w'.heap.setIfInBounds g _)[g]? = _
    rw [Array.getElem?_setIfInBounds_self_of_lt hgl]
  · intro e he b hb
    rw [hf b]
    rcases hU.mem h.keys.2 e he with ⟨h1, h2⟩ | ⟨h1, h2⟩
    · have hba : b ≠ a := fun e2 => h2 (by rw [hb, e2])
      rw [if_neg hba]
      obtain ⟨A1, c1, h3, h4⟩ := keepE e h1 h2 b hb
      exact ⟨A1, c1, h3, keepO h4⟩
    · have hba : b = a := by rw [hb] at h1; injection h1
      rw [if_pos hba]
      exact ⟨A', c', h2, keepO ho⟩
  · intro b hb
    rw [hf b]
    obtain ⟨x, hx, hxk⟩ := hU.has
    have hba : b ≠ a := fun e2 => hb x hx (by rw [hxk, e2])
    rw [if_neg hba]
    refine h.none_ b fun e he => ?_
    intro hk2
    exact hb e (hU.keep e he (fun e3 => hba (by rw [hk2] at e3; injection e3))) hk2
  · have key : ∀ e ∈ es.toList, e.key ≠ .int q a → ∀ r, vrow e.val = some r → ownRow A' c' ≠ some r := fun e he hne r hr1 hr2 => by
      obtain ⟨b, hb, _⟩ := h.keys.1 e he
      obtain ⟨A1, c1, h1, h2⟩ := h.lists e he b hb
      rw [h1] at hr1
      rcases hr with h3 | h3
      · exact hap e he hne r (by rw [← h3]; exact hr2) (by rw [h1]; exact hr1)
      · have := h3 r hr2
        have := (h2.row_lt r hr1).2
        omega
    intro e he e' he' hne r hr1 hr2
    rcases hU.mem h.keys.2 e he with ⟨h1, h2⟩ | ⟨h1, h2⟩
    · rcases hU.mem h.keys.2 e' he' with ⟨h3, h4⟩ | ⟨h3, h4⟩
      · exact h.apart e h1 e' h3 hne r hr1 hr2
      · rw [h4] at hr2
        exact key e h1 h2 r hr1 hr2
    · rcases hU.mem h.keys.2 e' he' with ⟨h3, h4⟩ | ⟨h3, h4⟩
      · rw [h2] at hr1
        exact key e' h3 h4 r hr2 hr1
      · exact hne (h1.trans h3.symm)
theorem MG.mr (h : MG w g q B f es clock) : MR w g q B f es clock :=
  ⟨h.row, h.keys, fun e he a ha => by
    obtain ⟨A, c, h1, h2⟩ := h.lists e he a ha
    have hrd : RdI w A (f a) := h2.rd
    refine ⟨A, c, h1, hrd, fun ad hA hne => ?_⟩
    have hc : c ≠ 0 := fun e0 => by have := h2.nc; have := List.length_pos_iff.2 hne; omega
    exact (h2.row_lt ad.block (by unfold ownRow; rw [if_neg hc, hA]; rfl)).1, h.none_⟩
theorem Rd.turn {S : Nat → Prop} {s n : Nat} {A : Option Addr} {xs : List Value} (h : Rd w s A n xs) (ht : Turn S w w') (hn : xs ≠ [] → ∀ ad, A = some ad → ¬ S ad.block) : Rd w' s A n xs := by
  refine ⟨h.1, fun hx => ?_⟩
  obtain ⟨ad, hA, hc⟩ := h.2 hx
  refine ⟨ad, hA, fun j u hj => ?_⟩
  have h1 := hc j u hj
  have hnS : ¬ S (ad.add j).block := by rw [add_block]; exact hn hx ad hA
  have hlt : (ad.add j).block < w.heap.size := by
    by_cases hl : (ad.add j).block < w.heap.size
    · exact hl
    · have : w.heap[(ad.add j).block]? = none := Array.getElem?_eq_none (by omega)
      unfold World.cell? at h1
      rw [this] at h1
      cases h1
  unfold World.cell? at h1 ⊢
  rw [ht.block _ hlt hnS]
  exact h1
theorem RdI.turn {S : Nat → Prop} {A : Option Addr} {l : List Int} (h : RdI w A l) (ht : Turn S w w') (hn : l ≠ [] → ∀ ad, A = some ad → ¬ S ad.block) : RdI w' A l := Rd.turn h ht (fun hx => hn (fun e => hx (by rw [e]; rfl)))
theorem MR.turn {S : Nat → Prop} (h : MR w g q B f es clock) (ht : Turn S w w') (hg : ¬ S g) (hS : ∀ i, S i → i < B) : MR w' g q B f es clock :=
  ⟨(ht.block _ (lt_of_heap h.row) hg).trans h.row, h.keys, fun e he a ha => by
    obtain ⟨A, c, h1, h2, h3⟩ := h.lists e he a ha
    exact ⟨A, c, h1, h2.turn ht (fun hx ad hA hs => by have := h3 ad hA hx; have := hS _ hs; omega), h3⟩, h.none_⟩
theorem MR.ext (h : MR w g q B f es clock) (hx : Ext w w') : MR w' g q B f es clock := h.turn (S := fun _ => False) (Turn.ext hx) id (fun _ => False.elim)
theorem MR.look {P : Program} {t kt et : TypeId} (h : MR w g q B f es clock) (ht : P.underlying t = some (.map kt et)) (hk : P.underlying kt = some (.int q)) (hz : (zeroValue et).run P w = .ok (.slice none 0 0) w) (a : Int) (ha : (Lit.int q a).wf = true) :
    ∃ A c, (Instr.lookup t (.map (some g)) (.int q a) false).run P w = .ok (.slice A (f a).length c) w ∧ RdI w A (f a) ∧ ∀ ad, A = some ad → f a ≠ [] → B ≤ ad.block := by
  rcases run_lookI ht hk hz h.row h.keys a ha with ⟨h1, h2⟩ | ⟨e0, h1, h2, h3⟩
  · rw [h.none_ a h2]
    exact ⟨none, 0, h1, Rd.nil_ _ _ _, fun ad e _ => by cases e⟩
  · obtain ⟨A, c, h4, h5, h6⟩ := h.lists e0 h1 a h2
    exact ⟨A, c, by rw [h3, h4], h5, h6⟩
/-- Another list is put into the map. -/
theorem MR.put {P : Program} {t kt et : TypeId} (h : MR w g q B f es clock) (ht : P.underlying t = some (.map kt et)) (hk : P.underlying kt = some (.int q)) (a : Int) (ha : (Lit.int q a).wf = true) {A' : Option Addr} {c' n : Nat} {l : List Int}
    (hn : n = l.length) (ho : RdI w A' l) (hr : ∀ ad, A' = some ad → l ≠ [] → B ≤ ad.block) (hgB : g < B) (f' : Int → List Int) (hf : ∀ b, f' b = if b = a then l else f b) :
    ∃ es' clock', (Instr.mapUpdate t (.map (some g)) (.int q a) (.slice A' n c')).run P w = .ok () (setBlock w g (.map es' clock')) ∧ MR (setBlock w g (.map es' clock')) g q B f' es' clock' ∧ w.grownBy (setBlock w g (.map es' clock')) (some g) := by
  subst hn
  obtain ⟨es', clock', hrun, hU⟩ := run_updI (P := P) ht hk h.row h.keys a ha (.slice A' l.length c')
  have hgl := lt_of_heap h.row
  have hset : w.grownBy (setBlock w g (.map es' clock')) (some g) := ⟨rfl, rfl, rfl, by simp [setBlock], fun i _ hi => by
    show (w.heap.setIfInBounds g _)[i]? = _
    rw [Array.getElem?_setIfInBounds_ne (fun e => hi (by rw [e]))]⟩
  have ht' : Turn (fun i => i = g) w (setBlock w g (.map es' clock')) := Turn.grown hset rfl
  have keepR : ∀ {A : Option Addr} {l : List Int}, RdI w A l → (∀ ad, A = some ad → l ≠ [] → B ≤ ad.block) → RdI (setBlock w g (.map es' clock')) A l := fun h1 h2 => h1.turn ht' (fun hx ad hA e => by have := h2 ad hA hx; omega)
  refine ⟨es', clock', hrun, ⟨?_, hU.keys h.keys ha, ?_, ?_⟩, hset⟩
  · show (w.heap.setIfInBounds g _)[g]? = _
    rw [Array.getElem?_setIfInBounds_self_of_lt hgl]
  · intro e he b hb
    rw [hf b]
    rcases hU.mem h.keys.2 e he with ⟨h1, h2⟩ | ⟨h1, h2⟩
    · have hba : b ≠ a := fun e2 => h2 (by rw [hb, e2])
      rw [if_neg hba]
      obtain ⟨A1, c1, h3, h4, h5⟩ := h.lists e h1 b hb
      exact ⟨A1, c1, h3, keepR h4 h5, h5⟩
    · have hba : b = a := by rw [hb] at h1; injection h1
      rw [if_pos hba]
      exact ⟨A', c', h2, keepR ho hr, hr⟩
  · intro b hb
    rw [hf b]
    obtain ⟨x, hx, hxk⟩ := hU.has
    have hba : b ≠ a := fun e2 => hb x hx (by rw [hxk, e2])
    rw [if_neg hba]
    refine h.none_ b fun e he => ?_
    intro hk2
    exact hb e (hU.keep e he (fun e3 => hba (by rw [hk2] at e3; injection e3))) hk2
end

end Go.Proofs.Ytnagbhaknmoilaa
