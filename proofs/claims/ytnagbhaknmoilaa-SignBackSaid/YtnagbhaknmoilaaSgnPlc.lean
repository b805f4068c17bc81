
/- Plain laws for layer 22: how the answers and what is left to be found go on from place to place. -/

import Derived.Test.YtnagbhaknmoilaaSgnFin

namespace Go.Proofs.Ytnagbhaknmoilaa

open Go.RowKit

theorem keys_unique {q : IntKind} {l : List MapEntry} (h : Keys q l) {e e' : MapEntry} (he : e ∈ l) (he' : e' ∈ l) (hk : e.key = e'.key) : e = e' := by
  obtain ⟨i, hi, rfl⟩ := List.getElem_of_mem he
  obtain ⟨j, hj, rfl⟩ := List.getElem_of_mem he'
  have hp := List.pairwise_iff_getElem.1 h.2
  rcases Nat.lt_trichotomy i j with hlt | heq | hlt
  · exact absurd (by rw [List.getElem_map, List.getElem_map]; exact hk) (hp i j (by simpa using hi) (by simpa using hj) hlt)
  · subst heq; rfl
  · exact absurd (by rw [List.getElem_map, List.getElem_map]; exact hk.symm) (hp j i (by simpa using hj) (by simpa using hi) hlt)
/-- A look-up in whatever world in which the map's block is the same. -/
theorem MG.lookW {P : Program} {t kt et : TypeId} {w : World} {g B : Nat} {q : IntKind} {f : Int → List Int} {es : Array MapEntry} {clock : Nat} (h : MG w g q B f es clock) (ht : P.underlying t = some (.map kt et)) (hk : P.underlying kt = some (.int q)) (hz : ∀ w, (zeroValue et).run P w = .ok (.slice none 0 0) w) (a : Int) (ha : (Lit.int q a).wf = true) :
    ∃ A c, (∀ w' : World, w'.heap[g]? = some (.map es clock) → (Instr.lookup t (.map (some g)) (.int q a) false).run P w' = .ok (.slice A (f a).length c) w') ∧ Own w B 3 1 A (f a).length c (ivs (f a)) ∧
      (∀ e ∈ es.toList, e.key ≠ .int q a → ∀ r, ownRow A c = some r → vrow e.val ≠ some r) := by
  by_cases hx : ∃ e0 ∈ es.toList, e0.key = .int q a
  · obtain ⟨e0, h1, h2⟩ := hx
    obtain ⟨A, c, h4, h5⟩ := h.lists e0 h1 a h2
    refine ⟨A, c, fun w' hw => ?_, h5, fun e he hne r hr => h.apart e0 h1 e he (by rw [h2]; exact fun e => hne e.symm) r (by rw [h4]; exact hr)⟩
    rcases run_lookI ht hk (hz w') hw h.keys a ha with ⟨_, h7⟩ | ⟨e1, h6, h7, h8⟩
    · exact absurd h2 (h7 e0 h1)
    · rw [h8, keys_unique h.keys h6 h1 (h7.trans h2.symm), h4]
  · have hno : ∀ e ∈ es.toList, e.key ≠ .int q a := fun e he hk => hx ⟨e, he, hk⟩
    rw [h.none_ a hno]
    refine ⟨none, 0, fun w' hw => ?_, Own.none_ _ _ _ _ _, fun e _ _ r hr => by simp [ownRow] at hr⟩
    rcases run_lookI ht hk (hz w') hw h.keys a ha with ⟨h6, _⟩ | ⟨e1, h6, h7, h8⟩
    · exact h6
    · exact absurd h7 (hno e1 h6)
def Sg.wkOf (S : List Sg) (i : Nat) : Nat := match S[i]? with | some s => s.weak | none => 0
/-- Does block i stand at place j? -/
def Sg.hitP (o : List UInt8) (n : Nat) (S : List Sg) (i j : Nat) : Bool := (Wk.sum (Sg.win o j n) == Sg.wkOf S i) && Fd.hit S (Sha.sum (Sg.win o j n)) i
/-- The answers when k places were looked at. -/
def Fd.ans (o : List UInt8) (n : Nat) (S : List Sg) (Lb L0 : List Int) (k : Nat) : List Int :=
  (List.range L0.length).map fun (i : Nat) => if (i : Int) ∈ Lb then Sg.first (Sg.hitP o n S i) k else L0.getD i 0
theorem Fd.ans_len (o : List UInt8) (n : Nat) (S : List Sg) (Lb L0 : List Int) (k : Nat) : (Fd.ans o n S Lb L0 k).length = L0.length := by simp [Fd.ans]
/-- What is left to be found then. -/
def Fd.wan (o : List UInt8) (n : Nat) (S : List Sg) (Lb : List Int) (k : Nat) (b : Int) : List Int :=
  Lb.filter fun x => decide ((Sg.wkOf S x.toNat : Int) = b) && decide (Sg.first (Sg.hitP o n S x.toNat) k < 0)
theorem Fd.ans_zero {o : List UInt8} {n : Nat} {S : List Sg} {Lb L0 : List Int} (h : ∀ i, (h : i < L0.length) → (i : Int) ∈ Lb → L0[i] = -1) : Fd.ans o n S Lb L0 0 = L0 := by
  refine List.ext_getElem (Fd.ans_len ..) fun i h1 h2 => ?_
  simp only [Fd.ans, List.getElem_map, List.getElem_range]
  split
  · rename_i hi; rw [h i h2 hi]; rfl
  · simp [List.getD_eq_getElem?_getD, h2]
theorem Fd.wan_zero (o : List UInt8) (n : Nat) (S : List Sg) (Lb : List Int) (b : Int) : Fd.wan o n S Lb 0 b = Lb.filter fun x => decide ((Sg.wkOf S x.toNat : Int) = b) := by
  unfold Fd.wan
  congr 1
  funext x
  simp [Sg.first]
theorem Fd.mark_get (hit : Nat → Bool) (at_ : Int) (l : List Int) : ∀ (L : List Int) (i : Nat) (h : i < L.length) (h2 : i < (Fd.mark hit at_ L l).length), (Fd.mark hit at_ L l)[i] = if (∃ x ∈ l, x.toNat = i) ∧ hit i = true then at_ else L[i] := by
  induction l with
  | nil => intro L i h h2; simp [Fd.mark]
  | cons x l ih =>
    intro L i h h2
    cases hh : hit x.toNat
    · have e0 : Fd.mark hit at_ L (x :: l) = Fd.mark hit at_ L l := by rw [Fd.mark, hh]; rfl
      simp only [e0]
      rw [ih L i h (by rw [Fd.mark_len]; exact h)]
      by_cases hi : hit i = true
      · simp only [hi, and_true]
        have : (∃ y ∈ x :: l, y.toNat = i) ↔ ∃ y ∈ l, y.toNat = i := by
          constructor
          · rintro ⟨y, hy, e⟩
            rcases List.mem_cons.1 hy with rfl | hy
            · rw [e, hi] at hh; cases hh
            · exact ⟨y, hy, e⟩
          · rintro ⟨y, hy, e⟩; exact ⟨y, List.mem_cons_of_mem _ hy, e⟩
        simp only [this]
      · rw [if_neg (fun e => hi e.2), if_neg (fun e => hi e.2)]
    · have e0 : Fd.mark hit at_ L (x :: l) = Fd.mark hit at_ (L.set x.toNat at_) l := by rw [Fd.mark, hh]; rfl
      simp only [e0]
      rw [ih (L.set x.toNat at_) i (by simpa using h) (by rw [Fd.mark_len]; simpa using h), List.getElem_set]
      by_cases hx : x.toNat = i
      · rw [if_pos hx, if_pos (show (∃ y ∈ x :: l, y.toNat = i) ∧ hit i = true from ⟨⟨x, List.mem_cons_self, hx⟩, by rw [← hx]; exact hh⟩)]
        split <;> rfl
      · rw [if_neg hx]
        have : (∃ y ∈ x :: l, y.toNat = i) ↔ ∃ y ∈ l, y.toNat = i := by
          constructor
          · rintro ⟨y, hy, e⟩
            rcases List.mem_cons.1 hy with rfl | hy
            · exact absurd e hx
            · exact ⟨y, hy, e⟩
          · rintro ⟨y, hy, e⟩; exact ⟨y, List.mem_cons_of_mem _ hy, e⟩
        simp only [this]
theorem Fd.ans_step {o : List UInt8} {n : Nat} {S : List Sg} {Lb L0 : List Int} (k : Nat) (hb : ∀ x ∈ Lb, 0 ≤ x) :
    Fd.mark (Fd.hit S (Sha.sum (Sg.win o k n))) (k : Int) (Fd.ans o n S Lb L0 k) (Fd.wan o n S Lb k (Wk.sum (Sg.win o k n) : Int)) = Fd.ans o n S Lb L0 (k + 1) := by
  refine List.ext_getElem (by rw [Fd.mark_len, Fd.ans_len, Fd.ans_len]) fun i h1 h2 => ?_
  have h3 : i < (Fd.ans o n S Lb L0 k).length := by rw [Fd.mark_len] at h1; exact h1
  rw [Fd.mark_get _ _ _ _ i h3 h1]
  simp only [Fd.ans, List.getElem_map, List.getElem_range]
  have hmem : (∃ x ∈ Fd.wan o n S Lb k (Wk.sum (Sg.win o k n) : Int), x.toNat = i) ↔ ((i : Int) ∈ Lb ∧ Sg.wkOf S i = Wk.sum (Sg.win o k n) ∧ Sg.first (Sg.hitP o n S i) k < 0) := by
    constructor
    · rintro ⟨x, hx, rfl⟩
      simp only [Fd.wan, List.mem_filter, Bool.and_eq_true, decide_eq_true_eq] at hx
      have h0 := hb x hx.1
      refine ⟨by rw [Int.toNat_of_nonneg h0]; exact hx.1, by have := hx.2.1; omega, hx.2.2⟩
    · rintro ⟨h4, h5, h6⟩
      refine ⟨(i : Int), ?_, by simp⟩
      simp only [Fd.wan, List.mem_filter, Bool.and_eq_true, decide_eq_true_eq, Int.toNat_natCast]
      exact ⟨h4, by omega, h6⟩
  by_cases h4 : (i : Int) ∈ Lb
  · rw [if_pos h4, if_pos h4, Sg.first]
    by_cases h5 : 0 ≤ Sg.first (Sg.hitP o n S i) k
    · rw [if_pos h5, if_neg]
      rintro ⟨h6, _⟩
      have := (hmem.1 h6).2.2
      omega
    · rw [if_neg h5]
      have hm1 : Sg.first (Sg.hitP o n S i) k = -1 := by have := (Sg.first_ge (Sg.hitP o n S i) k).1; omega
      by_cases h6 : Sg.hitP o n S i k = true
      · rw [if_pos h6, if_pos]
        unfold Sg.hitP at h6
        simp only [Bool.and_eq_true, beq_iff_eq] at h6
        exact ⟨hmem.2 ⟨h4, h6.1.symm, by omega⟩, h6.2⟩
      · rw [if_neg h6, if_neg, hm1]
        rintro ⟨h7, h8⟩
        apply h6
        unfold Sg.hitP
        simp only [Bool.and_eq_true, beq_iff_eq]
        exact ⟨(hmem.1 h7).2.1.symm, h8⟩
  · rw [if_neg h4, if_neg h4, if_neg]
    rintro ⟨h6, _⟩
    exact h4 (hmem.1 h6).1
theorem Fd.wan_step {o : List UInt8} {n : Nat} {S : List Sg} {Lb : List Int} (k : Nat) :
    (fun b => if b = (Wk.sum (Sg.win o k n) : Int) then Fd.left (Fd.hit S (Sha.sum (Sg.win o k n))) (Fd.wan o n S Lb k (Wk.sum (Sg.win o k n) : Int)) else Fd.wan o n S Lb k b) = Fd.wan o n S Lb (k + 1) := by
  funext b
  have hf : ∀ i, Sg.first (Sg.hitP o n S i) (k + 1) < 0 ↔ (Sg.first (Sg.hitP o n S i) k < 0 ∧ Sg.hitP o n S i k = false) := fun i => by
    rw [Sg.first]
    by_cases h5 : 0 ≤ Sg.first (Sg.hitP o n S i) k
    · rw [if_pos h5]; constructor
      · intro h; omega
      · rintro ⟨h, _⟩; omega
    · rw [if_neg h5]
      cases Sg.hitP o n S i k <;> simp <;> omega
  split
  · rename_i hb
    subst hb
    unfold Fd.left Fd.wan
    rw [List.filter_filter]
    congr 1
    funext x
    rw [Bool.eq_iff_iff]
    simp only [Bool.and_eq_true, decide_eq_true_eq, Bool.not_eq_true', hf]
    constructor
    · rintro ⟨h1, h2, h3⟩
      refine ⟨h2, h3, ?_⟩
      unfold Sg.hitP
      rw [h1, Bool.and_false]
    · rintro ⟨h1, h2, h3⟩
      refine ⟨?_, h1, h2⟩
      unfold Sg.hitP at h3
      have : (Wk.sum (Sg.win o k n) == Sg.wkOf S x.toNat) = true := by rw [beq_iff_eq]; omega
      rw [this, Bool.true_and] at h3
      exact h3
  · rename_i hb
    unfold Fd.wan
    congr 1
    funext x
    rw [Bool.eq_iff_iff]
    simp only [Bool.and_eq_true, decide_eq_true_eq, hf]
    constructor
    · rintro ⟨h1, h2⟩
      refine ⟨h1, h2, ?_⟩
      unfold Sg.hitP
      have : (Wk.sum (Sg.win o k n) == Sg.wkOf S x.toNat) = false := by rw [beq_eq_false_iff_ne]; intro e; apply hb; omega
      rw [this, Bool.false_and]
    · rintro ⟨h1, h2, _⟩
      exact ⟨h1, h2⟩
end Go.Proofs.Ytnagbhaknmoilaa
