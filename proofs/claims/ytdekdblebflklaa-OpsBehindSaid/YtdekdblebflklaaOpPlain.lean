
/- Plain words and laws for operations on entries. -/

import Derived.Test.YtdekdblebflklaaEntRise

namespace Go.Proofs.Ytdekdblebflklaa

/-! ### lists by strictly rising keys -/

section

variable {α : Type} (key : α → List UInt8)

def UpK (l : List α) : Prop := l.Pairwise fun a b => ltB (key a) (key b) = true
def look (l : List α) (k : List UInt8) : Option α := l.find? fun a => key a == k
def putK (x : α) : List α → List α
  | [] => [x]
  | a :: l => if ltB (key a) (key x) = true then a :: putK x l else if key a = key x then x :: l else x :: a :: l
def delK (k : List UInt8) : List α → List α
  | [] => []
  | a :: l => if ltB (key a) k = true then a :: delK k l else if key a = k then l else a :: l
variable {key}

theorem ltB_ne {a b : List UInt8} (h : ltB a b = true) : a ≠ b := fun e => by rw [e, ltB_irrefl] at h; cases h
theorem look_nil (k : List UInt8) : look key [] k = none := rfl
theorem look_cons (a : α) (l : List α) (k : List UInt8) : look key (a :: l) k = if key a = k then some a else look key l k := by
  unfold look
  rw [List.find?_cons]
  by_cases h : key a = k
  · rw [if_pos h]; simp [h]
  · rw [if_neg h]
    have : (key a == k) = false := by rw [beq_eq_false_iff_ne]; exact h
    rw [this]
theorem look_key {l : List α} {k : List UInt8} {a : α} (h : look key l k = some a) : key a = k ∧ a ∈ l := by
  unfold look at h
  exact ⟨by simpa using List.find?_some h, List.mem_of_find?_eq_some h⟩
theorem look_none {l : List α} {k : List UInt8} (h : ∀ a ∈ l, key a ≠ k) : look key l k = none := by
  unfold look
  rw [List.find?_eq_none]
  intro a ha
  simpa using h a ha
theorem look_none_mem {l : List α} {k : List UInt8} (h : look key l k = none) : ∀ a ∈ l, key a ≠ k := by
  unfold look at h
  rw [List.find?_eq_none] at h
  intro a ha
  simpa using h a ha
theorem UpK.cons {a : α} {l : List α} (h : UpK key (a :: l)) : UpK key l ∧ ∀ b ∈ l, ltB (key a) (key b) = true := ⟨(List.pairwise_cons.1 h).2, (List.pairwise_cons.1 h).1⟩
theorem UpK.tail_none {a : α} {l : List α} (h : UpK key (a :: l)) : look key l (key a) = none := look_none fun b hb e => ltB_ne (h.cons.2 b hb) e.symm
theorem look_mem {l : List α} (h : UpK key l) {a : α} (ha : a ∈ l) : look key l (key a) = some a := by
  induction l with
  | nil => cases ha
  | cons b l ih =>
    rw [look_cons]
    rcases List.mem_cons.1 ha with rfl | ha
    · rw [if_pos rfl]
    · rw [if_neg (ltB_ne (h.cons.2 a ha)), ih h.cons.1 ha]
theorem look_ext : ∀ {l m : List α}, UpK key l → UpK key m → (∀ k, look key l k = look key m k) → l = m
  | [], [], _, _, _ => rfl
  | [], b :: m, _, _, h => by have := h (key b); rw [look_nil, look_cons, if_pos rfl] at this; cases this
  | a :: l, [], _, _, h => by have := h (key a); rw [look_nil, look_cons, if_pos rfl] at this; cases this
  | a :: l, b :: m, hl, hm, h => by
    have hab : a = b := by
      have h1 := h (key a)
      have h2 := h (key b)
      rw [look_cons, if_pos rfl, look_cons] at h1
      rw [look_cons (a := b), if_pos rfl, look_cons] at h2
      by_cases e : key b = key a
      · rw [if_pos e] at h1; injection h1
      · rw [if_neg e] at h1
        rw [if_neg (fun e' => e e'.symm)] at h2
        have h3 := hm.cons.2 a (look_key h1.symm).2
        have h4 := hl.cons.2 b (look_key h2).2
        rw [ltB_asymm h3] at h4; cases h4
    subst hab
    congr 1
    refine look_ext hl.cons.1 hm.cons.1 fun k => ?_
    have h1 := h k
    rw [look_cons, look_cons] at h1
    by_cases e : key a = k
    · subst e
      rw [hl.tail_none, hm.tail_none]
    · rwa [if_neg e, if_neg e] at h1
theorem mem_putK {x b : α} : ∀ {l : List α}, b ∈ putK key x l → b = x ∨ b ∈ l
  | [], h => by simp [putK] at h; exact .inl h
  | a :: l, h => by
    unfold putK at h
    split at h
    · rcases List.mem_cons.1 h with rfl | h
      · exact .inr (by simp)
      · exact (mem_putK h).imp id (by simp; intro h; exact .inr h)
    · split at h
      · rcases List.mem_cons.1 h with rfl | h
        · exact .inl rfl
        · exact .inr (by simp [h])
      · rcases List.mem_cons.1 h with rfl | h
        · exact .inl rfl
        · exact .inr h
theorem mem_delK {k : List UInt8} {b : α} : ∀ {l : List α}, b ∈ delK key k l → b ∈ l
  | [], h => by simp [delK] at h
  | a :: l, h => by
    unfold delK at h
    split at h
    · rcases List.mem_cons.1 h with rfl | h
      · simp
      · have := mem_delK h; simp [this]
    · split at h
      · simp [h]
      · exact h
theorem UpK.putK {x : α} : ∀ {l : List α}, UpK key l → UpK key (putK key x l)
  | [], _ => by unfold Go.Proofs.Ytdekdblebflklaa.putK UpK; simp
  | a :: l, h => by
    unfold Go.Proofs.Ytdekdblebflklaa.putK
    obtain ⟨h1, h2⟩ := h.cons
    split
    · rename_i h3
      refine List.pairwise_cons.2 ⟨fun b hb => ?_, UpK.putK h1⟩
      rcases mem_putK hb with rfl | hb
      · exact h3
      · exact h2 b hb
    · split
      · rename_i h3 h4
        exact List.pairwise_cons.2 ⟨fun b hb => by rw [← h4]; exact h2 b hb, h1⟩
      · rename_i h3 h4
        have h5 : ltB (key x) (key a) = true := by
          rcases ltB_tri (key a) (key x) with h | h | h
          · exact absurd h h3
          · exact absurd h h4
          · exact h
        refine List.pairwise_cons.2 ⟨fun b hb => ?_, h⟩
        rcases List.mem_cons.1 hb with rfl | hb
        · exact h5
        · exact ltB_trans h5 (h2 b hb)
theorem UpK.delK {k : List UInt8} : ∀ {l : List α}, UpK key l → UpK key (delK key k l)
  | [], _ => by unfold Go.Proofs.Ytdekdblebflklaa.delK UpK; simp
  | a :: l, h => by
    unfold Go.Proofs.Ytdekdblebflklaa.delK
    obtain ⟨h1, h2⟩ := h.cons
    split
    · exact List.pairwise_cons.2 ⟨fun b hb => h2 b (mem_delK hb), UpK.delK h1⟩
    · split
      · exact h1
      · exact h
theorem look_putK (x : α) (k : List UInt8) : ∀ l : List α, look key (putK key x l) k = if key x = k then some x else look key l k
  | [] => by unfold putK; rw [look_cons]
  | a :: l => by
    unfold putK
    split
    · rename_i h
      rw [look_cons, look_putK x k l, look_cons]
      by_cases e : key a = k
      · rw [if_pos e, if_pos e, if_neg (fun e' => ltB_ne h (e.trans e'.symm))]
      · rw [if_neg e, if_neg e]
    · split
      · rename_i h e
        rw [look_cons, look_cons, e]
        split <;> rfl
      · rw [look_cons]
theorem look_delK (k j : List UInt8) : ∀ {l : List α}, UpK key l → look key (delK key k l) j = if k = j then none else look key l j
  | [], _ => by unfold delK; rw [look_nil]; split <;> rfl
  | a :: l, hu => by
    obtain ⟨h1, h2⟩ := hu.cons
    unfold delK
    split
    · rename_i h
      rw [look_cons, look_delK k j h1, look_cons]
      by_cases e : key a = j
      · rw [if_pos e, if_pos e, if_neg (fun e' => ltB_ne h (e.trans e'.symm))]
      · rw [if_neg e, if_neg e]
    · split
      · rename_i h e
        by_cases e2 : k = j
        · rw [if_pos e2, ← e2, ← e, hu.tail_none]
        · rw [if_neg e2, look_cons, if_neg (fun e' => e2 (e.symm.trans e'))]
      · rename_i h e
        by_cases e2 : k = j
        · rw [if_pos e2, ← e2]
          refine look_none fun b hb => ?_
          have h5 : ltB k (key a) = true := by
            rcases ltB_tri (key a) k with h' | h' | h'
            · exact absurd h' h
            · exact absurd h' e
            · exact h'
          rcases List.mem_cons.1 hb with rfl | hb
          · exact e
          · exact (ltB_ne (ltB_trans h5 (h2 b hb))).symm
        · rw [if_neg e2]
/-- Where a key stands, or would. -/
def posK (key : α → List UInt8) (k : List UInt8) (l : List α) : Nat := l.findIdx fun a => !ltB (key a) k
theorem putK_pos (x : α) : ∀ l : List α, putK key x l = l.take (posK key (key x) l) ++ x :: l.drop (if (l[posK key (key x) l]?).map key = some (key x) then posK key (key x) l + 1 else posK key (key x) l)
  | [] => rfl
  | a :: l => by
    unfold putK posK
    rw [List.findIdx_cons]
    cases h : ltB (key a) (key x) with
    | true =>
      have ih := putK_pos x l
      unfold posK at ih
      simp only [Bool.not_true, cond_false, if_true]
      rw [ih]
      simp only [List.take_succ_cons, List.cons_append, List.getElem?_cons_succ, List.cons.injEq, true_and]
      congr 2
      split <;> rfl
    | false =>
      simp only [Bool.not_false, cond_true, Bool.false_eq_true, if_false, List.take_zero, List.nil_append, List.getElem?_cons_zero, Option.map_some, Option.some.injEq]
      split <;> rfl
theorem delK_pos (k : List UInt8) : ∀ l : List α, delK key k l = if (l[posK key k l]?).map key = some k then l.take (posK key k l) ++ l.drop (posK key k l + 1) else l
  | [] => rfl
  | a :: l => by
    unfold delK posK
    rw [List.findIdx_cons]
    cases h : ltB (key a) k with
    | true =>
      have ih := delK_pos k l
      unfold posK at ih
      simp only [Bool.not_true, cond_false, if_true]
      rw [ih]
      simp only [List.take_succ_cons, List.cons_append, List.getElem?_cons_succ, List.drop_succ_cons]
      split <;> rfl
    | false =>
      simp only [Bool.not_false, cond_true, Bool.false_eq_true, if_false, List.take_zero, List.nil_append, List.getElem?_cons_zero, Option.map_some, Option.some.injEq]
      split <;> rfl
/-- A place is the one, if all ahead of it are smaller, and what stands there is not. -/
theorem posK_eq {k : List UInt8} {l : List α} {i : Nat} (hi : i ≤ l.length) (h1 : ∀ j (h : j < l.length), j < i → ltB (key l[j]) k = true) (h2 : ∀ h : i < l.length, ltB (key l[i]) k = false) : posK key k l = i := by
  unfold posK
  rcases Nat.lt_or_ge i l.length with h | h
  · rw [List.findIdx_eq h]
    refine ⟨by simp [h2 h], fun j hj => by simp [h1 j (by omega) hj]⟩
  · obtain rfl : i = l.length := by omega
    rw [List.findIdx_eq_length]
    intro x hx
    obtain ⟨j, hj, rfl⟩ := List.getElem_of_mem hx
    simp [h1 j hj hj]
theorem posK_le (k : List UInt8) (l : List α) : posK key k l ≤ l.length := List.findIdx_le_length
theorem look_pos {k : List UInt8} {l : List α} (hu : UpK key l) : (look key l k).isSome = true ↔ (l[posK key k l]?).map key = some k := by
  induction l with
  | nil => simp [look, posK]
  | cons a l ih =>
    rw [look_cons]
    unfold posK
    rw [List.findIdx_cons]
    cases h : ltB (key a) k with
    | true =>
      simp only [Bool.not_true, cond_false, List.getElem?_cons_succ]
      rw [if_neg (ltB_ne h)]
      exact ih hu.cons.1
    | false =>
      simp only [Bool.not_false, cond_true, List.getElem?_cons_zero, Option.map_some, Option.some.injEq]
      by_cases e : key a = k
      · rw [if_pos e]; simp [e]
      · rw [if_neg e]
        simp only [e, iff_false]
        rw [look_none]
        · simp
        · intro b hb
          have h5 : ltB k (key a) = true := by
            rcases ltB_tri (key a) k with h' | h' | h'
            · rw [h] at h'; cases h'
            · exact absurd h' e
            · exact h'
          exact (ltB_ne (ltB_trans h5 (hu.cons.2 b hb))).symm
end

theorem UpK.of_up {α : Type} {key : α → List UInt8} {l : List α} (h : ∀ k (h : k + 1 < l.length), ltB (key (l[k]'(by omega))) (key l[k + 1]) = true) : UpK key l := by
  have step : ∀ d i (hi : i + (d + 1) < l.length), ltB (key (l[i]'(by omega))) (key l[i + (d + 1)]) = true := by
    intro d
    induction d with
    | zero => intro i hi; exact h i hi
    | succ d ih =>
      intro i hi
      exact ltB_trans (ih i (by omega)) (h (i + (d + 1)) (by omega))
  unfold UpK
  rw [List.pairwise_iff_getElem]
  intro i j hi hj hij
  have := step (j - i - 1) i (by omega)
  simpa [show i + (j - i - 1 + 1) = j by omega] using this

/-! ### operations -/

structure Opn where
  del : Bool
  key : List UInt8
  val : List UInt8
def Opn.ent (o : Opn) : Ent := ⟨o.key, o.val⟩
def Opn.put (e : Ent) : Opn := ⟨false, e.key, e.val⟩
def Opn.gone (e : Ent) : Opn := ⟨true, e.key, []⟩
structure Opn.Ok (o : Opn) : Prop where
  key : 1 ≤ o.key.length ∧ o.key.length ≤ 24
  val : o.val.length ≤ 1000
  gone : o.del = true → o.val = []
structure Opn.Right (l : List Opn) : Prop where
  ok : ∀ o ∈ l, o.Ok
  up : UpK Opn.key l
def Opn.step (l : List Ent) (o : Opn) : List Ent := if o.del = true then delK Ent.key o.key l else putK Ent.key o.ent l
def Opn.apply (l : List Ent) (o : List Opn) : List Ent := o.foldl Opn.step l
theorem Opn.step_up {l : List Ent} (h : UpK Ent.key l) (o : Opn) : UpK Ent.key (Opn.step l o) := by
  unfold Opn.step
  split
  · exact h.delK
  · exact h.putK
theorem Opn.apply_up {l : List Ent} (h : UpK Ent.key l) (o : List Opn) : UpK Ent.key (Opn.apply l o) := by
  induction o generalizing l with
  | nil => exact h
  | cons x o ih => exact ih (Opn.step_up h x)
theorem Opn.look_step {l : List Ent} (h : UpK Ent.key l) (o : Opn) (k : List UInt8) : look Ent.key (Opn.step l o) k = if o.key = k then (if o.del = true then none else some o.ent) else look Ent.key l k := by
  unfold Opn.step
  split
  · rw [look_delK _ _ h]
  · rw [look_putK]
    rfl
/-- What an operation leaves at its key. -/
def Opn.res (o : Opn) : Option Ent := if o.del = true then none else some o.ent
theorem Opn.look_apply {l : List Ent} (h : UpK Ent.key l) {o : List Opn} (ho : UpK Opn.key o) (k : List UInt8) : look Ent.key (Opn.apply l o) k = match look Opn.key o k with | some x => x.res | none => look Ent.key l k := by
  induction o generalizing l with
  | nil => rfl
  | cons x o ih =>
    show look Ent.key (Opn.apply (Opn.step l x) o) k = _
    rw [ih (Opn.step_up h x) ho.cons.1, look_cons]
    by_cases e : x.key = k
    · subst e
      rw [ho.tail_none, if_pos rfl]
      simp only
      rw [Opn.look_step h, if_pos rfl]
      rfl
    · rw [if_neg e]
      cases hx : look Opn.key o k with
      | some y => rfl
      | none => simp only; rw [Opn.look_step h, if_neg e]
/-- What must be done to entries, so that they are others. -/
def Opn.diff (h w : List Ent) : List Opn := match h, w with
  | [], [] => []
  | a :: h, [] => Opn.gone a :: Opn.diff h []
  | [], b :: w => Opn.put b :: Opn.diff [] w
  | a :: h, b :: w => if ltB a.key b.key = true then Opn.gone a :: Opn.diff h (b :: w) else if ltB b.key a.key = true then Opn.put b :: Opn.diff (a :: h) w else if a.val = b.val then Opn.diff h w else Opn.put b :: Opn.diff h w
termination_by h.length + w.length
def Opn.should (a b : Option Ent) : Option Opn := match b with
  | none => a.map Opn.gone
  | some e => if a.map Ent.val = some e.val then none else some (Opn.put e)
theorem Opn.mem_diff (h w : List Ent) : ∀ o ∈ Opn.diff h w, (∃ a ∈ h, o = Opn.gone a) ∨ (∃ b ∈ w, o = Opn.put b) := by
  fun_induction Opn.diff h w with
  | case1 => simp
  | case2 a h ih =>
    intro o ho
    rcases List.mem_cons.1 ho with rfl | ho
    · exact .inl ⟨a, by simp, rfl⟩
    · rcases ih o ho with ⟨x, hx, e⟩ | ⟨x, hx, e⟩
      · exact .inl ⟨x, by simp [hx], e⟩
      · cases hx
  | case3 b w ih =>
    intro o ho
    rcases List.mem_cons.1 ho with rfl | ho
    · exact .inr ⟨b, by simp, rfl⟩
    · rcases ih o ho with ⟨x, hx, e⟩ | ⟨x, hx, e⟩
      · cases hx
      · exact .inr ⟨x, by simp [hx], e⟩
  | case4 a h b w h1 ih =>
    intro o ho
    rcases List.mem_cons.1 ho with rfl | ho
    · exact .inl ⟨a, by simp, rfl⟩
    · rcases ih o ho with ⟨x, hx, e⟩ | ⟨x, hx, e⟩
      · exact .inl ⟨x, by simp [hx], e⟩
      · exact .inr ⟨x, hx, e⟩
  | case5 a h b w h1 h2 ih =>
    intro o ho
    rcases List.mem_cons.1 ho with rfl | ho
    · exact .inr ⟨b, by simp, rfl⟩
    · rcases ih o ho with ⟨x, hx, e⟩ | ⟨x, hx, e⟩
      · exact .inl ⟨x, hx, e⟩
      · exact .inr ⟨x, by simp [hx], e⟩
  | case6 a h b w h1 h2 h3 ih =>
    intro o ho
    rcases ih o ho with ⟨x, hx, e⟩ | ⟨x, hx, e⟩
    · exact .inl ⟨x, by simp [hx], e⟩
    · exact .inr ⟨x, by simp [hx], e⟩
  | case7 a h b w h1 h2 h3 ih =>
    intro o ho
    rcases List.mem_cons.1 ho with rfl | ho
    · exact .inr ⟨b, by simp, rfl⟩
    · rcases ih o ho with ⟨x, hx, e⟩ | ⟨x, hx, e⟩
      · exact .inl ⟨x, by simp [hx], e⟩
      · exact .inr ⟨x, by simp [hx], e⟩
theorem Opn.diff_gt {h w : List Ent} {k : List UInt8} (h1 : ∀ a ∈ h, ltB k a.key = true) (h2 : ∀ a ∈ w, ltB k a.key = true) : ∀ o ∈ Opn.diff h w, ltB k o.key = true := by
  intro o ho
  rcases Opn.mem_diff h w o ho with ⟨x, hx, rfl⟩ | ⟨x, hx, rfl⟩
  · exact h1 x hx
  · exact h2 x hx
theorem ltB_eq {a b : List UInt8} (h1 : ¬ ltB a b = true) (h2 : ¬ ltB b a = true) : a = b := by
  rcases ltB_tri a b with h | h | h
  · exact absurd h h1
  · exact h
  · exact absurd h h2
theorem Opn.diff_up (h w : List Ent) : UpK Ent.key h → UpK Ent.key w → UpK Opn.key (Opn.diff h w) := by
  fun_induction Opn.diff h w with
  | case1 => intro _ _; exact List.Pairwise.nil
  | case2 a h ih => intro u v; exact List.pairwise_cons.2 ⟨Opn.diff_gt u.cons.2 (by simp), ih u.cons.1 v⟩
  | case3 b w ih => intro u v; exact List.pairwise_cons.2 ⟨Opn.diff_gt (by simp) v.cons.2, ih u v.cons.1⟩
  | case4 a h b w h1 ih =>
    intro u v
    refine List.pairwise_cons.2 ⟨Opn.diff_gt u.cons.2 fun x hx => ?_, ih u.cons.1 v⟩
    rcases List.mem_cons.1 hx with rfl | hx
    · exact h1
    · exact ltB_trans h1 (v.cons.2 x hx)
  | case5 a h b w h1 h2 ih =>
    intro u v
    refine List.pairwise_cons.2 ⟨Opn.diff_gt (fun x hx => ?_) v.cons.2, ih u v.cons.1⟩
    rcases List.mem_cons.1 hx with rfl | hx
    · exact h2
    · exact ltB_trans h2 (u.cons.2 x hx)
  | case6 a h b w h1 h2 h3 ih => intro u v; exact ih u.cons.1 v.cons.1
  | case7 a h b w h1 h2 h3 ih =>
    intro u v
    refine List.pairwise_cons.2 ⟨Opn.diff_gt (fun x hx => ?_) v.cons.2, ih u.cons.1 v.cons.1⟩
    have := u.cons.2 x hx
    rwa [ltB_eq h1 h2] at this
theorem Opn.look_diff (h w : List Ent) (k : List UInt8) : UpK Ent.key h → UpK Ent.key w → look Opn.key (Opn.diff h w) k = Opn.should (look Ent.key h k) (look Ent.key w k) := by
  fun_induction Opn.diff h w with
  | case1 => intro _ _; rfl
  | case2 a h ih =>
    intro u v
    rw [look_cons, look_cons, ih u.cons.1 v]
    show (if a.key = k then _ else _) = _
    by_cases e : a.key = k
    · rw [if_pos e, if_pos e]; rfl
    · rw [if_neg e, if_neg e]
  | case3 b w ih =>
    intro u v
    rw [look_cons, look_cons, ih u v.cons.1]
    show (if b.key = k then _ else _) = _
    by_cases e : b.key = k
    · rw [if_pos e, if_pos e]; rfl
    · rw [if_neg e, if_neg e]
  | case4 a h b w h1 ih =>
    intro u v
    rw [look_cons, ih u.cons.1 v]
    show (if a.key = k then _ else _) = _
    by_cases e : a.key = k
    · have hn : look Ent.key (b :: w) k = none := look_none fun x hx => by
        rcases List.mem_cons.1 hx with rfl | hx
        · exact fun e' => ltB_ne h1 (e.trans e'.symm)
        · exact fun e' => ltB_ne (ltB_trans h1 (v.cons.2 x hx)) (e.trans e'.symm)
      rw [if_pos e, hn, look_cons, if_pos e]; rfl
    · rw [if_neg e, look_cons a, if_neg e]
  | case5 a h b w h1 h2 ih =>
    intro u v
    rw [look_cons, ih u v.cons.1]
    show (if b.key = k then _ else _) = _
    by_cases e : b.key = k
    · have hn : look Ent.key (a :: h) k = none := look_none fun x hx => by
        rcases List.mem_cons.1 hx with rfl | hx
        · exact fun e' => ltB_ne h2 (e.trans e'.symm)
        · exact fun e' => ltB_ne (ltB_trans h2 (u.cons.2 x hx)) (e.trans e'.symm)
      rw [if_pos e, hn, look_cons, if_pos e]; rfl
    · rw [if_neg e, look_cons b, if_neg e]
  | case6 a h b w h1 h2 h3 ih =>
    intro u v
    have hk := ltB_eq h1 h2
    rw [ih u.cons.1 v.cons.1, look_cons a, look_cons b]
    by_cases e : a.key = k
    · have e2 : b.key = k := hk ▸ e
      rw [if_pos e, if_pos e2]
      have n1 := u.tail_none
      have n2 := v.tail_none
      rw [e] at n1
      rw [e2] at n2
      rw [n1, n2]
      simp [Opn.should, h3]
    · rw [if_neg e, if_neg (fun e2 => e (hk.trans e2))]
  | case7 a h b w h1 h2 h3 ih =>
    intro u v
    have hk := ltB_eq h1 h2
    rw [look_cons, ih u.cons.1 v.cons.1, look_cons a, look_cons b]
    show (if b.key = k then _ else _) = _
    by_cases e : b.key = k
    · have e2 : a.key = k := hk.trans e
      rw [if_pos e, if_pos e, if_pos e2]
      simp [Opn.should, h3]
    · rw [if_neg e, if_neg e, if_neg (fun e2 => e (hk.symm.trans e2))]
theorem Ent.ext_ {a b : Ent} (h1 : a.key = b.key) (h2 : a.val = b.val) : a = b := by
  cases a; cases b; simp only at h1 h2; rw [h1, h2]
theorem Opn.apply_diff {h w : List Ent} (u : UpK Ent.key h) (v : UpK Ent.key w) : Opn.apply h (Opn.diff h w) = w := by
  refine look_ext (Opn.apply_up u _) v fun k => ?_
  rw [Opn.look_apply u (Opn.diff_up h w u v), Opn.look_diff h w k u v]
  cases hw : look Ent.key w k with
  | none =>
    cases hh : look Ent.key h k with
    | none => rfl
    | some a => rfl
  | some e =>
    cases hh : look Ent.key h k with
    | none => rfl
    | some a =>
      by_cases hv : a.val = e.val
      · simp only [Opn.should, Option.map_some, hv, if_true]
        rw [Ent.ext_ ((look_key hh).1.trans (look_key hw).1.symm) hv]
      · have : ¬ (some a.val = some e.val) := fun h => hv (by injection h)
        simp only [Opn.should, Option.map_some, if_neg this]
        rfl
theorem Opn.diff_nil {h w : List Ent} (u : UpK Ent.key h) (v : UpK Ent.key w) : Opn.diff h w = [] ↔ h = w := by
  constructor
  · intro e
    have := Opn.apply_diff u v
    rw [e] at this
    exact this
  · rintro rfl
    refine look_ext (Opn.diff_up h h u u) List.Pairwise.nil fun k => ?_
    rw [Opn.look_diff h h k u u]
    cases hh : look Ent.key h k with
    | none => rfl
    | some a => simp [Opn.should, look]
/-- None of it can be left out. -/
theorem Opn.diff_just {h w : List Ent} (u : UpK Ent.key h) (v : UpK Ent.key w) {i : Nat} (hi : i < (Opn.diff h w).length) (less : List Opn) (hl : less = (Opn.diff h w).take i ++ (Opn.diff h w).drop (i + 1)) : Opn.apply h less ≠ w := by
  intro e
  have hup := Opn.diff_up h w u v
  have hsub : less.Sublist (Opn.diff h w) := by
    rw [hl]
    conv => rhs; rw [← List.take_append_drop i (Opn.diff h w)]
    exact List.Sublist.append (List.Sublist.refl _) (by rw [← List.drop_drop]; exact List.drop_sublist 1 _)
  have hlu : UpK Opn.key less := hup.sublist hsub
  obtain ⟨x, hx⟩ : ∃ x, x = (Opn.diff h w)[i] := ⟨_, rfl⟩
  have hno : look Opn.key less x.key = none := look_none fun b hb => by
    rw [hl] at hb
    have hp := List.pairwise_iff_getElem.1 hup
    rcases List.mem_append.1 hb with hb | hb
    · obtain ⟨j, hj, rfl⟩ := List.getElem_of_mem hb
      rw [List.length_take] at hj
      rw [List.getElem_take, hx]
      exact ltB_ne (hp j i (by omega) hi (by omega))
    · obtain ⟨j, hj, rfl⟩ := List.getElem_of_mem hb
      rw [List.length_drop] at hj
      rw [List.getElem_drop, hx]
      exact (ltB_ne (hp i (i + 1 + j) hi (by omega) (by omega))).symm
  have hyes : look Opn.key (Opn.diff h w) x.key = some x := look_mem hup (by rw [hx]; exact List.getElem_mem hi)
  rw [Opn.look_diff h w _ u v] at hyes
  have h1 := Opn.look_apply u hlu x.key
  rw [e, hno] at h1
  simp only at h1
  rw [h1] at hyes
  cases hh : look Ent.key h x.key with
  | none => rw [hh] at hyes; cases hyes
  | some a => rw [hh] at hyes; simp [Opn.should] at hyes

/-- Two lists of operations as one: what the second says wins. -/
def Opn.merge (a b : List Opn) : List Opn := match a, b with
  | [], [] => []
  | x :: a, [] => x :: Opn.merge a []
  | [], y :: b => y :: Opn.merge [] b
  | x :: a, y :: b => if ltB y.key x.key = true then y :: Opn.merge (x :: a) b else if ltB x.key y.key = true then x :: Opn.merge a (y :: b) else y :: Opn.merge a b
termination_by a.length + b.length
theorem Opn.mem_merge (a b : List Opn) : ∀ o ∈ Opn.merge a b, o ∈ a ∨ o ∈ b := by
  fun_induction Opn.merge a b with
  | case1 => simp
  | case2 x a ih => intro o ho; rcases List.mem_cons.1 ho with rfl | ho; · simp
                    · rcases ih o ho with h | h; · simp [h]
                      · cases h
  | case3 y b ih => intro o ho; rcases List.mem_cons.1 ho with rfl | ho; · simp
                    · rcases ih o ho with h | h; · cases h
                      · simp [h]
  | case4 x a y b h1 ih => intro o ho; rcases List.mem_cons.1 ho with rfl | ho; · simp
                           · rcases ih o ho with h | h; · exact .inl h
                             · simp [h]
  | case5 x a y b h1 h2 ih => intro o ho; rcases List.mem_cons.1 ho with rfl | ho; · simp
                              · rcases ih o ho with h | h; · simp [h]
                                · exact .inr h
  | case6 x a y b h1 h2 ih => intro o ho; rcases List.mem_cons.1 ho with rfl | ho; · simp
                              · rcases ih o ho with h | h <;> simp [h]
theorem Opn.merge_gt {a b : List Opn} {k : List UInt8} (h1 : ∀ x ∈ a, ltB k x.key = true) (h2 : ∀ x ∈ b, ltB k x.key = true) : ∀ o ∈ Opn.merge a b, ltB k o.key = true := fun o ho => (Opn.mem_merge a b o ho).elim (h1 o) (h2 o)
theorem Opn.merge_up (a b : List Opn) : UpK Opn.key a → UpK Opn.key b → UpK Opn.key (Opn.merge a b) := by
  fun_induction Opn.merge a b with
  | case1 => intro _ _; exact List.Pairwise.nil
  | case2 x a ih => intro u v; exact List.pairwise_cons.2 ⟨Opn.merge_gt u.cons.2 (by simp), ih u.cons.1 v⟩
  | case3 y b ih => intro u v; exact List.pairwise_cons.2 ⟨Opn.merge_gt (by simp) v.cons.2, ih u v.cons.1⟩
  | case4 x a y b h1 ih =>
    intro u v
    refine List.pairwise_cons.2 ⟨Opn.merge_gt (fun z hz => ?_) v.cons.2, ih u v.cons.1⟩
    rcases List.mem_cons.1 hz with rfl | hz
    · exact h1
    · exact ltB_trans h1 (u.cons.2 z hz)
  | case5 x a y b h1 h2 ih =>
    intro u v
    refine List.pairwise_cons.2 ⟨Opn.merge_gt u.cons.2 (fun z hz => ?_), ih u.cons.1 v⟩
    rcases List.mem_cons.1 hz with rfl | hz
    · exact h2
    · exact ltB_trans h2 (v.cons.2 z hz)
  | case6 x a y b h1 h2 ih =>
    intro u v
    refine List.pairwise_cons.2 ⟨Opn.merge_gt (fun z hz => ?_) v.cons.2, ih u.cons.1 v.cons.1⟩
    have := u.cons.2 z hz
    rwa [ltB_eq h2 h1] at this
theorem Opn.look_merge (a b : List Opn) (k : List UInt8) : UpK Opn.key a → UpK Opn.key b → look Opn.key (Opn.merge a b) k = (look Opn.key b k).or (look Opn.key a k) := by
  fun_induction Opn.merge a b with
  | case1 => intro _ _; rfl
  | case2 x a ih =>
    intro u v
    rw [look_cons, look_cons, ih u.cons.1 v]
    rw [look_nil]
    simp
  | case3 y b ih =>
    intro u v
    rw [look_cons, look_cons, ih u v.cons.1]
    rw [look_nil]
    simp
  | case4 x a y b h1 ih =>
    intro u v
    rw [look_cons, ih u v.cons.1, look_cons y]
    by_cases e : y.key = k
    · rw [if_pos e, if_pos e]; rfl
    · rw [if_neg e, if_neg e]
  | case5 x a y b h1 h2 ih =>
    intro u v
    rw [look_cons, ih u.cons.1 v, look_cons x]
    by_cases e : x.key = k
    · have hn : look Opn.key (y :: b) k = none := look_none fun z hz => by
        rcases List.mem_cons.1 hz with rfl | hz
        · exact fun e' => ltB_ne h2 (e.trans e'.symm)
        · exact fun e' => ltB_ne (ltB_trans h2 (v.cons.2 z hz)) (e.trans e'.symm)
      rw [if_pos e, if_pos e, hn]; rfl
    · rw [if_neg e, if_neg e]
  | case6 x a y b h1 h2 ih =>
    intro u v
    have hk := ltB_eq h2 h1
    rw [look_cons, ih u.cons.1 v.cons.1, look_cons x, look_cons y]
    by_cases e : y.key = k
    · rw [if_pos e, if_pos e]; rfl
    · rw [if_neg e, if_neg e, if_neg (fun e2 => e (hk.symm.trans e2))]
/-- The same, one behind the other put in where there is none. -/
def Opn.mergeIn (out : List Opn) (x : Opn) : List Opn := if (look Opn.key out x.key).isSome = true then out else putK Opn.key x out
theorem Opn.mergeIn_up {out : List Opn} (h : UpK Opn.key out) (x : Opn) : UpK Opn.key (Opn.mergeIn out x) := by
  unfold Opn.mergeIn
  split
  · exact h
  · exact h.putK
theorem Opn.fold_merge (a b : List Opn) (u : UpK Opn.key a) (v : UpK Opn.key b) : a.foldl Opn.mergeIn b = Opn.merge a b := by
  have key : ∀ (a b : List Opn), UpK Opn.key b → UpK Opn.key (a.foldl Opn.mergeIn b) ∧ ∀ k, look Opn.key (a.foldl Opn.mergeIn b) k = (look Opn.key b k).or (look Opn.key a k) := by
    intro a
    induction a with
    | nil => intro b hb; exact ⟨hb, fun k => by simp [look_nil]⟩
    | cons x a ih =>
      intro b hb
      obtain ⟨h1, h2⟩ := ih (Opn.mergeIn b x) (Opn.mergeIn_up hb x)
      refine ⟨h1, fun k => ?_⟩
      rw [List.foldl_cons, h2, look_cons]
      unfold Opn.mergeIn
      cases hl : look Opn.key b x.key with
      | some y =>
        simp only [Option.isSome_some, if_true]
        by_cases e : x.key = k
        · rw [if_pos e, ← e, hl]; rfl
        · rw [if_neg e]
      | none =>
        simp only [Option.isSome_none, Bool.false_eq_true, if_false, look_putK]
        by_cases e : x.key = k
        · rw [if_pos e, if_pos e, ← e, hl]; rfl
        · rw [if_neg e, if_neg e]
  obtain ⟨h1, h2⟩ := key a b v
  exact look_ext h1 (Opn.merge_up a b u v) fun k => by rw [h2, Opn.look_merge a b k u v]
theorem Opn.behind {l : List Ent} {a b : List Opn} (h : UpK Ent.key l) (u : UpK Opn.key a) (v : UpK Opn.key b) : Opn.apply (Opn.apply l a) b = Opn.apply l (Opn.merge a b) := by
  refine look_ext (Opn.apply_up (Opn.apply_up h _) _) (Opn.apply_up h _) fun k => ?_
  rw [Opn.look_apply (Opn.apply_up h _) v, Opn.look_apply h u, Opn.look_apply h (Opn.merge_up a b u v), Opn.look_merge a b k u v]
  cases look Opn.key b k with
  | some x => rfl
  | none => rfl
/-- The document's answer for what must be done: key by key. -/
def Opn.keysOf (h w : List Ent) : List Ent := (h ++ w).foldl (fun m e => putK Ent.key ⟨e.key, []⟩ m) []
def Opn.ref (h w : List Ent) (k : List UInt8) : Option Opn := Opn.should (look Ent.key h k) (look Ent.key w k)
theorem Opn.fold_keys (l : List Ent) : ∀ m : List Ent, UpK Ent.key m → UpK Ent.key (l.foldl (fun m e => putK Ent.key ⟨e.key, []⟩ m) m) ∧ ∀ k, (look Ent.key (l.foldl (fun m e => putK Ent.key ⟨e.key, []⟩ m) m) k).isSome = ((look Ent.key m k).isSome || (look Ent.key l k).isSome) := by
  induction l with
  | nil => intro m hm; exact ⟨hm, fun k => by simp [look_nil]⟩
  | cons e l ih =>
    intro m hm
    obtain ⟨h1, h2⟩ := ih (putK Ent.key ⟨e.key, []⟩ m) hm.putK
    refine ⟨h1, fun k => ?_⟩
    rw [List.foldl_cons, h2, look_putK, look_cons]
    show ((if e.key = k then _ else _ : Option Ent).isSome || _) = _
    by_cases h : e.key = k
    · rw [if_pos h, if_pos h]; simp
    · rw [if_neg h, if_neg h]
theorem look_app {α : Type} {key : α → List UInt8} (a b : List α) (k : List UInt8) : look key (a ++ b) k = (look key a k).or (look key b k) := by
  unfold look; rw [List.find?_append]
theorem Opn.ref_diff {h w : List Ent} (u : UpK Ent.key h) (v : UpK Ent.key w) : (Opn.keysOf h w).filterMap (fun e => Opn.ref h w e.key) = Opn.diff h w := by
  obtain ⟨h1, h2⟩ := Opn.fold_keys (h ++ w) [] List.Pairwise.nil
  have hk : ∀ k o, Opn.ref h w k = some o → o.key = k := by
    intro k o ho
    unfold Opn.ref Opn.should at ho
    cases hw : look Ent.key w k with
    | none =>
      rw [hw] at ho
      cases hh : look Ent.key h k with
      | none => rw [hh] at ho; cases ho
      | some a => rw [hh] at ho; simp only [Option.map_some, Option.some.injEq] at ho; rw [← ho]; exact (look_key hh).1
    | some e =>
      rw [hw] at ho
      simp only at ho
      split at ho
      · cases ho
      · injection ho with ho; rw [← ho]; exact (look_key hw).1
  have gen : ∀ U : List Ent, UpK Ent.key U → UpK Opn.key (U.filterMap fun e => Opn.ref h w e.key) ∧ ∀ k, look Opn.key (U.filterMap fun e => Opn.ref h w e.key) k = if (look Ent.key U k).isSome = true then Opn.ref h w k else none := by
    intro U
    induction U with
    | nil => intro _; exact ⟨List.Pairwise.nil, fun k => rfl⟩
    | cons e U ih =>
      intro hU
      obtain ⟨i1, i2⟩ := ih hU.cons.1
      have hmem : ∀ o ∈ U.filterMap (fun e => Opn.ref h w e.key), ltB e.key o.key = true := by
        intro o ho
        obtain ⟨x, hx, hxo⟩ := List.mem_filterMap.1 ho
        rw [hk _ _ hxo]
        exact hU.cons.2 x hx
      cases hr : Opn.ref h w e.key with
      | none =>
        rw [List.filterMap_cons_none (f := fun e : Ent => Opn.ref h w e.key) hr]
        refine ⟨i1, fun k => ?_⟩
        rw [i2, look_cons]
        by_cases h' : e.key = k
        · rw [if_pos h', ← h', hU.tail_none, hr]; simp
        · rw [if_neg h']
      | some o =>
        rw [List.filterMap_cons_some (f := fun e : Ent => Opn.ref h w e.key) hr]
        refine ⟨List.pairwise_cons.2 ⟨fun b hb => by rw [hk _ _ hr]; exact hmem b hb, i1⟩, fun k => ?_⟩
        rw [look_cons, i2, hk _ _ hr, look_cons]
        by_cases h' : e.key = k
        · rw [if_pos h', if_pos h', ← h', hr]; simp
        · rw [if_neg h', if_neg h']
  obtain ⟨g1, g2⟩ := gen _ h1
  refine look_ext g1 (Opn.diff_up h w u v) fun k => ?_
  refine (g2 k).trans ?_
  rw [h2, Opn.look_diff h w k u v]
  show (if _ then Opn.should (look Ent.key h k) (look Ent.key w k) else none) = _
  rw [look_app]
  cases hh : look Ent.key h k with
  | some a => simp
  | none =>
    cases hw : look Ent.key w k with
    | some b => simp [look_nil]
    | none => simp [look_nil, Opn.should]
end Go.Proofs.Ytdekdblebflklaa
