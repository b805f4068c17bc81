
/- Plain words and laws for operations as bytes. -/

import Derived.Test.YtdekdblebflklaaOpPlain

import Derived.Test.YtdekdblebflklaaVintPlain

import Derived.Test.YtdekdblebflklaaVintCanon

namespace Go.Proofs.Ytdekdblebflklaa

theorem Vint.getBytes_canon {b k : List UInt8} {n : Nat} (h : Vint.getBytes b = (k, n, 0)) : Vint.putBytes k = b.take n ∧ 1 ≤ n ∧ n ≤ b.length := by
  unfold Vint.getBytes at h
  split at h
  · rename_i h0
    simp only [Prod.mk.injEq] at h
    exact absurd h.2.2 h0
  · rename_i h0
    split at h
    · simp at h
    · rename_i h1
      have hg : Vint.get b = ((Vint.get b).1, (Vint.get b).2.1, 0) := by
        have : (Vint.get b).2.2 = 0 := Classical.byContradiction h0
        rw [← this]
      obtain ⟨c1, c2, c3⟩ := Vint.get_canon hg
      simp only [Prod.mk.injEq, and_true] at h
      obtain ⟨h2, h3⟩ := h
      have hkl : k.length = (Vint.get b).1 := by rw [← h2, List.length_take, List.length_drop]; omega
      refine ⟨?_, by omega, by omega⟩
      unfold Vint.putBytes
      rw [hkl, c1, ← h3, List.take_add, ← h2]
/-- Operations' bytes. -/
def Opn.bytes (o : Opn) : List UInt8 := if o.del = true then 1 :: Vint.putBytes o.key else 0 :: (Vint.putBytes o.key ++ Vint.putBytes o.val)
def Opn.putAll (l : List Opn) : List UInt8 := l.flatMap Opn.bytes
/-- The operation with which bytes begin, and how long it is. -/
def Opn.one (b : List UInt8) : Option (Opn × Nat) := match b with
  | [] => none
  | t :: r => if 1 < t.toNat then none else
    if (Vint.getBytes r).2.2 ≠ 0 ∨ ¬ (1 ≤ (Vint.getBytes r).1.length ∧ (Vint.getBytes r).1.length ≤ 24) then none else
    if t.toNat = 1 then some (⟨true, (Vint.getBytes r).1, []⟩, 1 + (Vint.getBytes r).2.1) else
    if (Vint.getBytes (r.drop (Vint.getBytes r).2.1)).2.2 ≠ 0 ∨ 1000 < (Vint.getBytes (r.drop (Vint.getBytes r).2.1)).1.length then none else
      some (⟨false, (Vint.getBytes r).1, (Vint.getBytes (r.drop (Vint.getBytes r).2.1)).1⟩, 1 + (Vint.getBytes r).2.1 + (Vint.getBytes (r.drop (Vint.getBytes r).2.1)).2.1)
def Opn.bars (acc : List Opn) (x : Opn) : Bool := match acc.getLast? with | none => false | some y => !ltB y.key x.key
def Opn.getF : Nat → List Opn → List UInt8 → Option (List Opn)
  | 0, acc, b => if b = [] then some acc else none
  | f + 1, acc, b => if b = [] then some acc else match Opn.one b with
    | none => none
    | some (x, n) => if Opn.bars acc x = true then none else Opn.getF f (acc ++ [x]) (b.drop n)
def Opn.getAll (b : List UInt8) : Option (List Opn) := Opn.getF b.length [] b
theorem Opn.one_bytes {o : Opn} (h : o.Ok) (r : List UInt8) : Opn.one (o.bytes ++ r) = some (o, o.bytes.length) := by
  obtain ⟨d, k, v⟩ := o
  obtain ⟨h1, h2, h3⟩ := h
  simp only at h1 h2 h3
  cases d with
  | true =>
    obtain rfl := h3 rfl
    have e1 := Vint.getBytes_putBytes k r (by omega)
    simp only [Opn.bytes, if_true, List.cons_append, Opn.one, e1]
    simp [h1]
    omega
  | false =>
    have e1 := Vint.getBytes_putBytes k (Vint.putBytes v ++ r) (by omega)
    have e2 := Vint.getBytes_putBytes v r (by omega)
    have e3 : (Vint.putBytes k ++ (Vint.putBytes v ++ r)).drop (Vint.putBytes k).length = Vint.putBytes v ++ r := List.drop_left
    simp only [Opn.bytes, Bool.false_eq_true, if_false, List.cons_append, List.append_assoc, Opn.one, e1, e3, e2]
    simp [h1]
    omega
theorem Opn.one_some {b : List UInt8} {x : Opn} {n : Nat} (h : Opn.one b = some (x, n)) : x.Ok ∧ x.bytes = b.take n ∧ 1 ≤ n ∧ n ≤ b.length := by
  cases b with
  | nil => simp [Opn.one] at h
  | cons t r =>
    simp only [Opn.one] at h
    split at h
    · cases h
    · rename_i ht
      split at h
      · cases h
      · rename_i hk
        have hk1 : (Vint.getBytes r).2.2 = 0 := Classical.byContradiction fun e => hk (.inl e)
        have hk2 : 1 ≤ (Vint.getBytes r).1.length ∧ (Vint.getBytes r).1.length ≤ 24 := Classical.byContradiction fun e => hk (.inr e)
        obtain ⟨c1, c2, c3⟩ := Vint.getBytes_canon (b := r) (k := (Vint.getBytes r).1) (n := (Vint.getBytes r).2.1) (by rw [← hk1])
        split at h
        · rename_i h1
          simp only [Option.some.injEq, Prod.mk.injEq] at h
          obtain ⟨rfl, rfl⟩ := h
          refine ⟨⟨hk2, by simp, fun _ => rfl⟩, ?_, by omega, by simp only [List.length_cons]; omega⟩
          rw [Nat.add_comm, List.take_succ_cons, ← c1]
          have : t = 1 := by rw [← UInt8.toNat_inj]; simpa using h1
          simp [Opn.bytes, this]
        · rename_i h1
          split at h
          · cases h
          · rename_i hv
            have hv1 : (Vint.getBytes (r.drop (Vint.getBytes r).2.1)).2.2 = 0 := Classical.byContradiction fun e => hv (.inl e)
            have hv2 : (Vint.getBytes (r.drop (Vint.getBytes r).2.1)).1.length ≤ 1000 := Nat.not_lt.1 fun e => hv (.inr e)
            obtain ⟨d1, d2, d3⟩ := Vint.getBytes_canon (b := r.drop (Vint.getBytes r).2.1) (k := (Vint.getBytes (r.drop (Vint.getBytes r).2.1)).1) (n := (Vint.getBytes (r.drop (Vint.getBytes r).2.1)).2.1) (by rw [← hv1])
            simp only [Option.some.injEq, Prod.mk.injEq] at h
            obtain ⟨rfl, rfl⟩ := h
            rw [List.length_drop] at d3
            refine ⟨⟨hk2, hv2, fun h => by cases h⟩, ?_, by omega, by simp only [List.length_cons]; omega⟩
            have e1 : (t :: r).take (1 + (Vint.getBytes r).2.1 + (Vint.getBytes (r.drop (Vint.getBytes r).2.1)).2.1) = t :: r.take ((Vint.getBytes r).2.1 + (Vint.getBytes (r.drop (Vint.getBytes r).2.1)).2.1) := by
              rw [show 1 + (Vint.getBytes r).2.1 + (Vint.getBytes (r.drop (Vint.getBytes r).2.1)).2.1 = ((Vint.getBytes r).2.1 + (Vint.getBytes (r.drop (Vint.getBytes r).2.1)).2.1) + 1 by omega, List.take_succ_cons]
            have : t = 0 := by rw [← UInt8.toNat_inj]; simp; omega
            rw [e1, List.take_add, ← c1, ← d1, this]
            simp [Opn.bytes]
theorem Opn.bars_of {acc : List Opn} {x : Opn} (h : UpK Opn.key (acc ++ [x])) : Opn.bars acc x = false := by
  unfold Opn.bars
  cases hl : acc.getLast? with
  | none => rfl
  | some y =>
    simp only [Bool.not_eq_false']
    have := (List.pairwise_append.1 h).2.2 y (List.mem_of_getLast? hl) x (by simp)
    exact this
theorem Opn.up_snoc {acc : List Opn} {x : Opn} (h : UpK Opn.key acc) (hb : ¬ Opn.bars acc x = true) : UpK Opn.key (acc ++ [x]) := by
  refine List.pairwise_append.2 ⟨h, by simp, fun a ha b hx => ?_⟩
  simp only [List.mem_cons, List.not_mem_nil, or_false] at hx
  subst hx
  unfold Opn.bars at hb
  cases hl : acc.getLast? with
  | none =>
    rw [List.getLast?_eq_none_iff] at hl
    subst hl; cases ha
  | some y =>
    rw [hl] at hb
    simp only [Bool.not_eq_true', Bool.not_eq_false] at hb
    obtain ⟨l0, rfl⟩ := List.getLast?_eq_some_iff.1 hl
    rcases List.mem_append.1 ha with ha | ha
    · exact ltB_trans ((List.pairwise_append.1 h).2.2 a ha y (by simp)) hb
    · simp only [List.mem_cons, List.not_mem_nil, or_false] at ha
      subst ha; exact hb
theorem Opn.bytes_pos (o : Opn) : 1 ≤ o.bytes.length := by unfold Opn.bytes; split <;> simp
theorem Opn.getF_put : ∀ (l : List Opn) (f : Nat) (acc : List Opn), (∀ o ∈ l, o.Ok) → UpK Opn.key (acc ++ l) → (Opn.putAll l).length ≤ f → Opn.getF f acc (Opn.putAll l) = some (acc ++ l)
  | [], f, acc, _, _, _ => by cases f <;> simp [Opn.putAll, Opn.getF]
  | o :: l, f, acc, hok, hu, hf => by
    have hc : Opn.putAll (o :: l) = o.bytes ++ Opn.putAll l := by simp [Opn.putAll]
    have hp := o.bytes_pos
    rw [hc] at hf ⊢
    rw [List.length_append] at hf
    cases f with
    | zero => omega
    | succ f =>
      unfold Opn.getF
      rw [if_neg (by intro e; have := congrArg List.length e; rw [List.length_append] at this; simp at this; rw [this.1] at hp; simp at hp), Opn.one_bytes (hok o (by simp))]
      have e1 : acc ++ o :: l = (acc ++ [o]) ++ l := by simp
      rw [e1] at hu ⊢
      have hb : Opn.bars acc o = false := Opn.bars_of (hu.sublist (List.sublist_append_left _ _))
      simp only [hb, Bool.false_eq_true, if_false, List.drop_left]
      exact Opn.getF_put l f (acc ++ [o]) (fun x hx => hok x (by simp [hx])) hu (by omega)
theorem Opn.getF_some : ∀ (f : Nat) (acc : List Opn) (b : List UInt8) (y : List Opn), Opn.getF f acc b = some y → (∀ o ∈ acc, o.Ok) → UpK Opn.key acc → Opn.Right y ∧ Opn.putAll y = Opn.putAll acc ++ b
  | 0, acc, b, y, h, hok, hu => by
    unfold Opn.getF at h
    split at h
    · rename_i hb
      injection h with h
      subst h hb
      exact ⟨⟨hok, hu⟩, by simp⟩
    · cases h
  | f + 1, acc, b, y, h, hok, hu => by
    unfold Opn.getF at h
    split at h
    · rename_i hb
      injection h with h
      subst h hb
      exact ⟨⟨hok, hu⟩, by simp⟩
    · split at h
      · cases h
      · rename_i x n hx
        split at h
        · cases h
        · rename_i hb
          obtain ⟨h1, h2, h3, h4⟩ := Opn.one_some hx
          obtain ⟨i1, i2⟩ := Opn.getF_some f (acc ++ [x]) (b.drop n) y h (fun o ho => by
            rcases List.mem_append.1 ho with ho | ho
            · exact hok o ho
            · simp only [List.mem_cons, List.not_mem_nil, or_false] at ho
              subst ho; exact h1) (Opn.up_snoc hu hb)
          refine ⟨i1, ?_⟩
          rw [i2]
          have : Opn.putAll (acc ++ [x]) = Opn.putAll acc ++ x.bytes := by simp [Opn.putAll]
          rw [this, h2, List.append_assoc, List.take_append_drop]
theorem Opn.getAll_putAll {l : List Opn} (h : Opn.Right l) : Opn.getAll (Opn.putAll l) = some l := Opn.getF_put l _ [] h.ok h.up (Nat.le_refl _)
theorem Opn.getAll_some {b : List UInt8} {y : List Opn} (h : Opn.getAll b = some y) : Opn.Right y ∧ Opn.putAll y = b := by
  have := Opn.getF_some _ [] b y h (by simp) List.Pairwise.nil
  simpa [Opn.putAll] using this
end Go.Proofs.Ytdekdblebflklaa
