
/- Cells as bytes, in plain Lean: the program's reading (what is read is put again and compared) is the document's. -/

import Derived.Test.YtkpagmfaccmiaaaGreatVintCanon

namespace Go.Proofs.YtkpagmfaccmiaaaGreat

structure Cl where
  key : List UInt8
  size : Int
  val : List UInt8
  over : Nat
  kid : Nat
namespace Cl

def zero : Cl := ⟨[], 0, [], 0, 0⟩
def leaf (c : Cl) : Bool :=
  decide (1 ≤ c.key.length) && decide (c.key.length ≤ 24) && decide (0 ≤ c.size) && decide (c.size ≤ 1000) && decide (c.kid = 0) &&
    (if c.size ≤ 40 then decide ((c.val.length : Int) = c.size) && decide (c.over = 0) else decide (c.val.length = 0) && decide (0 < c.over))
def flatL (c : Cl) : List UInt8 := UInt8.ofNat c.key.length :: c.key ++ Vint.put c.size.toNat ++ (if c.size ≤ 40 then c.val else Vint.fixL c.over 4)
def putL (c : Cl) : List UInt8 × Nat := if c.leaf then (c.flatL, 0) else ([], 70)
def inner (c : Cl) : Bool := decide (c.key.length ≤ 24) && decide (0 < c.kid) && decide (c.size = 0) && decide (c.over = 0) && decide (c.val.length = 0)
def flatI (c : Cl) : List UInt8 := Vint.fixL c.kid 4 ++ UInt8.ofNat c.key.length :: c.key
def putI (c : Cl) : List UInt8 × Nat := if c.inner then (c.flatI, 0) else ([], 70)
/-- What bytes would be as a leaf's cell. -/
def candL (b : List UInt8) : Option Cl :=
  match b with
  | [] => none
  | k :: t =>
    let r := t.drop k.toNat
    if (Vint.get r).2.2 = 0 ∧ (Vint.get r).1 ≤ 1000 then
      some ⟨t.take k.toNat, (Vint.get r).1, if (Vint.get r).1 ≤ 40 then r.drop (Vint.get r).2.1 else [], if (Vint.get r).1 ≤ 40 then 0 else Vint.number (r.drop (Vint.get r).2.1) % 4294967296, 0⟩
    else none
def getL (b : List UInt8) : Cl × Nat :=
  match candL b with
  | none => (zero, 70)
  | some c => if c.leaf = true ∧ c.flatL = b then (c, 0) else (zero, 70)
/-- The document's reading. -/
def refL (b : List UInt8) : Cl × Nat :=
  match b with
  | [] => (zero, 70)
  | k :: t =>
    if t.length < k.toNat then (zero, 70)
    else
      match candL (k :: t) with
      | none => (zero, 70)
      | some c => if (c.size ≤ 40 ∨ ((t.drop k.toNat).drop (Vint.get (t.drop k.toNat)).2.1).length = 4) ∧ c.leaf = true then (c, 0) else (zero, 70)

theorem fix_num (a b c d : UInt8) : Vint.fixL (Vint.number [a, b, c, d]) 4 = [a, b, c, d] := by
  have ha := a.toNat_lt
  have hb := b.toNat_lt
  have hc := c.toNat_lt
  have hd := d.toNat_lt
  simp only [Vint.number, Vint.numL, List.length_cons, List.length_nil, List.foldl_cons, List.foldl_nil, Nat.reduceAdd, Nat.reduceLeDiff, if_true, Nat.zero_mul, Nat.zero_add]
  show [Vint.fixB _ 4 0, Vint.fixB _ 4 1, Vint.fixB _ 4 2, Vint.fixB _ 4 3] = _
  simp only [Vint.fixB, List.cons.injEq, and_true, ← UInt8.toNat_inj, UInt8.toNat_ofNat', Nat.reduceSub, Nat.reducePow, Nat.div_one]
  omega
theorem num_lt4 (l : List UInt8) (h : l.length = 4) : Vint.number l < 4294967296 := by
  have := Vint.numL_lt l
  rw [h] at this
  unfold Vint.number
  rw [if_pos (by omega)]
  simpa using this
theorem fix_num' (l : List UInt8) (h : l.length = 4) : Vint.fixL (Vint.number l % 4294967296) 4 = l := by
  rw [Nat.mod_eq_of_lt (num_lt4 l h)]
  match l, h with
  | [a, b, c, d], _ => exact fix_num a b c d
theorem ofNat_key (k : UInt8) (n : Nat) (hn : n ≤ 24) (h : UInt8.ofNat n = k) : n = k.toNat := by
  rw [← h, UInt8.toNat_ofNat', Nat.mod_eq_of_lt (by omega)]

theorem refL_is (b : List UInt8) : refL b = getL b := by
  cases b with
  | nil => rfl
  | cons k t =>
    unfold refL getL
    simp only
    by_cases hk : t.length < k.toNat
    · rw [if_pos hk]
      cases hc : candL (k :: t) with
      | none => rfl
      | some c =>
        simp only
        rw [if_neg]
        rintro ⟨h1, h2⟩
        have hkey : c.key = t := by
          unfold candL at hc
          simp only at hc
          split at hc
          · injection hc with hc
            rw [← hc]
            exact List.take_of_length_le (by omega)
          · cases hc
        have h24 : c.key.length ≤ 24 := by unfold leaf at h1; simp only [Bool.and_eq_true, decide_eq_true_eq] at h1; omega
        unfold flatL at h2
        simp only [List.cons_append, List.cons.injEq] at h2
        have := ofNat_key k c.key.length h24 h2.1
        rw [hkey] at this
        omega
    · rw [if_neg hk]
      cases hc : candL (k :: t) with
      | none => rfl
      | some c =>
        simp only
        unfold candL at hc
        simp only at hc
        split at hc
        · rename_i hg
          injection hc with hc
          obtain ⟨r, hr⟩ : ∃ r, r = t.drop k.toNat := ⟨_, rfl⟩
          rw [← hr] at hc hg ⊢
          obtain ⟨n, w, e, hget⟩ : ∃ n w e, Vint.get r = (n, w, e) := ⟨_, _, _, rfl⟩
          rw [hget] at hc hg ⊢
          simp only at hc hg ⊢
          obtain ⟨he, hn⟩ := hg
          subst he
          obtain ⟨c1, c2, c3⟩ := Vint.get_canon hget
          have hkl : (t.take k.toNat).length = k.toNat := by rw [List.length_take]; omega
          have hflat : c.flatL = k :: t ↔ (c.size ≤ 40 ∨ (r.drop w).length = 4) := by
            have htt : t = t.take k.toNat ++ (r.take w ++ r.drop w) := by rw [List.take_append_drop, hr, List.take_append_drop]
            have hof : UInt8.ofNat k.toNat = k := UInt8.ofNat_toNat
            rw [← hc]
            unfold flatL
            simp only [hkl, hof, Int.toNat_natCast, c1, List.cons_append, List.cons.injEq, true_and]
            by_cases h40 : n ≤ 40
            · have hi : (n : Int) ≤ 40 := by omega
              rw [if_pos hi, if_pos h40]
              constructor
              · intro _; exact .inl hi
              · intro _
                rw [List.append_assoc, ← htt]
            · have hi : ¬ (n : Int) ≤ 40 := by omega
              rw [if_neg hi, if_neg h40]
              constructor
              · intro h
                right
                have h2 : t.take k.toNat ++ (r.take w ++ Vint.fixL (Vint.number (r.drop w) % 4294967296) 4) = t.take k.toNat ++ (r.take w ++ r.drop w) := by rw [← htt, ← List.append_assoc]; exact h
                have h3 := List.append_cancel_left (List.append_cancel_left h2)
                rw [← h3, Vint.fixL_len]
              · intro h
                rcases h with h | h
                · omega
                · rw [fix_num' _ h, List.append_assoc, ← htt]
          by_cases h1 : c.leaf = true
          · by_cases h2 : c.flatL = k :: t
            · rw [if_pos ⟨hflat.1 h2, h1⟩, if_pos ⟨h1, h2⟩]
            · rw [if_neg (fun h => h2 (hflat.2 h.1)), if_neg (fun h => h2 h.2)]
          · rw [if_neg (fun h => h1 h.2), if_neg (fun h => h1 h.1)]
        · cases hc

def candI (b : List UInt8) : Cl := ⟨if 5 ≤ b.length then (b.drop 5).take (b.getD 4 0).toNat else [], 0, [], 0, Vint.number (b.take 4) % 4294967296⟩
def getI (b : List UInt8) : Cl × Nat := if (candI b).inner = true ∧ (candI b).flatI = b then (candI b, 0) else (zero, 70)
def refI (b : List UInt8) : Cl × Nat := if b.length < 5 ∨ b.length ≠ 5 + (b.getD 4 0).toNat then (zero, 70) else if (candI b).inner = true then (candI b, 0) else (zero, 70)
theorem refI_is (b : List UInt8) : refI b = getI b := by
  unfold refI getI
  by_cases h5 : b.length < 5
  · rw [if_pos (.inl h5), if_neg]
    rintro ⟨_, h⟩
    have := congrArg List.length h
    unfold flatI at this
    simp only [List.length_append, Vint.fixL_len, List.length_cons] at this
    omega
  · have hb4 : b = b.take 4 ++ b.getD 4 0 :: b.drop 5 := by
      have h1 : b.drop 4 = b.getD 4 0 :: b.drop 5 := by
        rw [List.drop_eq_getElem_cons (by omega)]
        simp [List.getElem?_eq_getElem (show 4 < b.length by omega)]
      rw [← h1, List.take_append_drop]
    have ht4 : (b.take 4).length = 4 := by rw [List.length_take]; omega
    by_cases hl : b.length = 5 + (b.getD 4 0).toNat
    · rw [if_neg (by omega)]
      have hkey : (candI b).key = b.drop 5 := by
        unfold candI
        simp only
        rw [if_pos (by omega), List.take_of_length_le (by rw [List.length_drop]; omega)]
      have hflat : (candI b).flatI = b := by
        unfold flatI
        rw [hkey, List.length_drop, show b.length - 5 = (b.getD 4 0).toNat by omega, UInt8.ofNat_toNat]
        show Vint.fixL (Vint.number (b.take 4) % 4294967296) 4 ++ _ = _
        rw [fix_num' _ ht4]
        exact hb4.symm
      by_cases h1 : (candI b).inner = true
      · rw [if_pos h1, if_pos ⟨h1, hflat⟩]
      · rw [if_neg h1, if_neg (fun h => h1 h.1)]
    · rw [if_pos (.inr hl), if_neg]
      rintro ⟨h1, h⟩
      have h24 : (candI b).key.length ≤ 24 := by unfold inner at h1; simp only [Bool.and_eq_true, decide_eq_true_eq] at h1; omega
      have hlen := congrArg List.length h
      unfold flatI at hlen
      simp only [List.length_append, Vint.fixL_len, List.length_cons] at hlen
      have hkl : (candI b).key.length ≤ (b.getD 4 0).toNat := by
        unfold candI
        simp only
        rw [if_pos (by omega), List.length_take]
        omega
      have h4 : (candI b).flatI.getD 4 0 = b.getD 4 0 := by rw [h]
      unfold flatI at h4
      rw [List.getD_eq_getElem?_getD, List.getElem?_append_right (by rw [Vint.fixL_len]; omega), Vint.fixL_len] at h4
      have h6 := ofNat_key _ _ h24 (by simpa using h4)
      simp only [List.getD_eq_getElem?_getD] at hkl hl
      omega
end Cl

end Go.Proofs.YtkpagmfaccmiaaaGreat
