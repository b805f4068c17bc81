
/- Cells come back from their bytes; none is longer than a cell may be. -/

import Derived.Test.YtkpagmfaccmiaaaGreatCellMath

import Derived.Test.YtkpagmfaccmiaaaGreatVintPlainG

namespace Go.Proofs.YtkpagmfaccmiaaaGreat

namespace Cl

theorem put_small (n : Nat) (h : n ≤ 1000) : (Vint.put n).length ≤ 2 := by
  unfold Vint.put
  rw [List.length_map]
  by_cases h1 : n < 128
  · rw [Vint.grpF, if_pos h1]; simp
  · rw [Vint.grpF, if_neg h1, Vint.grpF, if_pos (by omega)]; simp
theorem num_fix4 (n : Nat) (h : n < 4294967296) : Vint.number (Vint.fixL n 4) = n := by
  have hl := Vint.fixL_len n 4
  unfold Vint.number
  rw [if_pos (by omega)]
  show Vint.numL [Vint.fixB n 4 0, Vint.fixB n 4 1, Vint.fixB n 4 2, Vint.fixB n 4 3] = n
  simp only [Vint.numL, List.foldl_cons, List.foldl_nil, Vint.fixB, UInt8.toNat_ofNat', Nat.reduceSub, Nat.reducePow, Nat.div_one]
  omega
theorem leaf_of {c : Cl} (h : c.leaf = true) : 1 ≤ c.key.length ∧ c.key.length ≤ 24 ∧ 0 ≤ c.size ∧ c.size ≤ 1000 ∧ c.kid = 0 ∧ (c.size ≤ 40 → (c.val.length : Int) = c.size ∧ c.over = 0) ∧ (¬ c.size ≤ 40 → c.val = [] ∧ 0 < c.over) := by
  unfold leaf at h
  simp only [Bool.and_eq_true, decide_eq_true_eq] at h
  obtain ⟨⟨⟨⟨⟨h1, h2⟩, h3⟩, h4⟩, h5⟩, h6⟩ := h
  refine ⟨h1, h2, h3, h4, h5, fun h40 => ?_, fun h40 => ?_⟩
  · rw [if_pos h40] at h6
    simpa using h6
  · rw [if_neg h40] at h6
    simp only [Bool.and_eq_true, decide_eq_true_eq] at h6
    exact ⟨List.length_eq_zero_iff.1 h6.1, h6.2⟩
theorem flatL_len {c : Cl} (h : c.leaf = true) : c.flatL.length ≤ 78 := by
  obtain ⟨h1, h2, h3, h4, h5, h6, h7⟩ := leaf_of h
  have hp := put_small c.size.toNat (by omega)
  unfold flatL
  simp only [List.cons_append, List.length_cons, List.length_append]
  by_cases h40 : c.size ≤ 40
  · rw [if_pos h40]
    have := (h6 h40).1
    omega
  · rw [if_neg h40, Vint.fixL_len]
    omega
theorem back_leaf {c : Cl} (h : c.leaf = true) (ho : c.over < 4294967296) : getL c.flatL = (c, 0) := by
  obtain ⟨h1, h2, h3, h4, h5, h6, h7⟩ := leaf_of h
  obtain ⟨n, hn⟩ := Int.eq_ofNat_of_zero_le h3
  obtain ⟨T, hT⟩ : ∃ T, T = (if c.size ≤ 40 then c.val else Vint.fixL c.over 4) := ⟨_, rfl⟩
  have hfl : c.flatL = UInt8.ofNat c.key.length :: (c.key ++ (Vint.put n ++ T)) := by
    unfold flatL
    rw [hT, hn, Int.toNat_natCast]
    simp
  have hk : (UInt8.ofNat c.key.length).toNat = c.key.length := by rw [UInt8.toNat_ofNat', Nat.mod_eq_of_lt (by omega)]
  have hg := Vint.get_put n (by omega) T
  have hc : candL c.flatL = some c := by
    rw [hfl]
    unfold candL
    simp only [hk, List.drop_left', List.take_left']
    rw [hg]
    simp only [List.drop_left']
    rw [if_pos ⟨trivial, by omega⟩]
    congr 1
    cases c with
    | mk key size val over kid =>
      simp only at h5 h6 h7 hn hT ⊢
      subst hn h5
      by_cases h40 : n ≤ 40
      · have hi : (n : Int) ≤ 40 := by omega
        rw [if_pos hi] at hT
        simp only [if_pos h40, hT]
        rw [(h6 hi).2]
      · have hi : ¬ (n : Int) ≤ 40 := by omega
        rw [if_neg hi] at hT
        simp only [if_neg h40, hT]
        rw [num_fix4 over ho, Nat.mod_eq_of_lt ho, (h7 hi).1]
  unfold getL
  rw [hc]
  simp only
  rw [if_pos ⟨h, trivial⟩]
theorem inner_of {c : Cl} (h : c.inner = true) : c.key.length ≤ 24 ∧ 0 < c.kid ∧ c.size = 0 ∧ c.over = 0 ∧ c.val = [] := by
  unfold inner at h
  simp only [Bool.and_eq_true, decide_eq_true_eq] at h
  obtain ⟨⟨⟨⟨h1, h2⟩, h3⟩, h4⟩, h5⟩ := h
  exact ⟨h1, h2, h3, h4, List.length_eq_zero_iff.1 h5⟩
theorem flatI_len {c : Cl} (h : c.inner = true) : c.flatI.length ≤ 78 := by
  have := (inner_of h).1
  unfold flatI
  simp only [List.length_append, Vint.fixL_len, List.length_cons]
  omega
theorem back_inner {c : Cl} (h : c.inner = true) (ho : c.kid < 4294967296) : getI c.flatI = (c, 0) := by
  obtain ⟨h1, h2, h3, h4, h5⟩ := inner_of h
  have hk : (UInt8.ofNat c.key.length).toNat = c.key.length := by rw [UInt8.toNat_ofNat', Nat.mod_eq_of_lt (by omega)]
  have hl := Vint.fixL_len c.kid 4
  have hc : candI c.flatI = c := by
    unfold candI flatI
    have e1 : (Vint.fixL c.kid 4 ++ UInt8.ofNat c.key.length :: c.key).take 4 = Vint.fixL c.kid 4 := by rw [List.take_left' hl]
    have e2 : (Vint.fixL c.kid 4 ++ UInt8.ofNat c.key.length :: c.key).drop 5 = c.key := by
      rw [show 5 = 4 + 1 from rfl, ← List.drop_drop, List.drop_left' hl]
      rfl
    have e3 : (Vint.fixL c.kid 4 ++ UInt8.ofNat c.key.length :: c.key).getD 4 0 = UInt8.ofNat c.key.length := by
      rw [List.getD_eq_getElem?_getD, List.getElem?_append_right (by omega), hl]
      rfl
    rw [e1, e2, e3, hk, num_fix4 _ ho, Nat.mod_eq_of_lt ho, if_pos (by simp [hl]; omega), List.take_of_length_le (Nat.le_refl _)]
    cases c
    simp only at h3 h4 h5 ⊢
    rw [h3, h4, h5]
  unfold getI
  rw [hc, if_pos ⟨h, rfl⟩]
end Cl

end Go.Proofs.YtkpagmfaccmiaaaGreat
