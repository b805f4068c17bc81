
/- Plain law: a range's parts are it, without gaps, and have all its entries. -/

import Derived.Test.YtiiekdhlcmaabaaSplFind

import Derived.Test.YtiiekdhlcmaabaaSplCover

namespace Go.Proofs.Ytiiekdhlcmaabaa

open Go.RowKit

theorem Spl.split_len (l : List Ent) (lo hi : List UInt8) (ways : Int) : (Spl.split l lo hi ways).length = Spl.k (Ent.between l lo hi).length ways := by simp [Spl.split]
theorem Spl.split_at (l : List Ent) (lo hi : List UInt8) (ways : Int) (i : Nat) (h : i < Spl.k (Ent.between l lo hi).length ways) : Spl.at_ (Spl.split l lo hi ways) i = Spl.part (Ent.between l lo hi) lo hi (Spl.k (Ent.between l lo hi).length ways) (Spl.k (Ent.between l lo hi).length ways) i := by
  unfold Spl.at_
  rw [List.getD_eq_getElem?_getD, List.getElem?_eq_getElem (by rw [Spl.split_len]; exact h)]
  simp [Spl.split]
/-- How many entries stand ahead of part j. -/
def Spl.cut (l : List Ent) (lo hi : List UInt8) (ways : Int) (j : Nat) : Nat := j * (Ent.between l lo hi).length / Spl.k (Ent.between l lo hi).length ways
theorem Spl.cut_zero (l : List Ent) (lo hi : List UInt8) (ways : Int) : Spl.cut l lo hi ways 0 = 0 := by unfold Spl.cut; rw [Nat.zero_mul, Nat.zero_div]
theorem Spl.cut_all (l : List Ent) (lo hi : List UInt8) (ways : Int) : Spl.cut l lo hi ways (Spl.split l lo hi ways).length = (Ent.between l lo hi).length := by
  unfold Spl.cut
  rw [Spl.split_len]
  exact Spl.cut_k _ _ (Spl.k_pos _ _)
theorem Spl.cut_bound (l : List Ent) (lo hi : List UInt8) (ways : Int) (j : Nat) (h : j ≤ (Spl.split l lo hi ways).length) : Spl.cut l lo hi ways j ≤ (Ent.between l lo hi).length := by
  rw [Spl.split_len] at h
  exact Spl.cut_le _ _ _ h (Spl.k_pos _ _)
theorem Spl.count_at (l : List Ent) (lo hi : List UInt8) (ways : Int) (i : Nat) (h : i < (Spl.split l lo hi ways).length) : Spl.cut l lo hi ways i ≤ Spl.cut l lo hi ways (i + 1) ∧ (Spl.at_ (Spl.split l lo hi ways) i).count = ((Spl.cut l lo hi ways (i + 1) - Spl.cut l lo hi ways i : Nat) : Int) := by
  rw [Spl.split_len] at h
  rw [Spl.split_at _ _ _ _ _ h]
  exact ⟨Spl.cut_mono _ _ (Nat.le_succ i), rfl⟩
theorem rise_ne {l : List Ent} (hl : Rise l) : ∀ e ∈ l, e.key ≠ [] := fun e he h => by
  obtain ⟨j, hj, rfl⟩ := List.getElem_of_mem he
  have := (hl.ok j hj).1
  rw [h] at this
  exact absurd this (by decide)
/-- What has been gathered when one part more is. -/
theorem Spl.gather {l : List Ent} (hl : Rise l) (lo hi : List UInt8) (ways : Int) (i : Nat) (h : i < (Spl.split l lo hi ways).length) :
    (Ent.between l lo hi).take (Spl.cut l lo hi ways i) ++ Ent.between l (Spl.at_ (Spl.split l lo hi ways) i).lo (Spl.at_ (Spl.split l lo hi ways) i).hi = (Ent.between l lo hi).take (Spl.cut l lo hi ways (i + 1)) := by
  have hc := (Spl.count_at l lo hi ways i h).1
  rw [Spl.split_len] at h
  rw [Spl.split_at _ _ _ _ _ h, Spl.part_between hl.upw (rise_ne hl) lo hi ways _ rfl i h]
  show (Ent.between l lo hi).take (Spl.cut l lo hi ways i) ++ ((Ent.between l lo hi).take (Spl.cut l lo hi ways (i + 1))).drop (Spl.cut l lo hi ways i) = _
  conv => rhs; rw [← List.take_append_drop (Spl.cut l lo hi ways i) ((Ent.between l lo hi).take (Spl.cut l lo hi ways (i + 1)))]
  rw [List.take_take, Nat.min_eq_left hc]
theorem Spl.own_differ {l : List Ent} (hl : Rise l) (lo hi : List UInt8) (ways : Int) : Spl.differ l (Spl.split l lo hi ways) = [] := by
  unfold Spl.differ Spl.differK
  rw [List.filter_eq_nil_iff]
  intro i hi2
  rw [List.mem_range] at hi2
  simp only [List.getElem?_eq_getElem hi2]
  rw [Spl.diffs_split hl lo hi ways i hi2]
  simp
theorem Spl.split_cov {l : List Ent} (hl : Rise l) (lo hi : List UInt8) (ways : Int) (hlt : hi = [] ∨ ltB lo hi = true) : Spl.Cov lo hi (Spl.split l lo hi ways) := by
  obtain ⟨x, hx⟩ : ∃ x, x = Ent.between l lo hi := ⟨_, rfl⟩
  have hxu : Up x := by rw [hx]; exact hl.upw.sub List.filter_sublist
  have hxm : ∀ e ∈ x, e ∈ l ∧ ltB e.key lo = false ∧ (hi = [] ∨ ltB e.key hi = true) := fun e he => by
    rw [hx] at he
    obtain ⟨h1, h2⟩ := List.mem_filter.1 he
    exact ⟨h1, inR_iff.1 h2⟩
  have hne := rise_ne hl
  have hsl := Spl.split_len l lo hi ways
  have hat := Spl.split_at l lo hi ways
  rw [← hx] at hsl hat
  obtain ⟨P, hP⟩ : ∃ P, P = Spl.split l lo hi ways := ⟨_, rfl⟩
  rw [← hP] at hsl hat ⊢
  have hk1 := Spl.k_pos x.length ways
  have hkn := Spl.k_n x.length ways
  obtain ⟨k, hk⟩ : ∃ k, k = Spl.k x.length ways := ⟨_, rfl⟩
  rw [← hk] at hk1 hkn hsl hat
  have hbT : ∀ i, i + 1 < k → (i + 1) * x.length / k < x.length := fun i h0 => by
    rcases hkn with h1 | h1
    · omega
    · exact Nat.lt_of_lt_of_le (Spl.cut_lt _ _ (i + 1) hk1 h1) (Spl.cut_le _ _ _ h0 hk1)
  have habT : ∀ i, 2 ≤ k → i * x.length / k < (i + 1) * x.length / k := fun i h2 => by
    rcases hkn with h1 | h1
    · omega
    · exact Spl.cut_lt _ _ i hk1 h1
  have klt : ∀ i (h : i + 1 < k), keyAt x ((i + 1) * x.length / k) = (x[(i + 1) * x.length / k]'(hbT i h)).key := fun i h => keyAt_eq (hbT i h)
  refine ⟨by omega, ?_, ?_, fun i hik => ?_⟩
  · rw [hat 0 (by omega)]; rfl
  · rw [hsl, hat (k - 1) (by omega)]
    unfold Spl.part
    simp only
    rw [if_neg (by omega)]
  · rw [hsl] at hik
    unfold Spl.okP
    rw [hsl, hat i hik]
    refine ⟨fun h => ?_, fun h => ?_, fun h => ?_⟩
    · unfold Spl.part
      simp only
      rw [if_pos h, klt i h]
      exact hne _ (hxm _ (List.getElem_mem _)).1
    · unfold Spl.part at h ⊢
      simp only at h ⊢
      by_cases h1 : i + 1 < k
      · rw [if_pos h1, klt i h1]
        by_cases h0 : 0 < i
        · rw [if_pos h0]
          obtain ⟨j, rfl⟩ : ∃ j, i = j + 1 := ⟨i - 1, by omega⟩
          rw [klt j (by omega)]
          exact hxu.lt (hbT _ h1) (habT _ (by omega))
        · rw [if_neg h0]
          obtain rfl : i = 0 := by omega
          have hb0 : 0 < (0 + 1) * x.length / k := by
            have := habT 0 (by omega)
            rw [Nat.zero_mul, Nat.zero_div] at this
            exact this
          have h3 := hxu.lt (hbT 0 h1) hb0
          have h4 := (hxm _ (List.getElem_mem (show 0 < x.length from Nat.lt_trans hb0 (hbT 0 h1)))).2.1
          rcases ltB_tri lo (x[0]'(Nat.lt_trans hb0 (hbT 0 h1))).key with h5 | h5 | h5
          · exact ltB_trans h5 h3
          · rw [h5]; exact h3
          · rw [h5] at h4; cases h4
      · rw [if_neg h1] at h ⊢
        by_cases h0 : 0 < i
        · rw [if_pos h0]
          obtain ⟨j, rfl⟩ : ∃ j, i = j + 1 := ⟨i - 1, by omega⟩
          rw [klt j (by omega)]
          exact ((hxm _ (List.getElem_mem _)).2.2).resolve_left h
        · rw [if_neg h0]
          exact hlt.resolve_left h
    · rw [hat (i + 1) h]
      unfold Spl.part
      simp only
      rw [if_pos h, if_pos (by omega)]
end Go.Proofs.Ytiiekdhlcmaabaa
