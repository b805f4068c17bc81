
/- A number that is read is the one whose bytes stand there: reading takes no other bytes than those that are put. -/

import Derived.Test.YtkpagmfaccmiaaaGreatVintMath

namespace Go.Proofs.YtkpagmfaccmiaaaGreat.Vint

theorem or128' : ∀ n : Fin 256, 128 ≤ n.val → UInt8.ofNat (n.val % 128) ||| 128 = UInt8.ofNat n.val := by decide +kernel
theorem or128 (c : UInt8) (h : 128 ≤ c.toNat) : UInt8.ofNat (c.toNat % 128) ||| 128 = c := by
  have := or128' ⟨c.toNat, c.toNat_lt⟩ h
  rwa [show UInt8.ofNat (⟨c.toNat, c.toNat_lt⟩ : Fin 256).val = c from UInt8.ofNat_toNat] at this
theorem val_pos : ∀ (q : List UInt8) (h : q ≠ []), (q.getLast h).toNat % 128 ≠ 0 → 1 ≤ val q
  | [c], _, h => by simp [val] at h ⊢; omega
  | c :: d :: t, _, h => by
    have := val_pos (d :: t) (by simp) (by simpa using h)
    rw [val]
    omega
/-- Bytes of which just the last one is followed by none, and is not 0 if it is not alone, are their number's. -/
theorem grp_val : ∀ (q : List UInt8) (h : q ≠ []) (f : Nat), q.length ≤ f + 1 → (∀ x ∈ q.dropLast, 128 ≤ x.toNat) → (q.getLast h).toNat < 128 → (1 < q.length → (q.getLast h).toNat ≠ 0) → (grpF f (val q)).map outOf = q
  | [c], _, f, _, _, hc, _ => by
    have h1 : val [c] = c.toNat := by simp [val]; simp at hc; omega
    simp only [List.getLast_singleton] at hc
    rw [h1]
    cases f with
    | zero => simp [grpF, outOf]
    | succ f => rw [grpF, if_pos hc]; simp [outOf]
  | c :: d :: t, _, f, hf, hx, hl, h0 => by
    obtain ⟨f, rfl⟩ : ∃ g, f = g + 1 := ⟨f - 1, by simp at hf; omega⟩
    have hc : 128 ≤ c.toNat := hx c (by simp)
    have hl' : ((d :: t).getLast (by simp)).toNat < 128 := by simpa using hl
    have h0' : ((d :: t).getLast (by simp)).toNat ≠ 0 := by have := h0 (by simp); simpa using this
    have ih := grp_val (d :: t) (by simp) f (by simp at hf ⊢; omega) (fun x hm => hx x (by rw [List.dropLast_cons_of_ne_nil (by simp)]; exact List.mem_cons_of_mem _ hm)) hl' (fun _ => h0')
    have hp := val_pos (d :: t) (by simp) (by omega)
    have hv : val (c :: d :: t) = c.toNat % 128 + 128 * val (d :: t) := rfl
    have hn : ¬ val (c :: d :: t) < 128 := by rw [hv]; omega
    have hm : val (c :: d :: t) % 128 = c.toNat % 128 := by rw [hv]; omega
    have hd : val (c :: d :: t) / 128 = val (d :: t) := by rw [hv]; omega
    rw [grpF, if_neg hn, hm, hd, List.map_cons, ih]
    simp only [outOf, if_true]
    rw [or128 c hc]
theorem get_canon {r : List UInt8} {n w : Nat} (h : get r = (n, w, 0)) : put n = r.take w ∧ 1 ≤ w ∧ w ≤ r.length := by
  unfold get at h
  simp only at h
  by_cases h1 : first (r.take 10) = (r.take 10).length
  · rw [if_pos h1] at h
    split at h <;> simp at h
  · rw [if_neg h1] at h
    have hle := first_le (r.take 10)
    have hlt : first (r.take 10) < (r.take 10).length := by omega
    have hlast := first_lt hlt
    have hd : (r.take 10).getD (first (r.take 10)) 0 = (r.take 10)[first (r.take 10)] := by simp [List.getElem?_eq_getElem hlt]
    rw [hd] at h
    split at h
    · simp at h
    · split at h
      · simp at h
      · rename_i h2 h3
        simp only [Prod.mk.injEq, and_true] at h
        obtain ⟨hn, hw⟩ := h
        obtain ⟨i, hi⟩ : ∃ i, i = first (r.take 10) := ⟨_, rfl⟩
        have hbl : (r.take 10).length = min 10 r.length := List.length_take
        have hq : (r.take 10).take (i + 1) = r.take (i + 1) := by rw [List.take_take, Nat.min_eq_left (by omega)]
        rw [← hi] at hn hw hlt
        have hql : (r.take (i + 1)).length = i + 1 := by rw [List.length_take]; omega
        have hne : r.take (i + 1) ≠ [] := by intro e; rw [e] at hql; simp at hql
        have hgl : (r.take (i + 1)).getLast hne = (r.take 10)[first (r.take 10)] := by
          rw [List.getLast_eq_getElem]
          simp only [List.getElem_take, hql, Nat.add_sub_cancel]
          congr 1
        refine ⟨?_, by omega, by omega⟩
        rw [← hw, ← hn, hq]
        unfold put
        refine grp_val _ hne 9 (by omega) ?_ (by rw [hgl]; exact hlast) (fun h4 => ?_)
        · intro x hx
          obtain ⟨j, hj, rfl⟩ := List.getElem_of_mem hx
          have hjl : j < i := by simp only [List.length_dropLast, hql] at hj; omega
          have := before_first (l := r.take 10) (j := j) (by omega)
          simpa using this
        · rw [hgl]
          intro e
          exact h3 ⟨by omega, e⟩
end Go.Proofs.YtkpagmfaccmiaaaGreat.Vint
