
/- Plain law: a part of a range has just the entries between its ends. -/

import Derived.Test.YtiiekdhlcmaabaaSplPlain

import Derived.Test.YtiiekdhlcmaabaaEntRise

namespace Go.Proofs.Ytiiekdhlcmaabaa

open Go.RowKit

/-- Keys rise strictly. -/
def Up (l : List Ent) : Prop := l.Pairwise fun a b => ltB a.key b.key = true
theorem Rise.upw {l : List Ent} (h : Rise l) : Up l := by
  have step : ∀ d i (hi : i + (d + 1) < l.length), ltB (l[i]'(by omega)).key (l[i + (d + 1)]).key = true := by
    intro d
    induction d with
    | zero => intro i hi; exact h.up i hi
    | succ d ih =>
      intro i hi
      exact ltB_trans (ih i (by omega)) (h.up (i + (d + 1)) (by omega))
  unfold Up
  rw [List.pairwise_iff_getElem]
  intro i j hi hj hij
  have := step (j - i - 1) i (by omega)
  simpa [show i + (j - i - 1 + 1) = j by omega] using this
theorem Up.sub {l m : List Ent} (h : Up l) (hs : m.Sublist l) : Up m := h.sublist hs
theorem Up.lt {l : List Ent} (h : Up l) {i j : Nat} (hj : j < l.length) (hij : i < j) : ltB (l[i]'(by omega)).key l[j].key = true := (List.pairwise_iff_getElem.1 h) i j (by omega) hj hij
theorem not_lt_trans {a b c : List UInt8} (h1 : ltB b a = false) (h2 : ltB c b = false) : ltB c a = false := by
  cases h : ltB c a with
  | false => rfl
  | true =>
    rcases ltB_tri a b with h3 | h3 | h3
    · rw [ltB_trans h h3] at h2; cases h2
    · rw [← h3, h] at h2; cases h2
    · rw [h3] at h1; cases h1
theorem lt_of_lt_not {a b c : List UInt8} (h1 : ltB a b = true) (h2 : ltB c b = false) : ltB a c = true := by
  rcases ltB_tri b c with h3 | h3 | h3
  · exact ltB_trans h1 h3
  · rw [← h3]; exact h1
  · rw [h3] at h2; cases h2
theorem inR_iff {k lo hi : List UInt8} : inR k lo hi = true ↔ ltB k lo = false ∧ (hi = [] ∨ ltB k hi = true) := by
  unfold inR
  cases ltB k lo <;> cases hi <;> simp
/-- Between keys of a list that rises lie the entries that stand between. -/
theorem filter_slice {x : List Ent} (lo hi : List UInt8) (a b : Nat) (hab : a ≤ b) (hb : b ≤ x.length)
    (h1 : ∀ i (h : i < x.length), a ≤ i → ltB x[i].key lo = false) (h2 : ∀ i (h : i < x.length), i < b → hi = [] ∨ ltB x[i].key hi = true)
    (h3 : ∀ i (h : i < x.length), i < a → ltB x[i].key lo = true) (h4 : ∀ i (h : i < x.length), b ≤ i → hi ≠ [] ∧ ltB x[i].key hi = false) :
    x.filter (fun e => inR e.key lo hi) = (x.take b).drop a := by
  have hsplit : x = x.take a ++ ((x.take b).drop a ++ x.drop b) := by
    have e1 : x.take b = x.take a ++ (x.take b).drop a := by
      conv => lhs; rw [← List.take_append_drop a (x.take b)]
      rw [List.take_take, Nat.min_eq_left hab]
    rw [← List.append_assoc, ← e1, List.take_append_drop]
  conv => lhs; rw [hsplit]
  rw [List.filter_append, List.filter_append]
  have f1 : (x.take a).filter (fun e => inR e.key lo hi) = [] := by
    rw [List.filter_eq_nil_iff]
    intro e he hr
    obtain ⟨i, hi2, rfl⟩ := List.getElem_of_mem he
    rw [List.length_take] at hi2
    rw [List.getElem_take] at hr
    have := (inR_iff.1 hr).1
    rw [h3 i (by omega) (by omega)] at this
    cases this
  have f2 : ((x.take b).drop a).filter (fun e => inR e.key lo hi) = (x.take b).drop a := by
    rw [List.filter_eq_self]
    intro e he
    obtain ⟨i, hi2, rfl⟩ := List.getElem_of_mem he
    rw [List.length_drop, List.length_take] at hi2
    rw [List.getElem_drop, List.getElem_take]
    exact inR_iff.2 ⟨h1 (a + i) (by omega) (by omega), h2 (a + i) (by omega) (by omega)⟩
  have f3 : (x.drop b).filter (fun e => inR e.key lo hi) = [] := by
    rw [List.filter_eq_nil_iff]
    intro e he hr
    obtain ⟨i, hi2, rfl⟩ := List.getElem_of_mem he
    rw [List.length_drop] at hi2
    rw [List.getElem_drop] at hr
    obtain ⟨k1, k2⟩ := h4 (b + i) (by omega) (by omega)
    rcases (inR_iff.1 hr).2 with h | h
    · exact k1 h
    · rw [k2] at h; cases h
  rw [f1, f2, f3, List.nil_append, List.append_nil]
theorem keyAt_eq {x : List Ent} {j : Nat} (h : j < x.length) : keyAt x j = x[j].key := by
  unfold keyAt
  rw [List.getElem?_eq_getElem h]; rfl
/-- The entries of part i. -/
theorem Spl.part_between {l : List Ent} (hl : Up l) (hne : ∀ e ∈ l, e.key ≠ []) (lo hi_ : List UInt8) (ways : Int) (k : Nat) (hk0 : k = Spl.k (Ent.between l lo hi_).length ways) (i : Nat) (hi : i < k) :
    Ent.between l (Spl.part (Ent.between l lo hi_) lo hi_ k k i).lo (Spl.part (Ent.between l lo hi_) lo hi_ k k i).hi = ((Ent.between l lo hi_).take ((i + 1) * (Ent.between l lo hi_).length / k)).drop (i * (Ent.between l lo hi_).length / k) := by
  obtain ⟨x, hx⟩ : ∃ x, x = Ent.between l lo hi_ := ⟨_, rfl⟩
  have hxu : Up x := by rw [hx]; exact hl.sub List.filter_sublist
  have hxm : ∀ e ∈ x, e ∈ l ∧ ltB e.key lo = false ∧ (hi_ = [] ∨ ltB e.key hi_ = true) := fun e he => by
    rw [hx] at he
    obtain ⟨h1, h2⟩ := List.mem_filter.1 he
    exact ⟨h1, inR_iff.1 h2⟩
  have hk1 := Spl.k_pos x.length ways
  have hkn := Spl.k_n x.length ways
  rw [← hx] at hk0 ⊢
  rw [← hk0] at hk1 hkn
  have hab : i * x.length / k ≤ (i + 1) * x.length / k := Spl.cut_mono _ _ (Nat.le_succ i)
  have hbn : (i + 1) * x.length / k ≤ x.length := Spl.cut_le _ _ _ hi hk1
  have haT : 0 < i → i * x.length / k < x.length := fun h0 => by
    rcases hkn with h1 | h1
    · omega
    · exact Nat.lt_of_lt_of_le (Spl.cut_lt _ _ i hk1 h1) hbn
  have hbT : i + 1 < k → (i + 1) * x.length / k < x.length := fun h0 => by
    rcases hkn with h1 | h1
    · omega
    · exact Nat.lt_of_lt_of_le (Spl.cut_lt _ _ (i + 1) hk1 h1) (Spl.cut_le _ _ _ h0 hk1)
  have ha0 : i = 0 → i * x.length / k = 0 := fun h0 => by rw [h0, Nat.zero_mul, Nat.zero_div]
  have hbk : ¬ i + 1 < k → (i + 1) * x.length / k = x.length := fun h0 => by
    rw [show i + 1 = k by omega]; exact Spl.cut_k _ _ hk1
  unfold Spl.part
  simp only
  obtain ⟨a, ha⟩ : ∃ a, a = i * x.length / k := ⟨_, rfl⟩
  obtain ⟨b, hb⟩ : ∃ b, b = (i + 1) * x.length / k := ⟨_, rfl⟩
  rw [← ha] at hab haT ha0 ⊢
  rw [← hb] at hab hbn hbT hbk ⊢
  obtain ⟨L, hL⟩ : ∃ L, L = (if 0 < i then keyAt x a else lo) := ⟨_, rfl⟩
  obtain ⟨H, hH⟩ : ∃ H, H = (if i + 1 < k then keyAt x b else hi_) := ⟨_, rfl⟩
  rw [← hL, ← hH]
  have hL1 : ∀ h : 0 < i, L = (x[a]'(haT h)).key := fun h => by rw [hL, if_pos h, keyAt_eq (haT h)]
  have hL0 : ¬ 0 < i → L = lo := fun h => by rw [hL, if_neg h]
  have hH1 : ∀ h : i + 1 < k, H = (x[b]'(hbT h)).key := fun h => by rw [hH, if_pos h, keyAt_eq (hbT h)]
  have hH0 : ¬ i + 1 < k → H = hi_ := fun h => by rw [hH, if_neg h]
  have hLlo : ltB L lo = false := by
    by_cases h : 0 < i
    · rw [hL1 h]; exact (hxm _ (List.getElem_mem _)).2.1
    · rw [hL0 h]; exact ltB_irrefl _
  have hHne : i + 1 < k → H ≠ [] := fun h => by rw [hH1 h]; exact hne _ (hxm _ (List.getElem_mem _)).1
  have hstep : Ent.between l L H = x.filter (fun e => inR e.key L H) := by
    rw [hx]
    unfold Ent.between
    rw [List.filter_filter]
    apply List.filter_congr
    intro e _
    cases hr : inR e.key L H with
    | false => rfl
    | true =>
      obtain ⟨r1, r2⟩ := inR_iff.1 hr
      symm
      rw [Bool.true_and]
      refine inR_iff.2 ⟨not_lt_trans hLlo r1, ?_⟩
      by_cases h : i + 1 < k
      · have r3 : ltB e.key H = true := r2.resolve_left (hHne h)
        rw [hH1 h] at r3
        rcases (hxm _ (List.getElem_mem (hbT h))).2.2 with h5 | h5
        · exact .inl h5
        · exact .inr (ltB_trans r3 h5)
      · rw [hH0 h] at r2; exact r2
  rw [hstep]
  refine filter_slice L H a b hab hbn (fun j hj h => ?_) (fun j hj h => ?_) (fun j hj h => ?_) (fun j hj h => ?_)
  · by_cases h0 : 0 < i
    · rw [hL1 h0]
      rcases Nat.lt_or_ge a j with h5 | h5
      · exact ltB_asymm (hxu.lt hj h5)
      · obtain rfl : j = a := by omega
        exact ltB_irrefl _
    · rw [hL0 h0]; exact (hxm _ (List.getElem_mem _)).2.1
  · by_cases h0 : i + 1 < k
    · rw [hH1 h0]; exact .inr (hxu.lt (hbT h0) h)
    · rw [hH0 h0]; exact (hxm _ (List.getElem_mem _)).2.2
  · by_cases h0 : 0 < i
    · rw [hL1 h0]; exact hxu.lt (haT h0) h
    · have := ha0 (by omega); omega
  · by_cases h0 : i + 1 < k
    · refine ⟨hHne h0, ?_⟩
      rw [hH1 h0]
      rcases Nat.lt_or_ge b j with h5 | h5
      · exact ltB_asymm (hxu.lt hj h5)
      · obtain rfl : j = b := by omega
        exact ltB_irrefl _
    · have := hbk h0; omega
/-- What Differ tells of part i of another list's cut. -/
theorem Spl.diffs_split {l m : List Ent} (hl : Rise l) (lo hi_ : List UInt8) (ways : Int) (i : Nat) (hi : i < (Spl.split l lo hi_ ways).length) :
    Spl.diffs m (Spl.split l lo hi_ ways)[i] = !(((Ent.between m (Spl.split l lo hi_ ways)[i].lo (Spl.split l lo hi_ ways)[i].hi).length == (Ent.between l (Spl.split l lo hi_ ways)[i].lo (Spl.split l lo hi_ ways)[i].hi).length) && (Ent.digest (Ent.between m (Spl.split l lo hi_ ways)[i].lo (Spl.split l lo hi_ ways)[i].hi) == Ent.digest (Ent.between l (Spl.split l lo hi_ ways)[i].lo (Spl.split l lo hi_ ways)[i].hi))) := by
  have hne : ∀ e ∈ l, e.key ≠ [] := fun e he h => by
    obtain ⟨j, hj, rfl⟩ := List.getElem_of_mem he
    have := (hl.ok j hj).1
    rw [h] at this
    exact absurd this (by decide)
  have hik : i < Spl.k (Ent.between l lo hi_).length ways := by simpa [Spl.split] using hi
  have he : (Spl.split l lo hi_ ways)[i] = Spl.part (Ent.between l lo hi_) lo hi_ (Spl.k (Ent.between l lo hi_).length ways) (Spl.k (Ent.between l lo hi_).length ways) i := by simp [Spl.split]
  have hb := Spl.part_between hl.upw hne lo hi_ ways _ rfl i hik
  rw [he]
  rw [hb]
  unfold Spl.diffs Ent.partOf
  simp only
  have hc : (Spl.part (Ent.between l lo hi_) lo hi_ (Spl.k (Ent.between l lo hi_).length ways) (Spl.k (Ent.between l lo hi_).length ways) i).count = ((((Ent.between l lo hi_).take ((i + 1) * (Ent.between l lo hi_).length / (Spl.k (Ent.between l lo hi_).length ways))).drop (i * (Ent.between l lo hi_).length / (Spl.k (Ent.between l lo hi_).length ways))).length : Int) := by
    have h1 := Spl.cut_le (Ent.between l lo hi_).length _ (i + 1) hik (Spl.k_pos (Ent.between l lo hi_).length ways)
    rw [List.length_drop, List.length_take, Nat.min_eq_left h1]
    rfl
  have hs : (Spl.part (Ent.between l lo hi_) lo hi_ (Spl.k (Ent.between l lo hi_).length ways) (Spl.k (Ent.between l lo hi_).length ways) i).sum = Ent.digest (((Ent.between l lo hi_).take ((i + 1) * (Ent.between l lo hi_).length / (Spl.k (Ent.between l lo hi_).length ways))).drop (i * (Ent.between l lo hi_).length / (Spl.k (Ent.between l lo hi_).length ways))) := rfl
  rw [hc, hs]
  congr 2
  rw [Bool.eq_iff_iff, beq_iff_eq, beq_iff_eq]
  omega
/-- Told just if they differ; what is not told has one digest. -/
theorem Spl.finds {l m : List Ent} (hl : Rise l) (lo hi_ : List UInt8) (ways : Int) (i : Nat) (hi : i < (Spl.split l lo hi_ ways).length) (p : Pt) (hp : p = (Spl.split l lo hi_ ways)[i]) :
    (Spl.diffs m p = true → Ent.sameL (Ent.between l p.lo p.hi) (Ent.between m p.lo p.hi) = false) ∧ (Spl.diffs m p = false → Ent.digest (Ent.between l p.lo p.hi) = Ent.digest (Ent.between m p.lo p.hi)) := by
  have hd := Spl.diffs_split (m := m) hl lo hi_ ways i hi
  rw [← hp] at hd
  constructor
  · intro h
    refine Ent.sameL_ne fun e => ?_
    rw [hd, e] at h
    simp at h
  · intro h
    rw [hd] at h
    simp at h
    exact h.2.symm
end Go.Proofs.Ytiiekdhlcmaabaa
