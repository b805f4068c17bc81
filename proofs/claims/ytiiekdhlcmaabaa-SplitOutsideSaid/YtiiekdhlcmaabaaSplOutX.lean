
/- Texts laid together by wip/tools/lay.py: SplFind SplCovP SplNar SplNarP Reg4 SplSplitN SplNarW SplNarA SplOut SplMeets SplLawF. -/

import Derived.Test.YtiiekdhlcmaabaaSplPlain

import Derived.Test.YtiiekdhlcmaabaaEntRise

import Derived.Test.YtiiekdhlcmaabaaSplCover

import Derived.Test.YtiiekdhlcmaabaaSplDiffer

import Derived.Test.YtiiekdhlcmaabaaSplSplit

import Derived.Test.YtiiekdhlcmaabaaReg2

import Derived.Test.YtiiekdhlcmaabaaSplInts

import Derived.Test.YtiiekdhlcmaabaaSplLive

import Derived.Test.YtiiekdhlcmaabaaSplFit

import Derived.Test.YtiiekdhlcmaabaaPartsLaw

/- Plain law: a part of a range has just the entries between its ends. -/

namespace Go.Proofs.Ytiiekdhlcmaabaa

open Go.RowKit

/-- Keys rise strictly. -/
def Up (l : List Ent) : Prop := l.Pairwise fun a b => ltB a.key b.key = true
theorem Rise.upw {l : List Ent} (h : Rise l) : Up l := by
  have step : ∀ d i (hi : i + (d + 1) < l.length), ltB (l[i]'(by omega)).key (l[i + (d + 1)]).key = true := by
    intro d
    induction d with
    | zero => intro i hi; exact h.up i hi
    | succ d ih =>
      intro i hi
      exact ltB_trans (ih i (by omega)) (h.up (i + (d + 1)) (by omega))
  unfold Up
  rw [List.pairwise_iff_getElem]
  intro i j hi hj hij
  have := step (j - i - 1) i (by omega)
  simpa [show i + (j - i - 1 + 1) = j by omega] using this
theorem Up.sub {l m : List Ent} (h : Up l) (hs : m.Sublist l) : Up m := h.sublist hs
theorem Up.lt {l : List Ent} (h : Up l) {i j : Nat} (hj : j < l.length) (hij : i < j) : ltB (l[i]'(by omega)).key l[j].key = true := (List.pairwise_iff_getElem.1 h) i j (by omega) hj hij
theorem not_lt_trans {a b c : List UInt8} (h1 : ltB b a = false) (h2 : ltB c b = false) : ltB c a = false := by
  cases h : ltB c a with
  | false => rfl
  | true =>
    rcases ltB_tri a b with h3 | h3 | h3
    · rw [ltB_trans h h3] at h2; cases h2
    · rw [← h3, h] at h2; cases h2
    · rw [h3] at h1; cases h1
theorem lt_of_lt_not {a b c : List UInt8} (h1 : ltB a b = true) (h2 : ltB c b = false) : ltB a c = true := by
  rcases ltB_tri b c with h3 | h3 | h3
  · exact ltB_trans h1 h3
  · rw [← h3]; exact h1
  · rw [h3] at h2; cases h2
theorem inR_iff {k lo hi : List UInt8} : inR k lo hi = true ↔ ltB k lo = false ∧ (hi = [] ∨ ltB k hi = true) := by
  unfold inR
  cases ltB k lo <;> cases hi <;> simp
/-- Between keys of a list that rises lie the entries that stand between. -/
theorem filter_slice {x : List Ent} (lo hi : List UInt8) (a b : Nat) (hab : a ≤ b) (hb : b ≤ x.length)
    (h1 : ∀ i (h : i < x.length), a ≤ i → ltB x[i].key lo = false) (h2 : ∀ i (h : i < x.length), i < b → hi = [] ∨ ltB x[i].key hi = true)
    (h3 : ∀ i (h : i < x.length), i < a → ltB x[i].key lo = true) (h4 : ∀ i (h : i < x.length), b ≤ i → hi ≠ [] ∧ ltB x[i].key hi = false) :
    x.filter (fun e => inR e.key lo hi) = (x.take b).drop a := by
  have hsplit : x = x.take a ++ ((x.take b).drop a ++ x.drop b) := by
    have e1 : x.take b = x.take a ++ (x.take b).drop a := by
      conv => lhs; rw [← List.take_append_drop a (x.take b)]
      rw [List.take_take, Nat.min_eq_left hab]
    rw [← List.append_assoc, ← e1, List.take_append_drop]
  conv => lhs; rw [hsplit]
  rw [List.filter_append, List.filter_append]
  have f1 : (x.take a).filter (fun e => inR e.key lo hi) = [] := by
    rw [List.filter_eq_nil_iff]
    intro e he hr
    obtain ⟨i, hi2, rfl⟩ := List.getElem_of_mem he
    rw [List.length_take] at hi2
    rw [List.getElem_take] at hr
    have := (inR_iff.1 hr).1
    rw [h3 i (by omega) (by omega)] at this
    cases this
  have f2 : ((x.take b).drop a).filter (fun e => inR e.key lo hi) = (x.take b).drop a := by
    rw [List.filter_eq_self]
    intro e he
    obtain ⟨i, hi2, rfl⟩ := List.getElem_of_mem he
    rw [List.length_drop, List.length_take] at hi2
    rw [List.getElem_drop, List.getElem_take]
    exact inR_iff.2 ⟨h1 (a + i) (by omega) (by omega), h2 (a + i) (by omega) (by omega)⟩
  have f3 : (x.drop b).filter (fun e => inR e.key lo hi) = [] := by
    rw [List.filter_eq_nil_iff]
    intro e he hr
    obtain ⟨i, hi2, rfl⟩ := List.getElem_of_mem he
    rw [List.length_drop] at hi2
    rw [List.getElem_drop] at hr
    obtain ⟨k1, k2⟩ := h4 (b + i) (by omega) (by omega)
    rcases (inR_iff.1 hr).2 with h | h
    · exact k1 h
    · rw [k2] at h; cases h
  rw [f1, f2, f3, List.nil_append, List.append_nil]
theorem keyAt_eq {x : List Ent} {j : Nat} (h : j < x.length) : keyAt x j = x[j].key := by
  unfold keyAt
  rw [List.getElem?_eq_getElem h]; rfl
/-- The entries of part i. -/
theorem Spl.part_between {l : List Ent} (hl : Up l) (hne : ∀ e ∈ l, e.key ≠ []) (lo hi_ : List UInt8) (ways : Int) (k : Nat) (hk0 : k = Spl.k (Ent.between l lo hi_).length ways) (i : Nat) (hi : i < k) :
    Ent.between l (Spl.part (Ent.between l lo hi_) lo hi_ k k i).lo (Spl.part (Ent.between l lo hi_) lo hi_ k k i).hi = ((Ent.between l lo hi_).take ((i + 1) * (Ent.between l lo hi_).length / k)).drop (i * (Ent.between l lo hi_).length / k) := by
  obtain ⟨x, hx⟩ : ∃ x, x = Ent.between l lo hi_ := ⟨_, rfl⟩
  have hxu : Up x := by rw [hx]; exact hl.sub List.filter_sublist
  have hxm : ∀ e ∈ x, e ∈ l ∧ ltB e.key lo = false ∧ (hi_ = [] ∨ ltB e.key hi_ = true) := fun e he => by
    rw [hx] at he
    obtain ⟨h1, h2⟩ := List.mem_filter.1 he
    exact ⟨h1, inR_iff.1 h2⟩
  have hk1 := Spl.k_pos x.length ways
  have hkn := Spl.k_n x.length ways
  rw [← hx] at hk0 ⊢
  rw [← hk0] at hk1 hkn
  have hab : i * x.length / k ≤ (i + 1) * x.length / k := Spl.cut_mono _ _ (Nat.le_succ i)
  have hbn : (i + 1) * x.length / k ≤ x.length := Spl.cut_le _ _ _ hi hk1
  have haT : 0 < i → i * x.length / k < x.length := fun h0 => by
    rcases hkn with h1 | h1
    · omega
    · exact Nat.lt_of_lt_of_le (Spl.cut_lt _ _ i hk1 h1) hbn
  have hbT : i + 1 < k → (i + 1) * x.length / k < x.length := fun h0 => by
    rcases hkn with h1 | h1
    · omega
    · exact Nat.lt_of_lt_of_le (Spl.cut_lt _ _ (i + 1) hk1 h1) (Spl.cut_le _ _ _ h0 hk1)
  have ha0 : i = 0 → i * x.length / k = 0 := fun h0 => by rw [h0, Nat.zero_mul, Nat.zero_div]
  have hbk : ¬ i + 1 < k → (i + 1) * x.length / k = x.length := fun h0 => by
    rw [show i + 1 = k by omega]; exact Spl.cut_k _ _ hk1
  unfold Spl.part
  simp only
  obtain ⟨a, ha⟩ : ∃ a, a = i * x.length / k := ⟨_, rfl⟩
  obtain ⟨b, hb⟩ : ∃ b, b = (i + 1) * x.length / k := ⟨_, rfl⟩
  rw [← ha] at hab haT ha0 ⊢
  rw [← hb] at hab hbn hbT hbk ⊢
  obtain ⟨L, hL⟩ : ∃ L, L = (if 0 < i then keyAt x a else lo) := ⟨_, rfl⟩
  obtain ⟨H, hH⟩ : ∃ H, H = (if i + 1 < k then keyAt x b else hi_) := ⟨_, rfl⟩
  rw [← hL, ← hH]
  have hL1 : ∀ h : 0 < i, L = (x[a]'(haT h)).key := fun h => by rw [hL, if_pos h, keyAt_eq (haT h)]
  have hL0 : ¬ 0 < i → L = lo := fun h => by rw [hL, if_neg h]
  have hH1 : ∀ h : i + 1 < k, H = (x[b]'(hbT h)).key := fun h => by rw [hH, if_pos h, keyAt_eq (hbT h)]
  have hH0 : ¬ i + 1 < k → H = hi_ := fun h => by rw [hH, if_neg h]
  have hLlo : ltB L lo = false := by
    by_cases h : 0 < i
    · rw [hL1 h]; exact (hxm _ (List.getElem_mem _)).2.1
    · rw [hL0 h]; exact ltB_irrefl _
  have hHne : i + 1 < k → H ≠ [] := fun h => by rw [hH1 h]; exact hne _ (hxm _ (List.getElem_mem _)).1
  have hstep : Ent.between l L H = x.filter (fun e => inR e.key L H) := by
    rw [hx]
    unfold Ent.between
    rw [List.filter_filter]
    apply List.filter_congr
    intro e _
    cases hr : inR e.key L H with
    | false => rfl
    | true =>
      obtain ⟨r1, r2⟩ := inR_iff.1 hr
      symm
      rw [Bool.true_and]
      refine inR_iff.2 ⟨not_lt_trans hLlo r1, ?_⟩
      by_cases h : i + 1 < k
      · have r3 : ltB e.key H = true := r2.resolve_left (hHne h)
        rw [hH1 h] at r3
        rcases (hxm _ (List.getElem_mem (hbT h))).2.2 with h5 | h5
        · exact .inl h5
        · exact .inr (ltB_trans r3 h5)
      · rw [hH0 h] at r2; exact r2
  rw [hstep]
  refine filter_slice L H a b hab hbn (fun j hj h => ?_) (fun j hj h => ?_) (fun j hj h => ?_) (fun j hj h => ?_)
  · by_cases h0 : 0 < i
    · rw [hL1 h0]
      rcases Nat.lt_or_ge a j with h5 | h5
      · exact ltB_asymm (hxu.lt hj h5)
      · obtain rfl : j = a := by omega
        exact ltB_irrefl _
    · rw [hL0 h0]; exact (hxm _ (List.getElem_mem _)).2.1
  · by_cases h0 : i + 1 < k
    · rw [hH1 h0]; exact .inr (hxu.lt (hbT h0) h)
    · rw [hH0 h0]; exact (hxm _ (List.getElem_mem _)).2.2
  · by_cases h0 : 0 < i
    · rw [hL1 h0]; exact hxu.lt (haT h0) h
    · have := ha0 (by omega); omega
  · by_cases h0 : i + 1 < k
    · refine ⟨hHne h0, ?_⟩
      rw [hH1 h0]
      rcases Nat.lt_or_ge b j with h5 | h5
      · exact ltB_asymm (hxu.lt hj h5)
      · obtain rfl : j = b := by omega
        exact ltB_irrefl _
    · have := hbk h0; omega
/-- What Differ tells of part i of another list's cut. -/
theorem Spl.diffs_split {l m : List Ent} (hl : Rise l) (lo hi_ : List UInt8) (ways : Int) (i : Nat) (hi : i < (Spl.split l lo hi_ ways).length) :
    Spl.diffs m (Spl.split l lo hi_ ways)[i] = !(((Ent.between m (Spl.split l lo hi_ ways)[i].lo (Spl.split l lo hi_ ways)[i].hi).length == (Ent.between l (Spl.split l lo hi_ ways)[i].lo (Spl.split l lo hi_ ways)[i].hi).length) && (Ent.digest (Ent.between m (Spl.split l lo hi_ ways)[i].lo (Spl.split l lo hi_ ways)[i].hi) == Ent.digest (Ent.between l (Spl.split l lo hi_ ways)[i].lo (Spl.split l lo hi_ ways)[i].hi))) := by
  have hne : ∀ e ∈ l, e.key ≠ [] := fun e he h => by
    obtain ⟨j, hj, rfl⟩ := List.getElem_of_mem he
    have := (hl.ok j hj).1
    rw [h] at this
    exact absurd this (by decide)
  have hik : i < Spl.k (Ent.between l lo hi_).length ways := by simpa [Spl.split] using hi
  have he : (Spl.split l lo hi_ ways)[i] = Spl.part (Ent.between l lo hi_) lo hi_ (Spl.k (Ent.between l lo hi_).length ways) (Spl.k (Ent.between l lo hi_).length ways) i := by simp [Spl.split]
  have hb := Spl.part_between hl.upw hne lo hi_ ways _ rfl i hik
  rw [he]
  rw [hb]
  unfold Spl.diffs Ent.partOf
  simp only
  have hc : (Spl.part (Ent.between l lo hi_) lo hi_ (Spl.k (Ent.between l lo hi_).length ways) (Spl.k (Ent.between l lo hi_).length ways) i).count = ((((Ent.between l lo hi_).take ((i + 1) * (Ent.between l lo hi_).length / (Spl.k (Ent.between l lo hi_).length ways))).drop (i * (Ent.between l lo hi_).length / (Spl.k (Ent.between l lo hi_).length ways))).length : Int) := by
    have h1 := Spl.cut_le (Ent.between l lo hi_).length _ (i + 1) hik (Spl.k_pos (Ent.between l lo hi_).length ways)
    rw [List.length_drop, List.length_take, Nat.min_eq_left h1]
    rfl
  have hs : (Spl.part (Ent.between l lo hi_) lo hi_ (Spl.k (Ent.between l lo hi_).length ways) (Spl.k (Ent.between l lo hi_).length ways) i).sum = Ent.digest (((Ent.between l lo hi_).take ((i + 1) * (Ent.between l lo hi_).length / (Spl.k (Ent.between l lo hi_).length ways))).drop (i * (Ent.between l lo hi_).length / (Spl.k (Ent.between l lo hi_).length ways))) := rfl
  rw [hc, hs]
  congr 2
  rw [Bool.eq_iff_iff, beq_iff_eq, beq_iff_eq]
  omega
/-- Told just if they differ; what is not told has one digest. -/
theorem Spl.finds {l m : List Ent} (hl : Rise l) (lo hi_ : List UInt8) (ways : Int) (i : Nat) (hi : i < (Spl.split l lo hi_ ways).length) (p : Pt) (hp : p = (Spl.split l lo hi_ ways)[i]) :
    (Spl.diffs m p = true → Ent.sameL (Ent.between l p.lo p.hi) (Ent.between m p.lo p.hi) = false) ∧ (Spl.diffs m p = false → Ent.digest (Ent.between l p.lo p.hi) = Ent.digest (Ent.between m p.lo p.hi)) := by
  have hd := Spl.diffs_split (m := m) hl lo hi_ ways i hi
  rw [← hp] at hd
  constructor
  · intro h
    refine Ent.sameL_ne fun e => ?_
    rw [hd, e] at h
    simp at h
  · intro h
    rw [hd] at h
    simp at h
    exact h.2.symm
end Go.Proofs.Ytiiekdhlcmaabaa

/- Plain law: a range's parts are it, without gaps, and have all its entries. -/

namespace Go.Proofs.Ytiiekdhlcmaabaa

open Go.RowKit

theorem Spl.split_len (l : List Ent) (lo hi : List UInt8) (ways : Int) : (Spl.split l lo hi ways).length = Spl.k (Ent.between l lo hi).length ways := by simp [Spl.split]
theorem Spl.split_at (l : List Ent) (lo hi : List UInt8) (ways : Int) (i : Nat) (h : i < Spl.k (Ent.between l lo hi).length ways) : Spl.at_ (Spl.split l lo hi ways) i = Spl.part (Ent.between l lo hi) lo hi (Spl.k (Ent.between l lo hi).length ways) (Spl.k (Ent.between l lo hi).length ways) i := by
  unfold Spl.at_
  rw [List.getD_eq_getElem?_getD, List.getElem?_eq_getElem (by rw [Spl.split_len]; exact h)]
  simp [Spl.split]
/-- How many entries stand ahead of part j. -/
def Spl.cut (l : List Ent) (lo hi : List UInt8) (ways : Int) (j : Nat) : Nat := j * (Ent.between l lo hi).length / Spl.k (Ent.between l lo hi).length ways
theorem Spl.cut_zero (l : List Ent) (lo hi : List UInt8) (ways : Int) : Spl.cut l lo hi ways 0 = 0 := by unfold Spl.cut; rw [Nat.zero_mul, Nat.zero_div]
theorem Spl.cut_all (l : List Ent) (lo hi : List UInt8) (ways : Int) : Spl.cut l lo hi ways (Spl.split l lo hi ways).length = (Ent.between l lo hi).length := by
  unfold Spl.cut
  rw [Spl.split_len]
  exact Spl.cut_k _ _ (Spl.k_pos _ _)
theorem Spl.cut_bound (l : List Ent) (lo hi : List UInt8) (ways : Int) (j : Nat) (h : j ≤ (Spl.split l lo hi ways).length) : Spl.cut l lo hi ways j ≤ (Ent.between l lo hi).length := by
  rw [Spl.split_len] at h
  exact Spl.cut_le _ _ _ h (Spl.k_pos _ _)
theorem Spl.count_at (l : List Ent) (lo hi : List UInt8) (ways : Int) (i : Nat) (h : i < (Spl.split l lo hi ways).length) : Spl.cut l lo hi ways i ≤ Spl.cut l lo hi ways (i + 1) ∧ (Spl.at_ (Spl.split l lo hi ways) i).count = ((Spl.cut l lo hi ways (i + 1) - Spl.cut l lo hi ways i : Nat) : Int) := by
  rw [Spl.split_len] at h
  rw [Spl.split_at _ _ _ _ _ h]
  exact ⟨Spl.cut_mono _ _ (Nat.le_succ i), rfl⟩
theorem rise_ne {l : List Ent} (hl : Rise l) : ∀ e ∈ l, e.key ≠ [] := fun e he h => by
  obtain ⟨j, hj, rfl⟩ := List.getElem_of_mem he
  have := (hl.ok j hj).1
  rw [h] at this
  exact absurd this (by decide)
/-- What has been gathered when one part more is. -/
theorem Spl.gather {l : List Ent} (hl : Rise l) (lo hi : List UInt8) (ways : Int) (i : Nat) (h : i < (Spl.split l lo hi ways).length) :
    (Ent.between l lo hi).take (Spl.cut l lo hi ways i) ++ Ent.between l (Spl.at_ (Spl.split l lo hi ways) i).lo (Spl.at_ (Spl.split l lo hi ways) i).hi = (Ent.between l lo hi).take (Spl.cut l lo hi ways (i + 1)) := by
  have hc := (Spl.count_at l lo hi ways i h).1
  rw [Spl.split_len] at h
  rw [Spl.split_at _ _ _ _ _ h, Spl.part_between hl.upw (rise_ne hl) lo hi ways _ rfl i h]
  show (Ent.between l lo hi).take (Spl.cut l lo hi ways i) ++ ((Ent.between l lo hi).take (Spl.cut l lo hi ways (i + 1))).drop (Spl.cut l lo hi ways i) = _
  conv => rhs; rw [← List.take_append_drop (Spl.cut l lo hi ways i) ((Ent.between l lo hi).take (Spl.cut l lo hi ways (i + 1)))]
  rw [List.take_take, Nat.min_eq_left hc]
theorem Spl.own_differ {l : List Ent} (hl : Rise l) (lo hi : List UInt8) (ways : Int) : Spl.differ l (Spl.split l lo hi ways) = [] := by
  unfold Spl.differ Spl.differK
  rw [List.filter_eq_nil_iff]
  intro i hi2
  rw [List.mem_range] at hi2
  simp only [List.getElem?_eq_getElem hi2]
  rw [Spl.diffs_split hl lo hi ways i hi2]
  simp
theorem Spl.split_cov {l : List Ent} (hl : Rise l) (lo hi : List UInt8) (ways : Int) (hlt : hi = [] ∨ ltB lo hi = true) : Spl.Cov lo hi (Spl.split l lo hi ways) := by
  obtain ⟨x, hx⟩ : ∃ x, x = Ent.between l lo hi := ⟨_, rfl⟩
  have hxu : Up x := by rw [hx]; exact hl.upw.sub List.filter_sublist
  have hxm : ∀ e ∈ x, e ∈ l ∧ ltB e.key lo = false ∧ (hi = [] ∨ ltB e.key hi = true) := fun e he => by
    rw [hx] at he
    obtain ⟨h1, h2⟩ := List.mem_filter.1 he
    exact ⟨h1, inR_iff.1 h2⟩
  have hne := rise_ne hl
  have hsl := Spl.split_len l lo hi ways
  have hat := Spl.split_at l lo hi ways
  rw [← hx] at hsl hat
  obtain ⟨P, hP⟩ : ∃ P, P = Spl.split l lo hi ways := ⟨_, rfl⟩
  rw [← hP] at hsl hat ⊢
  have hk1 := Spl.k_pos x.length ways
  have hkn := Spl.k_n x.length ways
  obtain ⟨k, hk⟩ : ∃ k, k = Spl.k x.length ways := ⟨_, rfl⟩
  rw [← hk] at hk1 hkn hsl hat
  have hbT : ∀ i, i + 1 < k → (i + 1) * x.length / k < x.length := fun i h0 => by
    rcases hkn with h1 | h1
    · omega
    · exact Nat.lt_of_lt_of_le (Spl.cut_lt _ _ (i + 1) hk1 h1) (Spl.cut_le _ _ _ h0 hk1)
  have habT : ∀ i, 2 ≤ k → i * x.length / k < (i + 1) * x.length / k := fun i h2 => by
    rcases hkn with h1 | h1
    · omega
    · exact Spl.cut_lt _ _ i hk1 h1
  have klt : ∀ i (h : i + 1 < k), keyAt x ((i + 1) * x.length / k) = (x[(i + 1) * x.length / k]'(hbT i h)).key := fun i h => keyAt_eq (hbT i h)
  refine ⟨by omega, ?_, ?_, fun i hik => ?_⟩
  · rw [hat 0 (by omega)]; rfl
  · rw [hsl, hat (k - 1) (by omega)]
    unfold Spl.part
    simp only
    rw [if_neg (by omega)]
  · rw [hsl] at hik
    unfold Spl.okP
    rw [hsl, hat i hik]
    refine ⟨fun h => ?_, fun h => ?_, fun h => ?_⟩
    · unfold Spl.part
      simp only
      rw [if_pos h, klt i h]
      exact hne _ (hxm _ (List.getElem_mem _)).1
    · unfold Spl.part at h ⊢
      simp only at h ⊢
      by_cases h1 : i + 1 < k
      · rw [if_pos h1, klt i h1]
        by_cases h0 : 0 < i
        · rw [if_pos h0]
          obtain ⟨j, rfl⟩ : ∃ j, i = j + 1 := ⟨i - 1, by omega⟩
          rw [klt j (by omega)]
          exact hxu.lt (hbT _ h1) (habT _ (by omega))
        · rw [if_neg h0]
          obtain rfl : i = 0 := by omega
          have hb0 : 0 < (0 + 1) * x.length / k := by
            have := habT 0 (by omega)
            rw [Nat.zero_mul, Nat.zero_div] at this
            exact this
          have h3 := hxu.lt (hbT 0 h1) hb0
          have h4 := (hxm _ (List.getElem_mem (show 0 < x.length from Nat.lt_trans hb0 (hbT 0 h1)))).2.1
          rcases ltB_tri lo (x[0]'(Nat.lt_trans hb0 (hbT 0 h1))).key with h5 | h5 | h5
          · exact ltB_trans h5 h3
          · rw [h5]; exact h3
          · rw [h5] at h4; cases h4
      · rw [if_neg h1] at h ⊢
        by_cases h0 : 0 < i
        · rw [if_pos h0]
          obtain ⟨j, rfl⟩ : ∃ j, i = j + 1 := ⟨i - 1, by omega⟩
          rw [klt j (by omega)]
          exact ((hxm _ (List.getElem_mem _)).2.2).resolve_left h
        · rw [if_neg h0]
          exact hlt.resolve_left h
    · rw [hat (i + 1) h]
      unfold Spl.part
      simp only
      rw [if_pos h, if_pos (by omega)]
end Go.Proofs.Ytiiekdhlcmaabaa

/- Plain law: the parts in which two lists of entries differ, narrowed: into depth, and from a list of what is to be done. -/

namespace Go.Proofs.Ytiiekdhlcmaabaa

open Go.RowKit

/-- Is a part small enough? -/
def Spl.leaf (least : Int) (p : Pt) : Bool := decide (p.count ≤ 1) || decide (p.count ≤ least)
mutual
/-- A part narrowed: the parts, and how many more were told. -/
def Spl.nar (M Th : List Ent) (least : Int) : Nat → Pt → List Pt × Nat
  | 0, _ => ([], 0)
  | f + 1, p => if Spl.diffs M p = false then ([], 0) else if Spl.leaf least p then ([p], 0) else
      let r := Spl.narL M Th least f (Spl.split Th p.lo p.hi 8)
      (r.1, (Spl.split Th p.lo p.hi 8).length + r.2)
def Spl.narL (M Th : List Ent) (least : Int) : Nat → List Pt → List Pt × Nat
  | _, [] => ([], 0)
  | f, p :: ps => ((Spl.nar M Th least f p).1 ++ (Spl.narL M Th least f ps).1, (Spl.nar M Th least f p).2 + (Spl.narL M Th least f ps).2)
end

theorem Spl.narL_app (M Th : List Ent) (least : Int) (f : Nat) (a b : List Pt) : Spl.narL M Th least f (a ++ b) = ((Spl.narL M Th least f a).1 ++ (Spl.narL M Th least f b).1, (Spl.narL M Th least f a).2 + (Spl.narL M Th least f b).2) := by
  induction a with
  | nil => simp [Spl.narL]
  | cons p a ih => simp only [List.cons_append, Spl.narL, ih, List.append_assoc, Nat.add_assoc]
/-- A part that says how many entries it has. -/
def Spl.Good (Th : List Ent) (p : Pt) : Prop := p.count = ((Ent.between Th p.lo p.hi).length : Int)
theorem Spl.child {Th : List Ent} (hl : Rise Th) (lo hi : List UInt8) (ways : Int) (i : Nat) (h : i < (Spl.split Th lo hi ways).length) :
    Spl.Good Th (Spl.split Th lo hi ways)[i] := by
  have hk := h
  rw [Spl.split_len] at hk
  have he : (Spl.split Th lo hi ways)[i] = Spl.part (Ent.between Th lo hi) lo hi (Spl.k (Ent.between Th lo hi).length ways) (Spl.k (Ent.between Th lo hi).length ways) i := by simp [Spl.split]
  unfold Spl.Good
  rw [he, Spl.part_between hl.upw (rise_ne hl) lo hi ways _ rfl i hk]
  have h1 := Spl.cut_le (Ent.between Th lo hi).length _ (i + 1) hk (Spl.k_pos (Ent.between Th lo hi).length ways)
  rw [List.length_drop, List.length_take, Nat.min_eq_left h1]
  rfl
theorem Spl.child_lt {Th : List Ent} (lo hi : List UInt8) (ways : Int) (i : Nat) (h : i < (Spl.split Th lo hi ways).length) (h2 : 2 ≤ Spl.k (Ent.between Th lo hi).length ways) :
    (Spl.split Th lo hi ways)[i].count < ((Ent.between Th lo hi).length : Int) := by
  have hk := h
  rw [Spl.split_len] at hk
  have he : (Spl.split Th lo hi ways)[i] = Spl.part (Ent.between Th lo hi) lo hi (Spl.k (Ent.between Th lo hi).length ways) (Spl.k (Ent.between Th lo hi).length ways) i := by simp [Spl.split]
  rw [he]
  show ((((i + 1) * (Ent.between Th lo hi).length / Spl.k (Ent.between Th lo hi).length ways - i * (Ent.between Th lo hi).length / Spl.k (Ent.between Th lo hi).length ways : Nat) : Int)) < _
  obtain ⟨n, hn⟩ : ∃ n, n = (Ent.between Th lo hi).length := ⟨_, rfl⟩
  obtain ⟨k, hk0⟩ : ∃ k, k = Spl.k n ways := ⟨_, rfl⟩
  rw [← hn] at hk h2 ⊢
  rw [← hk0] at hk h2 ⊢
  have hk1 : 1 ≤ k := by omega
  have hkn : k ≤ n := by
    have := Spl.k_n n ways
    rw [← hk0] at this
    omega
  have hb := Spl.cut_le n k (i + 1) hk hk1
  have hlt := Spl.cut_lt n k i hk1 hkn
  rcases Nat.eq_zero_or_pos i with rfl | hi0
  · have h3 := Spl.cut_lt n k 1 hk1 hkn
    have h4 := Spl.cut_le n k 2 h2 hk1
    have h5 : (0 + 1) * n / k = 1 * n / k := rfl
    have h6 : (1 + 1) * n / k = 2 * n / k := rfl
    have hA : (0 + 1) * n / k < n := by rw [h5]; exact Nat.lt_of_lt_of_le h3 (by rw [h6]; exact h4)
    exact Int.ofNat_lt.2 (Nat.lt_of_le_of_lt (Nat.sub_le _ _) hA)
  · have h3 := Spl.cut_lt n k 0 hk1 hkn
    have h4 := Spl.cut_mono n k (i := 0 + 1) (j := i) (by omega)
    rw [Nat.zero_mul, Nat.zero_div] at h3
    omega
/-- More fuel than a part has entries changes nothing. -/
theorem Spl.nar_fuel {M Th : List Ent} (hl : Rise Th) (least : Int) : ∀ (f g : Nat) (p : Pt), Spl.Good Th p → p.count < (f : Int) → p.count < (g : Int) → Spl.nar M Th least f p = Spl.nar M Th least g p := by
  intro f
  induction f with
  | zero => intro g p hp h1 _; unfold Spl.Good at hp; omega
  | succ f ih =>
    intro g p hp h1 h2
    cases g with
    | zero => unfold Spl.Good at hp; omega
    | succ g =>
      unfold Spl.nar
      split
      · rfl
      · split
        · rfl
        · rename_i hlf
          have hc : 2 ≤ p.count := by
            unfold Spl.leaf at hlf
            simp at hlf
            omega
          have hn : 2 ≤ (Ent.between Th p.lo p.hi).length := by unfold Spl.Good at hp; omega
          have hk2 : 2 ≤ Spl.k (Ent.between Th p.lo p.hi).length 8 := by unfold Spl.k; omega
          have each : ∀ q ∈ Spl.split Th p.lo p.hi 8, Spl.Good Th q ∧ q.count < p.count := fun q hq => by
            obtain ⟨i, hi, rfl⟩ := List.getElem_of_mem hq
            exact ⟨Spl.child hl _ _ _ i hi, by rw [show p.count = _ from hp]; exact Spl.child_lt _ _ _ i hi hk2⟩
          have all : ∀ ps : List Pt, (∀ q ∈ ps, Spl.Good Th q ∧ q.count < p.count) → Spl.narL M Th least f ps = Spl.narL M Th least g ps := by
            intro ps
            induction ps with
            | nil => intro _; simp [Spl.narL]
            | cons q ps ih2 =>
              intro hq
              have h3 := hq q (by simp)
              simp only [Spl.narL]
              rw [ih g q h3.1 (by omega) (by omega), ih2 fun q hq2 => hq q (by simp [hq2])]
          simp only [all _ each]
end Go.Proofs.Ytiiekdhlcmaabaa

/- Contract: a part narrowed (split.narrower). -/

namespace Go.Proofs.Ytiiekdhlcmaabaa

open Go.RowKit

attribute [local go_sem] Oper.semAt_some

theorem Spl.leaf_out (M Th : List Ent) (least : Int) (f : Nat) (p : Pt) (hd : Spl.diffs M p = false) : Spl.nar M Th least (f + 1) p = ([], 0) := by unfold Spl.nar; rw [if_pos hd]
theorem Spl.leaf_one (M Th : List Ent) (least : Int) (f : Nat) (p : Pt) (hd : Spl.diffs M p = true) (hl : Spl.leaf least p = true) : Spl.nar M Th least (f + 1) p = ([p], 0) := by unfold Spl.nar; rw [if_neg (by rw [hd]; simp), if_pos hl]
theorem Spl.leaf_more (M Th : List Ent) (least : Int) (f : Nat) (p : Pt) (hd : Spl.diffs M p = true) (hl : Spl.leaf least p = false) : Spl.nar M Th least (f + 1) p = ((Spl.narL M Th least f (Spl.split Th p.lo p.hi 8)).1, (Spl.split Th p.lo p.hi 8).length + (Spl.narL M Th least f (Spl.split Th p.lo p.hi 8)).2) := by
  unfold Spl.nar; rw [if_neg (by rw [hd]; simp), if_neg (by rw [hl]; simp)]
/-- No more parts come out than entries went in. -/
theorem Spl.nar_len {M Th : List Ent} (hl : Rise Th) (least : Int) : ∀ (f : Nat) (p : Pt), Spl.Good Th p → (Spl.nar M Th least f p).1.length ≤ max 1 (Ent.between Th p.lo p.hi).length := by
  intro f
  induction f with
  | zero => intro p _; simp [Spl.nar]
  | succ f ih =>
    intro p hp
    cases hd : Spl.diffs M p with
    | false => rw [Spl.leaf_out _ _ _ _ _ hd]; simp
    | true =>
      cases hlf : Spl.leaf least p with
      | true => rw [Spl.leaf_one _ _ _ _ _ hd hlf]; simp; omega
      | false =>
        rw [Spl.leaf_more _ _ _ _ _ hd hlf]
        have hc : 2 ≤ p.count := by
          unfold Spl.leaf at hlf
          simp at hlf
          omega
        have hn : 2 ≤ (Ent.between Th p.lo p.hi).length := by unfold Spl.Good at hp; omega
        have hk2 : 2 ≤ Spl.k (Ent.between Th p.lo p.hi).length 8 := by unfold Spl.k; omega
        have hkn : Spl.k (Ent.between Th p.lo p.hi).length 8 ≤ (Ent.between Th p.lo p.hi).length := by
          have := Spl.k_n (Ent.between Th p.lo p.hi).length 8; omega
        have hsl := Spl.split_len Th p.lo p.hi 8
        obtain ⟨ps, hps⟩ : ∃ ps, ps = Spl.split Th p.lo p.hi 8 := ⟨_, rfl⟩
        have all : ∀ j, j ≤ ps.length → (Spl.narL M Th least f (ps.take j)).1.length ≤ Spl.cut Th p.lo p.hi 8 j := by
          intro j
          induction j with
          | zero => intro _; simp [Spl.narL]
          | succ j ihj =>
            intro hj
            have hjj : j < ps.length := by omega
            have h1 := ihj (by omega)
            rw [List.take_succ_eq_append_getElem hjj, Spl.narL_app]
            simp only [Spl.narL, List.append_nil, List.length_append]
            have hg : Spl.Good Th ps[j] := by subst hps; exact Spl.child hl _ _ _ j hjj
            have h2 := ih ps[j] hg
            have h3 : ps[j].count = ((Spl.cut Th p.lo p.hi 8 (j + 1) - Spl.cut Th p.lo p.hi 8 j : Nat) : Int) := by
              subst hps
              have := (Spl.count_at Th p.lo p.hi 8 j hjj).2
              unfold Spl.at_ at this
              rw [List.getD_eq_getElem?_getD, List.getElem?_eq_getElem hjj] at this
              exact this
            have h4 : Spl.cut Th p.lo p.hi 8 j < Spl.cut Th p.lo p.hi 8 (j + 1) := Spl.cut_lt _ _ j (by omega) hkn
            unfold Spl.Good at hg
            omega
        have h1 := all ps.length (Nat.le_refl _)
        rw [List.take_of_length_le (Nat.le_refl _)] at h1
        rw [← hps]
        have h2 : Spl.cut Th p.lo p.hi 8 ps.length = (Ent.between Th p.lo p.hi).length := by rw [hps]; exact Spl.cut_all _ _ _ _
        simp only
        omega
/-- A slice literal of one struct, as an operation. -/
theorem ex_buildOne {P : Program} {w : World} {o : Oper} {a : Act} (t : TypeId) (x : Operand) (ho : o.op = .buildSlice t 1 #[(0, x)])
    {e : TypeId} {size bytes : Nat} (T : ElemT P t e size bytes) (cs : Array Value) (hx : a.eval x = .agg cs) (hs : cs.size = size) (hsm : size ≤ 1000) :
    (execOp a.eval o).run P w = .ok (.value (.slice (some ⟨w.heap.size, 0, none⟩) 1 1)) (w.alloc (.cells cs e)) := by
  obtain ⟨i, z, g1, g2, g3, g4, g5⟩ := T.hi
  have hpos := T.pos
  subst g3
  have hf : Instr.fill (fun j => some (j * i.size, i.size)) ((Array.range (1 * i.size)).map (z.cells[· % z.cells.size]!)) (#[(0, x)].map fun (y : Nat × Operand) => (y.1, a.eval y.2)).toList = some cs := by
    have e1 : (#[(0, x)].map fun (y : Nat × Operand) => (y.1, a.eval y.2)).toList = [(0, Value.agg cs)] := by simp [hx]
    exact (congrArg _ e1).trans (fill_one i.size _ cs hs (by simp))
  have hr := run_buildSlice (P := P) w t e 1 _ cs i z T.ht g1 g2 (by omega) (by omega) hf
  unfold execOp
  simp only [ho, Sem.run_bind]
  rw [hr]
  rfl
theorem RdP.one (w : World) (t : TypeId) (p : PtV) (h : p.In w) : RdP (w.alloc (.cells p.cells t)) (some ⟨w.heap.size, 0, none⟩) [p] := by
  refine ⟨⟨by rw [pcs_len (l := [p]) (by simp [h.sum])], fun _ => ⟨_, rfl, fun j u hj => ?_⟩⟩, fun q hq => ?_⟩
  · rw [Addr.add_lit, cell_of_row _ _ _ _ _ _ (heap_alloc_new w _), Nat.zero_add]
    simpa [pcs] using hj
  · obtain rfl : q = p := by simpa using hq
    exact h.below (Ext.alloc w _)
end Go.Proofs.Ytiiekdhlcmaabaa

/- A region that draws its order: as XReg2, but what changes memory need not wait for the moves that came before it. Printed by wip/tools/gen_reg4.py. -/

namespace Go.Proofs.Ytiiekdhlcmaabaa

open Go.RowKit

/-- Is operation k a move? -/
def movesB (ops : Array Oper) (k : Nat) : Bool := match ops[k]? with
  | some o => (match o.op with | .move _ => true | _ => false)
  | none => false
/-- Operation i waits for all that came, but for moves. -/
def waitsM (md : Region.Mode) (ops : Array Oper) (listed : Array Bool) (i : Nat) : Bool :=
  (List.range ops.size).all fun k => !listed.getD k false || (reach md ops ops.size i k || movesB ops k)
section

variable {P : Program} {ops : Array Oper} {md : Region.Mode} {Q : Exit → Act → World → Prop}

theorem waitsM_less {listed : Array Bool} {i j : Nat} (h : waitsM md ops (listed.setIfInBounds i true) j = true) : waitsM md ops listed j = true := by
  unfold waitsM at h ⊢
  rw [List.all_eq_true] at h ⊢
  intro k hk
  have h1 := h k hk
  cases hl : listed.getD k false with
  | false => simp
  | true => rw [getD_set_true hl] at h1; exact h1
theorem yields_move {i : Nat} {oi : Oper} {v : Value} {a : Act} {w w' : World} (hi : ops[i]? = some oi) (hm : movesB ops i = true) (h : YieldsIf P ops (Ext w) oi v a) : YieldsIf P ops (Ext w') oi v a := by
  unfold movesB at hm
  rw [hi] at hm
  simp only at hm
  have hop : ∃ x, oi.op = .move x := by
    split at hm
    · rename_i x hx; exact ⟨x, hx⟩
    · cases hm
  obtain ⟨x, hx⟩ := hop
  refine h.imp (fun ⟨h1, h2⟩ => ⟨h1, fun w'' _ => ?_⟩) id
  have h3 := h2 w (Ext.refl w)
  unfold execOp at h3 ⊢
  simp only [hx, Sem.run_pure, Result.ok.injEq, Next.value.injEq, and_true] at h3 ⊢
  exact h3
/-- Whatever order is picked from here on: behind each operation what was there is as it was, or the operation waits for all that came before it. -/
def wpAnyM (P : Program) (md : Region.Mode) (ops : Array Oper) (Q : Exit → Act → World → Prop) : Nat → Array Bool → Act → World → Prop
  | 0, listed, a, w => Region.ready md ops listed = [] ∧ Q .normal a w
  | fuel + 1, listed, a, w =>
    (Region.ready md ops listed = [] → Q .normal a w) ∧
    ∀ i ∈ Region.ready md ops listed, wpOp P ops Q i (fun a' w' => (Ext w w' ∨ waitsM md ops listed i = true) ∧ wpAnyM P md ops Q fuel (listed.setIfInBounds i true) a' w') a w

theorem wpAny_of_M : ∀ (fuel : Nat) (listed : Array Bool) (a : Act) (w : World), wpAnyM P md ops Q fuel listed a w → wpAny P md ops Q fuel listed a w
  | 0, _, _, _, h => h
  | fuel + 1, _, _, _, h => ⟨h.1, fun i hi => wpOp_mono (fun a' w' h' => wpAny_of_M fuel _ a' w' h'.2) (h.2 i hi)⟩

theorem wpAnyM_first {i : Nat} {oi : Oper} {v : Value} (hi : ops[i]? = some oi) (hsel : ∀ (j : Nat) (o : Oper) cs b, ops[j]? = some o → o.op ≠ .select cs b)
    (hQ : ∀ c a w, Q (.panic c) (a.put oi.dst v) w → Q (.panic c) a w) :
    ∀ (fuel : Nat) (listed : Array Bool) (a : Act) (w : World), Closed md ops listed →
      (∀ j oj, ops[j]? = some oj → j ≠ i → listed.getD j true = false → (∀ e ∈ oj.after, Region.binds md e = true → e.on ≠ i) → oi.apart ops oj = true) →
      i ∈ Region.ready md ops listed → YieldsIf P ops (Ext w) oi v a →
      wpAnyM P md ops Q fuel (listed.setIfInBounds i true) (a.put oi.dst v) w → wpAnyM P md ops Q (fuel + 1) listed a w := by
  intro fuel
  induction fuel with
  | zero =>
    intro listed a w _ _ hr hy H
    refine ⟨fun h => (by rw [h] at hr; cases hr), fun j hj => ?_⟩
    by_cases hji : j = i
    · subst hji; exact hy.wpOp hi (Ext.refl w) ⟨.inl (Ext.refl w), H⟩
    · have := ready_mono hj hji
      rw [H.1] at this
      cases this
  | succ fuel ih =>
    intro listed a w hcl hfree hr hy H
    refine ⟨fun h => (by rw [h] at hr; cases hr), fun j hj => ?_⟩
    by_cases hji : j = i
    · subst hji; exact hy.wpOp hi (Ext.refl w) ⟨.inl (Ext.refl w), H⟩
    · have h1 := H.2 j (ready_mono hj hji)
      obtain ⟨hjun, oj, hoj, hall⟩ := mem_ready.1 hj
      have hiun := (mem_ready.1 hr).1
      have hilt : i < listed.size := by
        rcases Nat.lt_or_ge i listed.size with h' | h'
        · exact h'
        · simp [Array.getElem?_eq_none h'] at hiun
      have hnot : ∀ e ∈ oj.after, Region.binds md e = true → e.on ≠ i := fun e he hb heq => by
        have h1 := hall e he hb
        rw [heq] at h1
        simp [hilt] at hiun h1
        rw [hiun] at h1; cases h1
      have hnow : waitsM md ops (listed.setIfInBounds i true) j = true → movesB ops i = true := fun hw => by
        unfold waitsM at hw
        have h1 := (List.all_eq_true.1 hw) i (List.mem_range.2 (Array.getElem?_eq_some_iff.1 hi).1)
        have hset : (listed.setIfInBounds i true).getD i false = true := by simp [hilt]
        rw [hset] at h1
        simp only [Bool.not_true, Bool.false_or, Bool.or_eq_true] at h1
        rcases h1 with h1 | h1
        · have h3 := reach_listed hcl _ j oj i hoj hall h1
          simp [hilt] at hiun h3
          rw [hiun] at h3; cases h3
        · exact h1
      have h2 := wpOp_putIf hoj (hfree j oj hoj hji hjun hnot) (fun cs b => hsel i oi cs b hi) (fun cs b => hsel j oj cs b hoj) hQ hy h1
      have hfree' : ∀ k ok, ops[k]? = some ok → k ≠ i → (listed.setIfInBounds j true).getD k true = false →
          (∀ e ∈ ok.after, Region.binds md e = true → e.on ≠ i) → oi.apart ops ok = true := fun k ok hk hki hun hno => by
        refine hfree k ok hk hki ?_ hno
        by_cases hjk : j = k
        · subst hjk; exact hjun
        · rw [getD_set_ne true hjk] at hun; exact hun
      refine wpOp_mono (fun a' w' h3 => ?_) h2
      have hrest : wpAnyM P md ops Q fuel ((listed.setIfInBounds j true).setIfInBounds i true) (a'.put oi.dst v) w' := by
        rw [Array.setIfInBounds_comm _ _ hji]
        exact h3.2.2
      rcases h3.2.1 with hx | hw
      · exact ⟨.inl hx, ih (listed.setIfInBounds j true) a' w' (closed_set hcl hj) hfree' (ready_mono hr (Ne.symm hji)) (yields_ext h3.1 hx) hrest⟩
      · refine ⟨.inr (waitsM_less hw), ih (listed.setIfInBounds j true) a' w' (closed_set hcl hj) hfree' (ready_mono hr (Ne.symm hji)) (yields_move hi (hnow hw) h3.1) hrest⟩

theorem rm_start {id : Nat} {a : Act} {w : World} (hm : P.follows .mixedOrders = true)
    (h : wpAnyM P .any ops Q ops.size (Array.replicate ops.size false) a w.drew) : (Code.region id ops true).wp P Q a w := wp_region_any hm (wpAny_of_M _ _ _ _ h)

/-- A quiet operation. -/
theorem rm_take (i : Nat) {oi : Oper} {fuel : Nat} {listed : Array Bool} {a : Act} {w : World} (hi0 : ops.toList[i]? = some oi)
    (hs : Region.noSelect ops = true) (hf : (closedB md ops listed && Region.free md ops listed i) = true) (hr : (Region.ready md ops listed).contains i = true)
    (hQ : ∀ c a v w, Q (.panic c) (a.put oi.dst v) w → Q (.panic c) a w) (hw : Region.wanted oi (yielded ops a.tmps) = true)
    (h : ∃ v, (∀ w', Ext w w' → (execOp a.eval oi).run P w' = .ok (.value v) w') ∧ wpAnyM P md ops Q fuel (listed.setIfInBounds i true) (a.put oi.dst v) w) : wpAnyM P md ops Q (fuel + 1) listed a w := by
  have hi : ops[i]? = some oi := by rw [← hi0]; simp
  obtain ⟨v, hv, h⟩ := h
  exact wpAnyM_first hi (Region.noSelect_spec hs) (fun c a w => hQ c a v w) fuel listed a w (closed_of (Bool.and_eq_true _ _ ▸ hf).1) (Region.free_spec hi (Bool.and_eq_true _ _ ▸ hf).2) (by simpa using hr) (.inl ⟨hw, hv⟩) h

/-- One that its guard leaves out. -/
theorem rm_skip (i : Nat) {oi : Oper} {fuel : Nat} {listed : Array Bool} {a : Act} {w : World} (hi0 : ops.toList[i]? = some oi)
    (hs : Region.noSelect ops = true) (hf : (closedB md ops listed && Region.free md ops listed i) = true) (hr : (Region.ready md ops listed).contains i = true)
    (hQ : ∀ c a v w, Q (.panic c) (a.put oi.dst v) w → Q (.panic c) a w) (hw : Region.wanted oi (yielded ops a.tmps) = false)
    (h : wpAnyM P md ops Q fuel (listed.setIfInBounds i true) (a.put oi.dst undef) w) : wpAnyM P md ops Q (fuel + 1) listed a w := by
  have hi : ops[i]? = some oi := by rw [← hi0]; simp
  exact wpAnyM_first hi (Region.noSelect_spec hs) (fun c a w => hQ c a _ w) fuel listed a w (closed_of (Bool.and_eq_true _ _ ▸ hf).1) (Region.free_spec hi (Bool.and_eq_true _ _ ▸ hf).2) (by simpa using hr) (.inr ⟨hw, rfl⟩) h

theorem rm_one (i : Nat) {oi : Oper} {fuel : Nat} {listed : Array Bool} {a : Act} {w : World} (hi0 : ops.toList[i]? = some oi)
    (hr : Region.ready md ops listed = [i]) (hw : Region.wanted oi (yielded ops a.tmps) = true)
    (h : oi.wp P a w (fun a' w' => (Ext w w' ∨ waitsM md ops listed i = true) ∧ wpAnyM P md ops Q fuel (listed.setIfInBounds i true) a' w') Q) : wpAnyM P md ops Q (fuel + 1) listed a w := by
  have hi : ops[i]? = some oi := by rw [← hi0]; simp
  refine ⟨fun h0 => absurd (hr ▸ h0) (by simp), fun j hj => ?_⟩
  rw [hr] at hj
  obtain rfl : j = i := by simpa using hj
  unfold wpOp
  rw [hi]
  show if _ then _ else _
  rw [if_pos hw]
  exact .inl h

/-- A call, the only operation that may come up now. -/
theorem rm_call (i : Nat) {oi : Oper} {fuel : Nat} {listed : Array Bool} {a : Act} {w : World} {f : FuncId} {args : Array Value} {R : Ending → World → Prop} (hc : Calls P f args w R) (hi0 : ops.toList[i]? = some oi)
    (hr : Region.ready md ops listed = [i]) (hw : Region.wanted oi (yielded ops a.tmps) = true)
    (hx : (execOp a.eval oi).run P w = .ok (.enter f args) w)
    (h : ∀ e w', R e w' → ∃ v, e = .returned v ∧ Ext w w' ∧ wpAnyM P md ops Q fuel (listed.setIfInBounds i true) (a.put oi.dst v) w') : wpAnyM P md ops Q (fuel + 1) listed a w := by
  refine rm_one i hi0 hr hw ?_
  unfold Oper.wp
  rw [hx, Oper.upon_enter]
  refine hc.mono fun e w' hR => ?_
  obtain ⟨v, rfl, h1, h2⟩ := h e w' hR
  exact ⟨.inl h1, h2⟩

/-- Another operation that only makes memory, the only one that may come up now. -/
theorem rm_make (i : Nat) {oi : Oper} {fuel : Nat} {listed : Array Bool} {a : Act} {w : World} (hi0 : ops.toList[i]? = some oi)
    (hr : Region.ready md ops listed = [i]) (hw : Region.wanted oi (yielded ops a.tmps) = true)
    (h : ∃ v w', (execOp a.eval oi).run P w = .ok (.value v) w' ∧ Ext w w' ∧ wpAnyM P md ops Q fuel (listed.setIfInBounds i true) (a.put oi.dst v) w') : wpAnyM P md ops Q (fuel + 1) listed a w := by
  obtain ⟨v, w', hx, h1, h2⟩ := h
  refine rm_one i hi0 hr hw ?_
  unfold Oper.wp
  rw [hx, Oper.upon_value]
  exact ⟨.inl h1, h2⟩

/-- An operation that may change anything, the only one that may come up now; it waits for all that came. -/
theorem rm_last (i : Nat) {oi : Oper} {fuel : Nat} {listed : Array Bool} {a : Act} {w : World} (hi0 : ops.toList[i]? = some oi)
    (hr : Region.ready md ops listed = [i]) (hwt : waitsM md ops listed i = true) (hw : Region.wanted oi (yielded ops a.tmps) = true)
    (h : ∀ K : Act → World → Prop, (∀ a' w', wpAnyM P md ops Q fuel (listed.setIfInBounds i true) a' w' → K a' w') → oi.wp P a w K Q) : wpAnyM P md ops Q (fuel + 1) listed a w :=
  rm_one i hi0 hr hw (h _ fun _ _ h1 => ⟨.inr hwt, h1⟩)

/-- A store, the only operation that may come up now; it waits for all that came. -/
theorem rm_store (i : Nat) {oi : Oper} {fuel : Nat} {listed : Array Bool} {a : Act} {w : World} (hi0 : ops.toList[i]? = some oi)
    (hr : Region.ready md ops listed = [i]) (hwt : waitsM md ops listed i = true) (hw : Region.wanted oi (yielded ops a.tmps) = true)
    (h : ∃ w', (execOp a.eval oi).run P w = .ok .skip w' ∧ wpAnyM P md ops Q fuel (listed.setIfInBounds i true) (a.put oi.dst undef) w') : wpAnyM P md ops Q (fuel + 1) listed a w := by
  obtain ⟨w', hx, h2⟩ := h
  refine rm_one i hi0 hr hw ?_
  unfold Oper.wp
  rw [hx, Oper.upon_skip]
  exact ⟨.inr hwt, h2⟩

theorem rm_done {fuel : Nat} {listed : Array Bool} {a : Act} {w : World} (hr : Region.ready md ops listed = []) (h : Q .normal a w) : wpAnyM P md ops Q fuel listed a w := by
  cases fuel with
  | zero => exact ⟨hr, h⟩
  | succ n => exact ⟨fun _ => h, by rw [hr]; simp⟩

end

end Go.Proofs.Ytiiekdhlcmaabaa

/- Contract: a range cut into parts (split.Split): the result lies in a new block. Out of XSplSplit. -/

namespace Go.Proofs.Ytiiekdhlcmaabaa

open Go.RowKit

attribute [local go_sem] Oper.semAt_some

set_option maxRecDepth 100000 in
set_option maxHeartbeats 4000000 in
theorem split_new (A : Option Addr) (l : List EnV) (cap : Nat) (L H : Option Addr) (lo hi : List UInt8) (cl ch : Nat) (ways : Int) (w0 w : World) (hx0 : Ext w0 w) (hl : RdE w0 A l) (hf : Fit l) (hL : RdB w0 L lo) (hH : RdB w0 H hi) (hcl : lo.length ≤ cl) (hch : hi.length ≤ ch) :
    Calls Try.prog 12 #[.slice A l.length cap, .slice L lo.length cl, .slice H hi.length ch, .int .i64 ways] w fun e w' => ∃ A' c' T, e = .returned (.slice A' T.length c') ∧ T.map PtV.x = Spl.split (l.map EnV.x) lo hi ways ∧ RdP w' A' T ∧ (∀ p ∈ T, p.In w0) ∧ (∀ ad, A' = some ad → w.heap.size ≤ ad.block) ∧ Below w.heap.size w w' := by
  have hlen := hf.len
  have hB := between_any A l cap L H lo hi cl ch w (hl.below hx0) (by omega) (hL.below hx0) (hH.below hx0)
  go_enter Try.func12, Try.ntmps12
  go_wp2_with fail
  refine hB.mono ?_
  clear hB
  rintro e w1 ⟨A1, c1, rfl, ho1, hb1⟩
  have hV : RdE w1 A1 (betV l lo hi) := ho1.rdE fun e he => ((hl.below hx0).each e (betV_mem he)).below hb1
  have hVold : ∀ e ∈ betV l lo hi, e.In w0 := fun e he => hl.each e (betV_mem he)
  have hfV := hf.bet lo hi
  have hn1 := ho1.nc
  have hXV := betV_map l lo hi
  obtain ⟨V, hVV⟩ : ∃ V, V = betV l lo hi := ⟨_, rfl⟩
  rw [← hVV] at hV hVold hfV hn1 hXV ⊢
  obtain ⟨n, hn⟩ : ∃ n, n = V.length := ⟨_, rfl⟩
  rw [← hn] at hn1 ⊢
  have hn5 := hfV.len
  rw [← hn] at hn5
  obtain ⟨k, hk⟩ : ∃ k, k = Spl.k n ways := ⟨_, rfl⟩
  have hkm := Spl.k_is n ways
  have hk1 := Spl.k_pos n ways
  have hk8 := Spl.k_le n ways
  have hkn := Spl.k_n n ways
  rw [← hk] at hkm hk1 hk8 hkn
  obtain ⟨q1, hq1⟩ : ∃ q1 : Int, (if ways < (n : Int) then ways else (n : Int)) = q1 := ⟨_, rfl⟩
  obtain ⟨q2, hq2⟩ : ∃ q2 : Int, (if (8 : Int) < q1 then (8 : Int) else q1) = q2 := ⟨_, rfl⟩
  have hq3 : (if (1 : Int) < q2 then q2 else (1 : Int)) = (k : Int) := by
    rw [← hkm, ← hq2, ← hq1]
    omega
  clear hkm
  have HVV := Lib.hid hVV
  have Hn := Lib.hid hn
  have Hk := Lib.hid hk
  have HXV := Lib.hid hXV
  have Hkn := Lib.hid hkn
  have HfV := Lib.hid hfV
  clear hVV hn hk ho1 hl hf hXV hkn hfV
  go_wp2_with (refine wpList_mkS rfl (.tmp 27) (.tmp 27) 27 rfl elemP ptz.val (by kernel_rfl) k .i64 .i64 rfl rfl (by omega) (by omega) (pcs (List.replicate k ptz)).toArray (madeP k) ?_)
  clear hq1 hq2 hq3
  have hE2 := Ext.alloc w1 (.cells (pcs (List.replicate k ptz)).toArray 33)
  have hP2 : PRow (w1.alloc (.cells (pcs (List.replicate k ptz)).toArray 33)) 33 w1.heap.size (List.replicate k ptz) := ⟨heap_alloc_new w1 _, fun p hp => by rw [List.eq_of_mem_replicate hp]; rfl⟩
  obtain ⟨X, hX⟩ : ∃ X, X = V.map EnV.x := ⟨_, rfl⟩
  have hXl : X.length = n := by rw [hX, List.length_map, Hn.out]
  obtain ⟨W2, hW2⟩ : ∃ W2, W2 = w1.alloc (.cells (pcs (List.replicate k ptz)).toArray 33) := ⟨_, rfl⟩
  rw [← hW2] at hP2 hE2 ⊢
  obtain ⟨ad, had⟩ : ∃ ad : Addr, ad = ⟨w1.heap.size, 0, none⟩ := ⟨_, rfl⟩
  rw [← had]
  have hgl : w1.heap.size ≤ w1.heap.size := Nat.le_refl _
  obtain ⟨g, hg⟩ : ∃ g, g = w1.heap.size := ⟨_, rfl⟩
  rw [← hg] at hP2 had
  have hgl : w1.heap.size ≤ g := by omega
  have HAD := Lib.hid had
  have HX := Lib.hid hX
  have HXL := Lib.hid hXl
  clear hW2 had hg hX hXl
  go_loopw [30] (fun i wr => ∃ (j : Nat) (T : List PtV), j ≤ k ∧ i = .int .i64 j ∧ T.length = k ∧ PRow wr 33 g T ∧ (∀ r (h : r < T.length), r < j → T[r].x = Spl.part X lo hi k j r ∧ T[r].In w0) ∧ Ext w1 wr) (fun i _ => k - (intOf i).toNat)
  case atStart => exact ⟨0, List.replicate k ptz, by omega, rfl, List.length_replicate, hP2, fun r _ h => absurd h (by omega), hE2⟩
  case round =>
    obtain ⟨j, T, hj, rfl, hTl, hP, hT, hx⟩ := hrel
    have HT := Lib.hid hT
    clear hP2 hE2 hT
    by_cases h : j < k
    · have hxd := Ext.tr hx (Ext.drew wr)
      have hVd := hV.below hxd
      have hPd := hP.ext (Ext.drew wr)
      obtain ⟨jn, hjn⟩ : ∃ q, q = j * n := ⟨_, rfl⟩
      obtain ⟨j1, hj1⟩ : ∃ q, q = j + 1 := ⟨_, rfl⟩
      obtain ⟨jn1, hjn1⟩ : ∃ q, q = j1 * n := ⟨_, rfl⟩
      obtain ⟨a, ha⟩ : ∃ q, q = jn / k := ⟨_, rfl⟩
      obtain ⟨b, hb⟩ : ∃ q, q = jn1 / k := ⟨_, rfl⟩
      have jb : jn ≤ 40000 := by rw [hjn]; exact Nat.le_trans (Nat.mul_le_mul (show j ≤ 8 by omega) hn5) (by decide)
      have jb1 : jn1 ≤ 40000 := by rw [hjn1]; exact Nat.le_trans (Nat.mul_le_mul (show j1 ≤ 8 by omega) hn5) (by decide)
      have hm1 : IntKind.i64.wrap ((j : Int) * (n : Int)) = (jn : Int) := by rw [hjn, Int.natCast_mul]; exact wrap_i ⟨by rw [← Int.natCast_mul, ← hjn]; omega, by rw [← Int.natCast_mul, ← hjn]; omega⟩
      have hm2 : IntKind.i64.wrap ((j : Int) + 1) = (j1 : Int) := by rw [hj1, Int.natCast_add]; exact wrap_i ⟨by omega, by omega⟩
      have hm3 : IntKind.i64.wrap ((j1 : Int) * (n : Int)) = (jn1 : Int) := by rw [hjn1, Int.natCast_mul]; exact wrap_i ⟨by rw [← Int.natCast_mul, ← hjn1]; omega, by rw [← Int.natCast_mul, ← hjn1]; omega⟩
      have hd1 : Int.tdiv (jn : Int) (k : Int) = (a : Int) := by rw [ha, Int.ofNat_tdiv]
      have hd2 : Int.tdiv (jn1 : Int) (k : Int) = (b : Int) := by rw [hb, Int.ofNat_tdiv]
      have hk0 : ¬ k = 0 := by omega
      have hab : a ≤ b := by rw [ha, hb, hjn, hjn1, hj1]; exact Spl.cut_mono n k (Nat.le_succ j)
      have hbn : b ≤ n := by rw [hb, hjn1]; exact Spl.cut_le n k j1 (by rw [hj1]; exact h) hk1
      have hlt : 0 < j → a < b := fun h0 => by
        rw [ha, hb, hjn, hjn1, hj1]
        rcases Hkn.out with h1 | h1
        · exact absurd (Nat.lt_of_lt_of_eq h h1) (Nat.not_lt.2 h0)
        · exact Spl.cut_lt n k j hk1 h1
      have hwa : IntKind.i64.wrap (a : Int) = (a : Int) := wrap_i ⟨by omega, by omega⟩
      have hwb : IntKind.i64.wrap (b : Int) = (b : Int) := wrap_i ⟨by omega, by omega⟩
      have HA : Hid (a = j * n / k ∧ b = (j + 1) * n / k) := ⟨by rw [ha, hjn], by rw [hb, hjn1, hj1]⟩
      have Hlt := Lib.hid hlt
      have Hj1 := Lib.hid hj1
      clear hjn hjn1 ha hb jb jb1 hlt hj1
      obtain ⟨D, hD⟩ : ∃ D, D = (V.take b).drop a := ⟨_, rfl⟩
      have hDl : D.length = b - a := by rw [hD, List.length_drop, List.length_take, ← Hn.out, Nat.min_eq_left hbn]
      have hD1 := hV.cut hab (by rw [← Hn.out]; exact hbn) (Nat.le_refl b)
      have hDV : ∀ e ∈ D, e ∈ V := fun e he => by rw [hD] at he; exact List.mem_of_mem_take (List.mem_of_mem_drop he)
      have hfD : Fit D := HfV.out.sub (by rw [hD]; exact (List.drop_sublist _ _).trans (List.take_sublist _ _))
      obtain ⟨A2, hA2⟩ : ∃ A2 : Option Addr, A2 = (if b = a then A1 else Option.map (fun x => x.add (a * 2)) A1) := ⟨_, rfl⟩
      rw [← hD, ← hA2] at hD1
      have hDx : Hid (Ent.digest ((X.take b).drop a) = Ent.digest (D.map EnV.x)) := by
        show _ = _
        rw [hD, HX.out, List.map_drop, List.map_take]
      have hD0 : Hid (∀ (h : 0 < D.length), D[0].x.key = keyAt X a) := fun h => by
        have h1 : D[0]? = V[a]? := by rw [hD, List.getElem?_drop, Nat.add_zero, List.getElem?_take, if_pos (by omega)]
        unfold keyAt
        rw [HX.out, List.getElem?_map, ← h1, List.getElem?_eq_getElem h]
        rfl
      have hA2' := hA2.symm
      have hdg := edigest_any A2 D (b - a) wr.drew (hD1.below hxd) (by have := hfD.len; omega) hfD.total hfD.putAll
      rw [hDl] at hdg
      have Hdg := Lib.hid hdg
      have HDl := Lib.hid hDl
      clear hD hA2 hdg hfD hDl
      go_wp2_with fail
      refine rg_start (by kernel_rfl) ?_
      refine rg_take 0 rfl (by kernel_rfl) (by kernel_rfl) (by kernel_rfl) (fun _ _ _ _ h => h) (by rfl) ⟨_, fun w' hx => by (go_simp <;> with_reducible rfl), ?_⟩
      simp only [Act.put, List.setIfInBounds_toArray, List.set_cons_zero, List.set_cons_succ]
      refine rg_take 1 rfl (by kernel_rfl) (by kernel_rfl) (by kernel_rfl) (fun _ _ _ _ h => h) (by rfl) ⟨_, fun w' hx => by (go_simp <;> with_reducible rfl), ?_⟩
      simp only [Act.put, List.setIfInBounds_toArray, List.set_cons_zero, List.set_cons_succ]
      refine rg_take 2 rfl (by kernel_rfl) (by kernel_rfl) (by kernel_rfl) (fun _ _ _ _ h => h) (by rfl) ⟨.int .i64 (jn : Int), fun w' hx => by (go_simp <;> with_reducible rfl), ?_⟩
      simp only [Act.put, List.setIfInBounds_toArray, List.set_cons_zero, List.set_cons_succ]
      refine rg_take 3 rfl (by kernel_rfl) (by kernel_rfl) (by kernel_rfl) (fun _ _ _ _ h => h) (by rfl) ⟨_, fun w' hx => by (go_simp <;> with_reducible rfl), ?_⟩
      simp only [Act.put, List.setIfInBounds_toArray, List.set_cons_zero, List.set_cons_succ]
      refine rg_take 4 rfl (by kernel_rfl) (by kernel_rfl) (by kernel_rfl) (fun _ _ _ _ h => h) (by rfl) ⟨.int .i64 (a : Int), fun w' hx => by (go_simp <;> with_reducible rfl), ?_⟩
      simp only [Act.put, List.setIfInBounds_toArray, List.set_cons_zero, List.set_cons_succ]
      refine rg_take 5 rfl (by kernel_rfl) (by kernel_rfl) (by kernel_rfl) (fun _ _ _ _ h => h) (by rfl) ⟨_, fun w' hx => by (go_simp <;> with_reducible rfl), ?_⟩
      simp only [Act.put, List.setIfInBounds_toArray, List.set_cons_zero, List.set_cons_succ]
      refine rg_take 6 rfl (by kernel_rfl) (by kernel_rfl) (by kernel_rfl) (fun _ _ _ _ h => h) (by rfl) ⟨.int .i64 (j1 : Int), fun w' hx => by (go_simp <;> with_reducible rfl), ?_⟩
      simp only [Act.put, List.setIfInBounds_toArray, List.set_cons_zero, List.set_cons_succ]
      refine rg_take 7 rfl (by kernel_rfl) (by kernel_rfl) (by kernel_rfl) (fun _ _ _ _ h => h) (by rfl) ⟨_, fun w' hx => by (go_simp <;> with_reducible rfl), ?_⟩
      simp only [Act.put, List.setIfInBounds_toArray, List.set_cons_zero, List.set_cons_succ]
      refine rg_take 8 rfl (by kernel_rfl) (by kernel_rfl) (by kernel_rfl) (fun _ _ _ _ h => h) (by rfl) ⟨.int .i64 (jn1 : Int), fun w' hx => by (go_simp <;> with_reducible rfl), ?_⟩
      simp only [Act.put, List.setIfInBounds_toArray, List.set_cons_zero, List.set_cons_succ]
      refine rg_take 9 rfl (by kernel_rfl) (by kernel_rfl) (by kernel_rfl) (fun _ _ _ _ h => h) (by rfl) ⟨_, fun w' hx => by (go_simp <;> with_reducible rfl), ?_⟩
      simp only [Act.put, List.setIfInBounds_toArray, List.set_cons_zero, List.set_cons_succ]
      refine rg_take 10 rfl (by kernel_rfl) (by kernel_rfl) (by kernel_rfl) (fun _ _ _ _ h => h) (by rfl) ⟨.int .i64 (b : Int), fun w' hx => by (go_simp <;> with_reducible rfl), ?_⟩
      simp only [Act.put, List.setIfInBounds_toArray, List.set_cons_zero, List.set_cons_succ]
      refine rg_take 11 rfl (by kernel_rfl) (by kernel_rfl) (by kernel_rfl) (fun _ _ _ _ h => h) (by rfl) ⟨_, fun w' hx => by (go_simp <;> with_reducible rfl), ?_⟩
      simp only [Act.put, List.setIfInBounds_toArray, List.set_cons_zero, List.set_cons_succ]
      refine rg_take 12 rfl (by kernel_rfl) (by kernel_rfl) (by kernel_rfl) (fun _ _ _ _ h => h) (by rfl) ⟨_, fun w' hx => by (go_simp <;> with_reducible rfl), ?_⟩
      simp only [Act.put, List.setIfInBounds_toArray, List.set_cons_zero, List.set_cons_succ]
      refine rg_done (by kernel_rfl) ?_
      go_wp2_with fail
      refine Hdg.out.mono ?_
      clear Hdg
      rintro e w3 ⟨rfl, hb3⟩
      have hz := Ent.digest_len (D.map EnV.x)
      obtain ⟨z, hz0⟩ : ∃ z, z = Ent.digest (D.map EnV.x) := ⟨_, rfl⟩
      rw [← hz0] at hz ⊢
      have HZ0 := Lib.hid hz0
      have hx3 := Ext.tr hxd hb3
      have hP3 := hPd.ext hb3
      have hzb : (bvs z).length = 32 := by rw [bvs_len, hz]
      have hzz : (bvs z).toArray.size = 32 := by rw [List.size_toArray, hzb]
      obtain ⟨p, hp⟩ : ∃ p : PtV, p = ⟨L, cl, H, ch, ⟨lo, hi, ((b - a : Nat) : Int), z⟩⟩ := ⟨_, rfl⟩
      have hps : p.x.sum.length = 32 := by rw [hp]; exact hz
      have HPC : Hid (p.cells = #[.slice L lo.length cl, .slice H hi.length ch, .int .i64 ((b - a : Nat) : Int)] ++ (bvs z).toArray) := by show _ = _; rw [hp]; rfl
      have HP := Lib.hid hp
      have hjT : j < T.length := by omega
      have HADJ : Hid (ad.add (j * 35) = ⟨g, j * 35, none⟩) := by show _ = _; rw [HAD.out, Addr.add_lit, Nat.zero_add]
      obtain ⟨T1, hT1⟩ : ∃ T1, T1 = T.set j p := ⟨_, rfl⟩
      have hc1 := hP3.set_cells hjT p hps
      have hP4 := hP3.set_row (k := j) p hps
      rw [← hT1] at hc1 hP4
      have hT1l : T1.length = k := by rw [hT1, List.length_set, hTl]
      have hfit1 : j * 35 + p.cells.size ≤ (pcs T).toArray.size := by rw [hP3.size, psize hps]; omega
      have hx4 : Ext w1 (w3.setRow g (pcs T1).toArray) := ext_rowD hx3 hgl _
      have HT1 := Lib.hid hT1
      have Hc1 := Lib.hid hc1
      clear hp hz0 hT1 hc1 hb3 hPd hxd hVd hx hP hm1 hm2 hm3 hd1 hd2 hk0 hwa hwb
      rcases Nat.eq_zero_or_pos j with hj0 | hj0
      · have hgt : ¬ 0 < j := by omega
        have HJ0 := Lib.hid hj0
        clear hj0
        go_wp2_with (refine wpList_store_at rfl 33 (.tmp 58) (.tmp 57) rfl (ad.add (j * 35)) rfl g (j * 35) HADJ.out (.agg p.cells) (by show Value.agg _ = Value.agg _; rw [HPC.out]; exact congrArg Value.agg (fold35 _ _ _ _ (by rfl) (by rfl) (by rfl) (by rfl) z hz)) p.cells rfl _ _ hP3.row (pinfo hps) hfit1 (pone p) _ Hc1.out ?_)
        go_roundw
        case rel =>
          refine ⟨j + 1, T1, by omega, by go_num, hT1l, hP4, fun r h1 h2 => ?_, hx4⟩
          have hr : r = j := by have := HJ0.out; omega
          subst hr
          have e1 : T1[r] = p := by simp [HT1.out]
          rw [e1, HP.out]
          refine ⟨?_, hL, hH, hcl, hch, hz, by show -9223372036854775808 ≤ ((b - a : Nat) : Int); omega, by show ((b - a : Nat) : Int) ≤ 9223372036854775807; omega⟩
          unfold Spl.part
          rw [if_neg (by have := HJ0.out; omega), if_neg (by omega), HXL.out, ← HA.out.1, ← HA.out.2, hDx.out, ← HZ0.out]
        case measure => simp [intOf]; omega
      · have hgt : decide ((0 : Int) < (j : Int)) = true := by simp; omega
        have hD4 := hD1.below hx4
        have hlt := Hlt.out hj0
        have hDp : 0 < D.length := by rw [HDl.out]; omega
        obtain ⟨ad2, rfl, hcell, _⟩ := hD4.at_ hDp
        have hkey := hD0.out hDp
        have hein := hVold _ (hDV _ (List.getElem_mem hDp))
        have kc4 : (w3.setRow g (pcs T1).toArray).cell? ad2 = some (.slice D[0].ka D[0].x.key.length D[0].kc) := hcell 0 _ rfl
        obtain ⟨e, he⟩ : ∃ e, e = D[0] := ⟨_, rfl⟩
        rw [← he] at hkey hein kc4
        obtain ⟨jm, hjm⟩ : ∃ jm, jm = j - 1 := ⟨_, rfl⟩
        have hjm1 : (j : Int) - 1 = (jm : Int) := by omega
        have hjmk : jm < k := by omega
        obtain ⟨p2, hp2⟩ : ∃ p2 : PtV, p2 = ⟨e.ka, e.kc, p.ha, p.hc, ⟨e.x.key, p.x.hi, p.x.count, p.x.sum⟩⟩ := ⟨_, rfl⟩
        have hj1T : j < T1.length := by omega
        have e1 : T1[j] = p := by simp [HT1.out]
        have hs2 : p2.x.sum.length = 32 := by rw [hp2]; exact hps
        have hc2 := hP4.set_cell hj1T p2 hs2 0 (by omega) (.slice e.ka e.x.key.length e.kc) (by rw [e1, hp2]; exact PtV.set_lo _ _ _ _)
        have hP5 := hP4.set_row (k := j) p2 hs2
        obtain ⟨T2, hT2⟩ : ∃ T2, T2 = T1.set j p2 := ⟨_, rfl⟩
        rw [← hT2] at hc2 hP5
        have hT2l : T2.length = k := by rw [hT2, List.length_set, hT1l]
        have hx5 : Ext w1 ((w3.setRow g (pcs T1).toArray).setRow g (pcs T2).toArray) := ext_rowD hx4 hgl _
        obtain ⟨_, hadd, hcell5, _⟩ := (hD1.below hx5).at_ hDp
        injection hadd with hadd
        subst hadd
        have kc5 : ((w3.setRow g (pcs T1).toArray).setRow g (pcs T2).toArray).cell? ad2 = some (.slice e.ka e.x.key.length e.kc) := by rw [he]; exact hcell5 0 _ rfl
        have hjm2 : jm < T2.length := by omega
        have hjmT : jm < T.length := by omega
        have e2 : T2[jm] = T[jm] := by simp only [hT2, HT1.out]; rw [List.getElem_set_ne (by omega), List.getElem_set_ne (by omega)]
        have hq := (HT.out jm hjmT (by omega)).2
        obtain ⟨q, hqq⟩ : ∃ q, q = T[jm] := ⟨_, rfl⟩
        obtain ⟨p3, hp3⟩ : ∃ p3 : PtV, p3 = ⟨q.la, q.lc, e.ka, e.kc, ⟨q.x.lo, e.x.key, q.x.count, q.x.sum⟩⟩ := ⟨_, rfl⟩
        have hs3 : p3.x.sum.length = 32 := by rw [hp3]; show q.x.sum.length = 32; rw [hqq]; exact hq.sum
        have hc3 := hP5.set_cell hjm2 p3 hs3 1 (by omega) (.slice e.ka e.x.key.length e.kc) (by rw [e2, ← hqq, hp3]; exact PtV.set_hi _ _ _ _)
        have hP6 := hP5.set_row (k := jm) p3 hs3
        obtain ⟨T3, hT3⟩ : ∃ T3, T3 = T2.set jm p3 := ⟨_, rfl⟩
        rw [← hT3] at hc3 hP6
        have hT3l : T3.length = k := by rw [hT3, List.length_set, hT2l]
        have hx6 : Ext w1 (((w3.setRow g (pcs T1).toArray).setRow g (pcs T2).toArray).setRow g (pcs T3).toArray) := ext_rowD hx5 hgl _
        have HADM : Hid ((⟨(ad.add (jm * 35)).block, (ad.add (jm * 35)).off + 1, none⟩ : Addr) = ⟨g, jm * 35 + 1, none⟩) := by show _ = _; rw [HAD.out, Addr.add_lit, Nat.zero_add]
        have hf2 : j * 35 + 0 + 1 ≤ (pcs T1).toArray.size := by rw [hP4.size]; omega
        have hf3 : jm * 35 + 1 + 1 ≤ (pcs T2).toArray.size := by rw [hP5.size]; omega
        have hik : (j : Int) < (k : Int) := by omega
        have hik2 : (jm : Int) < (k : Int) := by omega
        have hbd0 : (0 : Int) < ((b - a : Nat) : Int) := by omega
        have HE := Lib.hid he
        have HP2 := Lib.hid hp2
        have HP3 := Lib.hid hp3
        have HQQ := Lib.hid hqq
        have HT2 := Lib.hid hT2
        have HT3 := Lib.hid hT3
        have Hc2 := Lib.hid hc2
        have Hc3 := Lib.hid hc3
        have HJM := Lib.hid hjm
        have Hkey := Lib.hid hkey
        clear he hp2 hp3 hqq hT2 hT3 hc2 hc3 hjm hkey e1 e2 hcell hcell5
        go_wp2_with (first | (refine wpList_store_at rfl 33 (.tmp 58) (.tmp 57) rfl (ad.add (j * 35)) rfl g (j * 35) HADJ.out (.agg p.cells) (by show Value.agg _ = Value.agg _; rw [HPC.out]; exact congrArg Value.agg (fold35 _ _ _ _ (by rfl) (by rfl) (by rfl) (by rfl) z hz)) p.cells rfl _ _ hP3.row (pinfo hps) hfit1 (pone p) _ Hc1.out ?_) | (refine wpList_store_at rfl 23 (.tmp 68) (.tmp 66) rfl (ad.add (j * 35)) rfl g (j * 35 + 0) HADJ.out (.slice e.ka e.x.key.length e.kc) rfl #[.slice e.ka e.x.key.length e.kc] rfl _ _ hP4.row (by kernel_rfl) hf2 (by simp [Value.oneCell']) _ Hc2.out ?_) | (refine wpList_store_at rfl 23 (.tmp 77) (.tmp 75) rfl ⟨(ad.add (jm * 35)).block, (ad.add (jm * 35)).off + 1, none⟩ rfl g (jm * 35 + 1) HADM.out (.slice e.ka e.x.key.length e.kc) rfl #[.slice e.ka e.x.key.length e.kc] rfl _ _ hP5.row (by kernel_rfl) hf3 (by simp [Value.oneCell']) _ Hc3.out ?_))
        go_roundw
        case rel =>
          refine ⟨j + 1, T3, by omega, by go_num, hT3l, hP6, fun r h1 h2 => ?_, hx6⟩
          have hzr : -9223372036854775808 ≤ ((b - a : Nat) : Int) ∧ ((b - a : Nat) : Int) ≤ 9223372036854775807 := by omega
          by_cases hr : r = j
          · subst hr
            have e3 : T3[r] = p2 := by simp only [HT3.out, HT2.out]; rw [List.getElem_set_ne (by have := HJM.out; omega), List.getElem_set_self]
            rw [e3, HP2.out, HP.out]
            refine ⟨?_, hein.kr, hH, hein.kcap, hch, hz, hzr.1, hzr.2⟩
            unfold Spl.part
            rw [if_pos hj0, if_neg (by omega), HXL.out, ← HA.out.1, ← HA.out.2, hDx.out, ← HZ0.out, Hkey.out]
          · by_cases hr2 : r = jm
            · subst hr2
              have e3 : T3[r] = p3 := by simp only [HT3.out]; rw [List.getElem_set_self]
              have hqx := (HT.out r hjmT (by have := HJM.out; omega)).1
              rw [← HQQ.out] at hqx hq
              rw [e3, HP3.out]
              refine ⟨?_, hq.lr, hein.kr, hq.lcap, hein.kcap, hq.sum, hq.clo, hq.chi⟩
              rw [hqx]
              have hrj : r + 1 = j := by have := HJM.out; omega
              unfold Spl.part
              rw [if_pos (show r + 1 < j + 1 by omega), hrj, HXL.out, ← HA.out.1, Hkey.out]
            · have hrT : r < T.length := by omega
              have e3 : T3[r] = T[r] := by simp only [HT3.out, HT2.out, HT1.out]; rw [List.getElem_set_ne (by omega), List.getElem_set_ne (by omega), List.getElem_set_ne (by omega)]
              rw [e3]
              obtain ⟨k1, k2⟩ := HT.out r hrT (by omega)
              refine ⟨?_, k2⟩
              rw [k1]
              unfold Spl.part
              rw [if_pos (show r + 1 < j by have := HJM.out; omega), if_pos (show r + 1 < j + 1 by omega)]
        case measure => simp [intOf]; omega
    · have hjk : j = k := by omega
      go_wp2
      go_ret
      refine ⟨some ad, k, T, by rw [hTl]; rfl, ?_, ?_, ?_, fun x hx9 => (by injection hx9 with hx9; subst hx9; rw [HAD.out]; exact Nat.le_trans hb1.size hgl), Ext.tr hb1 hx⟩
      · unfold Spl.split
        rw [← HXV.out, ← HX.out, HXL.out, ← Hk.out]
        apply List.ext_getElem (by simp [hTl])
        intro r h1 h2
        have h3 := (HT.out r (by simpa using h1) (by rw [hjk, ← hTl]; simpa using h1)).1
        rw [hjk] at h3
        simpa using h3
      · rw [HAD.out]
        refine hP.rd fun p hp => ?_
        obtain ⟨r, hr, rfl⟩ := List.getElem_of_mem hp
        exact (HT.out r hr (by omega)).2.below (Ext.tr hx0 (Ext.tr hb1 hx))
      · intro p hp
        obtain ⟨r, hr, rfl⟩ := List.getElem_of_mem hp
        exact (HT.out r hr (by omega)).2
end Go.Proofs.Ytiiekdhlcmaabaa

/- Contract: a part narrowed (split.narrower). Printed by wip/tools/gen_narrow18.py. -/

namespace Go.Proofs.Ytiiekdhlcmaabaa

open Go.RowKit

attribute [local go_sem] Oper.semAt_some

theorem grown_setN (w : World) (b : Nat) (cs : Array Value) : w.grownBy (w.setRow b cs) (some b) :=
  ⟨rfl, rfl, rfl, by simp, fun k _ hn => setRow_other _ _ _ _ (fun e => hn (by rw [e]))⟩
theorem cell_same {W W' : World} {a : Addr} (h : W'.heap[a.block]? = W.heap[a.block]?) : W'.cell? a = W.cell? a := by unfold World.cell?; rw [h]
theorem lt_of_cell {W : World} {a : Addr} {u : Value} (h : W.cell? a = some u) : a.block < W.heap.size := by
  unfold World.cell? at h
  cases hq : W.heap[a.block]? with
  | none => rw [hq] at h; simp at h
  | some o => exact lt_of_heap hq
theorem addr_block (a : Addr) (k : Nat) : (a.add k).block = a.block := by unfold Addr.add; split <;> rfl
theorem Spl.narL_snoc (M Th : List Ent) (least : Int) (f : Nat) (ps : List Pt) (j : Nat) (h : j < ps.length) : Spl.narL M Th least f (ps.take (j + 1)) = ((Spl.narL M Th least f (ps.take j)).1 ++ (Spl.nar M Th least f ps[j]).1, (Spl.narL M Th least f (ps.take j)).2 + (Spl.nar M Th least f ps[j]).2) := by
  rw [List.take_succ_eq_append_getElem h, Spl.narL_app]
  simp [Spl.narL]
theorem Spl.narL_take_le (M Th : List Ent) (least : Int) (f : Nat) (ps : List Pt) (j : Nat) : (Spl.narL M Th least f (ps.take j)).1.length ≤ (Spl.narL M Th least f ps).1.length := by
  conv => rhs; rw [← List.take_append_drop j ps, Spl.narL_app]
  rw [List.length_append]
  omega
theorem wrap_plus (a b : Int) : wrap64 (wrap64 a + b) = wrap64 (a + b) := by unfold wrap64; omega
theorem Spl.differ_one (M : List Ent) (p : Pt) : Spl.differ M [p] = if Spl.diffs M p then [0] else [] := by
  have := Spl.differ_snoc M [p] 0 (by simp)
  show Spl.differK M [p] (0 + 1) = _
  rw [this]
  rfl
/-- The narrower's cells. -/
def ncs (A : Option Addr) (n ca : Nat) (B : Option Addr) (m cb : Nat) (least told : Int) (A' : Option Addr) (k c' : Nat) : Array Value :=
  #[.slice A n ca, .slice B m cb, .int .i64 least, .int .i64 told, .slice A' k c']
/-- The narrower at block g: so many were told, these parts came out; all that was there before it (in w0) is as it was. -/
structure NarS (w0 W : World) (g : Nat) (A : Option Addr) (n ca : Nat) (B : Option Addr) (m cb : Nat) (least : Int) (t : Nat) (A' : Option Addr) (c' : Nat) (T : List PtV) : Prop where
  row : W.heap[g]? = some (.cells (ncs A n ca B m cb least (wrap64 (t : Int)) A' T.length c') 61 (0, 0))
  own : Own W w0.heap.size 33 35 A' T.length c' (pcs T)
  ne : ownRow A' c' ≠ some g
  each : ∀ p ∈ T, p.In w0
  ext : Ext w0 W
  hg : w0.heap.size ≤ g
/-- What narrowing leaves alone: all blocks but the narrower's and that of its parts. -/
structure Fr (W W' : World) (g : Nat) (R R' : Option Nat) : Prop where
  size : W.heap.size ≤ W'.heap.size
  kept : ∀ i, i < W.heap.size → i ≠ g → R ≠ some i → W'.heap[i]? = W.heap[i]?
  row : R' = R ∨ ∀ i, R' = some i → W.heap.size ≤ i
theorem Fr.tr {W W' W2 : World} {g : Nat} {R R' R2 : Option Nat} (h : Fr W W' g R R') (k : Fr W' W2 g R' R2) : Fr W W2 g R R2 := by
  refine ⟨Nat.le_trans h.size k.size, fun i hi hg hR => ?_, ?_⟩
  · rw [k.kept i (Nat.lt_of_lt_of_le hi h.size) hg (fun e => by
      rcases h.row with h1 | h1
      · exact hR (by rw [← h1]; exact e)
      · have := h1 i e; omega), h.kept i hi hg hR]
  · rcases k.row with k1 | k1
    · rw [k1]; exact h.row
    · exact .inr fun i hi => Nat.le_trans h.size (k1 i hi)
theorem Fr.ext {W W' : World} (h : Ext W W') (g : Nat) (R : Option Nat) : Fr W W' g R R := ⟨h.size, fun i hi _ _ => h.block i hi, .inl rfl⟩
theorem NarS.below {w0 W W' : World} {g n ca m cb t c' : Nat} {A B A' : Option Addr} {least : Int} {T : List PtV} (h : NarS w0 W g A n ca B m cb least t A' c' T) (hb : Ext W W') : NarS w0 W' g A n ca B m cb least t A' c' T :=
  ⟨(hb.block _ (lt_of_heap h.row)).trans h.row, h.own.below hb, h.ne, h.each, Ext.tr h.ext hb, h.hg⟩

set_option maxRecDepth 100000 in
set_option maxHeartbeats 4000000 in
theorem narrow_any (w0 : World) (g : Nat) (A : Option Addr) (l : List EnV) (ca : Nat) (B : Option Addr) (m : List EnV) (cb : Nat) (least : Int) (hl : RdE w0 A l) (hm : RdE w0 B m) (hfl : Fit l) (hfm : Fit m) (hrise : Rise (m.map EnV.x)) :
    ∀ (f : Nat) (p : PtV), p.In w0 → Spl.Good (m.map EnV.x) p.x → p.x.count < (f : Int) → ∀ (W : World) (t : Nat) (A' : Option Addr) (c' : Nat) (T : List PtV), NarS w0 W g A l.length ca B m.length cb least t A' c' T → T.length + (Spl.nar (l.map EnV.x) (m.map EnV.x) least f p.x).1.length ≤ 1000 →
      Calls Try.prog 38 #[.pointer (some ⟨g, 0, none⟩), .agg p.cells] W fun e W' => ∃ A2 c2 T2, e = .returned (.tuple #[]) ∧ NarS w0 W' g A l.length ca B m.length cb least (t + (Spl.nar (l.map EnV.x) (m.map EnV.x) least f p.x).2) A2 c2 T2 ∧ T2.map PtV.x = T.map PtV.x ++ (Spl.nar (l.map EnV.x) (m.map EnV.x) least f p.x).1 ∧ Fr W W' g (ownRow A' c') (ownRow A2 c2) := by
  intro f
  induction f with
  | zero => intro p _ hg h _ _ _ _ _ _ _; unfold Spl.Good at hg; omega
  | succ f ih =>
    intro p hin hgood hcnt W t A' c' T hN hlen
    have HIH := Lib.hid ih
    have hps := hin.sum
    obtain ⟨W1, hW1⟩ : ∃ W1, W1 = W.alloc (.cells p.cells 33) := ⟨_, rfl⟩
    obtain ⟨bx, hbx⟩ : ∃ bx, bx = W.heap.size := ⟨_, rfl⟩
    have gb : W1.heap[bx]? = some (.cells p.cells 33 (0, 0)) := by rw [hW1, hbx]; exact heap_alloc_new W _
    have hE1 : Ext W W1 := by rw [hW1]; exact Ext.alloc _ _
    have hN1 := hN.below hE1
    have hxw0 : Ext w0 W1.drew := Ext.tr hN1.ext (Ext.drew W1)
    have cm0 : W1.drew.cell? ⟨g, 0, none⟩ = some (.slice A l.length ca) := cell_of_row W1 _ 0 _ _ _ hN1.row
    have hbgl : bx ≠ g := fun e => by
      have h1 := lt_of_heap hN.row
      omega
    have hdone := Spl.differ_one (l.map EnV.x) p.x
    clear ih
    cases hd : Spl.diffs (l.map EnV.x) p.x with
    | false =>
      have hdf : Spl.differ (l.map EnV.x) [p.x] = [] := by rw [hdone, hd]; rfl
      have hnar := Spl.leaf_out (l.map EnV.x) (m.map EnV.x) least f p.x hd
      have Hnar := Lib.hid hnar
      clear hdone hd hnar hlen
      go_enter Try.func38, Try.ntmps38
      go_wp2_with fail
      rw [← hW1, ← hbx]
      clear hW1 hbx
      refine rg_start (by kernel_rfl) ?_
      refine rg_take 0 rfl (by kernel_rfl) (by kernel_rfl) (by kernel_rfl) (fun _ _ _ _ h => h) (by rfl) ⟨_, fun w' hx => by (go_simp <;> with_reducible rfl), ?_⟩
      simp only [Act.put, List.setIfInBounds_toArray, List.set_cons_zero, List.set_cons_succ]
      refine rg_take 1 rfl (by kernel_rfl) (by kernel_rfl) (by kernel_rfl) (fun _ _ _ _ h => h) (by rfl) ⟨_, fun w' hx => by (go_simp <;> with_reducible rfl), ?_⟩   -- t9 := nilCheck t8
      simp only [Act.put, List.setIfInBounds_toArray, List.set_cons_zero, List.set_cons_succ]
      refine rg_take 2 rfl (by kernel_rfl) (by kernel_rfl) (by kernel_rfl) (fun _ _ _ _ h => h) (by rfl) ⟨_, fun w' hx => by (go_simp <;> with_reducible rfl), ?_⟩   -- t10 := fieldAddr 61 t9 0
      simp only [Act.put, List.setIfInBounds_toArray, List.set_cons_zero, List.set_cons_succ]
      refine rg_take 3 rfl (by kernel_rfl) (by kernel_rfl) (by kernel_rfl) (fun _ _ _ _ h => h) (by rfl) ⟨_, fun w' hx => by have hcx := hx.load cm0; (go_simp <;> with_reducible rfl), ?_⟩
      simp only [Act.put, List.setIfInBounds_toArray, List.set_cons_zero, List.set_cons_succ]
      refine rg_take 4 rfl (by kernel_rfl) (by kernel_rfl) (by kernel_rfl) (fun _ _ _ _ h => h) (by rfl) ⟨.agg p.cells, fun w' hx => ex_load_row 33 _ rfl bx rfl 33 _ (0, 0) _ ((hx.block _ (lt_of_heap gb)).trans gb) Try.underlying33 rfl (pinfo hps), ?_⟩
      simp only [Act.put, List.setIfInBounds_toArray, List.set_cons_zero, List.set_cons_succ]
      refine rg_make 5 rfl (by kernel_rfl) (by rfl) ⟨.slice (some ⟨W1.heap.size, 0, none⟩) 1 1, _, ex_buildOne 27 (.tmp 12) rfl elemP p.cells rfl (psize hps) (by decide), Ext.alloc _ _, ?_⟩
      simp only [Act.put, List.setIfInBounds_toArray, List.set_cons_zero, List.set_cons_succ]
      have hD := differ_any A (some ⟨W1.heap.size, 0, none⟩) l [p] ca 1 (W1.drew.alloc (.cells p.cells 33)) ((hl.below hxw0).below (Ext.alloc _ _)) hfl (RdP.one W1.drew _ p (hin.below hxw0)) (by simp)
      rw [show [p].map PtV.x = [p.x] from rfl, hdf] at hD
      simp only [List.length_cons, List.length_nil, Nat.zero_add] at hD
      refine rg_call 6 hD rfl (by kernel_rfl) (by rfl) (by go_simp) ?_
      rintro e w3 ⟨A3, c3, rfl, _, hb3⟩
      refine ⟨_, rfl, hb3, ?_⟩
      simp only [Act.put, List.setIfInBounds_toArray, List.set_cons_zero, List.set_cons_succ]
      refine rg_take 7 rfl (by kernel_rfl) (by kernel_rfl) (by kernel_rfl) (fun _ _ _ _ h => h) (by rfl) ⟨_, fun w' hx => by (go_simp <;> with_reducible rfl), ?_⟩   -- t15 := len(t14)
      simp only [Act.put, List.setIfInBounds_toArray, List.set_cons_zero, List.set_cons_succ]
      refine rg_take 8 rfl (by kernel_rfl) (by kernel_rfl) (by kernel_rfl) (fun _ _ _ _ h => h) (by rfl) ⟨.bool true, fun w' hx => by (go_simp <;> with_reducible rfl), ?_⟩
      simp only [Act.put, List.setIfInBounds_toArray, List.set_cons_zero, List.set_cons_succ]
      refine rg_take 9 rfl (by kernel_rfl) (by kernel_rfl) (by kernel_rfl) (fun _ _ _ _ h => h) (by rfl) ⟨_, fun w' hx => by (go_simp <;> with_reducible rfl), ?_⟩
      simp only [Act.put, List.setIfInBounds_toArray, List.set_cons_zero, List.set_cons_succ]
      refine rg_done (by kernel_rfl) ?_
      go_wp2_with fail
      (try simp only [Exit.inBlock, Exit.then])
      refine bodyPost_ret (results_none rfl _ _ _) rfl ?_
      have hE3 : Ext W1 w3 := Ext.tr (Ext.drew W1) (Ext.tr (Ext.alloc _ _) hb3)
      refine ⟨A', c', T, rfl, ?_, ?_, Fr.ext (Ext.tr hE1 hE3) _ _⟩
      · rw [Hnar.out]; exact hN1.below hE3
      · rw [Hnar.out]; simp
    | true =>
      have hdf : Spl.differ (l.map EnV.x) [p.x] = [0] := by rw [hdone, hd]; rfl
      have Hd := Lib.hid hd
      clear hdone hd
      go_enter Try.func38, Try.ntmps38
      go_wp2_with fail
      rw [← hW1, ← hbx]
      clear hW1 hbx
      refine rg_start (by kernel_rfl) ?_
      refine rg_take 0 rfl (by kernel_rfl) (by kernel_rfl) (by kernel_rfl) (fun _ _ _ _ h => h) (by rfl) ⟨_, fun w' hx => by (go_simp <;> with_reducible rfl), ?_⟩
      simp only [Act.put, List.setIfInBounds_toArray, List.set_cons_zero, List.set_cons_succ]
      refine rg_take 1 rfl (by kernel_rfl) (by kernel_rfl) (by kernel_rfl) (fun _ _ _ _ h => h) (by rfl) ⟨_, fun w' hx => by (go_simp <;> with_reducible rfl), ?_⟩   -- t9 := nilCheck t8
      simp only [Act.put, List.setIfInBounds_toArray, List.set_cons_zero, List.set_cons_succ]
      refine rg_take 2 rfl (by kernel_rfl) (by kernel_rfl) (by kernel_rfl) (fun _ _ _ _ h => h) (by rfl) ⟨_, fun w' hx => by (go_simp <;> with_reducible rfl), ?_⟩   -- t10 := fieldAddr 61 t9 0
      simp only [Act.put, List.setIfInBounds_toArray, List.set_cons_zero, List.set_cons_succ]
      refine rg_take 3 rfl (by kernel_rfl) (by kernel_rfl) (by kernel_rfl) (fun _ _ _ _ h => h) (by rfl) ⟨_, fun w' hx => by have hcx := hx.load cm0; (go_simp <;> with_reducible rfl), ?_⟩
      simp only [Act.put, List.setIfInBounds_toArray, List.set_cons_zero, List.set_cons_succ]
      refine rg_take 4 rfl (by kernel_rfl) (by kernel_rfl) (by kernel_rfl) (fun _ _ _ _ h => h) (by rfl) ⟨.agg p.cells, fun w' hx => ex_load_row 33 _ rfl bx rfl 33 _ (0, 0) _ ((hx.block _ (lt_of_heap gb)).trans gb) Try.underlying33 rfl (pinfo hps), ?_⟩
      simp only [Act.put, List.setIfInBounds_toArray, List.set_cons_zero, List.set_cons_succ]
      refine rg_make 5 rfl (by kernel_rfl) (by rfl) ⟨.slice (some ⟨W1.heap.size, 0, none⟩) 1 1, _, ex_buildOne 27 (.tmp 12) rfl elemP p.cells rfl (psize hps) (by decide), Ext.alloc _ _, ?_⟩
      simp only [Act.put, List.setIfInBounds_toArray, List.set_cons_zero, List.set_cons_succ]
      have hD := differ_any A (some ⟨W1.heap.size, 0, none⟩) l [p] ca 1 (W1.drew.alloc (.cells p.cells 33)) ((hl.below hxw0).below (Ext.alloc _ _)) hfl (RdP.one W1.drew _ p (hin.below hxw0)) (by simp)
      rw [show [p].map PtV.x = [p.x] from rfl, hdf] at hD
      simp only [List.length_cons, List.length_nil, Nat.zero_add] at hD
      refine rg_call 6 hD rfl (by kernel_rfl) (by rfl) (by go_simp) ?_
      rintro e w3 ⟨A3, c3, rfl, _, hb3⟩
      refine ⟨_, rfl, hb3, ?_⟩
      simp only [Act.put, List.setIfInBounds_toArray, List.set_cons_zero, List.set_cons_succ]
      refine rg_take 7 rfl (by kernel_rfl) (by kernel_rfl) (by kernel_rfl) (fun _ _ _ _ h => h) (by rfl) ⟨_, fun w' hx => by (go_simp <;> with_reducible rfl), ?_⟩   -- t15 := len(t14)
      simp only [Act.put, List.setIfInBounds_toArray, List.set_cons_zero, List.set_cons_succ]
      refine rg_take 8 rfl (by kernel_rfl) (by kernel_rfl) (by kernel_rfl) (fun _ _ _ _ h => h) (by rfl) ⟨.bool false, fun w' hx => by (go_simp <;> with_reducible rfl), ?_⟩
      simp only [Act.put, List.setIfInBounds_toArray, List.set_cons_zero, List.set_cons_succ]
      refine rg_take 9 rfl (by kernel_rfl) (by kernel_rfl) (by kernel_rfl) (fun _ _ _ _ h => h) (by rfl) ⟨_, fun w' hx => by (go_simp <;> with_reducible rfl), ?_⟩
      simp only [Act.put, List.setIfInBounds_toArray, List.set_cons_zero, List.set_cons_succ]
      refine rg_done (by kernel_rfl) ?_
      have hE3 : Ext W1 w3 := Ext.tr (Ext.drew W1) (Ext.tr (Ext.alloc _ _) hb3)
      have hN3 := hN1.below hE3
      have gb3 := (hE3.block _ (lt_of_heap gb)).trans gb
      have hFr3 := Fr.ext (Ext.tr hE1 hE3) g (ownRow A' c')
      clear hb3 cm0 gb hN1 hN hE1 hxw0
      go_wp2_with fail
      obtain ⟨mx, hmx⟩ : ∃ mx : Int, (if least < 1 then (1 : Int) else least) = mx := ⟨_, rfl⟩
      have hle : decide (p.x.count ≤ mx) = Spl.leaf least p.x := by
        unfold Spl.leaf
        rw [← hmx, Bool.eq_iff_iff]
        simp only [decide_eq_true_eq, Bool.or_eq_true]
        split <;> omega
      have ct3 : w3.drew.cell? ⟨bx, 2, none⟩ = some (.int .i64 p.x.count) := (cell_of_row w3 _ 2 _ _ _ gb3).trans (pc2 p)
      have cl3 : w3.drew.cell? ⟨g, 2, none⟩ = some (.int .i64 least) := cell_of_row w3 _ 2 _ _ _ hN3.row
      have Hmx := Lib.hid hmx
      clear hmx
      cases hlv : Spl.leaf least p.x with
      | true =>
        rw [hlv] at hle
        have hnar := Spl.leaf_one (l.map EnV.x) (m.map EnV.x) least f p.x Hd.out hlv
        have Hnar := Lib.hid hnar
        rw [hnar] at hlen
        simp only [List.length_singleton] at hlen
        clear hlv hnar
        refine rg_start (by kernel_rfl) ?_
        refine rg_take 0 rfl (by kernel_rfl) (by kernel_rfl) (by kernel_rfl) (fun _ _ _ _ h => h) (by rfl) ⟨_, fun w' hx => by (go_simp <;> with_reducible rfl), ?_⟩   -- t18 := fieldAddr 33 t3 2
        simp only [Act.put, List.setIfInBounds_toArray, List.set_cons_zero, List.set_cons_succ]
        refine rg_take 1 rfl (by kernel_rfl) (by kernel_rfl) (by kernel_rfl) (fun _ _ _ _ h => h) (by rfl) ⟨_, fun w' hx => by have hcx := hx.load ct3; (go_simp <;> with_reducible rfl), ?_⟩
        simp only [Act.put, List.setIfInBounds_toArray, List.set_cons_zero, List.set_cons_succ]
        refine rg_take 2 rfl (by kernel_rfl) (by kernel_rfl) (by kernel_rfl) (fun _ _ _ _ h => h) (by rfl) ⟨_, fun w' hx => by (go_simp <;> with_reducible rfl), ?_⟩
        simp only [Act.put, List.setIfInBounds_toArray, List.set_cons_zero, List.set_cons_succ]
        refine rg_take 3 rfl (by kernel_rfl) (by kernel_rfl) (by kernel_rfl) (fun _ _ _ _ h => h) (by rfl) ⟨_, fun w' hx => by (go_simp <;> with_reducible rfl), ?_⟩   -- t21 := nilCheck t20
        simp only [Act.put, List.setIfInBounds_toArray, List.set_cons_zero, List.set_cons_succ]
        refine rg_take 4 rfl (by kernel_rfl) (by kernel_rfl) (by kernel_rfl) (fun _ _ _ _ h => h) (by rfl) ⟨_, fun w' hx => by (go_simp <;> with_reducible rfl), ?_⟩   -- t22 := fieldAddr 61 t21 2
        simp only [Act.put, List.setIfInBounds_toArray, List.set_cons_zero, List.set_cons_succ]
        refine rg_take 5 rfl (by kernel_rfl) (by kernel_rfl) (by kernel_rfl) (fun _ _ _ _ h => h) (by rfl) ⟨_, fun w' hx => by have hcx := hx.load cl3; (go_simp <;> with_reducible rfl), ?_⟩
        simp only [Act.put, List.setIfInBounds_toArray, List.set_cons_zero, List.set_cons_succ]
        refine rg_take 6 rfl (by kernel_rfl) (by kernel_rfl) (by kernel_rfl) (fun _ _ _ _ h => h) (by rfl) ⟨.int .i64 mx, fun w' hx => by (have hq := Hmx.out; go_simp <;> with_reducible rfl), ?_⟩
        simp only [Act.put, List.setIfInBounds_toArray, List.set_cons_zero, List.set_cons_succ]
        refine rg_take 7 rfl (by kernel_rfl) (by kernel_rfl) (by kernel_rfl) (fun _ _ _ _ h => h) (by rfl) ⟨.bool true, fun w' hx => by (have hq := hle; go_simp <;> with_reducible rfl), ?_⟩
        simp only [Act.put, List.setIfInBounds_toArray, List.set_cons_zero, List.set_cons_succ]
        refine rg_take 8 rfl (by kernel_rfl) (by kernel_rfl) (by kernel_rfl) (fun _ _ _ _ h => h) (by rfl) ⟨_, fun w' hx => by (go_simp <;> with_reducible rfl), ?_⟩
        simp only [Act.put, List.setIfInBounds_toArray, List.set_cons_zero, List.set_cons_succ]
        refine rg_done (by kernel_rfl) ?_
        clear hle ct3 cl3
        have hE4 : Ext w3 w3.drew.drew := Ext.tr (Ext.drew w3) (Ext.drew w3.drew)
        have hN4 := hN3.below hE4
        have co4 : w3.drew.drew.cell? ⟨g, 4, none⟩ = some (.slice A' T.length c') := cell_of_row w3.drew.drew _ 4 _ _ _ hN4.row
        go_wp2_with fail
        refine wp_region_any (by kernel_rfl) (wpAny_of_M _ _ _ _ ?_)
        refine rm_take 0 rfl (by kernel_rfl) (by kernel_rfl) (by kernel_rfl) (fun _ _ _ _ h => h) (by rfl) ⟨_, fun w' hx => by (go_simp <;> with_reducible rfl), ?_⟩
        simp only [Act.put, List.setIfInBounds_toArray, List.set_cons_zero, List.set_cons_succ]
        refine rm_take 1 rfl (by kernel_rfl) (by kernel_rfl) (by kernel_rfl) (fun _ _ _ _ h => h) (by rfl) ⟨_, fun w' hx => by (go_simp <;> with_reducible rfl), ?_⟩
        simp only [Act.put, List.setIfInBounds_toArray, List.set_cons_zero, List.set_cons_succ]
        refine rm_take 2 rfl (by kernel_rfl) (by kernel_rfl) (by kernel_rfl) (fun _ _ _ _ h => h) (by rfl) ⟨_, fun w' hx => by (go_simp <;> with_reducible rfl), ?_⟩   -- t28 := nilCheck t27
        simp only [Act.put, List.setIfInBounds_toArray, List.set_cons_zero, List.set_cons_succ]
        refine rm_take 3 rfl (by kernel_rfl) (by kernel_rfl) (by kernel_rfl) (fun _ _ _ _ h => h) (by rfl) ⟨_, fun w' hx => by (go_simp <;> with_reducible rfl), ?_⟩   -- t29 := fieldAddr 61 t28 4
        simp only [Act.put, List.setIfInBounds_toArray, List.set_cons_zero, List.set_cons_succ]
        refine rm_take 4 rfl (by kernel_rfl) (by kernel_rfl) (by kernel_rfl) (fun _ _ _ _ h => h) (by rfl) ⟨_, fun w' hx => by have hcx := hx.load co4; (go_simp <;> with_reducible rfl), ?_⟩
        simp only [Act.put, List.setIfInBounds_toArray, List.set_cons_zero, List.set_cons_succ]
        refine rm_take 5 rfl (by kernel_rfl) (by kernel_rfl) (by kernel_rfl) (fun _ _ _ _ h => h) (by rfl) ⟨.agg p.cells, fun w' hx => ex_load_row 33 _ rfl bx rfl 33 _ (0, 0) _ (((Ext.tr hE4 hx).block _ (lt_of_heap gb3)).trans gb3) Try.underlying33 rfl (pinfo hps), ?_⟩
        simp only [Act.put, List.setIfInBounds_toArray, List.set_cons_zero, List.set_cons_succ]
        refine rm_make 6 rfl (by kernel_rfl) (by rfl) ⟨_, _, ex_buildOne 27 (.tmp 31) rfl elemP p.cells rfl (psize hps) (by decide), Ext.alloc _ _, ?_⟩
        simp only [Act.put, List.setIfInBounds_toArray, List.set_cons_zero, List.set_cons_succ]
        have hown5 := hN4.own.below (Ext.alloc w3.drew.drew (.cells p.cells 33))
        have hx5 := Ext.tr hN4.ext (Ext.alloc w3.drew.drew (.cells p.cells 33))
        have hrow5 := ((Ext.alloc w3.drew.drew (.cells p.cells 33)).block _ (lt_of_heap hN4.row)).trans hN4.row
        have hrd5 := (RdP.one w3.drew.drew 33 p (hin.below hN4.ext)).rd
        have hsz5 := hx5.size
        refine rm_last 7 rfl (by kernel_rfl) (by kernel_rfl) (by rfl) fun K hK => wp_app (.tmp 30) (.tmp 32) 27 rfl elemP w0.heap.size A' T.length c' (pcs T) rfl _ 1 1 (pcs [p]) rfl (T.length + 1) rfl (pcs (T ++ [p])) (by simp [pcs]) hown5 hrd5 pcs_one (by omega) (by omega) hsz5 fun A6 c6 w6 ho6 hg6 hr6 => hK _ _ ?_
        simp only [Act.put, List.setIfInBounds_toArray, List.set_cons_zero, List.set_cons_succ]
        have hrow6 : w6.heap[g]? = some (.cells (ncs A l.length ca B m.length cb least (wrap64 (t : Int)) A' T.length c') 61 (0, 0)) := (hg6.block _ (lt_of_heap hrow5) (fun e => hN4.ne e.symm)).trans hrow5
        have k6 : w6.cell? ⟨g, 4, none⟩ = some (.slice A' T.length c') := cell_of_row _ _ 4 _ _ _ hrow6
        have f6 : w6.frozen? ⟨g, 4, none⟩ = false := frozen_of_row w6 g 4 _ _ hrow6
        refine rm_take 8 rfl (by kernel_rfl) (by kernel_rfl) (by kernel_rfl) (fun _ _ _ _ h => h) (by rfl) ⟨_, fun w' hx => by (go_simp <;> with_reducible rfl), ?_⟩   -- t34 := nilCheck t26
        simp only [Act.put, List.setIfInBounds_toArray, List.set_cons_zero, List.set_cons_succ]
        refine rm_take 9 rfl (by kernel_rfl) (by kernel_rfl) (by kernel_rfl) (fun _ _ _ _ h => h) (by rfl) ⟨_, fun w' hx => by (go_simp <;> with_reducible rfl), ?_⟩   -- t35 := fieldAddr 61 t34 4
        simp only [Act.put, List.setIfInBounds_toArray, List.set_cons_zero, List.set_cons_succ]
        refine rm_store 10 rfl (by kernel_rfl) (by kernel_rfl) (by rfl) ⟨_, by (go_simp <;> rfl), ?_⟩
        simp only [Act.put]
        refine rm_done (by kernel_rfl) ?_
        have hset : w6.setCell ⟨g, 4, none⟩ (.slice A6 (T.length + 1) c6) = w6.setRow g (ncs A l.length ca B m.length cb least (wrap64 (t : Int)) A6 (T.length + 1) c6) := by
          rw [setCell_eq_setRow w6 g 4 _ _ _ _ hrow6]; rfl
        go_wp2_with fail
        (try simp only [Exit.inBlock, Exit.then])
        refine bodyPost_ret (results_none rfl _ _ _) rfl ?_
        rw [hset]
        have hne6 : ownRow A6 c6 ≠ some g := fun e => by
          rcases hr6 with h1 | h1
          · exact hN4.ne (by rw [← h1]; exact e)
          · rw [e] at h1
            injection h1 with h1
            have h2 := lt_of_heap hrow5
            exact absurd h2 (by rw [h1]; exact Nat.lt_irrefl _)
        have hx6 : Ext w0 w6 := below_app hx5 hown5 hg6 hsz5
        have hfr6 : Fr w3.drew.drew w6 g (ownRow A' c') (ownRow A6 c6) := by
          have hFa := Fr.ext (Ext.alloc w3.drew.drew (.cells p.cells 33)) g (ownRow A' c')
          refine hFa.tr ⟨hg6.size, fun i hi _ hR => hg6.block _ hi (fun e => hR e.symm), ?_⟩
          rcases hr6 with h1 | h1
          · exact .inl h1
          · exact .inr fun i hi => by rw [h1] at hi; injection hi with hi; exact Nat.le_of_eq hi
        refine ⟨A6, c6, T ++ [p], rfl, ⟨?_, ?_, hne6, ?_, ext_rowD hx6 hN4.hg _, hN4.hg⟩, ?_, ?_⟩
        · rw [Hnar.out, Nat.add_zero, List.length_append]
          exact setRow_heap w6 g _ _ _ _ hrow6
        · rw [List.length_append]
          exact ho6.kept (grown_setN w6 g _) (fun k hk e => hne6 (by rw [hk, e]))
        · intro q hq
          rcases List.mem_append.1 hq with h1 | h1
          · exact hN4.each q h1
          · obtain rfl : q = p := by simpa using h1
            exact hin
        · rw [Hnar.out, List.map_append]; rfl
        · refine (hFr3.tr (Fr.ext hE4 g _)).tr (hfr6.tr ⟨by simp, fun i _ hi _ => setRow_other _ _ _ _ (by intro e; exact hi (by first | exact e | exact e.symm)), .inl rfl⟩)
      | false =>
        rw [hlv] at hle
        have hnar := Spl.leaf_more (l.map EnV.x) (m.map EnV.x) least f p.x Hd.out hlv
        have hc2 : 2 ≤ p.x.count := by
          unfold Spl.leaf at hlv
          simp at hlv
          omega
        rw [hnar] at hlen
        simp only at hlen
        have Hnar := Lib.hid hnar
        clear hlv hnar
        refine rg_start (by kernel_rfl) ?_
        refine rg_take 0 rfl (by kernel_rfl) (by kernel_rfl) (by kernel_rfl) (fun _ _ _ _ h => h) (by rfl) ⟨_, fun w' hx => by (go_simp <;> with_reducible rfl), ?_⟩   -- t18 := fieldAddr 33 t3 2
        simp only [Act.put, List.setIfInBounds_toArray, List.set_cons_zero, List.set_cons_succ]
        refine rg_take 1 rfl (by kernel_rfl) (by kernel_rfl) (by kernel_rfl) (fun _ _ _ _ h => h) (by rfl) ⟨_, fun w' hx => by have hcx := hx.load ct3; (go_simp <;> with_reducible rfl), ?_⟩
        simp only [Act.put, List.setIfInBounds_toArray, List.set_cons_zero, List.set_cons_succ]
        refine rg_take 2 rfl (by kernel_rfl) (by kernel_rfl) (by kernel_rfl) (fun _ _ _ _ h => h) (by rfl) ⟨_, fun w' hx => by (go_simp <;> with_reducible rfl), ?_⟩
        simp only [Act.put, List.setIfInBounds_toArray, List.set_cons_zero, List.set_cons_succ]
        refine rg_take 3 rfl (by kernel_rfl) (by kernel_rfl) (by kernel_rfl) (fun _ _ _ _ h => h) (by rfl) ⟨_, fun w' hx => by (go_simp <;> with_reducible rfl), ?_⟩   -- t21 := nilCheck t20
        simp only [Act.put, List.setIfInBounds_toArray, List.set_cons_zero, List.set_cons_succ]
        refine rg_take 4 rfl (by kernel_rfl) (by kernel_rfl) (by kernel_rfl) (fun _ _ _ _ h => h) (by rfl) ⟨_, fun w' hx => by (go_simp <;> with_reducible rfl), ?_⟩   -- t22 := fieldAddr 61 t21 2
        simp only [Act.put, List.setIfInBounds_toArray, List.set_cons_zero, List.set_cons_succ]
        refine rg_take 5 rfl (by kernel_rfl) (by kernel_rfl) (by kernel_rfl) (fun _ _ _ _ h => h) (by rfl) ⟨_, fun w' hx => by have hcx := hx.load cl3; (go_simp <;> with_reducible rfl), ?_⟩
        simp only [Act.put, List.setIfInBounds_toArray, List.set_cons_zero, List.set_cons_succ]
        refine rg_take 6 rfl (by kernel_rfl) (by kernel_rfl) (by kernel_rfl) (fun _ _ _ _ h => h) (by rfl) ⟨.int .i64 mx, fun w' hx => by (have hq := Hmx.out; go_simp <;> with_reducible rfl), ?_⟩
        simp only [Act.put, List.setIfInBounds_toArray, List.set_cons_zero, List.set_cons_succ]
        refine rg_take 7 rfl (by kernel_rfl) (by kernel_rfl) (by kernel_rfl) (fun _ _ _ _ h => h) (by rfl) ⟨.bool false, fun w' hx => by (have hq := hle; go_simp <;> with_reducible rfl), ?_⟩
        simp only [Act.put, List.setIfInBounds_toArray, List.set_cons_zero, List.set_cons_succ]
        refine rg_take 8 rfl (by kernel_rfl) (by kernel_rfl) (by kernel_rfl) (fun _ _ _ _ h => h) (by rfl) ⟨_, fun w' hx => by (go_simp <;> with_reducible rfl), ?_⟩
        simp only [Act.put, List.setIfInBounds_toArray, List.set_cons_zero, List.set_cons_succ]
        refine rg_done (by kernel_rfl) ?_
        clear hle ct3 cl3
        have hE4 : Ext w3 w3.drew.drew := Ext.tr (Ext.drew w3) (Ext.drew w3.drew)
        have hN4 := hN3.below hE4
        have gb4 := (hE4.block _ (lt_of_heap gb3)).trans gb3
        have ct4 : w3.drew.drew.cell? ⟨g, 1, none⟩ = some (.slice B m.length cb) := cell_of_row w3.drew.drew _ 1 _ _ _ hN4.row
        have cl4 : w3.drew.drew.cell? ⟨bx, 0, none⟩ = some (.slice p.la p.x.lo.length p.lc) := (cell_of_row w3.drew.drew _ 0 _ _ _ gb4).trans (pc0 p)
        have ch4 : w3.drew.drew.cell? ⟨bx, 1, none⟩ = some (.slice p.ha p.x.hi.length p.hc) := (cell_of_row w3.drew.drew _ 1 _ _ _ gb4).trans (pc1 p)
        go_wp2_with fail
        refine rg_start (by kernel_rfl) ?_
        refine rg_take 0 rfl (by kernel_rfl) (by kernel_rfl) (by kernel_rfl) (fun _ _ _ _ h => h) (by rfl) ⟨_, fun w' hx => by (go_simp <;> with_reducible rfl), ?_⟩
        simp only [Act.put, List.setIfInBounds_toArray, List.set_cons_zero, List.set_cons_succ]
        refine rg_take 1 rfl (by kernel_rfl) (by kernel_rfl) (by kernel_rfl) (fun _ _ _ _ h => h) (by rfl) ⟨_, fun w' hx => by (go_simp <;> with_reducible rfl), ?_⟩   -- t37 := nilCheck t36
        simp only [Act.put, List.setIfInBounds_toArray, List.set_cons_zero, List.set_cons_succ]
        refine rg_take 2 rfl (by kernel_rfl) (by kernel_rfl) (by kernel_rfl) (fun _ _ _ _ h => h) (by rfl) ⟨_, fun w' hx => by (go_simp <;> with_reducible rfl), ?_⟩   -- t38 := fieldAddr 61 t37 1
        simp only [Act.put, List.setIfInBounds_toArray, List.set_cons_zero, List.set_cons_succ]
        refine rg_take 3 rfl (by kernel_rfl) (by kernel_rfl) (by kernel_rfl) (fun _ _ _ _ h => h) (by rfl) ⟨_, fun w' hx => by have hcx := hx.load ct4; (go_simp <;> with_reducible rfl), ?_⟩
        simp only [Act.put, List.setIfInBounds_toArray, List.set_cons_zero, List.set_cons_succ]
        refine rg_take 4 rfl (by kernel_rfl) (by kernel_rfl) (by kernel_rfl) (fun _ _ _ _ h => h) (by rfl) ⟨_, fun w' hx => by (go_simp <;> with_reducible rfl), ?_⟩   -- t40 := fieldAddr 33 t3 0
        simp only [Act.put, List.setIfInBounds_toArray, List.set_cons_zero, List.set_cons_succ]
        refine rg_take 5 rfl (by kernel_rfl) (by kernel_rfl) (by kernel_rfl) (fun _ _ _ _ h => h) (by rfl) ⟨_, fun w' hx => by have hcx := hx.load cl4; (go_simp <;> with_reducible rfl), ?_⟩
        simp only [Act.put, List.setIfInBounds_toArray, List.set_cons_zero, List.set_cons_succ]
        refine rg_take 6 rfl (by kernel_rfl) (by kernel_rfl) (by kernel_rfl) (fun _ _ _ _ h => h) (by rfl) ⟨_, fun w' hx => by (go_simp <;> with_reducible rfl), ?_⟩   -- t42 := fieldAddr 33 t3 1
        simp only [Act.put, List.setIfInBounds_toArray, List.set_cons_zero, List.set_cons_succ]
        refine rg_take 7 rfl (by kernel_rfl) (by kernel_rfl) (by kernel_rfl) (fun _ _ _ _ h => h) (by rfl) ⟨_, fun w' hx => by have hcx := hx.load ch4; (go_simp <;> with_reducible rfl), ?_⟩
        simp only [Act.put, List.setIfInBounds_toArray, List.set_cons_zero, List.set_cons_succ]
        refine rg_call 8 (split_new B m cb p.la p.ha p.x.lo p.x.hi p.lc p.hc 8 w0 _ hN4.ext hm hfm hin.lr hin.hr hin.lcap hin.hcap) rfl (by kernel_rfl) (by rfl) (by go_simp) ?_
        rintro e w5 ⟨A5, c5, U, rfl, hUx, hU, hUi, hUb, hb5⟩
        refine ⟨_, rfl, hb5, ?_⟩
        simp only [Act.put, List.setIfInBounds_toArray, List.set_cons_zero, List.set_cons_succ]
        refine rg_take 9 rfl (by kernel_rfl) (by kernel_rfl) (by kernel_rfl) (fun _ _ _ _ h => h) (by rfl) ⟨_, fun w' hx => by (go_simp <;> with_reducible rfl), ?_⟩
        simp only [Act.put, List.setIfInBounds_toArray, List.set_cons_zero, List.set_cons_succ]
        refine rg_done (by kernel_rfl) ?_
        have hN5 := hN4.below hb5
        have hFr5 := hFr3.tr (Fr.ext (Ext.tr hE4 hb5) g (ownRow A' c'))
        have hrT : ∀ k, ownRow A' c' = some k → k < w3.drew.drew.heap.size := fun k hk => (hN4.own.row_lt k hk).2
        have hgT : g < w3.drew.drew.heap.size := lt_of_heap hN4.row
        obtain ⟨ps, hps0⟩ : ∃ ps, ps = Spl.split (m.map EnV.x) p.x.lo p.x.hi 8 := ⟨_, rfl⟩
        rw [← hps0] at hUx hlen
        have hUl : U.length = ps.length := by rw [← hUx, List.length_map]
        have hUk : ∀ k (h : k < U.length) (h2 : k < ps.length), U[k].x = ps[k] := fun k h h2 => by
          have h1 : (U.map PtV.x)[k]? = ps[k]? := by rw [hUx]
          rw [List.getElem?_map, List.getElem?_eq_getElem h, List.getElem?_eq_getElem h2] at h1
          simpa using h1
        have hn2 : 2 ≤ (Ent.between (m.map EnV.x) p.x.lo p.x.hi).length := by unfold Spl.Good at hgood; omega
        have hk2 : 2 ≤ Spl.k (Ent.between (m.map EnV.x) p.x.lo p.x.hi).length 8 := by unfold Spl.k; omega
        have hU8 : U.length ≤ 8 := by rw [hUl, hps0, Spl.split_len]; exact Spl.k_le _ _
        have hch : ∀ k (h : k < ps.length), Spl.Good (m.map EnV.x) ps[k] ∧ ps[k].count < p.x.count := fun k h => by
          subst hps0
          exact ⟨Spl.child hrise _ _ _ k h, by rw [show p.x.count = _ from hgood]; exact Spl.child_lt _ _ _ k h hk2⟩
        have Hps0 := Lib.hid hps0
        have HUk := Lib.hid hUk
        have HUl := Lib.hid hUl
        have Hch := Lib.hid hch
        obtain ⟨tv, htv⟩ : ∃ tv : Int, tv = wrap64 (t : Int) := ⟨_, rfl⟩
        have hrow5 := hN5.row
        rw [← htv] at hrow5
        have k5 : w5.cell? ⟨g, 3, none⟩ = some (.int .i64 tv) := cell_of_row _ _ 3 _ _ _ hrow5
        have f5 : w5.frozen? ⟨g, 3, none⟩ = false := frozen_of_row w5 g 3 _ _ hrow5
        have Htv := Lib.hid htv
        have hv5 : wrap64 (tv + (U.length : Int)) = wrap64 ((t + U.length : Nat) : Int) := by rw [htv, wrap_plus, Int.natCast_add]
        have hset5 : w5.setCell ⟨g, 3, none⟩ (.int .i64 (wrap64 (tv + (U.length : Int)))) = w5.setRow g (ncs A l.length ca B m.length cb least (wrap64 ((t + U.length : Nat) : Int)) A' T.length c') := by
          rw [setCell_eq_setRow w5 g 3 _ _ _ _ hrow5, hv5]; rfl
        have hN6 : NarS w0 (w5.setRow g (ncs A l.length ca B m.length cb least (wrap64 ((t + U.length : Nat) : Int)) A' T.length c')) g A l.length ca B m.length cb least (t + U.length) A' c' T :=
          ⟨setRow_heap w5 g _ _ _ _ hrow5, hN5.own.kept (grown_setN w5 g _) (fun k hk e => hN5.ne (by rw [hk, e])), hN5.ne, hN5.each, ext_rowD hN5.ext hN5.hg _, hN5.hg⟩
        have hFr6 : Fr W (w5.setRow g (ncs A l.length ca B m.length cb least (wrap64 ((t + U.length : Nat) : Int)) A' T.length c')) g (ownRow A' c') (ownRow A' c') :=
          hFr5.tr ⟨by simp, fun i _ hi _ => setRow_other _ _ _ _ (by intro e; exact hi (by first | exact e | exact e.symm)), .inl rfl⟩
        obtain ⟨C5, hC5⟩ : ∃ C5, C5 = ncs A l.length ca B m.length cb least (wrap64 ((t + U.length : Nat) : Int)) A' T.length c' := ⟨_, rfl⟩
        rw [← hC5] at hset5 hN6 hFr6
        have hUc : ∀ k (h : k < U.length) (W' : World) (R' : Option Nat), Fr (w5.setRow g C5) W' g (ownRow A' c') R' → ∃ ad, A5 = some ad ∧ ∀ j u, (U[k].cells)[j]? = some u → W'.cell? ((ad.add (k * 35)).add j) = some u := fun k h W' R' hF => by
          obtain ⟨ad, hA, hc, _⟩ := hU.at_ h
          refine ⟨ad, hA, fun j u hj => ?_⟩
          have h1 := hc j u hj
          have h2 := lt_of_cell h1
          have h3 := hUb ad hA
          have h4 : ((ad.add (k * 35)).add j).block = ad.block := by rw [addr_block, addr_block]
          rw [← h1]
          refine cell_same ?_
          rw [h4] at h2 ⊢
          have h5 : ad.block ≠ g := fun e => by rw [e] at h3; exact absurd hgT (Nat.not_lt.2 h3)
          rw [hF.kept _ (by simpa using h2) h5 (fun e => absurd (hrT _ e) (Nat.not_lt.2 h3))]
          exact setRow_other _ _ _ _ (by intro e; exact h5 (by first | exact e | exact e.symm))
        have Hset5 := Lib.hid hset5
        have HUc := Lib.hid hUc
        clear htv hps0 hUk hUl hch hUx hn2 hk2 hc2 ct4 cl4 ch4 gb4 hN3 hFr3 hdf hv5 hset5 hUc hU hUb hrT hgT hC5 hFr5
        go_wp2_with fail
        rw [Hset5.out]
        clear Hset5 k5 f5 hrow5 hN5
        obtain ⟨W6, hW6⟩ : ∃ W6, W6 = w5.setRow g C5 := ⟨_, rfl⟩
        rw [← hW6] at hN6 hFr6 HUc ⊢
        clear hW6
        go_loopw [56] (fun i wr => ∃ (j : Nat) (A2 : Option Addr) (c2 : Nat) (T2 : List PtV), j ≤ U.length ∧ i = .int .i64 j ∧ NarS w0 wr g A l.length ca B m.length cb least (t + U.length + (Spl.narL (l.map EnV.x) (m.map EnV.x) least f (ps.take j)).2) A2 c2 T2 ∧ T2.map PtV.x = T.map PtV.x ++ (Spl.narL (l.map EnV.x) (m.map EnV.x) least f (ps.take j)).1 ∧ Fr W6 wr g (ownRow A' c') (ownRow A2 c2)) (fun i _ => U.length - (intOf i).toNat)
        case atStart => exact ⟨0, A', c', T, by omega, rfl, by simpa [Spl.narL] using hN6, by simp [Spl.narL], Fr.ext (Ext.refl _) _ _⟩
        case round =>
          obtain ⟨j, A2, c2, T2, hj, rfl, hNr, hTr, hFr⟩ := hrel
          by_cases h : j < U.length
          · obtain ⟨ad, hA5, hcx⟩ := HUc.out j h wr _ hFr
            have hjp : j < ps.length := by rw [← HUl.out]; exact h
            obtain ⟨hgq, hcq⟩ := Hch.out j hjp
            have hqx := HUk.out j h hjp
            have hqi := hUi _ (List.getElem_mem h)
            have hsn := Spl.narL_snoc (l.map EnV.x) (m.map EnV.x) least f ps j hjp
            have hle1 := Spl.narL_take_le (l.map EnV.x) (m.map EnV.x) least f ps (j + 1)
            rw [← hqx] at hgq hcq hsn
            obtain ⟨q, hq⟩ : ∃ q, q = U[j] := ⟨_, rfl⟩
            rw [← hq] at hcx hgq hcq hqi hsn
            have hqs := hqi.sum
            have hNa := hNr.below (Ext.alloc wr (.cells q.cells 33))
            have hT2l : T2.length = T.length + (Spl.narL (l.map EnV.x) (m.map EnV.x) least f (ps.take j)).1.length := by
              have := congrArg List.length hTr
              simpa using this
            have hle2 : T2.length + (Spl.nar (l.map EnV.x) (m.map EnV.x) least f q.x).1.length ≤ 1000 := by
              rw [hsn] at hle1
              simp only [List.length_append] at hle1
              omega
            have hI := HIH.out q hqi hgq (by omega) _ _ A2 c2 T2 hNa hle2
            have HI := Lib.hid hI
            have Hsn := Lib.hid hsn
            have Hcx := Lib.hid hcx
            have ik : (0 : Int) ≤ (j : Int) := by omega
            have ik2 : (j : Int) < (U.length : Int) := by omega
            subst hA5
            clear hI hcx hq hle1 hle2 hT2l hgq hcq hqx hNa hsn
            go_wp2_with (first | (have hcx := Hcx.out; refine wpList_load_cells (by rfl) 33 (.tmp 58) rfl _ rfl q.cells _ hcx Try.underlying33 rfl (pinfo hqs) ?_; clear hcx) | (refine wpList_store_row rfl 33 (.tmp 6) (.tmp 59) rfl wr.heap.size q.cells rfl rfl 33 _ (heap_alloc_new wr _) (pinfo hqs) (by rw [psize hqs]; rfl) (pone q) ?_; rw [setRow_alloc]) | (refine wpList_load_row rfl 33 (.tmp 6) rfl wr.heap.size rfl 33 q.cells (0, 0) _ (heap_alloc_new wr _) Try.underlying33 rfl (pinfo hqs) ?_))
            refine HI.out.mono ?_
            clear HI
            rintro e w8 ⟨A8, c8, T8, rfl, hN8, hT8, hF8⟩
            go_wp2_with fail
            go_roundw
            case rel =>
              refine ⟨j + 1, A8, c8, T8, by omega, by go_num, ?_, ?_, (hFr.tr (Fr.ext (Ext.alloc wr _) g _)).tr hF8⟩
              · rw [Hsn.out, ← Nat.add_assoc]; exact hN8
              · rw [Hsn.out, hT8, hTr, List.append_assoc]
            case measure => simp [intOf]; omega
          · have hjU : j = U.length := by omega
            go_wp2_with fail
            (try simp only [Exit.inBlock, Exit.then])
            refine bodyPost_end (results_none rfl _ _ _) rfl ?_
            have htk : ps.take j = ps := List.take_of_length_le (by rw [hjU, HUl.out]; exact Nat.le_refl _)
            rw [htk] at hNr hTr
            refine ⟨A2, c2, T2, rfl, ?_, ?_, hFr6.tr hFr⟩
            · rw [Hnar.out, ← Hps0.out, ← HUl.out, ← Nat.add_assoc]; exact hNr
            · rw [Hnar.out, ← Hps0.out]; exact hTr
end Go.Proofs.Ytiiekdhlcmaabaa

/- Contract: the parts in which two lists differ, narrowed (split.Narrow). Printed by wip/tools/gen_narrowp18.py. -/

namespace Go.Proofs.Ytiiekdhlcmaabaa

open Go.RowKit

attribute [local go_sem] Oper.semAt_some

/-- How many parts are told at most. -/
theorem Spl.nar_told {M Th : List Ent} (hl : Rise Th) (least : Int) : ∀ (f : Nat) (p : Pt), Spl.Good Th p → (Spl.nar M Th least f p).2 + 2 ≤ 2 * max 1 (Ent.between Th p.lo p.hi).length := by
  intro f
  induction f with
  | zero => intro p _; simp only [Spl.nar]; omega
  | succ f ih =>
    intro p hp
    cases hd : Spl.diffs M p with
    | false => rw [Spl.leaf_out _ _ _ _ _ hd]; simp only; omega
    | true =>
      cases hlf : Spl.leaf least p with
      | true => rw [Spl.leaf_one _ _ _ _ _ hd hlf]; simp only; omega
      | false =>
        rw [Spl.leaf_more _ _ _ _ _ hd hlf]
        have hc : 2 ≤ p.count := by
          unfold Spl.leaf at hlf
          simp at hlf
          omega
        have hn : 2 ≤ (Ent.between Th p.lo p.hi).length := by unfold Spl.Good at hp; omega
        have hk2 : 2 ≤ Spl.k (Ent.between Th p.lo p.hi).length 8 := by unfold Spl.k; omega
        have hkn : Spl.k (Ent.between Th p.lo p.hi).length 8 ≤ (Ent.between Th p.lo p.hi).length := by
          have := Spl.k_n (Ent.between Th p.lo p.hi).length 8; omega
        have hsl := Spl.split_len Th p.lo p.hi 8
        obtain ⟨ps, hps⟩ : ∃ ps, ps = Spl.split Th p.lo p.hi 8 := ⟨_, rfl⟩
        have all : ∀ j, j ≤ ps.length → (Spl.narL M Th least f (ps.take j)).2 + 2 * j ≤ 2 * Spl.cut Th p.lo p.hi 8 j := by
          intro j
          induction j with
          | zero => intro _; simp [Spl.narL]
          | succ j ihj =>
            intro hj
            have hjj : j < ps.length := by omega
            have h1 := ihj (by omega)
            rw [List.take_succ_eq_append_getElem hjj, Spl.narL_app]
            simp only [Spl.narL, Nat.add_zero]
            have hg : Spl.Good Th ps[j] := by subst hps; exact Spl.child hl _ _ _ j hjj
            have h2 := ih ps[j] hg
            have h3 : ps[j].count = ((Spl.cut Th p.lo p.hi 8 (j + 1) - Spl.cut Th p.lo p.hi 8 j : Nat) : Int) := by
              subst hps
              have := (Spl.count_at Th p.lo p.hi 8 j hjj).2
              unfold Spl.at_ at this
              rw [List.getD_eq_getElem?_getD, List.getElem?_eq_getElem hjj] at this
              exact this
            have h4 : Spl.cut Th p.lo p.hi 8 j < Spl.cut Th p.lo p.hi 8 (j + 1) := Spl.cut_lt _ _ j (by omega) hkn
            unfold Spl.Good at hg
            omega
        have h1 := all ps.length (Nat.le_refl _)
        rw [List.take_of_length_le (Nat.le_refl _)] at h1
        rw [← hps]
        have h2 : Spl.cut Th p.lo p.hi 8 ps.length = (Ent.between Th p.lo p.hi).length := by rw [hps]; exact Spl.cut_all _ _ _ _
        rw [← hps] at hsl
        simp only
        omega

/-- What is asked: the whole of theirs as one part, narrowed. -/
def Spl.narrow (M Th : List Ent) (least : Int) : List Pt × Nat := Spl.nar M Th least 61 (Ent.partOf Th [] [])
theorem Spl.root_good (Th : List Ent) : Spl.Good Th (Ent.partOf Th [] []) := rfl

set_option maxRecDepth 100000 in
set_option maxHeartbeats 2000000 in
theorem narrowTop_any (A : Option Addr) (l : List EnV) (ca : Nat) (B : Option Addr) (m : List EnV) (cb : Nat) (least : Int) (w : World) (hl : RdE w A l) (hm : RdE w B m) (hfl : Fit l) (hfm : Fit m) (hrise : Rise (m.map EnV.x)) (h60 : m.length ≤ 60) :
    Calls Try.prog 22 #[.slice A l.length ca, .slice B m.length cb, .int .i64 least] w fun e w' => ∃ A' c' T, e = .returned (.tuple #[.slice A' T.length c', .int .i64 (wrap64 ((1 + (Spl.narrow (l.map EnV.x) (m.map EnV.x) least).2 : Nat) : Int))]) ∧ T.map PtV.x = (Spl.narrow (l.map EnV.x) (m.map EnV.x) least).1 ∧ RdP w' A' T ∧ Below w.heap.size w w' := by
  obtain ⟨W1, hW1⟩ : ∃ W1, W1 = w.alloc (.cells (ncs A l.length ca B m.length cb least 1 none 0 0) 61) := ⟨_, rfl⟩
  obtain ⟨g, hg⟩ : ∃ g, g = w.heap.size := ⟨_, rfl⟩
  have hE1 : Ext w W1 := by rw [hW1]; exact Ext.alloc _ _
  have hrow1 : W1.heap[g]? = some (.cells (ncs A l.length ca B m.length cb least 1 none 0 0) 61 (0, 0)) := by rw [hW1, hg]; exact heap_alloc_new w _
  have hwr1 : wrap64 ((1 : Nat) : Int) = 1 := by unfold wrap64; omega
  have hN1 : NarS w W1 g A l.length ca B m.length cb least 1 none 0 [] := ⟨(by rw [hwr1]; exact hrow1), Own.none_ _ _ _ _ _, by simp [ownRow], by simp, hE1, by omega⟩
  have hP := partOf_any B m cb none none [] [] 0 0 W1 (hm.below hE1) hfm (RdB.nil_ _ _) (RdB.nil_ _ _) (Nat.le_refl _) (Nat.le_refl _)
  have HP := Lib.hid hP
  have hbl : (Ent.between (m.map EnV.x) [] []).length ≤ 60 := by
    have : (Ent.between (m.map EnV.x) [] []).length ≤ (m.map EnV.x).length := List.length_filter_le _ _
    rw [List.length_map] at this
    omega
  have hnl := Spl.nar_len (M := l.map EnV.x) hrise least 61 (Ent.partOf (m.map EnV.x) [] []) (Spl.root_good _)
  have hnl2 : (Spl.nar (l.map EnV.x) (m.map EnV.x) least 61 (Ent.partOf (m.map EnV.x) [] [])).1.length ≤ 60 := by
    have h1 : max 1 (Ent.between (m.map EnV.x) (Ent.partOf (m.map EnV.x) [] []).lo (Ent.partOf (m.map EnV.x) [] []).hi).length ≤ 60 := by
      show max 1 (Ent.between (m.map EnV.x) [] []).length ≤ 60
      omega
    omega
  have Hnl2 := Lib.hid hnl2
  have Hbl := Lib.hid hbl
  clear hP hnl hnl2 hbl
  go_enter Try.func22, Try.ntmps22
  go_wp2_with fail
  rw [show (#[.slice A l.length ca, .slice B m.length cb, .int .i64 least, .int .i64 1, .slice none 0 0] : Array Value) = ncs A l.length ca B m.length cb least 1 none 0 0 from rfl, ← hW1, ← hg]
  clear hW1 hg
  refine HP.out.mono ?_
  clear HP
  rintro e w2 ⟨p, rfl, hpx, hp, hb2⟩
  have hN2 := hN1.below hb2
  have hpin : p.In w := by
    have h1 : p.x.lo = [] := by rw [hpx]; rfl
    have h2 : p.x.hi = [] := by rw [hpx]; rfl
    refine ⟨?_, ?_, hp.lcap, hp.hcap, hp.sum, hp.clo, hp.chi⟩
    · rw [h1]; exact RdB.nil_ _ _
    · rw [h2]; exact RdB.nil_ _ _
  have hgood : Spl.Good (m.map EnV.x) p.x := by rw [hpx]; exact Spl.root_good _
  have hcnt : p.x.count < ((61 : Nat) : Int) := by
    rw [hpx]
    show ((Ent.between (m.map EnV.x) [] []).length : Int) < _
    have := Hbl.out
    omega
  have hI := narrow_any w g A l ca B m cb least hl hm hfl hfm hrise 61 p hpin hgood hcnt w2 1 none 0 [] hN2 (by rw [hpx]; have := Hnl2.out; simp only [List.length_nil]; omega)
  have HI := Lib.hid hI
  have Hpx := Lib.hid hpx
  clear hI hgood hcnt hpx hN1 hb2
  simp only [PtV.val]
  go_wp2_with fail
  refine HI.out.mono ?_
  clear HI
  rintro e w3 ⟨A3, c3, T3, rfl, hN3, hT3, _⟩
  have co : w3.drew.cell? ⟨g, 4, none⟩ = some (.slice A3 T3.length c3) := cell_of_row w3 _ 4 _ _ _ hN3.row
  have ct : w3.drew.cell? ⟨g, 3, none⟩ = some (.int .i64 (wrap64 ((1 + (Spl.nar (l.map EnV.x) (m.map EnV.x) least 61 p.x).2 : Nat) : Int))) := cell_of_row w3 _ 3 _ _ _ hN3.row
  rw [Hpx.out] at ct hT3
  obtain ⟨tv, htv⟩ : ∃ tv : Int, tv = wrap64 ((1 + (Spl.nar (l.map EnV.x) (m.map EnV.x) least 61 (Ent.partOf (m.map EnV.x) [] [])).2 : Nat) : Int) := ⟨_, rfl⟩
  rw [← htv] at ct
  have Htv := Lib.hid htv
  clear htv
  go_wp2_with fail
  refine rg_start (by kernel_rfl) ?_
  refine rg_take 0 rfl (by kernel_rfl) (by kernel_rfl) (by kernel_rfl) (fun _ _ _ _ h => h) (by rfl) ⟨_, fun w' hx => by (go_simp <;> with_reducible rfl), ?_⟩
  simp only [Act.put, List.setIfInBounds_toArray, List.set_cons_zero, List.set_cons_succ]
  refine rg_take 1 rfl (by kernel_rfl) (by kernel_rfl) (by kernel_rfl) (fun _ _ _ _ h => h) (by rfl) ⟨_, fun w' hx => by (go_simp <;> with_reducible rfl), ?_⟩   -- t19 := nilCheck t18
  simp only [Act.put, List.setIfInBounds_toArray, List.set_cons_zero, List.set_cons_succ]
  refine rg_take 2 rfl (by kernel_rfl) (by kernel_rfl) (by kernel_rfl) (fun _ _ _ _ h => h) (by rfl) ⟨_, fun w' hx => by (go_simp <;> with_reducible rfl), ?_⟩   -- t20 := fieldAddr 61 t19 4
  simp only [Act.put, List.setIfInBounds_toArray, List.set_cons_zero, List.set_cons_succ]
  refine rg_take 3 rfl (by kernel_rfl) (by kernel_rfl) (by kernel_rfl) (fun _ _ _ _ h => h) (by rfl) ⟨_, fun w' hx => by have hcx := hx.load co; (go_simp <;> with_reducible rfl), ?_⟩
  simp only [Act.put, List.setIfInBounds_toArray, List.set_cons_zero, List.set_cons_succ]
  refine rg_take 4 rfl (by kernel_rfl) (by kernel_rfl) (by kernel_rfl) (fun _ _ _ _ h => h) (by rfl) ⟨_, fun w' hx => by (go_simp <;> with_reducible rfl), ?_⟩
  simp only [Act.put, List.setIfInBounds_toArray, List.set_cons_zero, List.set_cons_succ]
  refine rg_take 5 rfl (by kernel_rfl) (by kernel_rfl) (by kernel_rfl) (fun _ _ _ _ h => h) (by rfl) ⟨_, fun w' hx => by (go_simp <;> with_reducible rfl), ?_⟩   -- t23 := nilCheck t22
  simp only [Act.put, List.setIfInBounds_toArray, List.set_cons_zero, List.set_cons_succ]
  refine rg_take 6 rfl (by kernel_rfl) (by kernel_rfl) (by kernel_rfl) (fun _ _ _ _ h => h) (by rfl) ⟨_, fun w' hx => by (go_simp <;> with_reducible rfl), ?_⟩   -- t24 := fieldAddr 61 t23 3
  simp only [Act.put, List.setIfInBounds_toArray, List.set_cons_zero, List.set_cons_succ]
  refine rg_take 7 rfl (by kernel_rfl) (by kernel_rfl) (by kernel_rfl) (fun _ _ _ _ h => h) (by rfl) ⟨_, fun w' hx => by have hcx := hx.load ct; (go_simp <;> with_reducible rfl), ?_⟩
  simp only [Act.put, List.setIfInBounds_toArray, List.set_cons_zero, List.set_cons_succ]
  refine rg_take 8 rfl (by kernel_rfl) (by kernel_rfl) (by kernel_rfl) (fun _ _ _ _ h => h) (by rfl) ⟨_, fun w' hx => by (go_simp <;> with_reducible rfl), ?_⟩
  simp only [Act.put, List.setIfInBounds_toArray, List.set_cons_zero, List.set_cons_succ]
  refine rg_take 9 rfl (by kernel_rfl) (by kernel_rfl) (by kernel_rfl) (fun _ _ _ _ h => h) (by rfl) ⟨_, fun w' hx => by (go_simp <;> with_reducible rfl), ?_⟩
  simp only [Act.put, List.setIfInBounds_toArray, List.set_cons_zero, List.set_cons_succ]
  refine rg_done (by kernel_rfl) ?_
  go_wp2
  (try simp only [Exit.inBlock, Exit.then])
  refine bodyPost_ret (results_tmp2 rfl _ _ _) rfl ?_
  have hx3 := Ext.tr hN3.ext (Ext.drew w3)
  refine ⟨A3, c3, T3, ?_, ?_, ⟨(hN3.own.below (Ext.drew w3)).rd, fun q hq => (hN3.each q hq).below hx3⟩, hx3⟩
  · unfold Spl.narrow
    rw [← Htv.out]
    rfl
  · unfold Spl.narrow
    simpa using hT3
end Go.Proofs.Ytiiekdhlcmaabaa

/- Plain law: outside of the narrow parts two lists have the same entries, if no told range has unlike lists of one digest. -/

namespace Go.Proofs.Ytiiekdhlcmaabaa

open Go.RowKit

/-- Is a key in one of some parts? -/
def Spl.insideB (ps : List Pt) (k : List UInt8) : Bool := ps.any fun p => inR k p.lo p.hi
def Spl.outF (ps : List Pt) (l : List Ent) : List Ent := l.filter fun e => !Spl.insideB ps e.key
theorem filter_two {q r : Ent → Bool} : ∀ (l : List Ent), l.Pairwise (fun a b => r a = true → q b = false) → (∀ e ∈ l, q e = true → r e = false) → l.filter (fun e => q e || r e) = l.filter q ++ l.filter r
  | [], _, _ => rfl
  | x :: l, hp, hd => by
    have hp2 := List.pairwise_cons.1 hp
    have ih := filter_two l hp2.2 fun e he => hd e (by simp [he])
    cases hq : q x with
    | true =>
      have hr := hd x (by simp) hq
      rw [List.filter_cons, List.filter_cons, List.filter_cons, hq, hr]
      simp [ih]
    | false =>
      cases hr : r x with
      | true =>
        have hnil : l.filter q = [] := by
          rw [List.filter_eq_nil_iff]
          intro e he h
          rw [hp2.1 e he hr] at h
          cases h
        rw [List.filter_cons, List.filter_cons, List.filter_cons, hq, hr]
        simp [ih, hnil]
      | false =>
        rw [List.filter_cons, List.filter_cons, List.filter_cons, hq, hr]
        simp [ih]
/-- A range cut at a key. -/
theorem between_cut {l : List Ent} (hl : Up l) (a b c : List UInt8) (hb : b ≠ []) (hab : ltB b a = false) (hbc : c = [] ∨ ltB c b = false) : Ent.between l a c = Ent.between l a b ++ Ent.between l b c := by
  unfold Ent.between
  have hor : ∀ e : Ent, inR e.key a c = (inR e.key a b || inR e.key b c) := fun e => by
    rw [Bool.eq_iff_iff, Bool.or_eq_true, inR_iff, inR_iff, inR_iff]
    constructor
    · rintro ⟨h1, h2⟩
      cases h3 : ltB e.key b with
      | true => exact .inl ⟨h1, .inr rfl⟩
      | false => exact .inr ⟨rfl, h2⟩
    · rintro (⟨h1, h2⟩ | ⟨h1, h2⟩)
      · refine ⟨h1, ?_⟩
        have h3 := h2.resolve_left hb
        rcases hbc with h4 | h4
        · exact .inl h4
        · exact .inr (lt_of_lt_not h3 h4)
      · exact ⟨not_lt_trans hab h1, h2⟩
  rw [show (fun e : Ent => inR e.key a c) = fun e => (inR e.key a b || inR e.key b c) from funext hor]
  refine filter_two l (hl.imp fun {x y} hxy hr => ?_) fun e _ hq => ?_
  · have h1 := (inR_iff.1 hr).1
    cases hq : inR y.key a b with
    | false => rfl
    | true =>
      have h2 := (inR_iff.1 hq).2.resolve_left hb
      have h3 := ltB_trans hxy h2
      rw [h3] at h1
      cases h1
  · cases hr : inR e.key b c with
    | false => rfl
    | true =>
      have h1 := (inR_iff.1 hr).1
      rw [(inR_iff.1 hq).2.resolve_left hb] at h1
      cases h1
/-- A range's parts have its entries, whatever the list. -/
theorem Spl.Cov.between {lo hi : List UInt8} {ps : List Pt} (h : Spl.Cov lo hi ps) {l : List Ent} (hl : Up l) : Ent.between l lo hi = ps.flatMap fun p => Ent.between l p.lo p.hi := by
  have hat : ∀ k (hk : k < ps.length), Spl.at_ ps k = ps[k] := fun k hk => by
    unfold Spl.at_; rw [List.getD_eq_getElem?_getD, List.getElem?_eq_getElem hk]; rfl
  -- up to part k
  have all : ∀ k, k < ps.length → Ent.between l lo (Spl.at_ ps k).hi = (ps.take (k + 1)).flatMap (fun p => Ent.between l p.lo p.hi) ∧ ((Spl.at_ ps k).hi ≠ [] → ltB lo (Spl.at_ ps k).hi = true) := by
    intro k
    induction k with
    | zero =>
      intro hk
      have h1 := (h.each 0 hk).2.1
      rw [h.first] at h1
      refine ⟨?_, h1⟩
      rw [List.take_succ_eq_append_getElem hk, List.take_zero, List.nil_append, ← hat 0 hk]
      simp [h.first]
    | succ k ih =>
      intro hk
      obtain ⟨i1, i2⟩ := ih (by omega)
      obtain ⟨o1, _, o3⟩ := h.each k (by omega)
      have hne := o1 hk
      have hlt := i2 hne
      have hnx := o3 hk
      have o2 := (h.each (k + 1) hk).2.1
      rw [← hnx] at o2
      refine ⟨?_, fun h9 => ltB_trans hlt (o2 h9)⟩
      rw [between_cut hl lo (Spl.at_ ps k).hi (Spl.at_ ps (k + 1)).hi hne (ltB_asymm hlt) (by
        by_cases h9 : (Spl.at_ ps (k + 1)).hi = []
        · exact .inl h9
        · exact .inr (ltB_asymm (o2 h9))), i1, List.take_succ_eq_append_getElem hk, List.flatMap_append, ← hat (k + 1) hk, hnx]
      simp
  have h1 := (all (ps.length - 1) (by have := h.pos; omega)).1
  rw [h.last, show ps.length - 1 + 1 = ps.length by have := h.pos; omega, List.take_of_length_le (Nat.le_refl _)] at h1
  exact h1
/-- Parts of a range have no key in common. -/
theorem Spl.Cov.apart {lo hi : List UInt8} {ps : List Pt} (h : Spl.Cov lo hi ps) : ps.Pairwise fun q r => ∀ k, inR k q.lo q.hi = true → inR k r.lo r.hi = false := by
  have hat : ∀ k (hk : k < ps.length), Spl.at_ ps k = ps[k] := fun k hk => by
    unfold Spl.at_; rw [List.getD_eq_getElem?_getD, List.getElem?_eq_getElem hk]; rfl
  rw [List.pairwise_iff_getElem]
  intro i j hi2 hj hij k hk
  have hne := (h.each i hi2).1 (by omega)
  have chain : ∀ d, i + 1 + d < ps.length → ltB (Spl.at_ ps (i + 1 + d)).lo (Spl.at_ ps i).hi = false := by
    intro d
    induction d with
    | zero =>
      intro h1
      rw [Nat.add_zero, ← (h.each i hi2).2.2 h1]
      exact ltB_irrefl _
    | succ d ih =>
      intro h1
      have h2 := ih (by omega)
      obtain ⟨o1, o2, o3⟩ := h.each (i + 1 + d) (by omega)
      have h3 := o3 h1
      rw [show i + 1 + (d + 1) = i + 1 + d + 1 by omega, ← h3]
      exact not_lt_trans h2 (ltB_asymm (o2 (o1 h1)))
  have h4 := chain (j - i - 1) (by omega)
  rw [show i + 1 + (j - i - 1) = j by omega] at h4
  rw [hat i hi2] at h4 hne
  rw [hat j hj] at h4
  have h5 := (inR_iff.1 hk).2.resolve_left hne
  cases hr : inR k ps[j].lo ps[j].hi with
  | false => rfl
  | true =>
    have h6 := (inR_iff.1 hr).1
    have h7 := lt_of_lt_not h5 h4
    rw [h7] at h6
    cases h6
/-- A part's keys are the range's. -/
theorem Spl.Cov.sub {lo hi : List UInt8} {ps : List Pt} (h : Spl.Cov lo hi ps) {q : Pt} (hq : q ∈ ps) (k : List UInt8) (hk : inR k q.lo q.hi = true) : inR k lo hi = true := by
  have h1 := h.between (l := [⟨k, []⟩]) (List.pairwise_singleton _ _)
  cases hr : inR k lo hi with
  | true => rfl
  | false =>
    have h2 : Ent.between [⟨k, []⟩] lo hi = [] := by unfold Ent.between; simp [hr]
    rw [h2] at h1
    have h3 := (List.flatMap_eq_nil_iff.1 h1.symm) q hq
    unfold Ent.between at h3
    simp [hk] at h3
/-- A range between keys of a list. -/
structure Spl.TR (Th : List Ent) (lo hi : List UInt8) : Prop where
  lo_ : lo = [] ∨ ∃ e ∈ Th, lo = e.key
  hi_ : hi = [] ∨ ∃ e ∈ Th, hi = e.key
  lt : hi = [] ∨ ltB lo hi = true
theorem Spl.child_all {Th : List Ent} (hr : Rise Th) (lo hi : List UInt8) (hT : Spl.TR Th lo hi) : ∀ q ∈ Spl.split Th lo hi 8, q.sum = Ent.digest (Ent.between Th q.lo q.hi) ∧ Spl.TR Th q.lo q.hi := by
  intro q hq
  have hcov := Spl.split_cov hr lo hi 8 hT.lt
  obtain ⟨i, hi2, rfl⟩ := List.getElem_of_mem hq
  have hk := hi2
  rw [Spl.split_len] at hk
  have he : (Spl.split Th lo hi 8)[i] = Spl.part (Ent.between Th lo hi) lo hi (Spl.k (Ent.between Th lo hi).length 8) (Spl.k (Ent.between Th lo hi).length 8) i := by simp [Spl.split]
  have hok := (hcov.each i hi2).2.1
  have hata : Spl.at_ (Spl.split Th lo hi 8) i = (Spl.split Th lo hi 8)[i] := by
    unfold Spl.at_; rw [List.getD_eq_getElem?_getD, List.getElem?_eq_getElem hi2]; rfl
  rw [hata] at hok
  have hkey : ∀ j, keyAt (Ent.between Th lo hi) j = [] ∨ ∃ e ∈ Th, keyAt (Ent.between Th lo hi) j = e.key := fun j => by
    unfold keyAt
    cases hj : (Ent.between Th lo hi)[j]? with
    | none => exact .inl rfl
    | some e => exact .inr ⟨e, (List.mem_filter.1 (List.mem_of_getElem? hj)).1, rfl⟩
  refine ⟨?_, ?_, ?_, ?_⟩
  · rw [he, Spl.part_between hr.upw (rise_ne hr) lo hi 8 _ rfl i hk]; rfl
  · rw [he]
    unfold Spl.part
    simp only
    split
    · exact hkey _
    · exact hT.lo_
  · rw [he]
    unfold Spl.part
    simp only
    split
    · exact hkey _
    · exact hT.hi_
  · by_cases h9 : (Spl.split Th lo hi 8)[i].hi = []
    · exact .inl h9
    · exact .inr (hok h9)
theorem outF_app (ps : List Pt) (a b : List Ent) : Spl.outF ps (a ++ b) = Spl.outF ps a ++ Spl.outF ps b := by unfold Spl.outF; rw [List.filter_append]
theorem outF_left (a b : List Pt) (l : List Ent) (h : ∀ e ∈ l, Spl.insideB b e.key = false) : Spl.outF (a ++ b) l = Spl.outF a l := by
  unfold Spl.outF
  refine List.filter_congr fun e he => ?_
  have := h e he
  unfold Spl.insideB at this ⊢
  rw [List.any_append, this, Bool.or_false]
theorem outF_right (a b : List Pt) (l : List Ent) (h : ∀ e ∈ l, Spl.insideB a e.key = false) : Spl.outF (a ++ b) l = Spl.outF b l := by
  unfold Spl.outF
  refine List.filter_congr fun e he => ?_
  have := h e he
  unfold Spl.insideB at this ⊢
  rw [List.any_append, this, Bool.false_or]
theorem inside_false {ps : List Pt} {k : List UInt8} (h : ∀ q ∈ ps, inR k q.lo q.hi = false) : Spl.insideB ps k = false := by
  unfold Spl.insideB
  rw [List.any_eq_false]
  intro q hq
  rw [h q hq]
  simp
/-- Outside of what comes out both have the same. -/
theorem Spl.outside {M Th : List Ent} (hM : Up M) (hr : Rise Th) (least : Int) (hfree : ∀ lo hi, Spl.TR Th lo hi → Ent.digest (Ent.between M lo hi) = Ent.digest (Ent.between Th lo hi) → Ent.between M lo hi = Ent.between Th lo hi) :
    ∀ (f : Nat) (p : Pt), Spl.Good Th p → p.sum = Ent.digest (Ent.between Th p.lo p.hi) → Spl.TR Th p.lo p.hi → p.count < (f : Int) →
      Spl.outF (Spl.nar M Th least f p).1 (Ent.between M p.lo p.hi) = Spl.outF (Spl.nar M Th least f p).1 (Ent.between Th p.lo p.hi) ∧ ∀ q ∈ (Spl.nar M Th least f p).1, ∀ k, inR k q.lo q.hi = true → inR k p.lo p.hi = true := by
  intro f
  induction f with
  | zero => intro p hg _ _ h; unfold Spl.Good at hg; omega
  | succ f ih =>
    intro p hg hs hT hc
    cases hd : Spl.diffs M p with
    | false =>
      have h1 : Spl.nar M Th least (f + 1) p = ([], 0) := by unfold Spl.nar; rw [if_pos hd]
      rw [h1]
      refine ⟨?_, fun q hq => by cases hq⟩
      unfold Spl.diffs at hd
      simp at hd
      have h2 : Ent.digest (Ent.between M p.lo p.hi) = p.sum := hd.2
      rw [hfree _ _ hT (h2.trans hs)]
    | true =>
      cases hlf : Spl.leaf least p with
      | true =>
        have h1 : Spl.nar M Th least (f + 1) p = ([p], 0) := by unfold Spl.nar; rw [if_neg (by rw [hd]; simp), if_pos hlf]
        rw [h1]
        have hall : ∀ l : List Ent, Spl.outF [p] (Ent.between l p.lo p.hi) = [] := fun l => by
          unfold Spl.outF Ent.between
          rw [List.filter_eq_nil_iff]
          intro e he
          have := (List.mem_filter.1 he).2
          unfold Spl.insideB
          simp [this]
        refine ⟨by rw [hall, hall], fun q hq k hk => ?_⟩
        obtain rfl : q = p := by simpa using hq
        exact hk
      | false =>
        have h1 : (Spl.nar M Th least (f + 1) p).1 = (Spl.narL M Th least f (Spl.split Th p.lo p.hi 8)).1 := by unfold Spl.nar; rw [if_neg (by rw [hd]; simp), if_neg (by rw [hlf]; simp)]
        rw [h1]
        have h2c : 2 ≤ p.count := by
          unfold Spl.leaf at hlf
          simp at hlf
          omega
        have hn : 2 ≤ (Ent.between Th p.lo p.hi).length := by unfold Spl.Good at hg; omega
        have hk2 : 2 ≤ Spl.k (Ent.between Th p.lo p.hi).length 8 := by unfold Spl.k; omega
        have hcov := Spl.split_cov hr p.lo p.hi 8 hT.lt
        have hch := Spl.child_all hr p.lo p.hi hT
        have each : ∀ q ∈ Spl.split Th p.lo p.hi 8, Spl.Good Th q ∧ q.count < p.count := fun q hq => by
          obtain ⟨i, hi, rfl⟩ := List.getElem_of_mem hq
          exact ⟨Spl.child hr _ _ _ i hi, by rw [show p.count = _ from hg]; exact Spl.child_lt _ _ _ i hi hk2⟩
        have hap := hcov.apart
        have hsub := fun q hq => hcov.sub (q := q) hq
        have hbM := hcov.between hM
        have hbT := hcov.between hr.upw
        obtain ⟨ps, hps⟩ : ∃ ps, ps = Spl.split Th p.lo p.hi 8 := ⟨_, rfl⟩
        rw [← hps] at hch each hap hsub hbM hbT ⊢
        have key : ∀ qs : List Pt, (∀ q ∈ qs, q ∈ ps) → qs.Pairwise (fun q r => ∀ k, inR k q.lo q.hi = true → inR k r.lo r.hi = false) →
            Spl.outF (Spl.narL M Th least f qs).1 (qs.flatMap fun q => Ent.between M q.lo q.hi) = Spl.outF (Spl.narL M Th least f qs).1 (qs.flatMap fun q => Ent.between Th q.lo q.hi) ∧ ∀ o ∈ (Spl.narL M Th least f qs).1, ∃ q ∈ qs, ∀ k, inR k o.lo o.hi = true → inR k q.lo q.hi = true := by
          intro qs
          induction qs with
          | nil => intro _ _; exact ⟨rfl, fun o ho => by simp [Spl.narL] at ho⟩
          | cons q qs ih2 =>
            intro hin hpw
            have hpw2 := List.pairwise_cons.1 hpw
            obtain ⟨j1, j2⟩ := ih2 (fun x hx => hin x (by simp [hx])) hpw2.2
            have hq := hin q (by simp)
            obtain ⟨i1, i2⟩ := ih q (each q hq).1 (hch q hq).1 (hch q hq).2 (by have := (each q hq).2; omega)
            have hA : ∀ l : List Ent, Spl.outF ((Spl.nar M Th least f q).1 ++ (Spl.narL M Th least f qs).1) (Ent.between l q.lo q.hi) = Spl.outF (Spl.nar M Th least f q).1 (Ent.between l q.lo q.hi) := fun l => by
              refine outF_left _ _ _ fun e he => inside_false fun o ho => ?_
              obtain ⟨x, hx, hox⟩ := j2 o ho
              have h5 := hpw2.1 x hx e.key (List.mem_filter.1 he).2
              cases h6 : inR e.key o.lo o.hi with
              | false => rfl
              | true => rw [hox _ h6] at h5; cases h5
            have hB : ∀ l : List Ent, Spl.outF ((Spl.nar M Th least f q).1 ++ (Spl.narL M Th least f qs).1) (qs.flatMap fun q => Ent.between l q.lo q.hi) = Spl.outF (Spl.narL M Th least f qs).1 (qs.flatMap fun q => Ent.between l q.lo q.hi) := fun l => by
              refine outF_right _ _ _ fun e he => inside_false fun o ho => ?_
              obtain ⟨x, hx, hex⟩ := List.mem_flatMap.1 he
              have h5 := (List.mem_filter.1 hex).2
              cases h6 : inR e.key o.lo o.hi with
              | false => rfl
              | true =>
                have h7 := hpw2.1 x hx e.key (i2 o ho _ h6)
                rw [h7] at h5; cases h5
            simp only [Spl.narL, List.flatMap_cons]
            refine ⟨?_, fun o ho => ?_⟩
            · rw [outF_app, outF_app, hA, hA, hB, hB, i1, j1]
            · rcases List.mem_append.1 ho with h5 | h5
              · exact ⟨q, by simp, i2 o h5⟩
              · obtain ⟨x, hx, hox⟩ := j2 o h5
                exact ⟨x, by simp [hx], hox⟩
        obtain ⟨k1, k2⟩ := key ps (fun q hq => hq) hap
        rw [← hbM, ← hbT] at k1
        refine ⟨k1, fun o ho k hk => ?_⟩
        obtain ⟨x, hx, hox⟩ := k2 o ho
        exact hsub x hx k (hox k hk)
end Go.Proofs.Ytiiekdhlcmaabaa

/- Contracts: is a key in some parts; have two unlike lists one digest (scowlaw18.inside, meets). Printed by wip/tools/gen_meets18.py. -/

namespace Go.Proofs.Ytiiekdhlcmaabaa

open Go.RowKit

attribute [local go_sem] Oper.semAt_some

theorem eqArr30m (x y : List UInt8) (w : World) (hx : x.length = 32) (hy : y.length = 32) : (Op.equalIn 10000 30 (.agg (bvs x).toArray) (.agg (bvs y).toArray)).run Try.prog w = .ok (x == y) w := by
  rw [show (10000 : Nat) = 9998 + 2 from rfl, run_eqArr x y w 9998 _ Try.underlying30 hx hy]

set_option maxRecDepth 100000 in
set_option maxHeartbeats 2000000 in
theorem inside18 (A : Option Addr) (T : List PtV) (c : Nat) (K : Option Addr) (k : List UInt8) (ck : Nat) (w : World) (hT : RdP w A T) (hK : RdB w K k) (hc : T.length ≤ 1000000) :
    Calls Try.prog 24 #[.slice A T.length c, .slice K k.length ck] w fun e w' => e = .returned (.bool (Spl.insideB (T.map PtV.x) k)) ∧ Below w.heap.size w w' := by
  have hyes : ∀ j (h : j < T.length), inR k T[j].x.lo T[j].x.hi = true → Spl.insideB (T.map PtV.x) k = true := fun j h hr => by
    unfold Spl.insideB
    rw [List.any_eq_true]
    exact ⟨T[j].x, List.mem_map_of_mem (List.getElem_mem h), hr⟩
  have hno : (∀ j (h : j < T.length), inR k T[j].x.lo T[j].x.hi = false) → Spl.insideB (T.map PtV.x) k = false := fun h => inside_false fun q hq => by
    obtain ⟨p, hp, rfl⟩ := List.mem_map.1 hq
    obtain ⟨j, hj, rfl⟩ := List.getElem_of_mem hp
    exact h j hj
  have HYes := Lib.hid hyes
  have HNo := Lib.hid hno
  clear hyes hno
  go_enter Try.func24, Try.ntmps24
  go_wp2
  go_loopw [5] (fun i wr => ∃ j : Nat, j ≤ T.length ∧ i = .int .i64 j ∧ (∀ r (h : r < T.length), r < j → inR k T[r].x.lo T[r].x.hi = false) ∧ Below w.heap.size w wr) (fun i _ => T.length - (intOf i).toNat)
  case atStart => exact ⟨0, by omega, rfl, fun r _ h => absurd h (by omega), Below.refl _ _⟩
  case round =>
    obtain ⟨j, hj, rfl, hpre, hbw⟩ := hrel
    have Hpre := Lib.hid hpre
    clear hpre
    by_cases h : j < T.length
    · obtain ⟨ad, rfl, hcx, hin⟩ := (hT.below hbw).at_ h
      have hY := HYes.out j h
      have hP := fun r (h2 : r < T.length) (h3 : r < j) => Hpre.out r h2 h3
      obtain ⟨p, hp⟩ : ∃ p, p = T[j] := ⟨_, rfl⟩
      have hpj := hp.symm
      rw [← hp] at hcx hin hY
      have c0 : wr.drew.cell? (ad.add (j * 35)) = some (.slice p.la p.x.lo.length p.lc) := RdP.lo_at hcx
      have c1 : wr.drew.cell? ⟨(ad.add (j * 35)).block, (ad.add (j * 35)).off + 1, none⟩ = some (.slice p.ha p.x.hi.length p.hc) := RdP.hi_at hcx
      have ik : (0 : Int) ≤ (j : Int) := by omega
      have ik2 : (j : Int) < (T.length : Int) := by omega
      have hbd : Ext w wr.drew := hbw.trans ((Ext.drew wr).mono hbw.size)
      have HP := Lib.hid hP
      have HPJ := Lib.hid hpj
      have HY := Lib.hid hY
      clear hcx hp hpj hY hP
      cases hv : inR k p.x.lo p.x.hi with
      | true =>
        go_wp2_with fail
        refine rg_start (by kernel_rfl) ?_
        refine rg_take 0 rfl (by kernel_rfl) (by kernel_rfl) (by kernel_rfl) (fun _ _ _ _ h => h) (by rfl) ⟨_, fun w' hx => by (go_simp <;> with_reducible rfl), ?_⟩
        simp only [Act.put, List.setIfInBounds_toArray, List.set_cons_zero, List.set_cons_succ]
        refine rg_take 1 rfl (by kernel_rfl) (by kernel_rfl) (by kernel_rfl) (fun _ _ _ _ h => h) (by rfl) ⟨_, fun w' hx => by (go_simp <;> with_reducible rfl), ?_⟩
        simp only [Act.put, List.setIfInBounds_toArray, List.set_cons_zero, List.set_cons_succ]
        refine rg_take 2 rfl (by kernel_rfl) (by kernel_rfl) (by kernel_rfl) (fun _ _ _ _ h => h) (by rfl) ⟨_, fun w' hx => by (go_simp <;> with_reducible rfl), ?_⟩
        simp only [Act.put, List.setIfInBounds_toArray, List.set_cons_zero, List.set_cons_succ]
        refine rg_take 3 rfl (by kernel_rfl) (by kernel_rfl) (by kernel_rfl) (fun _ _ _ _ h => h) (by rfl) ⟨_, fun w' hx => by (go_simp <;> with_reducible rfl), ?_⟩   -- t15 := indexAddr 27 t13 t14
        simp only [Act.put, List.setIfInBounds_toArray, List.set_cons_zero, List.set_cons_succ]
        refine rg_take 4 rfl (by kernel_rfl) (by kernel_rfl) (by kernel_rfl) (fun _ _ _ _ h => h) (by rfl) ⟨_, fun w' hx => by (go_simp <;> with_reducible rfl), ?_⟩   -- t16 := fieldAddr 33 t15 0
        simp only [Act.put, List.setIfInBounds_toArray, List.set_cons_zero, List.set_cons_succ]
        refine rg_take 5 rfl (by kernel_rfl) (by kernel_rfl) (by kernel_rfl) (fun _ _ _ _ h => h) (by rfl) ⟨_, fun w' hx => by have hcx := hx.load c0; (go_simp <;> with_reducible rfl), ?_⟩
        simp only [Act.put, List.setIfInBounds_toArray, List.set_cons_zero, List.set_cons_succ]
        refine rg_take 6 rfl (by kernel_rfl) (by kernel_rfl) (by kernel_rfl) (fun _ _ _ _ h => h) (by rfl) ⟨_, fun w' hx => by (go_simp <;> with_reducible rfl), ?_⟩
        simp only [Act.put, List.setIfInBounds_toArray, List.set_cons_zero, List.set_cons_succ]
        refine rg_take 7 rfl (by kernel_rfl) (by kernel_rfl) (by kernel_rfl) (fun _ _ _ _ h => h) (by rfl) ⟨_, fun w' hx => by (go_simp <;> with_reducible rfl), ?_⟩
        simp only [Act.put, List.setIfInBounds_toArray, List.set_cons_zero, List.set_cons_succ]
        refine rg_take 8 rfl (by kernel_rfl) (by kernel_rfl) (by kernel_rfl) (fun _ _ _ _ h => h) (by rfl) ⟨_, fun w' hx => by (go_simp <;> with_reducible rfl), ?_⟩   -- t20 := indexAddr 27 t18 t19
        simp only [Act.put, List.setIfInBounds_toArray, List.set_cons_zero, List.set_cons_succ]
        refine rg_take 9 rfl (by kernel_rfl) (by kernel_rfl) (by kernel_rfl) (fun _ _ _ _ h => h) (by rfl) ⟨_, fun w' hx => by (go_simp <;> with_reducible rfl), ?_⟩   -- t21 := fieldAddr 33 t20 1
        simp only [Act.put, List.setIfInBounds_toArray, List.set_cons_zero, List.set_cons_succ]
        refine rg_take 10 rfl (by kernel_rfl) (by kernel_rfl) (by kernel_rfl) (fun _ _ _ _ h => h) (by rfl) ⟨_, fun w' hx => by have hcx := hx.load c1; (go_simp <;> with_reducible rfl), ?_⟩
        simp only [Act.put, List.setIfInBounds_toArray, List.set_cons_zero, List.set_cons_succ]
        refine rg_call 11 (ref_In K p.la p.ha k p.x.lo p.x.hi ck p.lc p.hc _ (hK.below hbd) (hin.lr.below (Ext.drew wr)) (hin.hr.below (Ext.drew wr))) rfl (by kernel_rfl) (by rfl) (by go_simp) ?_
        rintro e w' ⟨he, rfl⟩
        rw [hv] at he
        subst he
        refine ⟨_, rfl, Ext.refl _, ?_⟩
        simp only [Act.put, List.setIfInBounds_toArray, List.set_cons_zero, List.set_cons_succ]
        refine rg_done (by kernel_rfl) ?_
        go_wp2_with fail
        go_ret
        exact ⟨by rw [HY.out hv]; rfl, hbd⟩
      | false =>
        go_wp2_with fail
        refine rg_start (by kernel_rfl) ?_
        refine rg_take 0 rfl (by kernel_rfl) (by kernel_rfl) (by kernel_rfl) (fun _ _ _ _ h => h) (by rfl) ⟨_, fun w' hx => by (go_simp <;> with_reducible rfl), ?_⟩
        simp only [Act.put, List.setIfInBounds_toArray, List.set_cons_zero, List.set_cons_succ]
        refine rg_take 1 rfl (by kernel_rfl) (by kernel_rfl) (by kernel_rfl) (fun _ _ _ _ h => h) (by rfl) ⟨_, fun w' hx => by (go_simp <;> with_reducible rfl), ?_⟩
        simp only [Act.put, List.setIfInBounds_toArray, List.set_cons_zero, List.set_cons_succ]
        refine rg_take 2 rfl (by kernel_rfl) (by kernel_rfl) (by kernel_rfl) (fun _ _ _ _ h => h) (by rfl) ⟨_, fun w' hx => by (go_simp <;> with_reducible rfl), ?_⟩
        simp only [Act.put, List.setIfInBounds_toArray, List.set_cons_zero, List.set_cons_succ]
        refine rg_take 3 rfl (by kernel_rfl) (by kernel_rfl) (by kernel_rfl) (fun _ _ _ _ h => h) (by rfl) ⟨_, fun w' hx => by (go_simp <;> with_reducible rfl), ?_⟩   -- t15 := indexAddr 27 t13 t14
        simp only [Act.put, List.setIfInBounds_toArray, List.set_cons_zero, List.set_cons_succ]
        refine rg_take 4 rfl (by kernel_rfl) (by kernel_rfl) (by kernel_rfl) (fun _ _ _ _ h => h) (by rfl) ⟨_, fun w' hx => by (go_simp <;> with_reducible rfl), ?_⟩   -- t16 := fieldAddr 33 t15 0
        simp only [Act.put, List.setIfInBounds_toArray, List.set_cons_zero, List.set_cons_succ]
        refine rg_take 5 rfl (by kernel_rfl) (by kernel_rfl) (by kernel_rfl) (fun _ _ _ _ h => h) (by rfl) ⟨_, fun w' hx => by have hcx := hx.load c0; (go_simp <;> with_reducible rfl), ?_⟩
        simp only [Act.put, List.setIfInBounds_toArray, List.set_cons_zero, List.set_cons_succ]
        refine rg_take 6 rfl (by kernel_rfl) (by kernel_rfl) (by kernel_rfl) (fun _ _ _ _ h => h) (by rfl) ⟨_, fun w' hx => by (go_simp <;> with_reducible rfl), ?_⟩
        simp only [Act.put, List.setIfInBounds_toArray, List.set_cons_zero, List.set_cons_succ]
        refine rg_take 7 rfl (by kernel_rfl) (by kernel_rfl) (by kernel_rfl) (fun _ _ _ _ h => h) (by rfl) ⟨_, fun w' hx => by (go_simp <;> with_reducible rfl), ?_⟩
        simp only [Act.put, List.setIfInBounds_toArray, List.set_cons_zero, List.set_cons_succ]
        refine rg_take 8 rfl (by kernel_rfl) (by kernel_rfl) (by kernel_rfl) (fun _ _ _ _ h => h) (by rfl) ⟨_, fun w' hx => by (go_simp <;> with_reducible rfl), ?_⟩   -- t20 := indexAddr 27 t18 t19
        simp only [Act.put, List.setIfInBounds_toArray, List.set_cons_zero, List.set_cons_succ]
        refine rg_take 9 rfl (by kernel_rfl) (by kernel_rfl) (by kernel_rfl) (fun _ _ _ _ h => h) (by rfl) ⟨_, fun w' hx => by (go_simp <;> with_reducible rfl), ?_⟩   -- t21 := fieldAddr 33 t20 1
        simp only [Act.put, List.setIfInBounds_toArray, List.set_cons_zero, List.set_cons_succ]
        refine rg_take 10 rfl (by kernel_rfl) (by kernel_rfl) (by kernel_rfl) (fun _ _ _ _ h => h) (by rfl) ⟨_, fun w' hx => by have hcx := hx.load c1; (go_simp <;> with_reducible rfl), ?_⟩
        simp only [Act.put, List.setIfInBounds_toArray, List.set_cons_zero, List.set_cons_succ]
        refine rg_call 11 (ref_In K p.la p.ha k p.x.lo p.x.hi ck p.lc p.hc _ (hK.below hbd) (hin.lr.below (Ext.drew wr)) (hin.hr.below (Ext.drew wr))) rfl (by kernel_rfl) (by rfl) (by go_simp) ?_
        rintro e w' ⟨he, rfl⟩
        rw [hv] at he
        subst he
        refine ⟨_, rfl, Ext.refl _, ?_⟩
        simp only [Act.put, List.setIfInBounds_toArray, List.set_cons_zero, List.set_cons_succ]
        refine rg_done (by kernel_rfl) ?_
        go_wp2_with fail
        go_roundw
        case rel =>
          refine ⟨j + 1, by omega, by go_num, fun r h2 h3 => ?_, hbd⟩
          by_cases hrj : r = j
          · subst hrj; rw [HPJ.out]; exact hv
          · exact HP.out r h2 (by omega)
        case measure => simp [intOf]; omega
    · have hf := HNo.out fun r h2 => Hpre.out r h2 (by omega)
      have HF := Lib.hid hf
      clear hf
      go_wp2
      go_ret
      exact ⟨by rw [HF.out]; rfl, hbw⟩

/-- The ends of the ranges that meets looks at. -/
def loK (Th : List Ent) (i : Nat) : List UInt8 := if 0 < i then keyAt Th (i - 1) else []
def hiK (Th : List Ent) (k : Nat) : List UInt8 := if k < Th.length then keyAt Th k else []
def Coll (M Th : List Ent) (i k : Nat) : Prop := Ent.between M (loK Th i) (hiK Th k) ≠ Ent.between Th (loK Th i) (hiK Th k) ∧ Ent.digest (Ent.between M (loK Th i) (hiK Th k)) = Ent.digest (Ent.between Th (loK Th i) (hiK Th k))

set_option maxRecDepth 100000 in
set_option maxHeartbeats 4000000 in
theorem meets18 (A : Option Addr) (l : List EnV) (c : Nat) (B : Option Addr) (m : List EnV) (d : Nat) (w : World) (hl : RdE w A l) (hm : RdE w B m) (hfl : Fit l) (hfm : Fit m) (h60l : l.length ≤ 60) (h60 : m.length ≤ 60) :
    Calls Try.prog 25 #[.slice A l.length c, .slice B m.length d] w fun e w' => ∃ b : Bool, e = .returned (.bool b) ∧ ((∃ i k, i ≤ k ∧ k ≤ m.length ∧ Coll (l.map EnV.x) (m.map EnV.x) i k) → b = true) ∧ Ext w w' := by
  go_enter Try.func25, Try.ntmps25
  go_wp2
  go_loopw [5] (fun v wr => ∃ i : Nat, i ≤ m.length + 1 ∧ v = .int .i64 i ∧ (∀ i' k, i' < i → i' ≤ k → k ≤ m.length → ¬ Coll (l.map EnV.x) (m.map EnV.x) i' k) ∧ Ext w wr) (fun v _ => m.length + 1 - (intOf v).toNat)
  case atStart => exact ⟨0, by omega, rfl, fun i' k h => absurd h (by omega), Ext.refl _⟩
  case round =>
    obtain ⟨i, hib, rfl, hout, hx0⟩ := hrel
    have Hout := Lib.hid hout
    clear hout
    by_cases hile : i ≤ m.length
    · have ii : (i : Int) ≤ (m.length : Int) := by omega
      go_wp2_with fail
      go_loopw [6] (fun v wr => ∃ k : Nat, i ≤ k ∧ k ≤ m.length + 1 ∧ v = .int .i64 k ∧ (∀ q, i ≤ q → q < k → ¬ Coll (l.map EnV.x) (m.map EnV.x) i q) ∧ Ext w wr) (fun v _ => m.length + 1 - (intOf v).toNat)
      case atStart => exact ⟨i, Nat.le_refl _, by omega, rfl, fun q h1 h2 => absurd h1 (by omega), hx0⟩
      case round =>
        obtain ⟨k, hik, hk1, rfl, hin, hx⟩ := hrel
        have Hin := Lib.hid hin
        clear hin
        by_cases hkle : k ≤ m.length
        · have kk : (k : Int) ≤ (m.length : Int) := by omega
          have kz : (0 : Int) ≤ (k : Int) := by omega
          by_cases hi0 : 0 < i
          · by_cases hkl : k < m.length
            · skip
              obtain ⟨adl, hBL, hclL, hinlL⟩ := (hm.below hx).at_ (show (i - 1) < m.length by omega)
              have hlkL : loK (m.map EnV.x) i = (m[i - 1]'(by omega)).x.key := by unfold loK; rw [if_pos hi0, keyAt_eq (by simp; omega)]; simp
              obtain ⟨elL, helL⟩ : ∃ e, e = m[(i - 1)]'(by omega) := ⟨_, rfl⟩
              rw [← helL] at hlkL hinlL
              have klL : wr.cell? (adl.add ((i - 1) * 2)) = some (.slice elL.ka elL.x.key.length elL.kc) := by rw [helL]; exact key_at hclL
              subst hBL
              have himl : ((i - 1 : Nat) : Int) < (m.length : Int) := by omega
              have himl2 : i - 1 < m.length := by omega
              have himz : (0 : Int) ≤ ((i - 1 : Nat) : Int) := by omega
              have Hlo := Lib.hid hlkL
              have hloR := hinlL.kr
              clear hlkL helL hclL hinlL
              obtain ⟨adh, hBH, hclH, hinlH⟩ := (hm.below hx).at_ (show k < m.length by omega)
              have hlkH : hiK (m.map EnV.x) k = m[k].x.key := by unfold hiK; rw [if_pos (by simpa using hkl), keyAt_eq (by simpa using hkl)]; simp
              obtain ⟨elH, helH⟩ : ∃ e, e = m[k]'(by omega) := ⟨_, rfl⟩
              rw [← helH] at hlkH hinlH
              have klH : wr.cell? (adh.add (k * 2)) = some (.slice elH.ka elH.x.key.length elH.kc) := by rw [helH]; exact key_at hclH
              injection hBH with hBH
              subst hBH
              have hki : (k : Int) < (m.length : Int) := by omega
              have Hhi := Lib.hid hlkH
              have hhiR := hinlH.kr
              clear hlkH helH hclH hinlH
              have hA := ref_between A l c elL.ka elH.ka elL.x.key elH.x.key elL.kc elH.kc wr (hl.below hx) (by omega) hloR hhiR
              have HA := Lib.hid hA
              clear hA
              go_wp2_with fail
              refine HA.out.mono ?_
              clear HA
              rintro e w5 ⟨A5, c5, rfl, ho5, hb5⟩
              have hx5 := Ext.tr hx hb5
              have hB := ref_between (some adl) m d elL.ka elH.ka elL.x.key elH.x.key elL.kc elH.kc w5 (hm.below hx5) (by omega) (hloR.below hb5) (hhiR.below hb5)
              have HB := Lib.hid hB
              clear hB
              go_wp2_with fail
              refine HB.out.mono ?_
              clear HB
              rintro e w6 ⟨A6, c6, rfl, ho6, hb6⟩
              have hx6 := Ext.tr hx5 hb6
              have hva : RdE w6 A5 (betV l elL.x.key elH.x.key) := (ho5.below hb6).rdE fun e he => (hl.each e (betV_mem he)).below hx6
              have hvb : RdE w6 A6 (betV m elL.x.key elH.x.key) := ho6.rdE fun e he => (hm.each e (betV_mem he)).below hx6
              have hla := betV_len l elL.x.key elH.x.key
              have hlb := betV_len m elL.x.key elH.x.key
              have hfa := hfl.bet elL.x.key elH.x.key
              have hfb := hfm.bet elL.x.key elH.x.key
              have hma := betV_map l elL.x.key elH.x.key
              have hmb := betV_map m elL.x.key elH.x.key
              obtain ⟨va, hva0⟩ : ∃ va, va = betV l elL.x.key elH.x.key := ⟨_, rfl⟩
              obtain ⟨vb, hvb0⟩ : ∃ vb, vb = betV m elL.x.key elH.x.key := ⟨_, rfl⟩
              rw [← hva0] at hva hla hfa hma ⊢
              rw [← hvb0] at hvb hlb hfb hmb ⊢
              have hcol : ¬ (va.map EnV.x ≠ vb.map EnV.x ∧ Ent.digest (va.map EnV.x) = Ent.digest (vb.map EnV.x)) → ¬ Coll (l.map EnV.x) (m.map EnV.x) i k := fun h1 h2 => h1 (by
                unfold Coll at h2
                rw [Hlo.out, Hhi.out, ← hma, ← hmb] at h2
                exact h2)
              have hS := ref_same17 A5 A6 va vb c5 c6 w6 hva hvb (by omega)
              have Hcol := Lib.hid hcol
              clear hva0 hvb0 hma hmb ho5 ho6 hcol
              cases hsm : Ent.sameL (va.map EnV.x) (vb.map EnV.x) with
              | true =>
                rw [hsm] at hS
                have hnc := Hcol.out fun h => h.1 ((Ent.sameL_iff _ _).1 hsm)
                have HS := Lib.hid hS
                have Hnc := Lib.hid hnc
                clear hS hsm hnc
                go_wp2_with fail
                refine HS.out.mono ?_
                clear HS
                rintro e w7 ⟨rfl, hb7⟩
                go_wp2_with fail
                go_roundw
                case rel => exact ⟨k + 1, by omega, by omega, by go_num, fun q h1 h2 => (by
                  by_cases hq : q = k
                  · subst hq; exact Hnc.out
                  · exact Hin.out q h1 (by omega)), Ext.tr hx6 hb7⟩
                case measure => simp [intOf]; omega
              | false =>
                rw [hsm] at hS
                have HS := Lib.hid hS
                clear hS hsm
                go_wp2_with fail
                refine HS.out.mono ?_
                clear HS
                rintro e w7 ⟨rfl, hb7⟩
                have hG := ref_edigest A5 va c5 w7 (hva.below hb7) (by omega) hfa.total hfa.putAll
                have HG := Lib.hid hG
                clear hG
                go_wp2_with fail
                refine HG.out.mono ?_
                clear HG
                rintro e w8 ⟨rfl, hb8⟩
                have hG := ref_edigest A6 vb c6 w8 ((hvb.below hb7).below hb8) (by omega) hfb.total hfb.putAll
                have HG := Lib.hid hG
                clear hG
                go_wp2_with fail
                refine HG.out.mono ?_
                clear HG
                rintro e w9 ⟨rfl, hb9⟩
                have hrun := eqArr30m (Ent.digest (va.map EnV.x)) (Ent.digest (vb.map EnV.x)) w9 (Ent.digest_len _) (Ent.digest_len _)
                cases hdd : (Ent.digest (va.map EnV.x) == Ent.digest (vb.map EnV.x)) with
                | true =>
                  rw [hdd] at hrun
                  clear hdd
                  go_wp2_with fail
                  go_ret
                  exact ⟨true, rfl, fun _ => rfl, Ext.tr hx6 (Ext.tr hb7 (Ext.tr hb8 hb9))⟩
                | false =>
                  rw [hdd] at hrun
                  have hnc := Hcol.out fun h => by
                    have h1 := h.2
                    simp [h1] at hdd
                  have Hnc := Lib.hid hnc
                  clear hdd hnc
                  go_wp2_with fail
                  go_roundw
                  case rel => exact ⟨k + 1, by omega, by omega, by go_num, fun q h1 h2 => (by
                    by_cases hq : q = k
                    · subst hq; exact Hnc.out
                    · exact Hin.out q h1 (by omega)), Ext.tr hx6 (Ext.tr hb7 (Ext.tr hb8 hb9))⟩
                  case measure => simp [intOf]; omega
            · skip
              obtain ⟨adl, hBL, hclL, hinlL⟩ := (hm.below hx).at_ (show (i - 1) < m.length by omega)
              have hlkL : loK (m.map EnV.x) i = (m[i - 1]'(by omega)).x.key := by unfold loK; rw [if_pos hi0, keyAt_eq (by simp; omega)]; simp
              obtain ⟨elL, helL⟩ : ∃ e, e = m[(i - 1)]'(by omega) := ⟨_, rfl⟩
              rw [← helL] at hlkL hinlL
              have klL : wr.cell? (adl.add ((i - 1) * 2)) = some (.slice elL.ka elL.x.key.length elL.kc) := by rw [helL]; exact key_at hclL
              subst hBL
              have himl : ((i - 1 : Nat) : Int) < (m.length : Int) := by omega
              have himl2 : i - 1 < m.length := by omega
              have himz : (0 : Int) ≤ ((i - 1 : Nat) : Int) := by omega
              have Hlo := Lib.hid hlkL
              have hloR := hinlL.kr
              clear hlkL helL hclL hinlL
              have hlkH : hiK (m.map EnV.x) k = [] := by unfold hiK; rw [if_neg (by simpa using hkl)]
              have Hhi := Lib.hid hlkH
              have hhiR := RdB.nil_ wr none
              have hki : ¬ (k : Int) < (m.length : Int) := by omega
              clear hlkH
              have hA := ref_between A l c elL.ka none elL.x.key [] elL.kc 0 wr (hl.below hx) (by omega) hloR hhiR
              have HA := Lib.hid hA
              clear hA
              go_wp2_with fail
              refine HA.out.mono ?_
              clear HA
              rintro e w5 ⟨A5, c5, rfl, ho5, hb5⟩
              have hx5 := Ext.tr hx hb5
              have hB := ref_between (some adl) m d elL.ka none elL.x.key [] elL.kc 0 w5 (hm.below hx5) (by omega) (hloR.below hb5) (hhiR.below hb5)
              have HB := Lib.hid hB
              clear hB
              go_wp2_with fail
              refine HB.out.mono ?_
              clear HB
              rintro e w6 ⟨A6, c6, rfl, ho6, hb6⟩
              have hx6 := Ext.tr hx5 hb6
              have hva : RdE w6 A5 (betV l elL.x.key []) := (ho5.below hb6).rdE fun e he => (hl.each e (betV_mem he)).below hx6
              have hvb : RdE w6 A6 (betV m elL.x.key []) := ho6.rdE fun e he => (hm.each e (betV_mem he)).below hx6
              have hla := betV_len l elL.x.key []
              have hlb := betV_len m elL.x.key []
              have hfa := hfl.bet elL.x.key []
              have hfb := hfm.bet elL.x.key []
              have hma := betV_map l elL.x.key []
              have hmb := betV_map m elL.x.key []
              obtain ⟨va, hva0⟩ : ∃ va, va = betV l elL.x.key [] := ⟨_, rfl⟩
              obtain ⟨vb, hvb0⟩ : ∃ vb, vb = betV m elL.x.key [] := ⟨_, rfl⟩
              rw [← hva0] at hva hla hfa hma ⊢
              rw [← hvb0] at hvb hlb hfb hmb ⊢
              have hcol : ¬ (va.map EnV.x ≠ vb.map EnV.x ∧ Ent.digest (va.map EnV.x) = Ent.digest (vb.map EnV.x)) → ¬ Coll (l.map EnV.x) (m.map EnV.x) i k := fun h1 h2 => h1 (by
                unfold Coll at h2
                rw [Hlo.out, Hhi.out, ← hma, ← hmb] at h2
                exact h2)
              have hS := ref_same17 A5 A6 va vb c5 c6 w6 hva hvb (by omega)
              have Hcol := Lib.hid hcol
              clear hva0 hvb0 hma hmb ho5 ho6 hcol
              cases hsm : Ent.sameL (va.map EnV.x) (vb.map EnV.x) with
              | true =>
                rw [hsm] at hS
                have hnc := Hcol.out fun h => h.1 ((Ent.sameL_iff _ _).1 hsm)
                have HS := Lib.hid hS
                have Hnc := Lib.hid hnc
                clear hS hsm hnc
                go_wp2_with fail
                refine HS.out.mono ?_
                clear HS
                rintro e w7 ⟨rfl, hb7⟩
                go_wp2_with fail
                go_roundw
                case rel => exact ⟨k + 1, by omega, by omega, by go_num, fun q h1 h2 => (by
                  by_cases hq : q = k
                  · subst hq; exact Hnc.out
                  · exact Hin.out q h1 (by omega)), Ext.tr hx6 hb7⟩
                case measure => simp [intOf]; omega
              | false =>
                rw [hsm] at hS
                have HS := Lib.hid hS
                clear hS hsm
                go_wp2_with fail
                refine HS.out.mono ?_
                clear HS
                rintro e w7 ⟨rfl, hb7⟩
                have hG := ref_edigest A5 va c5 w7 (hva.below hb7) (by omega) hfa.total hfa.putAll
                have HG := Lib.hid hG
                clear hG
                go_wp2_with fail
                refine HG.out.mono ?_
                clear HG
                rintro e w8 ⟨rfl, hb8⟩
                have hG := ref_edigest A6 vb c6 w8 ((hvb.below hb7).below hb8) (by omega) hfb.total hfb.putAll
                have HG := Lib.hid hG
                clear hG
                go_wp2_with fail
                refine HG.out.mono ?_
                clear HG
                rintro e w9 ⟨rfl, hb9⟩
                have hrun := eqArr30m (Ent.digest (va.map EnV.x)) (Ent.digest (vb.map EnV.x)) w9 (Ent.digest_len _) (Ent.digest_len _)
                cases hdd : (Ent.digest (va.map EnV.x) == Ent.digest (vb.map EnV.x)) with
                | true =>
                  rw [hdd] at hrun
                  clear hdd
                  go_wp2_with fail
                  go_ret
                  exact ⟨true, rfl, fun _ => rfl, Ext.tr hx6 (Ext.tr hb7 (Ext.tr hb8 hb9))⟩
                | false =>
                  rw [hdd] at hrun
                  have hnc := Hcol.out fun h => by
                    have h1 := h.2
                    simp [h1] at hdd
                  have Hnc := Lib.hid hnc
                  clear hdd hnc
                  go_wp2_with fail
                  go_roundw
                  case rel => exact ⟨k + 1, by omega, by omega, by go_num, fun q h1 h2 => (by
                    by_cases hq : q = k
                    · subst hq; exact Hnc.out
                    · exact Hin.out q h1 (by omega)), Ext.tr hx6 (Ext.tr hb7 (Ext.tr hb8 hb9))⟩
                  case measure => simp [intOf]; omega
          · by_cases hkl : k < m.length
            · skip
              have hlkL : loK (m.map EnV.x) i = [] := by unfold loK; rw [if_neg hi0]
              have Hlo := Lib.hid hlkL
              have hloR := RdB.nil_ wr none
              clear hlkL
              obtain ⟨adh, hBH, hclH, hinlH⟩ := (hm.below hx).at_ (show k < m.length by omega)
              have hlkH : hiK (m.map EnV.x) k = m[k].x.key := by unfold hiK; rw [if_pos (by simpa using hkl), keyAt_eq (by simpa using hkl)]; simp
              obtain ⟨elH, helH⟩ : ∃ e, e = m[k]'(by omega) := ⟨_, rfl⟩
              rw [← helH] at hlkH hinlH
              have klH : wr.cell? (adh.add (k * 2)) = some (.slice elH.ka elH.x.key.length elH.kc) := by rw [helH]; exact key_at hclH
              subst hBH
              have hki : (k : Int) < (m.length : Int) := by omega
              have Hhi := Lib.hid hlkH
              have hhiR := hinlH.kr
              clear hlkH helH hclH hinlH
              have hA := ref_between A l c none elH.ka [] elH.x.key 0 elH.kc wr (hl.below hx) (by omega) hloR hhiR
              have HA := Lib.hid hA
              clear hA
              go_wp2_with fail
              refine HA.out.mono ?_
              clear HA
              rintro e w5 ⟨A5, c5, rfl, ho5, hb5⟩
              have hx5 := Ext.tr hx hb5
              have hB := ref_between (some adh) m d none elH.ka [] elH.x.key 0 elH.kc w5 (hm.below hx5) (by omega) (hloR.below hb5) (hhiR.below hb5)
              have HB := Lib.hid hB
              clear hB
              go_wp2_with fail
              refine HB.out.mono ?_
              clear HB
              rintro e w6 ⟨A6, c6, rfl, ho6, hb6⟩
              have hx6 := Ext.tr hx5 hb6
              have hva : RdE w6 A5 (betV l [] elH.x.key) := (ho5.below hb6).rdE fun e he => (hl.each e (betV_mem he)).below hx6
              have hvb : RdE w6 A6 (betV m [] elH.x.key) := ho6.rdE fun e he => (hm.each e (betV_mem he)).below hx6
              have hla := betV_len l [] elH.x.key
              have hlb := betV_len m [] elH.x.key
              have hfa := hfl.bet [] elH.x.key
              have hfb := hfm.bet [] elH.x.key
              have hma := betV_map l [] elH.x.key
              have hmb := betV_map m [] elH.x.key
              obtain ⟨va, hva0⟩ : ∃ va, va = betV l [] elH.x.key := ⟨_, rfl⟩
              obtain ⟨vb, hvb0⟩ : ∃ vb, vb = betV m [] elH.x.key := ⟨_, rfl⟩
              rw [← hva0] at hva hla hfa hma ⊢
              rw [← hvb0] at hvb hlb hfb hmb ⊢
              have hcol : ¬ (va.map EnV.x ≠ vb.map EnV.x ∧ Ent.digest (va.map EnV.x) = Ent.digest (vb.map EnV.x)) → ¬ Coll (l.map EnV.x) (m.map EnV.x) i k := fun h1 h2 => h1 (by
                unfold Coll at h2
                rw [Hlo.out, Hhi.out, ← hma, ← hmb] at h2
                exact h2)
              have hS := ref_same17 A5 A6 va vb c5 c6 w6 hva hvb (by omega)
              have Hcol := Lib.hid hcol
              clear hva0 hvb0 hma hmb ho5 ho6 hcol
              cases hsm : Ent.sameL (va.map EnV.x) (vb.map EnV.x) with
              | true =>
                rw [hsm] at hS
                have hnc := Hcol.out fun h => h.1 ((Ent.sameL_iff _ _).1 hsm)
                have HS := Lib.hid hS
                have Hnc := Lib.hid hnc
                clear hS hsm hnc
                go_wp2_with fail
                refine HS.out.mono ?_
                clear HS
                rintro e w7 ⟨rfl, hb7⟩
                go_wp2_with fail
                go_roundw
                case rel => exact ⟨k + 1, by omega, by omega, by go_num, fun q h1 h2 => (by
                  by_cases hq : q = k
                  · subst hq; exact Hnc.out
                  · exact Hin.out q h1 (by omega)), Ext.tr hx6 hb7⟩
                case measure => simp [intOf]; omega
              | false =>
                rw [hsm] at hS
                have HS := Lib.hid hS
                clear hS hsm
                go_wp2_with fail
                refine HS.out.mono ?_
                clear HS
                rintro e w7 ⟨rfl, hb7⟩
                have hG := ref_edigest A5 va c5 w7 (hva.below hb7) (by omega) hfa.total hfa.putAll
                have HG := Lib.hid hG
                clear hG
                go_wp2_with fail
                refine HG.out.mono ?_
                clear HG
                rintro e w8 ⟨rfl, hb8⟩
                have hG := ref_edigest A6 vb c6 w8 ((hvb.below hb7).below hb8) (by omega) hfb.total hfb.putAll
                have HG := Lib.hid hG
                clear hG
                go_wp2_with fail
                refine HG.out.mono ?_
                clear HG
                rintro e w9 ⟨rfl, hb9⟩
                have hrun := eqArr30m (Ent.digest (va.map EnV.x)) (Ent.digest (vb.map EnV.x)) w9 (Ent.digest_len _) (Ent.digest_len _)
                cases hdd : (Ent.digest (va.map EnV.x) == Ent.digest (vb.map EnV.x)) with
                | true =>
                  rw [hdd] at hrun
                  clear hdd
                  go_wp2_with fail
                  go_ret
                  exact ⟨true, rfl, fun _ => rfl, Ext.tr hx6 (Ext.tr hb7 (Ext.tr hb8 hb9))⟩
                | false =>
                  rw [hdd] at hrun
                  have hnc := Hcol.out fun h => by
                    have h1 := h.2
                    simp [h1] at hdd
                  have Hnc := Lib.hid hnc
                  clear hdd hnc
                  go_wp2_with fail
                  go_roundw
                  case rel => exact ⟨k + 1, by omega, by omega, by go_num, fun q h1 h2 => (by
                    by_cases hq : q = k
                    · subst hq; exact Hnc.out
                    · exact Hin.out q h1 (by omega)), Ext.tr hx6 (Ext.tr hb7 (Ext.tr hb8 hb9))⟩
                  case measure => simp [intOf]; omega
            · skip
              have hlkL : loK (m.map EnV.x) i = [] := by unfold loK; rw [if_neg hi0]
              have Hlo := Lib.hid hlkL
              have hloR := RdB.nil_ wr none
              clear hlkL
              have hlkH : hiK (m.map EnV.x) k = [] := by unfold hiK; rw [if_neg (by simpa using hkl)]
              have Hhi := Lib.hid hlkH
              have hhiR := RdB.nil_ wr none
              have hki : ¬ (k : Int) < (m.length : Int) := by omega
              clear hlkH
              have hA := ref_between A l c none none [] [] 0 0 wr (hl.below hx) (by omega) hloR hhiR
              have HA := Lib.hid hA
              clear hA
              go_wp2_with fail
              refine HA.out.mono ?_
              clear HA
              rintro e w5 ⟨A5, c5, rfl, ho5, hb5⟩
              have hx5 := Ext.tr hx hb5
              have hB := ref_between B m d none none [] [] 0 0 w5 (hm.below hx5) (by omega) (hloR.below hb5) (hhiR.below hb5)
              have HB := Lib.hid hB
              clear hB
              go_wp2_with fail
              refine HB.out.mono ?_
              clear HB
              rintro e w6 ⟨A6, c6, rfl, ho6, hb6⟩
              have hx6 := Ext.tr hx5 hb6
              have hva : RdE w6 A5 (betV l [] []) := (ho5.below hb6).rdE fun e he => (hl.each e (betV_mem he)).below hx6
              have hvb : RdE w6 A6 (betV m [] []) := ho6.rdE fun e he => (hm.each e (betV_mem he)).below hx6
              have hla := betV_len l [] []
              have hlb := betV_len m [] []
              have hfa := hfl.bet [] []
              have hfb := hfm.bet [] []
              have hma := betV_map l [] []
              have hmb := betV_map m [] []
              obtain ⟨va, hva0⟩ : ∃ va, va = betV l [] [] := ⟨_, rfl⟩
              obtain ⟨vb, hvb0⟩ : ∃ vb, vb = betV m [] [] := ⟨_, rfl⟩
              rw [← hva0] at hva hla hfa hma ⊢
              rw [← hvb0] at hvb hlb hfb hmb ⊢
              have hcol : ¬ (va.map EnV.x ≠ vb.map EnV.x ∧ Ent.digest (va.map EnV.x) = Ent.digest (vb.map EnV.x)) → ¬ Coll (l.map EnV.x) (m.map EnV.x) i k := fun h1 h2 => h1 (by
                unfold Coll at h2
                rw [Hlo.out, Hhi.out, ← hma, ← hmb] at h2
                exact h2)
              have hS := ref_same17 A5 A6 va vb c5 c6 w6 hva hvb (by omega)
              have Hcol := Lib.hid hcol
              clear hva0 hvb0 hma hmb ho5 ho6 hcol
              cases hsm : Ent.sameL (va.map EnV.x) (vb.map EnV.x) with
              | true =>
                rw [hsm] at hS
                have hnc := Hcol.out fun h => h.1 ((Ent.sameL_iff _ _).1 hsm)
                have HS := Lib.hid hS
                have Hnc := Lib.hid hnc
                clear hS hsm hnc
                go_wp2_with fail
                refine HS.out.mono ?_
                clear HS
                rintro e w7 ⟨rfl, hb7⟩
                go_wp2_with fail
                go_roundw
                case rel => exact ⟨k + 1, by omega, by omega, by go_num, fun q h1 h2 => (by
                  by_cases hq : q = k
                  · subst hq; exact Hnc.out
                  · exact Hin.out q h1 (by omega)), Ext.tr hx6 hb7⟩
                case measure => simp [intOf]; omega
              | false =>
                rw [hsm] at hS
                have HS := Lib.hid hS
                clear hS hsm
                go_wp2_with fail
                refine HS.out.mono ?_
                clear HS
                rintro e w7 ⟨rfl, hb7⟩
                have hG := ref_edigest A5 va c5 w7 (hva.below hb7) (by omega) hfa.total hfa.putAll
                have HG := Lib.hid hG
                clear hG
                go_wp2_with fail
                refine HG.out.mono ?_
                clear HG
                rintro e w8 ⟨rfl, hb8⟩
                have hG := ref_edigest A6 vb c6 w8 ((hvb.below hb7).below hb8) (by omega) hfb.total hfb.putAll
                have HG := Lib.hid hG
                clear hG
                go_wp2_with fail
                refine HG.out.mono ?_
                clear HG
                rintro e w9 ⟨rfl, hb9⟩
                have hrun := eqArr30m (Ent.digest (va.map EnV.x)) (Ent.digest (vb.map EnV.x)) w9 (Ent.digest_len _) (Ent.digest_len _)
                cases hdd : (Ent.digest (va.map EnV.x) == Ent.digest (vb.map EnV.x)) with
                | true =>
                  rw [hdd] at hrun
                  clear hdd
                  go_wp2_with fail
                  go_ret
                  exact ⟨true, rfl, fun _ => rfl, Ext.tr hx6 (Ext.tr hb7 (Ext.tr hb8 hb9))⟩
                | false =>
                  rw [hdd] at hrun
                  have hnc := Hcol.out fun h => by
                    have h1 := h.2
                    simp [h1] at hdd
                  have Hnc := Lib.hid hnc
                  clear hdd hnc
                  go_wp2_with fail
                  go_roundw
                  case rel => exact ⟨k + 1, by omega, by omega, by go_num, fun q h1 h2 => (by
                    by_cases hq : q = k
                    · subst hq; exact Hnc.out
                    · exact Hin.out q h1 (by omega)), Ext.tr hx6 (Ext.tr hb7 (Ext.tr hb8 hb9))⟩
                  case measure => simp [intOf]; omega
        · have kk : ¬ (k : Int) ≤ (m.length : Int) := by omega
          go_wp2_with fail
          go_roundw
          case rel => exact ⟨i + 1, by omega, by go_num, fun i' q h1 h2 h3 => (by
            by_cases hi' : i' = i
            · subst hi'; exact Hin.out q h2 (by omega)
            · exact Hout.out i' q (by omega) h2 h3), hx⟩
          case measure => simp [intOf]; omega
    · have ii : ¬ (i : Int) ≤ (m.length : Int) := by omega
      go_wp2_with fail
      go_ret
      exact .inl ⟨rfl, fun i' k h1 h2 h3 => absurd h3 (Hout.out i' k (by omega) h1 h2), hx0⟩
end Go.Proofs.Ytiiekdhlcmaabaa

/- The walk of the law SplitOutside. Printed by wip/tools/gen_lawf18.py. -/

namespace Go.Proofs.Ytiiekdhlcmaabaa

open Go.RowKit

attribute [local go_sem] Oper.semAt_some

theorem between_all (l : List Ent) : Ent.between l [] [] = l := by
  unfold Ent.between
  rw [List.filter_eq_self]
  intro e _
  have h : ltB e.key [] = false := by cases e.key <;> rfl
  simp [inR, h]

/-- What is not the same outside of the narrow parts: two unlike lists of one digest. -/
theorem Spl.out_meets {M Th : List Ent} (hM : Up M) (hr : Rise Th) (least : Int) (h60 : Th.length ≤ 60) (hne : Spl.outF (Spl.narrow M Th least).1 M ≠ Spl.outF (Spl.narrow M Th least).1 Th) : ∃ i k, i ≤ k ∧ k ≤ Th.length ∧ Coll M Th i k := by
  by_cases hex : ∃ i k, i ≤ k ∧ k ≤ Th.length ∧ Coll M Th i k
  · exact hex
  exfalso
  apply hne
  have hfree : ∀ lo hi, Spl.TR Th lo hi → Ent.digest (Ent.between M lo hi) = Ent.digest (Ent.between Th lo hi) → Ent.between M lo hi = Ent.between Th lo hi := by
    intro lo hi hT hdg
    by_cases hbb : Ent.between M lo hi = Ent.between Th lo hi
    · exact hbb
    exfalso
    apply hex
    have hkey : ∀ q (hq : q < Th.length), Th[q].key ≠ [] := fun q hq h0 => by
      have := (hr.ok q hq).1
      rw [h0] at this
      exact absurd this (by decide)
    have hlo : ∃ i, i ≤ Th.length ∧ loK Th i = lo ∧ (i = 0 ∨ ∃ p, ∃ hp : p < Th.length, i = p + 1 ∧ lo = Th[p].key) := by
      rcases hT.lo_ with rfl | ⟨e, he, rfl⟩
      · exact ⟨0, by omega, rfl, .inl rfl⟩
      · obtain ⟨p, hp, rfl⟩ := List.getElem_of_mem he
        refine ⟨p + 1, by omega, ?_, .inr ⟨p, hp, rfl, rfl⟩⟩
        unfold loK
        rw [if_pos (by omega), Nat.add_sub_cancel, keyAt_eq hp]
    have hhi : ∃ k, k ≤ Th.length ∧ hiK Th k = hi ∧ (k = Th.length ∨ ∃ hk : k < Th.length, hi = Th[k].key) := by
      rcases hT.hi_ with rfl | ⟨e, he, rfl⟩
      · exact ⟨Th.length, by omega, by unfold hiK; rw [if_neg (by omega)], .inl rfl⟩
      · obtain ⟨q, hq, rfl⟩ := List.getElem_of_mem he
        refine ⟨q, by omega, ?_, .inr ⟨hq, rfl⟩⟩
        unfold hiK
        rw [if_pos hq, keyAt_eq hq]
    obtain ⟨i, hi1, hi2, hi3⟩ := hlo
    obtain ⟨k, hk1, hk2, hk3⟩ := hhi
    refine ⟨i, k, ?_, hk1, ?_⟩
    · rcases hi3 with h | ⟨p, hp, hip, hlp⟩
      · omega
      · rcases hk3 with h | ⟨hk, hkq⟩
        · omega
        · rcases hT.lt with h | h
          · rw [h] at hkq
            exact absurd hkq.symm (hkey k hk)
          · rw [hlp, hkq] at h
            by_cases hpk : p < k
            · omega
            · exfalso
              by_cases hpk2 : p = k
              · subst hpk2
                rw [ltB_irrefl] at h
                cases h
              · have h2 := hr.upw.lt (i := k) hp (by omega)
                rw [ltB_asymm h2] at h
                cases h
    · unfold Coll
      rw [hi2, hk2]
      exact ⟨hbb, hdg⟩
  have h1 := (Spl.outside hM hr least hfree 61 (Ent.partOf Th [] []) (Spl.root_good _) rfl ⟨.inl rfl, .inl rfl, .inl rfl⟩ (by
    have h2 : (Ent.between Th [] []).length ≤ Th.length := List.length_filter_le _ _
    show ((Ent.between Th [] []).length : Int) < _
    omega)).1
  have h2 : (Ent.partOf Th [] []).lo = [] := rfl
  have h3 : (Ent.partOf Th [] []).hi = [] := rfl
  rw [h2, h3, between_all, between_all] at h1
  exact h1

def outV (ps : List Pt) (l : List EnV) : List EnV := l.filter fun e => !Spl.insideB ps e.x.key
theorem outV_snoc (ps : List Pt) (l : List EnV) (k : Nat) (h : k < l.length) : outV ps (l.take (k + 1)) = outV ps (l.take k) ++ if Spl.insideB ps l[k].x.key then [] else [l[k]] := by
  unfold outV
  rw [List.take_succ_eq_append_getElem h, List.filter_append]
  congr 1
  simp only [List.filter_cons, List.filter_nil]
  cases Spl.insideB ps l[k].x.key <;> rfl
theorem outV_len (ps : List Pt) (l : List EnV) : (outV ps l).length ≤ l.length := List.length_filter_le _ _
theorem outV_mem {ps : List Pt} {l : List EnV} {e : EnV} (h : e ∈ outV ps l) : e ∈ l := (List.mem_filter.1 h).1
theorem outV_map (ps : List Pt) (l : List EnV) : (outV ps l).map EnV.x = Spl.outF ps (l.map EnV.x) := by
  unfold outV Spl.outF
  rw [List.filter_map]
  rfl

set_option maxRecDepth 100000 in
set_option maxHeartbeats 4000000 in
theorem walkSplitOutside (w : World) (A : Option Addr) (l : List EnV) (cap : Nat) (hl0 : RdE w A l) (_hc : l.length ≤ cap) (B : Option Addr) (m : List EnV) (cap2 : Nat) (hm0 : RdE w B m) (_hc2 : m.length ≤ cap2) (least : Int) (_wf : (Lit.int .i64 least).wf = true) :
    Calls Try.prog 8 #[.slice A l.length cap, .slice B m.length cap2, .int .i64 least] w fun e w' => e = .returned (.bool true) ∧ Below w.heap.size w w' := by
  have hF := fit18 A l cap w hl0
  go_enter Try.func8, Try.ntmps8
  go_wp2_with fail
  refine hF.mono ?_
  clear hF
  rintro e w1 ⟨b, rfl, hb, hb1⟩
  cases b with
  | false =>
    clear hb
    go_wp2_with fail
    refine (live18 _).mono ?_
    rintro e wz ⟨rfl, hbz⟩
    go_wp2
    go_ret
    exact ⟨rfl, Ext.tr hb1 hbz⟩
  | true =>
    obtain ⟨h60, hfl, hriseL⟩ := hb rfl
    clear hb
    have hF := fit18 B m cap2 w1 (hm0.below hb1)
    have HF := Lib.hid hF
    clear hF
    go_wp2_with fail
    refine HF.out.mono ?_
    clear HF
    rintro e w2 ⟨b, rfl, hb, hb2⟩
    have hx2 := Ext.tr hb1 hb2
    cases b with
    | false =>
      clear hb
      go_wp2_with fail
      refine (live18 _).mono ?_
      rintro e wz ⟨rfl, hbz⟩
      go_wp2
      go_ret
      exact ⟨rfl, Ext.tr hx2 hbz⟩
    | true =>
      obtain ⟨g60, hfm, hrise⟩ := hb rfl
      clear hb
      have hl2 := hl0.below hx2
      have hm2 := hm0.below hx2
      have hbl : max 1 (Ent.between (m.map EnV.x) [] []).length ≤ 60 := by
        have : (Ent.between (m.map EnV.x) [] []).length ≤ (m.map EnV.x).length := List.length_filter_le _ _
        rw [List.length_map] at this
        omega
      have hou := Spl.nar_len (M := l.map EnV.x) hrise least 61 (Ent.partOf (m.map EnV.x) [] []) (Spl.root_good _)
      have hou2 : (Spl.narrow (l.map EnV.x) (m.map EnV.x) least).1.length ≤ 60 := by
        have h1 : max 1 (Ent.between (m.map EnV.x) (Ent.partOf (m.map EnV.x) [] []).lo (Ent.partOf (m.map EnV.x) [] []).hi).length ≤ 60 := hbl
        unfold Spl.narrow
        omega
      have hN := narrowTop_any A l cap B m cap2 least w2 hl2 hm2 hfl hfm hrise g60
      have hplain := Spl.out_meets (M := l.map EnV.x) (Th := m.map EnV.x) hriseL.upw hrise least (by rw [List.length_map]; exact g60)
      obtain ⟨ps, hps⟩ : ∃ ps, ps = (Spl.narrow (l.map EnV.x) (m.map EnV.x) least).1 := ⟨_, rfl⟩
      obtain ⟨tv, htv⟩ : ∃ tv : Int, tv = wrap64 ((1 + (Spl.narrow (l.map EnV.x) (m.map EnV.x) least).2 : Nat) : Int) := ⟨_, rfl⟩
      rw [← hps, ← htv] at hN
      rw [← hps] at hou2 hplain
      have HN := Lib.hid hN
      have HP := Lib.hid hplain
      clear hN hps htv hbl hou hplain hl2 hm2 hrise hriseL
      go_wp2_with fail
      refine HN.out.mono ?_
      clear HN
      rintro e w5 ⟨A5, c5, T, rfl, hTx, hT, hb5⟩
      have hx5 := Ext.tr hx2 hb5
      have hTl : T.length ≤ 1000000 := by
        have h1 := congrArg List.length hTx
        rw [List.length_map] at h1
        omega
      have HTx := Lib.hid hTx
      clear hTx
      have hl5 := hl0.below hx5
      have hm5 := hm0.below hx5
      go_wp2_with fail
      go_loopw [9, 11] (fun v i wr => ∃ (k : Nat) (A' : Option Addr) (c' : Nat), k ≤ l.length ∧ i = .int .i64 k ∧ v = .slice A' (outV ps (l.take k)).length c' ∧ Own wr w5.heap.size 49 2 A' (outV ps (l.take k)).length c' (ecs (outV ps (l.take k))) ∧ Below w5.heap.size w5 wr) (fun _ i _ => l.length - (intOf i).toNat)
      case atStart => exact ⟨0, none, 0, by omega, rfl, rfl, Own.none_ _ _ _ _ _, Below.refl _ _⟩
      case round =>
        obtain ⟨k, A', c', hk, rfl, rfl, hown, hbw⟩ := hrel
        by_cases h : k < l.length
        · obtain ⟨ad, hAd, hcell, hin⟩ := (hl5.below hbw).at_ h
          subst hAd
          have hs := outV_snoc ps l k h
          have hlen := outV_len ps (l.take k)
          rw [List.length_take] at hlen
          obtain ⟨d, hd⟩ : ∃ d, d = outV ps (l.take k) := ⟨_, rfl⟩
          rw [← hd] at hs hown hlen ⊢
          have hdl : d.length ≤ 1000000 := by omega
          have Hs := Lib.hid hs
          clear hs hd hlen
          have hcx : ∀ j u, (l[k].cells)[j]? = some u → wr.cell? ((ad.add (k * 2)).add j) = some u := fun j u hj => by rw [add_add']; exact hcell j u hj
          have Hcx := Lib.hid hcx
          clear hcell hcx
          have hinx := inside18 A5 T c5 l[k].ka l[k].x.key l[k].kc wr (hT.below hbw) hin.kr hTl
          rw [HTx.out] at hinx
          have hfc : wr.cell? (ad.add (k * 2)) = some (.slice l[k].ka l[k].x.key.length l[k].kc) := Hcx.out 0 _ rfl
          have hfi : (k : Int) < (l.length : Int) := by omega
          have HX := Lib.hid hinx
          clear hinx
          cases hb : Spl.insideB ps l[k].x.key with
          | true =>
            rw [hb] at Hs HX
            have hs' : outV ps (l.take (k + 1)) = d := by rw [Hs.out]; simp
            have Hs' := Lib.hid hs'
            clear hs' Hs hb
            go_wp2_with fail
            refine HX.out.mono ?_
            rintro e' w2 ⟨rfl, hbi⟩
            have hown2 := hown.below hbi
            have hbw2 := hbw.trans (hbi.mono hbw.size)
            clear hown hbw hfc HX Hcx hin
            go_wp2_with fail
            go_roundw
            case rel => exact ⟨k + 1, A', c', by omega, by go_num, by rw [Hs'.out], by rw [Hs'.out]; exact hown2, hbw2⟩
            case measure => simp [intOf]; omega
          | false =>
            rw [hb] at Hs HX
            have hs' : outV ps (l.take (k + 1)) = d ++ [l[k]] := by rw [Hs.out]; simp
            have Hs1 : Hid ((outV ps (l.take (k + 1))).length = d.length + 1) := by show _ = _; rw [hs']; simp
            have Hs2 : Hid (ecs (outV ps (l.take (k + 1))) = ecs d ++ l[k].cells.toList) := by show _ = _; rw [hs', ecs_snoc]
            clear hs' Hs hb
            obtain ⟨d2, hd2⟩ : ∃ d2, d2 = outV ps (l.take (k + 1)) := ⟨_, rfl⟩
            rw [← hd2] at Hs1 Hs2
            have Hd2 := Lib.hid hd2
            clear hd2
            go_wp2_with fail
            refine HX.out.mono ?_
            rintro e' w2 ⟨rfl, hbi⟩
            have hcx2 : ∀ j u, (l[k].cells)[j]? = some u → w2.cell? ((ad.add (k * 2)).add j) = some u := fun j u hj => (hbi.cell (World.block_lt_of_cell? _ _ (Hcx.out j u hj))).trans (Hcx.out j u hj)
            have Hcx2 := Lib.hid hcx2
            have hbx2 := Ext.alloc w2 (.cells l[k].cells 49)
            have hown2 := (hown.below hbi).below hbx2
            have hbwi := hbw.trans (hbi.mono hbw.size)
            have hbw2 := hbwi.trans (hbx2.mono hbwi.size)
            have hrd : Rd (w2.alloc (.cells l[k].cells 49)) 2 (some ⟨w2.heap.size, 0, none⟩) 1 l[k].cells.toList := by
              have h1 := RdE.one w2 49 l[k] (hin.below hbi)
              have h2 := h1.rd
              simpa [ecs] using h2
            have hsz : l[k].cells.size = 2 := rfl
            clear hown hbw hfc HX hin hbx2 hcx2 Hcx hbi
            go_wp2_with (first | (have hcx := Hcx2.out; refine wpList_load_cells (by rfl) 49 (.tmp 46) rfl _ rfl l[k].cells _ hcx Try.underlying49 rfl (einfo _) ?_; clear hcx) | (at_builtin; refine wpList_app (by rfl) (.tmp 43) (.tmp 48) 22 rfl elemE w5.heap.size A' d.length c' (ecs d) rfl _ 1 1 l[k].cells.toList rfl d2.length Hs1.out (ecs d2) Hs2.out hown2 hrd (cells_one _) (by rw [Hs1.out]; omega) (by rw [Hs1.out]; omega) hbw2.size ?_; intro A4 c4 w4 ho4 hg4 hr4))
            go_roundw
            case rel => exact ⟨k + 1, A4, c4, by omega, by go_num, by rw [← Hd2.out], by rw [← Hd2.out]; exact ho4, below_app hbw2 hown2 hg4 hbw2.size⟩
            case measure => simp [intOf]; omega
        · have hkl : k = l.length := by omega
          subst hkl
          rw [List.take_length] at hown ⊢
          have hfi : ¬ (l.length : Int) < (l.length : Int) := by omega
          go_wp2_with fail
          obtain ⟨w6, hw6⟩ : ∃ x, x = wr := ⟨_, rfl⟩
          subst hw6
          have hx6 := Ext.tr hx5 hbw
          have hT6 := hT.below hbw
          have hm6 := hm0.below hx6
          obtain ⟨A1, hA1⟩ : ∃ x, x = A' := ⟨_, rfl⟩
          obtain ⟨c1, hc1⟩ : ∃ x, x = c' := ⟨_, rfl⟩
          subst hA1
          subst hc1
          have Hown := Lib.hid hown
          have HbwA := Lib.hid hbw
          clear hown hbw
          go_loopw [10, 12] (fun v i wr => ∃ (k : Nat) (A' : Option Addr) (c' : Nat), k ≤ m.length ∧ i = .int .i64 k ∧ v = .slice A' (outV ps (m.take k)).length c' ∧ Own wr w6.heap.size 49 2 A' (outV ps (m.take k)).length c' (ecs (outV ps (m.take k))) ∧ Below w6.heap.size w6 wr) (fun _ i _ => m.length - (intOf i).toNat)
          case atStart => exact ⟨0, none, 0, by omega, rfl, rfl, Own.none_ _ _ _ _ _, Below.refl _ _⟩
          case round =>
            obtain ⟨k, A', c', hk, rfl, rfl, hown, hbw⟩ := hrel
            by_cases h : k < m.length
            · obtain ⟨ad, hAd, hcell, hin⟩ := (hm6.below hbw).at_ h
              subst hAd
              have hs := outV_snoc ps m k h
              have hlen := outV_len ps (m.take k)
              rw [List.length_take] at hlen
              obtain ⟨d, hd⟩ : ∃ d, d = outV ps (m.take k) := ⟨_, rfl⟩
              rw [← hd] at hs hown hlen ⊢
              have hdl : d.length ≤ 1000000 := by omega
              have Hs := Lib.hid hs
              clear hs hd hlen
              have hcx : ∀ j u, (m[k].cells)[j]? = some u → wr.cell? ((ad.add (k * 2)).add j) = some u := fun j u hj => by rw [add_add']; exact hcell j u hj
              have Hcx := Lib.hid hcx
              clear hcell hcx
              have hinx := inside18 A5 T c5 m[k].ka m[k].x.key m[k].kc wr (hT6.below hbw) hin.kr hTl
              rw [HTx.out] at hinx
              have hfc : wr.cell? (ad.add (k * 2)) = some (.slice m[k].ka m[k].x.key.length m[k].kc) := Hcx.out 0 _ rfl
              have hfi : (k : Int) < (m.length : Int) := by omega
              have HX := Lib.hid hinx
              clear hinx
              cases hb : Spl.insideB ps m[k].x.key with
              | true =>
                rw [hb] at Hs HX
                have hs' : outV ps (m.take (k + 1)) = d := by rw [Hs.out]; simp
                have Hs' := Lib.hid hs'
                clear hs' Hs hb
                go_wp2_with fail
                refine HX.out.mono ?_
                rintro e' w2 ⟨rfl, hbi⟩
                have hown2 := hown.below hbi
                have hbw2 := hbw.trans (hbi.mono hbw.size)
                clear hown hbw hfc HX Hcx hin
                go_wp2_with fail
                go_roundw
                case rel => exact ⟨k + 1, A', c', by omega, by go_num, by rw [Hs'.out], by rw [Hs'.out]; exact hown2, hbw2⟩
                case measure => simp [intOf]; omega
              | false =>
                rw [hb] at Hs HX
                have hs' : outV ps (m.take (k + 1)) = d ++ [m[k]] := by rw [Hs.out]; simp
                have Hs1 : Hid ((outV ps (m.take (k + 1))).length = d.length + 1) := by show _ = _; rw [hs']; simp
                have Hs2 : Hid (ecs (outV ps (m.take (k + 1))) = ecs d ++ m[k].cells.toList) := by show _ = _; rw [hs', ecs_snoc]
                clear hs' Hs hb
                obtain ⟨d2, hd2⟩ : ∃ d2, d2 = outV ps (m.take (k + 1)) := ⟨_, rfl⟩
                rw [← hd2] at Hs1 Hs2
                have Hd2 := Lib.hid hd2
                clear hd2
                go_wp2_with fail
                refine HX.out.mono ?_
                rintro e' w2 ⟨rfl, hbi⟩
                have hcx2 : ∀ j u, (m[k].cells)[j]? = some u → w2.cell? ((ad.add (k * 2)).add j) = some u := fun j u hj => (hbi.cell (World.block_lt_of_cell? _ _ (Hcx.out j u hj))).trans (Hcx.out j u hj)
                have Hcx2 := Lib.hid hcx2
                have hbx2 := Ext.alloc w2 (.cells m[k].cells 49)
                have hown2 := (hown.below hbi).below hbx2
                have hbwi := hbw.trans (hbi.mono hbw.size)
                have hbw2 := hbwi.trans (hbx2.mono hbwi.size)
                have hrd : Rd (w2.alloc (.cells m[k].cells 49)) 2 (some ⟨w2.heap.size, 0, none⟩) 1 m[k].cells.toList := by
                  have h1 := RdE.one w2 49 m[k] (hin.below hbi)
                  have h2 := h1.rd
                  simpa [ecs] using h2
                have hsz : m[k].cells.size = 2 := rfl
                clear hown hbw hfc HX hin hbx2 hcx2 Hcx hbi
                go_wp2_with (first | (have hcx := Hcx2.out; refine wpList_load_cells (by rfl) 49 (.tmp 67) rfl _ rfl m[k].cells _ hcx Try.underlying49 rfl (einfo _) ?_; clear hcx) | (at_builtin; refine wpList_app (by rfl) (.tmp 64) (.tmp 69) 22 rfl elemE w6.heap.size A' d.length c' (ecs d) rfl _ 1 1 m[k].cells.toList rfl d2.length Hs1.out (ecs d2) Hs2.out hown2 hrd (cells_one _) (by rw [Hs1.out]; omega) (by rw [Hs1.out]; omega) hbw2.size ?_; intro A4 c4 w4 ho4 hg4 hr4))
                go_roundw
                case rel => exact ⟨k + 1, A4, c4, by omega, by go_num, by rw [← Hd2.out], by rw [← Hd2.out]; exact ho4, below_app hbw2 hown2 hg4 hbw2.size⟩
                case measure => simp [intOf]; omega
            · have hkl : k = m.length := by omega
              subst hkl
              rw [List.take_length] at hown ⊢
              have hfi : ¬ (m.length : Int) < (m.length : Int) := by omega
              go_wp2_with fail
              have hx7 := Ext.tr hx6 hbw
              have hva : RdE wr (A1) (outV ps l) := (Hown.out.below hbw).rdE fun e he => (hl0.each e (outV_mem he)).below hx7
              have hvb : RdE wr A' (outV ps m) := hown.rdE fun e he => (hm0.each e (outV_mem he)).below hx7
              have hS := ref_same17 A1 A' (outV ps l) (outV ps m) c1 c' wr hva hvb (by have := outV_len ps l; omega)
              rw [outV_map, outV_map] at hS
              have hsame := Ent.sameL_iff (Spl.outF ps (l.map EnV.x)) (Spl.outF ps (m.map EnV.x))
              clear hva hvb hown Hown hbw HbwA
              cases hb : Ent.sameL (Spl.outF ps (l.map EnV.x)) (Spl.outF ps (m.map EnV.x)) with
              | true =>
                rw [hb] at hS
                have HS := Lib.hid hS
                clear hS hb hsame HP
                go_wp2_with fail
                refine HS.out.mono ?_
                clear HS
                rintro e w8 ⟨rfl, hb8⟩
                go_wp2_with fail
                refine (live18 _).mono ?_
                rintro e wz ⟨rfl, hbz⟩
                go_wp2
                go_ret
                exact ⟨rfl, Ext.tr hx7 (Ext.tr hb8 hbz)⟩
              | false =>
                have hne := HP.out fun h => by rw [hsame.2 h] at hb; cases hb
                rw [hb] at hS
                have HS := Lib.hid hS
                have Hne := Lib.hid hne
                clear hS hb hsame HP hne
                go_wp2_with fail
                refine HS.out.mono ?_
                clear HS
                rintro e w8 ⟨rfl, hb8⟩
                have hx8 := Ext.tr hx7 hb8
                have hM := meets18 A l cap B m cap2 w8 (hl0.below hx8) (hm0.below hx8) hfl hfm h60 g60
                have HM := Lib.hid hM
                clear hM
                go_wp2_with fail
                refine HM.out.mono ?_
                clear HM
                rintro e w9 ⟨b, rfl, hbt, hb9⟩
                obtain rfl := hbt (by
                  obtain ⟨i, k, h1, h2, h3⟩ := Hne.out
                  exact ⟨i, k, h1, by simpa using h2, h3⟩)
                clear hbt Hne
                go_wp2_with fail
                refine (live18 _).mono ?_
                rintro e wz ⟨rfl, hbz⟩
                go_wp2
                go_ret
                exact ⟨rfl, Ext.tr hx8 (Ext.tr hb9 hbz)⟩

end Go.Proofs.Ytiiekdhlcmaabaa
