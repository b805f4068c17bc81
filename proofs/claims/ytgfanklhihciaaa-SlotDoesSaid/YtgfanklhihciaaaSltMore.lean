
/- Plain laws for bodies of cells as bytes (layer 6), second part: packing, the bytes that are told, bytes as bodies. No program in sight. -/

import Derived.Test.YtgfanklhihciaaaSltBytes

namespace Go.Proofs.Ytgfanklhihciaaa

/-! ### packing, cell by cell -/

structure PackI (b : List UInt8) (l : List SCell) (k : Nat) : Prop where
  len : b.length = 243
  n : b[0]? = some (u8 l.length)
  t : b[1]? = some (u8 (243 - sumL (l.take k)))
  pos : ∀ j, j < k → b[2 + 2 * j]? = some (u8 (243 - sumL (l.take (j + 1))))
  sz : ∀ j c, j < k → l[j]? = some c → b[3 + 2 * j]? = some (u8 c.p.length)
  cell : ∀ j c, j < k → l[j]? = some c → ∀ t u, c.p[t]? = some u → b[243 - sumL (l.take (j + 1)) + t]? = some u
theorem PackI.start (l : List SCell) : PackI (((zeros 243).set 1 243).set 0 (u8 l.length)) l 0 := by
  have hz : ((zeros 243).set 1 243).length = 243 := by rw [List.length_set, zeros_len]
  refine ⟨by rw [List.length_set, hz], ?_, ?_, fun j h => absurd h (by omega), fun j c h => absurd h (by omega), fun j c h => absurd h (by omega)⟩
  · rw [set_get _ _ _ (by omega), if_pos rfl]
  · rw [set_get _ _ _ (by omega), if_neg (by omega), set_get _ _ _ (by rw [zeros_len]; omega), if_pos rfl]
    simp [sumL_nil, u8]
theorem layB_len {b : List UInt8} {i t : Nat} {c : List UInt8} (hb : b.length = 243) (h : t + c.length ≤ 243) : (layB b i t c).length = 243 := by
  unfold layB
  simp only [List.length_set]
  rw [ovw_len (by omega), hb]
theorem layB_get {b : List UInt8} {i t : Nat} {c : List UInt8} (hb : b.length = 243) (h : t + c.length ≤ 243) (hi : 3 + 2 * i < 243) (j : Nat) : (layB b i t c)[j]? = if j = 3 + 2 * i then some (u8 c.length) else if j = 2 + 2 * i then some (u8 t) else if j = 1 then some (u8 t) else if j < t then b[j]? else if j < t + c.length then c[j - t]? else b[j]? := by
  unfold layB
  have l2 : (ovw b t c).length = 243 := by rw [ovw_len (by omega), hb]
  rw [set_get _ _ _ (by simp only [List.length_set]; omega), set_get _ _ _ (by simp only [List.length_set]; omega), set_get _ _ _ (by omega), ovw_get _ _ _ (by omega)]
theorem PackI.step {b : List UInt8} {m : SBody} {k : Nat} (h : PackI b m.l k) (hI : m.Inv) (hk : k < m.l.length) : PackI (layB b k (243 - sumL (m.l.take (k + 1))) m.l[k].p) m.l (k + 1) := by
  have hd := hI.dirTop
  have hs := hI.sum
  have hn := hI.n
  unfold SBody.dir at hd
  unfold SBody.sum at hs
  have h1 := sumL_take_succ m.l k hk
  have h2 := sumL_take_le m.l (k + 1)
  have hf : 243 - sumL (m.l.take (k + 1)) + m.l[k].p.length ≤ 243 := by omega
  have hg := fun j => layB_get (i := k) h.len hf (by omega) j
  refine ⟨layB_len h.len hf, ?_, ?_, ?_, ?_, ?_⟩
  · rw [hg, if_neg (by omega), if_neg (by omega), if_neg (by omega), if_pos (by omega)]
    exact h.n
  · rw [hg, if_neg (by omega), if_neg (by omega), if_pos rfl]
  · intro j hj
    rw [hg, if_neg (by omega)]
    by_cases e : j = k
    · subst e; rw [if_pos rfl]
    · rw [if_neg (by omega), if_neg (by omega), if_pos (by omega)]
      exact h.pos j (by omega)
  · intro j c hj hc
    rw [hg]
    by_cases e : j = k
    · subst e
      rw [List.getElem?_eq_getElem hk] at hc
      injection hc with hc
      rw [if_pos rfl, hc]
    · rw [if_neg (by omega), if_neg (by omega), if_neg (by omega), if_pos (by omega)]
      exact h.sz j c (by omega) hc
  · intro j c hj hc t u ht
    have htl : t < c.p.length := (List.getElem?_eq_some_iff.1 ht).1
    have hjl : j < m.l.length := by omega
    have hce : m.l[j] = c := by rw [List.getElem?_eq_getElem hjl] at hc; injection hc
    have h3 := sumL_take_succ m.l j hjl
    have h4 := sumL_take_mono m.l (show j + 1 ≤ k + 1 by omega)
    rw [hce] at h3
    rw [hg, if_neg (by omega), if_neg (by omega), if_neg (by omega)]
    by_cases e : j = k
    · subst e
      rw [if_neg (by omega), if_pos (by rw [hce]; omega), hce, show 243 - sumL (m.l.take (j + 1)) + t - (243 - sumL (m.l.take (j + 1))) = t by omega]
      exact ht
    · have h5 := sumL_take_mono m.l (show j + 1 ≤ k by omega)
      rw [if_neg (by omega), if_neg (by omega)]
      exact h.cell j c (by omega) hc t u ht
theorem PackI.done {b : List UInt8} {m : SBody} (h : PackI b m.l m.l.length) : Rel b m.pack := by
  have hp : ∀ j c, m.pack.l[j]? = some c → ∃ hj : j < m.l.length, c = ⟨243 - sumL (m.l.take (j + 1)), m.l[j].p⟩ := fun j c hc => by
    obtain ⟨hj, hc⟩ := List.getElem?_eq_some_iff.1 hc
    have hj' : j < m.l.length := by rw [← m.pack_len]; exact hj
    exact ⟨hj', by rw [← hc]; exact packL_get m.l j hj'⟩
  refine ⟨h.len, by rw [m.pack_len]; exact h.n, ?_, ?_, ?_, ?_⟩
  · have := h.t
    rw [List.take_length] at this
    exact this
  · intro i c hc
    obtain ⟨hj, rfl⟩ := hp i c hc
    exact h.pos i hj
  · intro i c hc
    obtain ⟨hj, rfl⟩ := hp i c hc
    exact h.sz i m.l[i] hj (List.getElem?_eq_getElem hj)
  · intro c hc k u hk
    obtain ⟨j, hj, rfl⟩ := List.getElem_of_mem hc
    obtain ⟨hj', e⟩ := hp j _ (List.getElem?_eq_getElem hj)
    rw [e] at hk ⊢
    exact h.cell j m.l[j] hj' (List.getElem?_eq_getElem hj') k u hk
/-! ### the bytes that are told -/

/-- Cells of no bytes lie at the top. -/
def SCell.fix (t : Nat) (c : SCell) : SCell := if c.p = [] then ⟨t, []⟩ else c
def SBody.fixed (m : SBody) : SBody := ⟨m.top, m.l.map (SCell.fix m.top)⟩
theorem SCell.fix_p (t : Nat) (c : SCell) : (c.fix t).p = c.p := by
  unfold SCell.fix
  split
  · rename_i h; exact h.symm
  · rfl
theorem SBody.fixed_len (m : SBody) : m.fixed.l.length = m.l.length := by simp [SBody.fixed]
theorem SBody.fixed_p (m : SBody) : m.fixed.l.map SCell.p = m.l.map SCell.p := by simp [SBody.fixed, SCell.fix_p, Function.comp_def]
theorem SBody.fixed_sum (m : SBody) : m.fixed.sum = m.sum := sumL_p m.fixed_p
theorem SBody.fixed_free (m : SBody) : m.fixed.free = m.free := by unfold SBody.free SBody.dir; rw [m.fixed_sum, m.fixed_len]
theorem SBody.fixed_fixed (m : SBody) : m.fixed.fixed = m.fixed := by
  unfold SBody.fixed
  simp only [List.map_map, SBody.mk.injEq, true_and]
  refine List.map_congr_left fun c _ => ?_
  simp only [Function.comp_apply, SCell.fix]
  by_cases h : c.p = []
  · simp [h]
  · simp [h]
theorem SBody.fixed_low (m : SBody) (h : m.Inv) : ∀ c ∈ m.fixed.l, m.top ≤ c.pos := by
  intro c hc
  obtain ⟨d, hd, rfl⟩ := List.mem_map.1 hc
  unfold SCell.fix
  split
  · exact Nat.le_refl _
  · rename_i hp; exact h.low d hd hp
theorem SBody.fixed_inv {m : SBody} (h : m.Inv) : m.fixed.Inv := by
  have ht := h.top
  refine ⟨?_, h.top, ?_, ?_, fun c hc _ => m.fixed_low h c hc, ?_⟩
  · have := h.dirTop
    unfold SBody.dir at *
    rw [m.fixed_len]; exact this
  · intro c hc
    obtain ⟨d, hd, rfl⟩ := List.mem_map.1 hc
    rw [SCell.fix_p]; exact h.len d hd
  · intro c hc
    obtain ⟨d, hd, rfl⟩ := List.mem_map.1 hc
    have := h.fit d hd
    unfold SCell.fix
    split
    · show m.top + 0 ≤ 243; omega
    · exact this
  · show (m.l.map (SCell.fix m.top)).Pairwise Apart
    rw [List.pairwise_map]
    refine h.apart.imp fun {x y} hxy j a b c d => ?_
    by_cases hp : x.p = []
    · rw [show SCell.fix m.top x = ⟨m.top, []⟩ from if_pos hp] at a b
      simp only [List.length_nil, Nat.add_zero] at a b
      omega
    · rw [show SCell.fix m.top x = x from if_neg hp] at a b
      by_cases hq : y.p = []
      · rw [show SCell.fix m.top y = ⟨m.top, []⟩ from if_pos hq] at c d
        simp only [List.length_nil, Nat.add_zero] at c d
        omega
      · rw [show SCell.fix m.top y = y from if_neg hq] at c d
        exact hxy j a b c d
/-- Byte j lies in a cell. -/
def SBody.has (m : SBody) (j : Nat) : Prop := ∃ c ∈ m.l, c.pos ≤ j ∧ j < c.pos + c.p.length
structure IsBytes (b : List UInt8) (m : SBody) : Prop where
  rel : Rel b m.fixed
  zero : ∀ j, 2 + 2 * m.l.length ≤ j → j < 243 → ¬ m.has j → b[j]? = some 0
theorem SBody.fixed_has (m : SBody) (j : Nat) : m.fixed.has j ↔ m.has j := by
  constructor
  · rintro ⟨c, hc, h1, h2⟩
    obtain ⟨d, hd, rfl⟩ := List.mem_map.1 hc
    by_cases hp : d.p = []
    · rw [show SCell.fix m.top d = ⟨m.top, []⟩ from if_pos hp] at h1 h2
      simp only [List.length_nil, Nat.add_zero] at h1 h2
      omega
    · rw [show SCell.fix m.top d = d from if_neg hp] at h1 h2
      exact ⟨d, hd, h1, h2⟩
  · rintro ⟨d, hd, h1, h2⟩
    have hp : d.p ≠ [] := by intro e; rw [e] at h2; simp at h2; omega
    exact ⟨d, List.mem_map.2 ⟨d, hd, by unfold SCell.fix; rw [if_neg hp]⟩, h1, h2⟩
theorem IsBytes.uniq {b b' : List UInt8} {m : SBody} (h : IsBytes b m) (h' : IsBytes b' m) : b = b' := by
  refine List.ext_getElem? fun j => ?_
  rcases Nat.lt_or_ge j 243 with hj | hj
  · rcases Nat.lt_or_ge j (2 + 2 * m.l.length) with h2 | h2
    · by_cases h0 : j = 0
      · subst h0; rw [h.rel.n, h'.rel.n]
      by_cases h1 : j = 1
      · subst h1; rw [h.rel.t, h'.rel.t]
      have hi : (j - 2) / 2 < m.fixed.l.length := by rw [m.fixed_len]; omega
      rcases (show j = 2 + 2 * ((j - 2) / 2) ∨ j = 3 + 2 * ((j - 2) / 2) by omega) with e | e
      · rw [e, h.rel.pos _ _ (List.getElem?_eq_getElem hi), h'.rel.pos _ _ (List.getElem?_eq_getElem hi)]
      · rw [e, h.rel.sz _ _ (List.getElem?_eq_getElem hi), h'.rel.sz _ _ (List.getElem?_eq_getElem hi)]
    · by_cases hh : m.has j
      · obtain ⟨c, hc, h3, h4⟩ := (m.fixed_has j).2 hh
        have hk : j - c.pos < c.p.length := by omega
        have e1 := h.rel.cell c hc (j - c.pos) _ (List.getElem?_eq_getElem hk)
        have e2 := h'.rel.cell c hc (j - c.pos) _ (List.getElem?_eq_getElem hk)
        rw [show c.pos + (j - c.pos) = j by omega] at e1 e2
        rw [e1, e2]
      · rw [h.zero j h2 hj hh, h'.zero j h2 hj hh]
  · rw [List.getElem?_eq_none (by rw [h.rel.len]; exact hj), List.getElem?_eq_none (by rw [h'.rel.len]; exact hj)]
/-! ### bytes as a body -/

def slN (b : List UInt8) : Nat := (b.getD 0 0).toNat
def slT (b : List UInt8) : Nat := (b.getD 1 0).toNat
def slAt (b : List UInt8) (i : Nat) : Nat := (b.getD (2 + 2 * i) 0).toNat
def slSz (b : List UInt8) (i : Nat) : Nat := (b.getD (3 + 2 * i) 0).toNat
def slCell (b : List UInt8) (i : Nat) : SCell := ⟨slAt b i, (b.drop (slAt b i)).take (slSz b i)⟩
def slOf (b : List UInt8) : SBody := ⟨slT b, (List.range (slN b)).map (slCell b)⟩
/-- Cell i is one, and does not lie over one ahead of it. -/
structure SlOk (b : List UInt8) (i : Nat) : Prop where
  low : slT b ≤ slAt b i
  fit : slAt b i + slSz b i ≤ 243
  len : slSz b i ≤ 78
  apart : ∀ j, j < i → ∀ k, slAt b j ≤ k → k < slAt b j + slSz b j → slAt b i ≤ k → k < slAt b i + slSz b i → False
structure Valid (b : List UInt8) : Prop where
  len : b.length = 243
  dir : 2 + 2 * slN b ≤ slT b
  top : slT b ≤ 243
  ok : ∀ i, i < slN b → SlOk b i
theorem slCell_len {b : List UInt8} (hb : b.length = 243) {i : Nat} (h : slAt b i + slSz b i ≤ 243) : (slCell b i).p.length = slSz b i := by
  show ((b.drop (slAt b i)).take (slSz b i)).length = _
  rw [List.length_take, List.length_drop]; omega
theorem Valid.inv {b : List UInt8} (h : Valid b) : (slOf b).Inv := by
  have hm : ∀ c ∈ (slOf b).l, ∃ i, i < slN b ∧ c = slCell b i := fun c hc => by
    obtain ⟨i, hi, rfl⟩ := List.mem_map.1 hc
    exact ⟨i, List.mem_range.1 hi, rfl⟩
  refine ⟨?_, h.top, ?_, ?_, ?_, ?_⟩
  · unfold SBody.dir
    have : (slOf b).l.length = slN b := by simp [slOf]
    rw [this]; exact h.dir
  · intro c hc
    obtain ⟨i, hi, rfl⟩ := hm c hc
    rw [slCell_len h.len (h.ok i hi).fit]; exact (h.ok i hi).len
  · intro c hc
    obtain ⟨i, hi, rfl⟩ := hm c hc
    rw [slCell_len h.len (h.ok i hi).fit]; exact (h.ok i hi).fit
  · intro c hc _
    obtain ⟨i, hi, rfl⟩ := hm c hc
    exact (h.ok i hi).low
  · rw [List.pairwise_iff_getElem]
    intro i j hi hj hij k a c d e
    have hi' : i < slN b := by simpa [slOf] using hi
    have hj' : j < slN b := by simpa [slOf] using hj
    have e1 : (slOf b).l[i] = slCell b i := by simp [slOf]
    have e2 : (slOf b).l[j] = slCell b j := by simp [slOf]
    rw [e1] at a c
    rw [e2] at d e
    rw [slCell_len h.len (h.ok i hi').fit] at c
    rw [slCell_len h.len (h.ok j hj').fit] at e
    exact (h.ok j hj').apart i hij k a c d e
theorem getD_some {b : List UInt8} {j : Nat} (h : j < b.length) : b[j]? = some (b.getD j 0) := by
  rw [List.getElem?_eq_getElem h, List.getD_eq_getElem?_getD, List.getElem?_eq_getElem h]; rfl
theorem u8_toNat (u : UInt8) : u8 u.toNat = u := by unfold u8; simp
theorem Valid.rel {b : List UInt8} (h : Valid b) : Rel b (slOf b) := by
  have hd := h.dir
  have ht := h.top
  have hn : (slOf b).l.length = slN b := by simp [slOf]
  have hb := h.len
  have hc : ∀ i c, (slOf b).l[i]? = some c → i < slN b ∧ c = slCell b i := fun i c hc => by
    obtain ⟨hi, hc⟩ := List.getElem?_eq_some_iff.1 hc
    exact ⟨by rw [← hn]; exact hi, by rw [← hc]; simp [slOf]⟩
  refine ⟨hb, ?_, ?_, ?_, ?_, ?_⟩
  · rw [hn, getD_some (by omega)]; unfold slN; rw [u8_toNat]
  · rw [getD_some (by omega)]; show _ = some (u8 (slT b)); unfold slT; rw [u8_toNat]
  · intro i c h1
    obtain ⟨hi, rfl⟩ := hc i c h1
    rw [getD_some (by omega)]; show _ = some (u8 (slAt b i)); unfold slAt; rw [u8_toNat]
  · intro i c h1
    obtain ⟨hi, rfl⟩ := hc i c h1
    rw [slCell_len hb (h.ok i hi).fit, getD_some (by omega)]; unfold slSz; rw [u8_toNat]
  · intro c h1 k u hk
    obtain ⟨i, hi, rfl⟩ := List.getElem_of_mem h1
    obtain ⟨hi', e⟩ := hc i _ (List.getElem?_eq_getElem hi)
    rw [e] at hk ⊢
    have hk' : ((b.drop (slAt b i)).take (slSz b i))[k]? = some u := hk
    rw [List.getElem?_take] at hk'
    split at hk'
    · rw [List.getElem?_drop] at hk'; exact hk'
    · cases hk'
/-- Bytes that hold a body, all of whose cells lie from the top on, are that one. -/
theorem Rel.valid {b : List UInt8} {m : SBody} (h : Rel b m) (hI : m.Inv) (hlow : ∀ c ∈ m.l, m.top ≤ c.pos) : Valid b ∧ slOf b = m := by
  have hn := hI.n
  have ht := hI.top
  have hd := hI.dirTop
  unfold SBody.dir at hd
  have gd : ∀ {j : Nat} {u : UInt8}, b[j]? = some u → b.getD j 0 = u := fun {j u} e => by rw [List.getD_eq_getElem?_getD, e]; rfl
  have en : slN b = m.l.length := by unfold slN; rw [gd h.n, u8_nat (by omega)]
  have et : slT b = m.top := by unfold slT; rw [gd h.t, u8_nat (by omega)]
  have ea : ∀ i (hi : i < m.l.length), slAt b i = m.l[i].pos := fun i hi => by
    have := hI.fit m.l[i] (List.getElem_mem hi)
    unfold slAt; rw [gd (h.pos i _ (List.getElem?_eq_getElem hi)), u8_nat (by omega)]
  have es : ∀ i (hi : i < m.l.length), slSz b i = m.l[i].p.length := fun i hi => by
    have := hI.fit m.l[i] (List.getElem_mem hi)
    unfold slSz; rw [gd (h.sz i _ (List.getElem?_eq_getElem hi)), u8_nat (by omega)]
  refine ⟨⟨h.len, by omega, by omega, fun i hi => ?_⟩, ?_⟩
  · rw [en] at hi
    have hm := List.getElem_mem hi
    refine ⟨by rw [et, ea i hi]; exact hlow _ hm, by rw [ea i hi, es i hi]; exact hI.fit _ hm, by rw [es i hi]; exact hI.len _ hm, fun j hj k a c d e => ?_⟩
    have hj' : j < m.l.length := by omega
    rw [ea j hj'] at a c
    rw [es j hj'] at c
    rw [ea i hi] at d e
    rw [es i hi] at e
    exact (List.pairwise_iff_getElem.1 hI.apart) j i hj' hi hj k a c d e
  · have : (slOf b).l = m.l := by
      refine List.ext_getElem (by simp [slOf, en]) fun i h1 h2 => ?_
      simp only [slOf, List.getElem_map, List.getElem_range]
      have hc := h.cut (List.getElem_mem h2)
      unfold slCell
      rw [ea i h2, es i h2, hc]
    cases m with
    | mk t l =>
      show SBody.mk (slT b) (slOf b).l = _
      rw [et, this]
theorem IsBytes.valid {b : List UInt8} {m : SBody} (h : IsBytes b m) (hI : m.Inv) : Valid b ∧ slOf b = m.fixed := h.rel.valid (SBody.fixed_inv hI) (m.fixed_low hI)
theorem IsBytes.fixed {b : List UInt8} {m : SBody} (h : IsBytes b m) : IsBytes b m.fixed := ⟨by rw [m.fixed_fixed]; exact h.rel, fun j h1 h2 h3 => h.zero j (by rw [m.fixed_len] at h1; exact h1) h2 (fun e => h3 ((m.fixed_has j).2 e))⟩
end Go.Proofs.Ytgfanklhihciaaa
