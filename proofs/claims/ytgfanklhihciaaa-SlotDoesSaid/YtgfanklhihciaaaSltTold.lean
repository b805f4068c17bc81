
/- Plain laws for bodies of cells as bytes (layer 6), third part: the bytes that are told, laid cell by cell (by the program; by the document). No program in sight. -/

import Derived.Test.YtgfanklhihciaaaSltMore

namespace Go.Proofs.Ytgfanklhihciaaa

/-! ### as the program lays them -/

structure PB (b : List UInt8) (m : SBody) (k : Nat) (out : List UInt8) : Prop where
  len : out.length = 243
  n : out[0]? = some (u8 m.l.length)
  t : out[1]? = some (u8 m.top)
  pos : ∀ i c, m.l[i]? = some c → out[2 + 2 * i]? = some (u8 (if i < k ∧ c.p = [] then m.top else c.pos))
  sz : ∀ i c, m.l[i]? = some c → out[3 + 2 * i]? = some (u8 c.p.length)
  cell : ∀ i c, i < k → m.l[i]? = some c → ∀ t u, c.p[t]? = some u → out[c.pos + t]? = some u
  zero : ∀ j, 2 + 2 * m.l.length ≤ j → j < 243 → (∀ i c, i < k → m.l[i]? = some c → ¬ (c.pos ≤ j ∧ j < c.pos + c.p.length)) → out[j]? = some 0
theorem PB.start {b : List UInt8} {m : SBody} (h : Rel b m) (hI : m.Inv) : PB b m 0 (ovw (zeros 243) 0 (b.take (2 + 2 * m.l.length))) := by
  have hn := hI.n
  have hl : (b.take (2 + 2 * m.l.length)).length = 2 + 2 * m.l.length := by rw [List.length_take, h.len]; omega
  have hz := zeros_len 243
  have hg : ∀ j, (ovw (zeros 243) 0 (b.take (2 + 2 * m.l.length)))[j]? = if j < 2 + 2 * m.l.length then b[j]? else (zeros 243)[j]? := fun j => by
    rw [ovw_get _ _ _ (by rw [hl, hz]; omega), hl, if_neg (by omega), Nat.zero_add]
    split
    · rename_i hj; rw [Nat.sub_zero, List.getElem?_take_of_lt hj]
    · rfl
  refine ⟨by rw [ovw_len (by rw [hl, hz]; omega), hz], ?_, ?_, fun i c hc => ?_, fun i c hc => ?_, fun i c hi => absurd hi (by omega), fun j h1 h2 _ => ?_⟩
  · rw [hg, if_pos (by omega)]; exact h.n
  · rw [hg, if_pos (by omega)]; exact h.t
  · have hi := (List.getElem?_eq_some_iff.1 hc).1
    rw [hg, if_pos (by omega), h.pos i c hc]
    simp
  · have hi := (List.getElem?_eq_some_iff.1 hc).1
    rw [hg, if_pos (by omega), h.sz i c hc]
  · rw [hg, if_neg (by omega), zeros_get _ _ h2]
theorem PB.step {b out : List UInt8} {m : SBody} {k : Nat} (h : PB b m k out) (hI : m.Inv) (hk : k < m.l.length) :
    PB b m (k + 1) (ovw (if m.l[k].p = [] then out.set (2 + 2 * k) (u8 m.top) else out) m.l[k].pos m.l[k].p) := by
  have hn := hI.n
  have hd := hI.dirTop
  unfold SBody.dir at hd
  have hmem := List.getElem_mem hk
  have hgk : m.l[k]? = some m.l[k] := List.getElem?_eq_getElem hk
  by_cases hp : m.l[k].p = []
  · rw [if_pos hp, hp, ovw_nil]
    have hg : ∀ j, (out.set (2 + 2 * k) (u8 m.top))[j]? = if j = 2 + 2 * k then some (u8 m.top) else out[j]? := fun j => set_get _ _ _ (by rw [h.len]; omega) j
    refine ⟨by rw [List.length_set, h.len], by rw [hg, if_neg (by omega)]; exact h.n, by rw [hg, if_neg (by omega)]; exact h.t, fun i c hc => ?_, fun i c hc => ?_, fun i c hi hc t u ht => ?_, fun j h1 h2 h3 => ?_⟩
    · rw [hg]
      by_cases e : i = k
      · subst e
        rw [hgk] at hc
        injection hc with hc
        rw [if_pos rfl, if_pos ⟨by omega, by rw [← hc]; exact hp⟩]
      · rw [if_neg (by omega), h.pos i c hc]
        by_cases h5 : i < k
        · simp [h5, show i < k + 1 by omega]
        · simp [h5, show ¬ i < k + 1 by omega]
    · rw [hg, if_neg (by omega)]; exact h.sz i c hc
    · have hik : i < k := by
        rcases Nat.lt_or_ge i k with h' | h'
        · exact h'
        · obtain rfl : i = k := by omega
          rw [hgk] at hc
          injection hc with hc
          rw [← hc, hp] at ht
          cases ht
      have hlow := hI.low c (List.mem_of_getElem? hc) (by intro e; rw [e] at ht; cases ht)
      rw [hg, if_neg (by omega)]
      exact h.cell i c hik hc t u ht
    · rw [hg, if_neg (by omega)]
      exact h.zero j h1 h2 fun i c hi hc => h3 i c (by omega) hc
  · rw [if_neg hp]
    have hlow := hI.low _ hmem hp
    have hfit := hI.fit _ hmem
    have hg : ∀ j, (ovw out m.l[k].pos m.l[k].p)[j]? = if j < m.l[k].pos then out[j]? else if j < m.l[k].pos + m.l[k].p.length then m.l[k].p[j - m.l[k].pos]? else out[j]? := fun j => ovw_get _ _ _ (by rw [h.len]; exact hfit) j
    refine ⟨by rw [ovw_len (by rw [h.len]; exact hfit), h.len], by rw [hg, if_pos (by omega)]; exact h.n, by rw [hg, if_pos (by omega)]; exact h.t, fun i c hc => ?_, fun i c hc => ?_, fun i c hi hc t u ht => ?_, fun j h1 h2 h3 => ?_⟩
    · have hi := (List.getElem?_eq_some_iff.1 hc).1
      rw [hg, if_pos (by omega), h.pos i c hc]
      by_cases e : i = k
      · subst e
        rw [hgk] at hc
        injection hc with hc
        subst hc
        simp [hp]
      · by_cases h5 : i < k
        · simp [h5, show i < k + 1 by omega]
        · simp [h5, show ¬ i < k + 1 by omega]
    · have hi := (List.getElem?_eq_some_iff.1 hc).1
      rw [hg, if_pos (by omega)]; exact h.sz i c hc
    · have htl : t < c.p.length := (List.getElem?_eq_some_iff.1 ht).1
      rw [hg]
      by_cases e : i = k
      · subst e
        rw [hgk] at hc
        injection hc with hc
        subst hc
        rw [if_neg (by omega), if_pos (by omega), show m.l[i].pos + t - m.l[i].pos = t by omega]
        exact ht
      · have hil := (List.getElem?_eq_some_iff.1 hc).1
        have hce : m.l[i] = c := (List.getElem?_eq_some_iff.1 hc).2
        have hap := (List.pairwise_iff_getElem.1 hI.apart) i k hil hk (by omega)
        rw [hce] at hap
        have h4 := hap (c.pos + t) (by omega) (by omega)
        by_cases h5 : c.pos + t < m.l[k].pos
        · rw [if_pos h5]; exact h.cell i c (by omega) hc t u ht
        · by_cases h6 : c.pos + t < m.l[k].pos + m.l[k].p.length
          · exact absurd (h4 (by omega) h6) id
          · rw [if_neg h5, if_neg h6]; exact h.cell i c (by omega) hc t u ht
    · have h4 := h3 k _ (by omega) hgk
      have h5 := h.zero j h1 h2 fun i c hi hc => h3 i c (by omega) hc
      rw [hg]
      by_cases h6 : j < m.l[k].pos
      · rw [if_pos h6]; exact h5
      · rw [if_neg h6, if_neg (by omega)]; exact h5
theorem fixed_get {m : SBody} {i : Nat} {c : SCell} (h : m.fixed.l[i]? = some c) : ∃ d, m.l[i]? = some d ∧ c = d.fix m.top := by
  have h1 : (m.l.map (SCell.fix m.top))[i]? = some c := h
  rw [List.getElem?_map] at h1
  cases hd : m.l[i]? with
  | none => rw [hd] at h1; cases h1
  | some d => rw [hd] at h1; injection h1 with h1; exact ⟨d, rfl, h1.symm⟩
theorem PB.done {b out : List UInt8} {m : SBody} (h : PB b m m.l.length out) : IsBytes out m := by
  refine ⟨⟨h.len, by rw [m.fixed_len]; exact h.n, h.t, fun i c hc => ?_, fun i c hc => ?_, fun c hc t u ht => ?_⟩, fun j h1 h2 h3 => h.zero j h1 h2 fun i c _ hc h4 => h3 ⟨c, List.mem_of_getElem? hc, h4.1, h4.2⟩⟩
  · obtain ⟨d, hd, rfl⟩ := fixed_get hc
    have hi := (List.getElem?_eq_some_iff.1 hd).1
    rw [h.pos i d hd]
    by_cases hp : d.p = []
    · rw [if_pos ⟨hi, hp⟩, show SCell.fix m.top d = ⟨m.top, []⟩ from if_pos hp]
    · rw [if_neg (fun e => hp e.2), show SCell.fix m.top d = d from if_neg hp]
  · obtain ⟨d, hd, rfl⟩ := fixed_get hc
    rw [SCell.fix_p]; exact h.sz i d hd
  · obtain ⟨i, hi, rfl⟩ := List.getElem_of_mem hc
    obtain ⟨d, hd, e⟩ := fixed_get (List.getElem?_eq_getElem hi)
    rw [e] at ht ⊢
    have hp : d.p ≠ [] := by intro e2; rw [SCell.fix_p, e2] at ht; cases ht
    rw [show SCell.fix m.top d = d from if_neg hp] at ht ⊢
    exact h.cell i d (List.getElem?_eq_some_iff.1 hd).1 hd t u ht
/-! ### as the document lays them -/

structure RB (m : SBody) (k : Nat) (out : List UInt8) : Prop where
  len : out.length = 243
  n : out[0]? = some (u8 m.l.length)
  t : out[1]? = some (u8 m.top)
  pos : ∀ i c, i < k → m.l[i]? = some c → out[2 + 2 * i]? = some (u8 (c.fix m.top).pos)
  sz : ∀ i c, i < k → m.l[i]? = some c → out[3 + 2 * i]? = some (u8 c.p.length)
  cell : ∀ i c, i < k → m.l[i]? = some c → ∀ t u, c.p[t]? = some u → out[c.pos + t]? = some u
  zero : ∀ j, 2 + 2 * m.l.length ≤ j → j < 243 → (∀ i c, i < k → m.l[i]? = some c → ¬ (c.pos ≤ j ∧ j < c.pos + c.p.length)) → out[j]? = some 0
theorem RB.start (m : SBody) : RB m 0 (((zeros 243).set 0 (u8 m.l.length)).set 1 (u8 m.top)) := by
  have hz := zeros_len 243
  have hg : ∀ j, (((zeros 243).set 0 (u8 m.l.length)).set 1 (u8 m.top))[j]? = if j = 1 then some (u8 m.top) else if j = 0 then some (u8 m.l.length) else (zeros 243)[j]? := fun j => by
    rw [set_get _ _ _ (by rw [List.length_set]; omega), set_get _ _ _ (by omega)]
  refine ⟨by rw [List.length_set, List.length_set, hz], by rw [hg, if_neg (by omega), if_pos rfl], by rw [hg, if_pos rfl], fun i c hi => absurd hi (by omega), fun i c hi => absurd hi (by omega), fun i c hi => absurd hi (by omega), fun j h1 h2 _ => ?_⟩
  rw [hg, if_neg (by omega), if_neg (by omega), zeros_get _ _ h2]
/-- The entries of cell k are laid. -/
def rbE (m : SBody) (k : Nat) (h : k < m.l.length) (out : List UInt8) : List UInt8 := (out.set (2 + 2 * k) (u8 (m.l[k].fix m.top).pos)).set (3 + 2 * k) (u8 m.l[k].p.length)
theorem RB.step {out : List UInt8} {m : SBody} {k : Nat} (h : RB m k out) (hI : m.Inv) (hk : k < m.l.length) : RB m (k + 1) (ovw (rbE m k hk out) m.l[k].pos m.l[k].p) := by
  have hn := hI.n
  have hd := hI.dirTop
  unfold SBody.dir at hd
  have hmem := List.getElem_mem hk
  have hgk : m.l[k]? = some m.l[k] := List.getElem?_eq_getElem hk
  have hfit := hI.fit _ hmem
  have hel : (rbE m k hk out).length = 243 := by unfold rbE; rw [List.length_set, List.length_set, h.len]
  have he : ∀ j, (rbE m k hk out)[j]? = if j = 3 + 2 * k then some (u8 m.l[k].p.length) else if j = 2 + 2 * k then some (u8 (m.l[k].fix m.top).pos) else out[j]? := fun j => by
    unfold rbE
    rw [set_get _ _ _ (by rw [List.length_set, h.len]; omega), set_get _ _ _ (by rw [h.len]; omega)]
  have hlow : 0 < m.l[k].p.length → m.top ≤ m.l[k].pos := fun h0 => hI.low _ hmem (List.length_pos_iff.1 h0)
  have hg : ∀ j, (ovw (rbE m k hk out) m.l[k].pos m.l[k].p)[j]? = if m.l[k].pos ≤ j ∧ j < m.l[k].pos + m.l[k].p.length then m.l[k].p[j - m.l[k].pos]? else (rbE m k hk out)[j]? := fun j => by
    rw [ovw_get _ _ _ (by rw [hel]; exact hfit)]
    by_cases h1 : j < m.l[k].pos
    · rw [if_pos h1, if_neg (by omega)]
    · by_cases h2 : j < m.l[k].pos + m.l[k].p.length
      · rw [if_neg h1, if_pos h2, if_pos (by omega)]
      · rw [if_neg h1, if_neg h2, if_neg (by omega)]
  refine ⟨by rw [ovw_len (by rw [hel]; exact hfit), hel], ?_, ?_, fun i c hi hc => ?_, fun i c hi hc => ?_, fun i c hi hc t u ht => ?_, fun j h1 h2 h3 => ?_⟩
  · rw [hg, if_neg (by omega), he, if_neg (by omega), if_neg (by omega)]; exact h.n
  · rw [hg, if_neg (by omega), he, if_neg (by omega), if_neg (by omega)]; exact h.t
  · rw [hg, if_neg (by omega), he, if_neg (by omega)]
    by_cases e : i = k
    · subst e
      rw [hgk] at hc
      injection hc with hc
      rw [if_pos rfl, hc]
    · rw [if_neg (by omega)]; exact h.pos i c (by omega) hc
  · rw [hg, if_neg (by omega), he]
    by_cases e : i = k
    · subst e
      rw [hgk] at hc
      injection hc with hc
      rw [if_pos rfl, hc]
    · rw [if_neg (by omega), if_neg (by omega)]; exact h.sz i c (by omega) hc
  · have htl : t < c.p.length := (List.getElem?_eq_some_iff.1 ht).1
    have hlc := hI.low c (List.mem_of_getElem? hc) (by intro e; rw [e] at ht; cases ht)
    rw [hg]
    by_cases e : i = k
    · subst e
      rw [hgk] at hc
      injection hc with hc
      subst hc
      rw [if_pos (by omega), show m.l[i].pos + t - m.l[i].pos = t by omega]
      exact ht
    · have hil := (List.getElem?_eq_some_iff.1 hc).1
      have hce : m.l[i] = c := (List.getElem?_eq_some_iff.1 hc).2
      have hap := (List.pairwise_iff_getElem.1 hI.apart) i k hil hk (by omega)
      rw [hce] at hap
      have h4 := hap (c.pos + t) (by omega) (by omega)
      rw [if_neg (fun h5 => h4 h5.1 h5.2), he, if_neg (by omega), if_neg (by omega)]
      exact h.cell i c (by omega) hc t u ht
  · have h4 := h3 k _ (by omega) hgk
    rw [hg, if_neg h4, he, if_neg (by omega), if_neg (by omega)]
    exact h.zero j h1 h2 fun i c hi hc => h3 i c (by omega) hc
theorem RB.done {out : List UInt8} {m : SBody} (h : RB m m.l.length out) : IsBytes out m := by
  refine ⟨⟨h.len, by rw [m.fixed_len]; exact h.n, h.t, fun i c hc => ?_, fun i c hc => ?_, fun c hc t u ht => ?_⟩, fun j h1 h2 h3 => h.zero j h1 h2 fun i c _ hc h4 => h3 ⟨c, List.mem_of_getElem? hc, h4.1, h4.2⟩⟩
  · obtain ⟨d, hd, rfl⟩ := fixed_get hc
    exact h.pos i d (List.getElem?_eq_some_iff.1 hd).1 hd
  · obtain ⟨d, hd, rfl⟩ := fixed_get hc
    rw [SCell.fix_p]; exact h.sz i d (List.getElem?_eq_some_iff.1 hd).1 hd
  · obtain ⟨i, hi, rfl⟩ := List.getElem_of_mem hc
    obtain ⟨d, hd, e⟩ := fixed_get (List.getElem?_eq_getElem hi)
    rw [e] at ht ⊢
    have hp : d.p ≠ [] := by intro e2; rw [SCell.fix_p, e2] at ht; cases ht
    rw [show SCell.fix m.top d = d from if_neg hp] at ht ⊢
    exact h.cell i d (List.getElem?_eq_some_iff.1 hd).1 hd t u ht
end Go.Proofs.Ytgfanklhihciaaa
