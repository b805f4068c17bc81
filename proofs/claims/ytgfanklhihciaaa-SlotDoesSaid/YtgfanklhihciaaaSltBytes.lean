
/- Plain laws for bodies of cells as bytes (layer 6): no program in sight. -/

import Derived.Test.YtgfanklhihciaaaSltPlain

namespace Go.Proofs.Ytgfanklhihciaaa

/-- A list with other bytes from a place on. -/
def ovw (l : List UInt8) (k : Nat) (p : List UInt8) : List UInt8 := l.take k ++ (p ++ l.drop (k + p.length))
theorem ovw_len {l : List UInt8} {k : Nat} {p : List UInt8} (h : k + p.length ≤ l.length) : (ovw l k p).length = l.length := by
  simp [ovw]; omega
theorem ovw_get (l : List UInt8) (k : Nat) (p : List UInt8) (h : k + p.length ≤ l.length) (j : Nat) : (ovw l k p)[j]? = if j < k then l[j]? else if j < k + p.length then p[j - k]? else l[j]? := by
  unfold ovw
  rw [List.getElem?_append, List.length_take, Nat.min_eq_left (by omega)]
  split
  · rw [List.getElem?_take_of_lt (by assumption)]
  · rw [List.getElem?_append]
    split
    · rw [if_pos (by omega)]
    · rw [if_neg (by omega), List.getElem?_drop]
      congr 1; omega
theorem ovw_nil (l : List UInt8) (k : Nat) : ovw l k [] = l := by simp [ovw]
def u8 (n : Nat) : UInt8 := UInt8.ofNat n
theorem u8_nat {n : Nat} (h : n < 256) : (u8 n).toNat = n := by
  unfold u8; simp; omega
/-- Bytes that hold a body of cells. -/
structure Rel (b : List UInt8) (m : SBody) : Prop where
  len : b.length = 243
  n : b[0]? = some (u8 m.l.length)
  t : b[1]? = some (u8 m.top)
  pos : ∀ i c, m.l[i]? = some c → b[2 + 2 * i]? = some (u8 c.pos)
  sz : ∀ i c, m.l[i]? = some c → b[3 + 2 * i]? = some (u8 c.p.length)
  cell : ∀ c ∈ m.l, ∀ k u, c.p[k]? = some u → b[c.pos + k]? = some u
theorem Rel.cut {b : List UInt8} {m : SBody} (h : Rel b m) {c : SCell} (hc : c ∈ m.l) : (b.drop c.pos).take c.p.length = c.p := by
  refine List.ext_getElem? fun k => ?_
  rw [List.getElem?_take]
  split
  · rename_i hk
    rw [List.getElem?_drop, List.getElem?_eq_getElem hk]
    exact h.cell c hc k _ (List.getElem?_eq_getElem hk)
  · rename_i hk
    rw [List.getElem?_eq_none (by omega)]
def zeros (n : Nat) : List UInt8 := List.replicate n 0
theorem zeros_get (n j : Nat) (h : j < n) : (zeros n)[j]? = some 0 := by simp [zeros, h]
theorem set_get (l : List UInt8) (k : Nat) (u : UInt8) (h : k < l.length) (j : Nat) : (l.set k u)[j]? = if j = k then some u else l[j]? := by
  rw [List.getElem?_set]
  by_cases e : k = j
  · subst e; simp [h]
  · rw [if_neg e, if_neg (fun e' => e e'.symm)]
theorem zeros_len (n : Nat) : (zeros n).length = n := List.length_replicate
theorem Rel.new : Rel ((zeros 243).set 1 243) SBody.new := by
  refine ⟨by rw [List.length_set, zeros_len], ?_, ?_, fun i c h => by simp [SBody.new] at h, fun i c h => by simp [SBody.new] at h, fun c h => by simp [SBody.new] at h⟩
  · rw [set_get _ _ _ (by rw [zeros_len]; omega), if_neg (by omega), zeros_get _ _ (by omega)]
    rfl
  · rw [set_get _ _ _ (by rw [zeros_len]; omega), if_pos rfl]
    rfl
theorem get_ins {α : Type} (l : List α) (i : Nat) (x : α) (hi : i ≤ l.length) (j : Nat) : (l.take i ++ x :: l.drop i)[j]? = if j < i then l[j]? else if j = i then some x else l[j - 1]? := by
  rw [List.getElem?_append, List.length_take, Nat.min_eq_left hi]
  split
  · rw [List.getElem?_take_of_lt (by assumption)]
  · rename_i h
    split
    · rename_i e; subst e; simp
    · rw [show j - i = (j - 1 - i) + 1 by omega, List.getElem?_cons_succ, List.getElem?_drop]
      congr 1; omega
theorem get_del {α : Type} (l : List α) (i : Nat) (hi : i < l.length) (j : Nat) : (l.take i ++ l.drop (i + 1))[j]? = if j < i then l[j]? else l[j + 1]? := by
  rw [List.getElem?_append, List.length_take, Nat.min_eq_left (by omega)]
  split
  · rw [List.getElem?_take_of_lt (by assumption)]
  · rw [List.getElem?_drop]
    congr 1; omega
/-! ### what Insert does to bytes -/

/-- The entries from i on, one place on. -/
def shiftUp (b : List UInt8) (i n : Nat) : List UInt8 := ovw b (2 + 2 * (i + 1)) ((b.drop (2 + 2 * i)).take (2 * (n - i)))
def layB (b : List UInt8) (i t : Nat) (c : List UInt8) : List UInt8 := (((ovw b t c).set 1 (u8 t)).set (2 + 2 * i) (u8 t)).set (3 + 2 * i) (u8 c.length)
theorem shiftUp_len {b : List UInt8} {i n : Nat} (hb : b.length = 243) (hi : i ≤ n) (hn : 2 + 2 * (n + 1) ≤ 243) : (shiftUp b i n).length = 243 := by
  unfold shiftUp
  rw [ovw_len (by rw [List.length_take, List.length_drop]; omega), hb]
theorem shiftUp_get {b : List UInt8} {i n : Nat} (hb : b.length = 243) (hi : i ≤ n) (hn : 2 + 2 * (n + 1) ≤ 243) (j : Nat) : (shiftUp b i n)[j]? = if j < 2 + 2 * (i + 1) then b[j]? else if j < 2 + 2 * (n + 1) then b[j - 2]? else b[j]? := by
  unfold shiftUp
  have hl : ((b.drop (2 + 2 * i)).take (2 * (n - i))).length = 2 * (n - i) := by rw [List.length_take, List.length_drop]; omega
  rw [ovw_get _ _ _ (by rw [hl]; omega), hl]
  split
  · rfl
  · rename_i h
    by_cases h2 : j < 2 + 2 * (n + 1)
    · rw [if_pos (by omega), if_pos h2, List.getElem?_take_of_lt (by omega), List.getElem?_drop]
      congr 1; omega
    · rw [if_neg (by omega), if_neg h2]
theorem Rel.lay {b : List UInt8} {m : SBody} (h : Rel b m) (hI : m.Inv) {i : Nat} {c : List UInt8} (hi : i ≤ m.l.length) (hf : 2 + 2 * (m.l.length + 1) + c.length ≤ m.top) :
    Rel (layB ((shiftUp b i m.l.length).set 0 (u8 (m.l.length + 1))) i (m.top - c.length) c) (m.lay i c) := by
  have ht := hI.top
  have hn := hI.n
  have hb := h.len
  have hS := shiftUp_len (i := i) hb hi (show 2 + 2 * (m.l.length + 1) ≤ 243 by omega)
  have hg : ∀ j, (layB ((shiftUp b i m.l.length).set 0 (u8 (m.l.length + 1))) i (m.top - c.length) c)[j]? = if j = 3 + 2 * i then some (u8 c.length) else if j = 2 + 2 * i then some (u8 (m.top - c.length)) else if j = 1 then some (u8 (m.top - c.length)) else if j < m.top - c.length then (if j = 0 then some (u8 (m.l.length + 1)) else (shiftUp b i m.l.length)[j]?) else if j < m.top then c[j - (m.top - c.length)]? else (shiftUp b i m.l.length)[j]? := by
    intro j
    unfold layB
    have l1 : ((shiftUp b i m.l.length).set 0 (u8 (m.l.length + 1))).length = 243 := by simp [hS]
    have l2 : (ovw ((shiftUp b i m.l.length).set 0 (u8 (m.l.length + 1))) (m.top - c.length) c).length = 243 := by rw [ovw_len (by rw [l1]; omega), l1]
    rw [set_get _ _ _ (by simp [l2]; omega), set_get _ _ _ (by simp [l2]; omega), set_get _ _ _ (by rw [l2]; omega), ovw_get _ _ _ (by rw [l1]; omega), set_get _ _ _ (by rw [hS]; omega)]
    have e1 : m.top - c.length + c.length = m.top := by omega
    rw [e1]
    by_cases h0 : j = 0
    · subst h0
      simp only [if_true]
      repeat' (first | rfl | split | omega)
    · simp only [if_neg h0]
  have hsg := fun j => shiftUp_get (i := i) hb hi (show 2 + 2 * (m.l.length + 1) ≤ 243 by omega) j
  refine ⟨?_, ?_, ?_, ?_, ?_, ?_⟩
  · unfold layB
    simp only [List.length_set]
    rw [ovw_len (by simp [hS]; omega)]
    simp [hS]
  · rw [hg, m.lay_len i c hi]
    rw [if_neg (by omega), if_neg (by omega), if_neg (by omega), if_pos (by omega), if_pos rfl]
  · rw [hg, if_neg (by omega), if_neg (by omega), if_pos rfl]
    rfl
  · intro j d hd
    rw [show (m.lay i c).l = m.l.take i ++ ⟨m.top - c.length, c⟩ :: m.l.drop i from rfl, get_ins _ _ _ hi] at hd
    rw [hg, if_neg (by omega)]
    split at hd
    · have hjl : j < m.l.length := by omega
      rw [if_neg (by omega), if_neg (by omega), if_pos (by omega), if_neg (by omega), hsg, if_pos (by omega)]
      exact h.pos j d hd
    · split at hd
      · rename_i e
        subst e
        rw [if_pos rfl]
        injection hd with hd
        rw [← hd]
      · have hjl : j - 1 < m.l.length := by
          rcases Nat.lt_or_ge (j - 1) m.l.length with h' | h'
          · exact h'
          · rw [List.getElem?_eq_none h'] at hd; cases hd
        rw [if_neg (by omega), if_neg (by omega), if_pos (by omega), if_neg (by omega), hsg, if_neg (by omega), if_pos (by omega)]
        have := h.pos (j - 1) d hd
        rwa [show 2 + 2 * (j - 1) = 2 + 2 * j - 2 by omega] at this
  · intro j d hd
    rw [show (m.lay i c).l = m.l.take i ++ ⟨m.top - c.length, c⟩ :: m.l.drop i from rfl, get_ins _ _ _ hi] at hd
    rw [hg]
    split at hd
    · have hjl : j < m.l.length := by omega
      rw [if_neg (by omega), if_neg (by omega), if_neg (by omega), if_pos (by omega), if_neg (by omega), hsg, if_pos (by omega)]
      exact h.sz j d hd
    · split at hd
      · rename_i e
        subst e
        rw [if_pos rfl]
        injection hd with hd
        rw [← hd]
      · have hjl : j - 1 < m.l.length := by
          rcases Nat.lt_or_ge (j - 1) m.l.length with h' | h'
          · exact h'
          · rw [List.getElem?_eq_none h'] at hd; cases hd
        rw [if_neg (by omega), if_neg (by omega), if_neg (by omega), if_pos (by omega), if_neg (by omega), hsg, if_neg (by omega), if_pos (by omega)]
        have := h.sz (j - 1) d hd
        rwa [show 3 + 2 * (j - 1) = 3 + 2 * j - 2 by omega] at this
  · intro d hd k u hk
    have hkl : k < d.p.length := (List.getElem?_eq_some_iff.1 hk).1
    have hd' : d = ⟨m.top - c.length, c⟩ ∨ d ∈ m.l := by
      rcases List.mem_append.1 hd with hd | hd
      · exact .inr (List.mem_of_mem_take hd)
      · rcases List.mem_cons.1 hd with rfl | hd
        · exact .inl rfl
        · exact .inr (List.mem_of_mem_drop hd)
    rw [hg]
    rcases hd' with rfl | hd'
    · simp only at hk hkl ⊢
      rw [if_neg (by omega), if_neg (by omega), if_neg (by omega), if_neg (by omega), if_pos (by omega), show m.top - c.length + k - (m.top - c.length) = k by omega]
      exact hk
    · have h1 := hI.low d hd' (by intro e; rw [e] at hkl; simp at hkl)
      rw [if_neg (by omega), if_neg (by omega), if_neg (by omega), if_neg (by omega), if_neg (by omega), hsg, if_neg (by omega), if_neg (by omega)]
      exact h.cell d hd' k u hk
/-! ### what Delete does to bytes -/

def shiftDown (b : List UInt8) (i n : Nat) : List UInt8 := ovw b (2 + 2 * i) ((b.drop (2 + 2 * (i + 1))).take (2 * (n - 1 - i)))
theorem Rel.drop {b : List UInt8} {m : SBody} (h : Rel b m) (hI : m.Inv) {i : Nat} (hi : i < m.l.length) :
    Rel ((shiftDown (b.set 1 (u8 (m.drop i hi).top)) i m.l.length).set 0 (u8 (m.l.length - 1))) (m.drop i hi) := by
  have hn := hI.n
  have hb := h.len
  have hdt := hI.dirTop
  unfold SBody.dir at hdt
  have hl : (((b.set 1 (u8 (m.drop i hi).top)).drop (2 + 2 * (i + 1))).take (2 * (m.l.length - 1 - i))).length = 2 * (m.l.length - 1 - i) := by rw [List.length_take, List.length_drop, List.length_set]; omega
  have hS : (shiftDown (b.set 1 (u8 (m.drop i hi).top)) i m.l.length).length = 243 := by
    unfold shiftDown
    rw [ovw_len (by rw [hl, List.length_set]; omega), List.length_set, hb]
  have hg : ∀ j, ((shiftDown (b.set 1 (u8 (m.drop i hi).top)) i m.l.length).set 0 (u8 (m.l.length - 1)))[j]? = if j = 0 then some (u8 (m.l.length - 1)) else if j = 1 then some (u8 (m.drop i hi).top) else if j < 2 + 2 * i then b[j]? else if j < 2 * m.l.length then b[j + 2]? else b[j]? := by
    intro j
    rw [set_get _ _ _ (by rw [hS]; omega)]
    split
    · rfl
    · rename_i h0
      unfold shiftDown
      rw [ovw_get _ _ _ (by rw [hl, List.length_set]; omega), hl, set_get _ _ _ (by omega)]
      by_cases h1 : j = 1
      · subst h1
        rw [if_pos (by omega), if_pos rfl, if_pos rfl]
      · rw [if_neg h1, if_neg h1]
        split
        · rfl
        · by_cases h2 : j < 2 * m.l.length
          · rw [if_pos (by omega), if_pos h2, List.getElem?_take_of_lt (by omega), List.getElem?_drop, set_get _ _ _ (by omega), if_neg (by omega)]
            congr 1; omega
          · rw [if_neg (by omega), if_neg h2]
  have hget : (m.drop i hi).l = m.l.take i ++ m.l.drop (i + 1) := rfl
  refine ⟨by rw [List.length_set, hS], ?_, ?_, ?_, ?_, ?_⟩
  · rw [hg, if_pos rfl, m.drop_len i hi]
  · rw [hg, if_neg (by omega), if_pos rfl]
  · intro j d hd
    rw [hget, get_del _ _ hi] at hd
    rw [hg, if_neg (by omega), if_neg (by omega)]
    split at hd
    · rw [if_pos (by omega)]
      exact h.pos j d hd
    · have hjl : j + 1 < m.l.length := by
        rcases Nat.lt_or_ge (j + 1) m.l.length with h' | h'
        · exact h'
        · rw [List.getElem?_eq_none h'] at hd; cases hd
      rw [if_neg (by omega), if_pos (by omega)]
      have := h.pos (j + 1) d hd
      rwa [show 2 + 2 * (j + 1) = 2 + 2 * j + 2 by omega] at this
  · intro j d hd
    rw [hget, get_del _ _ hi] at hd
    rw [hg, if_neg (by omega), if_neg (by omega)]
    split at hd
    · rw [if_pos (by omega)]
      exact h.sz j d hd
    · have hjl : j + 1 < m.l.length := by
        rcases Nat.lt_or_ge (j + 1) m.l.length with h' | h'
        · exact h'
        · rw [List.getElem?_eq_none h'] at hd; cases hd
      rw [if_neg (by omega), if_pos (by omega)]
      have := h.sz (j + 1) d hd
      rwa [show 3 + 2 * (j + 1) = 3 + 2 * j + 2 by omega] at this
  · intro d hd k u hk
    have hkl : k < d.p.length := (List.getElem?_eq_some_iff.1 hk).1
    have hd' : d ∈ m.l := by
      rw [hget] at hd
      rcases List.mem_append.1 hd with hd | hd
      · exact List.mem_of_mem_take hd
      · exact List.mem_of_mem_drop hd
    have h1 := hI.low d hd' (by intro e; rw [e] at hkl; simp at hkl)
    rw [hg, if_neg (by omega), if_neg (by omega), if_neg (by omega), if_neg (by omega)]
    exact h.cell d hd' k u hk
end Go.Proofs.Ytgfanklhihciaaa
