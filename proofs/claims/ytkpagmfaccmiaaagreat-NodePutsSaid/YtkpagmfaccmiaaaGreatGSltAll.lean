
/- Texts laid together by wip/tools/lay2.py: SltPlain SltBytes CopyB SltMore SltProg SltWrite SltTold SltOut SltIns SltParse. -/

import Derived.WalkKit

import Derived.Test.YtkpagmfaccmiaaaGreatSlIns

import Derived.Test.YtkpagmfaccmiaaaGreatSlices

import Derived.Test.YtkpagmfaccmiaaaGreatReg2

import Derived.Test.YtkpagmfaccmiaaaGreatSlCut

import Derived.Test.YtkpagmfaccmiaaaGreatReg5

import Derived.Test.YtkpagmfaccmiaaaGreatRowG

set_option linter.unusedVariables false

/- Plain words and laws for bodies of cells (layer 6): no program in sight. -/

namespace Go.Proofs.YtkpagmfaccmiaaaGreat

structure SCell where
  pos : Nat
  p : List UInt8
structure SBody where
  top : Nat
  l : List SCell
def sumL (l : List SCell) : Nat := (l.map fun c => c.p.length).sum
def SBody.sum (m : SBody) : Nat := sumL m.l
def SBody.dir (m : SBody) : Nat := 2 + 2 * m.l.length
def SBody.free (m : SBody) : Nat := 243 - m.dir - m.sum
def SBody.holes (m : SBody) : Nat := 243 - m.top - m.sum
theorem sumL_nil : sumL [] = 0 := rfl
theorem sumL_cons (c : SCell) (l : List SCell) : sumL (c :: l) = c.p.length + sumL l := by simp [sumL]
theorem sumL_app (l m : List SCell) : sumL (l ++ m) = sumL l + sumL m := by simp [sumL]
theorem sumL_take_succ (l : List SCell) (k : Nat) (h : k < l.length) : sumL (l.take (k + 1)) = sumL (l.take k) + l[k].p.length := by
  rw [List.take_succ_eq_append_getElem h, sumL_app, sumL_cons, sumL_nil]; omega
theorem sumL_take_le (l : List SCell) (k : Nat) : sumL (l.take k) ≤ sumL l := by
  conv => rhs; rw [← List.take_append_drop k l]
  rw [sumL_app]; omega
theorem sumL_take_mono (l : List SCell) {j k : Nat} (h : j ≤ k) : sumL (l.take j) ≤ sumL (l.take k) := by
  have := sumL_take_le (l.take k) j
  rwa [List.take_take, Nat.min_eq_left h] at this
/-- No byte lies in both. -/
def Apart (x y : SCell) : Prop := ∀ j, x.pos ≤ j → j < x.pos + x.p.length → y.pos ≤ j → j < y.pos + y.p.length → False
theorem Apart.symm {x y : SCell} (h : Apart x y) : Apart y x := fun j a b c d => h j c d a b
structure SBody.Inv (m : SBody) : Prop where
  dirTop : m.dir ≤ m.top
  top : m.top ≤ 243
  len : ∀ c ∈ m.l, c.p.length ≤ 78
  fit : ∀ c ∈ m.l, c.pos + c.p.length ≤ 243
  low : ∀ c ∈ m.l, c.p ≠ [] → m.top ≤ c.pos
  apart : m.l.Pairwise Apart
theorem rng_nodup : ∀ l : List SCell, l.Pairwise Apart → (l.flatMap fun c => List.range' c.pos c.p.length).Nodup
  | [], _ => by simp
  | c :: l, h => by
    rw [List.flatMap_cons, List.nodup_append]
    refine ⟨List.nodup_range', rng_nodup l (List.pairwise_cons.1 h).2, fun a ha b hb e => ?_⟩
    subst e
    obtain ⟨d, hd, hb⟩ := List.mem_flatMap.1 hb
    rw [List.mem_range'_1] at ha hb
    exact (List.pairwise_cons.1 h).1 d hd a ha.1 ha.2 hb.1 hb.2
theorem rng_len : ∀ l : List SCell, (l.flatMap fun c => List.range' c.pos c.p.length).length = sumL l
  | [] => rfl
  | c :: l => by rw [List.flatMap_cons, List.length_append, List.length_range', rng_len l, sumL_cons]
theorem sum_room {l : List SCell} {t : Nat} (ht : t ≤ 243) (ha : l.Pairwise Apart) (hf : ∀ c ∈ l, c.pos + c.p.length ≤ 243) (hl : ∀ c ∈ l, c.p ≠ [] → t ≤ c.pos) : t + sumL l ≤ 243 := by
  have h := List.Nodup.length_le_of_subset (rng_nodup l ha) (l₂ := List.range' t (243 - t)) (fun j hj => by
    obtain ⟨c, hc, hj⟩ := List.mem_flatMap.1 hj
    rw [List.mem_range'_1] at hj ⊢
    have h1 := hf c hc
    have h2 := hl c hc (by intro e; rw [e] at hj; simp at hj; omega)
    omega)
  rw [rng_len, List.length_range'] at h
  omega
theorem SBody.Inv.sum {m : SBody} (h : m.Inv) : m.top + m.sum ≤ 243 := sum_room h.top h.apart h.fit h.low
theorem SBody.Inv.n {m : SBody} (h : m.Inv) : m.l.length ≤ 120 := by
  have h1 := h.dirTop
  have h2 := h.top
  unfold SBody.dir at h1
  omega
theorem SBody.Inv.freeI {m : SBody} (h : m.Inv) : (m.free : Int) = 243 - (2 + 2 * (m.l.length : Int)) - (m.sum : Int) := by
  have h1 := h.dirTop
  have h2 := h.sum
  unfold SBody.free SBody.dir at *
  omega
theorem SBody.Inv.holesI {m : SBody} (h : m.Inv) : (m.holes : Int) = 243 - (m.top : Int) - (m.sum : Int) := by
  have h2 := h.sum
  unfold SBody.holes
  omega
def SBody.new : SBody := ⟨243, []⟩
theorem SBody.new_inv : SBody.new.Inv := ⟨by simp [SBody.new, SBody.dir], by simp [SBody.new], by simp [SBody.new], by simp [SBody.new], by simp [SBody.new], by simp [SBody.new]⟩
/-! ### pack -/

def packL (l : List SCell) : List SCell := l.mapIdx fun j c => ⟨243 - sumL (l.take (j + 1)), c.p⟩
def SBody.pack (m : SBody) : SBody := ⟨243 - m.sum, packL m.l⟩
theorem packL_len (l : List SCell) : (packL l).length = l.length := by simp [packL]
theorem packL_get (l : List SCell) (j : Nat) (h : j < l.length) : (packL l)[j]'(by rw [packL_len]; exact h) = ⟨243 - sumL (l.take (j + 1)), l[j].p⟩ := by simp [packL]
theorem packL_p (l : List SCell) : (packL l).map SCell.p = l.map SCell.p := by
  refine List.ext_getElem (by simp [packL_len]) fun j h1 h2 => ?_
  simp only [List.getElem_map]
  rw [packL_get l j (by simpa using h2)]
theorem sumL_p {l m : List SCell} (h : l.map SCell.p = m.map SCell.p) : sumL l = sumL m := by
  have : ∀ l : List SCell, sumL l = ((l.map SCell.p).map List.length).sum := fun l => by simp [sumL, Function.comp_def]
  rw [this l, this m, h]
theorem SBody.pack_sum (m : SBody) : m.pack.sum = m.sum := sumL_p (packL_p m.l)
theorem SBody.pack_len (m : SBody) : m.pack.l.length = m.l.length := packL_len m.l
theorem SBody.pack_inv {m : SBody} (h : m.Inv) : m.pack.Inv := by
  have hs := h.sum
  have hd := h.dirTop
  have hm : ∀ c ∈ m.pack.l, ∃ (j : Nat) (hj : j < m.l.length), c = ⟨243 - sumL (m.l.take (j + 1)), m.l[j].p⟩ := fun c hc => by
    obtain ⟨j, hj, rfl⟩ := List.getElem_of_mem hc
    have hj' : j < m.l.length := by rw [← m.pack_len]; exact hj
    exact ⟨j, hj', packL_get m.l j hj'⟩
  refine ⟨?_, by show 243 - _ ≤ 243; omega, ?_, ?_, ?_, ?_⟩
  · unfold SBody.dir at *
    rw [m.pack_len]
    show _ ≤ 243 - m.sum
    omega
  · intro c hc
    obtain ⟨j, hj, rfl⟩ := hm c hc
    show m.l[j].p.length ≤ 78
    exact h.len _ (List.getElem_mem hj)
  · intro c hc
    obtain ⟨j, hj, rfl⟩ := hm c hc
    have h1 := sumL_take_succ m.l j hj
    have h2 := sumL_take_le m.l (j + 1)
    unfold SBody.sum at hs
    show 243 - sumL (m.l.take (j + 1)) + m.l[j].p.length ≤ 243
    omega
  · intro c hc _
    obtain ⟨j, hj, rfl⟩ := hm c hc
    have h2 := sumL_take_le m.l (j + 1)
    show 243 - sumL m.l ≤ 243 - sumL (m.l.take (j + 1))
    omega
  · rw [List.pairwise_iff_getElem]
    intro i j hi hj hij k a b c d
    have hi' : i < m.l.length := by rw [← m.pack_len]; exact hi
    have hj' : j < m.l.length := by rw [← m.pack_len]; exact hj
    have e1 : m.pack.l[i] = ⟨243 - sumL (m.l.take (i + 1)), m.l[i].p⟩ := packL_get m.l i hi'
    have e2 : m.pack.l[j] = ⟨243 - sumL (m.l.take (j + 1)), m.l[j].p⟩ := packL_get m.l j hj'
    rw [e1] at a b
    rw [e2] at c d
    simp only at a b c d
    have h1 := sumL_take_succ m.l j hj'
    have h2 := sumL_take_mono m.l (show i + 1 ≤ j by omega)
    have h3 := sumL_take_le m.l (j + 1)
    unfold SBody.sum at hs
    omega
theorem SBody.pack_holes {m : SBody} (h : m.Inv) : m.pack.holes = 0 := by
  have h1 := m.pack_sum
  have hs := h.sum
  unfold SBody.holes
  rw [h1]
  show 243 - (243 - m.sum) - m.sum = 0
  omega
/-! ### insert -/

/-- A cell laid ahead of the top. -/
def SBody.lay (m : SBody) (i : Nat) (c : List UInt8) : SBody := ⟨m.top - c.length, m.l.take i ++ ⟨m.top - c.length, c⟩ :: m.l.drop i⟩
def SBody.room (m : SBody) (c : List UInt8) : SBody := if m.top < 2 + 2 * (m.l.length + 1) + c.length then m.pack else m
def SBody.insert (m : SBody) (i : Int) (c : List UInt8) : Int × SBody :=
  if i < 0 ∨ (m.l.length : Int) < i then (7, m) else if 78 < c.length then (1, m) else if m.free < 2 + c.length then (60, m) else (0, (m.room c).lay i.toNat c)
theorem SBody.room_inv {m : SBody} (h : m.Inv) (c : List UInt8) : (m.room c).Inv := by
  unfold SBody.room
  split
  · exact SBody.pack_inv h
  · exact h
theorem SBody.room_len (m : SBody) (c : List UInt8) : (m.room c).l.length = m.l.length := by
  unfold SBody.room
  split
  · exact m.pack_len
  · rfl
theorem SBody.room_fits {m : SBody} {c : List UInt8} (hf : 2 + c.length ≤ m.free) : 2 + 2 * (m.l.length + 1) + c.length ≤ (m.room c).top := by
  unfold SBody.room
  split
  · show _ ≤ 243 - m.sum
    unfold SBody.free SBody.dir at hf
    omega
  · omega
theorem SBody.lay_len (m : SBody) (i : Nat) (c : List UInt8) (hi : i ≤ m.l.length) : (m.lay i c).l.length = m.l.length + 1 := by
  simp [SBody.lay]; omega
theorem SBody.lay_sum (m : SBody) (i : Nat) (c : List UInt8) : (m.lay i c).sum = m.sum + c.length := by
  show sumL (m.l.take i ++ ⟨_, c⟩ :: m.l.drop i) = sumL m.l + c.length
  conv => rhs; rw [← List.take_append_drop i m.l]
  rw [sumL_app, sumL_app, sumL_cons]
  show _ + (c.length + _) = _
  omega
theorem SBody.lay_inv {m : SBody} (h : m.Inv) {i : Nat} {c : List UInt8} (hi : i ≤ m.l.length) (hc : c.length ≤ 78) (hf : 2 + 2 * (m.l.length + 1) + c.length ≤ m.top) : (m.lay i c).Inv := by
  have ht := h.top
  have hmem : ∀ d ∈ (m.lay i c).l, d = ⟨m.top - c.length, c⟩ ∨ d ∈ m.l := fun d hd => by
    rcases List.mem_append.1 hd with hd | hd
    · exact .inr (List.mem_of_mem_take hd)
    · rcases List.mem_cons.1 hd with rfl | hd
      · exact .inl rfl
      · exact .inr (List.mem_of_mem_drop hd)
  have hnew : ∀ d ∈ m.l, Apart d ⟨m.top - c.length, c⟩ := fun d hd j a b e f => by
    simp only at e f
    have h1 := h.low d hd (by intro e'; rw [e'] at b; simp at b; omega)
    omega
  refine ⟨?_, by show m.top - _ ≤ 243; omega, ?_, ?_, ?_, ?_⟩
  · unfold SBody.dir
    rw [m.lay_len i c hi]
    show _ ≤ m.top - c.length
    omega
  · intro d hd
    rcases hmem d hd with rfl | hd
    · exact hc
    · exact h.len d hd
  · intro d hd
    rcases hmem d hd with rfl | hd
    · show m.top - c.length + c.length ≤ 243; omega
    · exact h.fit d hd
  · intro d hd hne
    rcases hmem d hd with rfl | hd
    · exact Nat.le_refl _
    · have := h.low d hd hne
      show m.top - c.length ≤ d.pos
      omega
  · have hp := h.apart
    rw [← List.take_append_drop i m.l, List.pairwise_append] at hp
    refine List.pairwise_append.2 ⟨hp.1, List.pairwise_cons.2 ⟨fun d hd => (hnew d (List.mem_of_mem_drop hd)).symm, hp.2.1⟩, fun a ha b hb => ?_⟩
    rcases List.mem_cons.1 hb with rfl | hb
    · exact hnew a (List.mem_of_mem_take ha)
    · exact hp.2.2 a ha b hb
theorem SBody.insert_inv {m : SBody} (h : m.Inv) (i : Int) (c : List UInt8) : (m.insert i c).2.Inv := by
  unfold SBody.insert
  split
  · exact h
  · split
    · exact h
    · split
      · exact h
      · rename_i h1 h2 h3
        exact SBody.lay_inv (SBody.room_inv h c) (by rw [m.room_len]; omega) (by omega) (by rw [m.room_len]; exact SBody.room_fits (by omega))
/-! ### delete -/

def SBody.drop (m : SBody) (i : Nat) (h : i < m.l.length) : SBody := ⟨if m.l[i].pos = m.top then m.top + m.l[i].p.length else m.top, m.l.take i ++ m.l.drop (i + 1)⟩
def SBody.delete (m : SBody) (i : Int) : Int × SBody := if h : 0 ≤ i ∧ i.toNat < m.l.length then (0, m.drop i.toNat h.2) else (7, m)
theorem SBody.drop_len (m : SBody) (i : Nat) (h : i < m.l.length) : (m.drop i h).l.length = m.l.length - 1 := by
  simp [SBody.drop]; omega
theorem SBody.drop_sum (m : SBody) (i : Nat) (h : i < m.l.length) : (m.drop i h).sum + m.l[i].p.length = m.sum := by
  show sumL (m.l.take i ++ m.l.drop (i + 1)) + _ = sumL m.l
  have e : m.l = m.l.take i ++ m.l[i] :: m.l.drop (i + 1) := by rw [← List.drop_eq_getElem_cons h]; exact (List.take_append_drop i m.l).symm
  have e2 : sumL m.l = sumL (m.l.take i) + (m.l[i].p.length + sumL (m.l.drop (i + 1))) := by rw [← sumL_cons, ← sumL_app, ← e]
  rw [e2, sumL_app]
  omega
theorem SBody.drop_inv {m : SBody} (h : m.Inv) (i : Nat) (hi : i < m.l.length) : (m.drop i hi).Inv := by
  have hin : m.l[i] ∈ m.l := List.getElem_mem hi
  have hmem : ∀ d ∈ (m.drop i hi).l, d ∈ m.l := fun d hd => by
    rcases List.mem_append.1 hd with hd | hd
    · exact List.mem_of_mem_take hd
    · exact List.mem_of_mem_drop hd
  have hp := h.apart
  rw [← List.take_append_drop i m.l, List.drop_eq_getElem_cons hi, List.pairwise_append] at hp
  have hc := List.pairwise_cons.1 hp.2.1
  have hap : ∀ d ∈ (m.drop i hi).l, Apart m.l[i] d := fun d hd => by
    rcases List.mem_append.1 hd with hd | hd
    · exact (hp.2.2 d hd _ (List.mem_cons_self ..)).symm
    · exact hc.1 d hd
  have ht := h.top
  have hd := h.dirTop
  have hfit := h.fit _ hin
  refine ⟨?_, ?_, fun d hd => h.len d (hmem d hd), fun d hd => h.fit d (hmem d hd), fun d hd hne => ?_, ?_⟩
  · unfold SBody.dir at *
    rw [m.drop_len i hi]
    simp only [SBody.drop]
    split <;> omega
  · simp only [SBody.drop]
    split <;> omega
  · have h1 := h.low d (hmem d hd) hne
    simp only [SBody.drop]
    split
    · rename_i he
      have h2 := hap d hd d.pos
      have h3 : 0 < d.p.length := List.length_pos_iff.2 hne
      rcases Nat.lt_or_ge d.pos (m.top + m.l[i].p.length) with h4 | h4
      · exact absurd (h2 (by omega) (by omega) (Nat.le_refl _) (by omega)) id
      · exact h4
    · exact h1
  · exact List.pairwise_append.2 ⟨hp.1, hc.2, fun a ha b hb => hp.2.2 a ha b (List.mem_cons_of_mem _ hb)⟩
theorem SBody.delete_inv {m : SBody} (h : m.Inv) (i : Int) : (m.delete i).2.Inv := by
  unfold SBody.delete
  split
  · exact SBody.drop_inv h _ _
  · exact h
end Go.Proofs.YtkpagmfaccmiaaaGreat

/- Plain laws for bodies of cells as bytes (layer 6): no program in sight. -/

namespace Go.Proofs.YtkpagmfaccmiaaaGreat

/-- A list with other bytes from a place on. -/
def ovw (l : List UInt8) (k : Nat) (p : List UInt8) : List UInt8 := l.take k ++ (p ++ l.drop (k + p.length))
theorem ovw_len {l : List UInt8} {k : Nat} {p : List UInt8} (h : k + p.length ≤ l.length) : (ovw l k p).length = l.length := by
  simp [ovw]; omega
theorem ovw_get (l : List UInt8) (k : Nat) (p : List UInt8) (h : k + p.length ≤ l.length) (j : Nat) : (ovw l k p)[j]? = if j < k then l[j]? else if j < k + p.length then p[j - k]? else l[j]? := by
  unfold ovw
  rw [List.getElem?_append, List.length_take, Nat.min_eq_left (by omega)]
  split
  · rw [List.getElem?_take_of_lt (by assumption)]
  · rw [List.getElem?_append]
    split
    · rw [if_pos (by omega)]
    · rw [if_neg (by omega), List.getElem?_drop]
      congr 1; omega
theorem ovw_nil (l : List UInt8) (k : Nat) : ovw l k [] = l := by simp [ovw]
def u8 (n : Nat) : UInt8 := UInt8.ofNat n
theorem u8_nat {n : Nat} (h : n < 256) : (u8 n).toNat = n := by
  unfold u8; simp; omega
/-- Bytes that hold a body of cells. -/
structure Rel (b : List UInt8) (m : SBody) : Prop where
  len : b.length = 243
  n : b[0]? = some (u8 m.l.length)
  t : b[1]? = some (u8 m.top)
  pos : ∀ i c, m.l[i]? = some c → b[2 + 2 * i]? = some (u8 c.pos)
  sz : ∀ i c, m.l[i]? = some c → b[3 + 2 * i]? = some (u8 c.p.length)
  cell : ∀ c ∈ m.l, ∀ k u, c.p[k]? = some u → b[c.pos + k]? = some u
theorem Rel.cut {b : List UInt8} {m : SBody} (h : Rel b m) {c : SCell} (hc : c ∈ m.l) : (b.drop c.pos).take c.p.length = c.p := by
  refine List.ext_getElem? fun k => ?_
  rw [List.getElem?_take]
  split
  · rename_i hk
    rw [List.getElem?_drop, List.getElem?_eq_getElem hk]
    exact h.cell c hc k _ (List.getElem?_eq_getElem hk)
  · rename_i hk
    rw [List.getElem?_eq_none (by omega)]
def zeros (n : Nat) : List UInt8 := List.replicate n 0
theorem zeros_get (n j : Nat) (h : j < n) : (zeros n)[j]? = some 0 := by simp [zeros, h]
theorem set_get (l : List UInt8) (k : Nat) (u : UInt8) (h : k < l.length) (j : Nat) : (l.set k u)[j]? = if j = k then some u else l[j]? := by
  rw [List.getElem?_set]
  by_cases e : k = j
  · subst e; simp [h]
  · rw [if_neg e, if_neg (fun e' => e e'.symm)]
theorem zeros_len (n : Nat) : (zeros n).length = n := List.length_replicate
theorem Rel.new : Rel ((zeros 243).set 1 243) SBody.new := by
  refine ⟨by rw [List.length_set, zeros_len], ?_, ?_, fun i c h => by simp [SBody.new] at h, fun i c h => by simp [SBody.new] at h, fun c h => by simp [SBody.new] at h⟩
  · rw [set_get _ _ _ (by rw [zeros_len]; omega), if_neg (by omega), zeros_get _ _ (by omega)]
    rfl
  · rw [set_get _ _ _ (by rw [zeros_len]; omega), if_pos rfl]
    rfl
theorem get_ins {α : Type} (l : List α) (i : Nat) (x : α) (hi : i ≤ l.length) (j : Nat) : (l.take i ++ x :: l.drop i)[j]? = if j < i then l[j]? else if j = i then some x else l[j - 1]? := by
  rw [List.getElem?_append, List.length_take, Nat.min_eq_left hi]
  split
  · rw [List.getElem?_take_of_lt (by assumption)]
  · rename_i h
    split
    · rename_i e; subst e; simp
    · rw [show j - i = (j - 1 - i) + 1 by omega, List.getElem?_cons_succ, List.getElem?_drop]
      congr 1; omega
theorem get_del {α : Type} (l : List α) (i : Nat) (hi : i < l.length) (j : Nat) : (l.take i ++ l.drop (i + 1))[j]? = if j < i then l[j]? else l[j + 1]? := by
  rw [List.getElem?_append, List.length_take, Nat.min_eq_left (by omega)]
  split
  · rw [List.getElem?_take_of_lt (by assumption)]
  · rw [List.getElem?_drop]
    congr 1; omega
/-! ### what Insert does to bytes -/

/-- The entries from i on, one place on. -/
def shiftUp (b : List UInt8) (i n : Nat) : List UInt8 := ovw b (2 + 2 * (i + 1)) ((b.drop (2 + 2 * i)).take (2 * (n - i)))
def layB (b : List UInt8) (i t : Nat) (c : List UInt8) : List UInt8 := (((ovw b t c).set 1 (u8 t)).set (2 + 2 * i) (u8 t)).set (3 + 2 * i) (u8 c.length)
theorem shiftUp_len {b : List UInt8} {i n : Nat} (hb : b.length = 243) (hi : i ≤ n) (hn : 2 + 2 * (n + 1) ≤ 243) : (shiftUp b i n).length = 243 := by
  unfold shiftUp
  rw [ovw_len (by rw [List.length_take, List.length_drop]; omega), hb]
theorem shiftUp_get {b : List UInt8} {i n : Nat} (hb : b.length = 243) (hi : i ≤ n) (hn : 2 + 2 * (n + 1) ≤ 243) (j : Nat) : (shiftUp b i n)[j]? = if j < 2 + 2 * (i + 1) then b[j]? else if j < 2 + 2 * (n + 1) then b[j - 2]? else b[j]? := by
  unfold shiftUp
  have hl : ((b.drop (2 + 2 * i)).take (2 * (n - i))).length = 2 * (n - i) := by rw [List.length_take, List.length_drop]; omega
  rw [ovw_get _ _ _ (by rw [hl]; omega), hl]
  split
  · rfl
  · rename_i h
    by_cases h2 : j < 2 + 2 * (n + 1)
    · rw [if_pos (by omega), if_pos h2, List.getElem?_take_of_lt (by omega), List.getElem?_drop]
      congr 1; omega
    · rw [if_neg (by omega), if_neg h2]
theorem Rel.lay {b : List UInt8} {m : SBody} (h : Rel b m) (hI : m.Inv) {i : Nat} {c : List UInt8} (hi : i ≤ m.l.length) (hf : 2 + 2 * (m.l.length + 1) + c.length ≤ m.top) :
    Rel (layB ((shiftUp b i m.l.length).set 0 (u8 (m.l.length + 1))) i (m.top - c.length) c) (m.lay i c) := by
  have ht := hI.top
  have hn := hI.n
  have hb := h.len
  have hS := shiftUp_len (i := i) hb hi (show 2 + 2 * (m.l.length + 1) ≤ 243 by omega)
  have hg : ∀ j, (layB ((shiftUp b i m.l.length).set 0 (u8 (m.l.length + 1))) i (m.top - c.length) c)[j]? = if j = 3 + 2 * i then some (u8 c.length) else if j = 2 + 2 * i then some (u8 (m.top - c.length)) else if j = 1 then some (u8 (m.top - c.length)) else if j < m.top - c.length then (if j = 0 then some (u8 (m.l.length + 1)) else (shiftUp b i m.l.length)[j]?) else if j < m.top then c[j - (m.top - c.length)]? else (shiftUp b i m.l.length)[j]? := by
    intro j
    unfold layB
    have l1 : ((shiftUp b i m.l.length).set 0 (u8 (m.l.length + 1))).length = 243 := by simp [hS]
    have l2 : (ovw ((shiftUp b i m.l.length).set 0 (u8 (m.l.length + 1))) (m.top - c.length) c).length = 243 := by rw [ovw_len (by rw [l1]; omega), l1]
    rw [set_get _ _ _ (by simp [l2]; omega), set_get _ _ _ (by simp [l2]; omega), set_get _ _ _ (by rw [l2]; omega), ovw_get _ _ _ (by rw [l1]; omega), set_get _ _ _ (by rw [hS]; omega)]
    have e1 : m.top - c.length + c.length = m.top := by omega
    rw [e1]
    by_cases h0 : j = 0
    · subst h0
      simp only [if_true]
      repeat' (first | rfl | split | omega)
    · simp only [if_neg h0]
  have hsg := fun j => shiftUp_get (i := i) hb hi (show 2 + 2 * (m.l.length + 1) ≤ 243 by omega) j
  refine ⟨?_, ?_, ?_, ?_, ?_, ?_⟩
  · unfold layB
    simp only [List.length_set]
    rw [ovw_len (by simp [hS]; omega)]
    simp [hS]
  · rw [hg, m.lay_len i c hi]
    rw [if_neg (by omega), if_neg (by omega), if_neg (by omega), if_pos (by omega), if_pos rfl]
  · rw [hg, if_neg (by omega), if_neg (by omega), if_pos rfl]
    rfl
  · intro j d hd
    rw [show (m.lay i c).l = m.l.take i ++ ⟨m.top - c.length, c⟩ :: m.l.drop i from rfl, get_ins _ _ _ hi] at hd
    rw [hg, if_neg (by omega)]
    split at hd
    · have hjl : j < m.l.length := by omega
      rw [if_neg (by omega), if_neg (by omega), if_pos (by omega), if_neg (by omega), hsg, if_pos (by omega)]
      exact h.pos j d hd
    · split at hd
      · rename_i e
        subst e
        rw [if_pos rfl]
        injection hd with hd
        rw [← hd]
      · have hjl : j - 1 < m.l.length := by
          rcases Nat.lt_or_ge (j - 1) m.l.length with h' | h'
          · exact h'
          · rw [List.getElem?_eq_none h'] at hd; cases hd
        rw [if_neg (by omega), if_neg (by omega), if_pos (by omega), if_neg (by omega), hsg, if_neg (by omega), if_pos (by omega)]
        have := h.pos (j - 1) d hd
        rwa [show 2 + 2 * (j - 1) = 2 + 2 * j - 2 by omega] at this
  · intro j d hd
    rw [show (m.lay i c).l = m.l.take i ++ ⟨m.top - c.length, c⟩ :: m.l.drop i from rfl, get_ins _ _ _ hi] at hd
    rw [hg]
    split at hd
    · have hjl : j < m.l.length := by omega
      rw [if_neg (by omega), if_neg (by omega), if_neg (by omega), if_pos (by omega), if_neg (by omega), hsg, if_pos (by omega)]
      exact h.sz j d hd
    · split at hd
      · rename_i e
        subst e
        rw [if_pos rfl]
        injection hd with hd
        rw [← hd]
      · have hjl : j - 1 < m.l.length := by
          rcases Nat.lt_or_ge (j - 1) m.l.length with h' | h'
          · exact h'
          · rw [List.getElem?_eq_none h'] at hd; cases hd
        rw [if_neg (by omega), if_neg (by omega), if_neg (by omega), if_pos (by omega), if_neg (by omega), hsg, if_neg (by omega), if_pos (by omega)]
        have := h.sz (j - 1) d hd
        rwa [show 3 + 2 * (j - 1) = 3 + 2 * j - 2 by omega] at this
  · intro d hd k u hk
    have hkl : k < d.p.length := (List.getElem?_eq_some_iff.1 hk).1
    have hd' : d = ⟨m.top - c.length, c⟩ ∨ d ∈ m.l := by
      rcases List.mem_append.1 hd with hd | hd
      · exact .inr (List.mem_of_mem_take hd)
      · rcases List.mem_cons.1 hd with rfl | hd
        · exact .inl rfl
        · exact .inr (List.mem_of_mem_drop hd)
    rw [hg]
    rcases hd' with rfl | hd'
    · simp only at hk hkl ⊢
      rw [if_neg (by omega), if_neg (by omega), if_neg (by omega), if_neg (by omega), if_pos (by omega), show m.top - c.length + k - (m.top - c.length) = k by omega]
      exact hk
    · have h1 := hI.low d hd' (by intro e; rw [e] at hkl; simp at hkl)
      rw [if_neg (by omega), if_neg (by omega), if_neg (by omega), if_neg (by omega), if_neg (by omega), hsg, if_neg (by omega), if_neg (by omega)]
      exact h.cell d hd' k u hk
/-! ### what Delete does to bytes -/

def shiftDown (b : List UInt8) (i n : Nat) : List UInt8 := ovw b (2 + 2 * i) ((b.drop (2 + 2 * (i + 1))).take (2 * (n - 1 - i)))
theorem Rel.drop {b : List UInt8} {m : SBody} (h : Rel b m) (hI : m.Inv) {i : Nat} (hi : i < m.l.length) :
    Rel ((shiftDown (b.set 1 (u8 (m.drop i hi).top)) i m.l.length).set 0 (u8 (m.l.length - 1))) (m.drop i hi) := by
  have hn := hI.n
  have hb := h.len
  have hdt := hI.dirTop
  unfold SBody.dir at hdt
  have hl : (((b.set 1 (u8 (m.drop i hi).top)).drop (2 + 2 * (i + 1))).take (2 * (m.l.length - 1 - i))).length = 2 * (m.l.length - 1 - i) := by rw [List.length_take, List.length_drop, List.length_set]; omega
  have hS : (shiftDown (b.set 1 (u8 (m.drop i hi).top)) i m.l.length).length = 243 := by
    unfold shiftDown
    rw [ovw_len (by rw [hl, List.length_set]; omega), List.length_set, hb]
  have hg : ∀ j, ((shiftDown (b.set 1 (u8 (m.drop i hi).top)) i m.l.length).set 0 (u8 (m.l.length - 1)))[j]? = if j = 0 then some (u8 (m.l.length - 1)) else if j = 1 then some (u8 (m.drop i hi).top) else if j < 2 + 2 * i then b[j]? else if j < 2 * m.l.length then b[j + 2]? else b[j]? := by
    intro j
    rw [set_get _ _ _ (by rw [hS]; omega)]
    split
    · rfl
    · rename_i h0
      unfold shiftDown
      rw [ovw_get _ _ _ (by rw [hl, List.length_set]; omega), hl, set_get _ _ _ (by omega)]
      by_cases h1 : j = 1
      · subst h1
        rw [if_pos (by omega), if_pos rfl, if_pos rfl]
      · rw [if_neg h1, if_neg h1]
        split
        · rfl
        · by_cases h2 : j < 2 * m.l.length
          · rw [if_pos (by omega), if_pos h2, List.getElem?_take_of_lt (by omega), List.getElem?_drop, set_get _ _ _ (by omega), if_neg (by omega)]
            congr 1; omega
          · rw [if_neg (by omega), if_neg h2]
  have hget : (m.drop i hi).l = m.l.take i ++ m.l.drop (i + 1) := rfl
  refine ⟨by rw [List.length_set, hS], ?_, ?_, ?_, ?_, ?_⟩
  · rw [hg, if_pos rfl, m.drop_len i hi]
  · rw [hg, if_neg (by omega), if_pos rfl]
  · intro j d hd
    rw [hget, get_del _ _ hi] at hd
    rw [hg, if_neg (by omega), if_neg (by omega)]
    split at hd
    · rw [if_pos (by omega)]
      exact h.pos j d hd
    · have hjl : j + 1 < m.l.length := by
        rcases Nat.lt_or_ge (j + 1) m.l.length with h' | h'
        · exact h'
        · rw [List.getElem?_eq_none h'] at hd; cases hd
      rw [if_neg (by omega), if_pos (by omega)]
      have := h.pos (j + 1) d hd
      rwa [show 2 + 2 * (j + 1) = 2 + 2 * j + 2 by omega] at this
  · intro j d hd
    rw [hget, get_del _ _ hi] at hd
    rw [hg, if_neg (by omega), if_neg (by omega)]
    split at hd
    · rw [if_pos (by omega)]
      exact h.sz j d hd
    · have hjl : j + 1 < m.l.length := by
        rcases Nat.lt_or_ge (j + 1) m.l.length with h' | h'
        · exact h'
        · rw [List.getElem?_eq_none h'] at hd; cases hd
      rw [if_neg (by omega), if_pos (by omega)]
      have := h.sz (j + 1) d hd
      rwa [show 3 + 2 * (j + 1) = 3 + 2 * j + 2 by omega] at this
  · intro d hd k u hk
    have hkl : k < d.p.length := (List.getElem?_eq_some_iff.1 hk).1
    have hd' : d ∈ m.l := by
      rw [hget] at hd
      rcases List.mem_append.1 hd with hd | hd
      · exact List.mem_of_mem_take hd
      · exact List.mem_of_mem_drop hd
    have h1 := hI.low d hd' (by intro e; rw [e] at hkl; simp at hkl)
    rw [hg, if_neg (by omega), if_neg (by omega), if_neg (by omega), if_neg (by omega)]
    exact h.cell d hd' k u hk
end Go.Proofs.YtkpagmfaccmiaaaGreat

/- copy of bytes into a row of bytes, of any length, also where both lie in the same row: one equation. -/

namespace Go.Proofs.YtkpagmfaccmiaaaGreat

open Go.RowKit

section

variable {P : Program} {w : World} {ops : Array Oper} {rest : List Oper} {o : Oper} {act : Act} {Q : Exit → Act → World → Prop}

theorem run_copyB (t ty : TypeId) {e : TypeId} {bytes : Nat} (T : ElemT P t e 1 bytes) (g f dLen dCap : Nat) (A1 A2 : Option Addr) (c2 : Nat) (b p : List UInt8) (rt : TypeId) (hA : p = [] ∨ A1 = some ⟨g, f, none⟩) (hl : p.length ≤ dLen)
    (hg : w.heap[g]? = some (.cells (bvs b).toArray rt (0, 0))) (hf : f + p.length ≤ b.length) (hr : RdB w A2 p) :
    ∃ w', (Builtin.copy_ #[t, t] ty #[.slice A1 dLen dCap, .slice A2 p.length c2]).run P w = .ok (.int .i64 (p.length : Int)) w' ∧ w'.heap[g]? = some (.cells (bvs (ovw b f p)).toArray rt (0, 0)) ∧ w.grownBy w' (some g) := by
  obtain ⟨i, z, g1, g2, g3, g4, g5⟩ := T.hi
  by_cases hp : p = []
  · subst hp
    refine ⟨w, ?_, by rw [ovw_nil]; exact hg, ⟨rfl, rfl, rfl, Nat.le_refl _, fun _ _ _ => rfl⟩⟩
    rcases A1 with _ | a <;> rcases A2 with _ | a2 <;>
      simp [Builtin.copy_, run_underlying T.ht, Builtin.lenOf, sizeOf, typeInfo, g1, Builtin.firstCells, storeCells, loadCells, loadCellsFrom, goInt]
  · obtain rfl := hA.resolve_left hp
    have hb : bvs b = bvs (b.take f) ++ (bvs ((b.drop f).take p.length) ++ bvs (b.drop (f + p.length))) := by
      rw [← bvs_app, ← bvs_app]
      congr 1
      conv => lhs; rw [← List.take_append_drop f b, ← List.take_append_drop p.length (b.drop f), List.drop_drop]
    rw [hb] at hg
    have hm : p.length = Nat.min p.length dLen := (Nat.min_eq_left hl).symm
    have hrun := run_copyS (P := P) w t t ty e 1 g f dLen dCap A2 p.length c2 p.length (bvs (b.take f)) (bvs ((b.drop f).take p.length)) (bvs (b.drop (f + p.length))) (bvs p) rt T.ht (by rw [g1]; simp [g3]) (by omega) hg
      (by rw [bvs_len, List.length_take]; omega) (by rw [bvs_len, bvs_len, List.length_take, List.length_drop]; omega) hm (List.length_pos_iff.2 hp) hr (bvs_one _)
    refine ⟨_, hrun, ?_, ⟨rfl, rfl, rfl, by simp, fun k _ hn => setRow_other _ _ _ _ (fun e => hn (by rw [e]))⟩⟩
    rw [setRow_heap _ _ _ _ _ _ hg, ← bvs_app, ← bvs_app]
    rfl
theorem wp_copyB {K : Act → World → Prop} (dd x : Operand) (t : TypeId) (ho : o.op = .call { callee := .builtin .copy, args := #[dd, x], argTypes := #[t, t] })
    {e : TypeId} {bytes : Nat} (T : ElemT P t e 1 bytes) (g f dLen dCap : Nat) (A1 : Option Addr) (hd : act.eval dd = .slice A1 dLen dCap) (A2 : Option Addr) (c2 : Nat) (b p : List UInt8) (hx : act.eval x = .slice A2 p.length c2) (rt : TypeId)
    (hA : p = [] ∨ A1 = some ⟨g, f, none⟩) (hl : p.length ≤ dLen) (hg : w.heap[g]? = some (.cells (bvs b).toArray rt (0, 0))) (hf : f + p.length ≤ b.length) (hr : RdB w A2 p)
    (h : ∀ w', w'.heap[g]? = some (.cells (bvs (ovw b f p)).toArray rt (0, 0)) → w.grownBy w' (some g) → K (act.put o.dst (.int .i64 (p.length : Int))) w') : o.wp P act w K Q := by
  obtain ⟨w', hrun, h1, h2⟩ := run_copyB (P := P) t o.type T g f dLen dCap A1 A2 c2 b p rt hA hl hg hf hr
  unfold Oper.wp execOp
  simp only [ho, resolve, invoke, builtin, Sem.run_bind, Sem.run_pure, Result.andThen_ok, List.map_toArray, List.map_cons, List.map_nil, hd, hx, hrun]
  exact h w' h1 h2
theorem wpList_copyB (hgd : Region.wanted o (yielded ops act.tmps) = true) (dd x : Operand) (t : TypeId) (ho : o.op = .call { callee := .builtin .copy, args := #[dd, x], argTypes := #[t, t] })
    {e : TypeId} {bytes : Nat} (T : ElemT P t e 1 bytes) (g f dLen dCap : Nat) (A1 : Option Addr) (hd : act.eval dd = .slice A1 dLen dCap) (A2 : Option Addr) (c2 : Nat) (b p : List UInt8) (hx : act.eval x = .slice A2 p.length c2) (rt : TypeId)
    (hA : p = [] ∨ A1 = some ⟨g, f, none⟩) (hl : p.length ≤ dLen) (hg : w.heap[g]? = some (.cells (bvs b).toArray rt (0, 0))) (hf : f + p.length ≤ b.length) (hr : RdB w A2 p)
    (h : ∀ w', w'.heap[g]? = some (.cells (bvs (ovw b f p)).toArray rt (0, 0)) → w.grownBy w' (some g) → wpList P ops Q rest (act.put o.dst (.int .i64 (p.length : Int))) w') : wpList P ops Q (o :: rest) act w :=
  wpList_want hgd fun _ hK => wp_copyB dd x t ho T g f dLen dCap A1 hd A2 c2 b p hx rt hA hl hg hf hr fun w' h1 h2 => hK _ _ (h w' h1 h2)
end

end Go.Proofs.YtkpagmfaccmiaaaGreat

/- Plain laws for bodies of cells as bytes (layer 6), second part: packing, the bytes that are told, bytes as bodies. No program in sight. -/

namespace Go.Proofs.YtkpagmfaccmiaaaGreat

/-! ### packing, cell by cell -/

structure PackI (b : List UInt8) (l : List SCell) (k : Nat) : Prop where
  len : b.length = 243
  n : b[0]? = some (u8 l.length)
  t : b[1]? = some (u8 (243 - sumL (l.take k)))
  pos : ∀ j, j < k → b[2 + 2 * j]? = some (u8 (243 - sumL (l.take (j + 1))))
  sz : ∀ j c, j < k → l[j]? = some c → b[3 + 2 * j]? = some (u8 c.p.length)
  cell : ∀ j c, j < k → l[j]? = some c → ∀ t u, c.p[t]? = some u → b[243 - sumL (l.take (j + 1)) + t]? = some u
theorem PackI.start (l : List SCell) : PackI (((zeros 243).set 1 243).set 0 (u8 l.length)) l 0 := by
  have hz : ((zeros 243).set 1 243).length = 243 := by rw [List.length_set, zeros_len]
  refine ⟨by rw [List.length_set, hz], ?_, ?_, fun j h => absurd h (by omega), fun j c h => absurd h (by omega), fun j c h => absurd h (by omega)⟩
  · rw [set_get _ _ _ (by omega), if_pos rfl]
  · rw [set_get _ _ _ (by omega), if_neg (by omega), set_get _ _ _ (by rw [zeros_len]; omega), if_pos rfl]
    simp [sumL_nil, u8]
theorem layB_len {b : List UInt8} {i t : Nat} {c : List UInt8} (hb : b.length = 243) (h : t + c.length ≤ 243) : (layB b i t c).length = 243 := by
  unfold layB
  simp only [List.length_set]
  rw [ovw_len (by omega), hb]
theorem layB_get {b : List UInt8} {i t : Nat} {c : List UInt8} (hb : b.length = 243) (h : t + c.length ≤ 243) (hi : 3 + 2 * i < 243) (j : Nat) : (layB b i t c)[j]? = if j = 3 + 2 * i then some (u8 c.length) else if j = 2 + 2 * i then some (u8 t) else if j = 1 then some (u8 t) else if j < t then b[j]? else if j < t + c.length then c[j - t]? else b[j]? := by
  unfold layB
  have l2 : (ovw b t c).length = 243 := by rw [ovw_len (by omega), hb]
  rw [set_get _ _ _ (by simp only [List.length_set]; omega), set_get _ _ _ (by simp only [List.length_set]; omega), set_get _ _ _ (by omega), ovw_get _ _ _ (by omega)]
theorem PackI.step {b : List UInt8} {m : SBody} {k : Nat} (h : PackI b m.l k) (hI : m.Inv) (hk : k < m.l.length) : PackI (layB b k (243 - sumL (m.l.take (k + 1))) m.l[k].p) m.l (k + 1) := by
  have hd := hI.dirTop
  have hs := hI.sum
  have hn := hI.n
  unfold SBody.dir at hd
  unfold SBody.sum at hs
  have h1 := sumL_take_succ m.l k hk
  have h2 := sumL_take_le m.l (k + 1)
  have hf : 243 - sumL (m.l.take (k + 1)) + m.l[k].p.length ≤ 243 := by omega
  have hg := fun j => layB_get (i := k) h.len hf (by omega) j
  refine ⟨layB_len h.len hf, ?_, ?_, ?_, ?_, ?_⟩
  · rw [hg, if_neg (by omega), if_neg (by omega), if_neg (by omega), if_pos (by omega)]
    exact h.n
  · rw [hg, if_neg (by omega), if_neg (by omega), if_pos rfl]
  · intro j hj
    rw [hg, if_neg (by omega)]
    by_cases e : j = k
    · subst e; rw [if_pos rfl]
    · rw [if_neg (by omega), if_neg (by omega), if_pos (by omega)]
      exact h.pos j (by omega)
  · intro j c hj hc
    rw [hg]
    by_cases e : j = k
    · subst e
      rw [List.getElem?_eq_getElem hk] at hc
      injection hc with hc
      rw [if_pos rfl, hc]
    · rw [if_neg (by omega), if_neg (by omega), if_neg (by omega), if_pos (by omega)]
      exact h.sz j c (by omega) hc
  · intro j c hj hc t u ht
    have htl : t < c.p.length := (List.getElem?_eq_some_iff.1 ht).1
    have hjl : j < m.l.length := by omega
    have hce : m.l[j] = c := by rw [List.getElem?_eq_getElem hjl] at hc; injection hc
    have h3 := sumL_take_succ m.l j hjl
    have h4 := sumL_take_mono m.l (show j + 1 ≤ k + 1 by omega)
    rw [hce] at h3
    rw [hg, if_neg (by omega), if_neg (by omega), if_neg (by omega)]
    by_cases e : j = k
    · subst e
      rw [if_neg (by omega), if_pos (by rw [hce]; omega), hce, show 243 - sumL (m.l.take (j + 1)) + t - (243 - sumL (m.l.take (j + 1))) = t by omega]
      exact ht
    · have h5 := sumL_take_mono m.l (show j + 1 ≤ k by omega)
      rw [if_neg (by omega), if_neg (by omega)]
      exact h.cell j c (by omega) hc t u ht
theorem PackI.done {b : List UInt8} {m : SBody} (h : PackI b m.l m.l.length) : Rel b m.pack := by
  have hp : ∀ j c, m.pack.l[j]? = some c → ∃ hj : j < m.l.length, c = ⟨243 - sumL (m.l.take (j + 1)), m.l[j].p⟩ := fun j c hc => by
    obtain ⟨hj, hc⟩ := List.getElem?_eq_some_iff.1 hc
    have hj' : j < m.l.length := by rw [← m.pack_len]; exact hj
    exact ⟨hj', by rw [← hc]; exact packL_get m.l j hj'⟩
  refine ⟨h.len, by rw [m.pack_len]; exact h.n, ?_, ?_, ?_, ?_⟩
  · have := h.t
    rw [List.take_length] at this
    exact this
  · intro i c hc
    obtain ⟨hj, rfl⟩ := hp i c hc
    exact h.pos i hj
  · intro i c hc
    obtain ⟨hj, rfl⟩ := hp i c hc
    exact h.sz i m.l[i] hj (List.getElem?_eq_getElem hj)
  · intro c hc k u hk
    obtain ⟨j, hj, rfl⟩ := List.getElem_of_mem hc
    obtain ⟨hj', e⟩ := hp j _ (List.getElem?_eq_getElem hj)
    rw [e] at hk ⊢
    exact h.cell j m.l[j] hj' (List.getElem?_eq_getElem hj') k u hk
/-! ### the bytes that are told -/

/-- Cells of no bytes lie at the top. -/
def SCell.fix (t : Nat) (c : SCell) : SCell := if c.p = [] then ⟨t, []⟩ else c
def SBody.fixed (m : SBody) : SBody := ⟨m.top, m.l.map (SCell.fix m.top)⟩
theorem SCell.fix_p (t : Nat) (c : SCell) : (c.fix t).p = c.p := by
  unfold SCell.fix
  split
  · rename_i h; exact h.symm
  · rfl
theorem SBody.fixed_len (m : SBody) : m.fixed.l.length = m.l.length := by simp [SBody.fixed]
theorem SBody.fixed_p (m : SBody) : m.fixed.l.map SCell.p = m.l.map SCell.p := by simp [SBody.fixed, SCell.fix_p, Function.comp_def]
theorem SBody.fixed_sum (m : SBody) : m.fixed.sum = m.sum := sumL_p m.fixed_p
theorem SBody.fixed_free (m : SBody) : m.fixed.free = m.free := by unfold SBody.free SBody.dir; rw [m.fixed_sum, m.fixed_len]
theorem SBody.fixed_fixed (m : SBody) : m.fixed.fixed = m.fixed := by
  unfold SBody.fixed
  simp only [List.map_map, SBody.mk.injEq, true_and]
  refine List.map_congr_left fun c _ => ?_
  simp only [Function.comp_apply, SCell.fix]
  by_cases h : c.p = []
  · simp [h]
  · simp [h]
theorem SBody.fixed_low (m : SBody) (h : m.Inv) : ∀ c ∈ m.fixed.l, m.top ≤ c.pos := by
  intro c hc
  obtain ⟨d, hd, rfl⟩ := List.mem_map.1 hc
  unfold SCell.fix
  split
  · exact Nat.le_refl _
  · rename_i hp; exact h.low d hd hp
theorem SBody.fixed_inv {m : SBody} (h : m.Inv) : m.fixed.Inv := by
  have ht := h.top
  refine ⟨?_, h.top, ?_, ?_, fun c hc _ => m.fixed_low h c hc, ?_⟩
  · have := h.dirTop
    unfold SBody.dir at *
    rw [m.fixed_len]; exact this
  · intro c hc
    obtain ⟨d, hd, rfl⟩ := List.mem_map.1 hc
    rw [SCell.fix_p]; exact h.len d hd
  · intro c hc
    obtain ⟨d, hd, rfl⟩ := List.mem_map.1 hc
    have := h.fit d hd
    unfold SCell.fix
    split
    · show m.top + 0 ≤ 243; omega
    · exact this
  · show (m.l.map (SCell.fix m.top)).Pairwise Apart
    rw [List.pairwise_map]
    refine h.apart.imp fun {x y} hxy j a b c d => ?_
    by_cases hp : x.p = []
    · rw [show SCell.fix m.top x = ⟨m.top, []⟩ from if_pos hp] at a b
      simp only [List.length_nil, Nat.add_zero] at a b
      omega
    · rw [show SCell.fix m.top x = x from if_neg hp] at a b
      by_cases hq : y.p = []
      · rw [show SCell.fix m.top y = ⟨m.top, []⟩ from if_pos hq] at c d
        simp only [List.length_nil, Nat.add_zero] at c d
        omega
      · rw [show SCell.fix m.top y = y from if_neg hq] at c d
        exact hxy j a b c d
/-- Byte j lies in a cell. -/
def SBody.has (m : SBody) (j : Nat) : Prop := ∃ c ∈ m.l, c.pos ≤ j ∧ j < c.pos + c.p.length
structure IsBytes (b : List UInt8) (m : SBody) : Prop where
  rel : Rel b m.fixed
  zero : ∀ j, 2 + 2 * m.l.length ≤ j → j < 243 → ¬ m.has j → b[j]? = some 0
theorem SBody.fixed_has (m : SBody) (j : Nat) : m.fixed.has j ↔ m.has j := by
  constructor
  · rintro ⟨c, hc, h1, h2⟩
    obtain ⟨d, hd, rfl⟩ := List.mem_map.1 hc
    by_cases hp : d.p = []
    · rw [show SCell.fix m.top d = ⟨m.top, []⟩ from if_pos hp] at h1 h2
      simp only [List.length_nil, Nat.add_zero] at h1 h2
      omega
    · rw [show SCell.fix m.top d = d from if_neg hp] at h1 h2
      exact ⟨d, hd, h1, h2⟩
  · rintro ⟨d, hd, h1, h2⟩
    have hp : d.p ≠ [] := by intro e; rw [e] at h2; simp at h2; omega
    exact ⟨d, List.mem_map.2 ⟨d, hd, by unfold SCell.fix; rw [if_neg hp]⟩, h1, h2⟩
theorem IsBytes.uniq {b b' : List UInt8} {m : SBody} (h : IsBytes b m) (h' : IsBytes b' m) : b = b' := by
  refine List.ext_getElem? fun j => ?_
  rcases Nat.lt_or_ge j 243 with hj | hj
  · rcases Nat.lt_or_ge j (2 + 2 * m.l.length) with h2 | h2
    · by_cases h0 : j = 0
      · subst h0; rw [h.rel.n, h'.rel.n]
      by_cases h1 : j = 1
      · subst h1; rw [h.rel.t, h'.rel.t]
      have hi : (j - 2) / 2 < m.fixed.l.length := by rw [m.fixed_len]; omega
      rcases (show j = 2 + 2 * ((j - 2) / 2) ∨ j = 3 + 2 * ((j - 2) / 2) by omega) with e | e
      · rw [e, h.rel.pos _ _ (List.getElem?_eq_getElem hi), h'.rel.pos _ _ (List.getElem?_eq_getElem hi)]
      · rw [e, h.rel.sz _ _ (List.getElem?_eq_getElem hi), h'.rel.sz _ _ (List.getElem?_eq_getElem hi)]
    · by_cases hh : m.has j
      · obtain ⟨c, hc, h3, h4⟩ := (m.fixed_has j).2 hh
        have hk : j - c.pos < c.p.length := by omega
        have e1 := h.rel.cell c hc (j - c.pos) _ (List.getElem?_eq_getElem hk)
        have e2 := h'.rel.cell c hc (j - c.pos) _ (List.getElem?_eq_getElem hk)
        rw [show c.pos + (j - c.pos) = j by omega] at e1 e2
        rw [e1, e2]
      · rw [h.zero j h2 hj hh, h'.zero j h2 hj hh]
  · rw [List.getElem?_eq_none (by rw [h.rel.len]; exact hj), List.getElem?_eq_none (by rw [h'.rel.len]; exact hj)]
/-! ### bytes as a body -/

def slN (b : List UInt8) : Nat := (b.getD 0 0).toNat
def slT (b : List UInt8) : Nat := (b.getD 1 0).toNat
def slAt (b : List UInt8) (i : Nat) : Nat := (b.getD (2 + 2 * i) 0).toNat
def slSz (b : List UInt8) (i : Nat) : Nat := (b.getD (3 + 2 * i) 0).toNat
def slCell (b : List UInt8) (i : Nat) : SCell := ⟨slAt b i, (b.drop (slAt b i)).take (slSz b i)⟩
def slOf (b : List UInt8) : SBody := ⟨slT b, (List.range (slN b)).map (slCell b)⟩
/-- Cell i is one, and does not lie over one ahead of it. -/
structure SlOk (b : List UInt8) (i : Nat) : Prop where
  low : slT b ≤ slAt b i
  fit : slAt b i + slSz b i ≤ 243
  len : slSz b i ≤ 78
  apart : ∀ j, j < i → ∀ k, slAt b j ≤ k → k < slAt b j + slSz b j → slAt b i ≤ k → k < slAt b i + slSz b i → False
structure Valid (b : List UInt8) : Prop where
  len : b.length = 243
  dir : 2 + 2 * slN b ≤ slT b
  top : slT b ≤ 243
  ok : ∀ i, i < slN b → SlOk b i
theorem slCell_len {b : List UInt8} (hb : b.length = 243) {i : Nat} (h : slAt b i + slSz b i ≤ 243) : (slCell b i).p.length = slSz b i := by
  show ((b.drop (slAt b i)).take (slSz b i)).length = _
  rw [List.length_take, List.length_drop]; omega
theorem Valid.inv {b : List UInt8} (h : Valid b) : (slOf b).Inv := by
  have hm : ∀ c ∈ (slOf b).l, ∃ i, i < slN b ∧ c = slCell b i := fun c hc => by
    obtain ⟨i, hi, rfl⟩ := List.mem_map.1 hc
    exact ⟨i, List.mem_range.1 hi, rfl⟩
  refine ⟨?_, h.top, ?_, ?_, ?_, ?_⟩
  · unfold SBody.dir
    have : (slOf b).l.length = slN b := by simp [slOf]
    rw [this]; exact h.dir
  · intro c hc
    obtain ⟨i, hi, rfl⟩ := hm c hc
    rw [slCell_len h.len (h.ok i hi).fit]; exact (h.ok i hi).len
  · intro c hc
    obtain ⟨i, hi, rfl⟩ := hm c hc
    rw [slCell_len h.len (h.ok i hi).fit]; exact (h.ok i hi).fit
  · intro c hc _
    obtain ⟨i, hi, rfl⟩ := hm c hc
    exact (h.ok i hi).low
  · rw [List.pairwise_iff_getElem]
    intro i j hi hj hij k a c d e
    have hi' : i < slN b := by simpa [slOf] using hi
    have hj' : j < slN b := by simpa [slOf] using hj
    have e1 : (slOf b).l[i] = slCell b i := by simp [slOf]
    have e2 : (slOf b).l[j] = slCell b j := by simp [slOf]
    rw [e1] at a c
    rw [e2] at d e
    rw [slCell_len h.len (h.ok i hi').fit] at c
    rw [slCell_len h.len (h.ok j hj').fit] at e
    exact (h.ok j hj').apart i hij k a c d e
theorem getD_some {b : List UInt8} {j : Nat} (h : j < b.length) : b[j]? = some (b.getD j 0) := by
  rw [List.getElem?_eq_getElem h, List.getD_eq_getElem?_getD, List.getElem?_eq_getElem h]; rfl
theorem u8_toNat (u : UInt8) : u8 u.toNat = u := by unfold u8; simp
theorem Valid.rel {b : List UInt8} (h : Valid b) : Rel b (slOf b) := by
  have hd := h.dir
  have ht := h.top
  have hn : (slOf b).l.length = slN b := by simp [slOf]
  have hb := h.len
  have hc : ∀ i c, (slOf b).l[i]? = some c → i < slN b ∧ c = slCell b i := fun i c hc => by
    obtain ⟨hi, hc⟩ := List.getElem?_eq_some_iff.1 hc
    exact ⟨by rw [← hn]; exact hi, by rw [← hc]; simp [slOf]⟩
  refine ⟨hb, ?_, ?_, ?_, ?_, ?_⟩
  · rw [hn, getD_some (by omega)]; unfold slN; rw [u8_toNat]
  · rw [getD_some (by omega)]; show _ = some (u8 (slT b)); unfold slT; rw [u8_toNat]
  · intro i c h1
    obtain ⟨hi, rfl⟩ := hc i c h1
    rw [getD_some (by omega)]; show _ = some (u8 (slAt b i)); unfold slAt; rw [u8_toNat]
  · intro i c h1
    obtain ⟨hi, rfl⟩ := hc i c h1
    rw [slCell_len hb (h.ok i hi).fit, getD_some (by omega)]; unfold slSz; rw [u8_toNat]
  · intro c h1 k u hk
    obtain ⟨i, hi, rfl⟩ := List.getElem_of_mem h1
    obtain ⟨hi', e⟩ := hc i _ (List.getElem?_eq_getElem hi)
    rw [e] at hk ⊢
    have hk' : ((b.drop (slAt b i)).take (slSz b i))[k]? = some u := hk
    rw [List.getElem?_take] at hk'
    split at hk'
    · rw [List.getElem?_drop] at hk'; exact hk'
    · cases hk'
/-- Bytes that hold a body, all of whose cells lie from the top on, are that one. -/
theorem Rel.valid {b : List UInt8} {m : SBody} (h : Rel b m) (hI : m.Inv) (hlow : ∀ c ∈ m.l, m.top ≤ c.pos) : Valid b ∧ slOf b = m := by
  have hn := hI.n
  have ht := hI.top
  have hd := hI.dirTop
  unfold SBody.dir at hd
  have gd : ∀ {j : Nat} {u : UInt8}, b[j]? = some u → b.getD j 0 = u := fun {j u} e => by rw [List.getD_eq_getElem?_getD, e]; rfl
  have en : slN b = m.l.length := by unfold slN; rw [gd h.n, u8_nat (by omega)]
  have et : slT b = m.top := by unfold slT; rw [gd h.t, u8_nat (by omega)]
  have ea : ∀ i (hi : i < m.l.length), slAt b i = m.l[i].pos := fun i hi => by
    have := hI.fit m.l[i] (List.getElem_mem hi)
    unfold slAt; rw [gd (h.pos i _ (List.getElem?_eq_getElem hi)), u8_nat (by omega)]
  have es : ∀ i (hi : i < m.l.length), slSz b i = m.l[i].p.length := fun i hi => by
    have := hI.fit m.l[i] (List.getElem_mem hi)
    unfold slSz; rw [gd (h.sz i _ (List.getElem?_eq_getElem hi)), u8_nat (by omega)]
  refine ⟨⟨h.len, by omega, by omega, fun i hi => ?_⟩, ?_⟩
  · rw [en] at hi
    have hm := List.getElem_mem hi
    refine ⟨by rw [et, ea i hi]; exact hlow _ hm, by rw [ea i hi, es i hi]; exact hI.fit _ hm, by rw [es i hi]; exact hI.len _ hm, fun j hj k a c d e => ?_⟩
    have hj' : j < m.l.length := by omega
    rw [ea j hj'] at a c
    rw [es j hj'] at c
    rw [ea i hi] at d e
    rw [es i hi] at e
    exact (List.pairwise_iff_getElem.1 hI.apart) j i hj' hi hj k a c d e
  · have : (slOf b).l = m.l := by
      refine List.ext_getElem (by simp [slOf, en]) fun i h1 h2 => ?_
      simp only [slOf, List.getElem_map, List.getElem_range]
      have hc := h.cut (List.getElem_mem h2)
      unfold slCell
      rw [ea i h2, es i h2, hc]
    cases m with
    | mk t l =>
      show SBody.mk (slT b) (slOf b).l = _
      rw [et, this]
theorem IsBytes.valid {b : List UInt8} {m : SBody} (h : IsBytes b m) (hI : m.Inv) : Valid b ∧ slOf b = m.fixed := h.rel.valid (SBody.fixed_inv hI) (m.fixed_low hI)
theorem IsBytes.fixed {b : List UInt8} {m : SBody} (h : IsBytes b m) : IsBytes b m.fixed := ⟨by rw [m.fixed_fixed]; exact h.rel, fun j h1 h2 h3 => h.zero j (by rw [m.fixed_len] at h1; exact h1) h2 (fun e => h3 ((m.fixed_has j).2 e))⟩
end Go.Proofs.YtkpagmfaccmiaaaGreat

/- Contracts: slot.dir and Body's top, Len, place, sum, Free, Holes, Cell. Printed by wip/tools/gen_sltprog06.py. -/

namespace Go.Proofs.YtkpagmfaccmiaaaGreat

open Go.RowKit

attribute [local go_sem] Oper.semAt_some

/-- A body of the program in memory. -/
structure BB (w : World) (g : Nat) (b : List UInt8) : Prop where
  row : w.heap[g]? = some (.cells (bvs b).toArray 96 (0, 0))
  len : b.length = 243
theorem BB.ext {w w' : World} {g : Nat} {b : List UInt8} (h : BB w g b) (hx : Ext w w') : BB w' g b := ⟨(hx.block _ (lt_of_heap h.row)).trans h.row, h.len⟩
theorem BB.cell {w : World} {g : Nat} {b : List UInt8} (h : BB w g b) {j : Nat} (hj : j < 243) : w.cell? ⟨g, j, none⟩ = some (.int .u8 ((b.getD j 0).toNat : Int)) := by
  rw [cell_of_row w g j _ _ _ h.row]
  have hl : j < b.length := by rw [h.len]; exact hj
  rw [List.getElem?_toArray, bvs_get b j hl, List.getD_eq_getElem?_getD, List.getElem?_eq_getElem hl]
  rfl
theorem BB.frozen {w : World} {g : Nat} {b : List UInt8} (h : BB w g b) (j : Nat) : w.frozen? ⟨g, j, none⟩ = false := frozen_of_row w g j _ _ h.row
/-- What stands in it from a place on. -/
theorem BB.part {w : World} {g : Nat} {b : List UInt8} (h : BB w g b) (k n : Nat) (hk : k + n ≤ 243) : RdB w (some ⟨g, k, none⟩) ((b.drop k).take n) := by
  have hl : ((b.drop k).take n).length = n := by rw [List.length_take, List.length_drop, h.len]; omega
  unfold RdB
  rw [hl]
  refine ⟨by rw [bvs_len, hl]; omega, fun _ => ⟨_, rfl, fun j u hj => ?_⟩⟩
  rw [Addr.add_lit, cell_of_row w g _ _ _ _ h.row, List.getElem?_toArray]
  have hjl : j < n := by have := (List.getElem?_eq_some_iff.1 hj).1; rw [bvs_len, hl] at this; exact this
  unfold bvs at hj ⊢
  rw [List.getElem?_map, List.getElem?_take_of_lt hjl, List.getElem?_drop] at hj
  rw [List.getElem?_map]
  exact hj
theorem Rel.slN {b : List UInt8} {m : SBody} (h : Rel b m) (hI : m.Inv) : slN b = m.l.length := by
  have := hI.n
  unfold Go.Proofs.YtkpagmfaccmiaaaGreat.slN
  rw [List.getD_eq_getElem?_getD, h.n]
  exact u8_nat (by omega)
theorem Rel.slT {b : List UInt8} {m : SBody} (h : Rel b m) (hI : m.Inv) : slT b = m.top := by
  have := hI.top
  unfold Go.Proofs.YtkpagmfaccmiaaaGreat.slT
  rw [List.getD_eq_getElem?_getD, h.t]
  exact u8_nat (by omega)
theorem Rel.slAt {b : List UInt8} {m : SBody} (h : Rel b m) (hI : m.Inv) {i : Nat} (hi : i < m.l.length) : slAt b i = m.l[i].pos := by
  have := hI.fit m.l[i] (List.getElem_mem hi)
  unfold Go.Proofs.YtkpagmfaccmiaaaGreat.slAt
  rw [List.getD_eq_getElem?_getD, h.pos i _ (List.getElem?_eq_getElem hi)]
  exact u8_nat (by omega)
theorem Rel.slSz {b : List UInt8} {m : SBody} (h : Rel b m) (hI : m.Inv) {i : Nat} (hi : i < m.l.length) : slSz b i = m.l[i].p.length := by
  have := hI.len m.l[i] (List.getElem_mem hi)
  unfold Go.Proofs.YtkpagmfaccmiaaaGreat.slSz
  rw [List.getD_eq_getElem?_getD, h.sz i _ (List.getElem?_eq_getElem hi)]
  exact u8_nat (by omega)
theorem slN_lt (b : List UInt8) : slN b < 256 := UInt8.toNat_lt _
theorem slT_lt (b : List UInt8) : slT b < 256 := UInt8.toNat_lt _
theorem slAt_lt (b : List UInt8) (i : Nat) : slAt b i < 256 := UInt8.toNat_lt _
theorem slSz_lt (b : List UInt8) (i : Nat) : slSz b i < 256 := UInt8.toNat_lt _
/-- Where a part of the array begins. -/
def arrA (g l : Nat) : Addr := if 243 = l then ⟨g, 0, none⟩ else ⟨g, l, none⟩
theorem BB.partA {w : World} {g : Nat} {b : List UInt8} (h : BB w g b) (k n : Nat) (hk : k + n ≤ 243) : RdB w (some (arrA g k)) ((b.drop k).take n) := by
  by_cases h0 : 243 = k
  · have : (b.drop k).take n = [] := by rw [List.drop_eq_nil_of_le (by rw [h.len]; omega)]; simp
    rw [this]; exact RdB.nil_ _ _
  · unfold arrA; rw [if_neg h0]; exact h.part k n hk
theorem arr_lh (g l h : Nat) (h1 : l ≤ h) (h2 : h ≤ 243) (w : World) : (Instr.sliceAt 94 (.pointer (some ⟨g, 0, none⟩)) (some (.int .i64 (l : Int))) (some (.int .i64 (h : Int))) none).run Tryz.prog w = .ok (.slice (some (arrA g l)) (h - l) (243 - l)) w := by
  have e1 : Tryz.prog.arrayLen 94 = 243 := by kernel_rfl
  rw [run_sliceAt_array_lh w 94 _ (by kernel_rfl) .i64 .i64 _ _ (by omega) (by omega) (by rw [e1]; omega)]
  rw [e1, show Tryz.prog.elem 94 = 5 from by kernel_rfl, Int.toNat_natCast, Int.toNat_natCast]
  unfold arrA
  by_cases h0 : 243 = l
  · simp only [h0, if_true]; go_simp
  · simp only [h0, if_false]; go_simp
theorem arr_l (g l : Nat) (h1 : l ≤ 243) (w : World) : (Instr.sliceAt 94 (.pointer (some ⟨g, 0, none⟩)) (some (.int .i64 (l : Int))) none none).run Tryz.prog w = .ok (.slice (some (arrA g l)) (243 - l) (243 - l)) w := by
  have e1 : Tryz.prog.arrayLen 94 = 243 := by kernel_rfl
  rw [run_sliceAt_array_l w 94 _ (by kernel_rfl) .i64 _ (by omega) (by rw [e1]; omega)]
  rw [e1, show Tryz.prog.elem 94 = 5 from by kernel_rfl, Int.toNat_natCast]
  unfold arrA
  by_cases h0 : 243 = l
  · simp only [h0, if_true]; go_simp
  · simp only [h0, if_false]; go_simp
theorem arr_h (g h : Nat) (h2 : h ≤ 243) (w : World) : (Instr.sliceAt 94 (.pointer (some ⟨g, 0, none⟩)) none (some (.int .i64 (h : Int))) none).run Tryz.prog w = .ok (.slice (some ⟨g, 0, none⟩) h 243) w := by
  have e1 : Tryz.prog.arrayLen 94 = 243 := by kernel_rfl
  rw [run_sliceAt_array_h w 94 _ (by kernel_rfl) .i64 _ (by omega) (by rw [e1]; omega)]
  rw [e1, show Tryz.prog.elem 94 = 5 from by kernel_rfl, Int.toNat_natCast]
  go_simp
theorem dir_any (i : Nat) (hi : i ≤ 100000) (w : World) : Calls Tryz.prog 73 #[.int .i64 (i : Int)] w fun e w' => e = .returned (.int .i64 ((2 + 2 * i : Nat) : Int)) ∧ w = w' := by
  have w1 : IntKind.i64.wrap (2 * (i : Int)) = 2 * (i : Int) := by rw [IntKind.wrap_i64]; omega
  have w2 : IntKind.i64.wrap (2 + 2 * (i : Int)) = ((2 + 2 * i : Nat) : Int) := by rw [IntKind.wrap_i64]; omega
  go_enter Tryz.func73, Tryz.ntmps73
  go_wp2
  go_ret
  exact ⟨rfl, rfl⟩
theorem top_any (g : Nat) (b : List UInt8) (w : World) (h : BB w g b) : Calls Tryz.prog 72 #[.pointer (some ⟨g, 0, none⟩)] w fun e w' => e = .returned (.int .i64 (slT b : Int)) ∧ w = w' := by
  have h1 : w.cell? _ = some (.int .u8 (slT b : Int)) := h.cell (j := 1) (by omega)
  have hb := slT_lt b
  obtain ⟨u, hu⟩ : ∃ u, u = slT b := ⟨_, rfl⟩
  rw [← hu] at h1 hb ⊢
  clear hu
  go_enter Tryz.func72, Tryz.ntmps72
  go_wp2
  go_ret
  exact ⟨rfl, rfl⟩
theorem blen_any (g : Nat) (b : List UInt8) (w : World) (h : BB w g b) : Calls Tryz.prog 70 #[.pointer (some ⟨g, 0, none⟩)] w fun e w' => e = .returned (.int .i64 (slN b : Int)) ∧ w = w' := by
  have h1 : w.cell? _ = some (.int .u8 (slN b : Int)) := h.cell (j := 0) (by omega)
  have hb := slN_lt b
  obtain ⟨u, hu⟩ : ∃ u, u = slN b := ⟨_, rfl⟩
  rw [← hu] at h1 hb ⊢
  clear hu
  go_enter Tryz.func70, Tryz.ntmps70
  go_wp2
  go_ret
  exact ⟨rfl, rfl⟩
theorem blen_nil (w : World) : Calls Tryz.prog 70 #[.pointer none] w fun e w' => e = .returned (.int .i64 0) ∧ w = w' := by
  go_enter Tryz.func70, Tryz.ntmps70
  go_wp2
  go_ret
  exact ⟨rfl, rfl⟩
set_option maxRecDepth 100000 in
theorem place_any (g : Nat) (b : List UInt8) (i : Nat) (w : World) (h : BB w g b) (hi : 3 + 2 * i < 243) : Calls Tryz.prog 76 #[.pointer (some ⟨g, 0, none⟩), .int .i64 (i : Int)] w fun e w' => e = .returned (.tuple #[.int .i64 (slAt b i : Int), .int .i64 (slSz b i : Int)]) ∧ Ext w w' := by
  have h1 := (h.ext (Ext.drew w)).cell (j := 2 + 2 * i) (by omega)
  have h2 := (h.ext (Ext.drew w)).cell (j := 3 + 2 * i) (by omega)
  have ha := slAt_lt b i
  have hs := slSz_lt b i
  unfold slAt at ha ⊢
  unfold slSz at hs ⊢
  have i1 : ((2 + 2 * i : Nat) : Int) < 243 := by omega
  have i2 : (0 : Int) ≤ ((2 + 2 * i : Nat) : Int) := by omega
  have i3 : ((3 + 2 * i : Nat) : Int) < 243 := by omega
  have i4 : (0 : Int) ≤ ((3 + 2 * i : Nat) : Int) := by omega
  have w1 : IntKind.i64.wrap (((2 + 2 * i : Nat) : Int) + 1) = ((3 + 2 * i : Nat) : Int) := by rw [IntKind.wrap_i64]; omega
  obtain ⟨j1, hj1⟩ : ∃ j1, j1 = 2 + 2 * i := ⟨_, rfl⟩
  obtain ⟨j2, hj2⟩ : ∃ j2, j2 = 3 + 2 * i := ⟨_, rfl⟩
  have hd := dir_any i (by omega) w.drew
  rw [← hj1] at h1 i1 i2 w1 hd ha ⊢
  rw [← hj2] at h2 i3 i4 w1 hs ⊢
  clear hj1 hj2
  obtain ⟨u1, hu1⟩ : ∃ u1, u1 = (b.getD j1 0).toNat := ⟨_, rfl⟩
  obtain ⟨u2, hu2⟩ : ∃ u2, u2 = (b.getD j2 0).toNat := ⟨_, rfl⟩
  rw [← hu1] at h1 ha ⊢
  rw [← hu2] at h2 hs ⊢
  clear hu1 hu2
  have wu1 : IntKind.i64.wrap (u1 : Int) = (u1 : Int) := by rw [IntKind.wrap_i64]; omega
  have wu2 : IntKind.i64.wrap (u2 : Int) = (u2 : Int) := by rw [IntKind.wrap_i64]; omega
  go_enter Tryz.func76, Tryz.ntmps76
  go_wp2_with fail
  refine rg_start (by kernel_rfl) ?_
  refine rg_take 0 rfl (by kernel_rfl) (by kernel_rfl) (by kernel_rfl) (fun _ _ _ _ h => h) (by rfl) ⟨_, fun w' hx => by (go_simp <;> with_reducible rfl), ?_⟩
  simp only [Act.put, List.setIfInBounds_toArray, List.set_cons_zero, List.set_cons_succ]
  refine rg_take 1 rfl (by kernel_rfl) (by kernel_rfl) (by kernel_rfl) (fun _ _ _ _ h => h) (by rfl) ⟨_, fun w' hx => by (go_simp <;> with_reducible rfl), ?_⟩
  simp only [Act.put, List.setIfInBounds_toArray, List.set_cons_zero, List.set_cons_succ]
  refine rg_take 3 rfl (by kernel_rfl) (by kernel_rfl) (by kernel_rfl) (fun _ _ _ _ h => h) (by rfl) ⟨_, fun w' hx => by (go_simp <;> with_reducible rfl), ?_⟩   -- t9 := nilCheck t6
  simp only [Act.put, List.setIfInBounds_toArray, List.set_cons_zero, List.set_cons_succ]
  refine rg_take 4 rfl (by kernel_rfl) (by kernel_rfl) (by kernel_rfl) (fun _ _ _ _ h => h) (by rfl) ⟨_, fun w' hx => by (go_simp <;> with_reducible rfl), ?_⟩   -- t10 := fieldAddr 47 t9 0
  simp only [Act.put, List.setIfInBounds_toArray, List.set_cons_zero, List.set_cons_succ]
  refine rg_take 8 rfl (by kernel_rfl) (by kernel_rfl) (by kernel_rfl) (fun _ _ _ _ h => h) (by rfl) ⟨_, fun w' hx => by (go_simp <;> with_reducible rfl), ?_⟩
  simp only [Act.put, List.setIfInBounds_toArray, List.set_cons_zero, List.set_cons_succ]
  refine rg_take 9 rfl (by kernel_rfl) (by kernel_rfl) (by kernel_rfl) (fun _ _ _ _ h => h) (by rfl) ⟨_, fun w' hx => by (go_simp <;> with_reducible rfl), ?_⟩
  simp only [Act.put, List.setIfInBounds_toArray, List.set_cons_zero, List.set_cons_succ]
  refine rg_take 12 rfl (by kernel_rfl) (by kernel_rfl) (by kernel_rfl) (fun _ _ _ _ h => h) (by rfl) ⟨_, fun w' hx => by (go_simp <;> with_reducible rfl), ?_⟩   -- t18 := nilCheck t14
  simp only [Act.put, List.setIfInBounds_toArray, List.set_cons_zero, List.set_cons_succ]
  refine rg_take 13 rfl (by kernel_rfl) (by kernel_rfl) (by kernel_rfl) (fun _ _ _ _ h => h) (by rfl) ⟨_, fun w' hx => by (go_simp <;> with_reducible rfl), ?_⟩   -- t19 := fieldAddr 47 t18 0
  simp only [Act.put, List.setIfInBounds_toArray, List.set_cons_zero, List.set_cons_succ]
  refine rg_call 2 hd rfl (by kernel_rfl) (by rfl) (by go_simp) ?_
  rintro e w' ⟨rfl, rfl⟩
  refine ⟨_, rfl, Ext.refl _, ?_⟩
  simp only [Act.put, List.setIfInBounds_toArray, List.set_cons_zero, List.set_cons_succ]
  refine rg_take 5 rfl (by kernel_rfl) (by kernel_rfl) (by kernel_rfl) (fun _ _ _ _ h => h) (by rfl) ⟨_, fun w' hx => by (go_simp <;> with_reducible rfl), ?_⟩   -- t11 := indexAddr 45 t10 t8
  simp only [Act.put, List.setIfInBounds_toArray, List.set_cons_zero, List.set_cons_succ]
  refine rg_take 6 rfl (by kernel_rfl) (by kernel_rfl) (by kernel_rfl) (fun _ _ _ _ h => h) (by rfl) ⟨_, fun w' hx => by have hcx := hx.load h1; (go_simp <;> with_reducible rfl), ?_⟩
  simp only [Act.put, List.setIfInBounds_toArray, List.set_cons_zero, List.set_cons_succ]
  refine rg_take 7 rfl (by kernel_rfl) (by kernel_rfl) (by kernel_rfl) (fun _ _ _ _ h => h) (by rfl) ⟨.int .i64 (u1 : Int), fun w' hx => by (go_simp <;> with_reducible rfl), ?_⟩
  simp only [Act.put, List.setIfInBounds_toArray, List.set_cons_zero, List.set_cons_succ]
  refine rg_call 10 hd rfl (by kernel_rfl) (by rfl) (by go_simp) ?_
  rintro e w' ⟨rfl, rfl⟩
  refine ⟨_, rfl, Ext.refl _, ?_⟩
  simp only [Act.put, List.setIfInBounds_toArray, List.set_cons_zero, List.set_cons_succ]
  refine rg_take 11 rfl (by kernel_rfl) (by kernel_rfl) (by kernel_rfl) (fun _ _ _ _ h => h) (by rfl) ⟨.int .i64 (j2 : Int), fun w' hx => by (go_simp <;> with_reducible rfl), ?_⟩
  simp only [Act.put, List.setIfInBounds_toArray, List.set_cons_zero, List.set_cons_succ]
  refine rg_take 14 rfl (by kernel_rfl) (by kernel_rfl) (by kernel_rfl) (fun _ _ _ _ h => h) (by rfl) ⟨_, fun w' hx => by (go_simp <;> with_reducible rfl), ?_⟩   -- t20 := indexAddr 45 t19 t17
  simp only [Act.put, List.setIfInBounds_toArray, List.set_cons_zero, List.set_cons_succ]
  refine rg_take 15 rfl (by kernel_rfl) (by kernel_rfl) (by kernel_rfl) (fun _ _ _ _ h => h) (by rfl) ⟨_, fun w' hx => by have hcx := hx.load h2; (go_simp <;> with_reducible rfl), ?_⟩
  simp only [Act.put, List.setIfInBounds_toArray, List.set_cons_zero, List.set_cons_succ]
  refine rg_take 16 rfl (by kernel_rfl) (by kernel_rfl) (by kernel_rfl) (fun _ _ _ _ h => h) (by rfl) ⟨.int .i64 (u2 : Int), fun w' hx => by (go_simp <;> with_reducible rfl), ?_⟩
  simp only [Act.put, List.setIfInBounds_toArray, List.set_cons_zero, List.set_cons_succ]
  refine rg_take 17 rfl (by kernel_rfl) (by kernel_rfl) (by kernel_rfl) (fun _ _ _ _ h => h) (by rfl) ⟨_, fun w' hx => by (go_simp <;> with_reducible rfl), ?_⟩
  simp only [Act.put, List.setIfInBounds_toArray, List.set_cons_zero, List.set_cons_succ]
  refine rg_take 18 rfl (by kernel_rfl) (by kernel_rfl) (by kernel_rfl) (fun _ _ _ _ h => h) (by rfl) ⟨_, fun w' hx => by (go_simp <;> with_reducible rfl), ?_⟩
  simp only [Act.put, List.setIfInBounds_toArray, List.set_cons_zero, List.set_cons_succ]
  refine rg_done (by kernel_rfl) ?_
  go_wp2_with fail
  refine bodyPost_ret (results_tmp2 rfl _ _ _) rfl ?_
  exact ⟨rfl, Ext.drew w⟩
/-- The state of a body: its bytes hold it. -/
structure SAt (w : World) (g : Nat) (b : List UInt8) (m : SBody) : Prop where
  bb : BB w g b
  rel : Rel b m
  inv : m.Inv
theorem SAt.ext {w w' : World} {g : Nat} {b : List UInt8} {m : SBody} (h : SAt w g b m) (hx : Ext w w') : SAt w' g b m := ⟨h.bb.ext hx, h.rel, h.inv⟩
theorem SAt.n {w : World} {g : Nat} {b : List UInt8} {m : SBody} (h : SAt w g b m) : slN b = m.l.length := h.rel.slN h.inv
set_option maxRecDepth 100000 in
theorem ssumP_any (g : Nat) (b : List UInt8) (m : SBody) (w : World) (h : SAt w g b m) : Calls Tryz.prog 92 #[.pointer (some ⟨g, 0, none⟩)] w fun e w' => e = .returned (.int .i64 (m.sum : Int)) ∧ Ext w w' := by
  have hn := h.inv.n
  have hs := h.inv.sum
  have hL := blen_any g b w h.bb
  rw [h.n] at hL
  go_enter Tryz.func92, Tryz.ntmps92
  go_wp2_with (go_at_call 70; refine hL.mono ?_; rintro e1 w1 ⟨rfl, rfl⟩)
  go_loopw [2, 8] (fun s i wr => ∃ k : Nat, k ≤ m.l.length ∧ i = .int .i64 k ∧ s = .int .i64 (sumL (m.l.take k) : Nat) ∧ Ext w wr) (fun _ i _ => m.l.length - (intOf i).toNat)
  case atStart => exact ⟨0, by omega, rfl, rfl, Ext.refl w⟩
  case round =>
    obtain ⟨k, hk, rfl, rfl, hE⟩ := hrel
    by_cases hkl : k < m.l.length
    · have hp := place_any g b k wr (h.bb.ext hE) (by omega)
      rw [h.rel.slAt h.inv hkl, h.rel.slSz h.inv hkl] at hp
      have hsn := sumL_take_succ m.l k hkl
      have hle := sumL_take_le m.l (k + 1)
      unfold SBody.sum at hs
      obtain ⟨s1, hs1⟩ : ∃ s1, s1 = sumL (m.l.take k) := ⟨_, rfl⟩
      obtain ⟨c, hc⟩ : ∃ c, c = m.l[k] := ⟨_, rfl⟩
      rw [← hs1, ← hc] at hsn
      rw [← hc] at hp
      rw [← hs1]
      have w1 : IntKind.i64.wrap ((s1 : Int) + (c.p.length : Int)) = ((s1 + c.p.length : Nat) : Int) := by rw [IntKind.wrap_i64]; omega
      have Hsn := Lib.hid hsn
      clear hsn hs1 hc hle
      go_wp2_with (go_at_call 76; refine hp.mono ?_; rintro e2 w2 ⟨rfl, hb2⟩)
      go_roundw
      case rel => exact ⟨k + 1, by omega, by go_num, by rw [Hsn.out]; rfl, Ext.tr hE hb2⟩
      case measure => simp [intOf]; omega
    · obtain rfl : k = m.l.length := by omega
      go_wp2
      go_ret
      rw [List.take_length]
      exact ⟨rfl, hE⟩
set_option maxRecDepth 100000 in
theorem free_any (g : Nat) (b : List UInt8) (m : SBody) (w : World) (h : SAt w g b m) : Calls Tryz.prog 71 #[.pointer (some ⟨g, 0, none⟩)] w fun e w' => e = .returned (.int .i64 (m.free : Int)) ∧ Ext w w' := by
  have hn := h.inv.n
  have hs := h.inv.sum
  have hL := blen_any g b w h.bb
  have hf := h.inv.freeI
  rw [h.n] at hL
  have hd := dir_any m.l.length (by omega) w
  have hsm := ssumP_any g b m w h
  obtain ⟨d, hdd⟩ : ∃ d, d = 2 + 2 * m.l.length := ⟨_, rfl⟩
  rw [← hdd] at hd
  have w1 : IntKind.i64.wrap (243 - (d : Int)) = 243 - (d : Int) := by rw [IntKind.wrap_i64]; omega
  have w2 : IntKind.i64.wrap (243 - (d : Int) - (m.sum : Int)) = (m.free : Int) := by rw [IntKind.wrap_i64]; omega
  clear hdd hf
  go_enter Tryz.func71, Tryz.ntmps71
  go_wp2_with (first | (go_at_call 70; refine hL.mono ?_; rintro e1 w1 ⟨rfl, rfl⟩) | (go_at_call 73; refine hd.mono ?_; rintro e2 w2 ⟨rfl, rfl⟩) | (go_at_call 92; refine hsm.mono ?_; rintro e3 w3 ⟨rfl, hb3⟩))
  go_ret
  exact ⟨rfl, hb3⟩
theorem free_nil (w : World) : Calls Tryz.prog 71 #[.pointer none] w fun e w' => e = .returned (.int .i64 0) ∧ w = w' := by
  go_enter Tryz.func71, Tryz.ntmps71
  go_wp2
  go_ret
  exact ⟨rfl, rfl⟩
/-- A cell's bytes; none, if there is no such. -/
def SBody.cellP (m : SBody) (i : Int) : List UInt8 := if 0 ≤ i then ((m.l[i.toNat]?).map SCell.p).getD [] else []
def CellR (m : SBody) (i : Int) (w : World) (e : Ending) (w' : World) : Prop := ∃ A' c', e = .returned (.slice A' (m.cellP i).length c') ∧ Own w' w.heap.size 5 1 A' (m.cellP i).length c' (bvs (m.cellP i)) ∧ Ext w w'
set_option maxRecDepth 100000 in
theorem cell_any (g : Nat) (b : List UInt8) (m : SBody) (i : Int) (w : World) (h : SAt w g b m) : Calls Tryz.prog 87 #[.pointer (some ⟨g, 0, none⟩), .int .i64 i] w (CellR m i w) := by
  have hn := h.inv.n
  have hL := blen_any g b w h.bb
  rw [h.n] at hL
  by_cases h0 : i < 0
  · have he : m.cellP i = [] := by unfold SBody.cellP; rw [if_neg (by omega)]
    go_enter Tryz.func87, Tryz.ntmps87
    go_wp2
    go_ret
    unfold CellR
    rw [he]
    exact ⟨none, 0, rfl, Own.none_ _ _ _ _ _, Ext.refl w⟩
  · by_cases hi : (m.l.length : Int) ≤ i
    · have he : m.cellP i = [] := by unfold SBody.cellP; rw [if_pos (by omega), List.getElem?_eq_none (by omega)]; rfl
      go_enter Tryz.func87, Tryz.ntmps87
      go_wp2_with (go_at_call 70; refine hL.mono ?_; rintro e1 w1 ⟨rfl, rfl⟩)
      go_ret
      unfold CellR
      rw [he]
      exact ⟨none, 0, rfl, Own.none_ _ _ _ _ _, Ext.refl w⟩
    · obtain ⟨k, rfl⟩ : ∃ k : Nat, i = k := ⟨i.toNat, by omega⟩
      have hk : k < m.l.length := by omega
      have he : m.cellP k = m.l[k].p := by unfold SBody.cellP; rw [if_pos (by omega), Int.toNat_natCast, List.getElem?_eq_getElem hk]; rfl
      have hp := place_any g b k w h.bb (by omega)
      rw [h.rel.slAt h.inv hk, h.rel.slSz h.inv hk] at hp
      have hfit := h.inv.fit _ (List.getElem_mem hk)
      have hcut := h.rel.cut (List.getElem_mem hk)
      have hrd := h.bb.partA m.l[k].pos m.l[k].p.length (by omega)
      rw [hcut] at hrd
      unfold CellR
      rw [he]
      obtain ⟨c, hc⟩ : ∃ c, c = m.l[k] := ⟨_, rfl⟩
      rw [← hc] at hp hfit hrd ⊢
      obtain ⟨j, hj⟩ : ∃ j, j = c.pos + c.p.length := ⟨_, rfl⟩
      have w1 : IntKind.i64.wrap ((c.pos : Int) + (c.p.length : Int)) = (j : Int) := by rw [IntKind.wrap_i64]; omega
      have hsl := fun w' => arr_lh g c.pos j (by omega) (by omega) w'
      rw [show j - c.pos = c.p.length by omega] at hsl
      have hclone := fun w2 (hx : Ext w w2) => clone_any (some (arrA g c.pos)) c.p (243 - c.pos) w2 (hrd.below hx) (by omega)
      clear hcut he hc hj hfit
      go_enter Tryz.func87, Tryz.ntmps87
      go_wp2_with (first | (go_at_call 70; refine hL.mono ?_; rintro e1 w1 ⟨rfl, rfl⟩) | (go_at_call 76; refine hp.mono ?_; rintro e2 w2 ⟨rfl, hb2⟩) | (go_at_call 64; refine (hclone w2 hb2).mono ?_; rintro e3 w3 ⟨A', c', rfl, ho3, hb3⟩))
      go_ret
      exact ⟨A', c', rfl, ho3.mono hb2.size, Ext.tr hb2 hb3⟩
end Go.Proofs.YtkpagmfaccmiaaaGreat

/- Contracts: slot.New and Body's lay, Pack. Printed by wip/tools/gen_sltwrite06.py. -/

namespace Go.Proofs.YtkpagmfaccmiaaaGreat

open Go.RowKit

attribute [local go_sem] Oper.semAt_some

theorem BB.set {w : World} {g : Nat} {b : List UInt8} (h : BB w g b) (j : Nat) (u : UInt8) : BB (w.setCell ⟨g, j, none⟩ (.int .u8 (u.toNat : Int))) g (b.set j u) := by
  refine ⟨?_, by rw [List.length_set]; exact h.len⟩
  rw [heap_setCell_same w g j _ _ _ h.row]
  congr 2
  apply Array.ext'
  simp only [Array.toList_setIfInBounds, bvs, List.map_set]
  rfl
theorem grown_cell (w : World) (g j : Nat) (v : Value) : w.grownBy (w.setCell ⟨g, j, none⟩ v) (some g) :=
  ⟨rfl, rfl, rfl, by simp [World.setCell], fun i _ hn => Below.heap_setCell w ⟨g, j, none⟩ v i (fun e => hn (by rw [e]))⟩
set_option maxRecDepth 100000 in
theorem snew_any (w : World) : Calls Tryz.prog 42 #[] w fun e w' => e = .returned (.pointer (some ⟨w.heap.size, 0, none⟩)) ∧ BB w' w.heap.size ((zeros 243).set 1 243) ∧ Ext w w' := by
  have hz0 : (Tryz.prog.info? 96).bind (·.zero) = some (.agg (bvs (zeros 243)).toArray) := by kernel_rfl
  obtain ⟨Z, hZ⟩ : ∃ Z, Z = (bvs (zeros 243)).toArray := ⟨_, rfl⟩
  rw [← hZ] at hz0
  have hz : ∀ w', (zeroValue 96).run Tryz.prog w' = .ok (.agg Z) w' := fun w' => by
    cases hi : Tryz.prog.info? 96 with
    | none => rw [hi] at hz0; cases hz0
    | some i =>
      rw [hi] at hz0
      have hz0 : i.zero = some (.agg Z) := hz0
      simp [zeroValue, typeInfo, hi, hz0]
  have hb0 : BB (w.alloc (.cells Z 96)) w.heap.size (zeros 243) := ⟨by rw [← hZ]; exact heap_alloc_new w _, zeros_len _⟩
  have c1 := hb0.cell (j := 1) (by omega)
  have f1 := hb0.frozen 1
  have HZ := Lib.hid hZ
  clear hZ hz0
  go_enter Tryz.func42, Tryz.ntmps42
  go_wp2_with fail
  go_ret
  refine ⟨rfl, ⟨?_, by rw [List.length_set, zeros_len]⟩, Ext.alloc _ _⟩
  rw [heap_alloc_new, HZ.out]
  congr 2
set_option maxRecDepth 100000 in
theorem lay_any (g : Nat) (b : List UInt8) (i : Nat) (C : Option Addr) (c : List UInt8) (cc : Nat) (w : World) (h : BB w g b) (hC : RdB w C c) (hi : 3 + 2 * i < 243) (hc : c.length ≤ slT b) (ht : slT b ≤ 243) (hcl : c.length ≤ 78) :
    Calls Tryz.prog 75 #[.pointer (some ⟨g, 0, none⟩), .int .i64 (i : Int), .slice C c.length cc] w fun e w' => e = .returned (.tuple #[]) ∧ BB w' g (layB b i (slT b - c.length) c) ∧ w.grownBy w' (some g) := by
  have hT := top_any g b w h
  obtain ⟨t, ht2⟩ : ∃ t, t = slT b - c.length := ⟨_, rfl⟩
  have w1 : IntKind.i64.wrap ((slT b : Int) - (c.length : Int)) = (t : Int) := by rw [IntKind.wrap_i64]; omega
  have htc : t + c.length ≤ 243 := by omega
  rw [← ht2]
  have hsl := fun w' => arr_l g t (by omega) w'
  have hA : c = [] ∨ some (arrA g t) = some ⟨g, t, none⟩ := by
    by_cases h0 : c = []
    · exact .inl h0
    · have := List.length_pos_iff.2 h0
      exact .inr (by unfold arrA; rw [if_neg (by omega)])
  obtain ⟨b1, hb1⟩ : ∃ b1, b1 = ovw b t c := ⟨_, rfl⟩
  have hb1l : b1.length = 243 := by rw [hb1, ovw_len (by rw [h.len]; exact htc), h.len]
  have hlen := h.len
  have ut : IntKind.u8.wrap (t : Int) = (t : Int) := by simp [IntKind.wrap, IntKind.bits, IntKind.signed]; omega
  have uc : IntKind.u8.wrap (c.length : Int) = (c.length : Int) := by simp [IntKind.wrap, IntKind.bits, IntKind.signed]; omega
  have n1 : ((u8 t).toNat : Int) = (t : Int) := by rw [u8_nat (by omega)]
  have n2 : ((u8 c.length).toNat : Int) = (c.length : Int) := by rw [u8_nat (by omega)]
  have htb := slT_lt b
  obtain ⟨j1, hj1⟩ : ∃ j1, j1 = 2 + 2 * i := ⟨_, rfl⟩
  obtain ⟨j2, hj2⟩ : ∃ j2, j2 = 3 + 2 * i := ⟨_, rfl⟩
  have i1 : (j1 : Int) < 243 := by omega
  have i2 : (0 : Int) ≤ (j1 : Int) := by omega
  have i3 : (j2 : Int) < 243 := by omega
  have i4 : (0 : Int) ≤ (j2 : Int) := by omega
  have wj : IntKind.i64.wrap ((j1 : Int) + 1) = (j2 : Int) := by rw [IntKind.wrap_i64]; omega
  have hd : ∀ w2, Calls Tryz.prog 73 #[.int .i64 (i : Int)] w2 fun e w' => e = .returned (.int .i64 (j1 : Int)) ∧ w2 = w' := fun w2 => by rw [hj1]; exact dir_any i (by omega) w2
  obtain ⟨s, hs⟩ : ∃ s, s = slT b := ⟨_, rfl⟩
  rw [← hs] at hT w1 htb hc ht
  have Hb1 := Lib.hid hb1
  have Hj1 := Lib.hid hj1
  have Hj2 := Lib.hid hj2
  have Hn1 := Lib.hid n1
  have Hn2 := Lib.hid n2
  have Hrow := Lib.hid h.row
  clear ht2 hs hb1 hj1 hj2 n1 n2 h
  go_enter Tryz.func75, Tryz.ntmps75
  go_wp2_with (first | (go_at_call 72; refine hT.mono ?_; rintro e1 w1' ⟨rfl, rfl⟩) | (refine wpList_copyB (by rfl) (.tmp 16) (.tmp 17) 25 rfl elemB g t (243 - t) (243 - t) (some (arrA g t)) rfl C cc b c rfl 96 hA (by omega) Hrow.out (by omega) hC ?_; intro w2 hr2 hg2; refine Hid.out ?_))
  rw [← Hb1.out] at hr2
  have B2 : BB w2 g b1 := ⟨hr2, hb1l⟩
  have c1 := B2.cell (j := 1) (by omega)
  have f1 := B2.frozen 1
  have B3 := B2.set 1 (u8 t)
  rw [Hn1.out] at B3
  refine Lib.hid ?_
  go_wp2_with fail
  obtain ⟨w3, hw3⟩ : ∃ w3, w3 = w2.setCell ⟨g, 1, none⟩ (.int .u8 (t : Int)) := ⟨_, rfl⟩
  have hg3 : w.grownBy w3 (some g) := by rw [hw3]; exact grown_tr hg2 (grown_cell _ _ _ _)
  rw [← hw3] at B3 ⊢
  clear hw3 hr2 hg2 c1 f1
  have B3d := B3.ext (Ext.drew w3)
  have c2 := B3d.cell (j := j1) (by omega)
  have f2 := B3d.frozen j1
  have B4 := B3d.set j1 (u8 t)
  rw [Hn1.out] at B4
  have B4' := B3.set j1 (u8 t)
  rw [Hn1.out] at B4'
  have c3 := B4'.cell (j := j2) (by omega)
  have f3 := B3.frozen j2
  have B5 := B4.set j2 (u8 c.length)
  rw [Hn2.out] at B5
  have hd3 := hd w3.drew
  refine re_start [3, 4, 6, 9, 10, 11, 16, 17] (by kernel_rfl) ?_
  refine re_take 0 (by rfl) rfl (by kernel_rfl) (by kernel_rfl) (by kernel_rfl) (fun _ _ _ _ h => h) (by rfl) ⟨_, fun w' hx => by (go_simp <;> with_reducible rfl), ?_⟩
  simp only [Act.put, List.setIfInBounds_toArray, List.set_cons_zero, List.set_cons_succ]
  refine re_take 1 (by rfl) rfl (by kernel_rfl) (by kernel_rfl) (by kernel_rfl) (fun _ _ _ _ h => h) (by rfl) ⟨_, fun w' hx => by (go_simp <;> with_reducible rfl), ?_⟩
  simp only [Act.put, List.setIfInBounds_toArray, List.set_cons_zero, List.set_cons_succ]
  refine re_takeA 3 rfl (by kernel_rfl) (by kernel_rfl) (by kernel_rfl) (fun _ _ _ _ h => h) (by rfl) ⟨_, fun w' => by (go_simp <;> with_reducible rfl), ?_⟩
  simp only [Act.put, List.setIfInBounds_toArray, List.set_cons_zero, List.set_cons_succ]
  refine re_takeA 4 rfl (by kernel_rfl) (by kernel_rfl) (by kernel_rfl) (fun _ _ _ _ h => h) (by rfl) ⟨_, fun w' => by (go_simp <;> with_reducible rfl), ?_⟩
  simp only [Act.put, List.setIfInBounds_toArray, List.set_cons_zero, List.set_cons_succ]
  refine re_take 7 (by rfl) rfl (by kernel_rfl) (by kernel_rfl) (by kernel_rfl) (fun _ _ _ _ h => h) (by rfl) ⟨_, fun w' hx => by (go_simp <;> with_reducible rfl), ?_⟩
  simp only [Act.put, List.setIfInBounds_toArray, List.set_cons_zero, List.set_cons_succ]
  refine re_take 8 (by rfl) rfl (by kernel_rfl) (by kernel_rfl) (by kernel_rfl) (fun _ _ _ _ h => h) (by rfl) ⟨.int .u8 (t : Int), fun w' hx => by (go_simp <;> with_reducible rfl), ?_⟩
  simp only [Act.put, List.setIfInBounds_toArray, List.set_cons_zero, List.set_cons_succ]
  refine re_takeA 9 rfl (by kernel_rfl) (by kernel_rfl) (by kernel_rfl) (fun _ _ _ _ h => h) (by rfl) ⟨_, fun w' => by (go_simp <;> with_reducible rfl), ?_⟩
  simp only [Act.put, List.setIfInBounds_toArray, List.set_cons_zero, List.set_cons_succ]
  refine re_takeA 10 rfl (by kernel_rfl) (by kernel_rfl) (by kernel_rfl) (fun _ _ _ _ h => h) (by rfl) ⟨_, fun w' => by (go_simp <;> with_reducible rfl), ?_⟩   -- t35 := len(t34)
  simp only [Act.put, List.setIfInBounds_toArray, List.set_cons_zero, List.set_cons_succ]
  refine re_takeA 11 rfl (by kernel_rfl) (by kernel_rfl) (by kernel_rfl) (fun _ _ _ _ h => h) (by rfl) ⟨.int .u8 (c.length : Int), fun w' => by (go_simp <;> with_reducible rfl), ?_⟩
  simp only [Act.put, List.setIfInBounds_toArray, List.set_cons_zero, List.set_cons_succ]
  refine re_take 12 (by rfl) rfl (by kernel_rfl) (by kernel_rfl) (by kernel_rfl) (fun _ _ _ _ h => h) (by rfl) ⟨_, fun w' hx => by (go_simp <;> with_reducible rfl), ?_⟩   -- t37 := nilCheck t25
  simp only [Act.put, List.setIfInBounds_toArray, List.set_cons_zero, List.set_cons_succ]
  refine re_take 13 (by rfl) rfl (by kernel_rfl) (by kernel_rfl) (by kernel_rfl) (fun _ _ _ _ h => h) (by rfl) ⟨_, fun w' hx => by (go_simp <;> with_reducible rfl), ?_⟩   -- t38 := fieldAddr 47 t37 0
  simp only [Act.put, List.setIfInBounds_toArray, List.set_cons_zero, List.set_cons_succ]
  refine re_takeA 16 rfl (by kernel_rfl) (by kernel_rfl) (by kernel_rfl) (fun _ _ _ _ h => h) (by rfl) ⟨_, fun w' => by (go_simp <;> with_reducible rfl), ?_⟩   -- t40 := nilCheck t28
  simp only [Act.put, List.setIfInBounds_toArray, List.set_cons_zero, List.set_cons_succ]
  refine re_takeA 17 rfl (by kernel_rfl) (by kernel_rfl) (by kernel_rfl) (fun _ _ _ _ h => h) (by rfl) ⟨_, fun w' => by (go_simp <;> with_reducible rfl), ?_⟩   -- t41 := fieldAddr 47 t40 0
  simp only [Act.put, List.setIfInBounds_toArray, List.set_cons_zero, List.set_cons_succ]
  refine re_call 2 hd3 rfl (by kernel_rfl) (by rfl) (by go_simp) ?_
  rintro e w' ⟨rfl, rfl⟩
  refine ⟨_, rfl, Ext.refl _, ?_⟩
  simp only [Act.put, List.setIfInBounds_toArray, List.set_cons_zero, List.set_cons_succ]
  refine re_call 5 hd3 rfl (by kernel_rfl) (by rfl) (by go_simp) ?_
  rintro e w' ⟨rfl, rfl⟩
  refine ⟨_, rfl, Ext.refl _, ?_⟩
  simp only [Act.put, List.setIfInBounds_toArray, List.set_cons_zero, List.set_cons_succ]
  refine re_takeA 6 rfl (by kernel_rfl) (by kernel_rfl) (by kernel_rfl) (fun _ _ _ _ h => h) (by rfl) ⟨.int .i64 (j2 : Int), fun w' => by (go_simp <;> with_reducible rfl), ?_⟩
  simp only [Act.put, List.setIfInBounds_toArray, List.set_cons_zero, List.set_cons_succ]
  refine re_take 14 (by rfl) rfl (by kernel_rfl) (by kernel_rfl) (by kernel_rfl) (fun _ _ _ _ h => h) (by rfl) ⟨_, fun w' hx => by (go_simp <;> with_reducible rfl), ?_⟩   -- t39 := indexAddr 45 t38 t27
  simp only [Act.put, List.setIfInBounds_toArray, List.set_cons_zero, List.set_cons_succ]
  refine re_store 15 rfl (by kernel_rfl) (by kernel_rfl) (by rfl) ⟨_, by (go_simp <;> rfl), ?_⟩
  simp only [Act.put]
  refine re_take 18 (by rfl) rfl (by kernel_rfl) (by kernel_rfl) (by kernel_rfl) (fun _ _ _ _ h => h) (by rfl) ⟨_, fun w' hx => by (go_simp <;> with_reducible rfl), ?_⟩   -- t42 := indexAddr 45 t41 t31
  simp only [Act.put, List.setIfInBounds_toArray, List.set_cons_zero, List.set_cons_succ]
  refine re_store 19 rfl (by kernel_rfl) (by kernel_rfl) (by rfl) ⟨_, by (go_simp <;> rfl), ?_⟩
  simp only [Act.put]
  refine re_done (by kernel_rfl) ?_
  go_wp2_with fail
  refine bodyPost_end (results_none rfl _ _ _) rfl ?_
  refine ⟨rfl, ?_, grown_tr (grown_tr (grown_tr hg3 (grown_ext (Ext.drew w3) _)) (grown_cell _ _ _ _)) (grown_cell _ _ _ _)⟩
  unfold layB
  rw [← Hb1.out, ← Hj1.out, ← Hj2.out]
  exact B5
theorem binfo {b : List UInt8} (h : b.length = 243) : (Tryz.prog.info? 96).map (·.size) = some (bvs b).toArray.size := by
  rw [show (bvs b).toArray.size = 243 by rw [List.size_toArray, bvs_len, h]]; kernel_rfl
theorem bone (b : List UInt8) : (bvs b).toArray.all (·.oneCell') = true := by
  rw [Array.all_eq_true_iff_forall_mem]
  intro x hx
  exact bvs_one b x (by simpa using hx)
theorem below_row {B : Nat} {w w1 w2 : World} {g : Nat} (h : Below B w w1) (hg : w1.grownBy w2 (some g)) (hB : B ≤ g) (hw : B ≤ w1.heap.size) : Below B w w2 := h.grown hg hw (fun k e => by injection e with e; omega)
set_option maxRecDepth 100000 in
theorem pack_any (g : Nat) (b : List UInt8) (m : SBody) (w : World) (h : SAt w g b m) :
    Calls Tryz.prog 74 #[.pointer (some ⟨g, 0, none⟩)] w fun e w' => e = .returned (.tuple #[]) ∧ (∃ b', SAt w' g b' m.pack) ∧ w.grownBy w' (some g) := by
  have hn := h.inv.n
  have hnew := snew_any w
  have hn0 : slN b = m.l.length := h.n
  have Hh := Lib.hid h
  clear h
  go_enter Tryz.func74, Tryz.ntmps74
  go_wp2_with (go_at_call 42; refine hnew.mono ?_; rintro e1 w1 ⟨rfl, hB1, hx1⟩; refine Hid.out ?_)
  have hgs := lt_of_heap Hh.out.bb.row
  have hB1d := hB1.ext (Ext.drew w1)
  have hS1d := Hh.out.ext (Ext.tr hx1 (Ext.drew w1))
  have c0 := hB1d.cell (j := 0) (by omega)
  have f0 := hB1d.frozen 0
  have s0 : w1.drew.cell? ⟨g, 0, none⟩ = some (.int .u8 (m.l.length : Int)) := by
    have := hS1d.bb.cell (j := 0) (by omega)
    rw [this, ← hn0]; rfl
  have B2 := hB1d.set 0 (u8 m.l.length)
  rw [u8_nat (by omega)] at B2
  have HB2 := Lib.hid B2
  have Hx1 := Lib.hid hx1
  clear hB1 hB1d B2 hx1 hnew
  refine Lib.hid ?_
  go_wp2_with fail
  refine rg_start (by kernel_rfl) ?_
  refine rg_take 0 rfl (by kernel_rfl) (by kernel_rfl) (by kernel_rfl) (fun _ _ _ _ h => h) (by rfl) ⟨_, fun w' hx => by (go_simp <;> with_reducible rfl), ?_⟩
  simp only [Act.put, List.setIfInBounds_toArray, List.set_cons_zero, List.set_cons_succ]
  refine rg_take 1 rfl (by kernel_rfl) (by kernel_rfl) (by kernel_rfl) (fun _ _ _ _ h => h) (by rfl) ⟨_, fun w' hx => by (go_simp <;> with_reducible rfl), ?_⟩
  simp only [Act.put, List.setIfInBounds_toArray, List.set_cons_zero, List.set_cons_succ]
  refine rg_take 2 rfl (by kernel_rfl) (by kernel_rfl) (by kernel_rfl) (fun _ _ _ _ h => h) (by rfl) ⟨_, fun w' hx => by (go_simp <;> with_reducible rfl), ?_⟩   -- t9 := nilCheck t8
  simp only [Act.put, List.setIfInBounds_toArray, List.set_cons_zero, List.set_cons_succ]
  refine rg_take 3 rfl (by kernel_rfl) (by kernel_rfl) (by kernel_rfl) (fun _ _ _ _ h => h) (by rfl) ⟨_, fun w' hx => by (go_simp <;> with_reducible rfl), ?_⟩   -- t10 := fieldAddr 47 t9 0
  simp only [Act.put, List.setIfInBounds_toArray, List.set_cons_zero, List.set_cons_succ]
  refine rg_take 4 rfl (by kernel_rfl) (by kernel_rfl) (by kernel_rfl) (fun _ _ _ _ h => h) (by rfl) ⟨_, fun w' hx => by (go_simp <;> with_reducible rfl), ?_⟩   -- t11 := indexAddr 45 t10 0:i64
  simp only [Act.put, List.setIfInBounds_toArray, List.set_cons_zero, List.set_cons_succ]
  refine rg_take 5 rfl (by kernel_rfl) (by kernel_rfl) (by kernel_rfl) (fun _ _ _ _ h => h) (by rfl) ⟨_, fun w' hx => by have hcx := hx.load s0; (go_simp <;> with_reducible rfl), ?_⟩
  simp only [Act.put, List.setIfInBounds_toArray, List.set_cons_zero, List.set_cons_succ]
  refine rg_take 6 rfl (by kernel_rfl) (by kernel_rfl) (by kernel_rfl) (fun _ _ _ _ h => h) (by rfl) ⟨_, fun w' hx => by (go_simp <;> with_reducible rfl), ?_⟩   -- t13 := nilCheck t7
  simp only [Act.put, List.setIfInBounds_toArray, List.set_cons_zero, List.set_cons_succ]
  refine rg_take 7 rfl (by kernel_rfl) (by kernel_rfl) (by kernel_rfl) (fun _ _ _ _ h => h) (by rfl) ⟨_, fun w' hx => by (go_simp <;> with_reducible rfl), ?_⟩   -- t14 := fieldAddr 47 t13 0
  simp only [Act.put, List.setIfInBounds_toArray, List.set_cons_zero, List.set_cons_succ]
  refine rg_take 8 rfl (by kernel_rfl) (by kernel_rfl) (by kernel_rfl) (fun _ _ _ _ h => h) (by rfl) ⟨_, fun w' hx => by (go_simp <;> with_reducible rfl), ?_⟩   -- t15 := indexAddr 45 t14 0:i64
  simp only [Act.put, List.setIfInBounds_toArray, List.set_cons_zero, List.set_cons_succ]
  refine rg_store 9 rfl (by kernel_rfl) (by kernel_rfl) (by rfl) ⟨_, by (go_simp <;> rfl), ?_⟩
  simp only [Act.put]
  refine rg_done (by kernel_rfl) ?_
  obtain ⟨w2, hw2⟩ : ∃ w2, w2 = (w1.setCell ⟨w.heap.size, 0, none⟩ (.int .u8 (m.l.length : Int))).drew := ⟨_, rfl⟩
  have hB2 : BB w2 w.heap.size (((zeros 243).set 1 243).set 0 (u8 m.l.length)) := by rw [hw2]; exact HB2.out
  have hx2 : Ext w w2 := by
    rw [hw2]
    exact (below_row Hx1.out (grown_cell _ _ _ _) (Nat.le_refl _) Hx1.out.size).drew
  have hS2 := Hh.out.ext hx2
  have hL := blen_any g b w2 hS2.bb
  rw [hn0] at hL
  rw [← hw2]
  have HP0 := Lib.hid (PackI.start m.l)
  clear hw2 c0 f0 s0 hS1d HB2 Hx1
  go_wp2_with (go_at_call 70; refine hL.mono ?_; rintro e2 w3 ⟨rfl, rfl⟩)
  go_loopw [18] (fun i wr => ∃ (k : Nat) (b2 : List UInt8), k ≤ m.l.length ∧ i = .int .i64 k ∧ PackI b2 m.l k ∧ BB wr w.heap.size b2 ∧ Ext w wr) (fun i _ => m.l.length - (intOf i).toNat)
  case atStart => exact ⟨0, _, by omega, rfl, HP0.out, hB2, hx2⟩
  case round =>
    obtain ⟨k, b2, hk, rfl, hP, hB, hE⟩ := hrel
    by_cases hkl : k < m.l.length
    · have hc := cell_any g b m k wr (Hh.out.ext hE)
      have hcp : m.cellP k = m.l[k].p := by unfold SBody.cellP; rw [if_pos (by omega), Int.toNat_natCast, List.getElem?_eq_getElem hkl]; rfl
      unfold CellR at hc
      rw [hcp] at hc
      have hstep := hP.step Hh.out.inv hkl
      have hs := Hh.out.inv.sum
      have hd := Hh.out.inv.dirTop
      unfold SBody.dir at hd
      unfold SBody.sum at hs
      have h1 := sumL_take_succ m.l k hkl
      have h2 := sumL_take_le m.l (k + 1)
      have hT : slT b2 = 243 - sumL (m.l.take k) := by
        unfold slT
        rw [List.getD_eq_getElem?_getD, hP.t]
        exact u8_nat (by omega)
      have hlen := Hh.out.inv.len _ (List.getElem_mem hkl)
      have hlay := fun C cc w2 (hB : BB w2 w.heap.size b2) (hC : RdB w2 C m.l[k].p) => lay_any w.heap.size b2 k C m.l[k].p cc w2 hB hC (by omega) (by rw [hT]; omega) (by rw [hT]; omega) hlen
      rw [hT, show 243 - sumL (m.l.take k) - m.l[k].p.length = 243 - sumL (m.l.take (k + 1)) by omega] at hlay
      have Hstep := Lib.hid hstep
      have Hlay := Lib.hid hlay
      have HB := Lib.hid hB
      obtain ⟨p, hp⟩ : ∃ p, p = m.l[k].p := ⟨_, rfl⟩
      rw [← hp] at hc Hstep Hlay
      clear hcp hstep hlay hs hd h1 h2 hT hlen hP hB hp
      go_wp2_with (first | (go_at_call 87; refine hc.mono ?_; rintro e4 w4 ⟨A4, c4, rfl, ho4, hb4⟩) | (go_at_call 75; refine (Hlay.out A4 c4 w4 (HB.out.ext hb4) ho4.rd').mono ?_; rintro e5 w5 ⟨rfl, hB5, hg5⟩))
      go_roundw
      case rel => exact ⟨k + 1, _, by omega, by go_num, Hstep.out, hB5, below_row (Ext.tr hE hb4) hg5 (Nat.le_refl _) (Ext.tr hE hb4).size⟩
      case measure => simp [intOf]; omega
    · obtain rfl : k = m.l.length := by omega
      have hrel2 := hP.done
      have HP := Lib.hid hrel2
      have hrow := Lib.hid hB.row
      have hrowg := Lib.hid (Hh.out.ext hE).bb.row
      have hbl := hB.len
      clear hP hB hrel2 hB2 hL hS2
      go_wp2_with (first | (refine wpList_load_rowG (by rfl) 96 (.tmp 30) rfl w.heap.size rfl 96 (bvs b2).toArray (0, 0) _ hrow.out Tryz.underlying96 rfl (binfo hbl) ?_) | (refine wpList_store_row (by rfl) 96 (.tmp 32) (.tmp 31) rfl g (bvs b2).toArray rfl rfl 96 _ hrowg.out (binfo hbl) (by rw [List.size_toArray, List.size_toArray, bvs_len, bvs_len, hbl, Hh.out.bb.len]) (bone _) ?_))
      refine bodyPost_end (results_none rfl _ _ _) rfl ?_
      exact ⟨rfl, ⟨b2, ⟨setRow_heap _ _ _ _ _ _ hrowg.out, hbl⟩, HP.out, SBody.pack_inv Hh.out.inv⟩, grown_tr (grown_ext hE _) ⟨rfl, rfl, rfl, by simp, fun i _ hn => setRow_other _ _ _ _ (fun e => hn (by rw [e]))⟩⟩
end Go.Proofs.YtkpagmfaccmiaaaGreat

/- Plain laws for bodies of cells as bytes (layer 6), third part: the bytes that are told, laid cell by cell (by the program; by the document). No program in sight. -/

namespace Go.Proofs.YtkpagmfaccmiaaaGreat

/-! ### as the program lays them -/

structure PB (b : List UInt8) (m : SBody) (k : Nat) (out : List UInt8) : Prop where
  len : out.length = 243
  n : out[0]? = some (u8 m.l.length)
  t : out[1]? = some (u8 m.top)
  pos : ∀ i c, m.l[i]? = some c → out[2 + 2 * i]? = some (u8 (if i < k ∧ c.p = [] then m.top else c.pos))
  sz : ∀ i c, m.l[i]? = some c → out[3 + 2 * i]? = some (u8 c.p.length)
  cell : ∀ i c, i < k → m.l[i]? = some c → ∀ t u, c.p[t]? = some u → out[c.pos + t]? = some u
  zero : ∀ j, 2 + 2 * m.l.length ≤ j → j < 243 → (∀ i c, i < k → m.l[i]? = some c → ¬ (c.pos ≤ j ∧ j < c.pos + c.p.length)) → out[j]? = some 0
theorem PB.start {b : List UInt8} {m : SBody} (h : Rel b m) (hI : m.Inv) : PB b m 0 (ovw (zeros 243) 0 (b.take (2 + 2 * m.l.length))) := by
  have hn := hI.n
  have hl : (b.take (2 + 2 * m.l.length)).length = 2 + 2 * m.l.length := by rw [List.length_take, h.len]; omega
  have hz := zeros_len 243
  have hg : ∀ j, (ovw (zeros 243) 0 (b.take (2 + 2 * m.l.length)))[j]? = if j < 2 + 2 * m.l.length then b[j]? else (zeros 243)[j]? := fun j => by
    rw [ovw_get _ _ _ (by rw [hl, hz]; omega), hl, if_neg (by omega), Nat.zero_add]
    split
    · rename_i hj; rw [Nat.sub_zero, List.getElem?_take_of_lt hj]
    · rfl
  refine ⟨by rw [ovw_len (by rw [hl, hz]; omega), hz], ?_, ?_, fun i c hc => ?_, fun i c hc => ?_, fun i c hi => absurd hi (by omega), fun j h1 h2 _ => ?_⟩
  · rw [hg, if_pos (by omega)]; exact h.n
  · rw [hg, if_pos (by omega)]; exact h.t
  · have hi := (List.getElem?_eq_some_iff.1 hc).1
    rw [hg, if_pos (by omega), h.pos i c hc]
    simp
  · have hi := (List.getElem?_eq_some_iff.1 hc).1
    rw [hg, if_pos (by omega), h.sz i c hc]
  · rw [hg, if_neg (by omega), zeros_get _ _ h2]
theorem PB.step {b out : List UInt8} {m : SBody} {k : Nat} (h : PB b m k out) (hI : m.Inv) (hk : k < m.l.length) :
    PB b m (k + 1) (ovw (if m.l[k].p = [] then out.set (2 + 2 * k) (u8 m.top) else out) m.l[k].pos m.l[k].p) := by
  have hn := hI.n
  have hd := hI.dirTop
  unfold SBody.dir at hd
  have hmem := List.getElem_mem hk
  have hgk : m.l[k]? = some m.l[k] := List.getElem?_eq_getElem hk
  by_cases hp : m.l[k].p = []
  · rw [if_pos hp, hp, ovw_nil]
    have hg : ∀ j, (out.set (2 + 2 * k) (u8 m.top))[j]? = if j = 2 + 2 * k then some (u8 m.top) else out[j]? := fun j => set_get _ _ _ (by rw [h.len]; omega) j
    refine ⟨by rw [List.length_set, h.len], by rw [hg, if_neg (by omega)]; exact h.n, by rw [hg, if_neg (by omega)]; exact h.t, fun i c hc => ?_, fun i c hc => ?_, fun i c hi hc t u ht => ?_, fun j h1 h2 h3 => ?_⟩
    · rw [hg]
      by_cases e : i = k
      · subst e
        rw [hgk] at hc
        injection hc with hc
        rw [if_pos rfl, if_pos ⟨by omega, by rw [← hc]; exact hp⟩]
      · rw [if_neg (by omega), h.pos i c hc]
        by_cases h5 : i < k
        · simp [h5, show i < k + 1 by omega]
        · simp [h5, show ¬ i < k + 1 by omega]
    · rw [hg, if_neg (by omega)]; exact h.sz i c hc
    · have hik : i < k := by
        rcases Nat.lt_or_ge i k with h' | h'
        · exact h'
        · obtain rfl : i = k := by omega
          rw [hgk] at hc
          injection hc with hc
          rw [← hc, hp] at ht
          cases ht
      have hlow := hI.low c (List.mem_of_getElem? hc) (by intro e; rw [e] at ht; cases ht)
      rw [hg, if_neg (by omega)]
      exact h.cell i c hik hc t u ht
    · rw [hg, if_neg (by omega)]
      exact h.zero j h1 h2 fun i c hi hc => h3 i c (by omega) hc
  · rw [if_neg hp]
    have hlow := hI.low _ hmem hp
    have hfit := hI.fit _ hmem
    have hg : ∀ j, (ovw out m.l[k].pos m.l[k].p)[j]? = if j < m.l[k].pos then out[j]? else if j < m.l[k].pos + m.l[k].p.length then m.l[k].p[j - m.l[k].pos]? else out[j]? := fun j => ovw_get _ _ _ (by rw [h.len]; exact hfit) j
    refine ⟨by rw [ovw_len (by rw [h.len]; exact hfit), h.len], by rw [hg, if_pos (by omega)]; exact h.n, by rw [hg, if_pos (by omega)]; exact h.t, fun i c hc => ?_, fun i c hc => ?_, fun i c hi hc t u ht => ?_, fun j h1 h2 h3 => ?_⟩
    · have hi := (List.getElem?_eq_some_iff.1 hc).1
      rw [hg, if_pos (by omega), h.pos i c hc]
      by_cases e : i = k
      · subst e
        rw [hgk] at hc
        injection hc with hc
        subst hc
        simp [hp]
      · by_cases h5 : i < k
        · simp [h5, show i < k + 1 by omega]
        · simp [h5, show ¬ i < k + 1 by omega]
    · have hi := (List.getElem?_eq_some_iff.1 hc).1
      rw [hg, if_pos (by omega)]; exact h.sz i c hc
    · have htl : t < c.p.length := (List.getElem?_eq_some_iff.1 ht).1
      rw [hg]
      by_cases e : i = k
      · subst e
        rw [hgk] at hc
        injection hc with hc
        subst hc
        rw [if_neg (by omega), if_pos (by omega), show m.l[i].pos + t - m.l[i].pos = t by omega]
        exact ht
      · have hil := (List.getElem?_eq_some_iff.1 hc).1
        have hce : m.l[i] = c := (List.getElem?_eq_some_iff.1 hc).2
        have hap := (List.pairwise_iff_getElem.1 hI.apart) i k hil hk (by omega)
        rw [hce] at hap
        have h4 := hap (c.pos + t) (by omega) (by omega)
        by_cases h5 : c.pos + t < m.l[k].pos
        · rw [if_pos h5]; exact h.cell i c (by omega) hc t u ht
        · by_cases h6 : c.pos + t < m.l[k].pos + m.l[k].p.length
          · exact absurd (h4 (by omega) h6) id
          · rw [if_neg h5, if_neg h6]; exact h.cell i c (by omega) hc t u ht
    · have h4 := h3 k _ (by omega) hgk
      have h5 := h.zero j h1 h2 fun i c hi hc => h3 i c (by omega) hc
      rw [hg]
      by_cases h6 : j < m.l[k].pos
      · rw [if_pos h6]; exact h5
      · rw [if_neg h6, if_neg (by omega)]; exact h5
theorem fixed_get {m : SBody} {i : Nat} {c : SCell} (h : m.fixed.l[i]? = some c) : ∃ d, m.l[i]? = some d ∧ c = d.fix m.top := by
  have h1 : (m.l.map (SCell.fix m.top))[i]? = some c := h
  rw [List.getElem?_map] at h1
  cases hd : m.l[i]? with
  | none => rw [hd] at h1; cases h1
  | some d => rw [hd] at h1; injection h1 with h1; exact ⟨d, rfl, h1.symm⟩
theorem PB.done {b out : List UInt8} {m : SBody} (h : PB b m m.l.length out) : IsBytes out m := by
  refine ⟨⟨h.len, by rw [m.fixed_len]; exact h.n, h.t, fun i c hc => ?_, fun i c hc => ?_, fun c hc t u ht => ?_⟩, fun j h1 h2 h3 => h.zero j h1 h2 fun i c _ hc h4 => h3 ⟨c, List.mem_of_getElem? hc, h4.1, h4.2⟩⟩
  · obtain ⟨d, hd, rfl⟩ := fixed_get hc
    have hi := (List.getElem?_eq_some_iff.1 hd).1
    rw [h.pos i d hd]
    by_cases hp : d.p = []
    · rw [if_pos ⟨hi, hp⟩, show SCell.fix m.top d = ⟨m.top, []⟩ from if_pos hp]
    · rw [if_neg (fun e => hp e.2), show SCell.fix m.top d = d from if_neg hp]
  · obtain ⟨d, hd, rfl⟩ := fixed_get hc
    rw [SCell.fix_p]; exact h.sz i d hd
  · obtain ⟨i, hi, rfl⟩ := List.getElem_of_mem hc
    obtain ⟨d, hd, e⟩ := fixed_get (List.getElem?_eq_getElem hi)
    rw [e] at ht ⊢
    have hp : d.p ≠ [] := by intro e2; rw [SCell.fix_p, e2] at ht; cases ht
    rw [show SCell.fix m.top d = d from if_neg hp] at ht ⊢
    exact h.cell i d (List.getElem?_eq_some_iff.1 hd).1 hd t u ht
/-! ### as the document lays them -/

structure RB (m : SBody) (k : Nat) (out : List UInt8) : Prop where
  len : out.length = 243
  n : out[0]? = some (u8 m.l.length)
  t : out[1]? = some (u8 m.top)
  pos : ∀ i c, i < k → m.l[i]? = some c → out[2 + 2 * i]? = some (u8 (c.fix m.top).pos)
  sz : ∀ i c, i < k → m.l[i]? = some c → out[3 + 2 * i]? = some (u8 c.p.length)
  cell : ∀ i c, i < k → m.l[i]? = some c → ∀ t u, c.p[t]? = some u → out[c.pos + t]? = some u
  zero : ∀ j, 2 + 2 * m.l.length ≤ j → j < 243 → (∀ i c, i < k → m.l[i]? = some c → ¬ (c.pos ≤ j ∧ j < c.pos + c.p.length)) → out[j]? = some 0
theorem RB.start (m : SBody) : RB m 0 (((zeros 243).set 0 (u8 m.l.length)).set 1 (u8 m.top)) := by
  have hz := zeros_len 243
  have hg : ∀ j, (((zeros 243).set 0 (u8 m.l.length)).set 1 (u8 m.top))[j]? = if j = 1 then some (u8 m.top) else if j = 0 then some (u8 m.l.length) else (zeros 243)[j]? := fun j => by
    rw [set_get _ _ _ (by rw [List.length_set]; omega), set_get _ _ _ (by omega)]
  refine ⟨by rw [List.length_set, List.length_set, hz], by rw [hg, if_neg (by omega), if_pos rfl], by rw [hg, if_pos rfl], fun i c hi => absurd hi (by omega), fun i c hi => absurd hi (by omega), fun i c hi => absurd hi (by omega), fun j h1 h2 _ => ?_⟩
  rw [hg, if_neg (by omega), if_neg (by omega), zeros_get _ _ h2]
/-- The entries of cell k are laid. -/
def rbE (m : SBody) (k : Nat) (h : k < m.l.length) (out : List UInt8) : List UInt8 := (out.set (2 + 2 * k) (u8 (m.l[k].fix m.top).pos)).set (3 + 2 * k) (u8 m.l[k].p.length)
theorem RB.step {out : List UInt8} {m : SBody} {k : Nat} (h : RB m k out) (hI : m.Inv) (hk : k < m.l.length) : RB m (k + 1) (ovw (rbE m k hk out) m.l[k].pos m.l[k].p) := by
  have hn := hI.n
  have hd := hI.dirTop
  unfold SBody.dir at hd
  have hmem := List.getElem_mem hk
  have hgk : m.l[k]? = some m.l[k] := List.getElem?_eq_getElem hk
  have hfit := hI.fit _ hmem
  have hel : (rbE m k hk out).length = 243 := by unfold rbE; rw [List.length_set, List.length_set, h.len]
  have he : ∀ j, (rbE m k hk out)[j]? = if j = 3 + 2 * k then some (u8 m.l[k].p.length) else if j = 2 + 2 * k then some (u8 (m.l[k].fix m.top).pos) else out[j]? := fun j => by
    unfold rbE
    rw [set_get _ _ _ (by rw [List.length_set, h.len]; omega), set_get _ _ _ (by rw [h.len]; omega)]
  have hlow : 0 < m.l[k].p.length → m.top ≤ m.l[k].pos := fun h0 => hI.low _ hmem (List.length_pos_iff.1 h0)
  have hg : ∀ j, (ovw (rbE m k hk out) m.l[k].pos m.l[k].p)[j]? = if m.l[k].pos ≤ j ∧ j < m.l[k].pos + m.l[k].p.length then m.l[k].p[j - m.l[k].pos]? else (rbE m k hk out)[j]? := fun j => by
    rw [ovw_get _ _ _ (by rw [hel]; exact hfit)]
    by_cases h1 : j < m.l[k].pos
    · rw [if_pos h1, if_neg (by omega)]
    · by_cases h2 : j < m.l[k].pos + m.l[k].p.length
      · rw [if_neg h1, if_pos h2, if_pos (by omega)]
      · rw [if_neg h1, if_neg h2, if_neg (by omega)]
  refine ⟨by rw [ovw_len (by rw [hel]; exact hfit), hel], ?_, ?_, fun i c hi hc => ?_, fun i c hi hc => ?_, fun i c hi hc t u ht => ?_, fun j h1 h2 h3 => ?_⟩
  · rw [hg, if_neg (by omega), he, if_neg (by omega), if_neg (by omega)]; exact h.n
  · rw [hg, if_neg (by omega), he, if_neg (by omega), if_neg (by omega)]; exact h.t
  · rw [hg, if_neg (by omega), he, if_neg (by omega)]
    by_cases e : i = k
    · subst e
      rw [hgk] at hc
      injection hc with hc
      rw [if_pos rfl, hc]
    · rw [if_neg (by omega)]; exact h.pos i c (by omega) hc
  · rw [hg, if_neg (by omega), he]
    by_cases e : i = k
    · subst e
      rw [hgk] at hc
      injection hc with hc
      rw [if_pos rfl, hc]
    · rw [if_neg (by omega), if_neg (by omega)]; exact h.sz i c (by omega) hc
  · have htl : t < c.p.length := (List.getElem?_eq_some_iff.1 ht).1
    have hlc := hI.low c (List.mem_of_getElem? hc) (by intro e; rw [e] at ht; cases ht)
    rw [hg]
    by_cases e : i = k
    · subst e
      rw [hgk] at hc
      injection hc with hc
      subst hc
      rw [if_pos (by omega), show m.l[i].pos + t - m.l[i].pos = t by omega]
      exact ht
    · have hil := (List.getElem?_eq_some_iff.1 hc).1
      have hce : m.l[i] = c := (List.getElem?_eq_some_iff.1 hc).2
      have hap := (List.pairwise_iff_getElem.1 hI.apart) i k hil hk (by omega)
      rw [hce] at hap
      have h4 := hap (c.pos + t) (by omega) (by omega)
      rw [if_neg (fun h5 => h4 h5.1 h5.2), he, if_neg (by omega), if_neg (by omega)]
      exact h.cell i c (by omega) hc t u ht
  · have h4 := h3 k _ (by omega) hgk
    rw [hg, if_neg h4, he, if_neg (by omega), if_neg (by omega)]
    exact h.zero j h1 h2 fun i c hi hc => h3 i c (by omega) hc
theorem RB.done {out : List UInt8} {m : SBody} (h : RB m m.l.length out) : IsBytes out m := by
  refine ⟨⟨h.len, by rw [m.fixed_len]; exact h.n, h.t, fun i c hc => ?_, fun i c hc => ?_, fun c hc t u ht => ?_⟩, fun j h1 h2 h3 => h.zero j h1 h2 fun i c _ hc h4 => h3 ⟨c, List.mem_of_getElem? hc, h4.1, h4.2⟩⟩
  · obtain ⟨d, hd, rfl⟩ := fixed_get hc
    exact h.pos i d (List.getElem?_eq_some_iff.1 hd).1 hd
  · obtain ⟨d, hd, rfl⟩ := fixed_get hc
    rw [SCell.fix_p]; exact h.sz i d (List.getElem?_eq_some_iff.1 hd).1 hd
  · obtain ⟨i, hi, rfl⟩ := List.getElem_of_mem hc
    obtain ⟨d, hd, e⟩ := fixed_get (List.getElem?_eq_getElem hi)
    rw [e] at ht ⊢
    have hp : d.p ≠ [] := by intro e2; rw [SCell.fix_p, e2] at ht; cases ht
    rw [show SCell.fix m.top d = d from if_neg hp] at ht ⊢
    exact h.cell i d (List.getElem?_eq_some_iff.1 hd).1 hd t u ht
end Go.Proofs.YtkpagmfaccmiaaaGreat

/- Contract: slot.Body's Bytes. Printed by wip/tools/gen_sltout06.py. -/

namespace Go.Proofs.YtkpagmfaccmiaaaGreat

open Go.RowKit

attribute [local go_sem] Oper.semAt_some

/-- A row of bytes. -/
structure BO (w : World) (g : Nat) (b : List UInt8) : Prop where
  row : w.heap[g]? = some (.cells (bvs b).toArray 5 (0, 0))
theorem BO.ext {w w' : World} {g : Nat} {b : List UInt8} (h : BO w g b) (hx : Ext w w') : BO w' g b := ⟨(hx.block _ (lt_of_heap h.row)).trans h.row⟩
theorem BO.cell {w : World} {g : Nat} {b : List UInt8} (h : BO w g b) {j : Nat} (hj : j < b.length) : w.cell? ⟨g, j, none⟩ = some (.int .u8 ((b.getD j 0).toNat : Int)) := by
  rw [cell_of_row w g j _ _ _ h.row, List.getElem?_toArray, bvs_get b j hj, List.getD_eq_getElem?_getD, List.getElem?_eq_getElem hj]
  rfl
theorem BO.frozen {w : World} {g : Nat} {b : List UInt8} (h : BO w g b) (j : Nat) : w.frozen? ⟨g, j, none⟩ = false := frozen_of_row w g j _ _ h.row
theorem BO.set {w : World} {g : Nat} {b : List UInt8} (h : BO w g b) (j : Nat) (u : UInt8) : BO (w.setCell ⟨g, j, none⟩ (.int .u8 (u.toNat : Int))) g (b.set j u) := by
  refine ⟨?_⟩
  rw [heap_setCell_same w g j _ _ _ h.row]
  congr 2
  apply Array.ext'
  simp only [Array.toList_setIfInBounds, bvs, List.map_set]
  rfl
theorem BO.own {w : World} {g B n : Nat} {b : List UInt8} (h : BO w g b) (hB : B ≤ g) (hn : n = b.length) (hm : n ≤ 100000) : Own w B 5 1 (some ⟨g, 0, none⟩) n n (bvs b) := by
  subst hn
  exact ⟨by rw [bvs_len]; omega, Nat.le_refl _, by unfold maxLen; omega, .inr ⟨g, 0, _, rfl, hB, h.row, by simp [bvs_len], by simp only [List.drop_zero, Nat.mul_one]; rw [List.take_of_length_le (by rw [bvs_len]; exact Nat.le_refl _)]⟩⟩
/-- A part of a slice of 243 bytes. -/
theorem sl_lh (g l h : Nat) (h1 : l ≤ h) (h2 : h ≤ 243) (w : World) : (Instr.sliceAt 25 (.slice (some ⟨g, 0, none⟩) 243 243) (some (.int .i64 (l : Int))) (some (.int .i64 (h : Int))) none).run Tryz.prog w = .ok (.slice (some (arrA g l)) (h - l) (243 - l)) w := by
  have hu : Tryz.prog.underlying 25 = some (.slice (Tryz.prog.elem 25)) := by kernel_rfl
  rw [run_sliceAt_slice w 25 _ _ _ _ hu, run_slice_lh w 25 _ 243 243 hu .i64 .i64 _ _ (by omega) (by omega) (by omega)]
  rw [show Tryz.prog.elem 25 = 5 from by kernel_rfl, Int.toNat_natCast, Int.toNat_natCast]
  unfold arrA sliced
  by_cases h0 : 243 = l
  · simp only [h0, if_true]; go_simp
  · simp only [h0, if_false]; go_simp
def BytesR (m : SBody) (w : World) (e : Ending) (w' : World) : Prop := ∃ (bs : List UInt8) (A' : Option Addr), IsBytes bs m ∧ e = .returned (.slice A' 243 243) ∧ Own w' w.heap.size 5 1 A' 243 243 (bvs bs) ∧ Ext w w'
set_option maxRecDepth 100000 in
set_option maxHeartbeats 1000000 in
theorem sbytes_any (g : Nat) (b : List UInt8) (m : SBody) (w : World) (h : SAt w g b m) :
    Calls Tryz.prog 44 #[.pointer (some ⟨g, 0, none⟩)] w (BytesR m w) := by
  have hn := h.inv.n
  have hn0 : slN b = m.l.length := h.n
  have Hh := Lib.hid h
  have hgs := lt_of_heap h.bb.row
  have hbl := h.bb.len
  have hS := Lib.hid (PB.start h.rel h.inv)
  obtain ⟨dn, hdn⟩ : ∃ dn, dn = 2 + 2 * m.l.length := ⟨_, rfl⟩
  have hpl : (b.take dn).length = dn := by rw [List.length_take]; omega
  have HdnP := Lib.hid (show b.take dn = b.take (2 + 2 * m.l.length) by rw [hdn])
  obtain ⟨p, hp⟩ : ∃ p, p = b.take dn := ⟨_, rfl⟩
  rw [← hp] at hpl
  have hd := dir_any m.l.length (by omega)
  rw [← hdn] at hd
  have hs7 := fun w' => arr_h g dn (by omega) w'
  have Hp := Lib.hid hp
  have hLn : ∀ w2, Ext w w2 → Calls Tryz.prog 70 #[.pointer (some ⟨g, 0, none⟩)] w2 fun e w' => e = .returned (.int .i64 (m.l.length : Int)) ∧ w2 = w' := fun w2 hx => by
    have := blen_any g b w2 (Hh.out.bb.ext hx)
    rwa [hn0] at this
  have HLn := Lib.hid hLn
  have Hd := Lib.hid hd
  have hdb : dn ≤ 243 := by omega
  have Hpl := Lib.hid hpl
  clear h hdn hp hd hLn hpl
  go_enter Tryz.func44, Tryz.ntmps44
  go_wp2_with (refine wpList_mk (by rfl) _ _ 25 rfl elemB (.int .u8 0) (by kernel_rfl) rfl 243 .i64 .i64 rfl rfl (by omega) (by omega) ?_; refine Hid.out ?_)
  have hz : Array.replicate 243 (.int .u8 0) = (bvs (zeros 243)).toArray := by
    apply Array.ext'
    simp only [Array.toList_replicate, bvs, zeros, List.map_replicate]
    rfl
  rw [hz]
  clear hz
  obtain ⟨w1, hw1⟩ : ∃ w1, w1 = w.alloc (.cells (bvs (zeros 243)).toArray 5) := ⟨_, rfl⟩
  have hO1 : BO w1 w.heap.size (zeros 243) := ⟨by rw [hw1]; exact heap_alloc_new w _⟩
  have hx1 : Ext w w1 := by rw [hw1]; exact Ext.alloc w _
  rw [← hw1]
  have hgne : ∀ ad, (some (⟨g, 0, none⟩ : Addr)) = some ad → ad.block ≠ w.heap.size := fun ad e => by injection e with e; rw [← e]; show g ≠ _; omega
  have hrdp : RdB w1.drew (some ⟨g, 0, none⟩) p := by
    have := (Hh.out.bb.ext (Ext.tr hx1 (Ext.drew w1))).part 0 dn (by omega)
    rw [List.drop_zero, ← Hp.out] at this
    exact this
  have hrow1 := Lib.hid (hO1.ext (Ext.drew w1)).row
  have hL5 := HLn.out w1.drew (Ext.tr hx1 (Ext.drew w1))
  have hd6 := Hd.out w1.drew
  have Hrdp := Lib.hid hrdp
  have hs7' := hs7
  rw [← Hpl.out] at hs7' hd6
  clear hw1 hrdp hs7
  refine Lib.hid ?_
  go_wp2_with fail
  refine rg_start (by kernel_rfl) ?_
  refine rg_take 0 rfl (by kernel_rfl) (by kernel_rfl) (by kernel_rfl) (fun _ _ _ _ h => h) (by rfl) ⟨_, fun w' hx => by (go_simp <;> with_reducible rfl), ?_⟩
  simp only [Act.put, List.setIfInBounds_toArray, List.set_cons_zero, List.set_cons_succ]
  refine rg_take 1 rfl (by kernel_rfl) (by kernel_rfl) (by kernel_rfl) (fun _ _ _ _ h => h) (by rfl) ⟨_, fun w' hx => by (go_simp <;> with_reducible rfl), ?_⟩
  simp only [Act.put, List.setIfInBounds_toArray, List.set_cons_zero, List.set_cons_succ]
  refine rg_take 2 rfl (by kernel_rfl) (by kernel_rfl) (by kernel_rfl) (fun _ _ _ _ h => h) (by rfl) ⟨_, fun w' hx => by (go_simp <;> with_reducible rfl), ?_⟩   -- t12 := nilCheck t11
  simp only [Act.put, List.setIfInBounds_toArray, List.set_cons_zero, List.set_cons_succ]
  refine rg_take 3 rfl (by kernel_rfl) (by kernel_rfl) (by kernel_rfl) (fun _ _ _ _ h => h) (by rfl) ⟨_, fun w' hx => by (go_simp <;> with_reducible rfl), ?_⟩   -- t13 := fieldAddr 47 t12 0
  simp only [Act.put, List.setIfInBounds_toArray, List.set_cons_zero, List.set_cons_succ]
  refine rg_take 4 rfl (by kernel_rfl) (by kernel_rfl) (by kernel_rfl) (fun _ _ _ _ h => h) (by rfl) ⟨_, fun w' hx => by (go_simp <;> with_reducible rfl), ?_⟩
  simp only [Act.put, List.setIfInBounds_toArray, List.set_cons_zero, List.set_cons_succ]
  refine rg_call 5 hL5 rfl (by kernel_rfl) (by rfl) (by go_simp) ?_
  rintro e w' ⟨rfl, rfl⟩
  refine ⟨_, rfl, Ext.refl _, ?_⟩
  simp only [Act.put, List.setIfInBounds_toArray, List.set_cons_zero, List.set_cons_succ]
  refine rg_call 6 hd6 rfl (by kernel_rfl) (by rfl) (by go_simp) ?_
  rintro e w' ⟨rfl, rfl⟩
  refine ⟨_, rfl, Ext.refl _, ?_⟩
  simp only [Act.put, List.setIfInBounds_toArray, List.set_cons_zero, List.set_cons_succ]
  refine rg_take 7 rfl (by kernel_rfl) (by kernel_rfl) (by kernel_rfl) (fun _ _ _ _ h => h) (by rfl) ⟨_, fun w' hx => by (go_simp <;> with_reducible rfl), ?_⟩   -- t17 := slice 45 t13 - t16 -
  simp only [Act.put, List.setIfInBounds_toArray, List.set_cons_zero, List.set_cons_succ]
  refine rg_last 8 rfl (by kernel_rfl) (by kernel_rfl) (by rfl) fun K hK => wp_copyB (.tmp 10) (.tmp 17) 25 rfl elemB w.heap.size 0 243 243 (some ⟨w.heap.size, 0, none⟩) rfl (some ⟨g, 0, none⟩) 243 (zeros 243) p rfl 5 (.inr rfl) (by have := Hpl.out; omega) hrow1.out (by rw [zeros_len]; have := Hpl.out; omega) Hrdp.out fun w2 hr2 hg2 => hK _ _ ?_
  simp only [Act.put, List.setIfInBounds_toArray, List.set_cons_zero, List.set_cons_succ]
  refine rg_done (by kernel_rfl) ?_
  have hO2 : BO w2 w.heap.size (ovw (zeros 243) 0 p) := ⟨hr2⟩
  have hx2 : Ext w w2 := below_row (Ext.tr hx1 (Ext.drew w1)) hg2 (Nat.le_refl _) (Ext.tr hx1 (Ext.drew w1)).size
  have hP0 : Hid (PB b m 0 (ovw (zeros 243) 0 p)) := by show PB b m 0 _; rw [Hp.out, HdnP.out]; exact hS.out
  have hL7 := HLn.out w2 hx2
  clear hr2 hg2 hx1 hL5 hd6 hs7' hrow1 hO1
  go_wp2_with (go_at_call 70; refine hL7.mono ?_; rintro e3 w3 ⟨rfl, rfl⟩)
  go_loopw [21] (fun i wr => ∃ (k : Nat) (out : List UInt8), k ≤ m.l.length ∧ i = .int .i64 k ∧ PB b m k out ∧ BO wr w.heap.size out ∧ Ext w wr) (fun i _ => m.l.length - (intOf i).toNat)
  case atStart => exact ⟨0, _, by omega, rfl, hP0.out, hO2, hx2⟩
  case round =>
    obtain ⟨k, out, hk, rfl, hP, hO, hE⟩ := hrel
    by_cases hkl : k < m.l.length
    · have hp := place_any g b k wr (Hh.out.bb.ext hE) (by omega)
      rw [Hh.out.rel.slAt Hh.out.inv hkl, Hh.out.rel.slSz Hh.out.inv hkl] at hp
      have hstep := hP.step Hh.out.inv hkl
      have hfit := Hh.out.inv.fit _ (List.getElem_mem hkl)
      have hcut := Hh.out.rel.cut (List.getElem_mem hkl)
      have hol := hP.len
      have hlow := Hh.out.inv.low _ (List.getElem_mem hkl)
      have hT : slT b = m.top := Hh.out.rel.slT Hh.out.inv
      have htop := Hh.out.inv.top
      obtain ⟨c, hc⟩ : ∃ c, c = m.l[k] := ⟨_, rfl⟩
      rw [← hc] at hp hstep hfit hcut hlow
      have hrdc : ∀ W, Ext w W → RdB W (some (arrA g c.pos)) c.p := fun W hW => by
        have := (Hh.out.bb.ext hW).partA c.pos c.p.length hfit
        rwa [hcut] at this
      obtain ⟨je, hje⟩ : ∃ je, je = c.pos + c.p.length := ⟨_, rfl⟩
      have wje : IntKind.i64.wrap ((c.pos : Int) + (c.p.length : Int)) = (je : Int) := by rw [IntKind.wrap_i64]; omega
      have s5 := fun w' => sl_lh w.heap.size c.pos je (by omega) (by omega) w'
      have s13 := fun w' => arr_lh g c.pos je (by omega) (by omega) w'
      rw [show je - c.pos = c.p.length by omega] at s5 s13
      have HP := Lib.hid hP
      have HO := Lib.hid hO
      have Hrdc := Lib.hid hrdc
      have Hfit := Lib.hid hfit
      have Hstep := Lib.hid hstep
      clear hcut hc hje hstep hfit hrdc hP hO
      by_cases hp0 : c.p = []
      · have hl0 : c.p.length = 0 := by rw [hp0]; rfl
        have bz : ((c.p.length : Int) == 0) = true := by rw [beq_iff_eq]; omega
        rw [if_pos hp0] at Hstep
        have Hl0 := Lib.hid hl0
        have d2 := dir_any k (by omega)
        obtain ⟨dk, hdk⟩ : ∃ dk, dk = 2 + 2 * k := ⟨_, rfl⟩
        rw [← hdk] at d2 Hstep
        have i1 : (dk : Int) < 243 := by omega
        have i2 : (0 : Int) ≤ (dk : Int) := by omega
        have Hp0 := Lib.hid hp0
        clear hdk hl0 hlow hp0
        go_wp2_with (go_at_call 76; refine hp.mono ?_; rintro e4 w4 ⟨rfl, hb4⟩; refine Hid.out ?_)
        have hOd := HO.out.ext (Ext.tr hb4 (Ext.drew w4))
        have hOd1 := HO.out.ext hb4
        have t1 : w4.drew.cell? ⟨g, 1, none⟩ = some (.int .u8 (m.top : Int)) := by
          have := (Hh.out.bb.ext (Ext.tr hE (Ext.tr hb4 (Ext.drew w4)))).cell (j := 1) (by omega)
          rw [this, ← hT]; rfl
        have c8 := hOd.cell (j := dk) (by omega)
        have f8 := hOd.frozen dk
        have d2w := d2 w4.drew
        have hO5 := hOd1.set dk (u8 m.top)
        rw [u8_nat (by omega)] at hO5
        have HO5 := Lib.hid hO5
        clear hOd hOd1 hO5
        refine Lib.hid ?_
        go_wp2_with fail
        refine rg_start (by kernel_rfl) ?_
        refine rg_take 0 rfl (by kernel_rfl) (by kernel_rfl) (by kernel_rfl) (fun _ _ _ _ h => h) (by rfl) ⟨_, fun w' hx => by (go_simp <;> with_reducible rfl), ?_⟩
        simp only [Act.put, List.setIfInBounds_toArray, List.set_cons_zero, List.set_cons_succ]
        refine rg_take 1 rfl (by kernel_rfl) (by kernel_rfl) (by kernel_rfl) (fun _ _ _ _ h => h) (by rfl) ⟨_, fun w' hx => by (go_simp <;> with_reducible rfl), ?_⟩
        simp only [Act.put, List.setIfInBounds_toArray, List.set_cons_zero, List.set_cons_succ]
        refine rg_take 3 rfl (by kernel_rfl) (by kernel_rfl) (by kernel_rfl) (fun _ _ _ _ h => h) (by rfl) ⟨_, fun w' hx => by (go_simp <;> with_reducible rfl), ?_⟩
        simp only [Act.put, List.setIfInBounds_toArray, List.set_cons_zero, List.set_cons_succ]
        refine rg_take 4 rfl (by kernel_rfl) (by kernel_rfl) (by kernel_rfl) (fun _ _ _ _ h => h) (by rfl) ⟨_, fun w' hx => by (go_simp <;> with_reducible rfl), ?_⟩   -- t36 := nilCheck t35
        simp only [Act.put, List.setIfInBounds_toArray, List.set_cons_zero, List.set_cons_succ]
        refine rg_take 5 rfl (by kernel_rfl) (by kernel_rfl) (by kernel_rfl) (fun _ _ _ _ h => h) (by rfl) ⟨_, fun w' hx => by (go_simp <;> with_reducible rfl), ?_⟩   -- t37 := fieldAddr 47 t36 0
        simp only [Act.put, List.setIfInBounds_toArray, List.set_cons_zero, List.set_cons_succ]
        refine rg_take 6 rfl (by kernel_rfl) (by kernel_rfl) (by kernel_rfl) (fun _ _ _ _ h => h) (by rfl) ⟨_, fun w' hx => by (go_simp <;> with_reducible rfl), ?_⟩   -- t38 := indexAddr 45 t37 1:i64
        simp only [Act.put, List.setIfInBounds_toArray, List.set_cons_zero, List.set_cons_succ]
        refine rg_take 7 rfl (by kernel_rfl) (by kernel_rfl) (by kernel_rfl) (fun _ _ _ _ h => h) (by rfl) ⟨_, fun w' hx => by have hcx := hx.load t1; (go_simp <;> with_reducible rfl), ?_⟩
        simp only [Act.put, List.setIfInBounds_toArray, List.set_cons_zero, List.set_cons_succ]
        refine rg_call 2 d2w rfl (by kernel_rfl) (by rfl) (by go_simp) ?_
        rintro e w' ⟨rfl, rfl⟩
        refine ⟨_, rfl, Ext.refl _, ?_⟩
        simp only [Act.put, List.setIfInBounds_toArray, List.set_cons_zero, List.set_cons_succ]
        refine rg_take 8 rfl (by kernel_rfl) (by kernel_rfl) (by kernel_rfl) (fun _ _ _ _ h => h) (by rfl) ⟨_, fun w' hx => by (go_simp <;> with_reducible rfl), ?_⟩   -- t40 := indexAddr 30 t32 t34
        simp only [Act.put, List.setIfInBounds_toArray, List.set_cons_zero, List.set_cons_succ]
        refine rg_store 9 rfl (by kernel_rfl) (by kernel_rfl) (by rfl) ⟨_, by (go_simp <;> rfl), ?_⟩
        simp only [Act.put]
        refine rg_done (by kernel_rfl) ?_
        obtain ⟨w5, hw5⟩ : ∃ w5, w5 = (w4.setCell ⟨w.heap.size, dk, none⟩ (.int .u8 (m.top : Int))).drew := ⟨_, rfl⟩
        have hO6 : BO w5 w.heap.size (out.set dk (u8 m.top)) := by rw [hw5]; exact HO5.out.ext (Ext.drew _)
        have hE5 : Ext w w5 := by rw [hw5]; exact (below_row (Ext.tr hE hb4) (grown_cell _ _ _ _) (Nat.le_refl _) (Ext.tr hE hb4).size).drew
        have hol5 : (out.set dk (u8 m.top)).length = 243 := by rw [List.length_set, hol]
        rw [← hw5]
        obtain ⟨out5, hout5⟩ : ∃ out5, out5 = out.set dk (u8 m.top) := ⟨_, rfl⟩
        rw [← hout5] at hO6 hol5 Hstep
        clear hw5 HO5 c8 f8 t1 hb4 hout5
        have hrow5 := Lib.hid (hO6.ext (Ext.drew w5)).row
        have hrd5 := Lib.hid (Hrdc.out w5.drew (Ext.tr hE5 (Ext.drew w5)))
        have hAc : c.p = [] ∨ some (arrA w.heap.size c.pos) = some ⟨w.heap.size, c.pos, none⟩ := by
          by_cases h0 : c.p = []
          · exact .inl h0
          · have := List.length_pos_iff.2 h0
            have := Hfit.out
            exact .inr (by unfold arrA; rw [if_neg (by omega)])
        have HA := Lib.hid hAc
        clear hAc
        go_wp2_with fail
        refine rg_start (by kernel_rfl) ?_
        refine rg_take 0 rfl (by kernel_rfl) (by kernel_rfl) (by kernel_rfl) (fun _ _ _ _ h => h) (by rfl) ⟨_, fun w' hx => by (go_simp <;> with_reducible rfl), ?_⟩
        simp only [Act.put, List.setIfInBounds_toArray, List.set_cons_zero, List.set_cons_succ]
        refine rg_take 1 rfl (by kernel_rfl) (by kernel_rfl) (by kernel_rfl) (fun _ _ _ _ h => h) (by rfl) ⟨_, fun w' hx => by (go_simp <;> with_reducible rfl), ?_⟩
        simp only [Act.put, List.setIfInBounds_toArray, List.set_cons_zero, List.set_cons_succ]
        refine rg_take 2 rfl (by kernel_rfl) (by kernel_rfl) (by kernel_rfl) (fun _ _ _ _ h => h) (by rfl) ⟨_, fun w' hx => by (go_simp <;> with_reducible rfl), ?_⟩
        simp only [Act.put, List.setIfInBounds_toArray, List.set_cons_zero, List.set_cons_succ]
        refine rg_take 3 rfl (by kernel_rfl) (by kernel_rfl) (by kernel_rfl) (fun _ _ _ _ h => h) (by rfl) ⟨_, fun w' hx => by (go_simp <;> with_reducible rfl), ?_⟩
        simp only [Act.put, List.setIfInBounds_toArray, List.set_cons_zero, List.set_cons_succ]
        refine rg_take 4 rfl (by kernel_rfl) (by kernel_rfl) (by kernel_rfl) (fun _ _ _ _ h => h) (by rfl) ⟨.int .i64 (je : Int), fun w' hx => by (go_simp <;> with_reducible rfl), ?_⟩
        simp only [Act.put, List.setIfInBounds_toArray, List.set_cons_zero, List.set_cons_succ]
        refine rg_take 5 rfl (by kernel_rfl) (by kernel_rfl) (by kernel_rfl) (fun _ _ _ _ h => h) (by rfl) ⟨_, fun w' hx => by (go_simp <;> with_reducible rfl), ?_⟩   -- t46 := slice 30 t41 t42 t45 -
        simp only [Act.put, List.setIfInBounds_toArray, List.set_cons_zero, List.set_cons_succ]
        refine rg_take 6 rfl (by kernel_rfl) (by kernel_rfl) (by kernel_rfl) (fun _ _ _ _ h => h) (by rfl) ⟨_, fun w' hx => by (go_simp <;> with_reducible rfl), ?_⟩
        simp only [Act.put, List.setIfInBounds_toArray, List.set_cons_zero, List.set_cons_succ]
        refine rg_take 7 rfl (by kernel_rfl) (by kernel_rfl) (by kernel_rfl) (fun _ _ _ _ h => h) (by rfl) ⟨_, fun w' hx => by (go_simp <;> with_reducible rfl), ?_⟩   -- t48 := nilCheck t47
        simp only [Act.put, List.setIfInBounds_toArray, List.set_cons_zero, List.set_cons_succ]
        refine rg_take 8 rfl (by kernel_rfl) (by kernel_rfl) (by kernel_rfl) (fun _ _ _ _ h => h) (by rfl) ⟨_, fun w' hx => by (go_simp <;> with_reducible rfl), ?_⟩   -- t49 := fieldAddr 47 t48 0
        simp only [Act.put, List.setIfInBounds_toArray, List.set_cons_zero, List.set_cons_succ]
        refine rg_take 9 rfl (by kernel_rfl) (by kernel_rfl) (by kernel_rfl) (fun _ _ _ _ h => h) (by rfl) ⟨_, fun w' hx => by (go_simp <;> with_reducible rfl), ?_⟩
        simp only [Act.put, List.setIfInBounds_toArray, List.set_cons_zero, List.set_cons_succ]
        refine rg_take 10 rfl (by kernel_rfl) (by kernel_rfl) (by kernel_rfl) (fun _ _ _ _ h => h) (by rfl) ⟨_, fun w' hx => by (go_simp <;> with_reducible rfl), ?_⟩
        simp only [Act.put, List.setIfInBounds_toArray, List.set_cons_zero, List.set_cons_succ]
        refine rg_take 11 rfl (by kernel_rfl) (by kernel_rfl) (by kernel_rfl) (fun _ _ _ _ h => h) (by rfl) ⟨_, fun w' hx => by (go_simp <;> with_reducible rfl), ?_⟩
        simp only [Act.put, List.setIfInBounds_toArray, List.set_cons_zero, List.set_cons_succ]
        refine rg_take 12 rfl (by kernel_rfl) (by kernel_rfl) (by kernel_rfl) (fun _ _ _ _ h => h) (by rfl) ⟨.int .i64 (je : Int), fun w' hx => by (go_simp <;> with_reducible rfl), ?_⟩
        simp only [Act.put, List.setIfInBounds_toArray, List.set_cons_zero, List.set_cons_succ]
        refine rg_take 13 rfl (by kernel_rfl) (by kernel_rfl) (by kernel_rfl) (fun _ _ _ _ h => h) (by rfl) ⟨_, fun w' hx => by (go_simp <;> with_reducible rfl), ?_⟩   -- t54 := slice 45 t49 t50 t53 -
        simp only [Act.put, List.setIfInBounds_toArray, List.set_cons_zero, List.set_cons_succ]
        refine rg_last 14 rfl (by kernel_rfl) (by kernel_rfl) (by rfl) fun K hK => wp_copyB (.tmp 46) (.tmp 54) 25 rfl elemB w.heap.size c.pos c.p.length (243 - c.pos) (some (arrA w.heap.size c.pos)) rfl (some (arrA g c.pos)) (243 - c.pos) out5 c.p rfl 5 HA.out (Nat.le_refl _) hrow5.out (by rw [hol5]; exact Hfit.out) hrd5.out fun w6 hr6 hg6 => hK _ _ ?_
        simp only [Act.put, List.setIfInBounds_toArray, List.set_cons_zero, List.set_cons_succ]
        refine rg_done (by kernel_rfl) ?_
        go_wp2_with fail
        go_roundw
        case rel => exact ⟨k + 1, _, by omega, by go_num, Hstep.out, ⟨hr6⟩, below_row (Ext.tr hE5 (Ext.drew w5)) hg6 (Nat.le_refl _) (Ext.tr hE5 (Ext.drew w5)).size⟩
        case measure => simp [intOf]; omega
      · have hl0 : 0 < c.p.length := List.length_pos_iff.2 hp0
        have bz : ((c.p.length : Int) == 0) = false := by rw [beq_eq_false_iff_ne]; omega
        have bz2 : ¬ (c.p.length : Int) = 0 := by omega
        rw [if_neg hp0] at Hstep
        obtain ⟨out5, hout5⟩ : ∃ out5, out5 = out := ⟨_, rfl⟩
        go_wp2_with (go_at_call 76; refine hp.mono ?_; rintro e4 w4 ⟨rfl, hb4⟩; refine Hid.out ?_)
        obtain ⟨w5, hw5⟩ : ∃ w5, w5 = w4 := ⟨_, rfl⟩
        have hO6 : BO w5 w.heap.size out5 := by rw [hw5, hout5]; exact HO.out.ext hb4
        have hE5 : Ext w w5 := by rw [hw5]; exact Ext.tr hE hb4
        rw [← hout5] at Hstep hol
        have hol5 := hol
        rw [← hw5]
        have Hp0 := Lib.hid hp0
        clear hout5 hw5 hb4 hlow hp0
        refine Lib.hid ?_
        have hrow5 := Lib.hid (hO6.ext (Ext.drew w5)).row
        have hrd5 := Lib.hid (Hrdc.out w5.drew (Ext.tr hE5 (Ext.drew w5)))
        have hAc : c.p = [] ∨ some (arrA w.heap.size c.pos) = some ⟨w.heap.size, c.pos, none⟩ := by
          by_cases h0 : c.p = []
          · exact .inl h0
          · have := List.length_pos_iff.2 h0
            have := Hfit.out
            exact .inr (by unfold arrA; rw [if_neg (by omega)])
        have HA := Lib.hid hAc
        clear hAc
        go_wp2_with fail
        refine rg_start (by kernel_rfl) ?_
        refine rg_take 0 rfl (by kernel_rfl) (by kernel_rfl) (by kernel_rfl) (fun _ _ _ _ h => h) (by rfl) ⟨_, fun w' hx => by (go_simp <;> with_reducible rfl), ?_⟩
        simp only [Act.put, List.setIfInBounds_toArray, List.set_cons_zero, List.set_cons_succ]
        refine rg_take 1 rfl (by kernel_rfl) (by kernel_rfl) (by kernel_rfl) (fun _ _ _ _ h => h) (by rfl) ⟨_, fun w' hx => by (go_simp <;> with_reducible rfl), ?_⟩
        simp only [Act.put, List.setIfInBounds_toArray, List.set_cons_zero, List.set_cons_succ]
        refine rg_take 2 rfl (by kernel_rfl) (by kernel_rfl) (by kernel_rfl) (fun _ _ _ _ h => h) (by rfl) ⟨_, fun w' hx => by (go_simp <;> with_reducible rfl), ?_⟩
        simp only [Act.put, List.setIfInBounds_toArray, List.set_cons_zero, List.set_cons_succ]
        refine rg_take 3 rfl (by kernel_rfl) (by kernel_rfl) (by kernel_rfl) (fun _ _ _ _ h => h) (by rfl) ⟨_, fun w' hx => by (go_simp <;> with_reducible rfl), ?_⟩
        simp only [Act.put, List.setIfInBounds_toArray, List.set_cons_zero, List.set_cons_succ]
        refine rg_take 4 rfl (by kernel_rfl) (by kernel_rfl) (by kernel_rfl) (fun _ _ _ _ h => h) (by rfl) ⟨.int .i64 (je : Int), fun w' hx => by (go_simp <;> with_reducible rfl), ?_⟩
        simp only [Act.put, List.setIfInBounds_toArray, List.set_cons_zero, List.set_cons_succ]
        refine rg_take 5 rfl (by kernel_rfl) (by kernel_rfl) (by kernel_rfl) (fun _ _ _ _ h => h) (by rfl) ⟨_, fun w' hx => by (go_simp <;> with_reducible rfl), ?_⟩   -- t46 := slice 30 t41 t42 t45 -
        simp only [Act.put, List.setIfInBounds_toArray, List.set_cons_zero, List.set_cons_succ]
        refine rg_take 6 rfl (by kernel_rfl) (by kernel_rfl) (by kernel_rfl) (fun _ _ _ _ h => h) (by rfl) ⟨_, fun w' hx => by (go_simp <;> with_reducible rfl), ?_⟩
        simp only [Act.put, List.setIfInBounds_toArray, List.set_cons_zero, List.set_cons_succ]
        refine rg_take 7 rfl (by kernel_rfl) (by kernel_rfl) (by kernel_rfl) (fun _ _ _ _ h => h) (by rfl) ⟨_, fun w' hx => by (go_simp <;> with_reducible rfl), ?_⟩   -- t48 := nilCheck t47
        simp only [Act.put, List.setIfInBounds_toArray, List.set_cons_zero, List.set_cons_succ]
        refine rg_take 8 rfl (by kernel_rfl) (by kernel_rfl) (by kernel_rfl) (fun _ _ _ _ h => h) (by rfl) ⟨_, fun w' hx => by (go_simp <;> with_reducible rfl), ?_⟩   -- t49 := fieldAddr 47 t48 0
        simp only [Act.put, List.setIfInBounds_toArray, List.set_cons_zero, List.set_cons_succ]
        refine rg_take 9 rfl (by kernel_rfl) (by kernel_rfl) (by kernel_rfl) (fun _ _ _ _ h => h) (by rfl) ⟨_, fun w' hx => by (go_simp <;> with_reducible rfl), ?_⟩
        simp only [Act.put, List.setIfInBounds_toArray, List.set_cons_zero, List.set_cons_succ]
        refine rg_take 10 rfl (by kernel_rfl) (by kernel_rfl) (by kernel_rfl) (fun _ _ _ _ h => h) (by rfl) ⟨_, fun w' hx => by (go_simp <;> with_reducible rfl), ?_⟩
        simp only [Act.put, List.setIfInBounds_toArray, List.set_cons_zero, List.set_cons_succ]
        refine rg_take 11 rfl (by kernel_rfl) (by kernel_rfl) (by kernel_rfl) (fun _ _ _ _ h => h) (by rfl) ⟨_, fun w' hx => by (go_simp <;> with_reducible rfl), ?_⟩
        simp only [Act.put, List.setIfInBounds_toArray, List.set_cons_zero, List.set_cons_succ]
        refine rg_take 12 rfl (by kernel_rfl) (by kernel_rfl) (by kernel_rfl) (fun _ _ _ _ h => h) (by rfl) ⟨.int .i64 (je : Int), fun w' hx => by (go_simp <;> with_reducible rfl), ?_⟩
        simp only [Act.put, List.setIfInBounds_toArray, List.set_cons_zero, List.set_cons_succ]
        refine rg_take 13 rfl (by kernel_rfl) (by kernel_rfl) (by kernel_rfl) (fun _ _ _ _ h => h) (by rfl) ⟨_, fun w' hx => by (go_simp <;> with_reducible rfl), ?_⟩   -- t54 := slice 45 t49 t50 t53 -
        simp only [Act.put, List.setIfInBounds_toArray, List.set_cons_zero, List.set_cons_succ]
        refine rg_last 14 rfl (by kernel_rfl) (by kernel_rfl) (by rfl) fun K hK => wp_copyB (.tmp 46) (.tmp 54) 25 rfl elemB w.heap.size c.pos c.p.length (243 - c.pos) (some (arrA w.heap.size c.pos)) rfl (some (arrA g c.pos)) (243 - c.pos) out5 c.p rfl 5 HA.out (Nat.le_refl _) hrow5.out (by rw [hol5]; exact Hfit.out) hrd5.out fun w6 hr6 hg6 => hK _ _ ?_
        simp only [Act.put, List.setIfInBounds_toArray, List.set_cons_zero, List.set_cons_succ]
        refine rg_done (by kernel_rfl) ?_
        go_wp2_with fail
        go_roundw
        case rel => exact ⟨k + 1, _, by omega, by go_num, Hstep.out, ⟨hr6⟩, below_row (Ext.tr hE5 (Ext.drew w5)) hg6 (Nat.le_refl _) (Ext.tr hE5 (Ext.drew w5)).size⟩
        case measure => simp [intOf]; omega
    · obtain rfl : k = m.l.length := by omega
      have hD := Lib.hid hP.done
      have hol := hP.len
      clear hP
      go_wp2
      go_ret
      exact ⟨out, _, hD.out, rfl, hO.own (Nat.le_refl _) hol.symm (by omega), hE⟩
end Go.Proofs.YtkpagmfaccmiaaaGreat

/- Contracts: slot.Body's Insert, Delete. Printed by wip/tools/gen_sltins06.py. -/

namespace Go.Proofs.YtkpagmfaccmiaaaGreat

open Go.RowKit

attribute [local go_sem] Oper.semAt_some

theorem RdB.other {w w' : World} {A : Option Addr} {d : List UInt8} {g : Nat} (h : RdB w A d) (hg : w.grownBy w' (some g)) (hn : ∀ ad, A = some ad → ad.block ≠ g) : RdB w' A d := Rd.grown h hg (fun ad e h2 => hn ad e (by injection h2))
theorem RdB.otherN {w w' : World} {A : Option Addr} {d : List UInt8} {g : Nat} (h : RdB w A d) (hg : w.grownBy w' (some g)) (hn : d ≠ [] → ∀ ad, A = some ad → ad.block ≠ g) : RdB w' A d := by
  by_cases hd : d = []
  · subst hd; exact RdB.nil_ _ _
  · exact h.other hg (hn hd)
/-- What has bytes lies among the blocks. -/
theorem RdB.lt {w : World} {A : Option Addr} {d : List UInt8} (h : RdB w A d) (hd : d ≠ []) (ad : Addr) (e : A = some ad) : ad.block < w.heap.size := by
  obtain ⟨ad', e', hc⟩ := h.at_ (k := 0) (List.length_pos_iff.2 hd)
  rw [e] at e'; injection e' with e'; subst e'
  by_cases hlt : ad.block < w.heap.size
  · exact hlt
  · have : w.heap[ad.block]? = none := Array.getElem?_eq_none (by omega)
    exact absurd hc (by simp [World.cell?, Addr.add, this])
theorem arrA_lt {g l : Nat} (h : l ≠ 243) : arrA g l = ⟨g, l, none⟩ := by unfold arrA; rw [if_neg (fun e => h e.symm)]
set_option maxRecDepth 100000 in
set_option maxHeartbeats 1000000 in
theorem insert_any (g : Nat) (b : List UInt8) (m : SBody) (i : Int) (C : Option Addr) (c : List UInt8) (cc : Nat) (w : World) (h : SAt w g b m) (hC : RdB w C c) (hne : c ≠ [] → ∀ ad, C = some ad → ad.block ≠ g) (hcl : c.length ≤ 1000000) :
    Calls Tryz.prog 43 #[.pointer (some ⟨g, 0, none⟩), .int .i64 i, .slice C c.length cc] w fun e w' => e = .returned (.int .i64 (m.insert i c).1) ∧ (∃ b', SAt w' g b' (m.insert i c).2) ∧ w.grownBy w' (some g) := by
  have hn := h.inv.n
  have hn0 : slN b = m.l.length := h.n
  have hL := blen_any g b w h.bb
  rw [hn0] at hL
  have Hh := Lib.hid h
  have Hne := Lib.hid hne
  obtain ⟨n, hnn⟩ : ∃ n, n = m.l.length := ⟨_, rfl⟩
  rw [← hnn] at hL hn hn0
  have Hnn := Lib.hid hnn
  clear h hnn
  by_cases h0 : i < 0
  · have he : m.insert i c = (7, m) := by unfold SBody.insert; rw [if_pos (.inl h0)]
    go_enter Tryz.func43, Tryz.ntmps43
    go_wp2_with (go_at_call 70; refine hL.mono ?_; rintro e1 w1 ⟨rfl, rfl⟩)
    go_ret
    rw [he]
    exact ⟨rfl, ⟨b, Hh.out⟩, ⟨rfl, rfl, rfl, Nat.le_refl _, fun _ _ _ => rfl⟩⟩
  by_cases h1 : (n : Int) < i
  · have he : m.insert i c = (7, m) := by unfold SBody.insert; rw [if_pos (.inr (by rw [← Hnn.out]; exact h1))]
    go_enter Tryz.func43, Tryz.ntmps43
    go_wp2_with (go_at_call 70; refine hL.mono ?_; rintro e1 w1 ⟨rfl, rfl⟩)
    go_ret
    rw [he]
    exact ⟨rfl, ⟨b, Hh.out⟩, ⟨rfl, rfl, rfl, Nat.le_refl _, fun _ _ _ => rfl⟩⟩
  have hin : ¬ (i < 0 ∨ (m.l.length : Int) < i) := by rw [← Hnn.out]; omega
  obtain ⟨k, rfl⟩ : ∃ k : Nat, i = k := ⟨i.toNat, by omega⟩
  have hk : k ≤ n := by omega
  have Hin := Lib.hid hin
  clear hin
  by_cases h2 : 78 < c.length
  · have he : m.insert k c = (1, m) := by unfold SBody.insert; rw [if_neg Hin.out, if_pos h2]
    have b2 : (78 : Int) < (c.length : Int) := by omega
    go_enter Tryz.func43, Tryz.ntmps43
    go_wp2_with (go_at_call 70; refine hL.mono ?_; rintro e1 w1 ⟨rfl, rfl⟩)
    go_ret
    rw [he]
    exact ⟨rfl, ⟨b, Hh.out⟩, ⟨rfl, rfl, rfl, Nat.le_refl _, fun _ _ _ => rfl⟩⟩
  have b2 : ¬ (78 : Int) < (c.length : Int) := by omega
  have hF := free_any g b m w Hh.out
  obtain ⟨fr, hfr⟩ : ∃ fr, fr = m.free := ⟨_, rfl⟩
  rw [← hfr] at hF
  have w2c : IntKind.i64.wrap (2 + (c.length : Int)) = ((2 + c.length : Nat) : Int) := by rw [IntKind.wrap_i64]; omega
  by_cases h3 : fr < 2 + c.length
  · have he : m.insert k c = (60, m) := by unfold SBody.insert; rw [if_neg Hin.out, if_neg h2, if_pos (by rw [← hfr]; exact h3)]
    have b3 : (fr : Int) < ((2 + c.length : Nat) : Int) := by omega
    clear hfr
    go_enter Tryz.func43, Tryz.ntmps43
    go_wp2_with (first | (go_at_call 70; refine hL.mono ?_; rintro e1 w1 ⟨rfl, rfl⟩) | (go_at_call 71; refine hF.mono ?_; rintro e2 w2 ⟨rfl, hb2⟩))
    go_ret
    rw [he]
    exact ⟨rfl, ⟨b, Hh.out.ext hb2⟩, grown_ext hb2 _⟩
  have b3 : ¬ (fr : Int) < ((2 + c.length : Nat) : Int) := by omega
  have he : m.insert k c = (0, (m.room c).lay k c) := by
    unfold SBody.insert
    rw [if_neg Hin.out, if_neg h2, if_neg (by rw [← hfr]; exact h3), Int.toNat_natCast]
  have hfit : 2 + 2 * (n + 1) + c.length ≤ (m.room c).top := by rw [Hnn.out]; exact SBody.room_fits (by rw [← hfr]; omega)
  have He := Lib.hid he
  have Hfit := Lib.hid hfit
  clear he hfit hfr
  have hT := top_any g b
  have hsT : slT b = m.top := Hh.out.rel.slT Hh.out.inv
  rw [hsT] at hT
  have htop := Hh.out.inv.top
  obtain ⟨t, ht⟩ : ∃ t, t = m.top := ⟨_, rfl⟩
  rw [← ht] at hT htop
  have hd1 := dir_any (n + 1) (by omega)
  obtain ⟨dn, hdn⟩ : ∃ dn, dn = 2 + 2 * (n + 1) := ⟨_, rfl⟩
  rw [← hdn] at hd1
  have wn1 : IntKind.i64.wrap ((n : Int) + 1) = ((n + 1 : Nat) : Int) := by rw [IntKind.wrap_i64]; omega
  have wk1 : IntKind.i64.wrap ((k : Int) + 1) = ((k + 1 : Nat) : Int) := by rw [IntKind.wrap_i64]; omega
  have wt : IntKind.i64.wrap ((t : Int) - (dn : Int)) = (t : Int) - (dn : Int) := by rw [IntKind.wrap_i64]; omega
  obtain ⟨n1, hn1⟩ : ∃ n1, n1 = n + 1 := ⟨_, rfl⟩
  obtain ⟨k1, hk1⟩ : ∃ k1, k1 = k + 1 := ⟨_, rfl⟩
  rw [← hn1] at hd1 wn1
  rw [← hk1] at wk1
  have hroom : (m.room c) = if t < dn + c.length then m.pack else m := by unfold SBody.room; rw [← Hnn.out, ← ht, ← hdn]
  have Hroom := Lib.hid hroom
  have Ht := Lib.hid ht
  have Hdn := Lib.hid hdn
  have Hk1 := Lib.hid hk1
  have Hn1 := Lib.hid hn1
  have HT : Hid (∀ w2, Ext w w2 → Calls Tryz.prog 72 #[.pointer (some ⟨g, 0, none⟩)] w2 fun e w' => e = .returned (.int .i64 (t : Int)) ∧ w2 = w') := fun w2 hx => hT w2 (Hh.out.ext hx).bb
  clear hroom ht hdn hk1 hn1 hT hsT
  by_cases h4 : t < dn + c.length
  · have b4 : (t : Int) - (dn : Int) < (c.length : Int) := by omega
    have hroom : m.room c = m.pack := by rw [Hroom.out, if_pos h4]
    have HR := Lib.hid hroom
    clear hroom
    go_enter Tryz.func43, Tryz.ntmps43
    go_wp2_with (first | (go_at_call 70; refine hL.mono ?_; rintro e1 w1 ⟨rfl, rfl⟩) | (go_at_call 71; refine hF.mono ?_; rintro e2 w2 ⟨rfl, hb2⟩) | (go_at_call 72; refine (HT.out w2 hb2).mono ?_; rintro e3 w3 ⟨rfl, rfl⟩) | (go_at_call 73; refine (hd1 w2).mono ?_; rintro e4 w4 ⟨rfl, rfl⟩) | (go_at_call 74; refine (pack_any g b m w2 (Hh.out.ext hb2)).mono ?_; rintro e5 w5 ⟨rfl, ⟨bp, hSp⟩, hg5⟩; refine Hid.out ?_))
    have hgw : w.grownBy w5 (some g) := grown_tr (grown_ext hb2 _) hg5
    rw [← HR.out] at hSp
    clear hb2 hg5
    refine Lib.hid ?_
    go_wp2_with fail
    have hI5 := hSp.inv
    have hn5 : slN bp = n := by rw [hSp.n, SBody.room_len]; exact Hnn.out.symm
    have hl5 : (m.room c).l.length = n := by rw [SBody.room_len]; exact Hnn.out.symm
    have hT5 : slT bp = (m.room c).top := hSp.rel.slT hI5
    have htp := hI5.top
    have hfit := Hfit.out
    have hbl := hSp.bb.len
    have hrow5 := Lib.hid (hSp.ext (Ext.drew w5)).bb.row
    obtain ⟨p, hp⟩ : ∃ p, p = (bp.drop (2 + 2 * k)).take (2 * (n - k)) := ⟨_, rfl⟩
    have hpl : p.length = 2 * (n - k) := by rw [hp, List.length_take, List.length_drop]; omega
    have hrdp : RdB w5.drew (some (arrA g (2 + 2 * k))) p := by rw [hp]; exact (hSp.ext (Ext.drew w5)).bb.partA _ _ (by omega)
    have hshift : ovw bp (2 + 2 * (k + 1)) p = shiftUp bp k n := by rw [hp]; rfl
    obtain ⟨da, hda⟩ : ∃ da, da = 2 + 2 * (k + 1) := ⟨_, rfl⟩
    obtain ⟨db, hdb⟩ : ∃ db, db = 2 + 2 * k := ⟨_, rfl⟩
    obtain ⟨dc, hdc⟩ : ∃ dc, dc = 2 + 2 * n := ⟨_, rfl⟩
    have hdnv := Hdn.out
    have d5 := dir_any k1 (by rw [Hk1.out]; omega) w5.drew
    have d8 := hd1 w5.drew
    have d14 := dir_any k (by omega) w5.drew
    have d16 := dir_any n (by omega) w5.drew
    rw [Hk1.out, ← hda, ← Hk1.out] at d5
    rw [← hdb] at d14 hrdp
    rw [← hdc] at d16
    rw [← hda] at hshift
    have s9 := fun w' => arr_lh g da dn (by omega) (by omega) w'
    have s17 := fun w' => arr_lh g db dc (by omega) (by omega) w'
    rw [show dn - da = p.length by omega] at s9
    rw [show dc - db = p.length by omega] at s17
    have hfa : da + p.length ≤ 243 := by omega
    have hda243 : da ≠ 243 := by omega
    have Hshift := Lib.hid hshift
    have HSp := Lib.hid hSp
    have Hpl := Lib.hid hpl
    have Hfa := Lib.hid hfa
    have Hrdp := Lib.hid hrdp
    clear hp hpl hrdp hshift hda hdb hdc hdnv hfa hSp
    refine rg_start (by kernel_rfl) ?_
    refine rg_take 0 rfl (by kernel_rfl) (by kernel_rfl) (by kernel_rfl) (fun _ _ _ _ h => h) (by rfl) ⟨_, fun w' hx => by (go_simp <;> with_reducible rfl), ?_⟩
    simp only [Act.put, List.setIfInBounds_toArray, List.set_cons_zero, List.set_cons_succ]
    refine rg_take 1 rfl (by kernel_rfl) (by kernel_rfl) (by kernel_rfl) (fun _ _ _ _ h => h) (by rfl) ⟨_, fun w' hx => by (go_simp <;> with_reducible rfl), ?_⟩   -- t45 := nilCheck t44
    simp only [Act.put, List.setIfInBounds_toArray, List.set_cons_zero, List.set_cons_succ]
    refine rg_take 2 rfl (by kernel_rfl) (by kernel_rfl) (by kernel_rfl) (fun _ _ _ _ h => h) (by rfl) ⟨_, fun w' hx => by (go_simp <;> with_reducible rfl), ?_⟩   -- t46 := fieldAddr 47 t45 0
    simp only [Act.put, List.setIfInBounds_toArray, List.set_cons_zero, List.set_cons_succ]
    refine rg_take 3 rfl (by kernel_rfl) (by kernel_rfl) (by kernel_rfl) (fun _ _ _ _ h => h) (by rfl) ⟨_, fun w' hx => by (go_simp <;> with_reducible rfl), ?_⟩
    simp only [Act.put, List.setIfInBounds_toArray, List.set_cons_zero, List.set_cons_succ]
    refine rg_take 4 rfl (by kernel_rfl) (by kernel_rfl) (by kernel_rfl) (fun _ _ _ _ h => h) (by rfl) ⟨.int .i64 (k1 : Int), fun w' hx => by (go_simp <;> with_reducible rfl), ?_⟩
    simp only [Act.put, List.setIfInBounds_toArray, List.set_cons_zero, List.set_cons_succ]
    refine rg_take 6 rfl (by kernel_rfl) (by kernel_rfl) (by kernel_rfl) (fun _ _ _ _ h => h) (by rfl) ⟨_, fun w' hx => by (go_simp <;> with_reducible rfl), ?_⟩
    simp only [Act.put, List.setIfInBounds_toArray, List.set_cons_zero, List.set_cons_succ]
    refine rg_take 7 rfl (by kernel_rfl) (by kernel_rfl) (by kernel_rfl) (fun _ _ _ _ h => h) (by rfl) ⟨.int .i64 (n1 : Int), fun w' hx => by (go_simp <;> with_reducible rfl), ?_⟩
    simp only [Act.put, List.setIfInBounds_toArray, List.set_cons_zero, List.set_cons_succ]
    refine rg_take 10 rfl (by kernel_rfl) (by kernel_rfl) (by kernel_rfl) (fun _ _ _ _ h => h) (by rfl) ⟨_, fun w' hx => by (go_simp <;> with_reducible rfl), ?_⟩
    simp only [Act.put, List.setIfInBounds_toArray, List.set_cons_zero, List.set_cons_succ]
    refine rg_take 11 rfl (by kernel_rfl) (by kernel_rfl) (by kernel_rfl) (fun _ _ _ _ h => h) (by rfl) ⟨_, fun w' hx => by (go_simp <;> with_reducible rfl), ?_⟩   -- t55 := nilCheck t54
    simp only [Act.put, List.setIfInBounds_toArray, List.set_cons_zero, List.set_cons_succ]
    refine rg_take 12 rfl (by kernel_rfl) (by kernel_rfl) (by kernel_rfl) (fun _ _ _ _ h => h) (by rfl) ⟨_, fun w' hx => by (go_simp <;> with_reducible rfl), ?_⟩   -- t56 := fieldAddr 47 t55 0
    simp only [Act.put, List.setIfInBounds_toArray, List.set_cons_zero, List.set_cons_succ]
    refine rg_take 13 rfl (by kernel_rfl) (by kernel_rfl) (by kernel_rfl) (fun _ _ _ _ h => h) (by rfl) ⟨_, fun w' hx => by (go_simp <;> with_reducible rfl), ?_⟩
    simp only [Act.put, List.setIfInBounds_toArray, List.set_cons_zero, List.set_cons_succ]
    refine rg_take 15 rfl (by kernel_rfl) (by kernel_rfl) (by kernel_rfl) (fun _ _ _ _ h => h) (by rfl) ⟨_, fun w' hx => by (go_simp <;> with_reducible rfl), ?_⟩
    simp only [Act.put, List.setIfInBounds_toArray, List.set_cons_zero, List.set_cons_succ]
    refine rg_call 5 d5 rfl (by kernel_rfl) (by rfl) (by go_simp) ?_
    rintro e w' ⟨rfl, rfl⟩
    refine ⟨_, rfl, Ext.refl _, ?_⟩
    simp only [Act.put, List.setIfInBounds_toArray, List.set_cons_zero, List.set_cons_succ]
    refine rg_call 8 d8 rfl (by kernel_rfl) (by rfl) (by go_simp) ?_
    rintro e w' ⟨rfl, rfl⟩
    refine ⟨_, rfl, Ext.refl _, ?_⟩
    simp only [Act.put, List.setIfInBounds_toArray, List.set_cons_zero, List.set_cons_succ]
    refine rg_take 9 rfl (by kernel_rfl) (by kernel_rfl) (by kernel_rfl) (fun _ _ _ _ h => h) (by rfl) ⟨_, fun w' hx => by (go_simp <;> with_reducible rfl), ?_⟩   -- t53 := slice 45 t46 t49 t52 -
    simp only [Act.put, List.setIfInBounds_toArray, List.set_cons_zero, List.set_cons_succ]
    refine rg_call 14 d14 rfl (by kernel_rfl) (by rfl) (by go_simp) ?_
    rintro e w' ⟨rfl, rfl⟩
    refine ⟨_, rfl, Ext.refl _, ?_⟩
    simp only [Act.put, List.setIfInBounds_toArray, List.set_cons_zero, List.set_cons_succ]
    refine rg_call 16 d16 rfl (by kernel_rfl) (by rfl) (by go_simp) ?_
    rintro e w' ⟨rfl, rfl⟩
    refine ⟨_, rfl, Ext.refl _, ?_⟩
    simp only [Act.put, List.setIfInBounds_toArray, List.set_cons_zero, List.set_cons_succ]
    refine rg_take 17 rfl (by kernel_rfl) (by kernel_rfl) (by kernel_rfl) (fun _ _ _ _ h => h) (by rfl) ⟨_, fun w' hx => by (go_simp <;> with_reducible rfl), ?_⟩   -- t61 := slice 45 t56 t58 t60 -
    simp only [Act.put, List.setIfInBounds_toArray, List.set_cons_zero, List.set_cons_succ]
    refine rg_last 18 rfl (by kernel_rfl) (by kernel_rfl) (by rfl) fun K hK => wp_copyB (.tmp 53) (.tmp 61) 25 rfl elemB g da p.length (243 - da) (some (arrA g da)) rfl (some (arrA g db)) (243 - db) bp p rfl 96 (.inr (by rw [arrA_lt hda243])) (Nat.le_refl _) hrow5.out (by rw [hbl]; exact Hfa.out) Hrdp.out fun w6 hr6 hg6 => hK _ _ ?_
    simp only [Act.put, List.setIfInBounds_toArray, List.set_cons_zero, List.set_cons_succ]
    refine rg_done (by kernel_rfl) ?_
    have hrs : w6.heap[g]? = some (.cells (bvs (shiftUp bp k n)).toArray 96 (0, 0)) := by rw [← Hshift.out]; exact hr6
    have hsl : (shiftUp bp k n).length = 243 := shiftUp_len hbl (by omega) (by omega)
    have B6 : BB w6 g (shiftUp bp k n) := ⟨hrs, hsl⟩
    have hg6w : w.grownBy w6 (some g) := grown_tr (grown_tr hgw (grown_ext (Ext.drew w5) _)) hg6
    have e0 : (shiftUp bp k n).getD 0 0 = bp.getD 0 0 := by
      rw [List.getD_eq_getElem?_getD, List.getD_eq_getElem?_getD, shiftUp_get hbl (by omega) (by omega), if_pos (by omega)]
    have c6 : w6.drew.cell? ⟨g, 0, none⟩ = some (.int .u8 (n : Int)) := by
      have := (B6.ext (Ext.drew w6)).cell (j := 0) (by omega)
      rw [this, e0, ← hn5]
      rfl
    have f6 : w6.drew.frozen? ⟨g, 0, none⟩ = false := (B6.ext (Ext.drew w6)).frozen 0
    have u6 : IntKind.u8.wrap ((n : Int) + 1) = ((n1 : Nat) : Int) := by rw [Hn1.out]; simp [IntKind.wrap, IntKind.bits, IntKind.signed]; omega
    have B7 := (B6.ext (Ext.drew w6)).set 0 (u8 n1)
    rw [u8_nat (by rw [Hn1.out]; omega)] at B7
    have HB7 := Lib.hid B7
    clear hrs hr6 hg6 B7 B6 e0
    go_wp2_with fail
    refine rg_start (by kernel_rfl) ?_
    refine rg_take 0 rfl (by kernel_rfl) (by kernel_rfl) (by kernel_rfl) (fun _ _ _ _ h => h) (by rfl) ⟨_, fun w' hx => by (go_simp <;> with_reducible rfl), ?_⟩
    simp only [Act.put, List.setIfInBounds_toArray, List.set_cons_zero, List.set_cons_succ]
    refine rg_take 1 rfl (by kernel_rfl) (by kernel_rfl) (by kernel_rfl) (fun _ _ _ _ h => h) (by rfl) ⟨_, fun w' hx => by (go_simp <;> with_reducible rfl), ?_⟩   -- t64 := nilCheck t63
    simp only [Act.put, List.setIfInBounds_toArray, List.set_cons_zero, List.set_cons_succ]
    refine rg_take 2 rfl (by kernel_rfl) (by kernel_rfl) (by kernel_rfl) (fun _ _ _ _ h => h) (by rfl) ⟨_, fun w' hx => by (go_simp <;> with_reducible rfl), ?_⟩   -- t65 := fieldAddr 47 t64 0
    simp only [Act.put, List.setIfInBounds_toArray, List.set_cons_zero, List.set_cons_succ]
    refine rg_take 3 rfl (by kernel_rfl) (by kernel_rfl) (by kernel_rfl) (fun _ _ _ _ h => h) (by rfl) ⟨_, fun w' hx => by (go_simp <;> with_reducible rfl), ?_⟩   -- t66 := indexAddr 45 t65 0:i64
    simp only [Act.put, List.setIfInBounds_toArray, List.set_cons_zero, List.set_cons_succ]
    refine rg_take 4 rfl (by kernel_rfl) (by kernel_rfl) (by kernel_rfl) (fun _ _ _ _ h => h) (by rfl) ⟨_, fun w' hx => by have hcx := hx.load c6; (go_simp <;> with_reducible rfl), ?_⟩
    simp only [Act.put, List.setIfInBounds_toArray, List.set_cons_zero, List.set_cons_succ]
    refine rg_take 5 rfl (by kernel_rfl) (by kernel_rfl) (by kernel_rfl) (fun _ _ _ _ h => h) (by rfl) ⟨.int .u8 (n1 : Int), fun w' hx => by (go_simp <;> with_reducible rfl), ?_⟩
    simp only [Act.put, List.setIfInBounds_toArray, List.set_cons_zero, List.set_cons_succ]
    refine rg_take 6 rfl (by kernel_rfl) (by kernel_rfl) (by kernel_rfl) (fun _ _ _ _ h => h) (by rfl) ⟨_, fun w' hx => by (go_simp <;> with_reducible rfl), ?_⟩   -- t69 := nilCheck t63
    simp only [Act.put, List.setIfInBounds_toArray, List.set_cons_zero, List.set_cons_succ]
    refine rg_take 7 rfl (by kernel_rfl) (by kernel_rfl) (by kernel_rfl) (fun _ _ _ _ h => h) (by rfl) ⟨_, fun w' hx => by (go_simp <;> with_reducible rfl), ?_⟩   -- t70 := fieldAddr 47 t69 0
    simp only [Act.put, List.setIfInBounds_toArray, List.set_cons_zero, List.set_cons_succ]
    refine rg_take 8 rfl (by kernel_rfl) (by kernel_rfl) (by kernel_rfl) (fun _ _ _ _ h => h) (by rfl) ⟨_, fun w' hx => by (go_simp <;> with_reducible rfl), ?_⟩   -- t71 := indexAddr 45 t70 0:i64
    simp only [Act.put, List.setIfInBounds_toArray, List.set_cons_zero, List.set_cons_succ]
    refine rg_store 9 rfl (by kernel_rfl) (by kernel_rfl) (by rfl) ⟨_, by (go_simp <;> rfl), ?_⟩
    simp only [Act.put]
    refine rg_done (by kernel_rfl) ?_
    obtain ⟨w7, hw7⟩ : ∃ w7, w7 = (w6.setCell ⟨g, 0, none⟩ (.int .u8 (n1 : Int))).drew := ⟨_, rfl⟩
    have B7 : BB w7 g ((shiftUp bp k n).set 0 (u8 n1)) := by rw [hw7]; exact HB7.out
    have hg7 : w.grownBy w7 (some g) := by rw [hw7]; exact grown_tr (grown_tr hg6w (grown_cell _ _ _ _)) (grown_ext (Ext.drew _) _)
    have hC7 : RdB w7 C c := hC.otherN hg7 Hne.out
    have hT7 : slT ((shiftUp bp k n).set 0 (u8 n1)) = (m.room c).top := by
      unfold slT
      rw [List.getD_eq_getElem?_getD, set_get _ _ _ (by omega), if_neg (by omega), shiftUp_get hbl (by omega) (by omega), if_pos (by omega), HSp.out.rel.t]
      exact u8_nat (by omega)
    have hlay := lay_any g _ k C c cc w7 B7 hC7 (by omega) (by rw [hT7]; omega) (by rw [hT7]; omega) (by omega)
    rw [hT7] at hlay
    have hrel := HSp.out.rel.lay hI5 (i := k) (c := c) (by omega) (by rw [hl5]; omega)
    rw [hl5, ← Hn1.out] at hrel
    have hinv := SBody.lay_inv hI5 (i := k) (c := c) (by omega) (by omega) (by rw [hl5]; omega)
    have Hrel := Lib.hid hrel
    have Hinv := Lib.hid hinv
    rw [← hw7]
    clear hw7 hrel hinv hT7 B7 HB7 c6 f6
    go_wp2_with (go_at_call 75; refine hlay.mono ?_; rintro e8 w8 ⟨rfl, hB8, hg8⟩)
    go_ret
    rw [He.out]
    exact ⟨rfl, ⟨_, hB8, Hrel.out, Hinv.out⟩, grown_tr hg7 hg8⟩
  · have b4 : ¬ (t : Int) - (dn : Int) < (c.length : Int) := by omega
    have hroom : m.room c = m := by rw [Hroom.out, if_neg h4]
    have HR := Lib.hid hroom
    clear hroom
    go_enter Tryz.func43, Tryz.ntmps43
    go_wp2_with (first | (go_at_call 70; refine hL.mono ?_; rintro e1 w1 ⟨rfl, rfl⟩) | (go_at_call 71; refine hF.mono ?_; rintro e2 w2 ⟨rfl, hb2⟩) | (go_at_call 72; refine (HT.out w2 hb2).mono ?_; rintro e3 w3 ⟨rfl, rfl⟩) | (go_at_call 73; refine (hd1 w2).mono ?_; rintro e4 w4 ⟨rfl, rfl⟩; refine Hid.out ?_))
    have hSp := Hh.out.ext hb2
    rw [← HR.out] at hSp
    obtain ⟨bp, hbp⟩ : ∃ bp, bp = b := ⟨_, rfl⟩
    rw [← hbp] at hSp
    obtain ⟨w5, hw5⟩ : ∃ w5, w5 = w2 := ⟨_, rfl⟩
    have hgw : w.grownBy w5 (some g) := by rw [hw5]; exact grown_ext hb2 _
    rw [← hw5] at hSp ⊢
    clear hb2 hbp hw5
    refine Lib.hid ?_
    go_wp2_with fail
    have hI5 := hSp.inv
    have hn5 : slN bp = n := by rw [hSp.n, SBody.room_len]; exact Hnn.out.symm
    have hl5 : (m.room c).l.length = n := by rw [SBody.room_len]; exact Hnn.out.symm
    have hT5 : slT bp = (m.room c).top := hSp.rel.slT hI5
    have htp := hI5.top
    have hfit := Hfit.out
    have hbl := hSp.bb.len
    have hrow5 := Lib.hid (hSp.ext (Ext.drew w5)).bb.row
    obtain ⟨p, hp⟩ : ∃ p, p = (bp.drop (2 + 2 * k)).take (2 * (n - k)) := ⟨_, rfl⟩
    have hpl : p.length = 2 * (n - k) := by rw [hp, List.length_take, List.length_drop]; omega
    have hrdp : RdB w5.drew (some (arrA g (2 + 2 * k))) p := by rw [hp]; exact (hSp.ext (Ext.drew w5)).bb.partA _ _ (by omega)
    have hshift : ovw bp (2 + 2 * (k + 1)) p = shiftUp bp k n := by rw [hp]; rfl
    obtain ⟨da, hda⟩ : ∃ da, da = 2 + 2 * (k + 1) := ⟨_, rfl⟩
    obtain ⟨db, hdb⟩ : ∃ db, db = 2 + 2 * k := ⟨_, rfl⟩
    obtain ⟨dc, hdc⟩ : ∃ dc, dc = 2 + 2 * n := ⟨_, rfl⟩
    have hdnv := Hdn.out
    have d5 := dir_any k1 (by rw [Hk1.out]; omega) w5.drew
    have d8 := hd1 w5.drew
    have d14 := dir_any k (by omega) w5.drew
    have d16 := dir_any n (by omega) w5.drew
    rw [Hk1.out, ← hda, ← Hk1.out] at d5
    rw [← hdb] at d14 hrdp
    rw [← hdc] at d16
    rw [← hda] at hshift
    have s9 := fun w' => arr_lh g da dn (by omega) (by omega) w'
    have s17 := fun w' => arr_lh g db dc (by omega) (by omega) w'
    rw [show dn - da = p.length by omega] at s9
    rw [show dc - db = p.length by omega] at s17
    have hfa : da + p.length ≤ 243 := by omega
    have hda243 : da ≠ 243 := by omega
    have Hshift := Lib.hid hshift
    have HSp := Lib.hid hSp
    have Hpl := Lib.hid hpl
    have Hfa := Lib.hid hfa
    have Hrdp := Lib.hid hrdp
    clear hp hpl hrdp hshift hda hdb hdc hdnv hfa hSp
    refine rg_start (by kernel_rfl) ?_
    refine rg_take 0 rfl (by kernel_rfl) (by kernel_rfl) (by kernel_rfl) (fun _ _ _ _ h => h) (by rfl) ⟨_, fun w' hx => by (go_simp <;> with_reducible rfl), ?_⟩
    simp only [Act.put, List.setIfInBounds_toArray, List.set_cons_zero, List.set_cons_succ]
    refine rg_take 1 rfl (by kernel_rfl) (by kernel_rfl) (by kernel_rfl) (fun _ _ _ _ h => h) (by rfl) ⟨_, fun w' hx => by (go_simp <;> with_reducible rfl), ?_⟩   -- t45 := nilCheck t44
    simp only [Act.put, List.setIfInBounds_toArray, List.set_cons_zero, List.set_cons_succ]
    refine rg_take 2 rfl (by kernel_rfl) (by kernel_rfl) (by kernel_rfl) (fun _ _ _ _ h => h) (by rfl) ⟨_, fun w' hx => by (go_simp <;> with_reducible rfl), ?_⟩   -- t46 := fieldAddr 47 t45 0
    simp only [Act.put, List.setIfInBounds_toArray, List.set_cons_zero, List.set_cons_succ]
    refine rg_take 3 rfl (by kernel_rfl) (by kernel_rfl) (by kernel_rfl) (fun _ _ _ _ h => h) (by rfl) ⟨_, fun w' hx => by (go_simp <;> with_reducible rfl), ?_⟩
    simp only [Act.put, List.setIfInBounds_toArray, List.set_cons_zero, List.set_cons_succ]
    refine rg_take 4 rfl (by kernel_rfl) (by kernel_rfl) (by kernel_rfl) (fun _ _ _ _ h => h) (by rfl) ⟨.int .i64 (k1 : Int), fun w' hx => by (go_simp <;> with_reducible rfl), ?_⟩
    simp only [Act.put, List.setIfInBounds_toArray, List.set_cons_zero, List.set_cons_succ]
    refine rg_take 6 rfl (by kernel_rfl) (by kernel_rfl) (by kernel_rfl) (fun _ _ _ _ h => h) (by rfl) ⟨_, fun w' hx => by (go_simp <;> with_reducible rfl), ?_⟩
    simp only [Act.put, List.setIfInBounds_toArray, List.set_cons_zero, List.set_cons_succ]
    refine rg_take 7 rfl (by kernel_rfl) (by kernel_rfl) (by kernel_rfl) (fun _ _ _ _ h => h) (by rfl) ⟨.int .i64 (n1 : Int), fun w' hx => by (go_simp <;> with_reducible rfl), ?_⟩
    simp only [Act.put, List.setIfInBounds_toArray, List.set_cons_zero, List.set_cons_succ]
    refine rg_take 10 rfl (by kernel_rfl) (by kernel_rfl) (by kernel_rfl) (fun _ _ _ _ h => h) (by rfl) ⟨_, fun w' hx => by (go_simp <;> with_reducible rfl), ?_⟩
    simp only [Act.put, List.setIfInBounds_toArray, List.set_cons_zero, List.set_cons_succ]
    refine rg_take 11 rfl (by kernel_rfl) (by kernel_rfl) (by kernel_rfl) (fun _ _ _ _ h => h) (by rfl) ⟨_, fun w' hx => by (go_simp <;> with_reducible rfl), ?_⟩   -- t55 := nilCheck t54
    simp only [Act.put, List.setIfInBounds_toArray, List.set_cons_zero, List.set_cons_succ]
    refine rg_take 12 rfl (by kernel_rfl) (by kernel_rfl) (by kernel_rfl) (fun _ _ _ _ h => h) (by rfl) ⟨_, fun w' hx => by (go_simp <;> with_reducible rfl), ?_⟩   -- t56 := fieldAddr 47 t55 0
    simp only [Act.put, List.setIfInBounds_toArray, List.set_cons_zero, List.set_cons_succ]
    refine rg_take 13 rfl (by kernel_rfl) (by kernel_rfl) (by kernel_rfl) (fun _ _ _ _ h => h) (by rfl) ⟨_, fun w' hx => by (go_simp <;> with_reducible rfl), ?_⟩
    simp only [Act.put, List.setIfInBounds_toArray, List.set_cons_zero, List.set_cons_succ]
    refine rg_take 15 rfl (by kernel_rfl) (by kernel_rfl) (by kernel_rfl) (fun _ _ _ _ h => h) (by rfl) ⟨_, fun w' hx => by (go_simp <;> with_reducible rfl), ?_⟩
    simp only [Act.put, List.setIfInBounds_toArray, List.set_cons_zero, List.set_cons_succ]
    refine rg_call 5 d5 rfl (by kernel_rfl) (by rfl) (by go_simp) ?_
    rintro e w' ⟨rfl, rfl⟩
    refine ⟨_, rfl, Ext.refl _, ?_⟩
    simp only [Act.put, List.setIfInBounds_toArray, List.set_cons_zero, List.set_cons_succ]
    refine rg_call 8 d8 rfl (by kernel_rfl) (by rfl) (by go_simp) ?_
    rintro e w' ⟨rfl, rfl⟩
    refine ⟨_, rfl, Ext.refl _, ?_⟩
    simp only [Act.put, List.setIfInBounds_toArray, List.set_cons_zero, List.set_cons_succ]
    refine rg_take 9 rfl (by kernel_rfl) (by kernel_rfl) (by kernel_rfl) (fun _ _ _ _ h => h) (by rfl) ⟨_, fun w' hx => by (go_simp <;> with_reducible rfl), ?_⟩   -- t53 := slice 45 t46 t49 t52 -
    simp only [Act.put, List.setIfInBounds_toArray, List.set_cons_zero, List.set_cons_succ]
    refine rg_call 14 d14 rfl (by kernel_rfl) (by rfl) (by go_simp) ?_
    rintro e w' ⟨rfl, rfl⟩
    refine ⟨_, rfl, Ext.refl _, ?_⟩
    simp only [Act.put, List.setIfInBounds_toArray, List.set_cons_zero, List.set_cons_succ]
    refine rg_call 16 d16 rfl (by kernel_rfl) (by rfl) (by go_simp) ?_
    rintro e w' ⟨rfl, rfl⟩
    refine ⟨_, rfl, Ext.refl _, ?_⟩
    simp only [Act.put, List.setIfInBounds_toArray, List.set_cons_zero, List.set_cons_succ]
    refine rg_take 17 rfl (by kernel_rfl) (by kernel_rfl) (by kernel_rfl) (fun _ _ _ _ h => h) (by rfl) ⟨_, fun w' hx => by (go_simp <;> with_reducible rfl), ?_⟩   -- t61 := slice 45 t56 t58 t60 -
    simp only [Act.put, List.setIfInBounds_toArray, List.set_cons_zero, List.set_cons_succ]
    refine rg_last 18 rfl (by kernel_rfl) (by kernel_rfl) (by rfl) fun K hK => wp_copyB (.tmp 53) (.tmp 61) 25 rfl elemB g da p.length (243 - da) (some (arrA g da)) rfl (some (arrA g db)) (243 - db) bp p rfl 96 (.inr (by rw [arrA_lt hda243])) (Nat.le_refl _) hrow5.out (by rw [hbl]; exact Hfa.out) Hrdp.out fun w6 hr6 hg6 => hK _ _ ?_
    simp only [Act.put, List.setIfInBounds_toArray, List.set_cons_zero, List.set_cons_succ]
    refine rg_done (by kernel_rfl) ?_
    have hrs : w6.heap[g]? = some (.cells (bvs (shiftUp bp k n)).toArray 96 (0, 0)) := by rw [← Hshift.out]; exact hr6
    have hsl : (shiftUp bp k n).length = 243 := shiftUp_len hbl (by omega) (by omega)
    have B6 : BB w6 g (shiftUp bp k n) := ⟨hrs, hsl⟩
    have hg6w : w.grownBy w6 (some g) := grown_tr (grown_tr hgw (grown_ext (Ext.drew w5) _)) hg6
    have e0 : (shiftUp bp k n).getD 0 0 = bp.getD 0 0 := by
      rw [List.getD_eq_getElem?_getD, List.getD_eq_getElem?_getD, shiftUp_get hbl (by omega) (by omega), if_pos (by omega)]
    have c6 : w6.drew.cell? ⟨g, 0, none⟩ = some (.int .u8 (n : Int)) := by
      have := (B6.ext (Ext.drew w6)).cell (j := 0) (by omega)
      rw [this, e0, ← hn5]
      rfl
    have f6 : w6.drew.frozen? ⟨g, 0, none⟩ = false := (B6.ext (Ext.drew w6)).frozen 0
    have u6 : IntKind.u8.wrap ((n : Int) + 1) = ((n1 : Nat) : Int) := by rw [Hn1.out]; simp [IntKind.wrap, IntKind.bits, IntKind.signed]; omega
    have B7 := (B6.ext (Ext.drew w6)).set 0 (u8 n1)
    rw [u8_nat (by rw [Hn1.out]; omega)] at B7
    have HB7 := Lib.hid B7
    clear hrs hr6 hg6 B7 B6 e0
    go_wp2_with fail
    refine rg_start (by kernel_rfl) ?_
    refine rg_take 0 rfl (by kernel_rfl) (by kernel_rfl) (by kernel_rfl) (fun _ _ _ _ h => h) (by rfl) ⟨_, fun w' hx => by (go_simp <;> with_reducible rfl), ?_⟩
    simp only [Act.put, List.setIfInBounds_toArray, List.set_cons_zero, List.set_cons_succ]
    refine rg_take 1 rfl (by kernel_rfl) (by kernel_rfl) (by kernel_rfl) (fun _ _ _ _ h => h) (by rfl) ⟨_, fun w' hx => by (go_simp <;> with_reducible rfl), ?_⟩   -- t64 := nilCheck t63
    simp only [Act.put, List.setIfInBounds_toArray, List.set_cons_zero, List.set_cons_succ]
    refine rg_take 2 rfl (by kernel_rfl) (by kernel_rfl) (by kernel_rfl) (fun _ _ _ _ h => h) (by rfl) ⟨_, fun w' hx => by (go_simp <;> with_reducible rfl), ?_⟩   -- t65 := fieldAddr 47 t64 0
    simp only [Act.put, List.setIfInBounds_toArray, List.set_cons_zero, List.set_cons_succ]
    refine rg_take 3 rfl (by kernel_rfl) (by kernel_rfl) (by kernel_rfl) (fun _ _ _ _ h => h) (by rfl) ⟨_, fun w' hx => by (go_simp <;> with_reducible rfl), ?_⟩   -- t66 := indexAddr 45 t65 0:i64
    simp only [Act.put, List.setIfInBounds_toArray, List.set_cons_zero, List.set_cons_succ]
    refine rg_take 4 rfl (by kernel_rfl) (by kernel_rfl) (by kernel_rfl) (fun _ _ _ _ h => h) (by rfl) ⟨_, fun w' hx => by have hcx := hx.load c6; (go_simp <;> with_reducible rfl), ?_⟩
    simp only [Act.put, List.setIfInBounds_toArray, List.set_cons_zero, List.set_cons_succ]
    refine rg_take 5 rfl (by kernel_rfl) (by kernel_rfl) (by kernel_rfl) (fun _ _ _ _ h => h) (by rfl) ⟨.int .u8 (n1 : Int), fun w' hx => by (go_simp <;> with_reducible rfl), ?_⟩
    simp only [Act.put, List.setIfInBounds_toArray, List.set_cons_zero, List.set_cons_succ]
    refine rg_take 6 rfl (by kernel_rfl) (by kernel_rfl) (by kernel_rfl) (fun _ _ _ _ h => h) (by rfl) ⟨_, fun w' hx => by (go_simp <;> with_reducible rfl), ?_⟩   -- t69 := nilCheck t63
    simp only [Act.put, List.setIfInBounds_toArray, List.set_cons_zero, List.set_cons_succ]
    refine rg_take 7 rfl (by kernel_rfl) (by kernel_rfl) (by kernel_rfl) (fun _ _ _ _ h => h) (by rfl) ⟨_, fun w' hx => by (go_simp <;> with_reducible rfl), ?_⟩   -- t70 := fieldAddr 47 t69 0
    simp only [Act.put, List.setIfInBounds_toArray, List.set_cons_zero, List.set_cons_succ]
    refine rg_take 8 rfl (by kernel_rfl) (by kernel_rfl) (by kernel_rfl) (fun _ _ _ _ h => h) (by rfl) ⟨_, fun w' hx => by (go_simp <;> with_reducible rfl), ?_⟩   -- t71 := indexAddr 45 t70 0:i64
    simp only [Act.put, List.setIfInBounds_toArray, List.set_cons_zero, List.set_cons_succ]
    refine rg_store 9 rfl (by kernel_rfl) (by kernel_rfl) (by rfl) ⟨_, by (go_simp <;> rfl), ?_⟩
    simp only [Act.put]
    refine rg_done (by kernel_rfl) ?_
    obtain ⟨w7, hw7⟩ : ∃ w7, w7 = (w6.setCell ⟨g, 0, none⟩ (.int .u8 (n1 : Int))).drew := ⟨_, rfl⟩
    have B7 : BB w7 g ((shiftUp bp k n).set 0 (u8 n1)) := by rw [hw7]; exact HB7.out
    have hg7 : w.grownBy w7 (some g) := by rw [hw7]; exact grown_tr (grown_tr hg6w (grown_cell _ _ _ _)) (grown_ext (Ext.drew _) _)
    have hC7 : RdB w7 C c := hC.otherN hg7 Hne.out
    have hT7 : slT ((shiftUp bp k n).set 0 (u8 n1)) = (m.room c).top := by
      unfold slT
      rw [List.getD_eq_getElem?_getD, set_get _ _ _ (by omega), if_neg (by omega), shiftUp_get hbl (by omega) (by omega), if_pos (by omega), HSp.out.rel.t]
      exact u8_nat (by omega)
    have hlay := lay_any g _ k C c cc w7 B7 hC7 (by omega) (by rw [hT7]; omega) (by rw [hT7]; omega) (by omega)
    rw [hT7] at hlay
    have hrel := HSp.out.rel.lay hI5 (i := k) (c := c) (by omega) (by rw [hl5]; omega)
    rw [hl5, ← Hn1.out] at hrel
    have hinv := SBody.lay_inv hI5 (i := k) (c := c) (by omega) (by omega) (by rw [hl5]; omega)
    have Hrel := Lib.hid hrel
    have Hinv := Lib.hid hinv
    rw [← hw7]
    clear hw7 hrel hinv hT7 B7 HB7 c6 f6
    go_wp2_with (go_at_call 75; refine hlay.mono ?_; rintro e8 w8 ⟨rfl, hB8, hg8⟩)
    go_ret
    rw [He.out]
    exact ⟨rfl, ⟨_, hB8, Hrel.out, Hinv.out⟩, grown_tr hg7 hg8⟩
end Go.Proofs.YtkpagmfaccmiaaaGreat

/- Contracts: slices.Contains at bools; slot's isWithin, Parse. Printed by wip/tools/gen_sltparse06.py. -/

namespace Go.Proofs.YtkpagmfaccmiaaaGreat

open Go.RowKit

attribute [local go_sem] Oper.semAt_some

def bls (l : List Bool) : List Value := l.map Value.bool
theorem bls_len (l : List Bool) : (bls l).length = l.length := by simp [bls]
def RdBl (w : World) (A : Option Addr) (l : List Bool) : Prop := Rd w 1 A l.length (bls l)
theorem RdBl.at_ {w : World} {A : Option Addr} {l : List Bool} (h : RdBl w A l) {k : Nat} (hk : k < l.length) : ∃ ad, A = some ad ∧ w.cell? (ad.add k) = some (.bool l[k]) := by
  obtain ⟨ad, u, e, hu, hc⟩ := Rd.at_ h hk
  refine ⟨ad, e, ?_⟩
  rw [bls, List.getElem?_map, List.getElem?_eq_getElem hk] at hu
  injection hu with hu
  rw [hc, ← hu]
set_option maxRecDepth 100000 in
theorem bcontains_any (A : Option Addr) (l : List Bool) (c : Nat) (w : World) (hA : RdBl w A l) (hl : l.length ≤ 1000000) :
    Calls Tryz.prog 104 #[.slice A l.length c, .bool true] w fun e w' => e = .returned (.bool (l.any id)) ∧ w = w' := by
  have hidx : Calls Tryz.prog 105 #[.slice A l.length c, .bool true] w fun e w' => ∃ r : Int, e = .returned (.int .i64 r) ∧ Hid (decide (0 ≤ r) = l.any id) ∧ w = w' := by
    go_enter Tryz.func105, Tryz.ntmps105
    go_wp2
    go_loopw [8] (fun i wr => ∃ k : Nat, k ≤ l.length ∧ i = .int .i64 k ∧ (∀ j (h : j < l.length), j < k → l[j] = false) ∧ w = wr) (fun i _ => l.length - (intOf i).toNat)
    case atStart => exact ⟨0, by omega, rfl, fun j _ h => absurd h (by omega), rfl⟩
    case round =>
      obtain ⟨k, hk, rfl, hno, rfl⟩ := hrel
      by_cases h : k < l.length
      · obtain ⟨ad, rfl, hcell⟩ := hA.at_ h
        have ik : (0 : Int) ≤ (k : Int) := by omega
        have ik2 : (k : Int) < (l.length : Int) := by omega
        have hub : Tryz.prog.underlying 4 = some .bool := Tryz.underlying4
        have Hno := Lib.hid hno
        clear hno
        cases hb : l[k] with
        | true =>
          have ht : Hid (l.any id = true) := by
            show l.any id = true
            rw [List.any_eq_true]
            exact ⟨l[k], List.getElem_mem h, by rw [hb]; rfl⟩
          rw [hb] at hcell
          clear hb
          go_wp2
          go_ret
          exact ⟨k, rfl, (show _ = _ by rw [ht.out]; simp), rfl⟩
        | false =>
          have hn : Hid (∀ j (h : j < l.length), j < k + 1 → l[j] = false) := by
            show ∀ j (h : j < l.length), j < k + 1 → l[j] = false
            intro j hj hjk
            by_cases e : j = k
            · subst e; exact hb
            · exact Hno.out j hj (by omega)
          rw [hb] at hcell
          clear hb
          go_wp2
          go_roundw
          case rel => exact ⟨k + 1, by omega, by go_num, hn.out, by first | trivial | rfl⟩
          case measure => simp [intOf]; omega
      · obtain rfl : k = l.length := by omega
        have hf : Hid (l.any id = false) := by
          show l.any id = false
          rw [List.any_eq_false]
          intro x hx
          obtain ⟨j, hj, rfl⟩ := List.getElem_of_mem hx
          rw [hno j hj hj]; simp
        go_wp2
        go_ret
        exact ⟨-1, rfl, (show _ = _ by rw [hf.out]; simp), rfl⟩
  go_enter Tryz.func104, Tryz.ntmps104
  go_wp2_with (go_at_call 105; refine hidx.mono ?_; rintro e1 w1 ⟨r, rfl, hr, rfl⟩)
  go_ret
  exact ⟨by rw [← hr.out]; rfl, rfl⟩
/-- A row of bools. -/
structure BL (w : World) (g : Nat) (c : List Bool) : Prop where
  row : w.heap[g]? = some (.cells (bls c).toArray 132 (0, 0))
  len : c.length = 243
theorem BL.ext {w w' : World} {g : Nat} {c : List Bool} (h : BL w g c) (hx : Ext w w') : BL w' g c := ⟨(hx.block _ (lt_of_heap h.row)).trans h.row, h.len⟩
theorem BL.cell {w : World} {g : Nat} {c : List Bool} (h : BL w g c) {j : Nat} (hj : j < 243) : ∃ u, w.cell? ⟨g, j, none⟩ = some (.bool u) := by
  have hl : j < c.length := by rw [h.len]; exact hj
  refine ⟨c[j], ?_⟩
  rw [cell_of_row w g j _ _ _ h.row, List.getElem?_toArray, bls, List.getElem?_map, List.getElem?_eq_getElem hl]
  rfl
theorem BL.frozen {w : World} {g : Nat} {c : List Bool} (h : BL w g c) (j : Nat) : w.frozen? ⟨g, j, none⟩ = false := frozen_of_row w g j _ _ h.row
theorem BL.set {w : World} {g : Nat} {c : List Bool} (h : BL w g c) (j : Nat) (u : Bool) : BL (w.setCell ⟨g, j, none⟩ (.bool u)) g (c.set j u) := by
  refine ⟨?_, by rw [List.length_set]; exact h.len⟩
  rw [heap_setCell_same w g j _ _ _ h.row]
  congr 2
  apply Array.ext'
  simp only [Array.toList_setIfInBounds, bls, List.map_set]
theorem BL.partA {w : World} {g : Nat} {c : List Bool} (h : BL w g c) (k n : Nat) (hk : k + n ≤ 243) : RdBl w (some (arrA g k)) ((c.drop k).take n) := by
  have hl : ((c.drop k).take n).length = n := by rw [List.length_take, List.length_drop, h.len]; omega
  unfold RdBl
  rw [hl]
  refine ⟨by rw [bls_len, hl]; omega, fun hne => ⟨_, rfl, fun j u hj => ?_⟩⟩
  have hjl : j < n := by have := (List.getElem?_eq_some_iff.1 hj).1; rw [bls_len, hl] at this; exact this
  unfold arrA
  rw [if_neg (by omega), Addr.add_lit, cell_of_row w g _ _ _ _ h.row, List.getElem?_toArray]
  unfold bls at hj ⊢
  rw [List.getElem?_map, List.getElem?_take_of_lt hjl, List.getElem?_drop] at hj
  rw [List.getElem?_map]
  exact hj
theorem arr_lhB (g l h : Nat) (h1 : l ≤ h) (h2 : h ≤ 243) (w : World) : (Instr.sliceAt 132 (.pointer (some ⟨g, 0, none⟩)) (some (.int .i64 (l : Int))) (some (.int .i64 (h : Int))) none).run Tryz.prog w = .ok (.slice (some (arrA g l)) (h - l) (243 - l)) w := by
  have e1 : Tryz.prog.arrayLen 132 = 243 := by kernel_rfl
  rw [run_sliceAt_array_lh w 132 _ (by kernel_rfl) .i64 .i64 _ _ (by omega) (by omega) (by rw [e1]; omega)]
  rw [e1, show Tryz.prog.elem 132 = 4 from by kernel_rfl, Int.toNat_natCast, Int.toNat_natCast]
  unfold arrA
  by_cases h0 : 243 = l
  · simp only [h0, if_true]; go_simp
  · simp only [h0, if_false]; go_simp
theorem arr_all (g : Nat) (w : World) : (Instr.sliceAt 94 (.pointer (some ⟨g, 0, none⟩)) none none none).run Tryz.prog w = .ok (.slice (some ⟨g, 0, none⟩) 243 243) w := by
  have e1 : Tryz.prog.arrayLen 94 = 243 := by kernel_rfl
  rw [run_sliceAt_array_all w 94 _ (by kernel_rfl)]
  rw [e1, show Tryz.prog.elem 94 = 5 from by kernel_rfl]
  go_simp
/-- What is taken by the cells ahead of k. -/
def Taken (b : List UInt8) (k : Nat) (c : List Bool) : Prop := ∀ x, x < 243 → (c[x]? = some true ↔ ∃ j, j < k ∧ slAt b j ≤ x ∧ x < slAt b j + slSz b j)
/-- What isWithin tells. -/
def WithR (b : List UInt8) (w : World) (e : Ending) (w' : World) : Prop := ∃ r : Bool, e = .returned (.bool r) ∧ Hid (r = true ↔ Valid b) ∧ Ext w w'
set_option maxRecDepth 100000 in
set_option maxHeartbeats 1000000 in
theorem within_any (g : Nat) (b : List UInt8) (w : World) (h : BB w g b) (hd0 : 2 + 2 * slN b ≤ 243) :
    Calls Tryz.prog 100 #[.pointer (some ⟨g, 0, none⟩)] w (WithR b w) := by
  have hz0 : (Tryz.prog.info? 132).bind (·.zero) = some (.agg (bls (List.replicate 243 false)).toArray) := by kernel_rfl
  obtain ⟨Z, hZ⟩ : ∃ Z, Z = (bls (List.replicate 243 false)).toArray := ⟨_, rfl⟩
  rw [← hZ] at hz0
  have hz : ∀ w', (zeroValue 132).run Tryz.prog w' = .ok (.agg Z) w' := fun w' => by
    cases hi : Tryz.prog.info? 132 with
    | none => rw [hi] at hz0; cases hz0
    | some i =>
      rw [hi] at hz0
      have hz0 : i.zero = some (.agg Z) := hz0
      simp [zeroValue, typeInfo, hi, hz0]
  have hT := fun w2 (hx : Ext w w2) => top_any g b w2 (h.ext hx)
  have hL := fun w2 (hx : Ext w w2) => blen_any g b w2 (h.ext hx)
  have hn := slN_lt b
  have ht := slT_lt b
  have hd := dir_any (slN b) (by omega)
  have hlen := h.len
  obtain ⟨n, hnn⟩ : ∃ n, n = slN b := ⟨_, rfl⟩
  obtain ⟨t, htt⟩ : ∃ t, t = slT b := ⟨_, rfl⟩
  obtain ⟨d, hdd⟩ : ∃ d, d = 2 + 2 * n := ⟨_, rfl⟩
  rw [← hnn] at hL hd hn hd0
  rw [← hdd] at hd hd0
  rw [← htt] at hT ht
  have Hh := Lib.hid h
  have HZ := Lib.hid hZ
  have Hn := Lib.hid hnn
  have Ht := Lib.hid htt
  have Hd := Lib.hid hdd
  have hLw := hL w (Ext.refl w)
  have hTw := hT w (Ext.refl w)
  have HL := Lib.hid hL
  have HT := Lib.hid hT
  have Hdir := Lib.hid hd
  clear hZ hz0 h hnn htt hdd hL hT hd
  have hdw := Hdir.out w
  by_cases h1 : t < d
  · have Hnv : Hid (¬ Valid b) := fun hv => by have h9 := hv.dir; rw [← Hn.out, ← Ht.out, ← Hd.out] at h9; omega
    have b1 : (t : Int) < (d : Int) := by omega
    go_enter Tryz.func100, Tryz.ntmps100
    go_wp2_with (first | (go_at_call 72; refine hTw.mono ?_; rintro e1 w1 ⟨rfl, rfl⟩) | (go_at_call 70; refine hLw.mono ?_; rintro e2 w2 ⟨rfl, rfl⟩) | (go_at_call 73; refine hdw.mono ?_; rintro e3 w3 ⟨rfl, rfl⟩))
    go_ret
    exact ⟨false, rfl, (show _ ↔ _ from ⟨fun e => (by cases e), fun e => absurd e Hnv.out⟩), Ext.refl w⟩
  by_cases h2 : 243 < t
  · have Hnv : Hid (¬ Valid b) := fun hv => by have h9 := hv.top; rw [← Ht.out] at h9; omega
    have b1 : ¬ (t : Int) < (d : Int) := by omega
    have b2 : (243 : Int) < (t : Int) := by omega
    go_enter Tryz.func100, Tryz.ntmps100
    go_wp2_with (first | (go_at_call 72; refine hTw.mono ?_; rintro e1 w1 ⟨rfl, rfl⟩) | (go_at_call 70; refine hLw.mono ?_; rintro e2 w2 ⟨rfl, rfl⟩) | (go_at_call 73; refine hdw.mono ?_; rintro e3 w3 ⟨rfl, rfl⟩))
    go_ret
    exact ⟨false, rfl, (show _ ↔ _ from ⟨fun e => (by cases e), fun e => absurd e Hnv.out⟩), Ext.refl w⟩
  have b1 : ¬ (t : Int) < (d : Int) := by omega
  have b2 : ¬ (243 : Int) < (t : Int) := by omega
  have HV : Hid ((∀ i, i < n → SlOk b i) → Valid b) := fun hv => ⟨hlen, by rw [← Hn.out, ← Ht.out, ← Hd.out]; omega, by rw [← Ht.out]; omega, fun i hi => hv i (by rw [Hn.out]; exact hi)⟩
  have HNV : Hid (∀ i, i < n → ¬ SlOk b i → ¬ Valid b) := fun i hi hno hv => hno (hv.ok i (by rw [← Hn.out]; exact hi))
  have hx1 : Ext w (w.alloc (.cells Z 132)) := Ext.alloc _ _
  have hB1 : BL (w.alloc (.cells Z 132)) w.heap.size (List.replicate 243 false) := ⟨by rw [← HZ.out]; exact heap_alloc_new w _, List.length_replicate⟩
  have hL1 := HL.out _ hx1
  have Hx1 := Lib.hid hx1
  have HB1 := Lib.hid hB1
  clear hx1 hB1
  have hdl : d ≤ 243 := hd0
  go_enter Tryz.func100, Tryz.ntmps100
  go_wp2_with (first | (go_at_call 72; refine hTw.mono ?_; rintro e1 w1 ⟨rfl, rfl⟩) | (go_at_call 70; refine hLw.mono ?_; rintro e2 w2 ⟨rfl, rfl⟩) | (go_at_call 73; refine hdw.mono ?_; rintro e3 w3 ⟨rfl, rfl⟩) | (go_at_call 70; refine hL1.mono ?_; rintro e2 w2 ⟨rfl, rfl⟩; refine Hid.out ?_))
  obtain ⟨w1, hw1⟩ : ∃ w1, w1 = w.alloc (.cells Z 132) := ⟨_, rfl⟩
  rw [← hw1] at Hx1 HB1 ⊢
  clear hw1 hL1 hLw hTw hdw
  refine Lib.hid ?_
  go_wp2_with fail
  go_loopw [21] (fun i wr => ∃ (k : Nat) (c : List Bool), k ≤ n ∧ i = .int .i64 k ∧ (∀ j, j < k → SlOk b j) ∧ Taken b k c ∧ BL wr w.heap.size c ∧ Ext w wr) (fun i _ => n - (intOf i).toNat)
  case atStart =>
    refine ⟨0, _, by omega, rfl, fun j h => absurd h (by omega), fun x hx => ?_, HB1.out, Hx1.out⟩
    constructor
    · intro h
      rw [List.getElem?_replicate, if_pos hx] at h
      cases h
    · rintro ⟨j, hj, _⟩; omega
  case round =>
    obtain ⟨k, c, hk, rfl, hok, htk, hB, hE⟩ := hrel
    by_cases hkl : k < n
    · have hp := place_any g b k wr (Hh.out.ext hE) (by rw [Hd.out] at hd0; omega)
      have has := slAt_lt b k
      have hss := slSz_lt b k
      obtain ⟨a, ha⟩ : ∃ a, a = slAt b k := ⟨_, rfl⟩
      obtain ⟨z, hzz⟩ : ∃ z, z = slSz b k := ⟨_, rfl⟩
      rw [← ha, ← hzz] at hp
      rw [← ha] at has
      rw [← hzz] at hss
      have hTr := fun w2 (hx : Ext wr w2) => HT.out w2 (Ext.tr hE hx)
      have Hok := Lib.hid hok
      have Htk := Lib.hid htk
      have HB := Lib.hid hB
      have Ha := Lib.hid ha
      have Hzz := Lib.hid hzz
      have HTr := Lib.hid hTr
      clear hok htk hB ha hzz hTr
      by_cases c1 : a < t
      · have hno := Lib.hid (HNV.out k hkl (fun ho => by have := ho.low; rw [← Ha.out, ← Ht.out] at this; omega))
        have b3 : (a : Int) < (t : Int) := by omega
        go_wp2_with (first | (go_at_call 76; refine hp.mono ?_; rintro e4 w4 ⟨rfl, hb4⟩) | (go_at_call 72; refine (HTr.out w4 hb4).mono ?_; rintro e5 w5 ⟨rfl, rfl⟩))
        go_ret
        exact ⟨false, rfl, (show _ ↔ _ from ⟨fun e => (by cases e), fun e => absurd e hno.out⟩), Ext.tr hE hb4⟩
      have b3 : ¬ (a : Int) < (t : Int) := by omega
      obtain ⟨je, hje⟩ : ∃ je, je = a + z := ⟨_, rfl⟩
      have wje : IntKind.i64.wrap ((a : Int) + (z : Int)) = (je : Int) := by rw [IntKind.wrap_i64]; omega
      by_cases c2 : 243 < je
      · have hno := Lib.hid (HNV.out k hkl (fun ho => by have := ho.fit; rw [← Ha.out, ← Hzz.out] at this; omega))
        have b4 : (243 : Int) < (je : Int) := by omega
        clear hje
        go_wp2_with (first | (go_at_call 76; refine hp.mono ?_; rintro e4 w4 ⟨rfl, hb4⟩) | (go_at_call 72; refine (HTr.out w4 hb4).mono ?_; rintro e5 w5 ⟨rfl, rfl⟩))
        go_ret
        exact ⟨false, rfl, (show _ ↔ _ from ⟨fun e => (by cases e), fun e => absurd e hno.out⟩), Ext.tr hE hb4⟩
      have b4 : ¬ (243 : Int) < (je : Int) := by omega
      by_cases c3 : 78 < z
      · have hno := Lib.hid (HNV.out k hkl (fun ho => by have := ho.len; rw [← Hzz.out] at this; omega))
        have b5 : (78 : Int) < (z : Int) := by omega
        clear hje
        go_wp2_with (first | (go_at_call 76; refine hp.mono ?_; rintro e4 w4 ⟨rfl, hb4⟩) | (go_at_call 72; refine (HTr.out w4 hb4).mono ?_; rintro e5 w5 ⟨rfl, rfl⟩))
        go_ret
        exact ⟨false, rfl, (show _ ↔ _ from ⟨fun e => (by cases e), fun e => absurd e hno.out⟩), Ext.tr hE hb4⟩
      have b5 : ¬ (78 : Int) < (z : Int) := by omega
      have sl := fun w' => arr_lhB w.heap.size a je (by omega) (by omega) w'
      rw [show je - a = z by omega] at sl
      have hcl := HB.out.len
      obtain ⟨l, hl⟩ : ∃ l, l = (c.drop a).take z := ⟨_, rfl⟩
      have hll : l.length = z := by rw [hl, List.length_take, List.length_drop]; omega
      have hcn : ∀ w2, Ext wr w2 → Calls Tryz.prog 104 #[.slice (some (arrA w.heap.size a)) z (243 - a), .bool true] w2 fun e w' => e = .returned (.bool (l.any id)) ∧ w2 = w' := fun w2 hx => by
        have h9 := (HB.out.ext hx).partA a z (by omega)
        rw [← hl] at h9
        have := bcontains_any _ l (243 - a) w2 h9 (by omega)
        rwa [hll] at this
      have hget : ∀ x, x < z → l[x]? = c[a + x]? := fun x hx => by rw [hl, List.getElem?_take_of_lt hx, List.getElem?_drop]
      have Hcn := Lib.hid hcn
      have Hget := Lib.hid hget
      have Hll := Lib.hid hll
      have Hje := Lib.hid hje
      clear hcn hget hll hl
      cases hany : l.any id with
      | true =>
        have hno := Lib.hid (HNV.out k hkl (fun ho => by
          rw [List.any_eq_true] at hany
          obtain ⟨u, hu, hu2⟩ := hany
          obtain ⟨x, hx, rfl⟩ := List.getElem_of_mem hu
          have hxz : x < z := by rw [← Hll.out]; exact hx
          have h1 := Hget.out x hxz
          rw [List.getElem?_eq_getElem hx, show l[x] = true from hu2] at h1
          obtain ⟨j, hj, h2, h3⟩ := (Htk.out (a + x) (by rw [Hje.out] at c2; omega)).1 h1.symm
          exact ho.apart j hj (a + x) h2 h3 (by rw [← Ha.out]; omega) (by rw [← Ha.out, ← Hzz.out]; omega)))
        rw [hany] at Hcn
        clear hany hje
        go_wp2_with (first | (go_at_call 76; refine hp.mono ?_; rintro e4 w4 ⟨rfl, hb4⟩) | (go_at_call 72; refine (HTr.out w4 hb4).mono ?_; rintro e5 w5 ⟨rfl, rfl⟩) | (go_at_call 104; refine (Hcn.out w4 hb4).mono ?_; rintro e6 w6 ⟨rfl, rfl⟩))
        go_ret
        exact ⟨false, rfl, (show _ ↔ _ from ⟨fun e => (by cases e), fun e => absurd e hno.out⟩), Ext.tr hE hb4⟩
      | false =>
        have hokk : SlOk b k := by
          refine ⟨by rw [← Ha.out, ← Ht.out]; omega, by rw [← Ha.out, ← Hzz.out]; omega, by rw [← Hzz.out]; omega, fun j hj x h2 h3 h4 h5 => ?_⟩
          rw [← Ha.out] at h4
          rw [← Ha.out, ← Hzz.out] at h5
          have hxc := (Htk.out x (by omega)).2 ⟨j, hj, h2, h3⟩
          have hxz : x - a < z := by omega
          have h6 := Hget.out (x - a) hxz
          rw [show a + (x - a) = x by omega, hxc] at h6
          rw [List.any_eq_false] at hany
          exact hany true (List.mem_of_getElem? h6) rfl
        have hok2 : Hid (∀ j, j < k + 1 → SlOk b j) := by
          show ∀ j, j < k + 1 → SlOk b j
          intro j hj
          by_cases e : j = k
          · subst e; exact hokk
          · exact Hok.out j (by omega)
        rw [hany] at Hcn
        clear hany hje hokk
        go_wp2_with (first | (go_at_call 76; refine hp.mono ?_; rintro e4 w4 ⟨rfl, hb4⟩) | (go_at_call 72; refine (HTr.out w4 hb4).mono ?_; rintro e5 w5 ⟨rfl, rfl⟩) | (go_at_call 104; refine (Hcn.out w4 hb4).mono ?_; rintro e6 w6 ⟨rfl, rfl⟩; refine Hid.out ?_))
        have hB4 := Lib.hid (HB.out.ext hb4)
        have hE4 := Lib.hid (Ext.tr hE hb4)
        clear hb4 hp
        refine Lib.hid ?_
        go_wp2_with fail
        go_loopw [53] (fun i wr => ∃ (x : Nat) (c2 : List Bool), x ≤ z ∧ i = .int .i64 x ∧ (∀ y, y < 243 → (c2[y]? = some true ↔ c[y]? = some true ∨ (a ≤ y ∧ y < a + x))) ∧ BL wr w.heap.size c2 ∧ Ext w wr) (fun i _ => z - (intOf i).toNat)
        case atStart => exact ⟨0, c, by omega, rfl, fun y _ => ⟨.inl, fun h => h.elim id (fun h => absurd h (by omega))⟩, hB4.out, hE4.out⟩
        case round =>
          obtain ⟨x, c2, hx, rfl, hc2, hB5, hE5⟩ := hrel
          have Hc2 := Lib.hid hc2
          by_cases hxz : x < z
          · obtain ⟨ax, hax⟩ : ∃ ax, ax = a + x := ⟨_, rfl⟩
            have hje2 := Hje.out
            have wax : IntKind.i64.wrap ((a : Int) + (x : Int)) = (ax : Int) := by rw [IntKind.wrap_i64]; omega
            have i1 : (ax : Int) < 243 := by omega
            have i2 : (0 : Int) ≤ (ax : Int) := by omega
            obtain ⟨u, hu⟩ := hB5.cell (j := ax) (by omega)
            have hf := hB5.frozen ax
            have HB6 := Lib.hid (hB5.set ax true)
            have Hax := Lib.hid hax
            have hl5 := hB5.len
            have haxl : ax < 243 := by omega
            clear hax hc2 hB5 hje2
            go_wp2_with fail
            go_roundw
            case rel =>
              refine ⟨x + 1, c2.set ax true, by omega, by go_num, fun y hy => ?_, HB6.out, below_row hE5 (grown_cell _ _ _ _) (Nat.le_refl _) hE5.size⟩
              rw [List.getElem?_set]
              by_cases e : ax = y
              · rw [if_pos e, if_pos (by omega)]
                have := Hax.out
                constructor
                · intro _; exact .inr (by omega)
                · intro _; rfl
              · rw [if_neg e, Hc2.out y hy]
                have := Hax.out
                constructor
                · rintro (h | h); exact .inl h; exact .inr (by omega)
                · rintro (h | h); exact .inl h; exact .inr (by omega)
            case measure => simp [intOf]; omega
          · obtain rfl : x = z := by omega
            clear hc2
            go_wp2_with fail
            go_roundw
            case rel =>
              refine ⟨k + 1, c2, by omega, by go_num, hok2.out, fun y hy => ?_, hB5, hE5⟩
              rw [Hc2.out y hy, Htk.out y hy]
              constructor
              · rintro (⟨j, hj, h⟩ | h)
                · exact ⟨j, by omega, h⟩
                · exact ⟨k, by omega, by rw [← Ha.out, ← Hzz.out]; omega⟩
              · rintro ⟨j, hj, h⟩
                by_cases e : j = k
                · subst e
                  rw [← Ha.out, ← Hzz.out] at h
                  exact .inr (by omega)
                · exact .inl ⟨j, by omega, h⟩
            case measure => simp [intOf]; omega
    · obtain rfl : k = n := by omega
      have hv := Lib.hid (HV.out hok)
      go_wp2
      go_ret
      exact ⟨true, rfl, (show _ ↔ _ from ⟨fun _ => hv.out, fun _ => rfl⟩), hE⟩
/-- What Parse answers. -/
def ParseR (bs : List UInt8) (w : World) (e : Ending) (w' : World) : Prop :=
  (∃ g, Valid bs ∧ e = .returned (.tuple #[.pointer (some ⟨g, 0, none⟩), .int .i64 0]) ∧ w.heap.size ≤ g ∧ SAt w' g bs (slOf bs) ∧ Ext w w') ∨
  (¬ Valid bs ∧ e = .returned (.tuple #[.pointer none, .int .i64 61]) ∧ Ext w w')
set_option maxRecDepth 100000 in
set_option maxHeartbeats 1000000 in
theorem sparse_any (A : Option Addr) (bs : List UInt8) (c : Nat) (w : World) (hA : RdB w A bs) :
    Calls Tryz.prog 86 #[.slice A bs.length c] w (ParseR bs w) := by
  by_cases h1 : bs.length = 243
  · have hz0 : (Tryz.prog.info? 96).bind (·.zero) = some (.agg (bvs (zeros 243)).toArray) := by kernel_rfl
    obtain ⟨Z, hZ⟩ : ∃ Z, Z = (bvs (zeros 243)).toArray := ⟨_, rfl⟩
    rw [← hZ] at hz0
    have hz : ∀ w', (zeroValue 96).run Tryz.prog w' = .ok (.agg Z) w' := fun w' => by
      cases hi : Tryz.prog.info? 96 with
      | none => rw [hi] at hz0; cases hz0
      | some i =>
        rw [hi] at hz0
        have hz0 : i.zero = some (.agg Z) := hz0
        simp [zeroValue, typeInfo, hi, hz0]
    have hrow1 : (w.alloc (.cells Z 96)).heap[w.heap.size]? = some (.cells (bvs (zeros 243)).toArray 96 (0, 0)) := by rw [← hZ]; exact heap_alloc_new w _
    have hx1 := Ext.alloc w (.cells Z 96)
    have hA1 := hA.below hx1
    have sa := fun w' => arr_all w.heap.size w'
    have hne : ((bs.length : Int) != 243) = false := by rw [bne_eq_false_iff_eq]; omega
    have hne2 : (bs.length : Int) = 243 := by omega
    have Hrow1 := Lib.hid hrow1
    have HA1 := Lib.hid hA1
    have Hx1 := Lib.hid hx1
    have H1 := Lib.hid h1
    have HZ := Lib.hid hZ
    clear hrow1 hA1 hx1 hZ hz0 h1
    go_enter Tryz.func86, Tryz.ntmps86
    go_wp2_with (refine wpList_copyB (by rfl) (.tmp 13) (.tmp 14) 25 rfl elemB w.heap.size 0 243 243 (some ⟨w.heap.size, 0, none⟩) rfl A c (zeros 243) bs rfl 96 (.inr rfl) (by have := H1.out; omega) Hrow1.out (by rw [zeros_len]; have := H1.out; omega) HA1.out ?_; intro w2 hr2 hg2; refine Hid.out ?_)
    have hov : ovw (zeros 243) 0 bs = bs := by
      refine List.ext_getElem? fun j => ?_
      have := H1.out
      rw [ovw_get _ _ _ (by rw [zeros_len]; omega), if_neg (by omega), Nat.zero_add, Nat.sub_zero]
      split
      · rfl
      · rw [List.getElem?_eq_none (by rw [zeros_len]; omega), List.getElem?_eq_none (by omega)]
    rw [hov] at hr2
    have B2 : BB w2 w.heap.size bs := ⟨hr2, H1.out⟩
    have hx2 : Ext w w2 := below_row Hx1.out hg2 (Nat.le_refl _) Hx1.out.size
    have hL2 := blen_any w.heap.size bs w2 B2
    have hn2 := slN_lt bs
    have hd2 := dir_any (slN bs) (by omega) w2
    obtain ⟨n, hn⟩ : ∃ n, n = slN bs := ⟨_, rfl⟩
    obtain ⟨d, hd⟩ : ∃ d, d = 2 + 2 * n := ⟨_, rfl⟩
    rw [← hn] at hL2 hd2 hn2
    rw [← hd] at hd2
    have Hn := Lib.hid hn
    have Hd := Lib.hid hd
    have HB2 := Lib.hid B2
    clear hov hr2 hg2 B2 hn hd
    by_cases h2 : 243 < d
    · have hnv := Lib.hid (show ¬ Valid bs from fun hv => by have h8 := hv.dir; have h9 := hv.top; rw [← Hn.out, ← Hd.out] at h8; omega)
      have b2 : (243 : Int) < (d : Int) := by omega
      refine Lib.hid ?_
      go_wp2_with (first | (go_at_call 70; refine hL2.mono ?_; rintro e3 w3 ⟨rfl, rfl⟩) | (go_at_call 73; refine hd2.mono ?_; rintro e4 w4 ⟨rfl, rfl⟩))
      refine bodyPost_ret (results_tmp2 rfl _ _ _) rfl ?_
      exact .inr ⟨hnv.out, rfl, hx2⟩
    · have b2 : ¬ (243 : Int) < (d : Int) := by omega
      have hW := within_any w.heap.size bs w2 HB2.out (by rw [← Hn.out, ← Hd.out]; omega)
      refine Lib.hid ?_
      go_wp2_with (first | (go_at_call 70; refine hL2.mono ?_; rintro e3 w3 ⟨rfl, rfl⟩) | (go_at_call 73; refine hd2.mono ?_; rintro e4 w4 ⟨rfl, rfl⟩))
      refine hW.mono ?_
      rintro e5 w5 ⟨r, rfl, hr, hb5⟩
      cases r
      · have hnv := Lib.hid (show ¬ Valid bs from fun hv => by have := hr.out.2 hv; cases this)
        go_wp2_with fail
        refine bodyPost_ret (results_tmp2 rfl _ _ _) rfl ?_
        exact .inr ⟨hnv.out, rfl, Ext.tr hx2 hb5⟩
      · have hv := Lib.hid (hr.out.1 rfl)
        go_wp2_with fail
        refine bodyPost_ret (results_tmp2 rfl _ _ _) rfl ?_
        exact .inl ⟨w.heap.size, hv.out, rfl, Nat.le_refl _, ⟨HB2.out.ext hb5, hv.out.rel, hv.out.inv⟩, Ext.tr hx2 hb5⟩
  · have hne : ((bs.length : Int) != 243) = true := by rw [bne_iff_ne]; omega
    have hne2 : ¬ (bs.length : Int) = 243 := by omega
    have hnv := Lib.hid (show ¬ Valid bs from fun hv => h1 hv.len)
    clear h1
    go_enter Tryz.func86, Tryz.ntmps86
    go_wp2
    refine bodyPost_ret (results_tmp2 rfl _ _ _) rfl ?_
    exact .inr ⟨hnv.out, rfl, Ext.refl w⟩
end Go.Proofs.YtkpagmfaccmiaaaGreat
