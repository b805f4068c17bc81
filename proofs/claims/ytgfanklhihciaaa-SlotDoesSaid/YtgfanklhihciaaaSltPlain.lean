
/- Plain words and laws for bodies of cells (layer 6): no program in sight. -/

import Derived.WalkKit

namespace Go.Proofs.Ytgfanklhihciaaa

structure SCell where
  pos : Nat
  p : List UInt8
structure SBody where
  top : Nat
  l : List SCell
def sumL (l : List SCell) : Nat := (l.map fun c => c.p.length).sum
def SBody.sum (m : SBody) : Nat := sumL m.l
def SBody.dir (m : SBody) : Nat := 2 + 2 * m.l.length
def SBody.free (m : SBody) : Nat := 243 - m.dir - m.sum
def SBody.holes (m : SBody) : Nat := 243 - m.top - m.sum
theorem sumL_nil : sumL [] = 0 := rfl
theorem sumL_cons (c : SCell) (l : List SCell) : sumL (c :: l) = c.p.length + sumL l := by simp [sumL]
theorem sumL_app (l m : List SCell) : sumL (l ++ m) = sumL l + sumL m := by simp [sumL]
theorem sumL_take_succ (l : List SCell) (k : Nat) (h : k < l.length) : sumL (l.take (k + 1)) = sumL (l.take k) + l[k].p.length := by
  rw [List.take_succ_eq_append_getElem h, sumL_app, sumL_cons, sumL_nil]; omega
theorem sumL_take_le (l : List SCell) (k : Nat) : sumL (l.take k) ≤ sumL l := by
  conv => rhs; rw [← List.take_append_drop k l]
  rw [sumL_app]; omega
theorem sumL_take_mono (l : List SCell) {j k : Nat} (h : j ≤ k) : sumL (l.take j) ≤ sumL (l.take k) := by
  have := sumL_take_le (l.take k) j
  rwa [List.take_take, Nat.min_eq_left h] at this
/-- No byte lies in both. -/
def Apart (x y : SCell) : Prop := ∀ j, x.pos ≤ j → j < x.pos + x.p.length → y.pos ≤ j → j < y.pos + y.p.length → False
theorem Apart.symm {x y : SCell} (h : Apart x y) : Apart y x := fun j a b c d => h j c d a b
structure SBody.Inv (m : SBody) : Prop where
  dirTop : m.dir ≤ m.top
  top : m.top ≤ 243
  len : ∀ c ∈ m.l, c.p.length ≤ 78
  fit : ∀ c ∈ m.l, c.pos + c.p.length ≤ 243
  low : ∀ c ∈ m.l, c.p ≠ [] → m.top ≤ c.pos
  apart : m.l.Pairwise Apart
theorem rng_nodup : ∀ l : List SCell, l.Pairwise Apart → (l.flatMap fun c => List.range' c.pos c.p.length).Nodup
  | [], _ => by simp
  | c :: l, h => by
    rw [List.flatMap_cons, List.nodup_append]
    refine ⟨List.nodup_range', rng_nodup l (List.pairwise_cons.1 h).2, fun a ha b hb e => ?_⟩
    subst e
    obtain ⟨d, hd, hb⟩ := List.mem_flatMap.1 hb
    rw [List.mem_range'_1] at ha hb
    exact (List.pairwise_cons.1 h).1 d hd a ha.1 ha.2 hb.1 hb.2
theorem rng_len : ∀ l : List SCell, (l.flatMap fun c => List.range' c.pos c.p.length).length = sumL l
  | [] => rfl
  | c :: l => by rw [List.flatMap_cons, List.length_append, List.length_range', rng_len l, sumL_cons]
theorem sum_room {l : List SCell} {t : Nat} (ht : t ≤ 243) (ha : l.Pairwise Apart) (hf : ∀ c ∈ l, c.pos + c.p.length ≤ 243) (hl : ∀ c ∈ l, c.p ≠ [] → t ≤ c.pos) : t + sumL l ≤ 243 := by
  have h := List.Nodup.length_le_of_subset (rng_nodup l ha) (l₂ := List.range' t (243 - t)) (fun j hj => by
    obtain ⟨c, hc, hj⟩ := List.mem_flatMap.1 hj
    rw [List.mem_range'_1] at hj ⊢
    have h1 := hf c hc
    have h2 := hl c hc (by intro e; rw [e] at hj; simp at hj; omega)
    omega)
  rw [rng_len, List.length_range'] at h
  omega
theorem SBody.Inv.sum {m : SBody} (h : m.Inv) : m.top + m.sum ≤ 243 := sum_room h.top h.apart h.fit h.low
theorem SBody.Inv.n {m : SBody} (h : m.Inv) : m.l.length ≤ 120 := by
  have h1 := h.dirTop
  have h2 := h.top
  unfold SBody.dir at h1
  omega
theorem SBody.Inv.freeI {m : SBody} (h : m.Inv) : (m.free : Int) = 243 - (2 + 2 * (m.l.length : Int)) - (m.sum : Int) := by
  have h1 := h.dirTop
  have h2 := h.sum
  unfold SBody.free SBody.dir at *
  omega
theorem SBody.Inv.holesI {m : SBody} (h : m.Inv) : (m.holes : Int) = 243 - (m.top : Int) - (m.sum : Int) := by
  have h2 := h.sum
  unfold SBody.holes
  omega
def SBody.new : SBody := ⟨243, []⟩
theorem SBody.new_inv : SBody.new.Inv := ⟨by simp [SBody.new, SBody.dir], by simp [SBody.new], by simp [SBody.new], by simp [SBody.new], by simp [SBody.new], by simp [SBody.new]⟩
/-! ### pack -/

def packL (l : List SCell) : List SCell := l.mapIdx fun j c => ⟨243 - sumL (l.take (j + 1)), c.p⟩
def SBody.pack (m : SBody) : SBody := ⟨243 - m.sum, packL m.l⟩
theorem packL_len (l : List SCell) : (packL l).length = l.length := by simp [packL]
theorem packL_get (l : List SCell) (j : Nat) (h : j < l.length) : (packL l)[j]'(by rw [packL_len]; exact h) = ⟨243 - sumL (l.take (j + 1)), l[j].p⟩ := by simp [packL]
theorem packL_p (l : List SCell) : (packL l).map SCell.p = l.map SCell.p := by
  refine List.ext_getElem (by simp [packL_len]) fun j h1 h2 => ?_
  simp only [List.getElem_map]
  rw [packL_get l j (by simpa using h2)]
theorem sumL_p {l m : List SCell} (h : l.map SCell.p = m.map SCell.p) : sumL l = sumL m := by
  have : ∀ l : List SCell, sumL l = ((l.map SCell.p).map List.length).sum := fun l => by simp [sumL, Function.comp_def]
  rw [this l, this m, h]
theorem SBody.pack_sum (m : SBody) : m.pack.sum = m.sum := sumL_p (packL_p m.l)
theorem SBody.pack_len (m : SBody) : m.pack.l.length = m.l.length := packL_len m.l
theorem SBody.pack_inv {m : SBody} (h : m.Inv) : m.pack.Inv := by
  have hs := h.sum
  have hd := h.dirTop
  have hm : ∀ c ∈ m.pack.l, ∃ (j : Nat) (hj : j < m.l.length), c = ⟨243 - sumL (m.l.take (j + 1)), m.l[j].p⟩ := fun c hc => by
    obtain ⟨j, hj, rfl⟩ := List.getElem_of_mem hc
    have hj' : j < m.l.length := by rw [← m.pack_len]; exact hj
    exact ⟨j, hj', packL_get m.l j hj'⟩
  refine ⟨?_, by show 243 - _ ≤ 243; omega, ?_, ?_, ?_, ?_⟩
  · unfold SBody.dir at *
    rw [m.pack_len]
    show _ ≤ 243 - m.sum
    omega
  · intro c hc
    obtain ⟨j, hj, rfl⟩ := hm c hc
    show m.l[j].p.length ≤ 78
    exact h.len _ (List.getElem_mem hj)
  · intro c hc
    obtain ⟨j, hj, rfl⟩ := hm c hc
    have h1 := sumL_take_succ m.l j hj
    have h2 := sumL_take_le m.l (j + 1)
    unfold SBody.sum at hs
    show 243 - sumL (m.l.take (j + 1)) + m.l[j].p.length ≤ 243
    omega
  · intro c hc _
    obtain ⟨j, hj, rfl⟩ := hm c hc
    have h2 := sumL_take_le m.l (j + 1)
    show 243 - sumL m.l ≤ 243 - sumL (m.l.take (j + 1))
    omega
  · rw [List.pairwise_iff_getElem]
    intro i j hi hj hij k a b c d
    have hi' : i < m.l.length := by rw [← m.pack_len]; exact hi
    have hj' : j < m.l.length := by rw [← m.pack_len]; exact hj
    have e1 : m.pack.l[i] = ⟨243 - sumL (m.l.take (i + 1)), m.l[i].p⟩ := packL_get m.l i hi'
    have e2 : m.pack.l[j] = ⟨243 - sumL (m.l.take (j + 1)), m.l[j].p⟩ := packL_get m.l j hj'
    rw [e1] at a b
    rw [e2] at c d
    simp only at a b c d
    have h1 := sumL_take_succ m.l j hj'
    have h2 := sumL_take_mono m.l (show i + 1 ≤ j by omega)
    have h3 := sumL_take_le m.l (j + 1)
    unfold SBody.sum at hs
    omega
theorem SBody.pack_holes {m : SBody} (h : m.Inv) : m.pack.holes = 0 := by
  have h1 := m.pack_sum
  have hs := h.sum
  unfold SBody.holes
  rw [h1]
  show 243 - (243 - m.sum) - m.sum = 0
  omega
/-! ### insert -/

/-- A cell laid ahead of the top. -/
def SBody.lay (m : SBody) (i : Nat) (c : List UInt8) : SBody := ⟨m.top - c.length, m.l.take i ++ ⟨m.top - c.length, c⟩ :: m.l.drop i⟩
def SBody.room (m : SBody) (c : List UInt8) : SBody := if m.top < 2 + 2 * (m.l.length + 1) + c.length then m.pack else m
def SBody.insert (m : SBody) (i : Int) (c : List UInt8) : Int × SBody :=
  if i < 0 ∨ (m.l.length : Int) < i then (7, m) else if 78 < c.length then (1, m) else if m.free < 2 + c.length then (60, m) else (0, (m.room c).lay i.toNat c)
theorem SBody.room_inv {m : SBody} (h : m.Inv) (c : List UInt8) : (m.room c).Inv := by
  unfold SBody.room
  split
  · exact SBody.pack_inv h
  · exact h
theorem SBody.room_len (m : SBody) (c : List UInt8) : (m.room c).l.length = m.l.length := by
  unfold SBody.room
  split
  · exact m.pack_len
  · rfl
theorem SBody.room_fits {m : SBody} {c : List UInt8} (hf : 2 + c.length ≤ m.free) : 2 + 2 * (m.l.length + 1) + c.length ≤ (m.room c).top := by
  unfold SBody.room
  split
  · show _ ≤ 243 - m.sum
    unfold SBody.free SBody.dir at hf
    omega
  · omega
theorem SBody.lay_len (m : SBody) (i : Nat) (c : List UInt8) (hi : i ≤ m.l.length) : (m.lay i c).l.length = m.l.length + 1 := by
  simp [SBody.lay]; omega
theorem SBody.lay_sum (m : SBody) (i : Nat) (c : List UInt8) : (m.lay i c).sum = m.sum + c.length := by
  show sumL (m.l.take i ++ ⟨_, c⟩ :: m.l.drop i) = sumL m.l + c.length
  conv => rhs; rw [← List.take_append_drop i m.l]
  rw [sumL_app, sumL_app, sumL_cons]
  show _ + (c.length + _) = _
  omega
theorem SBody.lay_inv {m : SBody} (h : m.Inv) {i : Nat} {c : List UInt8} (hi : i ≤ m.l.length) (hc : c.length ≤ 78) (hf : 2 + 2 * (m.l.length + 1) + c.length ≤ m.top) : (m.lay i c).Inv := by
  have ht := h.top
  have hmem : ∀ d ∈ (m.lay i c).l, d = ⟨m.top - c.length, c⟩ ∨ d ∈ m.l := fun d hd => by
    rcases List.mem_append.1 hd with hd | hd
    · exact .inr (List.mem_of_mem_take hd)
    · rcases List.mem_cons.1 hd with rfl | hd
      · exact .inl rfl
      · exact .inr (List.mem_of_mem_drop hd)
  have hnew : ∀ d ∈ m.l, Apart d ⟨m.top - c.length, c⟩ := fun d hd j a b e f => by
    simp only at e f
    have h1 := h.low d hd (by intro e'; rw [e'] at b; simp at b; omega)
    omega
  refine ⟨?_, by show m.top - _ ≤ 243; omega, ?_, ?_, ?_, ?_⟩
  · unfold SBody.dir
    rw [m.lay_len i c hi]
    show _ ≤ m.top - c.length
    omega
  · intro d hd
    rcases hmem d hd with rfl | hd
    · exact hc
    · exact h.len d hd
  · intro d hd
    rcases hmem d hd with rfl | hd
    · show m.top - c.length + c.length ≤ 243; omega
    · exact h.fit d hd
  · intro d hd hne
    rcases hmem d hd with rfl | hd
    · exact Nat.le_refl _
    · have := h.low d hd hne
      show m.top - c.length ≤ d.pos
      omega
  · have hp := h.apart
    rw [← List.take_append_drop i m.l, List.pairwise_append] at hp
    refine List.pairwise_append.2 ⟨hp.1, List.pairwise_cons.2 ⟨fun d hd => (hnew d (List.mem_of_mem_drop hd)).symm, hp.2.1⟩, fun a ha b hb => ?_⟩
    rcases List.mem_cons.1 hb with rfl | hb
    · exact hnew a (List.mem_of_mem_take ha)
    · exact hp.2.2 a ha b hb
theorem SBody.insert_inv {m : SBody} (h : m.Inv) (i : Int) (c : List UInt8) : (m.insert i c).2.Inv := by
  unfold SBody.insert
  split
  · exact h
  · split
    · exact h
    · split
      · exact h
      · rename_i h1 h2 h3
        exact SBody.lay_inv (SBody.room_inv h c) (by rw [m.room_len]; omega) (by omega) (by rw [m.room_len]; exact SBody.room_fits (by omega))
/-! ### delete -/

def SBody.drop (m : SBody) (i : Nat) (h : i < m.l.length) : SBody := ⟨if m.l[i].pos = m.top then m.top + m.l[i].p.length else m.top, m.l.take i ++ m.l.drop (i + 1)⟩
def SBody.delete (m : SBody) (i : Int) : Int × SBody := if h : 0 ≤ i ∧ i.toNat < m.l.length then (0, m.drop i.toNat h.2) else (7, m)
theorem SBody.drop_len (m : SBody) (i : Nat) (h : i < m.l.length) : (m.drop i h).l.length = m.l.length - 1 := by
  simp [SBody.drop]; omega
theorem SBody.drop_sum (m : SBody) (i : Nat) (h : i < m.l.length) : (m.drop i h).sum + m.l[i].p.length = m.sum := by
  show sumL (m.l.take i ++ m.l.drop (i + 1)) + _ = sumL m.l
  have e : m.l = m.l.take i ++ m.l[i] :: m.l.drop (i + 1) := by rw [← List.drop_eq_getElem_cons h]; exact (List.take_append_drop i m.l).symm
  have e2 : sumL m.l = sumL (m.l.take i) + (m.l[i].p.length + sumL (m.l.drop (i + 1))) := by rw [← sumL_cons, ← sumL_app, ← e]
  rw [e2, sumL_app]
  omega
theorem SBody.drop_inv {m : SBody} (h : m.Inv) (i : Nat) (hi : i < m.l.length) : (m.drop i hi).Inv := by
  have hin : m.l[i] ∈ m.l := List.getElem_mem hi
  have hmem : ∀ d ∈ (m.drop i hi).l, d ∈ m.l := fun d hd => by
    rcases List.mem_append.1 hd with hd | hd
    · exact List.mem_of_mem_take hd
    · exact List.mem_of_mem_drop hd
  have hp := h.apart
  rw [← List.take_append_drop i m.l, List.drop_eq_getElem_cons hi, List.pairwise_append] at hp
  have hc := List.pairwise_cons.1 hp.2.1
  have hap : ∀ d ∈ (m.drop i hi).l, Apart m.l[i] d := fun d hd => by
    rcases List.mem_append.1 hd with hd | hd
    · exact (hp.2.2 d hd _ (List.mem_cons_self ..)).symm
    · exact hc.1 d hd
  have ht := h.top
  have hd := h.dirTop
  have hfit := h.fit _ hin
  refine ⟨?_, ?_, fun d hd => h.len d (hmem d hd), fun d hd => h.fit d (hmem d hd), fun d hd hne => ?_, ?_⟩
  · unfold SBody.dir at *
    rw [m.drop_len i hi]
    simp only [SBody.drop]
    split <;> omega
  · simp only [SBody.drop]
    split <;> omega
  · have h1 := h.low d (hmem d hd) hne
    simp only [SBody.drop]
    split
    · rename_i he
      have h2 := hap d hd d.pos
      have h3 : 0 < d.p.length := List.length_pos_iff.2 hne
      rcases Nat.lt_or_ge d.pos (m.top + m.l[i].p.length) with h4 | h4
      · exact absurd (h2 (by omega) (by omega) (Nat.le_refl _) (by omega)) id
      · exact h4
    · exact h1
  · exact List.pairwise_append.2 ⟨hp.1, hc.2, fun a ha b hb => hp.2.2 a ha b (List.mem_cons_of_mem _ hb)⟩
theorem SBody.delete_inv {m : SBody} (h : m.Inv) (i : Int) : (m.delete i).2.Inv := by
  unfold SBody.delete
  split
  · exact SBody.drop_inv h _ _
  · exact h
end Go.Proofs.Ytgfanklhihciaaa
