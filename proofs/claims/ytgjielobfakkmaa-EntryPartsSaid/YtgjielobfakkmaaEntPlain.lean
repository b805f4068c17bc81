
/- Entries' bytes, there and back: the plain law. -/

import Derived.Test.YtgjielobfakkmaaEntGetAll

import Derived.Test.YtgjielobfakkmaaEntRise

import Derived.Test.YtgjielobfakkmaaVintPlain

namespace Go.Proofs.Ytgjielobfakkmaa

open Go.RowKit

theorem Ent.get_put (e : Ent) (r : List UInt8) (h : e.ok = true) : Ent.get (e.put ++ r) = (e, e.put.length, 0) := by
  have h' := h
  simp [Ent.ok] at h'
  have h1 := Vint.getBytes_putBytes e.key (Vint.putBytes e.val ++ r) (by omega)
  have h2 := Vint.getBytes_putBytes e.val r (by omega)
  unfold Ent.get Ent.put
  rw [List.append_assoc, h1]
  simp only [List.drop_left, h2]
  simp [h]
theorem Ent.put_pos (e : Ent) (h : e.ok = true) : 0 < e.put.length := by
  simp [Ent.ok] at h
  unfold Ent.put Vint.putBytes
  simp
  omega
theorem Ent.items_putAll : ∀ (l : List Ent) (f : Nat), (∀ e ∈ l, e.ok = true) → (Ent.putAll l).length ≤ f → Ent.items f (Ent.putAll l) = l.map fun e => (e, 0)
  | [], f, _, _ => by simp [Ent.putAll, Ent.items_nil]
  | e :: l, f, hok, hf => by
    have he := hok e (by simp)
    have hp := Ent.put_pos e he
    have hcons : Ent.putAll (e :: l) = e.put ++ Ent.putAll l := rfl
    rw [hcons] at hf ⊢
    rw [List.length_append] at hf
    obtain ⟨f, rfl⟩ : ∃ f', f = f' + 1 := ⟨f - 1, by omega⟩
    rw [Ent.items, if_neg (by intro h; rw [List.append_eq_nil_iff] at h; rw [h.1] at hp; simp at hp), Ent.get_put e _ he]
    simp only [if_true, List.drop_left, List.map_cons]
    rw [Ent.items_putAll l f (fun e' h => hok e' (by simp [h])) (by omega)]
theorem Ent.run_rise : ∀ (l acc : List Ent), (∀ k (h : k + 1 < (acc ++ l).length), ltB ((acc ++ l)[k]'(by omega)).key (acc ++ l)[k + 1].key = true) → Ent.run acc (l.map fun e => (e, 0)) = some (acc ++ l)
  | [], acc, _ => by simp [Ent.run]
  | e :: l, acc, h => by
    have hb : Ent.bars acc e = false := by
      unfold Ent.bars
      rw [List.getLast?_eq_getElem?]
      cases hacc : acc with
      | nil => rfl
      | cons a t =>
        have hk : acc.length - 1 + 1 < (acc ++ e :: l).length := by rw [List.length_append, List.length_cons, hacc, List.length_cons]; omega
        have h1 := h (acc.length - 1) hk
        have hlt : acc.length - 1 < acc.length := by rw [hacc]; simp
        rw [List.getElem_append_left hlt, List.getElem_append_right (by omega)] at h1
        rw [← hacc, List.getElem?_eq_getElem hlt]
        have h2 : acc.length - 1 + 1 - acc.length = 0 := by omega
        simp only [h2, List.getElem_cons_zero] at h1
        simp [h1]
    simp only [List.map_cons, Ent.run, hb]
    rw [if_neg (by simp), if_neg (by simp), Ent.run_rise l (acc ++ [e]) (by simpa using h)]
    simp
theorem Ent.getAll_putAll (l : List Ent) (h : Rise l) : Ent.getAll (Ent.putAll l) = some l := by
  have hok : ∀ e ∈ l, e.ok = true := by
    intro e he
    obtain ⟨k, hk, rfl⟩ := List.getElem_of_mem he
    have := h.ok k hk
    simp [Ent.ok]
    omega
  unfold Ent.getAll
  rw [Ent.items_putAll l _ hok (Nat.le_refl _)]
  exact Ent.run_rise l [] (by simpa using h.up)
theorem Vint.put_pos (n : Nat) : 0 < (Vint.put n).length := by
  have := Vint.grpF_len 9 n
  unfold Vint.put
  rw [List.length_map]
  omega
theorem Vint.putBytes_cancel {p q r s : List UInt8} (hp : p.length < 18446744073709551616) (hq : q.length < 18446744073709551616) (h : Vint.putBytes p ++ r = Vint.putBytes q ++ s) : p = q ∧ r = s := by
  have h1 := Vint.getBytes_putBytes p r hp
  have h2 := Vint.getBytes_putBytes q s hq
  rw [h, h2] at h1
  have h3 : q = p := congrArg Prod.fst h1
  subst h3
  exact ⟨rfl, List.append_cancel_left h⟩
theorem Ent.putAll_inj : ∀ (l m : List Ent), (∀ e ∈ l, e.size < 18446744073709551616) → (∀ e ∈ m, e.size < 18446744073709551616) → Ent.putAll l = Ent.putAll m → l = m
  | [], [], _, _, _ => rfl
  | [], e :: m, _, _, h => by
    have := congrArg List.length h
    rw [show Ent.putAll (e :: m) = e.put ++ Ent.putAll m from rfl, List.length_append] at this
    have h2 : 0 < e.put.length := by
      unfold Ent.put
      rw [List.length_append]
      unfold Vint.putBytes
      rw [List.length_append]
      have := Vint.put_pos e.key.length
      omega
    rw [show (Ent.putAll []).length = 0 from rfl] at this
    omega
  | e :: l, [], _, _, h => by
    have := congrArg List.length h
    rw [show Ent.putAll (e :: l) = e.put ++ Ent.putAll l from rfl, List.length_append] at this
    have h2 : 0 < e.put.length := by
      unfold Ent.put
      rw [List.length_append]
      unfold Vint.putBytes
      rw [List.length_append]
      have := Vint.put_pos e.key.length
      omega
    rw [show (Ent.putAll []).length = 0 from rfl] at this
    omega
  | e :: l, e' :: m, hl, hm, h => by
    have h1 := hl e (by simp)
    have h2 := hm e' (by simp)
    unfold Ent.size at h1 h2
    rw [show Ent.putAll (e :: l) = e.put ++ Ent.putAll l from rfl, show Ent.putAll (e' :: m) = e'.put ++ Ent.putAll m from rfl] at h
    unfold Ent.put at h
    rw [List.append_assoc, List.append_assoc] at h
    obtain ⟨h3, h4⟩ := Vint.putBytes_cancel (by omega) (by omega) h
    obtain ⟨h5, h6⟩ := Vint.putBytes_cancel (by omega) (by omega) h4
    have h7 := Ent.putAll_inj l m (fun x hx => hl x (by simp [hx])) (fun x hx => hm x (by simp [hx])) h6
    subst h7
    cases e
    cases e'
    simp_all
end Go.Proofs.Ytgjielobfakkmaa
