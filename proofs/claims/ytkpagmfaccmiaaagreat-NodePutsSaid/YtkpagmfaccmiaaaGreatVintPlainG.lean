
/- What is put is read again: plain laws on numbers' bytes. -/

import Derived.Test.YtkpagmfaccmiaaaGreatVintRef2

namespace Go.Proofs.YtkpagmfaccmiaaaGreat

open Go.RowKit

theorem Vint.grp_shape (f n : Nat) (h : n < 128 ^ f * 2) : ∃ init last, (Vint.grpF f n).map Vint.outOf = init ++ [last] ∧ (∀ x ∈ init, 128 ≤ x.toNat) ∧ last.toNat < 128 ∧ (init ≠ [] → last.toNat ≠ 0) ∧ (init.length = f → last.toNat < 2) ∧ Vint.val (init ++ [last]) = n ∧ init.length ≤ f := by
  induction f generalizing n with
  | zero =>
    have h2 : n < 2 := by simpa using h
    have e : (UInt8.ofNat n).toNat = n := by rw [UInt8.toNat_ofNat']; omega
    refine ⟨[], UInt8.ofNat n, rfl, by simp, by omega, by simp, fun _ => by omega, ?_, by simp⟩
    simp only [List.nil_append, Vint.val, e]
    omega
  | succ f ih =>
    by_cases h1 : n < 128
    · have e : (UInt8.ofNat n).toNat = n := by rw [UInt8.toNat_ofNat']; omega
      refine ⟨[], UInt8.ofNat n, by rw [Vint.grpF, if_pos h1]; rfl, by simp, by omega, by simp, fun h => by simp at h, ?_, by simp⟩
      simp only [List.nil_append, Vint.val, e]
      omega
    · obtain ⟨init, last, e1, e2, e3, e4, e5, e6, e7⟩ := ih (n / 128) (by rw [Nat.pow_succ] at h; omega)
      have hx := plus128 n
      have hx2 : (UInt8.ofNat (n % 128) ||| 128).toNat = n % 128 + 128 := by omega
      refine ⟨(UInt8.ofNat (n % 128) ||| 128) :: init, last, ?_, ?_, e3, ?_, ?_, ?_, by simp; omega⟩
      · rw [Vint.grpF, if_neg h1, List.map_cons, e1]; rfl
      · intro x hx
        rcases List.mem_cons.1 hx with rfl | hx
        · omega
        · exact e2 x hx
      · intro _
        by_cases hi : init = []
        · subst hi
          simp only [List.nil_append, Vint.val] at e6
          omega
        · exact e4 hi
      · intro hl
        simp only [List.length_cons] at hl
        exact e5 (by omega)
      · simp only [List.cons_append, Vint.val, e6, hx2]
        omega

theorem Vint.get_put (n : Nat) (hn : n < 18446744073709551616) (r : List UInt8) : Vint.get (Vint.put n ++ r) = (n, (Vint.put n).length, 0) := by
  obtain ⟨init, last, e1, e2, e3, e4, e5, e6, e7⟩ := Vint.grp_shape 9 n (by omega)
  have hp : Vint.put n = init ++ [last] := e1
  rw [hp]
  have hk : init.length < (init ++ [last] ++ r).length := by simp
  have hx : (init ++ [last] ++ r)[init.length] = last := by simp
  have h := (first_of (init ++ [last] ++ r) init.length (by omega) (by omega) (fun j hj hjk => by
    have : (init ++ [last] ++ r)[j] = init[j] := by rw [List.getElem_append_left (by simp; omega), List.getElem_append_left hjk]
    rw [this]; exact e2 _ (List.getElem_mem hjk))).2 hk
  rw [hx] at h
  have h2 := (h.2 e3 (fun h9 => by have := e5 h9.1; omega)).2 (fun h0 => e4 (by intro h; rw [h] at h0; simp at h0) h0.2)
  rw [h2]
  have h3 : (init ++ [last] ++ r).take (init.length + 1) = init ++ [last] := by
    rw [List.take_left' (by simp)]
  rw [h3, e6]
  simp

theorem Vint.put_inj {a b : Nat} (ha : a < 18446744073709551616) (hb : b < 18446744073709551616) {r : List UInt8} (h : Vint.put a = Vint.put b ++ r) : a = b := by
  have h1 := Vint.get_put a ha []
  have h2 := Vint.get_put b hb r
  rw [List.append_nil, h, h2] at h1
  exact (congrArg (·.1) h1).symm
end Go.Proofs.YtkpagmfaccmiaaaGreat
