
/- Contracts of numbers in so many bytes (vint.Fixed, vint.Number). -/

import Derived.Test.YtgfanklhihciaaaProg

import Derived.Test.YtgfanklhihciaaaNum

import Derived.Test.YtgfanklhihciaaaSl

import Derived.Test.YtgfanklhihciaaaVintMath

namespace Go.Proofs.Ytgfanklhihciaaa

open Go.RowKit

theorem or64 (a b : Nat) (ha : a < 72057594037927936) (hb : b < 256) : bits .or .u64 ((a : Int) * 256) (b : Int) = ((a * 256 + b : Nat) : Int) := by
  rw [show ((a : Int) * 256) = ((a * 256 : Nat) : Int) by omega, u64_or_nat _ _ (by omega) (by omega)]
  have := nat_join 8 (a * 256) b (by omega) (by omega)
  rw [this]

/-- The cells of a number's bytes, the last k of them laid. -/
def fixC (n size k : Nat) : Array Value := ((List.range size).map fun j => if size - 1 - j < k then bv (Vint.fixB n size j) else Value.int .u8 0).toArray
theorem fixC_size (n size k : Nat) : (fixC n size k).size = size := by simp [fixC]
theorem fixC_get (n size k j : Nat) (h : j < size) : (fixC n size k)[j]? = some (if size - 1 - j < k then bv (Vint.fixB n size j) else Value.int .u8 0) := by
  simp [fixC, List.getElem?_map, List.getElem?_range h]
theorem fixC_set (n size k : Nat) (h : k < size) : (fixC n size k).setIfInBounds (size - 1 - k) (bv (Vint.fixB n size (size - 1 - k))) = fixC n size (k + 1) := by
  apply Array.ext_getElem?
  intro j
  rw [Array.getElem?_setIfInBounds]
  by_cases hj : j < size
  · rw [fixC_get _ _ _ _ hj, fixC_get _ _ _ _ hj, fixC_size]
    by_cases he : size - 1 - k = j
    · subst he
      rw [if_pos rfl, if_pos (by omega), if_pos (by omega)]
    · rw [if_neg he]
      by_cases h2 : size - 1 - j < k
      · rw [if_pos h2, if_pos (by omega)]
      · rw [if_neg h2, if_neg (by omega)]
  · rw [if_neg (by omega), Array.getElem?_eq_none (by rw [fixC_size]; omega), Array.getElem?_eq_none (by rw [fixC_size]; omega)]
theorem fixC_zero (n size : Nat) : fixC n size 0 = Array.replicate size (Value.int .u8 0) := by
  apply Array.ext_getElem?
  intro j
  by_cases hj : j < size
  · rw [fixC_get _ _ _ _ hj, if_neg (by omega)]; simp [hj]
  · rw [Array.getElem?_eq_none (by rw [fixC_size]; omega), Array.getElem?_eq_none (by simp; omega)]
theorem fixC_all (n size : Nat) : (fixC n size size).toList = bvs (Vint.fixL n size) := by
  apply List.ext_getElem?
  intro j
  by_cases hj : j < size
  · rw [Array.getElem?_toList, fixC_get _ _ _ _ hj, if_pos (by omega)]
    simp [bvs, Vint.fixL, hj]
  · rw [List.getElem?_eq_none (by simp [fixC_size]; omega), List.getElem?_eq_none (by simp [bvs, Vint.fixL_len]; omega)]

theorem fixB_at (n z k : Nat) (h : k < z) : Value.int .u8 ((n : Int) / 2 ^ (8 * k) % 256) = bv (Vint.fixB n z (z - 1 - k)) := by
  have h1 := byte_div n (256 ^ k)
  have h2 : z - 1 - (z - 1 - k) = k := by omega
  have h3 : ((256 ^ k : Nat) : Int) = 2 ^ (8 * k) := by
    rw [Int.pow_mul]; simp
  rw [h3] at h1
  rw [h1]
  unfold Vint.fixB
  rw [h2]
  rfl
theorem elemB : ElemT Try.prog 30 5 1 1 := ElemT.mk' (z := .int .u8 0) Try.underlying30 (by kernel_rfl) rfl (by omega)
theorem zeroB : (Try.prog.info? 5).bind (·.zero) = some (.int .u8 0) := by kernel_rfl

end Go.Proofs.Ytgfanklhihciaaa
