
/- Contracts of numbers in so many bytes (vint.Fixed, vint.Number). -/

import Derived.Test.YtkpagmfaccmiaaaGreatProg

import Derived.Test.YtkpagmfaccmiaaaGreatNum

import Derived.Test.YtkpagmfaccmiaaaGreatSl

import Derived.Test.YtkpagmfaccmiaaaGreatVintMath

namespace Go.Proofs.YtkpagmfaccmiaaaGreat

open Go.RowKit

theorem or64 (a b : Nat) (ha : a < 72057594037927936) (hb : b < 256) : bits .or .u64 ((a : Int) * 256) (b : Int) = ((a * 256 + b : Nat) : Int) := by
  rw [show ((a : Int) * 256) = ((a * 256 : Nat) : Int) by omega, u64_or_nat _ _ (by omega) (by omega)]
  have := nat_join 8 (a * 256) b (by omega) (by omega)
  rw [this]

set_option maxHeartbeats 400000 in
theorem number_any (A : Option Addr) (bs : List UInt8) (cap : Nat) (w : World) (hA : RdB w A bs) (hl : bs.length ≤ 140737488355328) :
    Calls Tryz.prog 62 #[.slice A bs.length cap] w fun e w' => e = .returned (.int .u64 (Vint.number bs : Nat)) ∧ w = w' := by
  by_cases h8 : bs.length ≤ 8
  · have hfin : Hid (Vint.number bs = Vint.numL bs) := by unfold Vint.number; exact if_pos h8
    go_enter Tryz.func62, Tryz.ntmps62
    go_wp2
    go_loop [2, 10] (fun a i => ∃ k : Nat, k ≤ bs.length ∧ i = .int .i64 k ∧ a = .int .u64 (Vint.numL (bs.take k) : Nat)) (fun _ i => bs.length - (intOf i).toNat)
    case atStart => exact ⟨0, by omega, rfl, rfl⟩
    case round =>
      obtain ⟨k, hk, rfl, rfl⟩ := hrel
      by_cases h : k < bs.length
      · obtain ⟨ad, rfl, hcell⟩ := hA.at_ h
        have hb := bs[k].toNat_lt
        have hs := Lib.hid (Vint.numL_snoc bs k h)
        have hn := Vint.numL_lt7 (bs.take k) (by simp; omega)
        generalize Vint.numL (bs.take k) = d at *
        have ho := or64 d bs[k].toNat hn hb
        generalize bs[k].toNat = b at *
        go_wp2
        go_round
        case rel => exact ⟨k + 1, by omega, by go_num, val_int (by rw [hs.out]; omega)⟩
        case measure => simp [intOf]; omega
      · obtain rfl : k = bs.length := by omega
        rw [List.take_length]
        go_wp2
        go_ret
        exact ⟨ret_int (by rw [hfin.out]), rfl⟩
  · have hfin : Hid (Vint.number bs = 0) := by unfold Vint.number; exact if_neg h8
    go_enter Tryz.func62, Tryz.ntmps62
    go_wp2
    go_ret
    exact ⟨ret_int (by rw [hfin.out]; rfl), rfl⟩

/-- The cells of a number's bytes, the last k of them laid. -/
def fixC (n size k : Nat) : Array Value := ((List.range size).map fun j => if size - 1 - j < k then bv (Vint.fixB n size j) else Value.int .u8 0).toArray
theorem fixC_size (n size k : Nat) : (fixC n size k).size = size := by simp [fixC]
theorem fixC_get (n size k j : Nat) (h : j < size) : (fixC n size k)[j]? = some (if size - 1 - j < k then bv (Vint.fixB n size j) else Value.int .u8 0) := by
  simp [fixC, List.getElem?_map, List.getElem?_range h]
theorem fixC_set (n size k : Nat) (h : k < size) : (fixC n size k).setIfInBounds (size - 1 - k) (bv (Vint.fixB n size (size - 1 - k))) = fixC n size (k + 1) := by
  apply Array.ext_getElem?
  intro j
  rw [Array.getElem?_setIfInBounds]
  by_cases hj : j < size
  · rw [fixC_get _ _ _ _ hj, fixC_get _ _ _ _ hj, fixC_size]
    by_cases he : size - 1 - k = j
    · subst he
      rw [if_pos rfl, if_pos (by omega), if_pos (by omega)]
    · rw [if_neg he]
      by_cases h2 : size - 1 - j < k
      · rw [if_pos h2, if_pos (by omega)]
      · rw [if_neg h2, if_neg (by omega)]
  · rw [if_neg (by omega), Array.getElem?_eq_none (by rw [fixC_size]; omega), Array.getElem?_eq_none (by rw [fixC_size]; omega)]
theorem fixC_zero (n size : Nat) : fixC n size 0 = Array.replicate size (Value.int .u8 0) := by
  apply Array.ext_getElem?
  intro j
  by_cases hj : j < size
  · rw [fixC_get _ _ _ _ hj, if_neg (by omega)]; simp [hj]
  · rw [Array.getElem?_eq_none (by rw [fixC_size]; omega), Array.getElem?_eq_none (by simp; omega)]
theorem fixC_all (n size : Nat) : (fixC n size size).toList = bvs (Vint.fixL n size) := by
  apply List.ext_getElem?
  intro j
  by_cases hj : j < size
  · rw [Array.getElem?_toList, fixC_get _ _ _ _ hj, if_pos (by omega)]
    simp [bvs, Vint.fixL, hj]
  · rw [List.getElem?_eq_none (by simp [fixC_size]; omega), List.getElem?_eq_none (by simp [bvs, Vint.fixL_len]; omega)]

theorem fixB_at (n z k : Nat) (h : k < z) : Value.int .u8 ((n : Int) / 2 ^ (8 * k) % 256) = bv (Vint.fixB n z (z - 1 - k)) := by
  have h1 := byte_div n (256 ^ k)
  have h2 : z - 1 - (z - 1 - k) = k := by omega
  have h3 : ((256 ^ k : Nat) : Int) = 2 ^ (8 * k) := by
    rw [Int.pow_mul]; simp
  rw [h3] at h1
  rw [h1]
  unfold Vint.fixB
  rw [h2]
  rfl
theorem elemB : ElemT Tryz.prog 25 5 1 1 := ElemT.mk' (z := .int .u8 0) Tryz.underlying25 (by kernel_rfl) rfl (by omega)
theorem zeroB : (Tryz.prog.info? 5).bind (·.zero) = some (.int .u8 0) := by kernel_rfl

set_option maxHeartbeats 400000 in
theorem fixed_any (n : Nat) (size : Int) (w : World) :
    Calls Tryz.prog 38 #[.int .u64 (n : Int), .int .i64 size] w fun e w' => ∃ A' c', e = .returned (.slice A' (Vint.fixed n size).length c') ∧ Own w' w.heap.size 5 1 A' (Vint.fixed n size).length c' (bvs (Vint.fixed n size)) ∧ Below w.heap.size w w' := by
  by_cases hs : 1 ≤ size ∧ size ≤ 8
  · obtain ⟨h1, h2⟩ := hs
    obtain ⟨z, rfl⟩ := Int.eq_ofNat_of_zero_le (show 0 ≤ size by omega)
    have hfin : Hid (Vint.fixed n (z : Int) = Vint.fixL n z) := by unfold Vint.fixed; rw [if_pos ⟨h1, h2⟩, Int.toNat_natCast]; exact rfl
    go_enter Tryz.func38, Tryz.ntmps38
    go_wp2_with (first | (at_make; go_loud (refine wpList_mk rfl (.tmp 13) (.tmp 13) 25 rfl elemB (.int .u8 0) zeroB rfl z _ _ rfl rfl (by omega) (by omega) ?_)))
    rw [← fixC_zero n z]
    go_loopw [17] (fun i wr => ∃ k : Nat, k ≤ z ∧ i = .int .i64 k ∧ wr = w.alloc (.cells (fixC n z k) 5)) (fun i _ => z - (intOf i).toNat)
    case atStart => exact ⟨0, by omega, rfl, rfl⟩
    case round =>
      obtain ⟨k, hk, rfl, rfl⟩ := hrel
      by_cases h : k < z
      · have hset := Lib.hid (fixC_set n z k h)
        have hcell := fixC_get n z k (z - 1 - k) (by omega)
        have hv := Lib.hid (fixB_at n z k h)
        go_wp2
        go_roundw
        case rel => exact ⟨k + 1, by omega, by go_num, by rw [← hset.out, hv.out]⟩
        case measure => simp [intOf]; omega
      · obtain rfl : k = z := by omega
        go_wp2
        go_ret
        have := Own.new w 5 1 (fixC n k k) k k (Nat.le_refl _) (by unfold maxLen; omega) (by rw [fixC_size]; omega)
        rw [Nat.mul_one, List.take_of_length_le (by simp [fixC_size]), fixC_all] at this
        rw [hfin.out, Vint.fixL_len]
        exact ⟨_, _, rfl, this, (Below.refl _ _).alloc (Nat.le_refl _) _⟩
  · have hfin : Hid (Vint.fixed n size = []) := by unfold Vint.fixed; exact if_neg hs
    by_cases h1 : size < 1
    · go_enter Tryz.func38, Tryz.ntmps38
      go_wp2
      go_ret
      rw [hfin.out]
      exact ⟨none, 0, rfl, Own.none_ _ _ _ _ _, Below.refl _ _⟩
    · have h2 : 8 < size := by omega
      go_enter Tryz.func38, Tryz.ntmps38
      go_wp2
      go_ret
      rw [hfin.out]
      exact ⟨none, 0, rfl, Own.none_ _ _ _ _ _, Below.refl _ _⟩
end Go.Proofs.YtkpagmfaccmiaaaGreat
