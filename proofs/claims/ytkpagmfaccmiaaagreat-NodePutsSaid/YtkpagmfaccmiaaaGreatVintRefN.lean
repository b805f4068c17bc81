
/- Contracts of the reference's functions for numbers in so many bytes (scowref01.Fixed, scowref01.Number), for seats without the rest of scowref01. -/

import Derived.Test.YtkpagmfaccmiaaaGreatVintNum

namespace Go.Proofs.YtkpagmfaccmiaaaGreat

open Go.RowKit

attribute [local go_sem] Oper.semAt_some
theorem fixB_mod (n z k : Nat) (h : k < z) : Value.int .u8 (((n / 256 ^ k : Nat) : Int) % 256) = bv (Vint.fixB n z (z - 1 - k)) := by
  have h2 : z - 1 - (z - 1 - k) = k := by omega
  rw [byte0]
  unfold Vint.fixB
  rw [h2]
  rfl

set_option maxRecDepth 100000 in
set_option maxHeartbeats 800000 in
theorem ref_fixed01 (n : Nat) (hn : n < 18446744073709551616) (size : Int) (w : World) :
    Calls Tryz.prog 49 #[.int .u64 (n : Int), .int .i64 size] w fun e w' => ∃ A' c', e = .returned (.slice A' (Vint.fixed n size).length c') ∧ Own w' w.heap.size 5 1 A' (Vint.fixed n size).length c' (bvs (Vint.fixed n size)) ∧ Below w.heap.size w w' := by
  by_cases hs : 1 ≤ size ∧ size ≤ 8
  · obtain ⟨h1, h2⟩ := hs
    obtain ⟨z, rfl⟩ := Int.eq_ofNat_of_zero_le (show 0 ≤ size by omega)
    have hfin : Hid (Vint.fixed n (z : Int) = Vint.fixL n z) := by unfold Vint.fixed; rw [if_pos ⟨h1, h2⟩, Int.toNat_natCast]; exact rfl
    go_enter Tryz.func49, Tryz.ntmps49
    go_wp2_with (first | (at_make; go_loud (refine wpList_mk rfl (.tmp 13) (.tmp 13) 25 rfl elemB (.int .u8 0) zeroB rfl z _ _ rfl rfl (by omega) (by omega) ?_)))
    rw [← fixC_zero n z]
    go_loopw [0, 6] (fun a i wr => ∃ m : Nat, m ≤ z ∧ i = .int .i64 ((m : Int) - 1) ∧ a = .int .u64 ((n / 256 ^ (z - m) : Nat) : Int) ∧ wr = w.alloc (.cells (fixC n z (z - m)) 5)) (fun _ i _ => (intOf i + 1).toNat)
    case atStart => exact ⟨z, by omega, rfl, by simp, by simp⟩
    case round =>
      obtain ⟨m, hm, rfl, rfl, rfl⟩ := hrel
      by_cases h : 0 < m
      · obtain ⟨j, rfl⟩ : ∃ j, m = j + 1 := ⟨m - 1, by omega⟩
        have hset := Lib.hid (fixC_set n z (z - (j + 1)) (by omega))
        have hcell := fixC_get n z (z - (j + 1)) j (by omega)
        have hv := Lib.hid (fixB_mod n z (z - (j + 1)) (by omega))
        have hdiv := Lib.hid (show n / 256 ^ (z - (j + 1)) / 256 = n / 256 ^ (z - j) by rw [Nat.div_div_eq_div_mul, ← Nat.pow_succ, show (z - (j + 1)).succ = z - j by omega])
        have hle : n / 256 ^ (z - (j + 1)) < 18446744073709551616 := Nat.lt_of_le_of_lt (Nat.div_le_self _ _) hn
        have hj : ((j + 1 : Nat) : Int) - 1 = (j : Int) := by omega
        have hz1 : Hid (z - 1 - (z - (j + 1)) = j) := by show _ = _; omega
        have hz2 : Hid (z - (j + 1) + 1 = z - j) := by show _ = _; omega
        have hsz := fixC_size n z (z - (j + 1))
        rw [hj]
        generalize n / 256 ^ (z - (j + 1)) = a at *
        generalize z - (j + 1) = k at *
        clear hn
        go_wp2
        go_roundw
        case rel => exact ⟨j, by omega, rfl, val_int (by rw [← hdiv.out]; simp), by have h5 := hset.out; rw [hz1.out, hz2.out] at h5; rw [← h5, ← hz1.out, ← hv.out]⟩
        case measure => simp [intOf]
      · obtain rfl : m = 0 := by omega
        go_wp2
        go_ret
        have := Own.new w 5 1 (fixC n z z) z z (Nat.le_refl _) (by unfold maxLen; omega) (by rw [fixC_size]; omega)
        rw [Nat.mul_one, List.take_of_length_le (by simp [fixC_size]), fixC_all] at this
        rw [hfin.out, Vint.fixL_len]
        exact ⟨_, _, rfl, this, (Below.refl _ _).alloc (Nat.le_refl _) _⟩
  · have hfin : Hid (Vint.fixed n size = []) := by unfold Vint.fixed; exact if_neg hs
    by_cases h1 : size < 1
    · go_enter Tryz.func49, Tryz.ntmps49
      go_wp2
      go_ret
      rw [hfin.out]
      exact ⟨none, 0, rfl, Own.none_ _ _ _ _ _, Below.refl _ _⟩
    · have h2 : 8 < size := by omega
      go_enter Tryz.func49, Tryz.ntmps49
      go_wp2
      go_ret
      rw [hfin.out]
      exact ⟨none, 0, rfl, Own.none_ _ _ _ _ _, Below.refl _ _⟩
end Go.Proofs.YtkpagmfaccmiaaaGreat
