
/- Contracts of the program's functions for sums (crc): the table, bytes taken in. -/

import Derived.Test.YtpabbackiobefaaProg

import Derived.Test.YtpabbackiobefaaNum

import Derived.Test.YtpabbackiobefaaCrcMath

namespace Go.Proofs.Ytpabbackiobefaa

open Go.RowKit

def tabV (k : Nat) : Array Value := ((List.range 16).map fun j => Value.int .u32 ((if j < k then Crc.tab j else 0 : Nat) : Int)).toArray

theorem tabV_size (k : Nat) : (tabV k).size = 16 := by simp [tabV]
theorem tabV_get (k j : Nat) (h : j < 16) : (tabV k)[j]? = some (Value.int .u32 ((if j < k then Crc.tab j else 0 : Nat) : Int)) := by
  simp [tabV, List.getElem?_map, List.getElem?_range h]
theorem tabV_set (k : Nat) (h : k < 16) : (tabV k).setIfInBounds k (.int .u32 (Crc.tab k : Nat)) = tabV (k + 1) := by
  apply Array.ext_getElem?
  intro j
  rw [Array.getElem?_setIfInBounds]
  by_cases hj : j < 16
  · rw [tabV_get _ _ hj, tabV_get _ _ hj, tabV_size]
    by_cases he : k = j
    · subst he; simp [h]
    · rw [if_neg he]
      by_cases h2 : j < k
      · rw [if_pos h2, if_pos (by omega)]
      · rw [if_neg h2, if_neg (by omega)]
  · rw [if_neg (by omega), Array.getElem?_eq_none (by rw [tabV_size]; omega), Array.getElem?_eq_none (by rw [tabV_size]; omega)]

/-- j single bits of i. -/
def tabAt (i : Nat) : Nat → Nat
  | 0 => i
  | j + 1 => Crc.bit (tabAt i j)
theorem tabAt_lt {i : Nat} (h : i < 16) (j : Nat) : tabAt i j < 4294967296 := by
  induction j with
  | zero => unfold tabAt; omega
  | succ j ih => exact Crc.bit_lt ih

theorem tabInfo : (Try.prog.info? 71).map (·.size) = some (tabV 16).size := by rw [tabV_size]; kernel_rfl
theorem tabOne : (tabV 16).all (·.oneCell') = true := by
  rw [Array.all_eq_true_iff_forall_mem]
  intro v hv
  simp only [tabV, List.mem_toArray, List.mem_map] at hv
  obtain ⟨_, _, rfl⟩ := hv
  rfl

set_option maxHeartbeats 400000 in
theorem table_of (w : World) : Calls Try.prog 41 #[] w fun e w' => e = .returned (.agg (tabV 16)) ∧ Below w.heap.size w w' := by
  go_enter Try.func41, Try.ntmps41
  go_wp2
  go_loopw [3] (fun i wr => ∃ k : Nat, k ≤ 16 ∧ i = .int .i64 k ∧ wr = w.alloc (.cells (tabV k) 71)) (fun i _ => 16 - (intOf i).toNat)
  case atStart => exact ⟨0, by omega, rfl, rfl⟩
  case round =>
    obtain ⟨k, hk, rfl, rfl⟩ := hrel
    by_cases h : k < 16
    · go_wp2
      go_loop [2, 8] (fun c i => ∃ j : Nat, j ≤ 4 ∧ i = .int .i64 j ∧ c = .int .u32 (tabAt k j : Nat)) (fun _ i => 4 - (intOf i).toNat)
      case atStart => exact ⟨0, by omega, rfl, rfl⟩
      case round =>
        obtain ⟨j, hj, rfl, rfl⟩ := hrel
        have hf := tabAt_lt h j
        have hs : Hid (tabAt k (j + 1) = Crc.bit (tabAt k j)) := rfl
        have h1 := a32_1 (tabAt k j) hf
        have hq : tabAt k j / 2 < 4294967296 := by omega
        by_cases h4 : j < 4
        · rcases Crc.mod_two (tabAt k j) with hm | hm <;> rw [hm] at h1
          · have h2 := Lib.hid (x32 (tabAt k j / 2) 0 hq (by omega))
            have HM := Lib.hid hm
            clear hm
            go_wp2
            go_round
            case rel => exact ⟨j + 1, by omega, by go_num, val_int (by rw [hs.out, Crc.bit, HM.out]; exact h2.out)⟩
            case measure => simp [intOf]; omega
          · have h2 := Lib.hid (x32 (tabAt k j / 2) 2197175160 hq (by omega))
            have HM := Lib.hid hm
            clear hm
            go_wp2
            go_round
            case rel => exact ⟨j + 1, by omega, by go_num, val_int (by rw [hs.out, Crc.bit, HM.out]; exact h2.out)⟩
            case measure => simp [intOf]; omega
        · obtain rfl : j = 4 := by omega
          have hset := Lib.hid (tabV_set k h)
          have hcell := tabV_get k k h
          clear h1 hq hs hf
          go_wp2
          go_roundw
          case rel => exact ⟨k + 1, by omega, by go_num, by rw [← hset.out]; rfl⟩
          case measure => simp [intOf]; omega
    · obtain rfl : k = 16 := by omega
      go_wp2_with (first
        | (refine wpList_load_row rfl 71 (.tmp 0) rfl w.heap.size rfl 71 (tabV 16) (0, 0) _ (heap_alloc_new w _) Try.underlying71 rfl tabInfo ?_)
        | (refine wpList_store_row rfl 71 (.tmp 0) (.tmp 21) rfl w.heap.size (tabV 16) rfl rfl 71 (tabV 16) (heap_alloc_new w _) tabInfo rfl tabOne ?_; rw [setRow_alloc]))
      refine bodyPost_ret (v := .agg (tabV 16)) (results_cell_row rfl _ _ w.heap.size 71 (tabV 16) (0, 0) _ rfl (heap_alloc_new w _) Try.underlying71 rfl tabInfo) rfl ⟨rfl, (Below.refl _ _).alloc (Nat.le_refl _) _⟩
end Go.Proofs.Ytpabbackiobefaa
