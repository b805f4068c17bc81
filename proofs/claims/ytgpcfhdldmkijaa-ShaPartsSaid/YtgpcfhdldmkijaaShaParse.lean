/- Texts as digests (sha.Parse). -/
import Derived.Test.YtgpcfhdldmkijaaShaRefHex
import Derived.Laws.RangeString
import Derived.Laws.RangeAny
import Derived.Laws.Externs
namespace Go.Proofs.Ytgpcfhdldmkijaa
open Go.RowKit

namespace Sha
/-- A digit's number, or -1. -/
def hv (c : UInt8) : Int := if 48 ≤ c.toNat ∧ c.toNat ≤ 57 then (c.toNat : Int) - 48 else if 97 ≤ c.toNat ∧ c.toNat ≤ 102 then (c.toNat : Int) - 87 else -1
theorem hv_lt (c : UInt8) : -1 ≤ hv c ∧ hv c < 16 := by unfold hv; split <;> (try split) <;> omega
/-- A digit's number. -/
def hn (c : UInt8) : Nat := (hv c).toNat
theorem hn_lt (c : UInt8) : hn c < 16 := by have := hv_lt c; unfold hn; omega
/-- The bytes of the first i digits. -/
def accN (t : List UInt8) (i j : Nat) : Nat := if 2 * j + 1 < i then hn (t.getD (2 * j) 0) * 16 + hn (t.getD (2 * j + 1) 0) else if 2 * j < i then hn (t.getD (2 * j) 0) else 0
def acc (t : List UInt8) (i : Nat) : List UInt8 := (List.range 32).map fun j => UInt8.ofNat (accN t i j)
theorem acc_len (t : List UInt8) (i : Nat) : (acc t i).length = 32 := by simp [acc]
theorem accN_old (t : List UInt8) (i : Nat) : accN t i (i / 2) < 16 := by
  unfold accN
  rw [if_neg (by omega)]
  split
  · exact hn_lt _
  · omega
theorem accN_new (t : List UInt8) (i : Nat) : accN t (i + 1) (i / 2) = accN t i (i / 2) * 16 + hn (t.getD i 0) := by
  unfold accN
  rcases (by omega : i = 2 * (i / 2) ∨ i = 2 * (i / 2) + 1) with h | h
  · rw [if_neg (by omega), if_pos (by omega), if_neg (by omega), if_neg (by omega), ← h]; omega
  · rw [if_pos (by omega), if_neg (by omega), if_pos (by omega), ← h]
theorem accN_same (t : List UInt8) (i j : Nat) (h : j ≠ i / 2) : accN t (i + 1) j = accN t i j := by
  unfold accN
  by_cases h1 : 2 * j + 1 < i
  · rw [if_pos h1, if_pos (by omega)]
  · rw [if_neg h1, if_neg (by omega)]
    by_cases h2 : 2 * j < i
    · rw [if_pos h2, if_pos (by omega)]
    · rw [if_neg h2, if_neg (by omega)]
theorem acc_set (t : List UInt8) (i : Nat) (_h : i < 64) : (acc t i).set (i / 2) (UInt8.ofNat (accN t i (i / 2) * 16 + hn (t.getD i 0))) = acc t (i + 1) := by
  apply List.ext_getElem
  · simp [acc]
  · intro j h1 h2
    rw [List.getElem_set]
    by_cases hj : i / 2 = j
    · subst hj
      rw [if_pos rfl]
      simp only [acc, List.getElem_map, List.getElem_range]
      rw [accN_new]
    · rw [if_neg hj]
      simp only [acc, List.getElem_map, List.getElem_range]
      rw [accN_same t i j (fun e => hj e.symm)]
def all (t : List UInt8) : Prop := t.length = 64 ∧ ∀ i, i < 64 → 0 ≤ hv (t.getD i 0)
/-- What parsing says. -/
def okB (t : List UInt8) : Bool := (t.length == 64) && (List.range 64).all fun i => decide (0 ≤ hv (t.getD i 0))
def parsed (t : List UInt8) : List UInt8 := if okB t then acc t 64 else List.replicate 32 0
theorem ok_yes {t : List UInt8} (h : t.length = 64) (k : ∀ i, i < 64 → 0 ≤ hv (t.getD i 0)) : okB t = true := by
  unfold okB
  rw [Bool.and_eq_true, beq_iff_eq, List.all_eq_true]
  exact ⟨h, fun i hi => decide_eq_true (k i (List.mem_range.1 hi))⟩
theorem ok_len {t : List UInt8} (h : t.length ≠ 64) : okB t = false := by unfold okB; rw [beq_eq_false_iff_ne.2 h]; rfl
theorem ok_at {t : List UInt8} {i : Nat} (hi : i < 64) (h : hv (t.getD i 0) < 0) : okB t = false := by
  unfold okB
  rw [Bool.and_eq_false_iff]
  right
  rw [List.all_eq_false]
  exact ⟨i, List.mem_range.2 hi, by simpa using h⟩
end Sha

theorem idx_hv : ∀ n : Fin 256, firstIdx (⟨#[48, 49, 50, 51, 52, 53, 54, 55, 56, 57, 97, 98, 99, 100, 101, 102]⟩ : ByteArray) (UInt8.ofNat n.val) = Sha.hv (UInt8.ofNat n.val) := by decide +kernel
theorem idx_at (c : UInt8) : firstIdx (⟨#[48, 49, 50, 51, 52, 53, 54, 55, 56, 57, 97, 98, 99, 100, 101, 102]⟩ : ByteArray) c = Sha.hv c := by
  have h := idx_hv ⟨c.toNat, c.toNat_lt⟩
  rw [show UInt8.ofNat (⟨c.toNat, c.toNat_lt⟩ : Fin 256).val = c from UInt8.ofNat_toNat] at h
  exact h

theorem lite_index (c : UInt8) (w : World) : Calls Try.prog 32 #[.string ⟨#[48, 49, 50, 51, 52, 53, 54, 55, 56, 57, 97, 98, 99, 100, 101, 102]⟩, .int .u8 (c.toNat : Int)] w fun e w' => e = .returned (.int .i64 (Sha.hv c)) ∧ w = w' := by
  go_enter Try.func32, Try.ntmps32
  go_wp2_with fail
  rw [run_callFunc_extern Try.func36 (by kernel_rfl) (by kernel_rfl) (by kernel_rfl) (e := Extern.BytealgIndexByte.indexByte) (by kernel_rfl), run_indexByte_string]
  simp only [Result.andThen]
  rw [Oper.upon_value]
  go_wp2
  go_ret
  refine ⟨?_, rfl⟩
  rw [← idx_at]
  simp
theorem str_index (c : UInt8) (w : World) : Calls Try.prog 24 #[.string ⟨#[48, 49, 50, 51, 52, 53, 54, 55, 56, 57, 97, 98, 99, 100, 101, 102]⟩, .int .u8 (c.toNat : Int)] w fun e w' => e = .returned (.int .i64 (Sha.hv c)) ∧ w = w' := by
  go_enter Try.func24, Try.ntmps24
  go_wp2_with fail
  refine (lite_index c w).mono ?_
  rintro e w' ⟨rfl, rfl⟩
  go_wp2
  go_ret
  exact ⟨rfl, rfl⟩
end Go.Proofs.Ytgpcfhdldmkijaa
