
/- Small words for walks over 32-bit numbers. -/

import Derived.Test.YtkpagmfaccmiaaaGreatMem

namespace Go.Proofs.YtkpagmfaccmiaaaGreat

open Go.RowKit

theorem ret_int {k : IntKind} {a b : Int} (h : a = b) : Ending.returned (.int k a) = .returned (.int k b) := by rw [h]
theorem val_int {k : IntKind} {a b : Int} (h : a = b) : Value.int k a = .int k b := by rw [h]

theorem x32 (a b : Nat) (ha : a < 4294967296) (hb : b < 4294967296) : bits .xor .u32 (a : Int) (b : Int) = ((a ^^^ b : Nat) : Int) := u32_xor_nat a b ha hb
theorem a32_1 (a : Nat) (ha : a < 4294967296) : bits .and .u32 (a : Int) 1 = ((a % 2 : Nat) : Int) := by
  have := u32_and_nat a 1 ha (by omega)
  rw [nat_mask1] at this
  exact this
theorem a32_15 (a : Nat) (ha : a < 4294967296) : bits .and .u32 (a : Int) 15 = ((a % 16 : Nat) : Int) := by
  have := u32_and_nat a 15 ha (by omega)
  rw [nat_mask4] at this
  exact this

theorem u8_of {v : Int} {b : UInt8} (h : v = (b.toNat : Int)) : Value.int .u8 v = bv b := by rw [h]; rfl
theorem byte0 (n : Nat) : (n : Int) % 256 = ((UInt8.ofNat n).toNat : Int) := by simp [UInt8.toNat_ofNat']
theorem byte_div (n d : Nat) : (n : Int) / (d : Int) % 256 = ((UInt8.ofNat (n / d)).toNat : Int) := by simp [UInt8.toNat_ofNat']
theorem byte_top (n d : Nat) (h : n / d < 256) : (n : Int) / (d : Int) = ((UInt8.ofNat (n / d)).toNat : Int) := by
  rw [UInt8.toNat_ofNat', Nat.mod_eq_of_lt (by simpa using h)]; simp
theorem wrap_u64 (n : Nat) (h : n < 18446744073709551616) : IntKind.u64.wrap (n : Int) = (n : Int) := by
  simp [IntKind.wrap, IntKind.bits, IntKind.signed]; omega
theorem x8 (a b : UInt8) : bits .xor .u8 (a.toNat : Int) (b.toNat : Int) = ((a ^^^ b).toNat : Int) := by
  rw [u8_xor_nat _ _ a.toNat_lt b.toNat_lt, UInt8.toNat_xor]
theorem wf_byte {n : Int} (h : (Lit.int .u8 n).wf = true) : ∃ b : UInt8, n = (b.toNat : Int) := by
  simp [Lit.wf, IntKind.min, IntKind.max, IntKind.bits, IntKind.signed] at h
  refine ⟨UInt8.ofNat n.toNat, ?_⟩
  rw [UInt8.toNat_ofNat', Nat.mod_eq_of_lt (by omega)]
  omega
theorem wf_int {n : Int} (h : (Lit.int .i64 n).wf = true) : -9223372036854775808 ≤ n ∧ n ≤ 9223372036854775807 := by
  simpa [Lit.wf, IntKind.min, IntKind.max, IntKind.bits, IntKind.signed] using h
theorem xor_max (c : Nat) (h : c < 4294967296) : 4294967295 ^^^ c = 4294967295 - c := by
  have h1 := BitVec.toNat_not (x := BitVec.ofNat 32 c)
  have h2 : (BitVec.ofNat 32 c).toNat = c := by rw [BitVec.toNat_ofNat]; exact Nat.mod_eq_of_lt (by simpa using h)
  rw [← BitVec.allOnes_xor, BitVec.toNat_xor, BitVec.toNat_allOnes, h2] at h1
  simpa using h1
theorem not32 (c : Nat) (h : c < 4294967296) : bits .xor .u32 IntKind.u32.max (c : Int) = ((4294967295 - c : Nat) : Int) := by
  have h1 := u32_xor_nat 4294967295 c (by omega) h
  rw [xor_max c h] at h1
  have h2 : IntKind.u32.max = ((4294967295 : Nat) : Int) := by decide
  rw [h2]; exact h1
theorem wf_u32 {n : Int} (h : (Lit.int .u32 n).wf = true) : ∃ m : Nat, n = (m : Int) ∧ m < 4294967296 := by
  simp [Lit.wf, IntKind.min, IntKind.max, IntKind.bits, IntKind.signed] at h
  exact ⟨n.toNat, by omega, by omega⟩

end Go.Proofs.YtkpagmfaccmiaaaGreat
