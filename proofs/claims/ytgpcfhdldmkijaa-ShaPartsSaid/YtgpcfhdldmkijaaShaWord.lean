/- Words of 32 bits in walks; the program's and the reference's turning of a word. -/
import Derived.Test.YtgpcfhdldmkijaaShaMath
import Derived.Test.YtgpcfhdldmkijaaNum
import Derived.Test.YtgpcfhdldmkijaaVintNum
import Derived.Test.YtgpcfhdldmkijaaReg2
import Derived.Laws.BitsAllLaws
namespace Go.Proofs.Ytgpcfhdldmkijaa
open Go.RowKit

theorem W_lt (x : UInt32) : x.toNat < 4294967296 := x.toNat_lt
theorem W_xor (a b : UInt32) : bits .xor .u32 (W a) (W b) = W (a ^^^ b) := by unfold W; rw [u32_xor_nat _ _ a.toNat_lt b.toNat_lt, UInt32.toNat_xor]
theorem W_and (a b : UInt32) : bits .and .u32 (W a) (W b) = W (a &&& b) := by unfold W; rw [u32_and_nat _ _ a.toNat_lt b.toNat_lt, UInt32.toNat_and]
theorem W_or (a b : UInt32) : bits .or .u32 (W a) (W b) = W (a ||| b) := by unfold W; rw [u32_or_nat _ _ a.toNat_lt b.toNat_lt, UInt32.toNat_or]
theorem W_add (a b : UInt32) : IntKind.u32.wrap (W a + W b) = W (a + b) := by
  unfold W
  rw [UInt32.toNat_add, IntKind.wrap_u32']
  omega
theorem W_add' (a b : UInt32) : (W a + W b) % 4294967296 = W (a + b) := by
  unfold W
  rw [UInt32.toNat_add]
  omega
theorem W_not (a : UInt32) : bits .xor .u32 IntKind.u32.max (W a) = W (~~~a) := by
  unfold W
  rw [not32 _ a.toNat_lt, UInt32.toNat_not]
  rfl
theorem W_shr (a : UInt32) (n : Nat) (h : n < 32) : W a / 2 ^ n = W (a >>> UInt32.ofNat n) := by
  unfold W
  rw [UInt32.toNat_shiftRight, UInt32.toNat_ofNat', Nat.shiftRight_eq_div_pow, Nat.mod_eq_of_lt (a := n) (by omega), Nat.mod_eq_of_lt h]
  simp
theorem W_shl (a : UInt32) (n : Nat) (h : n < 32) : (W a * 2 ^ n) % 4294967296 = W (a <<< UInt32.ofNat n) := by
  unfold W
  rw [UInt32.toNat_shiftLeft, UInt32.toNat_ofNat', Nat.shiftLeft_eq, Nat.mod_eq_of_lt (a := n) (by omega), Nat.mod_eq_of_lt h]
  simp
theorem W_shr3 (a : UInt32) : W a / (8 : Int) = W (a >>> 3) := W_shr a 3 (by omega)
theorem W_shr10 (a : UInt32) : W a / (1024 : Int) = W (a >>> 10) := W_shr a 10 (by omega)

set_option maxHeartbeats 400000 in
theorem turn_any (x : UInt32) (n : Nat) (h0 : 1 ≤ n) (h : n < 32) (w : World) : Calls Try.prog 27 #[.int .u32 (W x), .int .i64 n] w fun e w' => e = .returned (.int .u32 (W (Sha.rotr x n))) ∧ Below w.heap.size w w' := by
  show Calls Try.prog 27 #[.int .u32 (W x), .int .i64 n] w _
  go_enter Try.func27, Try.ntmps27
  have hw : IntKind.i64.wrap (32 - (n : Int)) = ((32 - n : Nat) : Int) := by simp [IntKind.wrap, IntKind.bits, IntKind.signed]; omega
  have hsub : (((32 - n : Nat) : Nat) : Int) ≤ 32 := by omega
  have hs2 : (0 : Int) ≤ (((32 - n : Nat) : Nat) : Int) := by omega
  have hn : (n : Int) ≤ 32 := by omega
  have hn1 : (1 : Int) ≤ n := by omega
  go_wp2_with fail
  refine rg_start (by kernel_rfl) ?_
  refine rg_take 0 rfl (by kernel_rfl) (by kernel_rfl) (by kernel_rfl) (fun _ _ _ _ h => h) (by rfl) ⟨_, fun w' hx => by (go_simp <;> with_reducible rfl), ?_⟩
  simp only [Act.put, List.setIfInBounds_toArray, List.set_cons_zero, List.set_cons_succ]
  refine rg_take 1 rfl (by kernel_rfl) (by kernel_rfl) (by kernel_rfl) (fun _ _ _ _ h => h) (by rfl) ⟨_, fun w' hx => by (go_simp <;> with_reducible rfl), ?_⟩
  simp only [Act.put, List.setIfInBounds_toArray, List.set_cons_zero, List.set_cons_succ]
  refine rg_take 2 rfl (by kernel_rfl) (by kernel_rfl) (by kernel_rfl) (fun _ _ _ _ h => h) (by rfl) ⟨.int .u32 (W (x >>> UInt32.ofNat n)), fun w' hx => by (go_simp; simp only [Int.toNat_natCast, W_shr x n h]), ?_⟩
  simp only [Act.put, List.setIfInBounds_toArray, List.set_cons_zero, List.set_cons_succ]
  refine rg_take 3 rfl (by kernel_rfl) (by kernel_rfl) (by kernel_rfl) (fun _ _ _ _ h => h) (by rfl) ⟨_, fun w' hx => by (go_simp <;> with_reducible rfl), ?_⟩
  simp only [Act.put, List.setIfInBounds_toArray, List.set_cons_zero, List.set_cons_succ]
  refine rg_take 4 rfl (by kernel_rfl) (by kernel_rfl) (by kernel_rfl) (fun _ _ _ _ h => h) (by rfl) ⟨_, fun w' hx => by (go_simp <;> with_reducible rfl), ?_⟩
  simp only [Act.put, List.setIfInBounds_toArray, List.set_cons_zero, List.set_cons_succ]
  refine rg_take 5 rfl (by kernel_rfl) (by kernel_rfl) (by kernel_rfl) (fun _ _ _ _ h => h) (by rfl) ⟨.int .i64 ((32 - n : Nat) : Int), fun w' hx => by go_simp, ?_⟩   -- t10 := binOp sub 3 32:i64 t9 3
  simp only [Act.put, List.setIfInBounds_toArray, List.set_cons_zero, List.set_cons_succ]
  refine rg_take 6 rfl (by kernel_rfl) (by kernel_rfl) (by kernel_rfl) (fun _ _ _ _ h => h) (by rfl) ⟨.int .u32 (W (x <<< UInt32.ofNat (32 - n))), fun w' hx => by (go_simp; rw [IntKind.wrap_u32']; exact W_shl x (32 - n) (by omega)), ?_⟩
  simp only [Act.put, List.setIfInBounds_toArray, List.set_cons_zero, List.set_cons_succ]
  refine rg_take 7 rfl (by kernel_rfl) (by kernel_rfl) (by kernel_rfl) (fun _ _ _ _ h => h) (by rfl) ⟨.int .u32 (W (Sha.rotr x n)), fun w' hx => by (go_simp; exact W_or _ _), ?_⟩
  simp only [Act.put, List.setIfInBounds_toArray, List.set_cons_zero, List.set_cons_succ]
  refine rg_take 8 rfl (by kernel_rfl) (by kernel_rfl) (by kernel_rfl) (fun _ _ _ _ h => h) (by rfl) ⟨_, fun w' hx => by (go_simp <;> with_reducible rfl), ?_⟩
  simp only [Act.put, List.setIfInBounds_toArray, List.set_cons_zero, List.set_cons_succ]
  refine rg_done (by kernel_rfl) ?_
  go_wp2
  go_ret
  exact ⟨rfl, Ext.drew w⟩

theorem rot_cnt (n : Nat) (h0 : 1 ≤ n) (h : n < 32) : bits .and .u64 (IntKind.u64.wrap (-(n : Int))) 31 = ((32 - n : Nat) : Int) := by
  have h1 : IntKind.u64.wrap (-(n : Int)) = ((18446744073709551616 - n : Nat) : Int) := by rw [IntKind.wrap_u64]; omega
  rw [h1]
  have h2 := u64_and_nat (18446744073709551616 - n) 31 (by omega) (by omega)
  rw [show ((31 : Nat) : Int) = 31 from rfl] at h2
  rw [h2]
  have h3 := Nat.and_two_pow_sub_one_eq_mod (18446744073709551616 - n) 5
  simp only [Nat.reducePow, Nat.reduceSub] at h3
  rw [h3]
  omega
set_option maxHeartbeats 400000 in
theorem rotl_any (x : UInt32) (n : Nat) (h0 : 1 ≤ n) (h : n < 32) (w : World) : Calls Try.prog 35 #[.int .u32 (W x), .int .i64 (-(n : Int))] w fun e w' => e = .returned (.int .u32 (W (Sha.rotr x n))) ∧ w = w' := by
  show Calls Try.prog 35 #[.int .u32 (W x), .int .i64 (-(n : Int))] w _
  have hc := rot_cnt n h0 h
  have hsub : (((32 - n : Nat) : Nat) : Int) ≤ 32 := by omega
  have hs2 : (0 : Int) ≤ (((32 - n : Nat) : Nat) : Int) := by omega
  go_enter Try.func35, Try.ntmps35
  go_wp2_with fail
  go_ret
  refine ⟨?_, rfl⟩
  rw [show 32 - (32 - n) = n by omega, W_shl x (32 - n) (by omega), W_shr x n h, W_or, UInt32.or_comm]
  rfl

set_option maxHeartbeats 400000 in
theorem right_any (x : UInt32) (n : Nat) (h0 : 1 ≤ n) (h : n < 32) (w : World) : Calls Try.prog 31 #[.int .u32 (W x), .int .i64 n] w fun e w' => e = .returned (.int .u32 (W (Sha.rotr x n))) ∧ w = w' := by
  show Calls Try.prog 31 #[.int .u32 (W x), .int .i64 n] w _
  have hw : IntKind.i64.wrap (-(n : Int)) = -(n : Int) := by simp [IntKind.wrap, IntKind.bits, IntKind.signed]; omega
  go_enter Try.func31, Try.ntmps31
  go_wp2_with fail
  refine (rotl_any x n h0 h w).mono ?_
  rintro e w' ⟨rfl, rfl⟩
  go_wp2
  go_ret
  exact ⟨rfl, rfl⟩
end Go.Proofs.Ytgpcfhdldmkijaa
