
/- SHA-256 in plain Lean: words, blocks, digests, and what is put behind bytes. -/

import Derived.Test.YtnagbhaknmoilaaMem

import Derived.Test.YtnagbhaknmoilaaVintMath

import Derived.Test.YtnagbhaknmoilaaNum

import Derived.Test.YtnagbhaknmoilaaVintNum

import Derived.Test.YtnagbhaknmoilaaReg2

import Derived.Laws.BitsAllLaws

namespace Go.Proofs.Ytnagbhaknmoilaa

open Go.RowKit

/-- A word as the model's number. -/
def W (x : UInt32) : Int := (x.toNat : Int)
def wv (x : UInt32) : Value := .int .u32 (W x)

namespace Sha

def rotr (x : UInt32) (n : Nat) : UInt32 := x >>> (UInt32.ofNat n) ||| x <<< (UInt32.ofNat (32 - n))
def big1 (e : UInt32) : UInt32 := rotr e 6 ^^^ rotr e 11 ^^^ rotr e 25
def big0 (a : UInt32) : UInt32 := rotr a 2 ^^^ rotr a 13 ^^^ rotr a 22
def small1 (x : UInt32) : UInt32 := rotr x 17 ^^^ rotr x 19 ^^^ x >>> 10
def small0 (y : UInt32) : UInt32 := rotr y 7 ^^^ rotr y 18 ^^^ y >>> 3
def ch (e f g : UInt32) : UInt32 := e &&& f ^^^ ~~~e &&& g
def maj (a b c : UInt32) : UInt32 := a &&& b ^^^ a &&& c ^^^ b &&& c
structure St where
  a : UInt32
  b : UInt32
  c : UInt32
  d : UInt32
  e : UInt32
  f : UInt32
  g : UInt32
  h : UInt32
deriving DecidableEq
def St.list (s : St) : List UInt32 := [s.a, s.b, s.c, s.d, s.e, s.f, s.g, s.h]
def first : St := ⟨0x6a09e667, 0xbb67ae85, 0x3c6ef372, 0xa54ff53a, 0x510e527f, 0x9b05688c, 0x1f83d9ab, 0x5be0cd19⟩
def k : List UInt32 := [
  0x428a2f98, 0x71374491, 0xb5c0fbcf, 0xe9b5dba5, 0x3956c25b, 0x59f111f1, 0x923f82a4, 0xab1c5ed5,
  0xd807aa98, 0x12835b01, 0x243185be, 0x550c7dc3, 0x72be5d74, 0x80deb1fe, 0x9bdc06a7, 0xc19bf174,
  0xe49b69c1, 0xefbe4786, 0x0fc19dc6, 0x240ca1cc, 0x2de92c6f, 0x4a7484aa, 0x5cb0a9dc, 0x76f988da,
  0x983e5152, 0xa831c66d, 0xb00327c8, 0xbf597fc7, 0xc6e00bf3, 0xd5a79147, 0x06ca6351, 0x14292967,
  0x27b70a85, 0x2e1b2138, 0x4d2c6dfc, 0x53380d13, 0x650a7354, 0x766a0abb, 0x81c2c92e, 0x92722c85,
  0xa2bfe8a1, 0xa81a664b, 0xc24b8b70, 0xc76c51a3, 0xd192e819, 0xd6990624, 0xf40e3585, 0x106aa070,
  0x19a4c116, 0x1e376c08, 0x2748774c, 0x34b0bcb5, 0x391c0cb3, 0x4ed8aa4a, 0x5b9cca4f, 0x682e6ff3,
  0x748f82ee, 0x78a5636f, 0x84c87814, 0x8cc70208, 0x90befffa, 0xa4506ceb, 0xbef9a3f7, 0xc67178f2]
theorem k_len : k.length = 64 := rfl

/-- The four bytes from 4 t on, as a word. -/
def be (b : List UInt8) (t : Nat) : UInt32 := UInt32.ofNat ((((b.getD (4 * t) 0).toNat * 256 + (b.getD (4 * t + 1) 0).toNat) * 256 + (b.getD (4 * t + 2) 0).toNat) * 256 + (b.getD (4 * t + 3) 0).toNat)
def nextw (b : List UInt8) (t : Nat) (l : List UInt32) : UInt32 :=
  if t < 16 then be b t else small1 (l.getD (t - 2) 0) + l.getD (t - 7) 0 + small0 (l.getD (t - 15) 0) + l.getD (t - 16) 0
/-- The first t words of a block. -/
def sch (b : List UInt8) : Nat → List UInt32
  | 0 => []
  | t + 1 => sch b t ++ [nextw b t (sch b t)]
theorem sch_len (b : List UInt8) (t : Nat) : (sch b t).length = t := by
  induction t with
  | zero => rfl
  | succ t ih => simp [sch, ih]
def add1 (s : St) (kt wt : UInt32) : UInt32 := s.h + big1 s.e + ch s.e s.f s.g + kt + wt
def rnd (s : St) (kt wt : UInt32) : St := ⟨add1 s kt wt + big0 s.a + maj s.a s.b s.c, s.a, s.b, s.c, s.d + add1 s kt wt, s.e, s.f, s.g⟩
def rnds (w : List UInt32) (s : St) : Nat → St
  | 0 => s
  | t + 1 => rnd (rnds w s t) (k.getD t 0) (w.getD t 0)
def plus (s v : St) : St := ⟨s.a + v.a, s.b + v.b, s.c + v.c, s.d + v.d, s.e + v.e, s.f + v.f, s.g + v.g, s.h + v.h⟩
def block (s : St) (b : List UInt8) : St := plus s (rnds (sch b 64) s 64)
/-- n blocks taken in. -/
def run (s : St) (l : List UInt8) : Nat → St
  | 0 => s
  | n + 1 => block (run s l n) ((l.drop (64 * n)).take 64)
theorem run_app (s : St) (d p : List UInt8) (n : Nat) (h : 64 * n ≤ d.length) : run s (d ++ p) n = run s d n := by
  induction n with
  | zero => rfl
  | succ n ih =>
    simp only [run]
    rw [ih (by omega), List.drop_append_of_le_length (by omega), List.take_append_of_le_length (by rw [List.length_drop]; omega)]
theorem run_add (s : St) (l : List UInt8) (m n : Nat) : run s l (m + n) = run (run s l m) (l.drop (64 * m)) n := by
  induction n with
  | zero => rfl
  | succ n ih =>
    rw [← Nat.add_assoc]
    simp only [run]
    rw [ih, List.drop_drop]
    congr 4
    omega
/-- What is known of bytes that came in: the words behind the whole blocks, and the rest. -/
def words (d : List UInt8) : St := run first d (d.length / 64)
def rest (d : List UInt8) : List UInt8 := d.drop (64 * (d.length / 64))
theorem rest_len (d : List UInt8) : (rest d).length = d.length % 64 := by
  unfold rest
  rw [List.length_drop]
  omega
theorem words_app (d p : List UInt8) : words (d ++ p) = run (words d) (rest d ++ p) ((rest d ++ p).length / 64) := by
  have h1 : (d ++ p).length / 64 = d.length / 64 + (rest d ++ p).length / 64 := by
    rw [List.length_append, List.length_append, rest_len]; omega
  unfold words
  rw [h1, run_add, run_app _ _ _ _ (by omega), List.drop_append_of_le_length (by omega)]
  rfl
theorem rest_app (d p : List UInt8) : rest (d ++ p) = (rest d ++ p).drop (64 * ((rest d ++ p).length / 64)) := by
  have h1 : (d ++ p).length / 64 = d.length / 64 + (rest d ++ p).length / 64 := by
    rw [List.length_append, List.length_append, rest_len]; omega
  have h2 : (d ++ p).drop (64 * (d.length / 64)) = rest d ++ p := by
    rw [List.drop_append_of_le_length (by omega)]; rfl
  show (d ++ p).drop (64 * ((d ++ p).length / 64)) = _
  rw [h1, Nat.mul_add, ← List.drop_drop, h2]
/-- What is put behind bytes. -/
def padn (n : Nat) : Nat := 64 - (n + 8) % 64
def tail (n : Nat) : List UInt8 := 128 :: List.replicate (padn n - 1) 0 ++ Vint.fixL (8 * n) 8
def pad (l : List UInt8) : List UInt8 := l ++ tail l.length
theorem tail_len (n : Nat) : (tail n).length = padn n + 8 := by
  simp only [tail, List.cons_append, List.length_cons, List.length_append, List.length_replicate, Vint.fixL_len]
  unfold padn
  omega
theorem pad_len (l : List UInt8) : (pad l).length % 64 = 0 := by
  unfold pad
  rw [List.length_append, tail_len]
  unfold padn
  omega
def out (s : St) : List UInt8 := s.list.flatMap fun w => Vint.fixL w.toNat 4
/-- The digest. -/
def sum (l : List UInt8) : List UInt8 := out (words (pad l))
theorem fix4 (n : Nat) : Vint.fixL n 4 = [Vint.fixB n 4 0, Vint.fixB n 4 1, Vint.fixB n 4 2, Vint.fixB n 4 3] := rfl
theorem out_len (s : St) : (out s).length = 32 := by simp [out, St.list, fix4]
theorem sum_len (l : List UInt8) : (sum l).length = 32 := out_len _
end Sha

end Go.Proofs.Ytnagbhaknmoilaa

/- Words of 32 bits in walks; the program's and the reference's turning of a word. -/

namespace Go.Proofs.Ytnagbhaknmoilaa

open Go.RowKit

theorem W_lt (x : UInt32) : x.toNat < 4294967296 := x.toNat_lt
theorem W_xor (a b : UInt32) : bits .xor .u32 (W a) (W b) = W (a ^^^ b) := by unfold W; rw [u32_xor_nat _ _ a.toNat_lt b.toNat_lt, UInt32.toNat_xor]
theorem W_and (a b : UInt32) : bits .and .u32 (W a) (W b) = W (a &&& b) := by unfold W; rw [u32_and_nat _ _ a.toNat_lt b.toNat_lt, UInt32.toNat_and]
theorem W_or (a b : UInt32) : bits .or .u32 (W a) (W b) = W (a ||| b) := by unfold W; rw [u32_or_nat _ _ a.toNat_lt b.toNat_lt, UInt32.toNat_or]
theorem W_add (a b : UInt32) : IntKind.u32.wrap (W a + W b) = W (a + b) := by
  unfold W
  rw [UInt32.toNat_add, IntKind.wrap_u32']
  omega
theorem W_add' (a b : UInt32) : (W a + W b) % 4294967296 = W (a + b) := by
  unfold W
  rw [UInt32.toNat_add]
  omega
theorem W_not (a : UInt32) : bits .xor .u32 IntKind.u32.max (W a) = W (~~~a) := by
  unfold W
  rw [not32 _ a.toNat_lt, UInt32.toNat_not]
  rfl
theorem W_shr (a : UInt32) (n : Nat) (h : n < 32) : W a / 2 ^ n = W (a >>> UInt32.ofNat n) := by
  unfold W
  rw [UInt32.toNat_shiftRight, UInt32.toNat_ofNat', Nat.shiftRight_eq_div_pow, Nat.mod_eq_of_lt (a := n) (by omega), Nat.mod_eq_of_lt h]
  simp
theorem W_shl (a : UInt32) (n : Nat) (h : n < 32) : (W a * 2 ^ n) % 4294967296 = W (a <<< UInt32.ofNat n) := by
  unfold W
  rw [UInt32.toNat_shiftLeft, UInt32.toNat_ofNat', Nat.shiftLeft_eq, Nat.mod_eq_of_lt (a := n) (by omega), Nat.mod_eq_of_lt h]
  simp
theorem W_shr3 (a : UInt32) : W a / (8 : Int) = W (a >>> 3) := W_shr a 3 (by omega)
theorem W_shr10 (a : UInt32) : W a / (1024 : Int) = W (a >>> 10) := W_shr a 10 (by omega)

set_option maxHeartbeats 400000 in
theorem turn_any (x : UInt32) (n : Nat) (h0 : 1 ≤ n) (h : n < 32) (w : World) : Calls Try.prog 32 #[.int .u32 (W x), .int .i64 n] w fun e w' => e = .returned (.int .u32 (W (Sha.rotr x n))) ∧ Below w.heap.size w w' := by
  show Calls Try.prog 32 #[.int .u32 (W x), .int .i64 n] w _
  go_enter Try.func32, Try.ntmps32
  have hw : IntKind.i64.wrap (32 - (n : Int)) = ((32 - n : Nat) : Int) := by simp [IntKind.wrap, IntKind.bits, IntKind.signed]; omega
  have hsub : (((32 - n : Nat) : Nat) : Int) ≤ 32 := by omega
  have hs2 : (0 : Int) ≤ (((32 - n : Nat) : Nat) : Int) := by omega
  have hn : (n : Int) ≤ 32 := by omega
  have hn1 : (1 : Int) ≤ n := by omega
  go_wp2_with fail
  refine rg_start (by kernel_rfl) ?_
  refine rg_take 0 rfl (by kernel_rfl) (by kernel_rfl) (by kernel_rfl) (fun _ _ _ _ h => h) (by rfl) ⟨_, fun w' hx => by (go_simp <;> with_reducible rfl), ?_⟩
  simp only [Act.put, List.setIfInBounds_toArray, List.set_cons_zero, List.set_cons_succ]
  refine rg_take 1 rfl (by kernel_rfl) (by kernel_rfl) (by kernel_rfl) (fun _ _ _ _ h => h) (by rfl) ⟨_, fun w' hx => by (go_simp <;> with_reducible rfl), ?_⟩
  simp only [Act.put, List.setIfInBounds_toArray, List.set_cons_zero, List.set_cons_succ]
  refine rg_take 2 rfl (by kernel_rfl) (by kernel_rfl) (by kernel_rfl) (fun _ _ _ _ h => h) (by rfl) ⟨.int .u32 (W (x >>> UInt32.ofNat n)), fun w' hx => by (go_simp; simp only [Int.toNat_natCast, W_shr x n h]), ?_⟩
  simp only [Act.put, List.setIfInBounds_toArray, List.set_cons_zero, List.set_cons_succ]
  refine rg_take 3 rfl (by kernel_rfl) (by kernel_rfl) (by kernel_rfl) (fun _ _ _ _ h => h) (by rfl) ⟨_, fun w' hx => by (go_simp <;> with_reducible rfl), ?_⟩
  simp only [Act.put, List.setIfInBounds_toArray, List.set_cons_zero, List.set_cons_succ]
  refine rg_take 4 rfl (by kernel_rfl) (by kernel_rfl) (by kernel_rfl) (fun _ _ _ _ h => h) (by rfl) ⟨_, fun w' hx => by (go_simp <;> with_reducible rfl), ?_⟩
  simp only [Act.put, List.setIfInBounds_toArray, List.set_cons_zero, List.set_cons_succ]
  refine rg_take 5 rfl (by kernel_rfl) (by kernel_rfl) (by kernel_rfl) (fun _ _ _ _ h => h) (by rfl) ⟨.int .i64 ((32 - n : Nat) : Int), fun w' hx => by go_simp, ?_⟩   -- t10 := binOp sub 3 32:i64 t9 3
  simp only [Act.put, List.setIfInBounds_toArray, List.set_cons_zero, List.set_cons_succ]
  refine rg_take 6 rfl (by kernel_rfl) (by kernel_rfl) (by kernel_rfl) (fun _ _ _ _ h => h) (by rfl) ⟨.int .u32 (W (x <<< UInt32.ofNat (32 - n))), fun w' hx => by (go_simp; rw [IntKind.wrap_u32']; exact W_shl x (32 - n) (by omega)), ?_⟩
  simp only [Act.put, List.setIfInBounds_toArray, List.set_cons_zero, List.set_cons_succ]
  refine rg_take 7 rfl (by kernel_rfl) (by kernel_rfl) (by kernel_rfl) (fun _ _ _ _ h => h) (by rfl) ⟨.int .u32 (W (Sha.rotr x n)), fun w' hx => by (go_simp; exact W_or _ _), ?_⟩
  simp only [Act.put, List.setIfInBounds_toArray, List.set_cons_zero, List.set_cons_succ]
  refine rg_take 8 rfl (by kernel_rfl) (by kernel_rfl) (by kernel_rfl) (fun _ _ _ _ h => h) (by rfl) ⟨_, fun w' hx => by (go_simp <;> with_reducible rfl), ?_⟩
  simp only [Act.put, List.setIfInBounds_toArray, List.set_cons_zero, List.set_cons_succ]
  refine rg_done (by kernel_rfl) ?_
  go_wp2
  go_ret
  exact ⟨rfl, Ext.drew w⟩

theorem rot_cnt (n : Nat) (h0 : 1 ≤ n) (h : n < 32) : bits .and .u64 (IntKind.u64.wrap (-(n : Int))) 31 = ((32 - n : Nat) : Int) := by
  have h1 : IntKind.u64.wrap (-(n : Int)) = ((18446744073709551616 - n : Nat) : Int) := by rw [IntKind.wrap_u64]; omega
  rw [h1]
  have h2 := u64_and_nat (18446744073709551616 - n) 31 (by omega) (by omega)
  rw [show ((31 : Nat) : Int) = 31 from rfl] at h2
  rw [h2]
  have h3 := Nat.and_two_pow_sub_one_eq_mod (18446744073709551616 - n) 5
  simp only [Nat.reducePow, Nat.reduceSub] at h3
  rw [h3]
  omega
set_option maxHeartbeats 400000 in
theorem rotl_any (x : UInt32) (n : Nat) (h0 : 1 ≤ n) (h : n < 32) (w : World) : Calls Try.prog 47 #[.int .u32 (W x), .int .i64 (-(n : Int))] w fun e w' => e = .returned (.int .u32 (W (Sha.rotr x n))) ∧ w = w' := by
  show Calls Try.prog 47 #[.int .u32 (W x), .int .i64 (-(n : Int))] w _
  have hc := rot_cnt n h0 h
  have hsub : (((32 - n : Nat) : Nat) : Int) ≤ 32 := by omega
  have hs2 : (0 : Int) ≤ (((32 - n : Nat) : Nat) : Int) := by omega
  go_enter Try.func47, Try.ntmps47
  go_wp2_with fail
  go_ret
  refine ⟨?_, rfl⟩
  rw [show 32 - (32 - n) = n by omega, W_shl x (32 - n) (by omega), W_shr x n h, W_or, UInt32.or_comm]
  rfl

set_option maxHeartbeats 400000 in
theorem right_any (x : UInt32) (n : Nat) (h0 : 1 ≤ n) (h : n < 32) (w : World) : Calls Try.prog 42 #[.int .u32 (W x), .int .i64 n] w fun e w' => e = .returned (.int .u32 (W (Sha.rotr x n))) ∧ w = w' := by
  show Calls Try.prog 42 #[.int .u32 (W x), .int .i64 n] w _
  have hw : IntKind.i64.wrap (-(n : Int)) = -(n : Int) := by simp [IntKind.wrap, IntKind.bits, IntKind.signed]; omega
  go_enter Try.func42, Try.ntmps42
  go_wp2_with fail
  refine (rotl_any x n h0 h w).mono ?_
  rintro e w' ⟨rfl, rfl⟩
  go_wp2
  go_ret
  exact ⟨rfl, rfl⟩
end Go.Proofs.Ytnagbhaknmoilaa
