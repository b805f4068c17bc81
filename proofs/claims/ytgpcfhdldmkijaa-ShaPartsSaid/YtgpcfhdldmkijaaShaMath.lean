/- SHA-256 in plain Lean: words, blocks, digests, and what is put behind bytes. -/
import Derived.Test.YtgpcfhdldmkijaaMem
import Derived.Test.YtgpcfhdldmkijaaVintMath
namespace Go.Proofs.Ytgpcfhdldmkijaa
open Go.RowKit

/-- A word as the model's number. -/
def W (x : UInt32) : Int := (x.toNat : Int)
def wv (x : UInt32) : Value := .int .u32 (W x)

namespace Sha
def rotr (x : UInt32) (n : Nat) : UInt32 := x >>> (UInt32.ofNat n) ||| x <<< (UInt32.ofNat (32 - n))
def big1 (e : UInt32) : UInt32 := rotr e 6 ^^^ rotr e 11 ^^^ rotr e 25
def big0 (a : UInt32) : UInt32 := rotr a 2 ^^^ rotr a 13 ^^^ rotr a 22
def small1 (x : UInt32) : UInt32 := rotr x 17 ^^^ rotr x 19 ^^^ x >>> 10
def small0 (y : UInt32) : UInt32 := rotr y 7 ^^^ rotr y 18 ^^^ y >>> 3
def ch (e f g : UInt32) : UInt32 := e &&& f ^^^ ~~~e &&& g
def maj (a b c : UInt32) : UInt32 := a &&& b ^^^ a &&& c ^^^ b &&& c
structure St where
  a : UInt32
  b : UInt32
  c : UInt32
  d : UInt32
  e : UInt32
  f : UInt32
  g : UInt32
  h : UInt32
deriving DecidableEq
def St.list (s : St) : List UInt32 := [s.a, s.b, s.c, s.d, s.e, s.f, s.g, s.h]
def first : St := ⟨0x6a09e667, 0xbb67ae85, 0x3c6ef372, 0xa54ff53a, 0x510e527f, 0x9b05688c, 0x1f83d9ab, 0x5be0cd19⟩
def k : List UInt32 := [
  0x428a2f98, 0x71374491, 0xb5c0fbcf, 0xe9b5dba5, 0x3956c25b, 0x59f111f1, 0x923f82a4, 0xab1c5ed5,
  0xd807aa98, 0x12835b01, 0x243185be, 0x550c7dc3, 0x72be5d74, 0x80deb1fe, 0x9bdc06a7, 0xc19bf174,
  0xe49b69c1, 0xefbe4786, 0x0fc19dc6, 0x240ca1cc, 0x2de92c6f, 0x4a7484aa, 0x5cb0a9dc, 0x76f988da,
  0x983e5152, 0xa831c66d, 0xb00327c8, 0xbf597fc7, 0xc6e00bf3, 0xd5a79147, 0x06ca6351, 0x14292967,
  0x27b70a85, 0x2e1b2138, 0x4d2c6dfc, 0x53380d13, 0x650a7354, 0x766a0abb, 0x81c2c92e, 0x92722c85,
  0xa2bfe8a1, 0xa81a664b, 0xc24b8b70, 0xc76c51a3, 0xd192e819, 0xd6990624, 0xf40e3585, 0x106aa070,
  0x19a4c116, 0x1e376c08, 0x2748774c, 0x34b0bcb5, 0x391c0cb3, 0x4ed8aa4a, 0x5b9cca4f, 0x682e6ff3,
  0x748f82ee, 0x78a5636f, 0x84c87814, 0x8cc70208, 0x90befffa, 0xa4506ceb, 0xbef9a3f7, 0xc67178f2]
theorem k_len : k.length = 64 := rfl

/-- The four bytes from 4 t on, as a word. -/
def be (b : List UInt8) (t : Nat) : UInt32 := UInt32.ofNat ((((b.getD (4 * t) 0).toNat * 256 + (b.getD (4 * t + 1) 0).toNat) * 256 + (b.getD (4 * t + 2) 0).toNat) * 256 + (b.getD (4 * t + 3) 0).toNat)
def nextw (b : List UInt8) (t : Nat) (l : List UInt32) : UInt32 :=
  if t < 16 then be b t else small1 (l.getD (t - 2) 0) + l.getD (t - 7) 0 + small0 (l.getD (t - 15) 0) + l.getD (t - 16) 0
/-- The first t words of a block. -/
def sch (b : List UInt8) : Nat → List UInt32
  | 0 => []
  | t + 1 => sch b t ++ [nextw b t (sch b t)]
theorem sch_len (b : List UInt8) (t : Nat) : (sch b t).length = t := by
  induction t with
  | zero => rfl
  | succ t ih => simp [sch, ih]
def add1 (s : St) (kt wt : UInt32) : UInt32 := s.h + big1 s.e + ch s.e s.f s.g + kt + wt
def rnd (s : St) (kt wt : UInt32) : St := ⟨add1 s kt wt + big0 s.a + maj s.a s.b s.c, s.a, s.b, s.c, s.d + add1 s kt wt, s.e, s.f, s.g⟩
def rnds (w : List UInt32) (s : St) : Nat → St
  | 0 => s
  | t + 1 => rnd (rnds w s t) (k.getD t 0) (w.getD t 0)
def plus (s v : St) : St := ⟨s.a + v.a, s.b + v.b, s.c + v.c, s.d + v.d, s.e + v.e, s.f + v.f, s.g + v.g, s.h + v.h⟩
def block (s : St) (b : List UInt8) : St := plus s (rnds (sch b 64) s 64)
/-- n blocks taken in. -/
def run (s : St) (l : List UInt8) : Nat → St
  | 0 => s
  | n + 1 => block (run s l n) ((l.drop (64 * n)).take 64)
theorem run_app (s : St) (d p : List UInt8) (n : Nat) (h : 64 * n ≤ d.length) : run s (d ++ p) n = run s d n := by
  induction n with
  | zero => rfl
  | succ n ih =>
    simp only [run]
    rw [ih (by omega), List.drop_append_of_le_length (by omega), List.take_append_of_le_length (by rw [List.length_drop]; omega)]
theorem run_add (s : St) (l : List UInt8) (m n : Nat) : run s l (m + n) = run (run s l m) (l.drop (64 * m)) n := by
  induction n with
  | zero => rfl
  | succ n ih =>
    rw [← Nat.add_assoc]
    simp only [run]
    rw [ih, List.drop_drop]
    congr 4
    omega
/-- What is known of bytes that came in: the words behind the whole blocks, and the rest. -/
def words (d : List UInt8) : St := run first d (d.length / 64)
def rest (d : List UInt8) : List UInt8 := d.drop (64 * (d.length / 64))
theorem rest_len (d : List UInt8) : (rest d).length = d.length % 64 := by
  unfold rest
  rw [List.length_drop]
  omega
theorem words_app (d p : List UInt8) : words (d ++ p) = run (words d) (rest d ++ p) ((rest d ++ p).length / 64) := by
  have h1 : (d ++ p).length / 64 = d.length / 64 + (rest d ++ p).length / 64 := by
    rw [List.length_append, List.length_append, rest_len]; omega
  unfold words
  rw [h1, run_add, run_app _ _ _ _ (by omega), List.drop_append_of_le_length (by omega)]
  rfl
theorem rest_app (d p : List UInt8) : rest (d ++ p) = (rest d ++ p).drop (64 * ((rest d ++ p).length / 64)) := by
  have h1 : (d ++ p).length / 64 = d.length / 64 + (rest d ++ p).length / 64 := by
    rw [List.length_append, List.length_append, rest_len]; omega
  have h2 : (d ++ p).drop (64 * (d.length / 64)) = rest d ++ p := by
    rw [List.drop_append_of_le_length (by omega)]; rfl
  show (d ++ p).drop (64 * ((d ++ p).length / 64)) = _
  rw [h1, Nat.mul_add, ← List.drop_drop, h2]
/-- What is put behind bytes. -/
def padn (n : Nat) : Nat := 64 - (n + 8) % 64
def tail (n : Nat) : List UInt8 := 128 :: List.replicate (padn n - 1) 0 ++ Vint.fixL (8 * n) 8
def pad (l : List UInt8) : List UInt8 := l ++ tail l.length
theorem tail_len (n : Nat) : (tail n).length = padn n + 8 := by
  simp only [tail, List.cons_append, List.length_cons, List.length_append, List.length_replicate, Vint.fixL_len]
  unfold padn
  omega
theorem pad_len (l : List UInt8) : (pad l).length % 64 = 0 := by
  unfold pad
  rw [List.length_append, tail_len]
  unfold padn
  omega
def out (s : St) : List UInt8 := s.list.flatMap fun w => Vint.fixL w.toNat 4
/-- The digest. -/
def sum (l : List UInt8) : List UInt8 := out (words (pad l))
theorem fix4 (n : Nat) : Vint.fixL n 4 = [Vint.fixB n 4 0, Vint.fixB n 4 1, Vint.fixB n 4 2, Vint.fixB n 4 3] := rfl
theorem out_len (s : St) : (out s).length = 32 := by simp [out, St.list, fix4]
theorem sum_len (l : List UInt8) : (sum l).length = 32 := out_len _
end Sha
end Go.Proofs.Ytgpcfhdldmkijaa
