/- Why a sum tells what is turned within 32 neighbouring bits: bytes as one number, a sum as that number shifted through the register; the shift loses nothing of 32 bits. -/
import Derived.Test.YtphjbemlofdepaaCrcMath
namespace Go.Proofs.Ytphjbemlofdepaa.Crc

def iter (f : Nat → Nat) : Nat → Nat → Nat
  | 0, c => c
  | k + 1, c => iter f k (f c)
theorem iter_add (f : Nat → Nat) (a b c : Nat) : iter f (a + b) c = iter f b (iter f a c) := by
  induction a generalizing c with
  | zero => rw [Nat.zero_add]; rfl
  | succ a ih => rw [show a + 1 + b = (a + b) + 1 by omega]; exact ih (f c)
theorem iter_xor (k a b : Nat) : iter bit k (a ^^^ b) = iter bit k a ^^^ iter bit k b := by
  induction k generalizing a b with
  | zero => rfl
  | succ k ih => show iter bit k (bit (a ^^^ b)) = _; rw [bit_xor, ih]; rfl
theorem iter_shift (k s m : Nat) : iter bit (s + k) (2 ^ s * m) = iter bit k m := by
  induction s generalizing m with
  | zero => rw [Nat.zero_add, Nat.pow_zero, Nat.one_mul]
  | succ s ih =>
    rw [show s + 1 + k = (s + k) + 1 by omega]
    show iter bit (s + k) (bit (2 ^ (s + 1) * m)) = _
    rw [Nat.pow_succ, Nat.mul_comm (2 ^ s) 2, Nat.mul_assoc, bit_even]
    exact ih m
theorem bit_ne {c : Nat} (h : c < 4294967296) (h0 : c ≠ 0) : bit c ≠ 0 := by
  intro e
  unfold bit at e
  have e2 : c / 2 = 2197175160 * (c % 2) := by
    have e3 := congrArg (c / 2 ^^^ ·) e
    simp only [← Nat.xor_assoc, Nat.xor_self, Nat.zero_xor, Nat.xor_zero] at e3
    exact e3.symm
  rcases mod_two c with h1 | h1 <;> rw [h1] at e2 <;> omega
theorem iter_ne (k : Nat) {c : Nat} (h : c < 4294967296) (h0 : c ≠ 0) : iter bit k c ≠ 0 := by
  induction k generalizing c with
  | zero => exact h0
  | succ k ih => exact ih (bit_lt h) (bit_ne h h0)

/-- Bytes as one number, the first the lowest. -/
def le : List UInt8 → Nat
  | [] => 0
  | b :: t => b.toNat ^^^ (256 * le t)
theorem mul_xor (s a b : Nat) : 2 ^ s * (a ^^^ b) = 2 ^ s * a ^^^ 2 ^ s * b := by
  have h : ∀ x : Nat, 2 ^ s * x = x <<< s := fun x => by rw [Nat.shiftLeft_eq, Nat.mul_comm]
  rw [h, h, h]; exact Nat.shiftLeft_xor_distrib
theorem byte_iter (c b : Nat) : byte c b = iter bit 8 (c ^^^ b) := by
  unfold byte
  rw [← four_bits, ← four_bits]
  rfl
theorem over_le (l : List UInt8) : ∀ c : Nat, over c l = iter bit (8 * l.length) (c ^^^ le l) := by
  induction l with
  | nil => intro c; simp [over, le, iter]
  | cons b t ih =>
    intro c
    show over (byte c b.toNat) t = _
    rw [ih, byte_iter, List.length_cons, show 8 * (t.length + 1) = 8 + 8 * t.length by omega, iter_add]
    congr 1
    have h := iter_shift 0 8 (le t)
    rw [show iter bit 0 (le t) = le t from rfl, Nat.add_zero] at h
    rw [← h, ← iter_xor]
    congr 1
    show (c ^^^ b.toNat) ^^^ 2 ^ 8 * le t = c ^^^ (b.toNat ^^^ 256 * le t)
    rw [Nat.xor_assoc]
theorem le_set (l : List UInt8) (i : Nat) (h : i < l.length) (x : UInt8) : le (l.set i (l[i] ^^^ x)) = le l ^^^ (2 ^ (8 * i) * x.toNat) := by
  induction l generalizing i with
  | nil => simp at h
  | cons b t ih =>
    cases i with
    | zero =>
      simp only [List.set_cons_zero, List.getElem_cons_zero, le, UInt8.toNat_xor, Nat.mul_zero, Nat.pow_zero, Nat.one_mul]
      rw [Nat.xor_assoc, Nat.xor_comm x.toNat, ← Nat.xor_assoc]
    | succ i =>
      simp only [List.length_cons, Nat.add_lt_add_iff_right] at h
      simp only [List.set_cons_succ, List.getElem_cons_succ, le]
      rw [ih i h, show 256 * (le t ^^^ 2 ^ (8 * i) * x.toNat) = 2 ^ 8 * (le t ^^^ 2 ^ (8 * i) * x.toNat) from rfl, mul_xor, ← Nat.mul_assoc, ← Nat.pow_add, show 8 + 8 * i = 8 * (i + 1) by omega, Nat.xor_assoc]
theorem sum_eq {l m : List UInt8} (hl : l.length = m.length) (h : sum l = sum m) : iter bit (8 * l.length) (le l ^^^ le m) = 0 := by
  unfold sum more flip at h
  have h1 := over_lt (c := 4294967295 - 0) (by omega) l
  have h2 := over_lt (c := 4294967295 - 0) (by omega) m
  have h3 : over (4294967295 - 0) l = over (4294967295 - 0) m := by omega
  rw [over_le, over_le, ← hl, iter_xor, iter_xor] at h3
  rw [iter_xor]
  have h4 : ∀ a b c : Nat, a ^^^ b = a ^^^ c → b ^^^ c = 0 := by
    intro a b c h
    have := congrArg (a ^^^ ·) h
    simp only [← Nat.xor_assoc, Nat.xor_self, Nat.zero_xor] at this
    rw [this, Nat.xor_self]
  exact h4 _ _ _ h3
/-- Bits turned that all lie within 32 neighbouring ones: another sum. -/
theorem burst_ne {p q : List UInt8} (hl : q.length = p.length) (s m : Nat) (hs : s ≤ 8 * p.length) (hm : m < 4294967296) (h0 : m ≠ 0) (hq : le q = le p ^^^ 2 ^ s * m) : sum q ≠ sum p := by
  intro h
  have h1 := sum_eq hl h
  have h2 : le q ^^^ le p = 2 ^ s * m := by rw [hq, Nat.xor_comm (le p), Nat.xor_assoc, Nat.xor_self, Nat.xor_zero]
  rw [h2, hl, show 8 * p.length = s + (8 * p.length - s) by omega, iter_shift] at h1
  exact iter_ne _ hm h0 h1
theorem four_inj {a b : Nat} (ha : a < 4294967296) (hb : b < 4294967296) (h : four a = four b) : a = b := by
  simp only [four, List.cons.injEq, and_true, ← UInt8.toNat_inj, UInt8.toNat_ofNat'] at h
  omega
/-- Other bytes of another sum ahead of the old sum: not taken. -/
theorem not_ok {p q : List UInt8} (_hl : q.length = p.length) (h : sum q ≠ sum p) : ok (q ++ four (sum p)) = false := by
  rw [ok_of (p := q) (by simp [four_len]) (by simp [four_len])]
  rw [beq_eq_false_iff_ne]
  intro e
  unfold put at e
  exact h (four_inj (sum_lt _) (sum_lt _) (List.append_cancel_left e))
theorem byte_not_ok (p : List UInt8) (i : Nat) (hi : i < (put p).length) (x : UInt8) (hx : x ≠ 0) : ok ((put p).set i ((put p)[i] ^^^ x)) = false := by
  have hx' : x.toNat ≠ 0 := fun h => hx (by rw [← UInt8.toNat_inj]; simpa using h)
  by_cases h : i < p.length
  · have e1 : (put p)[i] = p[i] := by unfold put; exact List.getElem_append_left h
    have e2 : (put p).set i ((put p)[i] ^^^ x) = p.set i (p[i] ^^^ x) ++ four (sum p) := by rw [e1]; unfold put; exact List.set_append_left _ _ h
    rw [e2]
    refine not_ok (by simp) (burst_ne (by simp) (8 * i) x.toNat (by omega) (by have := x.toNat_lt; omega) hx' (le_set p i h x))
  · have hl := put_len p
    have e3 : ((put p).set i ((put p)[i] ^^^ x)).take p.length = p := by
      rw [List.take_set_of_le (by omega)]
      unfold put
      exact List.take_left
    rw [ok_of (p := p) (by rw [List.length_set]; omega) (by rw [List.length_set, hl, Nat.add_sub_cancel, e3]), beq_eq_false_iff_ne]
    intro e
    have e4 := congrArg (fun l => l[i]?) e
    simp only [List.getElem?_set, hi, if_true, List.getElem?_eq_getElem hi, Option.some.injEq] at e4
    have e5 := congrArg (fun y => (put p)[i] ^^^ y) e4
    simp only [UInt8.xor_self, ← UInt8.xor_assoc, UInt8.zero_xor] at e5
    exact hx e5.symm
end Go.Proofs.Ytphjbemlofdepaa.Crc
