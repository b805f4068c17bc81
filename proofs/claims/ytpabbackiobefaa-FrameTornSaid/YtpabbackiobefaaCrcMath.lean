
/- CRC-32C as plain numbers: a bit, four bits, a byte; that four single bits are one look into the table. -/

namespace Go.Proofs.Ytpabbackiobefaa.Crc

def bit (c : Nat) : Nat := (c / 2) ^^^ (2197175160 * (c % 2))
def tab (i : Nat) : Nat := bit (bit (bit (bit i)))
def nib (c : Nat) : Nat := (c / 16) ^^^ tab (c % 16)
def byte (c b : Nat) : Nat := nib (nib (c ^^^ b))
def over (c : Nat) (l : List UInt8) : Nat := l.foldl (fun c b => byte c b.toNat) c
def flip (c : Nat) : Nat := 4294967295 - c
def more (c : Nat) (l : List UInt8) : Nat := flip (over (flip c) l)
def sum (l : List UInt8) : Nat := more 0 l

theorem mod_two (a : Nat) : a % 2 = 0 ∨ a % 2 = 1 := by omega
theorem xor_mod (a b : Nat) : (a ^^^ b) % 2 = (a % 2) ^^^ (b % 2) := Nat.xor_mod_two_pow (n := 1)
theorem xor_div (a b : Nat) : (a ^^^ b) / 2 = (a / 2) ^^^ (b / 2) := by
  have h : ∀ x : Nat, x / 2 = x >>> 1 := fun x => by rw [Nat.shiftRight_eq_div_pow]
  rw [h, h, h]; exact Nat.shiftRight_xor_distrib
theorem xor_div16 (a b : Nat) : (a ^^^ b) / 16 = (a / 16) ^^^ (b / 16) := by
  have h : ∀ x : Nat, x / 16 = x >>> 4 := fun x => by rw [Nat.shiftRight_eq_div_pow]
  rw [h, h, h]; exact Nat.shiftRight_xor_distrib
theorem xor_mod16 (a b : Nat) : (a ^^^ b) % 16 = (a % 16) ^^^ (b % 16) := Nat.xor_mod_two_pow (n := 4)
theorem mul_bit (a b : Nat) : 2197175160 * ((a % 2) ^^^ (b % 2)) = (2197175160 * (a % 2)) ^^^ (2197175160 * (b % 2)) := by
  rcases mod_two a with h | h <;> rcases mod_two b with h' | h' <;> rw [h, h'] <;> decide
theorem xor4 (a b c d : Nat) : (a ^^^ b) ^^^ (c ^^^ d) = (a ^^^ c) ^^^ (b ^^^ d) := by
  rw [Nat.xor_assoc, Nat.xor_assoc, ← Nat.xor_assoc b c d, Nat.xor_comm b c, Nat.xor_assoc c b d]
theorem bit_xor (a b : Nat) : bit (a ^^^ b) = bit a ^^^ bit b := by
  unfold bit
  rw [xor_div, xor_mod, mul_bit, xor4]
theorem bit_even (x : Nat) : bit (2 * x) = x := by
  unfold bit
  rw [show 2 * x / 2 = x by omega, show 2 * x % 2 = 0 by omega]
  simp
theorem split16 (c : Nat) : c = (16 * (c / 16)) ^^^ (c % 16) := by
  have h := Nat.div_add_mod c 16
  have hx : (16 * (c / 16)) ^^^ (c % 16) = 16 * (c / 16) + c % 16 := by
    have := Nat.two_pow_add_eq_or_of_lt (i := 4) (b := c % 16) (by omega) (c / 16)
    have e2 : (16 * (c / 16)) &&& (c % 16) = 0 := by
      apply Nat.eq_of_testBit_eq
      intro i
      rw [Nat.testBit_and, Nat.zero_testBit]
      by_cases hi : i < 4
      · rw [show 16 * (c / 16) = 2 ^ 4 * (c / 16) from rfl, Nat.testBit_two_pow_mul]
        simp; omega
      · rw [Nat.testBit_lt_two_pow (x := c % 16) (by
          have : 2 ^ 4 ≤ 2 ^ i := Nat.pow_le_pow_right (by omega) (by omega)
          omega)]
        simp
    apply Nat.eq_of_testBit_eq
    intro i
    have h3 := congrArg (fun x => x.testBit i) e2
    simp only [Nat.testBit_and, Nat.zero_testBit] at h3
    rw [show 16 * (c / 16) + c % 16 = 16 * (c / 16) ||| c % 16 from this, Nat.testBit_xor, Nat.testBit_or]
    cases h4 : (16 * (c / 16)).testBit i <;> cases h5 : (c % 16).testBit i <;> simp_all
  rw [hx]; omega
theorem four_bits (c : Nat) : bit (bit (bit (bit c))) = nib c := by
  conv => lhs; rw [split16 c]
  rw [bit_xor, bit_xor, bit_xor, bit_xor]
  rw [show 16 * (c / 16) = 2 * (2 * (2 * (2 * (c / 16)))) by omega, bit_even, bit_even, bit_even, bit_even]
  rfl
theorem bit_lt {c : Nat} (h : c < 4294967296) : bit c < 4294967296 := by
  unfold bit
  refine Nat.xor_lt_two_pow (n := 32) (by omega) ?_
  rcases mod_two c with h' | h' <;> rw [h'] <;> decide
theorem tab_lt {i : Nat} (h : i < 4294967296) : tab i < 4294967296 := bit_lt (bit_lt (bit_lt (bit_lt h)))
theorem nib_lt {c : Nat} (h : c < 4294967296) : nib c < 4294967296 := by rw [← four_bits]; exact tab_lt h
theorem xor_lt {a b : Nat} (ha : a < 4294967296) (hb : b < 4294967296) : a ^^^ b < 4294967296 := Nat.xor_lt_two_pow (n := 32) ha hb
theorem byte_lt {c b : Nat} (h : c < 4294967296) (hb : b < 256) : byte c b < 4294967296 := nib_lt (nib_lt (xor_lt h (by omega)))
theorem over_lt {c : Nat} (h : c < 4294967296) (l : List UInt8) : over c l < 4294967296 := by
  induction l generalizing c with
  | nil => exact h
  | cons x xs ih => exact ih (byte_lt h x.toNat_lt)
theorem flip_lt (c : Nat) : flip c < 4294967296 := by unfold flip; omega
theorem flip_flip {c : Nat} (h : c < 4294967296) : flip (flip c) = c := by unfold flip; omega
theorem more_lt (c : Nat) (l : List UInt8) : more c l < 4294967296 := flip_lt _
theorem sum_lt (l : List UInt8) : sum l < 4294967296 := flip_lt _
theorem over_app (c : Nat) (l m : List UInt8) : over c (l ++ m) = over (over c l) m := by simp [over]
theorem over_snoc (c : Nat) (l : List UInt8) (k : Nat) (h : k < l.length) : over c (l.take (k + 1)) = byte (over c (l.take k)) l[k].toNat := by
  rw [List.take_succ_eq_append_getElem h, over_app]; rfl
theorem more_app (c : Nat) (l m : List UInt8) : more (more c l) m = more c (l ++ m) := by
  unfold more
  rw [flip_flip (over_lt (flip_lt _) _), ← over_app]

/-- The sum's four bytes, the highest first. -/
def four (n : Nat) : List UInt8 := [UInt8.ofNat (n / 16777216), UInt8.ofNat (n / 65536), UInt8.ofNat (n / 256), UInt8.ofNat n]
def put (l : List UInt8) : List UInt8 := l ++ four (sum l)
def ok (b : List UInt8) : Bool := decide (4 ≤ b.length) && (put (b.take (b.length - 4)) == b)
def got (b : List UInt8) : List UInt8 := if ok b then b.take (b.length - 4) else []
theorem got_len_le (b : List UInt8) : (got b).length ≤ b.length := by
  unfold got
  split
  · simp
  · simp
theorem ok_of {b p : List UInt8} (h : 4 ≤ b.length) (hp : p = b.take (b.length - 4)) : ok b = (put p == b) := by
  unfold ok; rw [hp]; simp [h]
theorem got_yes {b p : List UInt8} (hp : p = b.take (b.length - 4)) (h : ok b = true) : got b = p := by unfold got; rw [h, hp]; rfl
theorem got_no {b : List UInt8} (h : ok b = false) : got b = [] := by unfold got; rw [h]; rfl
theorem four_len (n : Nat) : (four n).length = 4 := rfl
theorem put_len (l : List UInt8) : (put l).length = l.length + 4 := by simp [put, four_len]
end Go.Proofs.Ytpabbackiobefaa.Crc
