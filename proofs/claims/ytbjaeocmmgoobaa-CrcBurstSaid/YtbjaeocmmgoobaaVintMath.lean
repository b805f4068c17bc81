/- Numbers as bytes, as plain numbers and lists. -/
namespace Go.Proofs.Ytbjaeocmmgoobaa.Vint

def numL (l : List UInt8) : Nat := l.foldl (fun n b => n * 256 + b.toNat) 0
def number (l : List UInt8) : Nat := if l.length ≤ 8 then numL l else 0
theorem numL_snoc (l : List UInt8) (k : Nat) (h : k < l.length) : numL (l.take (k + 1)) = numL (l.take k) * 256 + l[k].toNat := by
  unfold numL
  rw [List.take_succ_eq_append_getElem h, List.foldl_append]
  rfl
theorem fold_lt (l : List UInt8) : ∀ n m : Nat, n < m → l.foldl (fun n b => n * 256 + b.toNat) n < m * 256 ^ l.length := by
  induction l with
  | nil => intro n m h; simpa using h
  | cons x xs ih =>
    intro n m h
    have hx := x.toNat_lt
    have := ih (n * 256 + x.toNat) (m * 256) (by omega)
    simp only [List.foldl_cons, List.length_cons, Nat.pow_succ]
    rw [Nat.mul_comm (256 ^ xs.length) 256, ← Nat.mul_assoc]
    exact this
theorem numL_lt (l : List UInt8) : numL l < 256 ^ l.length := by
  have := fold_lt l 0 1 (by omega)
  simpa [numL] using this
theorem numL_lt7 (l : List UInt8) (h : l.length ≤ 7) : numL l < 72057594037927936 := by
  have h1 := numL_lt l
  have h2 : 256 ^ l.length ≤ 256 ^ 7 := Nat.pow_le_pow_right (by omega) h
  omega
theorem numL_lt8 (l : List UInt8) (h : l.length ≤ 8) : numL l < 256 ^ 8 := by
  have h1 := numL_lt l
  have h2 : 256 ^ l.length ≤ 256 ^ 8 := Nat.pow_le_pow_right (by omega) h
  omega
theorem number_lt (l : List UInt8) : number l < 256 ^ 8 := by
  unfold number
  split
  · exact numL_lt8 l ‹_›
  · exact Nat.pow_pos (by omega)

/-- A number in so many bytes, the highest first. -/
def fixB (n size j : Nat) : UInt8 := UInt8.ofNat (n / 256 ^ (size - 1 - j))
def fixL (n size : Nat) : List UInt8 := (List.range size).map (fixB n size)
def fixed (n : Nat) (size : Int) : List UInt8 := if 1 ≤ size ∧ size ≤ 8 then fixL n size.toNat else []
theorem fixL_len (n size : Nat) : (fixL n size).length = size := by simp [fixL]
end Go.Proofs.Ytbjaeocmmgoobaa.Vint
