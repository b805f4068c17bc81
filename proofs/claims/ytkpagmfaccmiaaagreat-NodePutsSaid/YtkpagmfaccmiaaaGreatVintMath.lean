
/- Numbers as bytes, as plain numbers and lists. -/

namespace Go.Proofs.YtkpagmfaccmiaaaGreat.Vint

def numL (l : List UInt8) : Nat := l.foldl (fun n b => n * 256 + b.toNat) 0
def number (l : List UInt8) : Nat := if l.length ≤ 8 then numL l else 0
theorem numL_snoc (l : List UInt8) (k : Nat) (h : k < l.length) : numL (l.take (k + 1)) = numL (l.take k) * 256 + l[k].toNat := by
  unfold numL
  rw [List.take_succ_eq_append_getElem h, List.foldl_append]
  rfl
theorem fold_lt (l : List UInt8) : ∀ n m : Nat, n < m → l.foldl (fun n b => n * 256 + b.toNat) n < m * 256 ^ l.length := by
  induction l with
  | nil => intro n m h; simpa using h
  | cons x xs ih =>
    intro n m h
    have hx := x.toNat_lt
    have := ih (n * 256 + x.toNat) (m * 256) (by omega)
    simp only [List.foldl_cons, List.length_cons, Nat.pow_succ]
    rw [Nat.mul_comm (256 ^ xs.length) 256, ← Nat.mul_assoc]
    exact this
theorem numL_lt (l : List UInt8) : numL l < 256 ^ l.length := by
  have := fold_lt l 0 1 (by omega)
  simpa [numL] using this
theorem numL_lt7 (l : List UInt8) (h : l.length ≤ 7) : numL l < 72057594037927936 := by
  have h1 := numL_lt l
  have h2 : 256 ^ l.length ≤ 256 ^ 7 := Nat.pow_le_pow_right (by omega) h
  omega
theorem numL_lt8 (l : List UInt8) (h : l.length ≤ 8) : numL l < 256 ^ 8 := by
  have h1 := numL_lt l
  have h2 : 256 ^ l.length ≤ 256 ^ 8 := Nat.pow_le_pow_right (by omega) h
  omega
theorem number_lt (l : List UInt8) : number l < 256 ^ 8 := by
  unfold number
  split
  · exact numL_lt8 l ‹_›
  · exact Nat.pow_pos (by omega)

/-- A number in so many bytes, the highest first. -/
def fixB (n size j : Nat) : UInt8 := UInt8.ofNat (n / 256 ^ (size - 1 - j))
def fixL (n size : Nat) : List UInt8 := (List.range size).map (fixB n size)
def fixed (n : Nat) (size : Int) : List UInt8 := if 1 ≤ size ∧ size ≤ 8 then fixL n size.toNat else []
theorem fixL_len (n size : Nat) : (fixL n size).length = size := by simp [fixL]

/-- A number's groups of seven bits, the lowest first, and whether another one follows. -/
def grpF : Nat → Nat → List (UInt8 × Bool)
  | 0, n => [(UInt8.ofNat n, false)]
  | f + 1, n => if n < 128 then [(UInt8.ofNat n, false)] else (UInt8.ofNat (n % 128), true) :: grpF f (n / 128)
def outOf (x : UInt8 × Bool) : UInt8 := if x.2 then x.1 ||| 128 else x.1
def put (n : Nat) : List UInt8 := (grpF 9 n).map outOf
theorem grpF_len (f n : Nat) : 1 ≤ (grpF f n).length ∧ (grpF f n).length ≤ f + 1 := by
  induction f generalizing n with
  | zero => simp [grpF]
  | succ f ih =>
    unfold grpF
    split
    · simp
    · have := ih (n / 128)
      simp only [List.length_cons]
      omega
theorem put_len (n : Nat) : 1 ≤ (put n).length ∧ (put n).length ≤ 10 := by
  have := grpF_len 9 n
  unfold put
  rw [List.length_map]
  omega

/-- Where the first byte lies that no other one follows; the length if there is none. -/
def first (l : List UInt8) : Nat := l.findIdx (fun c => decide (c.toNat < 128))
theorem first_at {l : List UInt8} {i : Nat} (h : i < l.length) (hi : l[i].toNat < 128) (hj : ∀ j (h : j < i), 128 ≤ l[j].toNat) : first l = i := by
  unfold first
  rw [List.findIdx_eq h]
  refine ⟨by simpa using hi, fun j hji => ?_⟩
  have := hj j hji
  simp; omega
theorem first_none {l : List UInt8} (hj : ∀ j (h : j < l.length), 128 ≤ l[j].toNat) : first l = l.length := by
  unfold first
  rw [List.findIdx_eq_length]
  intro x hx
  obtain ⟨j, h, rfl⟩ := List.getElem_of_mem hx
  have := hj j h
  simp; omega
theorem first_le (l : List UInt8) : first l ≤ l.length := List.findIdx_le_length
theorem first_lt {l : List UInt8} (h : first l < l.length) : l[first l].toNat < 128 := by
  exact of_decide_eq_true (List.findIdx_getElem (p := fun c : UInt8 => decide (c.toNat < 128)) (w := h))
theorem before_first {l : List UInt8} {j : Nat} (h : j < first l) : 128 ≤ (l[j]'(Nat.lt_of_lt_of_le h (first_le l))).toNat := by
  have := List.not_of_lt_findIdx (p := fun c : UInt8 => decide (c.toNat < 128)) (xs := l) h
  have h3 : 128 ≤ (l[j]'(Nat.lt_of_lt_of_le h (first_le l))).toNat := by simpa using this
  exact h3
def firstI (l : List UInt8) : Int := if first l = l.length then -1 else (first l : Int)
/-- Groups of seven bits as a number, the lowest first. -/
def val : List UInt8 → Nat
  | [] => 0
  | c :: t => c.toNat % 128 + 128 * val t
/-- The number with which bytes begin, how long it is, or the error. -/
def get (l : List UInt8) : Nat × Nat × Nat :=
  let b := l.take 10
  let i := first b
  if i = b.length then (if l.length < 10 then (0, 0, 10) else (0, 0, 11))
  else if i = 9 ∧ 1 < (b.getD i 0).toNat then (0, 0, 11)
  else if 0 < i ∧ (b.getD i 0).toNat = 0 then (0, 0, 12)
  else (val (b.take (i + 1)), i + 1, 0)

/-- The places of bytes and the bytes, the last first. -/
def back (l : List UInt8) : List (Nat × UInt8) := (List.range l.length).reverse.map fun i => (i, l.getD i 0)
theorem back_len (l : List UInt8) : (back l).length = l.length := by simp [back]
theorem back_get (l : List UInt8) (j : Nat) (h : j < l.length) : (back l)[j]? = some (l.length - 1 - j, l[l.length - 1 - j]) := by
  unfold back
  rw [List.getElem?_map, List.getElem?_reverse (by simpa using h), List.length_range, List.getElem?_range (by omega)]
  simp only [Option.map_some, Option.some.injEq, Prod.mk.injEq, true_and]
  rw [List.getD_eq_getElem?_getD, List.getElem?_eq_getElem (by omega)]
  rfl
theorem back_next (l : List UInt8) (k : Nat) (h : k < l.length) : (back l).take (l.length - (k + 1)) ++ [(k, l[k])] = (back l).take (l.length - k) := by
  have hj : l.length - (k + 1) < (back l).length := by rw [back_len]; omega
  have h1 := back_get l (l.length - (k + 1)) (by omega)
  rw [show l.length - k = (l.length - (k + 1)) + 1 by omega, List.take_add_one, h1]
  simp only [Option.toList_some]
  congr 3
  · omega
  · congr 1; omega
theorem val_app (a b : List UInt8) : val (a ++ b) = val a + 128 ^ a.length * val b := by
  induction a with
  | nil => simp [val]
  | cons c t ih => simp only [List.cons_append, val, ih, List.length_cons, Nat.pow_succ]; rw [Nat.mul_add, ← Nat.mul_assoc, Nat.mul_comm 128 (128 ^ t.length)]; omega
theorem val_drop_le (l : List UInt8) (k : Nat) : val (l.drop k) ≤ val l := by
  conv => rhs; rw [← List.take_append_drop k l, val_app]
  have : 1 ≤ 128 ^ (l.take k).length := Nat.one_le_pow _ _ (by omega)
  have := Nat.mul_le_mul_right (val (l.drop k)) this
  omega
theorem val_cons_drop (l : List UInt8) (k : Nat) (h : k < l.length) : val (l.drop k) = val (l.drop (k + 1)) * 128 + l[k].toNat % 128 := by
  rw [List.drop_eq_getElem_cons h, val]; omega

theorem val_lt (l : List UInt8) : val l < 128 ^ l.length := by
  induction l with
  | nil => simp [val]
  | cons c t ih => simp only [val, List.length_cons, Nat.pow_succ]; omega
theorem val_take_lt (b : List UInt8) (i : Nat) (hi : i < b.length) (h10 : b.length ≤ 10) (h9 : ¬ (i = 9 ∧ 1 < b[i].toNat)) : val (b.take (i + 1)) < 18446744073709551616 := by
  rw [List.take_succ_eq_append_getElem hi, val_app]
  have h1 := val_lt (b.take i)
  have hl : (b.take i).length = i := by rw [List.length_take]; omega
  rw [hl] at h1 ⊢
  simp only [val, Nat.mul_zero, Nat.add_zero]
  by_cases h : i = 9
  · subst h
    have hx : b[9].toNat % 128 ≤ 1 := by
      have : ¬ 1 < b[9].toNat := fun h2 => h9 ⟨rfl, h2⟩
      omega
    have := Nat.mul_le_mul_left (128 ^ 9) hx
    omega
  · have h2 : 128 ^ i ≤ 128 ^ 8 := Nat.pow_le_pow_right (by omega) (by omega)
    have hx : b[i].toNat % 128 ≤ 127 := by omega
    have := Nat.mul_le_mul h2 hx
    omega
theorem back_pre {l : List UInt8} {pre : List (Nat × UInt8)} {j : Nat} {y : UInt8} (h : pre ++ [(j, y)] <+: back l) : pre.length < l.length ∧ ∃ h2 : l.length - 1 - pre.length < l.length, j = l.length - 1 - pre.length ∧ y = l[l.length - 1 - pre.length] := by
  have h1 := h.length_le
  rw [back_len] at h1
  simp at h1
  have h2 : pre.length < l.length := by omega
  have h3 := h.getElem (i := pre.length) (by simp)
  simp only [List.getElem_concat_length] at h3
  have h4 := back_get l pre.length h2
  rw [List.getElem?_eq_getElem (by rw [back_len]; exact h2), ← h3] at h4
  injection h4 with h4
  injection h4 with h5 h6
  exact ⟨h2, by omega, h5, h6⟩
end Go.Proofs.YtkpagmfaccmiaaaGreat.Vint
