
/- Plain laws for layer 22: weak sums, blocks, the first place that is hit. -/

namespace Go.Proofs.Ytnagbhaknmoilaa

/-! ### weak sums -/

def Wk.a : List UInt8 → Nat
  | [] => 0
  | c :: r => c.toNat + Wk.a r
def Wk.bp : Nat → List UInt8 → Nat
  | _, [] => 0
  | n, c :: r => n * c.toNat + Wk.bp (n - 1) r
def Wk.b (p : List UInt8) : Nat := Wk.bp p.length p
def Wk.sum (p : List UInt8) : Nat := Wk.a p % 65536 + 65536 * (Wk.b p % 65536)
theorem Wk.sum_lt (p : List UInt8) : Wk.sum p < 4294967296 := by unfold Wk.sum; omega
theorem Wk.a_app (p q : List UInt8) : Wk.a (p ++ q) = Wk.a p + Wk.a q := by
  induction p with
  | nil => simp [Wk.a]
  | cons c r ih => simp [Wk.a, ih]; omega
theorem Wk.bp_app (n : Nat) (p q : List UInt8) : Wk.bp n (p ++ q) = Wk.bp n p + Wk.bp (n - p.length) q := by
  induction p generalizing n with
  | nil => simp [Wk.bp]
  | cons c r ih => simp only [List.cons_append, Wk.bp, ih, List.length_cons]; rw [show n - 1 - r.length = n - (r.length + 1) by omega]; omega
theorem Wk.bp_succ (p : List UInt8) : ∀ n, p.length ≤ n → Wk.bp (n + 1) p = Wk.bp n p + Wk.a p := by
  induction p with
  | nil => intro n _; simp [Wk.bp, Wk.a]
  | cons c r ih =>
    intro n h
    simp only [List.length_cons] at h
    simp only [Wk.bp, Wk.a, Nat.add_sub_cancel]
    have := ih (n - 1) (by omega)
    rw [show n - 1 + 1 = n by omega] at this
    rw [this, Nat.add_mul]
    omega
theorem Wk.b_snoc (p : List UInt8) (c : UInt8) : Wk.b (p ++ [c]) = Wk.b p + Wk.a (p ++ [c]) := by
  unfold Wk.b
  rw [List.length_append, List.length_singleton, Wk.bp_app, Wk.bp_succ p _ (Nat.le_refl _), Wk.a_app]
  simp only [Wk.bp, Wk.a]
  rw [show p.length + 1 - p.length = 1 by omega]
  omega
theorem Wk.a_snoc (p : List UInt8) (c : UInt8) : Wk.a (p ++ [c]) = Wk.a p + c.toNat := by rw [Wk.a_app]; simp [Wk.a]
theorem Wk.bp_snoc (n : Nat) (p : List UInt8) (c : UInt8) : Wk.bp n (p ++ [c]) = Wk.bp n p + (n - p.length) * c.toNat := by rw [Wk.bp_app]; simp [Wk.bp]
theorem Wk.b_cons (x : UInt8) (m : List UInt8) : Wk.b (x :: m) = (m.length + 1) * x.toNat + Wk.b m := by
  unfold Wk.b
  simp [Wk.bp]
/-- One place on. -/
theorem Wk.roll_a (x y : UInt8) (m : List UInt8) : Wk.a (m ++ [y]) + x.toNat = Wk.a (x :: m) + y.toNat := by rw [Wk.a_snoc]; simp only [Wk.a]; omega
theorem Wk.roll_b (x y : UInt8) (m : List UInt8) : Wk.b (m ++ [y]) + (m.length + 1) * x.toNat = Wk.b (x :: m) + Wk.a (m ++ [y]) := by
  rw [Wk.b_snoc, Wk.b_cons]; omega

/-! ### windows -/

def Sg.win (p : List UInt8) (k n : Nat) : List UInt8 := (p.drop k).take n
theorem Sg.win_len {p : List UInt8} {k n : Nat} (h : k + n ≤ p.length) : (Sg.win p k n).length = n := by
  unfold Sg.win; rw [List.length_take, List.length_drop]; omega
theorem Sg.win_step {p : List UInt8} {k n : Nat} (h : k + (n + 1) < p.length) : ∃ m, Sg.win p k (n + 1) = p[k] :: m ∧ Sg.win p (k + 1) (n + 1) = m ++ [p[k + (n + 1)]] ∧ m.length = n := by
  refine ⟨(p.drop (k + 1)).take n, ?_, ?_, by rw [List.length_take, List.length_drop]; omega⟩
  · unfold Sg.win
    rw [List.drop_eq_getElem_cons (by omega), List.take_succ_cons]
  · unfold Sg.win
    rw [List.take_add_one, List.getElem?_drop, List.getElem?_eq_getElem (by omega)]
    simp only [Option.toList]
    congr 3
    omega

/-! ### blocks -/

def Sg.blocks (size : Int) : Nat := if size < 1 ∨ 131072 < size then 0 else ((size - 1) / 64 + 1).toNat
def Sg.len (size : Int) (i : Nat) : Int := if size - 64 * (i : Int) < 64 then size - 64 * (i : Int) else 64
def Sg.block (size i : Int) : Int × Int := if i < 0 ∨ (Sg.blocks size : Int) ≤ i then (0, 0) else (64 * i, Sg.len size i.toNat)
theorem Sg.blocks_le (size : Int) : Sg.blocks size ≤ 2048 := by unfold Sg.blocks; split <;> omega
theorem Sg.block_in {size : Int} {i : Nat} (h : i < Sg.blocks size) : Sg.block size i = (64 * (i : Int), Sg.len size i) ∧ 1 ≤ Sg.len size i ∧ Sg.len size i ≤ 64 ∧ 64 * (i : Int) + Sg.len size i ≤ size ∧ 1 ≤ size ∧ size ≤ 131072 := by
  unfold Sg.block Sg.len
  have h0 := h
  unfold Sg.blocks at h
  split at h
  · omega
  · refine ⟨by rw [if_neg (by omega)]; simp, ?_⟩
    split <;> omega
theorem Sg.block_out {size i : Int} (h : i < 0 ∨ (Sg.blocks size : Int) ≤ i) : Sg.block size i = (0, 0) := by unfold Sg.block; rw [if_pos h]
/-- How long block i is, as a number from 0 up. -/
def Sg.lenN (size : Int) (i : Nat) : Nat := (Sg.len size i).toNat
theorem Sg.lenN_eq {size : Int} {i : Nat} (h : i < Sg.blocks size) : Sg.len size i = (Sg.lenN size i : Int) := by
  have := (Sg.block_in h).2.1
  unfold Sg.lenN; omega
theorem Sg.lenN_le {size : Int} {i : Nat} (h : i < Sg.blocks size) : 1 ≤ Sg.lenN size i ∧ Sg.lenN size i ≤ 64 := by
  have := Sg.block_in h
  unfold Sg.lenN; omega

/-! ### sums of a block -/

structure Sg where
  weak : Nat
  strong : List UInt8
deriving DecidableEq

/-! ### the first of some places -/

def Sg.first (P : Nat → Bool) : Nat → Int
  | 0 => -1
  | k + 1 => if 0 ≤ Sg.first P k then Sg.first P k else if P k then (k : Int) else -1
theorem Sg.first_ge (P : Nat → Bool) (k : Nat) : -1 ≤ Sg.first P k ∧ Sg.first P k < k := by
  induction k with
  | zero => simp [Sg.first]
  | succ k ih => simp only [Sg.first]; split <;> (try split) <;> omega
theorem Sg.first_none {P : Nat → Bool} {k : Nat} (h : ∀ j, j < k → P j = false) : Sg.first P k = -1 := by
  induction k with
  | zero => rfl
  | succ k ih => rw [Sg.first, ih (fun j hj => h j (by omega)), if_neg (by omega), h k (by omega)]; rfl
theorem Sg.first_neg {P : Nat → Bool} {k : Nat} (h : Sg.first P k < 0) : ∀ j, j < k → P j = false := by
  induction k with
  | zero => intro j hj; omega
  | succ k ih =>
    rw [Sg.first] at h
    split at h
    · omega
    · rename_i h1
      intro j hj
      by_cases hjk : j = k
      · subst hjk
        cases hp : P j
        · rfl
        · rw [hp] at h; simp only [if_true] at h; omega
      · exact ih (by omega) j (by omega)
theorem Sg.first_hit {P : Nat → Bool} {k : Nat} (h : 0 ≤ Sg.first P k) : ∃ j, j < k ∧ Sg.first P k = (j : Int) ∧ P j = true ∧ ∀ i, i < j → P i = false := by
  induction k with
  | zero => simp [Sg.first] at h
  | succ k ih =>
    rw [Sg.first] at h ⊢
    split at h
    · rename_i h1
      obtain ⟨j, hj, he, hp, hm⟩ := ih h1
      rw [if_pos h1]
      exact ⟨j, by omega, he, hp, hm⟩
    · rename_i h1
      rw [if_neg h1]
      split at h
      · rename_i hp
        rw [if_pos hp]
        exact ⟨k, by omega, rfl, hp, Sg.first_neg (by omega)⟩
      · omega
theorem Sg.first_stays {P : Nat → Bool} {k m : Nat} (hm : k ≤ m) (h : 0 ≤ Sg.first P k) : Sg.first P m = Sg.first P k := by
  induction m with
  | zero => have e : k = 0 := by omega
            subst e; rfl
  | succ m ih =>
    by_cases hk : k = m + 1
    · subst hk; rfl
    · have := ih (by omega)
      rw [Sg.first, this, if_pos h]
end Go.Proofs.Ytnagbhaknmoilaa
