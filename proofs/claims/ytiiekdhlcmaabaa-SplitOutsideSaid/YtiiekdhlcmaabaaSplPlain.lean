
/- Ranges of keys, cut: plain law, no program in sight. -/

import Derived.Test.YtiiekdhlcmaabaaParts

import Derived.Test.YtiiekdhlcmaabaaEntSame

namespace Go.Proofs.Ytiiekdhlcmaabaa

open Go.RowKit

def keyAt (x : List Ent) (j : Nat) : List UInt8 := (x[j]?.map Ent.key).getD []
/-- How many parts. -/
def Spl.k (n : Nat) (ways : Int) : Nat := (max 1 (min (min (n : Int) ways) 8)).toNat
theorem Spl.k_is (n : Nat) (ways : Int) : max (1 : Int) (min (min (n : Int) ways) 8) = (Spl.k n ways : Int) := by unfold Spl.k; omega
theorem Spl.k_pos (n : Nat) (ways : Int) : 1 ≤ Spl.k n ways := by unfold Spl.k; omega
theorem Spl.k_le (n : Nat) (ways : Int) : Spl.k n ways ≤ 8 := by unfold Spl.k; omega
theorem Spl.k_n (n : Nat) (ways : Int) : Spl.k n ways = 1 ∨ Spl.k n ways ≤ n := by unfold Spl.k; omega
/-- Part i of k, when m of them are known. -/
def Spl.part (x : List Ent) (lo hi : List UInt8) (k m i : Nat) : Pt :=
  ⟨if 0 < i then keyAt x (i * x.length / k) else lo, if i + 1 < m then keyAt x ((i + 1) * x.length / k) else hi, (((i + 1) * x.length / k - i * x.length / k : Nat) : Int), Ent.digest ((x.take ((i + 1) * x.length / k)).drop (i * x.length / k))⟩
def Spl.split (l : List Ent) (lo hi : List UInt8) (ways : Int) : List Pt :=
  (List.range (Spl.k (Ent.between l lo hi).length ways)).map (Spl.part (Ent.between l lo hi) lo hi (Spl.k (Ent.between l lo hi).length ways) (Spl.k (Ent.between l lo hi).length ways))
theorem Spl.cut_le (n k i : Nat) (h : i ≤ k) (hk : 1 ≤ k) : i * n / k ≤ n := by
  rw [Nat.div_le_iff_le_mul_add_pred hk]
  have := Nat.mul_le_mul_right n h
  omega
theorem Spl.cut_mono (n k : Nat) {i j : Nat} (h : i ≤ j) : i * n / k ≤ j * n / k := Nat.div_le_div_right (Nat.mul_le_mul_right n h)
theorem Spl.cut_lt (n k i : Nat) (hk : 1 ≤ k) (hn : k ≤ n) : i * n / k < (i + 1) * n / k := by
  rw [Nat.succ_mul]
  have h1 : i * n / k + 1 = (i * n + k) / k := (Nat.add_div_right (i * n) hk).symm
  have h2 : (i * n + k) / k ≤ (i * n + n) / k := Nat.div_le_div_right (by omega)
  omega
theorem Spl.cut_k (n k : Nat) (hk : 1 ≤ k) : k * n / k = n := Nat.mul_div_cancel_left n hk
/-- Is a part not as entries have it? -/
def Spl.diffs (l : List Ent) (p : Pt) : Bool := !((Ent.partOf l p.lo p.hi).count == p.count && (Ent.partOf l p.lo p.hi).sum == p.sum)
def Spl.differK (l : List Ent) (ps : List Pt) (k : Nat) : List Nat := (List.range k).filter fun i => match ps[i]? with | some p => Spl.diffs l p | none => false
def Spl.differ (l : List Ent) (ps : List Pt) : List Nat := Spl.differK l ps ps.length
theorem Spl.differ_snoc (l : List Ent) (ps : List Pt) (k : Nat) (h : k < ps.length) : Spl.differK l ps (k + 1) = Spl.differK l ps k ++ if Spl.diffs l ps[k] then [k] else [] := by
  unfold Spl.differK
  rw [List.range_succ, List.filter_append, List.filter_cons]
  simp only [List.getElem?_eq_getElem h, List.filter_nil]
theorem Spl.differ_len (l : List Ent) (ps : List Pt) (k : Nat) : (Spl.differK l ps k).length ≤ k := by
  unfold Spl.differK
  exact Nat.le_trans (List.length_filter_le _ _) (by rw [List.length_range]; exact Nat.le_refl _)
end Go.Proofs.Ytiiekdhlcmaabaa
