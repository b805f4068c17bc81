
/- Contracts of the number with which bytes begin (slices.IndexFunc, slices.Backward, vint.Get). -/

import Derived.Test.YtiiekdhlcmaabaaProg

import Derived.Test.YtiiekdhlcmaabaaVintPut

namespace Go.Proofs.Ytiiekdhlcmaabaa

open Go.RowKit

attribute [local go_sem] Oper.semAt_some
def encB (x : Nat × UInt8) : Array Value := #[.int .i64 (x.1 : Int), .int .u8 (x.2.toNat : Int)]
def KeepB (gb m0 : Nat) (W W' : World) : Prop := SameAt gb W W' ∧ Below m0 W W'

end Go.Proofs.Ytiiekdhlcmaabaa

/- Contract of vint.Get. -/

namespace Go.Proofs.Ytiiekdhlcmaabaa

open Go.RowKit

attribute [local go_sem] Oper.semAt_some

def getRes (r : Nat × Nat × Nat) : Value := .tuple #[.int .u64 (r.1 : Int), .int .i64 (r.2.1 : Int), .int .i64 (r.2.2 : Int)]

theorem firstI_none {b : List UInt8} (h : Vint.first b = b.length) : Vint.firstI b = -1 := by unfold Vint.firstI; rw [if_pos h]
theorem firstI_some {b : List UInt8} (h : Vint.first b < b.length) : Vint.firstI b = ((Vint.first b : Nat) : Int) := by unfold Vint.firstI; rw [if_neg (by omega)]

/-- What is left of bytes of which ten at most are looked at. -/
def Cut10 (bs b : List UInt8) : Prop := (bs.length ≤ 10 ∧ b = bs) ∨ (10 < bs.length ∧ b = bs.take 10)
theorem cut10 (bs : List UInt8) : Cut10 bs (bs.take 10) := by
  by_cases h : bs.length ≤ 10
  · exact .inl ⟨h, List.take_of_length_le h⟩
  · exact .inr ⟨by omega, rfl⟩

end Go.Proofs.Ytiiekdhlcmaabaa

/- Contract of vint.Get: where there is a number. -/

namespace Go.Proofs.Ytiiekdhlcmaabaa

open Go.RowKit

attribute [local go_sem] Oper.semAt_some

theorem or7 (a c : Nat) (ha : a * 128 + c % 128 < 18446744073709551616) : bits .or .u64 ((a : Int) * 128) ((c % 128 : Nat) : Int) = ((a * 128 + c % 128 : Nat) : Int) := by
  rw [show ((a : Int) * 128) = ((a * 128 : Nat) : Int) by omega, u64_or_nat _ _ (by omega) (by omega)]
  have := nat_join 7 (a * 128) (c % 128) (by omega) (by omega)
  rw [this]
theorem and7 (c : Nat) (hc : c < 256) : bits .and .u8 (c : Int) 127 = ((c % 128 : Nat) : Int) := by
  have h1 := u8_and_nat c 127 hc (by omega)
  rw [nat_mask7] at h1
  exact h1

def GetInv (w0 : World) (g : List UInt8) (pre : List (Nat × UInt8)) (W : World) : Prop :=
  W.heap[w0.heap.size]? = some (.cells #[.int .u64 ((Vint.val (g.drop (g.length - pre.length)) : Nat) : Int)] 68 (0, 0)) ∧ Below w0.heap.size w0 W ∧ w0.heap.size + 2 ≤ W.heap.size

theorem get_hKb (w W0 : World) (hsz : W0.heap.size = w.heap.size + 2) : ∀ (W : World) (l : Nat) (o o' : Obj), W0.heap.size ≤ l → W.heap[l]? = some o → o.isCells = false → KeepB (w.heap.size + 1) w.heap.size W (W.putObj l o') := fun W l o o' hl ho _ =>
  ⟨World.putObj_heap_other (by omega), (Below.refl _ W).grown (grownBy_putObj' W l o') (by have := lt_of_heap ho; omega) (fun k e => by injection e with e; omega)⟩
theorem get_hI (w W0 : World) (g : List UInt8) (hsz : W0.heap.size = w.heap.size + 2) : ∀ s A B row, GetInv w g s A → A.grownBy B row → (∀ r, row = some r → W0.heap.size ≤ r ∧ (A.heap[r]?.map Obj.isCells) = some false) → GetInv w g s B := by
  rintro s A B row ⟨h1, h3, h4⟩ hg hr
  exact ⟨(hg.block _ (lt_of_heap h1) (fun e => by have := (hr _ e.symm).1; omega)).trans h1, h3.grown hg h3.size (fun k e => by have := (hr k e).1; omega), Nat.le_trans h4 hg.size⟩
theorem get_hIg (w : World) (g : List UInt8) : ∀ s A B, GetInv w g s A → A.grownBy B (some (w.heap.size + 1)) → (A.heap[w.heap.size + 1]?.map Obj.isCells) = some true → GetInv w g s B := by
  rintro s A B ⟨h1, h3, h4⟩ hg _
  exact ⟨(hg.block _ (lt_of_heap h1) (fun e => by injection e with e; omega)).trans h1, h3.grown hg h3.size (fun k e => by injection e with e; omega), Nat.le_trans h4 hg.size⟩
theorem get_body {w W : World} {g : List UInt8} {pre : List (Nat × UInt8)} {j : Nat} {y : UInt8} (hI : GetInv w g pre W) (hpre : (pre ++ [(j, y)]) <+: Vint.back g) (hval : Vint.val g < 18446744073709551616) :
    ∃ a : Nat, a * 128 + y.toNat % 128 < 18446744073709551616 ∧ W.heap[w.heap.size]? = some (.cells #[.int .u64 (a : Int)] 68 (0, 0)) ∧
      (∀ v, v = ((a * 128 + y.toNat % 128 : Nat) : Int) → KeepsOthers W (W.setCell ⟨w.heap.size, 0, none⟩ (.int .u64 v)) ∧ KeepB (w.heap.size + 1) w.heap.size W (W.setCell ⟨w.heap.size, 0, none⟩ (.int .u64 v)) ∧ GetInv w g (pre ++ [(j, y)]) (W.setCell ⟨w.heap.size, 0, none⟩ (.int .u64 v))) := by
  obtain ⟨h1, h3, h4⟩ := hI
  obtain ⟨hl, h5, rfl, rfl⟩ := Vint.back_pre hpre
  have h6 := Vint.val_cons_drop g (g.length - 1 - pre.length) h5
  rw [show g.length - 1 - pre.length + 1 = g.length - pre.length by omega] at h6
  refine ⟨Vint.val (g.drop (g.length - pre.length)), ?_, h1, ?_⟩
  · rw [← h6]; exact Nat.lt_of_le_of_lt (Vint.val_drop_le g _) hval
  · rintro v rfl
    refine ⟨KeepsOthers.setCell _ _ _, ⟨?_, (Below.refl w.heap.size W).setCell (p := ⟨w.heap.size, 0, none⟩) (Nat.le_refl _) _⟩, ?_, h3.setCell (Nat.le_refl _) _, ?_⟩
    · show _ = _
      rw [Below.heap_setCell W _ _ _ (by simp)]
    · rw [List.length_append, List.length_singleton, show g.length - (pre.length + 1) = g.length - 1 - pre.length by omega, h6]
      have := heap_setCell_same W w.heap.size 0 _ _ (.int .u64 ((Vint.val (g.drop (g.length - pre.length)) * 128 + g[g.length - 1 - pre.length].toNat % 128 : Nat) : Int)) h1
      simpa using this
    · have : (W.setCell ⟨w.heap.size, 0, none⟩ (.int .u64 ((Vint.val (g.drop (g.length - pre.length)) * 128 + g[g.length - 1 - pre.length].toNat % 128 : Nat) : Int))).heap.size = W.heap.size := by simp [World.setCell]
      omega

end Go.Proofs.Ytiiekdhlcmaabaa
