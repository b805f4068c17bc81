
/- Contracts of the cutter: a function that cuts parts off bytes, one behind the other (cell.cutter, cell.cutter$1). -/

import Derived.Test.YtkpagmfaccmiaaaGreatProg

import Derived.Test.YtkpagmfaccmiaaaGreatSl

import Derived.Test.YtkpagmfaccmiaaaGreatReg2

namespace Go.Proofs.YtkpagmfaccmiaaaGreat

open Go.RowKit

attribute [local go_sem] Oper.semAt_some

theorem cutter_any (A : Option Addr) (n c : Nat) (w : World) : Calls Tryz.prog 82 #[.slice A n c] w fun e w' =>
    e = .returned (.func (.func 96) #[] #[.pointer (some ⟨w.heap.size, 0, none⟩)]) ∧ w.alloc (.cells #[.slice A n c] 25) = w' := by
  go_enter Tryz.func82, Tryz.ntmps82
  go_wp2
  go_ret
  exact ⟨rfl, rfl⟩

/-- What the cutter still has, in a world of which the bytes are not changed. -/
structure CutAt (w : World) (w0 : World) (g : Nat) (bs : List UInt8) : Prop where
  ex : ∃ A c, w.heap[g]? = some (.cells #[.slice A bs.length c] 25 (0, 0)) ∧ RdB w0 A bs ∧ bs.length ≤ c
theorem CutAt.below {w w' w0 : World} {g : Nat} {bs : List UInt8} (h : CutAt w w0 g bs) (hb : Ext w w') : CutAt w' w0 g bs := by
  obtain ⟨A, c, h1, h2, h3⟩ := h.ex
  exact ⟨A, c, (hb.block _ (lt_of_heap h1)).trans h1, h2, h3⟩
theorem CutAt.other {w w0 : World} {g g2 : Nat} {bs : List UInt8} (h : CutAt w w0 g bs) (i : Nat) (v : Value) (hne : g2 ≠ g) : CutAt (w.setCell ⟨g2, i, none⟩ v) w0 g bs := by
  obtain ⟨A, c, h1, h2, h3⟩ := h.ex
  exact ⟨A, c, (Below.heap_setCell w ⟨g2, i, none⟩ v g (fun e => hne e.symm)).trans h1, h2, h3⟩
theorem CutAt.lt {w w0 : World} {g : Nat} {bs : List UInt8} (h : CutAt w w0 g bs) : g < w.heap.size := by
  obtain ⟨A, c, h1, _⟩ := h.ex
  exact lt_of_heap h1

set_option maxHeartbeats 1000000 in
theorem cut_any (g : Nat) (bs : List UInt8) (n : Nat) (w w0 : World) (h : CutAt w w0 g bs) :
    Calls Tryz.prog 96 #[.int .i64 (n : Int), .pointer (some ⟨g, 0, none⟩)] w fun e w' => ∃ A1 c1 A2 c2, e = .returned (.slice A1 (bs.take n).length c1) ∧ w.setCell ⟨g, 0, none⟩ (.slice A2 (bs.drop n).length c2) = w' ∧
      RdB w0 A1 (bs.take n) ∧ CutAt w' w0 g (bs.drop n) ∧ (bs.take n).length ≤ c1 := by
  obtain ⟨A, c, hg, hA, hc⟩ := h.ex
  have hcell : w.cell? ⟨g, 0, none⟩ = some (.slice A bs.length c) := cell_of_row w g 0 _ _ _ hg
  have hfr : w.frozen? ⟨g, 0, none⟩ = false := frozen_of_row w g 0 _ _ hg
  have hset : ∀ v, (w.setCell ⟨g, 0, none⟩ v).heap[g]? = some (.cells #[v] 25 (0, 0)) := fun v => heap_setCell_same w g 0 _ _ v hg
  clear hg
  by_cases hlt : bs.length < n
  · have e1 : bs.take n = bs := List.take_of_length_le (by omega)
    have e2 : bs.drop n = [] := List.drop_of_length_le (by omega)
    have h2 := hA.tail (Nat.le_refl _) hc
    rw [e1, e2]
    by_cases hcc : c = bs.length
    · rw [if_pos hcc, List.drop_length] at h2
      go_enter Tryz.func96, Tryz.ntmps96
      go_wp2_with fail
      go_ret
      exact ⟨A, bs.length, A, 0, rfl, rfl, hA, ⟨A, 0, hset _, h2, Nat.zero_le _⟩, Nat.le_refl _⟩
    · rw [if_neg hcc, List.drop_length] at h2
      go_enter Tryz.func96, Tryz.ntmps96
      go_wp2_with fail
      go_ret
      exact ⟨A, bs.length, _, c - bs.length, rfl, rfl, hA, ⟨_, _, hset _, h2, Nat.zero_le _⟩, Nat.le_refl _⟩
  · have e1 : (bs.take n).length = n := by rw [List.length_take]; omega
    have e2 : (bs.drop n).length = bs.length - n := by rw [List.length_drop]
    have h1 := hA.head (m := n) (by omega)
    have h2 := hA.tail (k := n) (by omega) hc
    rw [e1, e2]
    have hle : bs.length - n ≤ c - n := by omega
    by_cases hcc : c = n
    · rw [if_pos hcc] at h2
      go_enter Tryz.func96, Tryz.ntmps96
      go_wp2_with fail
      go_ret
      exact ⟨A, n, A, 0, rfl, rfl, h1, ⟨A, 0, by rw [e2]; exact hset _, h2, by omega⟩, Nat.le_refl _⟩
    · rw [if_neg hcc] at h2
      go_enter Tryz.func96, Tryz.ntmps96
      go_wp2_with fail
      go_ret
      exact ⟨A, n, _, c - n, rfl, rfl, h1, ⟨_, c - n, by rw [e2]; exact hset _, h2, by omega⟩, Nat.le_refl _⟩
end Go.Proofs.YtkpagmfaccmiaaaGreat
