
/- Contracts: the orders of entries and operations by keys (ops.Apply$1, ops.byKey). -/

import Derived.Test.YtdekdblebflklaaOpMem

import Derived.Test.YtdekdblebflklaaRowG

namespace Go.Proofs.Ytdekdblebflklaa

open Go.RowKit

attribute [local go_sem] Oper.semAt_some

theorem cmpE_any (e : EnV) (K : Option Addr) (k : List UInt8) (kc : Nat) (w : World) (he : e.In w) (hK : RdB w K k) :
    Calls Try.prog 35 #[.agg e.cells, .slice K k.length kc] w fun x w' => x = .returned (.int .i64 (Lib.compareBytes e.x.key k)) ∧ Below w.heap.size w w' := by
  have hb := (Below.refl w.heap.size w).alloc (Nat.le_refl _) (.cells e.cells 48)
  have h0 : (w.alloc (.cells e.cells 48)).cell? ⟨w.heap.size, 0, none⟩ = some (.slice e.ka e.x.key.length e.kc) := by
    rw [cell_of_row _ _ _ _ _ _ (heap_alloc_new w _)]; rfl
  have hkr := he.kr.below hb
  have hK2 := hK.below hb
  obtain ⟨cs, hcs⟩ : ∃ cs, cs = e.cells := ⟨_, rfl⟩
  rw [← hcs] at h0 hb hkr hK2 ⊢
  clear hcs
  go_enter Try.func35, Try.ntmps35
  go_wp2_with (go_at_call 29; refine (compare_any e.ka K e.x.key k e.kc kc _ hkr hK2).mono ?_; rintro e' w' ⟨rfl, rfl⟩)
  go_ret
  exact ⟨rfl, hb⟩
theorem byKey_any (a b : OpV) (w : World) (ha : a.In w) (hb : b.In w) :
    Calls Try.prog 46 #[.agg a.cells, .agg b.cells] w fun x w' => x = .returned (.int .i64 (Lib.compareBytes a.x.key b.x.key)) ∧ Below w.heap.size w w' := by
  have hb1 := (Below.refl w.heap.size w).alloc (Nat.le_refl _) (.cells a.cells 50)
  have hb2 := hb1.alloc hb1.size (.cells b.cells 50)
  have g0 : ((w.alloc (.cells a.cells 50)).alloc (.cells b.cells 50)).heap[w.heap.size]? = some (.cells a.cells 50 (0, 0)) := (Below.heap_alloc _ _ _ (by simp)).trans (heap_alloc_new w _)
  have g1 : ((w.alloc (.cells a.cells 50)).alloc (.cells b.cells 50)).heap[w.heap.size + 1]? = some (.cells b.cells 50 (0, 0)) := by
    have := heap_alloc_new (w.alloc (.cells a.cells 50)) (.cells b.cells 50)
    rwa [World.size_alloc] at this
  have h0 : ((w.alloc (.cells a.cells 50)).alloc (.cells b.cells 50)).cell? ⟨w.heap.size, 1, none⟩ = some (.slice a.ka a.x.key.length a.kc) := by
    rw [cell_of_row _ _ _ _ _ _ g0]; rfl
  have h1 : ((w.alloc (.cells a.cells 50)).alloc (.cells b.cells 50)).cell? ⟨w.heap.size + 1, 1, none⟩ = some (.slice b.ka b.x.key.length b.kc) := by
    rw [cell_of_row _ _ _ _ _ _ g1]; rfl
  have r1 := ha.kr.below hb2
  have r2 := hb.kr.below hb2
  clear g0 g1
  obtain ⟨cs, hcs⟩ : ∃ cs, cs = a.cells := ⟨_, rfl⟩
  obtain ⟨ds, hds⟩ : ∃ ds, ds = b.cells := ⟨_, rfl⟩
  rw [← hcs, ← hds] at h0 h1 hb2 r1 r2 ⊢
  clear hcs hds hb1
  go_enter Try.func46, Try.ntmps46
  go_wp2_with (go_at_call 29; refine (compare_any a.ka b.ka a.x.key b.x.key a.kc b.kc _ r1 r2).mono ?_; rintro e' w' ⟨rfl, rfl⟩)
  go_ret
  exact ⟨rfl, hb2⟩
end Go.Proofs.Ytdekdblebflklaa
