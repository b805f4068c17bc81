
/- Contracts: which cells may be (isLeaf, isInner, the document's Leaf and Inner), the law's small. Printed by wip/tools/gen_cell07.py. -/

import Derived.Test.YtkpagmfaccmiaaaGreatProg

import Derived.Test.YtkpagmfaccmiaaaGreatCellMath

import Derived.Test.YtkpagmfaccmiaaaGreatSl

import Derived.Test.YtkpagmfaccmiaaaGreatReg2

namespace Go.Proofs.YtkpagmfaccmiaaaGreat

open Go.RowKit

attribute [local go_sem] Oper.semAt_some

/-- A cell in memory. -/
structure CellV where
  ka : Option Addr
  kc : Nat
  va : Option Addr
  vc : Nat
  x : Cl
def CellV.cells (c : CellV) : Array Value := #[.slice c.ka c.x.key.length c.kc, .int .i64 c.x.size, .slice c.va c.x.val.length c.vc, .int .u32 (c.x.over : Int), .int .u32 (c.x.kid : Int)]
def CellV.val (c : CellV) : Value := .agg c.cells

def CellV.small (c : CellV) : Bool := decide ((c.x.key.length : Int) ≤ 3000) && decide ((c.x.val.length : Int) ≤ 3000)

set_option maxRecDepth 100000 in
set_option maxHeartbeats 2000000 in
theorem isLeaf_any (c : CellV) (w : World) : Calls Tryz.prog 80 #[c.val] w fun e w' => e = .returned (.bool c.x.leaf) ∧ Below w.heap.size w w' := by
  obtain ⟨ka, kc, va, vc, ⟨key, size, val, over, kid⟩⟩ := c
  have key_ : ∀ b : Bool, b = (Cl.mk key size val over kid).leaf → Hid (b = (Cl.mk key size val over kid).leaf) := fun _ h => h
  simp only [CellV.val, CellV.cells]
  by_cases h1 : 1 ≤ key.length
  · have ih1 : 1 ≤ (key.length : Int) := by omega
    by_cases h2 : key.length ≤ 24
    · have ih2 : (key.length : Int) ≤ 24 := by omega
      by_cases h3 : 0 ≤ size
      · by_cases h4 : size ≤ 1000
        · by_cases h5 : kid = 0
          · have ih5 : (kid : Int) = 0 := by omega
            by_cases h6 : size ≤ 40
            · by_cases h7 : (val.length : Int) = size
              · by_cases h8 : over = 0
                · have ih8 : (over : Int) = 0 := by omega
                  have hv := key_ true (by simp [Cl.leaf, *]; try omega)
                  rw [← hv.out]
                  clear key_ hv
                  go_enter Tryz.func80, Tryz.ntmps80
                  go_wp2_with fail
                  go_ret
                  refine ⟨?_, Ext.alloc w _⟩
                  first | rfl | (simp [*]; done) | (simp; omega) | (simp [*]; omega)
                · have ih8 : ¬ (over : Int) = 0 := by omega
                  have hv := key_ false (by simp [Cl.leaf, *]; try omega)
                  rw [← hv.out]
                  clear key_ hv
                  go_enter Tryz.func80, Tryz.ntmps80
                  go_wp2_with fail
                  go_ret
                  refine ⟨?_, Ext.alloc w _⟩
                  first | rfl | (simp [*]; done) | (simp; omega) | (simp [*]; omega)
              · have hv := key_ false (by simp [Cl.leaf, *]; try omega)
                rw [← hv.out]
                clear key_ hv
                go_enter Tryz.func80, Tryz.ntmps80
                go_wp2_with fail
                go_ret
                refine ⟨?_, Ext.alloc w _⟩
                first | rfl | (simp [*]; done) | (simp; omega) | (simp [*]; omega)
            · by_cases h7 : val.length = 0
              · have ih7 : (val.length : Int) = 0 := by omega
                by_cases h8 : 0 < over
                · have ih8 : 0 < (over : Int) := by omega
                  have hv := key_ true (by simp [Cl.leaf, *]; try omega)
                  rw [← hv.out]
                  clear key_ hv
                  go_enter Tryz.func80, Tryz.ntmps80
                  go_wp2_with fail
                  go_ret
                  refine ⟨?_, Ext.alloc w _⟩
                  first | rfl | (simp [*]; done) | (simp; omega) | (simp [*]; omega)
                · have ih8 : ¬ 0 < (over : Int) := by omega
                  have hv := key_ false (by simp [Cl.leaf, *]; try omega)
                  rw [← hv.out]
                  clear key_ hv
                  go_enter Tryz.func80, Tryz.ntmps80
                  go_wp2_with fail
                  go_ret
                  refine ⟨?_, Ext.alloc w _⟩
                  first | rfl | (simp [*]; done) | (simp; omega) | (simp [*]; omega)
              · have ih7 : ¬ (val.length : Int) = 0 := by omega
                have hv := key_ false (by simp [Cl.leaf, *]; try omega)
                rw [← hv.out]
                clear key_ hv
                go_enter Tryz.func80, Tryz.ntmps80
                go_wp2_with fail
                go_ret
                refine ⟨?_, Ext.alloc w _⟩
                first | rfl | (simp [*]; done) | (simp; omega) | (simp [*]; omega)
          · have jh5 : ((kid : Int) != 0) = true := by rw [bne_iff_ne]; omega
            have ih5 : ¬ (kid : Int) = 0 := by omega
            have hv := key_ false (by simp [Cl.leaf, *]; try omega)
            rw [← hv.out]
            clear key_ hv
            go_enter Tryz.func80, Tryz.ntmps80
            go_wp2_with fail
            go_ret
            refine ⟨?_, Ext.alloc w _⟩
            first | rfl | (simp [*]; done) | (simp; omega) | (simp [*]; omega)
        · have hv := key_ false (by simp [Cl.leaf, *]; try omega)
          rw [← hv.out]
          clear key_ hv
          go_enter Tryz.func80, Tryz.ntmps80
          go_wp2_with fail
          go_ret
          refine ⟨?_, Ext.alloc w _⟩
          first | rfl | (simp [*]; done) | (simp; omega) | (simp [*]; omega)
      · have hv := key_ false (by simp [Cl.leaf, *]; try omega)
        rw [← hv.out]
        clear key_ hv
        go_enter Tryz.func80, Tryz.ntmps80
        go_wp2_with fail
        go_ret
        refine ⟨?_, Ext.alloc w _⟩
        first | rfl | (simp [*]; done) | (simp; omega) | (simp [*]; omega)
    · have ih2 : ¬ (key.length : Int) ≤ 24 := by omega
      have hv := key_ false (by simp [Cl.leaf, *]; try omega)
      rw [← hv.out]
      clear key_ hv
      go_enter Tryz.func80, Tryz.ntmps80
      go_wp2_with fail
      go_ret
      refine ⟨?_, Ext.alloc w _⟩
      first | rfl | (simp [*]; done) | (simp; omega) | (simp [*]; omega)
  · have ih1 : ¬ 1 ≤ (key.length : Int) := by omega
    have hv := key_ false (by simp [Cl.leaf, *]; try omega)
    rw [← hv.out]
    clear key_ hv
    go_enter Tryz.func80, Tryz.ntmps80
    go_wp2_with fail
    go_ret
    refine ⟨?_, Ext.alloc w _⟩
    first | rfl | (simp [*]; done) | (simp; omega) | (simp [*]; omega)

set_option maxRecDepth 100000 in
set_option maxHeartbeats 2000000 in
theorem ref_Leaf (c : CellV) (w : World) : Calls Tryz.prog 45 #[c.val] w fun e w' => e = .returned (.bool c.x.leaf) ∧ Below w.heap.size w w' := by
  obtain ⟨ka, kc, va, vc, ⟨key, size, val, over, kid⟩⟩ := c
  have key_ : ∀ b : Bool, b = (Cl.mk key size val over kid).leaf → Hid (b = (Cl.mk key size val over kid).leaf) := fun _ h => h
  simp only [CellV.val, CellV.cells]
  by_cases h1 : 1 ≤ key.length
  · have ih1 : 1 ≤ (key.length : Int) := by omega
    by_cases h2 : key.length ≤ 24
    · have ih2 : (key.length : Int) ≤ 24 := by omega
      by_cases h3 : 0 ≤ size
      · by_cases h4 : size ≤ 1000
        · by_cases h5 : kid = 0
          · have ih5 : (kid : Int) = 0 := by omega
            by_cases h6 : size ≤ 40
            · by_cases h7 : (val.length : Int) = size
              · by_cases h8 : over = 0
                · have ih8 : (over : Int) = 0 := by omega
                  have hv := key_ true (by simp [Cl.leaf, *]; try omega)
                  rw [← hv.out]
                  clear key_ hv
                  go_enter Tryz.func45, Tryz.ntmps45
                  go_wp2_with fail
                  go_ret
                  refine ⟨?_, Ext.alloc w _⟩
                  first | rfl | (simp [*]; done) | (simp; omega) | (simp [*]; omega)
                · have ih8 : ¬ (over : Int) = 0 := by omega
                  have hv := key_ false (by simp [Cl.leaf, *]; try omega)
                  rw [← hv.out]
                  clear key_ hv
                  go_enter Tryz.func45, Tryz.ntmps45
                  go_wp2_with fail
                  go_ret
                  refine ⟨?_, Ext.alloc w _⟩
                  first | rfl | (simp [*]; done) | (simp; omega) | (simp [*]; omega)
              · have hv := key_ false (by simp [Cl.leaf, *]; try omega)
                rw [← hv.out]
                clear key_ hv
                go_enter Tryz.func45, Tryz.ntmps45
                go_wp2_with fail
                go_ret
                refine ⟨?_, Ext.alloc w _⟩
                first | rfl | (simp [*]; done) | (simp; omega) | (simp [*]; omega)
            · by_cases h7 : val.length = 0
              · have ih7 : (val.length : Int) = 0 := by omega
                by_cases h8 : 0 < over
                · have ih8 : 0 < (over : Int) := by omega
                  have hv := key_ true (by simp [Cl.leaf, *]; try omega)
                  rw [← hv.out]
                  clear key_ hv
                  go_enter Tryz.func45, Tryz.ntmps45
                  go_wp2_with fail
                  go_ret
                  refine ⟨?_, Ext.alloc w _⟩
                  first | rfl | (simp [*]; done) | (simp; omega) | (simp [*]; omega)
                · have ih8 : ¬ 0 < (over : Int) := by omega
                  have hv := key_ false (by simp [Cl.leaf, *]; try omega)
                  rw [← hv.out]
                  clear key_ hv
                  go_enter Tryz.func45, Tryz.ntmps45
                  go_wp2_with fail
                  go_ret
                  refine ⟨?_, Ext.alloc w _⟩
                  first | rfl | (simp [*]; done) | (simp; omega) | (simp [*]; omega)
              · have ih7 : ¬ (val.length : Int) = 0 := by omega
                have hv := key_ false (by simp [Cl.leaf, *]; try omega)
                rw [← hv.out]
                clear key_ hv
                go_enter Tryz.func45, Tryz.ntmps45
                go_wp2_with fail
                go_ret
                refine ⟨?_, Ext.alloc w _⟩
                first | rfl | (simp [*]; done) | (simp; omega) | (simp [*]; omega)
          · have jh5 : ((kid : Int) != 0) = true := by rw [bne_iff_ne]; omega
            have ih5 : ¬ (kid : Int) = 0 := by omega
            have hv := key_ false (by simp [Cl.leaf, *]; try omega)
            rw [← hv.out]
            clear key_ hv
            go_enter Tryz.func45, Tryz.ntmps45
            go_wp2_with fail
            go_ret
            refine ⟨?_, Ext.alloc w _⟩
            first | rfl | (simp [*]; done) | (simp; omega) | (simp [*]; omega)
        · have hv := key_ false (by simp [Cl.leaf, *]; try omega)
          rw [← hv.out]
          clear key_ hv
          go_enter Tryz.func45, Tryz.ntmps45
          go_wp2_with fail
          go_ret
          refine ⟨?_, Ext.alloc w _⟩
          first | rfl | (simp [*]; done) | (simp; omega) | (simp [*]; omega)
      · have hv := key_ false (by simp [Cl.leaf, *]; try omega)
        rw [← hv.out]
        clear key_ hv
        go_enter Tryz.func45, Tryz.ntmps45
        go_wp2_with fail
        go_ret
        refine ⟨?_, Ext.alloc w _⟩
        first | rfl | (simp [*]; done) | (simp; omega) | (simp [*]; omega)
    · have ih2 : ¬ (key.length : Int) ≤ 24 := by omega
      have hv := key_ false (by simp [Cl.leaf, *]; try omega)
      rw [← hv.out]
      clear key_ hv
      go_enter Tryz.func45, Tryz.ntmps45
      go_wp2_with fail
      go_ret
      refine ⟨?_, Ext.alloc w _⟩
      first | rfl | (simp [*]; done) | (simp; omega) | (simp [*]; omega)
  · have ih1 : ¬ 1 ≤ (key.length : Int) := by omega
    have hv := key_ false (by simp [Cl.leaf, *]; try omega)
    rw [← hv.out]
    clear key_ hv
    go_enter Tryz.func45, Tryz.ntmps45
    go_wp2_with fail
    go_ret
    refine ⟨?_, Ext.alloc w _⟩
    first | rfl | (simp [*]; done) | (simp; omega) | (simp [*]; omega)

set_option maxRecDepth 100000 in
set_option maxHeartbeats 2000000 in
theorem isInner_any (c : CellV) (w : World) : Calls Tryz.prog 84 #[c.val] w fun e w' => e = .returned (.bool c.x.inner) ∧ Below w.heap.size w w' := by
  obtain ⟨ka, kc, va, vc, ⟨key, size, val, over, kid⟩⟩ := c
  have key_ : ∀ b : Bool, b = (Cl.mk key size val over kid).inner → Hid (b = (Cl.mk key size val over kid).inner) := fun _ h => h
  simp only [CellV.val, CellV.cells]
  by_cases h1 : key.length ≤ 24
  · have ih1 : (key.length : Int) ≤ 24 := by omega
    by_cases h2 : 0 < kid
    · have ih2 : 0 < (kid : Int) := by omega
      by_cases h3 : size = 0
      · by_cases h4 : over = 0
        · have ih4 : (over : Int) = 0 := by omega
          by_cases h5 : val.length = 0
          · have ih5 : (val.length : Int) = 0 := by omega
            have hv := key_ true (by simp [Cl.inner, *]; try omega)
            rw [← hv.out]
            clear key_ hv
            go_enter Tryz.func84, Tryz.ntmps84
            go_wp2_with fail
            go_ret
            refine ⟨?_, Ext.alloc w _⟩
            first | rfl | (simp [*]; done) | (simp; omega) | (simp [*]; omega)
          · have ih5 : ¬ (val.length : Int) = 0 := by omega
            have hv := key_ false (by simp [Cl.inner, *]; try omega)
            rw [← hv.out]
            clear key_ hv
            go_enter Tryz.func84, Tryz.ntmps84
            go_wp2_with fail
            go_ret
            refine ⟨?_, Ext.alloc w _⟩
            first | rfl | (simp [*]; done) | (simp; omega) | (simp [*]; omega)
        · have ih4 : ¬ (over : Int) = 0 := by omega
          have hv := key_ false (by simp [Cl.inner, *]; try omega)
          rw [← hv.out]
          clear key_ hv
          go_enter Tryz.func84, Tryz.ntmps84
          go_wp2_with fail
          go_ret
          refine ⟨?_, Ext.alloc w _⟩
          first | rfl | (simp [*]; done) | (simp; omega) | (simp [*]; omega)
      · have hv := key_ false (by simp [Cl.inner, *]; try omega)
        rw [← hv.out]
        clear key_ hv
        go_enter Tryz.func84, Tryz.ntmps84
        go_wp2_with fail
        go_ret
        refine ⟨?_, Ext.alloc w _⟩
        first | rfl | (simp [*]; done) | (simp; omega) | (simp [*]; omega)
    · have ih2 : ¬ 0 < (kid : Int) := by omega
      have hv := key_ false (by simp [Cl.inner, *]; try omega)
      rw [← hv.out]
      clear key_ hv
      go_enter Tryz.func84, Tryz.ntmps84
      go_wp2_with fail
      go_ret
      refine ⟨?_, Ext.alloc w _⟩
      first | rfl | (simp [*]; done) | (simp; omega) | (simp [*]; omega)
  · have ih1 : ¬ (key.length : Int) ≤ 24 := by omega
    have hv := key_ false (by simp [Cl.inner, *]; try omega)
    rw [← hv.out]
    clear key_ hv
    go_enter Tryz.func84, Tryz.ntmps84
    go_wp2_with fail
    go_ret
    refine ⟨?_, Ext.alloc w _⟩
    first | rfl | (simp [*]; done) | (simp; omega) | (simp [*]; omega)

set_option maxRecDepth 100000 in
set_option maxHeartbeats 2000000 in
theorem ref_Inner (c : CellV) (w : World) : Calls Tryz.prog 47 #[c.val] w fun e w' => e = .returned (.bool c.x.inner) ∧ Below w.heap.size w w' := by
  obtain ⟨ka, kc, va, vc, ⟨key, size, val, over, kid⟩⟩ := c
  have key_ : ∀ b : Bool, b = (Cl.mk key size val over kid).inner → Hid (b = (Cl.mk key size val over kid).inner) := fun _ h => h
  simp only [CellV.val, CellV.cells]
  by_cases h1 : key.length ≤ 24
  · have ih1 : (key.length : Int) ≤ 24 := by omega
    by_cases h2 : 0 < kid
    · have ih2 : 0 < (kid : Int) := by omega
      by_cases h3 : size = 0
      · by_cases h4 : over = 0
        · have ih4 : (over : Int) = 0 := by omega
          by_cases h5 : val.length = 0
          · have ih5 : (val.length : Int) = 0 := by omega
            have hv := key_ true (by simp [Cl.inner, *]; try omega)
            rw [← hv.out]
            clear key_ hv
            go_enter Tryz.func47, Tryz.ntmps47
            go_wp2_with fail
            go_ret
            refine ⟨?_, Ext.alloc w _⟩
            first | rfl | (simp [*]; done) | (simp; omega) | (simp [*]; omega)
          · have ih5 : ¬ (val.length : Int) = 0 := by omega
            have hv := key_ false (by simp [Cl.inner, *]; try omega)
            rw [← hv.out]
            clear key_ hv
            go_enter Tryz.func47, Tryz.ntmps47
            go_wp2_with fail
            go_ret
            refine ⟨?_, Ext.alloc w _⟩
            first | rfl | (simp [*]; done) | (simp; omega) | (simp [*]; omega)
        · have ih4 : ¬ (over : Int) = 0 := by omega
          have hv := key_ false (by simp [Cl.inner, *]; try omega)
          rw [← hv.out]
          clear key_ hv
          go_enter Tryz.func47, Tryz.ntmps47
          go_wp2_with fail
          go_ret
          refine ⟨?_, Ext.alloc w _⟩
          first | rfl | (simp [*]; done) | (simp; omega) | (simp [*]; omega)
      · have hv := key_ false (by simp [Cl.inner, *]; try omega)
        rw [← hv.out]
        clear key_ hv
        go_enter Tryz.func47, Tryz.ntmps47
        go_wp2_with fail
        go_ret
        refine ⟨?_, Ext.alloc w _⟩
        first | rfl | (simp [*]; done) | (simp; omega) | (simp [*]; omega)
    · have ih2 : ¬ 0 < (kid : Int) := by omega
      have hv := key_ false (by simp [Cl.inner, *]; try omega)
      rw [← hv.out]
      clear key_ hv
      go_enter Tryz.func47, Tryz.ntmps47
      go_wp2_with fail
      go_ret
      refine ⟨?_, Ext.alloc w _⟩
      first | rfl | (simp [*]; done) | (simp; omega) | (simp [*]; omega)
  · have ih1 : ¬ (key.length : Int) ≤ 24 := by omega
    have hv := key_ false (by simp [Cl.inner, *]; try omega)
    rw [← hv.out]
    clear key_ hv
    go_enter Tryz.func47, Tryz.ntmps47
    go_wp2_with fail
    go_ret
    refine ⟨?_, Ext.alloc w _⟩
    first | rfl | (simp [*]; done) | (simp; omega) | (simp [*]; omega)

end Go.Proofs.YtkpagmfaccmiaaaGreat
