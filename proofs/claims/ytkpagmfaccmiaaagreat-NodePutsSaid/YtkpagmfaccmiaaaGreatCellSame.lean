
/- Contracts: whether two cells are the same (cell.Same, scowref07.Same). Printed by wip/tools/gen_cellsame.py. -/

import Derived.Test.YtkpagmfaccmiaaaGreatCellPut

import Derived.Test.YtkpagmfaccmiaaaGreatEqual

namespace Go.Proofs.YtkpagmfaccmiaaaGreat

open Go.RowKit

attribute [local go_sem] Oper.semAt_some

def Cl.same (a b : Cl) : Bool := (a.key == b.key) && (a.size == b.size) && (a.val == b.val) && ((a.over : Int) == (b.over : Int)) && ((a.kid : Int) == (b.kid : Int))
theorem Cl.same_iff (a b : Cl) : a.same b = true ↔ a = b := by
  obtain ⟨a1, a2, a3, a4, a5⟩ := a
  obtain ⟨b1, b2, b3, b4, b5⟩ := b
  simp only [Cl.same, Bool.and_eq_true, beq_iff_eq, Cl.mk.injEq, Int.natCast_inj]
  constructor
  · rintro ⟨⟨⟨⟨h1, h2⟩, h3⟩, h4⟩, h5⟩; exact ⟨h1, h2, h3, h4, h5⟩
  · rintro ⟨h1, h2, h3, h4, h5⟩; exact ⟨⟨⟨⟨h1, h2⟩, h3⟩, h4⟩, h5⟩
theorem Cl.same_refl (a : Cl) : a.same a = true := (Cl.same_iff a a).2 rfl

set_option maxRecDepth 100000 in
set_option maxHeartbeats 1000000 in
theorem same_0 (ka : Option Addr) (kc : Nat) (va : Option Addr) (vc : Nat) (key : List UInt8) (size : Int) (val : List UInt8) (over kid : Nat) (kb : Option Addr) (kd : Nat) (vb : Option Addr) (vd : Nat) (key2 : List UInt8) (size2 : Int) (val2 : List UInt8) (over2 kid2 : Nat) (w : World) (hk : RdB w ka key) (hv : RdB w va val) (hk2 : RdB w kb key2) (hv2 : RdB w vb val2)  (h0 : (key == key2) = false) :
    Calls Tryz.prog 27 #[.agg #[.slice ka key.length kc, .int .i64 size, .slice va val.length vc, .int .u32 (over : Int), .int .u32 (kid : Int)], .agg #[.slice kb key2.length kd, .int .i64 size2, .slice vb val2.length vd, .int .u32 (over2 : Int), .int .u32 (kid2 : Int)]] w fun e w' => e = .returned (.bool false) ∧ Below w.heap.size w w' := by
  have hE := Ext.tr (Ext.alloc w (.cells #[.slice ka key.length kc, .int .i64 size, .slice va val.length vc, .int .u32 (over : Int), .int .u32 (kid : Int)] 43)) (Ext.alloc _ (.cells #[.slice kb key2.length kd, .int .i64 size2, .slice vb val2.length vd, .int .u32 (over2 : Int), .int .u32 (kid2 : Int)] 43))
  have He0 := Lib.hid (fun W (x1 : RdB W ka key) (x2 : RdB W kb key2) => equal_any ka kb key key2 kc kd W x1 x2)
  have He2 := Lib.hid (fun W (x1 : RdB W va val) (x2 : RdB W vb val2) => equal_any va vb val val2 vc vd W x1 x2)
  have HE := Lib.hid hE
  clear hE
  have H0 := Lib.hid h0
  clear h0
  go_enter Tryz.func27, Tryz.ntmps27
  go_wp2_with fail
  have q0 := He0.out _ (hk.below HE.out) (hk2.below HE.out)
  rw [H0.out] at q0
  refine q0.mono ?_
  rintro e w' ⟨rfl, rfl⟩
  clear q0
  go_wp2_with fail
  go_ret
  exact ⟨rfl, HE.out⟩

set_option maxRecDepth 100000 in
set_option maxHeartbeats 1000000 in
theorem same_1 (ka : Option Addr) (kc : Nat) (va : Option Addr) (vc : Nat) (key : List UInt8) (size : Int) (val : List UInt8) (over kid : Nat) (kb : Option Addr) (kd : Nat) (vb : Option Addr) (vd : Nat) (key2 : List UInt8) (size2 : Int) (val2 : List UInt8) (over2 kid2 : Nat) (w : World) (hk : RdB w ka key) (hv : RdB w va val) (hk2 : RdB w kb key2) (hv2 : RdB w vb val2) (h0 : (key == key2) = true) (h1 : (size == size2) = false) :
    Calls Tryz.prog 27 #[.agg #[.slice ka key.length kc, .int .i64 size, .slice va val.length vc, .int .u32 (over : Int), .int .u32 (kid : Int)], .agg #[.slice kb key2.length kd, .int .i64 size2, .slice vb val2.length vd, .int .u32 (over2 : Int), .int .u32 (kid2 : Int)]] w fun e w' => e = .returned (.bool false) ∧ Below w.heap.size w w' := by
  have hE := Ext.tr (Ext.alloc w (.cells #[.slice ka key.length kc, .int .i64 size, .slice va val.length vc, .int .u32 (over : Int), .int .u32 (kid : Int)] 43)) (Ext.alloc _ (.cells #[.slice kb key2.length kd, .int .i64 size2, .slice vb val2.length vd, .int .u32 (over2 : Int), .int .u32 (kid2 : Int)] 43))
  have He0 := Lib.hid (fun W (x1 : RdB W ka key) (x2 : RdB W kb key2) => equal_any ka kb key key2 kc kd W x1 x2)
  have He2 := Lib.hid (fun W (x1 : RdB W va val) (x2 : RdB W vb val2) => equal_any va vb val val2 vc vd W x1 x2)
  have HE := Lib.hid hE
  clear hE
  have H0 := Lib.hid h0
  clear h0
  go_enter Tryz.func27, Tryz.ntmps27
  go_wp2_with fail
  have q0 := He0.out _ (hk.below HE.out) (hk2.below HE.out)
  rw [H0.out] at q0
  refine q0.mono ?_
  rintro e w' ⟨rfl, rfl⟩
  clear q0
  go_wp2_with fail
  go_ret
  exact ⟨rfl, HE.out⟩

set_option maxRecDepth 100000 in
set_option maxHeartbeats 1000000 in
theorem same_2 (ka : Option Addr) (kc : Nat) (va : Option Addr) (vc : Nat) (key : List UInt8) (size : Int) (val : List UInt8) (over kid : Nat) (kb : Option Addr) (kd : Nat) (vb : Option Addr) (vd : Nat) (key2 : List UInt8) (size2 : Int) (val2 : List UInt8) (over2 kid2 : Nat) (w : World) (hk : RdB w ka key) (hv : RdB w va val) (hk2 : RdB w kb key2) (hv2 : RdB w vb val2) (h0 : (key == key2) = true) (h1 : (size == size2) = true) (h2 : (val == val2) = false) :
    Calls Tryz.prog 27 #[.agg #[.slice ka key.length kc, .int .i64 size, .slice va val.length vc, .int .u32 (over : Int), .int .u32 (kid : Int)], .agg #[.slice kb key2.length kd, .int .i64 size2, .slice vb val2.length vd, .int .u32 (over2 : Int), .int .u32 (kid2 : Int)]] w fun e w' => e = .returned (.bool false) ∧ Below w.heap.size w w' := by
  have hE := Ext.tr (Ext.alloc w (.cells #[.slice ka key.length kc, .int .i64 size, .slice va val.length vc, .int .u32 (over : Int), .int .u32 (kid : Int)] 43)) (Ext.alloc _ (.cells #[.slice kb key2.length kd, .int .i64 size2, .slice vb val2.length vd, .int .u32 (over2 : Int), .int .u32 (kid2 : Int)] 43))
  have He0 := Lib.hid (fun W (x1 : RdB W ka key) (x2 : RdB W kb key2) => equal_any ka kb key key2 kc kd W x1 x2)
  have He2 := Lib.hid (fun W (x1 : RdB W va val) (x2 : RdB W vb val2) => equal_any va vb val val2 vc vd W x1 x2)
  have HE := Lib.hid hE
  clear hE
  have H0 := Lib.hid h0
  clear h0
  have H2 := Lib.hid h2
  clear h2
  go_enter Tryz.func27, Tryz.ntmps27
  go_wp2_with fail
  have q0 := He0.out _ (hk.below HE.out) (hk2.below HE.out)
  rw [H0.out] at q0
  refine q0.mono ?_
  rintro e w' ⟨rfl, rfl⟩
  clear q0
  go_wp2_with fail
  have q2 := He2.out _ (hv.below HE.out) (hv2.below HE.out)
  rw [H2.out] at q2
  refine q2.mono ?_
  rintro e w' ⟨rfl, rfl⟩
  clear q2
  go_wp2_with fail
  go_ret
  exact ⟨rfl, HE.out⟩

set_option maxRecDepth 100000 in
set_option maxHeartbeats 1000000 in
theorem same_3 (ka : Option Addr) (kc : Nat) (va : Option Addr) (vc : Nat) (key : List UInt8) (size : Int) (val : List UInt8) (over kid : Nat) (kb : Option Addr) (kd : Nat) (vb : Option Addr) (vd : Nat) (key2 : List UInt8) (size2 : Int) (val2 : List UInt8) (over2 kid2 : Nat) (w : World) (hk : RdB w ka key) (hv : RdB w va val) (hk2 : RdB w kb key2) (hv2 : RdB w vb val2) (h0 : (key == key2) = true) (h1 : (size == size2) = true) (h2 : (val == val2) = true) (h3 : ((over : Int) == (over2 : Int)) = false) :
    Calls Tryz.prog 27 #[.agg #[.slice ka key.length kc, .int .i64 size, .slice va val.length vc, .int .u32 (over : Int), .int .u32 (kid : Int)], .agg #[.slice kb key2.length kd, .int .i64 size2, .slice vb val2.length vd, .int .u32 (over2 : Int), .int .u32 (kid2 : Int)]] w fun e w' => e = .returned (.bool false) ∧ Below w.heap.size w w' := by
  have hE := Ext.tr (Ext.alloc w (.cells #[.slice ka key.length kc, .int .i64 size, .slice va val.length vc, .int .u32 (over : Int), .int .u32 (kid : Int)] 43)) (Ext.alloc _ (.cells #[.slice kb key2.length kd, .int .i64 size2, .slice vb val2.length vd, .int .u32 (over2 : Int), .int .u32 (kid2 : Int)] 43))
  have He0 := Lib.hid (fun W (x1 : RdB W ka key) (x2 : RdB W kb key2) => equal_any ka kb key key2 kc kd W x1 x2)
  have He2 := Lib.hid (fun W (x1 : RdB W va val) (x2 : RdB W vb val2) => equal_any va vb val val2 vc vd W x1 x2)
  have HE := Lib.hid hE
  clear hE
  have H0 := Lib.hid h0
  clear h0
  have H2 := Lib.hid h2
  clear h2
  go_enter Tryz.func27, Tryz.ntmps27
  go_wp2_with fail
  have q0 := He0.out _ (hk.below HE.out) (hk2.below HE.out)
  rw [H0.out] at q0
  refine q0.mono ?_
  rintro e w' ⟨rfl, rfl⟩
  clear q0
  go_wp2_with fail
  have q2 := He2.out _ (hv.below HE.out) (hv2.below HE.out)
  rw [H2.out] at q2
  refine q2.mono ?_
  rintro e w' ⟨rfl, rfl⟩
  clear q2
  go_wp2_with fail
  go_ret
  exact ⟨rfl, HE.out⟩

set_option maxRecDepth 100000 in
set_option maxHeartbeats 1000000 in
theorem same_4 (ka : Option Addr) (kc : Nat) (va : Option Addr) (vc : Nat) (key : List UInt8) (size : Int) (val : List UInt8) (over kid : Nat) (kb : Option Addr) (kd : Nat) (vb : Option Addr) (vd : Nat) (key2 : List UInt8) (size2 : Int) (val2 : List UInt8) (over2 kid2 : Nat) (w : World) (hk : RdB w ka key) (hv : RdB w va val) (hk2 : RdB w kb key2) (hv2 : RdB w vb val2) (h0 : (key == key2) = true) (h1 : (size == size2) = true) (h2 : (val == val2) = true) (h3 : ((over : Int) == (over2 : Int)) = true) (h4 : ((kid : Int) == (kid2 : Int)) = false) :
    Calls Tryz.prog 27 #[.agg #[.slice ka key.length kc, .int .i64 size, .slice va val.length vc, .int .u32 (over : Int), .int .u32 (kid : Int)], .agg #[.slice kb key2.length kd, .int .i64 size2, .slice vb val2.length vd, .int .u32 (over2 : Int), .int .u32 (kid2 : Int)]] w fun e w' => e = .returned (.bool false) ∧ Below w.heap.size w w' := by
  have hE := Ext.tr (Ext.alloc w (.cells #[.slice ka key.length kc, .int .i64 size, .slice va val.length vc, .int .u32 (over : Int), .int .u32 (kid : Int)] 43)) (Ext.alloc _ (.cells #[.slice kb key2.length kd, .int .i64 size2, .slice vb val2.length vd, .int .u32 (over2 : Int), .int .u32 (kid2 : Int)] 43))
  have He0 := Lib.hid (fun W (x1 : RdB W ka key) (x2 : RdB W kb key2) => equal_any ka kb key key2 kc kd W x1 x2)
  have He2 := Lib.hid (fun W (x1 : RdB W va val) (x2 : RdB W vb val2) => equal_any va vb val val2 vc vd W x1 x2)
  have HE := Lib.hid hE
  clear hE
  have H0 := Lib.hid h0
  clear h0
  have H2 := Lib.hid h2
  clear h2
  go_enter Tryz.func27, Tryz.ntmps27
  go_wp2_with fail
  have q0 := He0.out _ (hk.below HE.out) (hk2.below HE.out)
  rw [H0.out] at q0
  refine q0.mono ?_
  rintro e w' ⟨rfl, rfl⟩
  clear q0
  go_wp2_with fail
  have q2 := He2.out _ (hv.below HE.out) (hv2.below HE.out)
  rw [H2.out] at q2
  refine q2.mono ?_
  rintro e w' ⟨rfl, rfl⟩
  clear q2
  go_wp2_with fail
  go_ret
  exact ⟨rfl, HE.out⟩

set_option maxRecDepth 100000 in
set_option maxHeartbeats 1000000 in
theorem same_5 (ka : Option Addr) (kc : Nat) (va : Option Addr) (vc : Nat) (key : List UInt8) (size : Int) (val : List UInt8) (over kid : Nat) (kb : Option Addr) (kd : Nat) (vb : Option Addr) (vd : Nat) (key2 : List UInt8) (size2 : Int) (val2 : List UInt8) (over2 kid2 : Nat) (w : World) (hk : RdB w ka key) (hv : RdB w va val) (hk2 : RdB w kb key2) (hv2 : RdB w vb val2) (h0 : (key == key2) = true) (h1 : (size == size2) = true) (h2 : (val == val2) = true) (h3 : ((over : Int) == (over2 : Int)) = true) (h4 : ((kid : Int) == (kid2 : Int)) = true) :
    Calls Tryz.prog 27 #[.agg #[.slice ka key.length kc, .int .i64 size, .slice va val.length vc, .int .u32 (over : Int), .int .u32 (kid : Int)], .agg #[.slice kb key2.length kd, .int .i64 size2, .slice vb val2.length vd, .int .u32 (over2 : Int), .int .u32 (kid2 : Int)]] w fun e w' => e = .returned (.bool true) ∧ Below w.heap.size w w' := by
  have hE := Ext.tr (Ext.alloc w (.cells #[.slice ka key.length kc, .int .i64 size, .slice va val.length vc, .int .u32 (over : Int), .int .u32 (kid : Int)] 43)) (Ext.alloc _ (.cells #[.slice kb key2.length kd, .int .i64 size2, .slice vb val2.length vd, .int .u32 (over2 : Int), .int .u32 (kid2 : Int)] 43))
  have He0 := Lib.hid (fun W (x1 : RdB W ka key) (x2 : RdB W kb key2) => equal_any ka kb key key2 kc kd W x1 x2)
  have He2 := Lib.hid (fun W (x1 : RdB W va val) (x2 : RdB W vb val2) => equal_any va vb val val2 vc vd W x1 x2)
  have HE := Lib.hid hE
  clear hE
  have H0 := Lib.hid h0
  clear h0
  have H2 := Lib.hid h2
  clear h2
  go_enter Tryz.func27, Tryz.ntmps27
  go_wp2_with fail
  have q0 := He0.out _ (hk.below HE.out) (hk2.below HE.out)
  rw [H0.out] at q0
  refine q0.mono ?_
  rintro e w' ⟨rfl, rfl⟩
  clear q0
  go_wp2_with fail
  have q2 := He2.out _ (hv.below HE.out) (hv2.below HE.out)
  rw [H2.out] at q2
  refine q2.mono ?_
  rintro e w' ⟨rfl, rfl⟩
  clear q2
  go_wp2_with fail
  go_ret
  exact ⟨rfl, HE.out⟩

theorem cellsame_any (a b : CellV) (w : World) (ha : a.In w) (hb : b.In w) : Calls Tryz.prog 27 #[a.val, b.val] w fun e w' => e = .returned (.bool (a.x.same b.x)) ∧ Below w.heap.size w w' := by
  obtain ⟨ka, kc, va, vc, ⟨key, size, val, over, kid⟩⟩ := a
  obtain ⟨kb, kd, vb, vd, ⟨key2, size2, val2, over2, kid2⟩⟩ := b
  simp only [Cl.same, CellV.val, CellV.cells]
  cases h0 : (key == key2) with
  | false =>
    simp only [Bool.true_and, Bool.and_false, Bool.false_and, Bool.and_self]
    exact same_0 ka kc va vc key size val over kid kb kd vb vd key2 size2 val2 over2 kid2 w ha.kr ha.vr hb.kr hb.vr h0
  | true =>
    cases h1 : (size == size2) with
    | false =>
      simp only [Bool.true_and, Bool.and_false, Bool.false_and, Bool.and_self]
      exact same_1 ka kc va vc key size val over kid kb kd vb vd key2 size2 val2 over2 kid2 w ha.kr ha.vr hb.kr hb.vr h0 h1
    | true =>
      cases h2 : (val == val2) with
      | false =>
        simp only [Bool.true_and, Bool.and_false, Bool.false_and, Bool.and_self]
        exact same_2 ka kc va vc key size val over kid kb kd vb vd key2 size2 val2 over2 kid2 w ha.kr ha.vr hb.kr hb.vr h0 h1 h2
      | true =>
        cases h3 : ((over : Int) == (over2 : Int)) with
        | false =>
          simp only [Bool.true_and, Bool.and_false, Bool.false_and, Bool.and_self]
          exact same_3 ka kc va vc key size val over kid kb kd vb vd key2 size2 val2 over2 kid2 w ha.kr ha.vr hb.kr hb.vr h0 h1 h2 h3
        | true =>
          cases h4 : ((kid : Int) == (kid2 : Int)) with
          | false =>
            simp only [Bool.true_and, Bool.and_false, Bool.false_and, Bool.and_self]
            exact same_4 ka kc va vc key size val over kid kb kd vb vd key2 size2 val2 over2 kid2 w ha.kr ha.vr hb.kr hb.vr h0 h1 h2 h3 h4
          | true =>
            simp only [Bool.and_self]
            exact same_5 ka kc va vc key size val over kid kb kd vb vd key2 size2 val2 over2 kid2 w ha.kr ha.vr hb.kr hb.vr h0 h1 h2 h3 h4

set_option maxRecDepth 100000 in
set_option maxHeartbeats 1000000 in
theorem refsame_0 (ka : Option Addr) (kc : Nat) (va : Option Addr) (vc : Nat) (key : List UInt8) (size : Int) (val : List UInt8) (over kid : Nat) (kb : Option Addr) (kd : Nat) (vb : Option Addr) (vd : Nat) (key2 : List UInt8) (size2 : Int) (val2 : List UInt8) (over2 kid2 : Nat) (w : World) (hk : RdB w ka key) (hv : RdB w va val) (hk2 : RdB w kb key2) (hv2 : RdB w vb val2)  (h0 : (key == key2) = false) :
    Calls Tryz.prog 28 #[.agg #[.slice ka key.length kc, .int .i64 size, .slice va val.length vc, .int .u32 (over : Int), .int .u32 (kid : Int)], .agg #[.slice kb key2.length kd, .int .i64 size2, .slice vb val2.length vd, .int .u32 (over2 : Int), .int .u32 (kid2 : Int)]] w fun e w' => e = .returned (.bool false) ∧ Below w.heap.size w w' := by
  have hE := Ext.tr (Ext.alloc w (.cells #[.slice ka key.length kc, .int .i64 size, .slice va val.length vc, .int .u32 (over : Int), .int .u32 (kid : Int)] 43)) (Ext.alloc _ (.cells #[.slice kb key2.length kd, .int .i64 size2, .slice vb val2.length vd, .int .u32 (over2 : Int), .int .u32 (kid2 : Int)] 43))
  have r0 := run_str _ 25 9 5 ka key kc Tryz.underlying25 Tryz.underlying5 Tryz.underlying9 (hk.below hE) key.length rfl
  have r1 := run_str _ 25 9 5 kb key2 kd Tryz.underlying25 Tryz.underlying5 Tryz.underlying9 (hk2.below hE) key2.length rfl
  have r2 := run_str _ 25 9 5 va val vc Tryz.underlying25 Tryz.underlying5 Tryz.underlying9 (hv.below hE) val.length rfl
  have r3 := run_str _ 25 9 5 vb val2 vd Tryz.underlying25 Tryz.underlying5 Tryz.underlying9 (hv2.below hE) val2.length rfl
  have HE := Lib.hid hE
  clear hE
  have n0 : ¬ key = key2 := by simpa using h0
  clear h0
  go_enter Tryz.func28, Tryz.ntmps28
  go_wp2_with fail
  go_ret
  exact ⟨rfl, HE.out⟩

set_option maxRecDepth 100000 in
set_option maxHeartbeats 1000000 in
theorem refsame_1 (ka : Option Addr) (kc : Nat) (va : Option Addr) (vc : Nat) (key : List UInt8) (size : Int) (val : List UInt8) (over kid : Nat) (kb : Option Addr) (kd : Nat) (vb : Option Addr) (vd : Nat) (key2 : List UInt8) (size2 : Int) (val2 : List UInt8) (over2 kid2 : Nat) (w : World) (hk : RdB w ka key) (hv : RdB w va val) (hk2 : RdB w kb key2) (hv2 : RdB w vb val2) (h0 : (key == key2) = true) (h1 : (size == size2) = false) :
    Calls Tryz.prog 28 #[.agg #[.slice ka key.length kc, .int .i64 size, .slice va val.length vc, .int .u32 (over : Int), .int .u32 (kid : Int)], .agg #[.slice kb key2.length kd, .int .i64 size2, .slice vb val2.length vd, .int .u32 (over2 : Int), .int .u32 (kid2 : Int)]] w fun e w' => e = .returned (.bool false) ∧ Below w.heap.size w w' := by
  obtain rfl : key = key2 := by simpa using h0
  clear h0
  have hE := Ext.tr (Ext.alloc w (.cells #[.slice ka key.length kc, .int .i64 size, .slice va val.length vc, .int .u32 (over : Int), .int .u32 (kid : Int)] 43)) (Ext.alloc _ (.cells #[.slice kb key.length kd, .int .i64 size2, .slice vb val2.length vd, .int .u32 (over2 : Int), .int .u32 (kid2 : Int)] 43))
  have r0 := run_str _ 25 9 5 ka key kc Tryz.underlying25 Tryz.underlying5 Tryz.underlying9 (hk.below hE) key.length rfl
  have r1 := run_str _ 25 9 5 kb key kd Tryz.underlying25 Tryz.underlying5 Tryz.underlying9 (hk2.below hE) key.length rfl
  have r2 := run_str _ 25 9 5 va val vc Tryz.underlying25 Tryz.underlying5 Tryz.underlying9 (hv.below hE) val.length rfl
  have r3 := run_str _ 25 9 5 vb val2 vd Tryz.underlying25 Tryz.underlying5 Tryz.underlying9 (hv2.below hE) val2.length rfl
  have HE := Lib.hid hE
  clear hE
  go_enter Tryz.func28, Tryz.ntmps28
  go_wp2_with fail
  go_ret
  exact ⟨rfl, HE.out⟩

set_option maxRecDepth 100000 in
set_option maxHeartbeats 1000000 in
theorem refsame_2 (ka : Option Addr) (kc : Nat) (va : Option Addr) (vc : Nat) (key : List UInt8) (size : Int) (val : List UInt8) (over kid : Nat) (kb : Option Addr) (kd : Nat) (vb : Option Addr) (vd : Nat) (key2 : List UInt8) (size2 : Int) (val2 : List UInt8) (over2 kid2 : Nat) (w : World) (hk : RdB w ka key) (hv : RdB w va val) (hk2 : RdB w kb key2) (hv2 : RdB w vb val2) (h0 : (key == key2) = true) (h1 : (size == size2) = true) (h2 : (val == val2) = false) :
    Calls Tryz.prog 28 #[.agg #[.slice ka key.length kc, .int .i64 size, .slice va val.length vc, .int .u32 (over : Int), .int .u32 (kid : Int)], .agg #[.slice kb key2.length kd, .int .i64 size2, .slice vb val2.length vd, .int .u32 (over2 : Int), .int .u32 (kid2 : Int)]] w fun e w' => e = .returned (.bool false) ∧ Below w.heap.size w w' := by
  obtain rfl : key = key2 := by simpa using h0
  clear h0
  have hE := Ext.tr (Ext.alloc w (.cells #[.slice ka key.length kc, .int .i64 size, .slice va val.length vc, .int .u32 (over : Int), .int .u32 (kid : Int)] 43)) (Ext.alloc _ (.cells #[.slice kb key.length kd, .int .i64 size2, .slice vb val2.length vd, .int .u32 (over2 : Int), .int .u32 (kid2 : Int)] 43))
  have r0 := run_str _ 25 9 5 ka key kc Tryz.underlying25 Tryz.underlying5 Tryz.underlying9 (hk.below hE) key.length rfl
  have r1 := run_str _ 25 9 5 kb key kd Tryz.underlying25 Tryz.underlying5 Tryz.underlying9 (hk2.below hE) key.length rfl
  have r2 := run_str _ 25 9 5 va val vc Tryz.underlying25 Tryz.underlying5 Tryz.underlying9 (hv.below hE) val.length rfl
  have r3 := run_str _ 25 9 5 vb val2 vd Tryz.underlying25 Tryz.underlying5 Tryz.underlying9 (hv2.below hE) val2.length rfl
  have HE := Lib.hid hE
  clear hE
  have n2 : ¬ val = val2 := by simpa using h2
  clear h2
  go_enter Tryz.func28, Tryz.ntmps28
  go_wp2_with fail
  go_ret
  exact ⟨rfl, HE.out⟩

set_option maxRecDepth 100000 in
set_option maxHeartbeats 1000000 in
theorem refsame_3 (ka : Option Addr) (kc : Nat) (va : Option Addr) (vc : Nat) (key : List UInt8) (size : Int) (val : List UInt8) (over kid : Nat) (kb : Option Addr) (kd : Nat) (vb : Option Addr) (vd : Nat) (key2 : List UInt8) (size2 : Int) (val2 : List UInt8) (over2 kid2 : Nat) (w : World) (hk : RdB w ka key) (hv : RdB w va val) (hk2 : RdB w kb key2) (hv2 : RdB w vb val2) (h0 : (key == key2) = true) (h1 : (size == size2) = true) (h2 : (val == val2) = true) (h3 : ((over : Int) == (over2 : Int)) = false) :
    Calls Tryz.prog 28 #[.agg #[.slice ka key.length kc, .int .i64 size, .slice va val.length vc, .int .u32 (over : Int), .int .u32 (kid : Int)], .agg #[.slice kb key2.length kd, .int .i64 size2, .slice vb val2.length vd, .int .u32 (over2 : Int), .int .u32 (kid2 : Int)]] w fun e w' => e = .returned (.bool false) ∧ Below w.heap.size w w' := by
  obtain rfl : key = key2 := by simpa using h0
  clear h0
  obtain rfl : val = val2 := by simpa using h2
  clear h2
  have hE := Ext.tr (Ext.alloc w (.cells #[.slice ka key.length kc, .int .i64 size, .slice va val.length vc, .int .u32 (over : Int), .int .u32 (kid : Int)] 43)) (Ext.alloc _ (.cells #[.slice kb key.length kd, .int .i64 size2, .slice vb val.length vd, .int .u32 (over2 : Int), .int .u32 (kid2 : Int)] 43))
  have r0 := run_str _ 25 9 5 ka key kc Tryz.underlying25 Tryz.underlying5 Tryz.underlying9 (hk.below hE) key.length rfl
  have r1 := run_str _ 25 9 5 kb key kd Tryz.underlying25 Tryz.underlying5 Tryz.underlying9 (hk2.below hE) key.length rfl
  have r2 := run_str _ 25 9 5 va val vc Tryz.underlying25 Tryz.underlying5 Tryz.underlying9 (hv.below hE) val.length rfl
  have r3 := run_str _ 25 9 5 vb val vd Tryz.underlying25 Tryz.underlying5 Tryz.underlying9 (hv2.below hE) val.length rfl
  have HE := Lib.hid hE
  clear hE
  go_enter Tryz.func28, Tryz.ntmps28
  go_wp2_with fail
  go_ret
  exact ⟨rfl, HE.out⟩

set_option maxRecDepth 100000 in
set_option maxHeartbeats 1000000 in
theorem refsame_4 (ka : Option Addr) (kc : Nat) (va : Option Addr) (vc : Nat) (key : List UInt8) (size : Int) (val : List UInt8) (over kid : Nat) (kb : Option Addr) (kd : Nat) (vb : Option Addr) (vd : Nat) (key2 : List UInt8) (size2 : Int) (val2 : List UInt8) (over2 kid2 : Nat) (w : World) (hk : RdB w ka key) (hv : RdB w va val) (hk2 : RdB w kb key2) (hv2 : RdB w vb val2) (h0 : (key == key2) = true) (h1 : (size == size2) = true) (h2 : (val == val2) = true) (h3 : ((over : Int) == (over2 : Int)) = true) (h4 : ((kid : Int) == (kid2 : Int)) = false) :
    Calls Tryz.prog 28 #[.agg #[.slice ka key.length kc, .int .i64 size, .slice va val.length vc, .int .u32 (over : Int), .int .u32 (kid : Int)], .agg #[.slice kb key2.length kd, .int .i64 size2, .slice vb val2.length vd, .int .u32 (over2 : Int), .int .u32 (kid2 : Int)]] w fun e w' => e = .returned (.bool false) ∧ Below w.heap.size w w' := by
  obtain rfl : key = key2 := by simpa using h0
  clear h0
  obtain rfl : val = val2 := by simpa using h2
  clear h2
  have hE := Ext.tr (Ext.alloc w (.cells #[.slice ka key.length kc, .int .i64 size, .slice va val.length vc, .int .u32 (over : Int), .int .u32 (kid : Int)] 43)) (Ext.alloc _ (.cells #[.slice kb key.length kd, .int .i64 size2, .slice vb val.length vd, .int .u32 (over2 : Int), .int .u32 (kid2 : Int)] 43))
  have r0 := run_str _ 25 9 5 ka key kc Tryz.underlying25 Tryz.underlying5 Tryz.underlying9 (hk.below hE) key.length rfl
  have r1 := run_str _ 25 9 5 kb key kd Tryz.underlying25 Tryz.underlying5 Tryz.underlying9 (hk2.below hE) key.length rfl
  have r2 := run_str _ 25 9 5 va val vc Tryz.underlying25 Tryz.underlying5 Tryz.underlying9 (hv.below hE) val.length rfl
  have r3 := run_str _ 25 9 5 vb val vd Tryz.underlying25 Tryz.underlying5 Tryz.underlying9 (hv2.below hE) val.length rfl
  have HE := Lib.hid hE
  clear hE
  go_enter Tryz.func28, Tryz.ntmps28
  go_wp2_with fail
  go_ret
  exact ⟨rfl, HE.out⟩

set_option maxRecDepth 100000 in
set_option maxHeartbeats 1000000 in
theorem refsame_5 (ka : Option Addr) (kc : Nat) (va : Option Addr) (vc : Nat) (key : List UInt8) (size : Int) (val : List UInt8) (over kid : Nat) (kb : Option Addr) (kd : Nat) (vb : Option Addr) (vd : Nat) (key2 : List UInt8) (size2 : Int) (val2 : List UInt8) (over2 kid2 : Nat) (w : World) (hk : RdB w ka key) (hv : RdB w va val) (hk2 : RdB w kb key2) (hv2 : RdB w vb val2) (h0 : (key == key2) = true) (h1 : (size == size2) = true) (h2 : (val == val2) = true) (h3 : ((over : Int) == (over2 : Int)) = true) (h4 : ((kid : Int) == (kid2 : Int)) = true) :
    Calls Tryz.prog 28 #[.agg #[.slice ka key.length kc, .int .i64 size, .slice va val.length vc, .int .u32 (over : Int), .int .u32 (kid : Int)], .agg #[.slice kb key2.length kd, .int .i64 size2, .slice vb val2.length vd, .int .u32 (over2 : Int), .int .u32 (kid2 : Int)]] w fun e w' => e = .returned (.bool true) ∧ Below w.heap.size w w' := by
  obtain rfl : key = key2 := by simpa using h0
  clear h0
  obtain rfl : val = val2 := by simpa using h2
  clear h2
  have hE := Ext.tr (Ext.alloc w (.cells #[.slice ka key.length kc, .int .i64 size, .slice va val.length vc, .int .u32 (over : Int), .int .u32 (kid : Int)] 43)) (Ext.alloc _ (.cells #[.slice kb key.length kd, .int .i64 size2, .slice vb val.length vd, .int .u32 (over2 : Int), .int .u32 (kid2 : Int)] 43))
  have r0 := run_str _ 25 9 5 ka key kc Tryz.underlying25 Tryz.underlying5 Tryz.underlying9 (hk.below hE) key.length rfl
  have r1 := run_str _ 25 9 5 kb key kd Tryz.underlying25 Tryz.underlying5 Tryz.underlying9 (hk2.below hE) key.length rfl
  have r2 := run_str _ 25 9 5 va val vc Tryz.underlying25 Tryz.underlying5 Tryz.underlying9 (hv.below hE) val.length rfl
  have r3 := run_str _ 25 9 5 vb val vd Tryz.underlying25 Tryz.underlying5 Tryz.underlying9 (hv2.below hE) val.length rfl
  have HE := Lib.hid hE
  clear hE
  go_enter Tryz.func28, Tryz.ntmps28
  go_wp2_with fail
  go_ret
  exact ⟨rfl, HE.out⟩

theorem ref_cellsame (a b : CellV) (w : World) (ha : a.In w) (hb : b.In w) : Calls Tryz.prog 28 #[a.val, b.val] w fun e w' => e = .returned (.bool (a.x.same b.x)) ∧ Below w.heap.size w w' := by
  obtain ⟨ka, kc, va, vc, ⟨key, size, val, over, kid⟩⟩ := a
  obtain ⟨kb, kd, vb, vd, ⟨key2, size2, val2, over2, kid2⟩⟩ := b
  simp only [Cl.same, CellV.val, CellV.cells]
  cases h0 : (key == key2) with
  | false =>
    simp only [Bool.true_and, Bool.and_false, Bool.false_and, Bool.and_self]
    exact refsame_0 ka kc va vc key size val over kid kb kd vb vd key2 size2 val2 over2 kid2 w ha.kr ha.vr hb.kr hb.vr h0
  | true =>
    cases h1 : (size == size2) with
    | false =>
      simp only [Bool.true_and, Bool.and_false, Bool.false_and, Bool.and_self]
      exact refsame_1 ka kc va vc key size val over kid kb kd vb vd key2 size2 val2 over2 kid2 w ha.kr ha.vr hb.kr hb.vr h0 h1
    | true =>
      cases h2 : (val == val2) with
      | false =>
        simp only [Bool.true_and, Bool.and_false, Bool.false_and, Bool.and_self]
        exact refsame_2 ka kc va vc key size val over kid kb kd vb vd key2 size2 val2 over2 kid2 w ha.kr ha.vr hb.kr hb.vr h0 h1 h2
      | true =>
        cases h3 : ((over : Int) == (over2 : Int)) with
        | false =>
          simp only [Bool.true_and, Bool.and_false, Bool.false_and, Bool.and_self]
          exact refsame_3 ka kc va vc key size val over kid kb kd vb vd key2 size2 val2 over2 kid2 w ha.kr ha.vr hb.kr hb.vr h0 h1 h2 h3
        | true =>
          cases h4 : ((kid : Int) == (kid2 : Int)) with
          | false =>
            simp only [Bool.true_and, Bool.and_false, Bool.false_and, Bool.and_self]
            exact refsame_4 ka kc va vc key size val over kid kb kd vb vd key2 size2 val2 over2 kid2 w ha.kr ha.vr hb.kr hb.vr h0 h1 h2 h3 h4
          | true =>
            simp only [Bool.and_self]
            exact refsame_5 ka kc va vc key size val over kid kb kd vb vd key2 size2 val2 over2 kid2 w ha.kr ha.vr hb.kr hb.vr h0 h1 h2 h3 h4

end Go.Proofs.YtkpagmfaccmiaaaGreat
