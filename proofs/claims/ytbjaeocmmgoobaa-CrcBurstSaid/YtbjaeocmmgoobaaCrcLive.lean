/- The laws' own first line (scowlaw02.live): it returns true. -/
import Derived.Test.YtbjaeocmmgoobaaCrcProg3
import Derived.Lib.SlBytesConst
namespace Go.Proofs.Ytbjaeocmmgoobaa
open Go.RowKit

theorem Crc.ok_put (p : List UInt8) : Crc.ok (Crc.put p) = true := by
  have hl := Crc.put_len p
  have hp : p = (Crc.put p).take ((Crc.put p).length - 4) := by rw [hl]; simp [Crc.put]
  rw [Crc.ok_of (p := p) (by omega) hp]
  simp
theorem Crc.got_put (p : List UInt8) : Crc.got (Crc.put p) = p := by
  have hl := Crc.put_len p
  have hp : p = (Crc.put p).take ((Crc.put p).length - 4) := by rw [hl]; simp [Crc.put]
  exact Crc.got_yes hp (Crc.ok_put p)
/-- '[]byte' of a constant: the block of its bytes is marked, wherever it lies. -/
theorem conv_const {P : Program} {t e : TypeId} (ht : P.underlying t = some (.slice e)) (he : P.underlying e = some (.int .u8)) (w : World) (C : Array Value) (n c b : Nat) (hb : b = w.heap.size) :
    (convert t t (.slice (some ⟨b, 0, none⟩) n c)).run P (w.alloc (.cells C e)) = .ok (.slice (some ⟨b, 0, none⟩) n c) (w.alloc (.cells C e (C.size, C.size + 1))) := by
  subst hb
  exact Lib.run_convert_bytes_const w t e C n c ht he

theorem live_no : Crc.ok [97, 98, 99, 100, 101, 102] = false := by decide +kernel
theorem live_sum : Crc.sum [49, 50, 51, 52, 53, 54, 55, 56, 57] = 3808858755 := by decide +kernel

set_option maxHeartbeats 800000 in
theorem live02 (w : World) : Calls Try.prog 8 #[] w fun e w' => e = .returned (.bool true) ∧ Below w.heap.size w w' := by
  have kc := conv_const (P := Try.prog) Try.underlying22 Try.underlying5
  go_enter Try.func8, Try.ntmps8
  go_wp2_with fail
  have r1 : RdB (w.alloc (.cells #[.int .u8 97, .int .u8 98] 5 (2, 3))) (some ⟨w.heap.size, 0, none⟩) [97, 98] := RdB.litF w 5 [97, 98] (2, 3)
  refine (put_any _ [97, 98] 2 _ r1 (by simp)).mono ?_
  rintro e w1 ⟨A1, c1, rfl, ho1, hb1⟩
  clear r1
  go_wp2_with fail
  refine (check_any A1 _ c1 w1 ho1.rd' (by rw [Crc.put_len]; simp) ho1.nc).mono ?_
  rintro e w2 ⟨A2, c2, rfl, ho2, hb2⟩
  rw [Crc.got_put] at ho2
  rw [Crc.got_put, Crc.ok_put]
  go_wp2_with fail
  have r3 : RdB (w2.alloc (.cells #[.int .u8 97, .int .u8 98, .int .u8 99, .int .u8 100, .int .u8 101, .int .u8 102] 5 (6, 7))) (some ⟨w2.heap.size, 0, none⟩) [97, 98, 99, 100, 101, 102] := RdB.litF w2 5 [97, 98, 99, 100, 101, 102] (6, 7)
  refine (check_any _ [97, 98, 99, 100, 101, 102] 6 _ r3 (by simp) (by simp)).mono ?_
  rintro e w3 ⟨A3, c3, rfl, ho3, hb3⟩
  rw [live_no]
  clear r3
  go_wp2_with fail
  have r4 : RdB (w3.alloc (.cells #[.int .u8 49, .int .u8 50, .int .u8 51, .int .u8 52] 5 (4, 5))) (some ⟨w3.heap.size, 0, none⟩) [49, 50, 51, 52] := RdB.litF w3 5 [49, 50, 51, 52] (4, 5)
  have r5 := RdB.litF (w3.alloc (.cells #[.int .u8 49, .int .u8 50, .int .u8 51, .int .u8 52] 5 (4, 5))) 5 [53, 54, 55, 56, 57] (5, 6)
  have r4' := r4.below (Ext.alloc _ (.cells (bvs [53, 54, 55, 56, 57]).toArray 5 (5, 6)))
  have r6 := RdL.two _ 22 _ _ [49, 50, 51, 52] [53, 54, 55, 56, 57] 4 5 r4' r5
  simp only [World.size_alloc] at r6
  have h6 := sum_any _ _ 2 _ r6 (by simp) (by simp [cat])
  rw [cat_two] at h6
  have e6 : [49, 50, 51, 52] ++ [53, 54, 55, 56, 57] = ([49, 50, 51, 52, 53, 54, 55, 56, 57] : List UInt8) := rfl
  rw [e6, live_sum] at h6
  refine h6.mono ?_
  rintro e w4 ⟨rfl, hb4⟩
  clear r4 r5 r4' r6 h6 e6
  go_wp2_with fail
  have r7 := RdB.litF w4 5 [49, 50, 51, 52, 53] (5, 6)
  have r8 := RdL.one _ 22 _ [49, 50, 51, 52, 53] 5 r7
  simp only [World.size_alloc] at r8
  have h8 := sum_any _ _ 1 _ r8 (by simp) (by simp [cat])
  rw [cat_one] at h8
  refine h8.mono ?_
  rintro e w5 ⟨rfl, hb5⟩
  clear r7 r8 h8
  go_wp2_with fail
  have r9 := RdB.litF w5 5 [54, 55, 56, 57] (4, 5)
  have h9 := more_any (Crc.sum [49, 50, 51, 52, 53]) _ [54, 55, 56, 57] 4 _ (Crc.sum_lt _) r9 (by simp)
  have e9 : Crc.more (Crc.sum [49, 50, 51, 52, 53]) [54, 55, 56, 57] = 3808858755 := by unfold Crc.sum; rw [Crc.more_app]; exact live_sum
  rw [e9] at h9
  refine h9.mono ?_
  rintro e w6 ⟨rfl, hb6⟩
  clear r9 h9 e9
  have hb26 : Below w2.heap.size w2 w6 := ext_trans (ext_trans (Ext.alloc w2 _) hb3) (ext_trans (ext_trans (ext_trans (Ext.alloc w3 _) (ext_trans (Ext.alloc _ _) (Ext.alloc _ _))) hb4) (ext_trans (ext_trans (Ext.alloc w4 _) (ext_trans (Ext.alloc _ _) hb5)) (ext_trans (Ext.alloc w5 _) hb6)))
  have hcv := run_str w6 22 9 5 A2 [97, 98] c2 Try.underlying22 Try.underlying5 Try.underlying9 (ho2.below hb26).rd' 2 rfl
  go_wp2
  go_ret
  exact ⟨rfl, ext_trans (ext_trans (Ext.alloc w _) hb1) (ext_trans hb2 hb26)⟩
end Go.Proofs.Ytbjaeocmmgoobaa
