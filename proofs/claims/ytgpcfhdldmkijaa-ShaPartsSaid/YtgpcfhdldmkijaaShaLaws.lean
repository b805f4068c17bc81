/- Two laws on digests: the walks return true and change nothing that was there. -/
import Derived.Test.YtgpcfhdldmkijaaShaLive
import Derived.Test.YtgpcfhdldmkijaaShaRefSum
namespace Go.Proofs.Ytgpcfhdldmkijaa
open Go.RowKit
attribute [local go_sem] Oper.semAt_some

set_option maxRecDepth 100000 in
theorem write_nil (A : Option Addr) (n c : Nat) (w : World) : Calls Try.prog 12 #[.pointer none, .slice A n c] w fun e w' => e = .returned (.int .i64 0) ∧ w = w' := by
  go_enter Try.func12, Try.ntmps12
  go_wp2
  go_ret
  exact ⟨rfl, rfl⟩
set_option maxRecDepth 100000 in
theorem sum_nil (w : World) : Calls Try.prog 13 #[.pointer none] w fun e w' => e = .returned (.agg (bvs (List.replicate 32 0)).toArray) ∧ Below w.heap.size w w' := by
  go_enter Try.func13, Try.ntmps13
  go_wp2_with (first | (refine wpList_store_row rfl 25 (.tmp 2) (.tmp 8) rfl w.heap.size Z32 rfl rfl 25 _ (heap_alloc_new w _) infoZ (by rw [Z32_size]; rfl) Z32_one ?_; rw [setRow_alloc]))
  rw [Z32_is]
  refine bodyPost_ret (v := .agg Z32) (results_cell_row rfl _ _ w.heap.size 25 Z32 (0, 0) _ rfl (heap_alloc_new w _) Try.underlying25 rfl infoZ) rfl ⟨rfl, Ext.alloc w _⟩

set_option maxRecDepth 100000 in
set_option maxHeartbeats 1000000 in
theorem walkShaNil (w : World) (A : Option Addr) (p : List UInt8) (cp : Nat) (_hA : RdB w A p) (_hcp : p.length ≤ cp) :
    Calls Try.prog 7 #[.slice A p.length cp] w fun e w' => e = .returned (.bool true) ∧ Below w.heap.size w w' := by
  have heq := fun w' => run_eqTrue (List.replicate 32 0) (by simp) w'
  go_enter Try.func7, Try.ntmps7
  go_wp2_with fail
  refine (write_nil A p.length cp w).mono ?_
  rintro e w' ⟨rfl, rfl⟩
  go_wp2_with fail
  refine (sum_nil w).mono ?_
  rintro e w1 ⟨rfl, hb1⟩
  rw [Z32_is] at heq ⊢
  have heqL : ∀ w', (Op.equalIn 10000 25 (.agg Z32) (.agg #[.int .u8 0, .int .u8 0, .int .u8 0, .int .u8 0, .int .u8 0, .int .u8 0, .int .u8 0, .int .u8 0, .int .u8 0, .int .u8 0, .int .u8 0, .int .u8 0, .int .u8 0, .int .u8 0, .int .u8 0, .int .u8 0, .int .u8 0, .int .u8 0, .int .u8 0, .int .u8 0, .int .u8 0, .int .u8 0, .int .u8 0, .int .u8 0, .int .u8 0, .int .u8 0, .int .u8 0, .int .u8 0, .int .u8 0, .int .u8 0, .int .u8 0, .int .u8 0])).run Try.prog w' = .ok true w' := heq
  go_wp2_with fail
  refine (live03 w1).mono ?_
  rintro e w2 ⟨rfl, hb2⟩
  go_wp2
  go_ret
  exact ⟨rfl, Ext.tr hb1 hb2⟩

set_option maxRecDepth 100000 in
set_option maxHeartbeats 1000000 in
theorem walkShaSums (w : World) (A : Option Addr) (p : List UInt8) (cp : Nat) (hA : RdB w A p) (_hcp : p.length ≤ cp) :
    Calls Try.prog 3 #[.slice A p.length cp] w fun e w' => e = .returned (.bool true) ∧ Below w.heap.size w w' := by
  by_cases h : p.length ≤ 2000
  · have hA0 := hA.below (Ext.alloc w (.cells #[] 5))
    have hE0 := Ext.alloc w (.cells #[] 5)
    have heq := fun w' => run_eqTrue (Sha.sum p) (Sha.sum_len p) w'
    go_enter Try.func3, Try.ntmps3
    go_wp2_with (at_builtin; refine wpList_app rfl (.tmp 7) (.tmp 8) 22 rfl elemB w.heap.size _ 0 0 [] rfl A p.length cp (bvs p) rfl p.length (by omega) (bvs p) rfl (Own.none_ _ _ _ _ _) hA0 (bvs_one _) (by omega) (by omega) (by simp) ?_; intro A1 c1 w1 ho1 hg1 hr1; have hb1 := below_app hE0 (Own.none_ _ _ 5 1 (some ⟨w.heap.size, 0, none⟩)) hg1 (by simp); clear hg1 hr1)
    have hs := sha_sum _ [⟨A1, p, c1⟩] 1 _ (RdL.one w1 22 A1 p c1 ho1.rd') (by simp) (by rw [cat_one]; omega)
    rw [cat_one] at hs
    refine hs.mono ?_
    clear hs
    rintro e w2 ⟨rfl, hb2⟩
    have hB2 : Below w.heap.size w w2 := (hb1.alloc hb1.size _).trans (hb2.mono (by have := hb1.size; simp; omega))
    go_wp2_with fail
    refine (ref_sum A p cp w2 (hA.below hB2) (by omega)).mono ?_
    rintro e w3 ⟨rfl, hb3⟩
    go_wp2_with fail
    refine (live03 w3).mono ?_
    rintro e w4 ⟨rfl, hb4⟩
    go_wp2
    go_ret
    exact ⟨rfl, Ext.tr hB2 (Ext.tr hb3 hb4)⟩
  · go_enter Try.func3, Try.ntmps3
    go_wp2_with fail
    refine (live03 w).mono ?_
    rintro e w4 ⟨rfl, hb4⟩
    go_wp2
    go_ret
    exact ⟨rfl, hb4⟩
end Go.Proofs.Ytgpcfhdldmkijaa
