/- Contracts of opening (page.Open, scowref05.Open). UNDER WAY. -/
import Derived.Test.YtphjbemlofdepaaPageProg
import Derived.Laws.ResultCell

namespace Go.Proofs.Ytphjbemlofdepaa
open Go.RowKit
attribute [local go_sem] Oper.semAt_some

theorem results_row_tmp {P : Program} {fn : Func} {p u : Tmp} {ty : TypeId} (h : fn.results = #[.cell p ty, .tmp u]) (tmps : Array Value) (w : World) (g : Nat) (t : TypeId) (cs : Array Value) (fr : Nat × Nat) (d : TypeDesc)
    (hp : tmps.getD p undef = .pointer (some ⟨g, 0, none⟩)) (hg : w.heap[g]? = some (.cells cs t fr))
    (hu : P.underlying ty = some d) (hd : (match d with | .struct _ | .array _ _ => true | _ => false) = true) (hi : (P.info? ty).map (·.size) = some cs.size) :
    (results fn tmps).run P w = .ok (.tuple #[.agg cs, tmps.getD u undef]) w := by
  rw [results_cell_tmp h, hp]
  simp [asAddr, run_loadVar_row w g t ty cs fr d hg hu hd hi, Result.andThen]

def Pg.zero : Pg := ⟨0, 0, none, [], 0⟩
theorem Pg.zero_val : Pg.zero.val = .agg #[.int .i64 0, .int .u64 0, .slice none 0 0] := rfl

set_option maxRecDepth 100000 in
set_option maxHeartbeats 1000000 in
theorem open_short (A : Option Addr) (b : List UInt8) (cap : Nat) (w : World) (_hA : RdB w A b) (hl : b.length ≠ 256) :
    Calls Try.prog 9 #[.slice A b.length cap] w fun e w' => e = .returned (.tuple #[Pg.zero.val, .int .i64 50]) ∧ Below w.heap.size w w' := by
  have h1 : ((b.length : Int) == 256) = false := by rw [beq_eq_false_iff_ne]; omega
  go_enter Try.func9, Try.ntmps9
  go_wp2_with fail
  (try simp only [Exit.inBlock, Exit.then])
  refine bodyPost_ret (results_row_tmp rfl _ _ w.heap.size 25 #[.int .i64 0, .int .u64 0, .slice none 0 0] (0, 0) _ rfl (heap_alloc_new w _) Try.underlying25 rfl (by kernel_rfl)) rfl ?_
  exact ⟨rfl, Ext.alloc w _⟩

set_option maxRecDepth 100000 in
set_option maxHeartbeats 1000000 in
theorem open_check (A : Option Addr) (b : List UInt8) (cap : Nat) (w : World) (hA : RdB w A b) (hc : b.length ≤ cap) (hl : b.length = 256) (hok : Crc.ok b = false) :
    Calls Try.prog 9 #[.slice A b.length cap] w fun e w' => e = .returned (.tuple #[Pg.zero.val, .int .i64 51]) ∧ Below w.heap.size w w' := by
  have h1 : ((b.length : Int) == 256) = true := by rw [beq_iff_eq]; omega
  have hA1 := hA.below (Ext.alloc w (.cells #[.int .i64 0, .int .u64 0, .slice none 0 0] 25))
  have Hl := Lib.hid hl
  clear hl
  go_enter Try.func9, Try.ntmps9
  go_wp2_with fail
  refine (check_any A b cap _ hA1 (by rw [Hl.out]; omega) hc).mono ?_
  rintro e w1 ⟨A1, c1, rfl, ho1, hb1⟩
  rw [hok]
  have hg1 : w1.heap[w.heap.size]? = some (.cells #[.int .i64 0, .int .u64 0, .slice none 0 0] 25 (0, 0)) := (hb1.block _ (by simp)).trans (heap_alloc_new w _)
  go_wp2_with (first | ((refine wpList_store_row rfl 25 (.tmp 2) (.tmp 17) rfl w.heap.size #[.int .i64 0, .int .u64 0, .slice none 0 0] rfl rfl _ _ hg1 (by kernel_rfl) rfl (by kernel_rfl) ?_)))
  have hg2 := setRow_heap w1 w.heap.size _ #[.int .i64 0, .int .u64 0, .slice none 0 0] _ _ hg1

  (try simp only [Exit.inBlock, Exit.then])
  refine bodyPost_ret (results_row_tmp rfl _ _ w.heap.size 25 #[.int .i64 0, .int .u64 0, .slice none 0 0] (0, 0) _ rfl hg2 Try.underlying25 rfl (by kernel_rfl)) rfl ?_
  have h2 := ext_trans (Ext.alloc w _) hb1
  exact ⟨rfl, ⟨h2.os, h2.tape, h2.output, by simpa using h2.size, fun i hi => (setRow_other _ _ _ _ (by omega)).trans (h2.block i hi)⟩⟩
end Go.Proofs.Ytphjbemlofdepaa
