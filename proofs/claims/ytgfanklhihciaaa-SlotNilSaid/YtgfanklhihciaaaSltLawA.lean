
/- Walk of SlotNil (scowlaw06). -/

import Derived.Test.YtgfanklhihciaaaSltLive

namespace Go.Proofs.Ytgfanklhihciaaa

open Go.RowKit

attribute [local go_sem] Oper.semAt_some

set_option maxRecDepth 100000 in
set_option maxHeartbeats 1000000 in
theorem walkSlotNil (w : World) (q : DeV) (_hq : q.In w) :
    Calls Try.prog 6 #[q.val] w fun e w' => e = .returned (.bool true) ∧ Below w.heap.size w w' := by
  go_enter Try.func6, Try.ntmps6
  unfold DeV.val DeV.cells
  have hx1 := Ext.alloc w (.cells #[.int .i64 q.x.kind, .int .i64 q.x.i, .slice q.pa q.x.p.length q.pc] 32)
  go_wp2_with (first
    | (go_at_call 16; refine (pack_nil _).mono ?_; rintro e w' ⟨rfl, rfl⟩)
    | (go_at_call 14; refine (insert_nil _ _ _).mono ?_; rintro e w' ⟨rfl, rfl⟩)
    | (go_at_call 15; refine (delete_nil _ _).mono ?_; rintro e w' ⟨rfl, rfl⟩)
    | (go_at_call 18; refine (blen_nil _).mono ?_; rintro e w' ⟨rfl, rfl⟩)
    | (go_at_call 19; refine (free_nil _).mono ?_; rintro e w' ⟨rfl, rfl⟩)
    | (go_at_call 17; refine (holes_nil _).mono ?_; rintro e w' ⟨rfl, rfl⟩)
    | (go_at_call 20; refine (cell_nil _ _).mono ?_; rintro e w' ⟨rfl, rfl⟩)
    | (go_at_call 22; refine (sbytes_nil _).mono ?_; rintro e w' ⟨rfl, rfl⟩)
    | (go_at_call 13; refine (num06 _ _).mono ?_; rintro e w' ⟨rfl, rfl⟩)
    | (go_at_call 8; refine (live06 _).mono ?_; rintro e w9 ⟨rfl, hx9⟩))
  go_ret
  exact ⟨rfl, Ext.tr hx1 hx9⟩
end Go.Proofs.Ytgfanklhihciaaa
