
/- Contract: ops.Undo. -/

import Derived.Test.YtdekdblebflklaaOpDiff

namespace Go.Proofs.Ytdekdblebflklaa

open Go.RowKit

attribute [local go_sem] Oper.semAt_some

def UndoP (l : List EnV) (o : List OpV) (w : World) (e : Ending) (w' : World) : Prop :=
  ∃ A' D c', e = .returned (.slice A' (D : List OpV).length c') ∧ D.map OpV.x = Opn.diff (Opn.apply (l.map EnV.x) (o.map OpV.x)) (l.map EnV.x) ∧ RdO w' A' D ∧ D.length ≤ c' ∧ D.length ≤ 2 * l.length + o.length ∧ Below w.heap.size w w'
theorem undo_any (A : Option Addr) (l : List EnV) (c : Nat) (B : Option Addr) (o : List OpV) (d : Nat) (w : World) (hA : RdE w A l) (hB : RdO w B o) (hu : UpK EnV.key l) (hc : l.length ≤ c) (hl : l.length ≤ 100000) (ho : o.length ≤ 100000) :
    Calls Try.prog 26 #[.slice A l.length c, .slice B o.length d] w (UndoP l o w) := by
  go_enter Try.func26, Try.ntmps26
  go_wp2_with (first | (go_at_call 17; refine (apply_any A l c B o d _ hA hB hu hl ho).mono ?_; rintro e1 w1 ⟨A1, L, c1, rfl, hx, hup, hlen, hrd, hcap, hin, hb1⟩) | (go_at_call 14; refine (diff_any A1 L c1 A l c _ hrd (hA.below hb1) hcap hc (by omega) (by omega)).mono ?_; rintro e2 w2 ⟨A2, D, c2, rfl, hd, hrd2, hcap2, hin2, hlen2, hb2⟩))
  go_ret
  exact ⟨A2, D, c2, rfl, by rw [hd, hx], hrd2, hcap2, by omega, ext_trans hb1 hb2⟩
end Go.Proofs.Ytdekdblebflklaa
