
/- Contracts of the library's slices.Clone, slices.Grow (of nil), slices.Concat at bytes. -/

import Derived.Test.YtnagbhaknmoilaaProg

import Derived.Test.YtnagbhaknmoilaaVintNum

import Derived.WalkSpells

namespace Go.Proofs.Ytnagbhaknmoilaa

open Go.RowKit

theorem RdB.none_nil {w : World} {bs : List UInt8} (h : RdB w none bs) : bs = [] := by
  rcases bs with _ | ⟨b, l⟩
  · rfl
  · obtain ⟨ad, e, _⟩ := h.2 (by simp [bvs])
    cases e

set_option maxHeartbeats 400000 in
theorem clone_any (A : Option Addr) (bs : List UInt8) (cap : Nat) (w : World) (hA : RdB w A bs) (hl : bs.length ≤ 140737488355328) :
    Calls Try.prog 36 #[.slice A bs.length cap] w fun e w' => ∃ A' c', e = .returned (.slice A' bs.length c') ∧ Own w' w.heap.size 5 1 A' bs.length c' (bvs bs) ∧ Below w.heap.size w w' := by
  have hnil := fun (W : World) (a : Option Addr) (n c : Nat) => Lib.run_eql_slice_nil (P := Try.prog) W 22 5 a n c 0 0 Try.underlying22
  have hA1 := hA.below (((Below.refl w.heap.size w).alloc (Nat.le_refl _) (.cells #[] 5)))
  rcases A with _ | ad
  · obtain rfl := hA.none_nil
    go_enter Try.func36, Try.ntmps36
    go_wp2
    go_ret
    exact ⟨none, 0, rfl, Own.none_ _ _ _ _ _, Below.refl _ _⟩
  · go_enter Try.func36, Try.ntmps36
    go_wp2_with (at_builtin; refine wpList_app rfl (.tmp 5) (.tmp 6) 22 rfl elemB w.heap.size _ 0 0 [] rfl (some ad) bs.length cap (bvs bs) rfl bs.length (by omega) (bvs bs) rfl (Own.none_ _ _ _ _ _) hA1 (bvs_one _) (by omega) (by omega) (by simp) ?_; intro A1 c1 w1 ho1 hg1 hr1)
    go_ret
    exact ⟨A1, c1, rfl, ho1, below_app (((Below.refl w.heap.size w).alloc (Nat.le_refl _) (.cells #[] 5))) (Own.none_ _ _ 5 1 (some ⟨w.heap.size, 0, none⟩)) hg1 (by simp)⟩
end Go.Proofs.Ytnagbhaknmoilaa
