/- The laws on sums: each walk returns true and changes nothing that was there. -/
import Derived.Test.YtbjaeocmmgoobaaCrcLive
import Derived.Test.YtbjaeocmmgoobaaCrcRef2
import Derived.Test.YtbjaeocmmgoobaaReg
namespace Go.Proofs.Ytbjaeocmmgoobaa
open Go.RowKit

theorem walkCrcMore (w : World) (c : Int) (hc : (Lit.int .u32 c).wf = true) (A : Option Addr) (bs : List UInt8) (cap : Nat) (hA : RdB w A bs) (_hcap : bs.length ≤ cap) :
    Calls Try.prog 5 #[.int .u32 c, .slice A bs.length cap] w fun e w' => e = .returned (.bool true) ∧ Below w.heap.size w w' := by
  obtain ⟨m, rfl, hm⟩ := wf_u32 hc
  by_cases hl : bs.length ≤ 3000
  · go_enter Try.func5, Try.ntmps5
    go_wp2_with fail
    refine (more_any m A bs cap w hm hA (by omega)).mono ?_
    rintro e w1 ⟨rfl, hb1⟩
    go_wp2_with fail
    refine (ref_more m A bs cap w1 hm (hA.below hb1) (by omega)).mono ?_
    rintro e w2 ⟨rfl, rfl⟩
    go_wp2_with fail
    refine (live02 w1).mono ?_
    rintro e w3 ⟨rfl, hb3⟩
    go_wp2
    go_ret
    exact ⟨rfl, ext_trans hb1 hb3⟩
  · go_enter Try.func5, Try.ntmps5
    go_wp2_with fail
    refine (live02 w).mono ?_
    rintro e w3 ⟨rfl, hb3⟩
    go_wp2
    go_ret
    exact ⟨rfl, hb3⟩

end Go.Proofs.Ytbjaeocmmgoobaa
