
/- Contracts of the reference's functions for sums (scowref02): what is put, and checked. -/

import Derived.Test.YtpabbackiobefaaCrcRef

import Derived.Test.YtpabbackiobefaaVintNum

import Derived.Test.YtpabbackiobefaaReg2

namespace Go.Proofs.Ytpabbackiobefaa

open Go.RowKit



theorem four_cells (n : Nat) (h : n < 4294967296) : bvs (Crc.four n) = [Value.int .u8 ((n : Int) / 16777216), .int .u8 ((n : Int) / 65536 % 256), .int .u8 ((n : Int) / 256 % 256), .int .u8 ((n : Int) % 256)] := by
  have h1 := byte_top n 16777216 (by omega)
  have h2 := byte_div n 65536
  have h3 := byte_div n 256
  have h4 := byte0 n
  simp only [Crc.four, bvs, List.map_cons, List.map_nil, bv, ← h1, ← h2, ← h3, ← h4]
  rfl

set_option maxHeartbeats 400000 in
theorem ref_put (A : Option Addr) (bs : List UInt8) (cap : Nat) (w : World) (hA : RdB w A bs) (hl : bs.length ≤ 1000000) :
    Calls Try.prog 26 #[.slice A bs.length cap] w fun e w' => ∃ A' c', e = .returned (.slice A' (Crc.put bs).length c') ∧ Own w' w.heap.size 5 1 A' (Crc.put bs).length c' (bvs (Crc.put bs)) ∧ Below w.heap.size w w' := by
  have H := Lib.hid (ref_sum A bs cap w hA (by omega))
  have hs := Crc.sum_lt bs
  have hA1 := hA.below (((Below.refl w.heap.size w).alloc (Nat.le_refl _) (.cells #[] 5)))
  go_enter Try.func26, Try.ntmps26
  go_wp2_with (first
    | (go_at_call 35; refine H.out.mono ?_; rintro e w' ⟨rfl, rfl⟩)
    | (at_builtin; refine wpList_app rfl (.tmp 6) (.tmp 7) 23 rfl elemB w.heap.size _ 0 0 [] rfl A bs.length cap (bvs bs) rfl bs.length (by omega) (bvs bs) rfl (Own.none_ _ _ _ _ _) hA1 (bvs_one _) (by omega) (by omega) (by simp) ?_; intro A1 c1 w1 ho1 hg1 hr1)
    | (at_builtin; refine wpList_app rfl (.tmp 8) (.tmp 20) 23 rfl elemB w.heap.size A1 bs.length c1 (bvs bs) rfl (some ⟨w1.heap.size, 0, none⟩) 4 4 _ rfl (Crc.put bs).length (Crc.put_len bs) (bvs (Crc.put bs)) ?hz (ho1.below ((Below.refl _ _).alloc (Nat.le_refl _) _)) (Rd.new w1 _ _) ?h1 ?hb (by rw [Crc.put_len]; omega) ?hB ?_))
  case hz => simp only [Crc.put, bvs_app, four_cells _ hs]
  case h1 => intro u hu; simp only [List.mem_cons, List.not_mem_nil, or_false] at hu; rcases hu with rfl | rfl | rfl | rfl <;> rfl
  case hb => simp only [Nat.mul_one]; rw [Crc.put_len]; omega
  case hB => have := hg1.size; simp at this ⊢; omega
  intro A2 c2 w2 ho2 hg2 hr2
  go_wp2
  go_ret
  have hb1 := below_app (((Below.refl w.heap.size w).alloc (Nat.le_refl _) (.cells #[] 5))) (Own.none_ _ _ 5 1 (some ⟨w.heap.size, 0, none⟩)) hg1 (by simp)
  exact ⟨A2, c2, rfl, ho2, below_app (hb1.alloc hb1.size _) (ho1.below ((Below.refl _ _).alloc (Nat.le_refl _) _)) hg2 (by have := hb1.size; simp; omega)⟩

end Go.Proofs.Ytpabbackiobefaa
