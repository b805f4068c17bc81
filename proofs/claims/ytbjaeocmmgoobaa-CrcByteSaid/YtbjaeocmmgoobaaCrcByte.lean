/- The law on one byte that is another one: the walk returns true and changes nothing that was there. -/
import Derived.Test.YtbjaeocmmgoobaaCrcLive
import Derived.Test.YtbjaeocmmgoobaaCrcErr
namespace Go.Proofs.Ytbjaeocmmgoobaa
open Go.RowKit

set_option maxHeartbeats 1000000 in
theorem walkCrcByte (w : World) (A : Option Addr) (p : List UInt8) (cp : Nat) (hA : RdB w A p) (_hcp : p.length ≤ cp) (at_ : Int) (hat : (Lit.int .i64 at_).wf = true) (x : Int) (hx : (Lit.int .u8 x).wf = true) :
    Calls Try.prog 7 #[.slice A p.length cp, .int .i64 at_, .int .u8 x] w fun e w' => e = .returned (.bool true) ∧ Below w.heap.size w w' := by
  obtain ⟨b, rfl⟩ := wf_byte hx
  obtain ⟨hat1, hat2⟩ := wf_int hat
  have live : Hid (Calls Try.prog 8 #[] w fun e w' => e = .returned (.bool true) ∧ Below w.heap.size w w') := live02 w
  clear hx hat
  by_cases h1 : p.length ≤ 3000
  · by_cases h2 : at_ < 0
    · go_enter Try.func7, Try.ntmps7
      go_wp2_with (go_at_call 8; refine live.out.mono ?_; rintro e w3 ⟨rfl, hb3⟩)
      go_ret
      exact ⟨rfl, hb3⟩
    · obtain ⟨i, rfl⟩ := Int.eq_ofNat_of_zero_le (show 0 ≤ at_ by omega)
      by_cases h3 : p.length + 4 ≤ i
      · go_enter Try.func7, Try.ntmps7
        go_wp2_with (go_at_call 8; refine live.out.mono ?_; rintro e w3 ⟨rfl, hb3⟩)
        go_ret
        exact ⟨rfl, hb3⟩
      · by_cases h4 : b = 0
        · subst h4
          rw [show ((0 : UInt8).toNat : Int) = 0 from rfl]
          go_enter Try.func7, Try.ntmps7
          go_wp2_with (go_at_call 8; refine live.out.mono ?_; rintro e w3 ⟨rfl, hb3⟩)
          all_goals
            go_ret
            exact ⟨rfl, hb3⟩
        · have hb0 : ((b.toNat : Int) == 0) = false := by
            rw [beq_eq_false_iff_ne]
            intro h
            exact h4 (by rw [← UInt8.toNat_inj]; simpa using h)
          have hpl := Crc.put_len p
          have hi : i < (Crc.put p).length := by omega
          have hlen : (((Crc.put p).length : Int) != (p.length : Int) + 4) = false := by rw [hpl]; simp
          have hno := Lib.hid (Crc.byte_not_ok p i hi b h4)
          have Hpl := Lib.hid hpl
          have H4 := Lib.hid h4
          clear hpl h4
          go_enter Try.func7, Try.ntmps7
          go_wp2_with fail
          all_goals
            refine (put_any A p cp w hA (by omega)).mono ?_
            rintro e w1 ⟨A1, c1, rfl, ho1, hb1⟩
            go_wp2_with fail
            refine (check_any A1 (Crc.put p) c1 w1 ho1.rd' (by rw [Hpl.out]; omega) ho1.nc).mono ?_
            rintro e w2 ⟨A2, c2, rfl, ho2, hb2⟩
            rw [Crc.got_put] at ho2
            rw [Crc.got_put, Crc.ok_put]
            have hbw2 := ext_trans hb1 hb2
            have cv1 := run_str w2 22 9 5 A2 p c2 Try.underlying22 Try.underlying5 Try.underlying9 ho2.rd' p.length rfl
            have cv2 := run_str w2 22 9 5 A p cp Try.underlying22 Try.underlying5 Try.underlying9 (hA.below hbw2) p.length rfl
            have ho1' := (ho1.below hb2).rd'.below (Ext.alloc w2 (.cells #[] 5))
            go_wp2_with (at_builtin; refine wpList_app rfl (.tmp 61) (.tmp 62) 22 rfl elemB w2.heap.size _ 0 0 [] rfl A1 (Crc.put p).length c1 (bvs (Crc.put p)) rfl (Crc.put p).length (by omega) (bvs (Crc.put p)) rfl (Own.none_ _ _ _ _ _) ho1' (bvs_one _) (by rw [Hpl.out]; omega) (by rw [Hpl.out]; omega) (by simp) ?_; intro A3 c3 w3 ho3 hg3 hr3; have hb3 := below_app (Ext.alloc w2 (.cells #[] 5)) (Own.none_ _ _ 5 1 (some ⟨w2.heap.size, 0, none⟩)) hg3 (by simp); clear hg3 hr3 ho1'; obtain ⟨ad, rfl, hcell, hfr, hbase, hrow, hset⟩ := ho3.setB hi; have hx8 := x8 (Crc.put p)[i] b; have Hrow := Lib.hid hrow; clear hrow)
            have ho4 := hset ((Crc.put p)[i] ^^^ b)
            clear hset
            have hb4 := hb3.setCell hbase (.int .u8 ((((Crc.put p)[i] ^^^ b).toNat : Nat) : Int))
            have h5 := check_any (some ad) ((Crc.put p).set i ((Crc.put p)[i] ^^^ b)) c3 _ ho4.rd' (by rw [List.length_set, Hpl.out]; omega) (by rw [List.length_set]; exact ho4.nc)
            rw [List.length_set, hno.out] at h5
            refine h5.mono ?_
            rintro e w5 ⟨A5, c5, rfl, ho5, hb5⟩
            go_wp2_with fail
            refine (live02 w5).mono ?_
            rintro e w6 ⟨rfl, hb6⟩
            go_wp2
            go_ret
            exact ⟨rfl, ext_trans hbw2 (ext_trans (ext_trans hb4 hb5) hb6)⟩
  · go_enter Try.func7, Try.ntmps7
    go_wp2_with (go_at_call 8; refine live.out.mono ?_; rintro e w3 ⟨rfl, hb3⟩)
    go_ret
    exact ⟨rfl, hb3⟩
end Go.Proofs.Ytbjaeocmmgoobaa
