/- Two laws on sealed pages: the walks return true and change nothing that was there. -/
import Derived.Test.YtphjbemlofdepaaPageLive
namespace Go.Proofs.Ytphjbemlofdepaa
open Go.RowKit
attribute [local go_sem] Oper.semAt_some

theorem page_cells {w : World} {g : Nat} {p : Pg} (h : w.heap[g]? = some (.cells p.cells 25 (0, 0))) : w.cell? ⟨g, 0, none⟩ = some (.int .i64 p.kind) ∧ w.cell? ⟨g, 1, none⟩ = some (.int .u64 (p.lsn : Int)) ∧ w.cell? ⟨g, 2, none⟩ = some (.slice p.a p.body.length p.c) :=
  ⟨cell_of_row w _ 0 _ _ _ h, cell_of_row w _ 1 _ _ _ h, cell_of_row w _ 2 _ _ _ h⟩

set_option maxRecDepth 100000 in
set_option maxHeartbeats 1000000 in
theorem walkPageTurned (w : World) (p : Pg) (hp : p.In w) (at_ : Int) (hat : (Lit.int .i64 at_).wf = true) (x : Int) (hx : (Lit.int .u8 x).wf = true) :
    Calls Try.prog 5 #[p.val, .int .i64 at_, .int .u8 x] w fun e w' => e = .returned (.bool true) ∧ Below w.heap.size w w' := by
  obtain ⟨b, rfl⟩ := wf_byte hx
  obtain ⟨hat1, hat2⟩ := wf_int hat
  clear hx hat
  show Calls Try.prog 5 #[.agg #[.int .i64 p.kind, .int .u64 (p.lsn : Int), .slice p.a p.body.length p.c], .int .i64 at_, .int .u8 (b.toNat : Int)] w _
  obtain ⟨W1, hW1⟩ : ∃ W1, W1 = w.alloc (.cells #[.int .i64 p.kind, .int .u64 (p.lsn : Int), .slice p.a p.body.length p.c] 25) := ⟨_, rfl⟩
  have hg1 : W1.heap[w.heap.size]? = some (.cells p.cells 25 (0, 0)) := by rw [hW1]; exact heap_alloc_new w _
  have hB1 : Ext w W1 := by rw [hW1]; exact Ext.alloc w _
  have hr1 := hp.rd.below hB1
  obtain ⟨hc0, hc1, hc2⟩ := page_cells hg1
  have live : Hid (Calls Try.prog 6 #[] W1 fun e w' => e = .returned (.bool true) ∧ Below W1.heap.size W1 w') := live05 W1
  have HW1 := Lib.hid hW1
  clear hW1
  by_cases h1 : p.body.length ≤ 2000 ∧ 0 ≤ at_ ∧ at_ < 256 ∧ b ≠ 0
  · obtain ⟨h1, h2, h3, h4⟩ := h1
    obtain ⟨i, rfl⟩ := Int.eq_ofNat_of_zero_le h2
    have hb0 : ((b.toNat : Int) == 0) = false := by
      rw [beq_eq_false_iff_ne]
      intro h
      exact h4 (by rw [← UInt8.toNat_inj]; simpa using h)
    have hs := seal_any p W1 hp.lsn hr1 (by omega)
    by_cases h5 : p.seal_.2 = 0
    · have hl := Pg.seal_len h5
      rw [h5, hl] at hs
      have Hs := Lib.hid hs
      have Hl := Lib.hid hl
      have H4 := Lib.hid h4
      have Hx8 := fun a : UInt8 => x8 a b
      have Hi := fun (l : List UInt8) (h : l.length = 256) => (show i < l.length by omega)
      have hno : Hid (∀ (hi : i < p.seal_.1.length), Pg.err (p.seal_.1.set i (p.seal_.1[i] ^^^ b)) = 51) := fun hi => Pg.turned h5 i hi b h4
      clear hs hl h4 h5
      go_enter Try.func5, Try.ntmps5
      go_wp2_with fail
      rw [← HW1.out]
      refine Hs.out.mono ?_
      rintro e w1 ⟨A1, c1, rfl, ho1, hb1⟩
      have hi : i < p.seal_.1.length := by rw [Hl.out]; omega
      have Hno := Lib.hid (hno.out hi)
      obtain ⟨ad, rfl, hcell, hfr, hbase, hrow, hset⟩ := ho1.setB hi
      have hx8 := x8 p.seal_.1[i] b
      have Hrow := Lib.hid hrow
      have ho4 := hset (p.seal_.1[i] ^^^ b)
      have hb4 := hb1.setCell hbase (.int .u8 (((p.seal_.1[i] ^^^ b).toNat : Nat) : Int))
      have hcap := Lib.hid ho4.nc
      clear hrow hset Hx8 hno
      go_wp2_with fail
      refine (num05 _ _).mono ?_
      rintro e w' ⟨rfl, rfl⟩
      go_wp2_with fail
      rw [← UInt8.toNat_xor]
      have hel : (p.seal_.1.set i (p.seal_.1[i] ^^^ b)).length = 256 := by rw [List.length_set]; exact Hl.out
      have h9 := open_any (some ad) _ c1 _ ho4.rd' (by rw [hel]; exact hcap.out)
      rw [hel, Hno.out] at h9
      refine h9.mono ?_
      rintro e w5 ⟨⟨qk, ql, qa, qd, qc⟩, rfl, _, _, hb5⟩
      simp only [Pg.val]
      clear h9 hel ho4 hcell hfr hx8 ho1
      go_wp2_with fail
      refine (num05 _ _).mono ?_
      rintro e w' ⟨rfl, rfl⟩
      go_wp2_with fail
      refine (live05 _).mono ?_
      rintro e w6 ⟨rfl, hb6⟩
      go_wp2
      go_ret
      exact ⟨rfl, Ext.tr hB1 (Ext.tr hb4 (Ext.tr hb5 (Ext.tr (Ext.alloc _ _) hb6)))⟩
    · rw [Pg.bad_of h5] at hs
      have Hs := Lib.hid hs
      clear hs h4 h5
      go_enter Try.func5, Try.ntmps5
      go_wp2_with fail
      rw [← HW1.out]
      refine Hs.out.mono ?_
      rintro e w1 ⟨A1, c1, rfl, ho1, hb1⟩
      go_wp2_with fail
      refine (num05 _ _).mono ?_
      rintro e w' ⟨rfl, rfl⟩
      go_wp2_with fail
      refine (live05 w1).mono ?_
      rintro e w6 ⟨rfl, hb6⟩
      go_wp2
      go_ret
      exact ⟨rfl, Ext.tr hB1 (ext_trans hb1 hb6)⟩
  · cases e1 : decide ((2000 : Int) < p.body.length) <;> cases e2 : decide (at_ < 0) <;> cases e3 : decide ((256 : Int) ≤ at_) <;> cases e4 : ((b.toNat : Int) == 0)
    all_goals
      first
        | (exfalso
           simp only [decide_eq_false_iff_not, beq_eq_false_iff_ne] at e1 e2 e3 e4
           exact h1 ⟨by omega, by omega, by omega, fun h => e4 (by rw [h]; rfl)⟩)
        | (go_enter Try.func5, Try.ntmps5
           go_wp2_with fail
           rw [← HW1.out]
           refine live.out.mono ?_
           rintro e w6 ⟨rfl, hb6⟩
           go_wp2
           go_ret
           exact ⟨rfl, Ext.tr hB1 hb6⟩)
end Go.Proofs.Ytphjbemlofdepaa
