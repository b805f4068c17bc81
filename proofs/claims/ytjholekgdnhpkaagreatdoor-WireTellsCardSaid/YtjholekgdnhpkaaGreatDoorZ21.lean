/- Texts of the proof, laid together: WrX. -/
import Derived.Deep.Cut
import Derived.Test.YtjholekgdnhpkaaGreatDoorZ30
import Derived.Test.YtjholekgdnhpkaaGreatDoorZ6
set_option linter.unusedVariables false
set_option linter.unusedSimpArgs false
set_option linter.unusedSectionVars false
namespace Go.Proofs.YtjholekgdnhpkaaGreatDoor
open Go.RowKit
attribute [local go_sem] Oper.semAt_some
theorem num24 (v : Int) (w : World) : Calls Tryz.prog 10 #[.int .i64 v] w fun e w' => e = .returned (.int .i64 v) ∧ w = w' := by
 go_enter Tryz.func10, Tryz.ntmps10
 go_wp2
 go_ret
 exact ⟨rfl, rfl⟩
def WmV.Brief (M : WmV) : Prop := M.data.length ≤ 64 ∧ M.lo.length ≤ 24 ∧ M.hi.length ≤ 24
structure WmV.Small (M : WmV) : Prop where
 subs : M.subs.length ≤ 200
 ents : M.ents.length ≤ 200
 sigs : M.sigs.length ≤ 200
 total : M.Brief → Ent.total (M.ents.map EnV.x) ≤ 20000
def Small24 (M : WmV) (w : World) (e : Ending) (w' : World) : Prop := ∃ b : Bool, e = .returned (.bool b) ∧ (b = true → M.Small) ∧ Ext w w'
theorem Small24.no {M : WmV} {w w' : World} (h : Ext w w') : Small24 M w (.returned (.bool false)) w' := ⟨false, rfl, (fun h => by cases h), h⟩
theorem Ent.total_step (m : List Ent) (k : Nat) (h : k < m.length) : Ent.total (m.take (k + 1)) = Ent.total (m.take k) + m[k].size := Ent.total_snoc m k h
set_option maxRecDepth 100000 in
set_option maxHeartbeats 2000000 in
theorem small24 (M : WmV) (w : World) (hM : M.In w) : Calls Tryz.prog 4 #[.agg M.cells] w (Small24 M w) := by
 have hE : Ext w (w.alloc (.cells M.cells 31)) := Ext.alloc _ _
 have g0 := heap_alloc_new w (.cells M.cells 31)
 have a3 : (w.alloc (.cells M.cells 31)).cell? ⟨w.heap.size, 3, none⟩ = _ := (cell_of_row _ _ 3 _ _ _ g0).trans (WmV.at3 M)
 have a4 : (w.alloc (.cells M.cells 31)).cell? ⟨w.heap.size, 4, none⟩ = _ := (cell_of_row _ _ 4 _ _ _ g0).trans (WmV.at4 M)
 have a73 : (w.alloc (.cells M.cells 31)).cell? ⟨w.heap.size, 73, none⟩ = _ := (cell_of_row _ _ 73 _ _ _ g0).trans (WmV.at73 hM.ok)
 have a75 : (w.alloc (.cells M.cells 31)).cell? ⟨w.heap.size, 75, none⟩ = _ := (cell_of_row _ _ 75 _ _ _ g0).trans (WmV.at75 hM.ok)
 have a76 : (w.alloc (.cells M.cells 31)).cell? ⟨w.heap.size, 76, none⟩ = _ := (cell_of_row _ _ 76 _ _ _ g0).trans (WmV.at76 hM.ok)
 have a77 : (w.alloc (.cells M.cells 31)).cell? ⟨w.heap.size, 77, none⟩ = _ := (cell_of_row _ _ 77 _ _ _ g0).trans (WmV.at77 hM.ok)
 have hsr := hM.sr.below hE
 have her := hM.er.below hE
 obtain ⟨x1, hx1⟩ : ∃ x, IntKind.i64.wrap ((M.lo.length : Int) + (M.hi.length : Int)) = x := ⟨_, rfl⟩
 obtain ⟨n0, hn0⟩ : ∃ x, IntKind.i64.wrap (x1 + (M.data.length : Int)) = x := ⟨_, rfl⟩
 have hb : M.Brief → 0 ≤ n0 := fun ⟨h1, h2, h3⟩ => by
  rw [← hn0, ← hx1, IntKind.wrap_i64, IntKind.wrap_i64]; omega
 have hlo : -9223372036854775808 ≤ n0 := by rw [← hn0, IntKind.wrap_i64]; omega
 have HB := Lib.hid hb
 have HE := Lib.hid hE
 clear hb hE g0 hM
 obtain ⟨W0, hW0⟩ : ∃ W0, W0 = w.alloc (.cells M.cells 31) := ⟨_, rfl⟩
 obtain ⟨P, hP⟩ : ∃ P, P = M.cells := ⟨_, rfl⟩
 rw [← hW0] at HE hsr her a3 a4 a73 a75 a76 a77
 rw [← hP] at hW0 ⊢
 have HW0 := Lib.hid hW0
 clear hP hW0
 go_enter Tryz.func4, Tryz.ntmps4
 go_upto_region 1 with fail
 rw [← HW0.out]
 by_cases l1 : 200 < M.subs.length
 ·
  go_wp2_with fail
  go_ret
  exact Small24.no HE.out
 ·
  by_cases l2 : 200 < M.ents.length
  ·
   go_wp2_with fail
   go_ret
   exact Small24.no HE.out
  ·
   by_cases l3 : 200 < M.sigs.length
   ·
    go_wp2_with fail
    go_ret
    exact Small24.no HE.out
   ·
    by_cases l4 : 20000 < n0
    ·
     go_wp2_with fail
     go_ret
     exact Small24.no HE.out
    ·
     have Hn0 := Lib.hid hn0
     have Hx1 := Lib.hid hx1
     go_wp2_with fail
     clear hn0 hx1
     go_loopw [3, 4] (fun v i wr => ∃ (k : Nat) (n : Int), k ≤ M.subs.length ∧ i = .int .i64 k ∧ v = .int .i64 n ∧ -9223372036854775808 ≤ n ∧ n ≤ 60000 ∧ Hid (M.Brief → 0 ≤ n) ∧ Ext W0 wr) (fun _ i _ => M.subs.length - (intOf i).toNat)
     case atStart => exact ⟨0, n0, by omega, rfl, rfl, hlo, by omega, HB, Ext.refl _⟩
     case round =>
      obtain ⟨k, n, hk, rfl, rfl, n1, n2, hnb, hxw⟩ := hrel
      have HX := Lib.hid hxw
      have c73 := Ext.load hxw a73
      by_cases h : k < M.subs.length
      ·
       obtain ⟨ad, hsa, hcs, hin⟩ := (hsr.below hxw).at_ h
       have ik : (0 : Int) ≤ (k : Int) := by omega
       have ik2 : (k : Int) < (M.subs.length : Int) := by omega
       rw [hsa] at c73
       have y0 : wr.cell? (ad.add (k * 36)) = some (.slice M.subs[k].p.la M.subs[k].p.x.lo.length M.subs[k].p.lc) := hcs 0 _ rfl
       have y1 : wr.cell? ⟨(ad.add (k * 36)).block, (ad.add (k * 36)).off + 1, none⟩ = some (.slice M.subs[k].p.ha M.subs[k].p.x.hi.length M.subs[k].p.hc) := hcs 1 _ rfl
       obtain ⟨y, hyl⟩ : ∃ y, M.subs[k] = y := ⟨_, rfl⟩
       rw [hyl] at y0 y1
       clear hyl hcs hin hsa hxw
       by_cases m1 : 20000 < y.p.x.lo.length
       ·
        go_wp2_with fail
        go_ret
        exact Small24.no (HE.out.tr HX.out)
       ·
        by_cases m2 : 20000 < y.p.x.hi.length
        ·
         go_wp2_with fail
         go_ret
         exact Small24.no (HE.out.tr HX.out)
        ·
         by_cases m3 : 20000 < n
         ·
          go_wp2_with fail
          go_ret
          exact Small24.no (HE.out.tr HX.out)
         ·
          have w1 : IntKind.i64.wrap (n + (y.p.x.lo.length : Int)) = n + (y.p.x.lo.length : Int) := by rw [IntKind.wrap_i64]; omega
          have w2 : IntKind.i64.wrap (n + (y.p.x.lo.length : Int) + (y.p.x.hi.length : Int)) = n + (y.p.x.lo.length : Int) + (y.p.x.hi.length : Int) := by rw [IntKind.wrap_i64]; omega
          have W1 := Lib.hid w1
          have W2 := Lib.hid w2
          clear w1 w2
          go_wp2_with fail
          have d73 := Ext.load (Ext.drew wr) c73
          have d0 := Ext.load (Ext.drew wr) y0
          have d1 := Ext.load (Ext.drew wr) y1
          have w1 := W1.out
          have w2 := W2.out
          refine rg_start (by kernel_rfl) ?_
          refine gD 0 rfl ?_
          simp only [sP]
          refine gD 1 rfl ?_
          simp only [sP]
          refine gS 2 rfl ⟨_, fun w' hx => by have hcx := hx.load d73; (go_simp <;> with_reducible rfl), ?_⟩
          simp only [sP]
          refine gD 3 rfl ?_
          simp only [sP]
          refine gD 4 rfl ?_
          simp only [sP]
          refine gD 5 rfl ?_
          simp only [sP]
          refine gD 6 rfl ?_
          simp only [sP]
          refine gS 7 rfl ⟨_, fun w' hx => by have hcx := hx.load d0; (go_simp <;> with_reducible rfl), ?_⟩
          simp only [sP]
          refine gD 8 rfl ?_
          simp only [sP]
          refine gS 9 rfl ⟨.int .i64 (n + (y.p.x.lo.length : Int)), fun w' hx => by (go_simp <;> with_reducible rfl), ?_⟩
          simp only [sP]
          refine gD 10 rfl ?_
          simp only [sP]
          refine gS 11 rfl ⟨_, fun w' hx => by have hcx := hx.load d73; (go_simp <;> with_reducible rfl), ?_⟩
          simp only [sP]
          refine gD 12 rfl ?_
          simp only [sP]
          refine gD 13 rfl ?_
          simp only [sP]
          refine gD 14 rfl ?_
          simp only [sP]
          refine gD 15 rfl ?_
          simp only [sP]
          refine gS 16 rfl ⟨_, fun w' hx => by have hcx := hx.load d1; (go_simp <;> with_reducible rfl), ?_⟩
          simp only [sP]
          refine gD 17 rfl ?_
          simp only [sP]
          refine gS 18 rfl ⟨.int .i64 (n + (y.p.x.lo.length : Int) + (y.p.x.hi.length : Int)), fun w' hx => by (go_simp <;> with_reducible rfl), ?_⟩
          simp only [sP]
          refine gD 19 rfl ?_
          simp only [sP]
          refine rg_done (by kernel_rfl) ?_
          clear w1 w2
          go_wp2_with fail
          go_roundw
          case rel =>
           have hnb2 := hnb.out
           exact ⟨k + 1, n + (y.p.x.lo.length : Int) + (y.p.x.hi.length : Int), by omega, by go_num, rfl, by omega, by omega, fun hq => by have := hnb2 hq; omega, HX.out.tr (Ext.drew wr)⟩
          case measure => simp [intOf]; omega
      ·
       obtain rfl : k = M.subs.length := by omega
       go_wp2_with fail
       clear c73 h hxw
       obtain ⟨m, hm⟩ : ∃ m, m = M.ents.map EnV.x := ⟨_, rfl⟩
       have hml : m.length = M.ents.length := by rw [hm]; simp
       have HM := Lib.hid hm
       have Hml := Lib.hid hml
       have HXr := HX.out
       have HB2 := hnb
       clear hml hm HX HB hnb
       go_loopw [3, 5] (fun v i wq => ∃ (k : Nat) (n : Int), k ≤ M.ents.length ∧ i = .int .i64 k ∧ v = .int .i64 n ∧ -9223372036854775808 ≤ n ∧ n ≤ 60000 ∧ Hid (M.Brief → (Ent.total (m.take k) : Int) ≤ n) ∧ Ext W0 wq) (fun _ i _ => M.ents.length - (intOf i).toNat)
       case atStart => exact ⟨0, n, by omega, rfl, rfl, n1, n2, fun hq => by have := HB2.out hq; simpa [Ent.total] using this, HXr⟩
       case round =>
        clear hk n1 n2 HB2 HXr
        obtain ⟨k, n, hk, rfl, rfl, n1, n2, hnb, hxw⟩ := hrel
        have HX := Lib.hid hxw
        have c75 := Ext.load hxw a75
        by_cases h : k < M.ents.length
        ·
         obtain ⟨ad, hsa, hcell, hin⟩ := (her.below hxw).at_ h
         have ik : (0 : Int) ≤ (k : Int) := by omega
         have ik2 : (k : Int) < (M.ents.length : Int) := by omega
         rw [hsa] at c75
         have y0 : wr.cell? _ = _ := key_at hcell
         have y1 : wr.cell? _ = _ := val_at hcell
         have hkm : k < m.length := by rw [Hml.out]; exact h
         have hx : m[k] = M.ents[k].x := by have := HM.out; subst this; simp
         have hs := Ent.total_step m k hkm
         rw [hx] at hs
         unfold Ent.size at hs
         obtain ⟨y, hyl⟩ : ∃ y, M.ents[k] = y := ⟨_, rfl⟩
         rw [hyl] at y0 y1 hs
         have Hs := Lib.hid hs
         clear hyl hcell hin hsa hxw hs hx hkm
         by_cases m1 : 20000 < y.x.key.length
         ·
          go_wp2_with fail
          go_ret
          exact Small24.no (HE.out.tr HX.out)
         ·
          by_cases m2 : 20000 < y.x.val.length
          ·
           go_wp2_with fail
           go_ret
           exact Small24.no (HE.out.tr HX.out)
          ·
           by_cases m3 : 20000 < n
           ·
            go_wp2_with fail
            go_ret
            exact Small24.no (HE.out.tr HX.out)
           ·
            have w1 : IntKind.i64.wrap (n + (y.x.key.length : Int)) = n + (y.x.key.length : Int) := by rw [IntKind.wrap_i64]; omega
            have w2 : IntKind.i64.wrap (n + (y.x.key.length : Int) + (y.x.val.length : Int)) = n + (y.x.key.length : Int) + (y.x.val.length : Int) := by rw [IntKind.wrap_i64]; omega
            have W1 := Lib.hid w1
            have W2 := Lib.hid w2
            clear w1 w2
            go_wp2_with fail
            have d75 := Ext.load (Ext.drew wr) c75
            have d0 := Ext.load (Ext.drew wr) y0
            have d1 := Ext.load (Ext.drew wr) y1
            have w1 := W1.out
            have w2 := W2.out
            refine rg_start (by kernel_rfl) ?_
            refine gD 0 rfl ?_
            simp only [sP]
            refine gD 1 rfl ?_
            simp only [sP]
            refine gS 2 rfl ⟨_, fun w' hx => by have hcx := hx.load d75; (go_simp <;> with_reducible rfl), ?_⟩
            simp only [sP]
            refine gD 3 rfl ?_
            simp only [sP]
            refine gD 4 rfl ?_
            simp only [sP]
            refine gD 5 rfl ?_
            simp only [sP]
            refine gS 6 rfl ⟨_, fun w' hx => by have hcx := hx.load d0; (go_simp <;> with_reducible rfl), ?_⟩
            simp only [sP]
            refine gD 7 rfl ?_
            simp only [sP]
            refine gS 8 rfl ⟨.int .i64 (n + (y.x.key.length : Int)), fun w' hx => by (go_simp <;> with_reducible rfl), ?_⟩
            simp only [sP]
            refine gD 9 rfl ?_
            simp only [sP]
            refine gS 10 rfl ⟨_, fun w' hx => by have hcx := hx.load d75; (go_simp <;> with_reducible rfl), ?_⟩
            simp only [sP]
            refine gD 11 rfl ?_
            simp only [sP]
            refine gD 12 rfl ?_
            simp only [sP]
            refine gD 13 rfl ?_
            simp only [sP]
            refine gS 14 rfl ⟨_, fun w' hx => by have hcx := hx.load d1; (go_simp <;> with_reducible rfl), ?_⟩
            simp only [sP]
            refine gD 15 rfl ?_
            simp only [sP]
            refine gS 16 rfl ⟨.int .i64 (n + (y.x.key.length : Int) + (y.x.val.length : Int)), fun w' hx => by (go_simp <;> with_reducible rfl), ?_⟩
            simp only [sP]
            refine gD 17 rfl ?_
            simp only [sP]
            refine rg_done (by kernel_rfl) ?_
            clear w1 w2
            go_wp2_with fail
            go_roundw
            case rel =>
             have hnb2 := hnb.out
             exact ⟨k + 1, n + (y.x.key.length : Int) + (y.x.val.length : Int), by omega, by go_num, rfl, by omega, by omega, fun hq => by have := hnb2 hq; rw [Hs.out]; omega, HX.out.tr (Ext.drew wr)⟩
            case measure => simp [intOf]; omega
        ·
         obtain rfl : k = M.ents.length := by omega
         clear h
         by_cases m3 : n ≤ 20000
         ·
          go_wp2_with fail
          go_ret
          refine ⟨_, rfl, fun _ => ⟨by omega, by omega, by omega, fun hq => ?_⟩, HE.out.tr HX.out⟩
          have := hnb.out hq
          rw [List.take_of_length_le (by rw [Hml.out]; omega)] at this
          rw [← HM.out]
          omega
         ·
          go_wp2_with fail
          go_ret
          refine ⟨_, rfl, fun h => ?_, HE.out.tr HX.out⟩
          first | (simp at h; done) | (simp at h; omega)
end Go.Proofs.YtjholekgdnhpkaaGreatDoor
