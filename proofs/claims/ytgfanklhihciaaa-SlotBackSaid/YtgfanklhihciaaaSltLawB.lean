
/- Walk of SlotBack (scowlaw06). Printed by wip/tools/gen_sltlawb06.py. -/

import Derived.Test.YtgfanklhihciaaaSltLaw

namespace Go.Proofs.Ytgfanklhihciaaa

open Go.RowKit

attribute [local go_sem] Oper.semAt_some

set_option maxRecDepth 100000 in
set_option maxHeartbeats 4000000 in
theorem walkSlotBack (w : World) (A : Option Addr) (l : List DeV) (c : Nat) (hA : RdD w A l) (hc : l.length ≤ c) :
    Calls Try.prog 5 #[.slice A l.length c] w fun e w' => e = .returned (.bool true) ∧ Below w.heap.size w w' := by
  go_enter Try.func5, Try.ntmps5
  go_wp2_with fail
  refine (small06 A l c w hA hc).mono ?_
  rintro e0 w0 ⟨bo, rfl, hsm, rfl⟩
  cases bo
  · go_wp2_with fail
    refine (live06 _).mono ?_
    rintro e1 w1 ⟨rfl, hx1⟩
    go_wp2_with fail
    go_ret
    exact ⟨rfl, hx1⟩
  have Sm := Lib.hid (hsm rfl)
  have hl120 := Sm.out.1
  clear hsm
  go_wp2_with fail
  refine (snew_any w).mono ?_
  rintro e1 w1 ⟨rfl, hB1, hx1⟩
  have hS1 : SAt w1 w.heap.size _ SBody.new := ⟨hB1, Rel.new, SBody.new_inv⟩
  obtain ⟨b1, hb1⟩ : ∃ b1, b1 = (zeros 243).set 1 243 := ⟨_, rfl⟩
  rw [← hb1] at hS1
  obtain ⟨g, hg⟩ : ∃ g, g = w.heap.size := ⟨_, rfl⟩
  rw [← hg] at hS1 ⊢
  have Hg := Lib.hid hg
  clear hg hB1 hb1
  go_wp2_with fail
  go_loopw [4] (fun i wr => ∃ (k : Nat) (b : List UInt8) (m : SBody), k ≤ l.length ∧ i = .int .i64 k ∧ SAt wr g b m ∧ Ext w wr) (fun i _ => l.length - (intOf i).toNat)
  case atStart => exact ⟨0, b1, SBody.new, by omega, rfl, hS1, hx1⟩
  case round =>
    clear hS1 hx1 w1
    obtain ⟨k, b, m, hk, rfl, hS, hE⟩ := hrel
    by_cases h : k < l.length
    · obtain ⟨ad, hA1, hy, hyi⟩ := (hA.below hE).at_ h
      have hne := RdB.lt (hA.each _ (List.getElem_mem h)).pr
      have y0 := DeV.kindAt hy
      have y1 := DeV.iAt hy
      have y2 := DeV.pAt hy
      have hpl := Sm.out.2 _ (List.getElem_mem h)
      have hpr := hyi.pr
      obtain ⟨y, hyl⟩ : ∃ y, l[k] = y := ⟨_, rfl⟩
      rw [hyl] at y0 y1 y2 hpl hpr hne
      obtain ⟨kd, hkd⟩ : ∃ kd, kd = y.x.kind := ⟨_, rfl⟩
      obtain ⟨di, hdi⟩ : ∃ di, di = y.x.i := ⟨_, rfl⟩
      obtain ⟨p, hp⟩ : ∃ p, p = y.x.p := ⟨_, rfl⟩
      obtain ⟨pa, hpa⟩ : ∃ pa, pa = y.pa := ⟨_, rfl⟩
      obtain ⟨pc, hpc⟩ : ∃ pc, pc = y.pc := ⟨_, rfl⟩
      rw [← hkd] at y0
      rw [← hdi] at y1
      rw [← hp, ← hpa, ← hpc] at y2
      rw [← hp] at hpl
      rw [← hp, ← hpa] at hpr
      rw [← hp, ← hpa] at hne
      have Hne : Hid (p ≠ [] → ∀ a, pa = some a → a.block ≠ g) := fun h1 a h2 => by have := hne h1 a h2; have := Hg.out; omega
      have Hpr := Lib.hid hpr
      have ik : (0 : Int) ≤ (k : Int) := by omega
      have ik2 : (k : Int) < (l.length : Int) := by omega
      have hgl := lt_of_heap hS.bb.row
      have Hgl := Lib.hid hgl
      have hkI : (k + 1) ≤ l.length := h
      have HS := Lib.hid hS
      subst hA1
      clear hy hyi hyl hkd hdi hp hpa hpc hne hpr hgl hS
      by_cases k0 : kd = 0
      · subst k0
        have hI := insert_any g b m di pa p pc wr.drew (HS.out.ext (Ext.drew _)) (Hpr.out.below (Ext.drew _)) Hne.out (by omega)
        have y1d : wr.drew.cell? _ = _ := y1
        have y2d : wr.drew.cell? _ = _ := y2
        go_wp2_with fail
        refine rg_start (by kernel_rfl) ?_
        refine rg_take 0 rfl (by kernel_rfl) (by kernel_rfl) (by kernel_rfl) (fun _ _ _ _ h => h) (by rfl) ⟨_, fun w' hx => by (go_simp <;> with_reducible rfl), ?_⟩
        simp only [Act.put, List.setIfInBounds_toArray, List.set_cons_zero, List.set_cons_succ]
        refine rg_take 1 rfl (by kernel_rfl) (by kernel_rfl) (by kernel_rfl) (fun _ _ _ _ h => h) (by rfl) ⟨_, fun w' hx => by (go_simp <;> with_reducible rfl), ?_⟩
        simp only [Act.put, List.setIfInBounds_toArray, List.set_cons_zero, List.set_cons_succ]
        refine rg_take 2 rfl (by kernel_rfl) (by kernel_rfl) (by kernel_rfl) (fun _ _ _ _ h => h) (by rfl) ⟨_, fun w' hx => by (go_simp <;> with_reducible rfl), ?_⟩
        simp only [Act.put, List.setIfInBounds_toArray, List.set_cons_zero, List.set_cons_succ]
        refine rg_take 3 rfl (by kernel_rfl) (by kernel_rfl) (by kernel_rfl) (fun _ _ _ _ h => h) (by rfl) ⟨_, fun w' hx => by (go_simp <;> with_reducible rfl), ?_⟩   -- t31 := indexAddr 22 t29 t30
        simp only [Act.put, List.setIfInBounds_toArray, List.set_cons_zero, List.set_cons_succ]
        refine rg_take 4 rfl (by kernel_rfl) (by kernel_rfl) (by kernel_rfl) (fun _ _ _ _ h => h) (by rfl) ⟨_, fun w' hx => by (go_simp <;> with_reducible rfl), ?_⟩   -- t32 := fieldAddr 32 t31 1
        simp only [Act.put, List.setIfInBounds_toArray, List.set_cons_zero, List.set_cons_succ]
        refine rg_take 5 rfl (by kernel_rfl) (by kernel_rfl) (by kernel_rfl) (fun _ _ _ _ h => h) (by rfl) ⟨_, fun w' hx => by have hcx := hx.load y1d; (go_simp <;> with_reducible rfl), ?_⟩
        simp only [Act.put, List.setIfInBounds_toArray, List.set_cons_zero, List.set_cons_succ]
        refine rg_take 6 rfl (by kernel_rfl) (by kernel_rfl) (by kernel_rfl) (fun _ _ _ _ h => h) (by rfl) ⟨_, fun w' hx => by (go_simp <;> with_reducible rfl), ?_⟩
        simp only [Act.put, List.setIfInBounds_toArray, List.set_cons_zero, List.set_cons_succ]
        refine rg_take 7 rfl (by kernel_rfl) (by kernel_rfl) (by kernel_rfl) (fun _ _ _ _ h => h) (by rfl) ⟨_, fun w' hx => by (go_simp <;> with_reducible rfl), ?_⟩
        simp only [Act.put, List.setIfInBounds_toArray, List.set_cons_zero, List.set_cons_succ]
        refine rg_take 8 rfl (by kernel_rfl) (by kernel_rfl) (by kernel_rfl) (fun _ _ _ _ h => h) (by rfl) ⟨_, fun w' hx => by (go_simp <;> with_reducible rfl), ?_⟩   -- t36 := indexAddr 22 t34 t35
        simp only [Act.put, List.setIfInBounds_toArray, List.set_cons_zero, List.set_cons_succ]
        refine rg_take 9 rfl (by kernel_rfl) (by kernel_rfl) (by kernel_rfl) (fun _ _ _ _ h => h) (by rfl) ⟨_, fun w' hx => by (go_simp <;> with_reducible rfl), ?_⟩   -- t37 := fieldAddr 32 t36 2
        simp only [Act.put, List.setIfInBounds_toArray, List.set_cons_zero, List.set_cons_succ]
        refine rg_take 10 rfl (by kernel_rfl) (by kernel_rfl) (by kernel_rfl) (fun _ _ _ _ h => h) (by rfl) ⟨_, fun w' hx => by have hcx := hx.load y2d; (go_simp <;> with_reducible rfl), ?_⟩
        simp only [Act.put, List.setIfInBounds_toArray, List.set_cons_zero, List.set_cons_succ]
        refine rg_callL 11 hI rfl (by kernel_rfl) (by kernel_rfl) (by rfl) (by go_simp) ?_
        simp only [Act.put, List.setIfInBounds_toArray, List.set_cons_zero, List.set_cons_succ]
        rintro e2 w2 ⟨rfl, ⟨b2, hS2⟩, hg2⟩
        refine ⟨_, rfl, rg_done (by kernel_rfl) ?_⟩
        have hE2 : Ext w w2 := below_row (Ext.tr hE (Ext.drew _)) hg2 (by have := Hg.out; omega) (by have := Hgl.out; have := Hg.out; show w.heap.size ≤ wr.drew.heap.size; rw [size_drew]; omega)
        obtain ⟨m2, hm2⟩ : ∃ m2, m2 = (m.insert di p).2 := ⟨_, rfl⟩
        rw [← hm2] at hS2
        clear hm2 hI hg2 HS y0 y1 y2 y1d y2d Hpr Hne hE
        go_wp2_with fail
        refine (sbytes_any g b2 m2 w2 hS2).mono ?_
        rintro e3 w3 ⟨bs, A3, hbs, rfl, ho3, hx3⟩
        have hS3 := hS2.ext hx3
        have hE3 : Ext w w3 := Ext.tr hE2 hx3
        have hp := sparse_any A3 bs 243 w3 ho3.rd'
        rw [hbs.rel.len] at hp
        obtain ⟨hv, hof⟩ := hbs.valid hS2.inv
        clear hS2 hE2 ho3 hx3
        go_wp2_with fail
        refine hp.mono ?_
        clear hp
        rintro e4 w4 (⟨t, _, rfl, htg, hT4, hx4⟩ | ⟨hn, _⟩)
        case inr => exact absurd hv hn
        rw [hof] at hT4
        have hS4 := hS3.ext hx4
        have hE4 : Ext w w4 := Ext.tr hE3 hx4
        clear hS3 hE3 hx4 htg hv hof
        have HB := Back.mk' hS4 hT4
        obtain ⟨n, hn⟩ : ∃ n, n = m2.l.length := ⟨_, rfl⟩
        obtain ⟨fr, hfr⟩ : ∃ fr : Nat, fr = m2.free := ⟨_, rfl⟩
        rw [← hn, ← hfr] at HB
        have hLt := Lib.hid HB.lenT
        have hLs := Lib.hid HB.lenS
        have hFt := Lib.hid HB.freeT
        have hFs := Lib.hid HB.freeS
        have hBt := Lib.hid HB.bytesT
        have hBs := Lib.hid HB.bytesS
        have hCt := Lib.hid HB.cellT
        have hCs := Lib.hid HB.cellS
        have HN := Lib.hid hn
        have HSx := Lib.hid hS4
        have hn120 : n ≤ 120 := by have := hS4.inv.n; omega
        clear HB hS4 hT4 hbs hn hfr
        go_wp2_with fail
        refine rg_start (by kernel_rfl) ?_
        refine rg_take 0 rfl (by kernel_rfl) (by kernel_rfl) (by kernel_rfl) (fun _ _ _ _ h => h) (by rfl) ⟨_, fun w' hx => by (go_simp <;> with_reducible rfl), ?_⟩
        simp only [Act.put, List.setIfInBounds_toArray, List.set_cons_zero, List.set_cons_succ]
        refine rg_call 1 (num06 0 w4.drew) rfl (by kernel_rfl) (by rfl) (by go_simp) ?_
        rintro ee wz ⟨rfl, rfl⟩
        refine ⟨_, rfl, Ext.refl _, ?_⟩
        simp only [Act.put, List.setIfInBounds_toArray, List.set_cons_zero, List.set_cons_succ]
        refine rg_take 2 rfl (by kernel_rfl) (by kernel_rfl) (by kernel_rfl) (fun _ _ _ _ h => h) (by rfl) ⟨.bool false, fun w' hx => by (go_simp; try rfl), ?_⟩
        simp only [Act.put, List.setIfInBounds_toArray, List.set_cons_zero, List.set_cons_succ]
        refine rg_take 3 rfl (by kernel_rfl) (by kernel_rfl) (by kernel_rfl) (fun _ _ _ _ h => h) (by rfl) ⟨_, fun w' hx => by (go_simp <;> with_reducible rfl), ?_⟩
        simp only [Act.put, List.setIfInBounds_toArray, List.set_cons_zero, List.set_cons_succ]
        refine rg_take 4 rfl (by kernel_rfl) (by kernel_rfl) (by kernel_rfl) (fun _ _ _ _ h => h) (by rfl) ⟨_, fun w' hx => by (go_simp <;> with_reducible rfl), ?_⟩
        simp only [Act.put, List.setIfInBounds_toArray, List.set_cons_zero, List.set_cons_succ]
        refine rg_take 5 rfl (by kernel_rfl) (by kernel_rfl) (by kernel_rfl) (fun _ _ _ _ h => h) (by rfl) ⟨.bool false, fun w' hx => by (go_simp; try rfl), ?_⟩
        simp only [Act.put, List.setIfInBounds_toArray, List.set_cons_zero, List.set_cons_succ]
        refine rg_take 6 rfl (by kernel_rfl) (by kernel_rfl) (by kernel_rfl) (fun _ _ _ _ h => h) (by rfl) ⟨_, fun w' hx => by (go_simp <;> with_reducible rfl), ?_⟩
        simp only [Act.put, List.setIfInBounds_toArray, List.set_cons_zero, List.set_cons_succ]
        refine rg_take 7 rfl (by kernel_rfl) (by kernel_rfl) (by kernel_rfl) (fun _ _ _ _ h => h) (by rfl) ⟨_, fun w' hx => by (go_simp <;> with_reducible rfl), ?_⟩
        simp only [Act.put, List.setIfInBounds_toArray, List.set_cons_zero, List.set_cons_succ]
        refine rg_take 8 rfl (by kernel_rfl) (by kernel_rfl) (by kernel_rfl) (fun _ _ _ _ h => h) (by rfl) ⟨_, fun w' hx => by (go_simp <;> with_reducible rfl), ?_⟩
        simp only [Act.put, List.setIfInBounds_toArray, List.set_cons_zero, List.set_cons_succ]
        refine rg_take 10 rfl (by kernel_rfl) (by kernel_rfl) (by kernel_rfl) (fun _ _ _ _ h => h) (by rfl) ⟨_, fun w' hx => by (go_simp <;> with_reducible rfl), ?_⟩
        simp only [Act.put, List.setIfInBounds_toArray, List.set_cons_zero, List.set_cons_succ]
        refine rg_call 9 (hLt.out _ (Ext.drew w4)) rfl (by kernel_rfl) (by rfl) (by go_simp) ?_
        rintro ee wz ⟨rfl, rfl⟩
        refine ⟨_, rfl, Ext.refl _, ?_⟩
        simp only [Act.put, List.setIfInBounds_toArray, List.set_cons_zero, List.set_cons_succ]
        refine rg_call 11 (hLs.out _ (Ext.drew w4)) rfl (by kernel_rfl) (by rfl) (by go_simp) ?_
        rintro ee wz ⟨rfl, rfl⟩
        refine ⟨_, rfl, Ext.refl _, ?_⟩
        simp only [Act.put, List.setIfInBounds_toArray, List.set_cons_zero, List.set_cons_succ]
        refine rg_take 12 rfl (by kernel_rfl) (by kernel_rfl) (by kernel_rfl) (fun _ _ _ _ h => h) (by rfl) ⟨.bool false, fun w' hx => by (go_simp; try rfl), ?_⟩
        simp only [Act.put, List.setIfInBounds_toArray, List.set_cons_zero, List.set_cons_succ]
        refine rg_take 13 rfl (by kernel_rfl) (by kernel_rfl) (by kernel_rfl) (fun _ _ _ _ h => h) (by rfl) ⟨_, fun w' hx => by (go_simp <;> with_reducible rfl), ?_⟩
        simp only [Act.put, List.setIfInBounds_toArray, List.set_cons_zero, List.set_cons_succ]
        refine rg_take 14 rfl (by kernel_rfl) (by kernel_rfl) (by kernel_rfl) (fun _ _ _ _ h => h) (by rfl) ⟨_, fun w' hx => by (go_simp <;> with_reducible rfl), ?_⟩
        simp only [Act.put, List.setIfInBounds_toArray, List.set_cons_zero, List.set_cons_succ]
        refine rg_take 15 rfl (by kernel_rfl) (by kernel_rfl) (by kernel_rfl) (fun _ _ _ _ h => h) (by rfl) ⟨_, fun w' hx => by (go_simp <;> with_reducible rfl), ?_⟩
        simp only [Act.put, List.setIfInBounds_toArray, List.set_cons_zero, List.set_cons_succ]
        refine rg_take 17 rfl (by kernel_rfl) (by kernel_rfl) (by kernel_rfl) (fun _ _ _ _ h => h) (by rfl) ⟨_, fun w' hx => by (go_simp <;> with_reducible rfl), ?_⟩
        simp only [Act.put, List.setIfInBounds_toArray, List.set_cons_zero, List.set_cons_succ]
        refine rg_call 16 (hFt.out _ (Ext.drew w4)) rfl (by kernel_rfl) (by rfl) (by go_simp) ?_
        rintro ee wa ⟨rfl, hba⟩
        refine ⟨_, rfl, hba, ?_⟩
        simp only [Act.put, List.setIfInBounds_toArray, List.set_cons_zero, List.set_cons_succ]
        refine rg_call 18 (hFs.out _ (Ext.tr (Ext.drew w4) hba)) rfl (by kernel_rfl) (by rfl) (by go_simp) ?_
        rintro ee wb ⟨rfl, hbb⟩
        refine ⟨_, rfl, hbb, ?_⟩
        simp only [Act.put, List.setIfInBounds_toArray, List.set_cons_zero, List.set_cons_succ]
        refine rg_take 19 rfl (by kernel_rfl) (by kernel_rfl) (by kernel_rfl) (fun _ _ _ _ h => h) (by rfl) ⟨.bool false, fun w' hx => by (go_simp; try rfl), ?_⟩
        simp only [Act.put, List.setIfInBounds_toArray, List.set_cons_zero, List.set_cons_succ]
        refine rg_take 20 rfl (by kernel_rfl) (by kernel_rfl) (by kernel_rfl) (fun _ _ _ _ h => h) (by rfl) ⟨_, fun w' hx => by (go_simp <;> with_reducible rfl), ?_⟩
        simp only [Act.put, List.setIfInBounds_toArray, List.set_cons_zero, List.set_cons_succ]
        refine rg_take 21 rfl (by kernel_rfl) (by kernel_rfl) (by kernel_rfl) (fun _ _ _ _ h => h) (by rfl) ⟨_, fun w' hx => by (go_simp <;> with_reducible rfl), ?_⟩
        simp only [Act.put, List.setIfInBounds_toArray, List.set_cons_zero, List.set_cons_succ]
        refine rg_take 22 rfl (by kernel_rfl) (by kernel_rfl) (by kernel_rfl) (fun _ _ _ _ h => h) (by rfl) ⟨_, fun w' hx => by (go_simp <;> with_reducible rfl), ?_⟩
        simp only [Act.put, List.setIfInBounds_toArray, List.set_cons_zero, List.set_cons_succ]
        refine rg_take 25 rfl (by kernel_rfl) (by kernel_rfl) (by kernel_rfl) (fun _ _ _ _ h => h) (by rfl) ⟨_, fun w' hx => by (go_simp <;> with_reducible rfl), ?_⟩
        simp only [Act.put, List.setIfInBounds_toArray, List.set_cons_zero, List.set_cons_succ]
        refine rg_call 23 (hBt.out _ (Ext.tr (Ext.drew w4) (Ext.tr hba hbb))) rfl (by kernel_rfl) (by rfl) (by go_simp) ?_
        rintro ee wc ⟨bs1, A1, hi1, rfl, ho1, hbc⟩
        refine ⟨_, rfl, hbc, ?_⟩
        have ho1r := Lib.hid ho1.rd'
        have HL1 := Lib.hid hi1.rel.len
        have HI1 := Lib.hid hi1
        clear ho1 hi1
        simp only [Act.put, List.setIfInBounds_toArray, List.set_cons_zero, List.set_cons_succ]
        refine rg_take 24 rfl (by kernel_rfl) (by kernel_rfl) (by kernel_rfl) (fun _ _ _ _ h => h) (by rfl) ⟨.string ⟨bs1.toArray⟩, fun w' hx => ex_str rfl rfl Try.underlying30 Try.underlying5 Try.underlying9 ((ho1r.out).below hx) HL1.out.symm, ?_⟩
        simp only [Act.put, List.setIfInBounds_toArray, List.set_cons_zero, List.set_cons_succ]
        refine rg_call 26 (hBs.out _ (Ext.tr (Ext.drew w4) (Ext.tr hba (Ext.tr hbb hbc)))) rfl (by kernel_rfl) (by rfl) (by go_simp) ?_
        rintro ee wd ⟨bs2, A2, hi2, rfl, ho2, hbd⟩
        refine ⟨_, rfl, hbd, ?_⟩
        obtain rfl := HI1.out.uniq hi2.fixed
        have ho2r := Lib.hid ho2.rd'
        clear ho2 hi2
        simp only [Act.put, List.setIfInBounds_toArray, List.set_cons_zero, List.set_cons_succ]
        refine rg_take 27 rfl (by kernel_rfl) (by kernel_rfl) (by kernel_rfl) (fun _ _ _ _ h => h) (by rfl) ⟨.string ⟨bs1.toArray⟩, fun w' hx => ex_str rfl rfl Try.underlying30 Try.underlying5 Try.underlying9 ((ho2r.out).below hx) HL1.out.symm, ?_⟩
        simp only [Act.put, List.setIfInBounds_toArray, List.set_cons_zero, List.set_cons_succ]
        refine rg_take 28 rfl (by kernel_rfl) (by kernel_rfl) (by kernel_rfl) (fun _ _ _ _ h => h) (by rfl) ⟨.bool (!(bs1 == bs1)), fun w' hx => ex_neqS rfl rfl rfl, ?_⟩
        rw [show (!(bs1 == bs1)) = false by simp]
        simp only [Act.put, List.setIfInBounds_toArray, List.set_cons_zero, List.set_cons_succ]
        refine rg_take 29 rfl (by kernel_rfl) (by kernel_rfl) (by kernel_rfl) (fun _ _ _ _ h => h) (by rfl) ⟨_, fun w' hx => by (go_simp <;> with_reducible rfl), ?_⟩
        simp only [Act.put, List.setIfInBounds_toArray, List.set_cons_zero, List.set_cons_succ]
        refine rg_done (by kernel_rfl) ?_
        go_wp2_with fail
        go_loopw [7] (fun i wv => ∃ j : Nat, j ≤ n ∧ i = .int .i64 j ∧ Ext w4 wv) (fun i _ => n - (intOf i).toNat)
        case atStart => exact ⟨0, by omega, rfl, Ext.tr (Ext.drew _) (Ext.tr hba (Ext.tr hbb (Ext.tr hbc hbd)))⟩
        case round =>
          clear hba hbb hbc hbd
          obtain ⟨j, hj, rfl, hE5⟩ := hrel
          have hL5 := hLs.out _ hE5
          by_cases hjn : j < n
          · have jk : (0 : Int) ≤ (j : Int) := by omega
            have jk2 : (j : Int) < (n : Int) := by omega
            obtain ⟨cp, hcp⟩ : ∃ cp, cp = m2.cellP j := ⟨_, rfl⟩
            have hC1 := hCt.out j
            have hC2 := hCs.out j
            rw [← hcp] at hC1 hC2
            have HC1 := Lib.hid hC1
            have HC2 := Lib.hid hC2
            clear hC1 hC2 hcp
            go_wp2_with (go_at_call 18; refine hL5.mono ?_; clear hL5; rintro e5 w5 ⟨rfl, rfl⟩)
            refine rg_start (by kernel_rfl) ?_
            refine rg_take 0 rfl (by kernel_rfl) (by kernel_rfl) (by kernel_rfl) (fun _ _ _ _ h => h) (by rfl) ⟨_, fun w' hx => by (go_simp <;> with_reducible rfl), ?_⟩
            simp only [Act.put, List.setIfInBounds_toArray, List.set_cons_zero, List.set_cons_succ]
            refine rg_take 1 rfl (by kernel_rfl) (by kernel_rfl) (by kernel_rfl) (fun _ _ _ _ h => h) (by rfl) ⟨_, fun w' hx => by (go_simp <;> with_reducible rfl), ?_⟩
            simp only [Act.put, List.setIfInBounds_toArray, List.set_cons_zero, List.set_cons_succ]
            refine rg_take 4 rfl (by kernel_rfl) (by kernel_rfl) (by kernel_rfl) (fun _ _ _ _ h => h) (by rfl) ⟨_, fun w' hx => by (go_simp <;> with_reducible rfl), ?_⟩
            simp only [Act.put, List.setIfInBounds_toArray, List.set_cons_zero, List.set_cons_succ]
            refine rg_take 5 rfl (by kernel_rfl) (by kernel_rfl) (by kernel_rfl) (fun _ _ _ _ h => h) (by rfl) ⟨_, fun w' hx => by (go_simp <;> with_reducible rfl), ?_⟩
            simp only [Act.put, List.setIfInBounds_toArray, List.set_cons_zero, List.set_cons_succ]
            refine rg_call 2 (HC1.out _ (Ext.tr hE5 (Ext.drew _))) rfl (by kernel_rfl) (by rfl) (by go_simp) ?_
            rintro ee we ⟨A5, c5, rfl, ho5, hbe⟩
            refine ⟨_, rfl, hbe, ?_⟩
            have ho5r := Lib.hid ho5.rd'
            clear ho5
            simp only [Act.put, List.setIfInBounds_toArray, List.set_cons_zero, List.set_cons_succ]
            refine rg_take 3 rfl (by kernel_rfl) (by kernel_rfl) (by kernel_rfl) (fun _ _ _ _ h => h) (by rfl) ⟨.string ⟨(cp).toArray⟩, fun w' hx => ex_str rfl rfl Try.underlying30 Try.underlying5 Try.underlying9 ((ho5r.out).below hx) rfl, ?_⟩
            simp only [Act.put, List.setIfInBounds_toArray, List.set_cons_zero, List.set_cons_succ]
            refine rg_call 6 (HC2.out _ (Ext.tr hE5 (Ext.tr (Ext.drew _) hbe))) rfl (by kernel_rfl) (by rfl) (by go_simp) ?_
            rintro ee wf ⟨A6, c6, rfl, ho6, hbf⟩
            refine ⟨_, rfl, hbf, ?_⟩
            have ho6r := Lib.hid ho6.rd'
            clear ho6
            simp only [Act.put, List.setIfInBounds_toArray, List.set_cons_zero, List.set_cons_succ]
            refine rg_take 7 rfl (by kernel_rfl) (by kernel_rfl) (by kernel_rfl) (fun _ _ _ _ h => h) (by rfl) ⟨.string ⟨(cp).toArray⟩, fun w' hx => ex_str rfl rfl Try.underlying30 Try.underlying5 Try.underlying9 ((ho6r.out).below hx) rfl, ?_⟩
            simp only [Act.put, List.setIfInBounds_toArray, List.set_cons_zero, List.set_cons_succ]
            refine rg_take 8 rfl (by kernel_rfl) (by kernel_rfl) (by kernel_rfl) (fun _ _ _ _ h => h) (by rfl) ⟨.bool (!(cp == cp)), fun w' hx => ex_neqS rfl rfl rfl, ?_⟩
            rw [show (!(cp == cp)) = false by simp]
            simp only [Act.put, List.setIfInBounds_toArray, List.set_cons_zero, List.set_cons_succ]
            refine rg_done (by kernel_rfl) ?_
            go_wp2_with fail
            go_roundw
            case rel => exact ⟨j + 1, by omega, by go_num, Ext.tr hE5 (Ext.tr (Ext.drew _) (Ext.tr hbe hbf))⟩
            case measure => simp [intOf]; omega
          · obtain rfl : j = n := by omega
            go_wp2_with (go_at_call 18; refine hL5.mono ?_; clear hL5; rintro e5 w5 ⟨rfl, rfl⟩)
            go_roundw
            case rel => exact ⟨k + 1, b2, m2, by omega, by go_num, HSx.out.ext hE5, Ext.tr hE4 hE5⟩
            case measure => simp [intOf]; omega
      · by_cases k1 : kd = 1
        · subst k1
          clear k0
          go_wp2_with fail
          refine (delete_any g b m di wr HS.out).mono ?_
          rintro e2 w2 ⟨rfl, ⟨b2, hS2⟩, hg2⟩
          have hE2 : Ext w w2 := below_row hE hg2 (by have := Hg.out; omega) (by have := Hgl.out; have := Hg.out; omega)
          obtain ⟨m2, hm2⟩ : ∃ m2, m2 = (m.delete di).2 := ⟨_, rfl⟩
          rw [← hm2] at hS2
          clear hm2 hg2 HS y0 y1 y2 Hpr Hne hE
          go_wp2_with fail
          refine (sbytes_any g b2 m2 w2 hS2).mono ?_
          rintro e3 w3 ⟨bs, A3, hbs, rfl, ho3, hx3⟩
          have hS3 := hS2.ext hx3
          have hE3 : Ext w w3 := Ext.tr hE2 hx3
          have hp := sparse_any A3 bs 243 w3 ho3.rd'
          rw [hbs.rel.len] at hp
          obtain ⟨hv, hof⟩ := hbs.valid hS2.inv
          clear hS2 hE2 ho3 hx3
          go_wp2_with fail
          refine hp.mono ?_
          clear hp
          rintro e4 w4 (⟨t, _, rfl, htg, hT4, hx4⟩ | ⟨hn, _⟩)
          case inr => exact absurd hv hn
          rw [hof] at hT4
          have hS4 := hS3.ext hx4
          have hE4 : Ext w w4 := Ext.tr hE3 hx4
          clear hS3 hE3 hx4 htg hv hof
          have HB := Back.mk' hS4 hT4
          obtain ⟨n, hn⟩ : ∃ n, n = m2.l.length := ⟨_, rfl⟩
          obtain ⟨fr, hfr⟩ : ∃ fr : Nat, fr = m2.free := ⟨_, rfl⟩
          rw [← hn, ← hfr] at HB
          have hLt := Lib.hid HB.lenT
          have hLs := Lib.hid HB.lenS
          have hFt := Lib.hid HB.freeT
          have hFs := Lib.hid HB.freeS
          have hBt := Lib.hid HB.bytesT
          have hBs := Lib.hid HB.bytesS
          have hCt := Lib.hid HB.cellT
          have hCs := Lib.hid HB.cellS
          have HN := Lib.hid hn
          have HSx := Lib.hid hS4
          have hn120 : n ≤ 120 := by have := hS4.inv.n; omega
          clear HB hS4 hT4 hbs hn hfr
          go_wp2_with fail
          refine rg_start (by kernel_rfl) ?_
          refine rg_take 0 rfl (by kernel_rfl) (by kernel_rfl) (by kernel_rfl) (fun _ _ _ _ h => h) (by rfl) ⟨_, fun w' hx => by (go_simp <;> with_reducible rfl), ?_⟩
          simp only [Act.put, List.setIfInBounds_toArray, List.set_cons_zero, List.set_cons_succ]
          refine rg_call 1 (num06 0 w4.drew) rfl (by kernel_rfl) (by rfl) (by go_simp) ?_
          rintro ee wz ⟨rfl, rfl⟩
          refine ⟨_, rfl, Ext.refl _, ?_⟩
          simp only [Act.put, List.setIfInBounds_toArray, List.set_cons_zero, List.set_cons_succ]
          refine rg_take 2 rfl (by kernel_rfl) (by kernel_rfl) (by kernel_rfl) (fun _ _ _ _ h => h) (by rfl) ⟨.bool false, fun w' hx => by (go_simp; try rfl), ?_⟩
          simp only [Act.put, List.setIfInBounds_toArray, List.set_cons_zero, List.set_cons_succ]
          refine rg_take 3 rfl (by kernel_rfl) (by kernel_rfl) (by kernel_rfl) (fun _ _ _ _ h => h) (by rfl) ⟨_, fun w' hx => by (go_simp <;> with_reducible rfl), ?_⟩
          simp only [Act.put, List.setIfInBounds_toArray, List.set_cons_zero, List.set_cons_succ]
          refine rg_take 4 rfl (by kernel_rfl) (by kernel_rfl) (by kernel_rfl) (fun _ _ _ _ h => h) (by rfl) ⟨_, fun w' hx => by (go_simp <;> with_reducible rfl), ?_⟩
          simp only [Act.put, List.setIfInBounds_toArray, List.set_cons_zero, List.set_cons_succ]
          refine rg_take 5 rfl (by kernel_rfl) (by kernel_rfl) (by kernel_rfl) (fun _ _ _ _ h => h) (by rfl) ⟨.bool false, fun w' hx => by (go_simp; try rfl), ?_⟩
          simp only [Act.put, List.setIfInBounds_toArray, List.set_cons_zero, List.set_cons_succ]
          refine rg_take 6 rfl (by kernel_rfl) (by kernel_rfl) (by kernel_rfl) (fun _ _ _ _ h => h) (by rfl) ⟨_, fun w' hx => by (go_simp <;> with_reducible rfl), ?_⟩
          simp only [Act.put, List.setIfInBounds_toArray, List.set_cons_zero, List.set_cons_succ]
          refine rg_take 7 rfl (by kernel_rfl) (by kernel_rfl) (by kernel_rfl) (fun _ _ _ _ h => h) (by rfl) ⟨_, fun w' hx => by (go_simp <;> with_reducible rfl), ?_⟩
          simp only [Act.put, List.setIfInBounds_toArray, List.set_cons_zero, List.set_cons_succ]
          refine rg_take 8 rfl (by kernel_rfl) (by kernel_rfl) (by kernel_rfl) (fun _ _ _ _ h => h) (by rfl) ⟨_, fun w' hx => by (go_simp <;> with_reducible rfl), ?_⟩
          simp only [Act.put, List.setIfInBounds_toArray, List.set_cons_zero, List.set_cons_succ]
          refine rg_take 10 rfl (by kernel_rfl) (by kernel_rfl) (by kernel_rfl) (fun _ _ _ _ h => h) (by rfl) ⟨_, fun w' hx => by (go_simp <;> with_reducible rfl), ?_⟩
          simp only [Act.put, List.setIfInBounds_toArray, List.set_cons_zero, List.set_cons_succ]
          refine rg_call 9 (hLt.out _ (Ext.drew w4)) rfl (by kernel_rfl) (by rfl) (by go_simp) ?_
          rintro ee wz ⟨rfl, rfl⟩
          refine ⟨_, rfl, Ext.refl _, ?_⟩
          simp only [Act.put, List.setIfInBounds_toArray, List.set_cons_zero, List.set_cons_succ]
          refine rg_call 11 (hLs.out _ (Ext.drew w4)) rfl (by kernel_rfl) (by rfl) (by go_simp) ?_
          rintro ee wz ⟨rfl, rfl⟩
          refine ⟨_, rfl, Ext.refl _, ?_⟩
          simp only [Act.put, List.setIfInBounds_toArray, List.set_cons_zero, List.set_cons_succ]
          refine rg_take 12 rfl (by kernel_rfl) (by kernel_rfl) (by kernel_rfl) (fun _ _ _ _ h => h) (by rfl) ⟨.bool false, fun w' hx => by (go_simp; try rfl), ?_⟩
          simp only [Act.put, List.setIfInBounds_toArray, List.set_cons_zero, List.set_cons_succ]
          refine rg_take 13 rfl (by kernel_rfl) (by kernel_rfl) (by kernel_rfl) (fun _ _ _ _ h => h) (by rfl) ⟨_, fun w' hx => by (go_simp <;> with_reducible rfl), ?_⟩
          simp only [Act.put, List.setIfInBounds_toArray, List.set_cons_zero, List.set_cons_succ]
          refine rg_take 14 rfl (by kernel_rfl) (by kernel_rfl) (by kernel_rfl) (fun _ _ _ _ h => h) (by rfl) ⟨_, fun w' hx => by (go_simp <;> with_reducible rfl), ?_⟩
          simp only [Act.put, List.setIfInBounds_toArray, List.set_cons_zero, List.set_cons_succ]
          refine rg_take 15 rfl (by kernel_rfl) (by kernel_rfl) (by kernel_rfl) (fun _ _ _ _ h => h) (by rfl) ⟨_, fun w' hx => by (go_simp <;> with_reducible rfl), ?_⟩
          simp only [Act.put, List.setIfInBounds_toArray, List.set_cons_zero, List.set_cons_succ]
          refine rg_take 17 rfl (by kernel_rfl) (by kernel_rfl) (by kernel_rfl) (fun _ _ _ _ h => h) (by rfl) ⟨_, fun w' hx => by (go_simp <;> with_reducible rfl), ?_⟩
          simp only [Act.put, List.setIfInBounds_toArray, List.set_cons_zero, List.set_cons_succ]
          refine rg_call 16 (hFt.out _ (Ext.drew w4)) rfl (by kernel_rfl) (by rfl) (by go_simp) ?_
          rintro ee wa ⟨rfl, hba⟩
          refine ⟨_, rfl, hba, ?_⟩
          simp only [Act.put, List.setIfInBounds_toArray, List.set_cons_zero, List.set_cons_succ]
          refine rg_call 18 (hFs.out _ (Ext.tr (Ext.drew w4) hba)) rfl (by kernel_rfl) (by rfl) (by go_simp) ?_
          rintro ee wb ⟨rfl, hbb⟩
          refine ⟨_, rfl, hbb, ?_⟩
          simp only [Act.put, List.setIfInBounds_toArray, List.set_cons_zero, List.set_cons_succ]
          refine rg_take 19 rfl (by kernel_rfl) (by kernel_rfl) (by kernel_rfl) (fun _ _ _ _ h => h) (by rfl) ⟨.bool false, fun w' hx => by (go_simp; try rfl), ?_⟩
          simp only [Act.put, List.setIfInBounds_toArray, List.set_cons_zero, List.set_cons_succ]
          refine rg_take 20 rfl (by kernel_rfl) (by kernel_rfl) (by kernel_rfl) (fun _ _ _ _ h => h) (by rfl) ⟨_, fun w' hx => by (go_simp <;> with_reducible rfl), ?_⟩
          simp only [Act.put, List.setIfInBounds_toArray, List.set_cons_zero, List.set_cons_succ]
          refine rg_take 21 rfl (by kernel_rfl) (by kernel_rfl) (by kernel_rfl) (fun _ _ _ _ h => h) (by rfl) ⟨_, fun w' hx => by (go_simp <;> with_reducible rfl), ?_⟩
          simp only [Act.put, List.setIfInBounds_toArray, List.set_cons_zero, List.set_cons_succ]
          refine rg_take 22 rfl (by kernel_rfl) (by kernel_rfl) (by kernel_rfl) (fun _ _ _ _ h => h) (by rfl) ⟨_, fun w' hx => by (go_simp <;> with_reducible rfl), ?_⟩
          simp only [Act.put, List.setIfInBounds_toArray, List.set_cons_zero, List.set_cons_succ]
          refine rg_take 25 rfl (by kernel_rfl) (by kernel_rfl) (by kernel_rfl) (fun _ _ _ _ h => h) (by rfl) ⟨_, fun w' hx => by (go_simp <;> with_reducible rfl), ?_⟩
          simp only [Act.put, List.setIfInBounds_toArray, List.set_cons_zero, List.set_cons_succ]
          refine rg_call 23 (hBt.out _ (Ext.tr (Ext.drew w4) (Ext.tr hba hbb))) rfl (by kernel_rfl) (by rfl) (by go_simp) ?_
          rintro ee wc ⟨bs1, A1, hi1, rfl, ho1, hbc⟩
          refine ⟨_, rfl, hbc, ?_⟩
          have ho1r := Lib.hid ho1.rd'
          have HL1 := Lib.hid hi1.rel.len
          have HI1 := Lib.hid hi1
          clear ho1 hi1
          simp only [Act.put, List.setIfInBounds_toArray, List.set_cons_zero, List.set_cons_succ]
          refine rg_take 24 rfl (by kernel_rfl) (by kernel_rfl) (by kernel_rfl) (fun _ _ _ _ h => h) (by rfl) ⟨.string ⟨bs1.toArray⟩, fun w' hx => ex_str rfl rfl Try.underlying30 Try.underlying5 Try.underlying9 ((ho1r.out).below hx) HL1.out.symm, ?_⟩
          simp only [Act.put, List.setIfInBounds_toArray, List.set_cons_zero, List.set_cons_succ]
          refine rg_call 26 (hBs.out _ (Ext.tr (Ext.drew w4) (Ext.tr hba (Ext.tr hbb hbc)))) rfl (by kernel_rfl) (by rfl) (by go_simp) ?_
          rintro ee wd ⟨bs2, A2, hi2, rfl, ho2, hbd⟩
          refine ⟨_, rfl, hbd, ?_⟩
          obtain rfl := HI1.out.uniq hi2.fixed
          have ho2r := Lib.hid ho2.rd'
          clear ho2 hi2
          simp only [Act.put, List.setIfInBounds_toArray, List.set_cons_zero, List.set_cons_succ]
          refine rg_take 27 rfl (by kernel_rfl) (by kernel_rfl) (by kernel_rfl) (fun _ _ _ _ h => h) (by rfl) ⟨.string ⟨bs1.toArray⟩, fun w' hx => ex_str rfl rfl Try.underlying30 Try.underlying5 Try.underlying9 ((ho2r.out).below hx) HL1.out.symm, ?_⟩
          simp only [Act.put, List.setIfInBounds_toArray, List.set_cons_zero, List.set_cons_succ]
          refine rg_take 28 rfl (by kernel_rfl) (by kernel_rfl) (by kernel_rfl) (fun _ _ _ _ h => h) (by rfl) ⟨.bool (!(bs1 == bs1)), fun w' hx => ex_neqS rfl rfl rfl, ?_⟩
          rw [show (!(bs1 == bs1)) = false by simp]
          simp only [Act.put, List.setIfInBounds_toArray, List.set_cons_zero, List.set_cons_succ]
          refine rg_take 29 rfl (by kernel_rfl) (by kernel_rfl) (by kernel_rfl) (fun _ _ _ _ h => h) (by rfl) ⟨_, fun w' hx => by (go_simp <;> with_reducible rfl), ?_⟩
          simp only [Act.put, List.setIfInBounds_toArray, List.set_cons_zero, List.set_cons_succ]
          refine rg_done (by kernel_rfl) ?_
          go_wp2_with fail
          go_loopw [7] (fun i wv => ∃ j : Nat, j ≤ n ∧ i = .int .i64 j ∧ Ext w4 wv) (fun i _ => n - (intOf i).toNat)
          case atStart => exact ⟨0, by omega, rfl, Ext.tr (Ext.drew _) (Ext.tr hba (Ext.tr hbb (Ext.tr hbc hbd)))⟩
          case round =>
            clear hba hbb hbc hbd
            obtain ⟨j, hj, rfl, hE5⟩ := hrel
            have hL5 := hLs.out _ hE5
            by_cases hjn : j < n
            · have jk : (0 : Int) ≤ (j : Int) := by omega
              have jk2 : (j : Int) < (n : Int) := by omega
              obtain ⟨cp, hcp⟩ : ∃ cp, cp = m2.cellP j := ⟨_, rfl⟩
              have hC1 := hCt.out j
              have hC2 := hCs.out j
              rw [← hcp] at hC1 hC2
              have HC1 := Lib.hid hC1
              have HC2 := Lib.hid hC2
              clear hC1 hC2 hcp
              go_wp2_with (go_at_call 18; refine hL5.mono ?_; clear hL5; rintro e5 w5 ⟨rfl, rfl⟩)
              refine rg_start (by kernel_rfl) ?_
              refine rg_take 0 rfl (by kernel_rfl) (by kernel_rfl) (by kernel_rfl) (fun _ _ _ _ h => h) (by rfl) ⟨_, fun w' hx => by (go_simp <;> with_reducible rfl), ?_⟩
              simp only [Act.put, List.setIfInBounds_toArray, List.set_cons_zero, List.set_cons_succ]
              refine rg_take 1 rfl (by kernel_rfl) (by kernel_rfl) (by kernel_rfl) (fun _ _ _ _ h => h) (by rfl) ⟨_, fun w' hx => by (go_simp <;> with_reducible rfl), ?_⟩
              simp only [Act.put, List.setIfInBounds_toArray, List.set_cons_zero, List.set_cons_succ]
              refine rg_take 4 rfl (by kernel_rfl) (by kernel_rfl) (by kernel_rfl) (fun _ _ _ _ h => h) (by rfl) ⟨_, fun w' hx => by (go_simp <;> with_reducible rfl), ?_⟩
              simp only [Act.put, List.setIfInBounds_toArray, List.set_cons_zero, List.set_cons_succ]
              refine rg_take 5 rfl (by kernel_rfl) (by kernel_rfl) (by kernel_rfl) (fun _ _ _ _ h => h) (by rfl) ⟨_, fun w' hx => by (go_simp <;> with_reducible rfl), ?_⟩
              simp only [Act.put, List.setIfInBounds_toArray, List.set_cons_zero, List.set_cons_succ]
              refine rg_call 2 (HC1.out _ (Ext.tr hE5 (Ext.drew _))) rfl (by kernel_rfl) (by rfl) (by go_simp) ?_
              rintro ee we ⟨A5, c5, rfl, ho5, hbe⟩
              refine ⟨_, rfl, hbe, ?_⟩
              have ho5r := Lib.hid ho5.rd'
              clear ho5
              simp only [Act.put, List.setIfInBounds_toArray, List.set_cons_zero, List.set_cons_succ]
              refine rg_take 3 rfl (by kernel_rfl) (by kernel_rfl) (by kernel_rfl) (fun _ _ _ _ h => h) (by rfl) ⟨.string ⟨(cp).toArray⟩, fun w' hx => ex_str rfl rfl Try.underlying30 Try.underlying5 Try.underlying9 ((ho5r.out).below hx) rfl, ?_⟩
              simp only [Act.put, List.setIfInBounds_toArray, List.set_cons_zero, List.set_cons_succ]
              refine rg_call 6 (HC2.out _ (Ext.tr hE5 (Ext.tr (Ext.drew _) hbe))) rfl (by kernel_rfl) (by rfl) (by go_simp) ?_
              rintro ee wf ⟨A6, c6, rfl, ho6, hbf⟩
              refine ⟨_, rfl, hbf, ?_⟩
              have ho6r := Lib.hid ho6.rd'
              clear ho6
              simp only [Act.put, List.setIfInBounds_toArray, List.set_cons_zero, List.set_cons_succ]
              refine rg_take 7 rfl (by kernel_rfl) (by kernel_rfl) (by kernel_rfl) (fun _ _ _ _ h => h) (by rfl) ⟨.string ⟨(cp).toArray⟩, fun w' hx => ex_str rfl rfl Try.underlying30 Try.underlying5 Try.underlying9 ((ho6r.out).below hx) rfl, ?_⟩
              simp only [Act.put, List.setIfInBounds_toArray, List.set_cons_zero, List.set_cons_succ]
              refine rg_take 8 rfl (by kernel_rfl) (by kernel_rfl) (by kernel_rfl) (fun _ _ _ _ h => h) (by rfl) ⟨.bool (!(cp == cp)), fun w' hx => ex_neqS rfl rfl rfl, ?_⟩
              rw [show (!(cp == cp)) = false by simp]
              simp only [Act.put, List.setIfInBounds_toArray, List.set_cons_zero, List.set_cons_succ]
              refine rg_done (by kernel_rfl) ?_
              go_wp2_with fail
              go_roundw
              case rel => exact ⟨j + 1, by omega, by go_num, Ext.tr hE5 (Ext.tr (Ext.drew _) (Ext.tr hbe hbf))⟩
              case measure => simp [intOf]; omega
            · obtain rfl : j = n := by omega
              go_wp2_with (go_at_call 18; refine hL5.mono ?_; clear hL5; rintro e5 w5 ⟨rfl, rfl⟩)
              go_roundw
              case rel => exact ⟨k + 1, b2, m2, by omega, by go_num, HSx.out.ext hE5, Ext.tr hE4 hE5⟩
              case measure => simp [intOf]; omega
        · by_cases k2 : kd = 2
          · subst k2
            clear k0 k1
            go_wp2_with fail
            refine (pack_any g b m wr HS.out).mono ?_
            rintro e2 w2 ⟨rfl, ⟨b2, hS2⟩, hg2⟩
            have hE2 : Ext w w2 := below_row hE hg2 (by have := Hg.out; omega) (by have := Hgl.out; have := Hg.out; omega)
            obtain ⟨m2, hm2⟩ : ∃ m2, m2 = m.pack := ⟨_, rfl⟩
            rw [← hm2] at hS2
            clear hm2 hg2 HS y0 y1 y2 Hpr Hne hE
            go_wp2_with fail
            refine (sbytes_any g b2 m2 w2 hS2).mono ?_
            rintro e3 w3 ⟨bs, A3, hbs, rfl, ho3, hx3⟩
            have hS3 := hS2.ext hx3
            have hE3 : Ext w w3 := Ext.tr hE2 hx3
            have hp := sparse_any A3 bs 243 w3 ho3.rd'
            rw [hbs.rel.len] at hp
            obtain ⟨hv, hof⟩ := hbs.valid hS2.inv
            clear hS2 hE2 ho3 hx3
            go_wp2_with fail
            refine hp.mono ?_
            clear hp
            rintro e4 w4 (⟨t, _, rfl, htg, hT4, hx4⟩ | ⟨hn, _⟩)
            case inr => exact absurd hv hn
            rw [hof] at hT4
            have hS4 := hS3.ext hx4
            have hE4 : Ext w w4 := Ext.tr hE3 hx4
            clear hS3 hE3 hx4 htg hv hof
            have HB := Back.mk' hS4 hT4
            obtain ⟨n, hn⟩ : ∃ n, n = m2.l.length := ⟨_, rfl⟩
            obtain ⟨fr, hfr⟩ : ∃ fr : Nat, fr = m2.free := ⟨_, rfl⟩
            rw [← hn, ← hfr] at HB
            have hLt := Lib.hid HB.lenT
            have hLs := Lib.hid HB.lenS
            have hFt := Lib.hid HB.freeT
            have hFs := Lib.hid HB.freeS
            have hBt := Lib.hid HB.bytesT
            have hBs := Lib.hid HB.bytesS
            have hCt := Lib.hid HB.cellT
            have hCs := Lib.hid HB.cellS
            have HN := Lib.hid hn
            have HSx := Lib.hid hS4
            have hn120 : n ≤ 120 := by have := hS4.inv.n; omega
            clear HB hS4 hT4 hbs hn hfr
            go_wp2_with fail
            refine rg_start (by kernel_rfl) ?_
            refine rg_take 0 rfl (by kernel_rfl) (by kernel_rfl) (by kernel_rfl) (fun _ _ _ _ h => h) (by rfl) ⟨_, fun w' hx => by (go_simp <;> with_reducible rfl), ?_⟩
            simp only [Act.put, List.setIfInBounds_toArray, List.set_cons_zero, List.set_cons_succ]
            refine rg_call 1 (num06 0 w4.drew) rfl (by kernel_rfl) (by rfl) (by go_simp) ?_
            rintro ee wz ⟨rfl, rfl⟩
            refine ⟨_, rfl, Ext.refl _, ?_⟩
            simp only [Act.put, List.setIfInBounds_toArray, List.set_cons_zero, List.set_cons_succ]
            refine rg_take 2 rfl (by kernel_rfl) (by kernel_rfl) (by kernel_rfl) (fun _ _ _ _ h => h) (by rfl) ⟨.bool false, fun w' hx => by (go_simp; try rfl), ?_⟩
            simp only [Act.put, List.setIfInBounds_toArray, List.set_cons_zero, List.set_cons_succ]
            refine rg_take 3 rfl (by kernel_rfl) (by kernel_rfl) (by kernel_rfl) (fun _ _ _ _ h => h) (by rfl) ⟨_, fun w' hx => by (go_simp <;> with_reducible rfl), ?_⟩
            simp only [Act.put, List.setIfInBounds_toArray, List.set_cons_zero, List.set_cons_succ]
            refine rg_take 4 rfl (by kernel_rfl) (by kernel_rfl) (by kernel_rfl) (fun _ _ _ _ h => h) (by rfl) ⟨_, fun w' hx => by (go_simp <;> with_reducible rfl), ?_⟩
            simp only [Act.put, List.setIfInBounds_toArray, List.set_cons_zero, List.set_cons_succ]
            refine rg_take 5 rfl (by kernel_rfl) (by kernel_rfl) (by kernel_rfl) (fun _ _ _ _ h => h) (by rfl) ⟨.bool false, fun w' hx => by (go_simp; try rfl), ?_⟩
            simp only [Act.put, List.setIfInBounds_toArray, List.set_cons_zero, List.set_cons_succ]
            refine rg_take 6 rfl (by kernel_rfl) (by kernel_rfl) (by kernel_rfl) (fun _ _ _ _ h => h) (by rfl) ⟨_, fun w' hx => by (go_simp <;> with_reducible rfl), ?_⟩
            simp only [Act.put, List.setIfInBounds_toArray, List.set_cons_zero, List.set_cons_succ]
            refine rg_take 7 rfl (by kernel_rfl) (by kernel_rfl) (by kernel_rfl) (fun _ _ _ _ h => h) (by rfl) ⟨_, fun w' hx => by (go_simp <;> with_reducible rfl), ?_⟩
            simp only [Act.put, List.setIfInBounds_toArray, List.set_cons_zero, List.set_cons_succ]
            refine rg_take 8 rfl (by kernel_rfl) (by kernel_rfl) (by kernel_rfl) (fun _ _ _ _ h => h) (by rfl) ⟨_, fun w' hx => by (go_simp <;> with_reducible rfl), ?_⟩
            simp only [Act.put, List.setIfInBounds_toArray, List.set_cons_zero, List.set_cons_succ]
            refine rg_take 10 rfl (by kernel_rfl) (by kernel_rfl) (by kernel_rfl) (fun _ _ _ _ h => h) (by rfl) ⟨_, fun w' hx => by (go_simp <;> with_reducible rfl), ?_⟩
            simp only [Act.put, List.setIfInBounds_toArray, List.set_cons_zero, List.set_cons_succ]
            refine rg_call 9 (hLt.out _ (Ext.drew w4)) rfl (by kernel_rfl) (by rfl) (by go_simp) ?_
            rintro ee wz ⟨rfl, rfl⟩
            refine ⟨_, rfl, Ext.refl _, ?_⟩
            simp only [Act.put, List.setIfInBounds_toArray, List.set_cons_zero, List.set_cons_succ]
            refine rg_call 11 (hLs.out _ (Ext.drew w4)) rfl (by kernel_rfl) (by rfl) (by go_simp) ?_
            rintro ee wz ⟨rfl, rfl⟩
            refine ⟨_, rfl, Ext.refl _, ?_⟩
            simp only [Act.put, List.setIfInBounds_toArray, List.set_cons_zero, List.set_cons_succ]
            refine rg_take 12 rfl (by kernel_rfl) (by kernel_rfl) (by kernel_rfl) (fun _ _ _ _ h => h) (by rfl) ⟨.bool false, fun w' hx => by (go_simp; try rfl), ?_⟩
            simp only [Act.put, List.setIfInBounds_toArray, List.set_cons_zero, List.set_cons_succ]
            refine rg_take 13 rfl (by kernel_rfl) (by kernel_rfl) (by kernel_rfl) (fun _ _ _ _ h => h) (by rfl) ⟨_, fun w' hx => by (go_simp <;> with_reducible rfl), ?_⟩
            simp only [Act.put, List.setIfInBounds_toArray, List.set_cons_zero, List.set_cons_succ]
            refine rg_take 14 rfl (by kernel_rfl) (by kernel_rfl) (by kernel_rfl) (fun _ _ _ _ h => h) (by rfl) ⟨_, fun w' hx => by (go_simp <;> with_reducible rfl), ?_⟩
            simp only [Act.put, List.setIfInBounds_toArray, List.set_cons_zero, List.set_cons_succ]
            refine rg_take 15 rfl (by kernel_rfl) (by kernel_rfl) (by kernel_rfl) (fun _ _ _ _ h => h) (by rfl) ⟨_, fun w' hx => by (go_simp <;> with_reducible rfl), ?_⟩
            simp only [Act.put, List.setIfInBounds_toArray, List.set_cons_zero, List.set_cons_succ]
            refine rg_take 17 rfl (by kernel_rfl) (by kernel_rfl) (by kernel_rfl) (fun _ _ _ _ h => h) (by rfl) ⟨_, fun w' hx => by (go_simp <;> with_reducible rfl), ?_⟩
            simp only [Act.put, List.setIfInBounds_toArray, List.set_cons_zero, List.set_cons_succ]
            refine rg_call 16 (hFt.out _ (Ext.drew w4)) rfl (by kernel_rfl) (by rfl) (by go_simp) ?_
            rintro ee wa ⟨rfl, hba⟩
            refine ⟨_, rfl, hba, ?_⟩
            simp only [Act.put, List.setIfInBounds_toArray, List.set_cons_zero, List.set_cons_succ]
            refine rg_call 18 (hFs.out _ (Ext.tr (Ext.drew w4) hba)) rfl (by kernel_rfl) (by rfl) (by go_simp) ?_
            rintro ee wb ⟨rfl, hbb⟩
            refine ⟨_, rfl, hbb, ?_⟩
            simp only [Act.put, List.setIfInBounds_toArray, List.set_cons_zero, List.set_cons_succ]
            refine rg_take 19 rfl (by kernel_rfl) (by kernel_rfl) (by kernel_rfl) (fun _ _ _ _ h => h) (by rfl) ⟨.bool false, fun w' hx => by (go_simp; try rfl), ?_⟩
            simp only [Act.put, List.setIfInBounds_toArray, List.set_cons_zero, List.set_cons_succ]
            refine rg_take 20 rfl (by kernel_rfl) (by kernel_rfl) (by kernel_rfl) (fun _ _ _ _ h => h) (by rfl) ⟨_, fun w' hx => by (go_simp <;> with_reducible rfl), ?_⟩
            simp only [Act.put, List.setIfInBounds_toArray, List.set_cons_zero, List.set_cons_succ]
            refine rg_take 21 rfl (by kernel_rfl) (by kernel_rfl) (by kernel_rfl) (fun _ _ _ _ h => h) (by rfl) ⟨_, fun w' hx => by (go_simp <;> with_reducible rfl), ?_⟩
            simp only [Act.put, List.setIfInBounds_toArray, List.set_cons_zero, List.set_cons_succ]
            refine rg_take 22 rfl (by kernel_rfl) (by kernel_rfl) (by kernel_rfl) (fun _ _ _ _ h => h) (by rfl) ⟨_, fun w' hx => by (go_simp <;> with_reducible rfl), ?_⟩
            simp only [Act.put, List.setIfInBounds_toArray, List.set_cons_zero, List.set_cons_succ]
            refine rg_take 25 rfl (by kernel_rfl) (by kernel_rfl) (by kernel_rfl) (fun _ _ _ _ h => h) (by rfl) ⟨_, fun w' hx => by (go_simp <;> with_reducible rfl), ?_⟩
            simp only [Act.put, List.setIfInBounds_toArray, List.set_cons_zero, List.set_cons_succ]
            refine rg_call 23 (hBt.out _ (Ext.tr (Ext.drew w4) (Ext.tr hba hbb))) rfl (by kernel_rfl) (by rfl) (by go_simp) ?_
            rintro ee wc ⟨bs1, A1, hi1, rfl, ho1, hbc⟩
            refine ⟨_, rfl, hbc, ?_⟩
            have ho1r := Lib.hid ho1.rd'
            have HL1 := Lib.hid hi1.rel.len
            have HI1 := Lib.hid hi1
            clear ho1 hi1
            simp only [Act.put, List.setIfInBounds_toArray, List.set_cons_zero, List.set_cons_succ]
            refine rg_take 24 rfl (by kernel_rfl) (by kernel_rfl) (by kernel_rfl) (fun _ _ _ _ h => h) (by rfl) ⟨.string ⟨bs1.toArray⟩, fun w' hx => ex_str rfl rfl Try.underlying30 Try.underlying5 Try.underlying9 ((ho1r.out).below hx) HL1.out.symm, ?_⟩
            simp only [Act.put, List.setIfInBounds_toArray, List.set_cons_zero, List.set_cons_succ]
            refine rg_call 26 (hBs.out _ (Ext.tr (Ext.drew w4) (Ext.tr hba (Ext.tr hbb hbc)))) rfl (by kernel_rfl) (by rfl) (by go_simp) ?_
            rintro ee wd ⟨bs2, A2, hi2, rfl, ho2, hbd⟩
            refine ⟨_, rfl, hbd, ?_⟩
            obtain rfl := HI1.out.uniq hi2.fixed
            have ho2r := Lib.hid ho2.rd'
            clear ho2 hi2
            simp only [Act.put, List.setIfInBounds_toArray, List.set_cons_zero, List.set_cons_succ]
            refine rg_take 27 rfl (by kernel_rfl) (by kernel_rfl) (by kernel_rfl) (fun _ _ _ _ h => h) (by rfl) ⟨.string ⟨bs1.toArray⟩, fun w' hx => ex_str rfl rfl Try.underlying30 Try.underlying5 Try.underlying9 ((ho2r.out).below hx) HL1.out.symm, ?_⟩
            simp only [Act.put, List.setIfInBounds_toArray, List.set_cons_zero, List.set_cons_succ]
            refine rg_take 28 rfl (by kernel_rfl) (by kernel_rfl) (by kernel_rfl) (fun _ _ _ _ h => h) (by rfl) ⟨.bool (!(bs1 == bs1)), fun w' hx => ex_neqS rfl rfl rfl, ?_⟩
            rw [show (!(bs1 == bs1)) = false by simp]
            simp only [Act.put, List.setIfInBounds_toArray, List.set_cons_zero, List.set_cons_succ]
            refine rg_take 29 rfl (by kernel_rfl) (by kernel_rfl) (by kernel_rfl) (fun _ _ _ _ h => h) (by rfl) ⟨_, fun w' hx => by (go_simp <;> with_reducible rfl), ?_⟩
            simp only [Act.put, List.setIfInBounds_toArray, List.set_cons_zero, List.set_cons_succ]
            refine rg_done (by kernel_rfl) ?_
            go_wp2_with fail
            go_loopw [7] (fun i wv => ∃ j : Nat, j ≤ n ∧ i = .int .i64 j ∧ Ext w4 wv) (fun i _ => n - (intOf i).toNat)
            case atStart => exact ⟨0, by omega, rfl, Ext.tr (Ext.drew _) (Ext.tr hba (Ext.tr hbb (Ext.tr hbc hbd)))⟩
            case round =>
              clear hba hbb hbc hbd
              obtain ⟨j, hj, rfl, hE5⟩ := hrel
              have hL5 := hLs.out _ hE5
              by_cases hjn : j < n
              · have jk : (0 : Int) ≤ (j : Int) := by omega
                have jk2 : (j : Int) < (n : Int) := by omega
                obtain ⟨cp, hcp⟩ : ∃ cp, cp = m2.cellP j := ⟨_, rfl⟩
                have hC1 := hCt.out j
                have hC2 := hCs.out j
                rw [← hcp] at hC1 hC2
                have HC1 := Lib.hid hC1
                have HC2 := Lib.hid hC2
                clear hC1 hC2 hcp
                go_wp2_with (go_at_call 18; refine hL5.mono ?_; clear hL5; rintro e5 w5 ⟨rfl, rfl⟩)
                refine rg_start (by kernel_rfl) ?_
                refine rg_take 0 rfl (by kernel_rfl) (by kernel_rfl) (by kernel_rfl) (fun _ _ _ _ h => h) (by rfl) ⟨_, fun w' hx => by (go_simp <;> with_reducible rfl), ?_⟩
                simp only [Act.put, List.setIfInBounds_toArray, List.set_cons_zero, List.set_cons_succ]
                refine rg_take 1 rfl (by kernel_rfl) (by kernel_rfl) (by kernel_rfl) (fun _ _ _ _ h => h) (by rfl) ⟨_, fun w' hx => by (go_simp <;> with_reducible rfl), ?_⟩
                simp only [Act.put, List.setIfInBounds_toArray, List.set_cons_zero, List.set_cons_succ]
                refine rg_take 4 rfl (by kernel_rfl) (by kernel_rfl) (by kernel_rfl) (fun _ _ _ _ h => h) (by rfl) ⟨_, fun w' hx => by (go_simp <;> with_reducible rfl), ?_⟩
                simp only [Act.put, List.setIfInBounds_toArray, List.set_cons_zero, List.set_cons_succ]
                refine rg_take 5 rfl (by kernel_rfl) (by kernel_rfl) (by kernel_rfl) (fun _ _ _ _ h => h) (by rfl) ⟨_, fun w' hx => by (go_simp <;> with_reducible rfl), ?_⟩
                simp only [Act.put, List.setIfInBounds_toArray, List.set_cons_zero, List.set_cons_succ]
                refine rg_call 2 (HC1.out _ (Ext.tr hE5 (Ext.drew _))) rfl (by kernel_rfl) (by rfl) (by go_simp) ?_
                rintro ee we ⟨A5, c5, rfl, ho5, hbe⟩
                refine ⟨_, rfl, hbe, ?_⟩
                have ho5r := Lib.hid ho5.rd'
                clear ho5
                simp only [Act.put, List.setIfInBounds_toArray, List.set_cons_zero, List.set_cons_succ]
                refine rg_take 3 rfl (by kernel_rfl) (by kernel_rfl) (by kernel_rfl) (fun _ _ _ _ h => h) (by rfl) ⟨.string ⟨(cp).toArray⟩, fun w' hx => ex_str rfl rfl Try.underlying30 Try.underlying5 Try.underlying9 ((ho5r.out).below hx) rfl, ?_⟩
                simp only [Act.put, List.setIfInBounds_toArray, List.set_cons_zero, List.set_cons_succ]
                refine rg_call 6 (HC2.out _ (Ext.tr hE5 (Ext.tr (Ext.drew _) hbe))) rfl (by kernel_rfl) (by rfl) (by go_simp) ?_
                rintro ee wf ⟨A6, c6, rfl, ho6, hbf⟩
                refine ⟨_, rfl, hbf, ?_⟩
                have ho6r := Lib.hid ho6.rd'
                clear ho6
                simp only [Act.put, List.setIfInBounds_toArray, List.set_cons_zero, List.set_cons_succ]
                refine rg_take 7 rfl (by kernel_rfl) (by kernel_rfl) (by kernel_rfl) (fun _ _ _ _ h => h) (by rfl) ⟨.string ⟨(cp).toArray⟩, fun w' hx => ex_str rfl rfl Try.underlying30 Try.underlying5 Try.underlying9 ((ho6r.out).below hx) rfl, ?_⟩
                simp only [Act.put, List.setIfInBounds_toArray, List.set_cons_zero, List.set_cons_succ]
                refine rg_take 8 rfl (by kernel_rfl) (by kernel_rfl) (by kernel_rfl) (fun _ _ _ _ h => h) (by rfl) ⟨.bool (!(cp == cp)), fun w' hx => ex_neqS rfl rfl rfl, ?_⟩
                rw [show (!(cp == cp)) = false by simp]
                simp only [Act.put, List.setIfInBounds_toArray, List.set_cons_zero, List.set_cons_succ]
                refine rg_done (by kernel_rfl) ?_
                go_wp2_with fail
                go_roundw
                case rel => exact ⟨j + 1, by omega, by go_num, Ext.tr hE5 (Ext.tr (Ext.drew _) (Ext.tr hbe hbf))⟩
                case measure => simp [intOf]; omega
              · obtain rfl : j = n := by omega
                go_wp2_with (go_at_call 18; refine hL5.mono ?_; clear hL5; rintro e5 w5 ⟨rfl, rfl⟩)
                go_roundw
                case rel => exact ⟨k + 1, b2, m2, by omega, by go_num, HSx.out.ext hE5, Ext.tr hE4 hE5⟩
                case measure => simp [intOf]; omega
          · obtain ⟨w2, hw2⟩ : ∃ w2, w2 = wr := ⟨_, rfl⟩
            obtain ⟨b2, hb2⟩ : ∃ b2, b2 = b := ⟨_, rfl⟩
            obtain ⟨m2, hm2⟩ : ∃ m2, m2 = m := ⟨_, rfl⟩
            rw [← hw2] at hE HS y0 y1 y2 ⊢
            rw [← hb2, ← hm2] at HS
            have hS2 := HS.out
            have hE2 := hE
            clear hw2 hb2 hm2 hE HS y1 y2 Hpr Hne
            go_wp2_with fail
            refine (sbytes_any g b2 m2 w2 hS2).mono ?_
            rintro e3 w3 ⟨bs, A3, hbs, rfl, ho3, hx3⟩
            have hS3 := hS2.ext hx3
            have hE3 : Ext w w3 := Ext.tr hE2 hx3
            have hp := sparse_any A3 bs 243 w3 ho3.rd'
            rw [hbs.rel.len] at hp
            obtain ⟨hv, hof⟩ := hbs.valid hS2.inv
            clear hS2 hE2 ho3 hx3
            go_wp2_with fail
            refine hp.mono ?_
            clear hp
            rintro e4 w4 (⟨t, _, rfl, htg, hT4, hx4⟩ | ⟨hn, _⟩)
            case inr => exact absurd hv hn
            rw [hof] at hT4
            have hS4 := hS3.ext hx4
            have hE4 : Ext w w4 := Ext.tr hE3 hx4
            clear hS3 hE3 hx4 htg hv hof
            have HB := Back.mk' hS4 hT4
            obtain ⟨n, hn⟩ : ∃ n, n = m2.l.length := ⟨_, rfl⟩
            obtain ⟨fr, hfr⟩ : ∃ fr : Nat, fr = m2.free := ⟨_, rfl⟩
            rw [← hn, ← hfr] at HB
            have hLt := Lib.hid HB.lenT
            have hLs := Lib.hid HB.lenS
            have hFt := Lib.hid HB.freeT
            have hFs := Lib.hid HB.freeS
            have hBt := Lib.hid HB.bytesT
            have hBs := Lib.hid HB.bytesS
            have hCt := Lib.hid HB.cellT
            have hCs := Lib.hid HB.cellS
            have HN := Lib.hid hn
            have HSx := Lib.hid hS4
            have hn120 : n ≤ 120 := by have := hS4.inv.n; omega
            clear HB hS4 hT4 hbs hn hfr
            go_wp2_with fail
            refine rg_start (by kernel_rfl) ?_
            refine rg_take 0 rfl (by kernel_rfl) (by kernel_rfl) (by kernel_rfl) (fun _ _ _ _ h => h) (by rfl) ⟨_, fun w' hx => by (go_simp <;> with_reducible rfl), ?_⟩
            simp only [Act.put, List.setIfInBounds_toArray, List.set_cons_zero, List.set_cons_succ]
            refine rg_call 1 (num06 0 w4.drew) rfl (by kernel_rfl) (by rfl) (by go_simp) ?_
            rintro ee wz ⟨rfl, rfl⟩
            refine ⟨_, rfl, Ext.refl _, ?_⟩
            simp only [Act.put, List.setIfInBounds_toArray, List.set_cons_zero, List.set_cons_succ]
            refine rg_take 2 rfl (by kernel_rfl) (by kernel_rfl) (by kernel_rfl) (fun _ _ _ _ h => h) (by rfl) ⟨.bool false, fun w' hx => by (go_simp; try rfl), ?_⟩
            simp only [Act.put, List.setIfInBounds_toArray, List.set_cons_zero, List.set_cons_succ]
            refine rg_take 3 rfl (by kernel_rfl) (by kernel_rfl) (by kernel_rfl) (fun _ _ _ _ h => h) (by rfl) ⟨_, fun w' hx => by (go_simp <;> with_reducible rfl), ?_⟩
            simp only [Act.put, List.setIfInBounds_toArray, List.set_cons_zero, List.set_cons_succ]
            refine rg_take 4 rfl (by kernel_rfl) (by kernel_rfl) (by kernel_rfl) (fun _ _ _ _ h => h) (by rfl) ⟨_, fun w' hx => by (go_simp <;> with_reducible rfl), ?_⟩
            simp only [Act.put, List.setIfInBounds_toArray, List.set_cons_zero, List.set_cons_succ]
            refine rg_take 5 rfl (by kernel_rfl) (by kernel_rfl) (by kernel_rfl) (fun _ _ _ _ h => h) (by rfl) ⟨.bool false, fun w' hx => by (go_simp; try rfl), ?_⟩
            simp only [Act.put, List.setIfInBounds_toArray, List.set_cons_zero, List.set_cons_succ]
            refine rg_take 6 rfl (by kernel_rfl) (by kernel_rfl) (by kernel_rfl) (fun _ _ _ _ h => h) (by rfl) ⟨_, fun w' hx => by (go_simp <;> with_reducible rfl), ?_⟩
            simp only [Act.put, List.setIfInBounds_toArray, List.set_cons_zero, List.set_cons_succ]
            refine rg_take 7 rfl (by kernel_rfl) (by kernel_rfl) (by kernel_rfl) (fun _ _ _ _ h => h) (by rfl) ⟨_, fun w' hx => by (go_simp <;> with_reducible rfl), ?_⟩
            simp only [Act.put, List.setIfInBounds_toArray, List.set_cons_zero, List.set_cons_succ]
            refine rg_take 8 rfl (by kernel_rfl) (by kernel_rfl) (by kernel_rfl) (fun _ _ _ _ h => h) (by rfl) ⟨_, fun w' hx => by (go_simp <;> with_reducible rfl), ?_⟩
            simp only [Act.put, List.setIfInBounds_toArray, List.set_cons_zero, List.set_cons_succ]
            refine rg_take 10 rfl (by kernel_rfl) (by kernel_rfl) (by kernel_rfl) (fun _ _ _ _ h => h) (by rfl) ⟨_, fun w' hx => by (go_simp <;> with_reducible rfl), ?_⟩
            simp only [Act.put, List.setIfInBounds_toArray, List.set_cons_zero, List.set_cons_succ]
            refine rg_call 9 (hLt.out _ (Ext.drew w4)) rfl (by kernel_rfl) (by rfl) (by go_simp) ?_
            rintro ee wz ⟨rfl, rfl⟩
            refine ⟨_, rfl, Ext.refl _, ?_⟩
            simp only [Act.put, List.setIfInBounds_toArray, List.set_cons_zero, List.set_cons_succ]
            refine rg_call 11 (hLs.out _ (Ext.drew w4)) rfl (by kernel_rfl) (by rfl) (by go_simp) ?_
            rintro ee wz ⟨rfl, rfl⟩
            refine ⟨_, rfl, Ext.refl _, ?_⟩
            simp only [Act.put, List.setIfInBounds_toArray, List.set_cons_zero, List.set_cons_succ]
            refine rg_take 12 rfl (by kernel_rfl) (by kernel_rfl) (by kernel_rfl) (fun _ _ _ _ h => h) (by rfl) ⟨.bool false, fun w' hx => by (go_simp; try rfl), ?_⟩
            simp only [Act.put, List.setIfInBounds_toArray, List.set_cons_zero, List.set_cons_succ]
            refine rg_take 13 rfl (by kernel_rfl) (by kernel_rfl) (by kernel_rfl) (fun _ _ _ _ h => h) (by rfl) ⟨_, fun w' hx => by (go_simp <;> with_reducible rfl), ?_⟩
            simp only [Act.put, List.setIfInBounds_toArray, List.set_cons_zero, List.set_cons_succ]
            refine rg_take 14 rfl (by kernel_rfl) (by kernel_rfl) (by kernel_rfl) (fun _ _ _ _ h => h) (by rfl) ⟨_, fun w' hx => by (go_simp <;> with_reducible rfl), ?_⟩
            simp only [Act.put, List.setIfInBounds_toArray, List.set_cons_zero, List.set_cons_succ]
            refine rg_take 15 rfl (by kernel_rfl) (by kernel_rfl) (by kernel_rfl) (fun _ _ _ _ h => h) (by rfl) ⟨_, fun w' hx => by (go_simp <;> with_reducible rfl), ?_⟩
            simp only [Act.put, List.setIfInBounds_toArray, List.set_cons_zero, List.set_cons_succ]
            refine rg_take 17 rfl (by kernel_rfl) (by kernel_rfl) (by kernel_rfl) (fun _ _ _ _ h => h) (by rfl) ⟨_, fun w' hx => by (go_simp <;> with_reducible rfl), ?_⟩
            simp only [Act.put, List.setIfInBounds_toArray, List.set_cons_zero, List.set_cons_succ]
            refine rg_call 16 (hFt.out _ (Ext.drew w4)) rfl (by kernel_rfl) (by rfl) (by go_simp) ?_
            rintro ee wa ⟨rfl, hba⟩
            refine ⟨_, rfl, hba, ?_⟩
            simp only [Act.put, List.setIfInBounds_toArray, List.set_cons_zero, List.set_cons_succ]
            refine rg_call 18 (hFs.out _ (Ext.tr (Ext.drew w4) hba)) rfl (by kernel_rfl) (by rfl) (by go_simp) ?_
            rintro ee wb ⟨rfl, hbb⟩
            refine ⟨_, rfl, hbb, ?_⟩
            simp only [Act.put, List.setIfInBounds_toArray, List.set_cons_zero, List.set_cons_succ]
            refine rg_take 19 rfl (by kernel_rfl) (by kernel_rfl) (by kernel_rfl) (fun _ _ _ _ h => h) (by rfl) ⟨.bool false, fun w' hx => by (go_simp; try rfl), ?_⟩
            simp only [Act.put, List.setIfInBounds_toArray, List.set_cons_zero, List.set_cons_succ]
            refine rg_take 20 rfl (by kernel_rfl) (by kernel_rfl) (by kernel_rfl) (fun _ _ _ _ h => h) (by rfl) ⟨_, fun w' hx => by (go_simp <;> with_reducible rfl), ?_⟩
            simp only [Act.put, List.setIfInBounds_toArray, List.set_cons_zero, List.set_cons_succ]
            refine rg_take 21 rfl (by kernel_rfl) (by kernel_rfl) (by kernel_rfl) (fun _ _ _ _ h => h) (by rfl) ⟨_, fun w' hx => by (go_simp <;> with_reducible rfl), ?_⟩
            simp only [Act.put, List.setIfInBounds_toArray, List.set_cons_zero, List.set_cons_succ]
            refine rg_take 22 rfl (by kernel_rfl) (by kernel_rfl) (by kernel_rfl) (fun _ _ _ _ h => h) (by rfl) ⟨_, fun w' hx => by (go_simp <;> with_reducible rfl), ?_⟩
            simp only [Act.put, List.setIfInBounds_toArray, List.set_cons_zero, List.set_cons_succ]
            refine rg_take 25 rfl (by kernel_rfl) (by kernel_rfl) (by kernel_rfl) (fun _ _ _ _ h => h) (by rfl) ⟨_, fun w' hx => by (go_simp <;> with_reducible rfl), ?_⟩
            simp only [Act.put, List.setIfInBounds_toArray, List.set_cons_zero, List.set_cons_succ]
            refine rg_call 23 (hBt.out _ (Ext.tr (Ext.drew w4) (Ext.tr hba hbb))) rfl (by kernel_rfl) (by rfl) (by go_simp) ?_
            rintro ee wc ⟨bs1, A1, hi1, rfl, ho1, hbc⟩
            refine ⟨_, rfl, hbc, ?_⟩
            have ho1r := Lib.hid ho1.rd'
            have HL1 := Lib.hid hi1.rel.len
            have HI1 := Lib.hid hi1
            clear ho1 hi1
            simp only [Act.put, List.setIfInBounds_toArray, List.set_cons_zero, List.set_cons_succ]
            refine rg_take 24 rfl (by kernel_rfl) (by kernel_rfl) (by kernel_rfl) (fun _ _ _ _ h => h) (by rfl) ⟨.string ⟨bs1.toArray⟩, fun w' hx => ex_str rfl rfl Try.underlying30 Try.underlying5 Try.underlying9 ((ho1r.out).below hx) HL1.out.symm, ?_⟩
            simp only [Act.put, List.setIfInBounds_toArray, List.set_cons_zero, List.set_cons_succ]
            refine rg_call 26 (hBs.out _ (Ext.tr (Ext.drew w4) (Ext.tr hba (Ext.tr hbb hbc)))) rfl (by kernel_rfl) (by rfl) (by go_simp) ?_
            rintro ee wd ⟨bs2, A2, hi2, rfl, ho2, hbd⟩
            refine ⟨_, rfl, hbd, ?_⟩
            obtain rfl := HI1.out.uniq hi2.fixed
            have ho2r := Lib.hid ho2.rd'
            clear ho2 hi2
            simp only [Act.put, List.setIfInBounds_toArray, List.set_cons_zero, List.set_cons_succ]
            refine rg_take 27 rfl (by kernel_rfl) (by kernel_rfl) (by kernel_rfl) (fun _ _ _ _ h => h) (by rfl) ⟨.string ⟨bs1.toArray⟩, fun w' hx => ex_str rfl rfl Try.underlying30 Try.underlying5 Try.underlying9 ((ho2r.out).below hx) HL1.out.symm, ?_⟩
            simp only [Act.put, List.setIfInBounds_toArray, List.set_cons_zero, List.set_cons_succ]
            refine rg_take 28 rfl (by kernel_rfl) (by kernel_rfl) (by kernel_rfl) (fun _ _ _ _ h => h) (by rfl) ⟨.bool (!(bs1 == bs1)), fun w' hx => ex_neqS rfl rfl rfl, ?_⟩
            rw [show (!(bs1 == bs1)) = false by simp]
            simp only [Act.put, List.setIfInBounds_toArray, List.set_cons_zero, List.set_cons_succ]
            refine rg_take 29 rfl (by kernel_rfl) (by kernel_rfl) (by kernel_rfl) (fun _ _ _ _ h => h) (by rfl) ⟨_, fun w' hx => by (go_simp <;> with_reducible rfl), ?_⟩
            simp only [Act.put, List.setIfInBounds_toArray, List.set_cons_zero, List.set_cons_succ]
            refine rg_done (by kernel_rfl) ?_
            go_wp2_with fail
            go_loopw [7] (fun i wv => ∃ j : Nat, j ≤ n ∧ i = .int .i64 j ∧ Ext w4 wv) (fun i _ => n - (intOf i).toNat)
            case atStart => exact ⟨0, by omega, rfl, Ext.tr (Ext.drew _) (Ext.tr hba (Ext.tr hbb (Ext.tr hbc hbd)))⟩
            case round =>
              clear hba hbb hbc hbd
              obtain ⟨j, hj, rfl, hE5⟩ := hrel
              have hL5 := hLs.out _ hE5
              by_cases hjn : j < n
              · have jk : (0 : Int) ≤ (j : Int) := by omega
                have jk2 : (j : Int) < (n : Int) := by omega
                obtain ⟨cp, hcp⟩ : ∃ cp, cp = m2.cellP j := ⟨_, rfl⟩
                have hC1 := hCt.out j
                have hC2 := hCs.out j
                rw [← hcp] at hC1 hC2
                have HC1 := Lib.hid hC1
                have HC2 := Lib.hid hC2
                clear hC1 hC2 hcp
                go_wp2_with (go_at_call 18; refine hL5.mono ?_; clear hL5; rintro e5 w5 ⟨rfl, rfl⟩)
                refine rg_start (by kernel_rfl) ?_
                refine rg_take 0 rfl (by kernel_rfl) (by kernel_rfl) (by kernel_rfl) (fun _ _ _ _ h => h) (by rfl) ⟨_, fun w' hx => by (go_simp <;> with_reducible rfl), ?_⟩
                simp only [Act.put, List.setIfInBounds_toArray, List.set_cons_zero, List.set_cons_succ]
                refine rg_take 1 rfl (by kernel_rfl) (by kernel_rfl) (by kernel_rfl) (fun _ _ _ _ h => h) (by rfl) ⟨_, fun w' hx => by (go_simp <;> with_reducible rfl), ?_⟩
                simp only [Act.put, List.setIfInBounds_toArray, List.set_cons_zero, List.set_cons_succ]
                refine rg_take 4 rfl (by kernel_rfl) (by kernel_rfl) (by kernel_rfl) (fun _ _ _ _ h => h) (by rfl) ⟨_, fun w' hx => by (go_simp <;> with_reducible rfl), ?_⟩
                simp only [Act.put, List.setIfInBounds_toArray, List.set_cons_zero, List.set_cons_succ]
                refine rg_take 5 rfl (by kernel_rfl) (by kernel_rfl) (by kernel_rfl) (fun _ _ _ _ h => h) (by rfl) ⟨_, fun w' hx => by (go_simp <;> with_reducible rfl), ?_⟩
                simp only [Act.put, List.setIfInBounds_toArray, List.set_cons_zero, List.set_cons_succ]
                refine rg_call 2 (HC1.out _ (Ext.tr hE5 (Ext.drew _))) rfl (by kernel_rfl) (by rfl) (by go_simp) ?_
                rintro ee we ⟨A5, c5, rfl, ho5, hbe⟩
                refine ⟨_, rfl, hbe, ?_⟩
                have ho5r := Lib.hid ho5.rd'
                clear ho5
                simp only [Act.put, List.setIfInBounds_toArray, List.set_cons_zero, List.set_cons_succ]
                refine rg_take 3 rfl (by kernel_rfl) (by kernel_rfl) (by kernel_rfl) (fun _ _ _ _ h => h) (by rfl) ⟨.string ⟨(cp).toArray⟩, fun w' hx => ex_str rfl rfl Try.underlying30 Try.underlying5 Try.underlying9 ((ho5r.out).below hx) rfl, ?_⟩
                simp only [Act.put, List.setIfInBounds_toArray, List.set_cons_zero, List.set_cons_succ]
                refine rg_call 6 (HC2.out _ (Ext.tr hE5 (Ext.tr (Ext.drew _) hbe))) rfl (by kernel_rfl) (by rfl) (by go_simp) ?_
                rintro ee wf ⟨A6, c6, rfl, ho6, hbf⟩
                refine ⟨_, rfl, hbf, ?_⟩
                have ho6r := Lib.hid ho6.rd'
                clear ho6
                simp only [Act.put, List.setIfInBounds_toArray, List.set_cons_zero, List.set_cons_succ]
                refine rg_take 7 rfl (by kernel_rfl) (by kernel_rfl) (by kernel_rfl) (fun _ _ _ _ h => h) (by rfl) ⟨.string ⟨(cp).toArray⟩, fun w' hx => ex_str rfl rfl Try.underlying30 Try.underlying5 Try.underlying9 ((ho6r.out).below hx) rfl, ?_⟩
                simp only [Act.put, List.setIfInBounds_toArray, List.set_cons_zero, List.set_cons_succ]
                refine rg_take 8 rfl (by kernel_rfl) (by kernel_rfl) (by kernel_rfl) (fun _ _ _ _ h => h) (by rfl) ⟨.bool (!(cp == cp)), fun w' hx => ex_neqS rfl rfl rfl, ?_⟩
                rw [show (!(cp == cp)) = false by simp]
                simp only [Act.put, List.setIfInBounds_toArray, List.set_cons_zero, List.set_cons_succ]
                refine rg_done (by kernel_rfl) ?_
                go_wp2_with fail
                go_roundw
                case rel => exact ⟨j + 1, by omega, by go_num, Ext.tr hE5 (Ext.tr (Ext.drew _) (Ext.tr hbe hbf))⟩
                case measure => simp [intOf]; omega
              · obtain rfl : j = n := by omega
                go_wp2_with (go_at_call 18; refine hL5.mono ?_; clear hL5; rintro e5 w5 ⟨rfl, rfl⟩)
                go_roundw
                case rel => exact ⟨k + 1, b2, m2, by omega, by go_num, HSx.out.ext hE5, Ext.tr hE4 hE5⟩
                case measure => simp [intOf]; omega
    · obtain rfl : k = l.length := by omega
      clear hS
      go_wp2_with fail
      refine (live06 _).mono ?_
      rintro e9 w9 ⟨rfl, hx9⟩
      go_wp2_with fail
      go_ret
      exact ⟨rfl, Ext.tr hE hx9⟩
end Go.Proofs.Ytgfanklhihciaaa
