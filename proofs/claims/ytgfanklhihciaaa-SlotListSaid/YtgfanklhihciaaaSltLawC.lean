
/- Walk of SlotList (scowlaw06). Printed by wip/tools/gen_sltlawc06.py. -/

import Derived.Test.YtgfanklhihciaaaSltList

namespace Go.Proofs.Ytgfanklhihciaaa

open Go.RowKit

attribute [local go_sem] Oper.semAt_some

set_option maxRecDepth 100000 in
set_option maxHeartbeats 4000000 in
theorem walkSlotList (w : World) (A : Option Addr) (l : List DeV) (c : Nat) (hA : RdD w A l) (hc : l.length ≤ c) :
    Calls Try.prog 4 #[.slice A l.length c] w fun e w' => e = .returned (.bool true) ∧ Below w.heap.size w w' := by
  go_enter Try.func4, Try.ntmps4
  go_wp2_with fail
  refine (small06 A l c w hA hc).mono ?_
  rintro e0 w0 ⟨bo, rfl, hsm, rfl⟩
  cases bo
  · go_wp2_with fail
    refine (live06 _).mono ?_
    rintro e1 w1 ⟨rfl, hx1⟩
    go_wp2_with fail
    go_ret
    exact ⟨rfl, hx1⟩
  have Sm := Lib.hid (hsm rfl)
  have hl120 := Sm.out.1
  clear hsm
  go_wp2_with fail
  refine (snew_any w).mono ?_
  rintro e1 w1 ⟨rfl, hB1, hx1⟩
  have hS1 : SAt w1 w.heap.size _ SBody.new := ⟨hB1, Rel.new, SBody.new_inv⟩
  obtain ⟨b1, hb1⟩ : ∃ b1, b1 = (zeros 243).set 1 243 := ⟨_, rfl⟩
  rw [← hb1] at hS1
  obtain ⟨g, hg⟩ : ∃ g, g = w.heap.size := ⟨_, rfl⟩
  rw [← hg] at hS1 ⊢
  have Hg := Lib.hid hg
  clear hg hB1 hb1
  go_wp2_with fail
  go_loopw [4, 5, 6] (fun v r i wr => ∃ (k : Nat) (b : List UInt8) (m : SBody) (A4 : Option Addr) (c4 : Nat) (L : List (List UInt8)), k ≤ l.length ∧ i = .int .i64 k ∧ v = .slice A4 L.length c4 ∧ r = .int .i64 (m.free : Int) ∧ L = m.ps ∧ SAt wr g b m ∧ Own wr (g + 1) 9 1 A4 L.length c4 (svs L) ∧ Ext w wr) (fun _ _ i _ => l.length - (intOf i).toNat)
  case atStart => exact ⟨0, b1, SBody.new, none, 0, [], by omega, rfl, rfl, rfl, rfl, hS1, Own.none_ _ _ _ _ _, hx1⟩
  case round =>
    clear hS1 hx1 w1
    obtain ⟨k, b, m, A4, c4, L, hk, rfl, rfl, rfl, hL, hS, hO, hE⟩ := hrel
    by_cases h : k < l.length
    · obtain ⟨ad, hA1, hy, hyi⟩ := (hA.below hE).at_ h
      have hne := RdB.lt (hA.each _ (List.getElem_mem h)).pr
      have hpl := Sm.out.2 _ (List.getElem_mem h)
      have hpr := (hA.each _ (List.getElem_mem h)).pr
      obtain ⟨y, hyl⟩ : ∃ y, l[k] = y := ⟨_, rfl⟩
      rw [hyl] at hy hpl hpr hne
      have ik : (0 : Int) ≤ (k : Int) := by omega
      have ik2 : (k : Int) < (l.length : Int) := by omega
      have HL := Lib.hid hL
      have hn120 : L.length ≤ 120 := by rw [hL, m.ps_len]; exact hS.inv.n
      have hnm : L.length = m.l.length := by rw [hL, m.ps_len]
      have hnc := hO.nc
      have hfree : m.free ≤ 241 := by unfold SBody.free SBody.dir; omega
      have Hnm := Lib.hid hnm
      have Hcx := Lib.hid hy
      have hgl := lt_of_heap hS.bb.row
      subst hA1
      clear hyi hyl hL hy hnm
      go_wp2_with (first | (have hcx := Hcx.out; refine wpList_load_cells rfl 32 (.tmp 25) rfl _ rfl y.cells _ hcx Try.underlying32 rfl (dinfo _) ?_; clear hcx) | (refine wpList_store_row rfl 32 (.tmp 7) (.tmp 26) rfl wr.heap.size y.cells rfl rfl 32 _ (heap_alloc_new wr _) (dinfo _) (by rfl) (done_ _) ?_; rw [setRow_alloc]; refine Hid.out ?_))
      obtain ⟨xb, hxb⟩ : ∃ xb, xb = wr.heap.size := ⟨_, rfl⟩
      obtain ⟨w1, hw1⟩ : ∃ w1, w1 = wr.alloc (.cells y.cells 32) := ⟨_, rfl⟩
      have hDX : DX w1 xb y := ⟨by rw [hw1, hxb]; exact heap_alloc_new wr _⟩
      have hx1 : Ext wr w1 := by rw [hw1]; exact Ext.alloc wr _
      rw [← hw1, ← hxb]
      have hgx : g < xb := by omega
      have hS1 := Lib.hid (hS.ext hx1)
      have hO1 := Lib.hid (hO.below hx1)
      have hE1 := Ext.tr hE hx1
      have hI := (hS.ext hx1).inv
      have X0 := hDX.kind
      have X1 := hDX.i
      have X2 := hDX.p
      obtain ⟨kd, hkd⟩ : ∃ kd, kd = y.x.kind := ⟨_, rfl⟩
      obtain ⟨di, hdi⟩ : ∃ di, di = y.x.i := ⟨_, rfl⟩
      obtain ⟨p, hp⟩ : ∃ p, p = y.x.p := ⟨_, rfl⟩
      obtain ⟨pa, hpa⟩ : ∃ pa, pa = y.pa := ⟨_, rfl⟩
      obtain ⟨pc, hpc⟩ : ∃ pc, pc = y.pc := ⟨_, rfl⟩
      have HDX : Hid (∀ w', DX w' xb y → w'.cell? ⟨xb, 1, none⟩ = some (.int .i64 di) ∧ w'.cell? ⟨xb, 2, none⟩ = some (.slice pa p.length pc)) := fun w' h => ⟨by rw [hdi]; exact h.i, by rw [hpa, hp, hpc]; exact h.p⟩
      rw [← hkd] at X0
      rw [← hdi] at X1
      rw [← hp, ← hpa, ← hpc] at X2
      rw [← hp] at hpl
      rw [← hp, ← hpa] at hpr hne
      have Hne : Hid (p ≠ [] → ∀ a, pa = some a → a.block ≠ g) := fun h1 a h2 => by have := hne h1 a h2; have := Hg.out; omega
      have Hpr := Lib.hid (hpr.below hE1)
      have HD := Lib.hid hDX
      have hgl1 := lt_of_heap hS1.out.bb.row
      clear hkd hdi hp hpa hpc hne hpr hgl hS hO hE hx1 hw1 hxb hDX Hcx
      refine Lib.hid ?_
      by_cases k0 : kd = 0
      · subst k0
        by_cases a0 : di < 0
        ·
          go_wp2_with (go_at_call 18; refine Hid.out ?_)
          have hE3 := hE1
          have HO3 := hO1
          have HS3 := hS1
          have HL3 := HL
          clear X0 X1 X2 HD hO1 hS1 Hpr hE1 hgl1
          refine Lib.hid ?_
          have hLn := blen_any g b w1 HS3.out.bb
          rw [HS3.out.n, ← SBody.ps_len, ← HL3.out] at hLn
          refine hLn.mono ?_
          clear hLn
          rintro e4 w4 ⟨rfl, rfl⟩
          have hFr := free_any g b m w1 HS3.out
          go_wp2_with fail
          refine hFr.mono ?_
          clear hFr
          rintro e5 w5 ⟨rfl, hx5⟩
          have HS5 := Lib.hid (HS3.out.ext hx5)
          have HO5 := Lib.hid (HO3.out.below hx5)
          have hE5 := Ext.tr hE3 hx5
          clear HS3 HO3 hE3 hx5
          go_wp2_with fail
          go_loopw [9] (fun i wv => ∃ j : Nat, j ≤ L.length ∧ i = .int .i64 j ∧ Ext w5 wv) (fun i _ => L.length - (intOf i).toNat)
          case atStart => exact ⟨0, by omega, rfl, Ext.refl _⟩
          case round =>
            obtain ⟨j, hj, rfl, hE6⟩ := hrel
            by_cases hjn : j < L.length
            · have jk : (0 : Int) ≤ (j : Int) := by omega
              have jk2 : (j : Int) < (L.length : Int) := by omega
              obtain ⟨ad7, had7, hst7⟩ := (HO5.out.below hE6).strAt (k := j) hjn
              have hcp : m.cellP (j : Int) = L[j] := by
                have := m.ps_cellP j (by rw [← HL3.out]; exact hjn)
                rw [this]
                simp only [HL3.out]
              obtain ⟨cp, hcp2⟩ : ∃ cp, cp = L[j] := ⟨_, rfl⟩
              rw [← hcp2] at hcp hst7
              have hC := cell_any g b m (j : Int) _ (HS5.out.ext (Ext.tr hE6 (Ext.drew _)))
              unfold CellR at hC
              rw [hcp] at hC
              have HC := Lib.hid hC
              unfold strV at hst7
              clear hC hcp hcp2
              rw [had7]
              go_wp2_with fail
              refine rg_start (by kernel_rfl) ?_
              refine rg_take 0 rfl (by kernel_rfl) (by kernel_rfl) (by kernel_rfl) (fun _ _ _ _ h => h) (by rfl) ⟨_, fun w' hx => by (go_simp <;> with_reducible rfl), ?_⟩
              simp only [Act.put, List.setIfInBounds_toArray, List.set_cons_zero, List.set_cons_succ]
              refine rg_take 1 rfl (by kernel_rfl) (by kernel_rfl) (by kernel_rfl) (fun _ _ _ _ h => h) (by rfl) ⟨_, fun w' hx => by (go_simp <;> with_reducible rfl), ?_⟩
              simp only [Act.put, List.setIfInBounds_toArray, List.set_cons_zero, List.set_cons_succ]
              refine rg_take 4 rfl (by kernel_rfl) (by kernel_rfl) (by kernel_rfl) (fun _ _ _ _ h => h) (by rfl) ⟨_, fun w' hx => by (go_simp <;> with_reducible rfl), ?_⟩
              simp only [Act.put, List.setIfInBounds_toArray, List.set_cons_zero, List.set_cons_succ]
              refine rg_take 5 rfl (by kernel_rfl) (by kernel_rfl) (by kernel_rfl) (fun _ _ _ _ h => h) (by rfl) ⟨_, fun w' hx => by (go_simp <;> with_reducible rfl), ?_⟩
              simp only [Act.put, List.setIfInBounds_toArray, List.set_cons_zero, List.set_cons_succ]
              refine rg_take 6 rfl (by kernel_rfl) (by kernel_rfl) (by kernel_rfl) (fun _ _ _ _ h => h) (by rfl) ⟨_, fun w' hx => by (go_simp <;> with_reducible rfl), ?_⟩   -- t163 := indexAddr 34 t161 t162
              simp only [Act.put, List.setIfInBounds_toArray, List.set_cons_zero, List.set_cons_succ]
              refine rg_take 7 rfl (by kernel_rfl) (by kernel_rfl) (by kernel_rfl) (fun _ _ _ _ h => h) (by rfl) ⟨.string ⟨cp.toArray⟩, fun w' hx => by have hcx := hx.load hst7; (go_simp <;> with_reducible rfl), ?_⟩
              simp only [Act.put, List.setIfInBounds_toArray, List.set_cons_zero, List.set_cons_succ]
              refine rg_call 2 (HC.out) rfl (by kernel_rfl) (by rfl) (by go_simp) ?_
              rintro ee we ⟨A5, c5, rfl, ho5, hbe⟩
              refine ⟨_, rfl, hbe, ?_⟩
              have ho5r := Lib.hid ho5.rd'
              clear ho5
              simp only [Act.put, List.setIfInBounds_toArray, List.set_cons_zero, List.set_cons_succ]
              refine rg_take 3 rfl (by kernel_rfl) (by kernel_rfl) (by kernel_rfl) (fun _ _ _ _ h => h) (by rfl) ⟨.string ⟨(cp).toArray⟩, fun w' hx => ex_str rfl rfl Try.underlying30 Try.underlying5 Try.underlying9 ((ho5r.out).below hx) rfl, ?_⟩
              simp only [Act.put, List.setIfInBounds_toArray, List.set_cons_zero, List.set_cons_succ]
              refine rg_take 8 rfl (by kernel_rfl) (by kernel_rfl) (by kernel_rfl) (fun _ _ _ _ h => h) (by rfl) ⟨.bool (!(cp == cp)), fun w' hx => ex_neqS rfl rfl rfl, ?_⟩
              rw [show (!(cp == cp)) = false by simp]
              simp only [Act.put, List.setIfInBounds_toArray, List.set_cons_zero, List.set_cons_succ]
              refine rg_done (by kernel_rfl) ?_
              go_wp2_with fail
              go_roundw
              case rel => exact ⟨j + 1, by omega, by go_num, Ext.tr hE6 (Ext.tr (Ext.drew _) hbe)⟩
              case measure => simp [intOf]; omega
            · obtain rfl : j = L.length := by omega
              go_wp2_with fail
              go_roundw
              case rel => exact ⟨k + 1, b, m, A4, c4, L, by omega, by go_num, rfl, rfl, HL3.out, HS5.out.ext hE6, HO5.out.below hE6, Ext.tr hE5 hE6⟩
              case measure => simp [intOf]; omega
        · obtain ⟨i, rfl⟩ : ∃ i : Nat, di = i := ⟨di.toNat, by omega⟩
          have i0 : (0 : Int) ≤ (i : Int) := by omega
          by_cases a1 : L.length < i
          · have a1i : (L.length : Int) < (i : Int) := by omega
            go_wp2_with (go_at_call 18; refine Hid.out ?_)
            have hE3 := hE1
            have HO3 := hO1
            have HS3 := hS1
            have HL3 := HL
            clear X0 X1 X2 HD hO1 hS1 Hpr hE1 hgl1
            refine Lib.hid ?_
            have hLn := blen_any g b w1 HS3.out.bb
            rw [HS3.out.n, ← SBody.ps_len, ← HL3.out] at hLn
            refine hLn.mono ?_
            clear hLn
            rintro e4 w4 ⟨rfl, rfl⟩
            have hFr := free_any g b m w1 HS3.out
            go_wp2_with fail
            refine hFr.mono ?_
            clear hFr
            rintro e5 w5 ⟨rfl, hx5⟩
            have HS5 := Lib.hid (HS3.out.ext hx5)
            have HO5 := Lib.hid (HO3.out.below hx5)
            have hE5 := Ext.tr hE3 hx5
            clear HS3 HO3 hE3 hx5
            go_wp2_with fail
            go_loopw [9] (fun i wv => ∃ j : Nat, j ≤ L.length ∧ i = .int .i64 j ∧ Ext w5 wv) (fun i _ => L.length - (intOf i).toNat)
            case atStart => exact ⟨0, by omega, rfl, Ext.refl _⟩
            case round =>
              obtain ⟨j, hj, rfl, hE6⟩ := hrel
              by_cases hjn : j < L.length
              · have jk : (0 : Int) ≤ (j : Int) := by omega
                have jk2 : (j : Int) < (L.length : Int) := by omega
                obtain ⟨ad7, had7, hst7⟩ := (HO5.out.below hE6).strAt (k := j) hjn
                have hcp : m.cellP (j : Int) = L[j] := by
                  have := m.ps_cellP j (by rw [← HL3.out]; exact hjn)
                  rw [this]
                  simp only [HL3.out]
                obtain ⟨cp, hcp2⟩ : ∃ cp, cp = L[j] := ⟨_, rfl⟩
                rw [← hcp2] at hcp hst7
                have hC := cell_any g b m (j : Int) _ (HS5.out.ext (Ext.tr hE6 (Ext.drew _)))
                unfold CellR at hC
                rw [hcp] at hC
                have HC := Lib.hid hC
                unfold strV at hst7
                clear hC hcp hcp2
                rw [had7]
                go_wp2_with fail
                refine rg_start (by kernel_rfl) ?_
                refine rg_take 0 rfl (by kernel_rfl) (by kernel_rfl) (by kernel_rfl) (fun _ _ _ _ h => h) (by rfl) ⟨_, fun w' hx => by (go_simp <;> with_reducible rfl), ?_⟩
                simp only [Act.put, List.setIfInBounds_toArray, List.set_cons_zero, List.set_cons_succ]
                refine rg_take 1 rfl (by kernel_rfl) (by kernel_rfl) (by kernel_rfl) (fun _ _ _ _ h => h) (by rfl) ⟨_, fun w' hx => by (go_simp <;> with_reducible rfl), ?_⟩
                simp only [Act.put, List.setIfInBounds_toArray, List.set_cons_zero, List.set_cons_succ]
                refine rg_take 4 rfl (by kernel_rfl) (by kernel_rfl) (by kernel_rfl) (fun _ _ _ _ h => h) (by rfl) ⟨_, fun w' hx => by (go_simp <;> with_reducible rfl), ?_⟩
                simp only [Act.put, List.setIfInBounds_toArray, List.set_cons_zero, List.set_cons_succ]
                refine rg_take 5 rfl (by kernel_rfl) (by kernel_rfl) (by kernel_rfl) (fun _ _ _ _ h => h) (by rfl) ⟨_, fun w' hx => by (go_simp <;> with_reducible rfl), ?_⟩
                simp only [Act.put, List.setIfInBounds_toArray, List.set_cons_zero, List.set_cons_succ]
                refine rg_take 6 rfl (by kernel_rfl) (by kernel_rfl) (by kernel_rfl) (fun _ _ _ _ h => h) (by rfl) ⟨_, fun w' hx => by (go_simp <;> with_reducible rfl), ?_⟩   -- t163 := indexAddr 34 t161 t162
                simp only [Act.put, List.setIfInBounds_toArray, List.set_cons_zero, List.set_cons_succ]
                refine rg_take 7 rfl (by kernel_rfl) (by kernel_rfl) (by kernel_rfl) (fun _ _ _ _ h => h) (by rfl) ⟨.string ⟨cp.toArray⟩, fun w' hx => by have hcx := hx.load hst7; (go_simp <;> with_reducible rfl), ?_⟩
                simp only [Act.put, List.setIfInBounds_toArray, List.set_cons_zero, List.set_cons_succ]
                refine rg_call 2 (HC.out) rfl (by kernel_rfl) (by rfl) (by go_simp) ?_
                rintro ee we ⟨A5, c5, rfl, ho5, hbe⟩
                refine ⟨_, rfl, hbe, ?_⟩
                have ho5r := Lib.hid ho5.rd'
                clear ho5
                simp only [Act.put, List.setIfInBounds_toArray, List.set_cons_zero, List.set_cons_succ]
                refine rg_take 3 rfl (by kernel_rfl) (by kernel_rfl) (by kernel_rfl) (fun _ _ _ _ h => h) (by rfl) ⟨.string ⟨(cp).toArray⟩, fun w' hx => ex_str rfl rfl Try.underlying30 Try.underlying5 Try.underlying9 ((ho5r.out).below hx) rfl, ?_⟩
                simp only [Act.put, List.setIfInBounds_toArray, List.set_cons_zero, List.set_cons_succ]
                refine rg_take 8 rfl (by kernel_rfl) (by kernel_rfl) (by kernel_rfl) (fun _ _ _ _ h => h) (by rfl) ⟨.bool (!(cp == cp)), fun w' hx => ex_neqS rfl rfl rfl, ?_⟩
                rw [show (!(cp == cp)) = false by simp]
                simp only [Act.put, List.setIfInBounds_toArray, List.set_cons_zero, List.set_cons_succ]
                refine rg_done (by kernel_rfl) ?_
                go_wp2_with fail
                go_roundw
                case rel => exact ⟨j + 1, by omega, by go_num, Ext.tr hE6 (Ext.tr (Ext.drew _) hbe)⟩
                case measure => simp [intOf]; omega
              · obtain rfl : j = L.length := by omega
                go_wp2_with fail
                go_roundw
                case rel => exact ⟨k + 1, b, m, A4, c4, L, by omega, by go_num, rfl, rfl, HL3.out, HS5.out.ext hE6, HO5.out.below hE6, Ext.tr hE5 hE6⟩
                case measure => simp [intOf]; omega
          · have a1i : (i : Int) ≤ (L.length : Int) := by omega
            by_cases a2 : 78 < p.length
            · have a2i : (78 : Int) < (p.length : Int) := by omega
              go_wp2_with (go_at_call 18; refine Hid.out ?_)
              have hE3 := hE1
              have HO3 := hO1
              have HS3 := hS1
              have HL3 := HL
              clear X0 X1 X2 HD hO1 hS1 Hpr hE1 hgl1
              refine Lib.hid ?_
              have hLn := blen_any g b w1 HS3.out.bb
              rw [HS3.out.n, ← SBody.ps_len, ← HL3.out] at hLn
              refine hLn.mono ?_
              clear hLn
              rintro e4 w4 ⟨rfl, rfl⟩
              have hFr := free_any g b m w1 HS3.out
              go_wp2_with fail
              refine hFr.mono ?_
              clear hFr
              rintro e5 w5 ⟨rfl, hx5⟩
              have HS5 := Lib.hid (HS3.out.ext hx5)
              have HO5 := Lib.hid (HO3.out.below hx5)
              have hE5 := Ext.tr hE3 hx5
              clear HS3 HO3 hE3 hx5
              go_wp2_with fail
              go_loopw [9] (fun i wv => ∃ j : Nat, j ≤ L.length ∧ i = .int .i64 j ∧ Ext w5 wv) (fun i _ => L.length - (intOf i).toNat)
              case atStart => exact ⟨0, by omega, rfl, Ext.refl _⟩
              case round =>
                obtain ⟨j, hj, rfl, hE6⟩ := hrel
                by_cases hjn : j < L.length
                · have jk : (0 : Int) ≤ (j : Int) := by omega
                  have jk2 : (j : Int) < (L.length : Int) := by omega
                  obtain ⟨ad7, had7, hst7⟩ := (HO5.out.below hE6).strAt (k := j) hjn
                  have hcp : m.cellP (j : Int) = L[j] := by
                    have := m.ps_cellP j (by rw [← HL3.out]; exact hjn)
                    rw [this]
                    simp only [HL3.out]
                  obtain ⟨cp, hcp2⟩ : ∃ cp, cp = L[j] := ⟨_, rfl⟩
                  rw [← hcp2] at hcp hst7
                  have hC := cell_any g b m (j : Int) _ (HS5.out.ext (Ext.tr hE6 (Ext.drew _)))
                  unfold CellR at hC
                  rw [hcp] at hC
                  have HC := Lib.hid hC
                  unfold strV at hst7
                  clear hC hcp hcp2
                  rw [had7]
                  go_wp2_with fail
                  refine rg_start (by kernel_rfl) ?_
                  refine rg_take 0 rfl (by kernel_rfl) (by kernel_rfl) (by kernel_rfl) (fun _ _ _ _ h => h) (by rfl) ⟨_, fun w' hx => by (go_simp <;> with_reducible rfl), ?_⟩
                  simp only [Act.put, List.setIfInBounds_toArray, List.set_cons_zero, List.set_cons_succ]
                  refine rg_take 1 rfl (by kernel_rfl) (by kernel_rfl) (by kernel_rfl) (fun _ _ _ _ h => h) (by rfl) ⟨_, fun w' hx => by (go_simp <;> with_reducible rfl), ?_⟩
                  simp only [Act.put, List.setIfInBounds_toArray, List.set_cons_zero, List.set_cons_succ]
                  refine rg_take 4 rfl (by kernel_rfl) (by kernel_rfl) (by kernel_rfl) (fun _ _ _ _ h => h) (by rfl) ⟨_, fun w' hx => by (go_simp <;> with_reducible rfl), ?_⟩
                  simp only [Act.put, List.setIfInBounds_toArray, List.set_cons_zero, List.set_cons_succ]
                  refine rg_take 5 rfl (by kernel_rfl) (by kernel_rfl) (by kernel_rfl) (fun _ _ _ _ h => h) (by rfl) ⟨_, fun w' hx => by (go_simp <;> with_reducible rfl), ?_⟩
                  simp only [Act.put, List.setIfInBounds_toArray, List.set_cons_zero, List.set_cons_succ]
                  refine rg_take 6 rfl (by kernel_rfl) (by kernel_rfl) (by kernel_rfl) (fun _ _ _ _ h => h) (by rfl) ⟨_, fun w' hx => by (go_simp <;> with_reducible rfl), ?_⟩   -- t163 := indexAddr 34 t161 t162
                  simp only [Act.put, List.setIfInBounds_toArray, List.set_cons_zero, List.set_cons_succ]
                  refine rg_take 7 rfl (by kernel_rfl) (by kernel_rfl) (by kernel_rfl) (fun _ _ _ _ h => h) (by rfl) ⟨.string ⟨cp.toArray⟩, fun w' hx => by have hcx := hx.load hst7; (go_simp <;> with_reducible rfl), ?_⟩
                  simp only [Act.put, List.setIfInBounds_toArray, List.set_cons_zero, List.set_cons_succ]
                  refine rg_call 2 (HC.out) rfl (by kernel_rfl) (by rfl) (by go_simp) ?_
                  rintro ee we ⟨A5, c5, rfl, ho5, hbe⟩
                  refine ⟨_, rfl, hbe, ?_⟩
                  have ho5r := Lib.hid ho5.rd'
                  clear ho5
                  simp only [Act.put, List.setIfInBounds_toArray, List.set_cons_zero, List.set_cons_succ]
                  refine rg_take 3 rfl (by kernel_rfl) (by kernel_rfl) (by kernel_rfl) (fun _ _ _ _ h => h) (by rfl) ⟨.string ⟨(cp).toArray⟩, fun w' hx => ex_str rfl rfl Try.underlying30 Try.underlying5 Try.underlying9 ((ho5r.out).below hx) rfl, ?_⟩
                  simp only [Act.put, List.setIfInBounds_toArray, List.set_cons_zero, List.set_cons_succ]
                  refine rg_take 8 rfl (by kernel_rfl) (by kernel_rfl) (by kernel_rfl) (fun _ _ _ _ h => h) (by rfl) ⟨.bool (!(cp == cp)), fun w' hx => ex_neqS rfl rfl rfl, ?_⟩
                  rw [show (!(cp == cp)) = false by simp]
                  simp only [Act.put, List.setIfInBounds_toArray, List.set_cons_zero, List.set_cons_succ]
                  refine rg_done (by kernel_rfl) ?_
                  go_wp2_with fail
                  go_roundw
                  case rel => exact ⟨j + 1, by omega, by go_num, Ext.tr hE6 (Ext.tr (Ext.drew _) hbe)⟩
                  case measure => simp [intOf]; omega
                · obtain rfl : j = L.length := by omega
                  go_wp2_with fail
                  go_roundw
                  case rel => exact ⟨k + 1, b, m, A4, c4, L, by omega, by go_num, rfl, rfl, HL3.out, HS5.out.ext hE6, HO5.out.below hE6, Ext.tr hE5 hE6⟩
                  case measure => simp [intOf]; omega
            · have a2i : (p.length : Int) ≤ 78 := by omega
              have wp2 : IntKind.i64.wrap (2 + (p.length : Int)) = 2 + (p.length : Int) := by rw [IntKind.wrap_i64]; omega
              by_cases hf : 2 + p.length ≤ m.free
              · have hfi : 2 + (p.length : Int) ≤ (m.free : Int) := by omega
                obtain ⟨q1, q2, q3⟩ := SBody.insert_ok hI (i := (i : Int)) (c := p) i0 (by have := Hnm.out; omega) (by omega) hf
                have hins := insert_any g b m (i : Int) pa p pc w1 hS1.out Hpr.out Hne.out (by omega)
                rw [q1] at hins
                obtain ⟨m2, hm2⟩ : ∃ m2, m2 = (m.insert (i : Int) p).2 := ⟨_, rfl⟩
                rw [← hm2] at hins q2 q3
                rw [← HL.out, Int.toNat_natCast] at q2
                have wf1 : IntKind.i64.wrap ((m.free : Int) - 2) = (m.free : Int) - 2 := by rw [IntKind.wrap_i64]; omega
                have wf2 : IntKind.i64.wrap ((m.free : Int) - 2 - (p.length : Int)) = (m2.free : Int) := by rw [IntKind.wrap_i64]; omega
                have Q2 := Lib.hid q2
                have hI0 := hI
                clear hm2 q1 q2 q3 hI
                go_wp2_with (first | (go_at_call 14; refine hins.mono ?_; clear hins; rintro e2 w2 ⟨rfl, ⟨b2, hS2⟩, hg2⟩; refine Hid.out ?_))
                have hE2 : Ext w w2 := below_row hE1 hg2 (by have := Hg.out; omega) (by have := Hg.out; omega)
                have HD2 := Lib.hid (HD.out.other hg2 (by omega))
                obtain ⟨Y1, Y2⟩ := HDX.out w2 HD2.out
                have HO2 := Lib.hid (hO1.out.other hg2 (by omega))
                have HS2 := Lib.hid hS2
                have hp2 := Hpr.out.otherN hg2 Hne.out
                have Hp2 := Lib.hid hp2
                clear hS2 hg2 hp2 X0 X1 X2 HD hO1 hS1 Hpr hE1 a0 hgl1
                refine Lib.hid ?_
                have hgw2 := lt_of_heap HS2.out.bb.row
                obtain ⟨m7, hm7⟩ : ∃ m7, m7 = L.length - i := ⟨_, rfl⟩
                obtain ⟨A7, hA7⟩ : ∃ A7, A7 = (if c4 = i then A4 else A4.map (·.add (i * 1))) := ⟨_, rfl⟩
                have Hm7 := Lib.hid hm7
                have HA7 := Lib.hid hA7
                have Hrd1 : Hid (Rd w2.drew 1 A4 i (svs (L.take i))) := by
                  have := (HO2.out.rd.headS (m := i) (by omega)).below (Ext.drew w2)
                  rwa [svs_take] at this
                have Hrd7 : Hid (Rd w2.drew 1 A7 m7 (svs (L.drop i))) := by
                  have := (HO2.out.rd.cutS (k := i) (m := L.length) (by omega) (Nat.le_refl _) (c := c4) hnc).below (Ext.drew w2)
                  rw [← hA7, ← hm7, svs_take, List.take_length, svs_drop] at this
                  exact this
                have Y1d : w2.drew.cell? _ = _ := Y1
                have Y2d : w2.drew.cell? _ = _ := Y2
                have hic : i ≤ c4 := by omega
                clear hm7 hA7
                go_wp2_with (go_at_call 13; refine (num06 _ _).mono ?_; rintro e3 w3 ⟨rfl, rfl⟩)
                refine rb_start w2.heap.size (by kernel_rfl) ?_
                refine rb_take 1 rfl (by kernel_rfl) (by kernel_rfl) (by kernel_rfl) (fun _ _ _ _ h => h) (by rfl) ⟨_, fun w' hx => by (go_simp <;> with_reducible rfl), ?_⟩
                simp only [Act.put, List.setIfInBounds_toArray, List.set_cons_zero, List.set_cons_succ]
                refine rb_take 2 rfl (by kernel_rfl) (by kernel_rfl) (by kernel_rfl) (fun _ _ _ _ h => h) (by rfl) ⟨_, fun w' hx => by (go_simp <;> with_reducible rfl), ?_⟩   -- t74 := fieldAddr 32 t7 1
                simp only [Act.put, List.setIfInBounds_toArray, List.set_cons_zero, List.set_cons_succ]
                refine rb_take 3 rfl (by kernel_rfl) (by kernel_rfl) (by kernel_rfl) (fun _ _ _ _ h => h) (by rfl) ⟨_, fun w' hx => by have hcx := (show Ext w2.drew w' from hx).load Y1d; (go_simp <;> with_reducible rfl), ?_⟩
                simp only [Act.put, List.setIfInBounds_toArray, List.set_cons_zero, List.set_cons_succ]
                refine rb_take 4 rfl (by kernel_rfl) (by kernel_rfl) (by kernel_rfl) (fun _ _ _ _ h => h) (by rfl) ⟨.slice A4 i c4, fun w' hx => ex_sliceH (.tmp 73) (.tmp 75) 34 rfl elemSt A4 L.length c4 rfl i rfl (by omega), ?_⟩
                simp only [Act.put, List.setIfInBounds_toArray, List.set_cons_zero, List.set_cons_succ]
                refine rb_take 6 rfl (by kernel_rfl) (by kernel_rfl) (by kernel_rfl) (fun _ _ _ _ h => h) (by rfl) ⟨_, fun w' hx => by (go_simp <;> with_reducible rfl), ?_⟩   -- t78 := fieldAddr 32 t7 2
                simp only [Act.put, List.setIfInBounds_toArray, List.set_cons_zero, List.set_cons_succ]
                refine rb_take 7 rfl (by kernel_rfl) (by kernel_rfl) (by kernel_rfl) (fun _ _ _ _ h => h) (by rfl) ⟨_, fun w' hx => by have hcx := (show Ext w2.drew w' from hx).load Y2d; (go_simp <;> with_reducible rfl), ?_⟩
                simp only [Act.put, List.setIfInBounds_toArray, List.set_cons_zero, List.set_cons_succ]
                refine rb_take 8 rfl (by kernel_rfl) (by kernel_rfl) (by kernel_rfl) (fun _ _ _ _ h => h) (by rfl) ⟨.string ⟨p.toArray⟩, fun w' hx => ex_str rfl rfl Try.underlying30 Try.underlying5 Try.underlying9 (Hp2.out.below (Ext.tr (Ext.drew w2) (show Ext w2.drew w' from hx))) rfl, ?_⟩
                simp only [Act.put, List.setIfInBounds_toArray, List.set_cons_zero, List.set_cons_succ]
                refine rb_take 11 rfl (by kernel_rfl) (by kernel_rfl) (by kernel_rfl) (fun _ _ _ _ h => h) (by rfl) ⟨_, fun w' hx => by (go_simp <;> with_reducible rfl), ?_⟩
                simp only [Act.put, List.setIfInBounds_toArray, List.set_cons_zero, List.set_cons_succ]
                refine rb_take 12 rfl (by kernel_rfl) (by kernel_rfl) (by kernel_rfl) (fun _ _ _ _ h => h) (by rfl) ⟨_, fun w' hx => by (go_simp <;> with_reducible rfl), ?_⟩   -- t84 := fieldAddr 32 t7 1
                simp only [Act.put, List.setIfInBounds_toArray, List.set_cons_zero, List.set_cons_succ]
                refine rb_take 13 rfl (by kernel_rfl) (by kernel_rfl) (by kernel_rfl) (fun _ _ _ _ h => h) (by rfl) ⟨_, fun w' hx => by have hcx := (show Ext w2.drew w' from hx).load Y1d; (go_simp <;> with_reducible rfl), ?_⟩
                simp only [Act.put, List.setIfInBounds_toArray, List.set_cons_zero, List.set_cons_succ]
                refine rb_take 14 rfl (by kernel_rfl) (by kernel_rfl) (by kernel_rfl) (fun _ _ _ _ h => h) (by rfl) ⟨.slice A7 m7 (c4 - i), fun w' hx => ex_sliceL (.tmp 83) (.tmp 85) 34 rfl elemSt A4 L.length c4 rfl i rfl (by omega) A7 HA7.out m7 _ Hm7.out rfl, ?_⟩
                simp only [Act.put, List.setIfInBounds_toArray, List.set_cons_zero, List.set_cons_succ]
                -- BRANCH: 0: t72 := buildSlice 34 0 [] | 9: t81 := buildSlice 34 1 [(0, t80)]
                refine rb_par3 0 72 (fun v _ => ∃ a0, v = .slice a0 0 0) 5 77 (fun v W => ∃ A5 c5, v = .slice A5 i c5 ∧ Own W w2.heap.size 9 1 A5 i c5 (svs (L.take i))) 9 81 (fun v W => ∃ g2, v = .slice (some ⟨g2, 0, none⟩) 1 1 ∧ Rd W 1 (some ⟨g2, 0, none⟩) 1 (svs [p])) _ _ _ rfl rfl rfl (Nat.le_refl _) (by kernel_rfl) ⟨by decide, by decide, by decide⟩ (by kernel_rfl) (fun _ _ _ h _ => h) (fun _ _ _ ⟨A5, c5, h1, h2⟩ hx => ⟨A5, c5, h1, h2.below hx⟩) (fun _ _ _ ⟨g2, h1, h2⟩ hx => ⟨g2, h1, h2.below hx⟩) (fun _ _ _ => by rfl) (fun _ _ _ => by rfl) (fun _ _ _ => by rfl) ?_ ?_ ?_ ?_
                · intro v u x W hxW
                  exact yld_make ⟨_, _, by (go_simp <;> first | exact ⟨rfl, rfl⟩ | rfl), Ext.alloc _ _, _, rfl⟩
                · rintro v u x W hxW ⟨a0, rfl⟩
                  exact yld_app0 (.tmp 72) (.tmp 76) 34 rfl elemSt a0 rfl A4 i c4 (svs (L.take i)) rfl (Hrd1.out.below hxW) (svs_one _) (by omega) (by omega) (fun A' c' w' x1 x2 => ⟨A', c', rfl, x1.mono hxW.size⟩)
                · intro v u x W hxW
                  refine yld_make ⟨_, _, ex_buildOne1 34 (.tmp 80) rfl elemSt (strV p) rfl rfl, Ext.alloc _ _, W.heap.size, rfl, rfl, fun _ => ⟨_, rfl, fun j u hj => ?_⟩⟩
                  rw [Addr.add_lit, cell_of_row _ _ _ _ _ _ (heap_alloc_new W _)]
                  simpa [svs] using hj
                rintro v u x W hxW ⟨a0, hv⟩ ⟨A5, c5, hu, ho5⟩ ⟨g2, hx9, hr9⟩
                subst hv hu hx9
                simp only [Act.put, List.setIfInBounds_toArray, List.set_cons_zero, List.set_cons_succ]
                have hsW : w2.heap.size ≤ W.heap.size := hxW.size
                refine rb_one 10 rfl (by kernel_rfl) (by rfl) (wp_app (.tmp 77) (.tmp 81) 34 rfl elemSt w2.heap.size A5 i c5 (svs (L.take i)) rfl (some ⟨g2, 0, none⟩) 1 1 (svs [p]) rfl (i + 1) rfl (svs (L.take i ++ [p])) (svs_app _ _) ho5 hr9 (svs_one _) (by omega) (by omega) hsW fun A6 c6 w6 ho6 hg6 hr6 => ⟨.inl (ho5.low hg6 (Nat.le_refl _) hsW), ?_⟩)
                simp only [Act.put, List.setIfInBounds_toArray, List.set_cons_zero, List.set_cons_succ]
                have hE6d : Ext w2.drew w6 := Low.tr (B := w2.heap.size) hxW (ho5.low hg6 (Nat.le_refl _) hsW)
                have hE6 : Ext w2 w6 := Ext.tr (Ext.drew w2) hE6d
                obtain ⟨L2, hL2⟩ : ∃ L2, L2 = L.take i ++ [p] ++ L.drop i := ⟨_, rfl⟩
                have hL2s : svs L2 = svs (L.take i ++ [p]) ++ svs (L.drop i) := by rw [hL2, svs_app]
                have HL2 := Lib.hid hL2
                have HL2s := Lib.hid hL2s
                have hr7 : Rd w6 1 A7 m7 (svs (L.drop i)) := Hrd7.out.below hE6d
                clear hL2 hL2s hr6 hg6 ho5 hr9 hE6d
                refine rb_last 15 rfl (by kernel_rfl) (by kernel_rfl) (by rfl) fun K hK => wp_app (.tmp 82) (.tmp 86) 34 rfl elemSt w2.heap.size A6 (i + 1) c6 (svs (L.take i ++ [p])) rfl A7 m7 (c4 - i) (svs (L.drop i)) rfl (i + 1 + m7) rfl (svs L2) HL2s.out ho6 hr7 (svs_one _) (by have := Hm7.out; omega) (by have := Hm7.out; omega) hE6.size fun A8 c8 w8 ho8 hg8 hr8 => hK _ _ ?_
                simp only [Act.put, List.setIfInBounds_toArray, List.set_cons_zero, List.set_cons_succ]
                refine rb_take 16 rfl (by kernel_rfl) (by kernel_rfl) (by kernel_rfl) (fun _ _ _ _ h => h) (by rfl) ⟨_, fun w' hx => by (go_simp <;> with_reducible rfl), ?_⟩
                simp only [Act.put, List.setIfInBounds_toArray, List.set_cons_zero, List.set_cons_succ]
                refine rb_done (by kernel_rfl) ?_
                have hlen : i + 1 + m7 = L2.length := by rw [HL2.out]; simp only [List.length_append, List.length_take, List.length_drop, List.length_cons, List.length_nil]; have := Hm7.out; omega
                rw [hlen] at ho8 ⊢
                have hE8 : Ext w2 w8 := Low.tr hE6 (ho6.low hg8 (Nat.le_refl _) hE6.size)
                have HS3 := Lib.hid (HS2.out.ext hE8)
                have HO3 := Lib.hid (ho8.mono (base' := g + 1) (by omega))
                have hE3 := Ext.tr hE2 hE8
                have HL3 : Hid (L2 = m2.ps) := by rw [Hid, HL2.out, Q2.out]
                have hn3 : L2.length ≤ 121 := by have := HS2.out.inv.n; rw [HL3.out, m2.ps_len]; omega
                clear ho8 ho6 hg8 hr8 hE6 hE8 HO2 HS2 HD2 Hp2 Hrd1 Hrd7 Y1 Y2 Y1d Y2d HL2 Q2 hE2 hlen
                go_wp2_with fail
                have hLn := blen_any g b2 w8 HS3.out.bb
                rw [HS3.out.n, ← SBody.ps_len, ← HL3.out] at hLn
                refine hLn.mono ?_
                clear hLn
                rintro e4 w4 ⟨rfl, rfl⟩
                have hFr := free_any g b2 m2 w8 HS3.out
                go_wp2_with fail
                refine hFr.mono ?_
                clear hFr
                rintro e5 w5 ⟨rfl, hx5⟩
                have HS5 := Lib.hid (HS3.out.ext hx5)
                have HO5 := Lib.hid (HO3.out.below hx5)
                have hE5 := Ext.tr hE3 hx5
                clear HS3 HO3 hE3 hx5
                go_wp2_with fail
                go_loopw [9] (fun i wv => ∃ j : Nat, j ≤ L2.length ∧ i = .int .i64 j ∧ Ext w5 wv) (fun i _ => L2.length - (intOf i).toNat)
                case atStart => exact ⟨0, by omega, rfl, Ext.refl _⟩
                case round =>
                  obtain ⟨j, hj, rfl, hE6⟩ := hrel
                  by_cases hjn : j < L2.length
                  · have jk : (0 : Int) ≤ (j : Int) := by omega
                    have jk2 : (j : Int) < (L2.length : Int) := by omega
                    obtain ⟨ad7, had7, hst7⟩ := (HO5.out.below hE6).strAt (k := j) hjn
                    have hcp : m2.cellP (j : Int) = L2[j] := by
                      have := m2.ps_cellP j (by rw [← HL3.out]; exact hjn)
                      rw [this]
                      simp only [HL3.out]
                    obtain ⟨cp, hcp2⟩ : ∃ cp, cp = L2[j] := ⟨_, rfl⟩
                    rw [← hcp2] at hcp hst7
                    have hC := cell_any g b2 m2 (j : Int) _ (HS5.out.ext (Ext.tr hE6 (Ext.drew _)))
                    unfold CellR at hC
                    rw [hcp] at hC
                    have HC := Lib.hid hC
                    unfold strV at hst7
                    clear hC hcp hcp2
                    rw [had7]
                    go_wp2_with fail
                    refine rg_start (by kernel_rfl) ?_
                    refine rg_take 0 rfl (by kernel_rfl) (by kernel_rfl) (by kernel_rfl) (fun _ _ _ _ h => h) (by rfl) ⟨_, fun w' hx => by (go_simp <;> with_reducible rfl), ?_⟩
                    simp only [Act.put, List.setIfInBounds_toArray, List.set_cons_zero, List.set_cons_succ]
                    refine rg_take 1 rfl (by kernel_rfl) (by kernel_rfl) (by kernel_rfl) (fun _ _ _ _ h => h) (by rfl) ⟨_, fun w' hx => by (go_simp <;> with_reducible rfl), ?_⟩
                    simp only [Act.put, List.setIfInBounds_toArray, List.set_cons_zero, List.set_cons_succ]
                    refine rg_take 4 rfl (by kernel_rfl) (by kernel_rfl) (by kernel_rfl) (fun _ _ _ _ h => h) (by rfl) ⟨_, fun w' hx => by (go_simp <;> with_reducible rfl), ?_⟩
                    simp only [Act.put, List.setIfInBounds_toArray, List.set_cons_zero, List.set_cons_succ]
                    refine rg_take 5 rfl (by kernel_rfl) (by kernel_rfl) (by kernel_rfl) (fun _ _ _ _ h => h) (by rfl) ⟨_, fun w' hx => by (go_simp <;> with_reducible rfl), ?_⟩
                    simp only [Act.put, List.setIfInBounds_toArray, List.set_cons_zero, List.set_cons_succ]
                    refine rg_take 6 rfl (by kernel_rfl) (by kernel_rfl) (by kernel_rfl) (fun _ _ _ _ h => h) (by rfl) ⟨_, fun w' hx => by (go_simp <;> with_reducible rfl), ?_⟩   -- t163 := indexAddr 34 t161 t162
                    simp only [Act.put, List.setIfInBounds_toArray, List.set_cons_zero, List.set_cons_succ]
                    refine rg_take 7 rfl (by kernel_rfl) (by kernel_rfl) (by kernel_rfl) (fun _ _ _ _ h => h) (by rfl) ⟨.string ⟨cp.toArray⟩, fun w' hx => by have hcx := hx.load hst7; (go_simp <;> with_reducible rfl), ?_⟩
                    simp only [Act.put, List.setIfInBounds_toArray, List.set_cons_zero, List.set_cons_succ]
                    refine rg_call 2 (HC.out) rfl (by kernel_rfl) (by rfl) (by go_simp) ?_
                    rintro ee we ⟨A5, c5, rfl, ho5, hbe⟩
                    refine ⟨_, rfl, hbe, ?_⟩
                    have ho5r := Lib.hid ho5.rd'
                    clear ho5
                    simp only [Act.put, List.setIfInBounds_toArray, List.set_cons_zero, List.set_cons_succ]
                    refine rg_take 3 rfl (by kernel_rfl) (by kernel_rfl) (by kernel_rfl) (fun _ _ _ _ h => h) (by rfl) ⟨.string ⟨(cp).toArray⟩, fun w' hx => ex_str rfl rfl Try.underlying30 Try.underlying5 Try.underlying9 ((ho5r.out).below hx) rfl, ?_⟩
                    simp only [Act.put, List.setIfInBounds_toArray, List.set_cons_zero, List.set_cons_succ]
                    refine rg_take 8 rfl (by kernel_rfl) (by kernel_rfl) (by kernel_rfl) (fun _ _ _ _ h => h) (by rfl) ⟨.bool (!(cp == cp)), fun w' hx => ex_neqS rfl rfl rfl, ?_⟩
                    rw [show (!(cp == cp)) = false by simp]
                    simp only [Act.put, List.setIfInBounds_toArray, List.set_cons_zero, List.set_cons_succ]
                    refine rg_done (by kernel_rfl) ?_
                    go_wp2_with fail
                    go_roundw
                    case rel => exact ⟨j + 1, by omega, by go_num, Ext.tr hE6 (Ext.tr (Ext.drew _) hbe)⟩
                    case measure => simp [intOf]; omega
                  · obtain rfl : j = L2.length := by omega
                    go_wp2_with fail
                    go_roundw
                    case rel => exact ⟨k + 1, b2, m2, A8, c8, L2, by omega, by go_num, rfl, rfl, HL3.out, HS5.out.ext hE6, HO5.out.below hE6, Ext.tr hE5 hE6⟩
                    case measure => simp [intOf]; omega
              · have hfi : ¬ 2 + (p.length : Int) ≤ (m.free : Int) := by omega
                have q1 := SBody.insert_no (m := m) (i := (i : Int)) (c := p) i0 (by have := Hnm.out; omega) (by omega) hf
                have hins := insert_any g b m (i : Int) pa p pc w1 hS1.out Hpr.out Hne.out (by omega)
                rw [q1] at hins
                clear q1
                go_wp2_with (first | (go_at_call 14; refine hins.mono ?_; clear hins; rintro e2 w2 ⟨rfl, ⟨b2, hS2⟩, hg2⟩) | (go_at_call 13; refine (num06 _ _).mono ?_; rintro e3 w3 ⟨rfl, rfl⟩) | (go_at_call 18; refine Hid.out ?_))
                have hE3 : Ext w w2 := below_row hE1 hg2 (by have := Hg.out; omega) (by have := Hg.out; omega)
                have HO3 := Lib.hid (hO1.out.other hg2 (by omega))
                have HS3 := Lib.hid hS2
                have HL3 := HL
                clear hS2 hg2 X0 X1 X2 HD hO1 hS1 Hpr hE1 a0 hgl1
                refine Lib.hid ?_
                have hLn := blen_any g b2 w2 HS3.out.bb
                rw [HS3.out.n, ← SBody.ps_len, ← HL3.out] at hLn
                refine hLn.mono ?_
                clear hLn
                rintro e4 w4 ⟨rfl, rfl⟩
                have hFr := free_any g b2 m w2 HS3.out
                go_wp2_with fail
                refine hFr.mono ?_
                clear hFr
                rintro e5 w5 ⟨rfl, hx5⟩
                have HS5 := Lib.hid (HS3.out.ext hx5)
                have HO5 := Lib.hid (HO3.out.below hx5)
                have hE5 := Ext.tr hE3 hx5
                clear HS3 HO3 hE3 hx5
                go_wp2_with fail
                go_loopw [9] (fun i wv => ∃ j : Nat, j ≤ L.length ∧ i = .int .i64 j ∧ Ext w5 wv) (fun i _ => L.length - (intOf i).toNat)
                case atStart => exact ⟨0, by omega, rfl, Ext.refl _⟩
                case round =>
                  obtain ⟨j, hj, rfl, hE6⟩ := hrel
                  by_cases hjn : j < L.length
                  · have jk : (0 : Int) ≤ (j : Int) := by omega
                    have jk2 : (j : Int) < (L.length : Int) := by omega
                    obtain ⟨ad7, had7, hst7⟩ := (HO5.out.below hE6).strAt (k := j) hjn
                    have hcp : m.cellP (j : Int) = L[j] := by
                      have := m.ps_cellP j (by rw [← HL3.out]; exact hjn)
                      rw [this]
                      simp only [HL3.out]
                    obtain ⟨cp, hcp2⟩ : ∃ cp, cp = L[j] := ⟨_, rfl⟩
                    rw [← hcp2] at hcp hst7
                    have hC := cell_any g b2 m (j : Int) _ (HS5.out.ext (Ext.tr hE6 (Ext.drew _)))
                    unfold CellR at hC
                    rw [hcp] at hC
                    have HC := Lib.hid hC
                    unfold strV at hst7
                    clear hC hcp hcp2
                    rw [had7]
                    go_wp2_with fail
                    refine rg_start (by kernel_rfl) ?_
                    refine rg_take 0 rfl (by kernel_rfl) (by kernel_rfl) (by kernel_rfl) (fun _ _ _ _ h => h) (by rfl) ⟨_, fun w' hx => by (go_simp <;> with_reducible rfl), ?_⟩
                    simp only [Act.put, List.setIfInBounds_toArray, List.set_cons_zero, List.set_cons_succ]
                    refine rg_take 1 rfl (by kernel_rfl) (by kernel_rfl) (by kernel_rfl) (fun _ _ _ _ h => h) (by rfl) ⟨_, fun w' hx => by (go_simp <;> with_reducible rfl), ?_⟩
                    simp only [Act.put, List.setIfInBounds_toArray, List.set_cons_zero, List.set_cons_succ]
                    refine rg_take 4 rfl (by kernel_rfl) (by kernel_rfl) (by kernel_rfl) (fun _ _ _ _ h => h) (by rfl) ⟨_, fun w' hx => by (go_simp <;> with_reducible rfl), ?_⟩
                    simp only [Act.put, List.setIfInBounds_toArray, List.set_cons_zero, List.set_cons_succ]
                    refine rg_take 5 rfl (by kernel_rfl) (by kernel_rfl) (by kernel_rfl) (fun _ _ _ _ h => h) (by rfl) ⟨_, fun w' hx => by (go_simp <;> with_reducible rfl), ?_⟩
                    simp only [Act.put, List.setIfInBounds_toArray, List.set_cons_zero, List.set_cons_succ]
                    refine rg_take 6 rfl (by kernel_rfl) (by kernel_rfl) (by kernel_rfl) (fun _ _ _ _ h => h) (by rfl) ⟨_, fun w' hx => by (go_simp <;> with_reducible rfl), ?_⟩   -- t163 := indexAddr 34 t161 t162
                    simp only [Act.put, List.setIfInBounds_toArray, List.set_cons_zero, List.set_cons_succ]
                    refine rg_take 7 rfl (by kernel_rfl) (by kernel_rfl) (by kernel_rfl) (fun _ _ _ _ h => h) (by rfl) ⟨.string ⟨cp.toArray⟩, fun w' hx => by have hcx := hx.load hst7; (go_simp <;> with_reducible rfl), ?_⟩
                    simp only [Act.put, List.setIfInBounds_toArray, List.set_cons_zero, List.set_cons_succ]
                    refine rg_call 2 (HC.out) rfl (by kernel_rfl) (by rfl) (by go_simp) ?_
                    rintro ee we ⟨A5, c5, rfl, ho5, hbe⟩
                    refine ⟨_, rfl, hbe, ?_⟩
                    have ho5r := Lib.hid ho5.rd'
                    clear ho5
                    simp only [Act.put, List.setIfInBounds_toArray, List.set_cons_zero, List.set_cons_succ]
                    refine rg_take 3 rfl (by kernel_rfl) (by kernel_rfl) (by kernel_rfl) (fun _ _ _ _ h => h) (by rfl) ⟨.string ⟨(cp).toArray⟩, fun w' hx => ex_str rfl rfl Try.underlying30 Try.underlying5 Try.underlying9 ((ho5r.out).below hx) rfl, ?_⟩
                    simp only [Act.put, List.setIfInBounds_toArray, List.set_cons_zero, List.set_cons_succ]
                    refine rg_take 8 rfl (by kernel_rfl) (by kernel_rfl) (by kernel_rfl) (fun _ _ _ _ h => h) (by rfl) ⟨.bool (!(cp == cp)), fun w' hx => ex_neqS rfl rfl rfl, ?_⟩
                    rw [show (!(cp == cp)) = false by simp]
                    simp only [Act.put, List.setIfInBounds_toArray, List.set_cons_zero, List.set_cons_succ]
                    refine rg_done (by kernel_rfl) ?_
                    go_wp2_with fail
                    go_roundw
                    case rel => exact ⟨j + 1, by omega, by go_num, Ext.tr hE6 (Ext.tr (Ext.drew _) hbe)⟩
                    case measure => simp [intOf]; omega
                  · obtain rfl : j = L.length := by omega
                    go_wp2_with fail
                    go_roundw
                    case rel => exact ⟨k + 1, b2, m, A4, c4, L, by omega, by go_num, rfl, rfl, HL3.out, HS5.out.ext hE6, HO5.out.below hE6, Ext.tr hE5 hE6⟩
                    case measure => simp [intOf]; omega
      · by_cases k1 : kd = 1
        · subst k1
          clear k0
          by_cases a0 : di < 0
          ·
            go_wp2_with (go_at_call 18; refine Hid.out ?_)
            have hE3 := hE1
            have HO3 := hO1
            have HS3 := hS1
            have HL3 := HL
            clear X0 X1 X2 HD hO1 hS1 Hpr hE1 hgl1
            refine Lib.hid ?_
            have hLn := blen_any g b w1 HS3.out.bb
            rw [HS3.out.n, ← SBody.ps_len, ← HL3.out] at hLn
            refine hLn.mono ?_
            clear hLn
            rintro e4 w4 ⟨rfl, rfl⟩
            have hFr := free_any g b m w1 HS3.out
            go_wp2_with fail
            refine hFr.mono ?_
            clear hFr
            rintro e5 w5 ⟨rfl, hx5⟩
            have HS5 := Lib.hid (HS3.out.ext hx5)
            have HO5 := Lib.hid (HO3.out.below hx5)
            have hE5 := Ext.tr hE3 hx5
            clear HS3 HO3 hE3 hx5
            go_wp2_with fail
            go_loopw [9] (fun i wv => ∃ j : Nat, j ≤ L.length ∧ i = .int .i64 j ∧ Ext w5 wv) (fun i _ => L.length - (intOf i).toNat)
            case atStart => exact ⟨0, by omega, rfl, Ext.refl _⟩
            case round =>
              obtain ⟨j, hj, rfl, hE6⟩ := hrel
              by_cases hjn : j < L.length
              · have jk : (0 : Int) ≤ (j : Int) := by omega
                have jk2 : (j : Int) < (L.length : Int) := by omega
                obtain ⟨ad7, had7, hst7⟩ := (HO5.out.below hE6).strAt (k := j) hjn
                have hcp : m.cellP (j : Int) = L[j] := by
                  have := m.ps_cellP j (by rw [← HL3.out]; exact hjn)
                  rw [this]
                  simp only [HL3.out]
                obtain ⟨cp, hcp2⟩ : ∃ cp, cp = L[j] := ⟨_, rfl⟩
                rw [← hcp2] at hcp hst7
                have hC := cell_any g b m (j : Int) _ (HS5.out.ext (Ext.tr hE6 (Ext.drew _)))
                unfold CellR at hC
                rw [hcp] at hC
                have HC := Lib.hid hC
                unfold strV at hst7
                clear hC hcp hcp2
                rw [had7]
                go_wp2_with fail
                refine rg_start (by kernel_rfl) ?_
                refine rg_take 0 rfl (by kernel_rfl) (by kernel_rfl) (by kernel_rfl) (fun _ _ _ _ h => h) (by rfl) ⟨_, fun w' hx => by (go_simp <;> with_reducible rfl), ?_⟩
                simp only [Act.put, List.setIfInBounds_toArray, List.set_cons_zero, List.set_cons_succ]
                refine rg_take 1 rfl (by kernel_rfl) (by kernel_rfl) (by kernel_rfl) (fun _ _ _ _ h => h) (by rfl) ⟨_, fun w' hx => by (go_simp <;> with_reducible rfl), ?_⟩
                simp only [Act.put, List.setIfInBounds_toArray, List.set_cons_zero, List.set_cons_succ]
                refine rg_take 4 rfl (by kernel_rfl) (by kernel_rfl) (by kernel_rfl) (fun _ _ _ _ h => h) (by rfl) ⟨_, fun w' hx => by (go_simp <;> with_reducible rfl), ?_⟩
                simp only [Act.put, List.setIfInBounds_toArray, List.set_cons_zero, List.set_cons_succ]
                refine rg_take 5 rfl (by kernel_rfl) (by kernel_rfl) (by kernel_rfl) (fun _ _ _ _ h => h) (by rfl) ⟨_, fun w' hx => by (go_simp <;> with_reducible rfl), ?_⟩
                simp only [Act.put, List.setIfInBounds_toArray, List.set_cons_zero, List.set_cons_succ]
                refine rg_take 6 rfl (by kernel_rfl) (by kernel_rfl) (by kernel_rfl) (fun _ _ _ _ h => h) (by rfl) ⟨_, fun w' hx => by (go_simp <;> with_reducible rfl), ?_⟩   -- t163 := indexAddr 34 t161 t162
                simp only [Act.put, List.setIfInBounds_toArray, List.set_cons_zero, List.set_cons_succ]
                refine rg_take 7 rfl (by kernel_rfl) (by kernel_rfl) (by kernel_rfl) (fun _ _ _ _ h => h) (by rfl) ⟨.string ⟨cp.toArray⟩, fun w' hx => by have hcx := hx.load hst7; (go_simp <;> with_reducible rfl), ?_⟩
                simp only [Act.put, List.setIfInBounds_toArray, List.set_cons_zero, List.set_cons_succ]
                refine rg_call 2 (HC.out) rfl (by kernel_rfl) (by rfl) (by go_simp) ?_
                rintro ee we ⟨A5, c5, rfl, ho5, hbe⟩
                refine ⟨_, rfl, hbe, ?_⟩
                have ho5r := Lib.hid ho5.rd'
                clear ho5
                simp only [Act.put, List.setIfInBounds_toArray, List.set_cons_zero, List.set_cons_succ]
                refine rg_take 3 rfl (by kernel_rfl) (by kernel_rfl) (by kernel_rfl) (fun _ _ _ _ h => h) (by rfl) ⟨.string ⟨(cp).toArray⟩, fun w' hx => ex_str rfl rfl Try.underlying30 Try.underlying5 Try.underlying9 ((ho5r.out).below hx) rfl, ?_⟩
                simp only [Act.put, List.setIfInBounds_toArray, List.set_cons_zero, List.set_cons_succ]
                refine rg_take 8 rfl (by kernel_rfl) (by kernel_rfl) (by kernel_rfl) (fun _ _ _ _ h => h) (by rfl) ⟨.bool (!(cp == cp)), fun w' hx => ex_neqS rfl rfl rfl, ?_⟩
                rw [show (!(cp == cp)) = false by simp]
                simp only [Act.put, List.setIfInBounds_toArray, List.set_cons_zero, List.set_cons_succ]
                refine rg_done (by kernel_rfl) ?_
                go_wp2_with fail
                go_roundw
                case rel => exact ⟨j + 1, by omega, by go_num, Ext.tr hE6 (Ext.tr (Ext.drew _) hbe)⟩
                case measure => simp [intOf]; omega
              · obtain rfl : j = L.length := by omega
                go_wp2_with fail
                go_roundw
                case rel => exact ⟨k + 1, b, m, A4, c4, L, by omega, by go_num, rfl, rfl, HL3.out, HS5.out.ext hE6, HO5.out.below hE6, Ext.tr hE5 hE6⟩
                case measure => simp [intOf]; omega
          · obtain ⟨i, rfl⟩ : ∃ i : Nat, di = i := ⟨di.toNat, by omega⟩
            have i0 : (0 : Int) ≤ (i : Int) := by omega
            by_cases a1 : L.length ≤ i
            · have a1i : (L.length : Int) ≤ (i : Int) := by omega
              go_wp2_with (go_at_call 18; refine Hid.out ?_)
              have hE3 := hE1
              have HO3 := hO1
              have HS3 := hS1
              have HL3 := HL
              clear X0 X1 X2 HD hO1 hS1 Hpr hE1 hgl1
              refine Lib.hid ?_
              have hLn := blen_any g b w1 HS3.out.bb
              rw [HS3.out.n, ← SBody.ps_len, ← HL3.out] at hLn
              refine hLn.mono ?_
              clear hLn
              rintro e4 w4 ⟨rfl, rfl⟩
              have hFr := free_any g b m w1 HS3.out
              go_wp2_with fail
              refine hFr.mono ?_
              clear hFr
              rintro e5 w5 ⟨rfl, hx5⟩
              have HS5 := Lib.hid (HS3.out.ext hx5)
              have HO5 := Lib.hid (HO3.out.below hx5)
              have hE5 := Ext.tr hE3 hx5
              clear HS3 HO3 hE3 hx5
              go_wp2_with fail
              go_loopw [9] (fun i wv => ∃ j : Nat, j ≤ L.length ∧ i = .int .i64 j ∧ Ext w5 wv) (fun i _ => L.length - (intOf i).toNat)
              case atStart => exact ⟨0, by omega, rfl, Ext.refl _⟩
              case round =>
                obtain ⟨j, hj, rfl, hE6⟩ := hrel
                by_cases hjn : j < L.length
                · have jk : (0 : Int) ≤ (j : Int) := by omega
                  have jk2 : (j : Int) < (L.length : Int) := by omega
                  obtain ⟨ad7, had7, hst7⟩ := (HO5.out.below hE6).strAt (k := j) hjn
                  have hcp : m.cellP (j : Int) = L[j] := by
                    have := m.ps_cellP j (by rw [← HL3.out]; exact hjn)
                    rw [this]
                    simp only [HL3.out]
                  obtain ⟨cp, hcp2⟩ : ∃ cp, cp = L[j] := ⟨_, rfl⟩
                  rw [← hcp2] at hcp hst7
                  have hC := cell_any g b m (j : Int) _ (HS5.out.ext (Ext.tr hE6 (Ext.drew _)))
                  unfold CellR at hC
                  rw [hcp] at hC
                  have HC := Lib.hid hC
                  unfold strV at hst7
                  clear hC hcp hcp2
                  rw [had7]
                  go_wp2_with fail
                  refine rg_start (by kernel_rfl) ?_
                  refine rg_take 0 rfl (by kernel_rfl) (by kernel_rfl) (by kernel_rfl) (fun _ _ _ _ h => h) (by rfl) ⟨_, fun w' hx => by (go_simp <;> with_reducible rfl), ?_⟩
                  simp only [Act.put, List.setIfInBounds_toArray, List.set_cons_zero, List.set_cons_succ]
                  refine rg_take 1 rfl (by kernel_rfl) (by kernel_rfl) (by kernel_rfl) (fun _ _ _ _ h => h) (by rfl) ⟨_, fun w' hx => by (go_simp <;> with_reducible rfl), ?_⟩
                  simp only [Act.put, List.setIfInBounds_toArray, List.set_cons_zero, List.set_cons_succ]
                  refine rg_take 4 rfl (by kernel_rfl) (by kernel_rfl) (by kernel_rfl) (fun _ _ _ _ h => h) (by rfl) ⟨_, fun w' hx => by (go_simp <;> with_reducible rfl), ?_⟩
                  simp only [Act.put, List.setIfInBounds_toArray, List.set_cons_zero, List.set_cons_succ]
                  refine rg_take 5 rfl (by kernel_rfl) (by kernel_rfl) (by kernel_rfl) (fun _ _ _ _ h => h) (by rfl) ⟨_, fun w' hx => by (go_simp <;> with_reducible rfl), ?_⟩
                  simp only [Act.put, List.setIfInBounds_toArray, List.set_cons_zero, List.set_cons_succ]
                  refine rg_take 6 rfl (by kernel_rfl) (by kernel_rfl) (by kernel_rfl) (fun _ _ _ _ h => h) (by rfl) ⟨_, fun w' hx => by (go_simp <;> with_reducible rfl), ?_⟩   -- t163 := indexAddr 34 t161 t162
                  simp only [Act.put, List.setIfInBounds_toArray, List.set_cons_zero, List.set_cons_succ]
                  refine rg_take 7 rfl (by kernel_rfl) (by kernel_rfl) (by kernel_rfl) (fun _ _ _ _ h => h) (by rfl) ⟨.string ⟨cp.toArray⟩, fun w' hx => by have hcx := hx.load hst7; (go_simp <;> with_reducible rfl), ?_⟩
                  simp only [Act.put, List.setIfInBounds_toArray, List.set_cons_zero, List.set_cons_succ]
                  refine rg_call 2 (HC.out) rfl (by kernel_rfl) (by rfl) (by go_simp) ?_
                  rintro ee we ⟨A5, c5, rfl, ho5, hbe⟩
                  refine ⟨_, rfl, hbe, ?_⟩
                  have ho5r := Lib.hid ho5.rd'
                  clear ho5
                  simp only [Act.put, List.setIfInBounds_toArray, List.set_cons_zero, List.set_cons_succ]
                  refine rg_take 3 rfl (by kernel_rfl) (by kernel_rfl) (by kernel_rfl) (fun _ _ _ _ h => h) (by rfl) ⟨.string ⟨(cp).toArray⟩, fun w' hx => ex_str rfl rfl Try.underlying30 Try.underlying5 Try.underlying9 ((ho5r.out).below hx) rfl, ?_⟩
                  simp only [Act.put, List.setIfInBounds_toArray, List.set_cons_zero, List.set_cons_succ]
                  refine rg_take 8 rfl (by kernel_rfl) (by kernel_rfl) (by kernel_rfl) (fun _ _ _ _ h => h) (by rfl) ⟨.bool (!(cp == cp)), fun w' hx => ex_neqS rfl rfl rfl, ?_⟩
                  rw [show (!(cp == cp)) = false by simp]
                  simp only [Act.put, List.setIfInBounds_toArray, List.set_cons_zero, List.set_cons_succ]
                  refine rg_done (by kernel_rfl) ?_
                  go_wp2_with fail
                  go_roundw
                  case rel => exact ⟨j + 1, by omega, by go_num, Ext.tr hE6 (Ext.tr (Ext.drew _) hbe)⟩
                  case measure => simp [intOf]; omega
                · obtain rfl : j = L.length := by omega
                  go_wp2_with fail
                  go_roundw
                  case rel => exact ⟨k + 1, b, m, A4, c4, L, by omega, by go_num, rfl, rfl, HL3.out, HS5.out.ext hE6, HO5.out.below hE6, Ext.tr hE5 hE6⟩
                  case measure => simp [intOf]; omega
            · have a1i : (i : Int) < (L.length : Int) := by omega
              obtain ⟨q1, q2, q3⟩ := SBody.delete_ok hI (i := (i : Int)) i0 (by have := Hnm.out; omega) (by have := m.ps_len; have := Hnm.out; simp; omega)
              have hins := delete_any g b m (i : Int) w1 hS1.out
              rw [q1] at hins
              obtain ⟨m2, hm2⟩ : ∃ m2, m2 = (m.delete (i : Int)).2 := ⟨_, rfl⟩
              rw [← hm2] at hins q2 q3
              simp only [← HL.out, Int.toNat_natCast] at q2 q3
              have hil : i < L.length := by omega
              obtain ⟨s, hs⟩ : ∃ s, s = L[i] := ⟨_, rfl⟩
              rw [← hs] at q3
              have hfr2 : m2.free ≤ 241 := by unfold SBody.free SBody.dir; omega
              have wf1 : IntKind.i64.wrap ((m.free : Int) + 2) = (m.free : Int) + 2 := by rw [IntKind.wrap_i64]; omega
              have wf2 : IntKind.i64.wrap ((m.free : Int) + 2 + (s.length : Int)) = (m2.free : Int) := by rw [IntKind.wrap_i64]; omega
              have Q2 := Lib.hid q2
              have Hs := Lib.hid hs
              clear hm2 q1 q2 q3 hI hs
              go_wp2_with (first | (go_at_call 15; refine hins.mono ?_; clear hins; rintro e2 w2 ⟨rfl, ⟨b2, hS2⟩, hg2⟩; refine Hid.out ?_))
              have hE2 : Ext w w2 := below_row hE1 hg2 (by have := Hg.out; omega) (by have := Hg.out; omega)
              have HD2 := Lib.hid (HD.out.other hg2 (by omega))
              obtain ⟨Y1, Y2⟩ := HDX.out w2 HD2.out
              have HO2 := Lib.hid (hO1.out.other hg2 (by omega))
              have HS2 := Lib.hid hS2
              obtain ⟨ad4, rfl, hst⟩ := HO2.out.strAt (k := i) hil
              rw [← Hs.out] at hst
              unfold strV at hst
              have hss : (ByteArray.mk s.toArray).size = s.length := by simp [ByteArray.size]
              clear hS2 hg2 X0 X1 X2 HD hO1 hS1 Hpr hE1 a0 hgl1
              refine Lib.hid ?_
              have hgw2 := lt_of_heap HS2.out.bb.row
              obtain ⟨m7, hm7⟩ : ∃ m7, m7 = L.length - (i + 1) := ⟨_, rfl⟩
              obtain ⟨A7, hA7⟩ : ∃ A7, A7 = (if c4 = i + 1 then some ad4 else (some ad4).map (·.add ((i + 1) * 1))) := ⟨_, rfl⟩
              have Hm7 := Lib.hid hm7
              have HA7 := Lib.hid hA7
              have Hrd1 : Hid (Rd w2.drew 1 (some ad4) i (svs (L.take i))) := by
                have := (HO2.out.rd.headS (m := i) (by omega)).below (Ext.drew w2)
                rwa [svs_take] at this
              have Hrd7 : Hid (Rd w2.drew 1 A7 m7 (svs (L.drop (i + 1)))) := by
                have := (HO2.out.rd.cutS (k := i + 1) (m := L.length) (by omega) (Nat.le_refl _) (c := c4) hnc).below (Ext.drew w2)
                rw [← hA7, ← hm7, svs_take, List.take_length, svs_drop] at this
                exact this
              have Y1d : w2.drew.cell? _ = _ := Y1
              have hic : i ≤ c4 := by omega
              have jw1 : IntKind.i64.wrap ((i : Int) + 1) = ((i + 1 : Nat) : Int) := by rw [IntKind.wrap_i64]; omega
              obtain ⟨L2, hL2⟩ : ∃ L2, L2 = L.take i ++ L.drop (i + 1) := ⟨_, rfl⟩
              have HL2 := Lib.hid hL2
              clear hm7 hA7 hL2
              go_wp2_with (go_at_call 13; refine (num06 _ _).mono ?_; rintro e3 w3 ⟨rfl, rfl⟩)
              refine rg_start (by kernel_rfl) ?_
              refine rg_take 1 rfl (by kernel_rfl) (by kernel_rfl) (by kernel_rfl) (fun _ _ _ _ h => h) (by rfl) ⟨_, fun w' hx => by (go_simp <;> with_reducible rfl), ?_⟩
              simp only [Act.put, List.setIfInBounds_toArray, List.set_cons_zero, List.set_cons_succ]
              refine rg_take 2 rfl (by kernel_rfl) (by kernel_rfl) (by kernel_rfl) (fun _ _ _ _ h => h) (by rfl) ⟨_, fun w' hx => by (go_simp <;> with_reducible rfl), ?_⟩   -- t121 := fieldAddr 32 t7 1
              simp only [Act.put, List.setIfInBounds_toArray, List.set_cons_zero, List.set_cons_succ]
              refine rg_take 3 rfl (by kernel_rfl) (by kernel_rfl) (by kernel_rfl) (fun _ _ _ _ h => h) (by rfl) ⟨_, fun w' hx => by have hcx := hx.load Y1d; (go_simp <;> with_reducible rfl), ?_⟩
              simp only [Act.put, List.setIfInBounds_toArray, List.set_cons_zero, List.set_cons_succ]
              refine rg_take 4 rfl (by kernel_rfl) (by kernel_rfl) (by kernel_rfl) (fun _ _ _ _ h => h) (by rfl) ⟨.slice (some ad4) i c4, fun w' hx => ex_sliceH (.tmp 120) (.tmp 122) 34 rfl elemSt (some ad4) L.length c4 rfl i rfl (by omega), ?_⟩
              simp only [Act.put, List.setIfInBounds_toArray, List.set_cons_zero, List.set_cons_succ]
              refine rg_take 6 rfl (by kernel_rfl) (by kernel_rfl) (by kernel_rfl) (fun _ _ _ _ h => h) (by rfl) ⟨_, fun w' hx => by (go_simp <;> with_reducible rfl), ?_⟩
              simp only [Act.put, List.setIfInBounds_toArray, List.set_cons_zero, List.set_cons_succ]
              refine rg_take 7 rfl (by kernel_rfl) (by kernel_rfl) (by kernel_rfl) (fun _ _ _ _ h => h) (by rfl) ⟨_, fun w' hx => by (go_simp <;> with_reducible rfl), ?_⟩   -- t126 := fieldAddr 32 t7 1
              simp only [Act.put, List.setIfInBounds_toArray, List.set_cons_zero, List.set_cons_succ]
              refine rg_take 8 rfl (by kernel_rfl) (by kernel_rfl) (by kernel_rfl) (fun _ _ _ _ h => h) (by rfl) ⟨_, fun w' hx => by have hcx := hx.load Y1d; (go_simp <;> with_reducible rfl), ?_⟩
              simp only [Act.put, List.setIfInBounds_toArray, List.set_cons_zero, List.set_cons_succ]
              refine rg_take 9 rfl (by kernel_rfl) (by kernel_rfl) (by kernel_rfl) (fun _ _ _ _ h => h) (by rfl) ⟨.int .i64 ((i + 1 : Nat) : Int), fun w' hx => by (go_simp <;> with_reducible rfl), ?_⟩
              simp only [Act.put, List.setIfInBounds_toArray, List.set_cons_zero, List.set_cons_succ]
              refine rg_take 10 rfl (by kernel_rfl) (by kernel_rfl) (by kernel_rfl) (fun _ _ _ _ h => h) (by rfl) ⟨.slice A7 m7 (c4 - (i + 1)), fun w' hx => ex_sliceL (.tmp 125) (.tmp 128) 34 rfl elemSt (some ad4) L.length c4 rfl (i + 1) rfl (by omega) A7 HA7.out m7 _ Hm7.out rfl, ?_⟩
              simp only [Act.put, List.setIfInBounds_toArray, List.set_cons_zero, List.set_cons_succ]
              refine rg_make 0 rfl (by kernel_rfl) (by rfl) ⟨_, _, by (go_simp <;> first | exact ⟨rfl, rfl⟩ | rfl), Ext.alloc _ _, ?_⟩
              simp only [Act.put, List.setIfInBounds_toArray, List.set_cons_zero, List.set_cons_succ]
              have hW0 : Ext w2.drew (w2.drew.alloc (.cells #[] 9)) := Ext.alloc _ _
              refine rg_one 5 rfl (by kernel_rfl) (by rfl) (wp_app (.tmp 119) (.tmp 123) 34 rfl elemSt w2.heap.size _ 0 0 [] rfl (some ad4) i c4 (svs (L.take i)) rfl i (by omega) (svs (L.take i)) rfl (Own.none_ _ _ _ _ _) (Hrd1.out.below hW0) (svs_one _) (by omega) (by omega) hW0.size (fun A6 c6 w6 ho6 hg6 hr6 => ⟨.inl (grown_none (by simpa [ownRow] using hg6)), ?_⟩))
              simp only [Act.put, List.setIfInBounds_toArray, List.set_cons_zero, List.set_cons_succ]
              have hE6d : Ext w2.drew w6 := Ext.tr hW0 (grown_none (by simpa [ownRow] using hg6))
              have hE6 : Ext w2 w6 := Ext.tr (Ext.drew w2) hE6d
              have hr7 : Rd w6 1 A7 m7 (svs (L.drop (i + 1))) := Hrd7.out.below hE6d
              clear hr6 hg6 hE6d
              refine rg_last 11 rfl (by kernel_rfl) (by kernel_rfl) (by rfl) fun K hK => wp_app (.tmp 124) (.tmp 129) 34 rfl elemSt w2.heap.size A6 i c6 (svs (L.take i)) rfl A7 m7 (c4 - (i + 1)) (svs (L.drop (i + 1))) rfl (i + m7) rfl (svs L2) (by rw [HL2.out, svs_app]) ho6 hr7 (svs_one _) (by have := Hm7.out; omega) (by have := Hm7.out; omega) hE6.size fun A8 c8 w8 ho8 hg8 hr8 => hK _ _ ?_
              simp only [Act.put, List.setIfInBounds_toArray, List.set_cons_zero, List.set_cons_succ]
              refine rg_take 12 rfl (by kernel_rfl) (by kernel_rfl) (by kernel_rfl) (fun _ _ _ _ h => h) (by rfl) ⟨_, fun w' hx => by (go_simp <;> with_reducible rfl), ?_⟩
              simp only [Act.put, List.setIfInBounds_toArray, List.set_cons_zero, List.set_cons_succ]
              refine rg_done (by kernel_rfl) ?_
              have hlen : i + m7 = L2.length := by rw [HL2.out]; simp only [List.length_append, List.length_take, List.length_drop]; have := Hm7.out; omega
              rw [hlen] at ho8 ⊢
              have hE8 : Ext w2 w8 := Low.tr hE6 (ho6.low hg8 (Nat.le_refl _) hE6.size)
              have HS3 := Lib.hid (HS2.out.ext hE8)
              have HO3 := Lib.hid (ho8.mono (base' := g + 1) (by omega))
              have hE3 := Ext.tr hE2 hE8
              have HL3 : Hid (L2 = m2.ps) := by rw [Hid, HL2.out, Q2.out]
              have hn3 : L2.length ≤ 121 := by have := HS2.out.inv.n; rw [HL3.out, m2.ps_len]; omega
              clear ho8 ho6 hg8 hr8 hE6 hE8 HO2 HS2 HD2 Hrd1 Hrd7 Y1 Y2 Y1d HL2 Q2 hE2 hlen hst hss
              go_wp2_with fail
              have hLn := blen_any g b2 w8 HS3.out.bb
              rw [HS3.out.n, ← SBody.ps_len, ← HL3.out] at hLn
              refine hLn.mono ?_
              clear hLn
              rintro e4 w4 ⟨rfl, rfl⟩
              have hFr := free_any g b2 m2 w8 HS3.out
              go_wp2_with fail
              refine hFr.mono ?_
              clear hFr
              rintro e5 w5 ⟨rfl, hx5⟩
              have HS5 := Lib.hid (HS3.out.ext hx5)
              have HO5 := Lib.hid (HO3.out.below hx5)
              have hE5 := Ext.tr hE3 hx5
              clear HS3 HO3 hE3 hx5
              go_wp2_with fail
              go_loopw [9] (fun i wv => ∃ j : Nat, j ≤ L2.length ∧ i = .int .i64 j ∧ Ext w5 wv) (fun i _ => L2.length - (intOf i).toNat)
              case atStart => exact ⟨0, by omega, rfl, Ext.refl _⟩
              case round =>
                obtain ⟨j, hj, rfl, hE6⟩ := hrel
                by_cases hjn : j < L2.length
                · have jk : (0 : Int) ≤ (j : Int) := by omega
                  have jk2 : (j : Int) < (L2.length : Int) := by omega
                  obtain ⟨ad7, had7, hst7⟩ := (HO5.out.below hE6).strAt (k := j) hjn
                  have hcp : m2.cellP (j : Int) = L2[j] := by
                    have := m2.ps_cellP j (by rw [← HL3.out]; exact hjn)
                    rw [this]
                    simp only [HL3.out]
                  obtain ⟨cp, hcp2⟩ : ∃ cp, cp = L2[j] := ⟨_, rfl⟩
                  rw [← hcp2] at hcp hst7
                  have hC := cell_any g b2 m2 (j : Int) _ (HS5.out.ext (Ext.tr hE6 (Ext.drew _)))
                  unfold CellR at hC
                  rw [hcp] at hC
                  have HC := Lib.hid hC
                  unfold strV at hst7
                  clear hC hcp hcp2
                  rw [had7]
                  go_wp2_with fail
                  refine rg_start (by kernel_rfl) ?_
                  refine rg_take 0 rfl (by kernel_rfl) (by kernel_rfl) (by kernel_rfl) (fun _ _ _ _ h => h) (by rfl) ⟨_, fun w' hx => by (go_simp <;> with_reducible rfl), ?_⟩
                  simp only [Act.put, List.setIfInBounds_toArray, List.set_cons_zero, List.set_cons_succ]
                  refine rg_take 1 rfl (by kernel_rfl) (by kernel_rfl) (by kernel_rfl) (fun _ _ _ _ h => h) (by rfl) ⟨_, fun w' hx => by (go_simp <;> with_reducible rfl), ?_⟩
                  simp only [Act.put, List.setIfInBounds_toArray, List.set_cons_zero, List.set_cons_succ]
                  refine rg_take 4 rfl (by kernel_rfl) (by kernel_rfl) (by kernel_rfl) (fun _ _ _ _ h => h) (by rfl) ⟨_, fun w' hx => by (go_simp <;> with_reducible rfl), ?_⟩
                  simp only [Act.put, List.setIfInBounds_toArray, List.set_cons_zero, List.set_cons_succ]
                  refine rg_take 5 rfl (by kernel_rfl) (by kernel_rfl) (by kernel_rfl) (fun _ _ _ _ h => h) (by rfl) ⟨_, fun w' hx => by (go_simp <;> with_reducible rfl), ?_⟩
                  simp only [Act.put, List.setIfInBounds_toArray, List.set_cons_zero, List.set_cons_succ]
                  refine rg_take 6 rfl (by kernel_rfl) (by kernel_rfl) (by kernel_rfl) (fun _ _ _ _ h => h) (by rfl) ⟨_, fun w' hx => by (go_simp <;> with_reducible rfl), ?_⟩   -- t163 := indexAddr 34 t161 t162
                  simp only [Act.put, List.setIfInBounds_toArray, List.set_cons_zero, List.set_cons_succ]
                  refine rg_take 7 rfl (by kernel_rfl) (by kernel_rfl) (by kernel_rfl) (fun _ _ _ _ h => h) (by rfl) ⟨.string ⟨cp.toArray⟩, fun w' hx => by have hcx := hx.load hst7; (go_simp <;> with_reducible rfl), ?_⟩
                  simp only [Act.put, List.setIfInBounds_toArray, List.set_cons_zero, List.set_cons_succ]
                  refine rg_call 2 (HC.out) rfl (by kernel_rfl) (by rfl) (by go_simp) ?_
                  rintro ee we ⟨A5, c5, rfl, ho5, hbe⟩
                  refine ⟨_, rfl, hbe, ?_⟩
                  have ho5r := Lib.hid ho5.rd'
                  clear ho5
                  simp only [Act.put, List.setIfInBounds_toArray, List.set_cons_zero, List.set_cons_succ]
                  refine rg_take 3 rfl (by kernel_rfl) (by kernel_rfl) (by kernel_rfl) (fun _ _ _ _ h => h) (by rfl) ⟨.string ⟨(cp).toArray⟩, fun w' hx => ex_str rfl rfl Try.underlying30 Try.underlying5 Try.underlying9 ((ho5r.out).below hx) rfl, ?_⟩
                  simp only [Act.put, List.setIfInBounds_toArray, List.set_cons_zero, List.set_cons_succ]
                  refine rg_take 8 rfl (by kernel_rfl) (by kernel_rfl) (by kernel_rfl) (fun _ _ _ _ h => h) (by rfl) ⟨.bool (!(cp == cp)), fun w' hx => ex_neqS rfl rfl rfl, ?_⟩
                  rw [show (!(cp == cp)) = false by simp]
                  simp only [Act.put, List.setIfInBounds_toArray, List.set_cons_zero, List.set_cons_succ]
                  refine rg_done (by kernel_rfl) ?_
                  go_wp2_with fail
                  go_roundw
                  case rel => exact ⟨j + 1, by omega, by go_num, Ext.tr hE6 (Ext.tr (Ext.drew _) hbe)⟩
                  case measure => simp [intOf]; omega
                · obtain rfl : j = L2.length := by omega
                  go_wp2_with fail
                  go_roundw
                  case rel => exact ⟨k + 1, b2, m2, A8, c8, L2, by omega, by go_num, rfl, rfl, HL3.out, HS5.out.ext hE6, HO5.out.below hE6, Ext.tr hE5 hE6⟩
                  case measure => simp [intOf]; omega
        · by_cases k2 : kd = 2
          · subst k2
            clear k0 k1
            have hpk := pack_any g b m w1 hS1.out
            go_wp2_with (first | (go_at_call 16; refine hpk.mono ?_; clear hpk; rintro e2 w2 ⟨rfl, ⟨b2, hS2⟩, hg2⟩; refine Hid.out ?_))
            have hE2 : Ext w w2 := below_row hE1 hg2 (by have := Hg.out; omega) (by have := Hg.out; omega)
            have HO2 := Lib.hid (hO1.out.other hg2 (by omega))
            have HS2 := Lib.hid hS2
            have hH := holes_any g b2 m.pack w2 hS2
            rw [SBody.pack_holes hI] at hH
            have hpf := m.pack_free
            rw [← hpf]
            have HL3 : Hid (L = m.pack.ps) := by rw [Hid, HL.out, m.pack_ps]
            obtain ⟨m2, hm2⟩ : ∃ m2, m2 = m.pack := ⟨_, rfl⟩
            rw [← hm2] at HS2 HL3 ⊢
            clear hS2 hg2 X0 X1 X2 HD hO1 hS1 Hpr hE1 hgl1 hpf hm2
            refine Lib.hid ?_
            go_wp2_with (first | (go_at_call 17; refine hH.mono ?_; clear hH; rintro e3 w3 ⟨rfl, hx3⟩; refine Hid.out ?_))
            have hE3 := Ext.tr hE2 hx3
            have HS3 := Lib.hid (HS2.out.ext hx3)
            have HO3 := Lib.hid (HO2.out.below hx3)
            clear HS2 HO2 hE2 hx3
            refine Lib.hid ?_
            go_wp2_with fail
            have hLn := blen_any g b2 w3 HS3.out.bb
            rw [HS3.out.n, ← SBody.ps_len, ← HL3.out] at hLn
            refine hLn.mono ?_
            clear hLn
            rintro e4 w4 ⟨rfl, rfl⟩
            have hFr := free_any g b2 m2 w3 HS3.out
            go_wp2_with fail
            refine hFr.mono ?_
            clear hFr
            rintro e5 w5 ⟨rfl, hx5⟩
            have HS5 := Lib.hid (HS3.out.ext hx5)
            have HO5 := Lib.hid (HO3.out.below hx5)
            have hE5 := Ext.tr hE3 hx5
            clear HS3 HO3 hE3 hx5
            go_wp2_with fail
            go_loopw [9] (fun i wv => ∃ j : Nat, j ≤ L.length ∧ i = .int .i64 j ∧ Ext w5 wv) (fun i _ => L.length - (intOf i).toNat)
            case atStart => exact ⟨0, by omega, rfl, Ext.refl _⟩
            case round =>
              obtain ⟨j, hj, rfl, hE6⟩ := hrel
              by_cases hjn : j < L.length
              · have jk : (0 : Int) ≤ (j : Int) := by omega
                have jk2 : (j : Int) < (L.length : Int) := by omega
                obtain ⟨ad7, had7, hst7⟩ := (HO5.out.below hE6).strAt (k := j) hjn
                have hcp : m2.cellP (j : Int) = L[j] := by
                  have := m2.ps_cellP j (by rw [← HL3.out]; exact hjn)
                  rw [this]
                  simp only [HL3.out]
                obtain ⟨cp, hcp2⟩ : ∃ cp, cp = L[j] := ⟨_, rfl⟩
                rw [← hcp2] at hcp hst7
                have hC := cell_any g b2 m2 (j : Int) _ (HS5.out.ext (Ext.tr hE6 (Ext.drew _)))
                unfold CellR at hC
                rw [hcp] at hC
                have HC := Lib.hid hC
                unfold strV at hst7
                clear hC hcp hcp2
                rw [had7]
                go_wp2_with fail
                refine rg_start (by kernel_rfl) ?_
                refine rg_take 0 rfl (by kernel_rfl) (by kernel_rfl) (by kernel_rfl) (fun _ _ _ _ h => h) (by rfl) ⟨_, fun w' hx => by (go_simp <;> with_reducible rfl), ?_⟩
                simp only [Act.put, List.setIfInBounds_toArray, List.set_cons_zero, List.set_cons_succ]
                refine rg_take 1 rfl (by kernel_rfl) (by kernel_rfl) (by kernel_rfl) (fun _ _ _ _ h => h) (by rfl) ⟨_, fun w' hx => by (go_simp <;> with_reducible rfl), ?_⟩
                simp only [Act.put, List.setIfInBounds_toArray, List.set_cons_zero, List.set_cons_succ]
                refine rg_take 4 rfl (by kernel_rfl) (by kernel_rfl) (by kernel_rfl) (fun _ _ _ _ h => h) (by rfl) ⟨_, fun w' hx => by (go_simp <;> with_reducible rfl), ?_⟩
                simp only [Act.put, List.setIfInBounds_toArray, List.set_cons_zero, List.set_cons_succ]
                refine rg_take 5 rfl (by kernel_rfl) (by kernel_rfl) (by kernel_rfl) (fun _ _ _ _ h => h) (by rfl) ⟨_, fun w' hx => by (go_simp <;> with_reducible rfl), ?_⟩
                simp only [Act.put, List.setIfInBounds_toArray, List.set_cons_zero, List.set_cons_succ]
                refine rg_take 6 rfl (by kernel_rfl) (by kernel_rfl) (by kernel_rfl) (fun _ _ _ _ h => h) (by rfl) ⟨_, fun w' hx => by (go_simp <;> with_reducible rfl), ?_⟩   -- t163 := indexAddr 34 t161 t162
                simp only [Act.put, List.setIfInBounds_toArray, List.set_cons_zero, List.set_cons_succ]
                refine rg_take 7 rfl (by kernel_rfl) (by kernel_rfl) (by kernel_rfl) (fun _ _ _ _ h => h) (by rfl) ⟨.string ⟨cp.toArray⟩, fun w' hx => by have hcx := hx.load hst7; (go_simp <;> with_reducible rfl), ?_⟩
                simp only [Act.put, List.setIfInBounds_toArray, List.set_cons_zero, List.set_cons_succ]
                refine rg_call 2 (HC.out) rfl (by kernel_rfl) (by rfl) (by go_simp) ?_
                rintro ee we ⟨A5, c5, rfl, ho5, hbe⟩
                refine ⟨_, rfl, hbe, ?_⟩
                have ho5r := Lib.hid ho5.rd'
                clear ho5
                simp only [Act.put, List.setIfInBounds_toArray, List.set_cons_zero, List.set_cons_succ]
                refine rg_take 3 rfl (by kernel_rfl) (by kernel_rfl) (by kernel_rfl) (fun _ _ _ _ h => h) (by rfl) ⟨.string ⟨(cp).toArray⟩, fun w' hx => ex_str rfl rfl Try.underlying30 Try.underlying5 Try.underlying9 ((ho5r.out).below hx) rfl, ?_⟩
                simp only [Act.put, List.setIfInBounds_toArray, List.set_cons_zero, List.set_cons_succ]
                refine rg_take 8 rfl (by kernel_rfl) (by kernel_rfl) (by kernel_rfl) (fun _ _ _ _ h => h) (by rfl) ⟨.bool (!(cp == cp)), fun w' hx => ex_neqS rfl rfl rfl, ?_⟩
                rw [show (!(cp == cp)) = false by simp]
                simp only [Act.put, List.setIfInBounds_toArray, List.set_cons_zero, List.set_cons_succ]
                refine rg_done (by kernel_rfl) ?_
                go_wp2_with fail
                go_roundw
                case rel => exact ⟨j + 1, by omega, by go_num, Ext.tr hE6 (Ext.tr (Ext.drew _) hbe)⟩
                case measure => simp [intOf]; omega
              · obtain rfl : j = L.length := by omega
                go_wp2_with fail
                go_roundw
                case rel => exact ⟨k + 1, b2, m2, A4, c4, L, by omega, by go_num, rfl, rfl, HL3.out, HS5.out.ext hE6, HO5.out.below hE6, Ext.tr hE5 hE6⟩
                case measure => simp [intOf]; omega
          ·
            go_wp2_with (go_at_call 18; refine Hid.out ?_)
            have hE3 := hE1
            have HO3 := hO1
            have HS3 := hS1
            have HL3 := HL
            clear X0 X1 X2 HD hO1 hS1 Hpr hE1 hgl1
            refine Lib.hid ?_
            have hLn := blen_any g b w1 HS3.out.bb
            rw [HS3.out.n, ← SBody.ps_len, ← HL3.out] at hLn
            refine hLn.mono ?_
            clear hLn
            rintro e4 w4 ⟨rfl, rfl⟩
            have hFr := free_any g b m w1 HS3.out
            go_wp2_with fail
            refine hFr.mono ?_
            clear hFr
            rintro e5 w5 ⟨rfl, hx5⟩
            have HS5 := Lib.hid (HS3.out.ext hx5)
            have HO5 := Lib.hid (HO3.out.below hx5)
            have hE5 := Ext.tr hE3 hx5
            clear HS3 HO3 hE3 hx5
            go_wp2_with fail
            go_loopw [9] (fun i wv => ∃ j : Nat, j ≤ L.length ∧ i = .int .i64 j ∧ Ext w5 wv) (fun i _ => L.length - (intOf i).toNat)
            case atStart => exact ⟨0, by omega, rfl, Ext.refl _⟩
            case round =>
              obtain ⟨j, hj, rfl, hE6⟩ := hrel
              by_cases hjn : j < L.length
              · have jk : (0 : Int) ≤ (j : Int) := by omega
                have jk2 : (j : Int) < (L.length : Int) := by omega
                obtain ⟨ad7, had7, hst7⟩ := (HO5.out.below hE6).strAt (k := j) hjn
                have hcp : m.cellP (j : Int) = L[j] := by
                  have := m.ps_cellP j (by rw [← HL3.out]; exact hjn)
                  rw [this]
                  simp only [HL3.out]
                obtain ⟨cp, hcp2⟩ : ∃ cp, cp = L[j] := ⟨_, rfl⟩
                rw [← hcp2] at hcp hst7
                have hC := cell_any g b m (j : Int) _ (HS5.out.ext (Ext.tr hE6 (Ext.drew _)))
                unfold CellR at hC
                rw [hcp] at hC
                have HC := Lib.hid hC
                unfold strV at hst7
                clear hC hcp hcp2
                rw [had7]
                go_wp2_with fail
                refine rg_start (by kernel_rfl) ?_
                refine rg_take 0 rfl (by kernel_rfl) (by kernel_rfl) (by kernel_rfl) (fun _ _ _ _ h => h) (by rfl) ⟨_, fun w' hx => by (go_simp <;> with_reducible rfl), ?_⟩
                simp only [Act.put, List.setIfInBounds_toArray, List.set_cons_zero, List.set_cons_succ]
                refine rg_take 1 rfl (by kernel_rfl) (by kernel_rfl) (by kernel_rfl) (fun _ _ _ _ h => h) (by rfl) ⟨_, fun w' hx => by (go_simp <;> with_reducible rfl), ?_⟩
                simp only [Act.put, List.setIfInBounds_toArray, List.set_cons_zero, List.set_cons_succ]
                refine rg_take 4 rfl (by kernel_rfl) (by kernel_rfl) (by kernel_rfl) (fun _ _ _ _ h => h) (by rfl) ⟨_, fun w' hx => by (go_simp <;> with_reducible rfl), ?_⟩
                simp only [Act.put, List.setIfInBounds_toArray, List.set_cons_zero, List.set_cons_succ]
                refine rg_take 5 rfl (by kernel_rfl) (by kernel_rfl) (by kernel_rfl) (fun _ _ _ _ h => h) (by rfl) ⟨_, fun w' hx => by (go_simp <;> with_reducible rfl), ?_⟩
                simp only [Act.put, List.setIfInBounds_toArray, List.set_cons_zero, List.set_cons_succ]
                refine rg_take 6 rfl (by kernel_rfl) (by kernel_rfl) (by kernel_rfl) (fun _ _ _ _ h => h) (by rfl) ⟨_, fun w' hx => by (go_simp <;> with_reducible rfl), ?_⟩   -- t163 := indexAddr 34 t161 t162
                simp only [Act.put, List.setIfInBounds_toArray, List.set_cons_zero, List.set_cons_succ]
                refine rg_take 7 rfl (by kernel_rfl) (by kernel_rfl) (by kernel_rfl) (fun _ _ _ _ h => h) (by rfl) ⟨.string ⟨cp.toArray⟩, fun w' hx => by have hcx := hx.load hst7; (go_simp <;> with_reducible rfl), ?_⟩
                simp only [Act.put, List.setIfInBounds_toArray, List.set_cons_zero, List.set_cons_succ]
                refine rg_call 2 (HC.out) rfl (by kernel_rfl) (by rfl) (by go_simp) ?_
                rintro ee we ⟨A5, c5, rfl, ho5, hbe⟩
                refine ⟨_, rfl, hbe, ?_⟩
                have ho5r := Lib.hid ho5.rd'
                clear ho5
                simp only [Act.put, List.setIfInBounds_toArray, List.set_cons_zero, List.set_cons_succ]
                refine rg_take 3 rfl (by kernel_rfl) (by kernel_rfl) (by kernel_rfl) (fun _ _ _ _ h => h) (by rfl) ⟨.string ⟨(cp).toArray⟩, fun w' hx => ex_str rfl rfl Try.underlying30 Try.underlying5 Try.underlying9 ((ho5r.out).below hx) rfl, ?_⟩
                simp only [Act.put, List.setIfInBounds_toArray, List.set_cons_zero, List.set_cons_succ]
                refine rg_take 8 rfl (by kernel_rfl) (by kernel_rfl) (by kernel_rfl) (fun _ _ _ _ h => h) (by rfl) ⟨.bool (!(cp == cp)), fun w' hx => ex_neqS rfl rfl rfl, ?_⟩
                rw [show (!(cp == cp)) = false by simp]
                simp only [Act.put, List.setIfInBounds_toArray, List.set_cons_zero, List.set_cons_succ]
                refine rg_done (by kernel_rfl) ?_
                go_wp2_with fail
                go_roundw
                case rel => exact ⟨j + 1, by omega, by go_num, Ext.tr hE6 (Ext.tr (Ext.drew _) hbe)⟩
                case measure => simp [intOf]; omega
              · obtain rfl : j = L.length := by omega
                go_wp2_with fail
                go_roundw
                case rel => exact ⟨k + 1, b, m, A4, c4, L, by omega, by go_num, rfl, rfl, HL3.out, HS5.out.ext hE6, HO5.out.below hE6, Ext.tr hE5 hE6⟩
                case measure => simp [intOf]; omega
    · obtain rfl : k = l.length := by omega
      clear hS hO
      go_wp2_with fail
      refine (live06 _).mono ?_
      rintro e9 w9 ⟨rfl, hx9⟩
      go_wp2_with fail
      go_ret
      exact ⟨rfl, Ext.tr hE hx9⟩
end Go.Proofs.Ytgfanklhihciaaa
