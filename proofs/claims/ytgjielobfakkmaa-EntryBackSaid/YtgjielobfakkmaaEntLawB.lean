
/- The walk of the law EntryBack. Printed by wip/tools/gen_laws17.py. -/

import Derived.Test.YtgjielobfakkmaaEntLive

import Derived.Test.YtgjielobfakkmaaEntLaw

namespace Go.Proofs.Ytgjielobfakkmaa

open Go.RowKit

attribute [local go_sem] Oper.semAt_some

theorem fit17B {l : List EnV} (h1 : l.length ≤ 60) (h2 : Ent.total (l.map EnV.x) ≤ 8000) : Fit l := by unfold Fit; omega
theorem put_eq17 {l k : List EnV} (h1 : Ent.total (l.map EnV.x) ≤ 8000) (h2 : Ent.total (k.map EnV.x) ≤ 8000) : (Ent.putAll (l.map EnV.x) = Ent.putAll (k.map EnV.x)) ↔ Ent.sameL (l.map EnV.x) (k.map EnV.x) = true := by
  rw [Ent.sameL_iff]
  have each : ∀ (m : List Ent), Ent.total m ≤ 8000 → ∀ e ∈ m, e.size < 18446744073709551616 := fun m hm e he => by
    obtain ⟨j, hj, rfl⟩ := List.getElem_of_mem he
    have := Ent.one_total m j hj
    omega
  exact ⟨Ent.putAll_inj _ _ (each _ h1) (each _ h2), fun e => by rw [e]⟩

set_option maxRecDepth 100000 in
set_option maxHeartbeats 4000000 in
theorem walkEntryBack (w : World) (A : Option Addr) (l : List EnV) (cap : Nat) (hl : RdE w A l) (_hc : l.length ≤ cap) (B : Option Addr) (k : List EnV) (cap2 : Nat) (hk : RdE w B k) (_hc2 : k.length ≤ cap2) :
    Calls Try.prog 5 #[.slice A l.length cap, .slice B k.length cap2] w fun e w' => e = .returned (.bool true) ∧ Below w.heap.size w w' := by
  have hsm := small17 A l cap w hl
  go_enter Try.func5, Try.ntmps5
  go_wp2_with fail
  refine hsm.mono ?_
  clear hsm
  rintro e w1 ⟨b, rfl, hb, hb1⟩
  cases b with
  | false =>
    clear hb
    go_wp2_with fail
    refine (live17 _).mono ?_
    rintro e wz ⟨rfl, hbz⟩
    go_wp2
    go_ret
    exact ⟨rfl, Ext.tr hb1 hbz⟩
  | true =>
    obtain ⟨h60, h8k⟩ := hb rfl
    clear hb
    have hl1 := hl.below hb1
    have hk1 := hk.below hb1
    have hsm2 := small17 B k cap2 w1 hk1
    go_wp2_with fail
    refine hsm2.mono ?_
    clear hsm2
    rintro e w2 ⟨b, rfl, hb, hb2⟩
    have hE2 := Ext.tr hb1 hb2
    cases b with
    | false =>
      clear hb
      go_wp2_with fail
      refine (live17 _).mono ?_
      rintro e wz ⟨rfl, hbz⟩
      go_wp2
      go_ret
      exact ⟨rfl, Ext.tr hE2 hbz⟩
    | true =>
      obtain ⟨g60, g8k⟩ := hb rfl
      clear hb
      have hl2 := hl1.below hb2
      have hk2 := hk1.below hb2
      have hfl := fit17B h60 h8k
      have hfk := fit17B g60 g8k
      have heq := put_eq17 h8k g8k
      have hP := eputall_any A l cap w2 hl2 (by omega) hfl.total
      have hK := fun W (h : RdE W B k) => eputall_any B k cap2 W h (by omega) hfk.total
      have hS := fun W (h1 : RdE W A l) (h2 : RdE W B k) => ref_same17 A B l k cap cap2 W h1 h2 (by omega)
      have hback := fun (h : Rise (l.map EnV.x)) => Ent.getAll_putAll _ h
      have hplen := hfl.putAll
      obtain ⟨p, hp⟩ : ∃ p, p = Ent.putAll (l.map EnV.x) := ⟨_, rfl⟩
      obtain ⟨q, hq⟩ : ∃ q, q = Ent.putAll (k.map EnV.x) := ⟨_, rfl⟩
      rw [← hp] at hP hback hplen
      rw [← hq] at hK
      have Heq := Lib.hid heq
      have Hp := Lib.hid hp
      have Hq := Lib.hid hq
      have HP := Lib.hid hP
      have HK := Lib.hid hK
      have HS := Lib.hid hS
      have Hback := Lib.hid hback
      clear hp hq heq hP hK hS hback hb1 hb2 hl hk hl1 hk1 hfl hfk
      go_wp2_with fail
      refine HP.out.mono ?_
      clear HP
      rintro e w3 ⟨A3, c3, rfl, ho3, hb3⟩
      have hl3 := hl2.below hb3
      have hk3 := hk2.below hb3
      have hE3 := Ext.tr hE2 hb3
      have hR := ref_rising A l cap w3 hl3 (by omega)
      clear hE2 hl2 hk2 hb3
      go_wp2_with fail
      refine hR.mono ?_
      clear hR
      rintro e w4 ⟨b, rfl, hb, hb4⟩
      have hl4 := hl3.below hb4
      have hk4 := hk3.below hb4
      have ho4 := ho3.below hb4
      have hE4 := Ext.tr hE3 hb4
      clear hE3 hl3 hk3 hb4 ho3
      cases b with
      | false =>
        clear hb
        have hl3 := hl4.below (Ext.drew w4)
        have hk3 := hk4.below (Ext.drew w4)
        have ho3' := ho4.below (Ext.drew w4)
        have hE3 := Ext.tr hE4 (Ext.drew w4)
        clear hl4 hk4 ho4 hE4
        go_wp2_with fail
        cases hsm : Ent.sameL (l.map EnV.x) (k.map EnV.x) with
        | true =>
          have hpq : p = q := by rw [Hp.out, Hq.out]; exact Heq.out.2 hsm
          rw [hsm] at HS
          subst hpq
          clear hsm
          refine rg_start (by kernel_rfl) ?_
          refine rg_take 0 rfl (by kernel_rfl) (by kernel_rfl) (by kernel_rfl) (fun _ _ _ _ h => h) (by rfl) ⟨_, fun w' hx => by (go_simp <;> with_reducible rfl), ?_⟩
          simp only [Act.put, List.setIfInBounds_toArray, List.set_cons_zero, List.set_cons_succ]
          refine rg_take 1 rfl (by kernel_rfl) (by kernel_rfl) (by kernel_rfl) (fun _ _ _ _ h => h) (by rfl) ⟨.string ⟨(p).toArray⟩, fun w' hx => ex_convert rfl rfl (run_str w' 25 9 5 A3 (p) c3 Try.underlying25 Try.underlying5 Try.underlying9 (ho3'.below hx).rd' (p).length rfl), ?_⟩
          simp only [Act.put, List.setIfInBounds_toArray, List.set_cons_zero, List.set_cons_succ]
          refine rg_take 2 rfl (by kernel_rfl) (by kernel_rfl) (by kernel_rfl) (fun _ _ _ _ h => h) (by rfl) ⟨_, fun w' hx => by (go_simp <;> with_reducible rfl), ?_⟩
          simp only [Act.put, List.setIfInBounds_toArray, List.set_cons_zero, List.set_cons_succ]
          refine rg_take 6 rfl (by kernel_rfl) (by kernel_rfl) (by kernel_rfl) (fun _ _ _ _ h => h) (by rfl) ⟨_, fun w' hx => by (go_simp <;> with_reducible rfl), ?_⟩
          simp only [Act.put, List.setIfInBounds_toArray, List.set_cons_zero, List.set_cons_succ]
          refine rg_take 7 rfl (by kernel_rfl) (by kernel_rfl) (by kernel_rfl) (fun _ _ _ _ h => h) (by rfl) ⟨_, fun w' hx => by (go_simp <;> with_reducible rfl), ?_⟩
          simp only [Act.put, List.setIfInBounds_toArray, List.set_cons_zero, List.set_cons_succ]
          refine rg_call 3 (HK.out _ hk3) rfl (by kernel_rfl) (by rfl) (by go_simp) ?_
          rintro e w6 ⟨A6, c6, rfl, ho6, hb6⟩
          refine ⟨_, rfl, hb6, ?_⟩
          simp only [Act.put, List.setIfInBounds_toArray, List.set_cons_zero, List.set_cons_succ]
          refine rg_take 4 rfl (by kernel_rfl) (by kernel_rfl) (by kernel_rfl) (fun _ _ _ _ h => h) (by rfl) ⟨.string ⟨(p).toArray⟩, fun w' hx => ex_convert rfl rfl (run_str w' 25 9 5 A6 (p) c6 Try.underlying25 Try.underlying5 Try.underlying9 (ho6.below hx).rd' (p).length rfl), ?_⟩
          simp only [Act.put, List.setIfInBounds_toArray, List.set_cons_zero, List.set_cons_succ]
          refine rg_take 5 rfl (by kernel_rfl) (by kernel_rfl) (by kernel_rfl) (fun _ _ _ _ h => h) (by rfl) ⟨.bool true, fun w' hx => by (go_simp <;> with_reducible rfl), ?_⟩
          simp only [Act.put, List.setIfInBounds_toArray, List.set_cons_zero, List.set_cons_succ]
          refine rg_call 8 (HS.out _ (hl3.below hb6) (hk3.below hb6)) rfl (by kernel_rfl) (by rfl) (by go_simp) ?_
          rintro e w7 ⟨rfl, hb7⟩
          refine ⟨_, rfl, hb7, ?_⟩
          simp only [Act.put, List.setIfInBounds_toArray, List.set_cons_zero, List.set_cons_succ]
          refine rg_take 9 rfl (by kernel_rfl) (by kernel_rfl) (by kernel_rfl) (fun _ _ _ _ h => h) (by rfl) ⟨.bool true, fun w' hx => by (go_simp <;> with_reducible rfl), ?_⟩
          simp only [Act.put, List.setIfInBounds_toArray, List.set_cons_zero, List.set_cons_succ]
          refine rg_take 10 rfl (by kernel_rfl) (by kernel_rfl) (by kernel_rfl) (fun _ _ _ _ h => h) (by rfl) ⟨_, fun w' hx => by (go_simp <;> with_reducible rfl), ?_⟩
          simp only [Act.put, List.setIfInBounds_toArray, List.set_cons_zero, List.set_cons_succ]
          refine rg_call 11 (live17 _) rfl (by kernel_rfl) (by rfl) (by go_simp) ?_
          rintro e w8 ⟨rfl, hb8⟩
          refine ⟨_, rfl, hb8, ?_⟩
          simp only [Act.put, List.setIfInBounds_toArray, List.set_cons_zero, List.set_cons_succ]
          refine rg_take 12 rfl (by kernel_rfl) (by kernel_rfl) (by kernel_rfl) (fun _ _ _ _ h => h) (by rfl) ⟨_, fun w' hx => by (go_simp <;> with_reducible rfl), ?_⟩
          simp only [Act.put, List.setIfInBounds_toArray, List.set_cons_zero, List.set_cons_succ]
          refine rg_take 13 rfl (by kernel_rfl) (by kernel_rfl) (by kernel_rfl) (fun _ _ _ _ h => h) (by rfl) ⟨_, fun w' hx => by (go_simp <;> with_reducible rfl), ?_⟩
          simp only [Act.put, List.setIfInBounds_toArray, List.set_cons_zero, List.set_cons_succ]
          refine rg_done (by kernel_rfl) ?_
          go_wp2
          go_ret
          exact ⟨rfl, Ext.tr hE3 (Ext.tr hb6 (Ext.tr hb7 hb8))⟩
        | false =>
          have hpq : ¬ p = q := by rw [Hp.out, Hq.out]; intro h; rw [Heq.out.1 h] at hsm; cases hsm
          rw [hsm] at HS
          have Hpq := Lib.hid hpq
          clear hpq hsm
          refine rg_start (by kernel_rfl) ?_
          refine rg_take 0 rfl (by kernel_rfl) (by kernel_rfl) (by kernel_rfl) (fun _ _ _ _ h => h) (by rfl) ⟨_, fun w' hx => by (go_simp <;> with_reducible rfl), ?_⟩
          simp only [Act.put, List.setIfInBounds_toArray, List.set_cons_zero, List.set_cons_succ]
          refine rg_take 1 rfl (by kernel_rfl) (by kernel_rfl) (by kernel_rfl) (fun _ _ _ _ h => h) (by rfl) ⟨.string ⟨(p).toArray⟩, fun w' hx => ex_convert rfl rfl (run_str w' 25 9 5 A3 (p) c3 Try.underlying25 Try.underlying5 Try.underlying9 (ho3'.below hx).rd' (p).length rfl), ?_⟩
          simp only [Act.put, List.setIfInBounds_toArray, List.set_cons_zero, List.set_cons_succ]
          refine rg_take 2 rfl (by kernel_rfl) (by kernel_rfl) (by kernel_rfl) (fun _ _ _ _ h => h) (by rfl) ⟨_, fun w' hx => by (go_simp <;> with_reducible rfl), ?_⟩
          simp only [Act.put, List.setIfInBounds_toArray, List.set_cons_zero, List.set_cons_succ]
          refine rg_take 6 rfl (by kernel_rfl) (by kernel_rfl) (by kernel_rfl) (fun _ _ _ _ h => h) (by rfl) ⟨_, fun w' hx => by (go_simp <;> with_reducible rfl), ?_⟩
          simp only [Act.put, List.setIfInBounds_toArray, List.set_cons_zero, List.set_cons_succ]
          refine rg_take 7 rfl (by kernel_rfl) (by kernel_rfl) (by kernel_rfl) (fun _ _ _ _ h => h) (by rfl) ⟨_, fun w' hx => by (go_simp <;> with_reducible rfl), ?_⟩
          simp only [Act.put, List.setIfInBounds_toArray, List.set_cons_zero, List.set_cons_succ]
          refine rg_call 3 (HK.out _ hk3) rfl (by kernel_rfl) (by rfl) (by go_simp) ?_
          rintro e w6 ⟨A6, c6, rfl, ho6, hb6⟩
          refine ⟨_, rfl, hb6, ?_⟩
          simp only [Act.put, List.setIfInBounds_toArray, List.set_cons_zero, List.set_cons_succ]
          refine rg_take 4 rfl (by kernel_rfl) (by kernel_rfl) (by kernel_rfl) (fun _ _ _ _ h => h) (by rfl) ⟨.string ⟨(q).toArray⟩, fun w' hx => ex_convert rfl rfl (run_str w' 25 9 5 A6 (q) c6 Try.underlying25 Try.underlying5 Try.underlying9 (ho6.below hx).rd' (q).length rfl), ?_⟩
          simp only [Act.put, List.setIfInBounds_toArray, List.set_cons_zero, List.set_cons_succ]
          refine rg_take 5 rfl (by kernel_rfl) (by kernel_rfl) (by kernel_rfl) (fun _ _ _ _ h => h) (by rfl) ⟨.bool false, fun w' hx => by (have hq := Hpq.out; go_simp <;> with_reducible rfl), ?_⟩
          simp only [Act.put, List.setIfInBounds_toArray, List.set_cons_zero, List.set_cons_succ]
          refine rg_call 8 (HS.out _ (hl3.below hb6) (hk3.below hb6)) rfl (by kernel_rfl) (by rfl) (by go_simp) ?_
          rintro e w7 ⟨rfl, hb7⟩
          refine ⟨_, rfl, hb7, ?_⟩
          simp only [Act.put, List.setIfInBounds_toArray, List.set_cons_zero, List.set_cons_succ]
          refine rg_take 9 rfl (by kernel_rfl) (by kernel_rfl) (by kernel_rfl) (fun _ _ _ _ h => h) (by rfl) ⟨.bool true, fun w' hx => by (go_simp <;> with_reducible rfl), ?_⟩
          simp only [Act.put, List.setIfInBounds_toArray, List.set_cons_zero, List.set_cons_succ]
          refine rg_take 10 rfl (by kernel_rfl) (by kernel_rfl) (by kernel_rfl) (fun _ _ _ _ h => h) (by rfl) ⟨_, fun w' hx => by (go_simp <;> with_reducible rfl), ?_⟩
          simp only [Act.put, List.setIfInBounds_toArray, List.set_cons_zero, List.set_cons_succ]
          refine rg_call 11 (live17 _) rfl (by kernel_rfl) (by rfl) (by go_simp) ?_
          rintro e w8 ⟨rfl, hb8⟩
          refine ⟨_, rfl, hb8, ?_⟩
          simp only [Act.put, List.setIfInBounds_toArray, List.set_cons_zero, List.set_cons_succ]
          refine rg_take 12 rfl (by kernel_rfl) (by kernel_rfl) (by kernel_rfl) (fun _ _ _ _ h => h) (by rfl) ⟨_, fun w' hx => by (go_simp <;> with_reducible rfl), ?_⟩
          simp only [Act.put, List.setIfInBounds_toArray, List.set_cons_zero, List.set_cons_succ]
          refine rg_take 13 rfl (by kernel_rfl) (by kernel_rfl) (by kernel_rfl) (fun _ _ _ _ h => h) (by rfl) ⟨_, fun w' hx => by (go_simp <;> with_reducible rfl), ?_⟩
          simp only [Act.put, List.setIfInBounds_toArray, List.set_cons_zero, List.set_cons_succ]
          refine rg_done (by kernel_rfl) ?_
          go_wp2
          go_ret
          exact ⟨rfl, Ext.tr hE3 (Ext.tr hb6 (Ext.tr hb7 hb8))⟩
      | true =>
        have hg := Hback.out (hb rfl)
        have hG := getall_any A3 p c3 w4 ho4.rd' (by omega) ho4.nc
        have HG := Lib.hid hG
        clear hb hG
        go_wp2_with fail
        refine HG.out.mono ?_
        clear HG
        rintro e w5 (⟨G, A5, c5, hg2, rfl, hG, hGc, hb5⟩ | ⟨hg2, _⟩)
        case inr => rw [hg] at hg2; cases hg2
        rw [hg] at hg2
        injection hg2 with hGx
        have hSG := ref_same17 A A5 l G cap c5 w5 (hl4.below hb5) hG (by omega)
        rw [← hGx, Ent.sameL_refl] at hSG
        have HSG := Lib.hid hSG
        have hl5 := hl4.below hb5
        have hk5 := hk4.below hb5
        have ho5 := ho4.below hb5
        have hE5 := Ext.tr hE4 hb5
        clear hSG hg hGx hl4 hk4 ho4 hE4 hb5
        go_wp2_with (go_at_call 23; refine (num17 _ _).mono ?_; rintro e w' ⟨rfl, rfl⟩)
        refine HSG.out.mono ?_
        clear HSG
        rintro e w9 ⟨rfl, hb9⟩
        have hb9' := Ext.tr hb9 (Ext.drew w9)
        have hl3 := hl5.below hb9'
        have hk3 := hk5.below hb9'
        have ho3' := ho5.below hb9'
        have hE3 := Ext.tr hE5 hb9'
        clear hl5 hk5 ho5 hE5 hb9 hb9' hG
        go_wp2_with fail
        cases hsm : Ent.sameL (l.map EnV.x) (k.map EnV.x) with
        | true =>
          have hpq : p = q := by rw [Hp.out, Hq.out]; exact Heq.out.2 hsm
          rw [hsm] at HS
          subst hpq
          clear hsm
          refine rg_start (by kernel_rfl) ?_
          refine rg_take 0 rfl (by kernel_rfl) (by kernel_rfl) (by kernel_rfl) (fun _ _ _ _ h => h) (by rfl) ⟨_, fun w' hx => by (go_simp <;> with_reducible rfl), ?_⟩
          simp only [Act.put, List.setIfInBounds_toArray, List.set_cons_zero, List.set_cons_succ]
          refine rg_take 1 rfl (by kernel_rfl) (by kernel_rfl) (by kernel_rfl) (fun _ _ _ _ h => h) (by rfl) ⟨.string ⟨(p).toArray⟩, fun w' hx => ex_convert rfl rfl (run_str w' 25 9 5 A3 (p) c3 Try.underlying25 Try.underlying5 Try.underlying9 (ho3'.below hx).rd' (p).length rfl), ?_⟩
          simp only [Act.put, List.setIfInBounds_toArray, List.set_cons_zero, List.set_cons_succ]
          refine rg_take 2 rfl (by kernel_rfl) (by kernel_rfl) (by kernel_rfl) (fun _ _ _ _ h => h) (by rfl) ⟨_, fun w' hx => by (go_simp <;> with_reducible rfl), ?_⟩
          simp only [Act.put, List.setIfInBounds_toArray, List.set_cons_zero, List.set_cons_succ]
          refine rg_take 6 rfl (by kernel_rfl) (by kernel_rfl) (by kernel_rfl) (fun _ _ _ _ h => h) (by rfl) ⟨_, fun w' hx => by (go_simp <;> with_reducible rfl), ?_⟩
          simp only [Act.put, List.setIfInBounds_toArray, List.set_cons_zero, List.set_cons_succ]
          refine rg_take 7 rfl (by kernel_rfl) (by kernel_rfl) (by kernel_rfl) (fun _ _ _ _ h => h) (by rfl) ⟨_, fun w' hx => by (go_simp <;> with_reducible rfl), ?_⟩
          simp only [Act.put, List.setIfInBounds_toArray, List.set_cons_zero, List.set_cons_succ]
          refine rg_call 3 (HK.out _ hk3) rfl (by kernel_rfl) (by rfl) (by go_simp) ?_
          rintro e w6 ⟨A6, c6, rfl, ho6, hb6⟩
          refine ⟨_, rfl, hb6, ?_⟩
          simp only [Act.put, List.setIfInBounds_toArray, List.set_cons_zero, List.set_cons_succ]
          refine rg_take 4 rfl (by kernel_rfl) (by kernel_rfl) (by kernel_rfl) (fun _ _ _ _ h => h) (by rfl) ⟨.string ⟨(p).toArray⟩, fun w' hx => ex_convert rfl rfl (run_str w' 25 9 5 A6 (p) c6 Try.underlying25 Try.underlying5 Try.underlying9 (ho6.below hx).rd' (p).length rfl), ?_⟩
          simp only [Act.put, List.setIfInBounds_toArray, List.set_cons_zero, List.set_cons_succ]
          refine rg_take 5 rfl (by kernel_rfl) (by kernel_rfl) (by kernel_rfl) (fun _ _ _ _ h => h) (by rfl) ⟨.bool true, fun w' hx => by (go_simp <;> with_reducible rfl), ?_⟩
          simp only [Act.put, List.setIfInBounds_toArray, List.set_cons_zero, List.set_cons_succ]
          refine rg_call 8 (HS.out _ (hl3.below hb6) (hk3.below hb6)) rfl (by kernel_rfl) (by rfl) (by go_simp) ?_
          rintro e w7 ⟨rfl, hb7⟩
          refine ⟨_, rfl, hb7, ?_⟩
          simp only [Act.put, List.setIfInBounds_toArray, List.set_cons_zero, List.set_cons_succ]
          refine rg_take 9 rfl (by kernel_rfl) (by kernel_rfl) (by kernel_rfl) (fun _ _ _ _ h => h) (by rfl) ⟨.bool true, fun w' hx => by (go_simp <;> with_reducible rfl), ?_⟩
          simp only [Act.put, List.setIfInBounds_toArray, List.set_cons_zero, List.set_cons_succ]
          refine rg_take 10 rfl (by kernel_rfl) (by kernel_rfl) (by kernel_rfl) (fun _ _ _ _ h => h) (by rfl) ⟨_, fun w' hx => by (go_simp <;> with_reducible rfl), ?_⟩
          simp only [Act.put, List.setIfInBounds_toArray, List.set_cons_zero, List.set_cons_succ]
          refine rg_call 11 (live17 _) rfl (by kernel_rfl) (by rfl) (by go_simp) ?_
          rintro e w8 ⟨rfl, hb8⟩
          refine ⟨_, rfl, hb8, ?_⟩
          simp only [Act.put, List.setIfInBounds_toArray, List.set_cons_zero, List.set_cons_succ]
          refine rg_take 12 rfl (by kernel_rfl) (by kernel_rfl) (by kernel_rfl) (fun _ _ _ _ h => h) (by rfl) ⟨_, fun w' hx => by (go_simp <;> with_reducible rfl), ?_⟩
          simp only [Act.put, List.setIfInBounds_toArray, List.set_cons_zero, List.set_cons_succ]
          refine rg_take 13 rfl (by kernel_rfl) (by kernel_rfl) (by kernel_rfl) (fun _ _ _ _ h => h) (by rfl) ⟨_, fun w' hx => by (go_simp <;> with_reducible rfl), ?_⟩
          simp only [Act.put, List.setIfInBounds_toArray, List.set_cons_zero, List.set_cons_succ]
          refine rg_done (by kernel_rfl) ?_
          go_wp2
          go_ret
          exact ⟨rfl, Ext.tr hE3 (Ext.tr hb6 (Ext.tr hb7 hb8))⟩
        | false =>
          have hpq : ¬ p = q := by rw [Hp.out, Hq.out]; intro h; rw [Heq.out.1 h] at hsm; cases hsm
          rw [hsm] at HS
          have Hpq := Lib.hid hpq
          clear hpq hsm
          refine rg_start (by kernel_rfl) ?_
          refine rg_take 0 rfl (by kernel_rfl) (by kernel_rfl) (by kernel_rfl) (fun _ _ _ _ h => h) (by rfl) ⟨_, fun w' hx => by (go_simp <;> with_reducible rfl), ?_⟩
          simp only [Act.put, List.setIfInBounds_toArray, List.set_cons_zero, List.set_cons_succ]
          refine rg_take 1 rfl (by kernel_rfl) (by kernel_rfl) (by kernel_rfl) (fun _ _ _ _ h => h) (by rfl) ⟨.string ⟨(p).toArray⟩, fun w' hx => ex_convert rfl rfl (run_str w' 25 9 5 A3 (p) c3 Try.underlying25 Try.underlying5 Try.underlying9 (ho3'.below hx).rd' (p).length rfl), ?_⟩
          simp only [Act.put, List.setIfInBounds_toArray, List.set_cons_zero, List.set_cons_succ]
          refine rg_take 2 rfl (by kernel_rfl) (by kernel_rfl) (by kernel_rfl) (fun _ _ _ _ h => h) (by rfl) ⟨_, fun w' hx => by (go_simp <;> with_reducible rfl), ?_⟩
          simp only [Act.put, List.setIfInBounds_toArray, List.set_cons_zero, List.set_cons_succ]
          refine rg_take 6 rfl (by kernel_rfl) (by kernel_rfl) (by kernel_rfl) (fun _ _ _ _ h => h) (by rfl) ⟨_, fun w' hx => by (go_simp <;> with_reducible rfl), ?_⟩
          simp only [Act.put, List.setIfInBounds_toArray, List.set_cons_zero, List.set_cons_succ]
          refine rg_take 7 rfl (by kernel_rfl) (by kernel_rfl) (by kernel_rfl) (fun _ _ _ _ h => h) (by rfl) ⟨_, fun w' hx => by (go_simp <;> with_reducible rfl), ?_⟩
          simp only [Act.put, List.setIfInBounds_toArray, List.set_cons_zero, List.set_cons_succ]
          refine rg_call 3 (HK.out _ hk3) rfl (by kernel_rfl) (by rfl) (by go_simp) ?_
          rintro e w6 ⟨A6, c6, rfl, ho6, hb6⟩
          refine ⟨_, rfl, hb6, ?_⟩
          simp only [Act.put, List.setIfInBounds_toArray, List.set_cons_zero, List.set_cons_succ]
          refine rg_take 4 rfl (by kernel_rfl) (by kernel_rfl) (by kernel_rfl) (fun _ _ _ _ h => h) (by rfl) ⟨.string ⟨(q).toArray⟩, fun w' hx => ex_convert rfl rfl (run_str w' 25 9 5 A6 (q) c6 Try.underlying25 Try.underlying5 Try.underlying9 (ho6.below hx).rd' (q).length rfl), ?_⟩
          simp only [Act.put, List.setIfInBounds_toArray, List.set_cons_zero, List.set_cons_succ]
          refine rg_take 5 rfl (by kernel_rfl) (by kernel_rfl) (by kernel_rfl) (fun _ _ _ _ h => h) (by rfl) ⟨.bool false, fun w' hx => by (have hq := Hpq.out; go_simp <;> with_reducible rfl), ?_⟩
          simp only [Act.put, List.setIfInBounds_toArray, List.set_cons_zero, List.set_cons_succ]
          refine rg_call 8 (HS.out _ (hl3.below hb6) (hk3.below hb6)) rfl (by kernel_rfl) (by rfl) (by go_simp) ?_
          rintro e w7 ⟨rfl, hb7⟩
          refine ⟨_, rfl, hb7, ?_⟩
          simp only [Act.put, List.setIfInBounds_toArray, List.set_cons_zero, List.set_cons_succ]
          refine rg_take 9 rfl (by kernel_rfl) (by kernel_rfl) (by kernel_rfl) (fun _ _ _ _ h => h) (by rfl) ⟨.bool true, fun w' hx => by (go_simp <;> with_reducible rfl), ?_⟩
          simp only [Act.put, List.setIfInBounds_toArray, List.set_cons_zero, List.set_cons_succ]
          refine rg_take 10 rfl (by kernel_rfl) (by kernel_rfl) (by kernel_rfl) (fun _ _ _ _ h => h) (by rfl) ⟨_, fun w' hx => by (go_simp <;> with_reducible rfl), ?_⟩
          simp only [Act.put, List.setIfInBounds_toArray, List.set_cons_zero, List.set_cons_succ]
          refine rg_call 11 (live17 _) rfl (by kernel_rfl) (by rfl) (by go_simp) ?_
          rintro e w8 ⟨rfl, hb8⟩
          refine ⟨_, rfl, hb8, ?_⟩
          simp only [Act.put, List.setIfInBounds_toArray, List.set_cons_zero, List.set_cons_succ]
          refine rg_take 12 rfl (by kernel_rfl) (by kernel_rfl) (by kernel_rfl) (fun _ _ _ _ h => h) (by rfl) ⟨_, fun w' hx => by (go_simp <;> with_reducible rfl), ?_⟩
          simp only [Act.put, List.setIfInBounds_toArray, List.set_cons_zero, List.set_cons_succ]
          refine rg_take 13 rfl (by kernel_rfl) (by kernel_rfl) (by kernel_rfl) (fun _ _ _ _ h => h) (by rfl) ⟨_, fun w' hx => by (go_simp <;> with_reducible rfl), ?_⟩
          simp only [Act.put, List.setIfInBounds_toArray, List.set_cons_zero, List.set_cons_succ]
          refine rg_done (by kernel_rfl) ?_
          go_wp2
          go_ret
          exact ⟨rfl, Ext.tr hE3 (Ext.tr hb6 (Ext.tr hb7 hb8))⟩
end Go.Proofs.Ytgjielobfakkmaa
