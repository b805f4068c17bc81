
/- The walk of the law EntryPuts. Printed by wip/tools/gen_laws17.py. -/

import Derived.Test.YtgjielobfakkmaaEntLive

import Derived.Test.YtgjielobfakkmaaEntLaw

namespace Go.Proofs.Ytgjielobfakkmaa

open Go.RowKit

attribute [local go_sem] Oper.semAt_some

theorem fit17A {l : List EnV} (h1 : l.length ≤ 60) (h2 : Ent.total (l.map EnV.x) ≤ 8000) : Fit l := by unfold Fit; omega
set_option maxRecDepth 100000 in
set_option maxHeartbeats 4000000 in
theorem walkEntryPuts (w : World) (A : Option Addr) (l : List EnV) (cap : Nat) (hl : RdE w A l) (_hc : l.length ≤ cap) :
    Calls Try.prog 3 #[.slice A l.length cap] w fun e w' => e = .returned (.bool true) ∧ Below w.heap.size w w' := by
  have hsm := small17 A l cap w hl
  go_enter Try.func3, Try.ntmps3
  go_wp2_with fail
  refine hsm.mono ?_
  clear hsm
  rintro e w1 ⟨b, rfl, hb, hb1⟩
  cases b with
  | false =>
    clear hb
    go_wp2_with fail
    refine (live17 _).mono ?_
    rintro e wz ⟨rfl, hbz⟩
    go_wp2
    go_ret
    exact ⟨rfl, Ext.tr hb1 hbz⟩
  | true =>
    obtain ⟨h60, h8k⟩ := hb rfl
    have hfit := fit17A h60 h8k
    clear hb
    go_wp2
    go_loopw [3] (fun i wr => ∃ k : Nat, k ≤ l.length ∧ i = .int .i64 k ∧ Below w.heap.size w wr) (fun i _ => l.length - (intOf i).toNat)
    case atStart => exact ⟨0, by omega, rfl, hb1⟩
    case round =>
      obtain ⟨k, hk, rfl, hbw⟩ := hrel
      by_cases h : k < l.length
      · obtain ⟨ad, rfl, hcell, hin⟩ := (hl.below hbw).at_ h
        have hsz := Nat.le_trans (Ent.one_total (l.map EnV.x) k (by simpa using h)) h8k
        rw [List.getElem_map] at hsz
        have hlen : (l.length : Int) ≤ 60 := by omega
        have ik : (0 : Int) ≤ (k : Int) := by omega
        have ik2 : (k : Int) < (l.length : Int) := by omega
        obtain ⟨n, hn⟩ : ∃ n, n = l.length := ⟨_, rfl⟩
        have hcx : ∀ j u, (l[k].cells)[j]? = some u → wr.drew.cell? ((ad.add (k * 2)).add j) = some u := fun j u hj => by rw [add_add']; exact hcell j u hj
        obtain ⟨E, hE⟩ : ∃ E, E = l[k] := ⟨_, rfl⟩
        rw [← hE] at hcx hin hsz
        have hs1 : E.x.key.length ≤ 1000000 ∧ E.x.val.length ≤ 1000000 := by unfold Ent.size at hsz; omega
        have HE := Lib.hid hE
        have hbd := hbw.trans ((Ext.drew wr).mono hbw.size)
        have hin' := hin.below (Ext.drew wr)
        clear hcell hE hsz hn hin
        go_wp2_with fail
        refine rg_start (by kernel_rfl) ?_
        refine rg_take 0 rfl (by kernel_rfl) (by kernel_rfl) (by kernel_rfl) (fun _ _ _ _ h => h) (by rfl) ⟨_, fun w' hx => by (go_simp <;> with_reducible rfl), ?_⟩
        simp only [Act.put, List.setIfInBounds_toArray, List.set_cons_zero, List.set_cons_succ]
        refine rg_take 1 rfl (by kernel_rfl) (by kernel_rfl) (by kernel_rfl) (fun _ _ _ _ h => h) (by rfl) ⟨_, fun w' hx => by (go_simp <;> with_reducible rfl), ?_⟩
        simp only [Act.put, List.setIfInBounds_toArray, List.set_cons_zero, List.set_cons_succ]
        refine rg_take 2 rfl (by kernel_rfl) (by kernel_rfl) (by kernel_rfl) (fun _ _ _ _ h => h) (by rfl) ⟨_, fun w' hx => by (go_simp <;> with_reducible rfl), ?_⟩   -- t16 := indexAddr 22 t14 t15
        simp only [Act.put, List.setIfInBounds_toArray, List.set_cons_zero, List.set_cons_succ]
        refine rg_take 3 rfl (by kernel_rfl) (by kernel_rfl) (by kernel_rfl) (fun _ _ _ _ h => h) (by rfl) ⟨.agg E.cells, fun w' hx => ex_load_cells 28 _ rfl _ rfl E.cells _ (fun j u hj => Ext.load hx (hcx j u hj)) Try.underlying28 rfl (einfo _), ?_⟩
        simp only [Act.put, List.setIfInBounds_toArray, List.set_cons_zero, List.set_cons_succ]
        refine rg_take 6 rfl (by kernel_rfl) (by kernel_rfl) (by kernel_rfl) (fun _ _ _ _ h => h) (by rfl) ⟨_, fun w' hx => by (go_simp <;> with_reducible rfl), ?_⟩
        simp only [Act.put, List.setIfInBounds_toArray, List.set_cons_zero, List.set_cons_succ]
        refine rg_take 7 rfl (by kernel_rfl) (by kernel_rfl) (by kernel_rfl) (fun _ _ _ _ h => h) (by rfl) ⟨_, fun w' hx => by (go_simp <;> with_reducible rfl), ?_⟩
        simp only [Act.put, List.setIfInBounds_toArray, List.set_cons_zero, List.set_cons_succ]
        refine rg_take 8 rfl (by kernel_rfl) (by kernel_rfl) (by kernel_rfl) (fun _ _ _ _ h => h) (by rfl) ⟨_, fun w' hx => by (go_simp <;> with_reducible rfl), ?_⟩   -- t22 := indexAddr 22 t20 t21
        simp only [Act.put, List.setIfInBounds_toArray, List.set_cons_zero, List.set_cons_succ]
        refine rg_take 9 rfl (by kernel_rfl) (by kernel_rfl) (by kernel_rfl) (fun _ _ _ _ h => h) (by rfl) ⟨.agg E.cells, fun w' hx => ex_load_cells 28 _ rfl _ rfl E.cells _ (fun j u hj => Ext.load hx (hcx j u hj)) Try.underlying28 rfl (einfo _), ?_⟩
        simp only [Act.put, List.setIfInBounds_toArray, List.set_cons_zero, List.set_cons_succ]
        refine rg_call 4 (eput_any E _ hin' hs1.1 hs1.2) rfl (by kernel_rfl) (by rfl) (by go_simp) ?_
        rintro e w2 ⟨A2, c2, rfl, ho2, hb2⟩
        refine ⟨_, rfl, hb2, ?_⟩
        simp only [Act.put, List.setIfInBounds_toArray, List.set_cons_zero, List.set_cons_succ]
        refine rg_take 5 rfl (by kernel_rfl) (by kernel_rfl) (by kernel_rfl) (fun _ _ _ _ h => h) (by rfl) ⟨.string ⟨(E.x.put).toArray⟩, fun w' hx => ex_convert rfl rfl (run_str w' 25 9 5 A2 (E.x.put) c2 Try.underlying25 Try.underlying5 Try.underlying9 (ho2.below hx).rd' (E.x.put).length rfl), ?_⟩
        simp only [Act.put, List.setIfInBounds_toArray, List.set_cons_zero, List.set_cons_succ]
        refine rg_call 10 (ref_eput E _ (hin'.below hb2) hs1.1 hs1.2) rfl (by kernel_rfl) (by rfl) (by go_simp) ?_
        rintro e w3 ⟨A3, c3, rfl, ho3, hb3⟩
        refine ⟨_, rfl, hb3, ?_⟩
        simp only [Act.put, List.setIfInBounds_toArray, List.set_cons_zero, List.set_cons_succ]
        refine rg_take 11 rfl (by kernel_rfl) (by kernel_rfl) (by kernel_rfl) (fun _ _ _ _ h => h) (by rfl) ⟨.string ⟨(E.x.put).toArray⟩, fun w' hx => ex_convert rfl rfl (run_str w' 25 9 5 A3 (E.x.put) c3 Try.underlying25 Try.underlying5 Try.underlying9 (ho3.below hx).rd' (E.x.put).length rfl), ?_⟩
        simp only [Act.put, List.setIfInBounds_toArray, List.set_cons_zero, List.set_cons_succ]
        refine rg_take 12 rfl (by kernel_rfl) (by kernel_rfl) (by kernel_rfl) (fun _ _ _ _ h => h) (by rfl) ⟨.bool false, fun w' hx => by (go_simp <;> with_reducible rfl), ?_⟩
        simp only [Act.put, List.setIfInBounds_toArray, List.set_cons_zero, List.set_cons_succ]
        refine rg_done (by kernel_rfl) ?_
        go_wp2
        go_roundw
        case rel => exact ⟨k + 1, by omega, by go_num, hbd.trans ((Ext.tr hb2 hb3).mono hbd.size)⟩
        case measure => simp [intOf]; omega
      · have hL := hl.below hbw
        have hlen := hfit.len
        have htot := hfit.total
        have hpl := hfit.putAll
        have Hfit := Lib.hid hfit
        clear hfit h8k hb1
        go_wp2_with fail
        refine rg_start (by kernel_rfl) ?_
        refine rg_take 1 rfl (by kernel_rfl) (by kernel_rfl) (by kernel_rfl) (fun _ _ _ _ h => h) (by rfl) ⟨_, fun w' hx => by (go_simp <;> with_reducible rfl), ?_⟩
        simp only [Act.put, List.setIfInBounds_toArray, List.set_cons_zero, List.set_cons_succ]
        refine rg_take 5 rfl (by kernel_rfl) (by kernel_rfl) (by kernel_rfl) (fun _ _ _ _ h => h) (by rfl) ⟨_, fun w' hx => by (go_simp <;> with_reducible rfl), ?_⟩
        simp only [Act.put, List.setIfInBounds_toArray, List.set_cons_zero, List.set_cons_succ]
        refine rg_par [(0, 27), (2, 29)] (fun i u W => (i = 0 → ∃ g, u = .slice (some ⟨g, 0, none⟩) 0 0) ∧ (i = 2 → ∃ A' c', u = .slice A' l.length c' ∧ Own W wr.heap.size 28 2 A' l.length c' (ecs l))) 2 (by kernel_rfl) ?_ ?_ ?_
        · rintro i u W W' ⟨a0, a2⟩ hx
          exact ⟨a0, fun e => let ⟨A', c', x1, x2⟩ := a2 e; ⟨A', c', x1, x2.below hx⟩⟩
        · intro p hp oi ho f W hx hd
          simp only [List.mem_cons, List.not_mem_nil, or_false] at hp
          have hx1 : Ext wr W := Ext.tr (Ext.drew wr) hx
          rcases hp with rfl | rfl
          all_goals
            simp only at ho
            have ho' := ho
            simp only [List.getElem?_toArray, List.getElem?_cons_succ, List.getElem?_cons_zero] at ho'
            injection ho' with ho'
            subst ho'
            clear ho
            refine ⟨by rfl, ?_⟩
            simp only [fillS, List.foldl_cons, List.foldl_nil, Act.put, List.setIfInBounds_toArray, List.set_cons_zero, List.set_cons_succ]
          · exact yld_make ⟨_, _, by (go_simp <;> first | exact ⟨rfl, rfl⟩ | rfl), Ext.alloc _ _, by simp⟩
          · obtain ⟨g, d0⟩ := (hd (0, 27) (by simp) (by kernel_rfl)).1 rfl
            simp only at d0
            simp only [d0]
            exact yld_app0 (.tmp 27) (.tmp 28) 22 rfl elemE _ rfl A l.length cap (ecs l) rfl (hL.rd.below hx1) (ecs_one_cell l) (by omega) (by omega) (fun A' c' w' x1 x2 => ⟨by simp, fun _ => ⟨A', c', rfl, x1.mono hx1.size⟩⟩)
        intro f W hx hd
        obtain ⟨g0, d0⟩ := (hd (0, 27) (by simp)).1 rfl
        obtain ⟨A2, c2, d2, ho2⟩ := (hd (2, 29) (by simp)).2 rfl
        simp only at d0 d2
        simp only [fillS, List.foldl_cons, List.foldl_nil, Act.put, List.setIfInBounds_toArray, List.set_cons_zero, List.set_cons_succ, d0, d2]
        have hx1 : Ext wr W := Ext.tr (Ext.drew wr) hx
        have hL2 := hL.below hx1
        clear hd d0 d2 hx
        refine rg_call 3 (eputall_any A2 l c2 _ (ho2.rdE hL2.each) (by omega) htot) rfl (by kernel_rfl) (by rfl) (by go_simp) ?_
        rintro e w4 ⟨A4, c4, rfl, ho4, hb4⟩
        refine ⟨_, rfl, hb4, ?_⟩
        simp only [Act.put, List.setIfInBounds_toArray, List.set_cons_zero, List.set_cons_succ]
        refine rg_take 4 rfl (by kernel_rfl) (by kernel_rfl) (by kernel_rfl) (fun _ _ _ _ h => h) (by rfl) ⟨.string ⟨(Ent.putAll (l.map EnV.x)).toArray⟩, fun w' hx => ex_convert rfl rfl (run_str w' 25 9 5 A4 (Ent.putAll (l.map EnV.x)) c4 Try.underlying25 Try.underlying5 Try.underlying9 (ho4.below hx).rd' (Ent.putAll (l.map EnV.x)).length rfl), ?_⟩
        simp only [Act.put, List.setIfInBounds_toArray, List.set_cons_zero, List.set_cons_succ]
        have hL5 := hL2.below hb4
        refine rg_call 6 (ref_eputall A l cap _ (hL2.below hb4) (by omega) htot) rfl (by kernel_rfl) (by rfl) (by go_simp) ?_
        rintro e w5 ⟨A5, c5, rfl, ho5, hb5⟩
        refine ⟨_, rfl, hb5, ?_⟩
        simp only [Act.put, List.setIfInBounds_toArray, List.set_cons_zero, List.set_cons_succ]
        refine rg_take 7 rfl (by kernel_rfl) (by kernel_rfl) (by kernel_rfl) (fun _ _ _ _ h => h) (by rfl) ⟨.string ⟨(Ent.putAll (l.map EnV.x)).toArray⟩, fun w' hx => ex_convert rfl rfl (run_str w' 25 9 5 A5 (Ent.putAll (l.map EnV.x)) c5 Try.underlying25 Try.underlying5 Try.underlying9 (ho5.below hx).rd' (Ent.putAll (l.map EnV.x)).length rfl), ?_⟩
        simp only [Act.put, List.setIfInBounds_toArray, List.set_cons_zero, List.set_cons_succ]
        refine rg_take 8 rfl (by kernel_rfl) (by kernel_rfl) (by kernel_rfl) (fun _ _ _ _ h => h) (by rfl) ⟨.bool true, fun w' hx => by (go_simp <;> with_reducible rfl), ?_⟩
        simp only [Act.put, List.setIfInBounds_toArray, List.set_cons_zero, List.set_cons_succ]
        refine rg_take 9 rfl (by kernel_rfl) (by kernel_rfl) (by kernel_rfl) (fun _ _ _ _ h => h) (by rfl) ⟨_, fun w' hx => by (go_simp <;> with_reducible rfl), ?_⟩
        simp only [Act.put, List.setIfInBounds_toArray, List.set_cons_zero, List.set_cons_succ]
        refine rg_take 10 rfl (by kernel_rfl) (by kernel_rfl) (by kernel_rfl) (fun _ _ _ _ h => h) (by rfl) ⟨_, fun w' hx => by (go_simp <;> with_reducible rfl), ?_⟩
        simp only [Act.put, List.setIfInBounds_toArray, List.set_cons_zero, List.set_cons_succ]
        refine rg_take 12 rfl (by kernel_rfl) (by kernel_rfl) (by kernel_rfl) (fun _ _ _ _ h => h) (by rfl) ⟨_, fun w' hx => by (go_simp <;> with_reducible rfl), ?_⟩
        simp only [Act.put, List.setIfInBounds_toArray, List.set_cons_zero, List.set_cons_succ]
        refine rg_call 11 (edigest_any A l cap _ (hL5.below hb5) (by omega) htot hpl) rfl (by kernel_rfl) (by rfl) (by go_simp) ?_
        rintro e w6 ⟨rfl, hb6⟩
        refine ⟨_, rfl, hb6, ?_⟩
        simp only [Act.put, List.setIfInBounds_toArray, List.set_cons_zero, List.set_cons_succ]
        refine rg_call 13 (ref_edigest A l cap _ ((hL5.below hb5).below hb6) (by omega) htot hpl) rfl (by kernel_rfl) (by rfl) (by go_simp) ?_
        rintro e w7 ⟨rfl, hb7⟩
        refine ⟨_, rfl, hb7, ?_⟩
        simp only [Act.put, List.setIfInBounds_toArray, List.set_cons_zero, List.set_cons_succ]
        refine rg_take 14 rfl (by kernel_rfl) (by kernel_rfl) (by kernel_rfl) (fun _ _ _ _ h => h) (by rfl) ⟨.bool true, fun w' hx => by (have hq := eqArr10 (Ent.digest (l.map EnV.x)) (Ent.digest (l.map EnV.x)) w' (Ent.digest_len _) (Ent.digest_len _); go_simp <;> with_reducible rfl), ?_⟩
        simp only [Act.put, List.setIfInBounds_toArray, List.set_cons_zero, List.set_cons_succ]
        refine rg_take 15 rfl (by kernel_rfl) (by kernel_rfl) (by kernel_rfl) (fun _ _ _ _ h => h) (by rfl) ⟨_, fun w' hx => by (go_simp <;> with_reducible rfl), ?_⟩
        simp only [Act.put, List.setIfInBounds_toArray, List.set_cons_zero, List.set_cons_succ]
        refine rg_take 16 rfl (by kernel_rfl) (by kernel_rfl) (by kernel_rfl) (fun _ _ _ _ h => h) (by rfl) ⟨_, fun w' hx => by (go_simp <;> with_reducible rfl), ?_⟩
        simp only [Act.put, List.setIfInBounds_toArray, List.set_cons_zero, List.set_cons_succ]
        refine rg_call 17 (live17 _) rfl (by kernel_rfl) (by rfl) (by go_simp) ?_
        rintro e w8 ⟨rfl, hb8⟩
        refine ⟨_, rfl, hb8, ?_⟩
        simp only [Act.put, List.setIfInBounds_toArray, List.set_cons_zero, List.set_cons_succ]
        refine rg_take 18 rfl (by kernel_rfl) (by kernel_rfl) (by kernel_rfl) (fun _ _ _ _ h => h) (by rfl) ⟨_, fun w' hx => by (go_simp <;> with_reducible rfl), ?_⟩
        simp only [Act.put, List.setIfInBounds_toArray, List.set_cons_zero, List.set_cons_succ]
        refine rg_take 19 rfl (by kernel_rfl) (by kernel_rfl) (by kernel_rfl) (fun _ _ _ _ h => h) (by rfl) ⟨_, fun w' hx => by (go_simp <;> with_reducible rfl), ?_⟩
        simp only [Act.put, List.setIfInBounds_toArray, List.set_cons_zero, List.set_cons_succ]
        refine rg_done (by kernel_rfl) ?_
        go_wp2
        go_ret
        exact ⟨rfl, hbw.trans ((Ext.tr hx1 (Ext.tr hb4 (Ext.tr hb5 (Ext.tr hb6 (Ext.tr hb7 hb8))))).mono hbw.size)⟩
end Go.Proofs.Ytgjielobfakkmaa
