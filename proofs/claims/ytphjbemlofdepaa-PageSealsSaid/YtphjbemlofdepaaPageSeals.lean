/- The law on sealing, opening and comparing against the document's answer: the walk returns true and changes nothing that was there. Written by wip/tools/gen_seals05.py. -/
import Derived.Test.YtphjbemlofdepaaPageBack
namespace Go.Proofs.Ytphjbemlofdepaa
open Go.RowKit
attribute [local go_sem] Oper.semAt_some

set_option maxRecDepth 100000 in
set_option maxHeartbeats 2000000 in
theorem walkPageSeals (w : World) (p : Pg) (hp : p.In w) (B : Option Addr) (b : List UInt8) (cb : Nat) (hb : RdB w B b) (hcb : b.length ≤ cb) :
    Calls Try.prog 3 #[p.val, .slice B b.length cb] w fun e w' => e = .returned (.bool true) ∧ Below w.heap.size w w' := by
  show Calls Try.prog 3 #[.agg #[.int .i64 p.kind, .int .u64 (p.lsn : Int), .slice p.a p.body.length p.c], .slice B b.length cb] w _
  obtain ⟨W1, hW1⟩ : ∃ W1, W1 = w.alloc (.cells #[.int .i64 p.kind, .int .u64 (p.lsn : Int), .slice p.a p.body.length p.c] 25) := ⟨_, rfl⟩
  have hgp : W1.heap[w.heap.size]? = some (.cells p.cells 25 (0, 0)) := by rw [hW1]; exact heap_alloc_new w _
  have hB1 : Ext w W1 := by rw [hW1]; exact Ext.alloc w _
  have hrp := hp.rd.below hB1
  have hrb := hb.below hB1
  have live : Hid (Calls Try.prog 6 #[] W1 fun e w' => e = .returned (.bool true) ∧ Below W1.heap.size W1 w') := live05 W1
  have HW1 := Lib.hid hW1
  clear hW1
  by_cases h1 : p.body.length ≤ 2000 ∧ b.length ≤ 2000
  · obtain ⟨h1, h2⟩ := h1
    have Hs1 := Lib.hid (seal_any p W1 hp.lsn hrp (by omega))
    have Hs2 := fun W (h : RdB W p.a p.body) => ref_seal p W hp.lsn h (by omega)
    go_enter Try.func3, Try.ntmps3
    go_wp2_with fail
    rw [← HW1.out]
    refine Hs1.out.mono ?_
    rintro e w1 ⟨A1, c1, rfl, ho1, hb1⟩
    have hgp1 := (hb1.block _ (lt_of_heap hgp)).trans hgp
    have hrp1 := hrp.below hb1
    have hrb1 := hrb.below hb1
    obtain ⟨hc0, hc1, hc2⟩ := page_cells hgp1
    clear hgp hrp hrb live Hs1
    go_wp2_with fail
    refine (Hs2 w1 hrp1).mono ?_
    rintro e w2 ⟨A2, c2, rfl, ho2, hb2⟩
    have hgp2 := (hb2.block _ (lt_of_heap hgp1)).trans hgp1
    have hrp2 := hrp1.below hb2
    have hrb2 := hrb1.below hb2
    have ho12 := ho1.below hb2
    have hE2 := Ext.tr hB1 (ext_trans hb1 hb2)
    clear hc0 hc1 hc2 hgp1 hrp1 hrb1 ho1 hb1 hb2
    have hrb2' := hrb2.below (Ext.alloc w2 (.cells #[] 5))
    go_wp2_with (at_builtin; refine wpList_app rfl (.tmp 34) (.tmp 35) 23 rfl elemB w2.heap.size _ 0 0 [] rfl B b.length cb (bvs b) rfl b.length (by omega) (bvs b) rfl (Own.none_ _ _ _ _ _) hrb2' (bvs_one _) (by omega) (by omega) (by simp) ?_; intro A3 c3 w3 ho3 hg3 hr3; have hb3 := below_app (Ext.alloc w2 (.cells #[] 5)) (Own.none_ _ _ 5 1 (some ⟨w2.heap.size, 0, none⟩)) hg3 (by simp); clear hg3 hr3 hrb2')
    refine (open_any A3 b c3 w3 ho3.rd' ho3.nc).mono ?_
    rintro e w4 ⟨⟨k4, l4, a4, d4, c4⟩, rfl, hq4, hr4, hb4⟩
    simp only [Pg.val]
    obtain ⟨W4, hW4⟩ : ∃ W4, W4 = w4.alloc (.cells #[.int .i64 k4, .int .u64 (l4 : Int), .slice a4 d4.length c4] 25) := ⟨_, rfl⟩
    have hB4 : Ext w4 W4 := by rw [hW4]; exact Ext.alloc w4 _
    have hg4 : W4.heap[w4.heap.size]? = some (.cells (Pg.mk k4 l4 a4 d4 c4).cells 25 (0, 0)) := by rw [hW4]; exact heap_alloc_new w4 _
    have hE24 := Ext.tr hb3 (Ext.tr hb4 hB4)
    have hgp4 := (hE24.block _ (lt_of_heap hgp2)).trans hgp2
    have hrp4 := hrp2.below hE24
    have hrb4 := hrb2.below hE24
    have ho14 := ho12.below hE24
    have ho24 := ho2.below hE24
    have hr44 := hr4.below hB4
    have hE4 := Ext.tr hE2 hE24
    have HW4 := Lib.hid hW4
    clear hW4 hgp2 hrp2 hrb2 ho12 ho2 hr4 hE24 hE2 hb3 hb4 hB4 ho3
    go_wp2_with fail
    rw [← HW4.out]
    refine (ref_open B b cb W4 hrb4 hcb).mono ?_
    rintro e w5 ⟨⟨k5, l5, a5, d5, c5⟩, rfl, hq5, hr5, hb5⟩
    simp only [Pg.val]
    obtain ⟨W5, hW5⟩ : ∃ W5, W5 = w5.alloc (.cells #[.int .i64 k5, .int .u64 (l5 : Int), .slice a5 d5.length c5] 25) := ⟨_, rfl⟩
    have hB5 : Ext w5 W5 := by rw [hW5]; exact Ext.alloc w5 _
    have hg5 : W5.heap[w5.heap.size]? = some (.cells (Pg.mk k5 l5 a5 d5 c5).cells 25 (0, 0)) := by rw [hW5]; exact heap_alloc_new w5 _
    have hE45 := Ext.tr hb5 hB5
    have hgp5 := (hE45.block _ (lt_of_heap hgp4)).trans hgp4
    have hg45 := (hE45.block _ (lt_of_heap hg4)).trans hg4
    have hrp5 := hrp4.below hE45
    have ho15 := ho14.below hE45
    have ho25 := ho24.below hE45
    have hr45 := hr44.below hE45
    have hr55 := hr5.below hB5
    have hE5 := Ext.tr hE4 hE45
    have Hst := Lib.hid (Pg.same_two hq4 hq5)
    have HW5 := Lib.hid hW5
    clear hW5 hgp4 hrp4 hrb4 ho14 ho24 hr44 hr5 hE45 hE4 hb5 hB5 hg4 hq4 hq5
    go_wp2_with fail
    rw [← HW5.out]
    clear HW5 HW4
    have Hd5 := Ext.drew W5
    have hgp6 := (Hd5.block _ (lt_of_heap hgp5)).trans hgp5
    have hg46 := (Hd5.block _ (lt_of_heap hg45)).trans hg45
    have hg56 := (Hd5.block _ (lt_of_heap hg5)).trans hg5
    have hrp6 := hrp5.below Hd5
    have hr46 := hr45.below Hd5
    have hr56 := hr55.below Hd5
    have ho16 := ho15.below Hd5
    have ho26 := ho25.below Hd5
    clear hgp5 hg45 hg5 hrp5 hr45 hr55 ho15 ho25
    refine rg_start (by kernel_rfl) ?_
    refine rg_take 0 rfl (by kernel_rfl) (by kernel_rfl) (by kernel_rfl) (fun _ _ _ _ h => h) (by rfl) ⟨_, fun w' hx => by (go_simp <;> with_reducible rfl), ?_⟩
    simp only [Act.put, List.setIfInBounds_toArray, List.set_cons_zero, List.set_cons_succ]
    refine rg_take 1 rfl (by kernel_rfl) (by kernel_rfl) (by kernel_rfl) (fun _ _ _ _ h => h) (by rfl) ⟨_, fun w' hx => ex_convert rfl rfl (run_str w' _ _ 5 A1 p.seal_.1 c1 Try.underlying23 Try.underlying5 Try.underlying9 (ho16.below hx).rd' _ rfl), ?_⟩
    simp only [Act.put, List.setIfInBounds_toArray, List.set_cons_zero, List.set_cons_succ]
    refine rg_take 2 rfl (by kernel_rfl) (by kernel_rfl) (by kernel_rfl) (fun _ _ _ _ h => h) (by rfl) ⟨_, fun w' hx => by (go_simp <;> with_reducible rfl), ?_⟩
    simp only [Act.put, List.setIfInBounds_toArray, List.set_cons_zero, List.set_cons_succ]
    refine rg_take 3 rfl (by kernel_rfl) (by kernel_rfl) (by kernel_rfl) (fun _ _ _ _ h => h) (by rfl) ⟨_, fun w' hx => ex_convert rfl rfl (run_str w' _ _ 5 A2 p.seal_.1 c2 Try.underlying23 Try.underlying5 Try.underlying9 (ho26.below hx).rd' _ rfl), ?_⟩
    simp only [Act.put, List.setIfInBounds_toArray, List.set_cons_zero, List.set_cons_succ]
    refine rg_take 4 rfl (by kernel_rfl) (by kernel_rfl) (by kernel_rfl) (fun _ _ _ _ h => h) (by rfl) ⟨.bool true, fun w' hx => by (go_simp <;> simp), ?_⟩
    simp only [Act.put, List.setIfInBounds_toArray, List.set_cons_zero, List.set_cons_succ]
    refine rg_take 5 rfl (by kernel_rfl) (by kernel_rfl) (by kernel_rfl) (fun _ _ _ _ h => h) (by rfl) ⟨_, fun w' hx => by (go_simp <;> with_reducible rfl), ?_⟩
    simp only [Act.put, List.setIfInBounds_toArray, List.set_cons_zero, List.set_cons_succ]
    refine rg_take 6 rfl (by kernel_rfl) (by kernel_rfl) (by kernel_rfl) (fun _ _ _ _ h => h) (by rfl) ⟨_, fun w' hx => by (go_simp <;> with_reducible rfl), ?_⟩
    simp only [Act.put, List.setIfInBounds_toArray, List.set_cons_zero, List.set_cons_succ]
    refine rg_take 8 rfl (by kernel_rfl) (by kernel_rfl) (by kernel_rfl) (fun _ _ _ _ h => h) (by rfl) ⟨_, fun w' hx => by (go_simp <;> with_reducible rfl), ?_⟩
    simp only [Act.put, List.setIfInBounds_toArray, List.set_cons_zero, List.set_cons_succ]
    refine rg_call 7 (num05 (p.seal_.2 : Int) _) rfl (by kernel_rfl) (by rfl) (by go_simp) ?_
    rintro e w' ⟨rfl, rfl⟩
    refine ⟨_, rfl, Ext.refl _, ?_⟩
    simp only [Act.put, List.setIfInBounds_toArray, List.set_cons_zero, List.set_cons_succ]
    refine rg_take 9 rfl (by kernel_rfl) (by kernel_rfl) (by kernel_rfl) (fun _ _ _ _ h => h) (by rfl) ⟨.bool true, fun w' hx => by (go_simp <;> simp), ?_⟩
    simp only [Act.put, List.setIfInBounds_toArray, List.set_cons_zero, List.set_cons_succ]
    refine rg_take 10 rfl (by kernel_rfl) (by kernel_rfl) (by kernel_rfl) (fun _ _ _ _ h => h) (by rfl) ⟨_, fun w' hx => by (go_simp <;> with_reducible rfl), ?_⟩
    simp only [Act.put, List.setIfInBounds_toArray, List.set_cons_zero, List.set_cons_succ]
    refine rg_take 11 rfl (by kernel_rfl) (by kernel_rfl) (by kernel_rfl) (fun _ _ _ _ h => h) (by rfl) ⟨_, fun w' hx => by (go_simp <;> with_reducible rfl), ?_⟩
    simp only [Act.put, List.setIfInBounds_toArray, List.set_cons_zero, List.set_cons_succ]
    refine rg_take 12 rfl (by kernel_rfl) (by kernel_rfl) (by kernel_rfl) (fun _ _ _ _ h => h) (by rfl) ⟨(Pg.mk k4 l4 a4 d4 c4).val, fun w' hx => ex_load_row 25 _ rfl w4.heap.size rfl 25 _ (0, 0) _ ((hx.block _ (lt_of_heap hg46)).trans hg46) Try.underlying25 rfl (by kernel_rfl), ?_⟩
    simp only [Act.put, List.setIfInBounds_toArray, List.set_cons_zero, List.set_cons_succ]
    refine rg_take 13 rfl (by kernel_rfl) (by kernel_rfl) (by kernel_rfl) (fun _ _ _ _ h => h) (by rfl) ⟨(Pg.mk k5 l5 a5 d5 c5).val, fun w' hx => ex_load_row 25 _ rfl w5.heap.size rfl 25 _ (0, 0) _ ((hx.block _ (lt_of_heap hg56)).trans hg56) Try.underlying25 rfl (by kernel_rfl), ?_⟩
    simp only [Act.put, List.setIfInBounds_toArray, List.set_cons_zero, List.set_cons_succ]
    have hS := ref_same (Pg.mk k4 l4 a4 d4 c4) (Pg.mk k5 l5 a5 d5 c5) W5.drew hr46 hr56
    rw [Hst.out] at hS
    refine rg_call 14 (hS) rfl (by kernel_rfl) (by rfl) (by go_simp) ?_
    rintro e w7 ⟨rfl, hb7⟩
    refine ⟨_, rfl, hb7, ?_⟩
    simp only [Act.put, List.setIfInBounds_toArray, List.set_cons_zero, List.set_cons_succ]
    refine rg_take 15 rfl (by kernel_rfl) (by kernel_rfl) (by kernel_rfl) (fun _ _ _ _ h => h) (by rfl) ⟨_, fun w' hx => by (go_simp <;> with_reducible rfl), ?_⟩
    simp only [Act.put, List.setIfInBounds_toArray, List.set_cons_zero, List.set_cons_succ]
    refine rg_take 16 rfl (by kernel_rfl) (by kernel_rfl) (by kernel_rfl) (fun _ _ _ _ h => h) (by rfl) ⟨_, fun w' hx => by (go_simp <;> with_reducible rfl), ?_⟩
    simp only [Act.put, List.setIfInBounds_toArray, List.set_cons_zero, List.set_cons_succ]
    refine rg_take 17 rfl (by kernel_rfl) (by kernel_rfl) (by kernel_rfl) (fun _ _ _ _ h => h) (by rfl) ⟨_, fun w' hx => by (go_simp <;> with_reducible rfl), ?_⟩
    simp only [Act.put, List.setIfInBounds_toArray, List.set_cons_zero, List.set_cons_succ]
    refine rg_take 19 rfl (by kernel_rfl) (by kernel_rfl) (by kernel_rfl) (fun _ _ _ _ h => h) (by rfl) ⟨_, fun w' hx => by (go_simp <;> with_reducible rfl), ?_⟩
    simp only [Act.put, List.setIfInBounds_toArray, List.set_cons_zero, List.set_cons_succ]
    refine rg_call 18 (num05 (Pg.err b : Nat) _) rfl (by kernel_rfl) (by rfl) (by go_simp) ?_
    rintro e w' ⟨rfl, rfl⟩
    refine ⟨_, rfl, Ext.refl _, ?_⟩
    simp only [Act.put, List.setIfInBounds_toArray, List.set_cons_zero, List.set_cons_succ]
    refine rg_take 20 rfl (by kernel_rfl) (by kernel_rfl) (by kernel_rfl) (fun _ _ _ _ h => h) (by rfl) ⟨.bool true, fun w' hx => by (go_simp <;> simp), ?_⟩
    simp only [Act.put, List.setIfInBounds_toArray, List.set_cons_zero, List.set_cons_succ]
    refine rg_take 21 rfl (by kernel_rfl) (by kernel_rfl) (by kernel_rfl) (fun _ _ _ _ h => h) (by rfl) ⟨_, fun w' hx => by (go_simp <;> with_reducible rfl), ?_⟩
    simp only [Act.put, List.setIfInBounds_toArray, List.set_cons_zero, List.set_cons_succ]
    refine rg_take 22 rfl (by kernel_rfl) (by kernel_rfl) (by kernel_rfl) (fun _ _ _ _ h => h) (by rfl) ⟨_, fun w' hx => by (go_simp <;> with_reducible rfl), ?_⟩
    simp only [Act.put, List.setIfInBounds_toArray, List.set_cons_zero, List.set_cons_succ]
    have hgp7 := (hb7.block _ (lt_of_heap hgp6)).trans hgp6
    have hg47 := (hb7.block _ (lt_of_heap hg46)).trans hg46
    refine rg_take 23 rfl (by kernel_rfl) (by kernel_rfl) (by kernel_rfl) (fun _ _ _ _ h => h) (by rfl) ⟨p.val, fun w' hx => ex_load_row 25 _ rfl w.heap.size rfl 25 _ (0, 0) _ ((hx.block _ (lt_of_heap hgp7)).trans hgp7) Try.underlying25 rfl (by kernel_rfl), ?_⟩
    simp only [Act.put, List.setIfInBounds_toArray, List.set_cons_zero, List.set_cons_succ]
    refine rg_take 24 rfl (by kernel_rfl) (by kernel_rfl) (by kernel_rfl) (fun _ _ _ _ h => h) (by rfl) ⟨(Pg.mk k4 l4 a4 d4 c4).val, fun w' hx => ex_load_row 25 _ rfl w4.heap.size rfl 25 _ (0, 0) _ ((hx.block _ (lt_of_heap hg47)).trans hg47) Try.underlying25 rfl (by kernel_rfl), ?_⟩
    simp only [Act.put, List.setIfInBounds_toArray, List.set_cons_zero, List.set_cons_succ]
    refine rg_take 26 rfl (by kernel_rfl) (by kernel_rfl) (by kernel_rfl) (fun _ _ _ _ h => h) (by rfl) ⟨p.val, fun w' hx => ex_load_row 25 _ rfl w.heap.size rfl 25 _ (0, 0) _ ((hx.block _ (lt_of_heap hgp7)).trans hgp7) Try.underlying25 rfl (by kernel_rfl), ?_⟩
    simp only [Act.put, List.setIfInBounds_toArray, List.set_cons_zero, List.set_cons_succ]
    refine rg_take 27 rfl (by kernel_rfl) (by kernel_rfl) (by kernel_rfl) (fun _ _ _ _ h => h) (by rfl) ⟨(Pg.mk k4 l4 a4 d4 c4).val, fun w' hx => ex_load_row 25 _ rfl w4.heap.size rfl 25 _ (0, 0) _ ((hx.block _ (lt_of_heap hg47)).trans hg47) Try.underlying25 rfl (by kernel_rfl), ?_⟩
    simp only [Act.put, List.setIfInBounds_toArray, List.set_cons_zero, List.set_cons_succ]
    refine rg_call 25 (same_any p (Pg.mk k4 l4 a4 d4 c4) _ (hrp6.below hb7) (hr46.below hb7)) rfl (by kernel_rfl) (by rfl) (by go_simp) ?_
    rintro e w8 ⟨rfl, hb8⟩
    refine ⟨_, rfl, hb8, ?_⟩
    simp only [Act.put, List.setIfInBounds_toArray, List.set_cons_zero, List.set_cons_succ]
    refine rg_call 28 (ref_same p (Pg.mk k4 l4 a4 d4 c4) _ ((hrp6.below hb7).below hb8) ((hr46.below hb7).below hb8)) rfl (by kernel_rfl) (by rfl) (by go_simp) ?_
    rintro e w9 ⟨rfl, hb9⟩
    refine ⟨_, rfl, hb9, ?_⟩
    simp only [Act.put, List.setIfInBounds_toArray, List.set_cons_zero, List.set_cons_succ]
    refine rg_take 29 rfl (by kernel_rfl) (by kernel_rfl) (by kernel_rfl) (fun _ _ _ _ h => h) (by rfl) ⟨.bool true, fun w' hx => by (go_simp <;> simp), ?_⟩
    simp only [Act.put, List.setIfInBounds_toArray, List.set_cons_zero, List.set_cons_succ]
    refine rg_take 30 rfl (by kernel_rfl) (by kernel_rfl) (by kernel_rfl) (fun _ _ _ _ h => h) (by rfl) ⟨_, fun w' hx => by (go_simp <;> with_reducible rfl), ?_⟩
    simp only [Act.put, List.setIfInBounds_toArray, List.set_cons_zero, List.set_cons_succ]
    refine rg_take 31 rfl (by kernel_rfl) (by kernel_rfl) (by kernel_rfl) (fun _ _ _ _ h => h) (by rfl) ⟨_, fun w' hx => by (go_simp <;> with_reducible rfl), ?_⟩
    simp only [Act.put, List.setIfInBounds_toArray, List.set_cons_zero, List.set_cons_succ]
    refine rg_call 32 (live05 _) rfl (by kernel_rfl) (by rfl) (by go_simp) ?_
    rintro e w10 ⟨rfl, hb10⟩
    refine ⟨_, rfl, hb10, ?_⟩
    simp only [Act.put, List.setIfInBounds_toArray, List.set_cons_zero, List.set_cons_succ]
    refine rg_take 33 rfl (by kernel_rfl) (by kernel_rfl) (by kernel_rfl) (fun _ _ _ _ h => h) (by rfl) ⟨_, fun w' hx => by (go_simp <;> with_reducible rfl), ?_⟩
    simp only [Act.put, List.setIfInBounds_toArray, List.set_cons_zero, List.set_cons_succ]
    refine rg_take 34 rfl (by kernel_rfl) (by kernel_rfl) (by kernel_rfl) (fun _ _ _ _ h => h) (by rfl) ⟨_, fun w' hx => by (go_simp <;> with_reducible rfl), ?_⟩
    simp only [Act.put, List.setIfInBounds_toArray, List.set_cons_zero, List.set_cons_succ]
    refine rg_done (by kernel_rfl) ?_
    go_wp2
    go_ret
    exact ⟨rfl, Ext.tr hE5 (Ext.tr Hd5 (Ext.tr hb7 (Ext.tr hb8 (Ext.tr hb9 hb10))))⟩
  · cases e1 : decide ((2000 : Int) < p.body.length) <;> cases e2 : decide ((2000 : Int) < b.length)
    all_goals
      first
        | (exfalso
           simp only [decide_eq_false_iff_not] at e1 e2
           exact h1 ⟨by omega, by omega⟩)
        | (skip
           go_enter Try.func3, Try.ntmps3
           go_wp2_with fail
           rw [← HW1.out]
           refine live.out.mono ?_
           rintro e w6 ⟨rfl, hb6⟩
           go_wp2
           go_ret
           exact ⟨rfl, Ext.tr hB1 hb6⟩)
end Go.Proofs.Ytphjbemlofdepaa
