
/- Contracts: the pieces of a log's sectors (frame.stream), a record at a place (frame.record). Printed by wip/tools/gen_rec14.py. -/

import Derived.Test.YtpabbackiobefaaFrmPut

import Derived.Test.YtpabbackiobefaaClone

namespace Go.Proofs.Ytpabbackiobefaa

open Go.RowKit

attribute [local go_sem] Oper.semAt_some

/-- The plain lists. -/
def bsL (l : List Sl) : List (List UInt8) := l.map Sl.bs
theorem bsL_get (l : List Sl) (i : Nat) (h : i < l.length) : (bsL l)[i]'(by rw [bsL, List.length_map]; exact h) = l[i].bs := by simp [bsL]
theorem bsL_len (l : List Sl) : (bsL l).length = l.length := by simp [bsL]
theorem stmp_l {l : List Sl} {e i : Nat} (h : i < l.length) : Frm.Stmp (bsL l) e i ↔ Frm.stmpB l[i].bs e i = true := by
  rw [Frm.stmp_iff (bsL l) e i (by rw [bsL_len]; exact h), bsL_get l i h]
theorem stmp_parts {s : List UInt8} {e i : Nat} : Frm.stmpB s e i = true ↔ s.length = 64 ∧ (s.take 12 == Frm.stamp e i) = true := by
  unfold Frm.stmpB
  rw [Bool.and_eq_true, beq_iff_eq]

theorem stream_any (A : Option Addr) (n c : Nat) (e a : Int) (w : World) :
    Calls Try.prog 36 #[.slice A n c, .int .u64 e, .int .i64 a] w fun r w' => r = .returned (.func (.func 44) #[] #[.pointer (some ⟨w.heap.size + 2, 0, none⟩), .pointer (some ⟨w.heap.size, 0, none⟩), .pointer (some ⟨w.heap.size + 1, 0, none⟩)]) ∧
      ((w.alloc (.cells #[.slice A n c] 25)).alloc (.cells #[.int .u64 e] 22)).alloc (.cells #[.int .i64 a] 3) = w' := by
  go_enter Try.func36, Try.ntmps36
  go_wp2
  go_ret
  exact ⟨rfl, rfl⟩

/-- The next piece, or none. -/
def NextPost (ga : Nat) (l : List Sl) (e a : Nat) (w : World) (r : Ending) (w' : World) : Prop :=
  (∃ (h : a < l.length) (ad : Addr) (w2 : World), Frm.stmpB l[a].bs e a = true ∧ l[a].a = some ad ∧ r = .returned (.tuple #[.slice (some (ad.add 12)) 52 (l[a].c - 12), .bool true]) ∧ Ext w w2 ∧ w' = w2.setCell ⟨ga, 0, none⟩ (.int .i64 ((a + 1 : Nat) : Int))) ∨
  ((∀ h : a < l.length, Frm.stmpB l[a].bs e a = false) ∧ r = .returned (.tuple #[.slice none 0 0, .bool false]) ∧ Ext w w')

set_option maxRecDepth 100000 in
set_option maxHeartbeats 2000000 in
theorem next_any (gl ge ga : Nat) (A : Option Addr) (l : List Sl) (c e a : Nat) (w : World) (hgl : w.heap[gl]? = some (.cells #[.slice A l.length c] 25 (0, 0))) (hge : w.heap[ge]? = some (.cells #[.int .u64 (e : Int)] 22 (0, 0)))
    (hga : w.heap[ga]? = some (.cells #[.int .i64 (a : Int)] 3 (0, 0))) (hl : RdLc w A l) (ha : a ≤ 2000000) (hne1 : gl ≠ ga) (hne2 : a < l.length → ∀ ad, A = some ad → ad.block ≠ ga) :
    Calls Try.prog 44 #[.pointer (some ⟨ga, 0, none⟩), .pointer (some ⟨gl, 0, none⟩), .pointer (some ⟨ge, 0, none⟩)] w (NextPost ga l e a w) := by
  have q1 : w.drew.cell? ⟨gl, 0, none⟩ = some (.slice A l.length c) := cell_of_row _ _ 0 _ _ _ hgl
  have q2 : w.drew.cell? ⟨ge, 0, none⟩ = some (.int .u64 (e : Int)) := cell_of_row _ _ 0 _ _ _ hge
  have q3 : w.drew.cell? ⟨ga, 0, none⟩ = some (.int .i64 (a : Int)) := cell_of_row _ _ 0 _ _ _ hga
  by_cases h : a < l.length
  · obtain ⟨ad, hA, hcell, hin⟩ := hl.rd.at_ h
    have hnb := hne2 h ad hA
    subst hA
    have k4 := Ext.load (Ext.drew w) hcell
    have hr := hin.below (Ext.drew w)
    have hcap := hl.cap l[a] (List.getElem_mem h)
    have ik : (0 : Int) ≤ (a : Int) := by omega
    have ik2 : (a : Int) < (l.length : Int) := by omega
    have ik3 : ¬ l.length ≤ a := by omega
    obtain ⟨x, hx⟩ : ∃ x, x = l[a] := ⟨_, rfl⟩
    rw [← hx] at k4 hr hcap hcell hin
    have Hx := Lib.hid hx
    by_cases h64 : x.bs.length = 64
    · obtain ⟨sd, hsd, hk0⟩ := hr.at_ (k := 0) (by omega)
      clear hk0
      have hq := stamp_any e a w.drew (by omega)
      have hneq : ((x.bs.length : Int) != 64) = false := by rw [bne_eq_false_iff_eq]; omega
      rw [h64] at k4
      cases hb : (x.bs.take 12 == Frm.stamp e a) with
      | true =>
        have hst : Frm.stmpB x.bs e a = true := stmp_parts.2 ⟨h64, hb⟩
        have HSt := Lib.hid hst
        rw [hsd] at k4 hr
        have Hsd := Lib.hid hsd
        have HH := Lib.hid h
        have Hcell := Lib.hid hcell
        have Hga := Lib.hid hga
        have Hgl := Lib.hid hgl
        have hcc : 64 ≤ x.c := by omega
        have hc12 : (12 : Int) ≤ (x.c : Int) := by omega
        have hne12 : ¬ x.c = 12 := by omega
        clear hx hsd hst hin hcell hga hgl hl
        go_enter Try.func44, Try.ntmps44
        go_wp2_with fail
        refine rg_start (by kernel_rfl) ?_
        refine rg_take 0 rfl (by kernel_rfl) (by kernel_rfl) (by kernel_rfl) (fun _ _ _ _ h => h) (by rfl) ⟨_, fun w' hx => by have hcx := hx.load q3; (go_simp <;> with_reducible rfl), ?_⟩
        simp only [Act.put, List.setIfInBounds_toArray, List.set_cons_zero, List.set_cons_succ]
        refine rg_take 1 rfl (by kernel_rfl) (by kernel_rfl) (by kernel_rfl) (fun _ _ _ _ h => h) (by rfl) ⟨_, fun w' hx => by have hcx := hx.load q1; (go_simp <;> with_reducible rfl), ?_⟩
        simp only [Act.put, List.setIfInBounds_toArray, List.set_cons_zero, List.set_cons_succ]
        refine rg_take 2 rfl (by kernel_rfl) (by kernel_rfl) (by kernel_rfl) (fun _ _ _ _ h => h) (by rfl) ⟨_, fun w' hx => by (go_simp <;> with_reducible rfl), ?_⟩   -- t7 := len(t6)
        simp only [Act.put, List.setIfInBounds_toArray, List.set_cons_zero, List.set_cons_succ]
        refine rg_take 3 rfl (by kernel_rfl) (by kernel_rfl) (by kernel_rfl) (fun _ _ _ _ h => h) (by rfl) ⟨.bool false, fun w' hx => by (go_simp <;> first | with_reducible rfl | omega | (simp; omega)), ?_⟩
        simp only [Act.put, List.setIfInBounds_toArray, List.set_cons_zero, List.set_cons_succ]
        refine rg_take 4 rfl (by kernel_rfl) (by kernel_rfl) (by kernel_rfl) (fun _ _ _ _ h => h) (by rfl) ⟨_, fun w' hx => by (go_simp <;> with_reducible rfl), ?_⟩
        simp only [Act.put, List.setIfInBounds_toArray, List.set_cons_zero, List.set_cons_succ]
        refine rg_take 5 rfl (by kernel_rfl) (by kernel_rfl) (by kernel_rfl) (fun _ _ _ _ h => h) (by rfl) ⟨_, fun w' hx => by have hcx := hx.load q1; (go_simp <;> with_reducible rfl), ?_⟩
        simp only [Act.put, List.setIfInBounds_toArray, List.set_cons_zero, List.set_cons_succ]
        refine rg_take 6 rfl (by kernel_rfl) (by kernel_rfl) (by kernel_rfl) (fun _ _ _ _ h => h) (by rfl) ⟨_, fun w' hx => by have hcx := hx.load q3; (go_simp <;> with_reducible rfl), ?_⟩
        simp only [Act.put, List.setIfInBounds_toArray, List.set_cons_zero, List.set_cons_succ]
        refine rg_take 7 rfl (by kernel_rfl) (by kernel_rfl) (by kernel_rfl) (fun _ _ _ _ h => h) (by rfl) ⟨_, fun w' hx => by (go_simp <;> with_reducible rfl), ?_⟩   -- t12 := indexAddr 25 t10 t11
        simp only [Act.put, List.setIfInBounds_toArray, List.set_cons_zero, List.set_cons_succ]
        refine rg_take 8 rfl (by kernel_rfl) (by kernel_rfl) (by kernel_rfl) (fun _ _ _ _ h => h) (by rfl) ⟨_, fun w' hx => by have hcx := hx.load k4; (go_simp <;> with_reducible rfl), ?_⟩
        simp only [Act.put, List.setIfInBounds_toArray, List.set_cons_zero, List.set_cons_succ]
        refine rg_take 9 rfl (by kernel_rfl) (by kernel_rfl) (by kernel_rfl) (fun _ _ _ _ h => h) (by rfl) ⟨_, fun w' hx => by (go_simp <;> with_reducible rfl), ?_⟩   -- t14 := len(t13)
        simp only [Act.put, List.setIfInBounds_toArray, List.set_cons_zero, List.set_cons_succ]
        refine rg_take 10 rfl (by kernel_rfl) (by kernel_rfl) (by kernel_rfl) (fun _ _ _ _ h => h) (by rfl) ⟨.bool false, fun w' hx => by (go_simp <;> first | with_reducible rfl | omega | (simp; omega)), ?_⟩
        simp only [Act.put, List.setIfInBounds_toArray, List.set_cons_zero, List.set_cons_succ]
        refine rg_take 11 rfl (by kernel_rfl) (by kernel_rfl) (by kernel_rfl) (fun _ _ _ _ h => h) (by rfl) ⟨_, fun w' hx => by (go_simp <;> with_reducible rfl), ?_⟩
        simp only [Act.put, List.setIfInBounds_toArray, List.set_cons_zero, List.set_cons_succ]
        refine rg_take 12 rfl (by kernel_rfl) (by kernel_rfl) (by kernel_rfl) (fun _ _ _ _ h => h) (by rfl) ⟨_, fun w' hx => by (go_simp <;> with_reducible rfl), ?_⟩
        simp only [Act.put, List.setIfInBounds_toArray, List.set_cons_zero, List.set_cons_succ]
        refine rg_take 13 rfl (by kernel_rfl) (by kernel_rfl) (by kernel_rfl) (fun _ _ _ _ h => h) (by rfl) ⟨_, fun w' hx => by have hcx := hx.load q1; (go_simp <;> with_reducible rfl), ?_⟩
        simp only [Act.put, List.setIfInBounds_toArray, List.set_cons_zero, List.set_cons_succ]
        refine rg_take 14 rfl (by kernel_rfl) (by kernel_rfl) (by kernel_rfl) (fun _ _ _ _ h => h) (by rfl) ⟨_, fun w' hx => by have hcx := hx.load q3; (go_simp <;> with_reducible rfl), ?_⟩
        simp only [Act.put, List.setIfInBounds_toArray, List.set_cons_zero, List.set_cons_succ]
        refine rg_take 15 rfl (by kernel_rfl) (by kernel_rfl) (by kernel_rfl) (fun _ _ _ _ h => h) (by rfl) ⟨_, fun w' hx => by (go_simp <;> with_reducible rfl), ?_⟩   -- t20 := indexAddr 25 t18 t19
        simp only [Act.put, List.setIfInBounds_toArray, List.set_cons_zero, List.set_cons_succ]
        refine rg_take 16 rfl (by kernel_rfl) (by kernel_rfl) (by kernel_rfl) (fun _ _ _ _ h => h) (by rfl) ⟨_, fun w' hx => by have hcx := hx.load k4; (go_simp <;> with_reducible rfl), ?_⟩
        simp only [Act.put, List.setIfInBounds_toArray, List.set_cons_zero, List.set_cons_succ]
        refine rg_take 17 rfl (by kernel_rfl) (by kernel_rfl) (by kernel_rfl) (fun _ _ _ _ h => h) (by rfl) ⟨_, fun w' hx => by have hcx := hx.load q2; (go_simp <;> with_reducible rfl), ?_⟩
        simp only [Act.put, List.setIfInBounds_toArray, List.set_cons_zero, List.set_cons_succ]
        refine rg_take 18 rfl (by kernel_rfl) (by kernel_rfl) (by kernel_rfl) (fun _ _ _ _ h => h) (by rfl) ⟨_, fun w' hx => by have hcx := hx.load q3; (go_simp <;> with_reducible rfl), ?_⟩
        simp only [Act.put, List.setIfInBounds_toArray, List.set_cons_zero, List.set_cons_succ]
        refine rg_call 19 hq rfl (by kernel_rfl) (by rfl) (by go_simp) ?_
        rintro r w1 ⟨A1, c1, rfl, ho1, hb1⟩
        refine ⟨_, rfl, hb1, ?_⟩
        have hp := prefix_any _ A1 x.bs (Frm.stamp e a) x.c c1 w1 (hr.below hb1) (ho1.rd' (bs := Frm.stamp e a)) (by omega) (Frm.stamp_len e a) h64
        rw [hb] at hp
        simp only [Act.put, List.setIfInBounds_toArray, List.set_cons_zero, List.set_cons_succ]
        refine rg_call 20 hp rfl (by kernel_rfl) (by rfl) (by go_simp) ?_
        rintro r w9 ⟨rfl, rfl⟩
        refine ⟨_, rfl, Ext.refl _, ?_⟩
        simp only [Act.put, List.setIfInBounds_toArray, List.set_cons_zero, List.set_cons_succ]
        refine rg_take 21 rfl (by kernel_rfl) (by kernel_rfl) (by kernel_rfl) (fun _ _ _ _ h => h) (by rfl) ⟨_, fun w' hx => by (go_simp <;> with_reducible rfl), ?_⟩   -- t26 := unOp not 4 t25
        simp only [Act.put, List.setIfInBounds_toArray, List.set_cons_zero, List.set_cons_succ]
        refine rg_take 22 rfl (by kernel_rfl) (by kernel_rfl) (by kernel_rfl) (fun _ _ _ _ h => h) (by rfl) ⟨_, fun w' hx => by (go_simp <;> with_reducible rfl), ?_⟩
        simp only [Act.put, List.setIfInBounds_toArray, List.set_cons_zero, List.set_cons_succ]
        refine rg_done (by kernel_rfl) ?_
        have hE := Ext.tr (Ext.drew w) hb1
        have z1 : w1.cell? ⟨ga, 0, none⟩ = some (.int .i64 (a : Int)) := Ext.load hb1 q3
        have hga1 : w1.heap[ga]? = some (.cells #[.int .i64 (a : Int)] 3 (0, 0)) := (hE.block _ (lt_of_heap Hga.out)).trans Hga.out
        have z2 : w1.frozen? ⟨ga, 0, none⟩ = false := frozen_of_row _ _ 0 _ _ hga1
        have hgl2 : (w1.setCell ⟨ga, 0, none⟩ (.int .i64 ((a : Int) + 1))).heap[gl]? = some (.cells #[.slice (some ad) l.length c] 25 (0, 0)) := (Below.heap_setCell _ _ _ _ (by simpa using hne1)).trans ((hE.block _ (lt_of_heap Hgl.out)).trans Hgl.out)
        have z3 : (w1.setCell ⟨ga, 0, none⟩ (.int .i64 ((a : Int) + 1))).cell? ⟨gl, 0, none⟩ = some (.slice (some ad) l.length c) := cell_of_row _ _ 0 _ _ _ hgl2
        have hga2 := heap_setCell_same w1 ga 0 _ _ (.int .i64 ((a : Int) + 1)) hga1
        have z4 : (w1.setCell ⟨ga, 0, none⟩ (.int .i64 ((a : Int) + 1))).cell? ⟨ga, 0, none⟩ = some (.int .i64 ((a : Int) + 1)) := by
          have := cell_of_row _ ga 0 _ _ _ hga2
          simpa using this
        have z5 : (w1.setCell ⟨ga, 0, none⟩ (.int .i64 ((a : Int) + 1))).cell? (ad.add a) = some (.slice (some sd) 64 x.c) := (grownSet w1 ⟨ga, 0, none⟩ (.int .i64 ((a : Int) + 1))).cell (Ext.load hb1 k4) (by rw [add_block]; intro er; injection er with er; exact hnb er)
        clear ho1 hga1 hgl2 hga2 hp hq k4 q1 q2 q3 hr hne2
        go_wp2
        go_ret2
        exact .inl ⟨HH.out, sd, w1, by rw [← Hx.out]; exact HSt.out, by rw [← Hx.out]; exact Hsd.out, by rw [← Hx.out]; rfl, hE, by rw [Int.natCast_add]; rfl⟩
      | false =>
        have hst : Frm.stmpB x.bs e a = false := by
          cases hq' : Frm.stmpB x.bs e a with
          | false => rfl
          | true => rw [(stmp_parts.1 hq').2] at hb; cases hb
        have HSt : Hid (∀ h : a < l.length, Frm.stmpB l[a].bs e a = false) := fun _ => by rw [← Hx.out]; exact hst
        rw [hsd] at k4 hr
        have hcc : 64 ≤ x.c := by omega
        clear hx hsd hst hin hcell hl
        go_enter Try.func44, Try.ntmps44
        go_wp2_with fail
        refine rg_start (by kernel_rfl) ?_
        refine rg_take 0 rfl (by kernel_rfl) (by kernel_rfl) (by kernel_rfl) (fun _ _ _ _ h => h) (by rfl) ⟨_, fun w' hx => by have hcx := hx.load q3; (go_simp <;> with_reducible rfl), ?_⟩
        simp only [Act.put, List.setIfInBounds_toArray, List.set_cons_zero, List.set_cons_succ]
        refine rg_take 1 rfl (by kernel_rfl) (by kernel_rfl) (by kernel_rfl) (fun _ _ _ _ h => h) (by rfl) ⟨_, fun w' hx => by have hcx := hx.load q1; (go_simp <;> with_reducible rfl), ?_⟩
        simp only [Act.put, List.setIfInBounds_toArray, List.set_cons_zero, List.set_cons_succ]
        refine rg_take 2 rfl (by kernel_rfl) (by kernel_rfl) (by kernel_rfl) (fun _ _ _ _ h => h) (by rfl) ⟨_, fun w' hx => by (go_simp <;> with_reducible rfl), ?_⟩   -- t7 := len(t6)
        simp only [Act.put, List.setIfInBounds_toArray, List.set_cons_zero, List.set_cons_succ]
        refine rg_take 3 rfl (by kernel_rfl) (by kernel_rfl) (by kernel_rfl) (fun _ _ _ _ h => h) (by rfl) ⟨.bool false, fun w' hx => by (go_simp <;> first | with_reducible rfl | omega | (simp; omega)), ?_⟩
        simp only [Act.put, List.setIfInBounds_toArray, List.set_cons_zero, List.set_cons_succ]
        refine rg_take 4 rfl (by kernel_rfl) (by kernel_rfl) (by kernel_rfl) (fun _ _ _ _ h => h) (by rfl) ⟨_, fun w' hx => by (go_simp <;> with_reducible rfl), ?_⟩
        simp only [Act.put, List.setIfInBounds_toArray, List.set_cons_zero, List.set_cons_succ]
        refine rg_take 5 rfl (by kernel_rfl) (by kernel_rfl) (by kernel_rfl) (fun _ _ _ _ h => h) (by rfl) ⟨_, fun w' hx => by have hcx := hx.load q1; (go_simp <;> with_reducible rfl), ?_⟩
        simp only [Act.put, List.setIfInBounds_toArray, List.set_cons_zero, List.set_cons_succ]
        refine rg_take 6 rfl (by kernel_rfl) (by kernel_rfl) (by kernel_rfl) (fun _ _ _ _ h => h) (by rfl) ⟨_, fun w' hx => by have hcx := hx.load q3; (go_simp <;> with_reducible rfl), ?_⟩
        simp only [Act.put, List.setIfInBounds_toArray, List.set_cons_zero, List.set_cons_succ]
        refine rg_take 7 rfl (by kernel_rfl) (by kernel_rfl) (by kernel_rfl) (fun _ _ _ _ h => h) (by rfl) ⟨_, fun w' hx => by (go_simp <;> with_reducible rfl), ?_⟩   -- t12 := indexAddr 25 t10 t11
        simp only [Act.put, List.setIfInBounds_toArray, List.set_cons_zero, List.set_cons_succ]
        refine rg_take 8 rfl (by kernel_rfl) (by kernel_rfl) (by kernel_rfl) (fun _ _ _ _ h => h) (by rfl) ⟨_, fun w' hx => by have hcx := hx.load k4; (go_simp <;> with_reducible rfl), ?_⟩
        simp only [Act.put, List.setIfInBounds_toArray, List.set_cons_zero, List.set_cons_succ]
        refine rg_take 9 rfl (by kernel_rfl) (by kernel_rfl) (by kernel_rfl) (fun _ _ _ _ h => h) (by rfl) ⟨_, fun w' hx => by (go_simp <;> with_reducible rfl), ?_⟩   -- t14 := len(t13)
        simp only [Act.put, List.setIfInBounds_toArray, List.set_cons_zero, List.set_cons_succ]
        refine rg_take 10 rfl (by kernel_rfl) (by kernel_rfl) (by kernel_rfl) (fun _ _ _ _ h => h) (by rfl) ⟨.bool false, fun w' hx => by (go_simp <;> first | with_reducible rfl | omega | (simp; omega)), ?_⟩
        simp only [Act.put, List.setIfInBounds_toArray, List.set_cons_zero, List.set_cons_succ]
        refine rg_take 11 rfl (by kernel_rfl) (by kernel_rfl) (by kernel_rfl) (fun _ _ _ _ h => h) (by rfl) ⟨_, fun w' hx => by (go_simp <;> with_reducible rfl), ?_⟩
        simp only [Act.put, List.setIfInBounds_toArray, List.set_cons_zero, List.set_cons_succ]
        refine rg_take 12 rfl (by kernel_rfl) (by kernel_rfl) (by kernel_rfl) (fun _ _ _ _ h => h) (by rfl) ⟨_, fun w' hx => by (go_simp <;> with_reducible rfl), ?_⟩
        simp only [Act.put, List.setIfInBounds_toArray, List.set_cons_zero, List.set_cons_succ]
        refine rg_take 13 rfl (by kernel_rfl) (by kernel_rfl) (by kernel_rfl) (fun _ _ _ _ h => h) (by rfl) ⟨_, fun w' hx => by have hcx := hx.load q1; (go_simp <;> with_reducible rfl), ?_⟩
        simp only [Act.put, List.setIfInBounds_toArray, List.set_cons_zero, List.set_cons_succ]
        refine rg_take 14 rfl (by kernel_rfl) (by kernel_rfl) (by kernel_rfl) (fun _ _ _ _ h => h) (by rfl) ⟨_, fun w' hx => by have hcx := hx.load q3; (go_simp <;> with_reducible rfl), ?_⟩
        simp only [Act.put, List.setIfInBounds_toArray, List.set_cons_zero, List.set_cons_succ]
        refine rg_take 15 rfl (by kernel_rfl) (by kernel_rfl) (by kernel_rfl) (fun _ _ _ _ h => h) (by rfl) ⟨_, fun w' hx => by (go_simp <;> with_reducible rfl), ?_⟩   -- t20 := indexAddr 25 t18 t19
        simp only [Act.put, List.setIfInBounds_toArray, List.set_cons_zero, List.set_cons_succ]
        refine rg_take 16 rfl (by kernel_rfl) (by kernel_rfl) (by kernel_rfl) (fun _ _ _ _ h => h) (by rfl) ⟨_, fun w' hx => by have hcx := hx.load k4; (go_simp <;> with_reducible rfl), ?_⟩
        simp only [Act.put, List.setIfInBounds_toArray, List.set_cons_zero, List.set_cons_succ]
        refine rg_take 17 rfl (by kernel_rfl) (by kernel_rfl) (by kernel_rfl) (fun _ _ _ _ h => h) (by rfl) ⟨_, fun w' hx => by have hcx := hx.load q2; (go_simp <;> with_reducible rfl), ?_⟩
        simp only [Act.put, List.setIfInBounds_toArray, List.set_cons_zero, List.set_cons_succ]
        refine rg_take 18 rfl (by kernel_rfl) (by kernel_rfl) (by kernel_rfl) (fun _ _ _ _ h => h) (by rfl) ⟨_, fun w' hx => by have hcx := hx.load q3; (go_simp <;> with_reducible rfl), ?_⟩
        simp only [Act.put, List.setIfInBounds_toArray, List.set_cons_zero, List.set_cons_succ]
        refine rg_call 19 hq rfl (by kernel_rfl) (by rfl) (by go_simp) ?_
        rintro r w1 ⟨A1, c1, rfl, ho1, hb1⟩
        refine ⟨_, rfl, hb1, ?_⟩
        have hp := prefix_any _ A1 x.bs (Frm.stamp e a) x.c c1 w1 (hr.below hb1) (ho1.rd' (bs := Frm.stamp e a)) (by omega) (Frm.stamp_len e a) h64
        rw [hb] at hp
        simp only [Act.put, List.setIfInBounds_toArray, List.set_cons_zero, List.set_cons_succ]
        refine rg_call 20 hp rfl (by kernel_rfl) (by rfl) (by go_simp) ?_
        rintro r w9 ⟨rfl, rfl⟩
        refine ⟨_, rfl, Ext.refl _, ?_⟩
        simp only [Act.put, List.setIfInBounds_toArray, List.set_cons_zero, List.set_cons_succ]
        refine rg_take 21 rfl (by kernel_rfl) (by kernel_rfl) (by kernel_rfl) (fun _ _ _ _ h => h) (by rfl) ⟨_, fun w' hx => by (go_simp <;> with_reducible rfl), ?_⟩   -- t26 := unOp not 4 t25
        simp only [Act.put, List.setIfInBounds_toArray, List.set_cons_zero, List.set_cons_succ]
        refine rg_take 22 rfl (by kernel_rfl) (by kernel_rfl) (by kernel_rfl) (fun _ _ _ _ h => h) (by rfl) ⟨_, fun w' hx => by (go_simp <;> with_reducible rfl), ?_⟩
        simp only [Act.put, List.setIfInBounds_toArray, List.set_cons_zero, List.set_cons_succ]
        refine rg_done (by kernel_rfl) ?_
        have hE := Ext.tr (Ext.drew w) hb1
        clear ho1 hp hq k4 q1 q2 q3 hr hne2 hga hgl hge
        go_wp2
        go_ret2
        exact .inr ⟨HSt.out, rfl, hE⟩
    · have HSt : Hid (∀ h : a < l.length, Frm.stmpB l[a].bs e a = false) := fun _ => by
        rw [← Hx.out]
        cases hq' : Frm.stmpB x.bs e a with
        | false => rfl
        | true => exact absurd (stmp_parts.1 hq').1 h64
      have hneq : ((x.bs.length : Int) != 64) = true := by rw [bne_iff_ne]; omega
      clear hx hin hcell hl h64
      go_enter Try.func44, Try.ntmps44
      go_wp2_with fail
      refine rg_start (by kernel_rfl) ?_
      refine rg_take 0 rfl (by kernel_rfl) (by kernel_rfl) (by kernel_rfl) (fun _ _ _ _ h => h) (by rfl) ⟨_, fun w' hx => by have hcx := hx.load q3; (go_simp <;> with_reducible rfl), ?_⟩
      simp only [Act.put, List.setIfInBounds_toArray, List.set_cons_zero, List.set_cons_succ]
      refine rg_take 1 rfl (by kernel_rfl) (by kernel_rfl) (by kernel_rfl) (fun _ _ _ _ h => h) (by rfl) ⟨_, fun w' hx => by have hcx := hx.load q1; (go_simp <;> with_reducible rfl), ?_⟩
      simp only [Act.put, List.setIfInBounds_toArray, List.set_cons_zero, List.set_cons_succ]
      refine rg_take 2 rfl (by kernel_rfl) (by kernel_rfl) (by kernel_rfl) (fun _ _ _ _ h => h) (by rfl) ⟨_, fun w' hx => by (go_simp <;> with_reducible rfl), ?_⟩   -- t7 := len(t6)
      simp only [Act.put, List.setIfInBounds_toArray, List.set_cons_zero, List.set_cons_succ]
      refine rg_take 3 rfl (by kernel_rfl) (by kernel_rfl) (by kernel_rfl) (fun _ _ _ _ h => h) (by rfl) ⟨.bool false, fun w' hx => by (go_simp <;> first | with_reducible rfl | omega | (simp; omega)), ?_⟩
      simp only [Act.put, List.setIfInBounds_toArray, List.set_cons_zero, List.set_cons_succ]
      refine rg_take 4 rfl (by kernel_rfl) (by kernel_rfl) (by kernel_rfl) (fun _ _ _ _ h => h) (by rfl) ⟨_, fun w' hx => by (go_simp <;> with_reducible rfl), ?_⟩
      simp only [Act.put, List.setIfInBounds_toArray, List.set_cons_zero, List.set_cons_succ]
      refine rg_take 5 rfl (by kernel_rfl) (by kernel_rfl) (by kernel_rfl) (fun _ _ _ _ h => h) (by rfl) ⟨_, fun w' hx => by have hcx := hx.load q1; (go_simp <;> with_reducible rfl), ?_⟩
      simp only [Act.put, List.setIfInBounds_toArray, List.set_cons_zero, List.set_cons_succ]
      refine rg_take 6 rfl (by kernel_rfl) (by kernel_rfl) (by kernel_rfl) (fun _ _ _ _ h => h) (by rfl) ⟨_, fun w' hx => by have hcx := hx.load q3; (go_simp <;> with_reducible rfl), ?_⟩
      simp only [Act.put, List.setIfInBounds_toArray, List.set_cons_zero, List.set_cons_succ]
      refine rg_take 7 rfl (by kernel_rfl) (by kernel_rfl) (by kernel_rfl) (fun _ _ _ _ h => h) (by rfl) ⟨_, fun w' hx => by (go_simp <;> with_reducible rfl), ?_⟩   -- t12 := indexAddr 25 t10 t11
      simp only [Act.put, List.setIfInBounds_toArray, List.set_cons_zero, List.set_cons_succ]
      refine rg_take 8 rfl (by kernel_rfl) (by kernel_rfl) (by kernel_rfl) (fun _ _ _ _ h => h) (by rfl) ⟨_, fun w' hx => by have hcx := hx.load k4; (go_simp <;> with_reducible rfl), ?_⟩
      simp only [Act.put, List.setIfInBounds_toArray, List.set_cons_zero, List.set_cons_succ]
      refine rg_take 9 rfl (by kernel_rfl) (by kernel_rfl) (by kernel_rfl) (fun _ _ _ _ h => h) (by rfl) ⟨_, fun w' hx => by (go_simp <;> with_reducible rfl), ?_⟩   -- t14 := len(t13)
      simp only [Act.put, List.setIfInBounds_toArray, List.set_cons_zero, List.set_cons_succ]
      refine rg_take 10 rfl (by kernel_rfl) (by kernel_rfl) (by kernel_rfl) (fun _ _ _ _ h => h) (by rfl) ⟨.bool true, fun w' hx => by (go_simp <;> first | with_reducible rfl | omega | (simp; omega)), ?_⟩
      simp only [Act.put, List.setIfInBounds_toArray, List.set_cons_zero, List.set_cons_succ]
      refine rg_take 11 rfl (by kernel_rfl) (by kernel_rfl) (by kernel_rfl) (fun _ _ _ _ h => h) (by rfl) ⟨_, fun w' hx => by (go_simp <;> with_reducible rfl), ?_⟩
      simp only [Act.put, List.setIfInBounds_toArray, List.set_cons_zero, List.set_cons_succ]
      refine rg_take 12 rfl (by kernel_rfl) (by kernel_rfl) (by kernel_rfl) (fun _ _ _ _ h => h) (by rfl) ⟨_, fun w' hx => by (go_simp <;> with_reducible rfl), ?_⟩
      simp only [Act.put, List.setIfInBounds_toArray, List.set_cons_zero, List.set_cons_succ]
      refine rg_skip 13 rfl (by kernel_rfl) (by kernel_rfl) (by kernel_rfl) (fun _ _ _ _ h => h) (by rfl) ?_
      simp only [Act.put, List.setIfInBounds_toArray, List.set_cons_zero, List.set_cons_succ]
      refine rg_skip 14 rfl (by kernel_rfl) (by kernel_rfl) (by kernel_rfl) (fun _ _ _ _ h => h) (by rfl) ?_
      simp only [Act.put, List.setIfInBounds_toArray, List.set_cons_zero, List.set_cons_succ]
      refine rg_skip 15 rfl (by kernel_rfl) (by kernel_rfl) (by kernel_rfl) (fun _ _ _ _ h => h) (by rfl) ?_
      simp only [Act.put, List.setIfInBounds_toArray, List.set_cons_zero, List.set_cons_succ]
      refine rg_skip 16 rfl (by kernel_rfl) (by kernel_rfl) (by kernel_rfl) (fun _ _ _ _ h => h) (by rfl) ?_
      simp only [Act.put, List.setIfInBounds_toArray, List.set_cons_zero, List.set_cons_succ]
      refine rg_skip 17 rfl (by kernel_rfl) (by kernel_rfl) (by kernel_rfl) (fun _ _ _ _ h => h) (by rfl) ?_
      simp only [Act.put, List.setIfInBounds_toArray, List.set_cons_zero, List.set_cons_succ]
      refine rg_skip 18 rfl (by kernel_rfl) (by kernel_rfl) (by kernel_rfl) (fun _ _ _ _ h => h) (by rfl) ?_
      simp only [Act.put, List.setIfInBounds_toArray, List.set_cons_zero, List.set_cons_succ]
      refine rg_skip 19 rfl (by kernel_rfl) (by kernel_rfl) (by kernel_rfl) (fun _ _ _ _ h => h) (by rfl) ?_
      simp only [Act.put, List.setIfInBounds_toArray, List.set_cons_zero, List.set_cons_succ]
      refine rg_skip 20 rfl (by kernel_rfl) (by kernel_rfl) (by kernel_rfl) (fun _ _ _ _ h => h) (by rfl) ?_
      simp only [Act.put, List.setIfInBounds_toArray, List.set_cons_zero, List.set_cons_succ]
      refine rg_skip 21 rfl (by kernel_rfl) (by kernel_rfl) (by kernel_rfl) (fun _ _ _ _ h => h) (by rfl) ?_
      simp only [Act.put, List.setIfInBounds_toArray, List.set_cons_zero, List.set_cons_succ]
      refine rg_take 22 rfl (by kernel_rfl) (by kernel_rfl) (by kernel_rfl) (fun _ _ _ _ h => h) (by rfl) ⟨_, fun w' hx => by (go_simp <;> with_reducible rfl), ?_⟩
      simp only [Act.put, List.setIfInBounds_toArray, List.set_cons_zero, List.set_cons_succ]
      refine rg_done (by kernel_rfl) ?_
      clear k4 q1 q2 q3 hr hne2 hga hgl hge
      go_wp2
      go_ret2
      exact .inr ⟨HSt.out, rfl, Ext.drew w⟩
  · have HSt : Hid (∀ h : a < l.length, Frm.stmpB l[a].bs e a = false) := fun h' => absurd h' h
    have ik3 : l.length ≤ a := by omega
    go_enter Try.func44, Try.ntmps44
    go_wp2_with fail
    refine rg_start (by kernel_rfl) ?_
    refine rg_take 0 rfl (by kernel_rfl) (by kernel_rfl) (by kernel_rfl) (fun _ _ _ _ h => h) (by rfl) ⟨_, fun w' hx => by have hcx := hx.load q3; (go_simp <;> with_reducible rfl), ?_⟩
    simp only [Act.put, List.setIfInBounds_toArray, List.set_cons_zero, List.set_cons_succ]
    refine rg_take 1 rfl (by kernel_rfl) (by kernel_rfl) (by kernel_rfl) (fun _ _ _ _ h => h) (by rfl) ⟨_, fun w' hx => by have hcx := hx.load q1; (go_simp <;> with_reducible rfl), ?_⟩
    simp only [Act.put, List.setIfInBounds_toArray, List.set_cons_zero, List.set_cons_succ]
    refine rg_take 2 rfl (by kernel_rfl) (by kernel_rfl) (by kernel_rfl) (fun _ _ _ _ h => h) (by rfl) ⟨_, fun w' hx => by (go_simp <;> with_reducible rfl), ?_⟩   -- t7 := len(t6)
    simp only [Act.put, List.setIfInBounds_toArray, List.set_cons_zero, List.set_cons_succ]
    refine rg_take 3 rfl (by kernel_rfl) (by kernel_rfl) (by kernel_rfl) (fun _ _ _ _ h => h) (by rfl) ⟨.bool true, fun w' hx => by (go_simp <;> first | with_reducible rfl | omega | (simp; omega)), ?_⟩
    simp only [Act.put, List.setIfInBounds_toArray, List.set_cons_zero, List.set_cons_succ]
    refine rg_take 4 rfl (by kernel_rfl) (by kernel_rfl) (by kernel_rfl) (fun _ _ _ _ h => h) (by rfl) ⟨_, fun w' hx => by (go_simp <;> with_reducible rfl), ?_⟩
    simp only [Act.put, List.setIfInBounds_toArray, List.set_cons_zero, List.set_cons_succ]
    refine rg_skip 5 rfl (by kernel_rfl) (by kernel_rfl) (by kernel_rfl) (fun _ _ _ _ h => h) (by rfl) ?_
    simp only [Act.put, List.setIfInBounds_toArray, List.set_cons_zero, List.set_cons_succ]
    refine rg_skip 6 rfl (by kernel_rfl) (by kernel_rfl) (by kernel_rfl) (fun _ _ _ _ h => h) (by rfl) ?_
    simp only [Act.put, List.setIfInBounds_toArray, List.set_cons_zero, List.set_cons_succ]
    refine rg_skip 7 rfl (by kernel_rfl) (by kernel_rfl) (by kernel_rfl) (fun _ _ _ _ h => h) (by rfl) ?_
    simp only [Act.put, List.setIfInBounds_toArray, List.set_cons_zero, List.set_cons_succ]
    refine rg_skip 8 rfl (by kernel_rfl) (by kernel_rfl) (by kernel_rfl) (fun _ _ _ _ h => h) (by rfl) ?_
    simp only [Act.put, List.setIfInBounds_toArray, List.set_cons_zero, List.set_cons_succ]
    refine rg_skip 9 rfl (by kernel_rfl) (by kernel_rfl) (by kernel_rfl) (fun _ _ _ _ h => h) (by rfl) ?_
    simp only [Act.put, List.setIfInBounds_toArray, List.set_cons_zero, List.set_cons_succ]
    refine rg_skip 10 rfl (by kernel_rfl) (by kernel_rfl) (by kernel_rfl) (fun _ _ _ _ h => h) (by rfl) ?_
    simp only [Act.put, List.setIfInBounds_toArray, List.set_cons_zero, List.set_cons_succ]
    refine rg_take 11 rfl (by kernel_rfl) (by kernel_rfl) (by kernel_rfl) (fun _ _ _ _ h => h) (by rfl) ⟨_, fun w' hx => by (go_simp <;> with_reducible rfl), ?_⟩
    simp only [Act.put, List.setIfInBounds_toArray, List.set_cons_zero, List.set_cons_succ]
    refine rg_take 12 rfl (by kernel_rfl) (by kernel_rfl) (by kernel_rfl) (fun _ _ _ _ h => h) (by rfl) ⟨_, fun w' hx => by (go_simp <;> with_reducible rfl), ?_⟩
    simp only [Act.put, List.setIfInBounds_toArray, List.set_cons_zero, List.set_cons_succ]
    refine rg_skip 13 rfl (by kernel_rfl) (by kernel_rfl) (by kernel_rfl) (fun _ _ _ _ h => h) (by rfl) ?_
    simp only [Act.put, List.setIfInBounds_toArray, List.set_cons_zero, List.set_cons_succ]
    refine rg_skip 14 rfl (by kernel_rfl) (by kernel_rfl) (by kernel_rfl) (fun _ _ _ _ h => h) (by rfl) ?_
    simp only [Act.put, List.setIfInBounds_toArray, List.set_cons_zero, List.set_cons_succ]
    refine rg_skip 15 rfl (by kernel_rfl) (by kernel_rfl) (by kernel_rfl) (fun _ _ _ _ h => h) (by rfl) ?_
    simp only [Act.put, List.setIfInBounds_toArray, List.set_cons_zero, List.set_cons_succ]
    refine rg_skip 16 rfl (by kernel_rfl) (by kernel_rfl) (by kernel_rfl) (fun _ _ _ _ h => h) (by rfl) ?_
    simp only [Act.put, List.setIfInBounds_toArray, List.set_cons_zero, List.set_cons_succ]
    refine rg_skip 17 rfl (by kernel_rfl) (by kernel_rfl) (by kernel_rfl) (fun _ _ _ _ h => h) (by rfl) ?_
    simp only [Act.put, List.setIfInBounds_toArray, List.set_cons_zero, List.set_cons_succ]
    refine rg_skip 18 rfl (by kernel_rfl) (by kernel_rfl) (by kernel_rfl) (fun _ _ _ _ h => h) (by rfl) ?_
    simp only [Act.put, List.setIfInBounds_toArray, List.set_cons_zero, List.set_cons_succ]
    refine rg_skip 19 rfl (by kernel_rfl) (by kernel_rfl) (by kernel_rfl) (fun _ _ _ _ h => h) (by rfl) ?_
    simp only [Act.put, List.setIfInBounds_toArray, List.set_cons_zero, List.set_cons_succ]
    refine rg_skip 20 rfl (by kernel_rfl) (by kernel_rfl) (by kernel_rfl) (fun _ _ _ _ h => h) (by rfl) ?_
    simp only [Act.put, List.setIfInBounds_toArray, List.set_cons_zero, List.set_cons_succ]
    refine rg_skip 21 rfl (by kernel_rfl) (by kernel_rfl) (by kernel_rfl) (fun _ _ _ _ h => h) (by rfl) ?_
    simp only [Act.put, List.setIfInBounds_toArray, List.set_cons_zero, List.set_cons_succ]
    refine rg_take 22 rfl (by kernel_rfl) (by kernel_rfl) (by kernel_rfl) (fun _ _ _ _ h => h) (by rfl) ⟨_, fun w' hx => by (go_simp <;> with_reducible rfl), ?_⟩
    simp only [Act.put, List.setIfInBounds_toArray, List.set_cons_zero, List.set_cons_succ]
    refine rg_done (by kernel_rfl) ?_
    clear q1 q2 q3 hne2 hga hgl hge
    go_wp2
    go_ret2
    exact .inr ⟨HSt.out, rfl, Ext.drew w⟩

theorem isn_any (b : Nat) (d : Bool) (w : World) (hd : ((b : Int) != 0) = d) : Calls Try.prog 40 #[.int .u8 (b : Int)] w fun e w' => e = .returned (.bool d) ∧ w = w' := by
  subst hd
  go_enter Try.func40, Try.ntmps40
  go_wp2
  go_ret
  exact ⟨rfl, rfl⟩
def hasN (d : List UInt8) : Bool := d.any fun x => x != 0
theorem hasN_yes {d : List UInt8} {k : Nat} (h : k < d.length) (hn : d[k] ≠ 0) : hasN d = true := by
  unfold hasN
  rw [List.any_eq_true]
  exact ⟨d[k], List.getElem_mem h, by simpa using hn⟩
theorem hasN_no {d : List UInt8} (h : ∀ k (h : k < d.length), d[k] = 0) : hasN d = false := by
  unfold hasN
  rw [List.any_eq_false]
  intro x hx
  obtain ⟨k, hk, rfl⟩ := List.getElem_of_mem hx
  simp [h k hk]
theorem hasN_iff (d : List UInt8) : hasN d = false ↔ ∀ x ∈ d, x = 0 := by
  unfold hasN
  rw [List.any_eq_false]
  simp

set_option maxHeartbeats 400000 in
theorem indexN_any (A : Option Addr) (bs : List UInt8) (cap : Nat) (w : World) (hA : RdB w A bs) (hl : bs.length ≤ 140737488355328) :
    Calls Try.prog 46 #[.slice A bs.length cap, .func (.func 40) #[] #[]] w fun e w' =>
      (∃ k : Int, e = .returned (.int .i64 k) ∧ decide (0 ≤ k) = hasN bs ∧ k < 9223372036854775807) ∧ w = w' := by
  go_enter Try.func46, Try.ntmps46
  go_wp2
  go_loop [8] (fun i => ∃ k : Nat, k ≤ bs.length ∧ i = .int .i64 k ∧ Hid (∀ j (h : j < bs.length), j < k → bs[j] = 0)) (fun i => bs.length - (intOf i).toNat)
  case atStart => exact ⟨0, by omega, rfl, fun j _ h => by omega⟩
  case round =>
    obtain ⟨k, hk, rfl, hall⟩ := hrel
    by_cases h : k < bs.length
    · obtain ⟨ad, rfl, hcell⟩ := hA.at_ h
      by_cases h8 : bs[k] = 0
      · have hnext : Hid (∀ j (h : j < bs.length), j < k + 1 → bs[j] = 0) := fun j hj hjk => by
          rcases Nat.lt_or_ge j k with h1 | h1
          · exact hall.out j hj h1
          · obtain rfl : j = k := by omega
            exact h8
        have h9 : ((bs[k].toNat : Int) != 0) = false := by rw [h8]; rfl
        generalize bs[k].toNat = b at *
        have hd := Lib.hid h9
        clear h8 h9
        go_wp2_with (go_at_call 40; refine (isn_any b false _ hd.out).mono ?_; rintro e w' ⟨rfl, rfl⟩)
        go_round
        case rel => exact ⟨k + 1, by omega, by go_num, hnext⟩
        case measure => simp [intOf]; omega
      · have hfin := Lib.hid (hasN_yes h h8)
        have h9 : ((bs[k].toNat : Int) != 0) = true := by
          rw [bne_iff_ne]
          intro e
          apply h8
          rw [← UInt8.toNat_inj]
          simpa using e
        generalize bs[k].toNat = b at *
        have hd := Lib.hid h9
        clear h8 h9
        go_wp2_with (go_at_call 40; refine (isn_any b true _ hd.out).mono ?_; rintro e w' ⟨rfl, rfl⟩)
        go_ret
        exact ⟨⟨_, rfl, by rw [hfin.out]; simp, by omega⟩, rfl⟩
    · obtain rfl : k = bs.length := by omega
      have hfin := Lib.hid (hasN_no fun j hj => hall.out j hj hj)
      go_wp2
      go_ret
      exact ⟨⟨_, rfl, by rw [hfin.out]; simp, by omega⟩, rfl⟩
theorem contN_any (A : Option Addr) (bs : List UInt8) (cap : Nat) (w : World) (hA : RdB w A bs) (hl : bs.length ≤ 140737488355328) :
    Calls Try.prog 39 #[.slice A bs.length cap, .func (.func 40) #[] #[]] w fun e w' => e = .returned (.bool (hasN bs)) ∧ w = w' := by
  go_enter Try.func39, Try.ntmps39
  go_wp2_with fail
  refine (indexN_any A bs cap w hA hl).mono ?_
  rintro e w' ⟨⟨k, rfl, hk, _⟩, rfl⟩
  have Hk := Lib.hid hk
  clear hk
  go_wp2_with fail
  go_ret
  exact ⟨by rw [← Hk.out]; rfl, rfl⟩

/-- What stands at a place, or nothing. -/
def RecPost (l : List (List UInt8)) (e a : Nat) (w : World) (r : Ending) (w' : World) : Prop :=
  (∃ c A' c', Frm.Stands l e a c ∧ r = .returned (.tuple #[.slice A' c.length c', .int .i64 (Frm.need c.length : Int), .bool true]) ∧ Own w' w.heap.size 5 1 A' c.length c' (bvs c) ∧ Below w.heap.size w w') ∨
  ((∀ c, ¬ Frm.Stands l e a c) ∧ r = .returned (.tuple #[.slice none 0 0, .int .i64 0, .bool false]) ∧ Below w.heap.size w w')

def lenV : Value → Nat
  | .slice _ n _ => n
  | _ => 0

/-- The world of a stream that stands at piece j. -/
structure StI (w : World) (A : Option Addr) (n c e at_ : Nat) (W : World) : Prop where
  gl : W.heap[w.heap.size]? = some (.cells #[.slice A n c] 25 (0, 0))
  ge : W.heap[w.heap.size + 1]? = some (.cells #[.int .u64 (e : Int)] 22 (0, 0))
  ga : W.heap[w.heap.size + 2]? = some (.cells #[.int .i64 (at_ : Int)] 3 (0, 0))
  bel : Below w.heap.size w W
  size : w.heap.size + 3 ≤ W.heap.size
theorem StI.ext {w : World} {A : Option Addr} {n c e at_ : Nat} {W W' : World} (h : StI w A n c e at_ W) (hE : Ext W W') : StI w A n c e at_ W' :=
  ⟨(hE.block _ (lt_of_heap h.gl)).trans h.gl, (hE.block _ (lt_of_heap h.ge)).trans h.ge, (hE.block _ (lt_of_heap h.ga)).trans h.ga, h.bel.trans (hE.mono h.bel.size), Nat.le_trans h.size hE.size⟩
theorem StI.next {w : World} {A : Option Addr} {n c e at_ : Nat} {W W' : World} (h : StI w A n c e at_ W) (hE : Ext W W') : StI w A n c e (at_ + 1) (W'.setCell ⟨w.heap.size + 2, 0, none⟩ (.int .i64 ((at_ + 1 : Nat) : Int))) := by
  have h2 := h.ext hE
  refine ⟨(Below.heap_setCell _ _ _ _ (by simp)).trans h2.gl, (Below.heap_setCell _ _ _ _ (by simp)).trans h2.ge, ?_, h2.bel.setCell (by simp) _, by have := h2.size; simp [World.setCell]; omega⟩
  have := heap_setCell_same W' (w.heap.size + 2) 0 _ _ (.int .i64 ((at_ + 1 : Nat) : Int)) h2.ga
  simpa using this
theorem own_set {w : World} {B : Nat} {e : TypeId} {size n c g : Nat} {A : Option Addr} {xs : List Value} (h : Own w B e size A n c xs) (hg : g < B) (v : Value) : Own (w.setCell ⟨g, 0, none⟩ v) B e size A n c xs :=
  h.kept (grownSet w ⟨g, 0, none⟩ v) (fun k hk e => by injection e with e; have := (h.row_lt k hk).1; simp at e; omega)
theorem alloc3 (w W : World) (a b d : Obj) (h : ((w.alloc a).alloc b).alloc d = W) : W.heap.size = w.heap.size + 3 ∧ W.heap[w.heap.size]? = some a ∧ W.heap[w.heap.size + 1]? = some b ∧ W.heap[w.heap.size + 2]? = some d ∧ Below w.heap.size w W := by
  subst h
  refine ⟨by simp, ?_, ?_, ?_, Ext.tr (Ext.tr (Ext.alloc w _) (Ext.alloc _ _)) (Ext.alloc _ _)⟩
  · rw [(Ext.alloc _ _).block _ (by simp <;> omega)]; exact heap_alloc2_old w _ _
  · rw [(Ext.alloc _ _).block _ (by simp)]; exact heap_alloc2_new w _ _
  · have := heap_alloc_new ((w.alloc a).alloc b) d
    simpa using this
/-- The call of the stream, in a world in which it stands at a place. -/
theorem next_in {w : World} {A : Option Addr} {l : List Sl} {c e at_ : Nat} {W : World} (hI : StI w A l.length c e at_ W) (hl : RdLc w A l) (ha : at_ ≤ 2000000) :
    Calls Try.prog 44 #[.pointer (some ⟨w.heap.size + 2, 0, none⟩), .pointer (some ⟨w.heap.size, 0, none⟩), .pointer (some ⟨w.heap.size + 1, 0, none⟩)] W (NextPost (w.heap.size + 2) l e at_ W) :=
  next_any w.heap.size (w.heap.size + 1) (w.heap.size + 2) A l c e at_ W hI.gl hI.ge hI.ga (hl.below hI.bel) ha (by omega) (fun h ad hA er => by
    obtain ⟨ad', hA', hcell, _⟩ := hl.rd.at_ h
    rw [hA] at hA'
    injection hA' with hA'
    subst hA'
    have := World.block_lt_of_cell? _ _ hcell
    rw [add_block] at this
    omega)
theorem rec_no {l : List Sl} {e a : Nat} (h : ∀ h : a < l.length, Frm.stmpB l[a].bs e a = false) (i : Nat) (n : Nat) (hn : ∀ c, Frm.Stands (bsL l) e i c → c.length = n) (hi : i ≤ a ∧ a < i + Frm.need n) (c : List UInt8) : ¬ Frm.Stands (bsL l) e i c := fun hs => by
  have h1 := hs.st (a - i) (by rw [hn c hs]; omega)
  rw [show i + (a - i) = a by omega] at h1
  have h2 := Frm.stmp_lt h1
  rw [bsL_len] at h2
  rw [stmp_l h2, h h2] at h1
  cases h1

set_option maxRecDepth 100000 in
set_option maxHeartbeats 4000000 in
theorem record_any (A : Option Addr) (l : List Sl) (c e a : Nat) (w : World) (hl : RdLc w A l) (hll : l.length ≤ 1000000) (ha : a ≤ 1000000) :
    Calls Try.prog 30 #[.slice A l.length c, .int .u64 (e : Int), .int .i64 (a : Int)] w (RecPost (bsL l) e a w) := by
  go_enter Try.func30, Try.ntmps30
  go_wp2_with (go_at_call 36; refine (stream_any A l.length c e a w).mono ?_; rintro r w' ⟨rfl, rfl⟩; refine Hid.out ?_)
  obtain ⟨W0, hW0⟩ : ∃ W0, ((w.alloc (.cells #[.slice A l.length c] 25)).alloc (.cells #[.int .u64 (e : Int)] 22)).alloc (.cells #[.int .i64 (a : Int)] 3) = W0 := ⟨_, rfl⟩
  obtain ⟨z1, z2, z3, z4, z5⟩ := alloc3 w W0 _ _ _ hW0
  have hI0 : StI w A l.length c e a W0 := ⟨z2, z3, z4, z5, by omega⟩
  rw [hW0]
  refine Lib.hid ?_
  clear hW0 z1 z2 z3 z4 z5
  go_wp2_with fail
  refine (next_in hI0 hl (by omega)).mono ?_
  rintro r w1 (⟨h, sd, w2, hst, hsd, rfl, hE2, rfl⟩ | ⟨hno, rfl, hE1⟩)
  · have hI1 := hI0.next hE2
    obtain ⟨x, hx⟩ : ∃ x, x = l[a] := ⟨_, rfl⟩
    rw [← hx] at hst hsd ⊢
    have hx64 := (stmp_parts.1 hst).1
    have hxc := hl.cap x (by rw [hx]; exact List.getElem_mem h)
    have hxr : RdB w (some (sd.add 12)) (x.bs.drop 12) := by
      have h1 := hl.rd.each x (by rw [hx]; exact List.getElem_mem h)
      have h2 := h1.tail (k := 12) (by omega) hxc
      rwa [if_neg (by omega), hsd] at h2
    obtain ⟨p, hp⟩ : ∃ p, p = x.bs.drop 12 := ⟨_, rfl⟩
    have hpl : p.length = 52 := by rw [hp, List.length_drop]; omega
    rw [← hp] at hxr
    obtain ⟨q, hq⟩ : ∃ q, q = p.take 4 := ⟨_, rfl⟩
    have hql : q.length = 4 := by rw [hq, List.length_take]; omega
    obtain ⟨n, hn⟩ : ∃ n, n = Vint.number q := ⟨_, rfl⟩
    obtain ⟨W1, hW1⟩ : ∃ W1, W1 = w2.setCell ⟨w.heap.size + 2, 0, none⟩ (.int .i64 ((a + 1 : Nat) : Int)) := ⟨_, rfl⟩
    rw [← hW1] at hI1 ⊢
    have hr1 := hxr.below hI1.bel
    have hk1 := number_any _ q (x.c - 12) W1 (by rw [hq]; exact hr1.head (by omega)) (by omega)
    rw [hql, ← hn] at hk1
    have hcc : (4 : Int) ≤ ((x.c - 12 : Nat) : Int) := by omega
    have hn32 : n < 4294967296 := by
      rw [hn]
      unfold Vint.number
      rw [if_pos (by omega)]
      have := Vint.numL_lt q
      rw [hql] at this
      exact this
    have hal : (bsL l)[a]'(by rw [bsL_len]; exact h) = x.bs := by rw [bsL_get l a h, hx]
    have hnum : ∀ c, Frm.Stands (bsL l) e a c → c.length = n := fun c hs => by
      have h1 := hs.num (by rw [bsL_len]; exact h)
      rw [hal, ← hp, ← hq, ← hn] at h1
      exact h1.symm
    have hst0 : Frm.Stmp (bsL l) e a := (stmp_l h).2 (by rw [← hx]; exact hst)
    have hpay1 : Frm.pays (bsL l) a 1 = p := by rw [Frm.pays_one (by rw [bsL_len]; exact h), hal, hp]
    have hq4 : Vint.number (((bsL l)[a]'(by rw [bsL_len]; exact h)).drop 12 |>.take 4) = n := by rw [hal, ← hp, ← hq, hn]
    have Hnum := Lib.hid hnum
    have Hst0 := Lib.hid hst0
    have Hpay1 := Lib.hid hpay1
    have Hq4 := Lib.hid hq4
    have HI1 := Lib.hid hI1
    have Hqn : Hid (n = Vint.number (p.take 4)) := by show _ = _; rw [hn, hq]
    clear hst hsd hE2 hI0 hx hxr hxc hx64 hp hn hql hq hW1 hI1 hnum hst0 hpay1 hal hq4
    go_wp2_with fail
    refine hk1.mono ?_
    rintro r w9 ⟨rfl, rfl⟩
    by_cases hbig : 140000 < n
    · have hno : Hid (∀ c, ¬ Frm.Stands (bsL l) e a c) := fun c hs => by have h1 := Hnum.out c hs; have h2 := hs.len; omega
      have hb1 := HI1.out.bel
      have hbig' : decide ((140000 : Int) < (n : Int)) = true := by simp; omega
      clear hk1
      go_wp2
      refine bodyPost_ret (results_tmp3 rfl _ _ _) rfl ?_
      exact .inr ⟨hno.out, rfl, hb1⟩
    · have hbig' : decide ((140000 : Int) < (n : Int)) = false := by simp; omega
      clear hk1
      go_wp2_with fail
      have hk2 := clone_any (some (sd.add 12)) p (x.c - 12) W1 hr1 (by omega)
      rw [hpl] at hk2
      refine hk2.mono ?_
      clear hk2
      rintro r w3 ⟨A3, c3, rfl, ho3, hb3⟩
      have hI3 := HI1.out.ext hb3
      have ho3' : Own w3 (w.heap.size + 3) 5 1 A3 52 c3 (bvs (Frm.pays (bsL l) a 1)) := by rw [Hpay1.out]; exact ho3.mono HI1.out.size
      have hn14 : n ≤ 140000 := by omega
      have hK := Frm.need_lt n
      have hK2 := Frm.need_ge n
      clear hr1 ho3 hb3 hbig hbig'
      go_wp2_with fail
      go_loopw [10, 13, 14] (fun b _ _ wr => ∃ (j m : Nat) (A' : Option Addr) (c' : Nat), 1 ≤ j ∧ j ≤ Frm.need n ∧ m = 52 * j ∧ b = .slice A' m c' ∧ (∀ i < j, Frm.Stmp (bsL l) e (a + i)) ∧ Own wr (w.heap.size + 3) 5 1 A' m c' (bvs (Frm.pays (bsL l) a j)) ∧ StI w A l.length c e (a + j) wr) (fun b _ _ _ => 200000 - lenV b)
      case atStart => exact ⟨1, 52, A3, c3, by omega, Frm.need_pos n, rfl, rfl, fun i hi => (by rw [show i = 0 by omega]; exact Hst0.out), ho3', hI3⟩
      case round =>
        obtain ⟨j, m, A', c', hj1, hjn, hm, rfl, hall, hown, hI⟩ := hrel
        have hm2 : m ≤ 140200 := by omega
        have hwm : IntKind.u64.wrap (m : Int) = (m : Int) := wrap_u64 m (by omega)
        have Hall := Lib.hid hall
        have HI := Lib.hid hI
        have Hm := Lib.hid hm
        have hmc := hown.nc
        have hpn : 1 ≤ m := by omega
        have hm52 : (m : Int) = 52 * (j : Int) := by omega
        have Hm52 := Lib.hid hm52
        clear hall hI ho3' hI3
        by_cases hlt : m < n + 8
        · have hlt' : (m : Int) < (n : Int) + 8 := by omega
          have hjlt : j < Frm.need n := by omega
          have Hjlt := Lib.hid hjlt
          have hk3 := next_in HI.out hl (show a + j ≤ 2000000 by omega)
          have Hk3 := Lib.hid hk3
          clear hm hm52 hjlt hk3
          go_wp2_with fail
          refine Hk3.out.mono ?_
          rintro r w4 (⟨h5, sd5, w5, hst5, hsd5, rfl, hE5, rfl⟩ | ⟨hno5, rfl, hE5⟩)
          · have hI5 := HI.out.next hE5
            obtain ⟨W5, hW5⟩ : ∃ W5, W5 = w5.setCell ⟨w.heap.size + 2, 0, none⟩ (.int .i64 ((a + j + 1 : Nat) : Int)) := ⟨_, rfl⟩
            have hown5 : Own W5 (w.heap.size + 3) 5 1 A' m c' (bvs (Frm.pays (bsL l) a j)) := by rw [hW5]; exact own_set (hown.below hE5) (by omega) _
            rw [← hW5] at hI5 ⊢
            have hx64 := (stmp_parts.1 hst5).1
            have hxr : Rd W5 1 (some (sd5.add 12)) 52 (bvs (l[a + j].bs.drop 12)) := by
              have h1 := hl.rd.each l[a + j] (List.getElem_mem h5)
              have h2 := h1.tail (k := 12) (by omega) (hl.cap l[a + j] (List.getElem_mem h5))
              have h3 := hl.cap l[a + j] (List.getElem_mem h5)
              rw [if_neg (by omega), hsd5] at h2
              exact rdb_len (h2.below hI5.bel) (by rw [List.length_drop]; omega)
            have hps : Frm.pays (bsL l) a (j + 1) = Frm.pays (bsL l) a j ++ l[a + j].bs.drop 12 := by
              rw [Frm.pays_snoc (bsL l) a j (by rw [bsL_len]; exact h5), bsL_get l (a + j) h5]
            have Hps : Hid (bvs (Frm.pays (bsL l) a (j + 1)) = bvs (Frm.pays (bsL l) a j) ++ bvs (l[a + j].bs.drop 12)) := by show _ = _; rw [hps, bvs_app]
            have Hall5 : Hid (∀ i < j + 1, Frm.Stmp (bsL l) e (a + i)) := fun i hi => by
              rcases Nat.lt_or_ge i j with h' | h'
              · exact Hall.out i h'
              · obtain rfl : i = j := by omega
                exact (stmp_l h5).2 hst5
            obtain ⟨xc, hxc⟩ : ∃ xc, xc = l[a + j].c - 12 := ⟨_, rfl⟩
            obtain ⟨xb, hxb⟩ : ∃ xb, xb = bvs (l[a + j].bs.drop 12) := ⟨_, rfl⟩
            have hone : ∀ u ∈ xb, u.oneCell' = true := by rw [hxb]; exact bvs_one _
            obtain ⟨yb, hyb⟩ : ∃ yb, yb = bvs (Frm.pays (bsL l) a (j + 1)) := ⟨_, rfl⟩
            rw [← hxb] at hxr Hps
            rw [← hyb] at Hps
            rw [← hxc]
            have Hyb := Lib.hid hyb
            have HI5 : Hid (StI w A l.length c e (a + (j + 1)) W5) := by show StI _ _ _ _ _ _ _; rw [← Nat.add_assoc]; exact hI5
            have hsz5 := hI5.size
            clear hW5 hps hst5 hsd5 hE5 hx64 hown hI5 hxc hxb hyb Hk3 h5
            go_wp2_with (at_builtin; refine wpList_app rfl (.tmp 48) (.tmp 49) 23 rfl elemB (w.heap.size + 3) A' m c' (bvs (Frm.pays (bsL l) a j)) rfl (some (sd5.add 12)) 52 xc xb rfl (m + 52) rfl yb Hps.out hown5 hxr hone (by omega) (by omega) hsz5 ?_; intro A6 c6 w6 ho6 hg6 hr6)
            go_roundw
            case rel => exact ⟨j + 1, m + 52, A6, c6, by omega, by have := Hjlt.out; omega, by have := Hm.out; omega, rfl, Hall5.out, by rw [← Hyb.out]; exact ho6, (by
              have hrow : ∀ k, ownRow A' c' = some k → w.heap.size + 3 ≤ k := fun k hk => (hown5.row_lt k hk).1
              exact ⟨(hg6.block _ (by omega) (fun er => by have := hrow _ er.symm; omega)).trans HI5.out.gl, (hg6.block _ (by omega) (fun er => by have := hrow _ er.symm; omega)).trans HI5.out.ge, (hg6.block _ (by omega) (fun er => by have := hrow _ er.symm; omega)).trans HI5.out.ga, HI5.out.bel.grown hg6 HI5.out.bel.size (fun k er => by have := hrow k er; omega), Nat.le_trans hsz5 hg6.size⟩)⟩
            case measure => simp [lenV]; omega
          · have hno' : Hid (∀ c, ¬ Frm.Stands (bsL l) e a c) := rec_no hno5 a n Hnum.out ⟨by omega, by have := Hjlt.out; omega⟩
            have hb1 := (HI.out.ext hE5).bel
            clear hno5 hE5 Hk3 hown
            go_wp2
            refine bodyPost_ret (results_tmp3 rfl _ _ _) rfl ?_
            exact .inr ⟨hno'.out, rfl, hb1⟩
        · have hjK : j = Frm.need n := by omega
          have hlt' : ¬ ((m : Int) < (n : Int) + 8) := by omega
          have hlt2 : (n : Int) + 8 ≤ (c' : Int) := by omega
          have hlt4 : (4 : Int) ≤ (n : Int) + 8 := by omega
          have hne4 : ¬ c' = 4 := by omega
          subst hjK
          obtain ⟨b, hb⟩ : ∃ b, b = Frm.pays (bsL l) a (Frm.need n) := ⟨_, rfl⟩
          rw [← hb] at hown
          have hbl : b.length = m := by have := hown.len; rw [bvs_len] at this; omega
          obtain ⟨ad, hA', hk0⟩ := (hown.rd').at_ (k := 0) (by omega)
          clear hk0
          subst hA'
          have hrb : RdB wr (some ad) b := hown.rd'
          obtain ⟨d, hd⟩ : ∃ d, d = (b.take (n + 8)).drop 4 := ⟨_, rfl⟩
          have hdl : d.length = n + 4 := by rw [hd, List.length_drop, List.length_take]; omega
          have hrd : RdB wr (some (ad.add 4)) d := by
            have h1 := hrb.cut (k := 4) (m := n + 8) (by omega) (by omega) (c := c') (by omega)
            rw [if_neg (by omega)] at h1
            rw [hd]; exact h1
          have hck := check_any (some (ad.add 4)) d (c' - 4) wr hrd (by omega) (by omega)
          rw [hdl] at hck
          have h4b : b.take 4 = (((bsL l)[a]'(by rw [bsL_len]; exact h)).drop 12).take 4 := by
            have h1 := Frm.pays_take (bsL l) a e (Frm.need n) 1 Hall.out (Frm.need_pos n)
            rw [← hb, Frm.pays_one (by rw [bsL_len]; exact h)] at h1
            rw [← h1, List.take_take, Nat.min_eq_left (by omega)]
          have hyes : Crc.ok d = true → hasN (b.drop (n + 8)) = false → Frm.Stands (bsL l) e a (Crc.got d) ∧ (Crc.got d).length = n := fun h1 h2 => by
            have := Frm.stands_of Hall.out hn14 b hb (by rw [h4b]; exact Hq4.out) (by rw [← hd]; exact h1) ((hasN_iff _).1 h2)
            rwa [← hd] at this
          have hno' : ¬ (Crc.ok d = true ∧ hasN (b.drop (n + 8)) = false) → ∀ c, ¬ Frm.Stands (bsL l) e a c := fun h1 => by
            refine Frm.stands_not (by rw [bsL_len]; exact h) b hb Hq4.out ?_
            rw [← hd, ← hasN_iff]
            exact h1
          have Hyes := Lib.hid hyes
          have Hno := Lib.hid hno'
          have Hbl := Lib.hid hbl
          have Hck := Lib.hid hck
          have hb2 := HI.out.bel
          have he1 : ((n : Int) + 8 - 4).toNat = n + 4 := by omega
          clear hm hm52 hb hd hdl h4b hyes hno' hck hbl hown
          go_wp2_with fail
          refine Hck.out.mono ?_
          rintro r w6 ⟨A6, c6, rfl, ho6, hb6⟩
          have hE6 := hb2.trans (hb6.mono hb2.size)
          have hsz6 := hb2.size
          cases hok : Crc.ok d with
          | false =>
            have Hn := Lib.hid (Hno.out fun h1 => by rw [hok] at h1; cases h1.1)
            clear Hck hok ho6
            go_wp2
            refine bodyPost_ret (results_tmp3 rfl _ _ _) rfl ?_
            exact .inr ⟨Hn.out, rfl, hE6⟩
          | true =>
            obtain ⟨d2, hd2⟩ : ∃ d2, d2 = b.drop (n + 8) := ⟨_, rfl⟩
            have hrb6 := hrb.below hb6
            have hT := hrb6.tail (k := n + 8) (by have := Hbl.out; omega) (c := c') (by have := Hbl.out; omega)
            have hd2l : d2.length = m - (n + 8) := by rw [hd2, List.length_drop, Hbl.out]
            rw [← hd2] at hT Hyes Hno
            have hct := contN_any _ d2 (c' - (n + 8)) w6 hT (by omega)
            rw [hd2l] at hct
            have Hct := Lib.hid hct
            have hlt3 : (n : Int) + 8 ≤ (m : Int) := by omega
            have hw8 : ((n : Int) + 8).toNat = n + 8 := by omega
            have Hlen : Hid ((m : Int) / 52 = (Frm.need n : Int)) := by show _ = _; have := Hm52.out; omega
            clear Hck hd2 hct hd2l hT hrb6
            by_cases hce : c' = n + 8
            · have hct := Hct.out
              rw [if_pos hce, hce, Nat.sub_self] at hct
              have Hct2 := Lib.hid hct
              clear hct Hct
              go_wp2_with fail
              refine Hct2.out.mono ?_
              rintro r w9 ⟨rfl, rfl⟩
              cases hh : hasN d2 with
              | true =>
                have Hn := Lib.hid (Hno.out fun h1 => by rw [hh] at h1; cases h1.2)
                clear ho6
                go_wp2
                refine bodyPost_ret (results_tmp3 rfl _ _ _) rfl ?_
                exact .inr ⟨Hn.out, rfl, hE6⟩
              | false =>
                obtain ⟨hS, hSl⟩ := Hyes.out hok hh
                have HS := Lib.hid hS
                obtain ⟨g, hg⟩ : ∃ g, g = Crc.got d := ⟨_, rfl⟩
                rw [← hg] at ho6 hSl HS ⊢
                have HSl := Lib.hid hSl
                obtain ⟨gl, hgl⟩ : ∃ gl, gl = g.length := ⟨_, rfl⟩
                rw [← hgl] at ho6 ⊢
                have Hgl := Lib.hid hgl
                have hdv : (m : Int) / 52 = (Frm.need n : Int) := Hlen.out
                clear hS hSl hg hh hgl
                go_wp2
                refine bodyPost_ret (results_tmp3 rfl _ _ _) rfl ?_
                have h9 := Hgl.out
                subst h9
                exact .inl ⟨g, A6, c6, HS.out, by rw [HSl.out]; rfl, ho6.mono hsz6, hE6⟩
            · have hct := Hct.out
              rw [if_neg hce] at hct
              have Hct2 := Lib.hid hct
              clear hct Hct
              go_wp2_with fail
              refine Hct2.out.mono ?_
              rintro r w9 ⟨rfl, rfl⟩
              cases hh : hasN d2 with
              | true =>
                have Hn := Lib.hid (Hno.out fun h1 => by rw [hh] at h1; cases h1.2)
                clear ho6
                go_wp2
                refine bodyPost_ret (results_tmp3 rfl _ _ _) rfl ?_
                exact .inr ⟨Hn.out, rfl, hE6⟩
              | false =>
                obtain ⟨hS, hSl⟩ := Hyes.out hok hh
                have HS := Lib.hid hS
                obtain ⟨g, hg⟩ : ∃ g, g = Crc.got d := ⟨_, rfl⟩
                rw [← hg] at ho6 hSl HS ⊢
                have HSl := Lib.hid hSl
                obtain ⟨gl, hgl⟩ : ∃ gl, gl = g.length := ⟨_, rfl⟩
                rw [← hgl] at ho6 ⊢
                have Hgl := Lib.hid hgl
                have hdv : (m : Int) / 52 = (Frm.need n : Int) := Hlen.out
                clear hS hSl hg hh hgl
                go_wp2
                refine bodyPost_ret (results_tmp3 rfl _ _ _) rfl ?_
                have h9 := Hgl.out
                subst h9
                exact .inl ⟨g, A6, c6, HS.out, by rw [HSl.out]; rfl, ho6.mono hsz6, hE6⟩
  · have hno' : Hid (∀ c, ¬ Frm.Stands (bsL l) e a c) := fun c hs => by
      have h1 := hs.first
      have h2 := Frm.stmp_lt h1
      rw [bsL_len] at h2
      rw [stmp_l h2, hno h2] at h1
      cases h1
    have hb1 := (hI0.ext hE1).bel
    clear hno hE1 hI0
    go_wp2
    refine bodyPost_ret (results_tmp3 rfl _ _ _) rfl ?_
    exact .inr ⟨hno'.out, rfl, hb1⟩
end Go.Proofs.Ytpabbackiobefaa
