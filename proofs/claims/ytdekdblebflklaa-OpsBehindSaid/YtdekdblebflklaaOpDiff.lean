
/- Contract: ops.Diff. Printed by wip/tools/gen_opdiff20.py. -/

import Derived.Test.YtdekdblebflklaaOpApply

import Derived.WalkMore

import Derived.Test.YtdekdblebflklaaEqual

namespace Go.Proofs.Ytdekdblebflklaa

open Go.RowKit

attribute [local go_sem] Oper.semAt_some

def lenV : Value → Nat
  | .slice _ n _ => n
  | _ => 0
/-- An operation in memory that takes an entry away; one that puts one. -/
def EnV.gone (e : EnV) : OpV := ⟨e.ka, e.kc, none, 0, Opn.gone e.x⟩
def EnV.puts (e : EnV) : OpV := ⟨e.ka, e.kc, e.va, e.vc, Opn.put e.x⟩
theorem EnV.In.gone {w : World} {e : EnV} (h : e.In w) : e.gone.In w := ⟨h.kr, Rd.nil_ _ _ _, h.kcap, Nat.zero_le _⟩
theorem EnV.In.puts {w : World} {e : EnV} (h : e.In w) : e.puts.In w := ⟨h.kr, h.vr, h.kcap, h.vcap⟩
/-- The first entry of a list, as memory shows it. -/
structure HeadAt (w : World) (ad : Addr) (e : EnV) : Prop where
  c0 : w.cell? ad = some (.slice e.ka e.x.key.length e.kc)
  c1 : w.cell? ⟨ad.block, ad.off + 1, none⟩ = some (.slice e.va e.x.val.length e.vc)
theorem RdE.head {w : World} {A : Option Addr} {e : EnV} {l : List EnV} (h : RdE w A (e :: l)) : ∃ ad, A = some ad ∧ HeadAt w ad e ∧ e.In w := by
  obtain ⟨ad, hA, hc, hin⟩ := h.at_ (k := 0) (by simp)
  exact ⟨ad, hA, ⟨hc 0 _ rfl, hc 1 _ rfl⟩, hin⟩
theorem HeadAt.ext {w w' : World} {ad : Addr} {e : EnV} (h : HeadAt w ad e) (hx : Ext w w') : HeadAt w' ad e := ⟨Ext.load hx h.c0, Ext.load hx h.c1⟩
def DiffP (h l : List EnV) (w : World) (e : Ending) (w' : World) : Prop :=
  ∃ A' D c', e = .returned (.slice A' (D : List OpV).length c') ∧ D.map OpV.x = Opn.diff (h.map EnV.x) (l.map EnV.x) ∧ RdO w' A' D ∧ D.length ≤ c' ∧ (∀ e ∈ D, e.In w) ∧ D.length ≤ h.length + l.length ∧ Below w.heap.size w w'
set_option maxRecDepth 100000 in
set_option maxHeartbeats 1000000 in
theorem diff_any (A : Option Addr) (h : List EnV) (ca : Nat) (B : Option Addr) (l : List EnV) (cb : Nat) (w : World) (hA : RdE w A h) (hB : RdE w B l) (hca : h.length ≤ ca) (hcb : l.length ≤ cb) (hh : h.length ≤ 300000) (hl : l.length ≤ 300000) :
    Calls Try.prog 14 #[.slice A h.length ca, .slice B l.length cb] w (DiffP h l w) := by
  go_enter Try.func14, Try.ntmps14
  go_wp2
  go_step3
  go_wp2
  go_step3
  go_wp2
  go_loopw [0, 1, 5] (fun a b d wr => ∃ (H L : List EnV) (D : List OpV) (A1 B1 D1 : Option Addr) (c1 c2 c3 : Nat), a = .slice A1 H.length c1 ∧ b = .slice B1 L.length c2 ∧ d = .slice D1 D.length c3 ∧ H.length ≤ c1 ∧ L.length ≤ c2 ∧ D.length + H.length + L.length ≤ h.length + l.length ∧
    Hid (Opn.diff (h.map EnV.x) (l.map EnV.x) = D.map OpV.x ++ Opn.diff (H.map EnV.x) (L.map EnV.x)) ∧ RdE w A1 H ∧ RdE w B1 L ∧ Own wr w.heap.size 50 3 D1 D.length c3 (ocs D) ∧ (∀ e ∈ D, e.In w) ∧ Below w.heap.size w wr) (fun a b _ _ => lenV a + lenV b)
  case atStart => exact ⟨h, l, [], A, B, none, ca, cb, 0, rfl, rfl, rfl, hca, hcb, by simp, (show _ = _ from by simp), hA, hB, Own.none_ _ _ _ _ _, by simp, Below.refl _ _⟩
  case round =>
    obtain ⟨H, L, D, A1, B1, D1, c1, c2, c3, rfl, rfl, rfl, hc1, hc2, hdl, hdf, hH, hL, hown, hin, hbel⟩ := hrel
    rcases H with _ | ⟨a, H⟩
    · rcases L with _ | ⟨b, L⟩
      · simp only [List.length_nil]
        go_wp2
        go_ret
        refine ⟨D1, D, c3, rfl, by rw [hdf.out]; simp [Opn.diff], ⟨hown.rd, fun e he => (hin e he).below hbel⟩, hown.nc, hin, by simp at hdl; omega, hbel⟩
      · obtain ⟨bd, rfl, hb0, hbin⟩ := hL.head
        have hLt := hL.tail (k := 1) (by simp) (c := c2) hc2
        simp only [List.length_nil, List.length_cons] at hc1 hc2 hdl ⊢
        have Hb := hb0.ext hbel
        have hbw := hbin.puts.below hbel
        have HLt := Lib.hid hLt
        clear hb0 hLt
        have hnz : ¬ ((L.length : Int) + 1 = 0) := by omega
        go_wp2_with fail
        refine rg_start (by kernel_rfl) ?_
        refine rg_take 0 rfl (by kernel_rfl) (by kernel_rfl) (by kernel_rfl) (fun _ _ _ _ h => h) (by rfl) ⟨_, fun w' hx => by (go_simp <;> with_reducible rfl), ?_⟩
        simp only [Act.put, List.setIfInBounds_toArray, List.set_cons_zero, List.set_cons_succ]
        refine rg_take 1 rfl (by kernel_rfl) (by kernel_rfl) (by kernel_rfl) (fun _ _ _ _ h => h) (by rfl) ⟨.bool true, fun w' hx => by (go_simp; try rfl), ?_⟩
        simp only [Act.put, List.setIfInBounds_toArray, List.set_cons_zero, List.set_cons_succ]
        refine rg_take 2 rfl (by kernel_rfl) (by kernel_rfl) (by kernel_rfl) (fun _ _ _ _ h => h) (by rfl) ⟨_, fun w' hx => by (go_simp <;> with_reducible rfl), ?_⟩
        simp only [Act.put, List.setIfInBounds_toArray, List.set_cons_zero, List.set_cons_succ]
        refine rg_skip 3 rfl (by kernel_rfl) (by kernel_rfl) (by kernel_rfl) (fun _ _ _ _ h => h) (by rfl) ?_
        simp only [Act.put, List.setIfInBounds_toArray, List.set_cons_zero, List.set_cons_succ]
        refine rg_skip 4 rfl (by kernel_rfl) (by kernel_rfl) (by kernel_rfl) (fun _ _ _ _ h => h) (by rfl) ?_
        simp only [Act.put, List.setIfInBounds_toArray, List.set_cons_zero, List.set_cons_succ]
        refine rg_skip 5 rfl (by kernel_rfl) (by kernel_rfl) (by kernel_rfl) (fun _ _ _ _ h => h) (by rfl) ?_
        simp only [Act.put, List.setIfInBounds_toArray, List.set_cons_zero, List.set_cons_succ]
        refine rg_skip 6 rfl (by kernel_rfl) (by kernel_rfl) (by kernel_rfl) (fun _ _ _ _ h => h) (by rfl) ?_
        simp only [Act.put, List.setIfInBounds_toArray, List.set_cons_zero, List.set_cons_succ]
        refine rg_skip 7 rfl (by kernel_rfl) (by kernel_rfl) (by kernel_rfl) (fun _ _ _ _ h => h) (by rfl) ?_
        simp only [Act.put, List.setIfInBounds_toArray, List.set_cons_zero, List.set_cons_succ]
        refine rg_skip 8 rfl (by kernel_rfl) (by kernel_rfl) (by kernel_rfl) (fun _ _ _ _ h => h) (by rfl) ?_
        simp only [Act.put, List.setIfInBounds_toArray, List.set_cons_zero, List.set_cons_succ]
        refine rg_skip 9 rfl (by kernel_rfl) (by kernel_rfl) (by kernel_rfl) (fun _ _ _ _ h => h) (by rfl) ?_
        simp only [Act.put, List.setIfInBounds_toArray, List.set_cons_zero, List.set_cons_succ]
        refine rg_skip 10 rfl (by kernel_rfl) (by kernel_rfl) (by kernel_rfl) (fun _ _ _ _ h => h) (by rfl) ?_
        simp only [Act.put, List.setIfInBounds_toArray, List.set_cons_zero, List.set_cons_succ]
        refine rg_skip 11 rfl (by kernel_rfl) (by kernel_rfl) (by kernel_rfl) (fun _ _ _ _ h => h) (by rfl) ?_
        simp only [Act.put, List.setIfInBounds_toArray, List.set_cons_zero, List.set_cons_succ]
        refine rg_skip 12 rfl (by kernel_rfl) (by kernel_rfl) (by kernel_rfl) (fun _ _ _ _ h => h) (by rfl) ?_
        simp only [Act.put, List.setIfInBounds_toArray, List.set_cons_zero, List.set_cons_succ]
        refine rg_take 13 rfl (by kernel_rfl) (by kernel_rfl) (by kernel_rfl) (fun _ _ _ _ h => h) (by rfl) ⟨_, fun w' hx => by (go_simp <;> with_reducible rfl), ?_⟩
        simp only [Act.put, List.setIfInBounds_toArray, List.set_cons_zero, List.set_cons_succ]
        refine rg_done (by kernel_rfl) ?_
        go_wp2_with fail
        refine rg_start (by kernel_rfl) ?_
        refine rg_take 0 rfl (by kernel_rfl) (by kernel_rfl) (by kernel_rfl) (fun _ _ _ _ h => h) (by rfl) ⟨_, fun w' hx => by (go_simp <;> with_reducible rfl), ?_⟩
        simp only [Act.put, List.setIfInBounds_toArray, List.set_cons_zero, List.set_cons_succ]
        refine rg_take 1 rfl (by kernel_rfl) (by kernel_rfl) (by kernel_rfl) (fun _ _ _ _ h => h) (by rfl) ⟨_, fun w' hx => by (go_simp <;> with_reducible rfl), ?_⟩
        simp only [Act.put, List.setIfInBounds_toArray, List.set_cons_zero, List.set_cons_succ]
        refine rg_take 2 rfl (by kernel_rfl) (by kernel_rfl) (by kernel_rfl) (fun _ _ _ _ h => h) (by rfl) ⟨_, fun w' hx => by (go_simp <;> with_reducible rfl), ?_⟩   -- t61 := indexAddr 22 t60 0:i64
        simp only [Act.put, List.setIfInBounds_toArray, List.set_cons_zero, List.set_cons_succ]
        refine rg_take 3 rfl (by kernel_rfl) (by kernel_rfl) (by kernel_rfl) (fun _ _ _ _ h => h) (by rfl) ⟨_, fun w' hx => by (go_simp <;> with_reducible rfl), ?_⟩   -- t62 := fieldAddr 48 t61 0
        simp only [Act.put, List.setIfInBounds_toArray, List.set_cons_zero, List.set_cons_succ]
        refine rg_take 4 rfl (by kernel_rfl) (by kernel_rfl) (by kernel_rfl) (fun _ _ _ _ h => h) (by rfl) ⟨_, fun w' hx => by have hcx := hx.load Hb.c0; (go_simp <;> with_reducible rfl), ?_⟩
        simp only [Act.put, List.setIfInBounds_toArray, List.set_cons_zero, List.set_cons_succ]
        refine rg_take 5 rfl (by kernel_rfl) (by kernel_rfl) (by kernel_rfl) (fun _ _ _ _ h => h) (by rfl) ⟨_, fun w' hx => by (go_simp <;> with_reducible rfl), ?_⟩
        simp only [Act.put, List.setIfInBounds_toArray, List.set_cons_zero, List.set_cons_succ]
        refine rg_take 6 rfl (by kernel_rfl) (by kernel_rfl) (by kernel_rfl) (fun _ _ _ _ h => h) (by rfl) ⟨_, fun w' hx => by (go_simp <;> with_reducible rfl), ?_⟩   -- t65 := indexAddr 22 t64 0:i64
        simp only [Act.put, List.setIfInBounds_toArray, List.set_cons_zero, List.set_cons_succ]
        refine rg_take 7 rfl (by kernel_rfl) (by kernel_rfl) (by kernel_rfl) (fun _ _ _ _ h => h) (by rfl) ⟨_, fun w' hx => by (go_simp <;> with_reducible rfl), ?_⟩   -- t66 := fieldAddr 48 t65 1
        simp only [Act.put, List.setIfInBounds_toArray, List.set_cons_zero, List.set_cons_succ]
        refine rg_take 8 rfl (by kernel_rfl) (by kernel_rfl) (by kernel_rfl) (fun _ _ _ _ h => h) (by rfl) ⟨_, fun w' hx => by have hcx := hx.load Hb.c1; (go_simp <;> with_reducible rfl), ?_⟩
        simp only [Act.put, List.setIfInBounds_toArray, List.set_cons_zero, List.set_cons_succ]
        refine rg_take 9 rfl (by kernel_rfl) (by kernel_rfl) (by kernel_rfl) (fun _ _ _ _ h => h) (by rfl) ⟨.agg b.puts.cells, fun w' hx => by (go_simp <;> rfl), ?_⟩
        simp only [Act.put, List.setIfInBounds_toArray, List.set_cons_zero, List.set_cons_succ]
        refine rg_make 10 rfl (by kernel_rfl) (by rfl) ⟨_, _, ex_buildOne 23 (.tmp 68) rfl elemO b.puts.cells rfl rfl (by decide), Ext.alloc _ _, ?_⟩
        simp only [Act.put, List.setIfInBounds_toArray, List.set_cons_zero, List.set_cons_succ]
        refine rg_one 11 rfl (by kernel_rfl) (by rfl) (wp_app (.tmp 59) (.tmp 69) 23 rfl elemO w.heap.size D1 D.length c3 (ocs D) rfl (some ⟨wr.heap.size, 0, none⟩) 1 1 (ocs [b.puts]) rfl (D.length + 1) rfl (ocs (D ++ [b.puts])) (ocs_app _ _) (hown.below (((Below.refl wr.heap.size wr).drew.drew).alloc (Nat.le_refl _) (.cells b.puts.cells 50))) (RdO.one wr.drew.drew 50 b.puts (hbw.below ((Below.refl wr.heap.size wr).drew.drew))).rd (ocs_one_cell _) (by omega) (by omega) (by rw [World.size_alloc]; exact Nat.le_succ_of_le hbel.size) (fun D2 c4 w4 ho4 hg4 hr4 => ⟨.inr (by kernel_rfl), ?_⟩))
        simp only [Act.put, List.setIfInBounds_toArray, List.set_cons_zero, List.set_cons_succ]
        refine rg_take 12 rfl (by kernel_rfl) (by kernel_rfl) (by kernel_rfl) (fun _ _ _ _ h => h) (by rfl) ⟨_, fun w' hx => by (go_simp <;> with_reducible rfl), ?_⟩
        simp only [Act.put, List.setIfInBounds_toArray, List.set_cons_zero, List.set_cons_succ]
        refine rg_done (by kernel_rfl) ?_
        go_wp2_with fail
        go_roundw
        case rel =>
          refine ⟨[], L, D ++ [b.puts], A1, _, D2, c1, c2 - 1, c4, rfl, rfl, by rw [List.length_append]; rfl, by simp, by omega, by simp; omega, (show _ = _ from by rw [hdf.out]; simp [Opn.diff, EnV.puts]), hH, HLt.out, by rw [List.length_append]; exact ho4, fun e he => by rcases List.mem_append.1 he with h9 | h9; exact hin e h9; simp at h9; subst h9; exact hbin.puts, below_app (hbel.drew.drew.alloc hbel.size _) (hown.below ((Below.refl wr.heap.size wr).drew.drew.alloc (Nat.le_refl _) _)) hg4 (by simp; exact Nat.le_succ_of_le hbel.size)⟩
        case measure => simp [lenV]
    · rcases L with _ | ⟨b, L⟩
      · obtain ⟨ad, rfl, ha0, hain⟩ := hH.head
        have hHt := hH.tail (k := 1) (by simp) (c := c1) hc1
        simp only [List.length_nil, List.length_cons] at hc1 hc2 hdl ⊢
        have hg := ha0.ext hbel
        have hg0 := hg.c0
        have haw := hain.gone.below hbel
        have HHt := Lib.hid hHt
        clear ha0 hHt hg
        have hnz : ¬ ((H.length : Int) + 1 = 0) := by omega
        go_wp2_with (at_builtin; refine wpList_app rfl (.tmp 35) (.tmp 41) 23 rfl elemO w.heap.size D1 D.length c3 (ocs D) rfl (some ⟨wr.heap.size, 0, none⟩) 1 1 (ocs [a.gone]) rfl (D.length + 1) rfl (ocs (D ++ [a.gone])) (ocs_app _ _) (hown.below (Ext.alloc wr (.cells a.gone.cells 50))) (RdO.one wr 50 a.gone haw).rd (ocs_one_cell _) (by omega) (by omega) (by rw [World.size_alloc]; exact Nat.le_succ_of_le hbel.size) ?_; intro D2 c4 w4 ho4 hg4 hr4)
        go_roundw
        case rel =>
          refine ⟨H, [], D ++ [a.gone], _, B1, D2, c1 - 1, c2, c4, rfl, rfl, by rw [List.length_append]; rfl, by omega, by simp, by simp; omega, (show _ = _ from by rw [hdf.out]; simp [Opn.diff, EnV.gone]), HHt.out, hL, by rw [List.length_append]; exact ho4, fun e he => by rcases List.mem_append.1 he with h9 | h9; exact hin e h9; simp at h9; subst h9; exact hain.gone, below_app (hbel.alloc hbel.size _) (hown.below (Ext.alloc wr _)) hg4 (by rw [World.size_alloc]; exact Nat.le_succ_of_le hbel.size)⟩
        case measure => simp [lenV]
      · obtain ⟨ad, rfl, ha0, hain⟩ := hH.head
        obtain ⟨bd, rfl, hb0, hbin⟩ := hL.head
        have hHt := hH.tail (k := 1) (by simp) (c := c1) hc1
        have hLt := hL.tail (k := 1) (by simp) (c := c2) hc2
        simp only [List.length_cons] at hc1 hc2 hdl ⊢
        have Ha := ha0.ext hbel
        have Hb := hb0.ext hbel
        have hbw := hbin.puts.below hbel
        have haw := hain.gone.below hbel
        have HHt := Lib.hid hHt
        have HLt := Lib.hid hLt
        have hdu : Hid (Opn.diff (a.x :: H.map EnV.x) (b.x :: L.map EnV.x) = if ltB a.x.key b.x.key = true then Opn.gone a.x :: Opn.diff (H.map EnV.x) (b.x :: L.map EnV.x) else if ltB b.x.key a.x.key = true then Opn.put b.x :: Opn.diff (a.x :: H.map EnV.x) (L.map EnV.x) else if a.x.val = b.x.val then Opn.diff (H.map EnV.x) (L.map EnV.x) else Opn.put b.x :: Opn.diff (H.map EnV.x) (L.map EnV.x)) := by
          show _ = _
          rw [Opn.diff]
        have hHc := Lib.hid hH
        have hLc := Lib.hid hL
        clear ha0 hb0 hHt hLt hH hL
        have hnz1 : ¬ ((H.length : Int) + 1 = 0) := by omega
        have hnz2 : ¬ ((L.length : Int) + 1 = 0) := by omega
        have HC := compare_any a.ka b.ka a.x.key b.x.key a.kc b.kc wr.drew (hain.kr.below hbel.drew) (hbin.kr.below hbel.drew)
        rcases compare_one a.x.key b.x.key with hz | hz | hz
        · rw [hz] at HC
          have hlt := Lib.hid ((compare_lt a.x.key b.x.key).1 (by rw [hz]; decide))
          clear hz
          have hg0 := Ha.c0
          go_wp2_with fail
          refine rg_start (by kernel_rfl) ?_
          refine rg_take 0 rfl (by kernel_rfl) (by kernel_rfl) (by kernel_rfl) (fun _ _ _ _ h => h) (by rfl) ⟨_, fun w' hx => by (go_simp <;> with_reducible rfl), ?_⟩
          simp only [Act.put, List.setIfInBounds_toArray, List.set_cons_zero, List.set_cons_succ]
          refine rg_take 1 rfl (by kernel_rfl) (by kernel_rfl) (by kernel_rfl) (fun _ _ _ _ h => h) (by rfl) ⟨_, fun w' hx => by (go_simp <;> with_reducible rfl), ?_⟩   -- t8 := indexAddr 22 t7 0:i64
          simp only [Act.put, List.setIfInBounds_toArray, List.set_cons_zero, List.set_cons_succ]
          refine rg_take 2 rfl (by kernel_rfl) (by kernel_rfl) (by kernel_rfl) (fun _ _ _ _ h => h) (by rfl) ⟨_, fun w' hx => by (go_simp <;> with_reducible rfl), ?_⟩   -- t9 := fieldAddr 48 t8 0
          simp only [Act.put, List.setIfInBounds_toArray, List.set_cons_zero, List.set_cons_succ]
          refine rg_take 3 rfl (by kernel_rfl) (by kernel_rfl) (by kernel_rfl) (fun _ _ _ _ h => h) (by rfl) ⟨_, fun w' hx => by have hcx := hx.load Ha.c0; (go_simp <;> with_reducible rfl), ?_⟩
          simp only [Act.put, List.setIfInBounds_toArray, List.set_cons_zero, List.set_cons_succ]
          refine rg_take 4 rfl (by kernel_rfl) (by kernel_rfl) (by kernel_rfl) (fun _ _ _ _ h => h) (by rfl) ⟨_, fun w' hx => by (go_simp <;> with_reducible rfl), ?_⟩
          simp only [Act.put, List.setIfInBounds_toArray, List.set_cons_zero, List.set_cons_succ]
          refine rg_take 5 rfl (by kernel_rfl) (by kernel_rfl) (by kernel_rfl) (fun _ _ _ _ h => h) (by rfl) ⟨_, fun w' hx => by (go_simp <;> with_reducible rfl), ?_⟩   -- t12 := indexAddr 22 t11 0:i64
          simp only [Act.put, List.setIfInBounds_toArray, List.set_cons_zero, List.set_cons_succ]
          refine rg_take 6 rfl (by kernel_rfl) (by kernel_rfl) (by kernel_rfl) (fun _ _ _ _ h => h) (by rfl) ⟨_, fun w' hx => by (go_simp <;> with_reducible rfl), ?_⟩   -- t13 := fieldAddr 48 t12 0
          simp only [Act.put, List.setIfInBounds_toArray, List.set_cons_zero, List.set_cons_succ]
          refine rg_take 7 rfl (by kernel_rfl) (by kernel_rfl) (by kernel_rfl) (fun _ _ _ _ h => h) (by rfl) ⟨_, fun w' hx => by have hcx := hx.load Hb.c0; (go_simp <;> with_reducible rfl), ?_⟩
          simp only [Act.put, List.setIfInBounds_toArray, List.set_cons_zero, List.set_cons_succ]
          refine rg_call 8 HC rfl (by kernel_rfl) (by rfl) (by go_simp) ?_
          rintro e w' ⟨rfl, rfl⟩
          refine ⟨_, rfl, Ext.refl _, ?_⟩
          simp only [Act.put, List.setIfInBounds_toArray, List.set_cons_zero, List.set_cons_succ]
          refine rg_take 9 rfl (by kernel_rfl) (by kernel_rfl) (by kernel_rfl) (fun _ _ _ _ h => h) (by rfl) ⟨_, fun w' hx => by (go_simp <;> with_reducible rfl), ?_⟩
          simp only [Act.put, List.setIfInBounds_toArray, List.set_cons_zero, List.set_cons_succ]
          refine rg_done (by kernel_rfl) ?_
          go_wp2_with (at_builtin; refine wpList_app rfl (.tmp 35) (.tmp 41) 23 rfl elemO w.heap.size D1 D.length c3 (ocs D) rfl (some ⟨wr.heap.size, 0, none⟩) 1 1 (ocs [a.gone]) rfl (D.length + 1) rfl (ocs (D ++ [a.gone])) (ocs_app _ _) (hown.below ((Below.refl wr.heap.size wr).drew.alloc (Nat.le_refl _) (.cells a.gone.cells 50))) (RdO.one wr.drew 50 a.gone (haw.below (Ext.drew _))).rd (ocs_one_cell _) (by omega) (by omega) (by simp; exact Nat.le_succ_of_le hbel.size) ?_; intro D2 c4 w4 ho4 hg4 hr4)
          go_roundw
          case rel =>
            refine ⟨H, b :: L, D ++ [a.gone], _, some bd, D2, c1 - 1, c2, c4, rfl, rfl, by rw [List.length_append]; rfl, by omega, by simpa using hc2, by simp; omega, (show _ = _ from by rw [hdf.out, List.map_cons, List.map_cons, hdu.out, if_pos hlt.out]; simp [EnV.gone]), HHt.out, hLc.out, by rw [List.length_append]; exact ho4, fun e he => by rcases List.mem_append.1 he with h9 | h9; exact hin e h9; simp at h9; subst h9; exact hain.gone, below_app (hbel.drew.alloc hbel.size _) (hown.below ((Below.refl wr.heap.size wr).drew.alloc (Nat.le_refl _) _)) hg4 (by simp; exact Nat.le_succ_of_le hbel.size)⟩
          case measure => simp [lenV]
        · rw [hz] at HC
          have hkey := Lib.hid ((compare_zero a.x.key b.x.key).1 hz)
          clear hz
          have HE := equal_any a.va b.va a.x.val b.x.val a.vc b.vc wr.drew.drew (hain.vr.below hbel.drew.drew) (hbin.vr.below hbel.drew.drew)
          by_cases hv : a.x.val = b.x.val
          · rw [show (a.x.val == b.x.val) = true from beq_iff_eq.2 hv] at HE
            have hv2 := Lib.hid hv
            clear hv
            go_wp2_with fail
            refine rg_start (by kernel_rfl) ?_
            refine rg_take 0 rfl (by kernel_rfl) (by kernel_rfl) (by kernel_rfl) (fun _ _ _ _ h => h) (by rfl) ⟨_, fun w' hx => by (go_simp <;> with_reducible rfl), ?_⟩
            simp only [Act.put, List.setIfInBounds_toArray, List.set_cons_zero, List.set_cons_succ]
            refine rg_take 1 rfl (by kernel_rfl) (by kernel_rfl) (by kernel_rfl) (fun _ _ _ _ h => h) (by rfl) ⟨_, fun w' hx => by (go_simp <;> with_reducible rfl), ?_⟩   -- t8 := indexAddr 22 t7 0:i64
            simp only [Act.put, List.setIfInBounds_toArray, List.set_cons_zero, List.set_cons_succ]
            refine rg_take 2 rfl (by kernel_rfl) (by kernel_rfl) (by kernel_rfl) (fun _ _ _ _ h => h) (by rfl) ⟨_, fun w' hx => by (go_simp <;> with_reducible rfl), ?_⟩   -- t9 := fieldAddr 48 t8 0
            simp only [Act.put, List.setIfInBounds_toArray, List.set_cons_zero, List.set_cons_succ]
            refine rg_take 3 rfl (by kernel_rfl) (by kernel_rfl) (by kernel_rfl) (fun _ _ _ _ h => h) (by rfl) ⟨_, fun w' hx => by have hcx := hx.load Ha.c0; (go_simp <;> with_reducible rfl), ?_⟩
            simp only [Act.put, List.setIfInBounds_toArray, List.set_cons_zero, List.set_cons_succ]
            refine rg_take 4 rfl (by kernel_rfl) (by kernel_rfl) (by kernel_rfl) (fun _ _ _ _ h => h) (by rfl) ⟨_, fun w' hx => by (go_simp <;> with_reducible rfl), ?_⟩
            simp only [Act.put, List.setIfInBounds_toArray, List.set_cons_zero, List.set_cons_succ]
            refine rg_take 5 rfl (by kernel_rfl) (by kernel_rfl) (by kernel_rfl) (fun _ _ _ _ h => h) (by rfl) ⟨_, fun w' hx => by (go_simp <;> with_reducible rfl), ?_⟩   -- t12 := indexAddr 22 t11 0:i64
            simp only [Act.put, List.setIfInBounds_toArray, List.set_cons_zero, List.set_cons_succ]
            refine rg_take 6 rfl (by kernel_rfl) (by kernel_rfl) (by kernel_rfl) (fun _ _ _ _ h => h) (by rfl) ⟨_, fun w' hx => by (go_simp <;> with_reducible rfl), ?_⟩   -- t13 := fieldAddr 48 t12 0
            simp only [Act.put, List.setIfInBounds_toArray, List.set_cons_zero, List.set_cons_succ]
            refine rg_take 7 rfl (by kernel_rfl) (by kernel_rfl) (by kernel_rfl) (fun _ _ _ _ h => h) (by rfl) ⟨_, fun w' hx => by have hcx := hx.load Hb.c0; (go_simp <;> with_reducible rfl), ?_⟩
            simp only [Act.put, List.setIfInBounds_toArray, List.set_cons_zero, List.set_cons_succ]
            refine rg_call 8 HC rfl (by kernel_rfl) (by rfl) (by go_simp) ?_
            rintro e w' ⟨rfl, rfl⟩
            refine ⟨_, rfl, Ext.refl _, ?_⟩
            simp only [Act.put, List.setIfInBounds_toArray, List.set_cons_zero, List.set_cons_succ]
            refine rg_take 9 rfl (by kernel_rfl) (by kernel_rfl) (by kernel_rfl) (fun _ _ _ _ h => h) (by rfl) ⟨_, fun w' hx => by (go_simp <;> with_reducible rfl), ?_⟩
            simp only [Act.put, List.setIfInBounds_toArray, List.set_cons_zero, List.set_cons_succ]
            refine rg_done (by kernel_rfl) ?_
            go_wp2_with fail
            refine rg_start (by kernel_rfl) ?_
            refine rg_take 0 rfl (by kernel_rfl) (by kernel_rfl) (by kernel_rfl) (fun _ _ _ _ h => h) (by rfl) ⟨_, fun w' hx => by (go_simp <;> with_reducible rfl), ?_⟩
            simp only [Act.put, List.setIfInBounds_toArray, List.set_cons_zero, List.set_cons_succ]
            refine rg_take 1 rfl (by kernel_rfl) (by kernel_rfl) (by kernel_rfl) (fun _ _ _ _ h => h) (by rfl) ⟨.bool false, fun w' hx => by (go_simp; try rfl), ?_⟩
            simp only [Act.put, List.setIfInBounds_toArray, List.set_cons_zero, List.set_cons_succ]
            refine rg_take 2 rfl (by kernel_rfl) (by kernel_rfl) (by kernel_rfl) (fun _ _ _ _ h => h) (by rfl) ⟨_, fun w' hx => by (go_simp <;> with_reducible rfl), ?_⟩
            simp only [Act.put, List.setIfInBounds_toArray, List.set_cons_zero, List.set_cons_succ]
            refine rg_take 3 rfl (by kernel_rfl) (by kernel_rfl) (by kernel_rfl) (fun _ _ _ _ h => h) (by rfl) ⟨_, fun w' hx => by (go_simp <;> with_reducible rfl), ?_⟩
            simp only [Act.put, List.setIfInBounds_toArray, List.set_cons_zero, List.set_cons_succ]
            refine rg_take 4 rfl (by kernel_rfl) (by kernel_rfl) (by kernel_rfl) (fun _ _ _ _ h => h) (by rfl) ⟨_, fun w' hx => by (go_simp <;> with_reducible rfl), ?_⟩   -- t49 := indexAddr 22 t48 0:i64
            simp only [Act.put, List.setIfInBounds_toArray, List.set_cons_zero, List.set_cons_succ]
            refine rg_take 5 rfl (by kernel_rfl) (by kernel_rfl) (by kernel_rfl) (fun _ _ _ _ h => h) (by rfl) ⟨_, fun w' hx => by (go_simp <;> with_reducible rfl), ?_⟩   -- t50 := fieldAddr 48 t49 1
            simp only [Act.put, List.setIfInBounds_toArray, List.set_cons_zero, List.set_cons_succ]
            refine rg_take 6 rfl (by kernel_rfl) (by kernel_rfl) (by kernel_rfl) (fun _ _ _ _ h => h) (by rfl) ⟨_, fun w' hx => by have hcx := hx.load Ha.c1; (go_simp <;> with_reducible rfl), ?_⟩
            simp only [Act.put, List.setIfInBounds_toArray, List.set_cons_zero, List.set_cons_succ]
            refine rg_take 7 rfl (by kernel_rfl) (by kernel_rfl) (by kernel_rfl) (fun _ _ _ _ h => h) (by rfl) ⟨_, fun w' hx => by (go_simp <;> with_reducible rfl), ?_⟩
            simp only [Act.put, List.setIfInBounds_toArray, List.set_cons_zero, List.set_cons_succ]
            refine rg_take 8 rfl (by kernel_rfl) (by kernel_rfl) (by kernel_rfl) (fun _ _ _ _ h => h) (by rfl) ⟨_, fun w' hx => by (go_simp <;> with_reducible rfl), ?_⟩   -- t53 := indexAddr 22 t52 0:i64
            simp only [Act.put, List.setIfInBounds_toArray, List.set_cons_zero, List.set_cons_succ]
            refine rg_take 9 rfl (by kernel_rfl) (by kernel_rfl) (by kernel_rfl) (fun _ _ _ _ h => h) (by rfl) ⟨_, fun w' hx => by (go_simp <;> with_reducible rfl), ?_⟩   -- t54 := fieldAddr 48 t53 1
            simp only [Act.put, List.setIfInBounds_toArray, List.set_cons_zero, List.set_cons_succ]
            refine rg_take 10 rfl (by kernel_rfl) (by kernel_rfl) (by kernel_rfl) (fun _ _ _ _ h => h) (by rfl) ⟨_, fun w' hx => by have hcx := hx.load Hb.c1; (go_simp <;> with_reducible rfl), ?_⟩
            simp only [Act.put, List.setIfInBounds_toArray, List.set_cons_zero, List.set_cons_succ]
            refine rg_call 11 HE rfl (by kernel_rfl) (by rfl) (by go_simp) ?_
            rintro e w' ⟨rfl, rfl⟩
            refine ⟨_, rfl, Ext.refl _, ?_⟩
            simp only [Act.put, List.setIfInBounds_toArray, List.set_cons_zero, List.set_cons_succ]
            refine rg_take 12 rfl (by kernel_rfl) (by kernel_rfl) (by kernel_rfl) (fun _ _ _ _ h => h) (by rfl) ⟨.bool false, fun w' hx => by (go_simp; try rfl), ?_⟩
            simp only [Act.put, List.setIfInBounds_toArray, List.set_cons_zero, List.set_cons_succ]
            refine rg_take 13 rfl (by kernel_rfl) (by kernel_rfl) (by kernel_rfl) (fun _ _ _ _ h => h) (by rfl) ⟨.bool false, fun w' hx => by (go_simp; try rfl), ?_⟩
            simp only [Act.put, List.setIfInBounds_toArray, List.set_cons_zero, List.set_cons_succ]
            refine rg_done (by kernel_rfl) ?_
            go_wp2_with fail
            go_roundw
            case rel =>
              refine ⟨H, L, D, _, _, D1, c1 - 1, c2 - 1, c3, rfl, rfl, rfl, by omega, by omega, by omega, (show _ = _ from by rw [hdf.out, List.map_cons, List.map_cons, hdu.out, hkey.out, ltB_irrefl, if_neg (by decide), if_neg (by decide), if_pos hv2.out]), HHt.out, HLt.out, hown.below ((Below.refl wr.heap.size wr).drew.drew), hin, hbel.drew.drew⟩
            case measure => simp [lenV]; omega
          · rw [show (a.x.val == b.x.val) = false from by rw [beq_eq_false_iff_ne]; exact hv] at HE
            have hv2 := Lib.hid hv
            clear hv
            go_wp2_with fail
            refine rg_start (by kernel_rfl) ?_
            refine rg_take 0 rfl (by kernel_rfl) (by kernel_rfl) (by kernel_rfl) (fun _ _ _ _ h => h) (by rfl) ⟨_, fun w' hx => by (go_simp <;> with_reducible rfl), ?_⟩
            simp only [Act.put, List.setIfInBounds_toArray, List.set_cons_zero, List.set_cons_succ]
            refine rg_take 1 rfl (by kernel_rfl) (by kernel_rfl) (by kernel_rfl) (fun _ _ _ _ h => h) (by rfl) ⟨_, fun w' hx => by (go_simp <;> with_reducible rfl), ?_⟩   -- t8 := indexAddr 22 t7 0:i64
            simp only [Act.put, List.setIfInBounds_toArray, List.set_cons_zero, List.set_cons_succ]
            refine rg_take 2 rfl (by kernel_rfl) (by kernel_rfl) (by kernel_rfl) (fun _ _ _ _ h => h) (by rfl) ⟨_, fun w' hx => by (go_simp <;> with_reducible rfl), ?_⟩   -- t9 := fieldAddr 48 t8 0
            simp only [Act.put, List.setIfInBounds_toArray, List.set_cons_zero, List.set_cons_succ]
            refine rg_take 3 rfl (by kernel_rfl) (by kernel_rfl) (by kernel_rfl) (fun _ _ _ _ h => h) (by rfl) ⟨_, fun w' hx => by have hcx := hx.load Ha.c0; (go_simp <;> with_reducible rfl), ?_⟩
            simp only [Act.put, List.setIfInBounds_toArray, List.set_cons_zero, List.set_cons_succ]
            refine rg_take 4 rfl (by kernel_rfl) (by kernel_rfl) (by kernel_rfl) (fun _ _ _ _ h => h) (by rfl) ⟨_, fun w' hx => by (go_simp <;> with_reducible rfl), ?_⟩
            simp only [Act.put, List.setIfInBounds_toArray, List.set_cons_zero, List.set_cons_succ]
            refine rg_take 5 rfl (by kernel_rfl) (by kernel_rfl) (by kernel_rfl) (fun _ _ _ _ h => h) (by rfl) ⟨_, fun w' hx => by (go_simp <;> with_reducible rfl), ?_⟩   -- t12 := indexAddr 22 t11 0:i64
            simp only [Act.put, List.setIfInBounds_toArray, List.set_cons_zero, List.set_cons_succ]
            refine rg_take 6 rfl (by kernel_rfl) (by kernel_rfl) (by kernel_rfl) (fun _ _ _ _ h => h) (by rfl) ⟨_, fun w' hx => by (go_simp <;> with_reducible rfl), ?_⟩   -- t13 := fieldAddr 48 t12 0
            simp only [Act.put, List.setIfInBounds_toArray, List.set_cons_zero, List.set_cons_succ]
            refine rg_take 7 rfl (by kernel_rfl) (by kernel_rfl) (by kernel_rfl) (fun _ _ _ _ h => h) (by rfl) ⟨_, fun w' hx => by have hcx := hx.load Hb.c0; (go_simp <;> with_reducible rfl), ?_⟩
            simp only [Act.put, List.setIfInBounds_toArray, List.set_cons_zero, List.set_cons_succ]
            refine rg_call 8 HC rfl (by kernel_rfl) (by rfl) (by go_simp) ?_
            rintro e w' ⟨rfl, rfl⟩
            refine ⟨_, rfl, Ext.refl _, ?_⟩
            simp only [Act.put, List.setIfInBounds_toArray, List.set_cons_zero, List.set_cons_succ]
            refine rg_take 9 rfl (by kernel_rfl) (by kernel_rfl) (by kernel_rfl) (fun _ _ _ _ h => h) (by rfl) ⟨_, fun w' hx => by (go_simp <;> with_reducible rfl), ?_⟩
            simp only [Act.put, List.setIfInBounds_toArray, List.set_cons_zero, List.set_cons_succ]
            refine rg_done (by kernel_rfl) ?_
            go_wp2_with fail
            refine rg_start (by kernel_rfl) ?_
            refine rg_take 0 rfl (by kernel_rfl) (by kernel_rfl) (by kernel_rfl) (fun _ _ _ _ h => h) (by rfl) ⟨_, fun w' hx => by (go_simp <;> with_reducible rfl), ?_⟩
            simp only [Act.put, List.setIfInBounds_toArray, List.set_cons_zero, List.set_cons_succ]
            refine rg_take 1 rfl (by kernel_rfl) (by kernel_rfl) (by kernel_rfl) (fun _ _ _ _ h => h) (by rfl) ⟨.bool false, fun w' hx => by (go_simp; try rfl), ?_⟩
            simp only [Act.put, List.setIfInBounds_toArray, List.set_cons_zero, List.set_cons_succ]
            refine rg_take 2 rfl (by kernel_rfl) (by kernel_rfl) (by kernel_rfl) (fun _ _ _ _ h => h) (by rfl) ⟨_, fun w' hx => by (go_simp <;> with_reducible rfl), ?_⟩
            simp only [Act.put, List.setIfInBounds_toArray, List.set_cons_zero, List.set_cons_succ]
            refine rg_take 3 rfl (by kernel_rfl) (by kernel_rfl) (by kernel_rfl) (fun _ _ _ _ h => h) (by rfl) ⟨_, fun w' hx => by (go_simp <;> with_reducible rfl), ?_⟩
            simp only [Act.put, List.setIfInBounds_toArray, List.set_cons_zero, List.set_cons_succ]
            refine rg_take 4 rfl (by kernel_rfl) (by kernel_rfl) (by kernel_rfl) (fun _ _ _ _ h => h) (by rfl) ⟨_, fun w' hx => by (go_simp <;> with_reducible rfl), ?_⟩   -- t49 := indexAddr 22 t48 0:i64
            simp only [Act.put, List.setIfInBounds_toArray, List.set_cons_zero, List.set_cons_succ]
            refine rg_take 5 rfl (by kernel_rfl) (by kernel_rfl) (by kernel_rfl) (fun _ _ _ _ h => h) (by rfl) ⟨_, fun w' hx => by (go_simp <;> with_reducible rfl), ?_⟩   -- t50 := fieldAddr 48 t49 1
            simp only [Act.put, List.setIfInBounds_toArray, List.set_cons_zero, List.set_cons_succ]
            refine rg_take 6 rfl (by kernel_rfl) (by kernel_rfl) (by kernel_rfl) (fun _ _ _ _ h => h) (by rfl) ⟨_, fun w' hx => by have hcx := hx.load Ha.c1; (go_simp <;> with_reducible rfl), ?_⟩
            simp only [Act.put, List.setIfInBounds_toArray, List.set_cons_zero, List.set_cons_succ]
            refine rg_take 7 rfl (by kernel_rfl) (by kernel_rfl) (by kernel_rfl) (fun _ _ _ _ h => h) (by rfl) ⟨_, fun w' hx => by (go_simp <;> with_reducible rfl), ?_⟩
            simp only [Act.put, List.setIfInBounds_toArray, List.set_cons_zero, List.set_cons_succ]
            refine rg_take 8 rfl (by kernel_rfl) (by kernel_rfl) (by kernel_rfl) (fun _ _ _ _ h => h) (by rfl) ⟨_, fun w' hx => by (go_simp <;> with_reducible rfl), ?_⟩   -- t53 := indexAddr 22 t52 0:i64
            simp only [Act.put, List.setIfInBounds_toArray, List.set_cons_zero, List.set_cons_succ]
            refine rg_take 9 rfl (by kernel_rfl) (by kernel_rfl) (by kernel_rfl) (fun _ _ _ _ h => h) (by rfl) ⟨_, fun w' hx => by (go_simp <;> with_reducible rfl), ?_⟩   -- t54 := fieldAddr 48 t53 1
            simp only [Act.put, List.setIfInBounds_toArray, List.set_cons_zero, List.set_cons_succ]
            refine rg_take 10 rfl (by kernel_rfl) (by kernel_rfl) (by kernel_rfl) (fun _ _ _ _ h => h) (by rfl) ⟨_, fun w' hx => by have hcx := hx.load Hb.c1; (go_simp <;> with_reducible rfl), ?_⟩
            simp only [Act.put, List.setIfInBounds_toArray, List.set_cons_zero, List.set_cons_succ]
            refine rg_call 11 HE rfl (by kernel_rfl) (by rfl) (by go_simp) ?_
            rintro e w' ⟨rfl, rfl⟩
            refine ⟨_, rfl, Ext.refl _, ?_⟩
            simp only [Act.put, List.setIfInBounds_toArray, List.set_cons_zero, List.set_cons_succ]
            refine rg_take 12 rfl (by kernel_rfl) (by kernel_rfl) (by kernel_rfl) (fun _ _ _ _ h => h) (by rfl) ⟨.bool true, fun w' hx => by (go_simp; try rfl), ?_⟩
            simp only [Act.put, List.setIfInBounds_toArray, List.set_cons_zero, List.set_cons_succ]
            refine rg_take 13 rfl (by kernel_rfl) (by kernel_rfl) (by kernel_rfl) (fun _ _ _ _ h => h) (by rfl) ⟨.bool true, fun w' hx => by (go_simp; try rfl), ?_⟩
            simp only [Act.put, List.setIfInBounds_toArray, List.set_cons_zero, List.set_cons_succ]
            refine rg_done (by kernel_rfl) ?_
            go_wp2_with fail
            refine rg_start (by kernel_rfl) ?_
            refine rg_take 0 rfl (by kernel_rfl) (by kernel_rfl) (by kernel_rfl) (fun _ _ _ _ h => h) (by rfl) ⟨_, fun w' hx => by (go_simp <;> with_reducible rfl), ?_⟩
            simp only [Act.put, List.setIfInBounds_toArray, List.set_cons_zero, List.set_cons_succ]
            refine rg_take 1 rfl (by kernel_rfl) (by kernel_rfl) (by kernel_rfl) (fun _ _ _ _ h => h) (by rfl) ⟨_, fun w' hx => by (go_simp <;> with_reducible rfl), ?_⟩
            simp only [Act.put, List.setIfInBounds_toArray, List.set_cons_zero, List.set_cons_succ]
            refine rg_take 2 rfl (by kernel_rfl) (by kernel_rfl) (by kernel_rfl) (fun _ _ _ _ h => h) (by rfl) ⟨_, fun w' hx => by (go_simp <;> with_reducible rfl), ?_⟩   -- t61 := indexAddr 22 t60 0:i64
            simp only [Act.put, List.setIfInBounds_toArray, List.set_cons_zero, List.set_cons_succ]
            refine rg_take 3 rfl (by kernel_rfl) (by kernel_rfl) (by kernel_rfl) (fun _ _ _ _ h => h) (by rfl) ⟨_, fun w' hx => by (go_simp <;> with_reducible rfl), ?_⟩   -- t62 := fieldAddr 48 t61 0
            simp only [Act.put, List.setIfInBounds_toArray, List.set_cons_zero, List.set_cons_succ]
            refine rg_take 4 rfl (by kernel_rfl) (by kernel_rfl) (by kernel_rfl) (fun _ _ _ _ h => h) (by rfl) ⟨_, fun w' hx => by have hcx := hx.load Hb.c0; (go_simp <;> with_reducible rfl), ?_⟩
            simp only [Act.put, List.setIfInBounds_toArray, List.set_cons_zero, List.set_cons_succ]
            refine rg_take 5 rfl (by kernel_rfl) (by kernel_rfl) (by kernel_rfl) (fun _ _ _ _ h => h) (by rfl) ⟨_, fun w' hx => by (go_simp <;> with_reducible rfl), ?_⟩
            simp only [Act.put, List.setIfInBounds_toArray, List.set_cons_zero, List.set_cons_succ]
            refine rg_take 6 rfl (by kernel_rfl) (by kernel_rfl) (by kernel_rfl) (fun _ _ _ _ h => h) (by rfl) ⟨_, fun w' hx => by (go_simp <;> with_reducible rfl), ?_⟩   -- t65 := indexAddr 22 t64 0:i64
            simp only [Act.put, List.setIfInBounds_toArray, List.set_cons_zero, List.set_cons_succ]
            refine rg_take 7 rfl (by kernel_rfl) (by kernel_rfl) (by kernel_rfl) (fun _ _ _ _ h => h) (by rfl) ⟨_, fun w' hx => by (go_simp <;> with_reducible rfl), ?_⟩   -- t66 := fieldAddr 48 t65 1
            simp only [Act.put, List.setIfInBounds_toArray, List.set_cons_zero, List.set_cons_succ]
            refine rg_take 8 rfl (by kernel_rfl) (by kernel_rfl) (by kernel_rfl) (fun _ _ _ _ h => h) (by rfl) ⟨_, fun w' hx => by have hcx := hx.load Hb.c1; (go_simp <;> with_reducible rfl), ?_⟩
            simp only [Act.put, List.setIfInBounds_toArray, List.set_cons_zero, List.set_cons_succ]
            refine rg_take 9 rfl (by kernel_rfl) (by kernel_rfl) (by kernel_rfl) (fun _ _ _ _ h => h) (by rfl) ⟨.agg b.puts.cells, fun w' hx => by (go_simp <;> rfl), ?_⟩
            simp only [Act.put, List.setIfInBounds_toArray, List.set_cons_zero, List.set_cons_succ]
            refine rg_make 10 rfl (by kernel_rfl) (by rfl) ⟨_, _, ex_buildOne 23 (.tmp 68) rfl elemO b.puts.cells rfl rfl (by decide), Ext.alloc _ _, ?_⟩
            simp only [Act.put, List.setIfInBounds_toArray, List.set_cons_zero, List.set_cons_succ]
            refine rg_one 11 rfl (by kernel_rfl) (by rfl) (wp_app (.tmp 59) (.tmp 69) 23 rfl elemO w.heap.size D1 D.length c3 (ocs D) rfl (some ⟨wr.heap.size, 0, none⟩) 1 1 (ocs [b.puts]) rfl (D.length + 1) rfl (ocs (D ++ [b.puts])) (ocs_app _ _) (hown.below (((Below.refl wr.heap.size wr).drew.drew.drew).alloc (Nat.le_refl _) (.cells b.puts.cells 50))) (RdO.one wr.drew.drew.drew 50 b.puts (hbw.below ((Below.refl wr.heap.size wr).drew.drew.drew))).rd (ocs_one_cell _) (by omega) (by omega) (by rw [World.size_alloc]; exact Nat.le_succ_of_le hbel.size) (fun D2 c4 w4 ho4 hg4 hr4 => ⟨.inr (by kernel_rfl), ?_⟩))
            simp only [Act.put, List.setIfInBounds_toArray, List.set_cons_zero, List.set_cons_succ]
            refine rg_take 12 rfl (by kernel_rfl) (by kernel_rfl) (by kernel_rfl) (fun _ _ _ _ h => h) (by rfl) ⟨_, fun w' hx => by (go_simp <;> with_reducible rfl), ?_⟩
            simp only [Act.put, List.setIfInBounds_toArray, List.set_cons_zero, List.set_cons_succ]
            refine rg_done (by kernel_rfl) ?_
            go_wp2_with fail
            go_roundw
            case rel =>
              refine ⟨H, L, D ++ [b.puts], _, _, D2, c1 - 1, c2 - 1, c4, rfl, rfl, by rw [List.length_append]; rfl, by omega, by omega, by simp; omega, (show _ = _ from by rw [hdf.out, List.map_cons, List.map_cons, hdu.out, hkey.out, ltB_irrefl, if_neg (by decide), if_neg (by decide), if_neg hv2.out]; simp [EnV.puts]), HHt.out, HLt.out, by rw [List.length_append]; exact ho4, fun e he => by rcases List.mem_append.1 he with h9 | h9; exact hin e h9; simp at h9; subst h9; exact hbin.puts, below_app (hbel.drew.drew.drew.alloc hbel.size _) (hown.below ((Below.refl wr.heap.size wr).drew.drew.drew.alloc (Nat.le_refl _) _)) hg4 (by simp; exact Nat.le_succ_of_le hbel.size)⟩
            case measure => simp [lenV]; omega
        · rw [hz] at HC
          have hgt := Lib.hid ((compare_lt b.x.key a.x.key).1 (by rw [compare_swap, hz]; decide))
          clear hz
          go_wp2_with fail
          refine rg_start (by kernel_rfl) ?_
          refine rg_take 0 rfl (by kernel_rfl) (by kernel_rfl) (by kernel_rfl) (fun _ _ _ _ h => h) (by rfl) ⟨_, fun w' hx => by (go_simp <;> with_reducible rfl), ?_⟩
          simp only [Act.put, List.setIfInBounds_toArray, List.set_cons_zero, List.set_cons_succ]
          refine rg_take 1 rfl (by kernel_rfl) (by kernel_rfl) (by kernel_rfl) (fun _ _ _ _ h => h) (by rfl) ⟨_, fun w' hx => by (go_simp <;> with_reducible rfl), ?_⟩   -- t8 := indexAddr 22 t7 0:i64
          simp only [Act.put, List.setIfInBounds_toArray, List.set_cons_zero, List.set_cons_succ]
          refine rg_take 2 rfl (by kernel_rfl) (by kernel_rfl) (by kernel_rfl) (fun _ _ _ _ h => h) (by rfl) ⟨_, fun w' hx => by (go_simp <;> with_reducible rfl), ?_⟩   -- t9 := fieldAddr 48 t8 0
          simp only [Act.put, List.setIfInBounds_toArray, List.set_cons_zero, List.set_cons_succ]
          refine rg_take 3 rfl (by kernel_rfl) (by kernel_rfl) (by kernel_rfl) (fun _ _ _ _ h => h) (by rfl) ⟨_, fun w' hx => by have hcx := hx.load Ha.c0; (go_simp <;> with_reducible rfl), ?_⟩
          simp only [Act.put, List.setIfInBounds_toArray, List.set_cons_zero, List.set_cons_succ]
          refine rg_take 4 rfl (by kernel_rfl) (by kernel_rfl) (by kernel_rfl) (fun _ _ _ _ h => h) (by rfl) ⟨_, fun w' hx => by (go_simp <;> with_reducible rfl), ?_⟩
          simp only [Act.put, List.setIfInBounds_toArray, List.set_cons_zero, List.set_cons_succ]
          refine rg_take 5 rfl (by kernel_rfl) (by kernel_rfl) (by kernel_rfl) (fun _ _ _ _ h => h) (by rfl) ⟨_, fun w' hx => by (go_simp <;> with_reducible rfl), ?_⟩   -- t12 := indexAddr 22 t11 0:i64
          simp only [Act.put, List.setIfInBounds_toArray, List.set_cons_zero, List.set_cons_succ]
          refine rg_take 6 rfl (by kernel_rfl) (by kernel_rfl) (by kernel_rfl) (fun _ _ _ _ h => h) (by rfl) ⟨_, fun w' hx => by (go_simp <;> with_reducible rfl), ?_⟩   -- t13 := fieldAddr 48 t12 0
          simp only [Act.put, List.setIfInBounds_toArray, List.set_cons_zero, List.set_cons_succ]
          refine rg_take 7 rfl (by kernel_rfl) (by kernel_rfl) (by kernel_rfl) (fun _ _ _ _ h => h) (by rfl) ⟨_, fun w' hx => by have hcx := hx.load Hb.c0; (go_simp <;> with_reducible rfl), ?_⟩
          simp only [Act.put, List.setIfInBounds_toArray, List.set_cons_zero, List.set_cons_succ]
          refine rg_call 8 HC rfl (by kernel_rfl) (by rfl) (by go_simp) ?_
          rintro e w' ⟨rfl, rfl⟩
          refine ⟨_, rfl, Ext.refl _, ?_⟩
          simp only [Act.put, List.setIfInBounds_toArray, List.set_cons_zero, List.set_cons_succ]
          refine rg_take 9 rfl (by kernel_rfl) (by kernel_rfl) (by kernel_rfl) (fun _ _ _ _ h => h) (by rfl) ⟨_, fun w' hx => by (go_simp <;> with_reducible rfl), ?_⟩
          simp only [Act.put, List.setIfInBounds_toArray, List.set_cons_zero, List.set_cons_succ]
          refine rg_done (by kernel_rfl) ?_
          go_wp2_with fail
          refine rg_start (by kernel_rfl) ?_
          refine rg_take 0 rfl (by kernel_rfl) (by kernel_rfl) (by kernel_rfl) (fun _ _ _ _ h => h) (by rfl) ⟨_, fun w' hx => by (go_simp <;> with_reducible rfl), ?_⟩
          simp only [Act.put, List.setIfInBounds_toArray, List.set_cons_zero, List.set_cons_succ]
          refine rg_take 1 rfl (by kernel_rfl) (by kernel_rfl) (by kernel_rfl) (fun _ _ _ _ h => h) (by rfl) ⟨.bool true, fun w' hx => by (go_simp; try rfl), ?_⟩
          simp only [Act.put, List.setIfInBounds_toArray, List.set_cons_zero, List.set_cons_succ]
          refine rg_take 2 rfl (by kernel_rfl) (by kernel_rfl) (by kernel_rfl) (fun _ _ _ _ h => h) (by rfl) ⟨_, fun w' hx => by (go_simp <;> with_reducible rfl), ?_⟩
          simp only [Act.put, List.setIfInBounds_toArray, List.set_cons_zero, List.set_cons_succ]
          refine rg_skip 3 rfl (by kernel_rfl) (by kernel_rfl) (by kernel_rfl) (fun _ _ _ _ h => h) (by rfl) ?_
          simp only [Act.put, List.setIfInBounds_toArray, List.set_cons_zero, List.set_cons_succ]
          refine rg_skip 4 rfl (by kernel_rfl) (by kernel_rfl) (by kernel_rfl) (fun _ _ _ _ h => h) (by rfl) ?_
          simp only [Act.put, List.setIfInBounds_toArray, List.set_cons_zero, List.set_cons_succ]
          refine rg_skip 5 rfl (by kernel_rfl) (by kernel_rfl) (by kernel_rfl) (fun _ _ _ _ h => h) (by rfl) ?_
          simp only [Act.put, List.setIfInBounds_toArray, List.set_cons_zero, List.set_cons_succ]
          refine rg_skip 6 rfl (by kernel_rfl) (by kernel_rfl) (by kernel_rfl) (fun _ _ _ _ h => h) (by rfl) ?_
          simp only [Act.put, List.setIfInBounds_toArray, List.set_cons_zero, List.set_cons_succ]
          refine rg_skip 7 rfl (by kernel_rfl) (by kernel_rfl) (by kernel_rfl) (fun _ _ _ _ h => h) (by rfl) ?_
          simp only [Act.put, List.setIfInBounds_toArray, List.set_cons_zero, List.set_cons_succ]
          refine rg_skip 8 rfl (by kernel_rfl) (by kernel_rfl) (by kernel_rfl) (fun _ _ _ _ h => h) (by rfl) ?_
          simp only [Act.put, List.setIfInBounds_toArray, List.set_cons_zero, List.set_cons_succ]
          refine rg_skip 9 rfl (by kernel_rfl) (by kernel_rfl) (by kernel_rfl) (fun _ _ _ _ h => h) (by rfl) ?_
          simp only [Act.put, List.setIfInBounds_toArray, List.set_cons_zero, List.set_cons_succ]
          refine rg_skip 10 rfl (by kernel_rfl) (by kernel_rfl) (by kernel_rfl) (fun _ _ _ _ h => h) (by rfl) ?_
          simp only [Act.put, List.setIfInBounds_toArray, List.set_cons_zero, List.set_cons_succ]
          refine rg_skip 11 rfl (by kernel_rfl) (by kernel_rfl) (by kernel_rfl) (fun _ _ _ _ h => h) (by rfl) ?_
          simp only [Act.put, List.setIfInBounds_toArray, List.set_cons_zero, List.set_cons_succ]
          refine rg_skip 12 rfl (by kernel_rfl) (by kernel_rfl) (by kernel_rfl) (fun _ _ _ _ h => h) (by rfl) ?_
          simp only [Act.put, List.setIfInBounds_toArray, List.set_cons_zero, List.set_cons_succ]
          refine rg_take 13 rfl (by kernel_rfl) (by kernel_rfl) (by kernel_rfl) (fun _ _ _ _ h => h) (by rfl) ⟨_, fun w' hx => by (go_simp <;> with_reducible rfl), ?_⟩
          simp only [Act.put, List.setIfInBounds_toArray, List.set_cons_zero, List.set_cons_succ]
          refine rg_done (by kernel_rfl) ?_
          go_wp2_with fail
          refine rg_start (by kernel_rfl) ?_
          refine rg_take 0 rfl (by kernel_rfl) (by kernel_rfl) (by kernel_rfl) (fun _ _ _ _ h => h) (by rfl) ⟨_, fun w' hx => by (go_simp <;> with_reducible rfl), ?_⟩
          simp only [Act.put, List.setIfInBounds_toArray, List.set_cons_zero, List.set_cons_succ]
          refine rg_take 1 rfl (by kernel_rfl) (by kernel_rfl) (by kernel_rfl) (fun _ _ _ _ h => h) (by rfl) ⟨_, fun w' hx => by (go_simp <;> with_reducible rfl), ?_⟩
          simp only [Act.put, List.setIfInBounds_toArray, List.set_cons_zero, List.set_cons_succ]
          refine rg_take 2 rfl (by kernel_rfl) (by kernel_rfl) (by kernel_rfl) (fun _ _ _ _ h => h) (by rfl) ⟨_, fun w' hx => by (go_simp <;> with_reducible rfl), ?_⟩   -- t61 := indexAddr 22 t60 0:i64
          simp only [Act.put, List.setIfInBounds_toArray, List.set_cons_zero, List.set_cons_succ]
          refine rg_take 3 rfl (by kernel_rfl) (by kernel_rfl) (by kernel_rfl) (fun _ _ _ _ h => h) (by rfl) ⟨_, fun w' hx => by (go_simp <;> with_reducible rfl), ?_⟩   -- t62 := fieldAddr 48 t61 0
          simp only [Act.put, List.setIfInBounds_toArray, List.set_cons_zero, List.set_cons_succ]
          refine rg_take 4 rfl (by kernel_rfl) (by kernel_rfl) (by kernel_rfl) (fun _ _ _ _ h => h) (by rfl) ⟨_, fun w' hx => by have hcx := hx.load Hb.c0; (go_simp <;> with_reducible rfl), ?_⟩
          simp only [Act.put, List.setIfInBounds_toArray, List.set_cons_zero, List.set_cons_succ]
          refine rg_take 5 rfl (by kernel_rfl) (by kernel_rfl) (by kernel_rfl) (fun _ _ _ _ h => h) (by rfl) ⟨_, fun w' hx => by (go_simp <;> with_reducible rfl), ?_⟩
          simp only [Act.put, List.setIfInBounds_toArray, List.set_cons_zero, List.set_cons_succ]
          refine rg_take 6 rfl (by kernel_rfl) (by kernel_rfl) (by kernel_rfl) (fun _ _ _ _ h => h) (by rfl) ⟨_, fun w' hx => by (go_simp <;> with_reducible rfl), ?_⟩   -- t65 := indexAddr 22 t64 0:i64
          simp only [Act.put, List.setIfInBounds_toArray, List.set_cons_zero, List.set_cons_succ]
          refine rg_take 7 rfl (by kernel_rfl) (by kernel_rfl) (by kernel_rfl) (fun _ _ _ _ h => h) (by rfl) ⟨_, fun w' hx => by (go_simp <;> with_reducible rfl), ?_⟩   -- t66 := fieldAddr 48 t65 1
          simp only [Act.put, List.setIfInBounds_toArray, List.set_cons_zero, List.set_cons_succ]
          refine rg_take 8 rfl (by kernel_rfl) (by kernel_rfl) (by kernel_rfl) (fun _ _ _ _ h => h) (by rfl) ⟨_, fun w' hx => by have hcx := hx.load Hb.c1; (go_simp <;> with_reducible rfl), ?_⟩
          simp only [Act.put, List.setIfInBounds_toArray, List.set_cons_zero, List.set_cons_succ]
          refine rg_take 9 rfl (by kernel_rfl) (by kernel_rfl) (by kernel_rfl) (fun _ _ _ _ h => h) (by rfl) ⟨.agg b.puts.cells, fun w' hx => by (go_simp <;> rfl), ?_⟩
          simp only [Act.put, List.setIfInBounds_toArray, List.set_cons_zero, List.set_cons_succ]
          refine rg_make 10 rfl (by kernel_rfl) (by rfl) ⟨_, _, ex_buildOne 23 (.tmp 68) rfl elemO b.puts.cells rfl rfl (by decide), Ext.alloc _ _, ?_⟩
          simp only [Act.put, List.setIfInBounds_toArray, List.set_cons_zero, List.set_cons_succ]
          refine rg_one 11 rfl (by kernel_rfl) (by rfl) (wp_app (.tmp 59) (.tmp 69) 23 rfl elemO w.heap.size D1 D.length c3 (ocs D) rfl (some ⟨wr.heap.size, 0, none⟩) 1 1 (ocs [b.puts]) rfl (D.length + 1) rfl (ocs (D ++ [b.puts])) (ocs_app _ _) (hown.below (((Below.refl wr.heap.size wr).drew.drew.drew).alloc (Nat.le_refl _) (.cells b.puts.cells 50))) (RdO.one wr.drew.drew.drew 50 b.puts (hbw.below ((Below.refl wr.heap.size wr).drew.drew.drew))).rd (ocs_one_cell _) (by omega) (by omega) (by rw [World.size_alloc]; exact Nat.le_succ_of_le hbel.size) (fun D2 c4 w4 ho4 hg4 hr4 => ⟨.inr (by kernel_rfl), ?_⟩))
          simp only [Act.put, List.setIfInBounds_toArray, List.set_cons_zero, List.set_cons_succ]
          refine rg_take 12 rfl (by kernel_rfl) (by kernel_rfl) (by kernel_rfl) (fun _ _ _ _ h => h) (by rfl) ⟨_, fun w' hx => by (go_simp <;> with_reducible rfl), ?_⟩
          simp only [Act.put, List.setIfInBounds_toArray, List.set_cons_zero, List.set_cons_succ]
          refine rg_done (by kernel_rfl) ?_
          go_wp2_with fail
          go_roundw
          case rel =>
            refine ⟨a :: H, L, D ++ [b.puts], some ad, _, D2, c1, c2 - 1, c4, rfl, rfl, by rw [List.length_append]; rfl, by simpa using hc1, by omega, by simp; omega, (show _ = _ from by rw [hdf.out, List.map_cons, List.map_cons, hdu.out, ltB_asymm hgt.out, if_neg (by decide), if_pos hgt.out]; simp [EnV.puts]), hHc.out, HLt.out, by rw [List.length_append]; exact ho4, fun e he => by rcases List.mem_append.1 he with h9 | h9; exact hin e h9; simp at h9; subst h9; exact hbin.puts, below_app (hbel.drew.drew.drew.alloc hbel.size _) (hown.below ((Below.refl wr.heap.size wr).drew.drew.drew.alloc (Nat.le_refl _) _)) hg4 (by simp; exact Nat.le_succ_of_le hbel.size)⟩
          case measure => simp [lenV]
end Go.Proofs.Ytdekdblebflklaa
