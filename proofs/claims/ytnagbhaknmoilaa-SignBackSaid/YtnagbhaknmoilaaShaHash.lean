
/- The program's digest that is being made: bytes taken in (Write). -/

import Derived.Test.YtnagbhaknmoilaaShaTake

import Derived.Test.YtnagbhaknmoilaaClone

namespace Go.Proofs.Ytnagbhaknmoilaa

open Go.RowKit

/-- All but the block g, and one row, is as it was. -/
structure KeptG (w w' : World) (g : Nat) (row : Option Nat) : Prop where
  os : w'.os = w.os
  tape : w'.tape = w.tape
  output : w'.output = w.output
  size : w.heap.size ≤ w'.heap.size
  block : ∀ i, i < w.heap.size → i ≠ g → some i ≠ row → w'.heap[i]? = w.heap[i]?
theorem KeptG.below {w w' : World} {g : Nat} {row : Option Nat} (h : KeptG w w' g row) {B : Nat} (hB : B ≤ w.heap.size) (hg : B ≤ g) (hr : ∀ k, row = some k → B ≤ k) : Below B w w' :=
  ⟨h.os, h.tape, h.output, h.size, fun i hi => h.block i (by omega) (by omega) (fun e => by have := hr i e.symm; omega)⟩
theorem KeptG.take {w a b : World} {g : Nat} {row : Option Nat} (h : KeptG w a g row) (k : a.grownBy b (some g)) : KeptG w b g row :=
  ⟨k.os.trans h.os, k.tape.trans h.tape, k.output.trans h.output, Nat.le_trans h.size k.size, fun i hi h1 h2 => (k.block i (Nat.lt_of_lt_of_le hi h.size) (fun e => h1 (by cases e; rfl))).trans (h.block i hi h1 h2)⟩
theorem KeptG.ext {w a b : World} {g : Nat} {row : Option Nat} (h : KeptG w a g row) (k : Ext a b) : KeptG w b g row := h.take (grown_ext k (some g))
theorem KeptG.row {w a b : World} {g : Nat} {row : Option Nat} (h : KeptG w a g row) (k : a.grownBy b row) : KeptG w b g row :=
  ⟨k.os.trans h.os, k.tape.trans h.tape, k.output.trans h.output, Nat.le_trans h.size k.size, fun i hi h1 h2 => (k.block i (Nat.lt_of_lt_of_le hi h.size) (fun e => h2 e)).trans (h.block i hi h1 h2)⟩
theorem KeptG.refl (w : World) (g : Nat) (row : Option Nat) : KeptG w w g row := ⟨rfl, rfl, rfl, Nat.le_refl _, fun _ _ _ _ => rfl⟩
theorem Rd.drew_ {w : World} {size n : Nat} {A : Option Addr} {xs : List Value} (h : Rd w size A n xs) : Rd w.drew size A n xs := h
theorem grown_cell (w : World) (g i : Nat) (x : Value) : w.grownBy (w.setCell ⟨g, i, none⟩ x) (some g) := grownBy_cell ⟨rfl, rfl, rfl, Nat.le_refl _, fun _ _ _ => rfl⟩ i x

section

variable {P : Program} {ops : Array Oper} {md : Region.Mode} {Q : Exit → Act → World → Prop}

/-- A call that may change anything, the only operation that may come up now; it waits for all that came. -/
theorem rg_callW (i : Nat) {oi : Oper} {fuel : Nat} {listed : Array Bool} {a : Act} {w : World} {f : FuncId} {args : Array Value} {R : Ending → World → Prop} (hc : Calls P f args w R) (hi0 : ops.toList[i]? = some oi)
    (hr : Region.ready md ops listed = [i]) (hwt : waits md ops listed i = true) (hw : Region.wanted oi (yielded ops a.tmps) = true)
    (hx : (execOp a.eval oi).run P w = .ok (.enter f args) w)
    (h : ∀ e w', R e w' → ∃ v, e = .returned v ∧ wpAnyR P md ops Q fuel (listed.setIfInBounds i true) (a.put oi.dst v) w') : wpAnyR P md ops Q (fuel + 1) listed a w := by
  refine rg_one i hi0 hr hw ?_
  unfold Oper.wp
  rw [hx, Oper.upon_enter]
  refine hc.mono fun e w' hR => ?_
  obtain ⟨v, rfl, h2⟩ := h e w' hR
  exact ⟨.inr hwt, h2⟩
end

def lenV : Value → Nat
  | .slice _ l _ => l
  | _ => 0

set_option maxRecDepth 100000 in
set_option maxHeartbeats 2000000 in
theorem write_any (g : Nat) (s : Sha.St) (rs : List UInt8) (R : Option Addr) (cr n base : Nat) (A : Option Addr) (p : List UInt8) (cap : Nat) (w : World)
    (hg : w.heap[g]? = some (.cells (hashC s (.slice R rs.length cr) n) 78 (0, 0))) (hR : Own w base 5 1 R rs.length cr (bvs rs)) (hbs : base ≤ w.heap.size) (hne : ∀ k, ownRow R cr = some k → k ≠ g) (hA : RdB w A p) (hAg : p ≠ [] → ∀ ad, A = some ad → ad.block ≠ g)
    (hl : rs.length + p.length ≤ 1000000) (hn : n + p.length < 18446744073709551616) :
    Calls Try.prog 28 #[.pointer (some ⟨g, 0, none⟩), .slice A p.length cap] w fun e w' => ∃ A' c', e = .returned (.int .i64 (p.length : Int)) ∧
      w'.heap[g]? = some (.cells (hashC (Sha.run s (rs ++ p) ((rs ++ p).length / 64)) (.slice A' ((rs ++ p).drop (64 * ((rs ++ p).length / 64))).length c') (n + p.length)) 78 (0, 0)) ∧
      Own w' w.heap.size 5 1 A' ((rs ++ p).drop (64 * ((rs ++ p).length / 64))).length c' (bvs ((rs ++ p).drop (64 * ((rs ++ p).length / 64)))) ∧ KeptG w w' g (ownRow R cr) := by
  have hgl := lt_of_heap hg
  have c9 : w.cell? ⟨g, 9, none⟩ = some (.int .u64 (n : Int)) := cell_of_row w g 9 _ _ _ hg
  have f9 : w.frozen? ⟨g, 9, none⟩ = false := frozen_of_row w _ _ _ _ hg
  have hw1 : IntKind.u64.wrap (p.length : Int) = (p.length : Int) := wrap_u64 _ (by omega)
  have hw2 : IntKind.u64.wrap ((n : Int) + (p.length : Int)) = ((n + p.length : Nat) : Int) := by rw [← Int.natCast_add]; exact wrap_u64 _ hn
  obtain ⟨W1, hW1⟩ : ∃ W1, W1 = w.setCell ⟨g, 9, none⟩ (.int .u64 ((n : Int) + (p.length : Int))) := ⟨_, rfl⟩
  have hG1 : w.grownBy W1 (some g) := by rw [hW1]; exact grown_cell w g 9 _
  have hg1 : W1.heap[g]? = some (.cells (hashC s (.slice R rs.length cr) (n + p.length)) 78 (0, 0)) := by
    have h9 := heap_setCell_same w g 9 _ _ (.int .u64 ((n : Int) + (p.length : Int))) hg
    rw [hW1, show (n + p.length : Nat) = ((n + p.length : Nat)) from rfl]
    rw [h9]
    simp [hashC]
  have hK1 : KeptG w W1 g (ownRow R cr) := (KeptG.refl w g _).take hG1
  have hR1 : Own W1 base 5 1 R rs.length cr (bvs rs) := hR.kept hG1 (fun k hk e => hne k hk (by cases e; rfl))
  have hA1 : RdB W1 A p := by
    by_cases hp0 : p = []
    · rw [hp0]; exact RdB.nil_ _ _
    · exact Rd.grown hA hG1 (fun ad h e => hAg hp0 ad h (by cases e; rfl))
  have c8 : W1.cell? ⟨g, 8, none⟩ = some (.slice R rs.length cr) := cell_of_row W1 g 8 _ _ _ hg1
  have c8' : (w.setCell ⟨g, 9, none⟩ (.int .u64 ((n : Int) + (p.length : Int)))).cell? ⟨g, 8, none⟩ = some (.slice R rs.length cr) := by rw [← hW1]; exact c8
  have HW1 := Lib.hid hW1
  have hs1 : base ≤ W1.heap.size := Nat.le_trans hbs hK1.size
  clear hW1
  have hlen : (rs ++ p).length = rs.length + p.length := List.length_append
  have happ := bvs_app rs p
  obtain ⟨D, hD⟩ : ∃ D, D = rs ++ p := ⟨_, rfl⟩
  rw [← hD] at hlen happ ⊢
  clear hD
  have Happ := Lib.hid happ
  have Hlen := Lib.hid hlen
  clear happ hlen
  have hlD := Hlen.out
  rw [← hlD] at hl
  clear hlD
  go_enter Try.func28, Try.ntmps28
  go_wp2_with (at_builtin; rw [← HW1.out]; refine wpList_app rfl (.tmp 21) (.tmp 22) 22 rfl elemB base R rs.length cr (bvs rs) rfl A p.length cap (bvs p) rfl D.length Hlen.out (bvs D) Happ.out hR1 hA1 (bvs_one _) (by omega) (by omega) hs1 ?_; intro A2 c2 w2 ho2 hg2 hr2)
  have hgr : g < W1.heap.size := lt_of_heap hg1
  have hg2g : w2.heap[g]? = some (.cells (hashC s (.slice R rs.length cr) (n + p.length)) 78 (0, 0)) := (hg2.block g hgr (fun e => hne g e.symm rfl)).trans hg1
  have hK2 : KeptG w w2 g (ownRow R cr) := hK1.row hg2
  have hA2g : ∀ ad, A2 = some ad → 0 < D.length → ad.block ≠ g := by
    intro ad h h0 e
    have h1 := ho2.nc
    rcases ho2.mem with h2 | ⟨g', off, cur, h3, _⟩
    · omega
    · rw [h3] at h
      cases h
      have h4 : ownRow A2 c2 = some g' := by unfold ownRow; rw [if_neg (by omega), h3]; rfl
      rcases hr2 with h5 | h5
      · rw [h4] at h5
        exact hne g' h5.symm e
      · rw [h4] at h5
        cases h5
        have := hgr
        exact absurd e (by show W1.heap.size ≠ g; omega)
  have hrd2 : RdB w2 A2 D := ho2.rd'
  have hn2 := ho2.nc
  have Hne := Lib.hid hne
  clear hr2 hG1 hK1 hR1 hA1 c8 c8' c9 f9 hw1 hw2 hg2 hg1 hgr ho2 HW1 hs1 hR hne hg hA hAg hn Hlen Happ
  go_loopw [5] (fun b wr => ∃ (k : Nat) (A' : Option Addr) (c' : Nat), 64 * k ≤ D.length ∧ b = .slice A' (D.length - 64 * k) c' ∧ RdB wr A' (D.drop (64 * k)) ∧ D.length - 64 * k ≤ c' ∧ (∀ ad, A' = some ad → 0 < D.length → ad.block ≠ g) ∧
    wr.heap[g]? = some (.cells (hashC (Sha.run s D k) (.slice R rs.length cr) (n + p.length)) 78 (0, 0)) ∧ KeptG w wr g (ownRow R cr)) (fun b _ => lenV b)
  case atStart => exact ⟨0, A2, c2, by omega, rfl, hrd2, hn2, hA2g, hg2g, hK2⟩
  case round =>
    clear hrd2 hn2 hA2g hg2g hK2
    obtain ⟨k, A', c', hk, rfl, hrd, hcc, hAg, hgk, hK⟩ := hrel
    obtain ⟨m, hm⟩ : ∃ m, m = D.length - 64 * k := ⟨_, rfl⟩
    rw [← hm] at hcc ⊢
    by_cases h64 : 64 ≤ m
    · have hdl : (D.drop (64 * k)).length = m := by rw [List.length_drop]; omega
      obtain ⟨ad, rfl, hat0⟩ := hrd.at_ (k := 0) (by omega)
      clear hat0
      have hadg := hAg ad rfl (by omega)
      have hH := Rd.drew_ (hrd.head (m := 64) (by omega))
      have ht := take_any g (Sha.run s D k) (.slice R rs.length cr) (n + p.length) (some ad) ((D.drop (64 * k)).take 64) c' wr.drew hgk hH (by rw [List.length_take]; omega) (by omega)
      have Ht := Lib.hid ht
      have Hm := Lib.hid hm
      have Hdl := Lib.hid hdl
      have hm64 : (64 : Int) ≤ (m : Int) := by omega
      have hc64 : (64 : Int) ≤ (c' : Int) := by omega
      clear ht hm hH hdl
      go_wp2_with fail
      refine rg_start (by kernel_rfl) ?_
      refine rg_take 0 rfl (by kernel_rfl) (by kernel_rfl) (by kernel_rfl) (fun _ _ _ _ h => h) (by rfl) ⟨_, fun w' hx => by (go_simp <;> with_reducible rfl), ?_⟩
      simp only [Act.put, List.setIfInBounds_toArray, List.set_cons_zero, List.set_cons_succ]
      refine rg_take 1 rfl (by kernel_rfl) (by kernel_rfl) (by kernel_rfl) (fun _ _ _ _ h => h) (by rfl) ⟨_, fun w' hx => by (go_simp <;> with_reducible rfl), ?_⟩   -- t30 := nilCheck t29
      simp only [Act.put, List.setIfInBounds_toArray, List.set_cons_zero, List.set_cons_succ]
      refine rg_take 2 rfl (by kernel_rfl) (by kernel_rfl) (by kernel_rfl) (fun _ _ _ _ h => h) (by rfl) ⟨_, fun w' hx => by (go_simp <;> with_reducible rfl), ?_⟩   -- t31 := fieldAddr 51 t30 0
      simp only [Act.put, List.setIfInBounds_toArray, List.set_cons_zero, List.set_cons_succ]
      refine rg_take 3 rfl (by kernel_rfl) (by kernel_rfl) (by kernel_rfl) (fun _ _ _ _ h => h) (by rfl) ⟨_, fun w' hx => by (go_simp <;> with_reducible rfl), ?_⟩
      simp only [Act.put, List.setIfInBounds_toArray, List.set_cons_zero, List.set_cons_succ]
      refine rg_take 4 rfl (by kernel_rfl) (by kernel_rfl) (by kernel_rfl) (fun _ _ _ _ h => h) (by rfl) ⟨_, fun w' hx => by (go_simp <;> with_reducible rfl), ?_⟩   -- t33 := slice 22 t32 - 64:i64 -
      simp only [Act.put, List.setIfInBounds_toArray, List.set_cons_zero, List.set_cons_succ]
      refine rg_callW 5 Ht.out rfl (by kernel_rfl) (by kernel_rfl) (by rfl) (by go_simp) ?_
      rintro e w3 ⟨rfl, hg3, hG3⟩
      refine ⟨_, rfl, ?_⟩
      simp only [Act.put, List.setIfInBounds_toArray, List.set_cons_zero, List.set_cons_succ]
      refine rg_done (by kernel_rfl) ?_
      have hrd3 : RdB w3 (some ad) (D.drop (64 * k)) := Rd.grown (Rd.drew_ hrd) hG3 (fun a h e => by cases h; cases e; exact hadg rfl)
      have hK3 : KeptG w w3 g (ownRow R cr) := (hK.ext (Ext.drew wr)).take hG3
      have hrt := hrd3.tail (k := 64) (by rw [Hdl.out]; omega) (c := c') (by rw [Hdl.out]; omega)
      rw [List.drop_drop, show 64 * k + 64 = 64 * (k + 1) by omega] at hrt
      clear hrd hrd3 hG3 hgk hK
      by_cases hce : c' = 64
      · rw [if_pos hce] at hrt
        go_wp2_with fail
        go_roundw
        case rel => exact ⟨k + 1, some ad, 0, by have := Hm.out; omega, by (rw [show D.length - 64 * (k + 1) = m - 64 by have := Hm.out; omega]), hrt, by have := Hm.out; omega, fun a h _ => by cases h; exact hadg, hg3, hK3⟩
        case measure => simp [lenV]; omega
      · rw [if_neg hce] at hrt
        go_wp2_with fail
        go_roundw
        case rel => exact ⟨k + 1, (some ad).map (·.add 64), c' - 64, by have := Hm.out; omega, by (rw [show D.length - 64 * (k + 1) = m - 64 by have := Hm.out; omega]; rfl), hrt, by have := Hm.out; omega, fun a h _ => by cases h; rw [add_block]; exact hadg, hg3, hK3⟩
        case measure => simp [lenV]; omega
    · have hkk : D.length / 64 = k := by omega
      have hdl : (D.drop (64 * k)).length = m := by rw [List.length_drop]; omega
      have hcl := clone_any A' (D.drop (64 * k)) c' wr hrd (by omega)
      rw [hdl] at hcl
      have Hcl := Lib.hid hcl
      have Hkk := Lib.hid hkk
      have Hdl := Lib.hid hdl
      have hm64 : ¬ (64 : Int) ≤ (m : Int) := by omega
      clear hcl hkk hdl hm
      go_wp2_with fail
      refine Hcl.out.mono ?_
      rintro e w4 ⟨A4, c4, rfl, ho4, hb4⟩
      have hgk4 := (hb4.block g (lt_of_heap hgk)).trans hgk
      have hK4 : KeptG w w4 g (ownRow R cr) := hK.ext hb4
      have d8 : w4.cell? ⟨g, 8, none⟩ = some (.slice R rs.length cr) := cell_of_row w4 g 8 _ _ _ hgk4
      have f8 : w4.frozen? ⟨g, 8, none⟩ = false := frozen_of_row w4 _ _ _ _ hgk4
      have hgr := lt_of_heap hgk
      have hw4 := hK.size
      go_wp2
      go_ret
      refine ⟨A4, c4, rfl, ?_, ?_, hK4.take (grown_cell w4 g 8 _)⟩
      · rw [Hkk.out, Hdl.out]
        exact heap_setCell_same w4 g 8 _ _ _ hgk4
      · rw [Hkk.out, Hdl.out]
        refine (ho4.mono hw4).kept (grown_cell w4 g 8 _) (fun q hq e => ?_)
        cases e
        have h1 := (ho4.row_lt _ hq).1
        omega
end Go.Proofs.Ytnagbhaknmoilaa
