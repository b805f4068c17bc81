
/- Contract: scowref20.Apply. Printed by wip/tools/gen_oprapply20.py. -/

import Derived.Test.YtdekdblebflklaaOpMapPut

import Derived.Test.YtdekdblebflklaaOpRight

namespace Go.Proofs.Ytdekdblebflklaa

open Go.RowKit

attribute [local go_sem] Oper.semAt_some

section

variable {P : Program} {ops : Array Oper} {md : Region.Mode} {Q : Exit → Act → World → Prop}

theorem rg_callW' (i : Nat) {oi : Oper} {fuel : Nat} {listed : Array Bool} {a : Act} {w : World} {f : FuncId} {args : Array Value} {R : Ending → World → Prop} (hc : Calls P f args w R) (hi0 : ops.toList[i]? = some oi)
    (hr : Region.ready md ops listed = [i]) (hwt : waits md ops listed i = true) (hw : Region.wanted oi (yielded ops a.tmps) = true)
    (hx : (execOp a.eval oi).run P w = .ok (.enter f args) w)
    (h : ∀ e w', R e w' → ∃ v, e = .returned v ∧ wpAnyR P md ops Q fuel (listed.setIfInBounds i true) (a.put oi.dst v) w') : wpAnyR P md ops Q (fuel + 1) listed a w := by
  refine rg_one i hi0 hr hw ?_
  unfold Oper.wp
  rw [hx, Oper.upon_enter]
  refine hc.mono fun e w' hR => ?_
  obtain ⟨v, rfl, h2⟩ := h e w' hR
  exact ⟨.inr hwt, h2⟩
end

def RApplyP (l : List EnV) (o : List OpV) (w : World) (e : Ending) (w' : World) : Prop :=
  ∃ (L : List EnV) (A' : Option Addr) (c' : Nat), e = .returned (.slice A' L.length c') ∧ L.map EnV.x = Opn.apply (l.map EnV.x) (o.map OpV.x) ∧ RdE w' A' L ∧ L.length ≤ c' ∧ L.length ≤ l.length + o.length ∧ Below w.heap.size w w'
/-- What Apply keeps between two rounds. -/
structure RApI (l : List EnV) (o : List OpV) (w0 : World) (g k : Nat) (L : List EnV) (A1 : Option Addr) (c1 : Nat) (wr : World) : Prop where
  eq : L.map EnV.x = Opn.apply (l.map EnV.x) ((o.map OpV.x).take k)
  len : L.length ≤ l.length + k
  map : MapAt wr g A1 c1 L
  grown : w0.grownBy wr (some g)
theorem RApI.next {l : List EnV} {o : List OpV} {w0 : World} {g k : Nat} {L : List EnV} {A1 : Option Addr} {c1 : Nat} {wr w1 w2 : World} (h : RApI l o w0 g k L A1 c1 wr) (hk : k < o.length) {x : OpV} (hx : o[k] = x) (hE : Ext wr w1) {M : List Ent} {n : Nat} (ht : MapTo w1 g M n w2) (hn : n ≤ L.length + 1)
    (hM : M = if x.x.del = true then delK Ent.key x.x.key (L.map EnV.x) else putK Ent.key ⟨x.x.key, x.x.val⟩ (L.map EnV.x)) : ∃ (L2 : List EnV) (A2 : Option Addr) (c2 : Nat), RApI l o w0 g (k + 1) L2 A2 c2 w2 := by
  obtain ⟨L2, A2, c2, h1, h2, h3, h4⟩ := ht
  refine ⟨L2, A2, c2, ?_, by have := h.len; omega, h2, grown_tr h.grown (grown_tr (grown_ext hE _) h4)⟩
  rw [h1, hM, apply_snoc _ _ _ (by simpa using hk), ← h.eq]
  simp [Opn.step, Opn.ent, hx]
set_option maxRecDepth 100000 in
set_option maxHeartbeats 2000000 in
theorem ref_apply (A : Option Addr) (l : List EnV) (c : Nat) (B : Option Addr) (o : List OpV) (d : Nat) (w : World) (hA : RdE w A l) (hB : RdO w B o) (hcap : l.length ≤ c) (hl : l.length ≤ 100000) (ho : o.length ≤ 100000) (hr : Opn.Right (o.map OpV.x)) :
    Calls Try.prog 18 #[.slice A l.length c, .slice B o.length d] w (RApplyP l o w) := by
  obtain ⟨w0, hw0⟩ : ∃ w0, w0 = w.alloc (.cells #[.slice A l.length c] 56) := ⟨_, rfl⟩
  have hrow0 : w0.heap[w.heap.size]? = some (.cells #[.slice A l.length c] 56 (0, 0)) := by rw [hw0]; exact heap_alloc_new w _
  have hE0 : Ext w w0 := by rw [hw0]; exact Ext.alloc _ _
  have hM0 : MapAt w0 w.heap.size A c l := ⟨hrow0, hA.below hE0, hcap⟩
  have hB0 : RdO w0 B o := hB.below hE0
  have hok : ∀ k (h : k < o.length), (1 ≤ o[k].x.key.length ∧ o[k].x.key.length ≤ 24) ∧ o[k].x.val.length ≤ 1000 := fun k h => by
    have h1 := hr.ok o[k].x (List.mem_map.2 ⟨_, List.getElem_mem h, rfl⟩)
    exact ⟨h1.key, h1.val⟩
  have Hok := Lib.hid hok
  have HB0 := Lib.hid hB0
  have Hrow0 := Lib.hid hrow0
  have HE0 := Lib.hid hE0
  have HS : Hid (RApI l o w0 w.heap.size 0 l A c w0) := ⟨by simp [Opn.apply], by omega, hM0, ⟨rfl, rfl, rfl, Nat.le_refl _, fun _ _ _ => rfl⟩⟩
  clear hM0 hrow0 hE0 hok hr hA hB hB0
  go_enter Try.func18, Try.ntmps18
  go_wp2
  rw [← hw0]
  clear hw0
  go_loopw [6] (fun i wr => ∃ (k : Nat), k ≤ o.length ∧ i = .int .i64 k ∧ ∃ (L : List EnV) (A1 : Option Addr) (c1 : Nat), RApI l o w0 w.heap.size k L A1 c1 wr) (fun i _ => o.length - (intOf i).toNat)
  case atStart => exact ⟨0, by omega, rfl, l, A, c, HS.out⟩
  case round =>
    obtain ⟨k, hk, rfl, L, A1, c1, hI⟩ := hrel
    have hmc := hI.map.cell
    have HI := Lib.hid hI
    by_cases h : k < o.length
    · obtain ⟨ad, rfl, hy, hyi⟩ := (HB0.out.turn hI.grown Hrow0.out).el h
      have hkl := Hok.out k h
      obtain ⟨x, hx⟩ : ∃ x, o[k] = x := ⟨_, rfl⟩
      rw [hx] at hy hyi hkl
      have Hx := Lib.hid hx
      have ik : (0 : Int) ≤ (k : Int) := by omega
      have ik2 : (k : Int) < (o.length : Int) := by omega
      have y0 := hy.c0
      have y1 := hy.c1
      have hLl : L.length ≤ 1000000 := by have := hI.len; omega
      clear hx
      cases hdel : x.x.del
      · have hyd := hy.ext (Ext.drew wr)
        have yd1 := hyd.c1
        have yd2 := hyd.c2
        have HP := ref_mput w.heap.size A1 c1 L x.ka x.x.key x.kc x.va x.x.val x.vc wr.drew (hI.map.ext (Ext.drew wr)) (hyi.kr.below (Ext.drew wr)) (hyi.vr.below (Ext.drew wr)) hLl hkl.1 hkl.2
        rw [hdel] at y0
        have Hdel := Lib.hid hdel
        clear hdel hI hy hyd hyi
        go_wp2_with fail
        refine rg_start (by kernel_rfl) ?_
        refine rg_take 0 rfl (by kernel_rfl) (by kernel_rfl) (by kernel_rfl) (fun _ _ _ _ h => h) (by rfl) ⟨_, fun w' hx => by (go_simp <;> with_reducible rfl), ?_⟩
        simp only [Act.put, List.setIfInBounds_toArray, List.set_cons_zero, List.set_cons_succ]
        refine rg_take 1 rfl (by kernel_rfl) (by kernel_rfl) (by kernel_rfl) (fun _ _ _ _ h => h) (by rfl) ⟨_, fun w' hx => by (go_simp <;> with_reducible rfl), ?_⟩
        simp only [Act.put, List.setIfInBounds_toArray, List.set_cons_zero, List.set_cons_succ]
        refine rg_take 2 rfl (by kernel_rfl) (by kernel_rfl) (by kernel_rfl) (fun _ _ _ _ h => h) (by rfl) ⟨_, fun w' hx => by (go_simp <;> with_reducible rfl), ?_⟩
        simp only [Act.put, List.setIfInBounds_toArray, List.set_cons_zero, List.set_cons_succ]
        refine rg_take 3 rfl (by kernel_rfl) (by kernel_rfl) (by kernel_rfl) (fun _ _ _ _ h => h) (by rfl) ⟨_, fun w' hx => by (go_simp <;> with_reducible rfl), ?_⟩   -- t31 := indexAddr 23 t29 t30
        simp only [Act.put, List.setIfInBounds_toArray, List.set_cons_zero, List.set_cons_succ]
        refine rg_take 4 rfl (by kernel_rfl) (by kernel_rfl) (by kernel_rfl) (fun _ _ _ _ h => h) (by rfl) ⟨_, fun w' hx => by (go_simp <;> with_reducible rfl), ?_⟩   -- t32 := fieldAddr 50 t31 1
        simp only [Act.put, List.setIfInBounds_toArray, List.set_cons_zero, List.set_cons_succ]
        refine rg_take 5 rfl (by kernel_rfl) (by kernel_rfl) (by kernel_rfl) (fun _ _ _ _ h => h) (by rfl) ⟨_, fun w' hx => by have hcx := hx.load yd1; (go_simp <;> with_reducible rfl), ?_⟩
        simp only [Act.put, List.setIfInBounds_toArray, List.set_cons_zero, List.set_cons_succ]
        refine rg_take 6 rfl (by kernel_rfl) (by kernel_rfl) (by kernel_rfl) (fun _ _ _ _ h => h) (by rfl) ⟨_, fun w' hx => by (go_simp <;> with_reducible rfl), ?_⟩
        simp only [Act.put, List.setIfInBounds_toArray, List.set_cons_zero, List.set_cons_succ]
        refine rg_take 7 rfl (by kernel_rfl) (by kernel_rfl) (by kernel_rfl) (fun _ _ _ _ h => h) (by rfl) ⟨_, fun w' hx => by (go_simp <;> with_reducible rfl), ?_⟩
        simp only [Act.put, List.setIfInBounds_toArray, List.set_cons_zero, List.set_cons_succ]
        refine rg_take 8 rfl (by kernel_rfl) (by kernel_rfl) (by kernel_rfl) (fun _ _ _ _ h => h) (by rfl) ⟨_, fun w' hx => by (go_simp <;> with_reducible rfl), ?_⟩   -- t36 := indexAddr 23 t34 t35
        simp only [Act.put, List.setIfInBounds_toArray, List.set_cons_zero, List.set_cons_succ]
        refine rg_take 9 rfl (by kernel_rfl) (by kernel_rfl) (by kernel_rfl) (fun _ _ _ _ h => h) (by rfl) ⟨_, fun w' hx => by (go_simp <;> with_reducible rfl), ?_⟩   -- t37 := fieldAddr 50 t36 2
        simp only [Act.put, List.setIfInBounds_toArray, List.set_cons_zero, List.set_cons_succ]
        refine rg_take 10 rfl (by kernel_rfl) (by kernel_rfl) (by kernel_rfl) (fun _ _ _ _ h => h) (by rfl) ⟨_, fun w' hx => by have hcx := hx.load yd2; (go_simp <;> with_reducible rfl), ?_⟩
        simp only [Act.put, List.setIfInBounds_toArray, List.set_cons_zero, List.set_cons_succ]
        refine rg_callW' 11 HP rfl (by kernel_rfl) (by kernel_rfl) (by rfl) (by go_simp) ?_
        rintro e2 w2 ⟨rfl, hto⟩
        refine ⟨_, rfl, ?_⟩
        simp only [Act.put, List.setIfInBounds_toArray, List.set_cons_zero, List.set_cons_succ]
        refine rg_done (by kernel_rfl) ?_
        go_wp2_with fail
        go_roundw
        case rel =>
          obtain ⟨L2, A2, c2, h2⟩ := HI.out.next h Hx.out (Ext.drew wr) hto (Nat.le_refl _) (by rw [Hdel.out]; rfl)
          exact ⟨k + 1, by omega, by go_num, L2, A2, c2, h2⟩
        case measure => simp [intOf]; omega
      · have HD := ref_mdel w.heap.size A1 c1 L x.ka x.x.key x.kc wr hI.map hyi.kr hLl hkl.1
        rw [hdel] at y0
        have Hdel := Lib.hid hdel
        clear hdel hI hy hyi
        go_wp2_with (go_at_call 38; refine HD.mono ?_; rintro e2 w2 ⟨b2, rfl, hto⟩)
        go_roundw
        case rel =>
          obtain ⟨L2, A2, c2, h2⟩ := HI.out.next h Hx.out (Ext.refl wr) hto (by omega) (by rw [Hdel.out]; rfl)
          exact ⟨k + 1, by omega, by go_num, L2, A2, c2, h2⟩
        case measure => simp [intOf]; omega
    · obtain rfl : k = o.length := by omega
      clear hI
      go_wp2
      go_ret
      refine ⟨L, A1, c1, rfl, ?_, HI.out.map.rd, HI.out.map.cap, HI.out.len, ?_⟩
      · rw [HI.out.eq, List.take_of_length_le (by simp)]
      · exact Below.grown HE0.out HI.out.grown HE0.out.size (fun k e => by injection e with e; omega)
end Go.Proofs.Ytdekdblebflklaa
