
/- Contract: look (a finder looks for blocks of one length at all places). Printed by wip/tools/gen_sgnlook22.py. -/

import Derived.Test.YtnagbhaknmoilaaSgnPlc

import Derived.Test.YtnagbhaknmoilaaReg6

namespace Go.Proofs.Ytnagbhaknmoilaa

open Go.RowKit

open Go.ChangeMaps

attribute [local go_sem] Oper.semAt_some

section

variable {P : Program} {o : Oper} {a : Act} {w w' : World}

theorem ex_lookup (t : TypeId) (m x : Operand) (ho : o.op = .lookup t m x false) {M X V : Value} (hm : a.eval m = M) (hx : a.eval x = X) (hr : (Instr.lookup t M X false).run P w = .ok V w) : (execOp a.eval o).run P w = .ok (.value V) w := by
  unfold execOp
  simp only [ho, hm, hx, Sem.run_bind]
  rw [hr]
  rfl
theorem ex_mapUpdate (t : TypeId) (m x v : Operand) (ho : o.op = .mapUpdate t m x v) {M X V : Value} (hm : a.eval m = M) (hx : a.eval x = X) (hv : a.eval v = V) (hr : (Instr.mapUpdate t M X V).run P w = .ok () w') : (execOp a.eval o).run P w = .ok .skip w' := by
  unfold execOp
  simp only [ho, hm, hx, hv, Sem.run_bind]
  rw [hr]
  rfl
end

theorem FA.setM {w : World} {gf gO : Nat} {M : Value} {oA sA : Option Addr} {oC sC : Nat} {o : List UInt8} {S : List Sg} {L : List Int} (h : FA w gf gO M oA oC o sA sC S L) (M' : Value) : FA (w.setCell ⟨gf, 1, none⟩ M') gf gO M' oA oC o sA sC S L := by
  have ho := h.ord
  have ht : Turn (fun i => i = gf) w (w.setCell ⟨gf, 1, none⟩ M') := Turn.grown (IRow.grown w gf 1 _) rfl
  refine ⟨?_, h.out.turn ht (by omega), h.len, ?_, h.oldc, h.oldB, ⟨?_, h.sig.ok⟩, h.sigc, h.sigB, h.ord⟩
  · rw [heap_setCell_same w gf 1 _ _ _ h.fin]; rfl
  · exact Rd.turn h.old ht (fun hx ad hA => by have := h.oldB (fun e => hx (by rw [e]; rfl)) ad hA; omega)
  · exact Rd.turn h.sig.rd ht (fun hx ad hA => by have := h.sigB (fun e => hx (by rw [e]; rfl)) ad hA; omega)
theorem setBlock_grown (w : World) (g : Nat) (o : Obj) : w.grownBy (setBlock w g o) (some g) := ⟨rfl, rfl, rfl, by simp [setBlock], fun i _ hi => by
  show (w.heap.setIfInBounds g _)[i]? = _
  rw [Array.getElem?_setIfInBounds_ne (fun e => hi (by rw [e]))]⟩
theorem zeroI (w : World) : (zeroValue 35).run Try.prog w = .ok (.slice none 0 0) w := by go_simp
theorem wf_u32n (n : Nat) (h : n < 4294967296) : (Lit.int .u32 (n : Int)).wf = true := by simp [Lit.wf, IntKind.min, IntKind.max, IntKind.bits, IntKind.signed]; omega
def Fd.grp (S : List Sg) (Lb : List Int) (b : Int) : List Int := Lb.filter fun x => decide ((Sg.wkOf S x.toNat : Int) = b)
theorem Fd.grp_snoc (S : List Sg) (l : List Int) (x : Int) (b : Int) : Fd.grp S (l ++ [x]) b = if b = (Sg.wkOf S x.toNat : Int) then Fd.grp S l b ++ [x] else Fd.grp S l b := by
  unfold Fd.grp
  rw [List.filter_append]
  by_cases h : b = (Sg.wkOf S x.toNat : Int)
  · rw [if_pos h, List.filter_cons, if_pos (by simp [h])]; rfl
  · rw [if_neg h, List.filter_cons, if_neg (by simp; exact fun e => h e.symm)]; simp
set_option maxRecDepth 100000 in
set_option maxHeartbeats 2000000 in
theorem look_any (gf gO : Nat) (M : Value) (oA : Option Addr) (oC : Nat) (o : List UInt8) (sA : Option Addr) (sC : Nat) (S : List Sg) (L0 : List Int) (bA : Option Addr) (bC : Nat) (Lb : List Int) (n : Nat) (w : World)
    (hF : FA w gf gO M oA oC o sA sC S L0) (hol : o.length ≤ 100000) (hS : S.length ≤ 2048) (hn : 1 ≤ n) (hn2 : n ≤ 64) (hb : RdI w bA Lb) (hbB : Lb ≠ [] → ∀ ad, bA = some ad → gf < ad.block) (hbr : ∀ x ∈ Lb, 0 ≤ x ∧ x < (S.length : Int)) (hbl : Lb.length ≤ 2048)
    (hL0 : ∀ i, (h : i < L0.length) → (i : Int) ∈ Lb → L0[i] = -1) :
    Calls Try.prog 23 #[.pointer (some ⟨gf, 0, none⟩), .slice bA Lb.length bC, .int .i64 (n : Int)] w fun e w' => e = .returned (.tuple #[]) ∧
      (∃ M', FA w' gf gO M' oA oC o sA sC S (Fd.ans o n S Lb L0 (o.length + 1 - n))) ∧ Turn (fun i => i = gO ∨ i = gf) w w' := by
  obtain ⟨ms, hms0⟩ : ∃ ms, ms = o.length + 1 - n := ⟨_, rfl⟩
  rw [← hms0]
  have HMs := Lib.hid hms0
  clear hms0
  have hmm := @run_makeMap Try.prog
  have hgl := lt_of_heap hF.fin
  obtain ⟨gm, hgm⟩ : ∃ gm, gm = w.heap.size := ⟨_, rfl⟩
  obtain ⟨w1, hw1⟩ : ∃ w1, w1 = (w.setCell ⟨gf, 1, none⟩ (.map (some gm))).alloc (.map #[] 0) := ⟨_, rfl⟩
  have hF1 : FA w1 gf gO (.map (some gm)) oA oC o sA sC S L0 := by rw [hw1]; exact (hF.setM _).ext (Ext.alloc _ _)
  have hgfm : gf < gm := by omega
  have hM1 : MG w1 gm .u32 (gm + 1) (fun _ => []) #[] 0 := by
    have h0 := MG.new (w.setCell ⟨gf, 1, none⟩ (.map (some gm))) .u32 (gm + 1)
    rwa [show (w.setCell ⟨gf, 1, none⟩ (.map (some gm))).heap.size = gm by rw [hgm]; simp [World.setCell], ← hw1] at h0
  have hT1 : Turn (fun i => i = gO ∨ i = gf) w w1 := by rw [hw1]; exact (Turn.grown (IRow.grown _ gf 1 _) (.inr rfl)).tr (Turn.ext (Ext.alloc _ _))
  have c_1 := hF.c1
  have f_1 := hF.free 1
  have hw1s : w.heap.size + 1 ≤ w1.heap.size := by rw [hw1]; simp [World.setCell]
  have Hw1 := Lib.hid hw1
  have Hgm := Lib.hid hgm
  obtain ⟨nb, hnb⟩ : ∃ nb, nb = Lb.length := ⟨_, rfl⟩
  rw [← hnb] at hbl ⊢
  have Hnb := Lib.hid hnb
  clear hF hgm hw1 hnb
  go_enter Try.func23, Try.ntmps23
  go_wp2_with fail
  rw [← Hgm.out, ← Hw1.out]
  clear c_1 f_1 hmm
  have hgO := hF1.ord
  go_loopw [16] (fun i wr => ∃ (j : Nat) (es : Array MapEntry) (clock : Nat), j ≤ nb ∧ i = .int .i64 j ∧ FA wr gf gO (.map (some gm)) oA oC o sA sC S L0 ∧ MG wr gm .u32 (gm + 1) (Fd.grp S (Lb.take j)) es clock ∧ gm + 1 ≤ wr.heap.size ∧ Turn (fun i => i = gO ∨ i = gf) w wr) (fun i _ => nb - (intOf i).toNat)
  case atStart => exact ⟨0, _, _, by omega, rfl, hF1, hM1, by have := Hgm.out; omega, hT1⟩
  case round =>
    clear hF1 hM1 hT1 hw1s Hw1 w1
    obtain ⟨j, es, clock, hj, rfl, hF, hM, hsz, hT⟩ := hrel
    by_cases hjn : j < nb
    · have ij : (0 : Int) ≤ (j : Int) := by omega
      have ij2 : (j : Int) < (nb : Int) := by omega
      have hjl : j < Lb.length := by have := Hnb.out; omega
      have hbr2 : RdI wr bA Lb := hb.turn hT (fun hx ad hA e => by have := hbB hx ad hA; omega)
      obtain ⟨ad1, hA1, cj⟩ := hbr2.at_ hjl
      obtain ⟨x, hx⟩ : ∃ x, x = Lb[j] := ⟨_, rfl⟩
      have hxr := hbr x (by rw [hx]; exact List.getElem_mem _)
      rw [← hx] at cj
      obtain ⟨i, rfl⟩ : ∃ i : Nat, x = i := ⟨x.toNat, by omega⟩
      have hi : i < S.length := by omega
      have hD := Ext.drew wr
      have hFd := hF.ext hD
      have hMd := hM.ext hD
      obtain ⟨ad2, hs2, cs, hok⟩ := hFd.sig.at_ hi
      have cwk : wr.drew.cell? (ad2.add (i * 33)) = some (.int .u32 (S[i].weak : Int)) := cs 0 _ rfl
      have hwk : Sg.wkOf S i = S[i].weak := by unfold Sg.wkOf; rw [List.getElem?_eq_getElem hi]
      rw [← hwk] at cwk
      have hwlt := hok.w
      rw [← hwk] at hwlt
      obtain ⟨wk, hwk2⟩ : ∃ wk, wk = Sg.wkOf S i := ⟨_, rfl⟩
      rw [← hwk2] at cwk hwlt
      have hsB := hFd.sigB (by intro e; rw [e] at hi; simp at hi) ad2 hs2
      have d_1 := hFd.c1
      have d_2 := hFd.c2
      rw [hs2] at d_2
      obtain ⟨ns, hns⟩ : ∃ ns, ns = S.length := ⟨_, rfl⟩
      rw [← hns] at d_2
      have hnsi : (i : Int) < (ns : Int) := by omega
      have iI : (0 : Int) ≤ (i : Int) := by omega
      obtain ⟨A, c, hlook, hO, hap⟩ := hMd.lookW (P := Try.prog) Try.underlying53 Try.underlying29 zeroI (wk : Int) (wf_u32n wk hwlt)
      have hml : (Fd.grp S (Lb.take j) (wk : Int)).length ≤ 2048 := by
        have h1 : (Fd.grp S (Lb.take j) (wk : Int)).length ≤ (Lb.take j).length := List.length_filter_le _ _
        rw [List.length_take] at h1
        omega
      obtain ⟨gl, hgl2⟩ : ∃ gl, gl = Fd.grp S (Lb.take j) (wk : Int) := ⟨_, rfl⟩
      rw [← hgl2] at hlook hO hml
      obtain ⟨m, hm⟩ : ∃ m, m = gl.length := ⟨_, rfl⟩
      rw [← hm] at hlook hO hml
      have hrn : ∀ k, ownRow A c = some k → gm + 1 ≤ k := fun k hk => (hO.row_lt k hk).1
      have rf : some gf ≠ ownRow A c := fun e => by have := hrn gf e.symm; omega
      have rs : some (ad2.add (i * 33)).block ≠ ownRow A c := fun e => by rw [add_block] at e; have := hrn _ e.symm; omega
      have Hmd := Lib.hid hMd.row
      have Hlook := Lib.hid hlook
      have Hap := Lib.hid hap
      have Hx := Lib.hid hx
      have Hm := Lib.hid hm
      have Hgl2 := Lib.hid hgl2
      have Hwk2 := Lib.hid hwk2
      have Hrg : Hid (∀ w', Row (ownRow A c) wr.drew w' → w'.heap[gm]? = some (.map es clock)) := fun w' h => (h.block gm (lt_of_heap hMd.row) (fun e => by have := hrn gm e.symm; omega)).trans hMd.row
      have hsz3 : gm + 1 ≤ wr.drew.heap.size := hsz
      subst hA1
      clear hbr2 cs hok hwk hwk2 hs2 hns hlook hap hx hm hgl2
      go_wp2_with fail
      refine rs_start (ownRow A c) (by kernel_rfl) ?_
      refine rs_take 0 rfl (by kernel_rfl) (by kernel_rfl) (by kernel_rfl) (fun _ _ _ _ h => h) (by rfl) ⟨_, fun w' hx => by (go_simp <;> with_reducible rfl), ?_⟩
      simp only [Act.put, List.setIfInBounds_toArray, List.set_cons_zero, List.set_cons_succ]
      refine rs_take 1 rfl (by kernel_rfl) (by kernel_rfl) (by kernel_rfl) (fun _ _ _ _ h => h) (by rfl) ⟨_, fun w' hx => by (go_simp <;> with_reducible rfl), ?_⟩   -- t21 := nilCheck t20
      simp only [Act.put, List.setIfInBounds_toArray, List.set_cons_zero, List.set_cons_succ]
      refine rs_take 2 rfl (by kernel_rfl) (by kernel_rfl) (by kernel_rfl) (fun _ _ _ _ h => h) (by rfl) ⟨_, fun w' hx => by (go_simp <;> with_reducible rfl), ?_⟩   -- t22 := fieldAddr 55 t21 1
      simp only [Act.put, List.setIfInBounds_toArray, List.set_cons_zero, List.set_cons_succ]
      refine rs_take 3 rfl (by kernel_rfl) (by kernel_rfl) (by kernel_rfl) (fun _ _ _ _ h => h) (by rfl) ⟨_, fun w' hx => by have hcx := Row.load hx d_1 rf; (go_simp <;> with_reducible rfl), ?_⟩
      simp only [Act.put, List.setIfInBounds_toArray, List.set_cons_zero, List.set_cons_succ]
      refine rs_take 4 rfl (by kernel_rfl) (by kernel_rfl) (by kernel_rfl) (fun _ _ _ _ h => h) (by rfl) ⟨_, fun w' hx => by (go_simp <;> with_reducible rfl), ?_⟩
      simp only [Act.put, List.setIfInBounds_toArray, List.set_cons_zero, List.set_cons_succ]
      refine rs_take 5 rfl (by kernel_rfl) (by kernel_rfl) (by kernel_rfl) (fun _ _ _ _ h => h) (by rfl) ⟨_, fun w' hx => by (go_simp <;> with_reducible rfl), ?_⟩   -- t25 := nilCheck t24
      simp only [Act.put, List.setIfInBounds_toArray, List.set_cons_zero, List.set_cons_succ]
      refine rs_take 6 rfl (by kernel_rfl) (by kernel_rfl) (by kernel_rfl) (fun _ _ _ _ h => h) (by rfl) ⟨_, fun w' hx => by (go_simp <;> with_reducible rfl), ?_⟩   -- t26 := fieldAddr 55 t25 2
      simp only [Act.put, List.setIfInBounds_toArray, List.set_cons_zero, List.set_cons_succ]
      refine rs_take 7 rfl (by kernel_rfl) (by kernel_rfl) (by kernel_rfl) (fun _ _ _ _ h => h) (by rfl) ⟨_, fun w' hx => by have hcx := Row.load hx d_2 rf; (go_simp <;> with_reducible rfl), ?_⟩
      simp only [Act.put, List.setIfInBounds_toArray, List.set_cons_zero, List.set_cons_succ]
      refine rs_take 8 rfl (by kernel_rfl) (by kernel_rfl) (by kernel_rfl) (fun _ _ _ _ h => h) (by rfl) ⟨_, fun w' hx => by (go_simp <;> with_reducible rfl), ?_⟩
      simp only [Act.put, List.setIfInBounds_toArray, List.set_cons_zero, List.set_cons_succ]
      refine rs_take 9 rfl (by kernel_rfl) (by kernel_rfl) (by kernel_rfl) (fun _ _ _ _ h => h) (by rfl) ⟨_, fun w' hx => by (go_simp <;> with_reducible rfl), ?_⟩   -- t29 := indexAddr 24 t27 t28
      simp only [Act.put, List.setIfInBounds_toArray, List.set_cons_zero, List.set_cons_succ]
      refine rs_take 10 rfl (by kernel_rfl) (by kernel_rfl) (by kernel_rfl) (fun _ _ _ _ h => h) (by rfl) ⟨_, fun w' hx => by (go_simp <;> with_reducible rfl), ?_⟩   -- t30 := fieldAddr 33 t29 0
      simp only [Act.put, List.setIfInBounds_toArray, List.set_cons_zero, List.set_cons_succ]
      refine rs_take 11 rfl (by kernel_rfl) (by kernel_rfl) (by kernel_rfl) (fun _ _ _ _ h => h) (by rfl) ⟨_, fun w' hx => by have hcx := Row.load hx cwk rs; (go_simp <;> with_reducible rfl), ?_⟩
      simp only [Act.put, List.setIfInBounds_toArray, List.set_cons_zero, List.set_cons_succ]
      refine rs_take 12 rfl (by kernel_rfl) (by kernel_rfl) (by kernel_rfl) (fun _ _ _ _ h => h) (by rfl) ⟨_, fun w' hx => by (go_simp <;> with_reducible rfl), ?_⟩
      simp only [Act.put, List.setIfInBounds_toArray, List.set_cons_zero, List.set_cons_succ]
      refine rs_take 13 rfl (by kernel_rfl) (by kernel_rfl) (by kernel_rfl) (fun _ _ _ _ h => h) (by rfl) ⟨_, fun w' hx => by (go_simp <;> with_reducible rfl), ?_⟩   -- t33 := nilCheck t32
      simp only [Act.put, List.setIfInBounds_toArray, List.set_cons_zero, List.set_cons_succ]
      refine rs_take 14 rfl (by kernel_rfl) (by kernel_rfl) (by kernel_rfl) (fun _ _ _ _ h => h) (by rfl) ⟨_, fun w' hx => by (go_simp <;> with_reducible rfl), ?_⟩   -- t34 := fieldAddr 55 t33 1
      simp only [Act.put, List.setIfInBounds_toArray, List.set_cons_zero, List.set_cons_succ]
      refine rs_take 15 rfl (by kernel_rfl) (by kernel_rfl) (by kernel_rfl) (fun _ _ _ _ h => h) (by rfl) ⟨_, fun w' hx => by have hcx := Row.load hx d_1 rf; (go_simp <;> with_reducible rfl), ?_⟩
      simp only [Act.put, List.setIfInBounds_toArray, List.set_cons_zero, List.set_cons_succ]
      refine rs_take 16 rfl (by kernel_rfl) (by kernel_rfl) (by kernel_rfl) (fun _ _ _ _ h => h) (by rfl) ⟨_, fun w' hx => by (go_simp <;> with_reducible rfl), ?_⟩
      simp only [Act.put, List.setIfInBounds_toArray, List.set_cons_zero, List.set_cons_succ]
      refine rs_take 17 rfl (by kernel_rfl) (by kernel_rfl) (by kernel_rfl) (fun _ _ _ _ h => h) (by rfl) ⟨_, fun w' hx => by (go_simp <;> with_reducible rfl), ?_⟩   -- t37 := nilCheck t36
      simp only [Act.put, List.setIfInBounds_toArray, List.set_cons_zero, List.set_cons_succ]
      refine rs_take 18 rfl (by kernel_rfl) (by kernel_rfl) (by kernel_rfl) (fun _ _ _ _ h => h) (by rfl) ⟨_, fun w' hx => by (go_simp <;> with_reducible rfl), ?_⟩   -- t38 := fieldAddr 55 t37 2
      simp only [Act.put, List.setIfInBounds_toArray, List.set_cons_zero, List.set_cons_succ]
      refine rs_take 19 rfl (by kernel_rfl) (by kernel_rfl) (by kernel_rfl) (fun _ _ _ _ h => h) (by rfl) ⟨_, fun w' hx => by have hcx := Row.load hx d_2 rf; (go_simp <;> with_reducible rfl), ?_⟩
      simp only [Act.put, List.setIfInBounds_toArray, List.set_cons_zero, List.set_cons_succ]
      refine rs_take 20 rfl (by kernel_rfl) (by kernel_rfl) (by kernel_rfl) (fun _ _ _ _ h => h) (by rfl) ⟨_, fun w' hx => by (go_simp <;> with_reducible rfl), ?_⟩
      simp only [Act.put, List.setIfInBounds_toArray, List.set_cons_zero, List.set_cons_succ]
      refine rs_take 21 rfl (by kernel_rfl) (by kernel_rfl) (by kernel_rfl) (fun _ _ _ _ h => h) (by rfl) ⟨_, fun w' hx => by (go_simp <;> with_reducible rfl), ?_⟩   -- t41 := indexAddr 24 t39 t40
      simp only [Act.put, List.setIfInBounds_toArray, List.set_cons_zero, List.set_cons_succ]
      refine rs_take 22 rfl (by kernel_rfl) (by kernel_rfl) (by kernel_rfl) (fun _ _ _ _ h => h) (by rfl) ⟨_, fun w' hx => by (go_simp <;> with_reducible rfl), ?_⟩   -- t42 := fieldAddr 33 t41 0
      simp only [Act.put, List.setIfInBounds_toArray, List.set_cons_zero, List.set_cons_succ]
      refine rs_take 23 rfl (by kernel_rfl) (by kernel_rfl) (by kernel_rfl) (fun _ _ _ _ h => h) (by rfl) ⟨_, fun w' hx => by have hcx := Row.load hx cwk rs; (go_simp <;> with_reducible rfl), ?_⟩
      simp only [Act.put, List.setIfInBounds_toArray, List.set_cons_zero, List.set_cons_succ]
      refine rs_take 24 rfl (by kernel_rfl) (by kernel_rfl) (by kernel_rfl) (fun _ _ _ _ h => h) (by rfl) ⟨.slice A m c, fun w' hx => ex_lookup 53 (.tmp 35) (.tmp 43) rfl rfl rfl (Hlook.out w' (Hrg.out w' hx)), ?_⟩
      simp only [Act.put, List.setIfInBounds_toArray, List.set_cons_zero, List.set_cons_succ]
      refine rs_take 25 rfl (by kernel_rfl) (by kernel_rfl) (by kernel_rfl) (fun _ _ _ _ h => h) (by rfl) ⟨_, fun w' hx => by (go_simp <;> with_reducible rfl), ?_⟩
      simp only [Act.put, List.setIfInBounds_toArray, List.set_cons_zero, List.set_cons_succ]
      refine rs_make 26 rfl (by kernel_rfl) (by rfl) ⟨_, _, by (go_simp <;> first | exact ⟨rfl, rfl⟩ | rfl), Row.ext (Ext.alloc _ _), ?_⟩
      simp only [Act.put, List.setIfInBounds_toArray, List.set_cons_zero, List.set_cons_succ]
      have hEi : Ext wr.drew (wr.drew.alloc (.cells #[.int .i64 (i : Int)] 3)) := Ext.alloc _ _
      have hri : Rd (wr.drew.alloc (.cells #[.int .i64 (i : Int)] 3)) 1 (some ⟨wr.drew.heap.size, 0, none⟩) 1 (ivs [(i : Int)]) := Rd.new wr.drew 3 (ivs [(i : Int)])
      refine rs_one 27 rfl (by kernel_rfl) (by rfl) (wp_app (.tmp 44) (.tmp 46) 35 rfl elemI (gm + 1) A m c (ivs gl) rfl (some ⟨wr.drew.heap.size, 0, none⟩) 1 1 (ivs [(i : Int)]) rfl (m + 1) rfl (ivs (gl ++ [(i : Int)])) (ivs_app _ _) (hO.below hEi) hri (ivs_one _) (by omega) (by omega) (Nat.le_trans hsz3 hEi.size) (fun A6 c6 w6 ho6 hg6 hr6 => ⟨.inl hg6, ?_⟩))
      have hput := (hMd.ext hEi).put (P := Try.prog) (A' := A6) (c' := c6) (n := m + 1) (l := gl ++ [(i : Int)]) Try.underlying53 Try.underlying29 (wk : Int) (wf_u32n wk hwlt) hg6
        (by
          cases hrr : ownRow A c with
          | none => exact ⟨#[], fun r e => by cases e⟩
          | some r =>
            obtain ⟨cur, hcur⟩ := (hO.below hEi).row_is hrr
            exact ⟨cur, fun r' e => by injection e with e; subst e; exact hcur⟩)
        Hap.out (by rw [List.length_append, ← Hm.out]; rfl) ho6 (hr6.imp id (fun e r hr => by rw [e] at hr; injection hr with hr; omega)) (Fd.grp S (Lb.take (j + 1))) (fun b => by
          have htk : Lb.take (j + 1) = Lb.take j ++ [(i : Int)] := by rw [List.take_add_one, List.getElem?_eq_getElem hjl, ← Hx.out]; rfl
          rw [htk, Fd.grp_snoc, Int.toNat_natCast, ← Hwk2.out]
          split
          · rename_i e; rw [e, ← Hgl2.out]
          · rfl)
      obtain ⟨es7, clock7, hrun7, hM7⟩ := hput
      simp only [Act.put, List.setIfInBounds_toArray, List.set_cons_zero, List.set_cons_succ]
      refine rs_store 28 rfl (by kernel_rfl) (by kernel_rfl) (by rfl) ⟨_, ex_mapUpdate 53 (.tmp 23) (.tmp 31) (.tmp 47) rfl rfl rfl rfl hrun7, ?_⟩
      simp only [Act.put]
      refine rs_done (by kernel_rfl) ?_
      have hTa : Turn (fun i => gm ≤ i) (wr.drew.alloc (.cells #[.int .i64 (i : Int)] 3)) w6 := ⟨hg6.os, hg6.tape, hg6.output, hg6.size, fun k hk hn => hg6.block k hk (fun e => by have := hrn k e.symm; omega)⟩
      have hT7 : Turn (fun i => gm ≤ i) wr.drew (setBlock w6 gm (.map es7 clock7)) := ((Turn.ext hEi).tr hTa).tr (Turn.grown (setBlock_grown w6 gm _) (Nat.le_refl _))
      have hF7 := hFd.turn hT7 (fun k hk => by omega)
      have hT8 : Turn (fun i => i = gO ∨ i = gf) w (setBlock w6 gm (.map es7 clock7)) := ⟨hT7.os.trans hT.os, hT7.tape.trans hT.tape, hT7.output.trans hT.output, Nat.le_trans hT.size hT7.size, fun k hk hn => (hT7.block k (Nat.lt_of_lt_of_le hk hT.size) (by have := Hgm.out; omega)).trans (hT.block k hk hn)⟩
      have hs7 : gm + 1 ≤ (setBlock w6 gm (.map es7 clock7)).heap.size := Nat.le_trans hsz3 hT7.size
      have HF7 := Lib.hid hF7
      have HM7 := Lib.hid hM7
      have HT8 := Lib.hid hT8
      have Hs7 := Lib.hid hs7
      clear hTa hT7 hF7 hM7 hT8 hs7 hF hM hT hFd hMd hrun7 hg6 hr6 ho6 hri hEi hO Hlook Hap Hmd Hrg d_1 d_2 cwk cj rf rs hrn
      go_wp2_with fail
      go_roundw
      case rel => exact ⟨j + 1, _, _, by omega, by go_num, HF7.out, HM7.out, Hs7.out, HT8.out⟩
      case measure => simp [intOf]; omega
    · obtain rfl : j = nb := by omega
      rw [List.take_of_length_le (by have := Hnb.out; omega)] at hM
      have hR0 := hM.mr
      have hfe : Fd.grp S Lb = Fd.wan o n S Lb 0 := by funext b; rw [Fd.wan_zero]; rfl
      rw [hfe] at hR0
      have hFz : FA wr gf gO (.map (some gm)) oA oC o sA sC S (Fd.ans o n S Lb L0 0) := by rw [Fd.ans_zero hL0]; exact hF
      have hall := wall_any oA o oC n wr hF.old hF.oldc (by omega) hn (by omega)
      have c_0 := hF.c0
      obtain ⟨oL, hoL⟩ : ∃ oL, oL = o.length := ⟨_, rfl⟩
      obtain ⟨ss, hss⟩ : ∃ ss, ss = Sg.sums o n := ⟨_, rfl⟩
      have hms : ms = ss.length := by rw [hss, Sg.sums_len, HMs.out]
      rw [← hss, ← hms, ← hoL] at hall
      rw [← hoL] at c_0
      have hms2 : ms = oL + 1 - n := by rw [HMs.out, hoL]
      have HoL := Lib.hid hoL
      have Hss := Lib.hid hss
      have Hms := Lib.hid hms
      have hoc := hF.oldc
      have HR0 := Lib.hid hR0
      have HFz := Lib.hid hFz
      have HT := Lib.hid hT
      have hol2 : oL ≤ 100000 := by omega
      clear hoL hss hms hF hM hR0 hFz hfe hT
      go_wp2_with (go_at_call 30; refine hall.mono ?_; refine Hid.out ?_)
      rintro e2 w2 ⟨A6, c6, rfl, ho6, hx2⟩
      have HF2 := Lib.hid (HFz.out.ext hx2)
      have HR2 := Lib.hid (HR0.out.ext hx2)
      have hT2 := HT.out.tr (Turn.ext hx2)
      have hs2 : gm + 1 ≤ w2.heap.size := Nat.le_trans hsz hx2.size
      have Hrd := Lib.hid ho6.rd
      have Hrw : Hid (∀ ad, A6 = some ad → ss ≠ [] → gm + 1 ≤ ad.block) := fun ad hA hne => by
        have hc : c6 ≠ 0 := fun e0 => by have := ho6.nc; have := List.length_pos_iff.2 hne; have := Hms.out; omega
        have := (ho6.row_lt ad.block (by unfold ownRow; rw [if_neg hc, hA]; rfl)).1
        omega
      clear hall ho6 hx2 HR0 HFz HT
      refine Lib.hid ?_
      go_wp2_with fail
      go_loopw [56] (fun i wv => ∃ (k : Nat) (es : Array MapEntry) (clock : Nat), k ≤ ms ∧ i = .int .i64 k ∧ FA wv gf gO (.map (some gm)) oA oC o sA sC S (Fd.ans o n S Lb L0 k) ∧ MR wv gm .u32 (gm + 1) (Fd.wan o n S Lb k) es clock ∧ gm + 1 ≤ wv.heap.size ∧ Turn (fun i => i = gO ∨ i = gm) w2 wv) (fun i _ => ms - (intOf i).toNat)
      case atStart => exact ⟨0, _, _, by omega, rfl, HF2.out, HR2.out, hs2, Turn.refl _ _⟩
      case round =>
        clear HF2 HR2
        obtain ⟨k, es2, clock2, hk, rfl, hF3, hR3, hs3, hT3⟩ := hrel
        by_cases hkn : k < ms
        · have ik : (0 : Int) ≤ (k : Int) := by omega
          have ik2 : (k : Int) < (ms : Int) := by omega
          have hkl : k < ss.length := by have := Hms.out; omega
          have hrd : Rd _ 1 A6 ms (uvs ss) := Rd.turn Hrd.out hT3 (fun hx ad hA e => by have := Hrw.out ad hA (fun e2 => hx (by rw [e2]; rfl)); omega)
          obtain ⟨ad6, u, rfl, hu, cu⟩ := hrd.at_ hkn
          have huv : u = .int .u32 (Wk.sum (Sg.win o k n) : Int) := by
            have h1 := Hss.out
            subst h1
            rw [uvs, List.getElem?_map, Sg.sums, List.getElem?_map, List.getElem?_range (by rw [← HMs.out]; exact hkn)] at hu
            simp [uv] at hu
            exact hu.symm
          rw [huv] at cu
          have hstep := Fd.ans_step (o := o) (n := n) (S := S) (Lb := Lb) (L0 := L0) k (fun x hx => (hbr x hx).1)
          have hstep2 := Fd.wan_step (o := o) (n := n) (S := S) (Lb := Lb) k
          have htry := try_any gf gO gm (gm + 1) oA oC o sA sC S _ (Fd.wan o n S Lb k) es2 clock2 k n (Wk.sum (Sg.win o k n)) _ hF3 hR3 hgfm (by omega) hs3 (by have := HoL.out; omega) hn (by have := HoL.out; omega) (Wk.sum_lt _) hS
            (fun a x hx => hbr x (List.mem_filter.1 hx).1) (fun a => by
              have h1 : (Fd.wan o n S Lb k a).length ≤ Lb.length := List.length_filter_le _ _
              have := Hnb.out
              omega)
          rw [hstep, hstep2] at htry
          have Htry := Lib.hid htry
          obtain ⟨sv, hsv⟩ : ∃ sv, sv = Wk.sum (Sg.win o k n) := ⟨_, rfl⟩
          rw [← hsv] at cu Htry
          clear hF3 hR3 hrd hu huv hstep hstep2 htry hsv
          go_wp2_with (go_at_call 31; refine Htry.out.mono ?_; refine Hid.out ?_)
          rintro e4 w4 ⟨rfl, ⟨es4, clock4, hF4, hR4⟩, hT4⟩
          have HF4 := Lib.hid hF4
          have HR4 := Lib.hid hR4
          have hs4 := Nat.le_trans hs3 hT4.size
          have hT5 := hT3.tr hT4
          clear hF4 hR4 Htry hT4 hT3
          refine Lib.hid ?_
          go_wp2_with fail
          go_roundw
          case rel => exact ⟨k + 1, es4, clock4, by omega, by go_num, HF4.out, HR4.out, hs4, hT5⟩
          case measure => simp [intOf]; omega
        · obtain rfl : k = ms := by omega
          have HF3 := Lib.hid hF3
          have hTe : Turn (fun i => i = gO ∨ i = gf) w _ := ⟨hT3.os.trans hT2.os, hT3.tape.trans hT2.tape, hT3.output.trans hT2.output, Nat.le_trans hT2.size hT3.size, fun i hi hn => (hT3.block i (Nat.lt_of_lt_of_le hi hT2.size) (by have := Hgm.out; omega)).trans (hT2.block i hi hn)⟩
          have HTe := Lib.hid hTe
          clear hF3 hR3 hTe hT3
          go_wp2_with fail
          refine bodyPost_end (results_none rfl _ _ _) rfl ?_
          exact ⟨rfl, ⟨_, HF3.out⟩, HTe.out⟩
end Go.Proofs.Ytnagbhaknmoilaa
