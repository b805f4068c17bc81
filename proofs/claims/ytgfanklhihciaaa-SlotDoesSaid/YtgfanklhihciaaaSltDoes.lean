
/- Contract: the law's does (scowlaw06): a deed on both bodies. Printed by wip/tools/gen_sltdoes06.py. -/

import Derived.Test.YtgfanklhihciaaaSltLaw

import Derived.Test.YtgfanklhihciaaaSltList

import Derived.Test.YtgfanklhihciaaaSltRIns

import Derived.Test.YtgfanklhihciaaaReg6

namespace Go.Proofs.Ytgfanklhihciaaa

open Go.RowKit

attribute [local go_sem] Oper.semAt_some

section

variable {r : Option Nat} {P : Program} {md : Region.Mode} {ops : Array Oper} {Q : Exit → Act → World → Prop}

/-- A call, the only operation that may come up now; it waits for all that came, and may change anything. -/
theorem rs_callL (i : Nat) {oi : Oper} {fuel : Nat} {listed : Array Bool} {a : Act} {w : World} {f : FuncId} {args : Array Value} {R : Ending → World → Prop} (hc : Calls P f args w R) (hi0 : ops.toList[i]? = some oi)
    (hr : Region.ready md ops listed = [i]) (hwt : waits md ops listed i = true) (hw : Region.wanted oi (yielded ops a.tmps) = true)
    (hx : (execOp a.eval oi).run P w = .ok (.enter f args) w)
    (h : ∀ e w', R e w' → ∃ v, e = .returned v ∧ wpAnyS r P md ops Q fuel (listed.setIfInBounds i true) (a.put oi.dst v) w') : wpAnyS r P md ops Q (fuel + 1) listed a w :=
  rs_last i hi0 hr hwt hw fun K hK => by
    unfold Oper.wp
    rw [hx, Oper.upon_enter]
    refine hc.mono fun e w' hR => ?_
    obtain ⟨v, rfl, h2⟩ := h e w' hR
    exact hK _ _ h2
end

theorem MAt.off {w w' : World} {g k : Nat} {A : Option Addr} {c : Nat} {L : List ScV} {m : SBody} (h : MAt w g A c L m) (hg : w.grownBy w' (some k)) (hk : k < g) : MAt w' g A c L m :=
  ⟨(hg.block g (lt_of_heap h.row) (fun e => by injection e with e; omega)).trans h.row, h.own.off hg (by omega), fun e he => (h.each e he).off hg (by omega), h.l, h.inv⟩
theorem SAt.lowB {w w' : World} {g gm : Nat} {b : List UInt8} {m : SBody} (h : SAt w g b m) (hb : Below gm w w') (hg : g < gm) : SAt w' g b m := ⟨⟨(hb.block g hg).trans h.bb.row, h.bb.len⟩, h.rel, h.inv⟩
def DoesR (gs gm : Nat) (w : World) (e : Ending) (w' : World) : Prop := e = .returned (.bool true) ∧ (∃ (b : List UInt8) (m : SBody) (A : Option Addr) (c : Nat) (L : List ScV), SAt w' gs b m ∧ MAt w' gm A c L m) ∧ Below gs w w'
set_option maxRecDepth 100000 in
set_option maxHeartbeats 2000000 in
theorem does06 (gs : Nat) (b : List UInt8) (m : SBody) (gm : Nat) (A : Option Addr) (c : Nat) (L : List ScV) (y : DeV) (w : World) (hS : SAt w gs b m) (hM : MAt w gm A c L m) (hlt : gs < gm) (hY : RdB w y.pa y.x.p) (hne : y.x.p ≠ [] → ∀ ad, y.pa = some ad → ad.block < gs) (hpl : y.x.p.length ≤ 2000) :
    Calls Try.prog 11 #[.pointer (some ⟨gs, 0, none⟩), .pointer (some ⟨gm, 0, none⟩), y.val] w (DoesR gs gm w) := by
  have hgl := lt_of_heap hM.row
  obtain ⟨xb, hxb⟩ : ∃ xb, xb = w.heap.size := ⟨_, rfl⟩
  obtain ⟨w1, hw1⟩ : ∃ w1, w1 = w.alloc (.cells y.cells 32) := ⟨_, rfl⟩
  have hDX : DX w1 xb y := ⟨by rw [hw1, hxb]; exact heap_alloc_new w _⟩
  have hx1 : Ext w w1 := by rw [hw1]; exact Ext.alloc w _
  have hgx : gm < xb := by omega
  have hS1 := hS.ext hx1
  have hM1 := hM.ext hx1
  have hY1 := hY.below hx1
  obtain ⟨kd, hkd⟩ : ∃ kd, kd = y.x.kind := ⟨_, rfl⟩
  obtain ⟨di, hdi⟩ : ∃ di, di = y.x.i := ⟨_, rfl⟩
  obtain ⟨p, hp⟩ : ∃ p, p = y.x.p := ⟨_, rfl⟩
  obtain ⟨pa, hpa⟩ : ∃ pa, pa = y.pa := ⟨_, rfl⟩
  obtain ⟨pc, hpc⟩ : ∃ pc, pc = y.pc := ⟨_, rfl⟩
  have HDX : Hid (∀ w', DX w' xb y → w'.cell? ⟨xb, 0, none⟩ = some (.int .i64 kd) ∧ w'.cell? ⟨xb, 1, none⟩ = some (.int .i64 di) ∧ w'.cell? ⟨xb, 2, none⟩ = some (.slice pa p.length pc)) := fun w' h => ⟨by rw [hkd]; exact h.kind, by rw [hdi]; exact h.i, by rw [hpa, hp, hpc]; exact h.p⟩
  rw [← hp, ← hpa] at hY1 hne
  rw [← hp] at hpl
  have c0 : y.cells[0]? = some (.int .i64 kd) := by rw [hkd]; rfl
  have HD1 := Lib.hid hDX
  have HW1 := Lib.hid hw1
  have HXB := Lib.hid hxb
  have HS1 := Lib.hid hS1
  have HM1 := Lib.hid hM1
  have HY1 := Lib.hid hY1
  have Hne := Lib.hid hne
  have hx1l : Below gs w w1 := Below.mono hx1 (by omega)
  have Hx1 := Lib.hid hx1l
  have Xn : some xb ≠ some gs := fun e => by injection e; omega
  have hsz : gs ≤ w1.heap.size := by have := hx1.size; omega
  have hsz2 : gs < w1.heap.size := by have := hx1.size; omega
  unfold DeV.val
  clear hkd hdi hp hpa hpc hw1 hxb hDX hx1 hS hM hS1 hM1 hY hY1 hne hx1l
  refine Lib.hid ?_
  go_enter Try.func11, Try.ntmps11
  by_cases k0 : kd = 0
  · subst k0
    go_wp2_with fail
    rw [← HW1.out, ← HXB.out]
    clear c0
    have hSd := HS1.out.ext (Ext.drew w1)
    have hpd := HY1.out.below (Ext.drew w1)
    obtain ⟨X0, X1, X2⟩ := HDX.out w1.drew (HD1.out.ext (Ext.drew w1))
    clear X0
    refine Lib.hid ?_
    refine rs_start (some gs) (by kernel_rfl) ?_
    refine rs_take 0 rfl (by kernel_rfl) (by kernel_rfl) (by kernel_rfl) (fun _ _ _ _ h => h) (by rfl) ⟨_, fun w' hx => by (go_simp <;> with_reducible rfl), ?_⟩
    simp only [Act.put, List.setIfInBounds_toArray, List.set_cons_zero, List.set_cons_succ]
    refine rs_take 1 rfl (by kernel_rfl) (by kernel_rfl) (by kernel_rfl) (fun _ _ _ _ h => h) (by rfl) ⟨_, fun w' hx => by (go_simp <;> with_reducible rfl), ?_⟩   -- t12 := fieldAddr 32 t5 1
    simp only [Act.put, List.setIfInBounds_toArray, List.set_cons_zero, List.set_cons_succ]
    refine rs_take 2 rfl (by kernel_rfl) (by kernel_rfl) (by kernel_rfl) (fun _ _ _ _ h => h) (by rfl) ⟨_, fun w' hx => by have hcx := Row.load hx X1 Xn; (go_simp <;> with_reducible rfl), ?_⟩
    simp only [Act.put, List.setIfInBounds_toArray, List.set_cons_zero, List.set_cons_succ]
    refine rs_take 4 rfl (by kernel_rfl) (by kernel_rfl) (by kernel_rfl) (fun _ _ _ _ h => h) (by rfl) ⟨_, fun w' hx => by (go_simp <;> with_reducible rfl), ?_⟩   -- t15 := fieldAddr 32 t5 2
    simp only [Act.put, List.setIfInBounds_toArray, List.set_cons_zero, List.set_cons_succ]
    refine rs_take 5 rfl (by kernel_rfl) (by kernel_rfl) (by kernel_rfl) (fun _ _ _ _ h => h) (by rfl) ⟨_, fun w' hx => by have hcx := Row.load hx X2 Xn; (go_simp <;> with_reducible rfl), ?_⟩
    simp only [Act.put, List.setIfInBounds_toArray, List.set_cons_zero, List.set_cons_succ]
    refine rs_take 9 rfl (by kernel_rfl) (by kernel_rfl) (by kernel_rfl) (fun _ _ _ _ h => h) (by rfl) ⟨_, fun w' hx => by (go_simp <;> with_reducible rfl), ?_⟩
    simp only [Act.put, List.setIfInBounds_toArray, List.set_cons_zero, List.set_cons_succ]
    refine rs_take 10 rfl (by kernel_rfl) (by kernel_rfl) (by kernel_rfl) (fun _ _ _ _ h => h) (by rfl) ⟨_, fun w' hx => by (go_simp <;> with_reducible rfl), ?_⟩   -- t21 := fieldAddr 32 t5 1
    simp only [Act.put, List.setIfInBounds_toArray, List.set_cons_zero, List.set_cons_succ]
    refine rs_take 11 rfl (by kernel_rfl) (by kernel_rfl) (by kernel_rfl) (fun _ _ _ _ h => h) (by rfl) ⟨_, fun w' hx => by have hcx := Row.load hx X1 Xn; (go_simp <;> with_reducible rfl), ?_⟩
    simp only [Act.put, List.setIfInBounds_toArray, List.set_cons_zero, List.set_cons_succ]
    refine rs_take 12 rfl (by kernel_rfl) (by kernel_rfl) (by kernel_rfl) (fun _ _ _ _ h => h) (by rfl) ⟨_, fun w' hx => by (go_simp <;> with_reducible rfl), ?_⟩   -- t23 := fieldAddr 32 t5 2
    simp only [Act.put, List.setIfInBounds_toArray, List.set_cons_zero, List.set_cons_succ]
    refine rs_take 13 rfl (by kernel_rfl) (by kernel_rfl) (by kernel_rfl) (fun _ _ _ _ h => h) (by rfl) ⟨_, fun w' hx => by have hcx := Row.load hx X2 Xn; (go_simp <;> with_reducible rfl), ?_⟩
    simp only [Act.put, List.setIfInBounds_toArray, List.set_cons_zero, List.set_cons_succ]
    refine rs_make 3 rfl (by kernel_rfl) (by rfl) ⟨_, _, by (go_simp <;> first | exact ⟨rfl, rfl⟩ | rfl), Row.ext (Ext.alloc _ _), ?_⟩
    simp only [Act.put, List.setIfInBounds_toArray, List.set_cons_zero, List.set_cons_succ]
    have hW0 : Ext w1.drew (w1.drew.alloc (.cells #[] 5)) := Ext.alloc _ _
    refine rs_one 6 rfl (by kernel_rfl) (by rfl) (wp_app (.tmp 14) (.tmp 16) 30 rfl elemB w1.heap.size _ 0 0 [] rfl pa p.length pc (bvs p) rfl p.length (by omega) (bvs p) rfl (Own.none_ _ _ _ _ _) (hpd.below hW0) (bvs_one _) (by omega) (by omega) hW0.size (fun A6 c6 w6 ho6 hg6 hr6 => ⟨.inl (Row.ext (grown_none (by simpa [ownRow] using hg6))), ?_⟩))
    have hE6 : Ext w1 w6 := Ext.tr (Ext.drew w1) (Ext.tr hW0 (grown_none (by simpa [ownRow] using hg6)))
    have hpr6 := ho6.rd'
    have hY6 := HY1.out.below hE6
    have hn6 : p ≠ [] → ∀ ad, A6 = some ad → ad.block ≠ gs := fun h1 ad h2 => by
      have h3 := hpr6
      obtain ⟨k, h4⟩ : ∃ k, ownRow A6 c6 = some k := by
        unfold ownRow
        rw [if_neg (by have := ho6.nc; have := List.length_pos_iff.2 h1; omega), h2]
        exact ⟨_, rfl⟩
      have h5 := ho6.row_lt k h4
      unfold ownRow at h4
      rw [if_neg (by have := ho6.nc; have := List.length_pos_iff.2 h1; omega), h2] at h4
      injection h4 with h4
      simp only [] at h4
      omega
    have hS6 := HS1.out.ext hE6
    clear ho6 hg6 hr6
    simp only [Act.put, List.setIfInBounds_toArray, List.set_cons_zero, List.set_cons_succ]
    refine rs_call 7 (insert_any gs b m di A6 p c6 w6 hS6 hpr6 hn6 (by omega)) rfl (by kernel_rfl) (by rfl) (by go_simp) ?_
    rintro e7 w7 ⟨rfl, ⟨b7, hS7⟩, hg7⟩
    refine ⟨_, rfl, hg7, ?_⟩
    have hM7 := (HM1.out.ext hE6).off hg7 hlt
    have hx7 := below_row (Below.trans Hx1.out (Below.mono hE6 hsz)) hg7 (Nat.le_refl _) (Nat.le_trans hsz (hE6).size)
    have hp7 := hY6.otherN hg7 (fun h1 ad h2 => by have := Hne.out h1 ad h2; omega)
    clear hS6 hpr6 hn6 hY6 hE6 hg7
    simp only [Act.put, List.setIfInBounds_toArray, List.set_cons_zero, List.set_cons_succ]
    refine rs_call 8 (num06 (m.insert di p).1 w7) rfl (by kernel_rfl) (by rfl) (by go_simp) ?_
    rintro ee wz ⟨rfl, rfl⟩
    refine ⟨_, rfl, Row.refl _ _, ?_⟩
    simp only [Act.put, List.setIfInBounds_toArray, List.set_cons_zero, List.set_cons_succ]
    refine rs_callL 14 (ref_sinsert gm A c L m di pa p pc w7 hM7 hp7 (fun h1 ad h2 => by have := Hne.out h1 ad h2; omega) (by omega)) rfl (by kernel_rfl) (by kernel_rfl) (by rfl) (by go_simp) ?_
    rintro e8 w8 ⟨rfl, ⟨A8, c8, L8, hM8⟩, hb8⟩
    refine ⟨_, rfl, ?_⟩
    have HZ := Lib.hid (⟨_, _, _, _, _, hS7.lowB hb8 hlt, hM8⟩ : ∃ (b : List UInt8) (m : SBody) (A : Option Addr) (c : Nat) (L : List ScV), SAt w8 gs b m ∧ MAt w8 gm A c L m)
    have Hx8 := Lib.hid (hx7.trans (hb8.mono (by omega)))
    clear hS7 hM8 hb8 hx7
    simp only [Act.put, List.setIfInBounds_toArray, List.set_cons_zero, List.set_cons_succ]
    refine rs_take 15 rfl (by kernel_rfl) (by kernel_rfl) (by kernel_rfl) (fun _ _ _ _ h => h) (by rfl) ⟨.bool true, fun w' hx => by (go_simp <;> simp), ?_⟩
    simp only [Act.put, List.setIfInBounds_toArray, List.set_cons_zero, List.set_cons_succ]
    refine rs_take 16 rfl (by kernel_rfl) (by kernel_rfl) (by kernel_rfl) (fun _ _ _ _ h => h) (by rfl) ⟨_, fun w' hx => by (go_simp <;> with_reducible rfl), ?_⟩
    simp only [Act.put, List.setIfInBounds_toArray, List.set_cons_zero, List.set_cons_succ]
    refine rs_done (by kernel_rfl) ?_
    go_wp2_with fail
    go_ret
    exact ⟨rfl, HZ.out, Hx8.out⟩
  · by_cases k1 : kd = 1
    · subst k1
      go_wp2_with fail
      rw [← HW1.out, ← HXB.out]
      clear c0 k0
      have hSd := HS1.out.ext (Ext.drew w1)
      obtain ⟨X0, X1, X2⟩ := HDX.out w1.drew (HD1.out.ext (Ext.drew w1))
      clear X0 X2
      refine Lib.hid ?_
      refine rs_start (some gs) (by kernel_rfl) ?_
      refine rs_take 0 rfl (by kernel_rfl) (by kernel_rfl) (by kernel_rfl) (fun _ _ _ _ h => h) (by rfl) ⟨_, fun w' hx => by (go_simp <;> with_reducible rfl), ?_⟩
      simp only [Act.put, List.setIfInBounds_toArray, List.set_cons_zero, List.set_cons_succ]
      refine rs_take 1 rfl (by kernel_rfl) (by kernel_rfl) (by kernel_rfl) (fun _ _ _ _ h => h) (by rfl) ⟨_, fun w' hx => by (go_simp <;> with_reducible rfl), ?_⟩   -- t30 := fieldAddr 32 t5 1
      simp only [Act.put, List.setIfInBounds_toArray, List.set_cons_zero, List.set_cons_succ]
      refine rs_take 2 rfl (by kernel_rfl) (by kernel_rfl) (by kernel_rfl) (fun _ _ _ _ h => h) (by rfl) ⟨_, fun w' hx => by have hcx := Row.load hx X1 Xn; (go_simp <;> with_reducible rfl), ?_⟩
      simp only [Act.put, List.setIfInBounds_toArray, List.set_cons_zero, List.set_cons_succ]
      refine rs_take 5 rfl (by kernel_rfl) (by kernel_rfl) (by kernel_rfl) (fun _ _ _ _ h => h) (by rfl) ⟨_, fun w' hx => by (go_simp <;> with_reducible rfl), ?_⟩
      simp only [Act.put, List.setIfInBounds_toArray, List.set_cons_zero, List.set_cons_succ]
      refine rs_take 6 rfl (by kernel_rfl) (by kernel_rfl) (by kernel_rfl) (fun _ _ _ _ h => h) (by rfl) ⟨_, fun w' hx => by (go_simp <;> with_reducible rfl), ?_⟩   -- t35 := fieldAddr 32 t5 1
      simp only [Act.put, List.setIfInBounds_toArray, List.set_cons_zero, List.set_cons_succ]
      refine rs_take 7 rfl (by kernel_rfl) (by kernel_rfl) (by kernel_rfl) (fun _ _ _ _ h => h) (by rfl) ⟨_, fun w' hx => by have hcx := Row.load hx X1 Xn; (go_simp <;> with_reducible rfl), ?_⟩
      simp only [Act.put, List.setIfInBounds_toArray, List.set_cons_zero, List.set_cons_succ]
      refine rs_call 3 (delete_any gs b m di w1.drew hSd) rfl (by kernel_rfl) (by rfl) (by go_simp) ?_
      rintro e7 w7 ⟨rfl, ⟨b7, hS7⟩, hg7⟩
      refine ⟨_, rfl, hg7, ?_⟩
      have hM7 := (HM1.out.ext (Ext.drew w1)).off hg7 hlt
      have hx7 := below_row (Below.trans Hx1.out (Below.mono (Ext.drew w1) hsz)) hg7 (Nat.le_refl _) (Nat.le_trans hsz (Ext.drew w1).size)
      clear hSd hg7
      simp only [Act.put, List.setIfInBounds_toArray, List.set_cons_zero, List.set_cons_succ]
      refine rs_call 4 (num06 (m.delete di).1 w7) rfl (by kernel_rfl) (by rfl) (by go_simp) ?_
      rintro ee wz ⟨rfl, rfl⟩
      refine ⟨_, rfl, Row.refl _ _, ?_⟩
      simp only [Act.put, List.setIfInBounds_toArray, List.set_cons_zero, List.set_cons_succ]
      refine rs_callL 8 (ref_sdelete gm A c L m di w7 hM7) rfl (by kernel_rfl) (by kernel_rfl) (by rfl) (by go_simp) ?_
      rintro e8 w8 ⟨rfl, ⟨A8, c8, L8, hM8⟩, hb8⟩
      refine ⟨_, rfl, ?_⟩
      have HZ := Lib.hid (⟨_, _, _, _, _, hS7.lowB hb8 hlt, hM8⟩ : ∃ (b : List UInt8) (m : SBody) (A : Option Addr) (c : Nat) (L : List ScV), SAt w8 gs b m ∧ MAt w8 gm A c L m)
      have Hx8 := Lib.hid (hx7.trans (hb8.mono (by omega)))
      clear hS7 hM8 hb8 hx7
      simp only [Act.put, List.setIfInBounds_toArray, List.set_cons_zero, List.set_cons_succ]
      refine rs_take 9 rfl (by kernel_rfl) (by kernel_rfl) (by kernel_rfl) (fun _ _ _ _ h => h) (by rfl) ⟨.bool true, fun w' hx => by (go_simp <;> simp), ?_⟩
      simp only [Act.put, List.setIfInBounds_toArray, List.set_cons_zero, List.set_cons_succ]
      refine rs_take 10 rfl (by kernel_rfl) (by kernel_rfl) (by kernel_rfl) (fun _ _ _ _ h => h) (by rfl) ⟨_, fun w' hx => by (go_simp <;> with_reducible rfl), ?_⟩
      simp only [Act.put, List.setIfInBounds_toArray, List.set_cons_zero, List.set_cons_succ]
      refine rs_done (by kernel_rfl) ?_
      go_wp2_with fail
      go_ret
      exact ⟨rfl, HZ.out, Hx8.out⟩
    · by_cases k2 : kd = 2
      · subst k2
        go_wp2_with fail
        rw [← HW1.out]
        clear c0 k0 k1
        have hSd := HS1.out
        go_wp2_with fail
        refine (pack_any gs b m w1 hSd).mono ?_
        rintro e2 w2 ⟨rfl, ⟨b2, hS2⟩, hg2⟩
        have hM2 := HM1.out.off hg2 hlt
        have hx2 := below_row Hx1.out hg2 (Nat.le_refl _) hsz
        clear hSd hg2
        go_wp2_with fail
        refine (ref_spack gm A c L _ w2 hM2).mono ?_
        rintro e3 w3 ⟨rfl, ⟨L3, hM3⟩, hb3⟩
        have hx3 := hx2.trans (hb3.mono (by omega))
        have hS3 := hS2.lowB hb3 hlt
        clear hS2 hM2 hx2 hb3
        have HZ := Lib.hid (⟨_, _, _, _, _, hS3, hM3⟩ : ∃ (b : List UInt8) (m : SBody) (A : Option Addr) (c : Nat) (L : List ScV), SAt w3 gs b m ∧ MAt w3 gm A c L m)
        clear hS3 hM3
        go_wp2_with fail
        go_ret
        exact ⟨rfl, HZ.out, hx3⟩
      · have HZ := Lib.hid (⟨_, _, _, _, _, HS1.out, HM1.out⟩ : ∃ (b : List UInt8) (m : SBody) (A : Option Addr) (c : Nat) (L : List ScV), SAt w1 gs b m ∧ MAt w1 gm A c L m)
        go_wp2_with fail
        go_ret
        rw [← HW1.out]
        exact ⟨rfl, HZ.out, Hx1.out⟩
end Go.Proofs.Ytgfanklhihciaaa
