
/- Walk of SignBack (scowlaw22). Printed by wip/tools/gen_sgnlawc22.py. -/

import Derived.Test.YtnagbhaknmoilaaSgnEq

namespace Go.Proofs.Ytnagbhaknmoilaa

open Go.RowKit

attribute [local go_sem] Oper.semAt_some

theorem run_conv_sb {P : Program} (w : World) (src dst e : TypeId) (b : List UInt8) (hs : P.underlying src = some .string) (hd : P.underlying dst = some (.slice e)) (he : P.underlying e = some (.int .u8)) :
    ∃ A c w', (convert src dst (.string ⟨b.toArray⟩)).run P w = .ok (.slice A b.length c) w' ∧ RdB w' A b ∧ Ext w w' := by
  have h := run_bytes_of_string (P := P) w src dst e ⟨b.toArray⟩ hs hd he
  have hsz : (ByteArray.mk b.toArray).size = b.length := rfl
  rw [hsz] at h
  refine ⟨_, _, _, h, ⟨by rw [bvs_len, Nat.mul_one], fun _ => ⟨_, rfl, fun j u hj => ?_⟩⟩, Ext.tr (Ext.drew w) (Ext.alloc _ _)⟩
  have hjl : j < b.length := by rw [← bvs_len b]; exact (List.getElem?_eq_some_iff.1 hj).1
  rw [bvs_get b j hjl] at hj
  injection hj with hj
  subst hj
  have hr := heap_alloc_new w.drew (.cells (bytesRow ⟨b.toArray⟩ (grownCap w b.length 0 e)) e ((bytesRow ⟨b.toArray⟩ (grownCap w b.length 0 e)).size, (bytesRow ⟨b.toArray⟩ (grownCap w b.length 0 e)).size + 1))
  have hr2 : (w.drew.alloc (.cells (bytesRow ⟨b.toArray⟩ (grownCap w b.length 0 e)) e ((bytesRow ⟨b.toArray⟩ (grownCap w b.length 0 e)).size, (bytesRow ⟨b.toArray⟩ (grownCap w b.length 0 e)).size + 1))).heap[w.heap.size]? = _ := hr
  rw [Addr.add_lit, cell_of_row _ _ _ _ _ _ hr2, Nat.zero_add]
  unfold bytesRow
  rw [Array.getElem?_append_left (by simpa using hjl)]
  simp [hjl, bv]
theorem Sg.findR_ok {o f : List UInt8} (ho : o.length ≤ 800) (hf : f.length ≤ 800) : Sg.findR o (f.length : Int) (Sg.table f) = (Sg.find o (f.length : Int) (Sg.table f), 0) := by
  unfold Sg.findR
  rw [if_neg (by omega), if_neg (by rw [Sg.table_len]; simp)]
/-- What is found is a block with the same strong sum; a block that stands there is found. -/
theorem Sg.place_ok {o f : List UInt8} {i : Nat} (hi : i < Sg.blocks f.length) (n : Nat) (hn : n = Sg.lenN f.length i) :
    (∃ j : Nat, Sg.place o f.length (Sg.table f) i = (j : Int) ∧ j < o.length + 1 - n ∧ Sha.sum (Sg.win o j n) = Sha.sum (Sg.blk f i)) ∨ (Sg.place o f.length (Sg.table f) i = -1 ∧ ∀ k, k < o.length + 1 - n → Sg.win o k n ≠ Sg.blk f i) := by
  subst hn
  have hti : i < (Sg.table f).length := by rw [Sg.table_len]; exact hi
  have hg : (Sg.table f)[i]? = some (Sg.of (Sg.blk f i)) := by rw [List.getElem?_eq_getElem hti, Sg.table_get]
  unfold Sg.place
  by_cases h0 : 0 ≤ Sg.first (Sg.hitP o (Sg.lenN f.length i) (Sg.table f) i) (o.length + 1 - Sg.lenN f.length i)
  · obtain ⟨j, hj, he, hp, _⟩ := Sg.first_hit h0
    refine .inl ⟨j, he, hj, ?_⟩
    unfold Sg.hitP Fd.hit at hp
    rw [hg] at hp
    simp only [Bool.and_eq_true, beq_iff_eq] at hp
    exact hp.2.symm
  · refine .inr ⟨by have := (Sg.first_ge (Sg.hitP o (Sg.lenN f.length i) (Sg.table f) i) (o.length + 1 - Sg.lenN f.length i)).1; omega, fun k hk e => ?_⟩
    have := Sg.first_neg (P := Sg.hitP o (Sg.lenN f.length i) (Sg.table f) i) (by omega) k hk
    unfold Sg.hitP Sg.wkOf Fd.hit at this
    rw [hg, e] at this
    simp [Sg.of] at this
set_option maxRecDepth 100000 in
set_option maxHeartbeats 4000000 in
theorem walkSignBack (w : World) (A : Option Addr) (o : List UInt8) (oC : Nat) (hA : RdB w A o) (hoc : o.length ≤ oC) (B : Option Addr) (f : List UInt8) (fC : Nat) (hB : RdB w B f) (hfc : f.length ≤ fC) :
    Calls Try.prog 5 #[.slice A o.length oC, .slice B f.length fC] w fun e w' => e = .returned (.bool true) ∧ Below w.heap.size w w' := by
  obtain ⟨ol, hol⟩ : ∃ ol, ol = o.length := ⟨_, rfl⟩
  obtain ⟨fl, hfl⟩ : ∃ fl, fl = f.length := ⟨_, rfl⟩
  rw [← hol] at hoc ⊢
  rw [← hfl] at hfc ⊢
  have Hol := Lib.hid hol
  have Hfl := Lib.hid hfl
  clear hol hfl
  by_cases hb1 : 800 < ol
  · have hbI : (800 : Int) < (ol : Int) := by omega
    go_enter Try.func5, Try.ntmps5
    go_wp2_with (go_at_call 6; refine (live22 _).mono ?_; rintro e1 w1 ⟨rfl, hx1⟩)
    go_ret
    exact ⟨rfl, hx1⟩
  have hb1I : (ol : Int) ≤ 800 := by omega
  by_cases hb2 : 800 < fl
  · have hbI : (800 : Int) < (fl : Int) := by omega
    go_enter Try.func5, Try.ntmps5
    go_wp2_with (go_at_call 6; refine (live22 _).mono ?_; rintro e1 w1 ⟨rfl, hx1⟩)
    go_ret
    exact ⟨rfl, hx1⟩
  have hb2I : (fl : Int) ≤ 800 := by omega
  have ht := table_any B f fC w hB (by rw [← Hfl.out]; exact hfc) (by rw [← Hfl.out]; omega)
  rw [← Hfl.out] at ht
  go_enter Try.func5, Try.ntmps5
  go_wp2_with (first | (go_at_call 7; refine ht.mono ?_; refine Hid.out ?_))
  clear ht
  rintro e2 w2 ⟨A2, c2, rfl, ho2, hx2⟩
  have hc2 := ho2.nc
  have hf := find_any A oC o (f.length : Int) A2 c2 (Sg.table f) w2 (hA.below hx2) (by rw [← Hol.out]; exact hoc) (by rw [← Hol.out]; omega) ⟨ho2.rd, Sg.table_ok f⟩ hc2 (by omega) (by rw [← Hfl.out]; omega)
  rw [Sg.findR_ok (by rw [← Hol.out]; omega) (by rw [← Hfl.out]; omega)] at hf
  obtain ⟨n, hn⟩ : ∃ n, n = Sg.blocks (f.length : Int) := ⟨_, rfl⟩
  have htl : (Sg.table f).length = n := by rw [Sg.table_len, hn]
  have hRl : (Sg.find o (f.length : Int) (Sg.table f)).length = n := by simp [Sg.find, htl]
  have hRg : ∀ i (h : i < (Sg.find o (f.length : Int) (Sg.table f)).length), (Sg.find o (f.length : Int) (Sg.table f))[i] = Sg.place o f.length (Sg.table f) i := fun i h => by simp [Sg.find]
  obtain ⟨R, hR⟩ : ∃ R, R = Sg.find o (f.length : Int) (Sg.table f) := ⟨_, rfl⟩
  rw [← hR] at hf hRl
  have HRg : Hid (∀ i (h : i < R.length), R[i] = Sg.place o f.length (Sg.table f) i) := by subst hR; exact hRg
  rw [htl, ← Hol.out, ← Hfl.out] at hf
  unfold FindPost at hf
  simp only [hRl] at hf
  have hn2 : n ≤ 2048 := by rw [hn]; exact Sg.blocks_le _
  have hbs := fun w => blocks_any (fl : Int) (by omega) (by omega) w
  rw [Hfl.out, ← hn, ← Hfl.out] at hbs
  have Hn := Lib.hid hn
  have HRl := Lib.hid hRl
  rw [htl]
  clear hn htl hRl hRg hR ho2 hc2
  refine Lib.hid ?_
  go_wp2_with (first | (go_at_call 13; refine hf.mono ?_; refine Hid.out ?_))
  clear hf
  rintro e3 w3 ⟨A3, c3, rfl, hR3, hx3⟩
  have hE3 := Ext.tr hx2 hx3
  have HR3 := Lib.hid hR3
  clear hx2 hx3 hR3
  refine Lib.hid ?_
  go_wp2_with (first | (go_at_call 16; refine (num22 _ _).mono ?_; rintro e4 w4 ⟨rfl, rfl⟩) | (go_at_call 11; refine (hbs _).mono ?_; rintro e4 w4 ⟨rfl, rfl⟩))
  clear hbs
  go_loopw [7] (fun i wr => ∃ k : Nat, k ≤ n ∧ i = .int .i64 k ∧ Ext w3 wr) (fun i _ => n - (intOf i).toNat)
  case atStart => exact ⟨0, by omega, rfl, Ext.refl _⟩
  case round =>
    obtain ⟨i, hi, rfl, hE⟩ := hrel
    by_cases hin : i < n
    · have iI : (0 : Int) ≤ (i : Int) := by omega
      have iI2 : (i : Int) < (n : Int) := by omega
      have hEw := Ext.tr hE3 hE
      have hib : i < Sg.blocks (f.length : Int) := by rw [← Hn.out]; exact hin
      have hBl := block_any (f.length : Int) (i : Int) (by omega) (by rw [← Hfl.out]; omega) wr
      obtain ⟨eb, b1, b2, b3, b4, b5⟩ := Sg.block_in hib
      rw [eb] at hBl
      obtain ⟨m, hm⟩ : ∃ m, m = Sg.lenN (f.length : Int) i := ⟨_, rfl⟩
      have hpl := Sg.place_ok (o := o) hib m hm
      have hm2 := Sg.lenN_eq hib
      rw [← hm] at hm2
      rw [hm2] at hBl b1 b2 b3
      obtain ⟨at_, hat⟩ : ∃ at_, at_ = 64 * i := ⟨_, rfl⟩
      rw [show 64 * (i : Int) = (at_ : Int) by omega] at hBl b3
      unfold bl2 at hBl
      simp only at hBl
      rw [← Hfl.out] at hBl b3
      have hblk : (Sg.blk f i).length = m := by rw [Sg.blk_len hib, hm]
      obtain ⟨b, hbb⟩ : ∃ b, b = Sg.blk f i := ⟨_, rfl⟩
      obtain ⟨B2, hB2⟩ : ∃ B2 : Option Addr, B2 = B.map (fun x => x.add at_) := ⟨_, rfl⟩
      have i1 : IntKind.i64.wrap ((at_ : Int) + (m : Int)) = ((at_ + m : Nat) : Int) := by rw [IntKind.wrap_i64]; omega
      have i1b : ((at_ + m : Nat) : Int) ≤ (fl : Int) := by omega
      have i1c : (at_ : Int) + (m : Int) ≤ (fl : Int) := by omega
      have i2 : ¬ fC = at_ := by omega
      have hrdb : RdB wr B2 b := by
        have h1 := (hB.below hEw).cut (k := at_) (m := at_ + m) (by omega) (by have := Hfl.out; omega) (c := fC) (by omega)
        rw [if_neg i2] at h1
        rw [hB2, hbb]
        unfold Sg.blk Sg.win
        rw [← hm, ← hat]
        rwa [List.drop_take, Nat.add_sub_cancel_left] at h1
      rw [← hbb] at hpl hblk
      have hst := run_str wr 22 9 5 B2 b (fC - at_) Try.underlying22 Try.underlying5 Try.underlying9 hrdb m hblk.symm
      rw [hB2] at hst
      have hR4 := (HR3.out.below hE).at_ (k := i) (by rw [HRl.out]; exact hin)
      obtain ⟨ad3, rfl, cR⟩ := hR4
      rw [HRg.out i (by rw [HRl.out]; exact hin)] at cR
      obtain ⟨v, hv⟩ : ∃ v, v = Sg.place o f.length (Sg.table f) i := ⟨_, rfl⟩
      rw [← hv] at cR hpl
      have iat : (0 : Int) ≤ (at_ : Int) := by omega
      have im : (1 : Int) ≤ (m : Int) := by omega
      have hsub : at_ + m - at_ = m := by omega
      have HB2 := Lib.hid hB2
      have Hpl := Lib.hid hpl
      have Hrdb := Lib.hid hrdb
      have Hblk := Lib.hid hblk
      clear hat hm hm2 eb hbb hv hpl hrdb hblk
      rcases Hpl.out with ⟨j, rfl, hj, hsm⟩ | ⟨rfl, hno⟩
      · have jI : (0 : Int) ≤ (j : Int) := by omega
        have hjl : j + m ≤ ol := by have := Hol.out; omega
        have k0 : IntKind.i64.wrap ((ol : Int) - (m : Int)) = (ol : Int) - (m : Int) := by rw [IntKind.wrap_i64]; omega
        have k1 : (j : Int) ≤ (ol : Int) - (m : Int) := by omega
        have k2 : IntKind.i64.wrap ((j : Int) + (m : Int)) = ((j + m : Nat) : Int) := by rw [IntKind.wrap_i64]; omega
        have k3 : ¬ oC = j := by omega
        have k4 : j + m - j = m := by omega
        have Hsm := Lib.hid hsm
        clear hsm Hpl
        go_wp2_with (first | (go_at_call 9; refine hBl.mono ?_; clear hBl; rintro e5 w5 ⟨rfl, rfl⟩))
        have hED := Ext.tr hEw (Ext.drew wr)
        have cRd : wr.drew.cell? (ad3.add i) = some (.int .i64 (j : Int)) := cR
        obtain ⟨q, hq⟩ : ∃ q, q = Sg.win o j m := ⟨_, rfl⟩
        obtain ⟨A4, hA4⟩ : ∃ A4 : Option Addr, A4 = A.map (fun x => x.add j) := ⟨_, rfl⟩
        have hql : q.length = m := by rw [hq, Sg.win_len (by rw [← Hol.out]; exact hjl)]
        have hrdq : RdB wr.drew A4 q := by
          have h1 := (hA.below hED).cut (k := j) (m := j + m) (by omega) (by rw [← Hol.out]; exact hjl) (c := oC) (by omega)
          rw [if_neg k3] at h1
          rw [hA4, hq]
          unfold Sg.win
          rwa [List.drop_take, Nat.add_sub_cancel_left] at h1
        have hst2 := run_str wr.drew 22 9 5 A4 q (oC - j) Try.underlying22 Try.underlying5 Try.underlying9 hrdq m hql.symm
        rw [← hq] at Hsm
        have hs1 := ref_sum A4 q (oC - j) wr.drew hrdq (by omega)
        rw [hql] at hs1
        obtain ⟨z, hz⟩ : ∃ z, z = Sha.sum b := ⟨_, rfl⟩
        have hzl : z.length = 32 := by rw [hz]; exact Sha.sum_len b
        rw [Hsm.out, ← hz] at hs1
        have Hz := Lib.hid hz
        have Hq := Lib.hid hq
        have HA4 := Lib.hid hA4
        have Hs1 := Lib.hid hs1
        have Hst2 := Lib.hid hst2
        clear hq hA4 hz hst hst2 hs1
        refine rg_start (by kernel_rfl) ?_
        refine rg_take 0 rfl (by kernel_rfl) (by kernel_rfl) (by kernel_rfl) (fun _ _ _ _ h => h) (by rfl) ⟨_, fun w' hx => by (go_simp <;> with_reducible rfl), ?_⟩
        simp only [Act.put, List.setIfInBounds_toArray, List.set_cons_zero, List.set_cons_succ]
        refine rg_take 1 rfl (by kernel_rfl) (by kernel_rfl) (by kernel_rfl) (fun _ _ _ _ h => h) (by rfl) ⟨_, fun w' hx => by (go_simp <;> with_reducible rfl), ?_⟩
        simp only [Act.put, List.setIfInBounds_toArray, List.set_cons_zero, List.set_cons_succ]
        refine rg_take 2 rfl (by kernel_rfl) (by kernel_rfl) (by kernel_rfl) (fun _ _ _ _ h => h) (by rfl) ⟨_, fun w' hx => by (go_simp <;> with_reducible rfl), ?_⟩
        simp only [Act.put, List.setIfInBounds_toArray, List.set_cons_zero, List.set_cons_succ]
        refine rg_take 3 rfl (by kernel_rfl) (by kernel_rfl) (by kernel_rfl) (fun _ _ _ _ h => h) (by rfl) ⟨_, fun w' hx => by (go_simp <;> with_reducible rfl), ?_⟩   -- t93 := indexAddr 35 t91 t92
        simp only [Act.put, List.setIfInBounds_toArray, List.set_cons_zero, List.set_cons_succ]
        refine rg_take 4 rfl (by kernel_rfl) (by kernel_rfl) (by kernel_rfl) (fun _ _ _ _ h => h) (by rfl) ⟨_, fun w' hx => by have hcx := hx.load cRd; (go_simp <;> with_reducible rfl), ?_⟩
        simp only [Act.put, List.setIfInBounds_toArray, List.set_cons_zero, List.set_cons_succ]
        refine rg_take 5 rfl (by kernel_rfl) (by kernel_rfl) (by kernel_rfl) (fun _ _ _ _ h => h) (by rfl) ⟨_, fun w' hx => by (go_simp <;> with_reducible rfl), ?_⟩
        simp only [Act.put, List.setIfInBounds_toArray, List.set_cons_zero, List.set_cons_succ]
        refine rg_take 6 rfl (by kernel_rfl) (by kernel_rfl) (by kernel_rfl) (fun _ _ _ _ h => h) (by rfl) ⟨_, fun w' hx => by (go_simp <;> with_reducible rfl), ?_⟩
        simp only [Act.put, List.setIfInBounds_toArray, List.set_cons_zero, List.set_cons_succ]
        refine rg_take 7 rfl (by kernel_rfl) (by kernel_rfl) (by kernel_rfl) (fun _ _ _ _ h => h) (by rfl) ⟨_, fun w' hx => by (go_simp <;> with_reducible rfl), ?_⟩   -- t97 := indexAddr 35 t95 t96
        simp only [Act.put, List.setIfInBounds_toArray, List.set_cons_zero, List.set_cons_succ]
        refine rg_take 8 rfl (by kernel_rfl) (by kernel_rfl) (by kernel_rfl) (fun _ _ _ _ h => h) (by rfl) ⟨_, fun w' hx => by have hcx := hx.load cRd; (go_simp <;> with_reducible rfl), ?_⟩
        simp only [Act.put, List.setIfInBounds_toArray, List.set_cons_zero, List.set_cons_succ]
        refine rg_take 9 rfl (by kernel_rfl) (by kernel_rfl) (by kernel_rfl) (fun _ _ _ _ h => h) (by rfl) ⟨_, fun w' hx => by (go_simp <;> with_reducible rfl), ?_⟩
        simp only [Act.put, List.setIfInBounds_toArray, List.set_cons_zero, List.set_cons_succ]
        refine rg_take 10 rfl (by kernel_rfl) (by kernel_rfl) (by kernel_rfl) (fun _ _ _ _ h => h) (by rfl) ⟨.int .i64 ((j + m : Nat) : Int), fun w' hx => by (go_simp <;> simp [k2]), ?_⟩
        simp only [Act.put, List.setIfInBounds_toArray, List.set_cons_zero, List.set_cons_succ]
        refine rg_take 11 rfl (by kernel_rfl) (by kernel_rfl) (by kernel_rfl) (fun _ _ _ _ h => h) (by rfl) ⟨.slice A4 m (oC - j), fun w' hx => by rw [HA4.out]; go_simp; rw [if_pos ⟨by omega, by omega⟩, if_pos (by omega), show ((j : Int) + (m : Int)).toNat - j = m by omega], ?_⟩
        simp only [Act.put, List.setIfInBounds_toArray, List.set_cons_zero, List.set_cons_succ]
        refine rg_take 12 rfl (by kernel_rfl) (by kernel_rfl) (by kernel_rfl) (fun _ _ _ _ h => h) (by rfl) ⟨_, fun w' hx => by (go_simp <;> with_reducible rfl), ?_⟩
        simp only [Act.put, List.setIfInBounds_toArray, List.set_cons_zero, List.set_cons_succ]
        refine rg_done (by kernel_rfl) ?_
        have hst2 := Hst2.out
        by_cases hqb : q = b
        · subst hqb
          go_wp2_with fail
          go_roundw
          case rel => exact ⟨i + 1, by omega, by go_num, Ext.tr hE (Ext.drew _)⟩
          case measure => simp [intOf]; omega
        · have hqB : (q == b) = false := beq_eq_false_iff_ne.2 hqb
          go_wp2_with (first | (go_at_call 17; refine Hs1.out.mono ?_; refine Hid.out ?_))
          rintro e6 w6 ⟨rfl, hx6⟩
          obtain ⟨A7, c7, w7, hcv, hrd7, hx7⟩ := run_conv_sb (P := Try.prog) w6 9 22 5 b Try.underlying9 Try.underlying22 Try.underlying5
          have hs7 := ref_sum A7 b c7 w7 hrd7 (by have := Hblk.out; omega)
          rw [Hblk.out, ← Hz.out] at hs7
          rw [Hblk.out] at hcv
          have hE7 := Ext.tr (Ext.drew wr) (Ext.tr hx6 hx7)
          have Hs7 := Lib.hid hs7
          clear Hs1 hrd7 hs7 hx6 hx7
          refine Lib.hid ?_
          go_wp2_with (first | (go_at_call 17; refine Hs7.out.mono ?_; refine Hid.out ?_))
          rintro e8 w8 ⟨rfl, hx8⟩
          have hE8 := Ext.tr hE (Ext.tr hE7 hx8)
          have hne : (Op.equalIn 10000 30 (.agg (bvs z).toArray) (.agg (bvs z).toArray)).run Try.prog w8 = .ok true w8 := by
            have h0 := run_eqArr z z w8 9998 30 Try.underlying30 hzl hzl
            rw [beq_self_eq_true] at h0
            exact h0
          clear hcv Hs7 hE7 hx8
          refine Lib.hid ?_
          go_wp2_with fail
          go_roundw
          case rel => exact ⟨i + 1, by omega, by go_num, hE8⟩
          case measure => simp [intOf]; omega
      · have Hno := Lib.hid hno
        clear hno Hpl
        go_wp2_with (first | (go_at_call 9; refine hBl.mono ?_; clear hBl; rintro e5 w5 ⟨rfl, rfl⟩))
        clear hst cR
        obtain ⟨K, hK⟩ : ∃ K, K = ol + 1 - m := ⟨_, rfl⟩
        have k0 : IntKind.i64.wrap ((ol : Int) - (m : Int)) = (ol : Int) - (m : Int) := by rw [IntKind.wrap_i64]; omega
        have HK := Lib.hid hK
        clear hK
        go_loopw [12] (fun t wv => ∃ k : Nat, k ≤ K ∧ t = .int .i64 k ∧ Ext wr wv) (fun t _ => K - (intOf t).toNat)
        case atStart => exact ⟨0, by omega, rfl, Ext.refl _⟩
        case round =>
          obtain ⟨k, hk, rfl, hE2⟩ := hrel
          by_cases hkK : k < K
          · have hkm : k + m ≤ ol := by have := HK.out; omega
            have k1 : (k : Int) ≤ (ol : Int) - (m : Int) := by omega
            have k2 : IntKind.i64.wrap ((k : Int) + (m : Int)) = ((k + m : Nat) : Int) := by rw [IntKind.wrap_i64]; omega
            have k3 : ¬ oC = k := by omega
            have k4 : k + m - k = m := by omega
            have kI : (0 : Int) ≤ (k : Int) := by omega
            obtain ⟨q, hq⟩ : ∃ q, q = Sg.win o k m := ⟨_, rfl⟩
            have hql : q.length = m := by rw [hq, Sg.win_len (by rw [← Hol.out]; exact hkm)]
            have hrdq : RdB wr (A.map (fun x => x.add k)) q := by
              have h1 := (hA.below (Ext.tr hEw hE2)).cut (k := k) (m := k + m) (by omega) (by rw [← Hol.out]; exact hkm) (c := oC) (by omega)
              rw [if_neg k3] at h1
              rw [hq]
              unfold Sg.win
              rwa [List.drop_take, Nat.add_sub_cancel_left] at h1
            have hst2 := run_str wr 22 9 5 _ q (oC - k) Try.underlying22 Try.underlying5 Try.underlying9 hrdq m hql.symm
            have hqb : (q == b) = false := by rw [beq_eq_false_iff_ne, hq]; exact Hno.out k (by rw [← Hol.out, ← HK.out]; exact hkK)
            clear hrdq hq hql
            go_wp2_with fail
            go_roundw
            case rel => exact ⟨k + 1, by omega, by go_num, hE2⟩
            case measure => simp [intOf]; omega
          · have k1 : (ol : Int) - (m : Int) < (k : Int) := by have := HK.out; omega
            go_wp2_with fail
            go_roundw
            case rel => exact ⟨i + 1, by omega, by go_num, Ext.tr hE hE2⟩
            case measure => simp [intOf]; omega
    · obtain rfl : i = n := by omega
      go_wp2_with (go_at_call 6; refine (live22 _).mono ?_; rintro e1 w1 ⟨rfl, hx1⟩)
      go_ret
      exact ⟨rfl, Ext.tr hE3 (Ext.tr hE hx1)⟩
end Go.Proofs.Ytnagbhaknmoilaa
