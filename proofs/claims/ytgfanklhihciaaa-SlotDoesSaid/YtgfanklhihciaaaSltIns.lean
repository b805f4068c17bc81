
/- Contracts: slot.Body's Insert, Delete. Printed by wip/tools/gen_sltins06.py. -/

import Derived.Test.YtgfanklhihciaaaSltWrite

namespace Go.Proofs.Ytgfanklhihciaaa

open Go.RowKit

attribute [local go_sem] Oper.semAt_some

theorem RdB.other {w w' : World} {A : Option Addr} {d : List UInt8} {g : Nat} (h : RdB w A d) (hg : w.grownBy w' (some g)) (hn : ∀ ad, A = some ad → ad.block ≠ g) : RdB w' A d := Rd.grown h hg (fun ad e h2 => hn ad e (by injection h2))
theorem RdB.otherN {w w' : World} {A : Option Addr} {d : List UInt8} {g : Nat} (h : RdB w A d) (hg : w.grownBy w' (some g)) (hn : d ≠ [] → ∀ ad, A = some ad → ad.block ≠ g) : RdB w' A d := by
  by_cases hd : d = []
  · subst hd; exact RdB.nil_ _ _
  · exact h.other hg (hn hd)
/-- What has bytes lies among the blocks. -/
theorem RdB.lt {w : World} {A : Option Addr} {d : List UInt8} (h : RdB w A d) (hd : d ≠ []) (ad : Addr) (e : A = some ad) : ad.block < w.heap.size := by
  obtain ⟨ad', e', hc⟩ := h.at_ (k := 0) (List.length_pos_iff.2 hd)
  rw [e] at e'; injection e' with e'; subst e'
  by_cases hlt : ad.block < w.heap.size
  · exact hlt
  · have : w.heap[ad.block]? = none := Array.getElem?_eq_none (by omega)
    exact absurd hc (by simp [World.cell?, Addr.add, this])
theorem arrA_lt {g l : Nat} (h : l ≠ 243) : arrA g l = ⟨g, l, none⟩ := by unfold arrA; rw [if_neg (fun e => h e.symm)]
set_option maxRecDepth 100000 in
set_option maxHeartbeats 1000000 in
theorem insert_any (g : Nat) (b : List UInt8) (m : SBody) (i : Int) (C : Option Addr) (c : List UInt8) (cc : Nat) (w : World) (h : SAt w g b m) (hC : RdB w C c) (hne : c ≠ [] → ∀ ad, C = some ad → ad.block ≠ g) (hcl : c.length ≤ 1000000) :
    Calls Try.prog 14 #[.pointer (some ⟨g, 0, none⟩), .int .i64 i, .slice C c.length cc] w fun e w' => e = .returned (.int .i64 (m.insert i c).1) ∧ (∃ b', SAt w' g b' (m.insert i c).2) ∧ w.grownBy w' (some g) := by
  have hn := h.inv.n
  have hn0 : slN b = m.l.length := h.n
  have hL := blen_any g b w h.bb
  rw [hn0] at hL
  have Hh := Lib.hid h
  have Hne := Lib.hid hne
  obtain ⟨n, hnn⟩ : ∃ n, n = m.l.length := ⟨_, rfl⟩
  rw [← hnn] at hL hn hn0
  have Hnn := Lib.hid hnn
  clear h hnn
  by_cases h0 : i < 0
  · have he : m.insert i c = (7, m) := by unfold SBody.insert; rw [if_pos (.inl h0)]
    go_enter Try.func14, Try.ntmps14
    go_wp2_with (go_at_call 18; refine hL.mono ?_; rintro e1 w1 ⟨rfl, rfl⟩)
    go_ret
    rw [he]
    exact ⟨rfl, ⟨b, Hh.out⟩, ⟨rfl, rfl, rfl, Nat.le_refl _, fun _ _ _ => rfl⟩⟩
  by_cases h1 : (n : Int) < i
  · have he : m.insert i c = (7, m) := by unfold SBody.insert; rw [if_pos (.inr (by rw [← Hnn.out]; exact h1))]
    go_enter Try.func14, Try.ntmps14
    go_wp2_with (go_at_call 18; refine hL.mono ?_; rintro e1 w1 ⟨rfl, rfl⟩)
    go_ret
    rw [he]
    exact ⟨rfl, ⟨b, Hh.out⟩, ⟨rfl, rfl, rfl, Nat.le_refl _, fun _ _ _ => rfl⟩⟩
  have hin : ¬ (i < 0 ∨ (m.l.length : Int) < i) := by rw [← Hnn.out]; omega
  obtain ⟨k, rfl⟩ : ∃ k : Nat, i = k := ⟨i.toNat, by omega⟩
  have hk : k ≤ n := by omega
  have Hin := Lib.hid hin
  clear hin
  by_cases h2 : 78 < c.length
  · have he : m.insert k c = (1, m) := by unfold SBody.insert; rw [if_neg Hin.out, if_pos h2]
    have b2 : (78 : Int) < (c.length : Int) := by omega
    go_enter Try.func14, Try.ntmps14
    go_wp2_with (go_at_call 18; refine hL.mono ?_; rintro e1 w1 ⟨rfl, rfl⟩)
    go_ret
    rw [he]
    exact ⟨rfl, ⟨b, Hh.out⟩, ⟨rfl, rfl, rfl, Nat.le_refl _, fun _ _ _ => rfl⟩⟩
  have b2 : ¬ (78 : Int) < (c.length : Int) := by omega
  have hF := free_any g b m w Hh.out
  obtain ⟨fr, hfr⟩ : ∃ fr, fr = m.free := ⟨_, rfl⟩
  rw [← hfr] at hF
  have w2c : IntKind.i64.wrap (2 + (c.length : Int)) = ((2 + c.length : Nat) : Int) := by rw [IntKind.wrap_i64]; omega
  by_cases h3 : fr < 2 + c.length
  · have he : m.insert k c = (60, m) := by unfold SBody.insert; rw [if_neg Hin.out, if_neg h2, if_pos (by rw [← hfr]; exact h3)]
    have b3 : (fr : Int) < ((2 + c.length : Nat) : Int) := by omega
    clear hfr
    go_enter Try.func14, Try.ntmps14
    go_wp2_with (first | (go_at_call 18; refine hL.mono ?_; rintro e1 w1 ⟨rfl, rfl⟩) | (go_at_call 19; refine hF.mono ?_; rintro e2 w2 ⟨rfl, hb2⟩))
    go_ret
    rw [he]
    exact ⟨rfl, ⟨b, Hh.out.ext hb2⟩, grown_ext hb2 _⟩
  have b3 : ¬ (fr : Int) < ((2 + c.length : Nat) : Int) := by omega
  have he : m.insert k c = (0, (m.room c).lay k c) := by
    unfold SBody.insert
    rw [if_neg Hin.out, if_neg h2, if_neg (by rw [← hfr]; exact h3), Int.toNat_natCast]
  have hfit : 2 + 2 * (n + 1) + c.length ≤ (m.room c).top := by rw [Hnn.out]; exact SBody.room_fits (by rw [← hfr]; omega)
  have He := Lib.hid he
  have Hfit := Lib.hid hfit
  clear he hfit hfr
  have hT := top_any g b
  have hsT : slT b = m.top := Hh.out.rel.slT Hh.out.inv
  rw [hsT] at hT
  have htop := Hh.out.inv.top
  obtain ⟨t, ht⟩ : ∃ t, t = m.top := ⟨_, rfl⟩
  rw [← ht] at hT htop
  have hd1 := dir_any (n + 1) (by omega)
  obtain ⟨dn, hdn⟩ : ∃ dn, dn = 2 + 2 * (n + 1) := ⟨_, rfl⟩
  rw [← hdn] at hd1
  have wn1 : IntKind.i64.wrap ((n : Int) + 1) = ((n + 1 : Nat) : Int) := by rw [IntKind.wrap_i64]; omega
  have wk1 : IntKind.i64.wrap ((k : Int) + 1) = ((k + 1 : Nat) : Int) := by rw [IntKind.wrap_i64]; omega
  have wt : IntKind.i64.wrap ((t : Int) - (dn : Int)) = (t : Int) - (dn : Int) := by rw [IntKind.wrap_i64]; omega
  obtain ⟨n1, hn1⟩ : ∃ n1, n1 = n + 1 := ⟨_, rfl⟩
  obtain ⟨k1, hk1⟩ : ∃ k1, k1 = k + 1 := ⟨_, rfl⟩
  rw [← hn1] at hd1 wn1
  rw [← hk1] at wk1
  have hroom : (m.room c) = if t < dn + c.length then m.pack else m := by unfold SBody.room; rw [← Hnn.out, ← ht, ← hdn]
  have Hroom := Lib.hid hroom
  have Ht := Lib.hid ht
  have Hdn := Lib.hid hdn
  have Hk1 := Lib.hid hk1
  have Hn1 := Lib.hid hn1
  have HT : Hid (∀ w2, Ext w w2 → Calls Try.prog 29 #[.pointer (some ⟨g, 0, none⟩)] w2 fun e w' => e = .returned (.int .i64 (t : Int)) ∧ w2 = w') := fun w2 hx => hT w2 (Hh.out.ext hx).bb
  clear hroom ht hdn hk1 hn1 hT hsT
  by_cases h4 : t < dn + c.length
  · have b4 : (t : Int) - (dn : Int) < (c.length : Int) := by omega
    have hroom : m.room c = m.pack := by rw [Hroom.out, if_pos h4]
    have HR := Lib.hid hroom
    clear hroom
    go_enter Try.func14, Try.ntmps14
    go_wp2_with (first | (go_at_call 18; refine hL.mono ?_; rintro e1 w1 ⟨rfl, rfl⟩) | (go_at_call 19; refine hF.mono ?_; rintro e2 w2 ⟨rfl, hb2⟩) | (go_at_call 29; refine (HT.out w2 hb2).mono ?_; rintro e3 w3 ⟨rfl, rfl⟩) | (go_at_call 30; refine (hd1 w2).mono ?_; rintro e4 w4 ⟨rfl, rfl⟩) | (go_at_call 16; refine (pack_any g b m w2 (Hh.out.ext hb2)).mono ?_; rintro e5 w5 ⟨rfl, ⟨bp, hSp⟩, hg5⟩; refine Hid.out ?_))
    have hgw : w.grownBy w5 (some g) := grown_tr (grown_ext hb2 _) hg5
    rw [← HR.out] at hSp
    clear hb2 hg5
    refine Lib.hid ?_
    go_wp2_with fail
    have hI5 := hSp.inv
    have hn5 : slN bp = n := by rw [hSp.n, SBody.room_len]; exact Hnn.out.symm
    have hl5 : (m.room c).l.length = n := by rw [SBody.room_len]; exact Hnn.out.symm
    have hT5 : slT bp = (m.room c).top := hSp.rel.slT hI5
    have htp := hI5.top
    have hfit := Hfit.out
    have hbl := hSp.bb.len
    have hrow5 := Lib.hid (hSp.ext (Ext.drew w5)).bb.row
    obtain ⟨p, hp⟩ : ∃ p, p = (bp.drop (2 + 2 * k)).take (2 * (n - k)) := ⟨_, rfl⟩
    have hpl : p.length = 2 * (n - k) := by rw [hp, List.length_take, List.length_drop]; omega
    have hrdp : RdB w5.drew (some (arrA g (2 + 2 * k))) p := by rw [hp]; exact (hSp.ext (Ext.drew w5)).bb.partA _ _ (by omega)
    have hshift : ovw bp (2 + 2 * (k + 1)) p = shiftUp bp k n := by rw [hp]; rfl
    obtain ⟨da, hda⟩ : ∃ da, da = 2 + 2 * (k + 1) := ⟨_, rfl⟩
    obtain ⟨db, hdb⟩ : ∃ db, db = 2 + 2 * k := ⟨_, rfl⟩
    obtain ⟨dc, hdc⟩ : ∃ dc, dc = 2 + 2 * n := ⟨_, rfl⟩
    have hdnv := Hdn.out
    have d5 := dir_any k1 (by rw [Hk1.out]; omega) w5.drew
    have d8 := hd1 w5.drew
    have d14 := dir_any k (by omega) w5.drew
    have d16 := dir_any n (by omega) w5.drew
    rw [Hk1.out, ← hda, ← Hk1.out] at d5
    rw [← hdb] at d14 hrdp
    rw [← hdc] at d16
    rw [← hda] at hshift
    have s9 := fun w' => arr_lh g da dn (by omega) (by omega) w'
    have s17 := fun w' => arr_lh g db dc (by omega) (by omega) w'
    rw [show dn - da = p.length by omega] at s9
    rw [show dc - db = p.length by omega] at s17
    have hfa : da + p.length ≤ 243 := by omega
    have hda243 : da ≠ 243 := by omega
    have Hshift := Lib.hid hshift
    have HSp := Lib.hid hSp
    have Hpl := Lib.hid hpl
    have Hfa := Lib.hid hfa
    have Hrdp := Lib.hid hrdp
    clear hp hpl hrdp hshift hda hdb hdc hdnv hfa hSp
    refine rg_start (by kernel_rfl) ?_
    refine rg_take 0 rfl (by kernel_rfl) (by kernel_rfl) (by kernel_rfl) (fun _ _ _ _ h => h) (by rfl) ⟨_, fun w' hx => by (go_simp <;> with_reducible rfl), ?_⟩
    simp only [Act.put, List.setIfInBounds_toArray, List.set_cons_zero, List.set_cons_succ]
    refine rg_take 1 rfl (by kernel_rfl) (by kernel_rfl) (by kernel_rfl) (fun _ _ _ _ h => h) (by rfl) ⟨_, fun w' hx => by (go_simp <;> with_reducible rfl), ?_⟩   -- t45 := nilCheck t44
    simp only [Act.put, List.setIfInBounds_toArray, List.set_cons_zero, List.set_cons_succ]
    refine rg_take 2 rfl (by kernel_rfl) (by kernel_rfl) (by kernel_rfl) (fun _ _ _ _ h => h) (by rfl) ⟨_, fun w' hx => by (go_simp <;> with_reducible rfl), ?_⟩   -- t46 := fieldAddr 47 t45 0
    simp only [Act.put, List.setIfInBounds_toArray, List.set_cons_zero, List.set_cons_succ]
    refine rg_take 3 rfl (by kernel_rfl) (by kernel_rfl) (by kernel_rfl) (fun _ _ _ _ h => h) (by rfl) ⟨_, fun w' hx => by (go_simp <;> with_reducible rfl), ?_⟩
    simp only [Act.put, List.setIfInBounds_toArray, List.set_cons_zero, List.set_cons_succ]
    refine rg_take 4 rfl (by kernel_rfl) (by kernel_rfl) (by kernel_rfl) (fun _ _ _ _ h => h) (by rfl) ⟨.int .i64 (k1 : Int), fun w' hx => by (go_simp <;> with_reducible rfl), ?_⟩
    simp only [Act.put, List.setIfInBounds_toArray, List.set_cons_zero, List.set_cons_succ]
    refine rg_take 6 rfl (by kernel_rfl) (by kernel_rfl) (by kernel_rfl) (fun _ _ _ _ h => h) (by rfl) ⟨_, fun w' hx => by (go_simp <;> with_reducible rfl), ?_⟩
    simp only [Act.put, List.setIfInBounds_toArray, List.set_cons_zero, List.set_cons_succ]
    refine rg_take 7 rfl (by kernel_rfl) (by kernel_rfl) (by kernel_rfl) (fun _ _ _ _ h => h) (by rfl) ⟨.int .i64 (n1 : Int), fun w' hx => by (go_simp <;> with_reducible rfl), ?_⟩
    simp only [Act.put, List.setIfInBounds_toArray, List.set_cons_zero, List.set_cons_succ]
    refine rg_take 10 rfl (by kernel_rfl) (by kernel_rfl) (by kernel_rfl) (fun _ _ _ _ h => h) (by rfl) ⟨_, fun w' hx => by (go_simp <;> with_reducible rfl), ?_⟩
    simp only [Act.put, List.setIfInBounds_toArray, List.set_cons_zero, List.set_cons_succ]
    refine rg_take 11 rfl (by kernel_rfl) (by kernel_rfl) (by kernel_rfl) (fun _ _ _ _ h => h) (by rfl) ⟨_, fun w' hx => by (go_simp <;> with_reducible rfl), ?_⟩   -- t55 := nilCheck t54
    simp only [Act.put, List.setIfInBounds_toArray, List.set_cons_zero, List.set_cons_succ]
    refine rg_take 12 rfl (by kernel_rfl) (by kernel_rfl) (by kernel_rfl) (fun _ _ _ _ h => h) (by rfl) ⟨_, fun w' hx => by (go_simp <;> with_reducible rfl), ?_⟩   -- t56 := fieldAddr 47 t55 0
    simp only [Act.put, List.setIfInBounds_toArray, List.set_cons_zero, List.set_cons_succ]
    refine rg_take 13 rfl (by kernel_rfl) (by kernel_rfl) (by kernel_rfl) (fun _ _ _ _ h => h) (by rfl) ⟨_, fun w' hx => by (go_simp <;> with_reducible rfl), ?_⟩
    simp only [Act.put, List.setIfInBounds_toArray, List.set_cons_zero, List.set_cons_succ]
    refine rg_take 15 rfl (by kernel_rfl) (by kernel_rfl) (by kernel_rfl) (fun _ _ _ _ h => h) (by rfl) ⟨_, fun w' hx => by (go_simp <;> with_reducible rfl), ?_⟩
    simp only [Act.put, List.setIfInBounds_toArray, List.set_cons_zero, List.set_cons_succ]
    refine rg_call 5 d5 rfl (by kernel_rfl) (by rfl) (by go_simp) ?_
    rintro e w' ⟨rfl, rfl⟩
    refine ⟨_, rfl, Ext.refl _, ?_⟩
    simp only [Act.put, List.setIfInBounds_toArray, List.set_cons_zero, List.set_cons_succ]
    refine rg_call 8 d8 rfl (by kernel_rfl) (by rfl) (by go_simp) ?_
    rintro e w' ⟨rfl, rfl⟩
    refine ⟨_, rfl, Ext.refl _, ?_⟩
    simp only [Act.put, List.setIfInBounds_toArray, List.set_cons_zero, List.set_cons_succ]
    refine rg_take 9 rfl (by kernel_rfl) (by kernel_rfl) (by kernel_rfl) (fun _ _ _ _ h => h) (by rfl) ⟨_, fun w' hx => by (go_simp <;> with_reducible rfl), ?_⟩   -- t53 := slice 45 t46 t49 t52 -
    simp only [Act.put, List.setIfInBounds_toArray, List.set_cons_zero, List.set_cons_succ]
    refine rg_call 14 d14 rfl (by kernel_rfl) (by rfl) (by go_simp) ?_
    rintro e w' ⟨rfl, rfl⟩
    refine ⟨_, rfl, Ext.refl _, ?_⟩
    simp only [Act.put, List.setIfInBounds_toArray, List.set_cons_zero, List.set_cons_succ]
    refine rg_call 16 d16 rfl (by kernel_rfl) (by rfl) (by go_simp) ?_
    rintro e w' ⟨rfl, rfl⟩
    refine ⟨_, rfl, Ext.refl _, ?_⟩
    simp only [Act.put, List.setIfInBounds_toArray, List.set_cons_zero, List.set_cons_succ]
    refine rg_take 17 rfl (by kernel_rfl) (by kernel_rfl) (by kernel_rfl) (fun _ _ _ _ h => h) (by rfl) ⟨_, fun w' hx => by (go_simp <;> with_reducible rfl), ?_⟩   -- t61 := slice 45 t56 t58 t60 -
    simp only [Act.put, List.setIfInBounds_toArray, List.set_cons_zero, List.set_cons_succ]
    refine rg_last 18 rfl (by kernel_rfl) (by kernel_rfl) (by rfl) fun K hK => wp_copyB (.tmp 53) (.tmp 61) 30 rfl elemB g da p.length (243 - da) (some (arrA g da)) rfl (some (arrA g db)) (243 - db) bp p rfl 47 (.inr (by rw [arrA_lt hda243])) (Nat.le_refl _) hrow5.out (by rw [hbl]; exact Hfa.out) Hrdp.out fun w6 hr6 hg6 => hK _ _ ?_
    simp only [Act.put, List.setIfInBounds_toArray, List.set_cons_zero, List.set_cons_succ]
    refine rg_done (by kernel_rfl) ?_
    have hrs : w6.heap[g]? = some (.cells (bvs (shiftUp bp k n)).toArray 47 (0, 0)) := by rw [← Hshift.out]; exact hr6
    have hsl : (shiftUp bp k n).length = 243 := shiftUp_len hbl (by omega) (by omega)
    have B6 : BB w6 g (shiftUp bp k n) := ⟨hrs, hsl⟩
    have hg6w : w.grownBy w6 (some g) := grown_tr (grown_tr hgw (grown_ext (Ext.drew w5) _)) hg6
    have e0 : (shiftUp bp k n).getD 0 0 = bp.getD 0 0 := by
      rw [List.getD_eq_getElem?_getD, List.getD_eq_getElem?_getD, shiftUp_get hbl (by omega) (by omega), if_pos (by omega)]
    have c6 : w6.drew.cell? ⟨g, 0, none⟩ = some (.int .u8 (n : Int)) := by
      have := (B6.ext (Ext.drew w6)).cell (j := 0) (by omega)
      rw [this, e0, ← hn5]
      rfl
    have f6 : w6.drew.frozen? ⟨g, 0, none⟩ = false := (B6.ext (Ext.drew w6)).frozen 0
    have u6 : IntKind.u8.wrap ((n : Int) + 1) = ((n1 : Nat) : Int) := by rw [Hn1.out]; simp [IntKind.wrap, IntKind.bits, IntKind.signed]; omega
    have B7 := (B6.ext (Ext.drew w6)).set 0 (u8 n1)
    rw [u8_nat (by rw [Hn1.out]; omega)] at B7
    have HB7 := Lib.hid B7
    clear hrs hr6 hg6 B7 B6 e0
    go_wp2_with fail
    refine rg_start (by kernel_rfl) ?_
    refine rg_take 0 rfl (by kernel_rfl) (by kernel_rfl) (by kernel_rfl) (fun _ _ _ _ h => h) (by rfl) ⟨_, fun w' hx => by (go_simp <;> with_reducible rfl), ?_⟩
    simp only [Act.put, List.setIfInBounds_toArray, List.set_cons_zero, List.set_cons_succ]
    refine rg_take 1 rfl (by kernel_rfl) (by kernel_rfl) (by kernel_rfl) (fun _ _ _ _ h => h) (by rfl) ⟨_, fun w' hx => by (go_simp <;> with_reducible rfl), ?_⟩   -- t64 := nilCheck t63
    simp only [Act.put, List.setIfInBounds_toArray, List.set_cons_zero, List.set_cons_succ]
    refine rg_take 2 rfl (by kernel_rfl) (by kernel_rfl) (by kernel_rfl) (fun _ _ _ _ h => h) (by rfl) ⟨_, fun w' hx => by (go_simp <;> with_reducible rfl), ?_⟩   -- t65 := fieldAddr 47 t64 0
    simp only [Act.put, List.setIfInBounds_toArray, List.set_cons_zero, List.set_cons_succ]
    refine rg_take 3 rfl (by kernel_rfl) (by kernel_rfl) (by kernel_rfl) (fun _ _ _ _ h => h) (by rfl) ⟨_, fun w' hx => by (go_simp <;> with_reducible rfl), ?_⟩   -- t66 := indexAddr 45 t65 0:i64
    simp only [Act.put, List.setIfInBounds_toArray, List.set_cons_zero, List.set_cons_succ]
    refine rg_take 4 rfl (by kernel_rfl) (by kernel_rfl) (by kernel_rfl) (fun _ _ _ _ h => h) (by rfl) ⟨_, fun w' hx => by have hcx := hx.load c6; (go_simp <;> with_reducible rfl), ?_⟩
    simp only [Act.put, List.setIfInBounds_toArray, List.set_cons_zero, List.set_cons_succ]
    refine rg_take 5 rfl (by kernel_rfl) (by kernel_rfl) (by kernel_rfl) (fun _ _ _ _ h => h) (by rfl) ⟨.int .u8 (n1 : Int), fun w' hx => by (go_simp <;> with_reducible rfl), ?_⟩
    simp only [Act.put, List.setIfInBounds_toArray, List.set_cons_zero, List.set_cons_succ]
    refine rg_take 6 rfl (by kernel_rfl) (by kernel_rfl) (by kernel_rfl) (fun _ _ _ _ h => h) (by rfl) ⟨_, fun w' hx => by (go_simp <;> with_reducible rfl), ?_⟩   -- t69 := nilCheck t63
    simp only [Act.put, List.setIfInBounds_toArray, List.set_cons_zero, List.set_cons_succ]
    refine rg_take 7 rfl (by kernel_rfl) (by kernel_rfl) (by kernel_rfl) (fun _ _ _ _ h => h) (by rfl) ⟨_, fun w' hx => by (go_simp <;> with_reducible rfl), ?_⟩   -- t70 := fieldAddr 47 t69 0
    simp only [Act.put, List.setIfInBounds_toArray, List.set_cons_zero, List.set_cons_succ]
    refine rg_take 8 rfl (by kernel_rfl) (by kernel_rfl) (by kernel_rfl) (fun _ _ _ _ h => h) (by rfl) ⟨_, fun w' hx => by (go_simp <;> with_reducible rfl), ?_⟩   -- t71 := indexAddr 45 t70 0:i64
    simp only [Act.put, List.setIfInBounds_toArray, List.set_cons_zero, List.set_cons_succ]
    refine rg_store 9 rfl (by kernel_rfl) (by kernel_rfl) (by rfl) ⟨_, by (go_simp <;> rfl), ?_⟩
    simp only [Act.put]
    refine rg_done (by kernel_rfl) ?_
    obtain ⟨w7, hw7⟩ : ∃ w7, w7 = (w6.setCell ⟨g, 0, none⟩ (.int .u8 (n1 : Int))).drew := ⟨_, rfl⟩
    have B7 : BB w7 g ((shiftUp bp k n).set 0 (u8 n1)) := by rw [hw7]; exact HB7.out
    have hg7 : w.grownBy w7 (some g) := by rw [hw7]; exact grown_tr (grown_tr hg6w (grown_cell _ _ _ _)) (grown_ext (Ext.drew _) _)
    have hC7 : RdB w7 C c := hC.otherN hg7 Hne.out
    have hT7 : slT ((shiftUp bp k n).set 0 (u8 n1)) = (m.room c).top := by
      unfold slT
      rw [List.getD_eq_getElem?_getD, set_get _ _ _ (by omega), if_neg (by omega), shiftUp_get hbl (by omega) (by omega), if_pos (by omega), HSp.out.rel.t]
      exact u8_nat (by omega)
    have hlay := lay_any g _ k C c cc w7 B7 hC7 (by omega) (by rw [hT7]; omega) (by rw [hT7]; omega) (by omega)
    rw [hT7] at hlay
    have hrel := HSp.out.rel.lay hI5 (i := k) (c := c) (by omega) (by rw [hl5]; omega)
    rw [hl5, ← Hn1.out] at hrel
    have hinv := SBody.lay_inv hI5 (i := k) (c := c) (by omega) (by omega) (by rw [hl5]; omega)
    have Hrel := Lib.hid hrel
    have Hinv := Lib.hid hinv
    rw [← hw7]
    clear hw7 hrel hinv hT7 B7 HB7 c6 f6
    go_wp2_with (go_at_call 31; refine hlay.mono ?_; rintro e8 w8 ⟨rfl, hB8, hg8⟩)
    go_ret
    rw [He.out]
    exact ⟨rfl, ⟨_, hB8, Hrel.out, Hinv.out⟩, grown_tr hg7 hg8⟩
  · have b4 : ¬ (t : Int) - (dn : Int) < (c.length : Int) := by omega
    have hroom : m.room c = m := by rw [Hroom.out, if_neg h4]
    have HR := Lib.hid hroom
    clear hroom
    go_enter Try.func14, Try.ntmps14
    go_wp2_with (first | (go_at_call 18; refine hL.mono ?_; rintro e1 w1 ⟨rfl, rfl⟩) | (go_at_call 19; refine hF.mono ?_; rintro e2 w2 ⟨rfl, hb2⟩) | (go_at_call 29; refine (HT.out w2 hb2).mono ?_; rintro e3 w3 ⟨rfl, rfl⟩) | (go_at_call 30; refine (hd1 w2).mono ?_; rintro e4 w4 ⟨rfl, rfl⟩; refine Hid.out ?_))
    have hSp := Hh.out.ext hb2
    rw [← HR.out] at hSp
    obtain ⟨bp, hbp⟩ : ∃ bp, bp = b := ⟨_, rfl⟩
    rw [← hbp] at hSp
    obtain ⟨w5, hw5⟩ : ∃ w5, w5 = w2 := ⟨_, rfl⟩
    have hgw : w.grownBy w5 (some g) := by rw [hw5]; exact grown_ext hb2 _
    rw [← hw5] at hSp ⊢
    clear hb2 hbp hw5
    refine Lib.hid ?_
    go_wp2_with fail
    have hI5 := hSp.inv
    have hn5 : slN bp = n := by rw [hSp.n, SBody.room_len]; exact Hnn.out.symm
    have hl5 : (m.room c).l.length = n := by rw [SBody.room_len]; exact Hnn.out.symm
    have hT5 : slT bp = (m.room c).top := hSp.rel.slT hI5
    have htp := hI5.top
    have hfit := Hfit.out
    have hbl := hSp.bb.len
    have hrow5 := Lib.hid (hSp.ext (Ext.drew w5)).bb.row
    obtain ⟨p, hp⟩ : ∃ p, p = (bp.drop (2 + 2 * k)).take (2 * (n - k)) := ⟨_, rfl⟩
    have hpl : p.length = 2 * (n - k) := by rw [hp, List.length_take, List.length_drop]; omega
    have hrdp : RdB w5.drew (some (arrA g (2 + 2 * k))) p := by rw [hp]; exact (hSp.ext (Ext.drew w5)).bb.partA _ _ (by omega)
    have hshift : ovw bp (2 + 2 * (k + 1)) p = shiftUp bp k n := by rw [hp]; rfl
    obtain ⟨da, hda⟩ : ∃ da, da = 2 + 2 * (k + 1) := ⟨_, rfl⟩
    obtain ⟨db, hdb⟩ : ∃ db, db = 2 + 2 * k := ⟨_, rfl⟩
    obtain ⟨dc, hdc⟩ : ∃ dc, dc = 2 + 2 * n := ⟨_, rfl⟩
    have hdnv := Hdn.out
    have d5 := dir_any k1 (by rw [Hk1.out]; omega) w5.drew
    have d8 := hd1 w5.drew
    have d14 := dir_any k (by omega) w5.drew
    have d16 := dir_any n (by omega) w5.drew
    rw [Hk1.out, ← hda, ← Hk1.out] at d5
    rw [← hdb] at d14 hrdp
    rw [← hdc] at d16
    rw [← hda] at hshift
    have s9 := fun w' => arr_lh g da dn (by omega) (by omega) w'
    have s17 := fun w' => arr_lh g db dc (by omega) (by omega) w'
    rw [show dn - da = p.length by omega] at s9
    rw [show dc - db = p.length by omega] at s17
    have hfa : da + p.length ≤ 243 := by omega
    have hda243 : da ≠ 243 := by omega
    have Hshift := Lib.hid hshift
    have HSp := Lib.hid hSp
    have Hpl := Lib.hid hpl
    have Hfa := Lib.hid hfa
    have Hrdp := Lib.hid hrdp
    clear hp hpl hrdp hshift hda hdb hdc hdnv hfa hSp
    refine rg_start (by kernel_rfl) ?_
    refine rg_take 0 rfl (by kernel_rfl) (by kernel_rfl) (by kernel_rfl) (fun _ _ _ _ h => h) (by rfl) ⟨_, fun w' hx => by (go_simp <;> with_reducible rfl), ?_⟩
    simp only [Act.put, List.setIfInBounds_toArray, List.set_cons_zero, List.set_cons_succ]
    refine rg_take 1 rfl (by kernel_rfl) (by kernel_rfl) (by kernel_rfl) (fun _ _ _ _ h => h) (by rfl) ⟨_, fun w' hx => by (go_simp <;> with_reducible rfl), ?_⟩   -- t45 := nilCheck t44
    simp only [Act.put, List.setIfInBounds_toArray, List.set_cons_zero, List.set_cons_succ]
    refine rg_take 2 rfl (by kernel_rfl) (by kernel_rfl) (by kernel_rfl) (fun _ _ _ _ h => h) (by rfl) ⟨_, fun w' hx => by (go_simp <;> with_reducible rfl), ?_⟩   -- t46 := fieldAddr 47 t45 0
    simp only [Act.put, List.setIfInBounds_toArray, List.set_cons_zero, List.set_cons_succ]
    refine rg_take 3 rfl (by kernel_rfl) (by kernel_rfl) (by kernel_rfl) (fun _ _ _ _ h => h) (by rfl) ⟨_, fun w' hx => by (go_simp <;> with_reducible rfl), ?_⟩
    simp only [Act.put, List.setIfInBounds_toArray, List.set_cons_zero, List.set_cons_succ]
    refine rg_take 4 rfl (by kernel_rfl) (by kernel_rfl) (by kernel_rfl) (fun _ _ _ _ h => h) (by rfl) ⟨.int .i64 (k1 : Int), fun w' hx => by (go_simp <;> with_reducible rfl), ?_⟩
    simp only [Act.put, List.setIfInBounds_toArray, List.set_cons_zero, List.set_cons_succ]
    refine rg_take 6 rfl (by kernel_rfl) (by kernel_rfl) (by kernel_rfl) (fun _ _ _ _ h => h) (by rfl) ⟨_, fun w' hx => by (go_simp <;> with_reducible rfl), ?_⟩
    simp only [Act.put, List.setIfInBounds_toArray, List.set_cons_zero, List.set_cons_succ]
    refine rg_take 7 rfl (by kernel_rfl) (by kernel_rfl) (by kernel_rfl) (fun _ _ _ _ h => h) (by rfl) ⟨.int .i64 (n1 : Int), fun w' hx => by (go_simp <;> with_reducible rfl), ?_⟩
    simp only [Act.put, List.setIfInBounds_toArray, List.set_cons_zero, List.set_cons_succ]
    refine rg_take 10 rfl (by kernel_rfl) (by kernel_rfl) (by kernel_rfl) (fun _ _ _ _ h => h) (by rfl) ⟨_, fun w' hx => by (go_simp <;> with_reducible rfl), ?_⟩
    simp only [Act.put, List.setIfInBounds_toArray, List.set_cons_zero, List.set_cons_succ]
    refine rg_take 11 rfl (by kernel_rfl) (by kernel_rfl) (by kernel_rfl) (fun _ _ _ _ h => h) (by rfl) ⟨_, fun w' hx => by (go_simp <;> with_reducible rfl), ?_⟩   -- t55 := nilCheck t54
    simp only [Act.put, List.setIfInBounds_toArray, List.set_cons_zero, List.set_cons_succ]
    refine rg_take 12 rfl (by kernel_rfl) (by kernel_rfl) (by kernel_rfl) (fun _ _ _ _ h => h) (by rfl) ⟨_, fun w' hx => by (go_simp <;> with_reducible rfl), ?_⟩   -- t56 := fieldAddr 47 t55 0
    simp only [Act.put, List.setIfInBounds_toArray, List.set_cons_zero, List.set_cons_succ]
    refine rg_take 13 rfl (by kernel_rfl) (by kernel_rfl) (by kernel_rfl) (fun _ _ _ _ h => h) (by rfl) ⟨_, fun w' hx => by (go_simp <;> with_reducible rfl), ?_⟩
    simp only [Act.put, List.setIfInBounds_toArray, List.set_cons_zero, List.set_cons_succ]
    refine rg_take 15 rfl (by kernel_rfl) (by kernel_rfl) (by kernel_rfl) (fun _ _ _ _ h => h) (by rfl) ⟨_, fun w' hx => by (go_simp <;> with_reducible rfl), ?_⟩
    simp only [Act.put, List.setIfInBounds_toArray, List.set_cons_zero, List.set_cons_succ]
    refine rg_call 5 d5 rfl (by kernel_rfl) (by rfl) (by go_simp) ?_
    rintro e w' ⟨rfl, rfl⟩
    refine ⟨_, rfl, Ext.refl _, ?_⟩
    simp only [Act.put, List.setIfInBounds_toArray, List.set_cons_zero, List.set_cons_succ]
    refine rg_call 8 d8 rfl (by kernel_rfl) (by rfl) (by go_simp) ?_
    rintro e w' ⟨rfl, rfl⟩
    refine ⟨_, rfl, Ext.refl _, ?_⟩
    simp only [Act.put, List.setIfInBounds_toArray, List.set_cons_zero, List.set_cons_succ]
    refine rg_take 9 rfl (by kernel_rfl) (by kernel_rfl) (by kernel_rfl) (fun _ _ _ _ h => h) (by rfl) ⟨_, fun w' hx => by (go_simp <;> with_reducible rfl), ?_⟩   -- t53 := slice 45 t46 t49 t52 -
    simp only [Act.put, List.setIfInBounds_toArray, List.set_cons_zero, List.set_cons_succ]
    refine rg_call 14 d14 rfl (by kernel_rfl) (by rfl) (by go_simp) ?_
    rintro e w' ⟨rfl, rfl⟩
    refine ⟨_, rfl, Ext.refl _, ?_⟩
    simp only [Act.put, List.setIfInBounds_toArray, List.set_cons_zero, List.set_cons_succ]
    refine rg_call 16 d16 rfl (by kernel_rfl) (by rfl) (by go_simp) ?_
    rintro e w' ⟨rfl, rfl⟩
    refine ⟨_, rfl, Ext.refl _, ?_⟩
    simp only [Act.put, List.setIfInBounds_toArray, List.set_cons_zero, List.set_cons_succ]
    refine rg_take 17 rfl (by kernel_rfl) (by kernel_rfl) (by kernel_rfl) (fun _ _ _ _ h => h) (by rfl) ⟨_, fun w' hx => by (go_simp <;> with_reducible rfl), ?_⟩   -- t61 := slice 45 t56 t58 t60 -
    simp only [Act.put, List.setIfInBounds_toArray, List.set_cons_zero, List.set_cons_succ]
    refine rg_last 18 rfl (by kernel_rfl) (by kernel_rfl) (by rfl) fun K hK => wp_copyB (.tmp 53) (.tmp 61) 30 rfl elemB g da p.length (243 - da) (some (arrA g da)) rfl (some (arrA g db)) (243 - db) bp p rfl 47 (.inr (by rw [arrA_lt hda243])) (Nat.le_refl _) hrow5.out (by rw [hbl]; exact Hfa.out) Hrdp.out fun w6 hr6 hg6 => hK _ _ ?_
    simp only [Act.put, List.setIfInBounds_toArray, List.set_cons_zero, List.set_cons_succ]
    refine rg_done (by kernel_rfl) ?_
    have hrs : w6.heap[g]? = some (.cells (bvs (shiftUp bp k n)).toArray 47 (0, 0)) := by rw [← Hshift.out]; exact hr6
    have hsl : (shiftUp bp k n).length = 243 := shiftUp_len hbl (by omega) (by omega)
    have B6 : BB w6 g (shiftUp bp k n) := ⟨hrs, hsl⟩
    have hg6w : w.grownBy w6 (some g) := grown_tr (grown_tr hgw (grown_ext (Ext.drew w5) _)) hg6
    have e0 : (shiftUp bp k n).getD 0 0 = bp.getD 0 0 := by
      rw [List.getD_eq_getElem?_getD, List.getD_eq_getElem?_getD, shiftUp_get hbl (by omega) (by omega), if_pos (by omega)]
    have c6 : w6.drew.cell? ⟨g, 0, none⟩ = some (.int .u8 (n : Int)) := by
      have := (B6.ext (Ext.drew w6)).cell (j := 0) (by omega)
      rw [this, e0, ← hn5]
      rfl
    have f6 : w6.drew.frozen? ⟨g, 0, none⟩ = false := (B6.ext (Ext.drew w6)).frozen 0
    have u6 : IntKind.u8.wrap ((n : Int) + 1) = ((n1 : Nat) : Int) := by rw [Hn1.out]; simp [IntKind.wrap, IntKind.bits, IntKind.signed]; omega
    have B7 := (B6.ext (Ext.drew w6)).set 0 (u8 n1)
    rw [u8_nat (by rw [Hn1.out]; omega)] at B7
    have HB7 := Lib.hid B7
    clear hrs hr6 hg6 B7 B6 e0
    go_wp2_with fail
    refine rg_start (by kernel_rfl) ?_
    refine rg_take 0 rfl (by kernel_rfl) (by kernel_rfl) (by kernel_rfl) (fun _ _ _ _ h => h) (by rfl) ⟨_, fun w' hx => by (go_simp <;> with_reducible rfl), ?_⟩
    simp only [Act.put, List.setIfInBounds_toArray, List.set_cons_zero, List.set_cons_succ]
    refine rg_take 1 rfl (by kernel_rfl) (by kernel_rfl) (by kernel_rfl) (fun _ _ _ _ h => h) (by rfl) ⟨_, fun w' hx => by (go_simp <;> with_reducible rfl), ?_⟩   -- t64 := nilCheck t63
    simp only [Act.put, List.setIfInBounds_toArray, List.set_cons_zero, List.set_cons_succ]
    refine rg_take 2 rfl (by kernel_rfl) (by kernel_rfl) (by kernel_rfl) (fun _ _ _ _ h => h) (by rfl) ⟨_, fun w' hx => by (go_simp <;> with_reducible rfl), ?_⟩   -- t65 := fieldAddr 47 t64 0
    simp only [Act.put, List.setIfInBounds_toArray, List.set_cons_zero, List.set_cons_succ]
    refine rg_take 3 rfl (by kernel_rfl) (by kernel_rfl) (by kernel_rfl) (fun _ _ _ _ h => h) (by rfl) ⟨_, fun w' hx => by (go_simp <;> with_reducible rfl), ?_⟩   -- t66 := indexAddr 45 t65 0:i64
    simp only [Act.put, List.setIfInBounds_toArray, List.set_cons_zero, List.set_cons_succ]
    refine rg_take 4 rfl (by kernel_rfl) (by kernel_rfl) (by kernel_rfl) (fun _ _ _ _ h => h) (by rfl) ⟨_, fun w' hx => by have hcx := hx.load c6; (go_simp <;> with_reducible rfl), ?_⟩
    simp only [Act.put, List.setIfInBounds_toArray, List.set_cons_zero, List.set_cons_succ]
    refine rg_take 5 rfl (by kernel_rfl) (by kernel_rfl) (by kernel_rfl) (fun _ _ _ _ h => h) (by rfl) ⟨.int .u8 (n1 : Int), fun w' hx => by (go_simp <;> with_reducible rfl), ?_⟩
    simp only [Act.put, List.setIfInBounds_toArray, List.set_cons_zero, List.set_cons_succ]
    refine rg_take 6 rfl (by kernel_rfl) (by kernel_rfl) (by kernel_rfl) (fun _ _ _ _ h => h) (by rfl) ⟨_, fun w' hx => by (go_simp <;> with_reducible rfl), ?_⟩   -- t69 := nilCheck t63
    simp only [Act.put, List.setIfInBounds_toArray, List.set_cons_zero, List.set_cons_succ]
    refine rg_take 7 rfl (by kernel_rfl) (by kernel_rfl) (by kernel_rfl) (fun _ _ _ _ h => h) (by rfl) ⟨_, fun w' hx => by (go_simp <;> with_reducible rfl), ?_⟩   -- t70 := fieldAddr 47 t69 0
    simp only [Act.put, List.setIfInBounds_toArray, List.set_cons_zero, List.set_cons_succ]
    refine rg_take 8 rfl (by kernel_rfl) (by kernel_rfl) (by kernel_rfl) (fun _ _ _ _ h => h) (by rfl) ⟨_, fun w' hx => by (go_simp <;> with_reducible rfl), ?_⟩   -- t71 := indexAddr 45 t70 0:i64
    simp only [Act.put, List.setIfInBounds_toArray, List.set_cons_zero, List.set_cons_succ]
    refine rg_store 9 rfl (by kernel_rfl) (by kernel_rfl) (by rfl) ⟨_, by (go_simp <;> rfl), ?_⟩
    simp only [Act.put]
    refine rg_done (by kernel_rfl) ?_
    obtain ⟨w7, hw7⟩ : ∃ w7, w7 = (w6.setCell ⟨g, 0, none⟩ (.int .u8 (n1 : Int))).drew := ⟨_, rfl⟩
    have B7 : BB w7 g ((shiftUp bp k n).set 0 (u8 n1)) := by rw [hw7]; exact HB7.out
    have hg7 : w.grownBy w7 (some g) := by rw [hw7]; exact grown_tr (grown_tr hg6w (grown_cell _ _ _ _)) (grown_ext (Ext.drew _) _)
    have hC7 : RdB w7 C c := hC.otherN hg7 Hne.out
    have hT7 : slT ((shiftUp bp k n).set 0 (u8 n1)) = (m.room c).top := by
      unfold slT
      rw [List.getD_eq_getElem?_getD, set_get _ _ _ (by omega), if_neg (by omega), shiftUp_get hbl (by omega) (by omega), if_pos (by omega), HSp.out.rel.t]
      exact u8_nat (by omega)
    have hlay := lay_any g _ k C c cc w7 B7 hC7 (by omega) (by rw [hT7]; omega) (by rw [hT7]; omega) (by omega)
    rw [hT7] at hlay
    have hrel := HSp.out.rel.lay hI5 (i := k) (c := c) (by omega) (by rw [hl5]; omega)
    rw [hl5, ← Hn1.out] at hrel
    have hinv := SBody.lay_inv hI5 (i := k) (c := c) (by omega) (by omega) (by rw [hl5]; omega)
    have Hrel := Lib.hid hrel
    have Hinv := Lib.hid hinv
    rw [← hw7]
    clear hw7 hrel hinv hT7 B7 HB7 c6 f6
    go_wp2_with (go_at_call 31; refine hlay.mono ?_; rintro e8 w8 ⟨rfl, hB8, hg8⟩)
    go_ret
    rw [He.out]
    exact ⟨rfl, ⟨_, hB8, Hrel.out, Hinv.out⟩, grown_tr hg7 hg8⟩
set_option maxRecDepth 100000 in
set_option maxHeartbeats 1000000 in
theorem delete_any (g : Nat) (b : List UInt8) (m : SBody) (i : Int) (w : World) (h : SAt w g b m) :
    Calls Try.prog 15 #[.pointer (some ⟨g, 0, none⟩), .int .i64 i] w fun e w' => e = .returned (.int .i64 (m.delete i).1) ∧ (∃ b', SAt w' g b' (m.delete i).2) ∧ w.grownBy w' (some g) := by
  have hn := h.inv.n
  have hn0 : slN b = m.l.length := h.n
  have hL := blen_any g b w h.bb
  rw [hn0] at hL
  have Hh := Lib.hid h
  obtain ⟨n, hnn⟩ : ∃ n, n = m.l.length := ⟨_, rfl⟩
  rw [← hnn] at hL hn hn0
  have Hnn := Lib.hid hnn
  clear h hnn
  by_cases h0 : i < 0
  · have he : m.delete i = (7, m) := by unfold SBody.delete; rw [dif_neg (by omega)]
    go_enter Try.func15, Try.ntmps15
    go_wp2_with (go_at_call 18; refine hL.mono ?_; rintro e1 w1 ⟨rfl, rfl⟩)
    go_ret
    rw [he]
    exact ⟨rfl, ⟨b, Hh.out⟩, ⟨rfl, rfl, rfl, Nat.le_refl _, fun _ _ _ => rfl⟩⟩
  by_cases h1 : (n : Int) ≤ i
  · have he : m.delete i = (7, m) := by unfold SBody.delete; rw [dif_neg (by rw [← Hnn.out]; omega)]
    go_enter Try.func15, Try.ntmps15
    go_wp2_with (go_at_call 18; refine hL.mono ?_; rintro e1 w1 ⟨rfl, rfl⟩)
    go_ret
    rw [he]
    exact ⟨rfl, ⟨b, Hh.out⟩, ⟨rfl, rfl, rfl, Nat.le_refl _, fun _ _ _ => rfl⟩⟩
  obtain ⟨k, rfl⟩ : ∃ k : Nat, i = k := ⟨i.toNat, by omega⟩
  have hk : k < n := by omega
  have hkm : k < m.l.length := by rw [← Hnn.out]; exact hk
  have he : m.delete k = (0, m.drop k hkm) := by unfold SBody.delete; rw [dif_pos ⟨by omega, by rw [Int.toNat_natCast]; exact hkm⟩]; rfl
  have hp := place_any g b k w Hh.out.bb (by omega)
  rw [Hh.out.rel.slAt Hh.out.inv hkm, Hh.out.rel.slSz Hh.out.inv hkm] at hp
  have hT : ∀ w2, Ext w w2 → Calls Try.prog 29 #[.pointer (some ⟨g, 0, none⟩)] w2 fun e w' => e = .returned (.int .i64 (m.top : Int)) ∧ w2 = w' := fun w2 hx => by
    have := top_any g b w2 (Hh.out.ext hx).bb
    rwa [Hh.out.rel.slT Hh.out.inv] at this
  have htop := Hh.out.inv.top
  have hfit := Hh.out.inv.fit _ (List.getElem_mem hkm)
  have hlen := Hh.out.inv.len _ (List.getElem_mem hkm)
  have hdt : (m.drop k hkm).top = if m.l[k].pos = m.top then m.top + m.l[k].p.length else m.top := rfl
  have hbl := Hh.out.bb.len
  have hdirT := Hh.out.inv.dirTop
  unfold SBody.dir at hdirT
  rw [← Hnn.out] at hdirT
  have hrelD := Hh.out.rel.drop Hh.out.inv hkm
  have hinvD := SBody.drop_inv Hh.out.inv k hkm
  obtain ⟨ps, hps⟩ : ∃ ps, ps = m.l[k].pos := ⟨_, rfl⟩
  obtain ⟨sz, hsz⟩ : ∃ sz, sz = m.l[k].p.length := ⟨_, rfl⟩
  obtain ⟨t, ht⟩ : ∃ t, t = m.top := ⟨_, rfl⟩
  obtain ⟨t2, ht2⟩ : ∃ t2, t2 = (m.drop k hkm).top := ⟨_, rfl⟩
  rw [← hps, ← hsz] at hp
  rw [← hps, ← hsz] at hfit
  rw [← hsz] at hlen
  rw [← ht] at htop hT hdirT
  rw [← ht2, ← Hnn.out] at hrelD
  rw [← ht2, ← hps, ← hsz, ← ht] at hdt
  have He := Lib.hid he
  have HT := Lib.hid hT
  have Ht := Lib.hid ht
  have HrelD := Lib.hid hrelD
  have HinvD := Lib.hid hinvD
  have c1 : w.cell? ⟨g, 1, none⟩ = some (.int .u8 (t : Int)) := by
    have := Hh.out.bb.cell (j := 1) (by omega)
    rw [this, ht, ← Hh.out.rel.slT Hh.out.inv]; rfl
  have C1 := Lib.hid c1
  have wt2 : t2 < 256 := by rw [hdt]; split <;> omega
  have Hps := Lib.hid hps
  have Hsz := Lib.hid hsz
  have Ht2 := Lib.hid ht2
  clear he hT hrelD hinvD hps hsz ht ht2 c1
  by_cases h4 : ps = t
  · rw [if_pos h4] at hdt
    have Hdt := Lib.hid hdt
    have b4 : ((ps : Int) == (t : Int)) = true := by rw [beq_iff_eq]; omega
    have u5 : IntKind.u8.wrap (sz : Int) = (sz : Int) := by simp [IntKind.wrap, IntKind.bits, IntKind.signed]; omega
    have u6 : IntKind.u8.wrap ((t : Int) + (sz : Int)) = (t2 : Int) := by rw [Hdt.out]; simp [IntKind.wrap, IntKind.bits, IntKind.signed]; omega
    clear hdt
    go_enter Try.func15, Try.ntmps15
    go_wp2_with (first | (go_at_call 18; refine hL.mono ?_; rintro e1 w1 ⟨rfl, rfl⟩) | (go_at_call 32; refine hp.mono ?_; rintro e2 w2 ⟨rfl, hb2⟩; have hTw := HT.out w2 hb2) | (go_at_call 29; refine hTw.mono ?_; rintro e3 w3 ⟨rfl, rfl⟩; refine Hid.out ?_))
    have cd : w2.drew.cell? ⟨g, 1, none⟩ = some (.int .u8 (t : Int)) := Ext.load (Ext.tr hb2 (Ext.drew w2)) C1.out
    have Bd := (Hh.out.ext (Ext.tr hb2 (Ext.drew w2))).bb
    have fd := Bd.frozen 1
    have B3 := Bd.set 1 (u8 t2)
    rw [u8_nat wt2] at B3
    have HB3 := Lib.hid B3
    clear Bd B3 hTw
    refine Lib.hid ?_
    go_wp2_with fail
    refine rg_start (by kernel_rfl) ?_
    refine rg_take 0 rfl (by kernel_rfl) (by kernel_rfl) (by kernel_rfl) (fun _ _ _ _ h => h) (by rfl) ⟨_, fun w' hx => by (go_simp <;> with_reducible rfl), ?_⟩
    simp only [Act.put, List.setIfInBounds_toArray, List.set_cons_zero, List.set_cons_succ]
    refine rg_take 1 rfl (by kernel_rfl) (by kernel_rfl) (by kernel_rfl) (fun _ _ _ _ h => h) (by rfl) ⟨_, fun w' hx => by (go_simp <;> with_reducible rfl), ?_⟩   -- t28 := nilCheck t27
    simp only [Act.put, List.setIfInBounds_toArray, List.set_cons_zero, List.set_cons_succ]
    refine rg_take 2 rfl (by kernel_rfl) (by kernel_rfl) (by kernel_rfl) (fun _ _ _ _ h => h) (by rfl) ⟨_, fun w' hx => by (go_simp <;> with_reducible rfl), ?_⟩   -- t29 := fieldAddr 47 t28 0
    simp only [Act.put, List.setIfInBounds_toArray, List.set_cons_zero, List.set_cons_succ]
    refine rg_take 3 rfl (by kernel_rfl) (by kernel_rfl) (by kernel_rfl) (fun _ _ _ _ h => h) (by rfl) ⟨_, fun w' hx => by (go_simp <;> with_reducible rfl), ?_⟩   -- t30 := indexAddr 45 t29 1:i64
    simp only [Act.put, List.setIfInBounds_toArray, List.set_cons_zero, List.set_cons_succ]
    refine rg_take 4 rfl (by kernel_rfl) (by kernel_rfl) (by kernel_rfl) (fun _ _ _ _ h => h) (by rfl) ⟨_, fun w' hx => by have hcx := hx.load cd; (go_simp <;> with_reducible rfl), ?_⟩
    simp only [Act.put, List.setIfInBounds_toArray, List.set_cons_zero, List.set_cons_succ]
    refine rg_take 5 rfl (by kernel_rfl) (by kernel_rfl) (by kernel_rfl) (fun _ _ _ _ h => h) (by rfl) ⟨_, fun w' hx => by (go_simp <;> with_reducible rfl), ?_⟩
    simp only [Act.put, List.setIfInBounds_toArray, List.set_cons_zero, List.set_cons_succ]
    refine rg_take 6 rfl (by kernel_rfl) (by kernel_rfl) (by kernel_rfl) (fun _ _ _ _ h => h) (by rfl) ⟨.int .u8 (sz : Int), fun w' hx => by (go_simp <;> with_reducible rfl), ?_⟩
    simp only [Act.put, List.setIfInBounds_toArray, List.set_cons_zero, List.set_cons_succ]
    refine rg_take 7 rfl (by kernel_rfl) (by kernel_rfl) (by kernel_rfl) (fun _ _ _ _ h => h) (by rfl) ⟨.int .u8 (t2 : Int), fun w' hx => by (go_simp <;> with_reducible rfl), ?_⟩
    simp only [Act.put, List.setIfInBounds_toArray, List.set_cons_zero, List.set_cons_succ]
    refine rg_take 8 rfl (by kernel_rfl) (by kernel_rfl) (by kernel_rfl) (fun _ _ _ _ h => h) (by rfl) ⟨_, fun w' hx => by (go_simp <;> with_reducible rfl), ?_⟩   -- t35 := nilCheck t27
    simp only [Act.put, List.setIfInBounds_toArray, List.set_cons_zero, List.set_cons_succ]
    refine rg_take 9 rfl (by kernel_rfl) (by kernel_rfl) (by kernel_rfl) (fun _ _ _ _ h => h) (by rfl) ⟨_, fun w' hx => by (go_simp <;> with_reducible rfl), ?_⟩   -- t36 := fieldAddr 47 t35 0
    simp only [Act.put, List.setIfInBounds_toArray, List.set_cons_zero, List.set_cons_succ]
    refine rg_take 10 rfl (by kernel_rfl) (by kernel_rfl) (by kernel_rfl) (fun _ _ _ _ h => h) (by rfl) ⟨_, fun w' hx => by (go_simp <;> with_reducible rfl), ?_⟩   -- t37 := indexAddr 45 t36 1:i64
    simp only [Act.put, List.setIfInBounds_toArray, List.set_cons_zero, List.set_cons_succ]
    refine rg_store 11 rfl (by kernel_rfl) (by kernel_rfl) (by rfl) ⟨_, by (go_simp <;> rfl), ?_⟩
    simp only [Act.put]
    refine rg_done (by kernel_rfl) ?_
    obtain ⟨w5, hw5⟩ : ∃ w5, w5 = (w2.setCell ⟨g, 1, none⟩ (.int .u8 (t2 : Int))).drew := ⟨_, rfl⟩
    have B5 : BB w5 g (b.set 1 (u8 t2)) := by rw [hw5]; exact HB3.out
    have hgw : w.grownBy w5 (some g) := by rw [hw5]; exact grown_tr (grown_tr (grown_ext hb2 _) (grown_cell _ _ _ _)) (grown_ext (Ext.drew _) _)
    rw [← hw5]
    clear hw5 HB3 cd fd hb2
    go_wp2_with fail
    have hb5l := B5.len
    have hrow5 := Lib.hid (B5.ext (Ext.drew w5)).row
    obtain ⟨b5', hb5'⟩ : ∃ b5', b5' = b.set 1 (u8 t2) := ⟨_, rfl⟩
    rw [← hb5'] at hb5l hrow5 B5
    obtain ⟨p, hpp⟩ : ∃ p, p = (b5'.drop (2 + 2 * (k + 1))).take (2 * (n - 1 - k)) := ⟨_, rfl⟩
    have hpl : p.length = 2 * (n - 1 - k) := by rw [hpp, List.length_take, List.length_drop]; omega
    have hrdp : RdB w5.drew (some (arrA g (2 + 2 * (k + 1)))) p := by rw [hpp]; exact (B5.ext (Ext.drew w5)).partA _ _ (by omega)
    have hshift : ovw b5' (2 + 2 * k) p = shiftDown b5' k n := by rw [hpp]; rfl
    obtain ⟨n1, hn1⟩ : ∃ n1, n1 = n - 1 := ⟨_, rfl⟩
    obtain ⟨k1, hk1⟩ : ∃ k1, k1 = k + 1 := ⟨_, rfl⟩
    have wn1 : IntKind.i64.wrap ((n : Int) - 1) = (n1 : Int) := by rw [IntKind.wrap_i64]; omega
    have wk1 : IntKind.i64.wrap ((k : Int) + 1) = (k1 : Int) := by rw [IntKind.wrap_i64]; omega
    obtain ⟨da, hda⟩ : ∃ da, da = 2 + 2 * k := ⟨_, rfl⟩
    obtain ⟨db, hdb⟩ : ∃ db, db = 2 + 2 * n1 := ⟨_, rfl⟩
    obtain ⟨dc, hdc⟩ : ∃ dc, dc = 2 + 2 * k1 := ⟨_, rfl⟩
    obtain ⟨dd, hdd⟩ : ∃ dd, dd = 2 + 2 * n := ⟨_, rfl⟩
    have d4 := dir_any k (by omega) w5.drew
    have d7 := dir_any n1 (by omega) w5.drew
    have d14 := dir_any k1 (by omega) w5.drew
    have d16 := dir_any n (by omega) w5.drew
    rw [← hda] at d4 hshift
    rw [← hdb] at d7
    rw [← hdc] at d14
    rw [← hdd] at d16
    rw [← hk1, ← hdc] at hrdp
    have s8 := fun w' => arr_lh g da db (by omega) (by omega) w'
    have s17 := fun w' => arr_lh g dc dd (by omega) (by omega) w'
    rw [show db - da = p.length by omega] at s8
    rw [show dd - dc = p.length by omega] at s17
    have hfa : da + p.length ≤ 243 := by omega
    have hda243 : da ≠ 243 := by omega
    have hda0 : 0 < da := by omega
    have Hshift := Lib.hid hshift
    have Hpl := Lib.hid hpl
    have Hfa := Lib.hid hfa
    have Hrdp := Lib.hid hrdp
    have HB5' := Lib.hid hb5'
    have Hn1 := Lib.hid hn1
    clear hpp hpl hrdp hshift hda hdb hdc hdd hfa hb5' hn1 hk1 B5
    refine rg_start (by kernel_rfl) ?_
    refine rg_take 0 rfl (by kernel_rfl) (by kernel_rfl) (by kernel_rfl) (fun _ _ _ _ h => h) (by rfl) ⟨_, fun w' hx => by (go_simp <;> with_reducible rfl), ?_⟩
    simp only [Act.put, List.setIfInBounds_toArray, List.set_cons_zero, List.set_cons_succ]
    refine rg_take 1 rfl (by kernel_rfl) (by kernel_rfl) (by kernel_rfl) (fun _ _ _ _ h => h) (by rfl) ⟨_, fun w' hx => by (go_simp <;> with_reducible rfl), ?_⟩   -- t39 := nilCheck t38
    simp only [Act.put, List.setIfInBounds_toArray, List.set_cons_zero, List.set_cons_succ]
    refine rg_take 2 rfl (by kernel_rfl) (by kernel_rfl) (by kernel_rfl) (fun _ _ _ _ h => h) (by rfl) ⟨_, fun w' hx => by (go_simp <;> with_reducible rfl), ?_⟩   -- t40 := fieldAddr 47 t39 0
    simp only [Act.put, List.setIfInBounds_toArray, List.set_cons_zero, List.set_cons_succ]
    refine rg_take 3 rfl (by kernel_rfl) (by kernel_rfl) (by kernel_rfl) (fun _ _ _ _ h => h) (by rfl) ⟨_, fun w' hx => by (go_simp <;> with_reducible rfl), ?_⟩
    simp only [Act.put, List.setIfInBounds_toArray, List.set_cons_zero, List.set_cons_succ]
    refine rg_take 5 rfl (by kernel_rfl) (by kernel_rfl) (by kernel_rfl) (fun _ _ _ _ h => h) (by rfl) ⟨_, fun w' hx => by (go_simp <;> with_reducible rfl), ?_⟩
    simp only [Act.put, List.setIfInBounds_toArray, List.set_cons_zero, List.set_cons_succ]
    refine rg_take 6 rfl (by kernel_rfl) (by kernel_rfl) (by kernel_rfl) (fun _ _ _ _ h => h) (by rfl) ⟨.int .i64 (n1 : Int), fun w' hx => by (go_simp <;> with_reducible rfl), ?_⟩
    simp only [Act.put, List.setIfInBounds_toArray, List.set_cons_zero, List.set_cons_succ]
    refine rg_take 9 rfl (by kernel_rfl) (by kernel_rfl) (by kernel_rfl) (fun _ _ _ _ h => h) (by rfl) ⟨_, fun w' hx => by (go_simp <;> with_reducible rfl), ?_⟩
    simp only [Act.put, List.setIfInBounds_toArray, List.set_cons_zero, List.set_cons_succ]
    refine rg_take 10 rfl (by kernel_rfl) (by kernel_rfl) (by kernel_rfl) (fun _ _ _ _ h => h) (by rfl) ⟨_, fun w' hx => by (go_simp <;> with_reducible rfl), ?_⟩   -- t48 := nilCheck t47
    simp only [Act.put, List.setIfInBounds_toArray, List.set_cons_zero, List.set_cons_succ]
    refine rg_take 11 rfl (by kernel_rfl) (by kernel_rfl) (by kernel_rfl) (fun _ _ _ _ h => h) (by rfl) ⟨_, fun w' hx => by (go_simp <;> with_reducible rfl), ?_⟩   -- t49 := fieldAddr 47 t48 0
    simp only [Act.put, List.setIfInBounds_toArray, List.set_cons_zero, List.set_cons_succ]
    refine rg_take 12 rfl (by kernel_rfl) (by kernel_rfl) (by kernel_rfl) (fun _ _ _ _ h => h) (by rfl) ⟨_, fun w' hx => by (go_simp <;> with_reducible rfl), ?_⟩
    simp only [Act.put, List.setIfInBounds_toArray, List.set_cons_zero, List.set_cons_succ]
    refine rg_take 13 rfl (by kernel_rfl) (by kernel_rfl) (by kernel_rfl) (fun _ _ _ _ h => h) (by rfl) ⟨.int .i64 (k1 : Int), fun w' hx => by (go_simp <;> with_reducible rfl), ?_⟩
    simp only [Act.put, List.setIfInBounds_toArray, List.set_cons_zero, List.set_cons_succ]
    refine rg_take 15 rfl (by kernel_rfl) (by kernel_rfl) (by kernel_rfl) (fun _ _ _ _ h => h) (by rfl) ⟨_, fun w' hx => by (go_simp <;> with_reducible rfl), ?_⟩
    simp only [Act.put, List.setIfInBounds_toArray, List.set_cons_zero, List.set_cons_succ]
    refine rg_call 4 d4 rfl (by kernel_rfl) (by rfl) (by go_simp) ?_
    rintro e w' ⟨rfl, rfl⟩
    refine ⟨_, rfl, Ext.refl _, ?_⟩
    simp only [Act.put, List.setIfInBounds_toArray, List.set_cons_zero, List.set_cons_succ]
    refine rg_call 7 d7 rfl (by kernel_rfl) (by rfl) (by go_simp) ?_
    rintro e w' ⟨rfl, rfl⟩
    refine ⟨_, rfl, Ext.refl _, ?_⟩
    simp only [Act.put, List.setIfInBounds_toArray, List.set_cons_zero, List.set_cons_succ]
    refine rg_take 8 rfl (by kernel_rfl) (by kernel_rfl) (by kernel_rfl) (fun _ _ _ _ h => h) (by rfl) ⟨_, fun w' hx => by (go_simp <;> with_reducible rfl), ?_⟩   -- t46 := slice 45 t40 t42 t45 -
    simp only [Act.put, List.setIfInBounds_toArray, List.set_cons_zero, List.set_cons_succ]
    refine rg_call 14 d14 rfl (by kernel_rfl) (by rfl) (by go_simp) ?_
    rintro e w' ⟨rfl, rfl⟩
    refine ⟨_, rfl, Ext.refl _, ?_⟩
    simp only [Act.put, List.setIfInBounds_toArray, List.set_cons_zero, List.set_cons_succ]
    refine rg_call 16 d16 rfl (by kernel_rfl) (by rfl) (by go_simp) ?_
    rintro e w' ⟨rfl, rfl⟩
    refine ⟨_, rfl, Ext.refl _, ?_⟩
    simp only [Act.put, List.setIfInBounds_toArray, List.set_cons_zero, List.set_cons_succ]
    refine rg_take 17 rfl (by kernel_rfl) (by kernel_rfl) (by kernel_rfl) (fun _ _ _ _ h => h) (by rfl) ⟨_, fun w' hx => by (go_simp <;> with_reducible rfl), ?_⟩   -- t55 := slice 45 t49 t52 t54 -
    simp only [Act.put, List.setIfInBounds_toArray, List.set_cons_zero, List.set_cons_succ]
    refine rg_last 18 rfl (by kernel_rfl) (by kernel_rfl) (by rfl) fun K hK => wp_copyB (.tmp 46) (.tmp 55) 30 rfl elemB g da p.length (243 - da) (some (arrA g da)) rfl (some (arrA g dc)) (243 - dc) b5' p rfl 47 (.inr (by rw [arrA_lt hda243])) (Nat.le_refl _) hrow5.out (by rw [hb5l]; exact Hfa.out) Hrdp.out fun w6 hr6 hg6 => hK _ _ ?_
    simp only [Act.put, List.setIfInBounds_toArray, List.set_cons_zero, List.set_cons_succ]
    refine rg_done (by kernel_rfl) ?_
    have hrs : w6.heap[g]? = some (.cells (bvs (shiftDown b5' k n)).toArray 47 (0, 0)) := by rw [← Hshift.out]; exact hr6
    have hsl : (shiftDown b5' k n).length = 243 := by rw [← Hshift.out, ovw_len (by rw [hb5l]; exact Hfa.out), hb5l]
    have B6 : BB w6 g (shiftDown b5' k n) := ⟨hrs, hsl⟩
    have hg6w : w.grownBy w6 (some g) := grown_tr (grown_tr hgw (grown_ext (Ext.drew w5) _)) hg6
    have e0 : (shiftDown b5' k n).getD 0 0 = b.getD 0 0 := by
      rw [← Hshift.out, List.getD_eq_getElem?_getD, List.getD_eq_getElem?_getD, ovw_get _ _ _ (by rw [hb5l]; exact Hfa.out)]
      rw [if_pos hda0, HB5'.out, set_get _ _ _ (by omega), if_neg (by omega)]
    have c6 : w6.drew.cell? ⟨g, 0, none⟩ = some (.int .u8 (n : Int)) := by
      have := (B6.ext (Ext.drew w6)).cell (j := 0) (by omega)
      rw [this, e0, ← hn0]
      rfl
    have f6 : w6.drew.frozen? ⟨g, 0, none⟩ = false := (B6.ext (Ext.drew w6)).frozen 0
    have u62 : IntKind.u8.wrap ((n : Int) - 1) = (n1 : Int) := by rw [Hn1.out]; simp [IntKind.wrap, IntKind.bits, IntKind.signed]; omega
    have B7 := (B6.ext (Ext.drew w6)).set 0 (u8 n1)
    rw [u8_nat (by rw [Hn1.out]; omega)] at B7
    have HB7 := Lib.hid B7
    clear hrs hr6 hg6 B7 B6 e0
    go_wp2_with fail
    refine rg_start (by kernel_rfl) ?_
    refine rg_take 0 rfl (by kernel_rfl) (by kernel_rfl) (by kernel_rfl) (fun _ _ _ _ h => h) (by rfl) ⟨_, fun w' hx => by (go_simp <;> with_reducible rfl), ?_⟩
    simp only [Act.put, List.setIfInBounds_toArray, List.set_cons_zero, List.set_cons_succ]
    refine rg_take 1 rfl (by kernel_rfl) (by kernel_rfl) (by kernel_rfl) (fun _ _ _ _ h => h) (by rfl) ⟨_, fun w' hx => by (go_simp <;> with_reducible rfl), ?_⟩   -- t58 := nilCheck t57
    simp only [Act.put, List.setIfInBounds_toArray, List.set_cons_zero, List.set_cons_succ]
    refine rg_take 2 rfl (by kernel_rfl) (by kernel_rfl) (by kernel_rfl) (fun _ _ _ _ h => h) (by rfl) ⟨_, fun w' hx => by (go_simp <;> with_reducible rfl), ?_⟩   -- t59 := fieldAddr 47 t58 0
    simp only [Act.put, List.setIfInBounds_toArray, List.set_cons_zero, List.set_cons_succ]
    refine rg_take 3 rfl (by kernel_rfl) (by kernel_rfl) (by kernel_rfl) (fun _ _ _ _ h => h) (by rfl) ⟨_, fun w' hx => by (go_simp <;> with_reducible rfl), ?_⟩   -- t60 := indexAddr 45 t59 0:i64
    simp only [Act.put, List.setIfInBounds_toArray, List.set_cons_zero, List.set_cons_succ]
    refine rg_take 4 rfl (by kernel_rfl) (by kernel_rfl) (by kernel_rfl) (fun _ _ _ _ h => h) (by rfl) ⟨_, fun w' hx => by have hcx := hx.load c6; (go_simp <;> with_reducible rfl), ?_⟩
    simp only [Act.put, List.setIfInBounds_toArray, List.set_cons_zero, List.set_cons_succ]
    refine rg_take 5 rfl (by kernel_rfl) (by kernel_rfl) (by kernel_rfl) (fun _ _ _ _ h => h) (by rfl) ⟨.int .u8 (n1 : Int), fun w' hx => by (go_simp <;> with_reducible rfl), ?_⟩
    simp only [Act.put, List.setIfInBounds_toArray, List.set_cons_zero, List.set_cons_succ]
    refine rg_take 6 rfl (by kernel_rfl) (by kernel_rfl) (by kernel_rfl) (fun _ _ _ _ h => h) (by rfl) ⟨_, fun w' hx => by (go_simp <;> with_reducible rfl), ?_⟩   -- t63 := nilCheck t57
    simp only [Act.put, List.setIfInBounds_toArray, List.set_cons_zero, List.set_cons_succ]
    refine rg_take 7 rfl (by kernel_rfl) (by kernel_rfl) (by kernel_rfl) (fun _ _ _ _ h => h) (by rfl) ⟨_, fun w' hx => by (go_simp <;> with_reducible rfl), ?_⟩   -- t64 := fieldAddr 47 t63 0
    simp only [Act.put, List.setIfInBounds_toArray, List.set_cons_zero, List.set_cons_succ]
    refine rg_take 8 rfl (by kernel_rfl) (by kernel_rfl) (by kernel_rfl) (fun _ _ _ _ h => h) (by rfl) ⟨_, fun w' hx => by (go_simp <;> with_reducible rfl), ?_⟩   -- t65 := indexAddr 45 t64 0:i64
    simp only [Act.put, List.setIfInBounds_toArray, List.set_cons_zero, List.set_cons_succ]
    refine rg_store 9 rfl (by kernel_rfl) (by kernel_rfl) (by rfl) ⟨_, by (go_simp <;> rfl), ?_⟩
    simp only [Act.put]
    refine rg_done (by kernel_rfl) ?_
    go_wp2_with fail
    go_ret
    rw [He.out]
    refine ⟨rfl, ⟨_, HB7.out, ?_, HinvD.out⟩, grown_tr (grown_tr hg6w (grown_ext (Ext.drew _) _)) (grown_cell _ _ _ _)⟩
    rw [HB5'.out, Hn1.out]
    exact HrelD.out
  · rw [if_neg h4] at hdt
    have Hdt := Lib.hid hdt
    have b4 : ((ps : Int) == (t : Int)) = false := by rw [beq_eq_false_iff_ne]; omega
    have b5 : ¬ (ps : Int) = (t : Int) := by omega
    clear hdt
    go_enter Try.func15, Try.ntmps15
    go_wp2_with (first | (go_at_call 18; refine hL.mono ?_; rintro e1 w1 ⟨rfl, rfl⟩) | (go_at_call 32; refine hp.mono ?_; rintro e2 w2 ⟨rfl, hb2⟩; have hTw := HT.out w2 hb2) | (go_at_call 29; refine hTw.mono ?_; rintro e3 w3 ⟨rfl, rfl⟩; refine Hid.out ?_))
    obtain ⟨w5, hw5⟩ : ∃ w5, w5 = w2 := ⟨_, rfl⟩
    have hset : b.set 1 (u8 t2) = b := by
      refine List.ext_getElem? fun j => ?_
      rw [set_get _ _ _ (by omega)]
      split
      · rename_i e; subst e; rw [Hh.out.rel.t, Hdt.out, Ht.out]
      · rfl
    have B5 : BB w5 g (b.set 1 (u8 t2)) := by rw [hw5, hset]; exact (Hh.out.ext hb2).bb
    have hgw : w.grownBy w5 (some g) := by rw [hw5]; exact grown_ext hb2 _
    rw [← hw5]
    clear hw5 hset hb2 hTw
    refine Lib.hid ?_
    go_wp2_with fail
    have hb5l := B5.len
    have hrow5 := Lib.hid (B5.ext (Ext.drew w5)).row
    obtain ⟨b5', hb5'⟩ : ∃ b5', b5' = b.set 1 (u8 t2) := ⟨_, rfl⟩
    rw [← hb5'] at hb5l hrow5 B5
    obtain ⟨p, hpp⟩ : ∃ p, p = (b5'.drop (2 + 2 * (k + 1))).take (2 * (n - 1 - k)) := ⟨_, rfl⟩
    have hpl : p.length = 2 * (n - 1 - k) := by rw [hpp, List.length_take, List.length_drop]; omega
    have hrdp : RdB w5.drew (some (arrA g (2 + 2 * (k + 1)))) p := by rw [hpp]; exact (B5.ext (Ext.drew w5)).partA _ _ (by omega)
    have hshift : ovw b5' (2 + 2 * k) p = shiftDown b5' k n := by rw [hpp]; rfl
    obtain ⟨n1, hn1⟩ : ∃ n1, n1 = n - 1 := ⟨_, rfl⟩
    obtain ⟨k1, hk1⟩ : ∃ k1, k1 = k + 1 := ⟨_, rfl⟩
    have wn1 : IntKind.i64.wrap ((n : Int) - 1) = (n1 : Int) := by rw [IntKind.wrap_i64]; omega
    have wk1 : IntKind.i64.wrap ((k : Int) + 1) = (k1 : Int) := by rw [IntKind.wrap_i64]; omega
    obtain ⟨da, hda⟩ : ∃ da, da = 2 + 2 * k := ⟨_, rfl⟩
    obtain ⟨db, hdb⟩ : ∃ db, db = 2 + 2 * n1 := ⟨_, rfl⟩
    obtain ⟨dc, hdc⟩ : ∃ dc, dc = 2 + 2 * k1 := ⟨_, rfl⟩
    obtain ⟨dd, hdd⟩ : ∃ dd, dd = 2 + 2 * n := ⟨_, rfl⟩
    have d4 := dir_any k (by omega) w5.drew
    have d7 := dir_any n1 (by omega) w5.drew
    have d14 := dir_any k1 (by omega) w5.drew
    have d16 := dir_any n (by omega) w5.drew
    rw [← hda] at d4 hshift
    rw [← hdb] at d7
    rw [← hdc] at d14
    rw [← hdd] at d16
    rw [← hk1, ← hdc] at hrdp
    have s8 := fun w' => arr_lh g da db (by omega) (by omega) w'
    have s17 := fun w' => arr_lh g dc dd (by omega) (by omega) w'
    rw [show db - da = p.length by omega] at s8
    rw [show dd - dc = p.length by omega] at s17
    have hfa : da + p.length ≤ 243 := by omega
    have hda243 : da ≠ 243 := by omega
    have hda0 : 0 < da := by omega
    have Hshift := Lib.hid hshift
    have Hpl := Lib.hid hpl
    have Hfa := Lib.hid hfa
    have Hrdp := Lib.hid hrdp
    have HB5' := Lib.hid hb5'
    have Hn1 := Lib.hid hn1
    clear hpp hpl hrdp hshift hda hdb hdc hdd hfa hb5' hn1 hk1 B5
    refine rg_start (by kernel_rfl) ?_
    refine rg_take 0 rfl (by kernel_rfl) (by kernel_rfl) (by kernel_rfl) (fun _ _ _ _ h => h) (by rfl) ⟨_, fun w' hx => by (go_simp <;> with_reducible rfl), ?_⟩
    simp only [Act.put, List.setIfInBounds_toArray, List.set_cons_zero, List.set_cons_succ]
    refine rg_take 1 rfl (by kernel_rfl) (by kernel_rfl) (by kernel_rfl) (fun _ _ _ _ h => h) (by rfl) ⟨_, fun w' hx => by (go_simp <;> with_reducible rfl), ?_⟩   -- t39 := nilCheck t38
    simp only [Act.put, List.setIfInBounds_toArray, List.set_cons_zero, List.set_cons_succ]
    refine rg_take 2 rfl (by kernel_rfl) (by kernel_rfl) (by kernel_rfl) (fun _ _ _ _ h => h) (by rfl) ⟨_, fun w' hx => by (go_simp <;> with_reducible rfl), ?_⟩   -- t40 := fieldAddr 47 t39 0
    simp only [Act.put, List.setIfInBounds_toArray, List.set_cons_zero, List.set_cons_succ]
    refine rg_take 3 rfl (by kernel_rfl) (by kernel_rfl) (by kernel_rfl) (fun _ _ _ _ h => h) (by rfl) ⟨_, fun w' hx => by (go_simp <;> with_reducible rfl), ?_⟩
    simp only [Act.put, List.setIfInBounds_toArray, List.set_cons_zero, List.set_cons_succ]
    refine rg_take 5 rfl (by kernel_rfl) (by kernel_rfl) (by kernel_rfl) (fun _ _ _ _ h => h) (by rfl) ⟨_, fun w' hx => by (go_simp <;> with_reducible rfl), ?_⟩
    simp only [Act.put, List.setIfInBounds_toArray, List.set_cons_zero, List.set_cons_succ]
    refine rg_take 6 rfl (by kernel_rfl) (by kernel_rfl) (by kernel_rfl) (fun _ _ _ _ h => h) (by rfl) ⟨.int .i64 (n1 : Int), fun w' hx => by (go_simp <;> with_reducible rfl), ?_⟩
    simp only [Act.put, List.setIfInBounds_toArray, List.set_cons_zero, List.set_cons_succ]
    refine rg_take 9 rfl (by kernel_rfl) (by kernel_rfl) (by kernel_rfl) (fun _ _ _ _ h => h) (by rfl) ⟨_, fun w' hx => by (go_simp <;> with_reducible rfl), ?_⟩
    simp only [Act.put, List.setIfInBounds_toArray, List.set_cons_zero, List.set_cons_succ]
    refine rg_take 10 rfl (by kernel_rfl) (by kernel_rfl) (by kernel_rfl) (fun _ _ _ _ h => h) (by rfl) ⟨_, fun w' hx => by (go_simp <;> with_reducible rfl), ?_⟩   -- t48 := nilCheck t47
    simp only [Act.put, List.setIfInBounds_toArray, List.set_cons_zero, List.set_cons_succ]
    refine rg_take 11 rfl (by kernel_rfl) (by kernel_rfl) (by kernel_rfl) (fun _ _ _ _ h => h) (by rfl) ⟨_, fun w' hx => by (go_simp <;> with_reducible rfl), ?_⟩   -- t49 := fieldAddr 47 t48 0
    simp only [Act.put, List.setIfInBounds_toArray, List.set_cons_zero, List.set_cons_succ]
    refine rg_take 12 rfl (by kernel_rfl) (by kernel_rfl) (by kernel_rfl) (fun _ _ _ _ h => h) (by rfl) ⟨_, fun w' hx => by (go_simp <;> with_reducible rfl), ?_⟩
    simp only [Act.put, List.setIfInBounds_toArray, List.set_cons_zero, List.set_cons_succ]
    refine rg_take 13 rfl (by kernel_rfl) (by kernel_rfl) (by kernel_rfl) (fun _ _ _ _ h => h) (by rfl) ⟨.int .i64 (k1 : Int), fun w' hx => by (go_simp <;> with_reducible rfl), ?_⟩
    simp only [Act.put, List.setIfInBounds_toArray, List.set_cons_zero, List.set_cons_succ]
    refine rg_take 15 rfl (by kernel_rfl) (by kernel_rfl) (by kernel_rfl) (fun _ _ _ _ h => h) (by rfl) ⟨_, fun w' hx => by (go_simp <;> with_reducible rfl), ?_⟩
    simp only [Act.put, List.setIfInBounds_toArray, List.set_cons_zero, List.set_cons_succ]
    refine rg_call 4 d4 rfl (by kernel_rfl) (by rfl) (by go_simp) ?_
    rintro e w' ⟨rfl, rfl⟩
    refine ⟨_, rfl, Ext.refl _, ?_⟩
    simp only [Act.put, List.setIfInBounds_toArray, List.set_cons_zero, List.set_cons_succ]
    refine rg_call 7 d7 rfl (by kernel_rfl) (by rfl) (by go_simp) ?_
    rintro e w' ⟨rfl, rfl⟩
    refine ⟨_, rfl, Ext.refl _, ?_⟩
    simp only [Act.put, List.setIfInBounds_toArray, List.set_cons_zero, List.set_cons_succ]
    refine rg_take 8 rfl (by kernel_rfl) (by kernel_rfl) (by kernel_rfl) (fun _ _ _ _ h => h) (by rfl) ⟨_, fun w' hx => by (go_simp <;> with_reducible rfl), ?_⟩   -- t46 := slice 45 t40 t42 t45 -
    simp only [Act.put, List.setIfInBounds_toArray, List.set_cons_zero, List.set_cons_succ]
    refine rg_call 14 d14 rfl (by kernel_rfl) (by rfl) (by go_simp) ?_
    rintro e w' ⟨rfl, rfl⟩
    refine ⟨_, rfl, Ext.refl _, ?_⟩
    simp only [Act.put, List.setIfInBounds_toArray, List.set_cons_zero, List.set_cons_succ]
    refine rg_call 16 d16 rfl (by kernel_rfl) (by rfl) (by go_simp) ?_
    rintro e w' ⟨rfl, rfl⟩
    refine ⟨_, rfl, Ext.refl _, ?_⟩
    simp only [Act.put, List.setIfInBounds_toArray, List.set_cons_zero, List.set_cons_succ]
    refine rg_take 17 rfl (by kernel_rfl) (by kernel_rfl) (by kernel_rfl) (fun _ _ _ _ h => h) (by rfl) ⟨_, fun w' hx => by (go_simp <;> with_reducible rfl), ?_⟩   -- t55 := slice 45 t49 t52 t54 -
    simp only [Act.put, List.setIfInBounds_toArray, List.set_cons_zero, List.set_cons_succ]
    refine rg_last 18 rfl (by kernel_rfl) (by kernel_rfl) (by rfl) fun K hK => wp_copyB (.tmp 46) (.tmp 55) 30 rfl elemB g da p.length (243 - da) (some (arrA g da)) rfl (some (arrA g dc)) (243 - dc) b5' p rfl 47 (.inr (by rw [arrA_lt hda243])) (Nat.le_refl _) hrow5.out (by rw [hb5l]; exact Hfa.out) Hrdp.out fun w6 hr6 hg6 => hK _ _ ?_
    simp only [Act.put, List.setIfInBounds_toArray, List.set_cons_zero, List.set_cons_succ]
    refine rg_done (by kernel_rfl) ?_
    have hrs : w6.heap[g]? = some (.cells (bvs (shiftDown b5' k n)).toArray 47 (0, 0)) := by rw [← Hshift.out]; exact hr6
    have hsl : (shiftDown b5' k n).length = 243 := by rw [← Hshift.out, ovw_len (by rw [hb5l]; exact Hfa.out), hb5l]
    have B6 : BB w6 g (shiftDown b5' k n) := ⟨hrs, hsl⟩
    have hg6w : w.grownBy w6 (some g) := grown_tr (grown_tr hgw (grown_ext (Ext.drew w5) _)) hg6
    have e0 : (shiftDown b5' k n).getD 0 0 = b.getD 0 0 := by
      rw [← Hshift.out, List.getD_eq_getElem?_getD, List.getD_eq_getElem?_getD, ovw_get _ _ _ (by rw [hb5l]; exact Hfa.out)]
      rw [if_pos hda0, HB5'.out, set_get _ _ _ (by omega), if_neg (by omega)]
    have c6 : w6.drew.cell? ⟨g, 0, none⟩ = some (.int .u8 (n : Int)) := by
      have := (B6.ext (Ext.drew w6)).cell (j := 0) (by omega)
      rw [this, e0, ← hn0]
      rfl
    have f6 : w6.drew.frozen? ⟨g, 0, none⟩ = false := (B6.ext (Ext.drew w6)).frozen 0
    have u62 : IntKind.u8.wrap ((n : Int) - 1) = (n1 : Int) := by rw [Hn1.out]; simp [IntKind.wrap, IntKind.bits, IntKind.signed]; omega
    have B7 := (B6.ext (Ext.drew w6)).set 0 (u8 n1)
    rw [u8_nat (by rw [Hn1.out]; omega)] at B7
    have HB7 := Lib.hid B7
    clear hrs hr6 hg6 B7 B6 e0
    go_wp2_with fail
    refine rg_start (by kernel_rfl) ?_
    refine rg_take 0 rfl (by kernel_rfl) (by kernel_rfl) (by kernel_rfl) (fun _ _ _ _ h => h) (by rfl) ⟨_, fun w' hx => by (go_simp <;> with_reducible rfl), ?_⟩
    simp only [Act.put, List.setIfInBounds_toArray, List.set_cons_zero, List.set_cons_succ]
    refine rg_take 1 rfl (by kernel_rfl) (by kernel_rfl) (by kernel_rfl) (fun _ _ _ _ h => h) (by rfl) ⟨_, fun w' hx => by (go_simp <;> with_reducible rfl), ?_⟩   -- t58 := nilCheck t57
    simp only [Act.put, List.setIfInBounds_toArray, List.set_cons_zero, List.set_cons_succ]
    refine rg_take 2 rfl (by kernel_rfl) (by kernel_rfl) (by kernel_rfl) (fun _ _ _ _ h => h) (by rfl) ⟨_, fun w' hx => by (go_simp <;> with_reducible rfl), ?_⟩   -- t59 := fieldAddr 47 t58 0
    simp only [Act.put, List.setIfInBounds_toArray, List.set_cons_zero, List.set_cons_succ]
    refine rg_take 3 rfl (by kernel_rfl) (by kernel_rfl) (by kernel_rfl) (fun _ _ _ _ h => h) (by rfl) ⟨_, fun w' hx => by (go_simp <;> with_reducible rfl), ?_⟩   -- t60 := indexAddr 45 t59 0:i64
    simp only [Act.put, List.setIfInBounds_toArray, List.set_cons_zero, List.set_cons_succ]
    refine rg_take 4 rfl (by kernel_rfl) (by kernel_rfl) (by kernel_rfl) (fun _ _ _ _ h => h) (by rfl) ⟨_, fun w' hx => by have hcx := hx.load c6; (go_simp <;> with_reducible rfl), ?_⟩
    simp only [Act.put, List.setIfInBounds_toArray, List.set_cons_zero, List.set_cons_succ]
    refine rg_take 5 rfl (by kernel_rfl) (by kernel_rfl) (by kernel_rfl) (fun _ _ _ _ h => h) (by rfl) ⟨.int .u8 (n1 : Int), fun w' hx => by (go_simp <;> with_reducible rfl), ?_⟩
    simp only [Act.put, List.setIfInBounds_toArray, List.set_cons_zero, List.set_cons_succ]
    refine rg_take 6 rfl (by kernel_rfl) (by kernel_rfl) (by kernel_rfl) (fun _ _ _ _ h => h) (by rfl) ⟨_, fun w' hx => by (go_simp <;> with_reducible rfl), ?_⟩   -- t63 := nilCheck t57
    simp only [Act.put, List.setIfInBounds_toArray, List.set_cons_zero, List.set_cons_succ]
    refine rg_take 7 rfl (by kernel_rfl) (by kernel_rfl) (by kernel_rfl) (fun _ _ _ _ h => h) (by rfl) ⟨_, fun w' hx => by (go_simp <;> with_reducible rfl), ?_⟩   -- t64 := fieldAddr 47 t63 0
    simp only [Act.put, List.setIfInBounds_toArray, List.set_cons_zero, List.set_cons_succ]
    refine rg_take 8 rfl (by kernel_rfl) (by kernel_rfl) (by kernel_rfl) (fun _ _ _ _ h => h) (by rfl) ⟨_, fun w' hx => by (go_simp <;> with_reducible rfl), ?_⟩   -- t65 := indexAddr 45 t64 0:i64
    simp only [Act.put, List.setIfInBounds_toArray, List.set_cons_zero, List.set_cons_succ]
    refine rg_store 9 rfl (by kernel_rfl) (by kernel_rfl) (by rfl) ⟨_, by (go_simp <;> rfl), ?_⟩
    simp only [Act.put]
    refine rg_done (by kernel_rfl) ?_
    go_wp2_with fail
    go_ret
    rw [He.out]
    refine ⟨rfl, ⟨_, HB7.out, ?_, HinvD.out⟩, grown_tr (grown_tr hg6w (grown_ext (Ext.drew _) _)) (grown_cell _ _ _ _)⟩
    rw [HB5'.out, Hn1.out]
    exact HrelD.out
end Go.Proofs.Ytgfanklhihciaaa
