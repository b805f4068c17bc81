
/- Contract: scowref06.Body.Bytes. Printed by wip/tools/gen_sltrbytes06.py. -/

import Derived.Test.YtgfanklhihciaaaSltRef

import Derived.Test.YtgfanklhihciaaaSltOut

import Derived.Test.YtgfanklhihciaaaSltTold

namespace Go.Proofs.Ytgfanklhihciaaa

open Go.RowKit

attribute [local go_sem] Oper.semAt_some

theorem BO.setN {w : World} {g : Nat} {b : List UInt8} (h : BO w g b) (j t : Nat) (ht : t < 256) : BO (w.setCell ⟨g, j, none⟩ (.int .u8 (t : Int))) g (b.set j (u8 t)) := by
  have := h.set j (u8 t)
  rwa [u8_nat ht] at this
/-- One byte more is laid over. -/
theorem ovw_step {l : List UInt8} {k x : Nat} {p : List UInt8} (hk : k + p.length ≤ l.length) (hx : x < p.length) : (ovw l k (p.take x)).set (k + x) p[x] = ovw l k (p.take (x + 1)) := by
  have h1 : (p.take x).length = x := by rw [List.length_take]; omega
  have h2 : (p.take (x + 1)).length = x + 1 := by rw [List.length_take]; omega
  have hl := ovw_len (l := l) (k := k) (p := p.take x) (by rw [h1]; omega)
  refine List.ext_getElem? fun j => ?_
  rw [set_get _ _ _ (by rw [hl]; omega), ovw_get _ _ _ (by rw [h1]; omega), ovw_get _ _ _ (by rw [h2]; omega), h1, h2]
  by_cases h3 : j = k + x
  · subst h3
    rw [if_pos rfl, if_neg (by omega), if_pos (by omega), List.getElem?_take, if_pos (by omega), show k + x - k = x by omega, List.getElem?_eq_getElem hx]
  · rw [if_neg h3]
    by_cases h4 : j < k
    · rw [if_pos h4, if_pos h4]
    · rw [if_neg h4, if_neg h4]
      by_cases h5 : j < k + x
      · rw [if_pos h5, if_pos (by omega), List.getElem?_take, List.getElem?_take, if_pos (by omega), if_pos (by omega)]
      · rw [if_neg h5, if_neg (by omega)]
set_option maxRecDepth 100000 in
set_option maxHeartbeats 1000000 in
theorem ref_sbytes (g : Nat) (A : Option Addr) (c : Nat) (L : List ScV) (m : SBody) (w : World) (h : MAt w g A c L m) :
    Calls Try.prog 28 #[.pointer (some ⟨g, 0, none⟩)] w (BytesR m w) := by
  have hn := h.inv.n
  have hlen := h.len
  have htp := h.inv.top
  have Hh := Lib.hid h
  have hgs := lt_of_heap h.row
  obtain ⟨n, hnn⟩ : ∃ n, n = L.length := ⟨_, rfl⟩
  have hmn : n = m.l.length := by omega
  have Hn := Lib.hid hnn
  have Hmn := Lib.hid hmn
  have hn120 : n ≤ 120 := by omega
  have Htop : Hid (∀ w2, Ext w w2 → w2.cell? ⟨g, 0, none⟩ = some (.int .i64 (m.top : Int)) ∧ w2.cell? ⟨g, 1, none⟩ = some (.slice A n c)) := fun w2 hx => ⟨(Hh.out.ext hx).top, by rw [hnn]; exact (Hh.out.ext hx).list⟩
  clear h hlen hnn hmn
  go_enter Try.func28, Try.ntmps28
  go_wp2_with (refine wpList_mk (by rfl) _ _ 30 rfl elemB (.int .u8 0) (by kernel_rfl) rfl 243 .i64 .i64 rfl rfl (by omega) (by omega) ?_; refine Hid.out ?_)
  have hz : Array.replicate 243 (.int .u8 0) = (bvs (zeros 243)).toArray := by
    apply Array.ext'
    simp only [Array.toList_replicate, bvs, zeros, List.map_replicate]
    rfl
  rw [hz]
  clear hz
  obtain ⟨o, ho⟩ : ∃ o, o = w.heap.size := ⟨_, rfl⟩
  obtain ⟨w1, hw1⟩ : ∃ w1, w1 = w.alloc (.cells (bvs (zeros 243)).toArray 5) := ⟨_, rfl⟩
  have hO1 : BO w1 o (zeros 243) := ⟨by rw [hw1, ho]; exact heap_alloc_new w _⟩
  have hx1 : Ext w w1 := by rw [hw1]; exact Ext.alloc w _
  rw [← hw1, ← ho]
  have Ho := Lib.hid ho
  clear hw1 ho
  obtain ⟨T0, T1⟩ := Htop.out w1 hx1
  have hzl := zeros_len 243
  have a0 := hO1.cell (j := 0) (by omega)
  have b0 := hO1.frozen 0
  have un : IntKind.u8.wrap (n : Int) = (n : Int) := by simp [IntKind.wrap, IntKind.bits, IntKind.signed]; omega
  have ut : IntKind.u8.wrap (m.top : Int) = (m.top : Int) := by simp [IntKind.wrap, IntKind.bits, IntKind.signed]; omega
  have hO2 := hO1.setN 0 n (by omega)
  have hx2 : Ext w (w1.setCell ⟨o, 0, none⟩ (.int .u8 (n : Int))) := below_row hx1 (grown_cell _ o 0 _) (by have := Ho.out; omega) hx1.size
  obtain ⟨T2, T3⟩ := Htop.out _ hx2
  have a1 := hO2.cell (j := 1) (by rw [List.length_set]; omega)
  have b1 := hO2.frozen 1
  have hO3 := hO2.setN 1 m.top (by omega)
  have hx3 := below_row hx2 (grown_cell _ o 1 (.int .u8 (m.top : Int))) (by have := Ho.out; omega) hx2.size
  have hR0 := RB.start m
  rw [← Hmn.out] at hR0
  have HO3 := Lib.hid hO3
  have Hx3 := Lib.hid hx3
  clear hO1 hx1 hO2 hx2 hO3 hx3
  refine Lib.hid ?_
  go_wp2_with fail
  go_loopw [4] (fun i wr => ∃ (k : Nat) (out : List UInt8), k ≤ n ∧ i = .int .i64 k ∧ RB m k out ∧ BO wr o out ∧ Ext w wr) (fun i _ => n - (intOf i).toNat)
  case atStart => exact ⟨0, _, by omega, rfl, hR0, HO3.out, Hx3.out⟩
  case round =>
    clear HO3 Hx3 T0 T1 T2 T3 a0 b0 a1 b1 hR0
    obtain ⟨k, out, hk, rfl, hR, hO, hE⟩ := hrel
    obtain ⟨S0, S1⟩ := Htop.out wr hE
    have HR := Lib.hid hR
    have hol := hR.len
    by_cases hkn : k < n
    · have hkL : k < L.length := by have := Hn.out; omega
      have hkm : k < m.l.length := by have := Hmn.out; omega
      obtain ⟨ad, hA, -, -⟩ := Hh.out.at_ hkL
      have hx := Hh.out.get hkL
      obtain ⟨y, hy⟩ : ∃ y, y = L[k] := ⟨_, rfl⟩
      have HY : Hid (∀ w2, Ext w w2 → w2.cell? (ad.add (k * 2)) = some (.int .i64 (y.x.pos : Int)) ∧ w2.cell? ⟨(ad.add (k * 2)).block, (ad.add (k * 2)).off + 1, none⟩ = some (.slice y.pa y.x.p.length y.pc) ∧ RdB w2 y.pa y.x.p) := fun w2 h2 => by
        obtain ⟨ad2, e, e1, e2⟩ := (Hh.out.ext h2).at_ hkL
        rw [hA] at e
        injection e with e
        subst e
        rw [hy]
        exact ⟨e1, e2, ((Hh.out.ext h2).each _ (List.getElem_mem hkL)).rd'⟩
      have hfit : y.x.pos + y.x.p.length ≤ 243 := by rw [hy, hx]; exact Hh.out.inv.fit _ (List.getElem_mem _)
      have hstep := hR.step Hh.out.inv hkm
      rw [← hx, ← hy] at hstep
      have hrb : rbE m k hkm out = (out.set (2 + 2 * k) (u8 (if y.x.p = [] then m.top else y.x.pos))).set (3 + 2 * k) (u8 y.x.p.length) := by
        unfold rbE SCell.fix
        rw [← hx, ← hy]
        split <;> rfl
      obtain ⟨ob, hob⟩ : ∃ ob, ob = rbE m k hkm out := ⟨_, rfl⟩
      rw [← hob] at hstep hrb
      subst hA
      obtain ⟨ps, hps⟩ : ∃ ps, ps = y.x.pos := ⟨_, rfl⟩
      obtain ⟨p, hp⟩ : ∃ p, p = y.x.p := ⟨_, rfl⟩
      obtain ⟨pa, hpa⟩ : ∃ pa, pa = y.pa := ⟨_, rfl⟩
      rw [← hps, ← hp] at HY hfit hstep hrb
      rw [← hpa] at HY
      have hobl : ob.length = 243 := by rw [hrb, List.length_set, List.length_set, hol]
      obtain ⟨j1, hj1⟩ : ∃ j1, j1 = 2 + 2 * k := ⟨_, rfl⟩
      obtain ⟨j2, hj2⟩ : ∃ j2, j2 = 3 + 2 * k := ⟨_, rfl⟩
      rw [← hj1, ← hj2] at hrb
      have ik : (0 : Int) ≤ (k : Int) := by omega
      have ik2 : (k : Int) < (n : Int) := by omega
      have i1 : (j1 : Int) < 243 := by omega
      have i2 : (0 : Int) ≤ (j1 : Int) := by omega
      have i3 : (j2 : Int) < 243 := by omega
      have i4 : (0 : Int) ≤ (j2 : Int) := by omega
      have v1 : IntKind.i64.wrap (2 * (k : Int)) = 2 * (k : Int) := by rw [IntKind.wrap_i64]; omega
      have v2 : IntKind.i64.wrap (2 + 2 * (k : Int)) = (j1 : Int) := by rw [IntKind.wrap_i64]; omega
      have v3 : IntKind.i64.wrap (3 + 2 * (k : Int)) = (j2 : Int) := by rw [IntKind.wrap_i64]; omega
      have up : IntKind.u8.wrap (ps : Int) = (ps : Int) := by simp [IntKind.wrap, IntKind.bits, IntKind.signed]; omega
      have ul : IntKind.u8.wrap (p.length : Int) = (p.length : Int) := by simp [IntKind.wrap, IntKind.bits, IntKind.signed]; omega
      obtain ⟨P0, P1, -⟩ := HY.out wr hE
      have a1 := hO.cell (j := j1) (by omega)
      have b1 := hO.frozen j1
      have hO1 := hO.setN j1 ps (by omega)
      have hx1 := below_row hE (grown_cell _ o j1 (.int .u8 (ps : Int))) (by have := Ho.out; omega) hE.size
      obtain ⟨S2, S3⟩ := Htop.out _ hx1
      obtain ⟨P2, P3, -⟩ := HY.out _ hx1
      have Hstep := Lib.hid hstep
      have Hrb := Lib.hid hrb
      clear hx hy hps hp hpa hj1 hj2 hob hR hstep hrb
      by_cases hp0 : p = []
      · subst hp0
        simp only [List.length_nil] at HY Hrb
        have HY0 : Hid (∀ w2, Ext w w2 → w2.cell? (ad.add (k * 2)) = some (.int .i64 (ps : Int)) ∧ w2.cell? ⟨(ad.add (k * 2)).block, (ad.add (k * 2)).off + 1, none⟩ = some (.slice pa 0 y.pc)) := fun w2 h2 => ⟨(HY.out w2 h2).1, (HY.out w2 h2).2.1⟩
        clear P0 P1 P2 P3 HY up ul
        have up : IntKind.u8.wrap (ps : Int) = (ps : Int) := by simp [IntKind.wrap, IntKind.bits, IntKind.signed]; omega
        have ul : IntKind.u8.wrap 0 = 0 := rfl
        obtain ⟨P0, P1⟩ := HY0.out _ hE
        obtain ⟨P2, P3⟩ := HY0.out _ hx1
        have a2 := hO1.cell (j := j1) (by rw [List.length_set]; omega)
        have b2 := hO1.frozen j1
        have hO2 := hO1.setN j1 m.top (by omega)
        have hx2 := below_row hx1 (grown_cell _ o j1 (.int .u8 (m.top : Int))) (by have := Ho.out; omega) hx1.size
        rw [List.set_set] at hO2
        obtain ⟨S4, S5⟩ := Htop.out _ hx2
        obtain ⟨P4, P5⟩ := HY0.out _ hx2
        have a3 := hO2.cell (j := j2) (by rw [List.length_set]; omega)
        have b3 := hO2.frozen j2
        have hO3 := hO2.setN j2 0 (by omega)
        have hx3 := below_row hx2 (grown_cell _ o j2 (.int .u8 ((0 : Nat) : Int))) (by have := Ho.out; omega) hx2.size
        have hobe : ob = (out.set j1 (u8 m.top)).set j2 (u8 0) := by rw [Hrb.out, if_pos trivial]
        rw [← hobe] at hO3
        have HO3 := Lib.hid hO3
        have Hx3 := Lib.hid hx3
        clear hO hO1 hO2 hx2 hx1 hO3 hx3 hobe
        go_wp2_with fail
        go_loopw [5] (fun i wv => i = .int .i64 0 ∧ BO wv o ob ∧ Ext w wv) (fun _ _ => 0)
        case atStart => exact ⟨rfl, HO3.out, Hx3.out⟩
        case round =>
          clear HO3 Hx3 S0 S1 S2 S3 S4 S5 P0 P1 P2 P3 P4 P5 a1 b1 a2 b2 a3 b3 hE
          obtain ⟨rfl, hOx, hEx⟩ := hrel
          obtain ⟨S4, S5⟩ := Htop.out _ hEx
          obtain ⟨P4, P5⟩ := HY0.out _ hEx
          go_wp2_with fail
          go_roundw
          case rel => exact ⟨k + 1, _, by omega, by go_num, Hstep.out, by rw [ovw_nil]; exact hOx, hEx⟩
          case measure => simp [intOf]; omega
      · have hp1 : ¬ ((p.length : Int) = 0) := by have := List.length_pos_iff.2 hp0; omega
        have a2 := hO1.cell (j := j2) (by rw [List.length_set]; omega)
        have b2 := hO1.frozen j2
        have hO2 := hO1.setN j2 p.length (by omega)
        have hx2 := below_row hx1 (grown_cell _ o j2 (.int .u8 (p.length : Int))) (by have := Ho.out; omega) hx1.size
        have HO2 := Lib.hid hO2
        have Hx2 := Lib.hid hx2
        clear hO hO1 hO2 hx2 hx1
        go_wp2_with fail
        go_loopw [5] (fun i wv => ∃ x : Nat, x ≤ p.length ∧ i = .int .i64 x ∧ BO wv o (ovw ob ps (p.take x)) ∧ Ext w wv) (fun i _ => p.length - (intOf i).toNat)
        case atStart => exact ⟨0, by omega, rfl, by rw [List.take_zero, ovw_nil, Hrb.out, if_neg hp0]; exact HO2.out, Hx2.out⟩
        case round =>
          clear HO2 Hx2 S0 S1 S2 S3 P0 P1 P2 P3 a1 b1 a2 b2 hE
          obtain ⟨x, hxl, rfl, hOx, hEx⟩ := hrel
          have hEd := Ext.tr hEx (Ext.drew _)
          obtain ⟨S4, S5⟩ := Htop.out _ hEx
          obtain ⟨P4, P5, -⟩ := HY.out _ hEx
          obtain ⟨S6, S7⟩ := Htop.out _ hEd
          obtain ⟨P6, P7, P8⟩ := HY.out _ hEd
          by_cases hxp : x < p.length
          · obtain ⟨ad3, hpa3, h3⟩ := P8.at_ hxp
            clear P8
            subst hpa3
            obtain ⟨z, hz⟩ : ∃ z, z = ps + x := ⟨_, rfl⟩
            have hzw : IntKind.i64.wrap ((ps : Int) + (x : Int)) = (z : Int) := by rw [IntKind.wrap_i64]; omega
            have xk : (0 : Int) ≤ (x : Int) := by omega
            have xk2 : (x : Int) < (p.length : Int) := by omega
            have zk : (0 : Int) ≤ (z : Int) := by omega
            have zk2 : (z : Int) < 243 := by omega
            have hol2 : (ovw ob ps (p.take x)).length = 243 := by rw [ovw_len (by rw [List.length_take]; omega), hobl]
            have hOd := hOx.ext (Ext.drew _)
            have a3 := hOd.cell (j := z) (by omega)
            have b3 := hOd.frozen z
            have hOn := hOd.set z p[x]
            have hxn := below_row hEd (grown_cell _ o z (.int .u8 (p[x].toNat : Int))) (by have := Ho.out; omega) hEd.size
            have hst := ovw_step (l := ob) (k := ps) (p := p) (by omega) hxp
            rw [← hz] at hst
            rw [hst] at hOn
            have HOn := Lib.hid hOn
            have Hxn := Lib.hid hxn
            obtain ⟨u, hu⟩ : ∃ u, u = p[x] := ⟨_, rfl⟩
            rw [← hu] at h3 HOn Hxn
            clear hOx hOd hOn hxn hst hz hu
            go_wp2_with fail
            refine rg_start (by kernel_rfl) ?_
            refine rg_take 0 rfl (by kernel_rfl) (by kernel_rfl) (by kernel_rfl) (fun _ _ _ _ h => h) (by rfl) ⟨_, fun w' hx => by (go_simp <;> with_reducible rfl), ?_⟩
            simp only [Act.put, List.setIfInBounds_toArray, List.set_cons_zero, List.set_cons_succ]
            refine rg_take 1 rfl (by kernel_rfl) (by kernel_rfl) (by kernel_rfl) (fun _ _ _ _ h => h) (by rfl) ⟨_, fun w' hx => by (go_simp <;> with_reducible rfl), ?_⟩
            simp only [Act.put, List.setIfInBounds_toArray, List.set_cons_zero, List.set_cons_succ]
            refine rg_take 2 rfl (by kernel_rfl) (by kernel_rfl) (by kernel_rfl) (fun _ _ _ _ h => h) (by rfl) ⟨_, fun w' hx => by (go_simp <;> with_reducible rfl), ?_⟩   -- t95 := nilCheck t94
            simp only [Act.put, List.setIfInBounds_toArray, List.set_cons_zero, List.set_cons_succ]
            refine rg_take 3 rfl (by kernel_rfl) (by kernel_rfl) (by kernel_rfl) (fun _ _ _ _ h => h) (by rfl) ⟨_, fun w' hx => by (go_simp <;> with_reducible rfl), ?_⟩   -- t96 := fieldAddr 50 t95 1
            simp only [Act.put, List.setIfInBounds_toArray, List.set_cons_zero, List.set_cons_succ]
            refine rg_take 4 rfl (by kernel_rfl) (by kernel_rfl) (by kernel_rfl) (fun _ _ _ _ h => h) (by rfl) ⟨_, fun w' hx => by have hcx := hx.load S7; (go_simp <;> with_reducible rfl), ?_⟩
            simp only [Act.put, List.setIfInBounds_toArray, List.set_cons_zero, List.set_cons_succ]
            refine rg_take 5 rfl (by kernel_rfl) (by kernel_rfl) (by kernel_rfl) (fun _ _ _ _ h => h) (by rfl) ⟨_, fun w' hx => by (go_simp <;> with_reducible rfl), ?_⟩
            simp only [Act.put, List.setIfInBounds_toArray, List.set_cons_zero, List.set_cons_succ]
            refine rg_take 6 rfl (by kernel_rfl) (by kernel_rfl) (by kernel_rfl) (fun _ _ _ _ h => h) (by rfl) ⟨_, fun w' hx => by (go_simp <;> with_reducible rfl), ?_⟩   -- t99 := indexAddr 48 t97 t98
            simp only [Act.put, List.setIfInBounds_toArray, List.set_cons_zero, List.set_cons_succ]
            refine rg_take 7 rfl (by kernel_rfl) (by kernel_rfl) (by kernel_rfl) (fun _ _ _ _ h => h) (by rfl) ⟨_, fun w' hx => by (go_simp <;> with_reducible rfl), ?_⟩   -- t100 := fieldAddr 54 t99 0
            simp only [Act.put, List.setIfInBounds_toArray, List.set_cons_zero, List.set_cons_succ]
            refine rg_take 8 rfl (by kernel_rfl) (by kernel_rfl) (by kernel_rfl) (fun _ _ _ _ h => h) (by rfl) ⟨_, fun w' hx => by have hcx := hx.load P6; (go_simp <;> with_reducible rfl), ?_⟩
            simp only [Act.put, List.setIfInBounds_toArray, List.set_cons_zero, List.set_cons_succ]
            refine rg_take 9 rfl (by kernel_rfl) (by kernel_rfl) (by kernel_rfl) (fun _ _ _ _ h => h) (by rfl) ⟨_, fun w' hx => by (go_simp <;> with_reducible rfl), ?_⟩
            simp only [Act.put, List.setIfInBounds_toArray, List.set_cons_zero, List.set_cons_succ]
            refine rg_take 10 rfl (by kernel_rfl) (by kernel_rfl) (by kernel_rfl) (fun _ _ _ _ h => h) (by rfl) ⟨.int .i64 (z : Int), fun w' hx => by (go_simp <;> with_reducible rfl), ?_⟩
            simp only [Act.put, List.setIfInBounds_toArray, List.set_cons_zero, List.set_cons_succ]
            refine rg_take 11 rfl (by kernel_rfl) (by kernel_rfl) (by kernel_rfl) (fun _ _ _ _ h => h) (by rfl) ⟨_, fun w' hx => by (go_simp <;> with_reducible rfl), ?_⟩
            simp only [Act.put, List.setIfInBounds_toArray, List.set_cons_zero, List.set_cons_succ]
            refine rg_take 12 rfl (by kernel_rfl) (by kernel_rfl) (by kernel_rfl) (fun _ _ _ _ h => h) (by rfl) ⟨_, fun w' hx => by (go_simp <;> with_reducible rfl), ?_⟩   -- t105 := nilCheck t104
            simp only [Act.put, List.setIfInBounds_toArray, List.set_cons_zero, List.set_cons_succ]
            refine rg_take 13 rfl (by kernel_rfl) (by kernel_rfl) (by kernel_rfl) (fun _ _ _ _ h => h) (by rfl) ⟨_, fun w' hx => by (go_simp <;> with_reducible rfl), ?_⟩   -- t106 := fieldAddr 50 t105 1
            simp only [Act.put, List.setIfInBounds_toArray, List.set_cons_zero, List.set_cons_succ]
            refine rg_take 14 rfl (by kernel_rfl) (by kernel_rfl) (by kernel_rfl) (fun _ _ _ _ h => h) (by rfl) ⟨_, fun w' hx => by have hcx := hx.load S7; (go_simp <;> with_reducible rfl), ?_⟩
            simp only [Act.put, List.setIfInBounds_toArray, List.set_cons_zero, List.set_cons_succ]
            refine rg_take 15 rfl (by kernel_rfl) (by kernel_rfl) (by kernel_rfl) (fun _ _ _ _ h => h) (by rfl) ⟨_, fun w' hx => by (go_simp <;> with_reducible rfl), ?_⟩
            simp only [Act.put, List.setIfInBounds_toArray, List.set_cons_zero, List.set_cons_succ]
            refine rg_take 16 rfl (by kernel_rfl) (by kernel_rfl) (by kernel_rfl) (fun _ _ _ _ h => h) (by rfl) ⟨_, fun w' hx => by (go_simp <;> with_reducible rfl), ?_⟩   -- t109 := indexAddr 48 t107 t108
            simp only [Act.put, List.setIfInBounds_toArray, List.set_cons_zero, List.set_cons_succ]
            refine rg_take 17 rfl (by kernel_rfl) (by kernel_rfl) (by kernel_rfl) (fun _ _ _ _ h => h) (by rfl) ⟨_, fun w' hx => by (go_simp <;> with_reducible rfl), ?_⟩   -- t110 := fieldAddr 54 t109 1
            simp only [Act.put, List.setIfInBounds_toArray, List.set_cons_zero, List.set_cons_succ]
            refine rg_take 18 rfl (by kernel_rfl) (by kernel_rfl) (by kernel_rfl) (fun _ _ _ _ h => h) (by rfl) ⟨_, fun w' hx => by have hcx := hx.load P7; (go_simp <;> with_reducible rfl), ?_⟩
            simp only [Act.put, List.setIfInBounds_toArray, List.set_cons_zero, List.set_cons_succ]
            refine rg_take 19 rfl (by kernel_rfl) (by kernel_rfl) (by kernel_rfl) (fun _ _ _ _ h => h) (by rfl) ⟨_, fun w' hx => by (go_simp <;> with_reducible rfl), ?_⟩
            simp only [Act.put, List.setIfInBounds_toArray, List.set_cons_zero, List.set_cons_succ]
            refine rg_take 20 rfl (by kernel_rfl) (by kernel_rfl) (by kernel_rfl) (fun _ _ _ _ h => h) (by rfl) ⟨_, fun w' hx => by (go_simp <;> with_reducible rfl), ?_⟩   -- t113 := indexAddr 30 t111 t112
            simp only [Act.put, List.setIfInBounds_toArray, List.set_cons_zero, List.set_cons_succ]
            refine rg_take 21 rfl (by kernel_rfl) (by kernel_rfl) (by kernel_rfl) (fun _ _ _ _ h => h) (by rfl) ⟨_, fun w' hx => by have hcx := hx.load h3; (go_simp <;> with_reducible rfl), ?_⟩
            simp only [Act.put, List.setIfInBounds_toArray, List.set_cons_zero, List.set_cons_succ]
            refine rg_take 22 rfl (by kernel_rfl) (by kernel_rfl) (by kernel_rfl) (fun _ _ _ _ h => h) (by rfl) ⟨_, fun w' hx => by (go_simp <;> with_reducible rfl), ?_⟩   -- t115 := indexAddr 30 t93 t103
            simp only [Act.put, List.setIfInBounds_toArray, List.set_cons_zero, List.set_cons_succ]
            refine rg_store 23 rfl (by kernel_rfl) (by kernel_rfl) (by rfl) ⟨_, by (go_simp <;> rfl), ?_⟩
            simp only [Act.put]
            refine rg_done (by kernel_rfl) ?_
            go_wp2_with fail
            go_roundw
            case rel => exact ⟨x + 1, by omega, by go_num, HOn.out, Hxn.out⟩
            case measure => simp [intOf]; omega
          · obtain rfl : x = p.length := by omega
            rw [List.take_length] at hOx
            go_wp2_with fail
            go_roundw
            case rel => exact ⟨k + 1, _, by omega, by go_num, Hstep.out, hOx, hEx⟩
            case measure => simp [intOf]; omega
    · obtain rfl : k = n := by omega
      have hD := HR.out
      rw [Hmn.out] at hD
      have HD := Lib.hid hD.done
      clear hD hR
      go_wp2_with fail
      go_ret
      exact ⟨out, _, HD.out, rfl, hO.own (by have := Ho.out; omega) hol.symm (by omega), hE⟩
end Go.Proofs.Ytgfanklhihciaaa
