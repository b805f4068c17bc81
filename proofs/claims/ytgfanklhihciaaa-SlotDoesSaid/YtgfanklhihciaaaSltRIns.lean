
/- Contract: scowref06.Body.Insert. Printed by wip/tools/gen_sltrins06.py. -/

import Derived.Test.YtgfanklhihciaaaSltRDel

import Derived.Test.YtgfanklhihciaaaSltRPack

namespace Go.Proofs.Ytgfanklhihciaaa

open Go.RowKit

attribute [local go_sem] Oper.semAt_some

theorem RdB.lowB {w w' : World} {A : Option Addr} {d : List UInt8} {g : Nat} (h : RdB w A d) (hb : Below g w w') (hl : d ≠ [] → ∀ ad, A = some ad → ad.block < g) : RdB w' A d := by
  by_cases hd : d = []
  · subst hd; exact RdB.nil_ _ _
  · refine ⟨h.1, fun hx => ?_⟩
    obtain ⟨ad, e, hc⟩ := h.2 hx
    exact ⟨ad, e, fun j u hj => by rw [hb.cell (by rw [add_block]; exact hl hd ad e)]; exact hc j u hj⟩
theorem SBody.room_top (m : SBody) (c : List UInt8) : (m.room c) = if m.top < 2 + 2 * (m.l.length + 1) + c.length then m.pack else m := rfl
set_option maxRecDepth 100000 in
set_option maxHeartbeats 1000000 in
theorem ref_sinsert (g : Nat) (A : Option Addr) (c : Nat) (L : List ScV) (m : SBody) (i : Int) (C : Option Addr) (p : List UInt8) (pc : Nat) (w : World) (h : MAt w g A c L m) (hC : RdB w C p) (hlow : p ≠ [] → ∀ ad, C = some ad → ad.block < g) (hpl : p.length ≤ 1000000) :
    Calls Try.prog 23 #[.pointer (some ⟨g, 0, none⟩), .int .i64 i, .slice C p.length pc] w (RDone g w (m.insert i p).1 (m.insert i p).2) := by
  have hn := h.inv.n
  have hlen := h.len
  have hl := h.list
  have Hh := Lib.hid h
  obtain ⟨n, hnn⟩ : ∃ n, n = L.length := ⟨_, rfl⟩
  rw [← hnn] at hl
  have Hn := Lib.hid hnn
  have hmn : n = m.l.length := by omega
  have Hmn := Lib.hid hmn
  have hn120 : n ≤ 120 := by omega
  have hgl := lt_of_heap h.row
  by_cases h0 : i < 0
  · have he : m.insert i p = (7, m) := by unfold SBody.insert; rw [if_pos (by omega)]
    rw [he]
    clear h hnn hlen hmn
    go_enter Try.func23, Try.ntmps23
    go_wp2
    go_ret
    exact ⟨rfl, ⟨A, c, L, Hh.out⟩, Below.refl _ _⟩
  obtain ⟨i, rfl⟩ : ∃ j : Nat, i = j := ⟨i.toNat, by omega⟩
  by_cases h1 : n < i
  · have he : m.insert (i : Int) p = (7, m) := by unfold SBody.insert; rw [if_pos (by omega)]
    have h1i : (n : Int) < (i : Int) := by omega
    rw [he]
    clear h hnn hlen hmn
    go_enter Try.func23, Try.ntmps23
    go_wp2
    go_ret
    exact ⟨rfl, ⟨A, c, L, Hh.out⟩, Below.refl _ _⟩
  have h1i : (i : Int) ≤ (n : Int) := by omega
  have i0 : (0 : Int) ≤ (i : Int) := by omega
  by_cases h2 : 78 < p.length
  · have he : m.insert (i : Int) p = (1, m) := by unfold SBody.insert; rw [if_neg (by omega), if_pos h2]
    have h2i : (78 : Int) < (p.length : Int) := by omega
    rw [he]
    clear h hnn hlen hmn
    go_enter Try.func23, Try.ntmps23
    go_wp2
    go_ret
    exact ⟨rfl, ⟨A, c, L, Hh.out⟩, Below.refl _ _⟩
  have h2i : (p.length : Int) ≤ 78 := by omega
  have hF := ref_sfree g A c L m w h
  have wp2 : IntKind.i64.wrap (2 + (p.length : Int)) = 2 + (p.length : Int) := by rw [IntKind.wrap_i64]; omega
  by_cases h3 : m.free < 2 + p.length
  · have he : m.insert (i : Int) p = (60, m) := by unfold SBody.insert; rw [if_neg (by omega), if_neg h2, if_pos h3]
    have h3i : (m.free : Int) < 2 + (p.length : Int) := by omega
    rw [he]
    clear h hnn hlen hmn
    go_enter Try.func23, Try.ntmps23
    go_wp2_with (go_at_call 26; refine hF.mono ?_; clear hF; rintro e1 w1 ⟨rfl, hx1⟩)
    go_ret
    exact ⟨rfl, ⟨A, c, L, Hh.out.ext hx1⟩, Below.mono hx1 (by omega)⟩
  have h3i : 2 + (p.length : Int) ≤ (m.free : Int) := by omega
  have he : m.insert (i : Int) p = (0, (m.room p).lay i p) := by unfold SBody.insert; rw [if_neg (by omega), if_neg h2, if_neg h3]; rfl
  have hfit := SBody.room_fits (m := m) (c := p) (by omega)
  have hrl := m.room_len p
  have hri := SBody.room_inv h.inv p
  have hli := SBody.lay_inv hri (i := i) (c := p) (by omega) (by omega) (by omega)
  have hrt := m.room_top p
  rw [he]
  show Calls _ _ _ _ (RDone g w 0 ((m.room p).lay i p))
  have htop := h.inv.top
  have htd := h.inv.dirTop
  unfold SBody.dir at htd
  obtain ⟨m1, hm1⟩ : ∃ m1, m1 = m.room p := ⟨_, rfl⟩
  rw [← hm1] at hfit hrl hri hli hrt ⊢
  have hlay : m1.lay i p = ⟨m1.top - p.length, m1.l.take i ++ ⟨m1.top - p.length, p⟩ :: m1.l.drop i⟩ := rfl
  obtain ⟨m2, hm2⟩ : ∃ m2, m2 = m1.lay i p := ⟨_, rfl⟩
  rw [← hm2] at hli hlay ⊢
  obtain ⟨t2, ht2⟩ : ∃ t2, t2 = m1.top - p.length := ⟨_, rfl⟩
  rw [← ht2] at hlay
  have hm1t := hri.top
  have tw : IntKind.i64.wrap ((m1.top : Int) - (p.length : Int)) = (t2 : Int) := by rw [IntKind.wrap_i64]; omega
  have v4 : IntKind.i64.wrap ((m.top : Int) - 2) = (m.top : Int) - 2 := by rw [IntKind.wrap_i64]; omega
  have v10 : IntKind.i64.wrap ((n : Int) + 1) = (n : Int) + 1 := by rw [IntKind.wrap_i64]; omega
  have v11 : IntKind.i64.wrap (2 * ((n : Int) + 1)) = 2 * ((n : Int) + 1) := by rw [IntKind.wrap_i64]; omega
  have v12 : IntKind.i64.wrap ((m.top : Int) - 2 - 2 * ((n : Int) + 1)) = (m.top : Int) - 2 - 2 * ((n : Int) + 1) := by rw [IntKind.wrap_i64]; omega
  have Hlay := Lib.hid hlay
  have Hli := Lib.hid hli
  have Hrt := Lib.hid hrt
  have hm1n : m1.l.length = n := by omega
  have HC := Lib.hid hC
  have Hlow := Lib.hid hlow
  clear h hnn hlen hmn hC hlow hlay hli hrt hm2 hm1 ht2 he hri hfit hrl hl htd
  go_enter Try.func23, Try.ntmps23
  have hl := Hh.out.list
  rw [← Hn.out] at hl
  go_wp2_with (go_at_call 26; refine hF.mono ?_; clear hF; rintro e1 w1 ⟨rfl, hx1⟩; refine Hid.out ?_)
  have HM1 := Lib.hid (Hh.out.ext hx1)
  have T0 := (HM1.out.ext (Ext.drew w1)).top
  have T1 := (HM1.out.ext (Ext.drew w1)).list
  rw [← Hn.out] at T1
  have hgl1 : g < w1.heap.size := lt_of_heap HM1.out.row
  have hb1 : Below g w w1.drew := Below.mono (Ext.tr hx1 (Ext.drew w1)) (by omega)
  clear hl
  refine Lib.hid ?_
  go_wp2_with fail
  refine rg_start (by kernel_rfl) ?_
  refine rg_take 0 rfl (by kernel_rfl) (by kernel_rfl) (by kernel_rfl) (fun _ _ _ _ h => h) (by rfl) ⟨_, fun w' hx => by (go_simp <;> with_reducible rfl), ?_⟩
  simp only [Act.put, List.setIfInBounds_toArray, List.set_cons_zero, List.set_cons_succ]
  refine rg_take 1 rfl (by kernel_rfl) (by kernel_rfl) (by kernel_rfl) (fun _ _ _ _ h => h) (by rfl) ⟨_, fun w' hx => by (go_simp <;> with_reducible rfl), ?_⟩   -- t32 := nilCheck t31
  simp only [Act.put, List.setIfInBounds_toArray, List.set_cons_zero, List.set_cons_succ]
  refine rg_take 2 rfl (by kernel_rfl) (by kernel_rfl) (by kernel_rfl) (fun _ _ _ _ h => h) (by rfl) ⟨_, fun w' hx => by (go_simp <;> with_reducible rfl), ?_⟩   -- t33 := fieldAddr 50 t32 0
  simp only [Act.put, List.setIfInBounds_toArray, List.set_cons_zero, List.set_cons_succ]
  refine rg_take 3 rfl (by kernel_rfl) (by kernel_rfl) (by kernel_rfl) (fun _ _ _ _ h => h) (by rfl) ⟨_, fun w' hx => by have hcx := hx.load T0; (go_simp <;> with_reducible rfl), ?_⟩
  simp only [Act.put, List.setIfInBounds_toArray, List.set_cons_zero, List.set_cons_succ]
  refine rg_take 4 rfl (by kernel_rfl) (by kernel_rfl) (by kernel_rfl) (fun _ _ _ _ h => h) (by rfl) ⟨.int .i64 ((m.top : Int) - 2), fun w' hx => by (go_simp <;> with_reducible rfl), ?_⟩
  simp only [Act.put, List.setIfInBounds_toArray, List.set_cons_zero, List.set_cons_succ]
  refine rg_take 5 rfl (by kernel_rfl) (by kernel_rfl) (by kernel_rfl) (fun _ _ _ _ h => h) (by rfl) ⟨_, fun w' hx => by (go_simp <;> with_reducible rfl), ?_⟩
  simp only [Act.put, List.setIfInBounds_toArray, List.set_cons_zero, List.set_cons_succ]
  refine rg_take 6 rfl (by kernel_rfl) (by kernel_rfl) (by kernel_rfl) (fun _ _ _ _ h => h) (by rfl) ⟨_, fun w' hx => by (go_simp <;> with_reducible rfl), ?_⟩   -- t37 := nilCheck t36
  simp only [Act.put, List.setIfInBounds_toArray, List.set_cons_zero, List.set_cons_succ]
  refine rg_take 7 rfl (by kernel_rfl) (by kernel_rfl) (by kernel_rfl) (fun _ _ _ _ h => h) (by rfl) ⟨_, fun w' hx => by (go_simp <;> with_reducible rfl), ?_⟩   -- t38 := fieldAddr 50 t37 1
  simp only [Act.put, List.setIfInBounds_toArray, List.set_cons_zero, List.set_cons_succ]
  refine rg_take 8 rfl (by kernel_rfl) (by kernel_rfl) (by kernel_rfl) (fun _ _ _ _ h => h) (by rfl) ⟨_, fun w' hx => by have hcx := hx.load T1; (go_simp <;> with_reducible rfl), ?_⟩
  simp only [Act.put, List.setIfInBounds_toArray, List.set_cons_zero, List.set_cons_succ]
  refine rg_take 9 rfl (by kernel_rfl) (by kernel_rfl) (by kernel_rfl) (fun _ _ _ _ h => h) (by rfl) ⟨_, fun w' hx => by (go_simp <;> with_reducible rfl), ?_⟩   -- t40 := len(t39)
  simp only [Act.put, List.setIfInBounds_toArray, List.set_cons_zero, List.set_cons_succ]
  refine rg_take 10 rfl (by kernel_rfl) (by kernel_rfl) (by kernel_rfl) (fun _ _ _ _ h => h) (by rfl) ⟨.int .i64 ((n : Int) + 1), fun w' hx => by (go_simp <;> with_reducible rfl), ?_⟩
  simp only [Act.put, List.setIfInBounds_toArray, List.set_cons_zero, List.set_cons_succ]
  refine rg_take 11 rfl (by kernel_rfl) (by kernel_rfl) (by kernel_rfl) (fun _ _ _ _ h => h) (by rfl) ⟨.int .i64 (2 * ((n : Int) + 1)), fun w' hx => by (go_simp <;> with_reducible rfl), ?_⟩
  simp only [Act.put, List.setIfInBounds_toArray, List.set_cons_zero, List.set_cons_succ]
  refine rg_take 12 rfl (by kernel_rfl) (by kernel_rfl) (by kernel_rfl) (fun _ _ _ _ h => h) (by rfl) ⟨.int .i64 ((m.top : Int) - 2 - 2 * ((n : Int) + 1)), fun w' hx => by (go_simp <;> with_reducible rfl), ?_⟩
  simp only [Act.put, List.setIfInBounds_toArray, List.set_cons_zero, List.set_cons_succ]
  refine rg_take 13 rfl (by kernel_rfl) (by kernel_rfl) (by kernel_rfl) (fun _ _ _ _ h => h) (by rfl) ⟨_, fun w' hx => by (go_simp <;> with_reducible rfl), ?_⟩
  simp only [Act.put, List.setIfInBounds_toArray, List.set_cons_zero, List.set_cons_succ]
  refine rg_take 14 rfl (by kernel_rfl) (by kernel_rfl) (by kernel_rfl) (fun _ _ _ _ h => h) (by rfl) ⟨_, fun w' hx => by (go_simp <;> with_reducible rfl), ?_⟩   -- t45 := len(t44)
  simp only [Act.put, List.setIfInBounds_toArray, List.set_cons_zero, List.set_cons_succ]
  refine rg_take 15 rfl (by kernel_rfl) (by kernel_rfl) (by kernel_rfl) (fun _ _ _ _ h => h) (by rfl) ⟨.bool (decide ((m.top : Int) - 2 - 2 * ((n : Int) + 1) < (p.length : Int))), fun w' hx => by (go_simp; try rfl), ?_⟩
  simp only [Act.put, List.setIfInBounds_toArray, List.set_cons_zero, List.set_cons_succ]
  refine rg_done (by kernel_rfl) ?_
  by_cases hpk : m.top < 2 + 2 * (n + 1) + p.length
  · have hpd : decide ((m.top : Int) - 2 - 2 * ((n : Int) + 1) < (p.length : Int)) = true := by simp; omega
    have hm1 : m1 = m.pack := by rw [Hrt.out, if_pos (by have := Hmn.out; omega)]
    have hP := ref_spack g A c L m w1.drew (HM1.out.ext (Ext.drew w1))
    rw [hpd]
    rw [← hm1] at hP
    clear hpd hm1 T0 T1
    go_wp2_with (go_at_call 25; refine hP.mono ?_; clear hP; rintro e2 w2 ⟨rfl, ⟨L1, hM2⟩, hb2⟩; refine Hid.out ?_)
    have hbW : Below g w w2 := Below.trans hb1 hb2
    have hgl2 : g < w2.heap.size := lt_of_heap hM2.row
    clear hb1 hb2 HM1 hx1
    refine Lib.hid ?_
    have hln1 : L1.length = n := by rw [hM2.len, hm1n]
    have hMc := hM2.mc
    have c0 := hMc.top
    have f0 := hMc.frozen 0
    have hMt := hMc.setTop t2
    have h3l := hMt.list
    rw [hln1] at h3l
    have hnc1 := hM2.own.nc
    have hcc : i ≤ c := by omega
    have hbt : Below g w (w2.setCell ⟨g, 0, none⟩ (.int .i64 (t2 : Int))) := hbW.grown (grown_cell _ g 0 _) (by omega) (fun k e => by injection e with e; omega)
    have hrd1 : Rd (w2.setCell ⟨g, 0, none⟩ (.int .i64 (t2 : Int))) 2 A i (scs (L1.take i)) := by
      have := hMt.own.rd.headS (m := i) (by omega)
      rwa [scs_take] at this
    obtain ⟨m7, hm7⟩ : ∃ m7, m7 = n - i := ⟨_, rfl⟩
    obtain ⟨A7, hA7⟩ : ∃ A7, A7 = (if c = i then A else A.map (·.add (i * 2))) := ⟨_, rfl⟩
    have hrd7 : Rd (w2.setCell ⟨g, 0, none⟩ (.int .i64 (t2 : Int))) 2 A7 m7 (scs (L1.drop i)) := by
      have := hMt.own.rd.cutS (k := i) (m := L1.length) (by omega) (Nat.le_refl _) (c := c) hnc1
      rw [← hA7, hln1, ← hm7, ← hln1, scs_take, List.take_length, scs_drop] at this
      exact this
    have Hm7 := Lib.hid hm7
    have HA7 := Lib.hid hA7
    have Hrd1 := Lib.hid hrd1
    have Hrd7 := Lib.hid hrd7
    have HMt := Lib.hid hMt
    have Hbt := Lib.hid hbt
    have HL1 := Lib.hid hM2.l
    have Hln1 := Lib.hid hln1
    clear hMc hMt hm7 hA7 hrd1 hrd7 hbt hM2 hbW hln1
    go_wp2_with (first | (refine wpList_sliceH (by rfl) (.tmp 63) (.tmp 64) 48 rfl elemC A n c rfl i rfl hcc ?_) | (refine wpList_app (by rfl) (.tmp 59) (.tmp 65) 48 rfl elemC (w2.setCell ⟨g, 0, none⟩ (.int .i64 (t2 : Int))).heap.size _ 0 0 [] rfl A i c (scs (L1.take i)) rfl i (by omega) (scs (L1.take i)) rfl (Own.none_ _ _ _ _ _) Hrd1.out (scs_one_cell _) (by omega) (by omega) (Nat.le_refl _) ?_; intro A6 c6 w6 ho6 hg6 hr6; refine Hid.out ?_))
    obtain ⟨w3, hw3⟩ : ∃ w3, w3 = w2.setCell ⟨g, 0, none⟩ (.int .i64 (t2 : Int)) := ⟨_, rfl⟩
    rw [← hw3] at HMt Hbt Hrd1 Hrd7 ho6 hg6
    have hE6 : Ext w3 w6 := grown_none (by simpa [ownRow] using hg6)
    have hg3 := lt_of_heap HMt.out.row
    have hM6 := HMt.out.ext hE6
    have hb6 : Below g w w6 := Below.trans Hbt.out (Below.mono hE6 (by omega))
    have T4 := (hM6.ext (Ext.drew w6)).top
    have Hrp : Hid (RdB w6.drew C p) := HC.out.lowB (Below.drew hb6) Hlow.out
    have Ho6 := Lib.hid ho6
    have hs6 := hE6.size
    clear hg6 hr6 h3l c0 f0 hw3 hM6 ho6 hgl2
    refine Lib.hid ?_
    go_wp2_with fail
    refine rg_start (by kernel_rfl) ?_
    refine rg_take 0 rfl (by kernel_rfl) (by kernel_rfl) (by kernel_rfl) (fun _ _ _ _ h => h) (by rfl) ⟨_, fun w' hx => by (go_simp <;> with_reducible rfl), ?_⟩
    simp only [Act.put, List.setIfInBounds_toArray, List.set_cons_zero, List.set_cons_succ]
    refine rg_take 1 rfl (by kernel_rfl) (by kernel_rfl) (by kernel_rfl) (fun _ _ _ _ h => h) (by rfl) ⟨_, fun w' hx => by (go_simp <;> with_reducible rfl), ?_⟩
    simp only [Act.put, List.setIfInBounds_toArray, List.set_cons_zero, List.set_cons_succ]
    refine rg_take 2 rfl (by kernel_rfl) (by kernel_rfl) (by kernel_rfl) (fun _ _ _ _ h => h) (by rfl) ⟨_, fun w' hx => by (go_simp <;> with_reducible rfl), ?_⟩   -- t69 := nilCheck t68
    simp only [Act.put, List.setIfInBounds_toArray, List.set_cons_zero, List.set_cons_succ]
    refine rg_take 3 rfl (by kernel_rfl) (by kernel_rfl) (by kernel_rfl) (fun _ _ _ _ h => h) (by rfl) ⟨_, fun w' hx => by (go_simp <;> with_reducible rfl), ?_⟩   -- t70 := fieldAddr 50 t69 0
    simp only [Act.put, List.setIfInBounds_toArray, List.set_cons_zero, List.set_cons_succ]
    refine rg_take 4 rfl (by kernel_rfl) (by kernel_rfl) (by kernel_rfl) (fun _ _ _ _ h => h) (by rfl) ⟨_, fun w' hx => by have hcx := hx.load T4; (go_simp <;> with_reducible rfl), ?_⟩
    simp only [Act.put, List.setIfInBounds_toArray, List.set_cons_zero, List.set_cons_succ]
    refine rg_take 6 rfl (by kernel_rfl) (by kernel_rfl) (by kernel_rfl) (fun _ _ _ _ h => h) (by rfl) ⟨_, fun w' hx => by (go_simp <;> with_reducible rfl), ?_⟩
    simp only [Act.put, List.setIfInBounds_toArray, List.set_cons_zero, List.set_cons_succ]
    refine rg_make 5 rfl (by kernel_rfl) (by rfl) ⟨_, _, by (go_simp <;> first | exact ⟨rfl, rfl⟩ | rfl), Ext.alloc _ _, ?_⟩
    simp only [Act.put, List.setIfInBounds_toArray, List.set_cons_zero, List.set_cons_succ]
    have hW0 : Ext w6.drew (w6.drew.alloc (.cells #[] 5)) := Ext.alloc _ _
    refine rg_one 7 rfl (by kernel_rfl) (by rfl) (wp_app (.tmp 72) (.tmp 73) 30 rfl elemB w6.heap.size _ 0 0 [] rfl C p.length pc (bvs p) rfl p.length (by omega) (bvs p) rfl (Own.none_ _ _ _ _ _) (Hrp.out.below hW0) (bvs_one _) (by omega) (by omega) hW0.size (fun A8 c8 w8 ho8 hg8 hr8 => ⟨.inl (grown_none (by simpa [ownRow] using hg8)), ?_⟩))
    have hE8 : Ext w6 w8 := Ext.tr (Ext.drew w6) (Ext.tr hW0 (grown_none (by simpa [ownRow] using hg8)))
    obtain ⟨q, hq⟩ : ∃ q : ScV, q = ⟨A8, c8, ⟨t2, p⟩⟩ := ⟨_, rfl⟩
    have Hqc : Hid ((#[.int .i64 (t2 : Int), .slice A8 p.length c8] : Array Value) = q.cells) := by rw [Hid, hq]; rfl
    have hoq8 : Own w8 (g + 1) 5 1 q.pa q.x.p.length q.pc (bvs q.x.p) := by rw [hq]; exact ho8.mono (by omega)
    have Hq := Lib.hid hq
    have Ho8 := Lib.hid (Ho6.out.below hE8)
    clear ho8 hg8 hr8 hq
    simp only [Act.put, List.setIfInBounds_toArray, List.set_cons_zero, List.set_cons_succ]
    refine rg_take 8 rfl (by kernel_rfl) (by kernel_rfl) (by kernel_rfl) (fun _ _ _ _ h => h) (by rfl) ⟨.agg q.cells, fun w' hx => by rw [← Hqc.out]; (go_simp <;> with_reducible rfl), ?_⟩
    simp only [Act.put, List.setIfInBounds_toArray, List.set_cons_zero, List.set_cons_succ]
    refine rg_make 9 rfl (by kernel_rfl) (by rfl) ⟨_, _, ex_buildOne 48 (.tmp 75) rfl elemC q.cells rfl rfl (by decide), Ext.alloc _ _, ?_⟩
    have hE9 : Ext w8 (w8.alloc (.cells q.cells 54)) := Ext.alloc _ _
    have hr9 : Rd (w8.alloc (.cells q.cells 54)) 2 (some ⟨w8.heap.size, 0, none⟩) 1 (scs [q]) := by
      refine ⟨rfl, fun _ => ⟨_, rfl, fun j u hj => ?_⟩⟩
      rw [Addr.add_lit, cell_of_row _ _ _ _ _ _ (heap_alloc_new w8 _)]
      simpa [scs] using hj
    simp only [Act.put, List.setIfInBounds_toArray, List.set_cons_zero, List.set_cons_succ]
    refine rg_last 10 rfl (by kernel_rfl) (by kernel_rfl) (by rfl) fun K hK => wp_app (.tmp 67) (.tmp 76) 48 rfl elemC w3.heap.size A6 i c6 (scs (L1.take i)) rfl (some ⟨w8.heap.size, 0, none⟩) 1 1 (scs [q]) rfl (i + 1) rfl (scs (L1.take i ++ [q])) (scs_app _ _) (Ho8.out.below hE9) hr9 (scs_one_cell _) (by omega) (by omega) (Nat.le_trans hs6 (Nat.le_trans hE8.size hE9.size)) fun A10 c10 w10 ho10 hg10 hr10 => hK _ _ ?_
    have hE10 : Ext w3 w10 := Below.trans (Ext.tr hE6 (Ext.tr hE8 hE9)) ((Ho8.out.below hE9).low hg10 (Nat.le_refl _) (Nat.le_trans hs6 (Nat.le_trans hE8.size hE9.size)))
    have hoq : Own w10 (g + 1) 5 1 q.pa q.x.p.length q.pc (bvs q.x.p) := by
      refine (hoq8.below hE9).kept hg10 fun k hk e2 => ?_
      obtain ⟨_, cur1, r1⟩ := (hoq8.below hE9).row_ge hk
      obtain ⟨_, cur2, r2⟩ := (Ho8.out.below hE9).row_ge e2.symm
      rw [r1] at r2
      injection r2 with r2
      injection r2 with _ r2
      exact absurd r2 (by decide)
    clear hg10 hr10 hr9 hoq8 hE8 hE9
    simp only [Act.put, List.setIfInBounds_toArray, List.set_cons_zero, List.set_cons_succ]
    refine rg_take 11 rfl (by kernel_rfl) (by kernel_rfl) (by kernel_rfl) (fun _ _ _ _ h => h) (by rfl) ⟨_, fun w' hx => by (go_simp <;> with_reducible rfl), ?_⟩
    simp only [Act.put, List.setIfInBounds_toArray, List.set_cons_zero, List.set_cons_succ]
    refine rg_done (by kernel_rfl) ?_
    obtain ⟨L2, hL2⟩ : ∃ L2, L2 = L1.take i ++ [q] ++ L1.drop i := ⟨_, rfl⟩
    have hM10 := HMt.out.ext hE10
    have h10l := hM10.list
    rw [Hln1.out] at h10l
    have hr7 := Hrd7.out.below hE10
    have hs10 := hE10.size
    have HL2 := Lib.hid hL2
    have hM10l := Lib.hid hM10
    have HE10 := Lib.hid hE10
    have Hoq := Lib.hid hoq
    clear hL2 hM10 hE10 hE6 hb6 T4 hoq
    go_wp2_with (first | (refine wpList_sliceL (by rfl) (.tmp 83) (.tmp 84) 48 rfl elemC A n c rfl i rfl (by omega) A7 HA7.out m7 _ Hm7.out rfl ?_) | (refine wpList_app (by rfl) (.tmp 79) (.tmp 85) 48 rfl elemC w3.heap.size A10 (i + 1) c10 (scs (L1.take i ++ [q])) rfl A7 m7 (c - i) (scs (L1.drop i)) rfl (i + 1 + m7) rfl (scs L2) (by rw [HL2.out, scs_app]) ho10 hr7 (scs_one_cell _) (by have := Hm7.out; omega) (by have := Hm7.out; omega) hs10 ?_; intro A12 c12 w12 ho12 hg12 hr12; refine Hid.out ?_))
    have hE12 : Ext w3 w12 := Below.trans HE10.out (ho10.low hg12 (Nat.le_refl _) hs10)
    have hE1012 : Ext w10 w12 ∨ True := .inr trivial
    have hlen : i + 1 + m7 = L2.length := by rw [HL2.out]; simp only [List.length_append, List.length_take, List.length_drop, List.length_cons, List.length_nil]; have := Hm7.out; have := Hln1.out; omega
    rw [hlen] at ho12 ⊢
    have hM12 := HMt.out.ext hE12
    have h12l := hM12.list
    have f12 := hM12.frozen 1
    have hoq12 : Own w12 (g + 1) 5 1 q.pa q.x.p.length q.pc (bvs q.x.p) := by
      refine Hoq.out.kept hg12 fun k hk e2 => ?_
      obtain ⟨_, cur1, r1⟩ := Hoq.out.row_ge hk
      obtain ⟨_, cur2, r2⟩ := ho10.row_ge e2.symm
      rw [r1] at r2
      injection r2 with r2
      injection r2 with _ r2
      exact absurd r2 (by decide)
    have hMs := hM12.setList (L' := L2) (ho12.mono (by omega)) (fun e he => by
      rw [HL2.out] at he
      rcases List.mem_append.1 he with he | he
      · rcases List.mem_append.1 he with he | he
        · exact hM12.each e (List.mem_of_mem_take he)
        · simp only [List.mem_singleton] at he
          subst he
          exact hoq12
      · exact hM12.each e (List.mem_of_mem_drop he))
    have hb12 : Below g w (w12.setCell ⟨g, 1, none⟩ (.slice A12 L2.length c12)) := (Below.trans Hbt.out (Below.mono hE12 (by omega))).grown (grown_cell _ g 1 _) (by have := hE12.size; omega) (fun k e => by injection e with e; omega)
    have HMs := Lib.hid hMs
    have Hb12 := Lib.hid hb12
    have hqx : q.x = ⟨t2, p⟩ := by rw [Hq.out]
    clear ho12 hg12 hr12 ho10 hr7 hM12 hMs hb12 h10l hlen hoq12 hM10l
    refine Lib.hid ?_
    go_wp2_with fail
    go_ret
    refine ⟨rfl, ⟨A12, c12, L2, ?_, HMs.out.own, HMs.out.each, ?_, Hli.out⟩, Hb12.out⟩
    · rw [Hlay.out]; exact HMs.out.row
    · rw [Hlay.out, HL2.out, List.map_append, List.map_append, List.map_take, List.map_drop, HL1.out]
      simp [hqx]
  · have hpd : decide ((m.top : Int) - 2 - 2 * ((n : Int) + 1) < (p.length : Int)) = false := by simp; omega
    have hm1 : m1 = m := by rw [Hrt.out, if_neg (by have := Hmn.out; omega)]
    obtain ⟨w2, hw2⟩ : ∃ w2, w2 = w1.drew := ⟨_, rfl⟩
    obtain ⟨L1, hL1⟩ : ∃ L1, L1 = L := ⟨_, rfl⟩
    have hM2 : MAt w2 g A c L1 m1 := by rw [hw2, hL1, hm1]; exact HM1.out.ext (Ext.drew w1)
    have hbW : Below g w w2 := by rw [hw2]; exact hb1
    have hgl2 : g < w2.heap.size := lt_of_heap hM2.row
    rw [hpd, ← hw2]
    clear hpd hm1 T0 T1 hb1 HM1 hx1 hw2 hL1
    have hln1 : L1.length = n := by rw [hM2.len, hm1n]
    have hMc := hM2.mc
    have c0 := hMc.top
    have f0 := hMc.frozen 0
    have hMt := hMc.setTop t2
    have h3l := hMt.list
    rw [hln1] at h3l
    have hnc1 := hM2.own.nc
    have hcc : i ≤ c := by omega
    have hbt : Below g w (w2.setCell ⟨g, 0, none⟩ (.int .i64 (t2 : Int))) := hbW.grown (grown_cell _ g 0 _) (by omega) (fun k e => by injection e with e; omega)
    have hrd1 : Rd (w2.setCell ⟨g, 0, none⟩ (.int .i64 (t2 : Int))) 2 A i (scs (L1.take i)) := by
      have := hMt.own.rd.headS (m := i) (by omega)
      rwa [scs_take] at this
    obtain ⟨m7, hm7⟩ : ∃ m7, m7 = n - i := ⟨_, rfl⟩
    obtain ⟨A7, hA7⟩ : ∃ A7, A7 = (if c = i then A else A.map (·.add (i * 2))) := ⟨_, rfl⟩
    have hrd7 : Rd (w2.setCell ⟨g, 0, none⟩ (.int .i64 (t2 : Int))) 2 A7 m7 (scs (L1.drop i)) := by
      have := hMt.own.rd.cutS (k := i) (m := L1.length) (by omega) (Nat.le_refl _) (c := c) hnc1
      rw [← hA7, hln1, ← hm7, ← hln1, scs_take, List.take_length, scs_drop] at this
      exact this
    have Hm7 := Lib.hid hm7
    have HA7 := Lib.hid hA7
    have Hrd1 := Lib.hid hrd1
    have Hrd7 := Lib.hid hrd7
    have HMt := Lib.hid hMt
    have Hbt := Lib.hid hbt
    have HL1 := Lib.hid hM2.l
    have Hln1 := Lib.hid hln1
    clear hMc hMt hm7 hA7 hrd1 hrd7 hbt hM2 hbW hln1
    go_wp2_with (first | (refine wpList_sliceH (by rfl) (.tmp 63) (.tmp 64) 48 rfl elemC A n c rfl i rfl hcc ?_) | (refine wpList_app (by rfl) (.tmp 59) (.tmp 65) 48 rfl elemC (w2.setCell ⟨g, 0, none⟩ (.int .i64 (t2 : Int))).heap.size _ 0 0 [] rfl A i c (scs (L1.take i)) rfl i (by omega) (scs (L1.take i)) rfl (Own.none_ _ _ _ _ _) Hrd1.out (scs_one_cell _) (by omega) (by omega) (Nat.le_refl _) ?_; intro A6 c6 w6 ho6 hg6 hr6; refine Hid.out ?_))
    obtain ⟨w3, hw3⟩ : ∃ w3, w3 = w2.setCell ⟨g, 0, none⟩ (.int .i64 (t2 : Int)) := ⟨_, rfl⟩
    rw [← hw3] at HMt Hbt Hrd1 Hrd7 ho6 hg6
    have hE6 : Ext w3 w6 := grown_none (by simpa [ownRow] using hg6)
    have hg3 := lt_of_heap HMt.out.row
    have hM6 := HMt.out.ext hE6
    have hb6 : Below g w w6 := Below.trans Hbt.out (Below.mono hE6 (by omega))
    have T4 := (hM6.ext (Ext.drew w6)).top
    have Hrp : Hid (RdB w6.drew C p) := HC.out.lowB (Below.drew hb6) Hlow.out
    have Ho6 := Lib.hid ho6
    have hs6 := hE6.size
    clear hg6 hr6 h3l c0 f0 hw3 hM6 ho6 hgl2
    refine Lib.hid ?_
    go_wp2_with fail
    refine rg_start (by kernel_rfl) ?_
    refine rg_take 0 rfl (by kernel_rfl) (by kernel_rfl) (by kernel_rfl) (fun _ _ _ _ h => h) (by rfl) ⟨_, fun w' hx => by (go_simp <;> with_reducible rfl), ?_⟩
    simp only [Act.put, List.setIfInBounds_toArray, List.set_cons_zero, List.set_cons_succ]
    refine rg_take 1 rfl (by kernel_rfl) (by kernel_rfl) (by kernel_rfl) (fun _ _ _ _ h => h) (by rfl) ⟨_, fun w' hx => by (go_simp <;> with_reducible rfl), ?_⟩
    simp only [Act.put, List.setIfInBounds_toArray, List.set_cons_zero, List.set_cons_succ]
    refine rg_take 2 rfl (by kernel_rfl) (by kernel_rfl) (by kernel_rfl) (fun _ _ _ _ h => h) (by rfl) ⟨_, fun w' hx => by (go_simp <;> with_reducible rfl), ?_⟩   -- t69 := nilCheck t68
    simp only [Act.put, List.setIfInBounds_toArray, List.set_cons_zero, List.set_cons_succ]
    refine rg_take 3 rfl (by kernel_rfl) (by kernel_rfl) (by kernel_rfl) (fun _ _ _ _ h => h) (by rfl) ⟨_, fun w' hx => by (go_simp <;> with_reducible rfl), ?_⟩   -- t70 := fieldAddr 50 t69 0
    simp only [Act.put, List.setIfInBounds_toArray, List.set_cons_zero, List.set_cons_succ]
    refine rg_take 4 rfl (by kernel_rfl) (by kernel_rfl) (by kernel_rfl) (fun _ _ _ _ h => h) (by rfl) ⟨_, fun w' hx => by have hcx := hx.load T4; (go_simp <;> with_reducible rfl), ?_⟩
    simp only [Act.put, List.setIfInBounds_toArray, List.set_cons_zero, List.set_cons_succ]
    refine rg_take 6 rfl (by kernel_rfl) (by kernel_rfl) (by kernel_rfl) (fun _ _ _ _ h => h) (by rfl) ⟨_, fun w' hx => by (go_simp <;> with_reducible rfl), ?_⟩
    simp only [Act.put, List.setIfInBounds_toArray, List.set_cons_zero, List.set_cons_succ]
    refine rg_make 5 rfl (by kernel_rfl) (by rfl) ⟨_, _, by (go_simp <;> first | exact ⟨rfl, rfl⟩ | rfl), Ext.alloc _ _, ?_⟩
    simp only [Act.put, List.setIfInBounds_toArray, List.set_cons_zero, List.set_cons_succ]
    have hW0 : Ext w6.drew (w6.drew.alloc (.cells #[] 5)) := Ext.alloc _ _
    refine rg_one 7 rfl (by kernel_rfl) (by rfl) (wp_app (.tmp 72) (.tmp 73) 30 rfl elemB w6.heap.size _ 0 0 [] rfl C p.length pc (bvs p) rfl p.length (by omega) (bvs p) rfl (Own.none_ _ _ _ _ _) (Hrp.out.below hW0) (bvs_one _) (by omega) (by omega) hW0.size (fun A8 c8 w8 ho8 hg8 hr8 => ⟨.inl (grown_none (by simpa [ownRow] using hg8)), ?_⟩))
    have hE8 : Ext w6 w8 := Ext.tr (Ext.drew w6) (Ext.tr hW0 (grown_none (by simpa [ownRow] using hg8)))
    obtain ⟨q, hq⟩ : ∃ q : ScV, q = ⟨A8, c8, ⟨t2, p⟩⟩ := ⟨_, rfl⟩
    have Hqc : Hid ((#[.int .i64 (t2 : Int), .slice A8 p.length c8] : Array Value) = q.cells) := by rw [Hid, hq]; rfl
    have hoq8 : Own w8 (g + 1) 5 1 q.pa q.x.p.length q.pc (bvs q.x.p) := by rw [hq]; exact ho8.mono (by omega)
    have Hq := Lib.hid hq
    have Ho8 := Lib.hid (Ho6.out.below hE8)
    clear ho8 hg8 hr8 hq
    simp only [Act.put, List.setIfInBounds_toArray, List.set_cons_zero, List.set_cons_succ]
    refine rg_take 8 rfl (by kernel_rfl) (by kernel_rfl) (by kernel_rfl) (fun _ _ _ _ h => h) (by rfl) ⟨.agg q.cells, fun w' hx => by rw [← Hqc.out]; (go_simp <;> with_reducible rfl), ?_⟩
    simp only [Act.put, List.setIfInBounds_toArray, List.set_cons_zero, List.set_cons_succ]
    refine rg_make 9 rfl (by kernel_rfl) (by rfl) ⟨_, _, ex_buildOne 48 (.tmp 75) rfl elemC q.cells rfl rfl (by decide), Ext.alloc _ _, ?_⟩
    have hE9 : Ext w8 (w8.alloc (.cells q.cells 54)) := Ext.alloc _ _
    have hr9 : Rd (w8.alloc (.cells q.cells 54)) 2 (some ⟨w8.heap.size, 0, none⟩) 1 (scs [q]) := by
      refine ⟨rfl, fun _ => ⟨_, rfl, fun j u hj => ?_⟩⟩
      rw [Addr.add_lit, cell_of_row _ _ _ _ _ _ (heap_alloc_new w8 _)]
      simpa [scs] using hj
    simp only [Act.put, List.setIfInBounds_toArray, List.set_cons_zero, List.set_cons_succ]
    refine rg_last 10 rfl (by kernel_rfl) (by kernel_rfl) (by rfl) fun K hK => wp_app (.tmp 67) (.tmp 76) 48 rfl elemC w3.heap.size A6 i c6 (scs (L1.take i)) rfl (some ⟨w8.heap.size, 0, none⟩) 1 1 (scs [q]) rfl (i + 1) rfl (scs (L1.take i ++ [q])) (scs_app _ _) (Ho8.out.below hE9) hr9 (scs_one_cell _) (by omega) (by omega) (Nat.le_trans hs6 (Nat.le_trans hE8.size hE9.size)) fun A10 c10 w10 ho10 hg10 hr10 => hK _ _ ?_
    have hE10 : Ext w3 w10 := Below.trans (Ext.tr hE6 (Ext.tr hE8 hE9)) ((Ho8.out.below hE9).low hg10 (Nat.le_refl _) (Nat.le_trans hs6 (Nat.le_trans hE8.size hE9.size)))
    have hoq : Own w10 (g + 1) 5 1 q.pa q.x.p.length q.pc (bvs q.x.p) := by
      refine (hoq8.below hE9).kept hg10 fun k hk e2 => ?_
      obtain ⟨_, cur1, r1⟩ := (hoq8.below hE9).row_ge hk
      obtain ⟨_, cur2, r2⟩ := (Ho8.out.below hE9).row_ge e2.symm
      rw [r1] at r2
      injection r2 with r2
      injection r2 with _ r2
      exact absurd r2 (by decide)
    clear hg10 hr10 hr9 hoq8 hE8 hE9
    simp only [Act.put, List.setIfInBounds_toArray, List.set_cons_zero, List.set_cons_succ]
    refine rg_take 11 rfl (by kernel_rfl) (by kernel_rfl) (by kernel_rfl) (fun _ _ _ _ h => h) (by rfl) ⟨_, fun w' hx => by (go_simp <;> with_reducible rfl), ?_⟩
    simp only [Act.put, List.setIfInBounds_toArray, List.set_cons_zero, List.set_cons_succ]
    refine rg_done (by kernel_rfl) ?_
    obtain ⟨L2, hL2⟩ : ∃ L2, L2 = L1.take i ++ [q] ++ L1.drop i := ⟨_, rfl⟩
    have hM10 := HMt.out.ext hE10
    have h10l := hM10.list
    rw [Hln1.out] at h10l
    have hr7 := Hrd7.out.below hE10
    have hs10 := hE10.size
    have HL2 := Lib.hid hL2
    have hM10l := Lib.hid hM10
    have HE10 := Lib.hid hE10
    have Hoq := Lib.hid hoq
    clear hL2 hM10 hE10 hE6 hb6 T4 hoq
    go_wp2_with (first | (refine wpList_sliceL (by rfl) (.tmp 83) (.tmp 84) 48 rfl elemC A n c rfl i rfl (by omega) A7 HA7.out m7 _ Hm7.out rfl ?_) | (refine wpList_app (by rfl) (.tmp 79) (.tmp 85) 48 rfl elemC w3.heap.size A10 (i + 1) c10 (scs (L1.take i ++ [q])) rfl A7 m7 (c - i) (scs (L1.drop i)) rfl (i + 1 + m7) rfl (scs L2) (by rw [HL2.out, scs_app]) ho10 hr7 (scs_one_cell _) (by have := Hm7.out; omega) (by have := Hm7.out; omega) hs10 ?_; intro A12 c12 w12 ho12 hg12 hr12; refine Hid.out ?_))
    have hE12 : Ext w3 w12 := Below.trans HE10.out (ho10.low hg12 (Nat.le_refl _) hs10)
    have hE1012 : Ext w10 w12 ∨ True := .inr trivial
    have hlen : i + 1 + m7 = L2.length := by rw [HL2.out]; simp only [List.length_append, List.length_take, List.length_drop, List.length_cons, List.length_nil]; have := Hm7.out; have := Hln1.out; omega
    rw [hlen] at ho12 ⊢
    have hM12 := HMt.out.ext hE12
    have h12l := hM12.list
    have f12 := hM12.frozen 1
    have hoq12 : Own w12 (g + 1) 5 1 q.pa q.x.p.length q.pc (bvs q.x.p) := by
      refine Hoq.out.kept hg12 fun k hk e2 => ?_
      obtain ⟨_, cur1, r1⟩ := Hoq.out.row_ge hk
      obtain ⟨_, cur2, r2⟩ := ho10.row_ge e2.symm
      rw [r1] at r2
      injection r2 with r2
      injection r2 with _ r2
      exact absurd r2 (by decide)
    have hMs := hM12.setList (L' := L2) (ho12.mono (by omega)) (fun e he => by
      rw [HL2.out] at he
      rcases List.mem_append.1 he with he | he
      · rcases List.mem_append.1 he with he | he
        · exact hM12.each e (List.mem_of_mem_take he)
        · simp only [List.mem_singleton] at he
          subst he
          exact hoq12
      · exact hM12.each e (List.mem_of_mem_drop he))
    have hb12 : Below g w (w12.setCell ⟨g, 1, none⟩ (.slice A12 L2.length c12)) := (Below.trans Hbt.out (Below.mono hE12 (by omega))).grown (grown_cell _ g 1 _) (by have := hE12.size; omega) (fun k e => by injection e with e; omega)
    have HMs := Lib.hid hMs
    have Hb12 := Lib.hid hb12
    have hqx : q.x = ⟨t2, p⟩ := by rw [Hq.out]
    clear ho12 hg12 hr12 ho10 hr7 hM12 hMs hb12 h10l hlen hoq12 hM10l
    refine Lib.hid ?_
    go_wp2_with fail
    go_ret
    refine ⟨rfl, ⟨A12, c12, L2, ?_, HMs.out.own, HMs.out.each, ?_, Hli.out⟩, Hb12.out⟩
    · rw [Hlay.out]; exact HMs.out.row
    · rw [Hlay.out, HL2.out, List.map_append, List.map_append, List.map_take, List.map_drop, HL1.out]
      simp [hqx]
end Go.Proofs.Ytgfanklhihciaaa
