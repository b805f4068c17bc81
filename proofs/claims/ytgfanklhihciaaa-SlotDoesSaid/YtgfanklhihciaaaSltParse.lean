
/- Contracts: slices.Contains at bools; slot's isWithin, Parse. Printed by wip/tools/gen_sltparse06.py. -/

import Derived.Test.YtgfanklhihciaaaSltWrite

namespace Go.Proofs.Ytgfanklhihciaaa

open Go.RowKit

attribute [local go_sem] Oper.semAt_some

def bls (l : List Bool) : List Value := l.map Value.bool
theorem bls_len (l : List Bool) : (bls l).length = l.length := by simp [bls]
def RdBl (w : World) (A : Option Addr) (l : List Bool) : Prop := Rd w 1 A l.length (bls l)
theorem RdBl.at_ {w : World} {A : Option Addr} {l : List Bool} (h : RdBl w A l) {k : Nat} (hk : k < l.length) : ∃ ad, A = some ad ∧ w.cell? (ad.add k) = some (.bool l[k]) := by
  obtain ⟨ad, u, e, hu, hc⟩ := Rd.at_ h hk
  refine ⟨ad, e, ?_⟩
  rw [bls, List.getElem?_map, List.getElem?_eq_getElem hk] at hu
  injection hu with hu
  rw [hc, ← hu]
set_option maxRecDepth 100000 in
theorem bcontains_any (A : Option Addr) (l : List Bool) (c : Nat) (w : World) (hA : RdBl w A l) (hl : l.length ≤ 1000000) :
    Calls Try.prog 37 #[.slice A l.length c, .bool true] w fun e w' => e = .returned (.bool (l.any id)) ∧ w = w' := by
  have hidx : Calls Try.prog 38 #[.slice A l.length c, .bool true] w fun e w' => ∃ r : Int, e = .returned (.int .i64 r) ∧ Hid (decide (0 ≤ r) = l.any id) ∧ w = w' := by
    go_enter Try.func38, Try.ntmps38
    go_wp2
    go_loopw [8] (fun i wr => ∃ k : Nat, k ≤ l.length ∧ i = .int .i64 k ∧ (∀ j (h : j < l.length), j < k → l[j] = false) ∧ w = wr) (fun i _ => l.length - (intOf i).toNat)
    case atStart => exact ⟨0, by omega, rfl, fun j _ h => absurd h (by omega), rfl⟩
    case round =>
      obtain ⟨k, hk, rfl, hno, rfl⟩ := hrel
      by_cases h : k < l.length
      · obtain ⟨ad, rfl, hcell⟩ := hA.at_ h
        have ik : (0 : Int) ≤ (k : Int) := by omega
        have ik2 : (k : Int) < (l.length : Int) := by omega
        have hub : Try.prog.underlying 4 = some .bool := Try.underlying4
        have Hno := Lib.hid hno
        clear hno
        cases hb : l[k] with
        | true =>
          have ht : Hid (l.any id = true) := by
            show l.any id = true
            rw [List.any_eq_true]
            exact ⟨l[k], List.getElem_mem h, by rw [hb]; rfl⟩
          rw [hb] at hcell
          clear hb
          go_wp2
          go_ret
          exact ⟨k, rfl, (show _ = _ by rw [ht.out]; simp), rfl⟩
        | false =>
          have hn : Hid (∀ j (h : j < l.length), j < k + 1 → l[j] = false) := by
            show ∀ j (h : j < l.length), j < k + 1 → l[j] = false
            intro j hj hjk
            by_cases e : j = k
            · subst e; exact hb
            · exact Hno.out j hj (by omega)
          rw [hb] at hcell
          clear hb
          go_wp2
          go_roundw
          case rel => exact ⟨k + 1, by omega, by go_num, hn.out, by first | trivial | rfl⟩
          case measure => simp [intOf]; omega
      · obtain rfl : k = l.length := by omega
        have hf : Hid (l.any id = false) := by
          show l.any id = false
          rw [List.any_eq_false]
          intro x hx
          obtain ⟨j, hj, rfl⟩ := List.getElem_of_mem hx
          rw [hno j hj hj]; simp
        go_wp2
        go_ret
        exact ⟨-1, rfl, (show _ = _ by rw [hf.out]; simp), rfl⟩
  go_enter Try.func37, Try.ntmps37
  go_wp2_with (go_at_call 38; refine hidx.mono ?_; rintro e1 w1 ⟨r, rfl, hr, rfl⟩)
  go_ret
  exact ⟨by rw [← hr.out]; rfl, rfl⟩
/-- A row of bools. -/
structure BL (w : World) (g : Nat) (c : List Bool) : Prop where
  row : w.heap[g]? = some (.cells (bls c).toArray 59 (0, 0))
  len : c.length = 243
theorem BL.ext {w w' : World} {g : Nat} {c : List Bool} (h : BL w g c) (hx : Ext w w') : BL w' g c := ⟨(hx.block _ (lt_of_heap h.row)).trans h.row, h.len⟩
theorem BL.cell {w : World} {g : Nat} {c : List Bool} (h : BL w g c) {j : Nat} (hj : j < 243) : ∃ u, w.cell? ⟨g, j, none⟩ = some (.bool u) := by
  have hl : j < c.length := by rw [h.len]; exact hj
  refine ⟨c[j], ?_⟩
  rw [cell_of_row w g j _ _ _ h.row, List.getElem?_toArray, bls, List.getElem?_map, List.getElem?_eq_getElem hl]
  rfl
theorem BL.frozen {w : World} {g : Nat} {c : List Bool} (h : BL w g c) (j : Nat) : w.frozen? ⟨g, j, none⟩ = false := frozen_of_row w g j _ _ h.row
theorem BL.set {w : World} {g : Nat} {c : List Bool} (h : BL w g c) (j : Nat) (u : Bool) : BL (w.setCell ⟨g, j, none⟩ (.bool u)) g (c.set j u) := by
  refine ⟨?_, by rw [List.length_set]; exact h.len⟩
  rw [heap_setCell_same w g j _ _ _ h.row]
  congr 2
  apply Array.ext'
  simp only [Array.toList_setIfInBounds, bls, List.map_set]
theorem BL.partA {w : World} {g : Nat} {c : List Bool} (h : BL w g c) (k n : Nat) (hk : k + n ≤ 243) : RdBl w (some (arrA g k)) ((c.drop k).take n) := by
  have hl : ((c.drop k).take n).length = n := by rw [List.length_take, List.length_drop, h.len]; omega
  unfold RdBl
  rw [hl]
  refine ⟨by rw [bls_len, hl]; omega, fun hne => ⟨_, rfl, fun j u hj => ?_⟩⟩
  have hjl : j < n := by have := (List.getElem?_eq_some_iff.1 hj).1; rw [bls_len, hl] at this; exact this
  unfold arrA
  rw [if_neg (by omega), Addr.add_lit, cell_of_row w g _ _ _ _ h.row, List.getElem?_toArray]
  unfold bls at hj ⊢
  rw [List.getElem?_map, List.getElem?_take_of_lt hjl, List.getElem?_drop] at hj
  rw [List.getElem?_map]
  exact hj
theorem arr_lhB (g l h : Nat) (h1 : l ≤ h) (h2 : h ≤ 243) (w : World) : (Instr.sliceAt 59 (.pointer (some ⟨g, 0, none⟩)) (some (.int .i64 (l : Int))) (some (.int .i64 (h : Int))) none).run Try.prog w = .ok (.slice (some (arrA g l)) (h - l) (243 - l)) w := by
  have e1 : Try.prog.arrayLen 59 = 243 := by kernel_rfl
  rw [run_sliceAt_array_lh w 59 _ (by kernel_rfl) .i64 .i64 _ _ (by omega) (by omega) (by rw [e1]; omega)]
  rw [e1, show Try.prog.elem 59 = 4 from by kernel_rfl, Int.toNat_natCast, Int.toNat_natCast]
  unfold arrA
  by_cases h0 : 243 = l
  · simp only [h0, if_true]; go_simp
  · simp only [h0, if_false]; go_simp
theorem arr_all (g : Nat) (w : World) : (Instr.sliceAt 45 (.pointer (some ⟨g, 0, none⟩)) none none none).run Try.prog w = .ok (.slice (some ⟨g, 0, none⟩) 243 243) w := by
  have e1 : Try.prog.arrayLen 45 = 243 := by kernel_rfl
  rw [run_sliceAt_array_all w 45 _ (by kernel_rfl)]
  rw [e1, show Try.prog.elem 45 = 5 from by kernel_rfl]
  go_simp
/-- What is taken by the cells ahead of k. -/
def Taken (b : List UInt8) (k : Nat) (c : List Bool) : Prop := ∀ x, x < 243 → (c[x]? = some true ↔ ∃ j, j < k ∧ slAt b j ≤ x ∧ x < slAt b j + slSz b j)
/-- What isWithin tells. -/
def WithR (b : List UInt8) (w : World) (e : Ending) (w' : World) : Prop := ∃ r : Bool, e = .returned (.bool r) ∧ Hid (r = true ↔ Valid b) ∧ Ext w w'
set_option maxRecDepth 100000 in
set_option maxHeartbeats 1000000 in
theorem within_any (g : Nat) (b : List UInt8) (w : World) (h : BB w g b) (hd0 : 2 + 2 * slN b ≤ 243) :
    Calls Try.prog 35 #[.pointer (some ⟨g, 0, none⟩)] w (WithR b w) := by
  have hz0 : (Try.prog.info? 59).bind (·.zero) = some (.agg (bls (List.replicate 243 false)).toArray) := by kernel_rfl
  obtain ⟨Z, hZ⟩ : ∃ Z, Z = (bls (List.replicate 243 false)).toArray := ⟨_, rfl⟩
  rw [← hZ] at hz0
  have hz : ∀ w', (zeroValue 59).run Try.prog w' = .ok (.agg Z) w' := fun w' => by
    cases hi : Try.prog.info? 59 with
    | none => rw [hi] at hz0; cases hz0
    | some i =>
      rw [hi] at hz0
      have hz0 : i.zero = some (.agg Z) := hz0
      simp [zeroValue, typeInfo, hi, hz0]
  have hT := fun w2 (hx : Ext w w2) => top_any g b w2 (h.ext hx)
  have hL := fun w2 (hx : Ext w w2) => blen_any g b w2 (h.ext hx)
  have hn := slN_lt b
  have ht := slT_lt b
  have hd := dir_any (slN b) (by omega)
  have hlen := h.len
  obtain ⟨n, hnn⟩ : ∃ n, n = slN b := ⟨_, rfl⟩
  obtain ⟨t, htt⟩ : ∃ t, t = slT b := ⟨_, rfl⟩
  obtain ⟨d, hdd⟩ : ∃ d, d = 2 + 2 * n := ⟨_, rfl⟩
  rw [← hnn] at hL hd hn hd0
  rw [← hdd] at hd hd0
  rw [← htt] at hT ht
  have Hh := Lib.hid h
  have HZ := Lib.hid hZ
  have Hn := Lib.hid hnn
  have Ht := Lib.hid htt
  have Hd := Lib.hid hdd
  have hLw := hL w (Ext.refl w)
  have hTw := hT w (Ext.refl w)
  have HL := Lib.hid hL
  have HT := Lib.hid hT
  have Hdir := Lib.hid hd
  clear hZ hz0 h hnn htt hdd hL hT hd
  have hdw := Hdir.out w
  by_cases h1 : t < d
  · have Hnv : Hid (¬ Valid b) := fun hv => by have h9 := hv.dir; rw [← Hn.out, ← Ht.out, ← Hd.out] at h9; omega
    have b1 : (t : Int) < (d : Int) := by omega
    go_enter Try.func35, Try.ntmps35
    go_wp2_with (first | (go_at_call 29; refine hTw.mono ?_; rintro e1 w1 ⟨rfl, rfl⟩) | (go_at_call 18; refine hLw.mono ?_; rintro e2 w2 ⟨rfl, rfl⟩) | (go_at_call 30; refine hdw.mono ?_; rintro e3 w3 ⟨rfl, rfl⟩))
    go_ret
    exact ⟨false, rfl, (show _ ↔ _ from ⟨fun e => (by cases e), fun e => absurd e Hnv.out⟩), Ext.refl w⟩
  by_cases h2 : 243 < t
  · have Hnv : Hid (¬ Valid b) := fun hv => by have h9 := hv.top; rw [← Ht.out] at h9; omega
    have b1 : ¬ (t : Int) < (d : Int) := by omega
    have b2 : (243 : Int) < (t : Int) := by omega
    go_enter Try.func35, Try.ntmps35
    go_wp2_with (first | (go_at_call 29; refine hTw.mono ?_; rintro e1 w1 ⟨rfl, rfl⟩) | (go_at_call 18; refine hLw.mono ?_; rintro e2 w2 ⟨rfl, rfl⟩) | (go_at_call 30; refine hdw.mono ?_; rintro e3 w3 ⟨rfl, rfl⟩))
    go_ret
    exact ⟨false, rfl, (show _ ↔ _ from ⟨fun e => (by cases e), fun e => absurd e Hnv.out⟩), Ext.refl w⟩
  have b1 : ¬ (t : Int) < (d : Int) := by omega
  have b2 : ¬ (243 : Int) < (t : Int) := by omega
  have HV : Hid ((∀ i, i < n → SlOk b i) → Valid b) := fun hv => ⟨hlen, by rw [← Hn.out, ← Ht.out, ← Hd.out]; omega, by rw [← Ht.out]; omega, fun i hi => hv i (by rw [Hn.out]; exact hi)⟩
  have HNV : Hid (∀ i, i < n → ¬ SlOk b i → ¬ Valid b) := fun i hi hno hv => hno (hv.ok i (by rw [← Hn.out]; exact hi))
  have hx1 : Ext w (w.alloc (.cells Z 59)) := Ext.alloc _ _
  have hB1 : BL (w.alloc (.cells Z 59)) w.heap.size (List.replicate 243 false) := ⟨by rw [← HZ.out]; exact heap_alloc_new w _, List.length_replicate⟩
  have hL1 := HL.out _ hx1
  have Hx1 := Lib.hid hx1
  have HB1 := Lib.hid hB1
  clear hx1 hB1
  have hdl : d ≤ 243 := hd0
  go_enter Try.func35, Try.ntmps35
  go_wp2_with (first | (go_at_call 29; refine hTw.mono ?_; rintro e1 w1 ⟨rfl, rfl⟩) | (go_at_call 18; refine hLw.mono ?_; rintro e2 w2 ⟨rfl, rfl⟩) | (go_at_call 30; refine hdw.mono ?_; rintro e3 w3 ⟨rfl, rfl⟩) | (go_at_call 18; refine hL1.mono ?_; rintro e2 w2 ⟨rfl, rfl⟩; refine Hid.out ?_))
  obtain ⟨w1, hw1⟩ : ∃ w1, w1 = w.alloc (.cells Z 59) := ⟨_, rfl⟩
  rw [← hw1] at Hx1 HB1 ⊢
  clear hw1 hL1 hLw hTw hdw
  refine Lib.hid ?_
  go_wp2_with fail
  go_loopw [21] (fun i wr => ∃ (k : Nat) (c : List Bool), k ≤ n ∧ i = .int .i64 k ∧ (∀ j, j < k → SlOk b j) ∧ Taken b k c ∧ BL wr w.heap.size c ∧ Ext w wr) (fun i _ => n - (intOf i).toNat)
  case atStart =>
    refine ⟨0, _, by omega, rfl, fun j h => absurd h (by omega), fun x hx => ?_, HB1.out, Hx1.out⟩
    constructor
    · intro h
      rw [List.getElem?_replicate, if_pos hx] at h
      cases h
    · rintro ⟨j, hj, _⟩; omega
  case round =>
    obtain ⟨k, c, hk, rfl, hok, htk, hB, hE⟩ := hrel
    by_cases hkl : k < n
    · have hp := place_any g b k wr (Hh.out.ext hE) (by rw [Hd.out] at hd0; omega)
      have has := slAt_lt b k
      have hss := slSz_lt b k
      obtain ⟨a, ha⟩ : ∃ a, a = slAt b k := ⟨_, rfl⟩
      obtain ⟨z, hzz⟩ : ∃ z, z = slSz b k := ⟨_, rfl⟩
      rw [← ha, ← hzz] at hp
      rw [← ha] at has
      rw [← hzz] at hss
      have hTr := fun w2 (hx : Ext wr w2) => HT.out w2 (Ext.tr hE hx)
      have Hok := Lib.hid hok
      have Htk := Lib.hid htk
      have HB := Lib.hid hB
      have Ha := Lib.hid ha
      have Hzz := Lib.hid hzz
      have HTr := Lib.hid hTr
      clear hok htk hB ha hzz hTr
      by_cases c1 : a < t
      · have hno := Lib.hid (HNV.out k hkl (fun ho => by have := ho.low; rw [← Ha.out, ← Ht.out] at this; omega))
        have b3 : (a : Int) < (t : Int) := by omega
        go_wp2_with (first | (go_at_call 32; refine hp.mono ?_; rintro e4 w4 ⟨rfl, hb4⟩) | (go_at_call 29; refine (HTr.out w4 hb4).mono ?_; rintro e5 w5 ⟨rfl, rfl⟩))
        go_ret
        exact ⟨false, rfl, (show _ ↔ _ from ⟨fun e => (by cases e), fun e => absurd e hno.out⟩), Ext.tr hE hb4⟩
      have b3 : ¬ (a : Int) < (t : Int) := by omega
      obtain ⟨je, hje⟩ : ∃ je, je = a + z := ⟨_, rfl⟩
      have wje : IntKind.i64.wrap ((a : Int) + (z : Int)) = (je : Int) := by rw [IntKind.wrap_i64]; omega
      by_cases c2 : 243 < je
      · have hno := Lib.hid (HNV.out k hkl (fun ho => by have := ho.fit; rw [← Ha.out, ← Hzz.out] at this; omega))
        have b4 : (243 : Int) < (je : Int) := by omega
        clear hje
        go_wp2_with (first | (go_at_call 32; refine hp.mono ?_; rintro e4 w4 ⟨rfl, hb4⟩) | (go_at_call 29; refine (HTr.out w4 hb4).mono ?_; rintro e5 w5 ⟨rfl, rfl⟩))
        go_ret
        exact ⟨false, rfl, (show _ ↔ _ from ⟨fun e => (by cases e), fun e => absurd e hno.out⟩), Ext.tr hE hb4⟩
      have b4 : ¬ (243 : Int) < (je : Int) := by omega
      by_cases c3 : 78 < z
      · have hno := Lib.hid (HNV.out k hkl (fun ho => by have := ho.len; rw [← Hzz.out] at this; omega))
        have b5 : (78 : Int) < (z : Int) := by omega
        clear hje
        go_wp2_with (first | (go_at_call 32; refine hp.mono ?_; rintro e4 w4 ⟨rfl, hb4⟩) | (go_at_call 29; refine (HTr.out w4 hb4).mono ?_; rintro e5 w5 ⟨rfl, rfl⟩))
        go_ret
        exact ⟨false, rfl, (show _ ↔ _ from ⟨fun e => (by cases e), fun e => absurd e hno.out⟩), Ext.tr hE hb4⟩
      have b5 : ¬ (78 : Int) < (z : Int) := by omega
      have sl := fun w' => arr_lhB w.heap.size a je (by omega) (by omega) w'
      rw [show je - a = z by omega] at sl
      have hcl := HB.out.len
      obtain ⟨l, hl⟩ : ∃ l, l = (c.drop a).take z := ⟨_, rfl⟩
      have hll : l.length = z := by rw [hl, List.length_take, List.length_drop]; omega
      have hcn : ∀ w2, Ext wr w2 → Calls Try.prog 37 #[.slice (some (arrA w.heap.size a)) z (243 - a), .bool true] w2 fun e w' => e = .returned (.bool (l.any id)) ∧ w2 = w' := fun w2 hx => by
        have h9 := (HB.out.ext hx).partA a z (by omega)
        rw [← hl] at h9
        have := bcontains_any _ l (243 - a) w2 h9 (by omega)
        rwa [hll] at this
      have hget : ∀ x, x < z → l[x]? = c[a + x]? := fun x hx => by rw [hl, List.getElem?_take_of_lt hx, List.getElem?_drop]
      have Hcn := Lib.hid hcn
      have Hget := Lib.hid hget
      have Hll := Lib.hid hll
      have Hje := Lib.hid hje
      clear hcn hget hll hl
      cases hany : l.any id with
      | true =>
        have hno := Lib.hid (HNV.out k hkl (fun ho => by
          rw [List.any_eq_true] at hany
          obtain ⟨u, hu, hu2⟩ := hany
          obtain ⟨x, hx, rfl⟩ := List.getElem_of_mem hu
          have hxz : x < z := by rw [← Hll.out]; exact hx
          have h1 := Hget.out x hxz
          rw [List.getElem?_eq_getElem hx, show l[x] = true from hu2] at h1
          obtain ⟨j, hj, h2, h3⟩ := (Htk.out (a + x) (by rw [Hje.out] at c2; omega)).1 h1.symm
          exact ho.apart j hj (a + x) h2 h3 (by rw [← Ha.out]; omega) (by rw [← Ha.out, ← Hzz.out]; omega)))
        rw [hany] at Hcn
        clear hany hje
        go_wp2_with (first | (go_at_call 32; refine hp.mono ?_; rintro e4 w4 ⟨rfl, hb4⟩) | (go_at_call 29; refine (HTr.out w4 hb4).mono ?_; rintro e5 w5 ⟨rfl, rfl⟩) | (go_at_call 37; refine (Hcn.out w4 hb4).mono ?_; rintro e6 w6 ⟨rfl, rfl⟩))
        go_ret
        exact ⟨false, rfl, (show _ ↔ _ from ⟨fun e => (by cases e), fun e => absurd e hno.out⟩), Ext.tr hE hb4⟩
      | false =>
        have hokk : SlOk b k := by
          refine ⟨by rw [← Ha.out, ← Ht.out]; omega, by rw [← Ha.out, ← Hzz.out]; omega, by rw [← Hzz.out]; omega, fun j hj x h2 h3 h4 h5 => ?_⟩
          rw [← Ha.out] at h4
          rw [← Ha.out, ← Hzz.out] at h5
          have hxc := (Htk.out x (by omega)).2 ⟨j, hj, h2, h3⟩
          have hxz : x - a < z := by omega
          have h6 := Hget.out (x - a) hxz
          rw [show a + (x - a) = x by omega, hxc] at h6
          rw [List.any_eq_false] at hany
          exact hany true (List.mem_of_getElem? h6) rfl
        have hok2 : Hid (∀ j, j < k + 1 → SlOk b j) := by
          show ∀ j, j < k + 1 → SlOk b j
          intro j hj
          by_cases e : j = k
          · subst e; exact hokk
          · exact Hok.out j (by omega)
        rw [hany] at Hcn
        clear hany hje hokk
        go_wp2_with (first | (go_at_call 32; refine hp.mono ?_; rintro e4 w4 ⟨rfl, hb4⟩) | (go_at_call 29; refine (HTr.out w4 hb4).mono ?_; rintro e5 w5 ⟨rfl, rfl⟩) | (go_at_call 37; refine (Hcn.out w4 hb4).mono ?_; rintro e6 w6 ⟨rfl, rfl⟩; refine Hid.out ?_))
        have hB4 := Lib.hid (HB.out.ext hb4)
        have hE4 := Lib.hid (Ext.tr hE hb4)
        clear hb4 hp
        refine Lib.hid ?_
        go_wp2_with fail
        go_loopw [53] (fun i wr => ∃ (x : Nat) (c2 : List Bool), x ≤ z ∧ i = .int .i64 x ∧ (∀ y, y < 243 → (c2[y]? = some true ↔ c[y]? = some true ∨ (a ≤ y ∧ y < a + x))) ∧ BL wr w.heap.size c2 ∧ Ext w wr) (fun i _ => z - (intOf i).toNat)
        case atStart => exact ⟨0, c, by omega, rfl, fun y _ => ⟨.inl, fun h => h.elim id (fun h => absurd h (by omega))⟩, hB4.out, hE4.out⟩
        case round =>
          obtain ⟨x, c2, hx, rfl, hc2, hB5, hE5⟩ := hrel
          have Hc2 := Lib.hid hc2
          by_cases hxz : x < z
          · obtain ⟨ax, hax⟩ : ∃ ax, ax = a + x := ⟨_, rfl⟩
            have hje2 := Hje.out
            have wax : IntKind.i64.wrap ((a : Int) + (x : Int)) = (ax : Int) := by rw [IntKind.wrap_i64]; omega
            have i1 : (ax : Int) < 243 := by omega
            have i2 : (0 : Int) ≤ (ax : Int) := by omega
            obtain ⟨u, hu⟩ := hB5.cell (j := ax) (by omega)
            have hf := hB5.frozen ax
            have HB6 := Lib.hid (hB5.set ax true)
            have Hax := Lib.hid hax
            have hl5 := hB5.len
            have haxl : ax < 243 := by omega
            clear hax hc2 hB5 hje2
            go_wp2_with fail
            go_roundw
            case rel =>
              refine ⟨x + 1, c2.set ax true, by omega, by go_num, fun y hy => ?_, HB6.out, below_row hE5 (grown_cell _ _ _ _) (Nat.le_refl _) hE5.size⟩
              rw [List.getElem?_set]
              by_cases e : ax = y
              · rw [if_pos e, if_pos (by omega)]
                have := Hax.out
                constructor
                · intro _; exact .inr (by omega)
                · intro _; rfl
              · rw [if_neg e, Hc2.out y hy]
                have := Hax.out
                constructor
                · rintro (h | h); exact .inl h; exact .inr (by omega)
                · rintro (h | h); exact .inl h; exact .inr (by omega)
            case measure => simp [intOf]; omega
          · obtain rfl : x = z := by omega
            clear hc2
            go_wp2_with fail
            go_roundw
            case rel =>
              refine ⟨k + 1, c2, by omega, by go_num, hok2.out, fun y hy => ?_, hB5, hE5⟩
              rw [Hc2.out y hy, Htk.out y hy]
              constructor
              · rintro (⟨j, hj, h⟩ | h)
                · exact ⟨j, by omega, h⟩
                · exact ⟨k, by omega, by rw [← Ha.out, ← Hzz.out]; omega⟩
              · rintro ⟨j, hj, h⟩
                by_cases e : j = k
                · subst e
                  rw [← Ha.out, ← Hzz.out] at h
                  exact .inr (by omega)
                · exact .inl ⟨j, by omega, h⟩
            case measure => simp [intOf]; omega
    · obtain rfl : k = n := by omega
      have hv := Lib.hid (HV.out hok)
      go_wp2
      go_ret
      exact ⟨true, rfl, (show _ ↔ _ from ⟨fun _ => hv.out, fun _ => rfl⟩), hE⟩
/-- What Parse answers. -/
def ParseR (bs : List UInt8) (w : World) (e : Ending) (w' : World) : Prop :=
  (∃ g, Valid bs ∧ e = .returned (.tuple #[.pointer (some ⟨g, 0, none⟩), .int .i64 0]) ∧ w.heap.size ≤ g ∧ SAt w' g bs (slOf bs) ∧ Ext w w') ∨
  (¬ Valid bs ∧ e = .returned (.tuple #[.pointer none, .int .i64 61]) ∧ Ext w w')
set_option maxRecDepth 100000 in
set_option maxHeartbeats 1000000 in
theorem sparse_any (A : Option Addr) (bs : List UInt8) (c : Nat) (w : World) (hA : RdB w A bs) :
    Calls Try.prog 21 #[.slice A bs.length c] w (ParseR bs w) := by
  by_cases h1 : bs.length = 243
  · have hz0 : (Try.prog.info? 47).bind (·.zero) = some (.agg (bvs (zeros 243)).toArray) := by kernel_rfl
    obtain ⟨Z, hZ⟩ : ∃ Z, Z = (bvs (zeros 243)).toArray := ⟨_, rfl⟩
    rw [← hZ] at hz0
    have hz : ∀ w', (zeroValue 47).run Try.prog w' = .ok (.agg Z) w' := fun w' => by
      cases hi : Try.prog.info? 47 with
      | none => rw [hi] at hz0; cases hz0
      | some i =>
        rw [hi] at hz0
        have hz0 : i.zero = some (.agg Z) := hz0
        simp [zeroValue, typeInfo, hi, hz0]
    have hrow1 : (w.alloc (.cells Z 47)).heap[w.heap.size]? = some (.cells (bvs (zeros 243)).toArray 47 (0, 0)) := by rw [← hZ]; exact heap_alloc_new w _
    have hx1 := Ext.alloc w (.cells Z 47)
    have hA1 := hA.below hx1
    have sa := fun w' => arr_all w.heap.size w'
    have hne : ((bs.length : Int) != 243) = false := by rw [bne_eq_false_iff_eq]; omega
    have hne2 : (bs.length : Int) = 243 := by omega
    have Hrow1 := Lib.hid hrow1
    have HA1 := Lib.hid hA1
    have Hx1 := Lib.hid hx1
    have H1 := Lib.hid h1
    have HZ := Lib.hid hZ
    clear hrow1 hA1 hx1 hZ hz0 h1
    go_enter Try.func21, Try.ntmps21
    go_wp2_with (refine wpList_copyB (by rfl) (.tmp 13) (.tmp 14) 30 rfl elemB w.heap.size 0 243 243 (some ⟨w.heap.size, 0, none⟩) rfl A c (zeros 243) bs rfl 47 (.inr rfl) (by have := H1.out; omega) Hrow1.out (by rw [zeros_len]; have := H1.out; omega) HA1.out ?_; intro w2 hr2 hg2; refine Hid.out ?_)
    have hov : ovw (zeros 243) 0 bs = bs := by
      refine List.ext_getElem? fun j => ?_
      have := H1.out
      rw [ovw_get _ _ _ (by rw [zeros_len]; omega), if_neg (by omega), Nat.zero_add, Nat.sub_zero]
      split
      · rfl
      · rw [List.getElem?_eq_none (by rw [zeros_len]; omega), List.getElem?_eq_none (by omega)]
    rw [hov] at hr2
    have B2 : BB w2 w.heap.size bs := ⟨hr2, H1.out⟩
    have hx2 : Ext w w2 := below_row Hx1.out hg2 (Nat.le_refl _) Hx1.out.size
    have hL2 := blen_any w.heap.size bs w2 B2
    have hn2 := slN_lt bs
    have hd2 := dir_any (slN bs) (by omega) w2
    obtain ⟨n, hn⟩ : ∃ n, n = slN bs := ⟨_, rfl⟩
    obtain ⟨d, hd⟩ : ∃ d, d = 2 + 2 * n := ⟨_, rfl⟩
    rw [← hn] at hL2 hd2 hn2
    rw [← hd] at hd2
    have Hn := Lib.hid hn
    have Hd := Lib.hid hd
    have HB2 := Lib.hid B2
    clear hov hr2 hg2 B2 hn hd
    by_cases h2 : 243 < d
    · have hnv := Lib.hid (show ¬ Valid bs from fun hv => by have h8 := hv.dir; have h9 := hv.top; rw [← Hn.out, ← Hd.out] at h8; omega)
      have b2 : (243 : Int) < (d : Int) := by omega
      refine Lib.hid ?_
      go_wp2_with (first | (go_at_call 18; refine hL2.mono ?_; rintro e3 w3 ⟨rfl, rfl⟩) | (go_at_call 30; refine hd2.mono ?_; rintro e4 w4 ⟨rfl, rfl⟩))
      refine bodyPost_ret (results_tmp2 rfl _ _ _) rfl ?_
      exact .inr ⟨hnv.out, rfl, hx2⟩
    · have b2 : ¬ (243 : Int) < (d : Int) := by omega
      have hW := within_any w.heap.size bs w2 HB2.out (by rw [← Hn.out, ← Hd.out]; omega)
      refine Lib.hid ?_
      go_wp2_with (first | (go_at_call 18; refine hL2.mono ?_; rintro e3 w3 ⟨rfl, rfl⟩) | (go_at_call 30; refine hd2.mono ?_; rintro e4 w4 ⟨rfl, rfl⟩))
      refine hW.mono ?_
      rintro e5 w5 ⟨r, rfl, hr, hb5⟩
      cases r
      · have hnv := Lib.hid (show ¬ Valid bs from fun hv => by have := hr.out.2 hv; cases this)
        go_wp2_with fail
        refine bodyPost_ret (results_tmp2 rfl _ _ _) rfl ?_
        exact .inr ⟨hnv.out, rfl, Ext.tr hx2 hb5⟩
      · have hv := Lib.hid (hr.out.1 rfl)
        go_wp2_with fail
        refine bodyPost_ret (results_tmp2 rfl _ _ _) rfl ?_
        exact .inl ⟨w.heap.size, hv.out, rfl, Nat.le_refl _, ⟨HB2.out.ext hb5, hv.out.rel, hv.out.inv⟩, Ext.tr hx2 hb5⟩
  · have hne : ((bs.length : Int) != 243) = true := by rw [bne_iff_ne]; omega
    have hne2 : ¬ (bs.length : Int) = 243 := by omega
    have hnv := Lib.hid (show ¬ Valid bs from fun hv => h1 hv.len)
    clear h1
    go_enter Try.func21, Try.ntmps21
    go_wp2
    refine bodyPost_ret (results_tmp2 rfl _ _ _) rfl ?_
    exact .inr ⟨hnv.out, rfl, Ext.refl w⟩
end Go.Proofs.Ytgfanklhihciaaa
