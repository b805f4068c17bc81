
/- Contracts: bytes as a leaf's cell (cell.GetLeaf), the rest. Printed by wip/tools/gen_cellget2.py. -/

import Derived.Test.YtkpagmfaccmiaaaGreatCellGetL

namespace Go.Proofs.YtkpagmfaccmiaaaGreat

open Go.RowKit

attribute [local go_sem] Oper.semAt_some

/-- The two blocks, and the cell's own. -/
structure Three (w w1 : World) (bs : List UInt8) (b : Nat) (cs : Array Value) : Prop where
  two : Two w w1 bs
  row : w1.heap[b]? = some (.cells cs 43 (0, 0))
  far : w.heap.size + 1 < b
theorem Three.step {w w1 w2 : World} {bs rest : List UInt8} {b : Nat} {cs : Array Value} {v : Value} (h : Three w w1 bs b cs) (e : w1.setCell ⟨w.heap.size + 1, 0, none⟩ v = w2) (hc : CutAt w2 w (w.heap.size + 1) rest) : Three w w2 rest b cs :=
  ⟨h.two.step e hc, (cut_row e (by have := h.far; omega)).trans h.row, h.far⟩
theorem Three.below {w w1 w2 : World} {bs : List UInt8} {b : Nat} {cs : Array Value} (h : Three w w1 bs b cs) (hb : Ext w1 w2) : Three w w2 bs b cs :=
  ⟨h.two.below hb, (hb.block _ (lt_of_heap h.row)).trans h.row, h.far⟩
theorem Three.store {w w1 : World} {bs : List UInt8} {b : Nat} {cs : Array Value} (h : Three w w1 bs b cs) (i : Nat) (v : Value) : Three w (w1.setCell ⟨b, i, none⟩ v) bs b (cs.setIfInBounds i v) :=
  ⟨⟨(Below.heap_setCell w1 ⟨b, i, none⟩ v _ (by have := h.far; show w.heap.size ≠ b; omega)).trans h.two.row, h.two.ext.setCell (p := ⟨b, i, none⟩) (by have := h.far; show w.heap.size ≤ b; omega) v, h.two.cut.other i v (by have := h.far; omega)⟩, heap_setCell_same w1 b i cs _ v h.row, h.far⟩
theorem Three.new {w w1 : World} {bs : List UInt8} (h : Two w w1 bs) (cs : Array Value) : Three w (w1.alloc (.cells cs 43)) bs w1.heap.size cs :=
  ⟨h.below (Ext.alloc _ _), heap_alloc_new w1 _, h.cut.lt⟩
theorem Three.cell {w w1 : World} {bs : List UInt8} {b : Nat} {cs : Array Value} (h : Three w w1 bs b cs) (i : Nat) : w1.cell? ⟨b, i, none⟩ = cs[i]? := cell_of_row w1 b i _ _ _ h.row
theorem Three.free {w w1 : World} {bs : List UInt8} {b : Nat} {cs : Array Value} (h : Three w w1 bs b cs) (i : Nat) : w1.frozen? ⟨b, i, none⟩ = false := frozen_of_row w1 b i _ _ h.row

theorem grown_set (w : World) (p : Addr) (v : Value) : w.grownBy (w.setCell p v) (some p.block) := ⟨rfl, rfl, rfl, by simp, fun i _ hi => Below.heap_setCell w p v i (fun e => hi (by rw [e]))⟩
theorem grown_setR (w : World) (g : Nat) (cs : Array Value) : w.grownBy (w.setRow g cs) (some g) := ⟨rfl, rfl, rfl, by simp, fun i _ hi => setRow_other _ _ _ _ (fun e => hi (by rw [e]))⟩
section

variable {w : World} {base size n c : Nat} {e : TypeId} {A : Option Addr} {xs : List Value}

theorem Own.setO (h : Own w base e size A n c xs) (p : Addr) (v : Value) (hne : ∀ k, ownRow A c = some k → k ≠ p.block) : Own (w.setCell p v) base e size A n c xs := h.kept (grown_set w p v) (fun k hk e => by injection e with e; exact hne k hk e)
theorem Own.setR (h : Own w base e size A n c xs) (g : Nat) (cs : Array Value) (hne : ∀ k, ownRow A c = some k → k ≠ g) : Own (w.setRow g cs) base e size A n c xs := h.kept (grown_setR w g cs) (fun k hk e => by injection e with e; exact hne k hk e)
end

set_option maxRecDepth 100000 in
set_option maxHeartbeats 2000000 in
theorem getLeaf_small (A : Option Addr) (bs : List UInt8) (k : UInt8) (t : List UInt8) (c : Nat) (w : World) (hA : RdB w A bs) (hc : bs.length ≤ c) (hl : bs.length ≤ 1000000) (hbs : bs = k :: t) (key r : List UInt8) (hkey : t.take k.toNat = key) (hdr : t.drop k.toNat = r) (n x : Nat) (hget : Vint.get r = (n, x, 0)) (hn : n ≤ 1000) (h40 : n ≤ 40) (rest : List UInt8) (hrest : r.drop x = rest)
    (q : Cl × Nat) (hq : q = if (Cl.mk key n rest 0 0).leaf = true ∧ (Cl.mk key n rest 0 0).flatL = bs then ((Cl.mk key n rest 0 0), 0) else (Cl.zero, 70)) :
    Calls Tryz.prog 56 #[.slice A bs.length c] w fun e w' => ∃ C : CellV, e = .returned (.tuple #[C.val, .int .i64 (q.2 : Int)]) ∧ C.x = q.1 ∧ C.In w' ∧ Below w.heap.size w w' := by
  obtain ⟨e0, he0⟩ : ∃ e0 : Nat, e0 = 0 := ⟨_, rfl⟩
  rw [← he0] at hget
  have hcan := Vint.get_canon (by rw [← he0]; exact hget)
  obtain ⟨q2, hq2⟩ : ∃ q2, q2 = r.take x := ⟨_, rfl⟩
  have H1 := Lib.hid (show bs.take 1 = [k] by rw [hbs]; rfl)
  have H2 := Lib.hid (show bs.drop 1 = t by rw [hbs]; rfl)
  have htl : t.length + 1 = bs.length := by rw [hbs]; rfl
  have hk := k.toNat_lt
  have Hbs := Lib.hid hbs
  have hkl : key.length ≤ bs.length := by rw [← hkey, List.length_take]; omega
  have hrl : r.length = t.length - k.toNat := by rw [← hdr, List.length_drop]
  have hxl := hcan.2.2
  have hx1 := hcan.2.1
  have hrestl : rest.length ≤ bs.length := by rw [← hrest, List.length_drop]; omega
  have HK := Lib.hid hkey
  have HR := Lib.hid hdr
  have Hget := Lib.hid hget
  have Hq := Lib.hid hq
  have Hq2 := Lib.hid hq2
  have Hrest := Lib.hid hrest
  have He0 := Lib.hid he0
  have hle : 1 + k.toNat ≤ bs.length := by omega
  have hcc : ¬ c = 1 + k.toNat := by omega
  have hr := rest_rd hA Hbs.out HR.out hle hc
  have hrc : r.length ≤ c - (1 + k.toNat) := by omega
  have Hrl : Hid (bs.length - (1 + k.toNat) = r.length) := by show _ = _; omega
  have hwn : IntKind.i64.wrap (n : Int) = (n : Int) := by rw [IntKind.wrap_i64]; omega
  rw [if_neg hcc] at hr
  clear hrl hbs hkey hdr hget hq hq2 hrest he0 hcan
  go_enter Tryz.func56, Tryz.ntmps56
  go_wp2_with fail
  refine (cutter_any A bs.length _ _).mono ?_
  rintro e w1 ⟨rfl, hw1⟩
  have T1 := Two.new w w1 A bs _ hA hc hw1
  clear hw1
  go_wp2_with fail
  have hcut := cut_any (w.heap.size + 1) bs 1 w1 w T1.cut
  rw [H1.out, H2.out] at hcut
  (try simp only [World.size_alloc])
  refine hcut.mono ?_
  clear hcut
  rintro e w2 ⟨A1, c1, A2, c2, rfl, hw2, h1, h2, h3⟩
  have T2 := T1.step hw2 h2
  obtain ⟨ad, rfl, hk0⟩ := h1.at_ (k := 0) (by simp)
  have hk2 := T2.ext.load hk0
  simp only [List.getElem_cons_zero] at hk2
  rw [show ad.add 0 = ad from rfl] at hk2
  simp only [List.length_singleton] at h3 ⊢
  clear hw2 h1 h2 T1
  go_wp2_with fail
  have hcut := cut_any (w.heap.size + 1) t k.toNat w2 w T2.cut
  rw [HK.out, HR.out] at hcut
  refine hcut.mono ?_
  clear hcut
  rintro e w3 ⟨A3, c3, A4, c4, rfl, hw3, h1, h2, h3b⟩
  have T3 := T2.step hw3 h2
  clear hw3 h2 T2 hk2
  go_wp2_with fail
  refine (clone_any A3 key c3 w3 (h1.below T3.ext) (by omega)).mono ?_
  rintro e w4 ⟨A5, c5, rfl, ho5, hb5⟩
  have T4 := T3.below hb5
  have hk4 := T4.ext.load hk0
  simp only [List.getElem_cons_zero] at hk4
  rw [show ad.add 0 = ad from rfl] at hk4
  have hk5 := Ext.load (Ext.alloc w4 (.cells #[.slice A5 key.length c5, .int .i64 0, .slice none 0 0, .int .u32 0, .int .u32 0] 43)) hk4
  clear h1 h3b hb5 hk4 hk0
  go_wp2_with fail
  have T5 := Three.new T4 #[.slice A5 key.length c5, .int .i64 0, .slice none 0 0, .int .u32 0, .int .u32 0]
  rw [show bs.length - (1 + k.toNat) = r.length from Hrl.out]
  refine (get_any _ r _ _ (hr.below T5.two.ext) (by omega)).mono ?_
  rintro e w6 ⟨rfl, hb6⟩
  have T6 := T5.below hb6
  rw [Hget.out]
  simp only [getRes]
  rw [He0.out]
  have h4lt := T5.far
  obtain ⟨b, hb⟩ : ∃ b, b = w4.heap.size := ⟨_, rfl⟩
  have hown5 := ho5.below (Ext.tr (Ext.alloc w4 (.cells #[.slice A5 key.length c5, .int .i64 0, .slice none 0 0, .int .u32 0, .int .u32 0] 43)) hb6)
  have hown6 := hown5.mono (show w.heap.size + 2 ≤ w3.heap.size by have := T3.cut.lt; omega)
  have hkb : ∀ k, ownRow A5 c5 = some k → k < w4.heap.size := fun k hk => (ho5.row_lt k hk).2
  have hrd5 := hown5.rd'
  have hnc5 := hown5.nc
  rw [← hb] at T6 h4lt hkb
  simp only [← hb]
  clear hb ho5 T5 T4 T3 hb6 hk5 hown5
  go_wp2_with fail
  have hcut := cut_any (w.heap.size + 1) r x w6 w T6.two.cut
  rw [← Hq2.out, Hrest.out] at hcut
  refine hcut.mono ?_
  clear hcut
  rintro e w7 ⟨A6, c6, A7, c7, rfl, hw7, h1, h2, h3⟩
  have T7 := T6.step hw7 h2
  have hown7 : Own w7 (w.heap.size + 2) 5 1 A5 key.length c5 (bvs key) := by rw [← hw7]; exact hown6.setO _ _ (fun k hk => by have := (hown6.row_lt k hk).1; show k ≠ w.heap.size + 1; omega)
  have hown8 : Own (w7.setCell ⟨b, 1, none⟩ (.int .i64 (n : Int))) (w.heap.size + 2) 5 1 A5 key.length c5 (bvs key) := hown7.setO _ _ (fun k hk => by have := hkb k hk; show k ≠ b; omega)
  have T8 : Three w (w7.setCell ⟨b, 1, none⟩ (.int .i64 (n : Int))) rest b #[.slice A5 key.length c5, .int .i64 (n : Int), .slice none 0 0, .int .u32 0, .int .u32 0] := T7.store 1 _
  have hcl := T7.cell 1
  have hfr := T7.free 1
  simp only [List.getElem?_toArray, List.getElem?_cons_succ, List.getElem?_cons_zero] at hcl
  clear T6 T7 h1 h2 h3 hw7 hown6 hown7 hrd5
  go_wp2_with fail
  have hcut := cut_any (w.heap.size + 1) rest bs.length _ w T8.two.cut
  rw [List.take_of_length_le hrestl, List.drop_of_length_le hrestl] at hcut
  refine hcut.mono ?_
  clear hcut
  rintro e w9 ⟨A8, c8, A7, c7, rfl, hw9, h1, h2, h3⟩
  have T9 := T8.step hw9 h2
  have hown9 : Own w9 (w.heap.size + 2) 5 1 A5 key.length c5 (bvs key) := by rw [← hw9]; exact hown8.setO _ _ (fun k hk => by have := (hown8.row_lt k hk).1; show k ≠ w.heap.size + 1; omega)
  have hcl2 := T9.cell 1
  simp only [List.getElem?_toArray, List.getElem?_cons_succ, List.getElem?_cons_zero] at hcl2
  clear T8 hown8 hcl hfr h2 hw9
  go_wp2_with fail
  refine (clone_any A8 rest c8 w9 (h1.below T9.two.ext) (by omega)).mono ?_
  rintro e w10 ⟨A9, c9, rfl, ho9, hb10⟩
  have T10 := T9.below hb10
  have hown10 := hown9.below hb10
  have hb9lt : b < w9.heap.size := lt_of_heap T9.row
  have hcl3 := T10.cell 2
  have hfr3 := T10.free 2
  simp only [List.getElem?_toArray, List.getElem?_cons_succ, List.getElem?_cons_zero] at hcl3
  have T11 : Three w (w10.setCell ⟨b, 2, none⟩ (.slice A9 rest.length c9)) [] b #[.slice A5 key.length c5, .int .i64 (n : Int), .slice A9 rest.length c9, .int .u32 0, .int .u32 0] := T10.store 2 _
  have hown11 := hown10.setO ⟨b, 2, none⟩ (.slice A9 rest.length c9) (fun k hk => by have := hkb k hk; show k ≠ b; omega)
  have ho11 := ho9.setO ⟨b, 2, none⟩ (.slice A9 rest.length c9) (fun k hk => by have := (ho9.row_lt k hk).1; show k ≠ b; omega)
  have ho11w : w.heap.size + 1 < w9.heap.size := by omega
  clear T9 T10 hown9 hown10 hb10 h1 hcl2 ho9
  have hg11 := T11.row
  obtain ⟨C, hC⟩ : ∃ C : CellV, C = ⟨A5, c5, A9, c9, ⟨key, n, rest, 0, 0⟩⟩ := ⟨_, rfl⟩
  have hCx : C.x = ⟨key, n, rest, 0, 0⟩ := by rw [hC]
  have hCc : C.cells = #[.slice A5 key.length c5, .int .i64 (n : Int), .slice A9 rest.length c9, .int .u32 0, .int .u32 0] := by rw [hC]; rfl
  have hCin : C.In (w10.setCell ⟨b, 2, none⟩ (.slice A9 rest.length c9)) := by
    rw [hC]
    exact ⟨by show 0 < 4294967296; omega, by show 0 < 4294967296; omega, by show -9223372036854775808 ≤ (n : Int); omega, by show (n : Int) ≤ 9223372036854775807; omega, hown11.rd', ho11.rd', hnc5, ho11.nc⟩
  rw [← hCx] at Hq
  rw [← hCc] at hg11
  have hP := putLeaf_any C _ hCin
  simp only [CellV.val] at hP
  have HCx := Lib.hid hCx
  have HCc := Lib.hid hCc
  have HC := Lib.hid hC
  clear hC hCx hCc hCin
  go_wp2_with (refine wpList_load_row rfl 43 (.tmp 6) rfl b rfl 43 C.cells (0, 0) _ hg11 Tryz.underlying43 rfl (by rw [HCc.out]; kernel_rfl) ?_)
  cases hlf : C.x.leaf with
  | false =>
    have hqv : q = (Cl.zero, 70) := by rw [Hq.out, if_neg (by rw [hlf]; simp)]
    have e1 : C.x.putL = ([], 70) := by unfold Cl.putL; rw [if_neg (by rw [hlf]; simp)]
    rw [e1] at hP
    clear e1 hlf
    refine hP.mono ?_
    rintro e w12 ⟨A12, c12, rfl, ho12, hb12⟩
    have T12 := T11.below hb12
    have hg12 := T12.two.row
    have Hqv := Lib.hid hqv
    clear hP hqv T11 hg11 ho12 hb12
    go_wp2_with (refine wpList_store_row rfl 43 (.tmp 2) (.tmp 84) rfl w.heap.size #[.slice none 0 0, .int .i64 0, .slice none 0 0, .int .u32 0, .int .u32 0] rfl rfl _ _ hg12 (by kernel_rfl) rfl (by kernel_rfl) ?_)
    have hg13 := setRow_heap w12 w.heap.size _ #[.slice none 0 0, .int .i64 0, .slice none 0 0, .int .u32 0, .int .u32 0] _ _ hg12
    (try simp only [Exit.inBlock, Exit.then])
    refine bodyPost_ret (results_row_tmp rfl _ _ w.heap.size 43 #[.slice none 0 0, .int .i64 0, .slice none 0 0, .int .u32 0, .int .u32 0] (0, 0) _ rfl hg13 Tryz.underlying43 rfl (by kernel_rfl)) rfl ?_
    refine ⟨CellV.zero, ?_, ?_, CellV.zero_in _, ext_row T12.two.ext (Nat.le_refl _) _⟩
    · rw [Hqv.out]; rfl
    · rw [Hqv.out]; rfl
  | true =>
    have e1 : C.x.putL = (C.x.flatL, 0) := by unfold Cl.putL; rw [if_pos hlf]
    rw [e1] at hP
    have Hlf := Lib.hid hlf
    clear e1 hlf
    refine hP.mono ?_
    rintro e w12 ⟨A12, c12, rfl, ho12, hb12⟩
    have T12 := T11.below hb12
    have hg12 := T12.two.row
    have hgb12 := T12.row
    rw [← HCc.out] at hgb12
    have hrd12 := ho12.rd'
    have hA12 := hA.below T12.two.ext
    have hown12 := hown11.below hb12
    have ho12v := ho11.below hb12
    clear hP T11 hg11 ho12 hb12
    obtain ⟨fl, hfl⟩ : ∃ fl, fl = C.x.flatL := ⟨_, rfl⟩
    rw [← hfl] at hrd12 Hq ⊢
    have Hfl := Lib.hid hfl
    clear hfl
    go_wp2_with fail
    refine (equal_any A12 A fl bs _ _ w12 hrd12 hA12).mono ?_
    rintro e w13 ⟨rfl, rfl⟩
    cases heq : (fl == bs) with
    | false =>
      have hqv : q = (Cl.zero, 70) := by rw [Hq.out, if_neg (by rintro ⟨_, h⟩; rw [h] at heq; simp at heq)]
      have Hqv := Lib.hid hqv
      clear heq hqv hrd12 hA12
      go_wp2_with (refine wpList_store_row rfl 43 (.tmp 2) (.tmp 84) rfl w.heap.size #[.slice none 0 0, .int .i64 0, .slice none 0 0, .int .u32 0, .int .u32 0] rfl rfl _ _ hg12 (by kernel_rfl) rfl (by kernel_rfl) ?_)
      have hg13 := setRow_heap w12 w.heap.size _ #[.slice none 0 0, .int .i64 0, .slice none 0 0, .int .u32 0, .int .u32 0] _ _ hg12
      (try simp only [Exit.inBlock, Exit.then])
      refine bodyPost_ret (results_row_tmp rfl _ _ w.heap.size 43 #[.slice none 0 0, .int .i64 0, .slice none 0 0, .int .u32 0, .int .u32 0] (0, 0) _ rfl hg13 Tryz.underlying43 rfl (by kernel_rfl)) rfl ?_
      refine ⟨CellV.zero, ?_, ?_, CellV.zero_in _, ext_row T12.two.ext (Nat.le_refl _) _⟩
      · rw [Hqv.out]; rfl
      · rw [Hqv.out]; rfl
    | true =>
      have hqv : q = (C.x, 0) := by rw [Hq.out, if_pos ⟨Hlf.out, by simpa using heq⟩]
      have Hqv := Lib.hid hqv
      clear heq hqv hrd12 hA12
      go_wp2_with (first | (refine wpList_load_row rfl 43 (.tmp 6) rfl b rfl 43 C.cells (0, 0) _ hgb12 Tryz.underlying43 rfl (by rw [HCc.out]; kernel_rfl) ?_) | (refine wpList_store_row rfl 43 (.tmp 2) (.tmp 85) rfl w.heap.size C.cells rfl rfl _ _ hg12 (by rw [HCc.out]; kernel_rfl) (by rw [HCc.out]; rfl) (by rw [HCc.out]; first | kernel_rfl | simp [Value.oneCell']) ?_))
      have hg13 := setRow_heap w12 w.heap.size _ C.cells _ _ hg12
      (try simp only [Exit.inBlock, Exit.then])
      refine bodyPost_ret (results_row_tmp rfl _ _ w.heap.size 43 C.cells (0, 0) _ rfl hg13 Tryz.underlying43 rfl (by rw [HCc.out]; kernel_rfl)) rfl ?_
      refine ⟨C, ?_, ?_, ?_, ext_row T12.two.ext (Nat.le_refl _) _⟩
      · rw [Hqv.out]; rfl
      · rw [Hqv.out]
      · have hin : CellV.In (w12.setRow w.heap.size C.cells) ⟨A5, c5, A9, c9, ⟨key, n, rest, 0, 0⟩⟩ := ⟨by show 0 < 4294967296; omega, by show 0 < 4294967296; omega, by show -9223372036854775808 ≤ (n : Int); omega, by show (n : Int) ≤ 9223372036854775807; omega, (hown12.setR w.heap.size C.cells (fun k hk => by have := (hown12.row_lt k hk).1; omega)).rd', (ho12v.setR w.heap.size C.cells (fun k hk => by have := (ho12v.row_lt k hk).1; omega)).rd', hnc5, ho12v.nc⟩
        rwa [← HC.out] at hin

set_option maxRecDepth 100000 in
set_option maxHeartbeats 2000000 in
theorem getLeaf_big (A : Option Addr) (bs : List UInt8) (k : UInt8) (t : List UInt8) (c : Nat) (w : World) (hA : RdB w A bs) (hc : bs.length ≤ c) (hl : bs.length ≤ 1000000) (hbs : bs = k :: t) (key r : List UInt8) (hkey : t.take k.toNat = key) (hdr : t.drop k.toNat = r) (n x : Nat) (hget : Vint.get r = (n, x, 0)) (hn : n ≤ 1000) (h40 : ¬ n ≤ 40) (rest : List UInt8) (hrest : r.drop x = rest)
    (q : Cl × Nat) (hq : q = if (Cl.mk key n [] (Vint.number rest % 4294967296) 0).leaf = true ∧ (Cl.mk key n [] (Vint.number rest % 4294967296) 0).flatL = bs then ((Cl.mk key n [] (Vint.number rest % 4294967296) 0), 0) else (Cl.zero, 70)) :
    Calls Tryz.prog 56 #[.slice A bs.length c] w fun e w' => ∃ C : CellV, e = .returned (.tuple #[C.val, .int .i64 (q.2 : Int)]) ∧ C.x = q.1 ∧ C.In w' ∧ Below w.heap.size w w' := by
  obtain ⟨e0, he0⟩ : ∃ e0 : Nat, e0 = 0 := ⟨_, rfl⟩
  rw [← he0] at hget
  have hcan := Vint.get_canon (by rw [← he0]; exact hget)
  obtain ⟨q2, hq2⟩ : ∃ q2, q2 = r.take x := ⟨_, rfl⟩
  have H1 := Lib.hid (show bs.take 1 = [k] by rw [hbs]; rfl)
  have H2 := Lib.hid (show bs.drop 1 = t by rw [hbs]; rfl)
  have htl : t.length + 1 = bs.length := by rw [hbs]; rfl
  have hk := k.toNat_lt
  have Hbs := Lib.hid hbs
  have hkl : key.length ≤ bs.length := by rw [← hkey, List.length_take]; omega
  have hrl : r.length = t.length - k.toNat := by rw [← hdr, List.length_drop]
  have hxl := hcan.2.2
  have hx1 := hcan.2.1
  have hrestl : rest.length ≤ bs.length := by rw [← hrest, List.length_drop]; omega
  have HK := Lib.hid hkey
  have HR := Lib.hid hdr
  have Hget := Lib.hid hget
  have Hq := Lib.hid hq
  have Hq2 := Lib.hid hq2
  have Hrest := Lib.hid hrest
  have He0 := Lib.hid he0
  have hle : 1 + k.toNat ≤ bs.length := by omega
  have hcc : ¬ c = 1 + k.toNat := by omega
  have hr := rest_rd hA Hbs.out HR.out hle hc
  have hrc : r.length ≤ c - (1 + k.toNat) := by omega
  have Hrl : Hid (bs.length - (1 + k.toNat) = r.length) := by show _ = _; omega
  have hwn : IntKind.i64.wrap (n : Int) = (n : Int) := by rw [IntKind.wrap_i64]; omega
  rw [if_neg hcc] at hr
  clear hrl hbs hkey hdr hget hq hq2 hrest he0 hcan
  go_enter Tryz.func56, Tryz.ntmps56
  go_wp2_with fail
  refine (cutter_any A bs.length _ _).mono ?_
  rintro e w1 ⟨rfl, hw1⟩
  have T1 := Two.new w w1 A bs _ hA hc hw1
  clear hw1
  go_wp2_with fail
  have hcut := cut_any (w.heap.size + 1) bs 1 w1 w T1.cut
  rw [H1.out, H2.out] at hcut
  (try simp only [World.size_alloc])
  refine hcut.mono ?_
  clear hcut
  rintro e w2 ⟨A1, c1, A2, c2, rfl, hw2, h1, h2, h3⟩
  have T2 := T1.step hw2 h2
  obtain ⟨ad, rfl, hk0⟩ := h1.at_ (k := 0) (by simp)
  have hk2 := T2.ext.load hk0
  simp only [List.getElem_cons_zero] at hk2
  rw [show ad.add 0 = ad from rfl] at hk2
  simp only [List.length_singleton] at h3 ⊢
  clear hw2 h1 h2 T1
  go_wp2_with fail
  have hcut := cut_any (w.heap.size + 1) t k.toNat w2 w T2.cut
  rw [HK.out, HR.out] at hcut
  refine hcut.mono ?_
  clear hcut
  rintro e w3 ⟨A3, c3, A4, c4, rfl, hw3, h1, h2, h3b⟩
  have T3 := T2.step hw3 h2
  clear hw3 h2 T2 hk2
  go_wp2_with fail
  refine (clone_any A3 key c3 w3 (h1.below T3.ext) (by omega)).mono ?_
  rintro e w4 ⟨A5, c5, rfl, ho5, hb5⟩
  have T4 := T3.below hb5
  have hk4 := T4.ext.load hk0
  simp only [List.getElem_cons_zero] at hk4
  rw [show ad.add 0 = ad from rfl] at hk4
  have hk5 := Ext.load (Ext.alloc w4 (.cells #[.slice A5 key.length c5, .int .i64 0, .slice none 0 0, .int .u32 0, .int .u32 0] 43)) hk4
  clear h1 h3b hb5 hk4 hk0
  go_wp2_with fail
  have T5 := Three.new T4 #[.slice A5 key.length c5, .int .i64 0, .slice none 0 0, .int .u32 0, .int .u32 0]
  rw [show bs.length - (1 + k.toNat) = r.length from Hrl.out]
  refine (get_any _ r _ _ (hr.below T5.two.ext) (by omega)).mono ?_
  rintro e w6 ⟨rfl, hb6⟩
  have T6 := T5.below hb6
  rw [Hget.out]
  simp only [getRes]
  rw [He0.out]
  have h4lt := T5.far
  obtain ⟨b, hb⟩ : ∃ b, b = w4.heap.size := ⟨_, rfl⟩
  have hown5 := ho5.below (Ext.tr (Ext.alloc w4 (.cells #[.slice A5 key.length c5, .int .i64 0, .slice none 0 0, .int .u32 0, .int .u32 0] 43)) hb6)
  have hown6 := hown5.mono (show w.heap.size + 2 ≤ w3.heap.size by have := T3.cut.lt; omega)
  have hkb : ∀ k, ownRow A5 c5 = some k → k < w4.heap.size := fun k hk => (ho5.row_lt k hk).2
  have hrd5 := hown5.rd'
  have hnc5 := hown5.nc
  rw [← hb] at T6 h4lt hkb
  simp only [← hb]
  clear hb ho5 T5 T4 T3 hb6 hk5 hown5
  go_wp2_with fail
  have hcut := cut_any (w.heap.size + 1) r x w6 w T6.two.cut
  rw [← Hq2.out, Hrest.out] at hcut
  refine hcut.mono ?_
  clear hcut
  rintro e w7 ⟨A6, c6, A7, c7, rfl, hw7, h1, h2, h3⟩
  have T7 := T6.step hw7 h2
  have hown7 : Own w7 (w.heap.size + 2) 5 1 A5 key.length c5 (bvs key) := by rw [← hw7]; exact hown6.setO _ _ (fun k hk => by have := (hown6.row_lt k hk).1; show k ≠ w.heap.size + 1; omega)
  have hown8 : Own (w7.setCell ⟨b, 1, none⟩ (.int .i64 (n : Int))) (w.heap.size + 2) 5 1 A5 key.length c5 (bvs key) := hown7.setO _ _ (fun k hk => by have := hkb k hk; show k ≠ b; omega)
  have T8 : Three w (w7.setCell ⟨b, 1, none⟩ (.int .i64 (n : Int))) rest b #[.slice A5 key.length c5, .int .i64 (n : Int), .slice none 0 0, .int .u32 0, .int .u32 0] := T7.store 1 _
  have hcl := T7.cell 1
  have hfr := T7.free 1
  simp only [List.getElem?_toArray, List.getElem?_cons_succ, List.getElem?_cons_zero] at hcl
  clear T6 T7 h1 h2 h3 hw7 hown6 hown7 hrd5
  go_wp2_with fail
  have hcut := cut_any (w.heap.size + 1) rest bs.length _ w T8.two.cut
  rw [List.take_of_length_le hrestl, List.drop_of_length_le hrestl] at hcut
  refine hcut.mono ?_
  clear hcut
  rintro e w9 ⟨A8, c8, A7, c7, rfl, hw9, h1, h2, h3⟩
  have T9 := T8.step hw9 h2
  have hown9 : Own w9 (w.heap.size + 2) 5 1 A5 key.length c5 (bvs key) := by rw [← hw9]; exact hown8.setO _ _ (fun k hk => by have := (hown8.row_lt k hk).1; show k ≠ w.heap.size + 1; omega)
  have hcl2 := T9.cell 1
  simp only [List.getElem?_toArray, List.getElem?_cons_succ, List.getElem?_cons_zero] at hcl2
  clear T8 hown8 hcl hfr h2 hw9
  go_wp2_with fail
  refine (number_any A8 rest c8 w9 (h1.below T9.two.ext) (by omega)).mono ?_
  rintro e w10 ⟨rfl, rfl⟩
  have hwv : IntKind.u32.wrap (Vint.number rest : Int) = ((Vint.number rest % 4294967296 : Nat) : Int) := by simp [IntKind.wrap, IntKind.bits, IntKind.signed]
  have hcl3 := T9.cell 3
  have hfr3 := T9.free 3
  simp only [List.getElem?_toArray, List.getElem?_cons_succ, List.getElem?_cons_zero] at hcl3
  obtain ⟨v, hv⟩ : ∃ v, v = Vint.number rest % 4294967296 := ⟨_, rfl⟩
  rw [← hv] at hwv
  have hvl : v < 4294967296 := by rw [hv]; exact Nat.mod_lt _ (by omega)
  have T11 : Three w (w9.setCell ⟨b, 3, none⟩ (.int .u32 (v : Int))) [] b #[.slice A5 key.length c5, .int .i64 (n : Int), .slice none 0 0, .int .u32 (v : Int), .int .u32 0] := T9.store 3 _
  have hown11 := hown9.setO ⟨b, 3, none⟩ (.int .u32 (v : Int)) (fun k hk => by have := hkb k hk; show k ≠ b; omega)
  clear T9 hown9 h1 hcl2
  have hg11 := T11.row
  obtain ⟨C, hC⟩ : ∃ C : CellV, C = ⟨A5, c5, none, 0, ⟨key, n, [], v, 0⟩⟩ := ⟨_, rfl⟩
  have hCx : C.x = ⟨key, n, [], Vint.number rest % 4294967296, 0⟩ := by rw [hC, ← hv]
  have hCc : C.cells = #[.slice A5 key.length c5, .int .i64 (n : Int), .slice none 0 0, .int .u32 (v : Int), .int .u32 0] := by rw [hC]; rfl
  have hCin : C.In (w9.setCell ⟨b, 3, none⟩ (.int .u32 (v : Int))) := by
    rw [hC]
    exact ⟨hvl, by show 0 < 4294967296; omega, by show -9223372036854775808 ≤ (n : Int); omega, by show (n : Int) ≤ 9223372036854775807; omega, hown11.rd', RdB.nil_ _ _, hnc5, Nat.zero_le _⟩
  have Hv := Lib.hid hv
  clear hv
  rw [← hCx] at Hq
  rw [← hCc] at hg11
  have hP := putLeaf_any C _ hCin
  simp only [CellV.val] at hP
  have HCx := Lib.hid hCx
  have HCc := Lib.hid hCc
  have HC := Lib.hid hC
  clear hC hCx hCc hCin
  go_wp2_with (refine wpList_load_row rfl 43 (.tmp 6) rfl b rfl 43 C.cells (0, 0) _ hg11 Tryz.underlying43 rfl (by rw [HCc.out]; kernel_rfl) ?_)
  cases hlf : C.x.leaf with
  | false =>
    have hqv : q = (Cl.zero, 70) := by rw [Hq.out, if_neg (by rw [hlf]; simp)]
    have e1 : C.x.putL = ([], 70) := by unfold Cl.putL; rw [if_neg (by rw [hlf]; simp)]
    rw [e1] at hP
    clear e1 hlf
    refine hP.mono ?_
    rintro e w12 ⟨A12, c12, rfl, ho12, hb12⟩
    have T12 := T11.below hb12
    have hg12 := T12.two.row
    have Hqv := Lib.hid hqv
    clear hP hqv T11 hg11 ho12 hb12
    go_wp2_with (refine wpList_store_row rfl 43 (.tmp 2) (.tmp 84) rfl w.heap.size #[.slice none 0 0, .int .i64 0, .slice none 0 0, .int .u32 0, .int .u32 0] rfl rfl _ _ hg12 (by kernel_rfl) rfl (by kernel_rfl) ?_)
    have hg13 := setRow_heap w12 w.heap.size _ #[.slice none 0 0, .int .i64 0, .slice none 0 0, .int .u32 0, .int .u32 0] _ _ hg12
    (try simp only [Exit.inBlock, Exit.then])
    refine bodyPost_ret (results_row_tmp rfl _ _ w.heap.size 43 #[.slice none 0 0, .int .i64 0, .slice none 0 0, .int .u32 0, .int .u32 0] (0, 0) _ rfl hg13 Tryz.underlying43 rfl (by kernel_rfl)) rfl ?_
    refine ⟨CellV.zero, ?_, ?_, CellV.zero_in _, ext_row T12.two.ext (Nat.le_refl _) _⟩
    · rw [Hqv.out]; rfl
    · rw [Hqv.out]; rfl
  | true =>
    have e1 : C.x.putL = (C.x.flatL, 0) := by unfold Cl.putL; rw [if_pos hlf]
    rw [e1] at hP
    have Hlf := Lib.hid hlf
    clear e1 hlf
    refine hP.mono ?_
    rintro e w12 ⟨A12, c12, rfl, ho12, hb12⟩
    have T12 := T11.below hb12
    have hg12 := T12.two.row
    have hgb12 := T12.row
    rw [← HCc.out] at hgb12
    have hrd12 := ho12.rd'
    have hA12 := hA.below T12.two.ext
    have hown12 := hown11.below hb12
    clear hP T11 hg11 ho12 hb12
    obtain ⟨fl, hfl⟩ : ∃ fl, fl = C.x.flatL := ⟨_, rfl⟩
    rw [← hfl] at hrd12 Hq ⊢
    have Hfl := Lib.hid hfl
    clear hfl
    go_wp2_with fail
    refine (equal_any A12 A fl bs _ _ w12 hrd12 hA12).mono ?_
    rintro e w13 ⟨rfl, rfl⟩
    cases heq : (fl == bs) with
    | false =>
      have hqv : q = (Cl.zero, 70) := by rw [Hq.out, if_neg (by rintro ⟨_, h⟩; rw [h] at heq; simp at heq)]
      have Hqv := Lib.hid hqv
      clear heq hqv hrd12 hA12
      go_wp2_with (refine wpList_store_row rfl 43 (.tmp 2) (.tmp 84) rfl w.heap.size #[.slice none 0 0, .int .i64 0, .slice none 0 0, .int .u32 0, .int .u32 0] rfl rfl _ _ hg12 (by kernel_rfl) rfl (by kernel_rfl) ?_)
      have hg13 := setRow_heap w12 w.heap.size _ #[.slice none 0 0, .int .i64 0, .slice none 0 0, .int .u32 0, .int .u32 0] _ _ hg12
      (try simp only [Exit.inBlock, Exit.then])
      refine bodyPost_ret (results_row_tmp rfl _ _ w.heap.size 43 #[.slice none 0 0, .int .i64 0, .slice none 0 0, .int .u32 0, .int .u32 0] (0, 0) _ rfl hg13 Tryz.underlying43 rfl (by kernel_rfl)) rfl ?_
      refine ⟨CellV.zero, ?_, ?_, CellV.zero_in _, ext_row T12.two.ext (Nat.le_refl _) _⟩
      · rw [Hqv.out]; rfl
      · rw [Hqv.out]; rfl
    | true =>
      have hqv : q = (C.x, 0) := by rw [Hq.out, if_pos ⟨Hlf.out, by simpa using heq⟩]
      have Hqv := Lib.hid hqv
      clear heq hqv hrd12 hA12
      go_wp2_with (first | (refine wpList_load_row rfl 43 (.tmp 6) rfl b rfl 43 C.cells (0, 0) _ hgb12 Tryz.underlying43 rfl (by rw [HCc.out]; kernel_rfl) ?_) | (refine wpList_store_row rfl 43 (.tmp 2) (.tmp 85) rfl w.heap.size C.cells rfl rfl _ _ hg12 (by rw [HCc.out]; kernel_rfl) (by rw [HCc.out]; rfl) (by rw [HCc.out]; first | kernel_rfl | simp [Value.oneCell']) ?_))
      have hg13 := setRow_heap w12 w.heap.size _ C.cells _ _ hg12
      (try simp only [Exit.inBlock, Exit.then])
      refine bodyPost_ret (results_row_tmp rfl _ _ w.heap.size 43 C.cells (0, 0) _ rfl hg13 Tryz.underlying43 rfl (by rw [HCc.out]; kernel_rfl)) rfl ?_
      refine ⟨C, ?_, ?_, ?_, ext_row T12.two.ext (Nat.le_refl _) _⟩
      · rw [Hqv.out]; rfl
      · rw [Hqv.out]
      · have hin : CellV.In (w12.setRow w.heap.size C.cells) ⟨A5, c5, none, 0, ⟨key, n, [], v, 0⟩⟩ := ⟨hvl, by show 0 < 4294967296; omega, by show -9223372036854775808 ≤ (n : Int); omega, by show (n : Int) ≤ 9223372036854775807; omega, (hown12.setR w.heap.size C.cells (fun k hk => by have := (hown12.row_lt k hk).1; omega)).rd', RdB.nil_ _ _, hnc5, Nat.zero_le _⟩
        rwa [← HC.out] at hin

theorem getLeaf_any (A : Option Addr) (bs : List UInt8) (c : Nat) (w : World) (hA : RdB w A bs) (hc : bs.length ≤ c) (hl : bs.length ≤ 1000000) :
    Calls Tryz.prog 56 #[.slice A bs.length c] w fun e w' => ∃ C : CellV, e = .returned (.tuple #[C.val, .int .i64 ((Cl.getL bs).2 : Int)]) ∧ C.x = (Cl.getL bs).1 ∧ C.In w' ∧ Below w.heap.size w w' := by
  obtain ⟨q, hq⟩ : ∃ q, q = Cl.getL bs := ⟨_, rfl⟩
  rw [← hq]
  have zero : ∀ (e : Ending) (w' : World), q = (Cl.zero, 70) → e = .returned (.tuple #[.agg cz, .int .i64 70]) ∧ Below w.heap.size w w' → ∃ C : CellV, e = .returned (.tuple #[C.val, .int .i64 (q.2 : Int)]) ∧ C.x = q.1 ∧ C.In w' ∧ Below w.heap.size w w' := by
    rintro e w' rfl ⟨rfl, hb⟩
    exact ⟨CellV.zero, rfl, rfl, CellV.zero_in _, hb⟩
  cases hbs : bs with
  | nil =>
    subst hbs
    exact (getLeaf_nil A c w hA).mono fun e w' h => zero e w' hq h
  | cons k t =>
    rw [← hbs]
    obtain ⟨n, x, e0, hget⟩ : ∃ n x e0, Vint.get (t.drop k.toNat) = (n, x, e0) := ⟨_, _, _, rfl⟩
    by_cases hbad : e0 ≠ 0 ∨ 1000 < n
    · refine (getLeaf_bad A bs k t c w hA hc hl hbs _ _ rfl rfl n x e0 hget hbad).mono fun e w' h => zero e w' ?_ h
      rw [hq, hbs]
      unfold Cl.getL Cl.candL
      simp only [hget]
      rw [if_neg (by omega)]
    · have he0 : e0 = 0 := by omega
      have hn : n ≤ 1000 := by omega
      subst he0
      have hcand : Cl.candL bs = some ⟨t.take k.toNat, n, if n ≤ 40 then (t.drop k.toNat).drop x else [], if n ≤ 40 then 0 else Vint.number ((t.drop k.toNat).drop x) % 4294967296, 0⟩ := by
        rw [hbs]
        unfold Cl.candL
        simp only [hget]
        rw [if_pos ⟨trivial, hn⟩]
      by_cases h40 : n ≤ 40
      · refine getLeaf_small A bs k t c w hA hc hl hbs _ _ rfl rfl n x hget hn h40 _ rfl q ?_
        rw [hq]
        unfold Cl.getL
        rw [hcand]
        simp only [if_pos h40]
      · refine getLeaf_big A bs k t c w hA hc hl hbs _ _ rfl rfl n x hget hn h40 _ rfl q ?_
        rw [hq]
        unfold Cl.getL
        rw [hcand]
        simp only [if_neg h40]
end Go.Proofs.YtkpagmfaccmiaaaGreat
