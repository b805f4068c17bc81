
/- Contracts: bytes as an inner page's cell (cell.GetInner). Printed by wip/tools/gen_cellget3.py. -/

import Derived.Test.YtkpagmfaccmiaaaGreatCellGetG

namespace Go.Proofs.YtkpagmfaccmiaaaGreat

open Go.RowKit

attribute [local go_sem] Oper.semAt_some

set_option maxRecDepth 100000 in
set_option maxHeartbeats 2000000 in
theorem getInner_long (A : Option Addr) (bs : List UInt8) (c : Nat) (w : World) (hA : RdB w A bs) (hc : bs.length ≤ c) (hl : bs.length ≤ 1000000) (q4 r1 r2 : List UInt8) (h4a : bs.take 4 = q4) (h4b : bs.drop 4 = r1) (k : UInt8) (hn1 : r1.take 1 = [k]) (hr2 : r1.drop 1 = r2) (key : List UInt8) (hkey : r2.take k.toNat = key)
    (v : Nat) (hv : Vint.number q4 % 4294967296 = v) (q : Cl × Nat) (hq : q = if (Cl.mk key 0 [] 0 v).inner = true ∧ (Cl.mk key 0 [] 0 v).flatI = bs then (Cl.mk key 0 [] 0 v, 0) else (Cl.zero, 70)) :
    Calls Tryz.prog 58 #[.slice A bs.length c] w fun e w' => ∃ C : CellV, e = .returned (.tuple #[C.val, .int .i64 (q.2 : Int)]) ∧ C.x = q.1 ∧ C.In w' ∧ Below w.heap.size w w' := by
  have hq4l : q4.length ≤ bs.length := by rw [← h4a, List.length_take]; omega
  have hvl : v < 4294967296 := by rw [← hv]; exact Nat.mod_lt _ (by omega)
  have hwv : IntKind.u32.wrap (Vint.number q4 : Int) = (v : Int) := by rw [← hv]; simp [IntKind.wrap, IntKind.bits, IntKind.signed]
  have hk := k.toNat_lt
  have hkl : key.length ≤ bs.length := by rw [← hkey, ← hr2, ← h4b, List.length_take, List.length_drop, List.length_drop]; omega
  have H4a := Lib.hid h4a
  have H4b := Lib.hid h4b
  have Hn1 := Lib.hid hn1
  have Hr2 := Lib.hid hr2
  have Hq := Lib.hid hq
  have HK := Lib.hid hkey
  clear h4a h4b hn1 hr2 hq hv hkey
  go_enter Tryz.func58, Tryz.ntmps58
  go_wp2_with fail
  refine (cutter_any A bs.length _ _).mono ?_
  rintro e w1 ⟨rfl, hw1⟩
  have T1 := Two.new w w1 A bs _ hA hc hw1
  clear hw1
  go_wp2_with fail
  have hcut := cut_any (w.heap.size + 1) bs 4 w1 w T1.cut
  rw [H4a.out, H4b.out] at hcut
  (try simp only [World.size_alloc])
  refine hcut.mono ?_
  clear hcut
  rintro e w2 ⟨A1, c1, A2, c2, rfl, hw2, h1, h2, h3⟩
  have T2 := T1.step hw2 h2
  clear hw2 h2 T1
  go_wp2_with fail
  have hcut := cut_any (w.heap.size + 1) r1 1 w2 w T2.cut
  rw [Hn1.out, Hr2.out] at hcut
  refine hcut.mono ?_
  clear hcut
  rintro e w3 ⟨A3, c3, A4, c4, rfl, hw3, g1, h2, g3⟩
  have T3 := T2.step hw3 h2
  clear hw3 h2 T2
  (try simp only [List.length_singleton] at g3 ⊢)
  (try simp only [List.length_nil] at g3 ⊢)
  obtain ⟨ad, rfl, hk0⟩ := g1.at_ (k := 0) (by simp)
  have hk3 := T3.ext.load hk0
  simp only [List.getElem_cons_zero] at hk3
  rw [show ad.add 0 = ad from rfl] at hk3
  have hk4 := Ext.load (Ext.alloc w3 (.cells #[.slice none 0 0, .int .i64 0, .slice none 0 0, .int .u32 0, .int .u32 (v : Int)] 43)) hk3
  go_wp2_with fail
  refine (number_any A1 q4 c1 w3 (h1.below T3.ext) (by omega)).mono ?_
  rintro e w9 ⟨rfl, rfl⟩
  have T4 := Three.new T3 #[.slice none 0 0, .int .i64 0, .slice none 0 0, .int .u32 0, .int .u32 (v : Int)]
  have hblt : w.heap.size + 1 < w3.heap.size := T4.far
  clear h1 g1 T3 hk3 hk0
  go_wp2_with fail
  have hcut := cut_any (w.heap.size + 1) r2 k.toNat _ w T4.two.cut
  rw [HK.out] at hcut
  refine hcut.mono ?_
  clear hcut
  rintro e w5 ⟨A5, c5, A6, c6, rfl, hw5, h1, h2, h5⟩
  obtain ⟨r3, hr3⟩ : ∃ r3, r3 = r2.drop k.toNat := ⟨_, rfl⟩
  rw [← hr3] at h2 hw5
  have T5 := T4.step hw5 h2
  clear hw5 h2 T4 hr3 hk4
  go_wp2_with fail
  refine (clone_any A5 key c5 w5 (h1.below T5.two.ext) (by omega)).mono ?_
  rintro e w6 ⟨A7, c7, rfl, ho7, hb6⟩
  have T6 := T5.below hb6
  have hb5lt : w3.heap.size < w5.heap.size := lt_of_heap T5.row
  have hcl := T6.cell 0
  have hfr := T6.free 0
  simp only [List.getElem?_toArray, List.getElem?_cons_succ, List.getElem?_cons_zero] at hcl
  obtain ⟨b, hb⟩ : ∃ b, b = w3.heap.size := ⟨_, rfl⟩
  rw [← hb] at hcl hfr hb5lt T6 hblt
  simp only [← hb]
  clear T5 hb6 h1 hb
  have T11 : Three w (w6.setCell ⟨b, 0, none⟩ (.slice A7 key.length c7)) r3 b #[.slice A7 key.length c7, .int .i64 0, .slice none 0 0, .int .u32 0, .int .u32 (v : Int)] := T6.store 0 _
  have hown11 := ho7.setO ⟨b, 0, none⟩ (.slice A7 key.length c7) (fun k hk => by have := (ho7.row_lt k hk).1; show k ≠ b; omega)
  have hnc7 := ho7.nc
  clear T6 ho7
  have hg11 := T11.row
  obtain ⟨C, hC⟩ : ∃ C : CellV, C = ⟨A7, c7, none, 0, ⟨key, 0, [], 0, v⟩⟩ := ⟨_, rfl⟩
  have hCx : C.x = ⟨key, 0, [], 0, v⟩ := by rw [hC]
  have hCc : C.cells = #[.slice A7 key.length c7, .int .i64 0, .slice none 0 0, .int .u32 0, .int .u32 (v : Int)] := by rw [hC]; rfl
  have hCin : C.In (w6.setCell ⟨b, 0, none⟩ (.slice A7 key.length c7)) := by
    rw [hC]
    exact ⟨by show 0 < 4294967296; omega, hvl, by show (-9223372036854775808 : Int) ≤ 0; omega, by show (0 : Int) ≤ 9223372036854775807; omega, hown11.rd', RdB.nil_ _ _, hnc7, Nat.zero_le _⟩
  rw [← hCx] at Hq
  rw [← hCc] at hg11
  have hP := putInner_any C _ hCin
  simp only [CellV.val] at hP
  have HCx := Lib.hid hCx
  have HCc := Lib.hid hCc
  have HC := Lib.hid hC
  clear hC hCx hCc hCin
  go_wp2_with (refine wpList_load_row rfl 43 (.tmp 7) rfl b rfl 43 C.cells (0, 0) _ hg11 Tryz.underlying43 rfl (by rw [HCc.out]; kernel_rfl) ?_)
  cases hlf : C.x.inner with
  | false =>
    have hqv : q = (Cl.zero, 70) := by rw [Hq.out, if_neg (by rw [hlf]; simp)]
    have e1 : C.x.putI = ([], 70) := by unfold Cl.putI; rw [if_neg (by rw [hlf]; simp)]
    rw [e1] at hP
    clear e1 hlf
    refine hP.mono ?_
    rintro e w12 ⟨A12, c12, rfl, ho12, hb12⟩
    have T12 := T11.below hb12
    have hg12 := T12.two.row
    have Hqv := Lib.hid hqv
    clear hP hqv T11 hg11 ho12 hb12
    go_wp2_with (refine wpList_store_row rfl 43 (.tmp 2) (.tmp 44) rfl w.heap.size #[.slice none 0 0, .int .i64 0, .slice none 0 0, .int .u32 0, .int .u32 0] rfl rfl _ _ hg12 (by kernel_rfl) rfl (by kernel_rfl) ?_)
    have hg13 := setRow_heap w12 w.heap.size _ #[.slice none 0 0, .int .i64 0, .slice none 0 0, .int .u32 0, .int .u32 0] _ _ hg12
    (try simp only [Exit.inBlock, Exit.then])
    refine bodyPost_ret (results_row_tmp rfl _ _ w.heap.size 43 #[.slice none 0 0, .int .i64 0, .slice none 0 0, .int .u32 0, .int .u32 0] (0, 0) _ rfl hg13 Tryz.underlying43 rfl (by kernel_rfl)) rfl ?_
    refine ⟨CellV.zero, ?_, ?_, CellV.zero_in _, ext_row T12.two.ext (Nat.le_refl _) _⟩
    · rw [Hqv.out]; rfl
    · rw [Hqv.out]; rfl
  | true =>
    have e1 : C.x.putI = (C.x.flatI, 0) := by unfold Cl.putI; rw [if_pos hlf]
    rw [e1] at hP
    have Hlf := Lib.hid hlf
    clear e1 hlf
    refine hP.mono ?_
    rintro e w12 ⟨A12, c12, rfl, ho12, hb12⟩
    have T12 := T11.below hb12
    have hg12 := T12.two.row
    have hgb12 := T12.row
    rw [← HCc.out] at hgb12
    have hrd12 := ho12.rd'
    have hA12 := hA.below T12.two.ext
    have hown12 := hown11.below hb12
    clear hP T11 hg11 ho12 hb12
    obtain ⟨fl, hfl⟩ : ∃ fl, fl = C.x.flatI := ⟨_, rfl⟩
    rw [← hfl] at hrd12 Hq ⊢
    have Hfl := Lib.hid hfl
    clear hfl
    go_wp2_with fail
    refine (equal_any A12 A fl bs _ _ w12 hrd12 hA12).mono ?_
    rintro e w13 ⟨rfl, rfl⟩
    cases heq : (fl == bs) with
    | false =>
      have hqv : q = (Cl.zero, 70) := by rw [Hq.out, if_neg (by rintro ⟨_, h⟩; rw [h] at heq; simp at heq)]
      have Hqv := Lib.hid hqv
      clear heq hqv hrd12 hA12
      go_wp2_with (refine wpList_store_row rfl 43 (.tmp 2) (.tmp 44) rfl w.heap.size #[.slice none 0 0, .int .i64 0, .slice none 0 0, .int .u32 0, .int .u32 0] rfl rfl _ _ hg12 (by kernel_rfl) rfl (by kernel_rfl) ?_)
      have hg13 := setRow_heap w12 w.heap.size _ #[.slice none 0 0, .int .i64 0, .slice none 0 0, .int .u32 0, .int .u32 0] _ _ hg12
      (try simp only [Exit.inBlock, Exit.then])
      refine bodyPost_ret (results_row_tmp rfl _ _ w.heap.size 43 #[.slice none 0 0, .int .i64 0, .slice none 0 0, .int .u32 0, .int .u32 0] (0, 0) _ rfl hg13 Tryz.underlying43 rfl (by kernel_rfl)) rfl ?_
      refine ⟨CellV.zero, ?_, ?_, CellV.zero_in _, ext_row T12.two.ext (Nat.le_refl _) _⟩
      · rw [Hqv.out]; rfl
      · rw [Hqv.out]; rfl
    | true =>
      have hqv : q = (C.x, 0) := by rw [Hq.out, if_pos ⟨Hlf.out, by simpa using heq⟩]
      have Hqv := Lib.hid hqv
      clear heq hqv hrd12 hA12
      go_wp2_with (first | (refine wpList_load_row rfl 43 (.tmp 7) rfl b rfl 43 C.cells (0, 0) _ hgb12 Tryz.underlying43 rfl (by rw [HCc.out]; kernel_rfl) ?_) | (refine wpList_store_row rfl 43 (.tmp 2) (.tmp 45) rfl w.heap.size C.cells rfl rfl _ _ hg12 (by rw [HCc.out]; kernel_rfl) (by rw [HCc.out]; rfl) (by rw [HCc.out]; first | kernel_rfl | simp [Value.oneCell']) ?_))
      have hg13 := setRow_heap w12 w.heap.size _ C.cells _ _ hg12
      (try simp only [Exit.inBlock, Exit.then])
      refine bodyPost_ret (results_row_tmp rfl _ _ w.heap.size 43 C.cells (0, 0) _ rfl hg13 Tryz.underlying43 rfl (by rw [HCc.out]; kernel_rfl)) rfl ?_
      refine ⟨C, ?_, ?_, ?_, ext_row T12.two.ext (Nat.le_refl _) _⟩
      · rw [Hqv.out]; rfl
      · rw [Hqv.out]
      · have hin : CellV.In (w12.setRow w.heap.size C.cells) ⟨A7, c7, none, 0, ⟨key, 0, [], 0, v⟩⟩ := ⟨by show 0 < 4294967296; omega, hvl, by show (-9223372036854775808 : Int) ≤ 0; omega, by show (0 : Int) ≤ 9223372036854775807; omega, (hown12.setR w.heap.size C.cells (fun k hk => by have := (hown12.row_lt k hk).1; omega)).rd', RdB.nil_ _ _, hnc7, Nat.zero_le _⟩
        rwa [← HC.out] at hin

set_option maxRecDepth 100000 in
set_option maxHeartbeats 2000000 in
theorem getInner_short (A : Option Addr) (bs : List UInt8) (c : Nat) (w : World) (hA : RdB w A bs) (hc : bs.length ≤ c) (hl : bs.length ≤ 1000000) (q4 r1 r2 : List UInt8) (h4a : bs.take 4 = q4) (h4b : bs.drop 4 = r1) (hn1 : r1.take 1 = []) (hr2 : r1.drop 1 = r2) (key : List UInt8) (hkey : key = [])
    (v : Nat) (hv : Vint.number q4 % 4294967296 = v) (q : Cl × Nat) (hq : q = if (Cl.mk key 0 [] 0 v).inner = true ∧ (Cl.mk key 0 [] 0 v).flatI = bs then (Cl.mk key 0 [] 0 v, 0) else (Cl.zero, 70)) :
    Calls Tryz.prog 58 #[.slice A bs.length c] w fun e w' => ∃ C : CellV, e = .returned (.tuple #[C.val, .int .i64 (q.2 : Int)]) ∧ C.x = q.1 ∧ C.In w' ∧ Below w.heap.size w w' := by
  have hq4l : q4.length ≤ bs.length := by rw [← h4a, List.length_take]; omega
  have hvl : v < 4294967296 := by rw [← hv]; exact Nat.mod_lt _ (by omega)
  have hwv : IntKind.u32.wrap (Vint.number q4 : Int) = (v : Int) := by rw [← hv]; simp [IntKind.wrap, IntKind.bits, IntKind.signed]
  subst hkey
  have H4a := Lib.hid h4a
  have H4b := Lib.hid h4b
  have Hn1 := Lib.hid hn1
  have Hr2 := Lib.hid hr2
  have Hq := Lib.hid hq
  clear h4a h4b hn1 hr2 hq hv
  go_enter Tryz.func58, Tryz.ntmps58
  go_wp2_with fail
  refine (cutter_any A bs.length _ _).mono ?_
  rintro e w1 ⟨rfl, hw1⟩
  have T1 := Two.new w w1 A bs _ hA hc hw1
  clear hw1
  go_wp2_with fail
  have hcut := cut_any (w.heap.size + 1) bs 4 w1 w T1.cut
  rw [H4a.out, H4b.out] at hcut
  (try simp only [World.size_alloc])
  refine hcut.mono ?_
  clear hcut
  rintro e w2 ⟨A1, c1, A2, c2, rfl, hw2, h1, h2, h3⟩
  have T2 := T1.step hw2 h2
  clear hw2 h2 T1
  go_wp2_with fail
  have hcut := cut_any (w.heap.size + 1) r1 1 w2 w T2.cut
  rw [Hn1.out, Hr2.out] at hcut
  refine hcut.mono ?_
  clear hcut
  rintro e w3 ⟨A3, c3, A4, c4, rfl, hw3, g1, h2, g3⟩
  have T3 := T2.step hw3 h2
  clear hw3 h2 T2
  (try simp only [List.length_singleton] at g3 ⊢)
  (try simp only [List.length_nil] at g3 ⊢)
  go_wp2_with fail
  refine (number_any A1 q4 c1 w3 (h1.below T3.ext) (by omega)).mono ?_
  rintro e w9 ⟨rfl, rfl⟩
  have T4 := Three.new T3 #[.slice none 0 0, .int .i64 0, .slice none 0 0, .int .u32 0, .int .u32 (v : Int)]
  have hblt : w.heap.size + 1 < w3.heap.size := T4.far
  obtain ⟨b, hb⟩ : ∃ b, b = w3.heap.size := ⟨_, rfl⟩
  have T11 := T4
  have hg11 := T11.row
  rw [← hb] at T11 hg11 hblt
  obtain ⟨C, hC⟩ : ∃ C : CellV, C = ⟨none, 0, none, 0, ⟨[], 0, [], 0, v⟩⟩ := ⟨_, rfl⟩
  have hCx : C.x = ⟨[], 0, [], 0, v⟩ := by rw [hC]
  have hCc : C.cells = #[.slice none 0 0, .int .i64 0, .slice none 0 0, .int .u32 0, .int .u32 (v : Int)] := by rw [hC]; rfl
  have hCin : C.In (w3.alloc (.cells #[.slice none 0 0, .int .i64 0, .slice none 0 0, .int .u32 0, .int .u32 (v : Int)] 43)) := by
    rw [hC]
    exact ⟨by show 0 < 4294967296; omega, hvl, by show (-9223372036854775808 : Int) ≤ 0; omega, by show (0 : Int) ≤ 9223372036854775807; omega, RdB.nil_ _ _, RdB.nil_ _ _, Nat.le_refl _, Nat.zero_le _⟩
  clear h1 g1 T3 T4
  rw [← hCx] at Hq
  rw [← hCc] at hg11
  have hP := putInner_any C _ hCin
  simp only [CellV.val] at hP
  have HCx := Lib.hid hCx
  have HCc := Lib.hid hCc
  have HC := Lib.hid hC
  clear hC hCx hCc hCin
  rw [hb] at hg11 T11
  clear hb hblt
  rw [HCc.out] at hP
  go_wp2_with fail
  cases hlf : C.x.inner with
  | false =>
    have hqv : q = (Cl.zero, 70) := by rw [Hq.out, if_neg (by rw [hlf]; simp)]
    have e1 : C.x.putI = ([], 70) := by unfold Cl.putI; rw [if_neg (by rw [hlf]; simp)]
    rw [e1] at hP
    clear e1 hlf
    refine hP.mono ?_
    rintro e w12 ⟨A12, c12, rfl, ho12, hb12⟩
    have T12 := T11.below hb12
    have hg12 := T12.two.row
    have Hqv := Lib.hid hqv
    clear hP hqv T11 hg11 ho12 hb12
    go_wp2_with (refine wpList_store_row rfl 43 (.tmp 2) (.tmp 44) rfl w.heap.size #[.slice none 0 0, .int .i64 0, .slice none 0 0, .int .u32 0, .int .u32 0] rfl rfl _ _ hg12 (by kernel_rfl) rfl (by kernel_rfl) ?_)
    have hg13 := setRow_heap w12 w.heap.size _ #[.slice none 0 0, .int .i64 0, .slice none 0 0, .int .u32 0, .int .u32 0] _ _ hg12
    (try simp only [Exit.inBlock, Exit.then])
    refine bodyPost_ret (results_row_tmp rfl _ _ w.heap.size 43 #[.slice none 0 0, .int .i64 0, .slice none 0 0, .int .u32 0, .int .u32 0] (0, 0) _ rfl hg13 Tryz.underlying43 rfl (by kernel_rfl)) rfl ?_
    refine ⟨CellV.zero, ?_, ?_, CellV.zero_in _, ext_row T12.two.ext (Nat.le_refl _) _⟩
    · rw [Hqv.out]; rfl
    · rw [Hqv.out]; rfl
  | true =>
    have e1 : C.x.putI = (C.x.flatI, 0) := by unfold Cl.putI; rw [if_pos hlf]
    rw [e1] at hP
    have Hlf := Lib.hid hlf
    clear e1 hlf
    refine hP.mono ?_
    rintro e w12 ⟨A12, c12, rfl, ho12, hb12⟩
    have T12 := T11.below hb12
    have hg12 := T12.two.row
    have hgb12 := T12.row
    rw [← HCc.out] at hgb12
    have hrd12 := ho12.rd'
    have hA12 := hA.below T12.two.ext
    clear hP T11 hg11 ho12 hb12
    obtain ⟨fl, hfl⟩ : ∃ fl, fl = C.x.flatI := ⟨_, rfl⟩
    rw [← hfl] at hrd12 Hq ⊢
    have Hfl := Lib.hid hfl
    clear hfl
    go_wp2_with fail
    refine (equal_any A12 A fl bs _ _ w12 hrd12 hA12).mono ?_
    rintro e w13 ⟨rfl, rfl⟩
    cases heq : (fl == bs) with
    | false =>
      have hqv : q = (Cl.zero, 70) := by rw [Hq.out, if_neg (by rintro ⟨_, h⟩; rw [h] at heq; simp at heq)]
      have Hqv := Lib.hid hqv
      clear heq hqv hrd12 hA12
      go_wp2_with (refine wpList_store_row rfl 43 (.tmp 2) (.tmp 44) rfl w.heap.size #[.slice none 0 0, .int .i64 0, .slice none 0 0, .int .u32 0, .int .u32 0] rfl rfl _ _ hg12 (by kernel_rfl) rfl (by kernel_rfl) ?_)
      have hg13 := setRow_heap w12 w.heap.size _ #[.slice none 0 0, .int .i64 0, .slice none 0 0, .int .u32 0, .int .u32 0] _ _ hg12
      (try simp only [Exit.inBlock, Exit.then])
      refine bodyPost_ret (results_row_tmp rfl _ _ w.heap.size 43 #[.slice none 0 0, .int .i64 0, .slice none 0 0, .int .u32 0, .int .u32 0] (0, 0) _ rfl hg13 Tryz.underlying43 rfl (by kernel_rfl)) rfl ?_
      refine ⟨CellV.zero, ?_, ?_, CellV.zero_in _, ext_row T12.two.ext (Nat.le_refl _) _⟩
      · rw [Hqv.out]; rfl
      · rw [Hqv.out]; rfl
    | true =>
      have hqv : q = (C.x, 0) := by rw [Hq.out, if_pos ⟨Hlf.out, by simpa using heq⟩]
      have Hqv := Lib.hid hqv
      clear heq hqv hrd12 hA12
      go_wp2_with (first | (refine wpList_load_row rfl 43 (.tmp 7) rfl w3.heap.size rfl 43 C.cells (0, 0) _ hgb12 Tryz.underlying43 rfl (by rw [HCc.out]; kernel_rfl) ?_) | (refine wpList_store_row rfl 43 (.tmp 2) (.tmp 45) rfl w.heap.size C.cells rfl rfl _ _ hg12 (by rw [HCc.out]; kernel_rfl) (by rw [HCc.out]; rfl) (by rw [HCc.out]; first | kernel_rfl | simp [Value.oneCell']) ?_))
      have hg13 := setRow_heap w12 w.heap.size _ C.cells _ _ hg12
      (try simp only [Exit.inBlock, Exit.then])
      refine bodyPost_ret (results_row_tmp rfl _ _ w.heap.size 43 C.cells (0, 0) _ rfl hg13 Tryz.underlying43 rfl (by rw [HCc.out]; kernel_rfl)) rfl ?_
      refine ⟨C, ?_, ?_, ?_, ext_row T12.two.ext (Nat.le_refl _) _⟩
      · rw [Hqv.out]; rfl
      · rw [Hqv.out]
      · have hin : CellV.In (w12.setRow w.heap.size C.cells) ⟨none, 0, none, 0, ⟨[], 0, [], 0, v⟩⟩ := ⟨by show 0 < 4294967296; omega, hvl, by show (-9223372036854775808 : Int) ≤ 0; omega, by show (0 : Int) ≤ 9223372036854775807; omega, RdB.nil_ _ _, RdB.nil_ _ _, Nat.le_refl _, Nat.zero_le _⟩
        rwa [← HC.out] at hin

theorem getInner_any (A : Option Addr) (bs : List UInt8) (c : Nat) (w : World) (hA : RdB w A bs) (hc : bs.length ≤ c) (hl : bs.length ≤ 1000000) :
    Calls Tryz.prog 58 #[.slice A bs.length c] w fun e w' => ∃ C : CellV, e = .returned (.tuple #[C.val, .int .i64 ((Cl.getI bs).2 : Int)]) ∧ C.x = (Cl.getI bs).1 ∧ C.In w' ∧ Below w.heap.size w w' := by
  by_cases h5 : 5 ≤ bs.length
  · have hn1 : (bs.drop 4).take 1 = [bs.getD 4 0] := by
      rw [List.drop_eq_getElem_cons (by omega)]
      rw [List.getD_eq_getElem?_getD, List.getElem?_eq_getElem (show 4 < bs.length by omega)]
      rfl
    refine getInner_long A bs c w hA hc hl _ _ _ rfl rfl _ hn1 rfl _ rfl _ rfl _ ?_
    unfold Cl.getI Cl.candI
    rw [if_pos h5, List.drop_drop]
  · refine getInner_short A bs c w hA hc hl _ _ _ rfl rfl (by rw [List.drop_of_length_le (by omega)]; rfl) rfl _ rfl _ rfl _ ?_
    unfold Cl.getI Cl.candI
    rw [if_neg h5]
end Go.Proofs.YtkpagmfaccmiaaaGreat
