
/- Contracts: bytes as a leaf's cell (cell.GetLeaf), not nil. Printed by wip/tools/gen_cellget07.py. -/

import Derived.Test.YtkpagmfaccmiaaaGreatCellGet

namespace Go.Proofs.YtkpagmfaccmiaaaGreat

open Go.RowKit

attribute [local go_sem] Oper.semAt_some

/-- What stands behind the key. -/
theorem rest_rd {w : World} {A : Option Addr} {bs : List UInt8} {k : UInt8} {t r : List UInt8} {c : Nat} (hA : RdB w A bs) (hbs : bs = k :: t) (hr : t.drop k.toNat = r) (hle : 1 + k.toNat ≤ bs.length) (hc : bs.length ≤ c) :
    RdB w (if c = 1 + k.toNat then A else A.map (·.add (1 + k.toNat))) r := by
  have h := hA.tail hle hc
  rw [hbs, Nat.add_comm, List.drop_succ_cons, hr] at h
  rwa [Nat.add_comm] at h

set_option maxRecDepth 100000 in
set_option maxHeartbeats 2000000 in
theorem getLeaf_bad1 (A : Option Addr) (bs : List UInt8) (k : UInt8) (t : List UInt8) (c : Nat) (w : World) (hA : RdB w A bs) (hc : bs.length ≤ c) (hl : bs.length ≤ 1000000) (hbs : bs = k :: t) (key r : List UInt8) (hkey : t.take k.toNat = key) (hdr : t.drop k.toNat = r) (n x e0 : Nat) (hget : Vint.get r = (n, x, e0)) (hbad : e0 ≠ 0 ∨ 1000 < n) (hle : 1 + k.toNat ≤ bs.length) (hcc : ¬ c = 1 + k.toNat) :
    Calls Tryz.prog 56 #[.slice A bs.length c] w fun e w' => e = .returned (.tuple #[.agg cz, .int .i64 70]) ∧ Below w.heap.size w w' := by
  have H1 := Lib.hid (show bs.take 1 = [k] by rw [hbs]; rfl)
  have H2 := Lib.hid (show bs.drop 1 = t by rw [hbs]; rfl)
  have htl : t.length + 1 = bs.length := by rw [hbs]; rfl
  have hk := k.toNat_lt
  have Hbs := Lib.hid hbs
  have hkl : key.length ≤ bs.length := by rw [← hkey, List.length_take]; omega
  have hrl : r.length = t.length - k.toNat := by rw [← hdr, List.length_drop]
  have HK := Lib.hid hkey
  have HR := Lib.hid hdr
  have Hget := Lib.hid hget
  clear hbs hget hkey hdr
  have hr := rest_rd hA Hbs.out HR.out hle hc
  have hrc : r.length ≤ c - (1 + k.toNat) := by omega
  have Hrl : Hid (bs.length - (1 + k.toNat) = r.length) := by show _ = _; omega
  clear hrl
  rw [if_neg hcc] at hr
  go_enter Tryz.func56, Tryz.ntmps56
  go_wp2_with fail
  refine (cutter_any A bs.length _ _).mono ?_
  rintro e w1 ⟨rfl, hw1⟩
  have T1 := Two.new w w1 A bs _ hA hc hw1
  clear hw1
  go_wp2_with fail
  have hcut := cut_any (w.heap.size + 1) bs 1 w1 w T1.cut
  rw [H1.out, H2.out] at hcut
  (try simp only [World.size_alloc])
  refine hcut.mono ?_
  clear hcut
  rintro e w2 ⟨A1, c1, A2, c2, rfl, hw2, h1, h2, h3⟩
  have T2 := T1.step hw2 h2
  obtain ⟨ad, rfl, hk0⟩ := h1.at_ (k := 0) (by simp)
  have hk2 := T2.ext.load hk0
  simp only [List.getElem_cons_zero] at hk2
  rw [show ad.add 0 = ad from rfl] at hk2
  simp only [List.length_singleton] at h3 ⊢
  clear hw2 h1 h2 T1
  go_wp2_with fail
  have hcut := cut_any (w.heap.size + 1) t k.toNat w2 w T2.cut
  rw [HK.out, HR.out] at hcut
  refine hcut.mono ?_
  clear hcut
  rintro e w3 ⟨A3, c3, A4, c4, rfl, hw3, h1, h2, h3b⟩
  have T3 := T2.step hw3 h2
  clear hw3 h2 T2 hk2
  go_wp2_with fail
  refine (clone_any A3 key c3 w3 (h1.below T3.ext) (by omega)).mono ?_
  rintro e w4 ⟨A5, c5, rfl, ho5, hb5⟩
  have T4 := T3.below hb5
  have hk4 := T4.ext.load hk0
  simp only [List.getElem_cons_zero] at hk4
  rw [show ad.add 0 = ad from rfl] at hk4
  have hk5 := Ext.load (Ext.alloc w4 (.cells #[.slice A5 key.length c5, .int .i64 0, .slice none 0 0, .int .u32 0, .int .u32 0] 43)) hk4
  clear h1 h3b hb5 hk4 hk0
  go_wp2_with fail
  have T5 := T4.below (Ext.alloc w4 (.cells #[.slice A5 key.length c5, .int .i64 0, .slice none 0 0, .int .u32 0, .int .u32 0] 43))
  rw [show bs.length - (1 + k.toNat) = r.length from Hrl.out]
  refine (get_any _ r _ _ (hr.below T5.ext) (by omega)).mono ?_
  rintro e w6 ⟨rfl, hb6⟩
  have T6 := T5.below hb6
  rw [Hget.out]
  simp only [getRes]
  have hg6 := T6.row
  clear hk5 hb6 T5 T4 ho5 hr
  rcases hbad with hbad | hbad
  · have hb0 : ((e0 : Int) != 0) = true := by rw [bne_iff_ne]; omega
    go_wp2_with (refine wpList_store_row rfl 43 (.tmp 2) (.tmp 50) rfl w.heap.size #[.slice none 0 0, .int .i64 0, .slice none 0 0, .int .u32 0, .int .u32 0] rfl rfl _ _ hg6 (by kernel_rfl) rfl (by kernel_rfl) ?_)
    have hg3 := setRow_heap w6 w.heap.size _ #[.slice none 0 0, .int .i64 0, .slice none 0 0, .int .u32 0, .int .u32 0] _ _ hg6
    (try simp only [Exit.inBlock, Exit.then])
    refine bodyPost_ret (results_row_tmp rfl _ _ w.heap.size 43 #[.slice none 0 0, .int .i64 0, .slice none 0 0, .int .u32 0, .int .u32 0] (0, 0) _ rfl hg3 Tryz.underlying43 rfl (by kernel_rfl)) rfl ?_
    exact ⟨rfl, ext_row T6.ext (Nat.le_refl _) _⟩
  · by_cases he : e0 = 0
    · subst he
      have hb1 : 1000 < (n : Int) := by omega
      go_wp2_with (refine wpList_store_row rfl 43 (.tmp 2) (.tmp 50) rfl w.heap.size #[.slice none 0 0, .int .i64 0, .slice none 0 0, .int .u32 0, .int .u32 0] rfl rfl _ _ hg6 (by kernel_rfl) rfl (by kernel_rfl) ?_)
      have hg3 := setRow_heap w6 w.heap.size _ #[.slice none 0 0, .int .i64 0, .slice none 0 0, .int .u32 0, .int .u32 0] _ _ hg6
      (try simp only [Exit.inBlock, Exit.then])
      refine bodyPost_ret (results_row_tmp rfl _ _ w.heap.size 43 #[.slice none 0 0, .int .i64 0, .slice none 0 0, .int .u32 0, .int .u32 0] (0, 0) _ rfl hg3 Tryz.underlying43 rfl (by kernel_rfl)) rfl ?_
      exact ⟨rfl, ext_row T6.ext (Nat.le_refl _) _⟩
    · have hb0 : ((e0 : Int) != 0) = true := by rw [bne_iff_ne]; omega
      go_wp2_with (refine wpList_store_row rfl 43 (.tmp 2) (.tmp 50) rfl w.heap.size #[.slice none 0 0, .int .i64 0, .slice none 0 0, .int .u32 0, .int .u32 0] rfl rfl _ _ hg6 (by kernel_rfl) rfl (by kernel_rfl) ?_)
      have hg3 := setRow_heap w6 w.heap.size _ #[.slice none 0 0, .int .i64 0, .slice none 0 0, .int .u32 0, .int .u32 0] _ _ hg6
      (try simp only [Exit.inBlock, Exit.then])
      refine bodyPost_ret (results_row_tmp rfl _ _ w.heap.size 43 #[.slice none 0 0, .int .i64 0, .slice none 0 0, .int .u32 0, .int .u32 0] (0, 0) _ rfl hg3 Tryz.underlying43 rfl (by kernel_rfl)) rfl ?_
      exact ⟨rfl, ext_row T6.ext (Nat.le_refl _) _⟩

set_option maxRecDepth 100000 in
set_option maxHeartbeats 2000000 in
theorem getLeaf_bad2 (A : Option Addr) (bs : List UInt8) (k : UInt8) (t : List UInt8) (c : Nat) (w : World) (hA : RdB w A bs) (hc : bs.length ≤ c) (hl : bs.length ≤ 1000000) (hbs : bs = k :: t) (key r : List UInt8) (hkey : t.take k.toNat = key) (hdr : t.drop k.toNat = r) (n x e0 : Nat) (hget : Vint.get r = (n, x, e0)) (hbad : e0 ≠ 0 ∨ 1000 < n) (hle : 1 + k.toNat ≤ bs.length) (hcc : c = 1 + k.toNat) :
    Calls Tryz.prog 56 #[.slice A bs.length c] w fun e w' => e = .returned (.tuple #[.agg cz, .int .i64 70]) ∧ Below w.heap.size w w' := by
  have H1 := Lib.hid (show bs.take 1 = [k] by rw [hbs]; rfl)
  have H2 := Lib.hid (show bs.drop 1 = t by rw [hbs]; rfl)
  have htl : t.length + 1 = bs.length := by rw [hbs]; rfl
  have hk := k.toNat_lt
  have Hbs := Lib.hid hbs
  have hkl : key.length ≤ bs.length := by rw [← hkey, List.length_take]; omega
  have hrl : r.length = t.length - k.toNat := by rw [← hdr, List.length_drop]
  have HK := Lib.hid hkey
  have HR := Lib.hid hdr
  have Hget := Lib.hid hget
  clear hbs hget hkey hdr
  have hr := rest_rd hA Hbs.out HR.out hle hc
  have hr9 : r = [] := List.eq_nil_of_length_eq_zero (by omega)
  have hb9 : bs.length = 1 + k.toNat := by omega
  rw [if_pos hcc] at hr
  clear hrl
  subst hr9
  subst hcc
  have hrc : ([] : List UInt8).length ≤ 0 := Nat.zero_le _
  have Hb9 := Lib.hid hb9
  clear hb9
  go_enter Tryz.func56, Tryz.ntmps56
  go_wp2_with fail
  refine (cutter_any A bs.length _ _).mono ?_
  rintro e w1 ⟨rfl, hw1⟩
  have T1 := Two.new w w1 A bs _ hA hc hw1
  clear hw1
  go_wp2_with fail
  have hcut := cut_any (w.heap.size + 1) bs 1 w1 w T1.cut
  rw [H1.out, H2.out] at hcut
  (try simp only [World.size_alloc])
  refine hcut.mono ?_
  clear hcut
  rintro e w2 ⟨A1, c1, A2, c2, rfl, hw2, h1, h2, h3⟩
  have T2 := T1.step hw2 h2
  obtain ⟨ad, rfl, hk0⟩ := h1.at_ (k := 0) (by simp)
  have hk2 := T2.ext.load hk0
  simp only [List.getElem_cons_zero] at hk2
  rw [show ad.add 0 = ad from rfl] at hk2
  simp only [List.length_singleton] at h3 ⊢
  clear hw2 h1 h2 T1
  go_wp2_with fail
  have hcut := cut_any (w.heap.size + 1) t k.toNat w2 w T2.cut
  rw [HK.out, HR.out] at hcut
  refine hcut.mono ?_
  clear hcut
  rintro e w3 ⟨A3, c3, A4, c4, rfl, hw3, h1, h2, h3b⟩
  have T3 := T2.step hw3 h2
  clear hw3 h2 T2 hk2
  go_wp2_with fail
  refine (clone_any A3 key c3 w3 (h1.below T3.ext) (by omega)).mono ?_
  rintro e w4 ⟨A5, c5, rfl, ho5, hb5⟩
  have T4 := T3.below hb5
  have hk4 := T4.ext.load hk0
  simp only [List.getElem_cons_zero] at hk4
  rw [show ad.add 0 = ad from rfl] at hk4
  have hk5 := Ext.load (Ext.alloc w4 (.cells #[.slice A5 key.length c5, .int .i64 0, .slice none 0 0, .int .u32 0, .int .u32 0] 43)) hk4
  clear h1 h3b hb5 hk4 hk0
  go_wp2_with fail
  have T5 := T4.below (Ext.alloc w4 (.cells #[.slice A5 key.length c5, .int .i64 0, .slice none 0 0, .int .u32 0, .int .u32 0] 43))
  try rw [show bs.length - (1 + k.toNat) = 0 from by have := Hb9.out; omega]
  refine (get_any _ ([] : List UInt8) _ _ (hr.below T5.ext) (by omega)).mono ?_
  rintro e w6 ⟨rfl, hb6⟩
  have T6 := T5.below hb6
  rw [Hget.out]
  simp only [getRes]
  have hg6 := T6.row
  clear hk5 hb6 T5 T4 ho5 hr
  rcases hbad with hbad | hbad
  · have hb0 : ((e0 : Int) != 0) = true := by rw [bne_iff_ne]; omega
    go_wp2_with (refine wpList_store_row rfl 43 (.tmp 2) (.tmp 50) rfl w.heap.size #[.slice none 0 0, .int .i64 0, .slice none 0 0, .int .u32 0, .int .u32 0] rfl rfl _ _ hg6 (by kernel_rfl) rfl (by kernel_rfl) ?_)
    have hg3 := setRow_heap w6 w.heap.size _ #[.slice none 0 0, .int .i64 0, .slice none 0 0, .int .u32 0, .int .u32 0] _ _ hg6
    (try simp only [Exit.inBlock, Exit.then])
    refine bodyPost_ret (results_row_tmp rfl _ _ w.heap.size 43 #[.slice none 0 0, .int .i64 0, .slice none 0 0, .int .u32 0, .int .u32 0] (0, 0) _ rfl hg3 Tryz.underlying43 rfl (by kernel_rfl)) rfl ?_
    exact ⟨rfl, ext_row T6.ext (Nat.le_refl _) _⟩
  · by_cases he : e0 = 0
    · subst he
      have hb1 : 1000 < (n : Int) := by omega
      go_wp2_with (refine wpList_store_row rfl 43 (.tmp 2) (.tmp 50) rfl w.heap.size #[.slice none 0 0, .int .i64 0, .slice none 0 0, .int .u32 0, .int .u32 0] rfl rfl _ _ hg6 (by kernel_rfl) rfl (by kernel_rfl) ?_)
      have hg3 := setRow_heap w6 w.heap.size _ #[.slice none 0 0, .int .i64 0, .slice none 0 0, .int .u32 0, .int .u32 0] _ _ hg6
      (try simp only [Exit.inBlock, Exit.then])
      refine bodyPost_ret (results_row_tmp rfl _ _ w.heap.size 43 #[.slice none 0 0, .int .i64 0, .slice none 0 0, .int .u32 0, .int .u32 0] (0, 0) _ rfl hg3 Tryz.underlying43 rfl (by kernel_rfl)) rfl ?_
      exact ⟨rfl, ext_row T6.ext (Nat.le_refl _) _⟩
    · have hb0 : ((e0 : Int) != 0) = true := by rw [bne_iff_ne]; omega
      go_wp2_with (refine wpList_store_row rfl 43 (.tmp 2) (.tmp 50) rfl w.heap.size #[.slice none 0 0, .int .i64 0, .slice none 0 0, .int .u32 0, .int .u32 0] rfl rfl _ _ hg6 (by kernel_rfl) rfl (by kernel_rfl) ?_)
      have hg3 := setRow_heap w6 w.heap.size _ #[.slice none 0 0, .int .i64 0, .slice none 0 0, .int .u32 0, .int .u32 0] _ _ hg6
      (try simp only [Exit.inBlock, Exit.then])
      refine bodyPost_ret (results_row_tmp rfl _ _ w.heap.size 43 #[.slice none 0 0, .int .i64 0, .slice none 0 0, .int .u32 0, .int .u32 0] (0, 0) _ rfl hg3 Tryz.underlying43 rfl (by kernel_rfl)) rfl ?_
      exact ⟨rfl, ext_row T6.ext (Nat.le_refl _) _⟩

set_option maxRecDepth 100000 in
set_option maxHeartbeats 2000000 in
theorem getLeaf_bad3 (A : Option Addr) (bs : List UInt8) (k : UInt8) (t : List UInt8) (c : Nat) (w : World) (hA : RdB w A bs) (hc : bs.length ≤ c) (hl : bs.length ≤ 1000000) (hbs : bs = k :: t) (key r : List UInt8) (hkey : t.take k.toNat = key) (hdr : t.drop k.toNat = r) (n x e0 : Nat) (hget : Vint.get r = (n, x, e0)) (hbad : e0 ≠ 0 ∨ 1000 < n) (hle : ¬ 1 + k.toNat ≤ bs.length) (hcc : c = bs.length) :
    Calls Tryz.prog 56 #[.slice A bs.length c] w fun e w' => e = .returned (.tuple #[.agg cz, .int .i64 70]) ∧ Below w.heap.size w w' := by
  have H1 := Lib.hid (show bs.take 1 = [k] by rw [hbs]; rfl)
  have H2 := Lib.hid (show bs.drop 1 = t by rw [hbs]; rfl)
  have htl : t.length + 1 = bs.length := by rw [hbs]; rfl
  have hk := k.toNat_lt
  have Hbs := Lib.hid hbs
  have hkl : key.length ≤ bs.length := by rw [← hkey, List.length_take]; omega
  have hrl : r.length = t.length - k.toNat := by rw [← hdr, List.length_drop]
  have HK := Lib.hid hkey
  have HR := Lib.hid hdr
  have Hget := Lib.hid hget
  clear hbs hget hkey hdr
  have hr := hA.tail (Nat.le_refl _) hc
  rw [List.drop_length] at hr
  have hr9 : r = [] := List.eq_nil_of_length_eq_zero (by omega)
  rw [if_pos hcc] at hr
  clear hrl
  subst hr9
  subst hcc
  have hrc : ([] : List UInt8).length ≤ 0 := Nat.zero_le _
  go_enter Tryz.func56, Tryz.ntmps56
  go_wp2_with fail
  refine (cutter_any A bs.length _ _).mono ?_
  rintro e w1 ⟨rfl, hw1⟩
  have T1 := Two.new w w1 A bs _ hA hc hw1
  clear hw1
  go_wp2_with fail
  have hcut := cut_any (w.heap.size + 1) bs 1 w1 w T1.cut
  rw [H1.out, H2.out] at hcut
  (try simp only [World.size_alloc])
  refine hcut.mono ?_
  clear hcut
  rintro e w2 ⟨A1, c1, A2, c2, rfl, hw2, h1, h2, h3⟩
  have T2 := T1.step hw2 h2
  obtain ⟨ad, rfl, hk0⟩ := h1.at_ (k := 0) (by simp)
  have hk2 := T2.ext.load hk0
  simp only [List.getElem_cons_zero] at hk2
  rw [show ad.add 0 = ad from rfl] at hk2
  simp only [List.length_singleton] at h3 ⊢
  clear hw2 h1 h2 T1
  go_wp2_with fail
  have hcut := cut_any (w.heap.size + 1) t k.toNat w2 w T2.cut
  rw [HK.out, HR.out] at hcut
  refine hcut.mono ?_
  clear hcut
  rintro e w3 ⟨A3, c3, A4, c4, rfl, hw3, h1, h2, h3b⟩
  have T3 := T2.step hw3 h2
  clear hw3 h2 T2 hk2
  go_wp2_with fail
  refine (clone_any A3 key c3 w3 (h1.below T3.ext) (by omega)).mono ?_
  rintro e w4 ⟨A5, c5, rfl, ho5, hb5⟩
  have T4 := T3.below hb5
  have hk4 := T4.ext.load hk0
  simp only [List.getElem_cons_zero] at hk4
  rw [show ad.add 0 = ad from rfl] at hk4
  have hk5 := Ext.load (Ext.alloc w4 (.cells #[.slice A5 key.length c5, .int .i64 0, .slice none 0 0, .int .u32 0, .int .u32 0] 43)) hk4
  clear h1 h3b hb5 hk4 hk0
  go_wp2_with fail
  have T5 := T4.below (Ext.alloc w4 (.cells #[.slice A5 key.length c5, .int .i64 0, .slice none 0 0, .int .u32 0, .int .u32 0] 43))
  refine (get_any _ ([] : List UInt8) _ _ (hr.below T5.ext) (by omega)).mono ?_
  rintro e w6 ⟨rfl, hb6⟩
  have T6 := T5.below hb6
  rw [Hget.out]
  simp only [getRes]
  have hg6 := T6.row
  clear hk5 hb6 T5 T4 ho5 hr
  rcases hbad with hbad | hbad
  · have hb0 : ((e0 : Int) != 0) = true := by rw [bne_iff_ne]; omega
    go_wp2_with (refine wpList_store_row rfl 43 (.tmp 2) (.tmp 50) rfl w.heap.size #[.slice none 0 0, .int .i64 0, .slice none 0 0, .int .u32 0, .int .u32 0] rfl rfl _ _ hg6 (by kernel_rfl) rfl (by kernel_rfl) ?_)
    have hg3 := setRow_heap w6 w.heap.size _ #[.slice none 0 0, .int .i64 0, .slice none 0 0, .int .u32 0, .int .u32 0] _ _ hg6
    (try simp only [Exit.inBlock, Exit.then])
    refine bodyPost_ret (results_row_tmp rfl _ _ w.heap.size 43 #[.slice none 0 0, .int .i64 0, .slice none 0 0, .int .u32 0, .int .u32 0] (0, 0) _ rfl hg3 Tryz.underlying43 rfl (by kernel_rfl)) rfl ?_
    exact ⟨rfl, ext_row T6.ext (Nat.le_refl _) _⟩
  · by_cases he : e0 = 0
    · subst he
      have hb1 : 1000 < (n : Int) := by omega
      go_wp2_with (refine wpList_store_row rfl 43 (.tmp 2) (.tmp 50) rfl w.heap.size #[.slice none 0 0, .int .i64 0, .slice none 0 0, .int .u32 0, .int .u32 0] rfl rfl _ _ hg6 (by kernel_rfl) rfl (by kernel_rfl) ?_)
      have hg3 := setRow_heap w6 w.heap.size _ #[.slice none 0 0, .int .i64 0, .slice none 0 0, .int .u32 0, .int .u32 0] _ _ hg6
      (try simp only [Exit.inBlock, Exit.then])
      refine bodyPost_ret (results_row_tmp rfl _ _ w.heap.size 43 #[.slice none 0 0, .int .i64 0, .slice none 0 0, .int .u32 0, .int .u32 0] (0, 0) _ rfl hg3 Tryz.underlying43 rfl (by kernel_rfl)) rfl ?_
      exact ⟨rfl, ext_row T6.ext (Nat.le_refl _) _⟩
    · have hb0 : ((e0 : Int) != 0) = true := by rw [bne_iff_ne]; omega
      go_wp2_with (refine wpList_store_row rfl 43 (.tmp 2) (.tmp 50) rfl w.heap.size #[.slice none 0 0, .int .i64 0, .slice none 0 0, .int .u32 0, .int .u32 0] rfl rfl _ _ hg6 (by kernel_rfl) rfl (by kernel_rfl) ?_)
      have hg3 := setRow_heap w6 w.heap.size _ #[.slice none 0 0, .int .i64 0, .slice none 0 0, .int .u32 0, .int .u32 0] _ _ hg6
      (try simp only [Exit.inBlock, Exit.then])
      refine bodyPost_ret (results_row_tmp rfl _ _ w.heap.size 43 #[.slice none 0 0, .int .i64 0, .slice none 0 0, .int .u32 0, .int .u32 0] (0, 0) _ rfl hg3 Tryz.underlying43 rfl (by kernel_rfl)) rfl ?_
      exact ⟨rfl, ext_row T6.ext (Nat.le_refl _) _⟩

set_option maxRecDepth 100000 in
set_option maxHeartbeats 2000000 in
theorem getLeaf_bad4 (A : Option Addr) (bs : List UInt8) (k : UInt8) (t : List UInt8) (c : Nat) (w : World) (hA : RdB w A bs) (hc : bs.length ≤ c) (hl : bs.length ≤ 1000000) (hbs : bs = k :: t) (key r : List UInt8) (hkey : t.take k.toNat = key) (hdr : t.drop k.toNat = r) (n x e0 : Nat) (hget : Vint.get r = (n, x, e0)) (hbad : e0 ≠ 0 ∨ 1000 < n) (hle : ¬ 1 + k.toNat ≤ bs.length) (hcc : ¬ c = bs.length) :
    Calls Tryz.prog 56 #[.slice A bs.length c] w fun e w' => e = .returned (.tuple #[.agg cz, .int .i64 70]) ∧ Below w.heap.size w w' := by
  have H1 := Lib.hid (show bs.take 1 = [k] by rw [hbs]; rfl)
  have H2 := Lib.hid (show bs.drop 1 = t by rw [hbs]; rfl)
  have htl : t.length + 1 = bs.length := by rw [hbs]; rfl
  have hk := k.toNat_lt
  have Hbs := Lib.hid hbs
  have hkl : key.length ≤ bs.length := by rw [← hkey, List.length_take]; omega
  have hrl : r.length = t.length - k.toNat := by rw [← hdr, List.length_drop]
  have HK := Lib.hid hkey
  have HR := Lib.hid hdr
  have Hget := Lib.hid hget
  clear hbs hget hkey hdr
  have hr := hA.tail (Nat.le_refl _) hc
  rw [List.drop_length] at hr
  have hr9 : r = [] := List.eq_nil_of_length_eq_zero (by omega)
  rw [if_neg hcc] at hr
  clear hrl
  subst hr9
  have hrc : ([] : List UInt8).length ≤ c - bs.length := Nat.zero_le _
  go_enter Tryz.func56, Tryz.ntmps56
  go_wp2_with fail
  refine (cutter_any A bs.length _ _).mono ?_
  rintro e w1 ⟨rfl, hw1⟩
  have T1 := Two.new w w1 A bs _ hA hc hw1
  clear hw1
  go_wp2_with fail
  have hcut := cut_any (w.heap.size + 1) bs 1 w1 w T1.cut
  rw [H1.out, H2.out] at hcut
  (try simp only [World.size_alloc])
  refine hcut.mono ?_
  clear hcut
  rintro e w2 ⟨A1, c1, A2, c2, rfl, hw2, h1, h2, h3⟩
  have T2 := T1.step hw2 h2
  obtain ⟨ad, rfl, hk0⟩ := h1.at_ (k := 0) (by simp)
  have hk2 := T2.ext.load hk0
  simp only [List.getElem_cons_zero] at hk2
  rw [show ad.add 0 = ad from rfl] at hk2
  simp only [List.length_singleton] at h3 ⊢
  clear hw2 h1 h2 T1
  go_wp2_with fail
  have hcut := cut_any (w.heap.size + 1) t k.toNat w2 w T2.cut
  rw [HK.out, HR.out] at hcut
  refine hcut.mono ?_
  clear hcut
  rintro e w3 ⟨A3, c3, A4, c4, rfl, hw3, h1, h2, h3b⟩
  have T3 := T2.step hw3 h2
  clear hw3 h2 T2 hk2
  go_wp2_with fail
  refine (clone_any A3 key c3 w3 (h1.below T3.ext) (by omega)).mono ?_
  rintro e w4 ⟨A5, c5, rfl, ho5, hb5⟩
  have T4 := T3.below hb5
  have hk4 := T4.ext.load hk0
  simp only [List.getElem_cons_zero] at hk4
  rw [show ad.add 0 = ad from rfl] at hk4
  have hk5 := Ext.load (Ext.alloc w4 (.cells #[.slice A5 key.length c5, .int .i64 0, .slice none 0 0, .int .u32 0, .int .u32 0] 43)) hk4
  clear h1 h3b hb5 hk4 hk0
  go_wp2_with fail
  have T5 := T4.below (Ext.alloc w4 (.cells #[.slice A5 key.length c5, .int .i64 0, .slice none 0 0, .int .u32 0, .int .u32 0] 43))
  refine (get_any _ ([] : List UInt8) _ _ (hr.below T5.ext) (by omega)).mono ?_
  rintro e w6 ⟨rfl, hb6⟩
  have T6 := T5.below hb6
  rw [Hget.out]
  simp only [getRes]
  have hg6 := T6.row
  clear hk5 hb6 T5 T4 ho5 hr
  rcases hbad with hbad | hbad
  · have hb0 : ((e0 : Int) != 0) = true := by rw [bne_iff_ne]; omega
    go_wp2_with (refine wpList_store_row rfl 43 (.tmp 2) (.tmp 50) rfl w.heap.size #[.slice none 0 0, .int .i64 0, .slice none 0 0, .int .u32 0, .int .u32 0] rfl rfl _ _ hg6 (by kernel_rfl) rfl (by kernel_rfl) ?_)
    have hg3 := setRow_heap w6 w.heap.size _ #[.slice none 0 0, .int .i64 0, .slice none 0 0, .int .u32 0, .int .u32 0] _ _ hg6
    (try simp only [Exit.inBlock, Exit.then])
    refine bodyPost_ret (results_row_tmp rfl _ _ w.heap.size 43 #[.slice none 0 0, .int .i64 0, .slice none 0 0, .int .u32 0, .int .u32 0] (0, 0) _ rfl hg3 Tryz.underlying43 rfl (by kernel_rfl)) rfl ?_
    exact ⟨rfl, ext_row T6.ext (Nat.le_refl _) _⟩
  · by_cases he : e0 = 0
    · subst he
      have hb1 : 1000 < (n : Int) := by omega
      go_wp2_with (refine wpList_store_row rfl 43 (.tmp 2) (.tmp 50) rfl w.heap.size #[.slice none 0 0, .int .i64 0, .slice none 0 0, .int .u32 0, .int .u32 0] rfl rfl _ _ hg6 (by kernel_rfl) rfl (by kernel_rfl) ?_)
      have hg3 := setRow_heap w6 w.heap.size _ #[.slice none 0 0, .int .i64 0, .slice none 0 0, .int .u32 0, .int .u32 0] _ _ hg6
      (try simp only [Exit.inBlock, Exit.then])
      refine bodyPost_ret (results_row_tmp rfl _ _ w.heap.size 43 #[.slice none 0 0, .int .i64 0, .slice none 0 0, .int .u32 0, .int .u32 0] (0, 0) _ rfl hg3 Tryz.underlying43 rfl (by kernel_rfl)) rfl ?_
      exact ⟨rfl, ext_row T6.ext (Nat.le_refl _) _⟩
    · have hb0 : ((e0 : Int) != 0) = true := by rw [bne_iff_ne]; omega
      go_wp2_with (refine wpList_store_row rfl 43 (.tmp 2) (.tmp 50) rfl w.heap.size #[.slice none 0 0, .int .i64 0, .slice none 0 0, .int .u32 0, .int .u32 0] rfl rfl _ _ hg6 (by kernel_rfl) rfl (by kernel_rfl) ?_)
      have hg3 := setRow_heap w6 w.heap.size _ #[.slice none 0 0, .int .i64 0, .slice none 0 0, .int .u32 0, .int .u32 0] _ _ hg6
      (try simp only [Exit.inBlock, Exit.then])
      refine bodyPost_ret (results_row_tmp rfl _ _ w.heap.size 43 #[.slice none 0 0, .int .i64 0, .slice none 0 0, .int .u32 0, .int .u32 0] (0, 0) _ rfl hg3 Tryz.underlying43 rfl (by kernel_rfl)) rfl ?_
      exact ⟨rfl, ext_row T6.ext (Nat.le_refl _) _⟩

theorem getLeaf_bad (A : Option Addr) (bs : List UInt8) (k : UInt8) (t : List UInt8) (c : Nat) (w : World) (hA : RdB w A bs) (hc : bs.length ≤ c) (hl : bs.length ≤ 1000000) (hbs : bs = k :: t) (key r : List UInt8) (hkey : t.take k.toNat = key) (hdr : t.drop k.toNat = r) (n x e0 : Nat) (hget : Vint.get r = (n, x, e0)) (hbad : e0 ≠ 0 ∨ 1000 < n) :
    Calls Tryz.prog 56 #[.slice A bs.length c] w fun e w' => e = .returned (.tuple #[.agg cz, .int .i64 70]) ∧ Below w.heap.size w w' := by
  by_cases hle : 1 + k.toNat ≤ bs.length
  · by_cases hcc : c = 1 + k.toNat
    · exact getLeaf_bad2 A bs k t c w hA hc hl hbs key r hkey hdr n x e0 hget hbad hle hcc
    · exact getLeaf_bad1 A bs k t c w hA hc hl hbs key r hkey hdr n x e0 hget hbad hle hcc
  · by_cases hcc : c = bs.length
    · exact getLeaf_bad3 A bs k t c w hA hc hl hbs key r hkey hdr n x e0 hget hbad hle hcc
    · exact getLeaf_bad4 A bs k t c w hA hc hl hbs key r hkey hdr n x e0 hget hbad hle hcc
end Go.Proofs.YtkpagmfaccmiaaaGreat
