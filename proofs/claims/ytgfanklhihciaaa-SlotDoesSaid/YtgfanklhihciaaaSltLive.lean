
/- The laws' own last line (scowlaw06.live): it returns true. -/

import Derived.Test.YtgfanklhihciaaaSltIns

import Derived.Test.YtgfanklhihciaaaSltOut

import Derived.Test.YtgfanklhihciaaaSltParse

import Derived.Test.YtgfanklhihciaaaSltNil

namespace Go.Proofs.Ytgfanklhihciaaa

open Go.RowKit

attribute [local go_sem] Oper.semAt_some

def c06 : List UInt8 := (zeros 78).set 0 9
theorem c06_len : c06.length = 78 := by unfold c06; rw [List.length_set, zeros_len]
def m06a : SBody := ⟨165, [⟨165, c06⟩]⟩
def m06b : SBody := ⟨87, [⟨87, c06⟩, ⟨165, c06⟩]⟩
def m06c : SBody := ⟨9, [⟨87, c06⟩, ⟨165, c06⟩, ⟨9, c06⟩]⟩
theorem m06_1 : SBody.new.insert 0 c06 = (0, m06a) := by simp [SBody.insert, SBody.new, SBody.free, SBody.dir, SBody.sum, sumL, SBody.room, SBody.lay, c06_len, m06a]
theorem m06_2 : m06a.insert 0 c06 = (0, m06b) := by simp [SBody.insert, SBody.free, SBody.dir, SBody.sum, sumL, SBody.room, SBody.lay, c06_len, m06a, m06b]
theorem m06_3 : m06b.insert 2 c06 = (0, m06c) := by simp [SBody.insert, SBody.free, SBody.dir, SBody.sum, sumL, SBody.room, SBody.lay, c06_len, m06b, m06c]
theorem m06_4 : m06c.insert 0 [] = (60, m06c) := by simp [SBody.insert, SBody.free, SBody.dir, SBody.sum, sumL, c06_len, m06c]
theorem m06_free : m06c.free = 1 := by simp [SBody.free, SBody.dir, SBody.sum, sumL, c06_len, m06c]
theorem m06_holes : m06c.holes = 0 := by simp [SBody.holes, SBody.sum, sumL, c06_len, m06c]
theorem m06_fix : m06c.fixed = m06c := by
  have h : c06 ≠ [] := fun e => by have := c06_len; rw [e] at this; cases this
  simp [SBody.fixed, SCell.fix, m06c, h]
theorem m06_cell : m06c.cellP 2 = c06 := by simp [SBody.cellP, m06c]
theorem m06_len : m06c.l.length = 3 := rfl
theorem c06_0 : ∃ r, c06 = 9 :: r := ⟨(zeros 77), by decide⟩
theorem BO.other {w w' : World} {g k : Nat} {b : List UInt8} (h : BO w k b) (hg : w.grownBy w' (some g)) (hn : k ≠ g) : BO w' k b := ⟨(hg.block k (lt_of_heap h.row) (fun e => hn (by injection e))).trans h.row⟩
theorem ins06 (g k : Nat) (b : List UInt8) (m m' : SBody) (i r : Int) (w : World) (hS : SAt w g b m) (hO : BO w k c06) (hne : k ≠ g) (he : m.insert i c06 = (r, m')) :
    Calls Try.prog 14 #[.pointer (some ⟨g, 0, none⟩), .int .i64 i, .slice (some ⟨k, 0, none⟩) 78 78] w fun e w' => e = .returned (.int .i64 r) ∧ (∃ b', SAt w' g b' m') ∧ BO w' k c06 ∧ w.grownBy w' (some g) := by
  have h := insert_any g b m i (some ⟨k, 0, none⟩) c06 78 w hS (hO.own (B := 0) (Nat.zero_le _) c06_len.symm (by omega)).rd' (fun _ ad e => by injection e with e; rw [← e]; exact hne) (by rw [c06_len]; omega)
  rw [c06_len, he] at h
  refine h.mono ?_
  rintro e w' ⟨h1, h2, h3⟩
  exact ⟨h1, h2, hO.other h3 hne, h3⟩
theorem ins06n (g : Nat) (b : List UInt8) (m m' : SBody) (i r : Int) (w : World) (hS : SAt w g b m) (he : m.insert i [] = (r, m')) :
    Calls Try.prog 14 #[.pointer (some ⟨g, 0, none⟩), .int .i64 i, .slice none 0 0] w fun e w' => e = .returned (.int .i64 r) ∧ (∃ b', SAt w' g b' m') ∧ w.grownBy w' (some g) := by
  have h := insert_any g b m i none [] 0 w hS (RdB.nil_ _ _) (fun _ ad e => by cases e) (by simp)
  rw [he] at h
  exact h
set_option maxRecDepth 100000 in
set_option maxHeartbeats 400000 in
theorem live06 (w : World) : Calls Try.prog 8 #[] w fun e w' => e = .returned (.bool true) ∧ Below w.heap.size w w' := by
  have hnew := snew_any w
  go_enter Try.func8, Try.ntmps8
  go_wp2_with fail
  refine hnew.mono ?_
  clear hnew
  rintro e1 w1 ⟨rfl, hB1, hx1⟩
  have hg1 := lt_of_heap hB1.row
  have hS1 : SAt w1 w.heap.size _ SBody.new := ⟨hB1, Rel.new, SBody.new_inv⟩
  obtain ⟨b1, hb1⟩ : ∃ b1, b1 = (zeros 243).set 1 243 := ⟨_, rfl⟩
  rw [← hb1] at hS1
  clear hB1 hb1
  obtain ⟨g, hg⟩ : ∃ g, g = w.heap.size := ⟨_, rfl⟩
  rw [← hg] at hS1 hg1 ⊢
  have Hg := Lib.hid hg
  clear hg
  go_wp2_with (refine wpList_mk (by rfl) _ _ 30 rfl elemB (.int .u8 0) (by kernel_rfl) rfl 78 .i64 .i64 rfl rfl (by omega) (by omega) ?_; refine Hid.out ?_)
  have hz : Array.replicate 78 (.int .u8 0) = (bvs (zeros 78)).toArray := by
    apply Array.ext'
    simp only [Array.toList_replicate, bvs, zeros, List.map_replicate]
    rfl
  rw [hz]
  clear hz
  obtain ⟨w2, hw2⟩ : ∃ w2, w2 = w1.alloc (.cells (bvs (zeros 78)).toArray 5) := ⟨_, rfl⟩
  obtain ⟨k, hk⟩ : ∃ k, k = w1.heap.size := ⟨_, rfl⟩
  have hO2 : BO w2 k (zeros 78) := ⟨by rw [hw2, hk]; exact heap_alloc_new w1 _⟩
  have hx2 : Ext w1 w2 := by rw [hw2]; exact Ext.alloc w1 _
  rw [← hw2, ← hk]
  have hgk : g < k := by omega
  have c0 := hO2.cell (j := 0) (by rw [zeros_len]; omega)
  have f0 := hO2.frozen 0
  have hO3 := hO2.set 0 9
  have hx3 := grown_cell w2 k 0 (.int .u8 9)
  have hS2 := hS1.ext hx2
  have hE2 : Below g w w2 := by rw [Hg.out]; exact Ext.tr hx1 hx2
  clear hw2 hx1 hx2 hS1 hk
  refine Lib.hid ?_
  go_wp2_with fail
  obtain ⟨w3, hw3⟩ : ∃ w3, w3 = w2.setCell ⟨k, 0, none⟩ (.int .u8 9) := ⟨_, rfl⟩
  have hO3w : BO w3 k c06 := by rw [hw3]; exact hO3
  rw [← hw3] at hx3 ⊢
  have hE3 : Below g w w3 := below_row hE2 hx3 (by omega) (by have := hS2.bb.row; have := lt_of_heap this; omega)
  have hS3 : SAt w3 g b1 SBody.new := ⟨⟨by rw [hw3]; exact (Below.heap_setCell w2 ⟨k, 0, none⟩ _ g (show g ≠ k by omega)).trans hS2.bb.row, hS2.bb.len⟩, hS2.rel, hS2.inv⟩
  have hkg : k ≠ g := by omega
  clear hw3 c0 f0 hO3 hx3 hS2 hE2 hO2
  go_wp2_with fail
  refine (ins06 g k b1 SBody.new m06a 0 0 w3 hS3 hO3w hkg m06_1).mono ?_
  rintro e4 w4 ⟨rfl, ⟨b4, hS4⟩, hO4, hx4⟩
  have hE4 : Below g w w4 := below_row hE3 hx4 (Nat.le_refl _) (by have := lt_of_heap hS3.bb.row; omega)
  clear hS3 hO3w hx4 hE3
  go_wp2_with fail
  refine (ins06 g k b4 m06a m06b 0 0 w4 hS4 hO4 hkg m06_2).mono ?_
  rintro e5 w5 ⟨rfl, ⟨b5, hS5⟩, hO5, hx5⟩
  have hE5 : Below g w w5 := below_row hE4 hx5 (Nat.le_refl _) (by have := lt_of_heap hS4.bb.row; omega)
  clear hS4 hO4 hx5 hE4
  go_wp2_with fail
  refine (ins06 g k b5 m06b m06c 2 0 w5 hS5 hO5 hkg m06_3).mono ?_
  rintro e6 w6 ⟨rfl, ⟨b6, hS6⟩, hO6, hx6⟩
  have hE6 : Below g w w6 := below_row hE5 hx6 (Nat.le_refl _) (by have := lt_of_heap hS5.bb.row; omega)
  clear hS5 hO5 hx6 hE5
  go_wp2_with fail
  refine (ins06n g b6 m06c m06c 0 60 w6 hS6 m06_4).mono ?_
  rintro e7 w7 ⟨rfl, ⟨b7, hS7⟩, hx7⟩
  have hE7 : Below g w w7 := below_row hE6 hx7 (Nat.le_refl _) (by have := lt_of_heap hS6.bb.row; omega)
  clear hS6 hO6 hx7 hE6
  go_wp2_with fail
  refine (sbytes_any g b7 m06c w7 hS7).mono ?_
  rintro e8 w8 ⟨bs, A8, hbs, rfl, ho8, hx8⟩
  have hS8 := hS7.ext hx8
  have hE8 : Below g w w8 := hE7.trans (hx8.mono (by have := lt_of_heap hS7.bb.row; omega))
  have hr8 := ho8.rd'
  have hbl := hbs.rel.len
  have hp := sparse_any A8 bs 243 w8 hr8
  rw [hbl] at hp
  obtain ⟨hv, hof⟩ := hbs.valid hS7.inv
  rw [m06_fix] at hof
  clear ho8 hx8 hS7 hE7 hr8
  go_wp2_with fail
  refine hp.mono ?_
  clear hp
  rintro e9 w9 (⟨t, _, rfl, htg, hT9, hx9⟩ | ⟨hn, _⟩)
  case inr => exact absurd hv hn
  rw [hof] at hT9
  have hS9 := hS8.ext hx9
  have hE9 : Below g w w9 := hE8.trans (hx9.mono (by have := lt_of_heap hS8.bb.row; omega))
  clear hS8 hE8 hx9 htg hv hof hbs hbl
  have hF := free_any g b7 m06c w9 hS9
  rw [m06_free] at hF
  go_wp2_with (go_at_call 13; refine (num06 _ _).mono ?_; rintro e w' ⟨rfl, rfl⟩)
  refine hF.mono ?_
  clear hF
  rintro e10 w10 ⟨rfl, hx10⟩
  have hS10 := hS9.ext hx10
  have hT10 := hT9.ext hx10
  have hE10 : Below g w w10 := hE9.trans (hx10.mono (by have := lt_of_heap hS9.bb.row; omega))
  clear hS9 hT9 hE9 hx10
  have hL := blen_any t bs w10 hT10.bb
  rw [hT10.n, m06_len] at hL
  go_wp2_with (go_at_call 13; refine (num06 _ _).mono ?_; rintro e w' ⟨rfl, rfl⟩)
  refine hL.mono ?_
  clear hL
  rintro e11 w11 ⟨rfl, rfl⟩
  have hC := cell_any t bs m06c 2 w10 hT10
  unfold CellR at hC
  rw [m06_cell, c06_len] at hC
  go_wp2_with fail
  refine hC.mono ?_
  clear hC
  rintro e12 w12 ⟨A12, c12, rfl, _, hx12⟩
  have hS12 := hS10.ext hx12
  have hT12 := hT10.ext hx12
  have hE12 : Below g w w12 := hE10.trans (hx12.mono (by have := lt_of_heap hS10.bb.row; omega))
  clear hS10 hT10 hE10 hx12
  have hC := cell_any t bs m06c 2 w12 hT12
  unfold CellR at hC
  rw [m06_cell, c06_len] at hC
  go_wp2_with fail
  refine hC.mono ?_
  clear hC
  rintro e13 w13 ⟨A13, c13, rfl, ho13, hx13⟩
  have hS13 := hS12.ext hx13
  have hE13 : Below g w w13 := hE12.trans (hx13.mono (by have := lt_of_heap hS12.bb.row; omega))
  obtain ⟨ad, rfl, h9⟩ := ho13.rd'.at_ (k := 0) (by rw [c06_len]; omega)
  have h9v : c06[0]'(by rw [c06_len]; omega) = 9 := by simp [c06]
  rw [h9v] at h9
  have h9w : w13.cell? ad = some (.int .u8 9) := h9
  clear h9
  clear hS12 hT12 hE12 hx13 ho13 h9v
  have hH := holes_any g b7 m06c w13 hS13
  rw [m06_holes] at hH
  go_wp2_with fail
  refine hH.mono ?_
  clear hH
  rintro e14 w14 ⟨rfl, hx14⟩
  have hE14 : Below g w w14 := hE13.trans (hx14.mono (by have := lt_of_heap hS13.bb.row; omega))
  go_wp2_with fail
  go_ret
  exact ⟨rfl, Hg.out ▸ hE14⟩
end Go.Proofs.Ytgfanklhihciaaa
