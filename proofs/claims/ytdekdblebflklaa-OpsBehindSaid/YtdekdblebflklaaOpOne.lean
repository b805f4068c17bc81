
/- Contract: ops.one. Printed by wip/tools/gen_opone20.py. -/

import Derived.Test.YtdekdblebflklaaOpPut

import Derived.Test.YtdekdblebflklaaOpFar

import Derived.Test.YtdekdblebflklaaReg5

namespace Go.Proofs.Ytdekdblebflklaa

open Go.RowKit

attribute [local go_sem] Oper.semAt_some

structure OpV.At (B : Nat) (W : World) (e : OpV) : Prop where
  i : e.In W
  k : FarB B W e.ka e.x.key
  v : FarB B W e.va e.x.val
theorem OpV.At.kept {W W' : World} {e : OpV} {B : Nat} {row : Option Nat} (h : e.At B W) (hg : W.grownBy W' row) (hr : ∀ r, row = some r → r < B ∨ ∀ cur fr, W.heap[r]? ≠ some (.cells cur 5 fr)) : e.At B W' :=
  ⟨⟨h.i.kr.kept h.k hg hr, h.i.vr.kept h.v hg hr, h.i.kcap, h.i.vcap⟩, h.k.kept hg hr, h.v.kept hg hr⟩
theorem OpV.At.ext {W W' : World} {e : OpV} {B : Nat} (h : e.At B W) (hE : Ext W W') : e.At B W' := h.kept (grown_ext hE none) (fun r e => by cases e)
theorem OpV.At.mono {B B' : Nat} {W : World} {e : OpV} (h : e.At B W) (hB : B' ≤ B) : e.At B' W := ⟨h.i, h.k.mono hB, h.v.mono hB⟩
theorem ext_rowD {w w' : World} {g : Nat} (h : Ext w w') (hg : w.heap.size ≤ g) (cs : Array Value) : Ext w (w'.setRow g cs) := ⟨h.os, h.tape, h.output, by simpa using h.size, fun i hi => (setRow_other _ _ _ _ (by omega)).trans (h.block i hi)⟩
theorem _root_.Go.World.drew_own {base size n c : Nat} {e : TypeId} {A : Option Addr} {xs : List Value} (w : World) (h : Own w base e size A n c xs) : Own w.drew base e size A n c xs := h.below (Ext.drew _)
def OneP (A : Option Addr) (bs : List UInt8) (w : World) (e : Ending) (w' : World) : Prop :=
  (∃ (q : OpV) (A3 : Option Addr) (c3 n : Nat), Opn.one bs = some (q.x, n) ∧ e = .returned (.tuple #[.agg q.cells, .slice A3 (bs.drop n).length c3, .bool true]) ∧ q.At w.heap.size w' ∧ (∀ W, RdB W A bs → RdB W A3 (bs.drop n)) ∧ (bs.drop n).length ≤ c3 ∧ Below w.heap.size w w') ∨
  (∃ (cs : Array Value) (A3 : Option Addr) (m c3 : Nat), Opn.one bs = none ∧ e = .returned (.tuple #[.agg cs, .slice A3 m c3, .bool false]) ∧ cs.size = 3 ∧ cs.all (·.oneCell') = true ∧ Below w.heap.size w w')
theorem oneZ : (#[.bool false, .slice none 0 0, .slice none 0 0] : Array Value).all (·.oneCell') = true := by simp [Value.oneCell']
set_option maxRecDepth 100000 in
set_option maxHeartbeats 2000000 in
theorem one_1 (ad : Addr) (t : UInt8) (r : List UInt8) (c : Nat) (w : World) (hA : RdB w (some ad) (t :: r)) (hc : r.length + 1 ≤ c) (hl : r.length ≤ 500000) (ht : ¬ 1 < t.toNat) (hc1 : ¬ c = 1) (k : List UInt8) (n x : Nat) (hget : Vint.getBytes r = (k, n, x)) (hx : x ≠ 0 ∨ ¬ (1 ≤ k.length ∧ k.length ≤ 24)) :
    Calls Try.prog 39 #[.slice (some ad) (r.length + 1) c] w (OneP (some ad) (t :: r) w) := by
  have hn : Opn.one (t :: r) = none := by simp only [Opn.one]; rw [if_neg ht, hget, if_pos hx]
  have g0 := heap_alloc_new w (.cells #[.bool false, .slice none 0 0, .slice none 0 0] 50)
  have hE0 := Ext.alloc w (.cells #[.bool false, .slice none 0 0, .slice none 0 0] 50)
  have hcb : (w.alloc (.cells #[.bool false, .slice none 0 0, .slice none 0 0] 50)).cell? ad = some (.int .u8 (t.toNat : Int)) := by
    obtain ⟨ad', e, hcell⟩ := hA.at_ (k := 0) (by simp)
    injection e with e; subst e
    exact Ext.load hE0 hcell
  have htl := t.toNat_lt
  have hr := hA.tail (k := 1) (by simp) (c := c) (by simpa using hc)
  rw [if_neg hc1] at hr
  have Hr := Lib.hid hr
  have Hn := Lib.hid hn
  have Hget := Lib.hid hget
  obtain ⟨R1, hR1⟩ : ∃ R1 : Array Value, R1 = #[.bool ((t.toNat : Int) == 1), .slice none 0 0, .slice none 0 0] := ⟨_, rfl⟩
  have HR1 := Lib.hid hR1
  have hE1 := Ext.alloc (w.alloc (.cells #[.bool false, .slice none 0 0, .slice none 0 0] 50)) (.cells R1 50)
  have g1 : ((w.alloc (.cells #[.bool false, .slice none 0 0, .slice none 0 0] 50)).alloc (.cells R1 50)).heap[w.heap.size]? = some (.cells #[.bool false, .slice none 0 0, .slice none 0 0] 50 (0, 0)) := (hE1.block _ (lt_of_heap g0)).trans g0
  clear hn hr hget hR1
  go_enter Try.func39, Try.ntmps39
  go_wp2_with fail
  rw [← HR1.out]
  refine (getb _ r (c - 1) _ ((Hr.out.below hE0).below hE1) (by omega) (by omega) Hget.out).mono ?_
  rintro e w1 ⟨A1, c1, rfl, hr1, hcc1, ho1, hb1⟩
  have hg : w1.heap[w.heap.size]? = some (.cells #[.bool false, .slice none 0 0, .slice none 0 0] 50 (0, 0)) := (hb1.block _ (lt_of_heap g1)).trans g1
  clear g1 g0
  by_cases hx0 : x = 0
  · subst hx0
    have hk : ¬ (1 ≤ k.length ∧ k.length ≤ 24) := hx.resolve_left (fun h => h rfl)
    by_cases hk1 : k.length < 1
    · have hk2 : decide ((k.length : Int) < 1) = true := by simp; omega
      go_wp2_with (refine wpList_store_row rfl 50 (.tmp 2) (.tmp 39) rfl w.heap.size #[.bool false, .slice none 0 0, .slice none 0 0] rfl rfl _ _ hg (by kernel_rfl) rfl (by kernel_rfl) ?_)
      (try simp only [Exit.inBlock, Exit.then])
      refine bodyPost_ret (results_row_tmp2 rfl _ _ w.heap.size 50 #[.bool false, .slice none 0 0, .slice none 0 0] (0, 0) _ rfl (setRow_heap _ w.heap.size _ #[.bool false, .slice none 0 0, .slice none 0 0] _ _ hg) Try.underlying50 rfl (by kernel_rfl)) rfl ?_
      exact .inr ⟨#[.bool false, .slice none 0 0, .slice none 0 0], none, 0, 0, Hn.out, rfl, rfl, oneZ, ext_rowD (Ext.tr hE0 (Ext.tr hE1 hb1)) (Nat.le_refl _) _⟩
    · have hk2 : decide ((k.length : Int) < 1) = false := by simp; omega
      have hk3 : decide ((24 : Int) < (k.length : Int)) = true := by simp; omega
      go_wp2_with (refine wpList_store_row rfl 50 (.tmp 2) (.tmp 39) rfl w.heap.size #[.bool false, .slice none 0 0, .slice none 0 0] rfl rfl _ _ hg (by kernel_rfl) rfl (by kernel_rfl) ?_)
      (try simp only [Exit.inBlock, Exit.then])
      refine bodyPost_ret (results_row_tmp2 rfl _ _ w.heap.size 50 #[.bool false, .slice none 0 0, .slice none 0 0] (0, 0) _ rfl (setRow_heap _ w.heap.size _ #[.bool false, .slice none 0 0, .slice none 0 0] _ _ hg) Try.underlying50 rfl (by kernel_rfl)) rfl ?_
      exact .inr ⟨#[.bool false, .slice none 0 0, .slice none 0 0], none, 0, 0, Hn.out, rfl, rfl, oneZ, ext_rowD (Ext.tr hE0 (Ext.tr hE1 hb1)) (Nat.le_refl _) _⟩
  · have hx' : ((x : Int) != 0) = true := by rw [bne_iff_ne]; omega
    go_wp2_with (refine wpList_store_row rfl 50 (.tmp 2) (.tmp 39) rfl w.heap.size #[.bool false, .slice none 0 0, .slice none 0 0] rfl rfl _ _ hg (by kernel_rfl) rfl (by kernel_rfl) ?_)
    (try simp only [Exit.inBlock, Exit.then])
    refine bodyPost_ret (results_row_tmp2 rfl _ _ w.heap.size 50 #[.bool false, .slice none 0 0, .slice none 0 0] (0, 0) _ rfl (setRow_heap _ w.heap.size _ #[.bool false, .slice none 0 0, .slice none 0 0] _ _ hg) Try.underlying50 rfl (by kernel_rfl)) rfl ?_
    exact .inr ⟨#[.bool false, .slice none 0 0, .slice none 0 0], none, 0, 0, Hn.out, rfl, rfl, oneZ, ext_rowD (Ext.tr hE0 (Ext.tr hE1 hb1)) (Nat.le_refl _) _⟩
set_option maxRecDepth 100000 in
set_option maxHeartbeats 2000000 in
theorem one_3 (ad : Addr) (t : UInt8) (r : List UInt8) (c : Nat) (w : World) (hA : RdB w (some ad) (t :: r)) (hc : r.length + 1 ≤ c) (hl : r.length ≤ 500000) (ht : t.toNat = 1) (hc1 : ¬ c = 1) (k : List UInt8) (n : Nat) (hget : Vint.getBytes r = (k, n, 0)) (hk : 1 ≤ k.length ∧ k.length ≤ 24) (hcn : ¬ c = 1 + n) :
    Calls Try.prog 39 #[.slice (some ad) (r.length + 1) c] w (OneP (some ad) (t :: r) w) := by
  have hn : Opn.one (t :: r) = some (⟨true, k, []⟩, 1 + n) := by
    simp only [Opn.one]
    rw [if_neg (by omega), hget]
    simp [hk, ht]
  have g0 := heap_alloc_new w (.cells #[.bool false, .slice none 0 0, .slice none 0 0] 50)
  have hE0 := Ext.alloc w (.cells #[.bool false, .slice none 0 0, .slice none 0 0] 50)
  have hcb : (w.alloc (.cells #[.bool false, .slice none 0 0, .slice none 0 0] 50)).cell? ad = some (.int .u8 1) := by
    obtain ⟨ad', e, hcell⟩ := hA.at_ (k := 0) (by simp)
    injection e with e; subst e
    have h9 := Ext.load hE0 hcell
    simp only [List.getElem_cons_zero, ht] at h9
    exact h9
  have hr := hA.tail (k := 1) (by simp) (c := c) (by simpa using hc)
  rw [if_neg hc1] at hr
  have hnl : n ≤ r.length := by have := Vint.getBytes_le r; rw [hget] at this; exact this
  have hr2 := hA.tail (k := 1 + n) (by simp; omega) (c := c) (by simpa using hc)
  have Hr := Lib.hid hr
  have Hr2 := Lib.hid hr2
  have Hget := Lib.hid hget
  have hE1 := Ext.alloc (w.alloc (.cells #[.bool false, .slice none 0 0, .slice none 0 0] 50)) (.cells #[.bool true, .slice none 0 0, .slice none 0 0] 50)
  have g1 : ((w.alloc (.cells #[.bool false, .slice none 0 0, .slice none 0 0] 50)).alloc (.cells #[.bool true, .slice none 0 0, .slice none 0 0] 50)).heap[w.heap.size]? = some (.cells #[.bool false, .slice none 0 0, .slice none 0 0] 50 (0, 0)) := (hE1.block _ (lt_of_heap g0)).trans g0
  have g5 : ((w.alloc (.cells #[.bool false, .slice none 0 0, .slice none 0 0] 50)).alloc (.cells #[.bool true, .slice none 0 0, .slice none 0 0] 50)).heap[w.heap.size + 1]? = some (.cells #[.bool true, .slice none 0 0, .slice none 0 0] 50 (0, 0)) := by
    have := heap_alloc_new (w.alloc (.cells #[.bool false, .slice none 0 0, .slice none 0 0] 50)) (.cells #[.bool true, .slice none 0 0, .slice none 0 0] 50)
    rwa [World.size_alloc] at this
  have hk2 : decide ((k.length : Int) < 1) = false := by simp; omega
  have hk3 : decide ((24 : Int) < (k.length : Int)) = false := by simp; omega
  have Hn := Lib.hid hn
  clear hn hr hr2 hget
  go_enter Try.func39, Try.ntmps39
  go_wp2_with fail
  refine (getb _ r (c - 1) _ ((Hr.out.below hE0).below hE1) (by omega) (by omega) Hget.out).mono ?_
  rintro e w1 ⟨A1, c1, rfl, hr1, hcc1, ho1, hb1⟩
  have hg : w1.heap[w.heap.size]? = some (.cells #[.bool false, .slice none 0 0, .slice none 0 0] 50 (0, 0)) := (hb1.block _ (lt_of_heap g1)).trans g1
  have hg5 : w1.heap[w.heap.size + 1]? = some (.cells #[.bool true, .slice none 0 0, .slice none 0 0] 50 (0, 0)) := (hb1.block _ (lt_of_heap g5)).trans g5
  clear g1 g0 g5
  have hs5 := setRow_heap w1 (w.heap.size + 1) _ #[.bool true, .slice A1 k.length c1, .slice none 0 0] _ _ hg5
  have hs2 : (w1.setRow (w.heap.size + 1) #[.bool true, .slice A1 k.length c1, .slice none 0 0]).heap[w.heap.size]? = some (.cells #[.bool false, .slice none 0 0, .slice none 0 0] 50 (0, 0)) := (setRow_other _ _ _ _ (by omega)).trans hg
  have hE2 : Ext w (w1.setRow (w.heap.size + 1) #[.bool true, .slice A1 k.length c1, .slice none 0 0]) := ext_rowD (Ext.tr hE0 (Ext.tr hE1 hb1)) (by omega) _
  have hkA : RdB (w1.setRow (w.heap.size + 1) #[.bool true, .slice A1 k.length c1, .slice none 0 0]) A1 k := (own_setRow ho1 (by have := hE1.size; have := lt_of_heap hg5; simp) _).rd'
  have hkF : FarB w.heap.size (w1.setRow (w.heap.size + 1) #[.bool true, .slice A1 k.length c1, .slice none 0 0]) A1 k := (own_setRow ho1 (by simp) _).far (by simp; omega)
  go_wp2_with (refine wpList_store_at rfl 33 (.tmp 41) (.tmp 40) rfl ⟨w.heap.size + 1, 1, none⟩ rfl (w.heap.size + 1) 1 rfl (.slice A1 k.length c1) rfl #[.slice A1 k.length c1] rfl _ 50 hg5 (by kernel_rfl) (by simp) (by simp [Value.oneCell']) #[.bool true, .slice A1 k.length c1, .slice none 0 0] rfl ?_; refine Hid.out ?_)
  obtain ⟨W2, hW2⟩ : ∃ W2, W2 = w1.setRow (w.heap.size + 1) #[.bool true, .slice A1 k.length c1, .slice none 0 0] := ⟨_, rfl⟩
  rw [← hW2] at hs5 hs2 hE2 hkA hkF ⊢
  clear hW2 hg hg5 hb1 hr1 ho1
  have hc0 : W2.cell? ⟨w.heap.size + 1, 0, none⟩ = some (.bool true) := by rw [cell_of_row _ _ _ _ _ _ hs5]; rfl
  have Hs5 := Lib.hid hs5
  have Hs2 := Lib.hid hs2
  clear hs5 hs2
  refine Lib.hid ?_
  go_wp2_with (first | (refine wpList_load_rowG (by rfl) 50 (.tmp 5) rfl (w.heap.size + 1) rfl 50 _ (0, 0) _ Hs5.out Try.underlying50 rfl (by kernel_rfl) ?_) | (refine wpList_store_row rfl 50 (.tmp 2) (.tmp 48) rfl w.heap.size #[.bool true, .slice A1 k.length c1, .slice none 0 0] rfl rfl _ _ Hs2.out (by kernel_rfl) rfl (by simp [Value.oneCell']) ?_))
  refine bodyPost_ret (results_row_tmp2 rfl _ _ w.heap.size 50 #[.bool true, .slice A1 k.length c1, .slice none 0 0] (0, 0) _ rfl (setRow_heap _ w.heap.size _ _ _ _ Hs2.out) Try.underlying50 rfl (by kernel_rfl)) rfl ?_
  have hdl : ((t :: r).drop (1 + n)).length = r.length + 1 - (1 + n) := by simp
  have hE3 := ext_rowD hE2 (Nat.le_refl w.heap.size) #[.bool true, .slice A1 k.length c1, .slice none 0 0]
  have hgr := grown_row W2 w.heap.size #[.bool true, .slice A1 k.length c1, .slice none 0 0]
  have hno : ∀ r, some w.heap.size = some r → r < w.heap.size ∨ ∀ cur fr, W2.heap[r]? ≠ some (.cells cur 5 fr) := fun r e => .inr (by injection e with e; subst e; intro cur fr h9; rw [Hs2.out] at h9; cases h9)
  refine .inl ⟨⟨A1, c1, none, 0, ⟨true, k, []⟩⟩, some (ad.add (1 + n)), c - (1 + n), 1 + n, Hn.out, by rw [hdl]; rfl, ⟨⟨hkA.kept hkF hgr hno, RdB.nil_ _ _, hcc1, Nat.zero_le _⟩, hkF.kept hgr hno, fun h => absurd rfl h⟩, fun W hW => (by have h7 := hW.tail (k := 1 + n) (by simp; omega) (c := c) (by simpa using hc); rw [if_neg hcn] at h7; exact h7), by rw [hdl]; omega, hE3⟩
set_option maxRecDepth 100000 in
set_option maxHeartbeats 2000000 in
theorem one_6 (ad : Addr) (t : UInt8) (r : List UInt8) (c : Nat) (w : World) (hA : RdB w (some ad) (t :: r)) (hc : r.length + 1 ≤ c) (hl : r.length ≤ 500000) (ht : t.toNat = 0) (hc1 : ¬ c = 1) (k : List UInt8) (n : Nat) (hget : Vint.getBytes r = (k, n, 0)) (hk : 1 ≤ k.length ∧ k.length ≤ 24) (hcn : ¬ c = 1 + n) (v : List UInt8) (m y : Nat) (hget2 : Vint.getBytes (r.drop n) = (v, m, y)) (hy : y = 0) (hv : v.length ≤ 1000) :
    Calls Try.prog 39 #[.slice (some ad) (r.length + 1) c] w (OneP (some ad) (t :: r) w) := by
  have g0 := heap_alloc_new w (.cells #[.bool false, .slice none 0 0, .slice none 0 0] 50)
  have hE0 := Ext.alloc w (.cells #[.bool false, .slice none 0 0, .slice none 0 0] 50)
  have hcb : (w.alloc (.cells #[.bool false, .slice none 0 0, .slice none 0 0] 50)).cell? ad = some (.int .u8 0) := by
    obtain ⟨ad', e, hcell⟩ := hA.at_ (k := 0) (by simp)
    injection e with e; subst e
    have h9 := Ext.load hE0 hcell
    simp only [List.getElem_cons_zero, ht] at h9
    exact h9
  have hr := hA.tail (k := 1) (by simp) (c := c) (by simpa using hc)
  rw [if_neg hc1] at hr
  have hnl : n ≤ r.length := by have := Vint.getBytes_le r; rw [hget] at this; exact this
  have hr2 := hA.tail (k := 1 + n) (by simp; omega) (c := c) (by simpa using hc)
  have Hr := Lib.hid hr
  have Hr2 := Lib.hid hr2
  have Hget := Lib.hid hget
  have hE1 := Ext.alloc (w.alloc (.cells #[.bool false, .slice none 0 0, .slice none 0 0] 50)) (.cells #[.bool false, .slice none 0 0, .slice none 0 0] 50)
  have g1 : ((w.alloc (.cells #[.bool false, .slice none 0 0, .slice none 0 0] 50)).alloc (.cells #[.bool false, .slice none 0 0, .slice none 0 0] 50)).heap[w.heap.size]? = some (.cells #[.bool false, .slice none 0 0, .slice none 0 0] 50 (0, 0)) := (hE1.block _ (lt_of_heap g0)).trans g0
  have g5 : ((w.alloc (.cells #[.bool false, .slice none 0 0, .slice none 0 0] 50)).alloc (.cells #[.bool false, .slice none 0 0, .slice none 0 0] 50)).heap[w.heap.size + 1]? = some (.cells #[.bool false, .slice none 0 0, .slice none 0 0] 50 (0, 0)) := by
    have := heap_alloc_new (w.alloc (.cells #[.bool false, .slice none 0 0, .slice none 0 0] 50)) (.cells #[.bool false, .slice none 0 0, .slice none 0 0] 50)
    rwa [World.size_alloc] at this
  have hk2 : decide ((k.length : Int) < 1) = false := by simp; omega
  have hk3 : decide ((24 : Int) < (k.length : Int)) = false := by simp; omega
  have hml : m ≤ r.length - n := by have := Vint.getBytes_le (r.drop n); rw [hget2, List.length_drop] at this; exact this
  have Hget2 := Lib.hid hget2
  have hr3 := hA.tail (k := 1 + n + m) (by simp; omega) (c := c) (by simpa using hc)
  have Hr3 := Lib.hid hr3
  clear hr3 hget2
  have hn : Opn.one (t :: r) = some (⟨false, k, v⟩, 1 + n + m) := by
    simp only [Opn.one]
    rw [if_neg (by omega), hget]
    have h2 := Hget2.out
    subst hy
    simp only [ne_eq, not_true_eq_false, false_or, hk, and_self, not_true_eq_false, if_false, ht, Nat.zero_ne_one]
    rw [h2]
    simp [hv]
  have Hn := Lib.hid hn
  subst hy
  have hyb : ((0 : Nat) : Int) = 0 := rfl
  clear hn hr hr2 hget
  go_enter Try.func39, Try.ntmps39
  go_wp2_with fail
  refine (getb _ r (c - 1) _ ((Hr.out.below hE0).below hE1) (by omega) (by omega) Hget.out).mono ?_
  rintro e w1 ⟨A1, c1, rfl, hr1, hcc1, ho1, hb1⟩
  have hg : w1.heap[w.heap.size]? = some (.cells #[.bool false, .slice none 0 0, .slice none 0 0] 50 (0, 0)) := (hb1.block _ (lt_of_heap g1)).trans g1
  have hg5 : w1.heap[w.heap.size + 1]? = some (.cells #[.bool false, .slice none 0 0, .slice none 0 0] 50 (0, 0)) := (hb1.block _ (lt_of_heap g5)).trans g5
  clear g1 g0 g5
  have hs5 := setRow_heap w1 (w.heap.size + 1) _ #[.bool false, .slice A1 k.length c1, .slice none 0 0] _ _ hg5
  have hs2 : (w1.setRow (w.heap.size + 1) #[.bool false, .slice A1 k.length c1, .slice none 0 0]).heap[w.heap.size]? = some (.cells #[.bool false, .slice none 0 0, .slice none 0 0] 50 (0, 0)) := (setRow_other _ _ _ _ (by omega)).trans hg
  have hE2 : Ext w (w1.setRow (w.heap.size + 1) #[.bool false, .slice A1 k.length c1, .slice none 0 0]) := ext_rowD (Ext.tr hE0 (Ext.tr hE1 hb1)) (by omega) _
  have hkA : Own (w1.setRow (w.heap.size + 1) #[.bool false, .slice A1 k.length c1, .slice none 0 0]) (w.heap.size + 2) 5 1 A1 k.length c1 (bvs k) := (own_setRow ho1 (by simp) _).mono (by simp)
  go_wp2_with (refine wpList_store_at rfl 33 (.tmp 41) (.tmp 40) rfl ⟨w.heap.size + 1, 1, none⟩ rfl (w.heap.size + 1) 1 rfl (.slice A1 k.length c1) rfl #[.slice A1 k.length c1] rfl _ 50 hg5 (by kernel_rfl) (by simp) (by simp [Value.oneCell']) #[.bool false, .slice A1 k.length c1, .slice none 0 0] rfl ?_; refine Hid.out ?_)
  obtain ⟨W2, hW2⟩ : ∃ W2, W2 = w1.setRow (w.heap.size + 1) #[.bool false, .slice A1 k.length c1, .slice none 0 0] := ⟨_, rfl⟩
  rw [← hW2] at hs5 hs2 hE2 hkA ⊢
  clear hW2 hg hg5 hb1 hr1 ho1
  have hc0 : W2.cell? ⟨w.heap.size + 1, 0, none⟩ = some (.bool false) := by rw [cell_of_row _ _ _ _ _ _ hs5]; rfl
  have hrw : RdB w (some (ad.add (1 + n))) (r.drop n) := by
    have h9 := Hr2.out
    rw [if_neg hcn, show (t :: r).drop (1 + n) = r.drop n by rw [Nat.add_comm]; rfl] at h9
    exact h9
  have hrd := hrw.below hE2
  have Hs5 := Lib.hid hs5
  have Hs2 := Lib.hid hs2
  have Hdl : Hid ((r.drop n).length = r.length + 1 - (1 + n)) := by show _ = _; rw [List.length_drop]; omega
  clear hs5 hs2
  refine Lib.hid ?_
  go_wp2_with fail
  refine (show Calls Try.prog 52 #[.slice (some (ad.add (1 + n))) (r.length + 1 - (1 + n)) (c - (1 + n))] W2 _ from ?_)
  have hgb := getb (some (ad.add (1 + n))) (r.drop n) (c - (1 + n)) W2 hrd (by rw [List.length_drop]; omega) (by rw [List.length_drop]; omega) Hget2.out
  rw [Hdl.out] at hgb
  refine hgb.mono ?_
  rintro e w3 ⟨A2, c2, rfl, hr4, hcc2, ho2, hb2⟩
  have hs5 : w3.heap[w.heap.size + 1]? = some (.cells #[.bool false, .slice A1 k.length c1, .slice none 0 0] 50 (0, 0)) := (hb2.block _ (lt_of_heap Hs5.out)).trans Hs5.out
  have hs2 : w3.heap[w.heap.size]? = some (.cells #[.bool false, .slice none 0 0, .slice none 0 0] 50 (0, 0)) := (hb2.block _ (lt_of_heap Hs2.out)).trans Hs2.out
  have h35 := setRow_heap w3 (w.heap.size + 1) _ #[.bool false, .slice A1 k.length c1, .slice A2 v.length c2] _ _ hs5
  have h32 : (w3.setRow (w.heap.size + 1) #[.bool false, .slice A1 k.length c1, .slice A2 v.length c2]).heap[w.heap.size]? = some (.cells #[.bool false, .slice none 0 0, .slice none 0 0] 50 (0, 0)) := (setRow_other _ _ _ _ (by omega)).trans hs2
  have hE3 : Ext w (w3.setRow (w.heap.size + 1) #[.bool false, .slice A1 k.length c1, .slice A2 v.length c2]) := ext_rowD (Ext.tr hE2 hb2) (by omega) _
  have hW2s := hE2.size
  have hW2s2 := lt_of_heap Hs5.out
  have hkA3 : Own (w3.setRow (w.heap.size + 1) #[.bool false, .slice A1 k.length c1, .slice A2 v.length c2]) (w.heap.size + 2) 5 1 A1 k.length c1 (bvs k) := own_setRow (hkA.below hb2) (by omega) _
  have hvA3 : Own (w3.setRow (w.heap.size + 1) #[.bool false, .slice A1 k.length c1, .slice A2 v.length c2]) (w.heap.size + 2) 5 1 A2 v.length c2 (bvs v) := (own_setRow (ho2.mono (by omega)) (by omega) _)
  go_wp2_with (refine wpList_store_at rfl 33 (.tmp 57) (.tmp 56) rfl ⟨w.heap.size + 1, 2, none⟩ rfl (w.heap.size + 1) 2 rfl (.slice A2 v.length c2) rfl #[.slice A2 v.length c2] rfl _ 50 hs5 (by kernel_rfl) (by simp) (by simp [Value.oneCell']) #[.bool false, .slice A1 k.length c1, .slice A2 v.length c2] rfl ?_; refine Hid.out ?_)
  obtain ⟨W4, hW4⟩ : ∃ W4, W4 = w3.setRow (w.heap.size + 1) #[.bool false, .slice A1 k.length c1, .slice A2 v.length c2] := ⟨_, rfl⟩
  rw [← hW4] at h35 h32 hE3 hkA3 hvA3 ⊢
  clear hW4
  refine Lib.hid ?_
  go_wp2_with fail
  obtain ⟨A9, hA9⟩ : ∃ A9, A9 = (if c - (1 + n) = m then some (ad.add (1 + n)) else some ((ad.add (1 + n)).add m)) := ⟨_, rfl⟩
  have HA9 := Lib.hid hA9
  have H35 := Lib.hid h35
  have H32 := Lib.hid h32
  clear hA9 h35 h32
  refine re_start [1, 2, 3, 7, 8, 9, 10] (by kernel_rfl) ?_
  refine re_take 0 (by rfl) rfl (by kernel_rfl) (by kernel_rfl) (by kernel_rfl) (fun _ _ _ _ h => h) (by rfl) ⟨.agg #[.bool false, .slice A1 k.length c1, .slice A2 v.length c2], fun w' hx => ex_load_row 50 _ rfl (w.heap.size + 1) rfl 50 _ (0, 0) _ ((hx.block _ (lt_of_heap H35.out)).trans H35.out) Try.underlying50 rfl (by kernel_rfl), ?_⟩
  simp only [Act.put, List.setIfInBounds_toArray, List.set_cons_zero, List.set_cons_succ]
  refine re_takeA 1 rfl (by kernel_rfl) (by kernel_rfl) (by kernel_rfl) (fun _ _ _ _ h => h) (by rfl) ⟨_, fun w' => by (go_simp <;> with_reducible rfl), ?_⟩
  simp only [Act.put, List.setIfInBounds_toArray, List.set_cons_zero, List.set_cons_succ]
  refine re_takeA 2 rfl (by kernel_rfl) (by kernel_rfl) (by kernel_rfl) (fun _ _ _ _ h => h) (by rfl) ⟨_, fun w' => by (go_simp <;> with_reducible rfl), ?_⟩
  simp only [Act.put, List.setIfInBounds_toArray, List.set_cons_zero, List.set_cons_succ]
  refine re_takeA 3 rfl (by kernel_rfl) (by kernel_rfl) (by kernel_rfl) (fun _ _ _ _ h => h) (by rfl) ⟨.slice A9 (r.length + 1 - (1 + n) - m) (c - (1 + n) - m), fun w' => by (rw [HA9.out]; go_simp; first | done | (intro h9; omega)), ?_⟩
  simp only [Act.put, List.setIfInBounds_toArray, List.set_cons_zero, List.set_cons_succ]
  refine re_take 4 (by rfl) rfl (by kernel_rfl) (by kernel_rfl) (by kernel_rfl) (fun _ _ _ _ h => h) (by rfl) ⟨_, fun w' hx => by (go_simp <;> with_reducible rfl), ?_⟩
  simp only [Act.put, List.setIfInBounds_toArray, List.set_cons_zero, List.set_cons_succ]
  refine re_take 5 (by rfl) rfl (by kernel_rfl) (by kernel_rfl) (by kernel_rfl) (fun _ _ _ _ h => h) (by rfl) ⟨.bool true, fun w' hx => by (go_simp; first | done | exact hyb | simpa using hyb), ?_⟩
  simp only [Act.put, List.setIfInBounds_toArray, List.set_cons_zero, List.set_cons_succ]
  refine re_take 6 (by rfl) rfl (by kernel_rfl) (by kernel_rfl) (by kernel_rfl) (fun _ _ _ _ h => h) (by rfl) ⟨_, fun w' hx => by (go_simp <;> with_reducible rfl), ?_⟩
  simp only [Act.put, List.setIfInBounds_toArray, List.set_cons_zero, List.set_cons_succ]
  refine re_takeA 7 rfl (by kernel_rfl) (by kernel_rfl) (by kernel_rfl) (fun _ _ _ _ h => h) (by rfl) ⟨_, fun w' => by (go_simp <;> with_reducible rfl), ?_⟩
  simp only [Act.put, List.setIfInBounds_toArray, List.set_cons_zero, List.set_cons_succ]
  refine re_takeA 8 rfl (by kernel_rfl) (by kernel_rfl) (by kernel_rfl) (fun _ _ _ _ h => h) (by rfl) ⟨_, fun w' => by (go_simp <;> with_reducible rfl), ?_⟩   -- t66 := len(t65)
  simp only [Act.put, List.setIfInBounds_toArray, List.set_cons_zero, List.set_cons_succ]
  refine re_takeA 9 rfl (by kernel_rfl) (by kernel_rfl) (by kernel_rfl) (fun _ _ _ _ h => h) (by rfl) ⟨.bool true, fun w' => by (go_simp; first | done | omega), ?_⟩
  simp only [Act.put, List.setIfInBounds_toArray, List.set_cons_zero, List.set_cons_succ]
  refine re_takeA 10 rfl (by kernel_rfl) (by kernel_rfl) (by kernel_rfl) (fun _ _ _ _ h => h) (by rfl) ⟨.bool true, fun w' => by (go_simp <;> rfl), ?_⟩
  simp only [Act.put, List.setIfInBounds_toArray, List.set_cons_zero, List.set_cons_succ]
  refine re_store 11 rfl (by kernel_rfl) (by kernel_rfl) (by rfl) ⟨_, ex_store_rowS 50 _ _ rfl w.heap.size rfl #[.bool false, .slice A1 k.length c1, .slice A2 v.length c2] rfl _ 50 H32.out (by kernel_rfl) rfl (by simp [Value.oneCell']), ?_⟩
  simp only [Act.put]
  refine re_take 12 (by rfl) rfl (by kernel_rfl) (by kernel_rfl) (by kernel_rfl) (fun _ _ _ _ h => h) (by rfl) ⟨_, fun w' hx => by (go_simp <;> with_reducible rfl), ?_⟩
  simp only [Act.put, List.setIfInBounds_toArray, List.set_cons_zero, List.set_cons_succ]
  refine re_take 13 (by rfl) rfl (by kernel_rfl) (by kernel_rfl) (by kernel_rfl) (fun _ _ _ _ h => h) (by rfl) ⟨_, fun w' hx => by (go_simp <;> with_reducible rfl), ?_⟩
  simp only [Act.put, List.setIfInBounds_toArray, List.set_cons_zero, List.set_cons_succ]
  refine re_done (by kernel_rfl) ?_
  go_wp2_with fail
  (try simp only [Exit.inBlock, Exit.then])
  refine bodyPost_ret (results_row_tmp2 rfl _ _ w.heap.size 50 #[.bool false, .slice A1 k.length c1, .slice A2 v.length c2] (0, 0) _ rfl (setRow_heap _ w.heap.size _ #[.bool false, .slice A1 k.length c1, .slice A2 v.length c2] _ _ H32.out) Try.underlying50 rfl (by kernel_rfl)) rfl ?_
  have hdl : ((t :: r).drop (1 + n + m)).length = r.length + 1 - (1 + n) - m := by simp; omega
  have hE5 := ext_rowD (Ext.tr hE3 (Ext.drew W4)) (Nat.le_refl w.heap.size) #[.bool false, .slice A1 k.length c1, .slice A2 v.length c2]
  have hkA5 := own_setRow (W4.drew_own hkA3) (show w.heap.size < w.heap.size + 2 by omega) #[.bool false, .slice A1 k.length c1, .slice A2 v.length c2]
  have hvA5 := own_setRow (W4.drew_own hvA3) (show w.heap.size < w.heap.size + 2 by omega) #[.bool false, .slice A1 k.length c1, .slice A2 v.length c2]
  have hd9 : (t :: r).drop (1 + n + m) = (r.drop n).drop m := by rw [List.drop_drop, show 1 + n + m = (n + m) + 1 by omega]; rfl
  refine .inl ⟨⟨A1, c1, A2, c2, ⟨false, k, v⟩⟩, A9, c - (1 + n) - m, 1 + n + m, Hn.out, by rw [hdl]; rfl, ⟨⟨hkA5.rd', hvA5.rd', hcc1, hcc2⟩, hkA5.far (by omega), hvA5.far (by omega)⟩, fun W hW => (by rw [hd9, HA9.out]; have h9 := hW.tail (k := 1 + n) (by simp; omega) (c := c) (by simpa using hc); rw [if_neg hcn, show (t :: r).drop (1 + n) = r.drop n by rw [Nat.add_comm]; rfl] at h9; exact h9.tail (k := m) (by rw [List.length_drop]; omega) (c := c - (1 + n)) (by rw [List.length_drop]; omega)), by rw [hdl]; omega, hE5⟩
set_option maxRecDepth 100000 in
set_option maxHeartbeats 2000000 in
theorem one_5 (ad : Addr) (t : UInt8) (r : List UInt8) (c : Nat) (w : World) (hA : RdB w (some ad) (t :: r)) (hc : r.length + 1 ≤ c) (hl : r.length ≤ 500000) (ht : t.toNat = 0) (hc1 : ¬ c = 1) (k : List UInt8) (n : Nat) (hget : Vint.getBytes r = (k, n, 0)) (hk : 1 ≤ k.length ∧ k.length ≤ 24) (hcn : ¬ c = 1 + n) (v : List UInt8) (m y : Nat) (hget2 : Vint.getBytes (r.drop n) = (v, m, y)) (hy : y = 0) (hv : 1000 < v.length) :
    Calls Try.prog 39 #[.slice (some ad) (r.length + 1) c] w (OneP (some ad) (t :: r) w) := by
  have g0 := heap_alloc_new w (.cells #[.bool false, .slice none 0 0, .slice none 0 0] 50)
  have hE0 := Ext.alloc w (.cells #[.bool false, .slice none 0 0, .slice none 0 0] 50)
  have hcb : (w.alloc (.cells #[.bool false, .slice none 0 0, .slice none 0 0] 50)).cell? ad = some (.int .u8 0) := by
    obtain ⟨ad', e, hcell⟩ := hA.at_ (k := 0) (by simp)
    injection e with e; subst e
    have h9 := Ext.load hE0 hcell
    simp only [List.getElem_cons_zero, ht] at h9
    exact h9
  have hr := hA.tail (k := 1) (by simp) (c := c) (by simpa using hc)
  rw [if_neg hc1] at hr
  have hnl : n ≤ r.length := by have := Vint.getBytes_le r; rw [hget] at this; exact this
  have hr2 := hA.tail (k := 1 + n) (by simp; omega) (c := c) (by simpa using hc)
  have Hr := Lib.hid hr
  have Hr2 := Lib.hid hr2
  have Hget := Lib.hid hget
  have hE1 := Ext.alloc (w.alloc (.cells #[.bool false, .slice none 0 0, .slice none 0 0] 50)) (.cells #[.bool false, .slice none 0 0, .slice none 0 0] 50)
  have g1 : ((w.alloc (.cells #[.bool false, .slice none 0 0, .slice none 0 0] 50)).alloc (.cells #[.bool false, .slice none 0 0, .slice none 0 0] 50)).heap[w.heap.size]? = some (.cells #[.bool false, .slice none 0 0, .slice none 0 0] 50 (0, 0)) := (hE1.block _ (lt_of_heap g0)).trans g0
  have g5 : ((w.alloc (.cells #[.bool false, .slice none 0 0, .slice none 0 0] 50)).alloc (.cells #[.bool false, .slice none 0 0, .slice none 0 0] 50)).heap[w.heap.size + 1]? = some (.cells #[.bool false, .slice none 0 0, .slice none 0 0] 50 (0, 0)) := by
    have := heap_alloc_new (w.alloc (.cells #[.bool false, .slice none 0 0, .slice none 0 0] 50)) (.cells #[.bool false, .slice none 0 0, .slice none 0 0] 50)
    rwa [World.size_alloc] at this
  have hk2 : decide ((k.length : Int) < 1) = false := by simp; omega
  have hk3 : decide ((24 : Int) < (k.length : Int)) = false := by simp; omega
  have hml : m ≤ r.length - n := by have := Vint.getBytes_le (r.drop n); rw [hget2, List.length_drop] at this; exact this
  have Hget2 := Lib.hid hget2
  have hr3 := hA.tail (k := 1 + n + m) (by simp; omega) (c := c) (by simpa using hc)
  have Hr3 := Lib.hid hr3
  clear hr3 hget2
  have hn : Opn.one (t :: r) = none := by
    simp only [Opn.one]
    rw [if_neg (by omega), hget]
    have h2 := Hget2.out
    simp only [ne_eq, not_true_eq_false, false_or, hk, and_self, not_true_eq_false, if_false, ht, Nat.zero_ne_one]
    rw [h2]
    simp [hv]
  have Hn := Lib.hid hn
  subst hy
  have hyb : ((0 : Nat) : Int) = 0 := rfl
  clear hn hr hr2 hget
  go_enter Try.func39, Try.ntmps39
  go_wp2_with fail
  refine (getb _ r (c - 1) _ ((Hr.out.below hE0).below hE1) (by omega) (by omega) Hget.out).mono ?_
  rintro e w1 ⟨A1, c1, rfl, hr1, hcc1, ho1, hb1⟩
  have hg : w1.heap[w.heap.size]? = some (.cells #[.bool false, .slice none 0 0, .slice none 0 0] 50 (0, 0)) := (hb1.block _ (lt_of_heap g1)).trans g1
  have hg5 : w1.heap[w.heap.size + 1]? = some (.cells #[.bool false, .slice none 0 0, .slice none 0 0] 50 (0, 0)) := (hb1.block _ (lt_of_heap g5)).trans g5
  clear g1 g0 g5
  have hs5 := setRow_heap w1 (w.heap.size + 1) _ #[.bool false, .slice A1 k.length c1, .slice none 0 0] _ _ hg5
  have hs2 : (w1.setRow (w.heap.size + 1) #[.bool false, .slice A1 k.length c1, .slice none 0 0]).heap[w.heap.size]? = some (.cells #[.bool false, .slice none 0 0, .slice none 0 0] 50 (0, 0)) := (setRow_other _ _ _ _ (by omega)).trans hg
  have hE2 : Ext w (w1.setRow (w.heap.size + 1) #[.bool false, .slice A1 k.length c1, .slice none 0 0]) := ext_rowD (Ext.tr hE0 (Ext.tr hE1 hb1)) (by omega) _
  have hkA : Own (w1.setRow (w.heap.size + 1) #[.bool false, .slice A1 k.length c1, .slice none 0 0]) (w.heap.size + 2) 5 1 A1 k.length c1 (bvs k) := (own_setRow ho1 (by simp) _).mono (by simp)
  go_wp2_with (refine wpList_store_at rfl 33 (.tmp 41) (.tmp 40) rfl ⟨w.heap.size + 1, 1, none⟩ rfl (w.heap.size + 1) 1 rfl (.slice A1 k.length c1) rfl #[.slice A1 k.length c1] rfl _ 50 hg5 (by kernel_rfl) (by simp) (by simp [Value.oneCell']) #[.bool false, .slice A1 k.length c1, .slice none 0 0] rfl ?_; refine Hid.out ?_)
  obtain ⟨W2, hW2⟩ : ∃ W2, W2 = w1.setRow (w.heap.size + 1) #[.bool false, .slice A1 k.length c1, .slice none 0 0] := ⟨_, rfl⟩
  rw [← hW2] at hs5 hs2 hE2 hkA ⊢
  clear hW2 hg hg5 hb1 hr1 ho1
  have hc0 : W2.cell? ⟨w.heap.size + 1, 0, none⟩ = some (.bool false) := by rw [cell_of_row _ _ _ _ _ _ hs5]; rfl
  have hrw : RdB w (some (ad.add (1 + n))) (r.drop n) := by
    have h9 := Hr2.out
    rw [if_neg hcn, show (t :: r).drop (1 + n) = r.drop n by rw [Nat.add_comm]; rfl] at h9
    exact h9
  have hrd := hrw.below hE2
  have Hs5 := Lib.hid hs5
  have Hs2 := Lib.hid hs2
  have Hdl : Hid ((r.drop n).length = r.length + 1 - (1 + n)) := by show _ = _; rw [List.length_drop]; omega
  clear hs5 hs2
  refine Lib.hid ?_
  go_wp2_with fail
  refine (show Calls Try.prog 52 #[.slice (some (ad.add (1 + n))) (r.length + 1 - (1 + n)) (c - (1 + n))] W2 _ from ?_)
  have hgb := getb (some (ad.add (1 + n))) (r.drop n) (c - (1 + n)) W2 hrd (by rw [List.length_drop]; omega) (by rw [List.length_drop]; omega) Hget2.out
  rw [Hdl.out] at hgb
  refine hgb.mono ?_
  rintro e w3 ⟨A2, c2, rfl, hr4, hcc2, ho2, hb2⟩
  have hs5 : w3.heap[w.heap.size + 1]? = some (.cells #[.bool false, .slice A1 k.length c1, .slice none 0 0] 50 (0, 0)) := (hb2.block _ (lt_of_heap Hs5.out)).trans Hs5.out
  have hs2 : w3.heap[w.heap.size]? = some (.cells #[.bool false, .slice none 0 0, .slice none 0 0] 50 (0, 0)) := (hb2.block _ (lt_of_heap Hs2.out)).trans Hs2.out
  have h35 := setRow_heap w3 (w.heap.size + 1) _ #[.bool false, .slice A1 k.length c1, .slice A2 v.length c2] _ _ hs5
  have h32 : (w3.setRow (w.heap.size + 1) #[.bool false, .slice A1 k.length c1, .slice A2 v.length c2]).heap[w.heap.size]? = some (.cells #[.bool false, .slice none 0 0, .slice none 0 0] 50 (0, 0)) := (setRow_other _ _ _ _ (by omega)).trans hs2
  have hE3 : Ext w (w3.setRow (w.heap.size + 1) #[.bool false, .slice A1 k.length c1, .slice A2 v.length c2]) := ext_rowD (Ext.tr hE2 hb2) (by omega) _
  have hW2s := hE2.size
  have hW2s2 := lt_of_heap Hs5.out
  have hkA3 : Own (w3.setRow (w.heap.size + 1) #[.bool false, .slice A1 k.length c1, .slice A2 v.length c2]) (w.heap.size + 2) 5 1 A1 k.length c1 (bvs k) := own_setRow (hkA.below hb2) (by omega) _
  have hvA3 : Own (w3.setRow (w.heap.size + 1) #[.bool false, .slice A1 k.length c1, .slice A2 v.length c2]) (w.heap.size + 2) 5 1 A2 v.length c2 (bvs v) := (own_setRow (ho2.mono (by omega)) (by omega) _)
  go_wp2_with (refine wpList_store_at rfl 33 (.tmp 57) (.tmp 56) rfl ⟨w.heap.size + 1, 2, none⟩ rfl (w.heap.size + 1) 2 rfl (.slice A2 v.length c2) rfl #[.slice A2 v.length c2] rfl _ 50 hs5 (by kernel_rfl) (by simp) (by simp [Value.oneCell']) #[.bool false, .slice A1 k.length c1, .slice A2 v.length c2] rfl ?_; refine Hid.out ?_)
  obtain ⟨W4, hW4⟩ : ∃ W4, W4 = w3.setRow (w.heap.size + 1) #[.bool false, .slice A1 k.length c1, .slice A2 v.length c2] := ⟨_, rfl⟩
  rw [← hW4] at h35 h32 hE3 hkA3 hvA3 ⊢
  clear hW4
  refine Lib.hid ?_
  go_wp2_with fail
  obtain ⟨A9, hA9⟩ : ∃ A9, A9 = (if c - (1 + n) = m then some (ad.add (1 + n)) else some ((ad.add (1 + n)).add m)) := ⟨_, rfl⟩
  have HA9 := Lib.hid hA9
  have H35 := Lib.hid h35
  have H32 := Lib.hid h32
  clear hA9 h35 h32
  refine re_start [1, 2, 3, 7, 8, 9, 10] (by kernel_rfl) ?_
  refine re_take 0 (by rfl) rfl (by kernel_rfl) (by kernel_rfl) (by kernel_rfl) (fun _ _ _ _ h => h) (by rfl) ⟨.agg #[.bool false, .slice A1 k.length c1, .slice A2 v.length c2], fun w' hx => ex_load_row 50 _ rfl (w.heap.size + 1) rfl 50 _ (0, 0) _ ((hx.block _ (lt_of_heap H35.out)).trans H35.out) Try.underlying50 rfl (by kernel_rfl), ?_⟩
  simp only [Act.put, List.setIfInBounds_toArray, List.set_cons_zero, List.set_cons_succ]
  refine re_takeA 1 rfl (by kernel_rfl) (by kernel_rfl) (by kernel_rfl) (fun _ _ _ _ h => h) (by rfl) ⟨_, fun w' => by (go_simp <;> with_reducible rfl), ?_⟩
  simp only [Act.put, List.setIfInBounds_toArray, List.set_cons_zero, List.set_cons_succ]
  refine re_takeA 2 rfl (by kernel_rfl) (by kernel_rfl) (by kernel_rfl) (fun _ _ _ _ h => h) (by rfl) ⟨_, fun w' => by (go_simp <;> with_reducible rfl), ?_⟩
  simp only [Act.put, List.setIfInBounds_toArray, List.set_cons_zero, List.set_cons_succ]
  refine re_takeA 3 rfl (by kernel_rfl) (by kernel_rfl) (by kernel_rfl) (fun _ _ _ _ h => h) (by rfl) ⟨.slice A9 (r.length + 1 - (1 + n) - m) (c - (1 + n) - m), fun w' => by (rw [HA9.out]; go_simp; first | done | (intro h9; omega)), ?_⟩
  simp only [Act.put, List.setIfInBounds_toArray, List.set_cons_zero, List.set_cons_succ]
  refine re_take 4 (by rfl) rfl (by kernel_rfl) (by kernel_rfl) (by kernel_rfl) (fun _ _ _ _ h => h) (by rfl) ⟨_, fun w' hx => by (go_simp <;> with_reducible rfl), ?_⟩
  simp only [Act.put, List.setIfInBounds_toArray, List.set_cons_zero, List.set_cons_succ]
  refine re_take 5 (by rfl) rfl (by kernel_rfl) (by kernel_rfl) (by kernel_rfl) (fun _ _ _ _ h => h) (by rfl) ⟨.bool true, fun w' hx => by (go_simp; first | done | exact hyb | simpa using hyb), ?_⟩
  simp only [Act.put, List.setIfInBounds_toArray, List.set_cons_zero, List.set_cons_succ]
  refine re_take 6 (by rfl) rfl (by kernel_rfl) (by kernel_rfl) (by kernel_rfl) (fun _ _ _ _ h => h) (by rfl) ⟨_, fun w' hx => by (go_simp <;> with_reducible rfl), ?_⟩
  simp only [Act.put, List.setIfInBounds_toArray, List.set_cons_zero, List.set_cons_succ]
  refine re_takeA 7 rfl (by kernel_rfl) (by kernel_rfl) (by kernel_rfl) (fun _ _ _ _ h => h) (by rfl) ⟨_, fun w' => by (go_simp <;> with_reducible rfl), ?_⟩
  simp only [Act.put, List.setIfInBounds_toArray, List.set_cons_zero, List.set_cons_succ]
  refine re_takeA 8 rfl (by kernel_rfl) (by kernel_rfl) (by kernel_rfl) (fun _ _ _ _ h => h) (by rfl) ⟨_, fun w' => by (go_simp <;> with_reducible rfl), ?_⟩   -- t66 := len(t65)
  simp only [Act.put, List.setIfInBounds_toArray, List.set_cons_zero, List.set_cons_succ]
  refine re_takeA 9 rfl (by kernel_rfl) (by kernel_rfl) (by kernel_rfl) (fun _ _ _ _ h => h) (by rfl) ⟨.bool false, fun w' => by (go_simp; first | done | omega), ?_⟩
  simp only [Act.put, List.setIfInBounds_toArray, List.set_cons_zero, List.set_cons_succ]
  refine re_takeA 10 rfl (by kernel_rfl) (by kernel_rfl) (by kernel_rfl) (fun _ _ _ _ h => h) (by rfl) ⟨.bool false, fun w' => by (go_simp <;> rfl), ?_⟩
  simp only [Act.put, List.setIfInBounds_toArray, List.set_cons_zero, List.set_cons_succ]
  refine re_store 11 rfl (by kernel_rfl) (by kernel_rfl) (by rfl) ⟨_, ex_store_rowS 50 _ _ rfl w.heap.size rfl #[.bool false, .slice A1 k.length c1, .slice A2 v.length c2] rfl _ 50 H32.out (by kernel_rfl) rfl (by simp [Value.oneCell']), ?_⟩
  simp only [Act.put]
  refine re_take 12 (by rfl) rfl (by kernel_rfl) (by kernel_rfl) (by kernel_rfl) (fun _ _ _ _ h => h) (by rfl) ⟨_, fun w' hx => by (go_simp <;> with_reducible rfl), ?_⟩
  simp only [Act.put, List.setIfInBounds_toArray, List.set_cons_zero, List.set_cons_succ]
  refine re_take 13 (by rfl) rfl (by kernel_rfl) (by kernel_rfl) (by kernel_rfl) (fun _ _ _ _ h => h) (by rfl) ⟨_, fun w' hx => by (go_simp <;> with_reducible rfl), ?_⟩
  simp only [Act.put, List.setIfInBounds_toArray, List.set_cons_zero, List.set_cons_succ]
  refine re_done (by kernel_rfl) ?_
  go_wp2_with fail
  (try simp only [Exit.inBlock, Exit.then])
  refine bodyPost_ret (results_row_tmp2 rfl _ _ w.heap.size 50 #[.bool false, .slice A1 k.length c1, .slice A2 v.length c2] (0, 0) _ rfl (setRow_heap _ w.heap.size _ #[.bool false, .slice A1 k.length c1, .slice A2 v.length c2] _ _ H32.out) Try.underlying50 rfl (by kernel_rfl)) rfl ?_
  exact .inr ⟨#[.bool false, .slice A1 k.length c1, .slice A2 v.length c2], A9, _, _, Hn.out, rfl, rfl, by simp [Value.oneCell'], ext_rowD (Ext.tr hE3 (Ext.drew W4)) (Nat.le_refl w.heap.size) #[.bool false, .slice A1 k.length c1, .slice A2 v.length c2]⟩
set_option maxRecDepth 100000 in
set_option maxHeartbeats 2000000 in
theorem one_4 (ad : Addr) (t : UInt8) (r : List UInt8) (c : Nat) (w : World) (hA : RdB w (some ad) (t :: r)) (hc : r.length + 1 ≤ c) (hl : r.length ≤ 500000) (ht : t.toNat = 0) (hc1 : ¬ c = 1) (k : List UInt8) (n : Nat) (hget : Vint.getBytes r = (k, n, 0)) (hk : 1 ≤ k.length ∧ k.length ≤ 24) (hcn : ¬ c = 1 + n) (v : List UInt8) (m y : Nat) (hget2 : Vint.getBytes (r.drop n) = (v, m, y)) (hv : y ≠ 0) :
    Calls Try.prog 39 #[.slice (some ad) (r.length + 1) c] w (OneP (some ad) (t :: r) w) := by
  have g0 := heap_alloc_new w (.cells #[.bool false, .slice none 0 0, .slice none 0 0] 50)
  have hE0 := Ext.alloc w (.cells #[.bool false, .slice none 0 0, .slice none 0 0] 50)
  have hcb : (w.alloc (.cells #[.bool false, .slice none 0 0, .slice none 0 0] 50)).cell? ad = some (.int .u8 0) := by
    obtain ⟨ad', e, hcell⟩ := hA.at_ (k := 0) (by simp)
    injection e with e; subst e
    have h9 := Ext.load hE0 hcell
    simp only [List.getElem_cons_zero, ht] at h9
    exact h9
  have hr := hA.tail (k := 1) (by simp) (c := c) (by simpa using hc)
  rw [if_neg hc1] at hr
  have hnl : n ≤ r.length := by have := Vint.getBytes_le r; rw [hget] at this; exact this
  have hr2 := hA.tail (k := 1 + n) (by simp; omega) (c := c) (by simpa using hc)
  have Hr := Lib.hid hr
  have Hr2 := Lib.hid hr2
  have Hget := Lib.hid hget
  have hE1 := Ext.alloc (w.alloc (.cells #[.bool false, .slice none 0 0, .slice none 0 0] 50)) (.cells #[.bool false, .slice none 0 0, .slice none 0 0] 50)
  have g1 : ((w.alloc (.cells #[.bool false, .slice none 0 0, .slice none 0 0] 50)).alloc (.cells #[.bool false, .slice none 0 0, .slice none 0 0] 50)).heap[w.heap.size]? = some (.cells #[.bool false, .slice none 0 0, .slice none 0 0] 50 (0, 0)) := (hE1.block _ (lt_of_heap g0)).trans g0
  have g5 : ((w.alloc (.cells #[.bool false, .slice none 0 0, .slice none 0 0] 50)).alloc (.cells #[.bool false, .slice none 0 0, .slice none 0 0] 50)).heap[w.heap.size + 1]? = some (.cells #[.bool false, .slice none 0 0, .slice none 0 0] 50 (0, 0)) := by
    have := heap_alloc_new (w.alloc (.cells #[.bool false, .slice none 0 0, .slice none 0 0] 50)) (.cells #[.bool false, .slice none 0 0, .slice none 0 0] 50)
    rwa [World.size_alloc] at this
  have hk2 : decide ((k.length : Int) < 1) = false := by simp; omega
  have hk3 : decide ((24 : Int) < (k.length : Int)) = false := by simp; omega
  have hml : m ≤ r.length - n := by have := Vint.getBytes_le (r.drop n); rw [hget2, List.length_drop] at this; exact this
  have Hget2 := Lib.hid hget2
  have hr3 := hA.tail (k := 1 + n + m) (by simp; omega) (c := c) (by simpa using hc)
  have Hr3 := Lib.hid hr3
  clear hr3 hget2
  have hn : Opn.one (t :: r) = none := by
    simp only [Opn.one]
    rw [if_neg (by omega), hget]
    have h2 := Hget2.out
    simp only [ne_eq, not_true_eq_false, false_or, hk, and_self, not_true_eq_false, if_false, ht, Nat.zero_ne_one]
    rw [h2]
    simp [hv]
  have Hn := Lib.hid hn
  have hyb : ((y : Int) == 0) = false := by rw [beq_eq_false_iff_ne]; omega
  clear hn hr hr2 hget
  go_enter Try.func39, Try.ntmps39
  go_wp2_with fail
  refine (getb _ r (c - 1) _ ((Hr.out.below hE0).below hE1) (by omega) (by omega) Hget.out).mono ?_
  rintro e w1 ⟨A1, c1, rfl, hr1, hcc1, ho1, hb1⟩
  have hg : w1.heap[w.heap.size]? = some (.cells #[.bool false, .slice none 0 0, .slice none 0 0] 50 (0, 0)) := (hb1.block _ (lt_of_heap g1)).trans g1
  have hg5 : w1.heap[w.heap.size + 1]? = some (.cells #[.bool false, .slice none 0 0, .slice none 0 0] 50 (0, 0)) := (hb1.block _ (lt_of_heap g5)).trans g5
  clear g1 g0 g5
  have hs5 := setRow_heap w1 (w.heap.size + 1) _ #[.bool false, .slice A1 k.length c1, .slice none 0 0] _ _ hg5
  have hs2 : (w1.setRow (w.heap.size + 1) #[.bool false, .slice A1 k.length c1, .slice none 0 0]).heap[w.heap.size]? = some (.cells #[.bool false, .slice none 0 0, .slice none 0 0] 50 (0, 0)) := (setRow_other _ _ _ _ (by omega)).trans hg
  have hE2 : Ext w (w1.setRow (w.heap.size + 1) #[.bool false, .slice A1 k.length c1, .slice none 0 0]) := ext_rowD (Ext.tr hE0 (Ext.tr hE1 hb1)) (by omega) _
  have hkA : Own (w1.setRow (w.heap.size + 1) #[.bool false, .slice A1 k.length c1, .slice none 0 0]) (w.heap.size + 2) 5 1 A1 k.length c1 (bvs k) := (own_setRow ho1 (by simp) _).mono (by simp)
  go_wp2_with (refine wpList_store_at rfl 33 (.tmp 41) (.tmp 40) rfl ⟨w.heap.size + 1, 1, none⟩ rfl (w.heap.size + 1) 1 rfl (.slice A1 k.length c1) rfl #[.slice A1 k.length c1] rfl _ 50 hg5 (by kernel_rfl) (by simp) (by simp [Value.oneCell']) #[.bool false, .slice A1 k.length c1, .slice none 0 0] rfl ?_; refine Hid.out ?_)
  obtain ⟨W2, hW2⟩ : ∃ W2, W2 = w1.setRow (w.heap.size + 1) #[.bool false, .slice A1 k.length c1, .slice none 0 0] := ⟨_, rfl⟩
  rw [← hW2] at hs5 hs2 hE2 hkA ⊢
  clear hW2 hg hg5 hb1 hr1 ho1
  have hc0 : W2.cell? ⟨w.heap.size + 1, 0, none⟩ = some (.bool false) := by rw [cell_of_row _ _ _ _ _ _ hs5]; rfl
  have hrw : RdB w (some (ad.add (1 + n))) (r.drop n) := by
    have h9 := Hr2.out
    rw [if_neg hcn, show (t :: r).drop (1 + n) = r.drop n by rw [Nat.add_comm]; rfl] at h9
    exact h9
  have hrd := hrw.below hE2
  have Hs5 := Lib.hid hs5
  have Hs2 := Lib.hid hs2
  have Hdl : Hid ((r.drop n).length = r.length + 1 - (1 + n)) := by show _ = _; rw [List.length_drop]; omega
  clear hs5 hs2
  refine Lib.hid ?_
  go_wp2_with fail
  refine (show Calls Try.prog 52 #[.slice (some (ad.add (1 + n))) (r.length + 1 - (1 + n)) (c - (1 + n))] W2 _ from ?_)
  have hgb := getb (some (ad.add (1 + n))) (r.drop n) (c - (1 + n)) W2 hrd (by rw [List.length_drop]; omega) (by rw [List.length_drop]; omega) Hget2.out
  rw [Hdl.out] at hgb
  refine hgb.mono ?_
  rintro e w3 ⟨A2, c2, rfl, hr4, hcc2, ho2, hb2⟩
  have hs5 : w3.heap[w.heap.size + 1]? = some (.cells #[.bool false, .slice A1 k.length c1, .slice none 0 0] 50 (0, 0)) := (hb2.block _ (lt_of_heap Hs5.out)).trans Hs5.out
  have hs2 : w3.heap[w.heap.size]? = some (.cells #[.bool false, .slice none 0 0, .slice none 0 0] 50 (0, 0)) := (hb2.block _ (lt_of_heap Hs2.out)).trans Hs2.out
  have h35 := setRow_heap w3 (w.heap.size + 1) _ #[.bool false, .slice A1 k.length c1, .slice A2 v.length c2] _ _ hs5
  have h32 : (w3.setRow (w.heap.size + 1) #[.bool false, .slice A1 k.length c1, .slice A2 v.length c2]).heap[w.heap.size]? = some (.cells #[.bool false, .slice none 0 0, .slice none 0 0] 50 (0, 0)) := (setRow_other _ _ _ _ (by omega)).trans hs2
  have hE3 : Ext w (w3.setRow (w.heap.size + 1) #[.bool false, .slice A1 k.length c1, .slice A2 v.length c2]) := ext_rowD (Ext.tr hE2 hb2) (by omega) _
  have hW2s := hE2.size
  have hW2s2 := lt_of_heap Hs5.out
  have hkA3 : Own (w3.setRow (w.heap.size + 1) #[.bool false, .slice A1 k.length c1, .slice A2 v.length c2]) (w.heap.size + 2) 5 1 A1 k.length c1 (bvs k) := own_setRow (hkA.below hb2) (by omega) _
  have hvA3 : Own (w3.setRow (w.heap.size + 1) #[.bool false, .slice A1 k.length c1, .slice A2 v.length c2]) (w.heap.size + 2) 5 1 A2 v.length c2 (bvs v) := (own_setRow (ho2.mono (by omega)) (by omega) _)
  go_wp2_with (refine wpList_store_at rfl 33 (.tmp 57) (.tmp 56) rfl ⟨w.heap.size + 1, 2, none⟩ rfl (w.heap.size + 1) 2 rfl (.slice A2 v.length c2) rfl #[.slice A2 v.length c2] rfl _ 50 hs5 (by kernel_rfl) (by simp) (by simp [Value.oneCell']) #[.bool false, .slice A1 k.length c1, .slice A2 v.length c2] rfl ?_; refine Hid.out ?_)
  obtain ⟨W4, hW4⟩ : ∃ W4, W4 = w3.setRow (w.heap.size + 1) #[.bool false, .slice A1 k.length c1, .slice A2 v.length c2] := ⟨_, rfl⟩
  rw [← hW4] at h35 h32 hE3 hkA3 hvA3 ⊢
  clear hW4
  refine Lib.hid ?_
  go_wp2_with fail
  obtain ⟨A9, hA9⟩ : ∃ A9, A9 = (if c - (1 + n) = m then some (ad.add (1 + n)) else some ((ad.add (1 + n)).add m)) := ⟨_, rfl⟩
  have HA9 := Lib.hid hA9
  have H35 := Lib.hid h35
  have H32 := Lib.hid h32
  clear hA9 h35 h32
  refine re_start [1, 2, 3, 7, 8, 9, 10] (by kernel_rfl) ?_
  refine re_take 0 (by rfl) rfl (by kernel_rfl) (by kernel_rfl) (by kernel_rfl) (fun _ _ _ _ h => h) (by rfl) ⟨.agg #[.bool false, .slice A1 k.length c1, .slice A2 v.length c2], fun w' hx => ex_load_row 50 _ rfl (w.heap.size + 1) rfl 50 _ (0, 0) _ ((hx.block _ (lt_of_heap H35.out)).trans H35.out) Try.underlying50 rfl (by kernel_rfl), ?_⟩
  simp only [Act.put, List.setIfInBounds_toArray, List.set_cons_zero, List.set_cons_succ]
  refine re_takeA 1 rfl (by kernel_rfl) (by kernel_rfl) (by kernel_rfl) (fun _ _ _ _ h => h) (by rfl) ⟨_, fun w' => by (go_simp <;> with_reducible rfl), ?_⟩
  simp only [Act.put, List.setIfInBounds_toArray, List.set_cons_zero, List.set_cons_succ]
  refine re_takeA 2 rfl (by kernel_rfl) (by kernel_rfl) (by kernel_rfl) (fun _ _ _ _ h => h) (by rfl) ⟨_, fun w' => by (go_simp <;> with_reducible rfl), ?_⟩
  simp only [Act.put, List.setIfInBounds_toArray, List.set_cons_zero, List.set_cons_succ]
  refine re_takeA 3 rfl (by kernel_rfl) (by kernel_rfl) (by kernel_rfl) (fun _ _ _ _ h => h) (by rfl) ⟨.slice A9 (r.length + 1 - (1 + n) - m) (c - (1 + n) - m), fun w' => by (rw [HA9.out]; go_simp; first | done | (intro h9; omega)), ?_⟩
  simp only [Act.put, List.setIfInBounds_toArray, List.set_cons_zero, List.set_cons_succ]
  refine re_take 4 (by rfl) rfl (by kernel_rfl) (by kernel_rfl) (by kernel_rfl) (fun _ _ _ _ h => h) (by rfl) ⟨_, fun w' hx => by (go_simp <;> with_reducible rfl), ?_⟩
  simp only [Act.put, List.setIfInBounds_toArray, List.set_cons_zero, List.set_cons_succ]
  refine re_take 5 (by rfl) rfl (by kernel_rfl) (by kernel_rfl) (by kernel_rfl) (fun _ _ _ _ h => h) (by rfl) ⟨.bool false, fun w' hx => by (go_simp; first | done | exact hyb | simpa using hyb), ?_⟩
  simp only [Act.put, List.setIfInBounds_toArray, List.set_cons_zero, List.set_cons_succ]
  refine re_take 6 (by rfl) rfl (by kernel_rfl) (by kernel_rfl) (by kernel_rfl) (fun _ _ _ _ h => h) (by rfl) ⟨_, fun w' hx => by (go_simp <;> with_reducible rfl), ?_⟩
  simp only [Act.put, List.setIfInBounds_toArray, List.set_cons_zero, List.set_cons_succ]
  refine re_skip 7 rfl (by kernel_rfl) (by kernel_rfl) (by kernel_rfl) (fun _ _ _ _ h => h) (by rfl) ?_
  simp only [Act.put, List.setIfInBounds_toArray, List.set_cons_zero, List.set_cons_succ]
  refine re_skip 8 rfl (by kernel_rfl) (by kernel_rfl) (by kernel_rfl) (fun _ _ _ _ h => h) (by rfl) ?_
  simp only [Act.put, List.setIfInBounds_toArray, List.set_cons_zero, List.set_cons_succ]
  refine re_skip 9 rfl (by kernel_rfl) (by kernel_rfl) (by kernel_rfl) (fun _ _ _ _ h => h) (by rfl) ?_
  simp only [Act.put, List.setIfInBounds_toArray, List.set_cons_zero, List.set_cons_succ]
  refine re_takeA 10 rfl (by kernel_rfl) (by kernel_rfl) (by kernel_rfl) (fun _ _ _ _ h => h) (by rfl) ⟨.bool false, fun w' => by (go_simp <;> rfl), ?_⟩
  simp only [Act.put, List.setIfInBounds_toArray, List.set_cons_zero, List.set_cons_succ]
  refine re_store 11 rfl (by kernel_rfl) (by kernel_rfl) (by rfl) ⟨_, ex_store_rowS 50 _ _ rfl w.heap.size rfl #[.bool false, .slice A1 k.length c1, .slice A2 v.length c2] rfl _ 50 H32.out (by kernel_rfl) rfl (by simp [Value.oneCell']), ?_⟩
  simp only [Act.put]
  refine re_take 12 (by rfl) rfl (by kernel_rfl) (by kernel_rfl) (by kernel_rfl) (fun _ _ _ _ h => h) (by rfl) ⟨_, fun w' hx => by (go_simp <;> with_reducible rfl), ?_⟩
  simp only [Act.put, List.setIfInBounds_toArray, List.set_cons_zero, List.set_cons_succ]
  refine re_take 13 (by rfl) rfl (by kernel_rfl) (by kernel_rfl) (by kernel_rfl) (fun _ _ _ _ h => h) (by rfl) ⟨_, fun w' hx => by (go_simp <;> with_reducible rfl), ?_⟩
  simp only [Act.put, List.setIfInBounds_toArray, List.set_cons_zero, List.set_cons_succ]
  refine re_done (by kernel_rfl) ?_
  go_wp2_with fail
  (try simp only [Exit.inBlock, Exit.then])
  refine bodyPost_ret (results_row_tmp2 rfl _ _ w.heap.size 50 #[.bool false, .slice A1 k.length c1, .slice A2 v.length c2] (0, 0) _ rfl (setRow_heap _ w.heap.size _ #[.bool false, .slice A1 k.length c1, .slice A2 v.length c2] _ _ H32.out) Try.underlying50 rfl (by kernel_rfl)) rfl ?_
  exact .inr ⟨#[.bool false, .slice A1 k.length c1, .slice A2 v.length c2], A9, _, _, Hn.out, rfl, rfl, by simp [Value.oneCell'], ext_rowD (Ext.tr hE3 (Ext.drew W4)) (Nat.le_refl w.heap.size) #[.bool false, .slice A1 k.length c1, .slice A2 v.length c2]⟩
set_option maxRecDepth 100000 in
set_option maxHeartbeats 2000000 in
theorem one_2 (ad : Addr) (t : UInt8) (w : World) (hA : RdB w (some ad) [t]) (ht : ¬ 1 < t.toNat) (k : List UInt8) (n x : Nat) (hget : Vint.getBytes [] = (k, n, x)) (hx : x ≠ 0 ∨ ¬ (1 ≤ k.length ∧ k.length ≤ 24)) :
    Calls Try.prog 39 #[.slice (some ad) 1 1] w (OneP (some ad) [t] w) := by
  have hn : Opn.one [t] = none := by simp only [Opn.one]; rw [if_neg ht, hget, if_pos hx]
  have g0 := heap_alloc_new w (.cells #[.bool false, .slice none 0 0, .slice none 0 0] 50)
  have hE0 := Ext.alloc w (.cells #[.bool false, .slice none 0 0, .slice none 0 0] 50)
  have hcb : (w.alloc (.cells #[.bool false, .slice none 0 0, .slice none 0 0] 50)).cell? ad = some (.int .u8 (t.toNat : Int)) := by
    obtain ⟨ad', e, hcell⟩ := hA.at_ (k := 0) (by simp)
    injection e with e; subst e
    exact Ext.load hE0 hcell
  have htl := t.toNat_lt
  have hr : RdB w (some ad) [] := RdB.nil_ _ _
  have Hr := Lib.hid hr
  have Hn := Lib.hid hn
  have Hget := Lib.hid hget
  obtain ⟨R1, hR1⟩ : ∃ R1 : Array Value, R1 = #[.bool ((t.toNat : Int) == 1), .slice none 0 0, .slice none 0 0] := ⟨_, rfl⟩
  have HR1 := Lib.hid hR1
  have hE1 := Ext.alloc (w.alloc (.cells #[.bool false, .slice none 0 0, .slice none 0 0] 50)) (.cells R1 50)
  have g1 : ((w.alloc (.cells #[.bool false, .slice none 0 0, .slice none 0 0] 50)).alloc (.cells R1 50)).heap[w.heap.size]? = some (.cells #[.bool false, .slice none 0 0, .slice none 0 0] 50 (0, 0)) := (hE1.block _ (lt_of_heap g0)).trans g0
  clear hn hr hget hR1
  go_enter Try.func39, Try.ntmps39
  go_wp2_with fail
  rw [← HR1.out]
  refine (getb (some ad) [] 0 _ ((Hr.out.below hE0).below hE1) (by simp) (by simp) Hget.out).mono ?_
  rintro e w1 ⟨A1, c1, rfl, hr1, hcc1, ho1, hb1⟩
  have hg : w1.heap[w.heap.size]? = some (.cells #[.bool false, .slice none 0 0, .slice none 0 0] 50 (0, 0)) := (hb1.block _ (lt_of_heap g1)).trans g1
  clear g1 g0
  by_cases hx0 : x = 0
  · subst hx0
    have hk : ¬ (1 ≤ k.length ∧ k.length ≤ 24) := hx.resolve_left (fun h => h rfl)
    by_cases hk1 : k.length < 1
    · have hk2 : decide ((k.length : Int) < 1) = true := by simp; omega
      go_wp2_with (refine wpList_store_row rfl 50 (.tmp 2) (.tmp 39) rfl w.heap.size #[.bool false, .slice none 0 0, .slice none 0 0] rfl rfl _ _ hg (by kernel_rfl) rfl (by kernel_rfl) ?_)
      (try simp only [Exit.inBlock, Exit.then])
      refine bodyPost_ret (results_row_tmp2 rfl _ _ w.heap.size 50 #[.bool false, .slice none 0 0, .slice none 0 0] (0, 0) _ rfl (setRow_heap _ w.heap.size _ #[.bool false, .slice none 0 0, .slice none 0 0] _ _ hg) Try.underlying50 rfl (by kernel_rfl)) rfl ?_
      exact .inr ⟨#[.bool false, .slice none 0 0, .slice none 0 0], none, 0, 0, Hn.out, rfl, rfl, oneZ, ext_rowD (Ext.tr hE0 (Ext.tr hE1 hb1)) (Nat.le_refl _) _⟩
    · have hk2 : decide ((k.length : Int) < 1) = false := by simp; omega
      have hk3 : decide ((24 : Int) < (k.length : Int)) = true := by simp; omega
      go_wp2_with (refine wpList_store_row rfl 50 (.tmp 2) (.tmp 39) rfl w.heap.size #[.bool false, .slice none 0 0, .slice none 0 0] rfl rfl _ _ hg (by kernel_rfl) rfl (by kernel_rfl) ?_)
      (try simp only [Exit.inBlock, Exit.then])
      refine bodyPost_ret (results_row_tmp2 rfl _ _ w.heap.size 50 #[.bool false, .slice none 0 0, .slice none 0 0] (0, 0) _ rfl (setRow_heap _ w.heap.size _ #[.bool false, .slice none 0 0, .slice none 0 0] _ _ hg) Try.underlying50 rfl (by kernel_rfl)) rfl ?_
      exact .inr ⟨#[.bool false, .slice none 0 0, .slice none 0 0], none, 0, 0, Hn.out, rfl, rfl, oneZ, ext_rowD (Ext.tr hE0 (Ext.tr hE1 hb1)) (Nat.le_refl _) _⟩
  · have hx' : ((x : Int) != 0) = true := by rw [bne_iff_ne]; omega
    go_wp2_with (refine wpList_store_row rfl 50 (.tmp 2) (.tmp 39) rfl w.heap.size #[.bool false, .slice none 0 0, .slice none 0 0] rfl rfl _ _ hg (by kernel_rfl) rfl (by kernel_rfl) ?_)
    (try simp only [Exit.inBlock, Exit.then])
    refine bodyPost_ret (results_row_tmp2 rfl _ _ w.heap.size 50 #[.bool false, .slice none 0 0, .slice none 0 0] (0, 0) _ rfl (setRow_heap _ w.heap.size _ #[.bool false, .slice none 0 0, .slice none 0 0] _ _ hg) Try.underlying50 rfl (by kernel_rfl)) rfl ?_
    exact .inr ⟨#[.bool false, .slice none 0 0, .slice none 0 0], none, 0, 0, Hn.out, rfl, rfl, oneZ, ext_rowD (Ext.tr hE0 (Ext.tr hE1 hb1)) (Nat.le_refl _) _⟩
set_option maxRecDepth 100000 in
set_option maxHeartbeats 400000 in
theorem one_3b (ad : Addr) (t : UInt8) (r : List UInt8) (w : World) (hA : RdB w (some ad) (t :: r)) (hl : r.length ≤ 500000) (ht : t.toNat = 1) (hr0 : ¬ r.length = 0) (k : List UInt8) (hget : Vint.getBytes r = (k, r.length, 0)) (hk : 1 ≤ k.length ∧ k.length ≤ 24) :
    Calls Try.prog 39 #[.slice (some ad) (r.length + 1) (r.length + 1)] w (OneP (some ad) (t :: r) w) := by
  have hn : Opn.one (t :: r) = some (⟨true, k, []⟩, 1 + r.length) := by
    simp only [Opn.one]
    rw [if_neg (by omega), hget]
    simp [hk, ht]
  have g0 := heap_alloc_new w (.cells #[.bool false, .slice none 0 0, .slice none 0 0] 50)
  have hE0 := Ext.alloc w (.cells #[.bool false, .slice none 0 0, .slice none 0 0] 50)
  have hcb : (w.alloc (.cells #[.bool false, .slice none 0 0, .slice none 0 0] 50)).cell? ad = some (.int .u8 1) := by
    obtain ⟨ad', e, hcell⟩ := hA.at_ (k := 0) (by simp)
    injection e with e; subst e
    have h9 := Ext.load hE0 hcell
    simp only [List.getElem_cons_zero, ht] at h9
    exact h9
  have hr := hA.tail (k := 1) (by simp) (c := r.length + 1) (by simp)
  rw [if_neg (by omega)] at hr
  have hnl : r.length ≤ r.length := Nat.le_refl _
  have hr2 := hA.tail (k := 1 + r.length) (by simp; omega) (c := r.length + 1) (by simp)
  have Hr := Lib.hid hr
  have Hr2 := Lib.hid hr2
  have Hget := Lib.hid hget
  have hE1 := Ext.alloc (w.alloc (.cells #[.bool false, .slice none 0 0, .slice none 0 0] 50)) (.cells #[.bool true, .slice none 0 0, .slice none 0 0] 50)
  have g1 : ((w.alloc (.cells #[.bool false, .slice none 0 0, .slice none 0 0] 50)).alloc (.cells #[.bool true, .slice none 0 0, .slice none 0 0] 50)).heap[w.heap.size]? = some (.cells #[.bool false, .slice none 0 0, .slice none 0 0] 50 (0, 0)) := (hE1.block _ (lt_of_heap g0)).trans g0
  have g5 : ((w.alloc (.cells #[.bool false, .slice none 0 0, .slice none 0 0] 50)).alloc (.cells #[.bool true, .slice none 0 0, .slice none 0 0] 50)).heap[w.heap.size + 1]? = some (.cells #[.bool true, .slice none 0 0, .slice none 0 0] 50 (0, 0)) := by
    have := heap_alloc_new (w.alloc (.cells #[.bool false, .slice none 0 0, .slice none 0 0] 50)) (.cells #[.bool true, .slice none 0 0, .slice none 0 0] 50)
    rwa [World.size_alloc] at this
  have hk2 : decide ((k.length : Int) < 1) = false := by simp; omega
  have hk3 : decide ((24 : Int) < (k.length : Int)) = false := by simp; omega
  have Hn := Lib.hid hn
  clear hn hr hr2 hget
  go_enter Try.func39, Try.ntmps39
  go_wp2_with fail
  refine (getb _ r (r.length) _ ((Hr.out.below hE0).below hE1) (by omega) (by omega) Hget.out).mono ?_
  rintro e w1 ⟨A1, c1, rfl, hr1, hcc1, ho1, hb1⟩
  have hg : w1.heap[w.heap.size]? = some (.cells #[.bool false, .slice none 0 0, .slice none 0 0] 50 (0, 0)) := (hb1.block _ (lt_of_heap g1)).trans g1
  have hg5 : w1.heap[w.heap.size + 1]? = some (.cells #[.bool true, .slice none 0 0, .slice none 0 0] 50 (0, 0)) := (hb1.block _ (lt_of_heap g5)).trans g5
  clear g1 g0 g5
  have hs5 := setRow_heap w1 (w.heap.size + 1) _ #[.bool true, .slice A1 k.length c1, .slice none 0 0] _ _ hg5
  have hs2 : (w1.setRow (w.heap.size + 1) #[.bool true, .slice A1 k.length c1, .slice none 0 0]).heap[w.heap.size]? = some (.cells #[.bool false, .slice none 0 0, .slice none 0 0] 50 (0, 0)) := (setRow_other _ _ _ _ (by omega)).trans hg
  have hE2 : Ext w (w1.setRow (w.heap.size + 1) #[.bool true, .slice A1 k.length c1, .slice none 0 0]) := ext_rowD (Ext.tr hE0 (Ext.tr hE1 hb1)) (by omega) _
  have hkA : RdB (w1.setRow (w.heap.size + 1) #[.bool true, .slice A1 k.length c1, .slice none 0 0]) A1 k := (own_setRow ho1 (by have := hE1.size; have := lt_of_heap hg5; simp) _).rd'
  have hkF : FarB w.heap.size (w1.setRow (w.heap.size + 1) #[.bool true, .slice A1 k.length c1, .slice none 0 0]) A1 k := (own_setRow ho1 (by simp) _).far (by simp; omega)
  go_wp2_with (refine wpList_store_at rfl 33 (.tmp 41) (.tmp 40) rfl ⟨w.heap.size + 1, 1, none⟩ rfl (w.heap.size + 1) 1 rfl (.slice A1 k.length c1) rfl #[.slice A1 k.length c1] rfl _ 50 hg5 (by kernel_rfl) (by simp) (by simp [Value.oneCell']) #[.bool true, .slice A1 k.length c1, .slice none 0 0] rfl ?_; refine Hid.out ?_)
  obtain ⟨W2, hW2⟩ : ∃ W2, W2 = w1.setRow (w.heap.size + 1) #[.bool true, .slice A1 k.length c1, .slice none 0 0] := ⟨_, rfl⟩
  rw [← hW2] at hs5 hs2 hE2 hkA hkF ⊢
  clear hW2 hg hg5 hb1 hr1 ho1
  have hc0 : W2.cell? ⟨w.heap.size + 1, 0, none⟩ = some (.bool true) := by rw [cell_of_row _ _ _ _ _ _ hs5]; rfl
  have Hs5 := Lib.hid hs5
  have Hs2 := Lib.hid hs2
  clear hs5 hs2
  refine Lib.hid ?_
  go_wp2_with (first | (refine wpList_load_rowG (by rfl) 50 (.tmp 5) rfl (w.heap.size + 1) rfl 50 _ (0, 0) _ Hs5.out Try.underlying50 rfl (by kernel_rfl) ?_) | (refine wpList_store_row rfl 50 (.tmp 2) (.tmp 48) rfl w.heap.size #[.bool true, .slice A1 k.length c1, .slice none 0 0] rfl rfl _ _ Hs2.out (by kernel_rfl) rfl (by simp [Value.oneCell']) ?_))
  refine bodyPost_ret (results_row_tmp2 rfl _ _ w.heap.size 50 #[.bool true, .slice A1 k.length c1, .slice none 0 0] (0, 0) _ rfl (setRow_heap _ w.heap.size _ _ _ _ Hs2.out) Try.underlying50 rfl (by kernel_rfl)) rfl ?_
  have hdl : ((t :: r).drop (1 + r.length)).length = r.length + 1 - (1 + r.length) := by simp
  have hE3 := ext_rowD hE2 (Nat.le_refl w.heap.size) #[.bool true, .slice A1 k.length c1, .slice none 0 0]
  have hgr := grown_row W2 w.heap.size #[.bool true, .slice A1 k.length c1, .slice none 0 0]
  have hno : ∀ r, some w.heap.size = some r → r < w.heap.size ∨ ∀ cur fr, W2.heap[r]? ≠ some (.cells cur 5 fr) := fun r e => .inr (by injection e with e; subst e; intro cur fr h9; rw [Hs2.out] at h9; cases h9)
  refine .inl ⟨⟨A1, c1, none, 0, ⟨true, k, []⟩⟩, some ad, r.length + 1 - (1 + r.length), 1 + r.length, Hn.out, by rw [hdl]; rfl, ⟨⟨hkA.kept hkF hgr hno, RdB.nil_ _ _, hcc1, Nat.zero_le _⟩, hkF.kept hgr hno, fun h => absurd rfl h⟩, fun W hW => (by have h7 := hW.tail (k := 1 + r.length) (by simp; omega) (c := r.length + 1) (by simp); rw [if_pos (by omega)] at h7; exact h7), by rw [hdl]; omega, hE3⟩
set_option maxRecDepth 100000 in
set_option maxHeartbeats 400000 in
theorem one_4b (ad : Addr) (t : UInt8) (r : List UInt8) (w : World) (hA : RdB w (some ad) (t :: r)) (hl : r.length ≤ 500000) (ht : t.toNat = 0) (hr0 : ¬ r.length = 0) (k : List UInt8) (hget : Vint.getBytes r = (k, r.length, 0)) (hk : 1 ≤ k.length ∧ k.length ≤ 24) (v : List UInt8) (m y : Nat) (hget2 : Vint.getBytes (r.drop r.length) = (v, m, y)) (hv : y ≠ 0) :
    Calls Try.prog 39 #[.slice (some ad) (r.length + 1) (r.length + 1)] w (OneP (some ad) (t :: r) w) := by
  have g0 := heap_alloc_new w (.cells #[.bool false, .slice none 0 0, .slice none 0 0] 50)
  have hE0 := Ext.alloc w (.cells #[.bool false, .slice none 0 0, .slice none 0 0] 50)
  have hcb : (w.alloc (.cells #[.bool false, .slice none 0 0, .slice none 0 0] 50)).cell? ad = some (.int .u8 0) := by
    obtain ⟨ad', e, hcell⟩ := hA.at_ (k := 0) (by simp)
    injection e with e; subst e
    have h9 := Ext.load hE0 hcell
    simp only [List.getElem_cons_zero, ht] at h9
    exact h9
  have hr := hA.tail (k := 1) (by simp) (c := r.length + 1) (by simp)
  rw [if_neg (by omega)] at hr
  have hnl : r.length ≤ r.length := Nat.le_refl _
  have hr2 := hA.tail (k := 1 + r.length) (by simp; omega) (c := r.length + 1) (by simp)
  have Hr := Lib.hid hr
  have Hr2 := Lib.hid hr2
  have Hget := Lib.hid hget
  have hE1 := Ext.alloc (w.alloc (.cells #[.bool false, .slice none 0 0, .slice none 0 0] 50)) (.cells #[.bool false, .slice none 0 0, .slice none 0 0] 50)
  have g1 : ((w.alloc (.cells #[.bool false, .slice none 0 0, .slice none 0 0] 50)).alloc (.cells #[.bool false, .slice none 0 0, .slice none 0 0] 50)).heap[w.heap.size]? = some (.cells #[.bool false, .slice none 0 0, .slice none 0 0] 50 (0, 0)) := (hE1.block _ (lt_of_heap g0)).trans g0
  have g5 : ((w.alloc (.cells #[.bool false, .slice none 0 0, .slice none 0 0] 50)).alloc (.cells #[.bool false, .slice none 0 0, .slice none 0 0] 50)).heap[w.heap.size + 1]? = some (.cells #[.bool false, .slice none 0 0, .slice none 0 0] 50 (0, 0)) := by
    have := heap_alloc_new (w.alloc (.cells #[.bool false, .slice none 0 0, .slice none 0 0] 50)) (.cells #[.bool false, .slice none 0 0, .slice none 0 0] 50)
    rwa [World.size_alloc] at this
  have hk2 : decide ((k.length : Int) < 1) = false := by simp; omega
  have hk3 : decide ((24 : Int) < (k.length : Int)) = false := by simp; omega
  have hml : m ≤ r.length - r.length := by have := Vint.getBytes_le (r.drop r.length); rw [hget2, List.length_drop] at this; exact this
  have Hget2 := Lib.hid hget2
  have hr3 := hA.tail (k := 1 + r.length + m) (by simp; omega) (c := r.length + 1) (by simp)
  have Hr3 := Lib.hid hr3
  clear hr3 hget2
  have hn : Opn.one (t :: r) = none := by
    simp only [Opn.one]
    rw [if_neg (by omega), hget]
    have h2 := Hget2.out
    simp only [ne_eq, not_true_eq_false, false_or, hk, and_self, not_true_eq_false, if_false, ht, Nat.zero_ne_one]
    rw [h2]
    simp [hv]
  have Hn := Lib.hid hn
  have hyb : ((y : Int) == 0) = false := by rw [beq_eq_false_iff_ne]; omega
  clear hn hr hr2 hget
  go_enter Try.func39, Try.ntmps39
  go_wp2_with fail
  refine (getb _ r (r.length) _ ((Hr.out.below hE0).below hE1) (by omega) (by omega) Hget.out).mono ?_
  rintro e w1 ⟨A1, c1, rfl, hr1, hcc1, ho1, hb1⟩
  have hg : w1.heap[w.heap.size]? = some (.cells #[.bool false, .slice none 0 0, .slice none 0 0] 50 (0, 0)) := (hb1.block _ (lt_of_heap g1)).trans g1
  have hg5 : w1.heap[w.heap.size + 1]? = some (.cells #[.bool false, .slice none 0 0, .slice none 0 0] 50 (0, 0)) := (hb1.block _ (lt_of_heap g5)).trans g5
  clear g1 g0 g5
  have hs5 := setRow_heap w1 (w.heap.size + 1) _ #[.bool false, .slice A1 k.length c1, .slice none 0 0] _ _ hg5
  have hs2 : (w1.setRow (w.heap.size + 1) #[.bool false, .slice A1 k.length c1, .slice none 0 0]).heap[w.heap.size]? = some (.cells #[.bool false, .slice none 0 0, .slice none 0 0] 50 (0, 0)) := (setRow_other _ _ _ _ (by omega)).trans hg
  have hE2 : Ext w (w1.setRow (w.heap.size + 1) #[.bool false, .slice A1 k.length c1, .slice none 0 0]) := ext_rowD (Ext.tr hE0 (Ext.tr hE1 hb1)) (by omega) _
  have hkA : Own (w1.setRow (w.heap.size + 1) #[.bool false, .slice A1 k.length c1, .slice none 0 0]) (w.heap.size + 2) 5 1 A1 k.length c1 (bvs k) := (own_setRow ho1 (by simp) _).mono (by simp)
  go_wp2_with (refine wpList_store_at rfl 33 (.tmp 41) (.tmp 40) rfl ⟨w.heap.size + 1, 1, none⟩ rfl (w.heap.size + 1) 1 rfl (.slice A1 k.length c1) rfl #[.slice A1 k.length c1] rfl _ 50 hg5 (by kernel_rfl) (by simp) (by simp [Value.oneCell']) #[.bool false, .slice A1 k.length c1, .slice none 0 0] rfl ?_; refine Hid.out ?_)
  obtain ⟨W2, hW2⟩ : ∃ W2, W2 = w1.setRow (w.heap.size + 1) #[.bool false, .slice A1 k.length c1, .slice none 0 0] := ⟨_, rfl⟩
  rw [← hW2] at hs5 hs2 hE2 hkA ⊢
  clear hW2 hg hg5 hb1 hr1 ho1
  have hc0 : W2.cell? ⟨w.heap.size + 1, 0, none⟩ = some (.bool false) := by rw [cell_of_row _ _ _ _ _ _ hs5]; rfl
  have hrw : RdB w (some ad) (r.drop r.length) := by
    have h9 := Hr2.out
    rw [if_pos (by omega), show (t :: r).drop (1 + r.length) = r.drop r.length by rw [Nat.add_comm]; rfl] at h9
    exact h9
  have hrd := hrw.below hE2
  have Hs5 := Lib.hid hs5
  have Hs2 := Lib.hid hs2
  have Hdl : Hid ((r.drop r.length).length = r.length + 1 - (1 + r.length)) := by show _ = _; rw [List.length_drop]; omega
  clear hs5 hs2
  refine Lib.hid ?_
  go_wp2_with fail
  refine (show Calls Try.prog 52 #[.slice (some ad) (r.length + 1 - (1 + r.length)) (r.length + 1 - (1 + r.length))] W2 _ from ?_)
  have hgb := getb (some ad) (r.drop r.length) (r.length + 1 - (1 + r.length)) W2 hrd (by rw [List.length_drop]; omega) (by rw [List.length_drop]; omega) Hget2.out
  rw [Hdl.out] at hgb
  refine hgb.mono ?_
  rintro e w3 ⟨A2, c2, rfl, hr4, hcc2, ho2, hb2⟩
  have hs5 : w3.heap[w.heap.size + 1]? = some (.cells #[.bool false, .slice A1 k.length c1, .slice none 0 0] 50 (0, 0)) := (hb2.block _ (lt_of_heap Hs5.out)).trans Hs5.out
  have hs2 : w3.heap[w.heap.size]? = some (.cells #[.bool false, .slice none 0 0, .slice none 0 0] 50 (0, 0)) := (hb2.block _ (lt_of_heap Hs2.out)).trans Hs2.out
  have h35 := setRow_heap w3 (w.heap.size + 1) _ #[.bool false, .slice A1 k.length c1, .slice A2 v.length c2] _ _ hs5
  have h32 : (w3.setRow (w.heap.size + 1) #[.bool false, .slice A1 k.length c1, .slice A2 v.length c2]).heap[w.heap.size]? = some (.cells #[.bool false, .slice none 0 0, .slice none 0 0] 50 (0, 0)) := (setRow_other _ _ _ _ (by omega)).trans hs2
  have hE3 : Ext w (w3.setRow (w.heap.size + 1) #[.bool false, .slice A1 k.length c1, .slice A2 v.length c2]) := ext_rowD (Ext.tr hE2 hb2) (by omega) _
  have hW2s := hE2.size
  have hW2s2 := lt_of_heap Hs5.out
  have hkA3 : Own (w3.setRow (w.heap.size + 1) #[.bool false, .slice A1 k.length c1, .slice A2 v.length c2]) (w.heap.size + 2) 5 1 A1 k.length c1 (bvs k) := own_setRow (hkA.below hb2) (by omega) _
  have hvA3 : Own (w3.setRow (w.heap.size + 1) #[.bool false, .slice A1 k.length c1, .slice A2 v.length c2]) (w.heap.size + 2) 5 1 A2 v.length c2 (bvs v) := (own_setRow (ho2.mono (by omega)) (by omega) _)
  go_wp2_with (refine wpList_store_at rfl 33 (.tmp 57) (.tmp 56) rfl ⟨w.heap.size + 1, 2, none⟩ rfl (w.heap.size + 1) 2 rfl (.slice A2 v.length c2) rfl #[.slice A2 v.length c2] rfl _ 50 hs5 (by kernel_rfl) (by simp) (by simp [Value.oneCell']) #[.bool false, .slice A1 k.length c1, .slice A2 v.length c2] rfl ?_; refine Hid.out ?_)
  obtain ⟨W4, hW4⟩ : ∃ W4, W4 = w3.setRow (w.heap.size + 1) #[.bool false, .slice A1 k.length c1, .slice A2 v.length c2] := ⟨_, rfl⟩
  rw [← hW4] at h35 h32 hE3 hkA3 hvA3 ⊢
  clear hW4
  refine Lib.hid ?_
  go_wp2_with fail
  obtain ⟨A9, hA9⟩ : ∃ A9, A9 = (if r.length + 1 - (1 + r.length) = m then some ad else some (ad.add m)) := ⟨_, rfl⟩
  have HA9 := Lib.hid hA9
  have H35 := Lib.hid h35
  have H32 := Lib.hid h32
  clear hA9 h35 h32
  refine re_start [1, 2, 3, 7, 8, 9, 10] (by kernel_rfl) ?_
  refine re_take 0 (by rfl) rfl (by kernel_rfl) (by kernel_rfl) (by kernel_rfl) (fun _ _ _ _ h => h) (by rfl) ⟨.agg #[.bool false, .slice A1 k.length c1, .slice A2 v.length c2], fun w' hx => ex_load_row 50 _ rfl (w.heap.size + 1) rfl 50 _ (0, 0) _ ((hx.block _ (lt_of_heap H35.out)).trans H35.out) Try.underlying50 rfl (by kernel_rfl), ?_⟩
  simp only [Act.put, List.setIfInBounds_toArray, List.set_cons_zero, List.set_cons_succ]
  refine re_takeA 1 rfl (by kernel_rfl) (by kernel_rfl) (by kernel_rfl) (fun _ _ _ _ h => h) (by rfl) ⟨_, fun w' => by (go_simp <;> with_reducible rfl), ?_⟩
  simp only [Act.put, List.setIfInBounds_toArray, List.set_cons_zero, List.set_cons_succ]
  refine re_takeA 2 rfl (by kernel_rfl) (by kernel_rfl) (by kernel_rfl) (fun _ _ _ _ h => h) (by rfl) ⟨_, fun w' => by (go_simp <;> with_reducible rfl), ?_⟩
  simp only [Act.put, List.setIfInBounds_toArray, List.set_cons_zero, List.set_cons_succ]
  refine re_takeA 3 rfl (by kernel_rfl) (by kernel_rfl) (by kernel_rfl) (fun _ _ _ _ h => h) (by rfl) ⟨.slice A9 (r.length + 1 - (1 + r.length) - m) (r.length + 1 - (1 + r.length) - m), fun w' => by (rw [HA9.out]; go_simp; first | done | (intro h9; omega)), ?_⟩
  simp only [Act.put, List.setIfInBounds_toArray, List.set_cons_zero, List.set_cons_succ]
  refine re_take 4 (by rfl) rfl (by kernel_rfl) (by kernel_rfl) (by kernel_rfl) (fun _ _ _ _ h => h) (by rfl) ⟨_, fun w' hx => by (go_simp <;> with_reducible rfl), ?_⟩
  simp only [Act.put, List.setIfInBounds_toArray, List.set_cons_zero, List.set_cons_succ]
  refine re_take 5 (by rfl) rfl (by kernel_rfl) (by kernel_rfl) (by kernel_rfl) (fun _ _ _ _ h => h) (by rfl) ⟨.bool false, fun w' hx => by (go_simp; first | done | exact hyb | simpa using hyb), ?_⟩
  simp only [Act.put, List.setIfInBounds_toArray, List.set_cons_zero, List.set_cons_succ]
  refine re_take 6 (by rfl) rfl (by kernel_rfl) (by kernel_rfl) (by kernel_rfl) (fun _ _ _ _ h => h) (by rfl) ⟨_, fun w' hx => by (go_simp <;> with_reducible rfl), ?_⟩
  simp only [Act.put, List.setIfInBounds_toArray, List.set_cons_zero, List.set_cons_succ]
  refine re_skip 7 rfl (by kernel_rfl) (by kernel_rfl) (by kernel_rfl) (fun _ _ _ _ h => h) (by rfl) ?_
  simp only [Act.put, List.setIfInBounds_toArray, List.set_cons_zero, List.set_cons_succ]
  refine re_skip 8 rfl (by kernel_rfl) (by kernel_rfl) (by kernel_rfl) (fun _ _ _ _ h => h) (by rfl) ?_
  simp only [Act.put, List.setIfInBounds_toArray, List.set_cons_zero, List.set_cons_succ]
  refine re_skip 9 rfl (by kernel_rfl) (by kernel_rfl) (by kernel_rfl) (fun _ _ _ _ h => h) (by rfl) ?_
  simp only [Act.put, List.setIfInBounds_toArray, List.set_cons_zero, List.set_cons_succ]
  refine re_takeA 10 rfl (by kernel_rfl) (by kernel_rfl) (by kernel_rfl) (fun _ _ _ _ h => h) (by rfl) ⟨.bool false, fun w' => by (go_simp <;> rfl), ?_⟩
  simp only [Act.put, List.setIfInBounds_toArray, List.set_cons_zero, List.set_cons_succ]
  refine re_store 11 rfl (by kernel_rfl) (by kernel_rfl) (by rfl) ⟨_, ex_store_rowS 50 _ _ rfl w.heap.size rfl #[.bool false, .slice A1 k.length c1, .slice A2 v.length c2] rfl _ 50 H32.out (by kernel_rfl) rfl (by simp [Value.oneCell']), ?_⟩
  simp only [Act.put]
  refine re_take 12 (by rfl) rfl (by kernel_rfl) (by kernel_rfl) (by kernel_rfl) (fun _ _ _ _ h => h) (by rfl) ⟨_, fun w' hx => by (go_simp <;> with_reducible rfl), ?_⟩
  simp only [Act.put, List.setIfInBounds_toArray, List.set_cons_zero, List.set_cons_succ]
  refine re_take 13 (by rfl) rfl (by kernel_rfl) (by kernel_rfl) (by kernel_rfl) (fun _ _ _ _ h => h) (by rfl) ⟨_, fun w' hx => by (go_simp <;> with_reducible rfl), ?_⟩
  simp only [Act.put, List.setIfInBounds_toArray, List.set_cons_zero, List.set_cons_succ]
  refine re_done (by kernel_rfl) ?_
  go_wp2_with fail
  (try simp only [Exit.inBlock, Exit.then])
  refine bodyPost_ret (results_row_tmp2 rfl _ _ w.heap.size 50 #[.bool false, .slice A1 k.length c1, .slice A2 v.length c2] (0, 0) _ rfl (setRow_heap _ w.heap.size _ #[.bool false, .slice A1 k.length c1, .slice A2 v.length c2] _ _ H32.out) Try.underlying50 rfl (by kernel_rfl)) rfl ?_
  exact .inr ⟨#[.bool false, .slice A1 k.length c1, .slice A2 v.length c2], A9, _, _, Hn.out, rfl, rfl, by simp [Value.oneCell'], ext_rowD (Ext.tr hE3 (Ext.drew W4)) (Nat.le_refl w.heap.size) #[.bool false, .slice A1 k.length c1, .slice A2 v.length c2]⟩
set_option maxRecDepth 100000 in
set_option maxHeartbeats 2000000 in
theorem one_any (A : Option Addr) (t : UInt8) (r : List UInt8) (c : Nat) (w : World) (hA : RdB w A (t :: r)) (hc : r.length + 1 ≤ c) (hl : r.length ≤ 500000) :
    Calls Try.prog 39 #[.slice A (r.length + 1) c] w (OneP A (t :: r) w) := by
  have g0 := heap_alloc_new w (.cells #[.bool false, .slice none 0 0, .slice none 0 0] 50)
  have hE0 := Ext.alloc w (.cells #[.bool false, .slice none 0 0, .slice none 0 0] 50)
  obtain ⟨ad, rfl, hcell⟩ := hA.at_ (k := 0) (by simp)
  have hcb : (w.alloc (.cells #[.bool false, .slice none 0 0, .slice none 0 0] 50)).cell? ad = some (.int .u8 (t.toNat : Int)) := Ext.load hE0 hcell
  have htl := t.toNat_lt
  have hr := hA.tail (k := 1) (by simp) (c := c) (by simpa using hc)
  have Hr := Lib.hid hr
  by_cases ht : 1 < t.toNat
  · have hn : Opn.one (t :: r) = none := by simp only [Opn.one]; rw [if_pos ht]
    have Hn := Lib.hid hn
    clear hn hcell hr
    go_enter Try.func39, Try.ntmps39
    go_wp2_with fail
    refine bodyPost_ret (results_row_tmp2 rfl _ _ w.heap.size 50 #[.bool false, .slice none 0 0, .slice none 0 0] (0, 0) _ rfl g0 Try.underlying50 rfl (by kernel_rfl)) rfl ?_
    exact .inr ⟨#[.bool false, .slice none 0 0, .slice none 0 0], none, 0, 0, Hn.out, rfl, rfl, oneZ, hE0⟩
  · obtain ⟨k, n, x, hget⟩ : ∃ k n x, Vint.getBytes r = (k, n, x) := ⟨_, _, _, rfl⟩
    by_cases hc1 : c = 1
    · have hr0 : r = [] := by cases r with | nil => rfl | cons a r => simp at hc; omega
      subst hr0 hc1
      exact one_2 ad t w hA ht k n x hget (.inl fun hx => by subst hx; have := (Vint.getBytes_canon hget).2; simp at this; omega)
    · by_cases hx : x ≠ 0 ∨ ¬ (1 ≤ k.length ∧ k.length ≤ 24)
      · exact one_1 ad t r c w hA hc hl ht hc1 k n x hget hx
      · have hx0 : x = 0 := Classical.byContradiction fun h => hx (.inl h)
        have hk : 1 ≤ k.length ∧ k.length ≤ 24 := Classical.byContradiction fun h => hx (.inr h)
        subst hx0
        obtain ⟨_, hn1, hnl⟩ := Vint.getBytes_canon hget
        have ht2 : t.toNat = 1 ∨ t.toNat = 0 := by omega
        by_cases hcn : c = 1 + n
        · obtain rfl : n = r.length := by omega
          obtain rfl : c = r.length + 1 := by omega
          rcases ht2 with ht2 | ht2
          · exact one_3b ad t r w hA hl ht2 (by omega) k hget hk
          · obtain ⟨v, m, y, hget2⟩ : ∃ v m y, Vint.getBytes (r.drop r.length) = (v, m, y) := ⟨_, _, _, rfl⟩
            exact one_4b ad t r w hA hl ht2 (by omega) k hget hk v m y hget2 (fun hy => by subst hy; have := (Vint.getBytes_canon hget2).2; simp at this; omega)
        · rcases ht2 with ht2 | ht2
          · exact one_3 ad t r c w hA hc hl ht2 hc1 k n hget hk hcn
          · obtain ⟨v, m, y, hget2⟩ : ∃ v m y, Vint.getBytes (r.drop n) = (v, m, y) := ⟨_, _, _, rfl⟩
            by_cases hy : y = 0
            · by_cases hv : v.length ≤ 1000
              · exact one_6 ad t r c w hA hc hl ht2 hc1 k n hget hk hcn v m y hget2 hy hv
              · exact one_5 ad t r c w hA hc hl ht2 hc1 k n hget hk hcn v m y hget2 hy (by omega)
            · exact one_4 ad t r c w hA hc hl ht2 hc1 k n hget hk hcn v m y hget2 hy
end Go.Proofs.Ytdekdblebflklaa
