
/- Texts laid together by wip/tools/lay2.py: NdI NdP NdJ NdK NdL NdM NdN NdR NdS NdW NdX NdY NdZ NdZB. -/

import Derived.Test.YtkpagmfaccmiaaaGreatSlices

import Derived.Test.YtkpagmfaccmiaaaGreatVintNum

import Derived.Test.YtkpagmfaccmiaaaGreatGSltAll

import Derived.Test.YtkpagmfaccmiaaaGreatGNdAllA

import Derived.Test.YtkpagmfaccmiaaaGreatGPgAll

import Derived.Test.YtkpagmfaccmiaaaGreatReg8

import Derived.Test.YtkpagmfaccmiaaaGreatAppN

import Derived.Test.YtkpagmfaccmiaaaGreatSlCut

import Derived.Test.YtkpagmfaccmiaaaGreatCellGetG

import Derived.Test.YtkpagmfaccmiaaaGreatCellGetI

import Derived.Test.YtkpagmfaccmiaaaGreatConst

import Derived.Test.YtkpagmfaccmiaaaGreatFields

import Derived.Deep.Slices

set_option linter.unusedVariables false

/- Contracts: fixed, laid (layer 08). Printed by wip/tools/gen_ndi08.py. -/

namespace Go.Proofs.YtkpagmfaccmiaaaGreat

open Go.RowKit

attribute [local go_sem] Oper.semAt_some

set_option maxRecDepth 100000 in
theorem fixed4_any (n : Nat) (w : World) (hn : n < 4294967296) : Calls Tryz.prog 41 #[.int .u32 (n : Int)] w fun e w' => ∃ A' c', e = .returned (.slice A' (Vint.fixed n 4).length c') ∧ Own w' w.heap.size 5 1 A' (Vint.fixed n 4).length c' (bvs (Vint.fixed n 4)) ∧ Ext w w' := by
  have h := fun W => fixed_any n 4 W
  have Hn := Lib.hid hn
  have hw : IntKind.u64.wrap (n : Int) = (n : Int) := by simp [IntKind.wrap, IntKind.bits, IntKind.signed]; omega
  go_enter Tryz.func41, Tryz.ntmps41
  go_wp2_with (go_at_call 38; refine (h _).mono ?_; rintro e1 w1 ⟨A', c', rfl, ho, hx⟩; have Ho := Lib.hid ho; have Hx := Lib.hid hx; clear ho hx)
  go_ret
  exact ⟨A', c', rfl, Ho.out, Hx.out⟩

/-- Bytes, with 0 behind them, as long as a body. -/
def ndFill (d : List UInt8) : List UInt8 := ovw (zeros 243) 0 d
theorem ndFill_len {d : List UInt8} (h : d.length ≤ 243) : (ndFill d).length = 243 := by unfold ndFill; rw [ovw_len (by rw [zeros_len]; omega), zeros_len]
theorem mk_zeros (n : Nat) : Array.replicate n (Value.int .u8 0) = (bvs (zeros n)).toArray := by
  simp [bvs, zeros, bv]
set_option maxRecDepth 100000 in
set_option maxHeartbeats 1000000 in
theorem laid_any (A : Option Addr) (l : List Sl) (c : Nat) (w : World) (hA : RdL w A l) (hl : l.length ≤ 1000000) (hcat : (cat l).length ≤ 243) :
    Calls Tryz.prog 40 #[.slice A l.length c] w fun e w' => ∃ A', e = .returned (.slice A' 243 243) ∧ Own w' w.heap.size 5 1 A' 243 243 (bvs (ndFill (cat l))) ∧ Ext w w' := by
  obtain ⟨d, hd⟩ : ∃ d, d = cat l := ⟨_, rfl⟩
  have hcc := fun W (h : RdL W A l) => concat_any A l c W h hl (by omega)
  rw [← hd] at hcc hcat ⊢
  clear hd
  have Hcc := Lib.hid hcc
  have Hcat := Lib.hid hcat
  clear hcc hcat
  go_enter Tryz.func40, Tryz.ntmps40
  go_wp2_with (at_make; go_loud (refine wpList_mk rfl (.const (.int .i64 243)) (.const (.int .i64 243)) 25 rfl elemB (.int .u8 0) zeroB rfl 243 _ _ rfl rfl (by omega) (by omega) ?_); refine Hid.out ?_)
  refine Lib.hid ?_
  rw [mk_zeros]
  have hx0 := Ext.alloc w (.cells (bvs (zeros 243)).toArray 5)
  have hg0 := heap_alloc_new w (.cells (bvs (zeros 243)).toArray 5)
  obtain ⟨W0, hW0⟩ : ∃ W0, W0 = w.alloc (.cells (bvs (zeros 243)).toArray 5) := ⟨_, rfl⟩
  rw [← hW0] at hx0 hg0 ⊢
  clear hW0
  have hc := Hcc.out _ (hA.below hx0)
  have Hc := Lib.hid hc
  have Hx0 := Lib.hid hx0
  have Hg0 := Lib.hid hg0
  clear hc hx0 hg0 hA
  go_wp2_with (first | (go_at_call 68; refine Hc.out.mono ?_; rintro e1 w1 ⟨A1, c1, rfl, ho1, hx1⟩; have Hr1 := Lib.hid ho1.rd'; have Hg1 := Lib.hid ((hx1.block _ (lt_of_heap Hg0.out)).trans Hg0.out); have Hx1 := Lib.hid (Hx0.out.tr hx1); clear ho1 hx1) | (refine wpList_copyB (by rfl) (.tmp 5) (.tmp 7) 25 rfl elemB w.heap.size 0 243 243 (some ⟨w.heap.size, 0, none⟩) rfl A1 c1 (zeros 243) d rfl 5 (.inr rfl) Hcat.out Hg1.out (by rw [zeros_len]; have := Hcat.out; omega) Hr1.out ?_; intro w2 hr2 hg2; have Hr2 := Lib.hid hr2; have Hg2 := Lib.hid hg2; clear hr2 hg2))
  have hx2 : Ext w w2 := below_row Hx1.out Hg2.out (Nat.le_refl _) Hx1.out.size
  have B2 : BO w2 w.heap.size (ndFill d) := ⟨Hr2.out⟩
  have hfl := ndFill_len Hcat.out
  go_ret
  exact ⟨_, rfl, B2.own (Nat.le_refl _) hfl.symm (by omega), hx2⟩
end Go.Proofs.YtkpagmfaccmiaaaGreat

/- Nodes' bytes, in plain Lean: what is put is said again, what is said is put again (layer 08). -/

namespace Go.Proofs.YtkpagmfaccmiaaaGreat

open Go.RowKit

theorem fx4 (n : Nat) : Vint.fixed n 4 = Vint.fixL n 4 := by unfold Vint.fixed; rw [if_pos (by decide)]; rfl
theorem fx4_len (n : Nat) : (Vint.fixed n 4).length = 4 := by rw [fx4, Vint.fixL_len]
theorem fx4_num (n : Nat) (h : n < 4294967296) : Vint.number (Vint.fixed n 4) = n := by rw [fx4]; exact Cl.num_fix4 n h

/-- A body with these cells' bytes, one by one. -/
def sbAt (k : Int) (l : List Cl) : Nat → SBody
  | 0 => SBody.new
  | j + 1 => ((sbAt k l j).insert (j : Int) (((l.getD j Cl.zero).put k).1)).2
def Nd.sb (k : Int) (l : List Cl) : SBody := sbAt k l l.length
theorem sbAt_inv (k : Int) (l : List Cl) : ∀ j, (sbAt k l j).Inv
  | 0 => SBody.new_inv
  | j + 1 => SBody.insert_inv (sbAt_inv k l j) _ _

theorem sumL_ps (l : List SCell) : sumL l = ((l.map SCell.p).map List.length).sum := by simp [sumL, List.map_map, Function.comp_def]
theorem need_eq (k : Int) (l : List Cl) : Nd.need k l = 2 * l.length + ((l.map fun c => (c.put k).1).map List.length).sum := by
  induction l with
  | nil => rfl
  | cons c l ih => simp only [Nd.need, List.map_cons, List.sum_cons, List.length_cons, ih]; omega
theorem room_ps (m : SBody) (c : List UInt8) : (m.room c).l.map SCell.p = m.l.map SCell.p := by
  unfold SBody.room
  split
  · exact packL_p m.l
  · rfl
theorem sbAt_ps (k : Int) (l : List Cl) (hn : Nd.need k l ≤ 241) : ∀ j, j ≤ l.length → (sbAt k l j).l.map SCell.p = (l.take j).map fun c => (c.put k).1
  | 0, _ => by simp [sbAt, SBody.new]
  | j + 1, hj => by
    have ih := sbAt_ps k l hn j (by omega)
    have hI := sbAt_inv k l j
    show ((sbAt k l j).insert (j : Int) (((l.getD j Cl.zero).put k).1)).2.l.map SCell.p = _
    have hlj : j < l.length := by omega
    have hg : l.getD j Cl.zero = l[j] := by rw [List.getD_eq_getElem?_getD, List.getElem?_eq_getElem hlj]; rfl
    rw [hg]
    generalize sbAt k l j = m at *
    have hml : m.l.length = j := by
      have := congrArg List.length ih
      simpa [Nat.min_eq_left (Nat.le_of_lt hlj)] using this
    have hs : m.sum + 2 * j = Nd.need k (l.take j) := by
      rw [need_eq, ← ih, ← sumL_ps, List.length_take, Nat.min_eq_left (Nat.le_of_lt hlj)]
      unfold SBody.sum
      omega
    have hneed : Nd.need k (l.take j) + (2 + (l[j].put k).1.length) ≤ 241 := by
      have h1 : Nd.need k l = Nd.need k (l.take (j + 1)) + Nd.need k (l.drop (j + 1)) := by rw [← Nd.need_app, List.take_append_drop]
      rw [List.take_succ_eq_append_getElem hlj, Nd.need_app] at h1
      simp only [Nd.need] at h1
      omega
    have h78 := put_len k l[j]
    have hfr : ¬ m.free < 2 + (l[j].put k).1.length := by
      unfold SBody.free SBody.dir
      omega
    unfold SBody.insert
    rw [if_neg (by omega), if_neg (by omega), if_neg hfr]
    simp only [SBody.lay, Int.toNat_natCast, List.map_append, List.map_cons, List.map_take, List.map_drop, room_ps, ih]
    rw [List.take_take, Nat.min_self, List.drop_eq_nil_of_le (by simp; omega), List.take_succ_eq_append_getElem (by simpa using hlj), List.getElem_map]
theorem sb_ps (k : Int) (l : List Cl) (hn : Nd.need k l ≤ 241) : (Nd.sb k l).l.map SCell.p = l.map fun c => (c.put k).1 := by
  have := sbAt_ps k l hn l.length (Nat.le_refl _)
  rwa [List.take_length] at this

theorem getL_two (bs : List UInt8) : Cl.getL bs = (Cl.zero, 70) ∨ ∃ c, Cl.getL bs = (c, 0) ∧ c.putL = (bs, 0) := by
  unfold Cl.getL
  cases Cl.candL bs with
  | none => exact .inl rfl
  | some c =>
    simp only
    by_cases h : c.leaf = true ∧ c.flatL = bs
    · rw [if_pos h]
      refine .inr ⟨c, rfl, ?_⟩
      unfold Cl.putL
      rw [if_pos h.1, h.2]
    · rw [if_neg h]; exact .inl rfl
theorem getI_two (bs : List UInt8) : Cl.getI bs = (Cl.zero, 70) ∨ ∃ c, Cl.getI bs = (c, 0) ∧ c.putI = (bs, 0) := by
  unfold Cl.getI
  by_cases h : (Cl.candI bs).inner = true ∧ (Cl.candI bs).flatI = bs
  · rw [if_pos h]
    refine .inr ⟨_, rfl, ?_⟩
    unfold Cl.putI
    rw [if_pos h.1, h.2]
  · rw [if_neg h]; exact .inl rfl

/-- A cell that may be is got again. -/
structure Cl.In (c : Cl) : Prop where
  over : c.over < 4294967296
  kid : c.kid < 4294967296
theorem Cl.put_get (k : Int) (c : Cl) (hc : c.In) (h : (c.put k).2 = 0) : Cl.get k (c.put k).1 = (c, 0) := by
  unfold Cl.put at h ⊢
  unfold Cl.get
  by_cases hk : k = 3
  · rw [if_pos hk] at h
    rw [if_pos hk, if_pos hk]
    unfold Cl.putL at h ⊢
    by_cases hl : c.leaf = true
    · rw [if_pos hl]; exact Cl.back_leaf hl hc.over
    · rw [if_neg hl] at h; cases h
  · rw [if_neg hk] at h
    rw [if_neg hk, if_neg hk]
    unfold Cl.putI at h ⊢
    by_cases hl : c.inner = true
    · rw [if_pos hl]; exact Cl.back_inner hl hc.kid
    · rw [if_neg hl] at h; cases h
theorem Cl.get_put (k : Int) (b : List UInt8) (c : Cl) (h : Cl.get k b = (c, 0)) : c.put k = (b, 0) := by
  unfold Cl.get at h
  unfold Cl.put
  by_cases hk : k = 3
  · rw [if_pos hk] at h
    rw [if_pos hk]
    rcases getL_two b with e | ⟨x, e, hx⟩
    · rw [e] at h; cases h
    · rw [e] at h; injection h with h _; rw [← h]; exact hx
  · rw [if_neg hk] at h
    rw [if_neg hk]
    rcases getI_two b with e | ⟨x, e, hx⟩
    · rw [e] at h; cases h
    · rw [e] at h; injection h with h _; rw [← h]; exact hx

namespace Nd

def magic : List UInt8 := [83, 67, 79, 87, 49]
def lay1 (h : Hd) : List UInt8 := magic ++ (Vint.fixed h.root 4 ++ (Vint.fixed h.pages 4 ++ (Vint.fixed h.free 4 ++ Vint.fixed h.entries 8)))
def lay4 (next : Nat) (data : List UInt8) : List UInt8 := Vint.fixed next 4 ++ (u8 data.length :: data)
def flat (n : Nd) : List UInt8 := if n.kind = 1 then ndFill (lay1 n.head) else if n.kind = 4 then ndFill (lay4 n.next n.data) else ndFill (Vint.fixed n.next 4)
/-- b is the node's body. -/
def Body (n : Nd) (b : List UInt8) : Prop := if hasC n.kind = true then IsBytes b (sb n.kind n.cells) else b = n.flat
def num4 (d : List UInt8) (k : Nat) : Nat := Vint.number ((d.drop k).take 4)
/-- What a body without cells says. -/
def rd (k : Int) (lsn : Nat) (d : List UInt8) : Nd :=
  if k = 1 then ⟨1, lsn, [], 0, [], ⟨num4 d 5, num4 d 9, num4 d 13, Vint.number ((d.drop 17).take 8)⟩⟩
  else if k = 4 then ⟨4, lsn, [], num4 d 0, (d.drop 5).take (d.getD 4 0).toNat, Hd.zero⟩
  else ⟨k, lsn, [], num4 d 0, [], Hd.zero⟩
/-- What a page's parts say. -/
def Told (k : Int) (d : List UInt8) (n : Nd) : Prop :=
  if hasC k = true then Valid d ∧ (slOf d).l.map (fun c => Cl.get k c.p) = n.cells.map fun c => (c, 0)
  else n = rd k n.lsn d ∧ n.flat = d
/-- What bytes say. -/
structure Says (b : List UInt8) (n : Nd) : Prop where
  err : Pg.err b = 0
  ok : n.ok = true
  parts : ∃ d, Pg.parts b = (n.kind, n.lsn, d) ∧ Told n.kind d n
theorem hasC_iff (k : Int) : hasC k = true ↔ k = 3 ∨ k = 2 := by simp [hasC]
theorem ok_kind {n : Nd} (h : n.ok = true) : 1 ≤ n.kind ∧ n.kind ≤ 5 := by
  unfold ok at h
  rw [Bool.and_eq_true] at h
  have h2 := h.2
  by_cases k1 : n.kind = 1
  · omega
  by_cases k4 : n.kind = 4
  · omega
  by_cases k5 : n.kind = 5
  · omega
  by_cases k2 : n.kind = 2
  · omega
  by_cases k3 : n.kind = 3
  · omega
  rw [if_neg k1, if_neg k4, if_neg k5, if_neg k2, if_neg k3] at h2
  cases h2
theorem ok_plain' {n : Nd} (h : n.ok = true) : n.plain = true := by
  unfold ok at h
  rw [Bool.and_eq_true] at h
  exact h.1
theorem plain_of {n : Nd} (h : n.plain = true) : (n.kind = 1 ∨ n.head = Hd.zero) ∧ (hasC n.kind = true ∨ n.cells = []) ∧ (n.kind = 4 ∨ n.data = []) ∧ (n.kind = 4 ∨ n.kind = 5 ∨ n.next = 0) := by
  unfold plain at h
  simp only [Bool.and_eq_true, Bool.or_eq_true, decide_eq_true_eq, Hd.same_iff, Int.natCast_eq_zero, List.length_eq_zero_iff] at h
  obtain ⟨⟨⟨h1, h2⟩, h3⟩, h4⟩ := h
  exact ⟨h1, h2, h3, by rcases h4 with (h4 | h4) | h4 <;> simp [h4]⟩
theorem ok_cells {n : Nd} (h : n.ok = true) (hk : hasC n.kind = true) : ∀ c ∈ n.cells, (c.put n.kind).2 = 0 := by
  unfold ok at h
  rw [Bool.and_eq_true] at h
  have h2 := h.2
  rcases (hasC_iff _).1 hk with k3 | k2
  · rw [k3] at h2 ⊢
    simp only [show ¬ (3 : Int) = 1 by decide, show ¬ (3 : Int) = 4 by decide, show ¬ (3 : Int) = 5 by decide, show ¬ (3 : Int) = 2 by decide, if_true, if_false] at h2
    unfold cellsOk at h2
    rw [Bool.and_eq_true, List.all_eq_true] at h2
    exact fun c hc => of_decide_eq_true (h2.1 c hc)
  · rw [k2] at h2 ⊢
    simp only [show ¬ (2 : Int) = 1 by decide, show ¬ (2 : Int) = 4 by decide, show ¬ (2 : Int) = 5 by decide, if_true, if_false] at h2
    rw [Bool.and_eq_true] at h2
    have h3 := h2.2
    unfold cellsOk at h3
    rw [Bool.and_eq_true, List.all_eq_true] at h3
    exact fun c hc => of_decide_eq_true (h3.1 c hc)
/-- Bytes say one node. -/
theorem Says.uniq {b : List UInt8} {m n : Nd} (hm : Says b m) (hn : Says b n) : m = n := by
  obtain ⟨d, p1, t1⟩ := hm.parts
  obtain ⟨d2, p2, t2⟩ := hn.parts
  rw [p1] at p2
  simp only [Prod.mk.injEq] at p2
  obtain ⟨e1, e2, e3⟩ := p2
  subst e3
  unfold Told at t1 t2
  rw [← e1] at t2
  by_cases hk : hasC m.kind = true
  · rw [if_pos hk] at t1 t2
    have hc : m.cells = n.cells := by
      have h1 := t1.2.symm.trans t2.2
      have h2 := congrArg (List.map Prod.fst) h1
      simpa [List.map_map, Function.comp_def] using h2
    have hp := plain_of (ok_plain' hm.ok)
    have hq := plain_of (ok_plain' hn.ok)
    rw [← e1] at hq
    have hkk : m.kind ≠ 1 ∧ m.kind ≠ 4 ∧ m.kind ≠ 5 := by rcases (hasC_iff _).1 hk with h | h <;> omega
    obtain ⟨a1, a2, a3, a4, a5, a6⟩ := m
    obtain ⟨b1, b2, b3, b4, b5, b6⟩ := n
    simp only [Nd.mk.injEq] at *
    refine ⟨e1, e2, hc, ?_, ?_, ?_⟩
    · rcases hp.2.2.2 with h | h | h
      · omega
      · omega
      · rcases hq.2.2.2 with h' | h' | h'
        · omega
        · omega
        · rw [h, h']
    · rcases hp.2.2.1 with h | h
      · omega
      · rcases hq.2.2.1 with h' | h'
        · omega
        · rw [h, h']
    · rcases hp.1 with h | h
      · omega
      · rcases hq.1 with h' | h'
        · omega
        · rw [h, h']
  · rw [if_neg hk] at t1 t2
    rw [t1.1, t2.1, e2]

/-! ### there -/

structure In (n : Nd) : Prop where
  lsn : n.lsn < 18446744073709551616
  cells : ∀ c ∈ n.cells, c.In
  next : n.next < 4294967296
  head : n.head.In
theorem fill_app {d : List UInt8} (h : d.length ≤ 243) : ndFill d = d ++ (zeros 243).drop d.length := by
  unfold ndFill ovw
  rw [List.take_zero, List.nil_append, Nat.zero_add]
theorem cut_at {a b c : List UInt8} {k n : Nat} (ha : a.length = k) (hb : b.length = n) : ((a ++ (b ++ c)).drop k).take n = b := by rw [List.drop_left' ha, List.take_left' hb]
theorem lay1_len (h : Hd) : (lay1 h).length = 25 := by simp [lay1, magic, fx4_len, fixed8_len]
theorem lay4_len (next : Nat) (data : List UInt8) : (lay4 next data).length = 5 + data.length := by simp [lay4, fx4_len]; omega
theorem rd_1 (lsn : Nat) (h : Hd) (hi : h.In) : rd 1 lsn (ndFill (lay1 h)) = ⟨1, lsn, [], 0, [], h⟩ := by
  obtain ⟨R, hR⟩ : ∃ R, R = Vint.fixed h.root 4 := ⟨_, rfl⟩
  obtain ⟨G, hG⟩ : ∃ G, G = Vint.fixed h.pages 4 := ⟨_, rfl⟩
  obtain ⟨F, hF⟩ : ∃ F, F = Vint.fixed h.free 4 := ⟨_, rfl⟩
  obtain ⟨E, hE⟩ : ∃ E, E = Vint.fixed h.entries 8 := ⟨_, rfl⟩
  have lR : R.length = 4 := by rw [hR, fx4_len]
  have lG : G.length = 4 := by rw [hG, fx4_len]
  have lF : F.length = 4 := by rw [hF, fx4_len]
  have lE : E.length = 8 := by rw [hE, fixed8_len]
  have lM : magic.length = 5 := rfl
  obtain ⟨Z, hZ⟩ : ∃ Z, ndFill (lay1 h) = magic ++ (R ++ (G ++ (F ++ (E ++ Z)))) := ⟨_, by rw [fill_app (by rw [lay1_len]; omega), hR, hG, hF, hE]; unfold lay1; simp only [List.append_assoc]; rfl⟩
  have e5 : num4 (ndFill (lay1 h)) 5 = h.root := by
    unfold num4
    rw [hZ, cut_at lM lR, hR, fx4_num _ hi.root]
  have e9 : num4 (ndFill (lay1 h)) 9 = h.pages := by
    unfold num4
    rw [hZ, show magic ++ (R ++ (G ++ (F ++ (E ++ Z)))) = (magic ++ R) ++ (G ++ (F ++ (E ++ Z))) by simp only [List.append_assoc], cut_at (by rw [List.length_append]; omega) lG, hG, fx4_num _ hi.pages]
  have e13 : num4 (ndFill (lay1 h)) 13 = h.free := by
    unfold num4
    rw [hZ, show magic ++ (R ++ (G ++ (F ++ (E ++ Z)))) = (magic ++ R ++ G) ++ (F ++ (E ++ Z)) by simp only [List.append_assoc], cut_at (by rw [List.length_append, List.length_append]; omega) lF, hF, fx4_num _ hi.free]
  have e17 : ((ndFill (lay1 h)).drop 17).take 8 = Vint.fixed h.entries 8 := by
    rw [hZ, show magic ++ (R ++ (G ++ (F ++ (E ++ Z)))) = (magic ++ R ++ G ++ F) ++ (E ++ Z) by simp only [List.append_assoc], cut_at (by rw [List.length_append, List.length_append, List.length_append]; omega) lE, hE]
  unfold rd
  rw [if_pos rfl, e5, e9, e13, e17, number_fixed8 _ hi.entries]
theorem rd_4 (lsn next : Nat) (data : List UInt8) (hn : next < 4294967296) (hd : data.length ≤ 238) : rd 4 lsn (ndFill (lay4 next data)) = ⟨4, lsn, [], next, data, Hd.zero⟩ := by
  have hl : (lay4 next data).length ≤ 243 := by rw [lay4_len]; omega
  have e0 : num4 (ndFill (lay4 next data)) 0 = next := by
    unfold num4
    rw [fill_app hl]
    unfold lay4
    rw [List.drop_zero, List.append_assoc, List.take_left' (fx4_len _), fx4_num _ hn]
  have e4 : (ndFill (lay4 next data)).getD 4 0 = u8 data.length := by
    rw [fill_app hl]
    unfold lay4
    rw [List.getD_eq_getElem?_getD, List.append_assoc, List.getElem?_append_right (by rw [fx4_len]; omega), fx4_len]
    rfl
  have e5 : ((ndFill (lay4 next data)).drop 5).take data.length = data := by
    rw [fill_app hl]
    unfold lay4
    rw [show Vint.fixed next 4 ++ (u8 data.length :: data) = (Vint.fixed next 4 ++ [u8 data.length]) ++ data by simp, List.append_assoc]
    exact cut_at (by rw [List.length_append, fx4_len]; rfl) rfl
  unfold rd
  rw [if_neg (by decide), if_pos rfl, e0, e4, u8_nat (by omega), e5]
theorem rd_5 (lsn next : Nat) (hn : next < 4294967296) : rd 5 lsn (ndFill (Vint.fixed next 4)) = ⟨5, lsn, [], next, [], Hd.zero⟩ := by
  have e0 : num4 (ndFill (Vint.fixed next 4)) 0 = next := by
    unfold num4
    rw [fill_app (by rw [fx4_len]; omega), List.drop_zero, List.take_left' (fx4_len _), fx4_num _ hn]
  unfold rd
  rw [if_neg (by decide), if_neg (by decide), e0]
theorem ok_data {n : Nd} (h : n.ok = true) (hk : n.kind = 4) : n.data.length ≤ 238 := by
  unfold ok at h
  rw [Bool.and_eq_true] at h
  have h2 := h.2
  rw [hk] at h2
  simp only [show ¬ (4 : Int) = 1 by decide, if_true, if_false, Bool.and_eq_true, decide_eq_true_eq] at h2
  exact h2.2
theorem told_put {n : Nd} {bs : List UInt8} (hok : n.ok = true) (hne : hasC n.kind = true → need n.kind n.cells ≤ 241) (hin : n.In) (hb : n.Body bs) : Told n.kind bs n := by
  unfold Body at hb
  unfold Told
  by_cases hk : hasC n.kind = true
  · rw [if_pos hk] at hb ⊢
    have hI : (sb n.kind n.cells).Inv := sbAt_inv _ _ _
    obtain ⟨h1, h2⟩ := hb.valid hI
    refine ⟨h1, ?_⟩
    have hp : (slOf bs).l.map SCell.p = n.cells.map fun c => (c.put n.kind).1 := by rw [h2, SBody.fixed_p]; exact sb_ps _ _ (hne hk)
    rw [show (slOf bs).l.map (fun c => Cl.get n.kind c.p) = ((slOf bs).l.map SCell.p).map (Cl.get n.kind) by rw [List.map_map]; rfl, hp, List.map_map]
    refine List.map_congr_left fun c hc => ?_
    exact Cl.put_get _ c (hin.cells c hc) (ok_cells hok hk c hc)
  · rw [if_neg hk] at hb ⊢
    refine ⟨?_, hb.symm⟩
    have hp := plain_of (ok_plain' hok)
    have hkk := ok_kind hok
    rw [hasC_iff] at hk
    have hd : n.kind = 4 → n.data.length ≤ 238 := ok_data hok
    obtain ⟨h1, h2, h3, h4⟩ := hin
    subst hb
    obtain ⟨k, lsn, cells, next, data, head⟩ := n
    simp only [flat] at *
    have hc : cells = [] := by
      rcases hp.2.1 with h | h
      · exact absurd ((hasC_iff _).1 h) hk
      · exact h
    subst hc
    by_cases k1 : k = 1
    · subst k1
      have e1 : next = 0 := by rcases hp.2.2.2 with h | h | h <;> first | exact h | cases h
      have e2 : data = [] := by rcases hp.2.2.1 with h | h <;> first | exact h | cases h
      subst e1; subst e2
      rw [if_pos rfl]
      exact (rd_1 lsn head h4).symm
    · have e3 : head = Hd.zero := by rcases hp.1 with h | h; exact absurd h k1; exact h
      subst e3
      rw [if_neg k1]
      by_cases k4 : k = 4
      · subst k4
        rw [if_pos rfl]
        exact (rd_4 lsn next data h3 (hd rfl)).symm
      · rw [if_neg k4]
        have e2 : data = [] := by rcases hp.2.2.1 with h | h; exact absurd h k4; exact h
        subst e2
        obtain rfl : k = 5 := by omega
        exact (rd_5 lsn next h3).symm
/-- A node's page as bytes, if bs is its body. -/
def sealed (n : Nd) (bs : List UInt8) : List UInt8 := Crc.put (UInt8.ofNat n.kind.toNat :: Vint.fixed n.lsn 8 ++ bs)
theorem says_put {n : Nd} {bs : List UInt8} (hok : n.ok = true) (hne : hasC n.kind = true → need n.kind n.cells ≤ 241) (hin : n.In) (hb : n.Body bs) (hl : bs.length = 243) : Says (n.sealed bs) n := by
  have hk := ok_kind hok
  have hkk : isKind n.kind = true := by unfold isKind; simp [hk]
  have hg : (⟨n.kind, n.lsn, none, bs, 0⟩ : Pg).seal_ = (n.sealed bs, 0) := by
    unfold Pg.seal_ Pg.good
    rw [if_pos (by simp [hkk, hl])]
    rfl
  have h := Pg.there (p := ⟨n.kind, n.lsn, none, bs, 0⟩) hin.lsn (by rw [hg])
  rw [hg] at h
  exact ⟨h.1, hok, bs, h.2, told_put hok hne hin hb⟩

/-! ### back -/

theorem numL_app1 (l : List UInt8) (x : UInt8) : Vint.numL (l ++ [x]) = Vint.numL l * 256 + x.toNat := by unfold Vint.numL; rw [List.foldl_append]; rfl
theorem fixB_num : ∀ (n : Nat) (l : List UInt8), l.length = n → ∀ j (h : j < l.length), Vint.fixB (Vint.numL l) n j = l[j]
  | 0, l, hl, j, h => by omega
  | n + 1, l, hl, j, h => by
    have hne : l ≠ [] := by intro e; rw [e] at h; simp at h
    obtain ⟨m, x, rfl⟩ : ∃ m x, l = m ++ [x] := ⟨l.dropLast, l.getLast hne, (List.dropLast_concat_getLast hne).symm⟩
    have hm : m.length = n := by simp at hl; exact hl
    have hx := x.toNat_lt
    rw [numL_app1]
    unfold Vint.fixB
    by_cases hj : j < m.length
    · have ih := fixB_num n m hm j hj
      rw [List.getElem_append_left hj, ← ih]
      unfold Vint.fixB
      rw [show n + 1 - 1 - j = (n - 1 - j) + 1 by omega, Nat.pow_succ, Nat.mul_comm (256 ^ _) 256, ← Nat.div_div_eq_div_mul]
      congr 2
      omega
    · obtain rfl : j = m.length := by simp at h; omega
      rw [List.getElem_append_right (by omega), ← UInt8.toNat_inj, UInt8.toNat_ofNat', show n + 1 - 1 - m.length = 0 by omega]
      simp only [Nat.pow_zero, Nat.div_one, Nat.sub_self, List.getElem_cons_zero]
      omega
theorem fix_numL (l : List UInt8) : Vint.fixL (Vint.numL l) l.length = l := by
  refine List.ext_getElem (by rw [Vint.fixL_len]) fun j h1 h2 => ?_
  have := fixB_num l.length l rfl j h2
  simp only [Vint.fixL, List.getElem_map, List.getElem_range]
  exact this
theorem fix8_num (l : List UInt8) (h : l.length = 8) : Vint.fixed (Vint.number l) 8 = l := by
  unfold Vint.fixed Vint.number
  rw [if_pos (by decide), if_pos (by omega), show (8 : Int).toNat = 8 from rfl]
  have := fix_numL l
  rwa [h] at this
theorem ps_of (k : Int) : ∀ (l : List SCell) (cs : List Cl), l.map (fun c => Cl.get k c.p) = cs.map (fun c => (c, 0)) → cs.map (fun c => (c.put k).1) = l.map SCell.p
  | [], [], _ => rfl
  | [], _ :: _, h => by simp at h
  | _ :: _, [], h => by simp at h
  | c :: l, x :: cs, h => by
    simp only [List.map_cons, List.cons.injEq] at h ⊢
    exact ⟨by rw [Cl.get_put k _ _ h.1], ps_of k l cs h.2⟩
theorem need_says {b : List UInt8} {n : Nd} (h : Says b n) (hk : hasC n.kind = true) : need n.kind n.cells ≤ 241 := by
  obtain ⟨d, _, ht⟩ := h.parts
  unfold Told at ht
  rw [if_pos hk] at ht
  obtain ⟨hv, hm⟩ := ht
  have hp := ps_of _ _ _ hm
  have hI := hv.inv
  have h1 := hI.dirTop
  have h2 := hI.sum
  have hlen : n.cells.length = (slOf d).l.length := by have := congrArg List.length hp; simpa using this
  rw [need_eq, hp, ← sumL_ps, hlen]
  unfold SBody.dir at h1
  unfold SBody.sum at h2
  omega
theorem put_says {b : List UInt8} {n : Nd} (h : Says b n) (hk : hasC n.kind = false) : b = n.sealed n.flat := by
  obtain ⟨d, hp, ht⟩ := h.parts
  unfold Told at ht
  rw [if_neg (by rw [hk]; decide)] at ht
  rw [ht.2]
  have he := h.err
  unfold Pg.parts at hp
  rw [if_pos he] at hp
  unfold Pg.err at he
  by_cases hl : b.length = 256
  · rw [if_pos hl] at he
    by_cases hc : Crc.ok b = true
    · unfold Crc.ok at hc
      rw [Bool.and_eq_true, beq_iff_eq] at hc
      have hb := hc.2
      rw [hl, show 256 - 4 = 252 from rfl] at hb
      simp only [Prod.mk.injEq] at hp
      obtain ⟨p1, p2, p3⟩ := hp
      unfold sealed
      rw [← p1, ← p2, ← p3, Int.toNat_natCast, UInt8.ofNat_toNat]
      rw [fix8_num _ (by rw [List.length_take, List.length_drop]; omega)]
      rw [← hb]
      congr 1
      rw [hb]
      match b, hl with
      | x :: t, hl =>
        simp only [List.headD_cons, List.drop_succ_cons, List.drop_zero, List.cons_append, List.take_succ_cons, List.cons.injEq, true_and]
        have h8 := (List.take_append_drop 8 (t.take 251)).symm
        rw [List.take_take] at h8
        exact h8
    · rw [if_neg hc] at he; cases he
  · rw [if_neg hl] at he; cases he
end Nd

end Go.Proofs.YtkpagmfaccmiaaaGreat

/- Contract: body at kinds 2 and 3 (layer 08). Printed by wip/tools/gen_ndj08.py. -/

namespace Go.Proofs.YtkpagmfaccmiaaaGreat

open Go.RowKit

attribute [local go_sem] Oper.semAt_some

attribute [local go_sem] coder_put


theorem Own.neB {w : World} {base n c g : Nat} {e : TypeId} {A : Option Addr} {d : List UInt8} (h : Own w base e 1 A n c (bvs d)) (hg : g < base) : d ≠ [] → ∀ ad, A = some ad → ad.block ≠ g := by
  intro hd ad e1
  rcases h.mem with h0 | ⟨g', off, cur, h1, h2, _⟩
  · have h3 := h.nc
    have h4 := h.len
    rw [bvs_len] at h4
    exact absurd (List.eq_nil_of_length_eq_zero (by omega)) hd
  · rw [h1] at e1
    injection e1 with e1
    subst e1
    show g' ≠ g
    omega


set_option maxRecDepth 100000 in
set_option maxHeartbeats 400000 in
theorem body_3 (lsn : Nat) (ca : Option Addr) (cl : List CellV) (cc next : Nat) (da : Option Addr) (data : List UInt8) (dc r p f e : Nat) (w : World) (hr : RdC w ca cl) (hl : cl.length ≤ 1000000) :
    Calls Tryz.prog 16 #[.agg #[.int .i64 3, .int .u64 (lsn : Int), .slice ca cl.length cc, .int .u32 (next : Int), .slice da data.length dc, .int .u32 (r : Int), .int .u32 (p : Int), .int .u32 (f : Int), .int .u64 (e : Int)]] w fun e' w' => ∃ bs A', IsBytes bs (Nd.sb 3 (cl.map CellV.x)) ∧ e' = .returned (.slice A' 243 243) ∧ Own w' w.heap.size 5 1 A' 243 243 (bvs bs) ∧ Ext w w' := by
  have hx0 := Ext.alloc w (.cells #[.int .i64 3, .int .u64 (lsn : Int), .slice ca cl.length cc, .int .u32 (next : Int), .slice da data.length dc, .int .u32 (r : Int), .int .u32 (p : Int), .int .u32 (f : Int), .int .u64 (e : Int)] 29)
  have hg0 := heap_alloc_new w (.cells #[.int .i64 3, .int .u64 (lsn : Int), .slice ca cl.length cc, .int .u32 (next : Int), .slice da data.length dc, .int .u32 (r : Int), .int .u32 (p : Int), .int .u32 (f : Int), .int .u64 (e : Int)] 29)
  have hnew := fun W => snew_any W
  have hco := coderOf_any 3
  rw [show coderA 3 = #[.func (.func 55) #[] #[], .func (.func 56) #[] #[]] from rfl] at hco
  have hbase : w.heap.size ≤ (w.alloc (.cells #[.int .i64 3, .int .u64 (lsn : Int), .slice ca cl.length cc, .int .u32 (next : Int), .slice da data.length dc, .int .u32 (r : Int), .int .u32 (p : Int), .int .u32 (f : Int), .int .u64 (e : Int)] 29)).heap.size := hx0.size
  have Hx0 := Lib.hid hx0
  have Hg0 := Lib.hid hg0
  clear hx0 hg0
  go_enter Tryz.func16, Tryz.ntmps16
  go_wp2_with (first | (go_at_call 42; refine (hnew _).mono ?_; rintro e1 w1 ⟨rfl, hB1, hx1⟩; obtain ⟨c0, c2, _⟩ := nd9 ((hx1.block _ (lt_of_heap Hg0.out)).trans Hg0.out); have Hx1 := Lib.hid hx1; have HB1 := Lib.hid hB1; clear hx1 hB1) | (go_at_call 21; refine (hco _).mono ?_; rintro e2 w2 ⟨rfl, hx2⟩; obtain ⟨_, d2, _⟩ := nd9 (((Hx1.out.tr hx2).block _ (lt_of_heap Hg0.out)).trans Hg0.out); have Hx2 := Lib.hid hx2; clear hx2))
  have hsz : (w.alloc (.cells #[.int .i64 3, .int .u64 (lsn : Int), .slice ca cl.length cc, .int .u32 (next : Int), .slice da data.length dc, .int .u32 (r : Int), .int .u32 (p : Int), .int .u32 (f : Int), .int .u64 (e : Int)] 29)).heap.size = w.heap.size + 1 := by simp
  rw [hsz] at HB1 hbase
  have HS1 := Lib.hid (show SAt w2 _ _ (sbAt 3 (cl.map CellV.x) 0) from ⟨HB1.out.ext Hx2.out, Rel.new, SBody.new_inv⟩)
  have Hb2 := Lib.hid ((Hx0.out.tr (Hx1.out.tr Hx2.out)))
  clear hsz
  generalize w.heap.size + 1 = g at *
  clear Hx1 HB1 Hx2 c0 c2 d2 Hg0 Hx0
  go_loopw [61] (fun i wr => ∃ k : Nat, k ≤ cl.length ∧ i = .int .i64 k ∧ (∃ b, SAt wr g b (sbAt 3 (cl.map CellV.x) k)) ∧ Ext w wr) (fun i _ => cl.length - (intOf i).toNat)
  case atStart => exact ⟨0, by omega, rfl, ⟨_, HS1.out⟩, Hb2.out⟩
  case round =>
    obtain ⟨k, hk, rfl, ⟨b, hS⟩, hbw⟩ := hrel
    have HS := Lib.hid hS
    clear hS
    by_cases h : k < cl.length
    · obtain ⟨ad, rfl, hcell, hin⟩ := (hr.below hbw).at_ h
      have ik : (0 : Int) ≤ (k : Int) := by omega
      have ik2 : (k : Int) < (cl.length : Int) := by omega
      have hi := cinfo cl[k]
      have h1 := cone1 cl[k]
      have Hbw := Lib.hid hbw
      have hal := Ext.alloc wr (.cells cl[k].cells 43)
      have gl := heap_alloc_new wr (.cells cl[k].cells 43)
      have hp := putLeaf_any cl[k] _ (hin.ext hal)
      have Hcx := Lib.hid hcell
      have Hal := Lib.hid hal
      have Hgl := Lib.hid (lt_of_heap HS.out.bb.row)
      have hpl : cl[k].x.putL.1.length ≤ 78 := put_len 3 cl[k].x
      have hsb : sbAt 3 (cl.map CellV.x) (k + 1) = ((sbAt 3 (cl.map CellV.x) k).insert (k : Int) cl[k].x.putL.1).2 := by
        show ((sbAt 3 (cl.map CellV.x) k).insert (k : Int) ((((cl.map CellV.x).getD k Cl.zero).put 3 ).1)).2 = _
        rw [List.getD_eq_getElem?_getD, List.getElem?_map, List.getElem?_eq_getElem h]
        rfl
      have Hsb := Lib.hid hsb
      have hins := fun A' c' W (hs : SAt W g b (sbAt 3 (cl.map CellV.x) k)) (hr : RdB W A' cl[k].x.putL.1) (hne : cl[k].x.putL.1 ≠ [] → ∀ ad, A' = some ad → ad.block ≠ g) => insert_any g b _ (k : Int) A' cl[k].x.putL.1 c' W hs hr hne (by omega)
      obtain ⟨P, hP⟩ : ∃ P, P = cl[k] := ⟨_, rfl⟩
      rw [← hP] at hi h1 gl hp Hcx hpl Hal Hsb
      simp only [← hP] at hins
      obtain ⟨d, hd⟩ : ∃ d, d = P.x.putL.1 := ⟨_, rfl⟩
      rw [← hd] at hp hpl Hsb
      simp only [← hd] at hins
      have Hp := Lib.hid hp
      have Hins := Lib.hid hins
      clear hP hd hcell hbw hal hin hp hsb hins
      go_wp2_with (first | (have hcx := Hcx.out; refine wpList_load_cells rfl 43 (.tmp 64) rfl _ rfl P.cells _ hcx Tryz.underlying43 rfl hi ?_; clear hcx) | (refine wpList_store_row rfl 43 (.tmp 7) (.tmp 65) rfl wr.heap.size P.cells rfl rfl 43 _ (heap_alloc_new wr _) hi (by rfl) h1 ?_; rw [setRow_alloc]) | (refine wpList_load_rowG rfl 43 (.tmp 7) rfl wr.heap.size rfl 43 P.cells (0, 0) _ gl Tryz.underlying43 rfl hi ?_) | (go_at_call 55; refine Hp.out.mono ?_; rintro e2 w2 ⟨A', c', rfl, ho, hx2⟩; have Hx2 := Lib.hid (Hal.out.tr hx2); have hI := Hins.out A' c' w2 (HS.out.ext Hx2.out) ho.rd' (ho.neB (Nat.lt_of_lt_of_le Hgl.out Hal.out.size)); have HI := Lib.hid hI; clear hx2 ho hI) | (go_at_call 43; refine HI.out.mono ?_; rintro e3 w3 ⟨rfl, hS3, hg3⟩; have HS3 := Lib.hid hS3; have Hg3 := Lib.hid hg3; clear hS3 hg3))
      go_roundw
      case rel => exact ⟨k + 1, by omega, by go_num, by rw [Hsb.out]; exact HS3.out, below_row (Hbw.out.tr Hx2.out) Hg3.out hbase (Hbw.out.tr Hx2.out).size⟩
      case measure => simp [intOf]; omega
    · obtain rfl : k = cl.length := by omega
      have hby := sbytes_any g b _ wr HS.out
      have Hby := Lib.hid hby
      have Hbw := Lib.hid hbw
      clear hby hbw
      go_wp2_with (go_at_call 44; refine Hby.out.mono ?_; rintro e3 w3 ⟨bs, A', hB, rfl, ho, hx⟩; have HB := Lib.hid hB; have Ho := Lib.hid ho; have Hx := Lib.hid hx; clear hB ho hx)
      go_ret
      refine ⟨bs, A', ?_, rfl, Ho.out.mono Hbw.out.size, Hbw.out.tr Hx.out⟩
      have := HB.out
      unfold Nd.sb
      rwa [List.length_map]


set_option maxRecDepth 100000 in
set_option maxHeartbeats 400000 in
theorem body_2 (lsn : Nat) (ca : Option Addr) (cl : List CellV) (cc next : Nat) (da : Option Addr) (data : List UInt8) (dc r p f e : Nat) (w : World) (hr : RdC w ca cl) (hl : cl.length ≤ 1000000) :
    Calls Tryz.prog 16 #[.agg #[.int .i64 2, .int .u64 (lsn : Int), .slice ca cl.length cc, .int .u32 (next : Int), .slice da data.length dc, .int .u32 (r : Int), .int .u32 (p : Int), .int .u32 (f : Int), .int .u64 (e : Int)]] w fun e' w' => ∃ bs A', IsBytes bs (Nd.sb 2 (cl.map CellV.x)) ∧ e' = .returned (.slice A' 243 243) ∧ Own w' w.heap.size 5 1 A' 243 243 (bvs bs) ∧ Ext w w' := by
  have hx0 := Ext.alloc w (.cells #[.int .i64 2, .int .u64 (lsn : Int), .slice ca cl.length cc, .int .u32 (next : Int), .slice da data.length dc, .int .u32 (r : Int), .int .u32 (p : Int), .int .u32 (f : Int), .int .u64 (e : Int)] 29)
  have hg0 := heap_alloc_new w (.cells #[.int .i64 2, .int .u64 (lsn : Int), .slice ca cl.length cc, .int .u32 (next : Int), .slice da data.length dc, .int .u32 (r : Int), .int .u32 (p : Int), .int .u32 (f : Int), .int .u64 (e : Int)] 29)
  have hnew := fun W => snew_any W
  have hco := coderOf_any 2
  rw [show coderA 2 = #[.func (.func 57) #[] #[], .func (.func 58) #[] #[]] from rfl] at hco
  have hbase : w.heap.size ≤ (w.alloc (.cells #[.int .i64 2, .int .u64 (lsn : Int), .slice ca cl.length cc, .int .u32 (next : Int), .slice da data.length dc, .int .u32 (r : Int), .int .u32 (p : Int), .int .u32 (f : Int), .int .u64 (e : Int)] 29)).heap.size := hx0.size
  have Hx0 := Lib.hid hx0
  have Hg0 := Lib.hid hg0
  clear hx0 hg0
  go_enter Tryz.func16, Tryz.ntmps16
  go_wp2_with (first | (go_at_call 42; refine (hnew _).mono ?_; rintro e1 w1 ⟨rfl, hB1, hx1⟩; obtain ⟨c0, c2, _⟩ := nd9 ((hx1.block _ (lt_of_heap Hg0.out)).trans Hg0.out); have Hx1 := Lib.hid hx1; have HB1 := Lib.hid hB1; clear hx1 hB1) | (go_at_call 21; refine (hco _).mono ?_; rintro e2 w2 ⟨rfl, hx2⟩; obtain ⟨_, d2, _⟩ := nd9 (((Hx1.out.tr hx2).block _ (lt_of_heap Hg0.out)).trans Hg0.out); have Hx2 := Lib.hid hx2; clear hx2))
  have hsz : (w.alloc (.cells #[.int .i64 2, .int .u64 (lsn : Int), .slice ca cl.length cc, .int .u32 (next : Int), .slice da data.length dc, .int .u32 (r : Int), .int .u32 (p : Int), .int .u32 (f : Int), .int .u64 (e : Int)] 29)).heap.size = w.heap.size + 1 := by simp
  rw [hsz] at HB1 hbase
  have HS1 := Lib.hid (show SAt w2 _ _ (sbAt 2 (cl.map CellV.x) 0) from ⟨HB1.out.ext Hx2.out, Rel.new, SBody.new_inv⟩)
  have Hb2 := Lib.hid ((Hx0.out.tr (Hx1.out.tr Hx2.out)))
  clear hsz
  generalize w.heap.size + 1 = g at *
  clear Hx1 HB1 Hx2 c0 c2 d2 Hg0 Hx0
  go_loopw [61] (fun i wr => ∃ k : Nat, k ≤ cl.length ∧ i = .int .i64 k ∧ (∃ b, SAt wr g b (sbAt 2 (cl.map CellV.x) k)) ∧ Ext w wr) (fun i _ => cl.length - (intOf i).toNat)
  case atStart => exact ⟨0, by omega, rfl, ⟨_, HS1.out⟩, Hb2.out⟩
  case round =>
    obtain ⟨k, hk, rfl, ⟨b, hS⟩, hbw⟩ := hrel
    have HS := Lib.hid hS
    clear hS
    by_cases h : k < cl.length
    · obtain ⟨ad, rfl, hcell, hin⟩ := (hr.below hbw).at_ h
      have ik : (0 : Int) ≤ (k : Int) := by omega
      have ik2 : (k : Int) < (cl.length : Int) := by omega
      have hi := cinfo cl[k]
      have h1 := cone1 cl[k]
      have Hbw := Lib.hid hbw
      have hal := Ext.alloc wr (.cells cl[k].cells 43)
      have gl := heap_alloc_new wr (.cells cl[k].cells 43)
      have hp := putInner_any cl[k] _ (hin.ext hal)
      have Hcx := Lib.hid hcell
      have Hal := Lib.hid hal
      have Hgl := Lib.hid (lt_of_heap HS.out.bb.row)
      have hpl : cl[k].x.putI.1.length ≤ 78 := put_len 2 cl[k].x
      have hsb : sbAt 2 (cl.map CellV.x) (k + 1) = ((sbAt 2 (cl.map CellV.x) k).insert (k : Int) cl[k].x.putI.1).2 := by
        show ((sbAt 2 (cl.map CellV.x) k).insert (k : Int) ((((cl.map CellV.x).getD k Cl.zero).put 2 ).1)).2 = _
        rw [List.getD_eq_getElem?_getD, List.getElem?_map, List.getElem?_eq_getElem h]
        rfl
      have Hsb := Lib.hid hsb
      have hins := fun A' c' W (hs : SAt W g b (sbAt 2 (cl.map CellV.x) k)) (hr : RdB W A' cl[k].x.putI.1) (hne : cl[k].x.putI.1 ≠ [] → ∀ ad, A' = some ad → ad.block ≠ g) => insert_any g b _ (k : Int) A' cl[k].x.putI.1 c' W hs hr hne (by omega)
      obtain ⟨P, hP⟩ : ∃ P, P = cl[k] := ⟨_, rfl⟩
      rw [← hP] at hi h1 gl hp Hcx hpl Hal Hsb
      simp only [← hP] at hins
      obtain ⟨d, hd⟩ : ∃ d, d = P.x.putI.1 := ⟨_, rfl⟩
      rw [← hd] at hp hpl Hsb
      simp only [← hd] at hins
      have Hp := Lib.hid hp
      have Hins := Lib.hid hins
      clear hP hd hcell hbw hal hin hp hsb hins
      go_wp2_with (first | (have hcx := Hcx.out; refine wpList_load_cells rfl 43 (.tmp 64) rfl _ rfl P.cells _ hcx Tryz.underlying43 rfl hi ?_; clear hcx) | (refine wpList_store_row rfl 43 (.tmp 7) (.tmp 65) rfl wr.heap.size P.cells rfl rfl 43 _ (heap_alloc_new wr _) hi (by rfl) h1 ?_; rw [setRow_alloc]) | (refine wpList_load_rowG rfl 43 (.tmp 7) rfl wr.heap.size rfl 43 P.cells (0, 0) _ gl Tryz.underlying43 rfl hi ?_) | (go_at_call 57; refine Hp.out.mono ?_; rintro e2 w2 ⟨A', c', rfl, ho, hx2⟩; have Hx2 := Lib.hid (Hal.out.tr hx2); have hI := Hins.out A' c' w2 (HS.out.ext Hx2.out) ho.rd' (ho.neB (Nat.lt_of_lt_of_le Hgl.out Hal.out.size)); have HI := Lib.hid hI; clear hx2 ho hI) | (go_at_call 43; refine HI.out.mono ?_; rintro e3 w3 ⟨rfl, hS3, hg3⟩; have HS3 := Lib.hid hS3; have Hg3 := Lib.hid hg3; clear hS3 hg3))
      go_roundw
      case rel => exact ⟨k + 1, by omega, by go_num, by rw [Hsb.out]; exact HS3.out, below_row (Hbw.out.tr Hx2.out) Hg3.out hbase (Hbw.out.tr Hx2.out).size⟩
      case measure => simp [intOf]; omega
    · obtain rfl : k = cl.length := by omega
      have hby := sbytes_any g b _ wr HS.out
      have Hby := Lib.hid hby
      have Hbw := Lib.hid hbw
      clear hby hbw
      go_wp2_with (go_at_call 44; refine Hby.out.mono ?_; rintro e3 w3 ⟨bs, A', hB, rfl, ho, hx⟩; have HB := Lib.hid hB; have Ho := Lib.hid ho; have Hx := Lib.hid hx; clear hB ho hx)
      go_ret
      refine ⟨bs, A', ?_, rfl, Ho.out.mono Hbw.out.size, Hbw.out.tr Hx.out⟩
      have := HB.out
      unfold Nd.sb
      rwa [List.length_map]
end Go.Proofs.YtkpagmfaccmiaaaGreat

/- Contract: body at kinds 1, 4, 5 (layer 08). Printed by wip/tools/gen_ndk08.py. -/

namespace Go.Proofs.YtkpagmfaccmiaaaGreat

open Go.RowKit

attribute [local go_sem] Oper.semAt_some


set_option maxRecDepth 100000 in
set_option maxHeartbeats 2000000 in
theorem body_1 (lsn : Nat) (ca : Option Addr) (cl : List CellV) (cc next : Nat) (da : Option Addr) (data : List UInt8) (dc r p f e : Nat) (w : World) (hh : (Hd.mk r p f e).In) :
    Calls Tryz.prog 16 #[.agg #[.int .i64 1, .int .u64 (lsn : Int), .slice ca cl.length cc, .int .u32 (next : Int), .slice da data.length dc, .int .u32 (r : Int), .int .u32 (p : Int), .int .u32 (f : Int), .int .u64 (e : Int)]] w fun e' w' => ∃ A', e' = .returned (.slice A' 243 243) ∧ Own w' w.heap.size 5 1 A' 243 243 (bvs (ndFill (Nd.lay1 ⟨r, p, f, e⟩))) ∧ Ext w w' := by
  have hx0 := Ext.alloc w (.cells #[.int .i64 1, .int .u64 (lsn : Int), .slice ca cl.length cc, .int .u32 (next : Int), .slice da data.length dc, .int .u32 (r : Int), .int .u32 (p : Int), .int .u32 (f : Int), .int .u64 (e : Int)] 29)
  have hg0 := heap_alloc_new w (.cells #[.int .i64 1, .int .u64 (lsn : Int), .slice ca cl.length cc, .int .u32 (next : Int), .slice da data.length dc, .int .u32 (r : Int), .int .u32 (p : Int), .int .u32 (f : Int), .int .u64 (e : Int)] 29)
  have hbase : w.heap.size ≤ (w.alloc (.cells #[.int .i64 1, .int .u64 (lsn : Int), .slice ca cl.length cc, .int .u32 (next : Int), .slice da data.length dc, .int .u32 (r : Int), .int .u32 (p : Int), .int .u32 (f : Int), .int .u64 (e : Int)] 29)).heap.size := hx0.size
  have hr4 := hh.root
  have hp4 := hh.pages
  have hf4 := hh.free
  have he8 := hh.entries
  go_enter Tryz.func16, Tryz.ntmps16
  go_wp2_with fail
  obtain ⟨W1, hW1⟩ : ∃ W1, W1 = (w.alloc (.cells #[.int .i64 1, .int .u64 (lsn : Int), .slice ca cl.length cc, .int .u32 (next : Int), .slice da data.length dc, .int .u32 (r : Int), .int .u32 (p : Int), .int .u32 (f : Int), .int .u64 (e : Int)] 29)).alloc (.cells #[.int .u32 (r : Int), .int .u32 (p : Int), .int .u32 (f : Int), .int .u64 (e : Int)] 27) := ⟨_, rfl⟩
  have hx1 : Ext w W1 := by rw [hW1]; exact hx0.tr (Ext.alloc _ _)
  have hg1 : W1.heap[w.heap.size + 1]? = some (.cells #[.int .u32 (r : Int), .int .u32 (p : Int), .int .u32 (f : Int), .int .u64 (e : Int)] 27 (0, 0)) := by
    rw [hW1]
    have := heap_alloc_new (w.alloc (.cells #[.int .i64 1, .int .u64 (lsn : Int), .slice ca cl.length cc, .int .u32 (next : Int), .slice da data.length dc, .int .u32 (r : Int), .int .u32 (p : Int), .int .u32 (f : Int), .int .u64 (e : Int)] 29)) (.cells #[.int .u32 (r : Int), .int .u32 (p : Int), .int .u32 (f : Int), .int .u64 (e : Int)] 27)
    simpa using this
  rw [← hW1]
  clear hW1 hx0 hg0 hbase
  have hgd := (Ext.drew W1).block _ (lt_of_heap hg1)
  rw [hg1] at hgd
  have hc0 : W1.drew.cell? ⟨w.heap.size + 1, 0, none⟩ = some (.int .u32 (r : Int)) := by rw [cell_of_row _ _ _ _ _ _ hgd]; rfl
  have hc1 : W1.drew.cell? ⟨w.heap.size + 1, 1, none⟩ = some (.int .u32 (p : Int)) := by rw [cell_of_row _ _ _ _ _ _ hgd]; rfl
  have hc2 : W1.drew.cell? ⟨w.heap.size + 1, 2, none⟩ = some (.int .u32 (f : Int)) := by rw [cell_of_row _ _ _ _ _ _ hgd]; rfl
  have hc3 : W1.drew.cell? ⟨w.heap.size + 1, 3, none⟩ = some (.int .u64 (e : Int)) := by rw [cell_of_row _ _ _ _ _ _ hgd]; rfl
  have hBw : W1.heap.size ≤ W1.heap.size := Nat.le_refl _
  clear hgd hg1
  refine rk_start (keepW W1.heap.size) (by kernel_rfl) ?_
  refine rk_take 2 rfl (by kernel_rfl) (by kernel_rfl) (by kernel_rfl) (fun _ _ _ _ h => h) (by rfl) ⟨_, fun w' hx => by (go_simp <;> with_reducible rfl), ?_⟩   -- t18 := fieldAddr 27 t3 0
  simp only [Act.put, List.setIfInBounds_toArray, List.set_cons_zero, List.set_cons_succ]
  refine rk_take 3 rfl (by kernel_rfl) (by kernel_rfl) (by kernel_rfl) (fun _ _ _ _ h => h) (by rfl) ⟨_, fun w' hx => by have hcx := Keep.cell hx hc0; (go_simp <;> with_reducible rfl), ?_⟩
  simp only [Act.put, List.setIfInBounds_toArray, List.set_cons_zero, List.set_cons_succ]
  refine rk_take 5 rfl (by kernel_rfl) (by kernel_rfl) (by kernel_rfl) (fun _ _ _ _ h => h) (by rfl) ⟨_, fun w' hx => by (go_simp <;> with_reducible rfl), ?_⟩   -- t21 := fieldAddr 27 t3 1
  simp only [Act.put, List.setIfInBounds_toArray, List.set_cons_zero, List.set_cons_succ]
  refine rk_take 6 rfl (by kernel_rfl) (by kernel_rfl) (by kernel_rfl) (fun _ _ _ _ h => h) (by rfl) ⟨_, fun w' hx => by have hcx := Keep.cell hx hc1; (go_simp <;> with_reducible rfl), ?_⟩
  simp only [Act.put, List.setIfInBounds_toArray, List.set_cons_zero, List.set_cons_succ]
  refine rk_take 8 rfl (by kernel_rfl) (by kernel_rfl) (by kernel_rfl) (fun _ _ _ _ h => h) (by rfl) ⟨_, fun w' hx => by (go_simp <;> with_reducible rfl), ?_⟩   -- t24 := fieldAddr 27 t3 2
  simp only [Act.put, List.setIfInBounds_toArray, List.set_cons_zero, List.set_cons_succ]
  refine rk_take 9 rfl (by kernel_rfl) (by kernel_rfl) (by kernel_rfl) (fun _ _ _ _ h => h) (by rfl) ⟨_, fun w' hx => by have hcx := Keep.cell hx hc2; (go_simp <;> with_reducible rfl), ?_⟩
  simp only [Act.put, List.setIfInBounds_toArray, List.set_cons_zero, List.set_cons_succ]
  refine rk_take 11 rfl (by kernel_rfl) (by kernel_rfl) (by kernel_rfl) (fun _ _ _ _ h => h) (by rfl) ⟨_, fun w' hx => by (go_simp <;> with_reducible rfl), ?_⟩   -- t27 := fieldAddr 27 t3 3
  simp only [Act.put, List.setIfInBounds_toArray, List.set_cons_zero, List.set_cons_succ]
  refine rk_take 12 rfl (by kernel_rfl) (by kernel_rfl) (by kernel_rfl) (fun _ _ _ _ h => h) (by rfl) ⟨_, fun w' hx => by have hcx := Keep.cell hx hc3; (go_simp <;> with_reducible rfl), ?_⟩
  simp only [Act.put, List.setIfInBounds_toArray, List.set_cons_zero, List.set_cons_succ]
  -- BRANCH: 0: t16 := buildSlice 25 5 [(0, 83:u8), (1, 67:u8), (2, 79:u8), (3, 87:u8), (4, 49:u8)] | 4: t20 := scow/node.fixed#41(t19)
  refine rk_par [(0, 16), (1, 17), (4, 20), (7, 23), (10, 26), (13, 29)] (fun i u W => (i = 0 → IsLit W1.heap.size 5 (Nd.magic) u W) ∧ (i = 1 → IsB (Nd.magic) u W) ∧ (i = 4 → IsB (Vint.fixed r 4) u W) ∧ (i = 7 → IsB (Vint.fixed p 4) u W) ∧ (i = 10 → IsB (Vint.fixed f 4) u W) ∧ (i = 13 → IsB (Vint.fixed e 8) u W)) 6 (by kernel_rfl) ?_ ?_ ?_
  · rintro i u W W' ⟨a0, a1, a4, a7, a10, a13⟩ hx
    exact ⟨fun e => IsLit.stK _ _ _ (a0 e) hx, fun e => IsB.stK _ _ _ _ (a1 e) hx, fun e => IsB.stK _ _ _ _ (a4 e) hx, fun e => IsB.stK _ _ _ _ (a7 e) hx, fun e => IsB.stK _ _ _ _ (a10 e) hx, fun e => IsB.stK _ _ _ _ (a13 e) hx⟩
  · intro pq hp oi ho fv W hx hd
    simp only [List.mem_cons, List.not_mem_nil, or_false] at hp
    have hx1 : Keep W1.heap.size W1 W := Keep.tr (Keep.ext (Ext.drew W1) hBw) hx
    rcases hp with rfl | rfl | rfl | rfl | rfl | rfl
    all_goals
      simp only at ho
      have ho' := ho
      simp only [List.getElem?_toArray, List.getElem?_cons_succ, List.getElem?_cons_zero] at ho'
      injection ho' with ho'
      subst ho'
      clear ho
      refine ⟨by rfl, ?_⟩
      simp only [fillS, List.foldl_cons, List.foldl_nil, Act.put, List.setIfInBounds_toArray, List.set_cons_zero, List.set_cons_succ]
    · exact yldk_make ⟨_, _, by (go_simp <;> first | exact ⟨rfl, rfl⟩ | rfl), Keep.ext (Ext.alloc _ _) (Nat.le_trans hBw hx1.below.size), ⟨fun _ => ⟨_, (0, 0), rfl, Nat.le_trans hBw hx1.below.size, heap_alloc_new W _⟩, by simp, by simp, by simp, by simp, by simp⟩⟩
    · obtain ⟨g, fr, e1, e2, e3⟩ := ((hd (0, 16) (by simp) (by kernel_rfl)).1 rfl)
      have hib : IsB (Nd.magic) (fv 0) W := IsLit.isB ⟨g, fr, e1, e2, e3⟩
      simp only at e1
      rw [e1] at hib
      simp only [e1]
      obtain ⟨w', hr, hk⟩ := run_convMark (P := Tryz.prog) Tryz.underlying25 Tryz.underlying5 W1.heap.size W g _ _ _ fr e3 e2
      exact yldk_make ⟨_, w', ex_convK rfl rfl hr, hk, ⟨by simp, fun _ => IsB.stK _ _ _ _ hib hk, by simp, by simp, by simp, by simp⟩⟩
    · refine yldk_call (by go_simp) (fixed4_any r _ hr4) ?_
      rintro e2 w2 ⟨A2, c2, rfl, ho2, hb2⟩
      exact ⟨_, rfl, Keep.ext hb2 (Nat.le_trans hBw hx1.below.size), ⟨by simp, by simp, fun _ => ⟨_, _, rfl, ho2.rd', ho2.nc⟩, by simp, by simp, by simp⟩⟩
    · refine yldk_call (by go_simp) (fixed4_any p _ hp4) ?_
      rintro e2 w2 ⟨A2, c2, rfl, ho2, hb2⟩
      exact ⟨_, rfl, Keep.ext hb2 (Nat.le_trans hBw hx1.below.size), ⟨by simp, by simp, by simp, fun _ => ⟨_, _, rfl, ho2.rd', ho2.nc⟩, by simp, by simp⟩⟩
    · refine yldk_call (by go_simp) (fixed4_any f _ hf4) ?_
      rintro e2 w2 ⟨A2, c2, rfl, ho2, hb2⟩
      exact ⟨_, rfl, Keep.ext hb2 (Nat.le_trans hBw hx1.below.size), ⟨by simp, by simp, by simp, by simp, fun _ => ⟨_, _, rfl, ho2.rd', ho2.nc⟩, by simp⟩⟩
    · refine yldk_call (by go_simp) (fixed_any e 8 _) ?_
      rintro e2 w2 ⟨A2, c2, rfl, ho2, hb2⟩
      exact ⟨_, rfl, Keep.ext hb2 (Nat.le_trans hBw hx1.below.size), ⟨by simp, by simp, by simp, by simp, by simp, fun _ => ⟨_, _, rfl, ho2.rd', ho2.nc⟩⟩⟩
  intro fv W hx hd
  obtain ⟨g0, fr0, d0, q0, r0⟩ := (hd (0, 16) (by simp)).1 rfl
  obtain ⟨A1, c1, d1, r1, n1⟩ := (hd (1, 17) (by simp)).2.1 rfl
  obtain ⟨A4, c4, d4, r4, n4⟩ := (hd (4, 20) (by simp)).2.2.1 rfl
  obtain ⟨A7, c7, d7, r7, n7⟩ := (hd (7, 23) (by simp)).2.2.2.1 rfl
  obtain ⟨A10, c10, d10, r10, n10⟩ := (hd (10, 26) (by simp)).2.2.2.2.1 rfl
  obtain ⟨A13, c13, d13, r13, n13⟩ := (hd (13, 29) (by simp)).2.2.2.2.2 rfl
  simp only at d0 d1 d4 d7 d10 d13
  simp only [fillS, List.foldl_cons, List.foldl_nil, Act.put, List.setIfInBounds_toArray, List.set_cons_zero, List.set_cons_succ, d0, d1, d4, d7, d10, d13]
  have hxK : Keep W1.heap.size W1 W := Keep.tr (Keep.ext (Ext.drew W1) hBw) hx
  clear hd hx d0 d1 d4 d7 d10 d13
  have hl5 : ∀ s ∈ [(⟨A1, Nd.magic, c1⟩ : Sl), ⟨A4, Vint.fixed r 4, c4⟩, ⟨A7, Vint.fixed p 4, c7⟩, ⟨A10, Vint.fixed f 4, c10⟩, ⟨A13, Vint.fixed e 8, c13⟩], RdB W s.a s.bs := fun s hs => by
    simp only [List.mem_cons, List.not_mem_nil, or_false] at hs
    rcases hs with rfl | rfl | rfl | rfl | rfl
    · exact r1
    · exact r4
    · exact r7
    · exact r10
    · exact r13
  have hcat : cat [(⟨A1, Nd.magic, c1⟩ : Sl), ⟨A4, Vint.fixed r 4, c4⟩, ⟨A7, Vint.fixed p 4, c7⟩, ⟨A10, Vint.fixed f 4, c10⟩, ⟨A13, Vint.fixed e 8, c13⟩] = Nd.lay1 ⟨r, p, f, e⟩ := by simp [cat, Nd.lay1]
  refine rk_make 14 rfl (by kernel_rfl) (by rfl) ⟨.slice (some ⟨W.heap.size, 0, none⟩) 5 5, W.alloc (.cells (List.map Sl.val [(⟨A1, Nd.magic, c1⟩ : Sl), ⟨A4, Vint.fixed r 4, c4⟩, ⟨A7, Vint.fixed p 4, c7⟩, ⟨A10, Vint.fixed f 4, c10⟩, ⟨A13, Vint.fixed e 8, c13⟩]).toArray 25), by (go_simp <;> first | exact ⟨rfl, rfl⟩ | rfl), Keep.ext (Ext.alloc _ _) hxK.below.size, ?_⟩
  simp only [Act.put, List.setIfInBounds_toArray, List.set_cons_zero, List.set_cons_succ]
  refine rk_call 15 (laid_any (some ⟨W.heap.size, 0, none⟩) [(⟨A1, Nd.magic, c1⟩ : Sl), ⟨A4, Vint.fixed r 4, c4⟩, ⟨A7, Vint.fixed p 4, c7⟩, ⟨A10, Vint.fixed f 4, c10⟩, ⟨A13, Vint.fixed e 8, c13⟩] 5 _ (RdL.new W 25 _ hl5) (by simp) (by rw [hcat, Nd.lay1_len]; omega)) rfl (by kernel_rfl) (by rfl) (by go_simp <;> first | rfl | exact ⟨rfl, rfl⟩) ?_
  rintro e3 w4 ⟨A', rfl, ho3, hb3⟩
  rw [hcat] at ho3
  refine ⟨_, rfl, Keep.ext hb3 (hxK.tr (Keep.ext (Ext.alloc _ _) hxK.below.size)).below.size, ?_⟩
  simp only [Act.put, List.setIfInBounds_toArray, List.set_cons_zero, List.set_cons_succ]
  refine rk_take 16 rfl (by kernel_rfl) (by kernel_rfl) (by kernel_rfl) (fun _ _ _ _ h => h) (by rfl) ⟨_, fun w' hx => by (go_simp <;> with_reducible rfl), ?_⟩
  simp only [Act.put, List.setIfInBounds_toArray, List.set_cons_zero, List.set_cons_succ]
  refine rk_done (by kernel_rfl) ?_
  go_wp2_with fail
  go_ret
  have hxW : Ext w W := Below.trans hx1 (hxK.below.mono hx1.size)
  exact ⟨A', rfl, ho3.mono (hxW.tr (Ext.alloc _ _)).size, hxW.tr ((Ext.alloc _ _).tr hb3)⟩


set_option maxRecDepth 100000 in
set_option maxHeartbeats 2000000 in
theorem body_4 (lsn : Nat) (ca : Option Addr) (cl : List CellV) (cc next : Nat) (da : Option Addr) (data : List UInt8) (dc r p f e : Nat) (w : World) (hnx : next < 4294967296) (hda : RdB w da data) (hdl : data.length ≤ 238) :
    Calls Tryz.prog 16 #[.agg #[.int .i64 4, .int .u64 (lsn : Int), .slice ca cl.length cc, .int .u32 (next : Int), .slice da data.length dc, .int .u32 (r : Int), .int .u32 (p : Int), .int .u32 (f : Int), .int .u64 (e : Int)]] w fun e' w' => ∃ A', e' = .returned (.slice A' 243 243) ∧ Own w' w.heap.size 5 1 A' 243 243 (bvs (ndFill (Nd.lay4 next data))) ∧ Ext w w' := by
  have hx0 := Ext.alloc w (.cells #[.int .i64 4, .int .u64 (lsn : Int), .slice ca cl.length cc, .int .u32 (next : Int), .slice da data.length dc, .int .u32 (r : Int), .int .u32 (p : Int), .int .u32 (f : Int), .int .u64 (e : Int)] 29)
  have hg0 := heap_alloc_new w (.cells #[.int .i64 4, .int .u64 (lsn : Int), .slice ca cl.length cc, .int .u32 (next : Int), .slice da data.length dc, .int .u32 (r : Int), .int .u32 (p : Int), .int .u32 (f : Int), .int .u64 (e : Int)] 29)
  have hbase : w.heap.size ≤ (w.alloc (.cells #[.int .i64 4, .int .u64 (lsn : Int), .slice ca cl.length cc, .int .u32 (next : Int), .slice da data.length dc, .int .u32 (r : Int), .int .u32 (p : Int), .int .u32 (f : Int), .int .u64 (e : Int)] 29)).heap.size := hx0.size
  have hx1 := hx0
  have hwl : IntKind.u8.wrap (data.length : Int) = ((u8 data.length).toNat : Int) := by rw [u8_nat (by omega)]; simp [IntKind.wrap, IntKind.bits, IntKind.signed]; omega
  have Hnx := Lib.hid hnx
  have Hdl := Lib.hid hdl
  clear hnx hdl
  go_enter Tryz.func16, Tryz.ntmps16
  go_wp2_with fail
  obtain ⟨W1, hW1⟩ : ∃ W1, W1 = w.alloc (.cells #[.int .i64 4, .int .u64 (lsn : Int), .slice ca cl.length cc, .int .u32 (next : Int), .slice da data.length dc, .int .u32 (r : Int), .int .u32 (p : Int), .int .u32 (f : Int), .int .u64 (e : Int)] 29) := ⟨_, rfl⟩
  rw [← hW1] at hg0 hx1 ⊢
  clear hW1 hx0 hbase
  have hgd := ((Ext.drew W1).block _ (lt_of_heap hg0)).trans hg0
  have hc3 : W1.drew.cell? ⟨w.heap.size, 3, none⟩ = some (.int .u32 (next : Int)) := by rw [cell_of_row _ _ _ _ _ _ hgd]; rfl
  have hc4 : W1.drew.cell? ⟨w.heap.size, 4, none⟩ = some (.slice da data.length dc) := by rw [cell_of_row _ _ _ _ _ _ hgd]; rfl
  have hda1 := hda.below hx1
  have hBw : W1.heap.size ≤ W1.heap.size := Nat.le_refl _
  clear hgd hg0
  refine rk_start (keepW W1.heap.size) (by kernel_rfl) ?_
  refine rk_take 0 rfl (by kernel_rfl) (by kernel_rfl) (by kernel_rfl) (fun _ _ _ _ h => h) (by rfl) ⟨_, fun w' hx => by (go_simp <;> with_reducible rfl), ?_⟩   -- t34 := fieldAddr 29 t1 3
  simp only [Act.put, List.setIfInBounds_toArray, List.set_cons_zero, List.set_cons_succ]
  refine rk_take 1 rfl (by kernel_rfl) (by kernel_rfl) (by kernel_rfl) (fun _ _ _ _ h => h) (by rfl) ⟨_, fun w' hx => by have hcx := Keep.cell hx hc3; (go_simp <;> with_reducible rfl), ?_⟩
  simp only [Act.put, List.setIfInBounds_toArray, List.set_cons_zero, List.set_cons_succ]
  refine rk_take 3 rfl (by kernel_rfl) (by kernel_rfl) (by kernel_rfl) (fun _ _ _ _ h => h) (by rfl) ⟨_, fun w' hx => by (go_simp <;> with_reducible rfl), ?_⟩   -- t37 := fieldAddr 29 t1 4
  simp only [Act.put, List.setIfInBounds_toArray, List.set_cons_zero, List.set_cons_succ]
  refine rk_take 4 rfl (by kernel_rfl) (by kernel_rfl) (by kernel_rfl) (fun _ _ _ _ h => h) (by rfl) ⟨_, fun w' hx => by have hcx := Keep.cell hx hc4; (go_simp <;> with_reducible rfl), ?_⟩
  simp only [Act.put, List.setIfInBounds_toArray, List.set_cons_zero, List.set_cons_succ]
  refine rk_take 5 rfl (by kernel_rfl) (by kernel_rfl) (by kernel_rfl) (fun _ _ _ _ h => h) (by rfl) ⟨_, fun w' hx => by (go_simp <;> with_reducible rfl), ?_⟩   -- t39 := len(t38)
  simp only [Act.put, List.setIfInBounds_toArray, List.set_cons_zero, List.set_cons_succ]
  refine rk_take 6 rfl (by kernel_rfl) (by kernel_rfl) (by kernel_rfl) (fun _ _ _ _ h => h) (by rfl) ⟨_, fun w' hx => by (go_simp <;> with_reducible rfl), ?_⟩
  simp only [Act.put, List.setIfInBounds_toArray, List.set_cons_zero, List.set_cons_succ]
  refine rk_take 8 rfl (by kernel_rfl) (by kernel_rfl) (by kernel_rfl) (fun _ _ _ _ h => h) (by rfl) ⟨_, fun w' hx => by (go_simp <;> with_reducible rfl), ?_⟩   -- t42 := fieldAddr 29 t1 4
  simp only [Act.put, List.setIfInBounds_toArray, List.set_cons_zero, List.set_cons_succ]
  refine rk_take 9 rfl (by kernel_rfl) (by kernel_rfl) (by kernel_rfl) (fun _ _ _ _ h => h) (by rfl) ⟨_, fun w' hx => by have hcx := Keep.cell hx hc4; (go_simp <;> with_reducible rfl), ?_⟩
  simp only [Act.put, List.setIfInBounds_toArray, List.set_cons_zero, List.set_cons_succ]
  -- BRANCH: 2: t36 := scow/node.fixed#41(t35) | 7: t41 := buildSlice 25 1 [(0, t40)]
  refine rk_par [(2, 36), (7, 41)] (fun i u W => (i = 2 → IsB (Vint.fixed next 4) u W) ∧ (i = 7 → IsLit W1.heap.size 5 ([u8 data.length]) u W)) 2 (by kernel_rfl) ?_ ?_ ?_
  · rintro i u W W' ⟨a2, a7⟩ hx
    exact ⟨fun e => IsB.stK _ _ _ _ (a2 e) hx, fun e => IsLit.stK _ _ _ (a7 e) hx⟩
  · intro pq hp oi ho fv W hx hd
    simp only [List.mem_cons, List.not_mem_nil, or_false] at hp
    have hx1 : Keep W1.heap.size W1 W := Keep.tr (Keep.ext (Ext.drew W1) hBw) hx
    rcases hp with rfl | rfl
    all_goals
      simp only at ho
      have ho' := ho
      simp only [List.getElem?_toArray, List.getElem?_cons_succ, List.getElem?_cons_zero] at ho'
      injection ho' with ho'
      subst ho'
      clear ho
      refine ⟨by rfl, ?_⟩
      simp only [fillS, List.foldl_cons, List.foldl_nil, Act.put, List.setIfInBounds_toArray, List.set_cons_zero, List.set_cons_succ]
    · refine yldk_call (by go_simp) (fixed4_any next _ Hnx.out) ?_
      rintro e2 w2 ⟨A9, c9, rfl, ho2, hb2⟩
      exact ⟨_, rfl, Keep.ext hb2 (Nat.le_trans hBw hx1.below.size), ⟨fun _ => ⟨_, _, rfl, ho2.rd', ho2.nc⟩, by simp⟩⟩
    · exact yldk_make ⟨_, _, by (go_simp <;> first | exact ⟨rfl, rfl⟩ | rfl), Keep.ext (Ext.alloc _ _) (Nat.le_trans hBw hx1.below.size), ⟨by simp, fun _ => ⟨_, (0, 0), rfl, Nat.le_trans hBw hx1.below.size, heap_alloc_new W _⟩⟩⟩
  intro fv W hx hd
  obtain ⟨A2, c2, d2, r2, n2⟩ := (hd (2, 36) (by simp)).1 rfl
  obtain ⟨g7, fr7, d7, q7, r7⟩ := (hd (7, 41) (by simp)).2 rfl
  simp only at d2 d7
  simp only [fillS, List.foldl_cons, List.foldl_nil, Act.put, List.setIfInBounds_toArray, List.set_cons_zero, List.set_cons_succ, d2, d7]
  have hxK : Keep W1.heap.size W1 W := Keep.tr (Keep.ext (Ext.drew W1) hBw) hx
  clear hd hx d2 d7
  have hl3 : ∀ s ∈ [(⟨A2, Vint.fixed next 4, c2⟩ : Sl), ⟨some ⟨g7, 0, none⟩, [u8 data.length], 1⟩, ⟨da, data, dc⟩], RdB W s.a s.bs := fun s hs => by
    simp only [List.mem_cons, List.not_mem_nil, or_false] at hs
    rcases hs with rfl | rfl | rfl
    · exact r2
    · exact (IsLit.isB ⟨g7, fr7, rfl, q7, r7⟩ : IsB [u8 data.length] _ W).rd
    · exact hda1.below hxK.below
  have hcat : cat [(⟨A2, Vint.fixed next 4, c2⟩ : Sl), ⟨some ⟨g7, 0, none⟩, [u8 data.length], 1⟩, ⟨da, data, dc⟩] = Nd.lay4 next data := by simp [cat, Nd.lay4]
  refine rk_make 10 rfl (by kernel_rfl) (by rfl) ⟨.slice (some ⟨W.heap.size, 0, none⟩) 3 3, W.alloc (.cells (List.map Sl.val [(⟨A2, Vint.fixed next 4, c2⟩ : Sl), ⟨some ⟨g7, 0, none⟩, [u8 data.length], 1⟩, ⟨da, data, dc⟩]).toArray 25), by (go_simp <;> first | exact ⟨rfl, rfl⟩ | rfl), Keep.ext (Ext.alloc _ _) hxK.below.size, ?_⟩
  simp only [Act.put, List.setIfInBounds_toArray, List.set_cons_zero, List.set_cons_succ]
  refine rk_call 11 (laid_any (some ⟨W.heap.size, 0, none⟩) [(⟨A2, Vint.fixed next 4, c2⟩ : Sl), ⟨some ⟨g7, 0, none⟩, [u8 data.length], 1⟩, ⟨da, data, dc⟩] 3 _ (RdL.new W 25 _ hl3) (by simp) (by rw [hcat, Nd.lay4_len]; have := Hdl.out; omega)) rfl (by kernel_rfl) (by rfl) (by go_simp <;> first | rfl | exact ⟨rfl, rfl⟩) ?_
  rintro e3 w4 ⟨A', rfl, ho3, hb3⟩
  rw [hcat] at ho3
  refine ⟨_, rfl, Keep.ext hb3 (hxK.tr (Keep.ext (Ext.alloc _ _) hxK.below.size)).below.size, ?_⟩
  simp only [Act.put, List.setIfInBounds_toArray, List.set_cons_zero, List.set_cons_succ]
  refine rk_take 12 rfl (by kernel_rfl) (by kernel_rfl) (by kernel_rfl) (fun _ _ _ _ h => h) (by rfl) ⟨_, fun w' hx => by (go_simp <;> with_reducible rfl), ?_⟩
  simp only [Act.put, List.setIfInBounds_toArray, List.set_cons_zero, List.set_cons_succ]
  refine rk_done (by kernel_rfl) ?_
  have hxW : Ext w W := Below.trans hx1 (hxK.below.mono hx1.size)
  go_wp2_with fail
  go_ret
  exact ⟨A', rfl, ho3.mono (hxW.tr (Ext.alloc _ _)).size, hxW.tr ((Ext.alloc _ _).tr hb3)⟩


set_option maxRecDepth 100000 in
set_option maxHeartbeats 2000000 in
theorem body_5 (lsn : Nat) (ca : Option Addr) (cl : List CellV) (cc next : Nat) (da : Option Addr) (data : List UInt8) (dc r p f e : Nat) (w : World) (hnx : next < 4294967296) :
    Calls Tryz.prog 16 #[.agg #[.int .i64 5, .int .u64 (lsn : Int), .slice ca cl.length cc, .int .u32 (next : Int), .slice da data.length dc, .int .u32 (r : Int), .int .u32 (p : Int), .int .u32 (f : Int), .int .u64 (e : Int)]] w fun e' w' => ∃ A', e' = .returned (.slice A' 243 243) ∧ Own w' w.heap.size 5 1 A' 243 243 (bvs (ndFill (Vint.fixed next 4))) ∧ Ext w w' := by
  have hx0 := Ext.alloc w (.cells #[.int .i64 5, .int .u64 (lsn : Int), .slice ca cl.length cc, .int .u32 (next : Int), .slice da data.length dc, .int .u32 (r : Int), .int .u32 (p : Int), .int .u32 (f : Int), .int .u64 (e : Int)] 29)
  have hg0 := heap_alloc_new w (.cells #[.int .i64 5, .int .u64 (lsn : Int), .slice ca cl.length cc, .int .u32 (next : Int), .slice da data.length dc, .int .u32 (r : Int), .int .u32 (p : Int), .int .u32 (f : Int), .int .u64 (e : Int)] 29)
  have hbase : w.heap.size ≤ (w.alloc (.cells #[.int .i64 5, .int .u64 (lsn : Int), .slice ca cl.length cc, .int .u32 (next : Int), .slice da data.length dc, .int .u32 (r : Int), .int .u32 (p : Int), .int .u32 (f : Int), .int .u64 (e : Int)] 29)).heap.size := hx0.size
  have hf4 := fun W => fixed4_any next W hnx
  have Hx0 := Lib.hid hx0
  clear hnx hx0
  go_enter Tryz.func16, Tryz.ntmps16
  go_wp2_with (first | (go_at_call 41; refine (hf4 _).mono ?_; rintro e1 w1 ⟨A1, c1, rfl, ho1, hb1⟩; have Hr1 := Lib.hid ho1.rd'; have Hb1 := Lib.hid (Hx0.out.tr hb1); clear ho1 hb1) | (go_at_call 40; refine (laid_any (some ⟨w1.heap.size, 0, none⟩) [⟨A1, Vint.fixed next 4, c1⟩] 1 _ (RdL.one w1 25 A1 _ c1 Hr1.out) (by simp) (by rw [cat_one, fx4_len]; omega)).mono ?_; rintro e2 w2 ⟨A2, rfl, ho2, hb2⟩; have Ho2 := Lib.hid ho2; have Hb2 := Lib.hid hb2; clear ho2 hb2))
  go_ret
  have h5 := Ho2.out
  rw [cat_one] at h5
  exact ⟨A2, rfl, h5.mono (Hb1.out.tr (Ext.alloc _ _)).size, Hb1.out.tr ((Ext.alloc _ _).tr Hb2.out)⟩
end Go.Proofs.YtkpagmfaccmiaaaGreat

/- Contracts: body, Put (layer 08). Printed by wip/tools/gen_ndl08.py. -/

namespace Go.Proofs.YtkpagmfaccmiaaaGreat

open Go.RowKit

attribute [local go_sem] Oper.semAt_some

theorem NdV.In.plain {w : World} {n : NdV} (h : n.In w) : n.x.In := ⟨h.lsn, fun c hc => by
  obtain ⟨v, hv, rfl⟩ := List.mem_map.1 hc
  have := h.cr.each v hv
  exact ⟨this.over, this.kid⟩, h.next, h.head⟩
theorem ninfo (n : NdV) : (Tryz.prog.info? 29).map (·.size) = some n.cells.size := by
  rw [show n.cells.size = 9 from rfl]; kernel_rfl
theorem none1 (n : NdV) : n.cells.all (·.oneCell') = true := by simp [NdV.cells, Value.oneCell']
theorem row_cell {w : World} {g : Nat} {n : NdV} (h : w.heap[g]? = some (.cells n.cells 29 (0, 0))) (j : Nat) : w.cell? ⟨g, j, none⟩ = n.cells[j]? := cell_of_row w g j _ _ _ h
theorem body_any (n : NdV) (w : World) (hn : n.In w) (hk : 1 ≤ n.kind ∧ n.kind ≤ 5) (hd : n.kind = 4 → n.data.length ≤ 238) :
    Calls Tryz.prog 16 #[.agg n.cells] w fun e' w' => ∃ bs A', n.x.Body bs ∧ bs.length = 243 ∧ e' = .returned (.slice A' 243 243) ∧ Own w' w.heap.size 5 1 A' 243 243 (bvs bs) ∧ Ext w w' := by
  have len : ∀ {W B A} {bs : List UInt8}, Own W B 5 1 A 243 243 (bvs bs) → bs.length = 243 := fun h => by have := h.len; rwa [bvs_len] at this
  obtain ⟨k, lsn, ca, cl, cc, next, da, data, dc, ⟨r, p, f, e⟩⟩ := n
  by_cases k1 : k = 1
  · subst k1
    refine (body_1 lsn ca cl cc next da data dc r p f e w hn.head).mono ?_
    rintro _ w' ⟨A', rfl, ho, hx⟩
    exact ⟨_, A', by unfold Nd.Body; rw [if_neg (by simp [NdV.x, Nd.hasC])]; rfl, len ho, rfl, ho, hx⟩
  by_cases k4 : k = 4
  · subst k4
    refine (body_4 lsn ca cl cc next da data dc r p f e w hn.next hn.dr (hd rfl)).mono ?_
    rintro _ w' ⟨A', rfl, ho, hx⟩
    exact ⟨_, A', by unfold Nd.Body; rw [if_neg (by simp [NdV.x, Nd.hasC])]; rfl, len ho, rfl, ho, hx⟩
  by_cases k5 : k = 5
  · subst k5
    refine (body_5 lsn ca cl cc next da data dc r p f e w hn.next).mono ?_
    rintro _ w' ⟨A', rfl, ho, hx⟩
    exact ⟨_, A', by unfold Nd.Body; rw [if_neg (by simp [NdV.x, Nd.hasC])]; rfl, len ho, rfl, ho, hx⟩
  by_cases k3 : k = 3
  · subst k3
    refine (body_3 lsn ca cl cc next da data dc r p f e w hn.cr hn.clen).mono ?_
    rintro _ w' ⟨bs, A', hb, rfl, ho, hx⟩
    exact ⟨_, A', by unfold Nd.Body; rw [if_pos (by simp [NdV.x, Nd.hasC])]; exact hb, len ho, rfl, ho, hx⟩
  by_cases k2 : k = 2
  · subst k2
    refine (body_2 lsn ca cl cc next da data dc r p f e w hn.cr hn.clen).mono ?_
    rintro _ w' ⟨bs, A', hb, rfl, ho, hx⟩
    exact ⟨_, A', by unfold Nd.Body; rw [if_pos (by simp [NdV.x, Nd.hasC])]; exact hb, len ho, rfl, ho, hx⟩
  · exfalso
    simp only at hk
    omega
/-- What Put answers. -/
def Nd.PutR (n : Nd) (r : List UInt8 × Nat) : Prop :=
  (n.ok = false ∧ r = ([], 80)) ∨ (n.ok = true ∧ 241 < (Nd.used n.kind n.cells).1 ∧ r = ([], 60)) ∨ (n.ok = true ∧ (Nd.used n.kind n.cells).1 ≤ 241 ∧ ∃ bs, n.Body bs ∧ bs.length = 243 ∧ r = (n.sealed bs, 0))
def PutP (n : NdV) (w : World) (e : Ending) (w' : World) : Prop := ∃ (r : List UInt8 × Nat) (A' : Option Addr) (c' : Nat), n.x.PutR r ∧ e = .returned (.tuple #[.slice A' r.1.length c', .int .i64 (r.2 : Int)]) ∧ RdB w' A' r.1 ∧ r.1.length ≤ c' ∧ Ext w w'

set_option maxRecDepth 100000 in
set_option maxHeartbeats 1000000 in
theorem nput_any (n : NdV) (w : World) (hn : n.In w) : Calls Tryz.prog 6 #[.agg n.cells] w (PutP n w) := by
  have hx0 := Ext.alloc w (.cells n.cells 29)
  have g0 := heap_alloc_new w (.cells n.cells 29)
  have hi := ninfo n
  have hq := isNode_any n _ (hn.ext hx0)
  have Hn := Lib.hid hn
  have Hx0 := Lib.hid hx0
  clear hn hx0
  cases hok : n.x.ok with
  | false =>
    have Hok := Lib.hid hok
    rw [hok] at hq
    clear hok
    go_enter Tryz.func6, Tryz.ntmps6
    go_wp2_with (first | (refine wpList_load_rowG (by rfl) 29 (.tmp 1) rfl w.heap.size rfl 29 n.cells (0, 0) _ g0 Tryz.underlying29 rfl hi ?_) | (go_at_call 14; refine hq.mono ?_; rintro e1 w1 ⟨rfl, hx1⟩; have Hx1 := Lib.hid hx1; clear hx1))
    go_ret2
    exact ⟨([], 80), none, 0, .inl ⟨Hok.out, rfl⟩, rfl, RdB.nil_ _ _, Nat.le_refl _, Hx0.out.tr Hx1.out⟩
  | true =>
    have Hok := Lib.hid hok
    rw [hok] at hq
    clear hok
    have hus := fun W (h : RdC W n.ca n.cl) => used_any n.kind n.ca n.cl n.cc W h Hn.out.clen
    have hnl : Nd.need n.kind (n.cl.map CellV.x) ≤ 80000000 := Nat.le_trans (need_le _ _) (by rw [List.length_map]; have := Hn.out.clen; omega)
    have hul : (Nd.used n.kind (n.cl.map CellV.x)).1 ≤ 80000000 := by
      unfold Nd.used
      split
      · exact hnl
      · exact Nat.zero_le _
    obtain ⟨u, hu⟩ : ∃ u, u = Nd.used n.kind (n.cl.map CellV.x) := ⟨_, rfl⟩
    rw [← hu] at hul
    simp only [← hu] at hus
    have Hu := Lib.hid (show u = Nd.used n.x.kind n.x.cells from hu)
    have Hus := Lib.hid hus
    obtain ⟨u1, u2⟩ := u
    simp only at hul
    clear hu hus hnl
    by_cases hbig : 241 < u1
    · have hbi : (241 : Int) < (u1 : Int) := by omega
      have Hbig := Lib.hid hbig
      clear hbig
      go_enter Tryz.func6, Tryz.ntmps6
      go_wp2_with (first | (refine wpList_load_rowG (by rfl) 29 (.tmp 1) rfl w.heap.size rfl 29 n.cells (0, 0) _ g0 Tryz.underlying29 rfl hi ?_) | (go_at_call 14; refine hq.mono ?_; rintro e1 w1 ⟨rfl, hx1⟩; have g1 := (hx1.block _ (lt_of_heap g0)).trans g0; have c0 := row_cell g1 0; have c2 := row_cell g1 2; rw [show n.cells[0]? = some (.int .i64 n.kind) from rfl] at c0; rw [show n.cells[2]? = some (.slice n.ca n.cl.length n.cc) from rfl] at c2; have Hx1 := Lib.hid hx1; have G1 := Lib.hid g1; clear hx1 g1) | (go_at_call 8; refine (Hus.out _ (Hn.out.cr.below (Hx0.out.tr Hx1.out))).mono ?_; rintro e2 w2 ⟨rfl, hx2⟩; have G2 := Lib.hid ((hx2.block _ (lt_of_heap G1.out)).trans G1.out); have Hx2 := Lib.hid hx2; clear hx2))
      go_ret2
      exact ⟨([], 60), none, 0, .inr (.inl ⟨Hok.out, by rw [← Hu.out]; exact Hbig.out, rfl⟩), rfl, RdB.nil_ _ _, Nat.le_refl _, Hx0.out.tr (Hx1.out.tr Hx2.out)⟩
    · have hbi : ¬ (241 : Int) < (u1 : Int) := by omega
      have Hbig := Lib.hid hbig
      clear hbig
      go_enter Tryz.func6, Tryz.ntmps6
      go_wp2_with (first | (refine wpList_load_rowG (by rfl) 29 (.tmp 1) rfl w.heap.size rfl 29 n.cells (0, 0) _ g0 Tryz.underlying29 rfl hi ?_) | (go_at_call 14; refine hq.mono ?_; rintro e1 w1 ⟨rfl, hx1⟩; have g1 := (hx1.block _ (lt_of_heap g0)).trans g0; have c0 := row_cell g1 0; have c2 := row_cell g1 2; rw [show n.cells[0]? = some (.int .i64 n.kind) from rfl] at c0; rw [show n.cells[2]? = some (.slice n.ca n.cl.length n.cc) from rfl] at c2; have Hx1 := Lib.hid hx1; have G1 := Lib.hid g1; clear hx1 g1) | (go_at_call 8; refine (Hus.out _ (Hn.out.cr.below (Hx0.out.tr Hx1.out))).mono ?_; rintro e2 w2 ⟨rfl, hx2⟩; have G2 := Lib.hid ((hx2.block _ (lt_of_heap G1.out)).trans G1.out); have Hx2 := Lib.hid hx2; clear hx2))
      have hx2 := Hx0.out.tr (Hx1.out.tr Hx2.out)
      have hin2 := Hn.out.ext (hx2.tr (Ext.drew w2))
      have hkk : 1 ≤ n.kind ∧ n.kind ≤ 5 := Nd.ok_kind Hok.out
      have hbd := body_any n _ hin2 hkk (fun e => Nd.ok_data Hok.out e)
      have hgd := ((Ext.drew w2).block _ (lt_of_heap G2.out)).trans G2.out
      have d0 := row_cell hgd 0
      have d1 := row_cell hgd 1
      have Hbd := Lib.hid hbd
      have Hgd := Lib.hid hgd
      rw [show n.cells[0]? = some (.int .i64 n.kind) from rfl] at d0
      rw [show n.cells[1]? = some (.int .u64 (n.lsn : Int)) from rfl] at d1
      clear hbd hgd hin2
      refine rg_start (by kernel_rfl) ?_
      refine rg_take 0 rfl (by kernel_rfl) (by kernel_rfl) (by kernel_rfl) (fun _ _ _ _ h => h) (by rfl) ⟨_, fun w' hx => by (go_simp <;> with_reducible rfl), ?_⟩   -- t19 := fieldAddr 29 t1 0
      simp only [Act.put, List.setIfInBounds_toArray, List.set_cons_zero, List.set_cons_succ]
      refine rg_take 1 rfl (by kernel_rfl) (by kernel_rfl) (by kernel_rfl) (fun _ _ _ _ h => h) (by rfl) ⟨_, fun w' hx => by have hcx := hx.load d0; (go_simp <;> with_reducible rfl), ?_⟩
      simp only [Act.put, List.setIfInBounds_toArray, List.set_cons_zero, List.set_cons_succ]
      refine rg_take 2 rfl (by kernel_rfl) (by kernel_rfl) (by kernel_rfl) (fun _ _ _ _ h => h) (by rfl) ⟨_, fun w' hx => by (go_simp <;> with_reducible rfl), ?_⟩   -- t21 := fieldAddr 29 t1 1
      simp only [Act.put, List.setIfInBounds_toArray, List.set_cons_zero, List.set_cons_succ]
      refine rg_take 3 rfl (by kernel_rfl) (by kernel_rfl) (by kernel_rfl) (fun _ _ _ _ h => h) (by rfl) ⟨_, fun w' hx => by have hcx := hx.load d1; (go_simp <;> with_reducible rfl), ?_⟩
      simp only [Act.put, List.setIfInBounds_toArray, List.set_cons_zero, List.set_cons_succ]
      refine rg_take 4 rfl (by kernel_rfl) (by kernel_rfl) (by kernel_rfl) (fun _ _ _ _ h => h) (by rfl) ⟨.agg n.cells, fun w' hx => ex_load_row 29 _ rfl w.heap.size rfl 29 _ (0, 0) _ ((hx.block _ (lt_of_heap Hgd.out)).trans Hgd.out) Tryz.underlying29 rfl hi, ?_⟩
      simp only [Act.put, List.setIfInBounds_toArray, List.set_cons_zero, List.set_cons_succ]
      refine rg_call 5 Hbd.out rfl (by kernel_rfl) (by rfl) (by go_simp) ?_
      rintro e3 w3 ⟨bs, A1, hB1, hB2, rfl, ho3, hb3⟩
      have HB := Lib.hid (And.intro hB1 hB2)
      have Hb3 := Lib.hid hb3
      have hr3 := ho3.rd'
      clear hB1 hB2 ho3 hb3
      refine ⟨_, rfl, Hb3.out, ?_⟩
      simp only [Act.put, List.setIfInBounds_toArray, List.set_cons_zero, List.set_cons_succ]
      refine rg_take 6 rfl (by kernel_rfl) (by kernel_rfl) (by kernel_rfl) (fun _ _ _ _ h => h) (by rfl) ⟨_, fun w' hx => by (go_simp <;> with_reducible rfl), ?_⟩   -- t25 := build 53 [(0, t20), (1, t22), (2, t24)]
      simp only [Act.put, List.setIfInBounds_toArray, List.set_cons_zero, List.set_cons_succ]
      have hse := seal_any ⟨n.kind, n.lsn, A1, bs, 243⟩ w3 Hn.out.lsn hr3 (by simp only; have := HB.out.2; omega)
      rw [show (⟨n.kind, n.lsn, A1, bs, 243⟩ : Pg).val = .agg #[.int .i64 n.kind, .int .u64 (n.lsn : Int), .slice A1 243 243] by rw [Pg.val, HB.out.2]] at hse
      refine rg_call 7 hse rfl (by kernel_rfl) (by rfl) (by go_simp) ?_
      rintro e4 w4 ⟨A4, c4, rfl, ho4, hb4⟩
      have Ho4 := Lib.hid ho4
      have Hb4 := Lib.hid hb4
      clear ho4 hb4 hse
      refine ⟨_, rfl, Hb4.out, ?_⟩
      simp only [Act.put, List.setIfInBounds_toArray, List.set_cons_zero, List.set_cons_succ]
      refine rg_take 8 rfl (by kernel_rfl) (by kernel_rfl) (by kernel_rfl) (fun _ _ _ _ h => h) (by rfl) ⟨_, fun w' hx => by (go_simp <;> with_reducible rfl), ?_⟩
      simp only [Act.put, List.setIfInBounds_toArray, List.set_cons_zero, List.set_cons_succ]
      refine rg_take 9 rfl (by kernel_rfl) (by kernel_rfl) (by kernel_rfl) (fun _ _ _ _ h => h) (by rfl) ⟨_, fun w' hx => by (go_simp <;> with_reducible rfl), ?_⟩
      simp only [Act.put, List.setIfInBounds_toArray, List.set_cons_zero, List.set_cons_succ]
      refine rg_take 10 rfl (by kernel_rfl) (by kernel_rfl) (by kernel_rfl) (fun _ _ _ _ h => h) (by rfl) ⟨_, fun w' hx => by (go_simp <;> with_reducible rfl), ?_⟩
      simp only [Act.put, List.setIfInBounds_toArray, List.set_cons_zero, List.set_cons_succ]
      refine rg_take 11 rfl (by kernel_rfl) (by kernel_rfl) (by kernel_rfl) (fun _ _ _ _ h => h) (by rfl) ⟨_, fun w' hx => by (go_simp <;> with_reducible rfl), ?_⟩
      simp only [Act.put, List.setIfInBounds_toArray, List.set_cons_zero, List.set_cons_succ]
      refine rg_done (by kernel_rfl) ?_
      have hg : (⟨n.kind, n.lsn, A1, bs, 243⟩ : Pg).seal_ = (n.x.sealed bs, 0) := by
        unfold Pg.seal_ Pg.good
        rw [if_pos (by simp [isKind, hkk, HB.out.2])]
        rfl
      have Hg := Lib.hid hg
      clear hg
      go_wp2_with fail
      go_ret2
      have h4 := Ho4.out
      have hR : n.x.PutR (n.x.sealed bs, 0) := .inr (.inr ⟨Hok.out, by rw [← Hu.out]; have := Hbig.out; simp only; omega, bs, HB.out.1, HB.out.2, rfl⟩)
      rw [← Hg.out] at hR
      exact ⟨_, A4, c4, hR, rfl, h4.rd', h4.nc, (hx2.tr (Ext.drew w2)).tr (Hb3.out.tr Hb4.out)⟩
end Go.Proofs.YtkpagmfaccmiaaaGreat

/- Contracts: number4, cells (layer 08). -/

namespace Go.Proofs.YtkpagmfaccmiaaaGreat

open Go.RowKit

attribute [local go_sem] Oper.semAt_some

attribute [local go_sem] coder_get

set_option maxRecDepth 100000 in
theorem number4_any (g o at_ : Nat) (d : List UInt8) (w : World) (hA : RdB w (some ⟨g, o, none⟩) d) (hl : d.length = 243) (hat : at_ ≤ 200) :
    Calls Tryz.prog 63 #[.slice (some ⟨g, o, none⟩) 243 243, .int .i64 (at_ : Int)] w fun e w' => e = .returned (.int .u32 (Nd.num4 d at_ : Int)) ∧ w = w' := by
  have w4 : IntKind.i64.wrap ((at_ : Int) + 4) = (at_ : Int) + 4 := by rw [IntKind.wrap_i64]; omega
  have hb1 : (0 : Int) ≤ (at_ : Int) := by omega
  have hb2 : (at_ : Int) ≤ (at_ : Int) + 4 := by omega
  have hb3 : (at_ : Int) + 4 ≤ 243 := by omega
  have hne : ¬ (243 : Nat) = at_ := by omega
  have hlen : ((d.drop at_).take 4).length = 4 := by rw [List.length_take, List.length_drop]; omega
  have hr := hA.cut (k := at_) (m := at_ + 4) (by omega) (by omega) (c := 243) (by omega)
  rw [if_neg hne, List.drop_take, show at_ + 4 - at_ = 4 by omega] at hr
  obtain ⟨x, hx⟩ : ∃ x, x = (d.drop at_).take 4 := ⟨_, rfl⟩
  rw [← hx] at hr hlen
  simp only [Option.map_some, Addr.add_lit] at hr
  have hnum := number_any (some ⟨g, o + at_, none⟩) x (243 - at_) w hr (by omega)
  rw [hlen] at hnum
  have hn4 := Cl.num_lt4 x hlen
  have hu : IntKind.u32.wrap (Vint.number x : Int) = (Vint.number x : Int) := by simp [IntKind.wrap, IntKind.bits, IntKind.signed]; omega
  have Hx := Lib.hid hx
  have hk4 : at_ + 4 - at_ = 4 := by omega
  have Hnum := Lib.hid hnum
  clear hr hx hA hnum hlen
  go_enter Tryz.func63, Tryz.ntmps63
  go_wp2_with (go_at_call 62; refine Hnum.out.mono ?_; rintro e1 w1 ⟨rfl, rfl⟩)
  go_ret
  exact ⟨by unfold Nd.num4; rw [← Hx.out]; rfl, rfl⟩

def CellsP (K : Int) (d : List UInt8) (w : World) (e : Ending) (w' : World) : Prop :=
  (∃ (A' : Option Addr) (c' : Nat) (l : List CellV), Valid d ∧ (slOf d).l.map (fun c => Cl.get K c.p) = l.map (fun c => (c.x, 0)) ∧ e = .returned (.tuple #[.slice A' l.length c', .bool true]) ∧ Own w' w.heap.size 43 5 A' l.length c' (ccs l) ∧ (∀ c ∈ l, c.In w') ∧ l.length ≤ 1000 ∧ Ext w w') ∨
  ((∀ cs : List Cl, ¬ (Valid d ∧ (slOf d).l.map (fun c => Cl.get K c.p) = cs.map (fun c => (c, 0)))) ∧ e = .returned (.tuple #[.slice none 0 0, .bool false]) ∧ Ext w w')
theorem own_rowT {w : World} {base size n c : Nat} {e : TypeId} {A : Option Addr} {xs : List Value} (h : Own w base e size A n c xs) : ∀ k, ownRow A c = some k → ∃ cur, w.heap[k]? = some (Obj.cells cur e (0, 0)) := by
  intro k hk
  unfold ownRow at hk
  rcases h.mem with h0 | ⟨g, off, cur, rfl, _, hg, _, _⟩
  · rw [if_pos h0] at hk; cases hk
  · split at hk
    · cases hk
    · simp only [Option.map_some, Option.some.injEq] at hk
      subst hk
      exact ⟨cur, hg⟩
theorem ccs_noB (l : List CellV) : ∀ v ∈ ccs l, noB v := by
  intro v hv n
  obtain ⟨p, _, hp⟩ := List.mem_flatMap.1 hv
  simp only [CellV.cells, List.mem_cons, List.not_mem_nil, or_false] at hp
  rcases hp with rfl | rfl | rfl | rfl | rfl <;> simp
theorem cellZ : ∀ (i : TypeInfo) (z : Value), Tryz.prog.info? 43 = some i → i.zero = some z → ∀ v ∈ z.cells.toList, noB v := by
  intro i z h1 h2 v hv n
  have h3 : (Tryz.prog.info? 43).bind (·.zero) = some (.agg #[.slice none 0 0, .int .i64 0, .slice none 0 0, .int .u32 0, .int .u32 0]) := by kernel_rfl
  rw [h1, Option.bind_some, h2] at h3
  injection h3 with h3
  subst h3
  simp only [Value.cells, List.mem_cons, List.not_mem_nil, or_false] at hv
  rcases hv with rfl | rfl | rfl | rfl | rfl <;> simp
/-- What cells keeps between two rounds. -/
structure CellsI (K : Int) (d : List UInt8) (w : World) (g k : Nat) (A' : Option Addr) (c' : Nat) (l : List CellV) (wr : World) : Prop where
  got : ((slOf d).l.take k).map (fun c => Cl.get K c.p) = l.map (fun c => (c.x, 0))
  own : Own wr w.heap.size 43 5 A' k c' (ccs l)
  row : RowAll noB wr A' c'
  ins : ∀ c ∈ l, c.In wr
  body : SAt wr g d (slOf d)
  bel : Below w.heap.size w wr
theorem CellsI.push {K : Int} {d : List UInt8} {w : World} {g k : Nat} {A' : Option Addr} {c' : Nat} {l : List CellV} {wr V W : World} {C : CellV} {A4 : Option Addr} {c4 : Nat} (h : CellsI K d w g k A' c' l wr) (hk : k < (slOf d).l.length)
    (hC : Cl.get K ((slOf d).l[k]).p = (C.x, 0)) (hV : Ext wr V) (hin : C.In V) (hg : V.grownBy W (ownRow A' c')) (ho : Own W w.heap.size 43 5 A4 (k + 1) c4 (ccs (l ++ [C]))) (hr : RowAll noB W A4 c4) :
    CellsI K d w g (k + 1) A4 c4 (l ++ [C]) W := by
  have hown := h.own.below hV
  have hrow := h.row.ext hV (fun k hk => (h.own.row_lt k hk).2)
  have hty : ∀ k, ownRow A' c' = some k → ∃ cur t fr, V.heap[k]? = some (Obj.cells cur t fr) := fun k hk => let ⟨cur, e⟩ := own_rowT hown k hk; ⟨cur, _, _, e⟩
  have keep : ∀ c : CellV, c.In V → c.In W := fun c hc => ⟨hc.over, hc.kid, hc.lo, hc.hi, hc.kr.keptN hrow hty hg, hc.vr.keptN hrow hty hg, hc.kcap, hc.vcap⟩
  refine ⟨?_, ho, hr, ?_, ?_, (h.bel.trans (hV.mono h.bel.size)).grown hg (Nat.le_trans h.bel.size hV.size) (fun k e => (h.own.row_lt k e).1)⟩
  · rw [List.take_succ_eq_append_getElem hk, List.map_append, List.map_append, h.got]
    simp [hC]
  · intro c hc
    rcases List.mem_append.1 hc with hc | hc
    · exact keep c ((h.ins c hc).ext hV)
    · simp only [List.mem_cons, List.not_mem_nil, or_false] at hc
      subst hc
      exact keep c hin
  · have hb := h.body.ext hV
    refine ⟨⟨(hg.block g (lt_of_heap hb.bb.row) (fun e => ?_)).trans hb.bb.row, hb.bb.len⟩, hb.rel, hb.inv⟩
    obtain ⟨cur, e2⟩ := own_rowT hown g e.symm
    have e3 := hb.bb.row
    rw [e2] at e3
    injection e3 with e3
    injection e3 with _ e3 _
    exact absurd e3 (by decide)
end Go.Proofs.YtkpagmfaccmiaaaGreat

/- Contract: cells (layer 08). Printed by wip/tools/gen_ndn08.py. -/

namespace Go.Proofs.YtkpagmfaccmiaaaGreat

open Go.RowKit

attribute [local go_sem] Oper.semAt_some

attribute [local go_sem] coder_get

theorem one_rd (w : World) (C : CellV) : Rd ((w.alloc (.cells C.cells 43)).alloc (.cells C.cells 43)) 5 (some ⟨(w.alloc (.cells C.cells 43)).heap.size, 0, none⟩) 1 (ccs [C]) := by
  have h := heap_alloc_new (w.alloc (.cells C.cells 43)) (.cells C.cells 43)
  refine ⟨rfl, fun _ => ⟨_, rfl, fun j u hj => ?_⟩⟩
  rw [Addr.add_lit, cell_of_row _ _ _ _ _ _ h]
  simpa [ccs] using hj


set_option maxRecDepth 100000 in
set_option maxHeartbeats 400000 in
theorem cells_3 (A : Option Addr) (d : List UInt8) (c : Nat) (w : World) (hA : RdB w A d) : Calls Tryz.prog 65 #[.int .i64 3, .slice A d.length c] w (CellsP 3 d w) := by
  have hp := sparse_any A d c w hA
  have hco := coderOf_any 3
  rw [show coderA 3 = #[.func (.func 55) #[] #[], .func (.func 56) #[] #[]] from rfl] at hco
  go_enter Tryz.func65, Tryz.ntmps65
  go_wp2_with fail
  refine hp.mono ?_
  rintro e1 w1 (⟨g, hV, rfl, hgs, hS, hx1⟩ | ⟨hV, rfl, hx1⟩)
  · have hlen := blen_any g d w1 hS.bb
    rw [hS.n] at hlen
    have hn := hS.inv.n
    have HS := Lib.hid hS
    have Hx1 := Lib.hid hx1
    have HV := Lib.hid hV
    obtain ⟨n, hnn⟩ : ∃ n, n = (slOf d).l.length := ⟨_, rfl⟩
    rw [← hnn] at hlen hn
    have Hnn := Lib.hid hnn
    have hlen2 : ∀ W, Ext w1 W → Calls Tryz.prog 70 #[.pointer (some ⟨g, 0, none⟩)] W fun e w' => e = .returned (.int .i64 (n : Int)) ∧ W = w' := fun W hx => by
      have := blen_any g d W (HS.out.ext hx).bb
      rw [(HS.out.ext hx).n, ← Hnn.out] at this
      exact this
    clear hS hx1 hV hnn hlen hp
    go_wp2_with (first | (go_at_call 21; refine (hco _).mono ?_; rintro e2 w2 ⟨rfl, hx2⟩; have Hx2 := Lib.hid hx2; clear hx2) | (go_at_call 70; refine (hlen2 _ Hx2.out).mono ?_; rintro e3 w3 ⟨rfl, rfl⟩))
    have HI0 := Lib.hid (show CellsI 3 d w g 0 none 0 [] w2 from ⟨by simp, Own.none_ _ _ _ _ _, RowAll.none_ _ _ _, by simp, HS.out.ext Hx2.out, Hx1.out.tr Hx2.out⟩)
    clear hlen2
    go_loopw [8, 25] (fun a i wr => ∃ (k : Nat) (A' : Option Addr) (c' : Nat) (l : List CellV), k ≤ n ∧ l.length = k ∧ a = .slice A' k c' ∧ i = .int .i64 k ∧ CellsI 3 d w g k A' c' l wr) (fun _ i _ => n - (intOf i).toNat)
    case atStart => exact ⟨0, none, 0, [], by omega, rfl, rfl, rfl, HI0.out⟩
    case round =>
      obtain ⟨k, A', c', l, hk, hlk, rfl, rfl, hI⟩ := hrel
      have HI := Lib.hid hI
      have Hlk := Lib.hid hlk
      clear hI hlk
      by_cases h : k < n
      · have hkl : k < (slOf d).l.length := by rw [← Hnn.out]; exact h
        have ik : (k : Int) < (n : Int) := by omega
        have hcell := cell_any g d _ (k : Int) wr HI.out.body
        unfold CellR at hcell
        obtain ⟨p, hpp⟩ : ∃ p, p = ((slOf d).l[k]).p := ⟨_, rfl⟩
        have hcp : (slOf d).cellP (k : Int) = p := by rw [hpp]; unfold SBody.cellP; rw [if_pos (by omega), Int.toNat_natCast, List.getElem?_eq_getElem hkl]; rfl
        rw [hcp] at hcell
        have hpl : p.length ≤ 78 := by rw [hpp]; exact HI.out.body.inv.len _ (List.getElem_mem hkl)
        have Hpp := Lib.hid (show ∃ h : k < (slOf d).l.length, p = ((slOf d).l[k]).p from ⟨hkl, hpp⟩)
        have hget := fun A2 c2 W (hr : RdB W A2 p) (hc : p.length ≤ c2) => getLeaf_any A2 p c2 W hr hc (by omega)
        obtain ⟨q, hq⟩ : ∃ q, q = Cl.getL p := ⟨_, rfl⟩
        simp only [← hq] at hget
        have Hq := Lib.hid (show Cl.get 3 p = q from hq.symm)
        obtain ⟨q1, q2⟩ := q
        simp only at hget
        have Hget := Lib.hid hget
        have Hcell := Lib.hid hcell
        clear hcp hpp hq hget hcell hpl hkl
        by_cases hz : q2 = 0
        · subst hz
          go_wp2_with (first | (go_at_call 87; refine Hcell.out.mono ?_; rintro e4 w4 ⟨A2, c2, rfl, ho4, hx4⟩; have Hx3 := Lib.hid hx4; have hg := Hget.out A2 c2 w4 ho4.rd' ho4.nc; have Hg := Lib.hid hg; clear ho4 hx4 hg) | (go_at_call 56; refine Hg.out.mono ?_; rintro e5 w5 ⟨C, rfl, hCx, hin, hx5⟩; rw [show C.val = .agg C.cells from rfl]; have Hx4 := Lib.hid hx5; have Hin := Lib.hid hin; have HCx := Lib.hid hCx; clear hx5 hin hCx) | (refine wpList_store_row (by rfl) 43 (.tmp 11) (.tmp 34) rfl w5.heap.size C.cells rfl rfl 43 _ (heap_alloc_new w5 _) (cinfo C) (by rfl) (cone1 C) ?_; rw [setRow_alloc]) | (refine wpList_load_rowG (by rfl) 43 (.tmp 11) rfl w5.heap.size rfl 43 C.cells (0, 0) _ (heap_alloc_new w5 _) Tryz.underlying43 rfl (cinfo C) ?_) | (refine wpList_buildOne (by rfl) 23 (.tmp 39) rfl elemC5 C.cells rfl rfl (by omega) ?_; have HE := Lib.hid (Ext.tr Hx3.out (Ext.tr Hx4.out ((Ext.alloc w5 (.cells C.cells 43)).tr (Ext.alloc _ (.cells C.cells 43))))); have HE2 := Lib.hid ((Ext.alloc w5 (.cells C.cells 43)).tr (Ext.alloc _ (.cells C.cells 43))); refine wpList_appN (by rfl) noB (.tmp 38) (.tmp 40) 23 rfl elemC5 cellZ w.heap.size A' k c' (ccs l) rfl (some ⟨(w5.alloc (.cells C.cells 43)).heap.size, 0, none⟩) 1 1 (ccs [C]) rfl (k + 1) rfl (ccs (l ++ [C])) (ccs_app _ _) (HI.out.own.below HE.out) (one_rd w5 C) (ccs_one _) (HI.out.row.ext HE.out (fun r hr => (HI.out.own.row_lt r hr).2)) (ccs_noB _) (ccs_noB _) (by omega) (by omega) (Nat.le_trans HI.out.bel.size HE.out.size) ?_; intro A6 c6 w6 ho6 hg6 hr6 hn6; have Ho6 := Lib.hid ho6; have Hg6 := Lib.hid hg6; have Hr6 := Lib.hid hn6; clear ho6 hg6 hr6 hn6))
          go_roundw
          case rel =>
            obtain ⟨hkl, hpp⟩ := Hpp.out
            have hC : Cl.get 3 ((slOf d).l[k]).p = (C.x, 0) := by rw [← hpp, Hq.out, HCx.out]
            exact ⟨k + 1, A6, c6, l ++ [C], by omega, by rw [List.length_append, Hlk.out]; rfl, rfl, by go_num, HI.out.push hkl hC HE.out (Hin.out.ext HE2.out) Hg6.out Ho6.out Hr6.out⟩
          case measure => simp [intOf]; omega
        · have hz2 : ¬ (q2 : Int) = 0 := by omega
          have Hz := Lib.hid hz
          clear hz
          go_wp2_with (first | (go_at_call 87; refine Hcell.out.mono ?_; rintro e4 w4 ⟨A2, c2, rfl, ho4, hx4⟩; have Hx3 := Lib.hid hx4; have hg := Hget.out A2 c2 w4 ho4.rd' ho4.nc; have Hg := Lib.hid hg; clear ho4 hx4 hg) | (go_at_call 56; refine Hg.out.mono ?_; rintro e5 w5 ⟨C, rfl, hCx, hin, hx5⟩; rw [show C.val = .agg C.cells from rfl]; have Hx4 := Lib.hid hx5; have Hin := Lib.hid hin; have HCx := Lib.hid hCx; clear hx5 hin hCx) | (refine wpList_store_row (by rfl) 43 (.tmp 11) (.tmp 34) rfl w5.heap.size C.cells rfl rfl 43 _ (heap_alloc_new w5 _) (cinfo C) (by rfl) (cone1 C) ?_; rw [setRow_alloc]))
          go_ret2
          refine .inr ⟨fun cs hcs => ?_, rfl, HI.out.bel.trans ((Ext.tr Hx3.out (Ext.tr Hx4.out (Ext.alloc _ _))).mono HI.out.bel.size)⟩
          obtain ⟨hkl, hpp⟩ := Hpp.out
          have h1 := congrArg (fun l => l[k]?) hcs.2
          simp only [List.getElem?_map, List.getElem?_eq_getElem hkl, Option.map_some, ← hpp, Hq.out] at h1
          have h2 := h1.symm
          rw [Option.map_eq_some_iff] at h2
          obtain ⟨c0, _, h3⟩ := h2
          simp only [Prod.mk.injEq] at h3
          exact Hz.out h3.2.symm
      · obtain rfl : k = n := by omega
        go_wp2_with fail
        go_ret2
        have h1 := HI.out.got
        rw [List.take_of_length_le (by rw [← Hnn.out]; exact Nat.le_refl _)] at h1
        have hl := Hlk.out
        have h2 := HI.out.own
        rw [← hl] at h2
        exact .inl ⟨A', c', l, HV.out, h1, by rw [hl]; rfl, h2, HI.out.ins, by omega, HI.out.bel⟩
  · go_wp2_with fail
    go_ret2
    exact .inr ⟨fun cs hcs => hV hcs.1, rfl, hx1⟩


set_option maxRecDepth 100000 in
set_option maxHeartbeats 400000 in
theorem cells_2 (A : Option Addr) (d : List UInt8) (c : Nat) (w : World) (hA : RdB w A d) : Calls Tryz.prog 65 #[.int .i64 2, .slice A d.length c] w (CellsP 2 d w) := by
  have hp := sparse_any A d c w hA
  have hco := coderOf_any 2
  rw [show coderA 2 = #[.func (.func 57) #[] #[], .func (.func 58) #[] #[]] from rfl] at hco
  go_enter Tryz.func65, Tryz.ntmps65
  go_wp2_with fail
  refine hp.mono ?_
  rintro e1 w1 (⟨g, hV, rfl, hgs, hS, hx1⟩ | ⟨hV, rfl, hx1⟩)
  · have hlen := blen_any g d w1 hS.bb
    rw [hS.n] at hlen
    have hn := hS.inv.n
    have HS := Lib.hid hS
    have Hx1 := Lib.hid hx1
    have HV := Lib.hid hV
    obtain ⟨n, hnn⟩ : ∃ n, n = (slOf d).l.length := ⟨_, rfl⟩
    rw [← hnn] at hlen hn
    have Hnn := Lib.hid hnn
    have hlen2 : ∀ W, Ext w1 W → Calls Tryz.prog 70 #[.pointer (some ⟨g, 0, none⟩)] W fun e w' => e = .returned (.int .i64 (n : Int)) ∧ W = w' := fun W hx => by
      have := blen_any g d W (HS.out.ext hx).bb
      rw [(HS.out.ext hx).n, ← Hnn.out] at this
      exact this
    clear hS hx1 hV hnn hlen hp
    go_wp2_with (first | (go_at_call 21; refine (hco _).mono ?_; rintro e2 w2 ⟨rfl, hx2⟩; have Hx2 := Lib.hid hx2; clear hx2) | (go_at_call 70; refine (hlen2 _ Hx2.out).mono ?_; rintro e3 w3 ⟨rfl, rfl⟩))
    have HI0 := Lib.hid (show CellsI 2 d w g 0 none 0 [] w2 from ⟨by simp, Own.none_ _ _ _ _ _, RowAll.none_ _ _ _, by simp, HS.out.ext Hx2.out, Hx1.out.tr Hx2.out⟩)
    clear hlen2
    go_loopw [8, 25] (fun a i wr => ∃ (k : Nat) (A' : Option Addr) (c' : Nat) (l : List CellV), k ≤ n ∧ l.length = k ∧ a = .slice A' k c' ∧ i = .int .i64 k ∧ CellsI 2 d w g k A' c' l wr) (fun _ i _ => n - (intOf i).toNat)
    case atStart => exact ⟨0, none, 0, [], by omega, rfl, rfl, rfl, HI0.out⟩
    case round =>
      obtain ⟨k, A', c', l, hk, hlk, rfl, rfl, hI⟩ := hrel
      have HI := Lib.hid hI
      have Hlk := Lib.hid hlk
      clear hI hlk
      by_cases h : k < n
      · have hkl : k < (slOf d).l.length := by rw [← Hnn.out]; exact h
        have ik : (k : Int) < (n : Int) := by omega
        have hcell := cell_any g d _ (k : Int) wr HI.out.body
        unfold CellR at hcell
        obtain ⟨p, hpp⟩ : ∃ p, p = ((slOf d).l[k]).p := ⟨_, rfl⟩
        have hcp : (slOf d).cellP (k : Int) = p := by rw [hpp]; unfold SBody.cellP; rw [if_pos (by omega), Int.toNat_natCast, List.getElem?_eq_getElem hkl]; rfl
        rw [hcp] at hcell
        have hpl : p.length ≤ 78 := by rw [hpp]; exact HI.out.body.inv.len _ (List.getElem_mem hkl)
        have Hpp := Lib.hid (show ∃ h : k < (slOf d).l.length, p = ((slOf d).l[k]).p from ⟨hkl, hpp⟩)
        have hget := fun A2 c2 W (hr : RdB W A2 p) (hc : p.length ≤ c2) => getInner_any A2 p c2 W hr hc (by omega)
        obtain ⟨q, hq⟩ : ∃ q, q = Cl.getI p := ⟨_, rfl⟩
        simp only [← hq] at hget
        have Hq := Lib.hid (show Cl.get 2 p = q from hq.symm)
        obtain ⟨q1, q2⟩ := q
        simp only at hget
        have Hget := Lib.hid hget
        have Hcell := Lib.hid hcell
        clear hcp hpp hq hget hcell hpl hkl
        by_cases hz : q2 = 0
        · subst hz
          go_wp2_with (first | (go_at_call 87; refine Hcell.out.mono ?_; rintro e4 w4 ⟨A2, c2, rfl, ho4, hx4⟩; have Hx3 := Lib.hid hx4; have hg := Hget.out A2 c2 w4 ho4.rd' ho4.nc; have Hg := Lib.hid hg; clear ho4 hx4 hg) | (go_at_call 58; refine Hg.out.mono ?_; rintro e5 w5 ⟨C, rfl, hCx, hin, hx5⟩; rw [show C.val = .agg C.cells from rfl]; have Hx4 := Lib.hid hx5; have Hin := Lib.hid hin; have HCx := Lib.hid hCx; clear hx5 hin hCx) | (refine wpList_store_row (by rfl) 43 (.tmp 11) (.tmp 34) rfl w5.heap.size C.cells rfl rfl 43 _ (heap_alloc_new w5 _) (cinfo C) (by rfl) (cone1 C) ?_; rw [setRow_alloc]) | (refine wpList_load_rowG (by rfl) 43 (.tmp 11) rfl w5.heap.size rfl 43 C.cells (0, 0) _ (heap_alloc_new w5 _) Tryz.underlying43 rfl (cinfo C) ?_) | (refine wpList_buildOne (by rfl) 23 (.tmp 39) rfl elemC5 C.cells rfl rfl (by omega) ?_; have HE := Lib.hid (Ext.tr Hx3.out (Ext.tr Hx4.out ((Ext.alloc w5 (.cells C.cells 43)).tr (Ext.alloc _ (.cells C.cells 43))))); have HE2 := Lib.hid ((Ext.alloc w5 (.cells C.cells 43)).tr (Ext.alloc _ (.cells C.cells 43))); refine wpList_appN (by rfl) noB (.tmp 38) (.tmp 40) 23 rfl elemC5 cellZ w.heap.size A' k c' (ccs l) rfl (some ⟨(w5.alloc (.cells C.cells 43)).heap.size, 0, none⟩) 1 1 (ccs [C]) rfl (k + 1) rfl (ccs (l ++ [C])) (ccs_app _ _) (HI.out.own.below HE.out) (one_rd w5 C) (ccs_one _) (HI.out.row.ext HE.out (fun r hr => (HI.out.own.row_lt r hr).2)) (ccs_noB _) (ccs_noB _) (by omega) (by omega) (Nat.le_trans HI.out.bel.size HE.out.size) ?_; intro A6 c6 w6 ho6 hg6 hr6 hn6; have Ho6 := Lib.hid ho6; have Hg6 := Lib.hid hg6; have Hr6 := Lib.hid hn6; clear ho6 hg6 hr6 hn6))
          go_roundw
          case rel =>
            obtain ⟨hkl, hpp⟩ := Hpp.out
            have hC : Cl.get 2 ((slOf d).l[k]).p = (C.x, 0) := by rw [← hpp, Hq.out, HCx.out]
            exact ⟨k + 1, A6, c6, l ++ [C], by omega, by rw [List.length_append, Hlk.out]; rfl, rfl, by go_num, HI.out.push hkl hC HE.out (Hin.out.ext HE2.out) Hg6.out Ho6.out Hr6.out⟩
          case measure => simp [intOf]; omega
        · have hz2 : ¬ (q2 : Int) = 0 := by omega
          have Hz := Lib.hid hz
          clear hz
          go_wp2_with (first | (go_at_call 87; refine Hcell.out.mono ?_; rintro e4 w4 ⟨A2, c2, rfl, ho4, hx4⟩; have Hx3 := Lib.hid hx4; have hg := Hget.out A2 c2 w4 ho4.rd' ho4.nc; have Hg := Lib.hid hg; clear ho4 hx4 hg) | (go_at_call 58; refine Hg.out.mono ?_; rintro e5 w5 ⟨C, rfl, hCx, hin, hx5⟩; rw [show C.val = .agg C.cells from rfl]; have Hx4 := Lib.hid hx5; have Hin := Lib.hid hin; have HCx := Lib.hid hCx; clear hx5 hin hCx) | (refine wpList_store_row (by rfl) 43 (.tmp 11) (.tmp 34) rfl w5.heap.size C.cells rfl rfl 43 _ (heap_alloc_new w5 _) (cinfo C) (by rfl) (cone1 C) ?_; rw [setRow_alloc]))
          go_ret2
          refine .inr ⟨fun cs hcs => ?_, rfl, HI.out.bel.trans ((Ext.tr Hx3.out (Ext.tr Hx4.out (Ext.alloc _ _))).mono HI.out.bel.size)⟩
          obtain ⟨hkl, hpp⟩ := Hpp.out
          have h1 := congrArg (fun l => l[k]?) hcs.2
          simp only [List.getElem?_map, List.getElem?_eq_getElem hkl, Option.map_some, ← hpp, Hq.out] at h1
          have h2 := h1.symm
          rw [Option.map_eq_some_iff] at h2
          obtain ⟨c0, _, h3⟩ := h2
          simp only [Prod.mk.injEq] at h3
          exact Hz.out h3.2.symm
      · obtain rfl : k = n := by omega
        go_wp2_with fail
        go_ret2
        have h1 := HI.out.got
        rw [List.take_of_length_le (by rw [← Hnn.out]; exact Nat.le_refl _)] at h1
        have hl := Hlk.out
        have h2 := HI.out.own
        rw [← hl] at h2
        exact .inl ⟨A', c', l, HV.out, h1, by rw [hl]; rfl, h2, HI.out.ins, by omega, HI.out.bel⟩
  · go_wp2_with fail
    go_ret2
    exact .inr ⟨fun cs hcs => hV hcs.1, rfl, hx1⟩
end Go.Proofs.YtkpagmfaccmiaaaGreat

/- Contract: read (layer 08). Printed by wip/tools/gen_ndr08.py. -/

namespace Go.Proofs.YtkpagmfaccmiaaaGreat

open Go.RowKit

attribute [local go_sem] Oper.semAt_some

/-- What read answers. -/
structure Nd.ReadR (k : Int) (lsn : Nat) (d : List UInt8) (n : Nd) (ok : Bool) : Prop where
  kd : n.kind = k
  ls : n.lsn = lsn
  yes : ok = true → Nd.Told k d n
  no : ok = false → ∀ m : Nd, m.lsn = lsn → ¬ Nd.Told k d m
  rest : Nd.hasC k = true → n.next = 0 ∧ n.data = [] ∧ n.head = Hd.zero
def ReadP (k : Int) (lsn : Nat) (d : List UInt8) (w : World) (e : Ending) (w' : World) : Prop := ∃ (n : NdV) (ok : Bool), e = .returned (.tuple #[.agg n.cells, .bool ok]) ∧ n.In w' ∧ Ext w w' ∧ (n.cl ≠ [] → ∀ ad, n.ca = some ad → w.heap.size ≤ ad.block) ∧ Nd.ReadR k lsn d n.x ok
theorem Nd.ReadR.eq {k : Int} {lsn : Nat} {d : List UInt8} {n : Nd} (hk : Nd.hasC k = false) (h : n = Nd.rd k lsn d) (hkk : n.kind = k) : Nd.ReadR k lsn d n (n.flat == d) := by
  have hl : n.lsn = lsn := by
    rw [h]
    unfold Nd.rd
    split
    · rfl
    · split <;> rfl
  refine ⟨hkk, hl, fun e => ?_, fun e m hm ht => ?_, fun e => by rw [hk] at e; cases e⟩
  · unfold Nd.Told
    rw [if_neg (by rw [hk]; decide), hl]
    exact ⟨h, by simpa using e⟩
  · unfold Nd.Told at ht
    rw [if_neg (by rw [hk]; decide), hm, ← h] at ht
    have h2 := ht.2
    rw [ht.1] at h2
    rw [h2] at e
    simp at e
theorem setRow_same {w : World} {g : Nat} {cs : Array Value} {t : TypeId} {fr : Nat × Nat} (h : w.heap[g]? = some (.cells cs t fr)) : w.setRow g cs = w := by
  have key : ∀ h : Array Obj, h = w.heap → ({ w with heap := h } : World) = w := by rintro _ rfl; rfl
  unfold World.setRow
  refine key _ ?_
  apply Array.ext_getElem?
  intro i
  rw [Array.getElem?_modify]
  by_cases hi : g = i
  · subst hi
    rw [if_pos rfl, h]
    rfl
  · rw [if_neg hi]
/-- Bytes stay where a row in which there is none turns. -/
theorem RdB.setN {w : World} {A : Option Addr} {bs : List UInt8} {g : Nat} {cs : Array Value} {t : TypeId} {fr : Nat × Nat} (h : RdB w A bs) (hg : w.heap[g]? = some (.cells cs t fr)) (hn : ∀ v ∈ cs.toList, noB v) (cs' : Array Value) : RdB (w.setRow g cs') A bs := ⟨h.1, fun hx => by
  obtain ⟨ad, e, hc⟩ := h.2 hx
  refine ⟨ad, e, fun j u hj => ?_⟩
  have h1 := hc j u hj
  refine (grown_setR w g cs').cell h1 fun hk => ?_
  injection hk with hk
  unfold World.cell? at h1
  rw [hk, hg] at h1
  simp only at h1
  have hm : u ∈ cs.toList := by
    by_cases hsp : (ad.add j).spot.isSome = true
    · rw [if_pos hsp] at h1; cases h1
    · rw [if_neg hsp] at h1; exact Array.mem_toList_iff.2 (Array.mem_of_getElem? h1)
  simp only [bvs, List.getElem?_map, Option.map_eq_some_iff] at hj
  obtain ⟨b, _, rfl⟩ := hj
  exact hn _ hm _ rfl⟩
theorem node_noB (n : NdV) : ∀ v ∈ n.cells.toList, noB v := by
  intro v hv k
  simp only [NdV.cells, List.mem_cons, List.not_mem_nil, or_false] at hv
  rcases hv with rfl | rfl | rfl | rfl | rfl | rfl | rfl | rfl | rfl <;> simp
theorem own_blk {w : World} {base size n c : Nat} {e : TypeId} {A : Option Addr} {xs : List Value} (h : Own w base e size A n c xs) : xs ≠ [] → ∀ ad, A = some ad → base ≤ ad.block := by
  intro hd ad e1
  rcases h.mem with h0 | ⟨g', off, cur, h1, h2, _⟩
  · have h3 := h.nc
    have h4 := h.len
    obtain rfl : n = 0 := by omega
    exact absurd (List.eq_nil_of_length_eq_zero (by simpa using h4)) hd
  · rw [h1] at e1
    injection e1 with e1
    subst e1
    exact h2
theorem RdC.setN {w : World} {A : Option Addr} {l : List CellV} {g : Nat} {cs : Array Value} {t : TypeId} {fr : Nat × Nat} (h : RdC w A l) (hg : w.heap[g]? = some (.cells cs t fr)) (hn : ∀ v ∈ cs.toList, noB v) (hA : l ≠ [] → ∀ ad, A = some ad → ad.block ≠ g) (cs' : Array Value) : RdC (w.setRow g cs') A l := by
  refine ⟨?_, fun c hc => ⟨(h.each c hc).over, (h.each c hc).kid, (h.each c hc).lo, (h.each c hc).hi, (h.each c hc).kr.setN hg hn cs', (h.each c hc).vr.setN hg hn cs', (h.each c hc).kcap, (h.each c hc).vcap⟩⟩
  by_cases hl : l = []
  · subst hl; exact Rd.nil_ _ _ _
  · exact Rd.grown (row := some g) h.rd (grown_setR w g cs') (fun ad e h2 => hA hl ad e (by injection h2))
theorem NdV.In.setN {w : World} {n : NdV} {g : Nat} {cs : Array Value} {t : TypeId} {fr : Nat × Nat} (h : n.In w) (hg : w.heap[g]? = some (.cells cs t fr)) (hn : ∀ v ∈ cs.toList, noB v) (hA : n.cl ≠ [] → ∀ ad, n.ca = some ad → ad.block ≠ g) (cs' : Array Value) : n.In (w.setRow g cs') :=
  ⟨h.lo, h.hi, h.lsn, h.cr.setN hg hn hA cs', h.ccap, h.clen, h.next, h.dr.setN hg hn cs', h.dcap, h.dlen, h.head⟩
theorem hdz_in : Hd.zero.In := ⟨by decide, by decide, by decide, by decide⟩
section

variable {P : Program} {w : World} {o : Oper} {a : Act}

theorem ex_store_at (ty : TypeId) (x y : Operand) (ho : o.op = .store ty x y) (ad : Addr) (hx : a.eval x = .pointer (some ad)) (g off : Nat) (had : ad = ⟨g, off, none⟩)
    (v : Value) (hy : a.eval y = v) (cells : Array Value) (hv : v.cells = cells) (cur : Array Value) (t : TypeId) (hg : w.heap[g]? = some (.cells cur t (0, 0))) (hi : (P.info? ty).map (·.size) = some cells.size) (hfit : off + cells.size ≤ cur.size)
    (h1 : cells.all (·.oneCell') = true) (cur' : Array Value) (hc : (cur.toList.take off ++ cells.toList ++ cur.toList.drop (off + cells.size)).toArray = cur') :
    (execOp a.eval o).run P w = .ok .skip (w.setRow g cur') := by
  subst had
  subst hc
  have hr := run_storeCells_at (P := P) g off t cells.toList 0 cur w hg (by simpa using hfit) (fun v hv => (Array.all_eq_true_iff_forall_mem.1 h1) v (by simpa using hv))
  simp only [Nat.add_zero, Array.length_toList] at hr
  have hst : (storeVar ty ⟨g, off, none⟩ v).run P w = .ok () (w.setRow g (cur.toList.take off ++ cells.toList ++ cur.toList.drop (off + cells.size)).toArray) := by
    cases hq : P.info? ty with
    | none => simp [hq] at hi
    | some i =>
      have hs : cells.size = i.size := by simp [hq] at hi; omega
      simp [storeVar, sizeOf, typeInfo, hq, hv, hs]
      rw [hs] at hr
      simpa using hr
  unfold execOp
  simp only [ho, hx, hy, Instr.storeAt, Instr.sureAddr, Sem.run_bind, Sem.run_pure, Result.andThen_ok, hst]
end

theorem num4_lt (d : List UInt8) (hl : d.length = 243) (k : Nat) (hk : k ≤ 200) : Nd.num4 d k < 4294967296 := Cl.num_lt4 _ (by rw [List.length_take, List.length_drop]; omega)


set_option maxRecDepth 100000 in
set_option maxHeartbeats 1000000 in
theorem read_1 (lsn g o : Nat) (d : List UInt8) (w : World) (hA : RdB w (some ⟨g, o, none⟩) d) (hl : d.length = 243) (hls : lsn < 18446744073709551616) :
    Calls Tryz.prog 24 #[.agg #[.int .i64 1, .int .u64 (lsn : Int), .slice (some ⟨g, o, none⟩) 243 243]] w (ReadP 1 lsn d w) := by
  have hi := fun n => ninfo n
  have Hls := Lib.hid hls
  clear hls
  go_enter Tryz.func24, Tryz.ntmps24
  go_wp2_with fail
  obtain ⟨W1, hW1⟩ : ∃ W1, W1 = (w.alloc (.cells #[.int .i64 1, .int .u64 (lsn : Int), .slice (some ⟨g, o, none⟩) 243 243] 50)).alloc (.cells (NdV.mk 1 lsn none [] 0 0 none [] 0 Hd.zero).cells 29) := ⟨_, rfl⟩
  have hx1 : Ext w W1 := by rw [hW1]; exact (Ext.alloc _ _).tr (Ext.alloc _ _)
  have hg1 : W1.heap[w.heap.size + 1]? = some (.cells (NdV.mk 1 lsn none [] 0 0 none [] 0 Hd.zero).cells 29 (0, 0)) := by
    rw [hW1]
    have := heap_alloc_new (w.alloc (.cells #[.int .i64 1, .int .u64 (lsn : Int), .slice (some ⟨g, o, none⟩) 243 243] 50)) (.cells (NdV.mk 1 lsn none [] 0 0 none [] 0 Hd.zero).cells 29)
    simpa using this
  rw [show ((w.alloc (.cells #[.int .i64 1, .int .u64 (lsn : Int), .slice (some ⟨g, o, none⟩) 243 243] 50)).alloc (.cells #[.int .i64 1, .int .u64 (lsn : Int), .slice none 0 0, .int .u32 0, .slice none 0 0, .int .u32 0, .int .u32 0, .int .u32 0, .int .u64 0] 29)) = W1 from hW1.symm]
  have hlt := lt_of_heap hg1
  have hA1 := hA.below hx1
  have hAd := hA1.below (Ext.drew W1)
  obtain ⟨x8, hx8⟩ : ∃ x8, x8 = (d.drop 17).take 8 := ⟨_, rfl⟩
  have hl8 : x8.length = 8 := by rw [hx8, List.length_take, List.length_drop]; omega
  have hr8 := hA1.cut (k := 17) (m := 25) (by omega) (by omega) (c := 243) (by omega)
  rw [if_neg (by omega), List.drop_take, show 25 - 17 = 8 from rfl, ← hx8] at hr8
  simp only [Option.map_some, Addr.add_lit] at hr8
  have Hx8 := Lib.hid hx8
  clear hW1 hx8
  refine rg_start (by kernel_rfl) ?_
  refine rg_take 0 rfl (by kernel_rfl) (by kernel_rfl) (by kernel_rfl) (fun _ _ _ _ h => h) (by rfl) ⟨_, fun w' hx => by (go_simp <;> with_reducible rfl), ?_⟩
  simp only [Act.put, List.setIfInBounds_toArray, List.set_cons_zero, List.set_cons_succ]
  refine rg_take 1 rfl (by kernel_rfl) (by kernel_rfl) (by kernel_rfl) (fun _ _ _ _ h => h) (by rfl) ⟨_, fun w' hx => by (go_simp <;> with_reducible rfl), ?_⟩
  simp only [Act.put, List.setIfInBounds_toArray, List.set_cons_zero, List.set_cons_succ]
  refine rg_take 3 rfl (by kernel_rfl) (by kernel_rfl) (by kernel_rfl) (fun _ _ _ _ h => h) (by rfl) ⟨_, fun w' hx => by (go_simp <;> with_reducible rfl), ?_⟩
  simp only [Act.put, List.setIfInBounds_toArray, List.set_cons_zero, List.set_cons_succ]
  refine rg_take 4 rfl (by kernel_rfl) (by kernel_rfl) (by kernel_rfl) (fun _ _ _ _ h => h) (by rfl) ⟨_, fun w' hx => by (go_simp <;> with_reducible rfl), ?_⟩
  simp only [Act.put, List.setIfInBounds_toArray, List.set_cons_zero, List.set_cons_succ]
  refine rg_take 5 rfl (by kernel_rfl) (by kernel_rfl) (by kernel_rfl) (fun _ _ _ _ h => h) (by rfl) ⟨.int .i64 9, fun w' hx => by (go_simp <;> rfl), ?_⟩
  simp only [Act.put, List.setIfInBounds_toArray, List.set_cons_zero, List.set_cons_succ]
  refine rg_take 7 rfl (by kernel_rfl) (by kernel_rfl) (by kernel_rfl) (fun _ _ _ _ h => h) (by rfl) ⟨_, fun w' hx => by (go_simp <;> with_reducible rfl), ?_⟩
  simp only [Act.put, List.setIfInBounds_toArray, List.set_cons_zero, List.set_cons_succ]
  refine rg_take 8 rfl (by kernel_rfl) (by kernel_rfl) (by kernel_rfl) (fun _ _ _ _ h => h) (by rfl) ⟨_, fun w' hx => by (go_simp <;> with_reducible rfl), ?_⟩
  simp only [Act.put, List.setIfInBounds_toArray, List.set_cons_zero, List.set_cons_succ]
  refine rg_take 9 rfl (by kernel_rfl) (by kernel_rfl) (by kernel_rfl) (fun _ _ _ _ h => h) (by rfl) ⟨.int .i64 13, fun w' hx => by (go_simp <;> rfl), ?_⟩
  simp only [Act.put, List.setIfInBounds_toArray, List.set_cons_zero, List.set_cons_succ]
  refine rg_take 11 rfl (by kernel_rfl) (by kernel_rfl) (by kernel_rfl) (fun _ _ _ _ h => h) (by rfl) ⟨_, fun w' hx => by (go_simp <;> with_reducible rfl), ?_⟩
  simp only [Act.put, List.setIfInBounds_toArray, List.set_cons_zero, List.set_cons_succ]
  refine rg_take 12 rfl (by kernel_rfl) (by kernel_rfl) (by kernel_rfl) (fun _ _ _ _ h => h) (by rfl) ⟨_, fun w' hx => by (go_simp <;> with_reducible rfl), ?_⟩
  simp only [Act.put, List.setIfInBounds_toArray, List.set_cons_zero, List.set_cons_succ]
  refine rg_take 13 rfl (by kernel_rfl) (by kernel_rfl) (by kernel_rfl) (fun _ _ _ _ h => h) (by rfl) ⟨.int .i64 17, fun w' hx => by (go_simp <;> rfl), ?_⟩
  simp only [Act.put, List.setIfInBounds_toArray, List.set_cons_zero, List.set_cons_succ]
  refine rg_take 14 rfl (by kernel_rfl) (by kernel_rfl) (by kernel_rfl) (fun _ _ _ _ h => h) (by rfl) ⟨_, fun w' hx => by (go_simp <;> with_reducible rfl), ?_⟩
  simp only [Act.put, List.setIfInBounds_toArray, List.set_cons_zero, List.set_cons_succ]
  refine rg_take 15 rfl (by kernel_rfl) (by kernel_rfl) (by kernel_rfl) (fun _ _ _ _ h => h) (by rfl) ⟨.int .i64 25, fun w' hx => by (go_simp <;> rfl), ?_⟩
  simp only [Act.put, List.setIfInBounds_toArray, List.set_cons_zero, List.set_cons_succ]
  refine rg_take 16 rfl (by kernel_rfl) (by kernel_rfl) (by kernel_rfl) (fun _ _ _ _ h => h) (by rfl) ⟨.slice (some ⟨g, o + 17, none⟩) 8 226, fun w' hx => by (go_simp <;> with_reducible rfl), ?_⟩
  simp only [Act.put, List.setIfInBounds_toArray, List.set_cons_zero, List.set_cons_succ]
  have h2 : Calls Tryz.prog _ #[.slice (some ⟨g, o, none⟩) 243 243, .int .i64 5] W1.drew _ := number4_any g o 5 d W1.drew hAd hl (by omega)
  refine rg_call 2 h2 rfl (by kernel_rfl) (by rfl) (by go_simp) ?_
  rintro e w' ⟨rfl, rfl⟩
  refine ⟨_, rfl, Ext.refl _, ?_⟩
  simp only [Act.put, List.setIfInBounds_toArray, List.set_cons_zero, List.set_cons_succ]
  have h6 : Calls Tryz.prog _ #[.slice (some ⟨g, o, none⟩) 243 243, .int .i64 9] W1.drew _ := number4_any g o 9 d W1.drew hAd hl (by omega)
  refine rg_call 6 h6 rfl (by kernel_rfl) (by rfl) (by go_simp) ?_
  rintro e w' ⟨rfl, rfl⟩
  refine ⟨_, rfl, Ext.refl _, ?_⟩
  simp only [Act.put, List.setIfInBounds_toArray, List.set_cons_zero, List.set_cons_succ]
  have h10 : Calls Tryz.prog _ #[.slice (some ⟨g, o, none⟩) 243 243, .int .i64 13] W1.drew _ := number4_any g o 13 d W1.drew hAd hl (by omega)
  refine rg_call 10 h10 rfl (by kernel_rfl) (by rfl) (by go_simp) ?_
  rintro e w' ⟨rfl, rfl⟩
  refine ⟨_, rfl, Ext.refl _, ?_⟩
  simp only [Act.put, List.setIfInBounds_toArray, List.set_cons_zero, List.set_cons_succ]
  have h17 := number_any (some ⟨g, o + 17, none⟩) x8 226 W1.drew (hr8.below (Ext.drew W1)) (by omega)
  rw [hl8] at h17
  refine rg_call 17 h17 rfl (by kernel_rfl) (by rfl) (by go_simp) ?_
  rintro e w' ⟨rfl, rfl⟩
  refine ⟨_, rfl, Ext.refl _, ?_⟩
  simp only [Act.put, List.setIfInBounds_toArray, List.set_cons_zero, List.set_cons_succ]
  refine rg_take 18 rfl (by kernel_rfl) (by kernel_rfl) (by kernel_rfl) (fun _ _ _ _ h => h) (by rfl) ⟨_, fun w' hx => by (go_simp <;> with_reducible rfl), ?_⟩   -- t45 := build 27 [(0, t29), (1, t33), (2, t37), (3, t44)]
  simp only [Act.put, List.setIfInBounds_toArray, List.set_cons_zero, List.set_cons_succ]
  refine rg_take 19 rfl (by kernel_rfl) (by kernel_rfl) (by kernel_rfl) (fun _ _ _ _ h => h) (by rfl) ⟨_, fun w' hx => by (go_simp <;> with_reducible rfl), ?_⟩   -- t46 := fieldAddr 29 t2 5
  simp only [Act.put, List.setIfInBounds_toArray, List.set_cons_zero, List.set_cons_succ]
  have hgW0 := ((Ext.drew W1).block _ hlt).trans hg1
  refine rg_store 20 rfl (by kernel_rfl) (by kernel_rfl) (by rfl) ⟨_, ex_store_at 27 (.tmp 46) (.tmp 45) rfl ⟨w.heap.size + 1, 5, none⟩ rfl (w.heap.size + 1) 5 rfl (.agg #[.int .u32 (Nd.num4 d 5 : Int), .int .u32 (Nd.num4 d 9 : Int), .int .u32 (Nd.num4 d 13 : Int), .int .u64 (Vint.number x8 : Int)]) rfl _ rfl _ 29 hgW0 (by kernel_rfl) (Nat.le_refl 9) (by simp [Value.cells, Value.oneCell']) (NdV.mk 1 lsn none [] 0 0 none [] 0 ⟨Nd.num4 d 5, Nd.num4 d 9, Nd.num4 d 13, Vint.number x8⟩).cells rfl, ?_⟩
  simp only [Act.put]
  refine rg_done (by kernel_rfl) ?_
  obtain ⟨n1, hn1⟩ : ∃ n1, n1 = NdV.mk 1 lsn none [] 0 0 none [] 0 ⟨Nd.num4 d 5, Nd.num4 d 9, Nd.num4 d 13, Vint.number x8⟩ := ⟨_, rfl⟩
  have hkind : n1.kind = 1 := by rw [hn1]
  have hcl0 : n1.cl = [] := by rw [hn1]
  have N2 : ∀ W, n1.In W := fun W => by
    rw [hn1]
    refine ⟨by simp, by simp, Hls.out, RdC.nil_ _ _, by simp, by simp, by simp, RdB.nil_ _ _, by simp, by simp, ⟨num4_lt d hl 5 (by omega), num4_lt d hl 9 (by omega), num4_lt d hl 13 (by omega), ?_⟩⟩
    exact Vint.number_lt x8
  have HR : n1.x = Nd.rd 1 lsn d := by rw [hn1]; unfold Nd.rd; rw [if_pos rfl, ← Hx8.out]; rfl
  rw [← hn1]
  clear hn1
  obtain ⟨W2, hW2⟩ : ∃ W2, W2 = W1.drew.setRow (w.heap.size + 1) n1.cells := ⟨_, rfl⟩
  have G2 : W2.heap[w.heap.size + 1]? = some (.cells n1.cells 29 (0, 0)) := by rw [hW2]; exact setRow_heap W1.drew _ _ _ _ _ (((Ext.drew W1).block _ hlt).trans hg1)
  have X2 : Ext w W2 := by rw [hW2]; exact ext_row (hx1.tr (Ext.drew W1)) (by omega) _
  rw [← hW2]
  clear hW2 hg1 hx1 hAd hA1 hr8 h2 h6 h10 h17 hgW0
  go_wp2_with fail
  have hgd := ((Ext.drew W2).block _ (lt_of_heap G2)).trans G2
  have hbd := body_any n1 W2.drew (N2 _) (by omega) (by omega)
  have hA2 := hA.below X2
  have Gd := Lib.hid hgd
  have Hbd := Lib.hid hbd
  clear hgd hbd
  refine rg_start (by kernel_rfl) ?_
  refine rg_take 0 rfl (by kernel_rfl) (by kernel_rfl) (by kernel_rfl) (fun _ _ _ _ h => h) (by rfl) ⟨.agg n1.cells, fun w' hx => ex_load_row 29 _ rfl (w.heap.size + 1) rfl 29 _ (0, 0) _ ((hx.block _ (lt_of_heap Gd.out)).trans Gd.out) Tryz.underlying29 rfl (ninfo _), ?_⟩
  simp only [Act.put, List.setIfInBounds_toArray, List.set_cons_zero, List.set_cons_succ]
  refine rg_take 1 rfl (by kernel_rfl) (by kernel_rfl) (by kernel_rfl) (fun _ _ _ _ h => h) (by rfl) ⟨.agg n1.cells, fun w' hx => ex_load_row 29 _ rfl (w.heap.size + 1) rfl 29 _ (0, 0) _ ((hx.block _ (lt_of_heap Gd.out)).trans Gd.out) Tryz.underlying29 rfl (ninfo _), ?_⟩
  simp only [Act.put, List.setIfInBounds_toArray, List.set_cons_zero, List.set_cons_succ]
  refine rg_take 3 rfl (by kernel_rfl) (by kernel_rfl) (by kernel_rfl) (fun _ _ _ _ h => h) (by rfl) ⟨_, fun w' hx => by (go_simp <;> with_reducible rfl), ?_⟩
  simp only [Act.put, List.setIfInBounds_toArray, List.set_cons_zero, List.set_cons_succ]
  refine rg_call 2 Hbd.out rfl (by kernel_rfl) (by rfl) (by go_simp) ?_
  rintro e3 w3 ⟨bs, A1, hB1, hB2, rfl, ho3, hb3⟩
  have HB := Lib.hid hB1
  have HB2 := Lib.hid hB2
  have Hb3 := Lib.hid hb3
  have hr3 := ho3.rd'
  have heq := equal_any A1 (some ⟨g, o, none⟩) bs d 243 243 w3 hr3 (hA2.below (Ext.tr (Ext.drew W2) hb3))
  rw [hB2, hl] at heq
  clear hB1 hB2 ho3 hb3 hr3
  refine ⟨_, rfl, Hb3.out, ?_⟩
  simp only [Act.put, List.setIfInBounds_toArray, List.set_cons_zero, List.set_cons_succ]
  refine rg_call 4 heq rfl (by kernel_rfl) (by rfl) (by go_simp) ?_
  rintro e4 w4 ⟨rfl, rfl⟩
  have G3 := (Hb3.out.block _ (lt_of_heap Gd.out)).trans Gd.out
  refine ⟨_, rfl, Ext.refl _, ?_⟩
  simp only [Act.put, List.setIfInBounds_toArray, List.set_cons_zero, List.set_cons_succ]
  refine rg_store 5 rfl (by kernel_rfl) (by kernel_rfl) (by rfl) ⟨_, ex_store_rowS 29 (.tmp 2) (.tmp 69) rfl (w.heap.size + 1) rfl n1.cells rfl _ 29 G3 (ninfo _) rfl (none1 _), ?_⟩
  simp only [Act.put]
  refine rg_take 6 rfl (by kernel_rfl) (by kernel_rfl) (by kernel_rfl) (fun _ _ _ _ h => h) (by rfl) ⟨_, fun w' hx => by (go_simp <;> with_reducible rfl), ?_⟩
  simp only [Act.put, List.setIfInBounds_toArray, List.set_cons_zero, List.set_cons_succ]
  refine rg_done (by kernel_rfl) ?_
  have hgF := setRow_heap w3 (w.heap.size + 1) _ n1.cells _ _ G3
  go_wp2_with fail
  (try simp only [Exit.inBlock, Exit.then])
  refine bodyPost_ret (results_row_tmp rfl _ _ (w.heap.size + 1) 29 n1.cells (0, 0) _ rfl hgF Tryz.underlying29 rfl (ninfo _)) rfl ?_
  have hxF : Ext w w3 := X2.tr ((Ext.drew W2).tr Hb3.out)
  have hbs : bs = n1.x.flat := by have h9 := HB.out; unfold Nd.Body at h9; rwa [if_neg (by rw [show n1.x.kind = n1.kind from rfl, hkind]; decide)] at h9
  rw [setRow_same G3]
  refine ⟨n1, bs == d, rfl, N2 _, hxF, fun h => absurd hcl0 h, ?_⟩
  · rw [hbs]
    exact Nd.ReadR.eq (by rfl) HR hkind



set_option maxRecDepth 100000 in
set_option maxHeartbeats 1000000 in
theorem read_5 (lsn g o : Nat) (d : List UInt8) (w : World) (hA : RdB w (some ⟨g, o, none⟩) d) (hl : d.length = 243) (hls : lsn < 18446744073709551616) :
    Calls Tryz.prog 24 #[.agg #[.int .i64 5, .int .u64 (lsn : Int), .slice (some ⟨g, o, none⟩) 243 243]] w (ReadP 5 lsn d w) := by
  have hi := fun n => ninfo n
  have Hls := Lib.hid hls
  clear hls
  obtain ⟨W1, hW1⟩ : ∃ W1, W1 = (w.alloc (.cells #[.int .i64 5, .int .u64 (lsn : Int), .slice (some ⟨g, o, none⟩) 243 243] 50)).alloc (.cells (NdV.mk 5 lsn none [] 0 0 none [] 0 Hd.zero).cells 29) := ⟨_, rfl⟩
  have hx1 : Ext w W1 := by rw [hW1]; exact (Ext.alloc _ _).tr (Ext.alloc _ _)
  have hg1 : W1.heap[w.heap.size + 1]? = some (.cells (NdV.mk 5 lsn none [] 0 0 none [] 0 Hd.zero).cells 29 (0, 0)) := by
    rw [hW1]
    have := heap_alloc_new (w.alloc (.cells #[.int .i64 5, .int .u64 (lsn : Int), .slice (some ⟨g, o, none⟩) 243 243] 50)) (.cells (NdV.mk 5 lsn none [] 0 0 none [] 0 Hd.zero).cells 29)
    simpa using this
  have hlt := lt_of_heap hg1
  have hA1 := hA.below hx1
  have HW := Lib.hid (show (w.alloc (.cells #[.int .i64 5, .int .u64 (lsn : Int), .slice (some ⟨g, o, none⟩) 243 243] 50)).alloc (.cells #[.int .i64 5, .int .u64 (lsn : Int), .slice none 0 0, .int .u32 0, .slice none 0 0, .int .u32 0, .int .u32 0, .int .u32 0, .int .u64 0] 29) = W1 from hW1.symm)
  clear hW1
  have hn0 : Calls Tryz.prog _ #[.slice (some ⟨g, o, none⟩) 243 243, .int .i64 0] W1 _ := number4_any g o 0 d W1 hA1 hl (by omega)
  go_enter Tryz.func24, Tryz.ntmps24
  go_wp2_with (first | (go_at_call 63; rw [HW.out]; refine hn0.mono ?_; rintro e1 w1 ⟨rfl, rfl⟩) | (refine wpList_store_at (by rfl) 24 (.tmp 68) (.tmp 67) rfl ⟨w.heap.size + 1, 3, none⟩ rfl (w.heap.size + 1) 3 rfl (.int .u32 (Nd.num4 d 0 : Int)) rfl #[.int .u32 (Nd.num4 d 0 : Int)] rfl _ 29 hg1 (by kernel_rfl) (by simp [NdV.cells]) (by simp [Value.oneCell']) (NdV.mk 5 lsn none [] 0 (Nd.num4 d 0) none [] 0 Hd.zero).cells rfl ?_; refine Hid.out ?_))
  refine Lib.hid ?_
  obtain ⟨n1, hn1⟩ : ∃ n1, n1 = NdV.mk 5 lsn none [] 0 (Nd.num4 d 0) none [] 0 Hd.zero := ⟨_, rfl⟩
  have hkind : n1.kind = 5 := by rw [hn1]
  have hcl0 : n1.cl = [] := by rw [hn1]
  have N1 : ∀ W, n1.In W := fun W => by
    rw [hn1]
    exact ⟨by simp, by simp, Hls.out, RdC.nil_ _ _, by simp, by simp, num4_lt d hl 0 (by omega), RdB.nil_ _ _, by simp, by simp, hdz_in⟩
  have HR : n1.x = Nd.rd 5 lsn d := by rw [hn1]; unfold Nd.rd; rw [if_neg (by decide), if_neg (by decide)]; rfl
  rw [← hn1]
  clear hn1
  obtain ⟨W2, hW2⟩ : ∃ W2, W2 = W1.setRow (w.heap.size + 1) n1.cells := ⟨_, rfl⟩
  have G2 : W2.heap[w.heap.size + 1]? = some (.cells n1.cells 29 (0, 0)) := by rw [hW2]; exact setRow_heap W1 _ _ _ _ _ hg1
  have X2 : Ext w W2 := by rw [hW2]; exact ext_row hx1 (by omega) _
  have N2 : n1.In W2 := N1 W2
  have HDL : n1.kind = 4 → n1.data.length ≤ 238 := fun e => by omega
  rw [← hW2]
  clear hW2 hg1 hx1 hA1 hn0
  go_wp2_with fail
  have hgd := ((Ext.drew W2).block _ (lt_of_heap G2)).trans G2
  have hbd := body_any n1 W2.drew (N2.ext (Ext.drew W2)) (by omega) HDL
  have hA2 := hA.below X2
  have Gd := Lib.hid hgd
  have Hbd := Lib.hid hbd
  clear hgd hbd
  refine rg_start (by kernel_rfl) ?_
  refine rg_take 0 rfl (by kernel_rfl) (by kernel_rfl) (by kernel_rfl) (fun _ _ _ _ h => h) (by rfl) ⟨.agg n1.cells, fun w' hx => ex_load_row 29 _ rfl (w.heap.size + 1) rfl 29 _ (0, 0) _ ((hx.block _ (lt_of_heap Gd.out)).trans Gd.out) Tryz.underlying29 rfl (ninfo _), ?_⟩
  simp only [Act.put, List.setIfInBounds_toArray, List.set_cons_zero, List.set_cons_succ]
  refine rg_take 1 rfl (by kernel_rfl) (by kernel_rfl) (by kernel_rfl) (fun _ _ _ _ h => h) (by rfl) ⟨.agg n1.cells, fun w' hx => ex_load_row 29 _ rfl (w.heap.size + 1) rfl 29 _ (0, 0) _ ((hx.block _ (lt_of_heap Gd.out)).trans Gd.out) Tryz.underlying29 rfl (ninfo _), ?_⟩
  simp only [Act.put, List.setIfInBounds_toArray, List.set_cons_zero, List.set_cons_succ]
  refine rg_take 3 rfl (by kernel_rfl) (by kernel_rfl) (by kernel_rfl) (fun _ _ _ _ h => h) (by rfl) ⟨_, fun w' hx => by (go_simp <;> with_reducible rfl), ?_⟩
  simp only [Act.put, List.setIfInBounds_toArray, List.set_cons_zero, List.set_cons_succ]
  refine rg_call 2 Hbd.out rfl (by kernel_rfl) (by rfl) (by go_simp) ?_
  rintro e3 w3 ⟨bs, A1, hB1, hB2, rfl, ho3, hb3⟩
  have HB := Lib.hid hB1
  have HB2 := Lib.hid hB2
  have Hb3 := Lib.hid hb3
  have hr3 := ho3.rd'
  have heq := equal_any A1 (some ⟨g, o, none⟩) bs d 243 243 w3 hr3 (hA2.below (Ext.tr (Ext.drew W2) hb3))
  rw [hB2, hl] at heq
  clear hB1 hB2 ho3 hb3 hr3
  refine ⟨_, rfl, Hb3.out, ?_⟩
  simp only [Act.put, List.setIfInBounds_toArray, List.set_cons_zero, List.set_cons_succ]
  refine rg_call 4 heq rfl (by kernel_rfl) (by rfl) (by go_simp) ?_
  rintro e4 w4 ⟨rfl, rfl⟩
  have G3 := (Hb3.out.block _ (lt_of_heap Gd.out)).trans Gd.out
  refine ⟨_, rfl, Ext.refl _, ?_⟩
  simp only [Act.put, List.setIfInBounds_toArray, List.set_cons_zero, List.set_cons_succ]
  refine rg_store 5 rfl (by kernel_rfl) (by kernel_rfl) (by rfl) ⟨_, ex_store_rowS 29 (.tmp 2) (.tmp 69) rfl (w.heap.size + 1) rfl n1.cells rfl _ 29 G3 (ninfo _) rfl (none1 _), ?_⟩
  simp only [Act.put]
  refine rg_take 6 rfl (by kernel_rfl) (by kernel_rfl) (by kernel_rfl) (fun _ _ _ _ h => h) (by rfl) ⟨_, fun w' hx => by (go_simp <;> with_reducible rfl), ?_⟩
  simp only [Act.put, List.setIfInBounds_toArray, List.set_cons_zero, List.set_cons_succ]
  refine rg_done (by kernel_rfl) ?_
  have hgF := setRow_heap w3 (w.heap.size + 1) _ n1.cells _ _ G3
  go_wp2_with fail
  (try simp only [Exit.inBlock, Exit.then])
  refine bodyPost_ret (results_row_tmp rfl _ _ (w.heap.size + 1) 29 n1.cells (0, 0) _ rfl hgF Tryz.underlying29 rfl (ninfo _)) rfl ?_
  have hxF : Ext w w3 := X2.tr ((Ext.drew W2).tr Hb3.out)
  have hbs : bs = n1.x.flat := by have h9 := HB.out; unfold Nd.Body at h9; rwa [if_neg (by rw [show n1.x.kind = n1.kind from rfl, hkind]; decide)] at h9
  rw [setRow_same G3]
  refine ⟨n1, bs == d, rfl, N2.ext ((Ext.drew W2).tr Hb3.out), hxF, fun h => absurd hcl0 h, ?_⟩
  · rw [hbs]
    exact Nd.ReadR.eq (by rfl) HR hkind



set_option maxRecDepth 100000 in
set_option maxHeartbeats 1000000 in
theorem read_4 (lsn g o : Nat) (d : List UInt8) (w : World) (hA : RdB w (some ⟨g, o, none⟩) d) (hl : d.length = 243) (hls : lsn < 18446744073709551616) :
    Calls Tryz.prog 24 #[.agg #[.int .i64 4, .int .u64 (lsn : Int), .slice (some ⟨g, o, none⟩) 243 243]] w (ReadP 4 lsn d w) := by
  have hi := fun n => ninfo n
  have Hls := Lib.hid hls
  clear hls
  obtain ⟨W1, hW1⟩ : ∃ W1, W1 = (w.alloc (.cells #[.int .i64 4, .int .u64 (lsn : Int), .slice (some ⟨g, o, none⟩) 243 243] 50)).alloc (.cells (NdV.mk 4 lsn none [] 0 0 none [] 0 Hd.zero).cells 29) := ⟨_, rfl⟩
  have hx1 : Ext w W1 := by rw [hW1]; exact (Ext.alloc _ _).tr (Ext.alloc _ _)
  have hg1 : W1.heap[w.heap.size + 1]? = some (.cells (NdV.mk 4 lsn none [] 0 0 none [] 0 Hd.zero).cells 29 (0, 0)) := by
    rw [hW1]
    have := heap_alloc_new (w.alloc (.cells #[.int .i64 4, .int .u64 (lsn : Int), .slice (some ⟨g, o, none⟩) 243 243] 50)) (.cells (NdV.mk 4 lsn none [] 0 0 none [] 0 Hd.zero).cells 29)
    simpa using this
  have hlt := lt_of_heap hg1
  have hA1 := hA.below hx1
  have HW := Lib.hid (show (w.alloc (.cells #[.int .i64 4, .int .u64 (lsn : Int), .slice (some ⟨g, o, none⟩) 243 243] 50)).alloc (.cells #[.int .i64 4, .int .u64 (lsn : Int), .slice none 0 0, .int .u32 0, .slice none 0 0, .int .u32 0, .int .u32 0, .int .u32 0, .int .u64 0] 29) = W1 from hW1.symm)
  clear hW1
  have hn0 : Calls Tryz.prog _ #[.slice (some ⟨g, o, none⟩) 243 243, .int .i64 0] W1 _ := number4_any g o 0 d W1 hA1 hl (by omega)
  go_enter Tryz.func24, Tryz.ntmps24
  go_wp2_with (first | (go_at_call 63; rw [HW.out]; refine hn0.mono ?_; rintro e1 w1 ⟨rfl, rfl⟩) | (refine wpList_store_at (by rfl) 24 (.tmp 51) (.tmp 50) rfl ⟨w.heap.size + 1, 3, none⟩ rfl (w.heap.size + 1) 3 rfl (.int .u32 (Nd.num4 d 0 : Int)) rfl #[.int .u32 (Nd.num4 d 0 : Int)] rfl _ 29 hg1 (by kernel_rfl) (by simp [NdV.cells]) (by simp [Value.oneCell']) (NdV.mk 4 lsn none [] 0 (Nd.num4 d 0) none [] 0 Hd.zero).cells rfl ?_; refine Hid.out ?_))
  refine Lib.hid ?_
  obtain ⟨W3, hW3⟩ : ∃ W3, W3 = W1.setRow (w.heap.size + 1) (NdV.mk 4 lsn none [] 0 (Nd.num4 d 0) none [] 0 Hd.zero).cells := ⟨_, rfl⟩
  have G3 : W3.heap[w.heap.size + 1]? = some (.cells (NdV.mk 4 lsn none [] 0 (Nd.num4 d 0) none [] 0 Hd.zero).cells 29 (0, 0)) := by rw [hW3]; exact setRow_heap W1 _ _ _ _ _ hg1
  have X3 : Ext w W3 := by rw [hW3]; exact ext_row hx1 (by omega) _
  rw [← hW3]
  clear hW3 hg1 hx1 hA1 hn0
  have hA3 := hA.below X3
  obtain ⟨ad, e1, hbyte⟩ := hA3.at_ (k := 4) (by omega)
  injection e1 with e1
  subst e1
  rw [Addr.add_lit] at hbyte
  have hb4 : d[4]'(by omega) = d.getD 4 0 := by rw [List.getD_eq_getElem?_getD, List.getElem?_eq_getElem (by omega)]; rfl
  rw [hb4] at hbyte
  have hx256 := (d.getD 4 0).toNat_lt
  have Hdd := Lib.hid (show (d.drop 5).take (d.getD 4 0).toNat = (d.drop 5).take (d.getD 4 0).toNat from rfl)
  obtain ⟨x, hx⟩ : ∃ x, x = (d.getD 4 0).toNat := ⟨_, rfl⟩
  rw [← hx] at hbyte hx256
  have Hx := Lib.hid hx
  clear hx hb4 Hdd
  have hwx : IntKind.i64.wrap (5 + (x : Int)) = 5 + (x : Int) := by rw [IntKind.wrap_i64]; omega
  obtain ⟨y, hy⟩ : ∃ y, y = (d.drop 5).take x := ⟨_, rfl⟩
  have hyl : y.length = min x 238 := by rw [hy, List.length_take, List.length_drop, hl]
  have hyr := hA3.cut (k := 5) (m := 5 + min x 238) (by omega) (by omega) (c := 243) (by omega)
  rw [if_neg (by omega), List.drop_take, show 5 + min x 238 - 5 = min x 238 by omega, show (d.drop 5).take (min x 238) = y by rw [hy, ← List.take_take, List.take_of_length_le (i := 238) (by rw [List.length_drop, hl]; exact Nat.le_refl _)] ] at hyr
  simp only [Option.map_some, Addr.add_lit] at hyr
  have hcl : ∀ M, M = y.length → Calls Tryz.prog 64 #[.slice (some ⟨g, o + 5, none⟩) M 238] W3 fun e w' => ∃ A' c', e = .returned (.slice A' y.length c') ∧ Own w' W3.heap.size 5 1 A' y.length c' (bvs y) ∧ Below W3.heap.size W3 w' := fun M hM => by
    subst hM
    exact clone_any _ y 238 W3 hyr (by omega)
  have Hcl := Lib.hid hcl
  have Hy := Lib.hid hy
  have Hyl := Lib.hid hyl
  have HG3 := Lib.hid G3
  clear hcl hy hyl hyr hA3 G3
  go_wp2_with fail
  all_goals
    refine (Hcl.out _ (by have := Hyl.out; omega)).mono ?_
    rintro e5 w5 ⟨A5, c5, rfl, ho5, hb5⟩
    have G5 := Lib.hid ((hb5.block _ (lt_of_heap HG3.out)).trans HG3.out)
    have Ho5 := Lib.hid ho5
    have Hb5 := Lib.hid hb5
    clear ho5 hb5
    go_wp2_with (refine wpList_store_at (by rfl) 25 (.tmp 63) (.tmp 62) rfl ⟨w.heap.size + 1, 4, none⟩ rfl (w.heap.size + 1) 4 rfl (.slice A5 y.length c5) rfl #[.slice A5 y.length c5] rfl _ 29 G5.out (by kernel_rfl) (by simp [NdV.cells]) (by simp [Value.oneCell']) (NdV.mk 4 lsn none [] 0 (Nd.num4 d 0) A5 y c5 Hd.zero).cells rfl ?_; refine Hid.out ?_)
    refine Lib.hid ?_
    obtain ⟨n1, hn1⟩ : ∃ n1, n1 = NdV.mk 4 lsn none [] 0 (Nd.num4 d 0) A5 y c5 Hd.zero := ⟨_, rfl⟩
    have hkind : n1.kind = 4 := by rw [hn1]
    have hcl0 : n1.cl = [] := by rw [hn1]
    have HDL : n1.kind = 4 → n1.data.length ≤ 238 := fun _ => by rw [hn1]; have := Hyl.out; simp only; omega
    have hO := Ho5.out.setR (w.heap.size + 1) n1.cells (fun k hk e => by
      have h1 := (Ho5.out.row_lt k hk).1
      have h2 := lt_of_heap HG3.out
      omega)
    have HR : n1.x = Nd.rd 4 lsn d := by rw [hn1]; unfold Nd.rd; rw [if_neg (by decide), if_pos rfl, ← Hx.out, ← Hy.out]; rfl
    obtain ⟨W2, hW2⟩ : ∃ W2, W2 = w5.setRow (w.heap.size + 1) n1.cells := ⟨_, rfl⟩
    have N2 : n1.In W2 := by
      rw [← hW2] at hO
      rw [hn1]
      exact ⟨by simp, by simp, Hls.out, RdC.nil_ _ _, by simp, by simp, num4_lt d hl 0 (by omega), hO.rd', hO.nc, (by have := Hyl.out; simp only; omega), hdz_in⟩
    rw [← hn1]
    have G2 : W2.heap[w.heap.size + 1]? = some (.cells n1.cells 29 (0, 0)) := by rw [hW2]; exact setRow_heap w5 _ _ _ _ _ G5.out
    have X2 : Ext w W2 := by rw [hW2]; exact ext_row (Ext.tr X3 Hb5.out) (by omega) _
    rw [← hW2]
    clear hW2 hn1 hO
    go_wp2_with fail
    have hgd := ((Ext.drew W2).block _ (lt_of_heap G2)).trans G2
    have hbd := body_any n1 W2.drew (N2.ext (Ext.drew W2)) (by omega) HDL
    have hA2 := hA.below X2
    have Gd := Lib.hid hgd
    have Hbd := Lib.hid hbd
    clear hgd hbd
    refine rg_start (by kernel_rfl) ?_
    refine rg_take 0 rfl (by kernel_rfl) (by kernel_rfl) (by kernel_rfl) (fun _ _ _ _ h => h) (by rfl) ⟨.agg n1.cells, fun w' hx => ex_load_row 29 _ rfl (w.heap.size + 1) rfl 29 _ (0, 0) _ ((hx.block _ (lt_of_heap Gd.out)).trans Gd.out) Tryz.underlying29 rfl (ninfo _), ?_⟩
    simp only [Act.put, List.setIfInBounds_toArray, List.set_cons_zero, List.set_cons_succ]
    refine rg_take 1 rfl (by kernel_rfl) (by kernel_rfl) (by kernel_rfl) (fun _ _ _ _ h => h) (by rfl) ⟨.agg n1.cells, fun w' hx => ex_load_row 29 _ rfl (w.heap.size + 1) rfl 29 _ (0, 0) _ ((hx.block _ (lt_of_heap Gd.out)).trans Gd.out) Tryz.underlying29 rfl (ninfo _), ?_⟩
    simp only [Act.put, List.setIfInBounds_toArray, List.set_cons_zero, List.set_cons_succ]
    refine rg_take 3 rfl (by kernel_rfl) (by kernel_rfl) (by kernel_rfl) (fun _ _ _ _ h => h) (by rfl) ⟨_, fun w' hx => by (go_simp <;> with_reducible rfl), ?_⟩
    simp only [Act.put, List.setIfInBounds_toArray, List.set_cons_zero, List.set_cons_succ]
    refine rg_call 2 Hbd.out rfl (by kernel_rfl) (by rfl) (by go_simp) ?_
    rintro e3 w3 ⟨bs, A1, hB1, hB2, rfl, ho3, hb3⟩
    have HB := Lib.hid hB1
    have HB2 := Lib.hid hB2
    have Hb3 := Lib.hid hb3
    have hr3 := ho3.rd'
    have heq := equal_any A1 (some ⟨g, o, none⟩) bs d 243 243 w3 hr3 (hA2.below (Ext.tr (Ext.drew W2) hb3))
    rw [hB2, hl] at heq
    clear hB1 hB2 ho3 hb3 hr3
    refine ⟨_, rfl, Hb3.out, ?_⟩
    simp only [Act.put, List.setIfInBounds_toArray, List.set_cons_zero, List.set_cons_succ]
    refine rg_call 4 heq rfl (by kernel_rfl) (by rfl) (by go_simp) ?_
    rintro e4 w4 ⟨rfl, rfl⟩
    have G3 := (Hb3.out.block _ (lt_of_heap Gd.out)).trans Gd.out
    refine ⟨_, rfl, Ext.refl _, ?_⟩
    simp only [Act.put, List.setIfInBounds_toArray, List.set_cons_zero, List.set_cons_succ]
    refine rg_store 5 rfl (by kernel_rfl) (by kernel_rfl) (by rfl) ⟨_, ex_store_rowS 29 (.tmp 2) (.tmp 69) rfl (w.heap.size + 1) rfl n1.cells rfl _ 29 G3 (ninfo _) rfl (none1 _), ?_⟩
    simp only [Act.put]
    refine rg_take 6 rfl (by kernel_rfl) (by kernel_rfl) (by kernel_rfl) (fun _ _ _ _ h => h) (by rfl) ⟨_, fun w' hx => by (go_simp <;> with_reducible rfl), ?_⟩
    simp only [Act.put, List.setIfInBounds_toArray, List.set_cons_zero, List.set_cons_succ]
    refine rg_done (by kernel_rfl) ?_
    have hgF := setRow_heap w3 (w.heap.size + 1) _ n1.cells _ _ G3
    go_wp2_with fail
    (try simp only [Exit.inBlock, Exit.then])
    refine bodyPost_ret (results_row_tmp rfl _ _ (w.heap.size + 1) 29 n1.cells (0, 0) _ rfl hgF Tryz.underlying29 rfl (ninfo _)) rfl ?_
    have hxF : Ext w w3 := X2.tr ((Ext.drew W2).tr Hb3.out)
    have hbs : bs = n1.x.flat := by have h9 := HB.out; unfold Nd.Body at h9; rwa [if_neg (by rw [show n1.x.kind = n1.kind from rfl, hkind]; decide)] at h9
    rw [setRow_same G3]
    refine ⟨n1, bs == d, rfl, N2.ext ((Ext.drew W2).tr Hb3.out), hxF, fun h => absurd hcl0 h, ?_⟩
    · rw [hbs]
      exact Nd.ReadR.eq (by rfl) HR hkind



set_option maxRecDepth 100000 in
set_option maxHeartbeats 1000000 in
theorem read_3 (lsn g o : Nat) (d : List UInt8) (w : World) (hA : RdB w (some ⟨g, o, none⟩) d) (hl : d.length = 243) (hls : lsn < 18446744073709551616) :
    Calls Tryz.prog 24 #[.agg #[.int .i64 3, .int .u64 (lsn : Int), .slice (some ⟨g, o, none⟩) 243 243]] w (ReadP 3 lsn d w) := by
  have hi := fun n => ninfo n
  have Hls := Lib.hid hls
  clear hls
  obtain ⟨W1, hW1⟩ : ∃ W1, W1 = (w.alloc (.cells #[.int .i64 3, .int .u64 (lsn : Int), .slice (some ⟨g, o, none⟩) 243 243] 50)).alloc (.cells (NdV.mk 3 lsn none [] 0 0 none [] 0 Hd.zero).cells 29) := ⟨_, rfl⟩
  have hx1 : Ext w W1 := by rw [hW1]; exact (Ext.alloc _ _).tr (Ext.alloc _ _)
  have hg1 : W1.heap[w.heap.size + 1]? = some (.cells (NdV.mk 3 lsn none [] 0 0 none [] 0 Hd.zero).cells 29 (0, 0)) := by
    rw [hW1]
    have := heap_alloc_new (w.alloc (.cells #[.int .i64 3, .int .u64 (lsn : Int), .slice (some ⟨g, o, none⟩) 243 243] 50)) (.cells (NdV.mk 3 lsn none [] 0 0 none [] 0 Hd.zero).cells 29)
    simpa using this
  have hlt := lt_of_heap hg1
  have hA1 := hA.below hx1
  have HW := Lib.hid (show (w.alloc (.cells #[.int .i64 3, .int .u64 (lsn : Int), .slice (some ⟨g, o, none⟩) 243 243] 50)).alloc (.cells #[.int .i64 3, .int .u64 (lsn : Int), .slice none 0 0, .int .u32 0, .slice none 0 0, .int .u32 0, .int .u32 0, .int .u32 0, .int .u64 0] 29) = W1 from hW1.symm)
  clear hW1
  have hce : Calls Tryz.prog 65 #[.int .i64 3, .slice (some ⟨g, o, none⟩) 243 243] W1 (CellsP 3 d W1) := by
    have := cells_3 (some ⟨g, o, none⟩) d 243 W1 hA1
    rwa [hl] at this
  have Hce := Lib.hid hce
  have HG1 := Lib.hid hg1
  clear hce hg1
  go_enter Tryz.func24, Tryz.ntmps24
  go_wp2_with (go_at_call 65; rw [HW.out]; refine Hid.out ?_)
  refine Lib.hid ?_
  refine Hce.out.mono ?_
  rintro e5 w5 (⟨A5, c5, l, hV, hm, rfl, ho5, hin5, hlen, hx5⟩ | ⟨hno, rfl, hx5⟩)
  · have G5 := Lib.hid ((hx5.block _ (lt_of_heap HG1.out)).trans HG1.out)
    have hO := ho5.setR (w.heap.size + 1) (NdV.mk 3 lsn A5 l c5 0 none [] 0 Hd.zero).cells (fun k hk e => by
      have h1 := (ho5.row_lt k hk).1
      have h2 := lt_of_heap HG1.out
      omega)
    have hcap := ho5.nc
    have Hblk := Lib.hid (own_blk ho5)
    have HO := Lib.hid hO
    have Hin := Lib.hid (fun c (hc : c ∈ l) => (⟨(hin5 c hc).over, (hin5 c hc).kid, (hin5 c hc).lo, (hin5 c hc).hi, (hin5 c hc).kr.setN G5.out (node_noB _) (NdV.mk 3 lsn A5 l c5 0 none [] 0 Hd.zero).cells, (hin5 c hc).vr.setN G5.out (node_noB _) (NdV.mk 3 lsn A5 l c5 0 none [] 0 Hd.zero).cells, (hin5 c hc).kcap, (hin5 c hc).vcap⟩ : c.In (w5.setRow (w.heap.size + 1) (NdV.mk 3 lsn A5 l c5 0 none [] 0 Hd.zero).cells)))
    have HV := Lib.hid hV
    have Hm := Lib.hid hm
    have Hx5 := Lib.hid hx5
    clear hO ho5 hin5 hV hm hx5
    obtain ⟨n1, hn1⟩ : ∃ n1, n1 = NdV.mk 3 lsn A5 l c5 0 none [] 0 Hd.zero := ⟨_, rfl⟩
    have N2 : n1.In (w5.setRow (w.heap.size + 1) n1.cells) := by
      rw [hn1]
      exact ⟨by simp, by simp, Hls.out, ⟨HO.out.rd, Hin.out⟩, hcap, (by simp only; omega), by simp, RdB.nil_ _ _, by simp, by simp, hdz_in⟩
    have X2 : Ext w (w5.setRow (w.heap.size + 1) n1.cells) := ext_row (Ext.tr hx1 Hx5.out) (by omega) _
    have hg2 := setRow_heap w5 (w.heap.size + 1) _ n1.cells _ _ G5.out
    have hne := Lib.hid (show n1.cells = (NdV.mk 3 lsn A5 l c5 0 none [] 0 Hd.zero).cells by rw [hn1])
    have Hn1 := Lib.hid hn1
    have G2 := Lib.hid hg2
    clear hn1 hg2
    go_wp2_with (first | (refine wpList_store_at (by rfl) 23 (.tmp 22) (.tmp 20) rfl ⟨w.heap.size + 1, 2, none⟩ rfl (w.heap.size + 1) 2 rfl (.slice A5 l.length c5) rfl #[.slice A5 l.length c5] rfl _ 29 G5.out (by kernel_rfl) (by simp [NdV.cells]) (by simp [Value.oneCell']) (NdV.mk 3 lsn A5 l c5 0 none [] 0 Hd.zero).cells rfl ?_; rw [← hne.out]; have HE := Lib.hid (setRow_same G2.out)) | (refine wpList_load_rowG (by rfl) 29 (.tmp 2) rfl (w.heap.size + 1) rfl 29 n1.cells (0, 0) _ G2.out Tryz.underlying29 rfl (ninfo _) ?_) | (refine wpList_store_row (by rfl) 29 (.tmp 2) (.tmp 23) rfl (w.heap.size + 1) n1.cells rfl rfl 29 _ G2.out (ninfo _) rfl (none1 _) ?_; rw [HE.out]))
    (try simp only [Exit.inBlock, Exit.then])
    refine bodyPost_ret (results_row_tmp rfl _ _ (w.heap.size + 1) 29 n1.cells (0, 0) _ rfl G2.out Tryz.underlying29 rfl (ninfo _)) rfl ?_
    refine ⟨n1, true, rfl, N2, X2, ?_, ?_⟩
    · rw [Hn1.out]
      exact fun hne ad had => Nat.le_trans hx1.size (Hblk.out (fun e => hne (List.eq_nil_of_length_eq_zero (by show l.length = 0; have h9 := ccs_len l; rw [e] at h9; simp only [List.length_nil] at h9; omega))) ad had)
    rw [Hn1.out]
    refine ⟨rfl, rfl, fun _ => ?_, fun e => by (cases e), fun _ => ⟨rfl, rfl, rfl⟩⟩
    unfold Nd.Told
    rw [if_pos (by decide)]
    refine ⟨HV.out, ?_⟩
    rw [Hm.out]
    simp [NdV.x, List.map_map, Function.comp_def]
  · have G5 := Lib.hid ((hx5.block _ (lt_of_heap HG1.out)).trans HG1.out)
    have Hx5 := Lib.hid hx5
    have Hno := Lib.hid hno
    clear hx5 hno
    obtain ⟨n1, hn1⟩ : ∃ n1, n1 = NdV.mk 3 lsn none [] 0 0 none [] 0 Hd.zero := ⟨_, rfl⟩
    have HE := Lib.hid (setRow_same G5.out)
    have hne := Lib.hid (show n1.cells = (NdV.mk 3 lsn none [] 0 0 none [] 0 Hd.zero).cells by rw [hn1])
    rw [← hne.out] at HE G5
    have Hn1 := Lib.hid hn1
    clear hn1
    go_wp2_with (first | (refine wpList_store_at (by rfl) 23 (.tmp 22) (.tmp 20) rfl ⟨w.heap.size + 1, 2, none⟩ rfl (w.heap.size + 1) 2 rfl (.slice none 0 0) rfl #[.slice none 0 0] rfl n1.cells 29 G5.out (by kernel_rfl) (by show 2 + 1 ≤ 9; omega) (by simp [Value.oneCell']) n1.cells (by rw [hne.out]; rfl) ?_; rw [HE.out]) | (refine wpList_load_rowG (by rfl) 29 (.tmp 2) rfl (w.heap.size + 1) rfl 29 n1.cells (0, 0) _ G5.out Tryz.underlying29 rfl (ninfo _) ?_) | (refine wpList_store_row (by rfl) 29 (.tmp 2) (.tmp 23) rfl (w.heap.size + 1) n1.cells rfl rfl 29 _ G5.out (ninfo _) rfl (none1 _) ?_; rw [HE.out]))
    (try simp only [Exit.inBlock, Exit.then])
    refine bodyPost_ret (results_row_tmp rfl _ _ (w.heap.size + 1) 29 n1.cells (0, 0) _ rfl G5.out Tryz.underlying29 rfl (ninfo _)) rfl ?_
    refine ⟨n1, false, rfl, ?_, Ext.tr hx1 Hx5.out, fun h => absurd (show n1.cl = [] by rw [Hn1.out]) h, ?_⟩
    · rw [Hn1.out]
      exact ⟨by simp, by simp, Hls.out, RdC.nil_ _ _, by simp, by simp, by simp, RdB.nil_ _ _, by simp, by simp, hdz_in⟩
    · rw [Hn1.out]
      refine ⟨rfl, rfl, fun e => by (cases e), fun _ m _ ht => ?_, fun _ => ⟨rfl, rfl, rfl⟩⟩
      unfold Nd.Told at ht
      rw [if_pos (by decide)] at ht
      exact Hno.out m.cells ht


set_option maxRecDepth 100000 in
set_option maxHeartbeats 1000000 in
theorem read_2 (lsn g o : Nat) (d : List UInt8) (w : World) (hA : RdB w (some ⟨g, o, none⟩) d) (hl : d.length = 243) (hls : lsn < 18446744073709551616) :
    Calls Tryz.prog 24 #[.agg #[.int .i64 2, .int .u64 (lsn : Int), .slice (some ⟨g, o, none⟩) 243 243]] w (ReadP 2 lsn d w) := by
  have hi := fun n => ninfo n
  have Hls := Lib.hid hls
  clear hls
  obtain ⟨W1, hW1⟩ : ∃ W1, W1 = (w.alloc (.cells #[.int .i64 2, .int .u64 (lsn : Int), .slice (some ⟨g, o, none⟩) 243 243] 50)).alloc (.cells (NdV.mk 2 lsn none [] 0 0 none [] 0 Hd.zero).cells 29) := ⟨_, rfl⟩
  have hx1 : Ext w W1 := by rw [hW1]; exact (Ext.alloc _ _).tr (Ext.alloc _ _)
  have hg1 : W1.heap[w.heap.size + 1]? = some (.cells (NdV.mk 2 lsn none [] 0 0 none [] 0 Hd.zero).cells 29 (0, 0)) := by
    rw [hW1]
    have := heap_alloc_new (w.alloc (.cells #[.int .i64 2, .int .u64 (lsn : Int), .slice (some ⟨g, o, none⟩) 243 243] 50)) (.cells (NdV.mk 2 lsn none [] 0 0 none [] 0 Hd.zero).cells 29)
    simpa using this
  have hlt := lt_of_heap hg1
  have hA1 := hA.below hx1
  have HW := Lib.hid (show (w.alloc (.cells #[.int .i64 2, .int .u64 (lsn : Int), .slice (some ⟨g, o, none⟩) 243 243] 50)).alloc (.cells #[.int .i64 2, .int .u64 (lsn : Int), .slice none 0 0, .int .u32 0, .slice none 0 0, .int .u32 0, .int .u32 0, .int .u32 0, .int .u64 0] 29) = W1 from hW1.symm)
  clear hW1
  have hce : Calls Tryz.prog 65 #[.int .i64 2, .slice (some ⟨g, o, none⟩) 243 243] W1 (CellsP 2 d W1) := by
    have := cells_2 (some ⟨g, o, none⟩) d 243 W1 hA1
    rwa [hl] at this
  have Hce := Lib.hid hce
  have HG1 := Lib.hid hg1
  clear hce hg1
  go_enter Tryz.func24, Tryz.ntmps24
  go_wp2_with (go_at_call 65; rw [HW.out]; refine Hid.out ?_)
  refine Lib.hid ?_
  refine Hce.out.mono ?_
  rintro e5 w5 (⟨A5, c5, l, hV, hm, rfl, ho5, hin5, hlen, hx5⟩ | ⟨hno, rfl, hx5⟩)
  · have G5 := Lib.hid ((hx5.block _ (lt_of_heap HG1.out)).trans HG1.out)
    have hO := ho5.setR (w.heap.size + 1) (NdV.mk 2 lsn A5 l c5 0 none [] 0 Hd.zero).cells (fun k hk e => by
      have h1 := (ho5.row_lt k hk).1
      have h2 := lt_of_heap HG1.out
      omega)
    have hcap := ho5.nc
    have Hblk := Lib.hid (own_blk ho5)
    have HO := Lib.hid hO
    have Hin := Lib.hid (fun c (hc : c ∈ l) => (⟨(hin5 c hc).over, (hin5 c hc).kid, (hin5 c hc).lo, (hin5 c hc).hi, (hin5 c hc).kr.setN G5.out (node_noB _) (NdV.mk 2 lsn A5 l c5 0 none [] 0 Hd.zero).cells, (hin5 c hc).vr.setN G5.out (node_noB _) (NdV.mk 2 lsn A5 l c5 0 none [] 0 Hd.zero).cells, (hin5 c hc).kcap, (hin5 c hc).vcap⟩ : c.In (w5.setRow (w.heap.size + 1) (NdV.mk 2 lsn A5 l c5 0 none [] 0 Hd.zero).cells)))
    have HV := Lib.hid hV
    have Hm := Lib.hid hm
    have Hx5 := Lib.hid hx5
    clear hO ho5 hin5 hV hm hx5
    obtain ⟨n1, hn1⟩ : ∃ n1, n1 = NdV.mk 2 lsn A5 l c5 0 none [] 0 Hd.zero := ⟨_, rfl⟩
    have N2 : n1.In (w5.setRow (w.heap.size + 1) n1.cells) := by
      rw [hn1]
      exact ⟨by simp, by simp, Hls.out, ⟨HO.out.rd, Hin.out⟩, hcap, (by simp only; omega), by simp, RdB.nil_ _ _, by simp, by simp, hdz_in⟩
    have X2 : Ext w (w5.setRow (w.heap.size + 1) n1.cells) := ext_row (Ext.tr hx1 Hx5.out) (by omega) _
    have hg2 := setRow_heap w5 (w.heap.size + 1) _ n1.cells _ _ G5.out
    have hne := Lib.hid (show n1.cells = (NdV.mk 2 lsn A5 l c5 0 none [] 0 Hd.zero).cells by rw [hn1])
    have Hn1 := Lib.hid hn1
    have G2 := Lib.hid hg2
    clear hn1 hg2
    go_wp2_with (first | (refine wpList_store_at (by rfl) 23 (.tmp 22) (.tmp 20) rfl ⟨w.heap.size + 1, 2, none⟩ rfl (w.heap.size + 1) 2 rfl (.slice A5 l.length c5) rfl #[.slice A5 l.length c5] rfl _ 29 G5.out (by kernel_rfl) (by simp [NdV.cells]) (by simp [Value.oneCell']) (NdV.mk 2 lsn A5 l c5 0 none [] 0 Hd.zero).cells rfl ?_; rw [← hne.out]; have HE := Lib.hid (setRow_same G2.out)) | (refine wpList_load_rowG (by rfl) 29 (.tmp 2) rfl (w.heap.size + 1) rfl 29 n1.cells (0, 0) _ G2.out Tryz.underlying29 rfl (ninfo _) ?_) | (refine wpList_store_row (by rfl) 29 (.tmp 2) (.tmp 23) rfl (w.heap.size + 1) n1.cells rfl rfl 29 _ G2.out (ninfo _) rfl (none1 _) ?_; rw [HE.out]))
    (try simp only [Exit.inBlock, Exit.then])
    refine bodyPost_ret (results_row_tmp rfl _ _ (w.heap.size + 1) 29 n1.cells (0, 0) _ rfl G2.out Tryz.underlying29 rfl (ninfo _)) rfl ?_
    refine ⟨n1, true, rfl, N2, X2, ?_, ?_⟩
    · rw [Hn1.out]
      exact fun hne ad had => Nat.le_trans hx1.size (Hblk.out (fun e => hne (List.eq_nil_of_length_eq_zero (by show l.length = 0; have h9 := ccs_len l; rw [e] at h9; simp only [List.length_nil] at h9; omega))) ad had)
    rw [Hn1.out]
    refine ⟨rfl, rfl, fun _ => ?_, fun e => by (cases e), fun _ => ⟨rfl, rfl, rfl⟩⟩
    unfold Nd.Told
    rw [if_pos (by decide)]
    refine ⟨HV.out, ?_⟩
    rw [Hm.out]
    simp [NdV.x, List.map_map, Function.comp_def]
  · have G5 := Lib.hid ((hx5.block _ (lt_of_heap HG1.out)).trans HG1.out)
    have Hx5 := Lib.hid hx5
    have Hno := Lib.hid hno
    clear hx5 hno
    obtain ⟨n1, hn1⟩ : ∃ n1, n1 = NdV.mk 2 lsn none [] 0 0 none [] 0 Hd.zero := ⟨_, rfl⟩
    have HE := Lib.hid (setRow_same G5.out)
    have hne := Lib.hid (show n1.cells = (NdV.mk 2 lsn none [] 0 0 none [] 0 Hd.zero).cells by rw [hn1])
    rw [← hne.out] at HE G5
    have Hn1 := Lib.hid hn1
    clear hn1
    go_wp2_with (first | (refine wpList_store_at (by rfl) 23 (.tmp 22) (.tmp 20) rfl ⟨w.heap.size + 1, 2, none⟩ rfl (w.heap.size + 1) 2 rfl (.slice none 0 0) rfl #[.slice none 0 0] rfl n1.cells 29 G5.out (by kernel_rfl) (by show 2 + 1 ≤ 9; omega) (by simp [Value.oneCell']) n1.cells (by rw [hne.out]; rfl) ?_; rw [HE.out]) | (refine wpList_load_rowG (by rfl) 29 (.tmp 2) rfl (w.heap.size + 1) rfl 29 n1.cells (0, 0) _ G5.out Tryz.underlying29 rfl (ninfo _) ?_) | (refine wpList_store_row (by rfl) 29 (.tmp 2) (.tmp 23) rfl (w.heap.size + 1) n1.cells rfl rfl 29 _ G5.out (ninfo _) rfl (none1 _) ?_; rw [HE.out]))
    (try simp only [Exit.inBlock, Exit.then])
    refine bodyPost_ret (results_row_tmp rfl _ _ (w.heap.size + 1) 29 n1.cells (0, 0) _ rfl G5.out Tryz.underlying29 rfl (ninfo _)) rfl ?_
    refine ⟨n1, false, rfl, ?_, Ext.tr hx1 Hx5.out, fun h => absurd (show n1.cl = [] by rw [Hn1.out]) h, ?_⟩
    · rw [Hn1.out]
      exact ⟨by simp, by simp, Hls.out, RdC.nil_ _ _, by simp, by simp, by simp, RdB.nil_ _ _, by simp, by simp, hdz_in⟩
    · rw [Hn1.out]
      refine ⟨rfl, rfl, fun e => by (cases e), fun _ m _ ht => ?_, fun _ => ⟨rfl, rfl, rfl⟩⟩
      unfold Nd.Told at ht
      rw [if_pos (by decide)] at ht
      exact Hno.out m.cells ht
end Go.Proofs.YtkpagmfaccmiaaaGreat

/- Contract: Get (layer 08). Printed by wip/tools/gen_nds08.py. -/

namespace Go.Proofs.YtkpagmfaccmiaaaGreat

open Go.RowKit

attribute [local go_sem] Oper.semAt_some

theorem read_any (k : Int) (hk : 1 ≤ k ∧ k ≤ 5) (lsn g o : Nat) (d : List UInt8) (w : World) (hA : RdB w (some ⟨g, o, none⟩) d) (hl : d.length = 243) (hls : lsn < 18446744073709551616) :
    Calls Tryz.prog 24 #[.agg #[.int .i64 k, .int .u64 (lsn : Int), .slice (some ⟨g, o, none⟩) 243 243]] w (ReadP k lsn d w) := by
  by_cases k1 : k = 1
  · subst k1; exact read_1 lsn g o d w hA hl hls
  by_cases k2 : k = 2
  · subst k2; exact read_2 lsn g o d w hA hl hls
  by_cases k3 : k = 3
  · subst k3; exact read_3 lsn g o d w hA hl hls
  by_cases k4 : k = 4
  · subst k4; exact read_4 lsn g o d w hA hl hls
  by_cases k5 : k = 5
  · subst k5; exact read_5 lsn g o d w hA hl hls
  exfalso; omega
/-- What is told with the rest empty, and a node of which the same is told that may be: the same. -/
theorem Nd.ReadR.same {k : Int} {lsn : Nat} {d : List UInt8} {n : Nd} {ok : Bool} (h : Nd.ReadR k lsn d n ok) (hok : ok = true) {m : Nd} (hm : m.ok = true) (hk : m.kind = k) (hl : m.lsn = lsn) (ht : Nd.Told k d m) : m = n := by
  have hn := h.yes hok
  unfold Nd.Told at hn ht
  by_cases hc : Nd.hasC k = true
  · rw [if_pos hc] at hn ht
    have hcells : m.cells = n.cells := by
      have h1 := ht.2.symm.trans hn.2
      have h2 := congrArg (List.map Prod.fst) h1
      simpa [List.map_map, Function.comp_def] using h2
    have hp := Nd.plain_of (Nd.ok_plain' hm)
    obtain ⟨r1, r2, r3⟩ := h.rest hc
    have hkk : m.kind ≠ 1 ∧ m.kind ≠ 4 ∧ m.kind ≠ 5 := by rw [hk]; rcases (Nd.hasC_iff _).1 hc with h | h <;> omega
    have h1 := h.kd
    have h2 := h.ls
    obtain ⟨a1, a2, a3, a4, a5, a6⟩ := m
    obtain ⟨b1, b2, b3, b4, b5, b6⟩ := n
    simp only [Nd.mk.injEq] at *
    refine ⟨by rw [hk, h1], by rw [hl, h2], hcells, ?_, ?_, ?_⟩
    · rw [r1]; rcases hp.2.2.2 with h | h | h
      · omega
      · omega
      · exact h
    · rw [r2]; rcases hp.2.2.1 with h | h
      · omega
      · exact h
    · rw [r3]; rcases hp.1 with h | h
      · omega
      · exact h
  · rw [if_neg hc] at hn ht
    rw [ht.1, hn.1, hl, h.ls]
def GetP (b : List UInt8) (w : World) (e : Ending) (w' : World) : Prop := ∃ (m : NdV) (code : Nat), e = .returned (.tuple #[.agg m.cells, .int .i64 (code : Int)]) ∧ m.In w' ∧ Ext w w' ∧ code < 1000 ∧ ((code = 0 ∧ Nd.Says b m.x) ∨ (code ≠ 0 ∧ m.x = Nd.zero ∧ ∀ n, ¬ Nd.Says b n))
theorem err_lt (b : List UInt8) : Pg.err b < 1000 := by
  unfold Pg.err
  split
  · split
    · split <;> omega
    · omega
  · omega
theorem pinfo5 : (Tryz.prog.info? 50).map (·.size) = some 3 := by kernel_rfl

set_option maxRecDepth 100000 in
set_option maxHeartbeats 1000000 in
theorem nget_any (A : Option Addr) (b : List UInt8) (c : Nat) (w : World) (hA : RdB w A b) (hc : b.length ≤ c) : Calls Tryz.prog 11 #[.slice A b.length c] w (GetP b w) := by
  have hx0 := Ext.alloc w (.cells NdV.zero.cells 29)
  have g0 := heap_alloc_new w (.cells NdV.zero.cells 29)
  have hop := open_any2 A b c _ (hA.below hx0) hc
  have He := Lib.hid (err_lt b)
  obtain ⟨W0, hW0⟩ : ∃ W0, W0 = w.alloc (.cells NdV.zero.cells 29) := ⟨_, rfl⟩
  rw [← hW0] at hx0 g0 hop
  have HW0 := Lib.hid (show w.alloc (.cells #[.int .i64 0, .int .u64 0, .slice none 0 0, .int .u32 0, .slice none 0 0, .int .u32 0, .int .u32 0, .int .u32 0, .int .u64 0] 29) = W0 from hW0.symm)
  clear hW0
  obtain ⟨er, her⟩ : ∃ er, er = Pg.err b := ⟨_, rfl⟩
  rw [← her] at hop
  have Her := Lib.hid her
  clear her
  by_cases hz : er = 0
  · subst hz
    have hpe : Pg.err b = 0 := Her.out.symm
    have hparts : Pg.parts b = (((b.headD 0).toNat : Int), Vint.number ((b.drop 1).take 8), (b.take 252).drop 9) := by unfold Pg.parts; rw [if_pos hpe]
    have hbl : b.length = 256 ∧ isKind (b.headD 0).toNat = true := by
      unfold Pg.err at hpe
      by_cases h1 : b.length = 256
      · rw [if_pos h1] at hpe
        by_cases h2 : Crc.ok b = true
        · rw [if_pos h2] at hpe
          by_cases h3 : isKind (b.headD 0).toNat = true
          · exact ⟨h1, h3⟩
          · rw [if_neg h3] at hpe; cases hpe
        · rw [if_neg h2] at hpe; cases hpe
      · rw [if_neg h1] at hpe; cases hpe
    have hdl : ((b.take 252).drop 9).length = 243 := by rw [List.length_drop, List.length_take]; omega
    have hlsn := Vint.number_lt ((b.drop 1).take 8)
    have hkk : 1 ≤ ((b.headD 0).toNat : Int) ∧ ((b.headD 0).toNat : Int) ≤ 5 := by have := hbl.2; unfold isKind at this; simpa using this
    obtain ⟨k0, hk⟩ : ∃ k, k = ((b.headD 0).toNat : Int) := ⟨_, rfl⟩
    obtain ⟨lsn0, hln⟩ : ∃ lsn, lsn = Vint.number ((b.drop 1).take 8) := ⟨_, rfl⟩
    obtain ⟨d0, hd⟩ : ∃ d, d = (b.take 252).drop 9 := ⟨_, rfl⟩
    rw [← hk, ← hln, ← hd] at hparts
    rw [← hk] at hkk
    rw [← hln] at hlsn
    rw [← hd] at hdl
    rw [hparts] at hop
    have Hparts := Lib.hid hparts
    have Hpe := Lib.hid hpe
    have Hop := Lib.hid hop
    have Hdl := Lib.hid hdl
    clear hk hln hd hparts hbl hpe hop hdl
    go_enter Tryz.func11, Tryz.ntmps11
    go_wp2_with (go_at_call 23; rw [HW0.out]; refine Hid.out ?_)
    refine Lib.hid ?_
    refine Hop.out.mono ?_
    rintro e1 w1 ⟨⟨k, lsn, qa, d, qc⟩, rfl, ⟨e1, e2, e3⟩, hr1, hq, hx1⟩
    simp only at e1 e2 e3
    obtain ⟨hqc, g, o, hqa⟩ := hq trivial
    simp only at hqc hqa hr1
    subst e1
    subst e2
    subst e3
    subst hqc
    subst hqa
    rw [show (⟨k, lsn, some ⟨g, o, none⟩, d, 243⟩ : Pg).val = .agg #[.int .i64 k, .int .u64 (lsn : Int), .slice (some ⟨g, o, none⟩) 243 243] by rw [Pg.val, Hdl.out]]
    have hx1a := Ext.tr hx1 (Ext.alloc w1 (.cells #[.int .i64 k, .int .u64 (lsn : Int), .slice (some ⟨g, o, none⟩) 243 243] 50))
    have hrd := read_any k hkk lsn g o d (w1.alloc (.cells #[.int .i64 k, .int .u64 (lsn : Int), .slice (some ⟨g, o, none⟩) 243 243] 50)) (hr1.below (Ext.alloc _ _)) Hdl.out hlsn
    have gp := heap_alloc_new w1 (.cells #[.int .i64 k, .int .u64 (lsn : Int), .slice (some ⟨g, o, none⟩) 243 243] 50)
    have Hrd := Lib.hid hrd
    have Hx1 := Lib.hid hx1a
    have G0 := Lib.hid g0
    have Hx0 := Lib.hid hx0
    clear hrd hx1a hx1 hr1 g0 hx0 hq
    go_wp2_with (first | (refine wpList_load_rowG (by rfl) 50 (.tmp 4) rfl w1.heap.size rfl 50 #[.int .i64 k, .int .u64 (lsn : Int), .slice (some ⟨g, o, none⟩) 243 243] (0, 0) _ gp Tryz.underlying50 rfl pinfo5 ?_) | (go_at_call 24; refine Hrd.out.mono ?_; rintro e2 w2 ⟨n, ok, rfl, hin, hx2, hblk, hR⟩; have Hx2 := Lib.hid (Hx1.out.tr hx2); have Hin := Lib.hid hin; have HR := Lib.hid hR; have Hblk := Lib.hid hblk; clear hx2 hin hR hblk; refine Hid.out ?_))
    refine Lib.hid ?_
    have hx3 := Hx2.out.tr (Ext.alloc w2 (.cells n.cells 29))
    have gn := heap_alloc_new w2 (.cells n.cells 29)
    have G3 := Lib.hid ((hx3.block _ (lt_of_heap G0.out)).trans G0.out)
    have Hx3 := Lib.hid (Hx0.out.tr hx3)
    have HE := Lib.hid (setRow_same G3.out)
    have hno : (ok = false ∨ n.x.ok = false) → ∀ m, ¬ Nd.Says b m := by
      intro hbad m hm
      obtain ⟨d2, hp, ht⟩ := hm.parts
      rw [Hparts.out] at hp
      simp only [Prod.mk.injEq] at hp
      obtain ⟨p1, p2, p3⟩ := hp
      rw [← p3, ← p1] at ht
      cases ok with
      | false => exact HR.out.no rfl m p2.symm ht
      | true =>
        rcases hbad with hbad | hbad
        · cases hbad
        · have := HR.out.same rfl hm.ok p1.symm p2.symm ht
          rw [← this, hm.ok] at hbad
          cases hbad
    have Hno := Lib.hid hno
    clear hno hx3
    cases ok with
    | false =>
      go_wp2_with (first | (refine wpList_store_row (by rfl) 29 (.tmp 6) (.tmp 20) rfl w2.heap.size n.cells rfl rfl 29 _ (heap_alloc_new w2 _) (ninfo _) (by rfl) (none1 _) ?_; rw [setRow_alloc]) | (refine wpList_store_row (by rfl) 29 (.tmp 2) (.tmp 29) rfl w.heap.size NdV.zero.cells rfl rfl 29 _ G3.out (ninfo _) (by rfl) (none1 _) ?_; rw [HE.out]))
      (try simp only [Exit.inBlock, Exit.then])
      refine bodyPost_ret (results_row_tmp rfl _ _ w.heap.size 29 NdV.zero.cells (0, 0) _ rfl G3.out Tryz.underlying29 rfl (ninfo _)) rfl ?_
      exact ⟨NdV.zero, 80, rfl, NdV.zero_in _, Hx3.out, by omega, .inr ⟨by decide, rfl, Hno.out (.inl (by first | rfl | trivial))⟩⟩
    | true =>
      have hisn := isNode_any n _ (Hin.out.ext (Ext.alloc w2 (.cells n.cells 29)))
      cases hnk : n.x.ok with
      | false =>
        rw [hnk] at hisn
        have Hnk := Lib.hid hnk
        clear hnk
        go_wp2_with (first | (refine wpList_store_row (by rfl) 29 (.tmp 6) (.tmp 20) rfl w2.heap.size n.cells rfl rfl 29 _ (heap_alloc_new w2 _) (ninfo _) (by rfl) (none1 _) ?_; rw [setRow_alloc]) | (refine wpList_load_rowG (by rfl) 29 (.tmp 6) rfl w2.heap.size rfl 29 n.cells (0, 0) _ gn Tryz.underlying29 rfl (ninfo _) ?_) | (go_at_call 14; refine hisn.mono ?_; rintro e3 w3 ⟨rfl, hx4⟩; have G4 := Lib.hid ((hx4.block _ (lt_of_heap G3.out)).trans G3.out); have HE4 := Lib.hid (setRow_same G4.out); have Hx4 := Lib.hid hx4; clear hx4) | (refine wpList_store_row (by rfl) 29 (.tmp 2) (.tmp 29) rfl w.heap.size NdV.zero.cells rfl rfl 29 _ G4.out (ninfo _) (by rfl) (none1 _) ?_; rw [HE4.out]))
        (try simp only [Exit.inBlock, Exit.then])
        refine bodyPost_ret (results_row_tmp rfl _ _ w.heap.size 29 NdV.zero.cells (0, 0) _ rfl G4.out Tryz.underlying29 rfl (ninfo _)) rfl ?_
        exact ⟨NdV.zero, 80, rfl, NdV.zero_in _, Hx3.out.tr Hx4.out, by omega, .inr ⟨by decide, rfl, Hno.out (.inr Hnk.out)⟩⟩
      | true =>
        rw [hnk] at hisn
        have Hnk := Lib.hid hnk
        clear hnk
        go_wp2_with (first | (refine wpList_store_row (by rfl) 29 (.tmp 6) (.tmp 20) rfl w2.heap.size n.cells rfl rfl 29 _ (heap_alloc_new w2 _) (ninfo _) (by rfl) (none1 _) ?_; rw [setRow_alloc]) | (refine wpList_load_rowG (by rfl) 29 (.tmp 6) rfl w2.heap.size rfl 29 n.cells (0, 0) _ gn Tryz.underlying29 rfl (ninfo _) ?_) | (go_at_call 14; refine hisn.mono ?_; rintro e3 w3 ⟨rfl, hx4⟩; have G4 := Lib.hid ((hx4.block _ (lt_of_heap G3.out)).trans G3.out); have gn4 := (hx4.block _ (lt_of_heap gn)).trans gn; have Hx4 := Lib.hid hx4; clear hx4) | (refine wpList_load_rowG (by rfl) 29 (.tmp 6) rfl w2.heap.size rfl 29 n.cells (0, 0) _ gn4 Tryz.underlying29 rfl (ninfo _) ?_) | (refine wpList_store_row (by rfl) 29 (.tmp 2) (.tmp 30) rfl w.heap.size n.cells rfl rfl 29 _ G4.out (ninfo _) (by rfl) (none1 _) ?_))
        have hgF := setRow_heap w3 w.heap.size _ n.cells _ _ G4.out
        (try simp only [Exit.inBlock, Exit.then])
        refine bodyPost_ret (results_row_tmp rfl _ _ w.heap.size 29 n.cells (0, 0) _ rfl hgF Tryz.underlying29 rfl (ninfo _)) rfl ?_
        have hIn3 := Hin.out.ext ((Ext.alloc w2 (.cells n.cells 29)).tr Hx4.out)
        refine ⟨n, 0, rfl, hIn3.setN G4.out (node_noB _) (fun hne ad had => ?_) _, ext_row (Hx3.out.tr Hx4.out) (Nat.le_refl _) _, by omega, .inl ⟨rfl, Hpe.out, Hnk.out, d, ?_, ?_⟩⟩
        · have h1 := Hblk.out hne ad had
          have h2 := lt_of_heap G0.out
          have h3 := Hx1.out.size
          omega
        · rw [Hparts.out, HR.out.kd, HR.out.ls]
        · rw [HR.out.kd]
          exact HR.out.yes rfl
  · have hnz : ¬ (er : Int) = 0 := by omega
    have Hop := Lib.hid hop
    have Hz := Lib.hid hz
    have G0 := Lib.hid g0
    have Hx0 := Lib.hid hx0
    clear hop hz g0 hx0
    go_enter Tryz.func11, Tryz.ntmps11
    go_wp2_with (go_at_call 23; rw [HW0.out]; refine Hid.out ?_)
    refine Lib.hid ?_
    refine Hop.out.mono ?_
    rintro e1 w1 ⟨q, rfl, _, _, _, hx1⟩
    rw [show q.val = .agg #[.int .i64 q.kind, .int .u64 (q.lsn : Int), .slice q.a q.body.length q.c] from rfl]
    have hx1a := Ext.tr hx1 (Ext.alloc w1 (.cells #[.int .i64 q.kind, .int .u64 (q.lsn : Int), .slice q.a q.body.length q.c] 50))
    have G1 := Lib.hid ((hx1a.block _ (lt_of_heap G0.out)).trans G0.out)
    have HE := Lib.hid (setRow_same G1.out)
    have Hx1 := Lib.hid (Hx0.out.tr hx1a)
    clear hx1 hx1a
    go_wp2_with (refine wpList_store_row (by rfl) 29 (.tmp 2) (.tmp 15) rfl w.heap.size NdV.zero.cells rfl rfl 29 _ G1.out (ninfo _) (by rfl) (none1 _) ?_; rw [HE.out])
    (try simp only [Exit.inBlock, Exit.then])
    refine bodyPost_ret (results_row_tmp rfl _ _ w.heap.size 29 NdV.zero.cells (0, 0) _ rfl G1.out Tryz.underlying29 rfl (ninfo _)) rfl ?_
    refine ⟨NdV.zero, er, rfl, NdV.zero_in _, Hx1.out, by rw [Her.out]; exact He.out, .inr ⟨Hz.out, rfl, fun m hm => ?_⟩⟩
    exact Hz.out (by rw [Her.out]; exact hm.err)
end Go.Proofs.YtkpagmfaccmiaaaGreat

/- Contracts: scowlaw08.num, small, live (layer 08). Printed by wip/tools/gen_ndw08.py. -/

namespace Go.Proofs.YtkpagmfaccmiaaaGreat

open Go.RowKit

attribute [local go_sem] Oper.semAt_some

theorem num08 (v : Int) (w : World) : Calls Tryz.prog 10 #[.int .i64 v] w fun e w' => e = .returned (.int .i64 v) ∧ w = w' := by
  go_enter Tryz.func10, Tryz.ntmps10
  go_wp2
  go_ret
  exact ⟨rfl, rfl⟩
/-- A node as an argument. -/
structure NdV.Arg (w : World) (n : NdV) : Prop where
  lo : -9223372036854775808 ≤ n.kind
  hi : n.kind ≤ 9223372036854775807
  lsn : n.lsn < 18446744073709551616
  cr : RdC w n.ca n.cl
  ccap : n.cl.length ≤ n.cc
  next : n.next < 4294967296
  dr : RdB w n.da n.data
  dcap : n.data.length ≤ n.dc
  head : n.head.In
theorem NdV.Arg.ext {w w' : World} {n : NdV} (h : n.Arg w) (hb : Ext w w') : n.Arg w' := ⟨h.lo, h.hi, h.lsn, h.cr.below hb, h.ccap, h.next, h.dr.below hb, h.dcap, h.head⟩
theorem NdV.Arg.in_ {w : World} {n : NdV} (h : n.Arg w) (h1 : n.cl.length ≤ 150) (h2 : n.data.length ≤ 2000) : n.In w := ⟨h.lo, h.hi, h.lsn, h.cr, h.ccap, by omega, h.next, h.dr, h.dcap, by omega, h.head⟩
def liveN (A B C D : Option Addr) : NdV := ⟨3, 3, A, [⟨B, 1, C, 1, ⟨[97], 1, [120], 0, 0⟩⟩, ⟨D, 1, none, 0, ⟨[98], 0, [], 0, 0⟩⟩], 2, 0, none, [], 0, Hd.zero⟩
def liveX : Nd := ⟨3, 3, [⟨[97], 1, [120], 0, 0⟩, ⟨[98], 0, [], 0, 0⟩], 0, [], Hd.zero⟩
theorem heap_at (w : World) (o : Obj) (i : Nat) : (w.alloc o).heap[i]? = if i = w.heap.size then some o else w.heap[i]? := by
  show (w.heap.push o)[i]? = _
  rw [Array.getElem?_push]
set_option maxRecDepth 100000 in
set_option maxHeartbeats 1000000 in
theorem live08 (w : World) : Calls Tryz.prog 5 #[] w fun e w' => e = .returned (.bool true) ∧ Below w.heap.size w w' := by
  have kc := convC (P := Tryz.prog) Tryz.underlying25 Tryz.underlying5
  go_enter Tryz.func5, Tryz.ntmps5
  go_wp2_with fail
  obtain ⟨n, hn⟩ : ∃ n, n = liveN (some ⟨w.heap.size + 1 + 1 + 1, 0, none⟩) (some ⟨w.heap.size, 0, none⟩) (some ⟨w.heap.size + 1, 0, none⟩) (some ⟨w.heap.size + 1 + 1, 0, none⟩) := ⟨_, rfl⟩
  have HC : n.cells = #[.int .i64 3, .int .u64 3, .slice (some ⟨w.heap.size + 1 + 1 + 1, 0, none⟩) 2 2, .int .u32 0, .slice none 0 0, .int .u32 0, .int .u32 0, .int .u32 0, .int .u64 0] := by rw [hn]; rfl
  rw [← HC]
  obtain ⟨V1, hV1⟩ : ∃ V1, V1 = (((w.alloc (.cells #[.int .u8 97] 5 (1, 2))).alloc (.cells #[.int .u8 120] 5 (1, 2))).alloc (.cells #[.int .u8 98] 5 (1, 2))).alloc (.cells #[.slice (some ⟨w.heap.size, 0, none⟩) 1 1, .int .i64 1, .slice (some ⟨w.heap.size + 1, 0, none⟩) 1 1, .int .u32 0, .int .u32 0, .slice (some ⟨w.heap.size + 1 + 1, 0, none⟩) 1 1, .int .i64 0, .slice none 0 0, .int .u32 0, .int .u32 0] 43) := ⟨_, rfl⟩
  have hxv : Ext w V1 := by rw [hV1]; exact (Ext.alloc _ _).tr ((Ext.alloc _ _).tr ((Ext.alloc _ _).tr (Ext.alloc _ _)))
  have hs : V1.heap.size = w.heap.size + 1 + 1 + 1 + 1 := by rw [hV1]; simp
  have e0 : V1.heap[w.heap.size]? = some (.cells (bvs [97]).toArray 5 (1, 2)) := by rw [hV1]; simp only [heap_at, World.size_alloc]; rw [if_neg (by omega), if_neg (by omega), if_neg (by omega), if_true]; rfl
  have e1 : V1.heap[w.heap.size + 1]? = some (.cells (bvs [120]).toArray 5 (1, 2)) := by rw [hV1]; simp only [heap_at, World.size_alloc]; rw [if_neg (by omega), if_neg (by omega), if_true]; rfl
  have e2 : V1.heap[w.heap.size + 1 + 1]? = some (.cells (bvs [98]).toArray 5 (1, 2)) := by rw [hV1]; simp only [heap_at, World.size_alloc]; rw [if_neg (by omega), if_true]; rfl
  have e3 : V1.heap[w.heap.size + 1 + 1 + 1]? = some (.cells (ccs n.cl).toArray 43 (0, 0)) := by rw [hV1, hn]; simp only [heap_at, World.size_alloc]; rw [if_true]; rfl
  have rdr : ∀ (g : Nat) (bs : List UInt8), V1.heap[g]? = some (.cells (bvs bs).toArray 5 (1, 2)) → RdB V1 (some ⟨g, 0, none⟩) bs := fun g bs h => ⟨by rw [bvs_len]; omega, fun _ => ⟨_, rfl, fun j u hj => by rw [Addr.add_lit, cell_of_row V1 g _ _ _ _ h]; simpa using hj⟩⟩
  have hin : n.In V1 := by
    have hrd : RdC V1 n.ca n.cl := by
      refine ⟨⟨ccs_len _, fun _ => ⟨⟨w.heap.size + 1 + 1 + 1, 0, none⟩, by rw [hn]; rfl, fun j u hj => ?_⟩⟩, ?_⟩
      · rw [Addr.add_lit, cell_of_row V1 _ _ _ _ _ e3]; simpa using hj
      · rw [hn]
        intro c hc
        simp only [liveN, List.mem_cons, List.not_mem_nil, or_false] at hc
        rcases hc with rfl | rfl
        · exact ⟨by simp, by simp, by simp, by simp, rdr _ _ e0, rdr _ _ e1, by simp, by simp⟩
        · exact ⟨by simp, by simp, by simp, by simp, rdr _ _ e2, RdB.nil_ _ _, by simp, by simp⟩
    rw [hn] at hrd ⊢
    exact ⟨by simp [liveN], by simp [liveN], by simp [liveN], hrd, by simp [liveN], by simp [liveN], by simp [liveN], RdB.nil_ _ _, by simp [liveN], by simp [liveN], hdz_in⟩
  have hlx : n.x = liveX := by rw [hn]; rfl
  have hok : n.x.ok = true := by rw [hlx]; decide +kernel
  have hus : Nd.used 3 (n.cl.map CellV.x) = (11, 0) := by rw [show n.cl.map CellV.x = liveX.cells by rw [hn]; rfl]; decide +kernel
  have hk3 : n.kind = 3 := by rw [hn]; rfl
  have hnz : n.x.same Nd.zero = false := by rw [hlx]; decide +kernel
  have hll : n.cl.length ≤ 1000000 := hin.clen
  rw [← hV1, ← hs]
  obtain ⟨W1, hW1⟩ : ∃ W1, W1 = V1.alloc (.cells n.cells 29) := ⟨_, rfl⟩
  have hx1 : Ext w W1 := by rw [hW1]; exact hxv.tr (Ext.alloc _ _)
  have g1 : W1.heap[V1.heap.size]? = some (.cells n.cells 29 (0, 0)) := by rw [hW1]; exact heap_alloc_new V1 _
  have n1 : n.In W1 := by rw [hW1]; exact hin.ext (Ext.alloc _ _)
  rw [← hW1]
  obtain ⟨b1, hb1⟩ : ∃ b1, b1 = V1.heap.size := ⟨_, rfl⟩
  rw [← hb1] at g1 ⊢
  have HC2 := Lib.hid HC
  clear hW1 hb1 hV1 hxv hs e0 e1 e2 e3 rdr hin hn HC kc hlx
  -- Put
  refine (nput_any n W1 n1).mono ?_
  rintro e w2 ⟨r, A2, c2, hR, rfl, hrd, hcap, hx2⟩
  have hR2 : ∃ bs, n.x.Body bs ∧ bs.length = 243 ∧ r = (n.x.sealed bs, 0) := by
    rcases hR with ⟨h, _⟩ | ⟨_, h, _⟩ | ⟨_, _, h⟩
    · rw [hok] at h; cases h
    · rw [show n.x.kind = 3 from hk3, show n.x.cells = n.cl.map CellV.x from rfl, hus] at h; exact absurd h (by decide)
    · exact h
  obtain ⟨bs, hB, hbl, rfl⟩ := hR2
  have hsay : Nd.Says (n.x.sealed bs) n.x := Nd.says_put hok (fun _ => by
    have h := hus
    unfold Nd.used at h
    rw [show n.x.kind = 3 from hk3]
    split at h
    · simp only [Prod.mk.injEq, and_true] at h
      show Nd.need 3 (n.cl.map CellV.x) ≤ 241
      omega
    · simp at h) n1.plain hB hbl
  have hsl : (n.x.sealed bs).length = 256 := by
    unfold Nd.sealed
    rw [Crc.put_len]
    simp [fixed8_len, hbl]
  simp only at hrd hcap
  obtain ⟨S, hS⟩ : ∃ S, S = n.x.sealed bs := ⟨_, rfl⟩
  simp only [← hS]
  rw [← hS] at hsay hsl hrd hcap
  have hS2 : ((S.length : Int) == 256) = true := by rw [beq_iff_eq]; omega
  have G2 := Lib.hid ((hx2.block _ (lt_of_heap g1)).trans g1)
  have N2 := Lib.hid (n1.ext hx2)
  have X2 := Lib.hid (hx1.tr hx2)
  have HS := Lib.hid hS2
  have Hsay := Lib.hid hsay
  have Hok := Lib.hid hok
  have Hus := Lib.hid hus
  have Hk3 := Lib.hid hk3
  have Hnz := Lib.hid hnz
  clear hB hbl hS hx2 g1 n1 hx1 hsl hsay hok hus hk3 hnz hS2 hR
  go_wp2_with fail
  -- Get
  refine (nget_any A2 S c2 w2 hrd hcap).mono ?_
  rintro e w3 ⟨m, code, rfl, hinm, hx3, _, hcase⟩
  have hm : code = 0 ∧ m.x = n.x := by
    rcases hcase with ⟨h, hsm⟩ | ⟨_, _, hno⟩
    · exact ⟨h, hsm.uniq Hsay.out⟩
    · exact absurd Hsay.out (hno _)
  obtain ⟨rfl, hmx⟩ := hm
  have Hmx := Lib.hid hmx
  obtain ⟨W3, hW3⟩ : ∃ W3, W3 = w3.alloc (.cells m.cells 29) := ⟨_, rfl⟩
  have hy3 : Ext w3 W3 := by rw [hW3]; exact Ext.alloc _ _
  have g3 : W3.heap[w3.heap.size]? = some (.cells m.cells 29 (0, 0)) := by rw [hW3]; exact heap_alloc_new w3 _
  have HW3 := Lib.hid (show w3.alloc (.cells m.cells 29) = W3 from hW3.symm)
  have M3 := Lib.hid (hinm.ext hy3)
  have N3 := Lib.hid (N2.out.ext (hx3.tr hy3))
  have G3 := Lib.hid (((hx3.tr hy3).block _ (lt_of_heap G2.out)).trans G2.out)
  have K3 := Lib.hid g3
  have X3 := Lib.hid (X2.out.tr (hx3.tr hy3))
  clear hmx hcase hinm hx3 hy3 g3 hW3 hrd hcap
  go_wp2_with (refine wpList_store_row (by rfl) 29 (.tmp 4) (.tmp 28) rfl w3.heap.size m.cells rfl rfl 29 _ (heap_alloc_new w3 _) (ninfo _) (by rfl) (none1 _) ?_; rw [setRow_alloc, HW3.out])
  -- the second Put
  refine (nput_any ⟨2, 0, none, [], 0, 0, none, [], 0, Hd.zero⟩ W3 ⟨by simp, by simp, by simp, RdC.nil_ _ _, by simp, by simp, by simp, RdB.nil_ _ _, by simp, by simp, hdz_in⟩).mono ?_
  rintro e w4 ⟨r, A4, c4, hR, rfl, _, _, hx4⟩
  have hr : r = ([], 80) := by
    rcases hR with ⟨_, h⟩ | ⟨h, _⟩ | ⟨h, _⟩
    · exact h
    · exact absurd h (by decide +kernel)
    · exact absurd h (by decide +kernel)
  subst hr
  have g4 := (hx4.block _ (lt_of_heap G3.out)).trans G3.out
  have c4a : w4.cell? ⟨b1, 2, none⟩ = some (.slice n.ca n.cl.length n.cc) := by rw [row_cell g4]; rfl
  have G4 := Lib.hid g4
  have K4 := Lib.hid ((hx4.block _ (lt_of_heap K3.out)).trans K3.out)
  have N4 := Lib.hid (N3.out.ext hx4)
  have M4 := Lib.hid (M3.out.ext hx4)
  have X4 := Lib.hid (X3.out.tr hx4)
  have hu4 := used_any 3 n.ca n.cl n.cc w4 N4.out.cr hll
  rw [Hus.out] at hu4
  clear hx4 hR g4
  go_wp2_with fail
  refine hu4.mono ?_
  rintro e w5 ⟨rfl, hx5⟩
  have G5 := Lib.hid ((hx5.block _ (lt_of_heap G4.out)).trans G4.out)
  have K5 := Lib.hid ((hx5.block _ (lt_of_heap K4.out)).trans K4.out)
  have hs5 := nsame_any n m w5 (N4.out.ext hx5) (M4.out.ext hx5)
  rw [Hmx.out, (Nd.same_iff _ _).2 rfl] at hs5
  have Hs5 := Lib.hid hs5
  have N5 := Lib.hid (N4.out.ext hx5)
  have M5 := Lib.hid (M4.out.ext hx5)
  have X5 := Lib.hid (X4.out.tr hx5)
  have hS2 := HS.out
  clear hx5 hs5 hu4 c4a
  go_wp2_with (first | (go_at_call 10; refine (num08 _ _).mono ?_; rintro e w' ⟨rfl, rfl⟩) | (refine wpList_load_rowG (by rfl) 29 (.tmp 1) rfl b1 rfl 29 n.cells (0, 0) _ G5.out Tryz.underlying29 rfl (ninfo _) ?_) | (refine wpList_load_rowG (by rfl) 29 (.tmp 4) rfl w3.heap.size rfl 29 m.cells (0, 0) _ K5.out Tryz.underlying29 rfl (ninfo _) ?_) | (go_at_call 12; refine Hs5.out.mono ?_; rintro e6 w6 ⟨rfl, hx6⟩; have Hx6 := Lib.hid hx6; clear hx6; refine Hid.out ?_))
  refine Lib.hid ?_
  have G6 := Lib.hid ((Hx6.out.block _ (lt_of_heap G5.out)).trans G5.out)
  have K6 := Lib.hid ((Hx6.out.block _ (lt_of_heap K5.out)).trans K5.out)
  have hs6 := rsame_any n m w6 (N5.out.ext Hx6.out) (M5.out.ext Hx6.out)
  rw [Hmx.out, (Nd.same_iff _ _).2 rfl] at hs6
  have Hs6 := Lib.hid hs6
  have hz : ∀ W, n.In W → Calls Tryz.prog 12 #[.agg n.cells, .agg NdV.zero.cells] W fun e w' => e = .returned (.bool false) ∧ Ext W w' := fun W h => by
    have := nsame_any n NdV.zero W h (NdV.zero_in W)
    rwa [NdV.zero_x, Hnz.out] at this
  have Hz := Lib.hid hz
  clear hs6 hz
  go_wp2_with (first | (refine wpList_load_rowG (by rfl) 29 (.tmp 1) rfl b1 rfl 29 n.cells (0, 0) _ G6.out Tryz.underlying29 rfl (ninfo _) ?_) | (refine wpList_load_rowG (by rfl) 29 (.tmp 4) rfl w3.heap.size rfl 29 m.cells (0, 0) _ K6.out Tryz.underlying29 rfl (ninfo _) ?_) | (go_at_call 13; refine Hs6.out.mono ?_; rintro e7 w7 ⟨rfl, hx7⟩; have Hx7 := Lib.hid hx7; have G7 := Lib.hid ((hx7.block _ (lt_of_heap G6.out)).trans G6.out); clear hx7) | (go_at_call 10; refine (num08 _ _).mono ?_; rintro e w' ⟨rfl, rfl⟩) | (refine wpList_load_rowG (by rfl) 29 (.tmp 1) rfl b1 rfl 29 n.cells (0, 0) _ G7.out Tryz.underlying29 rfl (ninfo _) ?_) | (go_at_call 12; refine (Hz.out _ (N5.out.ext (Hx6.out.tr Hx7.out))).mono ?_; rintro e8 w8 ⟨rfl, hx8⟩; have Hx8 := Lib.hid hx8; clear hx8))
  go_ret
  exact ⟨rfl, X5.out.tr (Hx6.out.tr (Hx7.out.tr Hx8.out))⟩
end Go.Proofs.YtkpagmfaccmiaaaGreat

/- Nodes as arguments; scowlaw08.small (layer 08). -/

namespace Go.Proofs.YtkpagmfaccmiaaaGreat

open Go.RowKit

attribute [local go_sem] Oper.semAt_some

section

open Go.ChangeShapes Go.WideShapes Go.ChangeAt Go.Joins

variable {H : Type} {enc : TypeId × Value → H} {W : World} {base : Nat} {spare : Nat → Bool} {held : Bool} {d : DataW H} {p : List MemPlace}

set_option maxRecDepth 20000 in
theorem read_Cell {k : Nat} {cs : List Value} {y : DataW H × List MemPlace} (hsz : cs.length = 5) (hf : DataW.trod enc Tryz.prog W base spare held k 43 cs = some y) : ∃ q : CellV, cs = q.cells.toList ∧ q.In W := by
  have hr := fun j f c => fields_read (j := j) (f := f) (c := c) Tryz.underlying43 (by kernel_rfl) hf
  match cs, hsz with
  | [c0, c1, c2, c3, c4], _ =>
    obtain ⟨ka, key, kc, rfl, hkr, hkc⟩ := read_bytes Tryz.underlying25 Tryz.underlying5 (by kernel_rfl) (hr 0 _ _ rfl rfl)
    obtain ⟨size, rfl, h1, h2⟩ := read_i64 Tryz.underlying3 (hr 1 _ _ rfl rfl)
    obtain ⟨va, val, vc, rfl, hvr, hvc⟩ := read_bytes Tryz.underlying25 Tryz.underlying5 (by kernel_rfl) (hr 2 _ _ rfl rfl)
    obtain ⟨over, rfl, ho⟩ := read_u32 Tryz.underlying24 (hr 3 _ _ rfl rfl)
    obtain ⟨kid, rfl, hk⟩ := read_u32 Tryz.underlying24 (hr 4 _ _ rfl rfl)
    exact ⟨⟨ka, kc, va, vc, ⟨key, size, val, over, kid⟩⟩, rfl, ⟨ho, hk, h1, h2, hkr, hvr, hkc, hvc⟩⟩
theorem read_CellL {c : Value} (h : ∃ n y, DataW.trod enc Tryz.prog W base spare held n 23 [c] = some y) : ∃ A l cap, c = .slice A (l : List CellV).length cap ∧ RdC W A l ∧ l.length ≤ cap := by
  have ce : Tryz.prog.cellsOf 43 = 5 := by kernel_rfl
  obtain ⟨fuel, y, hf⟩ := h
  rcases Deep.open_slice Tryz.underlying23 hf with ⟨hcs, _⟩ | ⟨x, len, cap, m, n, D, Pl, hcs, hb, hl, hm, hmm, hx, hel⟩
  · simp at hcs
    subst hcs
    exact ⟨none, [], 0, rfl, RdC.nil_ _ _, Nat.le_refl _⟩
  · simp at hcs
    subst hcs
    have hlm : len ≤ m := by rw [hmm]; split <;> omega
    have each : ∀ r, r < len → ∃ e : CellV, (∀ j u, (e.cells)[j]? = some u → W.cell? (x.add (r * 5 + j)) = some u) ∧ e.In W := by
      intro r hr
      obtain ⟨cs, h0, h1⟩ := hel r (by omega)
      rw [ce] at h0
      obtain ⟨_, hlen, hcell⟩ := World.cells?_some h0
      obtain ⟨q, rfl, hin⟩ := read_Cell hlen h1
      refine ⟨q, fun j u hj => ?_, hin⟩
      have hj2 : j < 5 := (Array.getElem?_eq_some_iff.1 hj).1
      have h2 := hcell j hj2
      rw [← add_add', h2]
      simpa using hj
    obtain ⟨l, hll, hR⟩ := list_of len _ each
    have hin : ∀ e ∈ l, e.In W := fun e he => by
      obtain ⟨j, hj', rfl⟩ := List.getElem_of_mem he
      exact (hR j hj').2
    refine ⟨some x, l, cap, by rw [hll], ⟨⟨ccs_len l, fun _ => ⟨x, rfl, fun j u hj => ?_⟩⟩, hin⟩, by omega⟩
    have hjl : j < l.length * 5 := by rw [← ccs_len l]; exact (List.getElem?_eq_some_iff.1 hj).1
    have hk : j / 5 < l.length := by omega
    have h2 : j % 5 < 5 := Nat.mod_lt _ (by omega)
    have hjj : j = j / 5 * 5 + j % 5 := by omega
    rw [hjj, ccs, flat_at _ 5 l (ccs_each l) _ hk _ h2] at hj
    rw [hjj]
    exact (hR (j / 5) hk).1 (j % 5) u (by simpa using hj)
set_option maxRecDepth 20000 in
theorem open_Node {r : Reach} {b0 : Nat} {v : Value} (hv : Value.okWide Tryz.prog W r b0 29 v) (h : DataW.Trod enc Tryz.prog W base spare held 29 v d p) : ∃ q : NdV, v = .agg q.cells ∧ q.Arg W := by
  obtain ⟨cs, rfl, hsz⟩ := okWide_struct Tryz.underlying29 hv
  have hsz : cs.toList.length = 9 := by rw [Array.length_toList, hsz]; kernel_rfl
  obtain ⟨fuel, hf⟩ := h
  have hf : DataW.trod enc Tryz.prog W base spare held fuel 29 cs.toList = some (d, p) := by simpa [Value.cells] using hf
  have ecs : cs = cs.toList.toArray := by simp
  rw [ecs]
  generalize cs.toList = l at hf hsz ⊢
  obtain ⟨ys, n, _, _, _, hyl, hfs⟩ := DataW.trod_struct Tryz.underlying29 hf
  have h0 := hfs 0 _ rfl
  have h1 := hfs 1 _ rfl
  have h2 := hfs 2 _ rfl
  have h3 := hfs 3 _ rfl
  have h4 := hfs 4 _ rfl
  have h5 := hfs 5 _ rfl
  have hy : ys.length = 6 := hyl
  rw [List.getElem?_eq_getElem (by omega)] at h0 h1 h2 h3 h4 h5
  match l, hsz with
  | [c0, c1, c2, c3, c4, c5, c6, c7, c8], _ =>
    obtain ⟨kind, rfl, k1, k2⟩ := read_i64 Tryz.underlying3 ⟨_, _, h0⟩
    obtain ⟨lsn, rfl, l1⟩ := read_u64 Tryz.underlying22 ⟨_, _, h1⟩
    obtain ⟨ca, cl, cc, rfl, hcr, hcc⟩ := read_CellL ⟨_, _, h2⟩
    obtain ⟨next, rfl, hn⟩ := read_u32 Tryz.underlying24 ⟨_, _, h3⟩
    obtain ⟨da, data, dc, rfl, hdr, hdc⟩ := read_bytes Tryz.underlying25 Tryz.underlying5 (by kernel_rfl) ⟨_, _, h4⟩
    have hr := fun j f c => fields_read (j := j) (f := f) (c := c) Tryz.underlying27 (by kernel_rfl) h5
    obtain ⟨r1, rfl, hr1⟩ := read_u32 Tryz.underlying24 (hr 0 _ c5 rfl rfl)
    obtain ⟨r2, rfl, hr2⟩ := read_u32 Tryz.underlying24 (hr 1 _ c6 rfl rfl)
    obtain ⟨r3, rfl, hr3⟩ := read_u32 Tryz.underlying24 (hr 2 _ c7 rfl rfl)
    obtain ⟨r4, rfl, hr4⟩ := read_u64 Tryz.underlying22 (hr 3 _ c8 rfl rfl)
    exact ⟨⟨kind, lsn, ca, cl, cc, next, da, data, dc, ⟨r1, r2, r3, r4⟩⟩, rfl, ⟨k1, k2, l1, hcr, hcc, hn, hdr, hdc, ⟨hr1, hr2, hr3, hr4⟩⟩⟩
end

end Go.Proofs.YtkpagmfaccmiaaaGreat

/- Contract: scowlaw08.small (layer 08). Printed by wip/tools/gen_ndy08.py. -/

namespace Go.Proofs.YtkpagmfaccmiaaaGreat

open Go.RowKit

attribute [local go_sem] Oper.semAt_some

theorem cval_at {w : World} {c : CellV} {ad : Addr} (hc : ∀ j u, (c.cells)[j]? = some u → w.cell? (ad.add j) = some u) : w.cell? ⟨ad.block, ad.off + 2, none⟩ = some (.slice c.va c.x.val.length c.vc) := hc 2 _ rfl
def SmallP (n : NdV) (w : World) (e : Ending) (w' : World) : Prop := ∃ b : Bool, (b = true → n.cl.length ≤ 150 ∧ n.data.length ≤ 2000) ∧ e = .returned (.bool b) ∧ Ext w w'
set_option maxRecDepth 100000 in
set_option maxHeartbeats 1000000 in
theorem small08 (n : NdV) (w : World) (hn : n.Arg w) : Calls Tryz.prog 4 #[.agg n.cells] w (SmallP n w) := by
  obtain ⟨W0, hW0⟩ : ∃ W0, W0 = w.alloc (.cells n.cells 29) := ⟨_, rfl⟩
  have hx0 : Ext w W0 := by rw [hW0]; exact Ext.alloc _ _
  have g0 : W0.heap[w.heap.size]? = some (.cells n.cells 29 (0, 0)) := by rw [hW0]; exact heap_alloc_new w _
  have HW0 := Lib.hid (show w.alloc (.cells n.cells 29) = W0 from hW0.symm)
  have c2 : W0.cell? ⟨w.heap.size, 2, none⟩ = some (.slice n.ca n.cl.length n.cc) := by rw [row_cell g0]; rfl
  have c4 : W0.cell? ⟨w.heap.size, 4, none⟩ = some (.slice n.da n.data.length n.dc) := by rw [row_cell g0]; rfl
  have hr := hn.cr.below hx0
  have Hx0 := Lib.hid hx0
  clear hW0 g0 hx0
  have Hn2 := Lib.hid (show n.cl.length = n.cl.length from rfl)
  obtain ⟨A, hA⟩ : ∃ A, A = n.ca := ⟨_, rfl⟩
  obtain ⟨l, hl⟩ : ∃ l, l = n.cl := ⟨_, rfl⟩
  rw [← hA, ← hl] at c2 hr
  have Hll := Lib.hid (show n.cl.length = l.length by rw [hl])
  clear hA hl Hn2
  have hwl : ∀ k : Nat, k ≤ 151 → IntKind.i64.wrap ((k : Int) + 1) = (k : Int) + 1 := fun k hk => by rw [IntKind.wrap_i64]; omega
  go_enter Tryz.func4, Tryz.ntmps4
  go_wp2_with fail
  rw [HW0.out]
  go_loopw [3] (fun i wr => ∃ k : Nat, k ≤ l.length ∧ k ≤ 151 ∧ i = .int .i64 k ∧ wr = W0) (fun i _ => 200 - (intOf i).toNat)
  case atStart => exact ⟨0, by omega, by omega, rfl, rfl⟩
  case round =>
    obtain ⟨k, hk, hk2, rfl, rfl⟩ := hrel
    by_cases h : k < l.length
    · have ik : (0 : Int) ≤ (k : Int) := by omega
      have ik2 : (k : Int) < (l.length : Int) := by omega
      by_cases h3 : k ≤ 150
      · have ik3 : (k : Int) ≤ 150 := by omega
        obtain ⟨ad, rfl, hcell, hin⟩ := hr.at_ h
        have e1 := ckey_at hcell
        have e2 := cval_at hcell
        have hw := hwl k hk2
        have hadd : ad.add (k * 5) = ⟨(ad.add (k * 5)).block, (ad.add (k * 5)).off, none⟩ ∨ True := .inr trivial
        generalize l[k].x.key.length = kl at *
        generalize l[k].x.val.length = vl at *
        clear hcell hin hadd
        by_cases hk1 : (2000 : Int) < (kl : Int)
        · go_wp2_with fail
          go_ret
          exact ⟨false, by simp, rfl, Hx0.out⟩
        · by_cases hk2 : (2000 : Int) < (vl : Int)
          · go_wp2_with fail
            go_ret
            exact ⟨false, by simp, rfl, Hx0.out⟩
          · go_wp2_with fail
            go_roundw
            case rel => exact ⟨k + 1, by omega, by omega, by go_num, by first | rfl | trivial⟩
            case measure => simp [intOf]; omega
      · have ik3 : ¬ (k : Int) ≤ 150 := by omega
        have ik4 : ¬ (l.length : Int) ≤ 150 := by omega
        go_wp2_with fail
        go_ret
        exact ⟨false, by simp, rfl, Hx0.out⟩
    · have ik2 : ¬ (k : Int) < (l.length : Int) := by omega
      by_cases h5 : (l.length : Int) ≤ 150
      · by_cases h6 : (n.data.length : Int) ≤ 2000
        · go_wp2_with fail
          go_ret
          exact ⟨true, fun _ => ⟨by have := Hll.out; omega, by omega⟩, rfl, Hx0.out⟩
        · go_wp2_with fail
          go_ret
          exact ⟨false, by simp, rfl, Hx0.out⟩
      · go_wp2_with fail
        go_ret
        exact ⟨false, by simp, rfl, Hx0.out⟩
end Go.Proofs.YtkpagmfaccmiaaaGreat

/- The walks of the laws NodeRoom and NodeSame (layer 08). Printed by wip/tools/gen_ndz08.py. -/

namespace Go.Proofs.YtkpagmfaccmiaaaGreat

open Go.RowKit

attribute [local go_sem] Oper.semAt_some
end Go.Proofs.YtkpagmfaccmiaaaGreat

/- The walk of the law NodeBack (layer 08). Printed by wip/tools/gen_ndzb08.py. -/

namespace Go.Proofs.YtkpagmfaccmiaaaGreat

open Go.RowKit

attribute [local go_sem] Oper.semAt_some

theorem Nd.used_need {n : Nd} (h : n.ok = true) (hk : Nd.hasC n.kind = true) : (Nd.used n.kind n.cells).1 = Nd.need n.kind n.cells := by
  unfold Nd.used
  rw [if_pos]
  refine ⟨hk, ?_⟩
  rw [List.all_eq_true]
  exact fun c hc => decide_eq_true (Nd.ok_cells h hk c hc)
theorem Nd.PutR.says {n : Nd} {r : List UInt8 × Nat} (h : n.PutR r) (hi : n.In) (h0 : r.2 = 0) : Nd.Says r.1 n := by
  rcases h with ⟨_, rfl⟩ | ⟨_, _, rfl⟩ | ⟨hok, hu, bs, hb, hl, rfl⟩
  · cases h0
  · cases h0
  · exact Nd.says_put hok (fun hk => by rw [← Nd.used_need hok hk]; exact hu) hi hb hl
theorem Nd.Says.putR {b : List UInt8} {n : Nd} (h : Nd.Says b n) {r : List UInt8 × Nat} (hR : n.PutR r) : r.2 = 0 ∧ (Nd.hasC n.kind = false → r.1 = b) := by
  rcases hR with ⟨hok, _⟩ | ⟨hok, hu, _⟩ | ⟨_, _, bs, hb, _, rfl⟩
  · rw [h.ok] at hok; cases hok
  · exfalso
    by_cases hk : Nd.hasC n.kind = true
    · rw [Nd.used_need hok hk] at hu
      have := Nd.need_says h hk
      omega
    · unfold Nd.used at hu
      rw [if_neg (fun e => hk e.1)] at hu
      simp at hu
  · refine ⟨rfl, fun hk => ?_⟩
    unfold Nd.Body at hb
    rw [if_neg (by rw [hk]; decide)] at hb
    rw [hb]
    exact (Nd.put_says h hk).symm
end Go.Proofs.YtkpagmfaccmiaaaGreat
