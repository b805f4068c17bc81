
/- Contracts: an entry out of bytes (entry.Get). -/

import Derived.Test.YtgjielobfakkmaaEntDigest

import Derived.Laws.ResultCell

namespace Go.Proofs.Ytgjielobfakkmaa

open Go.RowKit

attribute [local go_sem] Oper.semAt_some

def Ent.ok (e : Ent) : Bool := decide (1 ≤ e.key.length) && decide (e.key.length ≤ 24) && decide (e.val.length ≤ 1000)
/-- The entry with which bytes begin, how long it is, the error. -/
def Ent.get (b : List UInt8) : Ent × Nat × Nat :=
  let r := Vint.getBytes b
  if r.2.2 ≠ 0 then (⟨[], []⟩, 0, 170) else
    let s := Vint.getBytes (b.drop r.2.1)
    if s.2.2 ≠ 0 then (⟨[], []⟩, 0, 170) else if Ent.ok ⟨r.1, s.1⟩ then (⟨r.1, s.1⟩, r.2.1 + s.2.1, 0) else (⟨[], []⟩, 0, 170)

set_option maxRecDepth 100000 in
set_option maxHeartbeats 800000 in
theorem isEntry_any (e : EnV) (w : World) : Calls Try.prog 37 #[e.val] w fun r w' => r = .returned (.bool e.x.ok) ∧ Below w.heap.size w w' := by
  obtain ⟨q, hq⟩ : ∃ q, q = e.x.ok := ⟨_, rfl⟩
  rw [← hq]
  unfold Ent.ok at hq
  have hinfo := einfo e
  have hone := eone e
  have hk : ∀ W : World, W.heap[w.heap.size]? = some (.cells e.cells 28 (0, 0)) → W.cell? ⟨w.heap.size, 0, none⟩ = some (.slice e.ka e.x.key.length e.kc) := fun W h => by rw [cell_of_row W _ _ _ _ _ h]; rfl
  have hv : ∀ W : World, W.heap[w.heap.size]? = some (.cells e.cells 28 (0, 0)) → W.cell? ⟨w.heap.size, 1, none⟩ = some (.slice e.va e.x.val.length e.vc) := fun W h => by rw [cell_of_row W _ _ _ _ _ h]; rfl
  have hb : Below w.heap.size w (w.alloc (.cells e.cells 28)) := (Below.refl _ w).alloc (Nat.le_refl _) _
  have hk1 := hk _ (heap_alloc_new w _)
  have hv1 := hv _ (heap_alloc_new w _)
  have hk2 : (w.alloc (.cells e.cells 28)).drew.cell? ⟨w.heap.size, 0, none⟩ = _ := hk1
  have hv2 : (w.alloc (.cells e.cells 28)).drew.cell? ⟨w.heap.size, 1, none⟩ = _ := hv1
  clear hk hv
  go_enter Try.func37, Try.ntmps37
  unfold EnV.val
  have h1 := Nat.lt_or_ge e.x.key.length 1
  have h2 := Nat.lt_or_ge 24 e.x.key.length
  have h3 := Nat.lt_or_ge 1000 e.x.val.length
  rcases h1 with h1 | h1
  · have b1 : decide (1 ≤ (e.x.key.length : Int)) = false := by simp; omega
    go_wp2_with fail
    go_ret
    exact ⟨by rw [hq]; simp; omega, hb⟩
  · have b1 : decide (1 ≤ (e.x.key.length : Int)) = true := by simp; omega
    rcases h2 with h2 | h2
    · have b2 : decide ((e.x.key.length : Int) ≤ 24) = false := by simp; omega
      go_wp2_with fail
      go_ret
      exact ⟨by rw [hq]; simp; omega, hb⟩
    · have b2 : decide ((e.x.key.length : Int) ≤ 24) = true := by simp; omega
      rcases h3 with h3 | h3
      · have b3 : decide ((e.x.val.length : Int) ≤ 1000) = false := by simp; omega
        go_wp2_with fail
        go_ret
        exact ⟨by rw [hq]; simp; omega, hb⟩
      · have b3 : decide ((e.x.val.length : Int) ≤ 1000) = true := by simp; omega
        go_wp2_with fail
        go_ret
        exact ⟨by rw [hq]; simp; omega, hb⟩

theorem results_row_tmp2 {P : Program} {fn : Func} {p u v : Tmp} {ty : TypeId} (h : fn.results = #[.cell p ty, .tmp u, .tmp v]) (tmps : Array Value) (w : World) (g : Nat) (t : TypeId) (cs : Array Value) (fr : Nat × Nat) (d : TypeDesc)
    (hp : tmps.getD p undef = .pointer (some ⟨g, 0, none⟩)) (hg : w.heap[g]? = some (.cells cs t fr))
    (hu : P.underlying ty = some d) (hd : (match d with | .struct _ | .array _ _ => true | _ => false) = true) (hi : (P.info? ty).map (·.size) = some cs.size) :
    (results fn tmps).run P w = .ok (.tuple #[.agg cs, tmps.getD u undef, tmps.getD v undef]) w := by
  have h2 : (results fn tmps).run P w = ((asAddr (tmps.getD p undef)).run P w).andThen fun a w₁ => ((loadVar ty a).run P w₁).andThen fun x w₂ => .ok (.tuple #[x, tmps.getD u undef, tmps.getD v undef]) w₂ := by
    simp only [results, h]
    simp [Sem.run_bind, Result.andThen]
  rw [h2, hp]
  simp [asAddr, run_loadVar_row w g t ty cs fr d hg hu hd hi, Result.andThen]

theorem Vint.getBytes_le (b : List UInt8) : (Vint.getBytes b).2.1 ≤ b.length := by
  have h := Vint.get_le b
  unfold Vint.getBytes
  split
  · simp
  · split
    · simp
    · simp only; omega
theorem getb (A : Option Addr) (bs : List UInt8) (cap : Nat) (w : World) (hA : RdB w A bs) (hl : bs.length ≤ 1000000) (hc : bs.length ≤ cap) {k : List UInt8} {n x : Nat} (h : Vint.getBytes bs = (k, n, x)) :
    Calls Try.prog 36 #[.slice A bs.length cap] w fun e w' => ∃ A' c', e = .returned (.tuple #[.slice A' k.length c', .int .i64 (n : Int), .int .i64 (x : Int)]) ∧ RdB w' A' k ∧ k.length ≤ c' ∧ Own w' w.heap.size 5 1 A' k.length c' (bvs k) ∧ Below w.heap.size w w' := by
  refine (getbytes_any A bs cap w hA hl hc).mono ?_
  rintro e w' ⟨A', c', rfl, ho, hb⟩
  rw [h] at ho ⊢
  exact ⟨A', c', rfl, ho.rd', ho.nc, ho, hb⟩
theorem own_setRow {w : World} {B t n c g : Nat} {A : Option Addr} {xs : List Value} (h : Own w B t 1 A n c xs) (hg : g < B) (cs : Array Value) : Own (w.setRow g cs) B t 1 A n c xs :=
  h.kept (row := some g) ⟨rfl, rfl, rfl, by simp, fun k _ hn => setRow_other _ _ _ _ (fun e => hn (by rw [e]))⟩ (fun k hk e => by injection e with e; have := (h.row_lt k hk).1; omega)
/-- Where bytes lie: at or above B, in a row of bytes. -/
def FarB (B : Nat) (W : World) (A : Option Addr) (d : List UInt8) : Prop := d ≠ [] → ∃ ad cur fr, A = some ad ∧ B ≤ ad.block ∧ W.heap[ad.block]? = some (.cells cur 5 fr)
theorem Own.far {w : World} {B n c : Nat} {A : Option Addr} {d : List UInt8} (h : Own w B 5 1 A n c (bvs d)) {B' : Nat} (hB : B' ≤ B) : FarB B' w A d := by
  intro hd
  rcases h.mem with h0 | ⟨g, off, cur, hA, hb, hg, _⟩
  · exfalso
    have h1 := h.len
    have h2 := h.nc
    rw [bvs_len] at h1
    have := List.length_pos_iff.2 hd
    omega
  · exact ⟨_, cur, (0, 0), hA, by show _ ≤ g; omega, hg⟩
theorem FarB.kept {W W' : World} {A : Option Addr} {d : List UInt8} {B : Nat} {row : Option Nat} (hf : FarB B W A d) (hg : W.grownBy W' row) (hr : ∀ r, row = some r → r < B ∨ ∀ cur fr, W.heap[r]? ≠ some (.cells cur 5 fr)) : FarB B W' A d := by
  intro hd
  obtain ⟨ad, cur, fr, hA, hb, hh⟩ := hf hd
  refine ⟨ad, cur, fr, hA, hb, (hg.block _ (lt_of_heap hh) (fun e => ?_)).trans hh⟩
  rcases hr _ e.symm with h | h
  · omega
  · exact h _ _ hh
/-- Bytes stay where another block turns. -/
theorem RdB.kept {W W' : World} {A : Option Addr} {d : List UInt8} {B : Nat} {row : Option Nat} (h : RdB W A d) (hf : FarB B W A d) (hg : W.grownBy W' row) (hr : ∀ r, row = some r → r < B ∨ ∀ cur fr, W.heap[r]? ≠ some (.cells cur 5 fr)) : RdB W' A d := by
  refine ⟨h.1, fun hx => ?_⟩
  obtain ⟨ad, hA, hc⟩ := h.2 hx
  have hd : d ≠ [] := by intro e; subst e; exact hx rfl
  obtain ⟨ad', cur, fr, hA', hb, hh⟩ := hf hd
  rw [hA] at hA'
  injection hA' with hA'
  subst hA'
  refine ⟨ad, hA, fun j u hj => ?_⟩
  have h1 := hc j u hj
  have hblk : (ad.add j).block = ad.block := by unfold Addr.add; split <;> rfl
  have h2 : W'.heap[(ad.add j).block]? = W.heap[(ad.add j).block]? := by
    rw [hblk]
    refine hg.block _ (lt_of_heap hh) (fun e => ?_)
    rcases hr _ e.symm with h | h
    · omega
    · exact h _ _ hh
  unfold World.cell? at h1 ⊢
  rw [h2]
  exact h1
/-- An entry in memory, and where its bytes lie. -/
structure EnV.At (B : Nat) (W : World) (e : EnV) : Prop where
  i : e.In W
  k : FarB B W e.ka e.x.key
  v : FarB B W e.va e.x.val
theorem EnV.at_nil (B : Nat) (W : World) (a : Option Addr) (b : Nat) (c : Option Addr) (d : Nat) : EnV.At B W ⟨a, b, c, d, ⟨[], []⟩⟩ := ⟨⟨RdB.nil_ _ _, RdB.nil_ _ _, Nat.zero_le _, Nat.zero_le _⟩, fun h => absurd rfl h, fun h => absurd rfl h⟩
theorem EnV.At.kept {W W' : World} {e : EnV} {B : Nat} {row : Option Nat} (h : e.At B W) (hg : W.grownBy W' row) (hr : ∀ r, row = some r → r < B ∨ ∀ cur fr, W.heap[r]? ≠ some (.cells cur 5 fr)) : e.At B W' :=
  ⟨⟨h.i.kr.kept h.k hg hr, h.i.vr.kept h.v hg hr, h.i.kcap, h.i.vcap⟩, h.k.kept hg hr, h.v.kept hg hr⟩
theorem EnV.At.ext {W W' : World} {e : EnV} {B : Nat} (h : e.At B W) (hE : Ext W W') : e.At B W' := h.kept (grown_ext hE none) (fun r e => by cases e)
theorem FarB.mono {B B' : Nat} {W : World} {A : Option Addr} {d : List UInt8} (h : FarB B W A d) (hB : B' ≤ B) : FarB B' W A d := fun hd => let ⟨ad, c, f, h1, h2, h3⟩ := h hd; ⟨ad, c, f, h1, by omega, h3⟩
theorem EnV.At.mono {B B' : Nat} {W : World} {e : EnV} (h : e.At B W) (hB : B' ≤ B) : e.At B' W := ⟨h.i, h.k.mono hB, h.v.mono hB⟩
theorem grown_row (w : World) (g : Nat) (cs : Array Value) : w.grownBy (w.setRow g cs) (some g) := ⟨rfl, rfl, rfl, by simp, fun k _ hn => setRow_other _ _ _ _ (fun e => hn (by rw [e]))⟩
/-- What entry.Get gives. -/
def egot (v : EnV) (n e : Nat) : Value := .tuple #[v.val, .int .i64 (n : Int), .int .i64 (e : Int)]

set_option maxRecDepth 100000 in
set_option maxHeartbeats 2000000 in
theorem eget_1 (A : Option Addr) (bs : List UInt8) (cap : Nat) (w : World) (hA : RdB w A bs) (hl : bs.length ≤ 1000000) (hc : bs.length ≤ cap) (k : List UInt8) (n x : Nat) (hget : Vint.getBytes bs = (k, n, x)) (hx : x ≠ 0) :
    Calls Try.prog 24 #[.slice A bs.length cap] w fun e w' => ∃ v : EnV, e = .returned (egot v 0 170) ∧ v.x = ⟨[], []⟩ ∧ v.At w.heap.size w' ∧ Below w.heap.size w w' := by
  have hx' : ((x : Int) != 0) = true := by rw [bne_iff_ne]; omega
  have Hget := Lib.hid hget
  have hE0 := Ext.alloc w (.cells #[.slice none 0 0, .slice none 0 0] 28)
  have hg0 := heap_alloc_new w (.cells #[.slice none 0 0, .slice none 0 0] 28)
  clear hget
  go_enter Try.func24, Try.ntmps24
  go_wp2_with fail
  refine (getb A bs cap _ (hA.below hE0) hl hc Hget.out).mono ?_
  rintro e w1 ⟨A1, c1, rfl, hr1, hc1, _, hb1⟩
  have hg : w1.heap[w.heap.size]? = some (.cells #[.slice none 0 0, .slice none 0 0] 28 (0, 0)) := (hb1.block _ (lt_of_heap hg0)).trans hg0
  clear hg0
  go_wp2_with (refine wpList_store_row rfl 28 (.tmp 2) (.tmp 19) rfl w.heap.size #[.slice none 0 0, .slice none 0 0] rfl rfl _ _ hg (by kernel_rfl) rfl (by kernel_rfl) ?_)
  (try simp only [Exit.inBlock, Exit.then])
  refine bodyPost_ret (results_row_tmp2 rfl _ _ w.heap.size 28 #[.slice none 0 0, .slice none 0 0] (0, 0) _ rfl (setRow_heap _ w.heap.size _ #[.slice none 0 0, .slice none 0 0] _ _ hg) Try.underlying28 rfl (by kernel_rfl)) rfl ?_
  exact ⟨⟨none, 0, none, 0, ⟨[], []⟩⟩, rfl, rfl, EnV.at_nil _ _ _ _ _ _, ext_rowD (Ext.tr hE0 hb1) (Nat.le_refl _) _⟩
end Go.Proofs.Ytgjielobfakkmaa

/- Contracts: an entry out of bytes (entry.Get). Printed by wip/tools/gen_entget17.py. -/

namespace Go.Proofs.Ytgjielobfakkmaa

open Go.RowKit

attribute [local go_sem] Oper.semAt_some

set_option maxRecDepth 100000 in
set_option maxHeartbeats 2000000 in
theorem eget_2 (A : Option Addr) (bs : List UInt8) (cap : Nat) (w : World) (hA : RdB w A bs) (hl : bs.length ≤ 1000000) (hc : bs.length ≤ cap) (k : List UInt8) (n : Nat) (hget : Vint.getBytes bs = (k, n, 0)) (v : List UInt8) (m y : Nat) (hget2 : Vint.getBytes (bs.drop n) = (v, m, y)) (hcn : ¬ cap = n) (hy : y ≠ 0) :
    Calls Try.prog 24 #[.slice A bs.length cap] w fun e w' => ∃ u : EnV, e = .returned (egot u 0 170) ∧ u.x = ⟨[], []⟩ ∧ u.At w.heap.size w' ∧ Below w.heap.size w w' := by
  have hn : n ≤ bs.length := by have := Vint.getBytes_le bs; rw [hget] at this; exact this
  have hm : m ≤ bs.length - n := by have := Vint.getBytes_le (bs.drop n); rw [hget2, List.length_drop] at this; exact this
  have Hget := Lib.hid hget
  have hE0 := Ext.alloc w (.cells #[.slice none 0 0, .slice none 0 0] 28)
  have hg0 := heap_alloc_new w (.cells #[.slice none 0 0, .slice none 0 0] 28)
  clear hget
  have Hdl : Hid (bs.length - n = (bs.drop n).length) := (List.length_drop).symm
  have hr := hA.tail hn (c := cap) hc
  rw [if_neg hcn] at hr
  have Hget2 := Lib.hid hget2
  clear hget2
  generalize hr0 : bs.drop n = r at *
  clear hr0
  have hy' : ((y : Int) != 0) = true := by rw [bne_iff_ne]; omega
  go_enter Try.func24, Try.ntmps24
  go_wp2_with fail
  refine (getb A bs cap _ (hA.below hE0) hl hc Hget.out).mono ?_
  rintro e w1 ⟨A1, c1, rfl, hr1, hc1, ho1, hb1⟩
  have hg : w1.heap[w.heap.size]? = some (.cells #[.slice none 0 0, .slice none 0 0] 28 (0, 0)) := (hb1.block _ (lt_of_heap hg0)).trans hg0
  have hE1 := Ext.tr hE0 hb1
  clear hg0 hb1 hE0
  go_wp2_with fail
  rw [show bs.length - n = r.length from Hdl.out]
  refine (getb _ r (cap - n) w1 (hr.below hE1) (by rw [← Hdl.out]; omega) (by rw [← Hdl.out]; omega) Hget2.out).mono ?_
  rintro e w2 ⟨A2, c2, rfl, hr2, hc2, ho2, hb2⟩
  have hg2 : w2.heap[w.heap.size]? = some (.cells #[.slice none 0 0, .slice none 0 0] 28 (0, 0)) := (hb2.block _ (lt_of_heap hg)).trans hg
  have hE2 := Ext.tr hE1 hb2
  have hr1' := hr1.below hb2
  have ho1' := ho1.below hb2
  have hsz2 := hE2.size
  have hsz1 := lt_of_heap hg
  rw [World.size_alloc] at ho1'
  clear hg hE1 hb2 hr1 ho1
  have hin : (⟨A1, c1, A2, c2, ⟨k, v⟩⟩ : EnV).In w2 := ⟨hr1', hr2, hc1, hc2⟩
  obtain ⟨E, hE⟩ : ∃ E : EnV, E = ⟨A1, c1, A2, c2, ⟨k, v⟩⟩ := ⟨_, rfl⟩
  have HEc : Hid (#[.slice A1 k.length c1, .slice A2 v.length c2] = E.cells) := by show _ = _; rw [hE]; rfl
  have hEx : E.x = ⟨k, v⟩ := by rw [hE]
  rw [← hE] at hin
  have HEx := Lib.hid hEx
  have HFAR : Hid (E.At (w.heap.size + 1) w2) := by subst hE; exact ⟨⟨ho1'.rd', ho2.rd', hc1, hc2⟩, ho1'.far (Nat.le_refl _), ho2.far (by omega)⟩
  have hE3 := Ext.tr hE2 (Ext.alloc w2 (.cells E.cells 28))
  have hge := heap_alloc_new w2 (.cells E.cells 28)
  have hg3 : (w2.alloc (.cells E.cells 28)).heap[w.heap.size]? = some (.cells #[.slice none 0 0, .slice none 0 0] 28 (0, 0)) := ((Ext.alloc w2 (.cells E.cells 28)).block _ (lt_of_heap hg2)).trans hg2
  clear hE hEx hr1' hr2
  go_wp2_with (first | (refine wpList_store_row rfl 28 (.tmp 10) (.tmp 30) rfl w2.heap.size E.cells rfl (congrArg Value.agg HEc.out) 28 _ (heap_alloc_new w2 _) (einfo E) (by rfl) (eone E) ?_; rw [setRow_alloc]) | (refine wpList_store_row rfl 28 (.tmp 2) (.tmp 38) rfl w.heap.size #[.slice none 0 0, .slice none 0 0] rfl rfl _ _ hg3 (by kernel_rfl) rfl (by kernel_rfl) ?_))
  (try simp only [Exit.inBlock, Exit.then])
  refine bodyPost_ret (results_row_tmp2 rfl _ _ w.heap.size 28 #[.slice none 0 0, .slice none 0 0] (0, 0) _ rfl (setRow_heap _ w.heap.size _ #[.slice none 0 0, .slice none 0 0] _ _ hg3) Try.underlying28 rfl (by kernel_rfl)) rfl ?_
  exact ⟨⟨none, 0, none, 0, ⟨[], []⟩⟩, rfl, rfl, EnV.at_nil _ _ _ _ _ _, ext_rowD hE3 (Nat.le_refl _) _⟩


set_option maxRecDepth 100000 in
set_option maxHeartbeats 2000000 in
theorem eget_3 (A : Option Addr) (bs : List UInt8) (cap : Nat) (w : World) (hA : RdB w A bs) (hl : bs.length ≤ 1000000) (hc : bs.length ≤ cap) (k : List UInt8) (n : Nat) (hget : Vint.getBytes bs = (k, n, 0)) (v : List UInt8) (m y : Nat) (hget2 : Vint.getBytes (bs.drop n) = (v, m, y)) (hcn : cap = n) (hy : y ≠ 0) :
    Calls Try.prog 24 #[.slice A bs.length cap] w fun e w' => ∃ u : EnV, e = .returned (egot u 0 170) ∧ u.x = ⟨[], []⟩ ∧ u.At w.heap.size w' ∧ Below w.heap.size w w' := by
  have hn : n ≤ bs.length := by have := Vint.getBytes_le bs; rw [hget] at this; exact this
  have hm : m ≤ bs.length - n := by have := Vint.getBytes_le (bs.drop n); rw [hget2, List.length_drop] at this; exact this
  have Hget := Lib.hid hget
  have hE0 := Ext.alloc w (.cells #[.slice none 0 0, .slice none 0 0] 28)
  have hg0 := heap_alloc_new w (.cells #[.slice none 0 0, .slice none 0 0] 28)
  clear hget
  have hr0 : bs.drop n = [] := List.drop_eq_nil_of_le (by omega)
  rw [hr0] at hget2
  have Hget2 := Lib.hid hget2
  clear hr0 hget2
  subst hcn
  have hy' : ((y : Int) != 0) = true := by rw [bne_iff_ne]; omega
  go_enter Try.func24, Try.ntmps24
  go_wp2_with fail
  refine (getb A bs cap _ (hA.below hE0) hl hc Hget.out).mono ?_
  rintro e w1 ⟨A1, c1, rfl, hr1, hc1, ho1, hb1⟩
  have hg : w1.heap[w.heap.size]? = some (.cells #[.slice none 0 0, .slice none 0 0] 28 (0, 0)) := (hb1.block _ (lt_of_heap hg0)).trans hg0
  have hE1 := Ext.tr hE0 hb1
  clear hg0 hb1 hE0
  go_wp2_with fail
  refine (getb A [] 0 w1 (RdB.nil_ _ _) (by simp) (Nat.le_refl _) Hget2.out).mono ?_
  rintro e w2 ⟨A2, c2, rfl, hr2, hc2, ho2, hb2⟩
  have hg2 : w2.heap[w.heap.size]? = some (.cells #[.slice none 0 0, .slice none 0 0] 28 (0, 0)) := (hb2.block _ (lt_of_heap hg)).trans hg
  have hE2 := Ext.tr hE1 hb2
  have hr1' := hr1.below hb2
  have ho1' := ho1.below hb2
  have hsz2 := hE2.size
  have hsz1 := lt_of_heap hg
  rw [World.size_alloc] at ho1'
  clear hg hE1 hb2 hr1 ho1
  have hin : (⟨A1, c1, A2, c2, ⟨k, v⟩⟩ : EnV).In w2 := ⟨hr1', hr2, hc1, hc2⟩
  obtain ⟨E, hE⟩ : ∃ E : EnV, E = ⟨A1, c1, A2, c2, ⟨k, v⟩⟩ := ⟨_, rfl⟩
  have HEc : Hid (#[.slice A1 k.length c1, .slice A2 v.length c2] = E.cells) := by show _ = _; rw [hE]; rfl
  have hEx : E.x = ⟨k, v⟩ := by rw [hE]
  rw [← hE] at hin
  have HEx := Lib.hid hEx
  have HFAR : Hid (E.At (w.heap.size + 1) w2) := by subst hE; exact ⟨⟨ho1'.rd', ho2.rd', hc1, hc2⟩, ho1'.far (Nat.le_refl _), ho2.far (by omega)⟩
  have hE3 := Ext.tr hE2 (Ext.alloc w2 (.cells E.cells 28))
  have hge := heap_alloc_new w2 (.cells E.cells 28)
  have hg3 : (w2.alloc (.cells E.cells 28)).heap[w.heap.size]? = some (.cells #[.slice none 0 0, .slice none 0 0] 28 (0, 0)) := ((Ext.alloc w2 (.cells E.cells 28)).block _ (lt_of_heap hg2)).trans hg2
  clear hE hEx hr1' hr2
  go_wp2_with (first | (refine wpList_store_row rfl 28 (.tmp 10) (.tmp 30) rfl w2.heap.size E.cells rfl (congrArg Value.agg HEc.out) 28 _ (heap_alloc_new w2 _) (einfo E) (by rfl) (eone E) ?_; rw [setRow_alloc]) | (refine wpList_store_row rfl 28 (.tmp 2) (.tmp 38) rfl w.heap.size #[.slice none 0 0, .slice none 0 0] rfl rfl _ _ hg3 (by kernel_rfl) rfl (by kernel_rfl) ?_))
  (try simp only [Exit.inBlock, Exit.then])
  refine bodyPost_ret (results_row_tmp2 rfl _ _ w.heap.size 28 #[.slice none 0 0, .slice none 0 0] (0, 0) _ rfl (setRow_heap _ w.heap.size _ #[.slice none 0 0, .slice none 0 0] _ _ hg3) Try.underlying28 rfl (by kernel_rfl)) rfl ?_
  exact ⟨⟨none, 0, none, 0, ⟨[], []⟩⟩, rfl, rfl, EnV.at_nil _ _ _ _ _ _, ext_rowD hE3 (Nat.le_refl _) _⟩


set_option maxRecDepth 100000 in
set_option maxHeartbeats 2000000 in
theorem eget_4 (A : Option Addr) (bs : List UInt8) (cap : Nat) (w : World) (hA : RdB w A bs) (hl : bs.length ≤ 1000000) (hc : bs.length ≤ cap) (k : List UInt8) (n : Nat) (hget : Vint.getBytes bs = (k, n, 0)) (v : List UInt8) (m y : Nat) (hget2 : Vint.getBytes (bs.drop n) = (v, m, y)) (hcn : ¬ cap = n) (hy : y = 0) (hok : Ent.ok ⟨k, v⟩ = false) :
    Calls Try.prog 24 #[.slice A bs.length cap] w fun e w' => ∃ u : EnV, e = .returned (egot u 0 170) ∧ u.x = ⟨[], []⟩ ∧ u.At w.heap.size w' ∧ Below w.heap.size w w' := by
  have hn : n ≤ bs.length := by have := Vint.getBytes_le bs; rw [hget] at this; exact this
  have hm : m ≤ bs.length - n := by have := Vint.getBytes_le (bs.drop n); rw [hget2, List.length_drop] at this; exact this
  have Hget := Lib.hid hget
  have hE0 := Ext.alloc w (.cells #[.slice none 0 0, .slice none 0 0] 28)
  have hg0 := heap_alloc_new w (.cells #[.slice none 0 0, .slice none 0 0] 28)
  clear hget
  have Hdl : Hid (bs.length - n = (bs.drop n).length) := (List.length_drop).symm
  have hr := hA.tail hn (c := cap) hc
  rw [if_neg hcn] at hr
  have Hget2 := Lib.hid hget2
  clear hget2
  generalize hr0 : bs.drop n = r at *
  clear hr0
  subst hy
  have Hok := Lib.hid hok
  clear hok
  go_enter Try.func24, Try.ntmps24
  go_wp2_with fail
  refine (getb A bs cap _ (hA.below hE0) hl hc Hget.out).mono ?_
  rintro e w1 ⟨A1, c1, rfl, hr1, hc1, ho1, hb1⟩
  have hg : w1.heap[w.heap.size]? = some (.cells #[.slice none 0 0, .slice none 0 0] 28 (0, 0)) := (hb1.block _ (lt_of_heap hg0)).trans hg0
  have hE1 := Ext.tr hE0 hb1
  clear hg0 hb1 hE0
  go_wp2_with fail
  rw [show bs.length - n = r.length from Hdl.out]
  refine (getb _ r (cap - n) w1 (hr.below hE1) (by rw [← Hdl.out]; omega) (by rw [← Hdl.out]; omega) Hget2.out).mono ?_
  rintro e w2 ⟨A2, c2, rfl, hr2, hc2, ho2, hb2⟩
  have hg2 : w2.heap[w.heap.size]? = some (.cells #[.slice none 0 0, .slice none 0 0] 28 (0, 0)) := (hb2.block _ (lt_of_heap hg)).trans hg
  have hE2 := Ext.tr hE1 hb2
  have hr1' := hr1.below hb2
  have ho1' := ho1.below hb2
  have hsz2 := hE2.size
  have hsz1 := lt_of_heap hg
  rw [World.size_alloc] at ho1'
  clear hg hE1 hb2 hr1 ho1
  have hin : (⟨A1, c1, A2, c2, ⟨k, v⟩⟩ : EnV).In w2 := ⟨hr1', hr2, hc1, hc2⟩
  obtain ⟨E, hE⟩ : ∃ E : EnV, E = ⟨A1, c1, A2, c2, ⟨k, v⟩⟩ := ⟨_, rfl⟩
  have HEc : Hid (#[.slice A1 k.length c1, .slice A2 v.length c2] = E.cells) := by show _ = _; rw [hE]; rfl
  have hEx : E.x = ⟨k, v⟩ := by rw [hE]
  rw [← hE] at hin
  have HEx := Lib.hid hEx
  have HFAR : Hid (E.At (w.heap.size + 1) w2) := by subst hE; exact ⟨⟨ho1'.rd', ho2.rd', hc1, hc2⟩, ho1'.far (Nat.le_refl _), ho2.far (by omega)⟩
  have hE3 := Ext.tr hE2 (Ext.alloc w2 (.cells E.cells 28))
  have hge := heap_alloc_new w2 (.cells E.cells 28)
  have hg3 : (w2.alloc (.cells E.cells 28)).heap[w.heap.size]? = some (.cells #[.slice none 0 0, .slice none 0 0] 28 (0, 0)) := ((Ext.alloc w2 (.cells E.cells 28)).block _ (lt_of_heap hg2)).trans hg2
  clear hE hEx hr1' hr2
  go_wp2_with (first | (refine wpList_store_row rfl 28 (.tmp 10) (.tmp 30) rfl w2.heap.size E.cells rfl (congrArg Value.agg HEc.out) 28 _ (heap_alloc_new w2 _) (einfo E) (by rfl) (eone E) ?_; rw [setRow_alloc]) | (refine wpList_load_rowG rfl 28 (.tmp 10) rfl w2.heap.size rfl 28 E.cells (0, 0) _ hge Try.underlying28 rfl (einfo E) ?_))
  refine (isEntry_any E _).mono ?_
  rintro e w4 ⟨rfl, hb4⟩
  rw [HEx.out, Hok.out]
  have hg4 : w4.heap[w.heap.size]? = some (.cells #[.slice none 0 0, .slice none 0 0] 28 (0, 0)) := (hb4.block _ (lt_of_heap hg3)).trans hg3
  have hge4 : w4.heap[w2.heap.size]? = some (.cells E.cells 28 (0, 0)) := (hb4.block _ (lt_of_heap hge)).trans hge
  have hE4 := Ext.tr hE3 hb4
  have hin4 := hin.below (Ext.tr (Ext.alloc w2 _) hb4)
  clear hg3 hge hE3 hb4 hin
  go_wp2_with (refine wpList_store_row rfl 28 (.tmp 2) (.tmp 38) rfl w.heap.size #[.slice none 0 0, .slice none 0 0] rfl rfl _ _ hg4 (by kernel_rfl) rfl (by kernel_rfl) ?_)
  (try simp only [Exit.inBlock, Exit.then])
  refine bodyPost_ret (results_row_tmp2 rfl _ _ w.heap.size 28 #[.slice none 0 0, .slice none 0 0] (0, 0) _ rfl (setRow_heap _ w.heap.size _ #[.slice none 0 0, .slice none 0 0] _ _ hg4) Try.underlying28 rfl (by kernel_rfl)) rfl ?_
  exact ⟨⟨none, 0, none, 0, ⟨[], []⟩⟩, rfl, rfl, EnV.at_nil _ _ _ _ _ _, ext_rowD hE4 (Nat.le_refl _) _⟩


set_option maxRecDepth 100000 in
set_option maxHeartbeats 2000000 in
theorem eget_5 (A : Option Addr) (bs : List UInt8) (cap : Nat) (w : World) (hA : RdB w A bs) (hl : bs.length ≤ 1000000) (hc : bs.length ≤ cap) (k : List UInt8) (n : Nat) (hget : Vint.getBytes bs = (k, n, 0)) (v : List UInt8) (m y : Nat) (hget2 : Vint.getBytes (bs.drop n) = (v, m, y)) (hcn : ¬ cap = n) (hy : y = 0) (hok : Ent.ok ⟨k, v⟩ = true) :
    Calls Try.prog 24 #[.slice A bs.length cap] w fun e w' => ∃ u : EnV, e = .returned (egot u (n + m) 0) ∧ u.x = ⟨k, v⟩ ∧ u.At w.heap.size w' ∧ Below w.heap.size w w' := by
  have hn : n ≤ bs.length := by have := Vint.getBytes_le bs; rw [hget] at this; exact this
  have hm : m ≤ bs.length - n := by have := Vint.getBytes_le (bs.drop n); rw [hget2, List.length_drop] at this; exact this
  have Hget := Lib.hid hget
  have hE0 := Ext.alloc w (.cells #[.slice none 0 0, .slice none 0 0] 28)
  have hg0 := heap_alloc_new w (.cells #[.slice none 0 0, .slice none 0 0] 28)
  clear hget
  have Hdl : Hid (bs.length - n = (bs.drop n).length) := (List.length_drop).symm
  have hr := hA.tail hn (c := cap) hc
  rw [if_neg hcn] at hr
  have Hget2 := Lib.hid hget2
  clear hget2
  generalize hr0 : bs.drop n = r at *
  clear hr0
  subst hy
  have Hok := Lib.hid hok
  clear hok
  go_enter Try.func24, Try.ntmps24
  go_wp2_with fail
  refine (getb A bs cap _ (hA.below hE0) hl hc Hget.out).mono ?_
  rintro e w1 ⟨A1, c1, rfl, hr1, hc1, ho1, hb1⟩
  have hg : w1.heap[w.heap.size]? = some (.cells #[.slice none 0 0, .slice none 0 0] 28 (0, 0)) := (hb1.block _ (lt_of_heap hg0)).trans hg0
  have hE1 := Ext.tr hE0 hb1
  clear hg0 hb1 hE0
  go_wp2_with fail
  rw [show bs.length - n = r.length from Hdl.out]
  refine (getb _ r (cap - n) w1 (hr.below hE1) (by rw [← Hdl.out]; omega) (by rw [← Hdl.out]; omega) Hget2.out).mono ?_
  rintro e w2 ⟨A2, c2, rfl, hr2, hc2, ho2, hb2⟩
  have hg2 : w2.heap[w.heap.size]? = some (.cells #[.slice none 0 0, .slice none 0 0] 28 (0, 0)) := (hb2.block _ (lt_of_heap hg)).trans hg
  have hE2 := Ext.tr hE1 hb2
  have hr1' := hr1.below hb2
  have ho1' := ho1.below hb2
  have hsz2 := hE2.size
  have hsz1 := lt_of_heap hg
  rw [World.size_alloc] at ho1'
  clear hg hE1 hb2 hr1 ho1
  have hin : (⟨A1, c1, A2, c2, ⟨k, v⟩⟩ : EnV).In w2 := ⟨hr1', hr2, hc1, hc2⟩
  obtain ⟨E, hE⟩ : ∃ E : EnV, E = ⟨A1, c1, A2, c2, ⟨k, v⟩⟩ := ⟨_, rfl⟩
  have HEc : Hid (#[.slice A1 k.length c1, .slice A2 v.length c2] = E.cells) := by show _ = _; rw [hE]; rfl
  have hEx : E.x = ⟨k, v⟩ := by rw [hE]
  rw [← hE] at hin
  have HEx := Lib.hid hEx
  have HFAR : Hid (E.At (w.heap.size + 1) w2) := by subst hE; exact ⟨⟨ho1'.rd', ho2.rd', hc1, hc2⟩, ho1'.far (Nat.le_refl _), ho2.far (by omega)⟩
  have hE3 := Ext.tr hE2 (Ext.alloc w2 (.cells E.cells 28))
  have hge := heap_alloc_new w2 (.cells E.cells 28)
  have hg3 : (w2.alloc (.cells E.cells 28)).heap[w.heap.size]? = some (.cells #[.slice none 0 0, .slice none 0 0] 28 (0, 0)) := ((Ext.alloc w2 (.cells E.cells 28)).block _ (lt_of_heap hg2)).trans hg2
  clear hE hEx hr1' hr2
  go_wp2_with (first | (refine wpList_store_row rfl 28 (.tmp 10) (.tmp 30) rfl w2.heap.size E.cells rfl (congrArg Value.agg HEc.out) 28 _ (heap_alloc_new w2 _) (einfo E) (by rfl) (eone E) ?_; rw [setRow_alloc]) | (refine wpList_load_rowG rfl 28 (.tmp 10) rfl w2.heap.size rfl 28 E.cells (0, 0) _ hge Try.underlying28 rfl (einfo E) ?_))
  refine (isEntry_any E _).mono ?_
  rintro e w4 ⟨rfl, hb4⟩
  rw [HEx.out, Hok.out]
  have hg4 : w4.heap[w.heap.size]? = some (.cells #[.slice none 0 0, .slice none 0 0] 28 (0, 0)) := (hb4.block _ (lt_of_heap hg3)).trans hg3
  have hge4 : w4.heap[w2.heap.size]? = some (.cells E.cells 28 (0, 0)) := (hb4.block _ (lt_of_heap hge)).trans hge
  have hE4 := Ext.tr hE3 hb4
  have hin4 := hin.below (Ext.tr (Ext.alloc w2 _) hb4)
  clear hg3 hge hE3 hin
  go_wp2_with (first | (refine wpList_load_row rfl 28 (.tmp 10) rfl w2.heap.size rfl 28 E.cells (0, 0) _ hge4 Try.underlying28 rfl (einfo E) ?_) | (refine wpList_store_row rfl 28 (.tmp 2) (.tmp 39) rfl w.heap.size E.cells rfl rfl _ _ hg4 (einfo E) (by rfl) (eone E) ?_))
  (try simp only [Exit.inBlock, Exit.then])
  refine bodyPost_ret (results_row_tmp2 rfl _ _ w.heap.size 28 E.cells (0, 0) _ rfl (setRow_heap _ w.heap.size _ E.cells _ _ hg4) Try.underlying28 rfl (einfo E)) rfl ?_
  exact ⟨E, by show _ = Ending.returned (egot E (n + m) 0); unfold egot; rw [Int.natCast_add]; rfl, HEx.out, ((HFAR.out.ext (Ext.tr (Ext.alloc w2 _) hb4)).kept (grown_row _ w.heap.size E.cells) (fun r e => .inl (by injection e with e; omega))).mono (by omega), ext_rowD hE4 (Nat.le_refl _) _⟩


theorem Vint.getBytes_nil : Vint.getBytes [] = ([], 0, (Vint.getBytes []).2.2) ∧ (Vint.getBytes []).2.2 ≠ 0 := by decide
theorem eget_any (A : Option Addr) (bs : List UInt8) (cap : Nat) (w : World) (hA : RdB w A bs) (hl : bs.length ≤ 1000000) (hc : bs.length ≤ cap) :
    Calls Try.prog 24 #[.slice A bs.length cap] w fun e w' => ∃ u : EnV, e = .returned (egot u (Ent.get bs).2.1 (Ent.get bs).2.2) ∧ u.x = (Ent.get bs).1 ∧ u.At w.heap.size w' ∧ Below w.heap.size w w' := by
  obtain ⟨k, n, x, h1⟩ : ∃ k n x, Vint.getBytes bs = (k, n, x) := ⟨_, _, _, rfl⟩
  by_cases hx : x = 0
  · subst hx
    obtain ⟨v, m, y, h2⟩ : ∃ v m y, Vint.getBytes (bs.drop n) = (v, m, y) := ⟨_, _, _, rfl⟩
    by_cases hy : y = 0
    · have hcn : ¬ cap = n := by
        intro e
        have h3 : bs.drop n = [] := List.drop_eq_nil_of_le (by omega)
        rw [h3] at h2
        have := Vint.getBytes_nil.2
        rw [h2] at this
        exact this hy
      cases hok : Ent.ok ⟨k, v⟩ with
      | false =>
        have hg : Ent.get bs = (⟨[], []⟩, 0, 170) := by simp [Ent.get, h1, h2, hy, hok]
        rw [hg]
        exact eget_4 A bs cap w hA hl hc k n h1 v m y h2 hcn hy hok
      | true =>
        have hg : Ent.get bs = (⟨k, v⟩, n + m, 0) := by simp [Ent.get, h1, h2, hy, hok]
        rw [hg]
        exact eget_5 A bs cap w hA hl hc k n h1 v m y h2 hcn hy hok
    · have hg : Ent.get bs = (⟨[], []⟩, 0, 170) := by simp [Ent.get, h1, h2, hy]
      rw [hg]
      by_cases hcn : cap = n
      · exact eget_3 A bs cap w hA hl hc k n h1 v m y h2 hcn hy
      · exact eget_2 A bs cap w hA hl hc k n h1 v m y h2 hcn hy
  · have hg : Ent.get bs = (⟨[], []⟩, 0, 170) := by simp [Ent.get, h1, hx]
    rw [hg]
    exact eget_1 A bs cap w hA hl hc k n x h1 hx
theorem Ent.get_le (bs : List UInt8) : (Ent.get bs).2.1 ≤ bs.length ∧ ((Ent.get bs).2.2 = 0 ∨ (Ent.get bs).2.2 = 170) ∧ ((Ent.get bs).2.2 = 0 → 0 < (Ent.get bs).2.1 ∧ (Ent.get bs).1.ok = true) := by
  obtain ⟨k, n, x, h1⟩ : ∃ k n x, Vint.getBytes bs = (k, n, x) := ⟨_, _, _, rfl⟩
  obtain ⟨v, m, y, h2⟩ : ∃ v m y, Vint.getBytes (bs.drop n) = (v, m, y) := ⟨_, _, _, rfl⟩
  have hn : n ≤ bs.length := by have := Vint.getBytes_le bs; rw [h1] at this; exact this
  have hm : m ≤ bs.length - n := by have := Vint.getBytes_le (bs.drop n); rw [h2, List.length_drop] at this; exact this
  have hnk : x = 0 → k.length ≤ n := by
    intro hx
    have h3 := h1
    unfold Vint.getBytes at h3
    split at h3
    · rename_i h4; cases h3; exact absurd hx h4
    · split at h3
      · cases h3; cases hx
      · cases h3; simp; omega
  unfold Ent.get
  simp only [h1, h2]
  split
  · simp
  · split
    · simp
    · split
      · rename_i h4 h5 h6
        have h7 : 1 ≤ k.length := by simp [Ent.ok] at h6; omega
        have := hnk (by simpa using h4)
        exact ⟨by simp only; omega, .inl rfl, fun _ => ⟨by simp only; omega, h6⟩⟩
      · simp

end Go.Proofs.Ytgjielobfakkmaa
