/- Texts of the proof, laid together: EntGet2 Seq2 EntEach. -/
import Derived.Test.YtjholekgdnhpkaaGreatDoorZ3
import Derived.Laws.ResultCell
import Derived.Test.YtjholekgdnhpkaaGreatDoorZ1
import Derived.OrdersIn
import Derived.Test.YtjholekgdnhpkaaGreatDoorZ2
set_option linter.unusedVariables false
set_option linter.unusedSimpArgs false
set_option linter.unusedSectionVars false
namespace Go.Proofs.YtjholekgdnhpkaaGreatDoor
open Go.RowKit
attribute [local go_sem] Oper.semAt_some
def Ent.ok (e : Ent) : Bool := decide (1 ≤ e.key.length) && decide (e.key.length ≤ 24) && decide (e.val.length ≤ 1000)
def Ent.get (b : List UInt8) : Ent × Nat × Nat :=
 let r := Vint.getBytes b
 if r.2.2 ≠ 0 then (⟨[], []⟩, 0, 170) else
  let s := Vint.getBytes (b.drop r.2.1)
  if s.2.2 ≠ 0 then (⟨[], []⟩, 0, 170) else if Ent.ok ⟨r.1, s.1⟩ then (⟨r.1, s.1⟩, r.2.1 + s.2.1, 0) else (⟨[], []⟩, 0, 170)
set_option maxRecDepth 100000 in
set_option maxHeartbeats 800000 in
theorem isEntry_any (e : EnV) (w : World) : Calls Tryz.prog 103 #[e.val] w fun r w' => r = .returned (.bool e.x.ok) ∧ Below w.heap.size w w' := by
 obtain ⟨q, hq⟩ : ∃ q, q = e.x.ok := ⟨_, rfl⟩
 rw [← hq]
 unfold Ent.ok at hq
 have hinfo := einfo e
 have hone := eone e
 have hk : ∀ W : World, W.heap[w.heap.size]? = some (.cells e.cells 40 (0, 0)) → W.cell? ⟨w.heap.size, 0, none⟩ = some (.slice e.ka e.x.key.length e.kc) := fun W h => by rw [cell_of_row W _ _ _ _ _ h]; rfl
 have hv : ∀ W : World, W.heap[w.heap.size]? = some (.cells e.cells 40 (0, 0)) → W.cell? ⟨w.heap.size, 1, none⟩ = some (.slice e.va e.x.val.length e.vc) := fun W h => by rw [cell_of_row W _ _ _ _ _ h]; rfl
 have hb : Below w.heap.size w (w.alloc (.cells e.cells 40)) := (Below.refl _ w).alloc (Nat.le_refl _) _
 have hk1 := hk _ (heap_alloc_new w _)
 have hv1 := hv _ (heap_alloc_new w _)
 have hk2 : (w.alloc (.cells e.cells 40)).drew.cell? ⟨w.heap.size, 0, none⟩ = _ := hk1
 have hv2 : (w.alloc (.cells e.cells 40)).drew.cell? ⟨w.heap.size, 1, none⟩ = _ := hv1
 clear hk hv
 go_enter Tryz.func103, Tryz.ntmps103
 unfold EnV.val
 have h1 := Nat.lt_or_ge e.x.key.length 1
 have h2 := Nat.lt_or_ge 24 e.x.key.length
 have h3 := Nat.lt_or_ge 1000 e.x.val.length
 rcases h1 with h1 | h1
 ·
  have b1 : decide (1 ≤ (e.x.key.length : Int)) = false := by simp; omega
  go_wp2_with fail
  go_ret
  exact ⟨by rw [hq]; simp; omega, hb⟩
 ·
  have b1 : decide (1 ≤ (e.x.key.length : Int)) = true := by simp; omega
  rcases h2 with h2 | h2
  ·
   have b2 : decide ((e.x.key.length : Int) ≤ 24) = false := by simp; omega
   go_wp2_with fail
   go_ret
   exact ⟨by rw [hq]; simp; omega, hb⟩
  ·
   have b2 : decide ((e.x.key.length : Int) ≤ 24) = true := by simp; omega
   rcases h3 with h3 | h3
   ·
    have b3 : decide ((e.x.val.length : Int) ≤ 1000) = false := by simp; omega
    go_wp2_with fail
    go_ret
    exact ⟨by rw [hq]; simp; omega, hb⟩
   ·
    have b3 : decide ((e.x.val.length : Int) ≤ 1000) = true := by simp; omega
    go_wp2_with fail
    go_ret
    exact ⟨by rw [hq]; simp; omega, hb⟩
theorem results_row_tmp2 {P : Program} {fn : Func} {p u v : Tmp} {ty : TypeId} (h : fn.results = #[.cell p ty, .tmp u, .tmp v]) (tmps : Array Value) (w : World) (g : Nat) (t : TypeId) (cs : Array Value) (fr : Nat × Nat) (d : TypeDesc)
  (hp : tmps.getD p undef = .pointer (some ⟨g, 0, none⟩)) (hg : w.heap[g]? = some (.cells cs t fr))
  (hu : P.underlying ty = some d) (hd : (match d with | .struct _ | .array _ _ => true | _ => false) = true) (hi : (P.info? ty).map (·.size) = some cs.size) :
  (results fn tmps).run P w = .ok (.tuple #[.agg cs, tmps.getD u undef, tmps.getD v undef]) w := by
 have h2 : (results fn tmps).run P w = ((asAddr (tmps.getD p undef)).run P w).andThen fun a w₁ => ((loadVar ty a).run P w₁).andThen fun x w₂ => .ok (.tuple #[x, tmps.getD u undef, tmps.getD v undef]) w₂ := by
  simp only [results, h]
  simp [Sem.run_bind, Result.andThen]
 rw [h2, hp]
 simp [asAddr, run_loadVar_row w g t ty cs fr d hg hu hd hi, Result.andThen]
theorem Vint.getBytes_le (b : List UInt8) : (Vint.getBytes b).2.1 ≤ b.length := by
 have h := Vint.get_le b
 unfold Vint.getBytes
 split
 ·
  simp
 ·
  split
  ·
   simp
  ·
   simp only; omega
theorem getb (A : Option Addr) (bs : List UInt8) (cap : Nat) (w : World) (hA : RdB w A bs) (hl : bs.length ≤ 1000000) (hc : bs.length ≤ cap) {k : List UInt8} {n x : Nat} (h : Vint.getBytes bs = (k, n, x)) :
  Calls Tryz.prog 90 #[.slice A bs.length cap] w fun e w' => ∃ A' c', e = .returned (.tuple #[.slice A' k.length c', .int .i64 (n : Int), .int .i64 (x : Int)]) ∧ RdB w' A' k ∧ k.length ≤ c' ∧ Own w' w.heap.size 5 1 A' k.length c' (bvs k) ∧ Below w.heap.size w w' := by
 refine (getbytes_any A bs cap w hA hl hc).mono ?_
 rintro e w' ⟨A', c', rfl, ho, hb⟩
 rw [h] at ho ⊢
 exact ⟨A', c', rfl, ho.rd', ho.nc, ho, hb⟩
def FarB (B : Nat) (W : World) (A : Option Addr) (d : List UInt8) : Prop := d ≠ [] → ∃ ad cur fr, A = some ad ∧ B ≤ ad.block ∧ W.heap[ad.block]? = some (.cells cur 5 fr)
theorem Own.far {w : World} {B n c : Nat} {A : Option Addr} {d : List UInt8} (h : Own w B 5 1 A n c (bvs d)) {B' : Nat} (hB : B' ≤ B) : FarB B' w A d := by
 intro hd
 rcases h.mem with h0 | ⟨g, off, cur, hA, hb, hg, _⟩
 ·
  exfalso
  have h1 := h.len
  have h2 := h.nc
  rw [bvs_len] at h1
  have := List.length_pos_iff.2 hd
  omega
 ·
  exact ⟨_, cur, (0, 0), hA, by show _ ≤ g; omega, hg⟩
theorem FarB.kept {W W' : World} {A : Option Addr} {d : List UInt8} {B : Nat} {row : Option Nat} (hf : FarB B W A d) (hg : W.grownBy W' row) (hr : ∀ r, row = some r → r < B ∨ ∀ cur fr, W.heap[r]? ≠ some (.cells cur 5 fr)) : FarB B W' A d := by
 intro hd
 obtain ⟨ad, cur, fr, hA, hb, hh⟩ := hf hd
 refine ⟨ad, cur, fr, hA, hb, (hg.block _ (lt_of_heap hh) (fun e => ?_)).trans hh⟩
 rcases hr _ e.symm with h | h
 ·
  omega
 ·
  exact h _ _ hh
theorem RdB.kept {W W' : World} {A : Option Addr} {d : List UInt8} {B : Nat} {row : Option Nat} (h : RdB W A d) (hf : FarB B W A d) (hg : W.grownBy W' row) (hr : ∀ r, row = some r → r < B ∨ ∀ cur fr, W.heap[r]? ≠ some (.cells cur 5 fr)) : RdB W' A d := by
 refine ⟨h.1, fun hx => ?_⟩
 obtain ⟨ad, hA, hc⟩ := h.2 hx
 have hd : d ≠ [] := by intro e; subst e; exact hx rfl
 obtain ⟨ad', cur, fr, hA', hb, hh⟩ := hf hd
 rw [hA] at hA'
 injection hA' with hA'
 subst hA'
 refine ⟨ad, hA, fun j u hj => ?_⟩
 have h1 := hc j u hj
 have hblk : (ad.add j).block = ad.block := by unfold Addr.add; split <;> rfl
 have h2 : W'.heap[(ad.add j).block]? = W.heap[(ad.add j).block]? := by
  rw [hblk]
  refine hg.block _ (lt_of_heap hh) (fun e => ?_)
  rcases hr _ e.symm with h | h
  ·
   omega
  ·
   exact h _ _ hh
 unfold World.cell? at h1 ⊢
 rw [h2]
 exact h1
structure EnV.At (B : Nat) (W : World) (e : EnV) : Prop where
 i : e.In W
 k : FarB B W e.ka e.x.key
 v : FarB B W e.va e.x.val
theorem EnV.at_nil (B : Nat) (W : World) (a : Option Addr) (b : Nat) (c : Option Addr) (d : Nat) : EnV.At B W ⟨a, b, c, d, ⟨[], []⟩⟩ := ⟨⟨RdB.nil_ _ _, RdB.nil_ _ _, Nat.zero_le _, Nat.zero_le _⟩, fun h => absurd rfl h, fun h => absurd rfl h⟩
theorem EnV.At.kept {W W' : World} {e : EnV} {B : Nat} {row : Option Nat} (h : e.At B W) (hg : W.grownBy W' row) (hr : ∀ r, row = some r → r < B ∨ ∀ cur fr, W.heap[r]? ≠ some (.cells cur 5 fr)) : e.At B W' :=
 ⟨⟨h.i.kr.kept h.k hg hr, h.i.vr.kept h.v hg hr, h.i.kcap, h.i.vcap⟩, h.k.kept hg hr, h.v.kept hg hr⟩
theorem EnV.At.ext {W W' : World} {e : EnV} {B : Nat} (h : e.At B W) (hE : Ext W W') : e.At B W' := h.kept (grown_ext hE none) (fun r e => by cases e)
theorem FarB.mono {B B' : Nat} {W : World} {A : Option Addr} {d : List UInt8} (h : FarB B W A d) (hB : B' ≤ B) : FarB B' W A d := fun hd => let ⟨ad, c, f, h1, h2, h3⟩ := h hd; ⟨ad, c, f, h1, by omega, h3⟩
theorem EnV.At.mono {B B' : Nat} {W : World} {e : EnV} (h : e.At B W) (hB : B' ≤ B) : e.At B' W := ⟨h.i, h.k.mono hB, h.v.mono hB⟩
theorem grown_row (w : World) (g : Nat) (cs : Array Value) : w.grownBy (w.setRow g cs) (some g) := ⟨rfl, rfl, rfl, by simp, fun k _ hn => setRow_other _ _ _ _ (fun e => hn (by rw [e]))⟩
def egot (v : EnV) (n e : Nat) : Value := .tuple #[v.val, .int .i64 (n : Int), .int .i64 (e : Int)]
set_option maxRecDepth 100000 in
set_option maxHeartbeats 2000000 in
theorem eget_1 (A : Option Addr) (bs : List UInt8) (cap : Nat) (w : World) (hA : RdB w A bs) (hl : bs.length ≤ 1000000) (hc : bs.length ≤ cap) (k : List UInt8) (n x : Nat) (hget : Vint.getBytes bs = (k, n, x)) (hx : x ≠ 0) :
  Calls Tryz.prog 97 #[.slice A bs.length cap] w fun e w' => ∃ v : EnV, e = .returned (egot v 0 170) ∧ v.x = ⟨[], []⟩ ∧ v.At w.heap.size w' ∧ Below w.heap.size w w' := by
 have hx' : ((x : Int) != 0) = true := by rw [bne_iff_ne]; omega
 have Hget := Lib.hid hget
 have hE0 := Ext.alloc w (.cells #[.slice none 0 0, .slice none 0 0] 40)
 have hg0 := heap_alloc_new w (.cells #[.slice none 0 0, .slice none 0 0] 40)
 clear hget
 go_enter Tryz.func97, Tryz.ntmps97
 go_wp2_with fail
 refine (getb A bs cap _ (hA.below hE0) hl hc Hget.out).mono ?_
 rintro e w1 ⟨A1, c1, rfl, hr1, hc1, _, hb1⟩
 have hg : w1.heap[w.heap.size]? = some (.cells #[.slice none 0 0, .slice none 0 0] 40 (0, 0)) := (hb1.block _ (lt_of_heap hg0)).trans hg0
 clear hg0
 go_wp2_with (refine wpList_store_row rfl 40 (.tmp 2) (.tmp 19) rfl w.heap.size #[.slice none 0 0, .slice none 0 0] rfl rfl _ _ hg (by kernel_rfl) rfl (by kernel_rfl) ?_)
 (try simp only [Exit.inBlock, Exit.then])
 refine bodyPost_ret (results_row_tmp2 rfl _ _ w.heap.size 40 #[.slice none 0 0, .slice none 0 0] (0, 0) _ rfl (setRow_heap _ w.heap.size _ #[.slice none 0 0, .slice none 0 0] _ _ hg) Tryz.underlying40 rfl (by kernel_rfl)) rfl ?_
 exact ⟨⟨none, 0, none, 0, ⟨[], []⟩⟩, rfl, rfl, EnV.at_nil _ _ _ _ _ _, ext_rowD (Ext.tr hE0 hb1) (Nat.le_refl _) _⟩
end Go.Proofs.YtjholekgdnhpkaaGreatDoor
namespace Go.Proofs.YtjholekgdnhpkaaGreatDoor
open Go.RowKit
attribute [local go_sem] Oper.semAt_some
set_option maxRecDepth 100000 in
set_option maxHeartbeats 2000000 in
theorem eget_2 (A : Option Addr) (bs : List UInt8) (cap : Nat) (w : World) (hA : RdB w A bs) (hl : bs.length ≤ 1000000) (hc : bs.length ≤ cap) (k : List UInt8) (n : Nat) (hget : Vint.getBytes bs = (k, n, 0)) (v : List UInt8) (m y : Nat) (hget2 : Vint.getBytes (bs.drop n) = (v, m, y)) (hcn : ¬ cap = n) (hy : y ≠ 0) :
  Calls Tryz.prog 97 #[.slice A bs.length cap] w fun e w' => ∃ u : EnV, e = .returned (egot u 0 170) ∧ u.x = ⟨[], []⟩ ∧ u.At w.heap.size w' ∧ Below w.heap.size w w' := by
 have hn : n ≤ bs.length := by have := Vint.getBytes_le bs; rw [hget] at this; exact this
 have hm : m ≤ bs.length - n := by have := Vint.getBytes_le (bs.drop n); rw [hget2, List.length_drop] at this; exact this
 have Hget := Lib.hid hget
 have hE0 := Ext.alloc w (.cells #[.slice none 0 0, .slice none 0 0] 40)
 have hg0 := heap_alloc_new w (.cells #[.slice none 0 0, .slice none 0 0] 40)
 clear hget
 have Hdl : Hid (bs.length - n = (bs.drop n).length) := (List.length_drop).symm
 have hr := hA.tail hn (c := cap) hc
 rw [if_neg hcn] at hr
 have Hget2 := Lib.hid hget2
 clear hget2
 generalize hr0 : bs.drop n = r at *
 clear hr0
 have hy' : ((y : Int) != 0) = true := by rw [bne_iff_ne]; omega
 go_enter Tryz.func97, Tryz.ntmps97
 go_wp2_with fail
 refine (getb A bs cap _ (hA.below hE0) hl hc Hget.out).mono ?_
 rintro e w1 ⟨A1, c1, rfl, hr1, hc1, ho1, hb1⟩
 have hg : w1.heap[w.heap.size]? = some (.cells #[.slice none 0 0, .slice none 0 0] 40 (0, 0)) := (hb1.block _ (lt_of_heap hg0)).trans hg0
 have hE1 := Ext.tr hE0 hb1
 clear hg0 hb1 hE0
 go_wp2_with fail
 rw [show bs.length - n = r.length from Hdl.out]
 refine (getb _ r (cap - n) w1 (hr.below hE1) (by rw [← Hdl.out]; omega) (by rw [← Hdl.out]; omega) Hget2.out).mono ?_
 rintro e w2 ⟨A2, c2, rfl, hr2, hc2, ho2, hb2⟩
 have hg2 : w2.heap[w.heap.size]? = some (.cells #[.slice none 0 0, .slice none 0 0] 40 (0, 0)) := (hb2.block _ (lt_of_heap hg)).trans hg
 have hE2 := Ext.tr hE1 hb2
 have hr1' := hr1.below hb2
 have ho1' := ho1.below hb2
 have hsz2 := hE2.size
 have hsz1 := lt_of_heap hg
 rw [World.size_alloc] at ho1'
 clear hg hE1 hb2 hr1 ho1
 have hin : (⟨A1, c1, A2, c2, ⟨k, v⟩⟩ : EnV).In w2 := ⟨hr1', hr2, hc1, hc2⟩
 obtain ⟨E, hE⟩ : ∃ E : EnV, E = ⟨A1, c1, A2, c2, ⟨k, v⟩⟩ := ⟨_, rfl⟩
 have HEc : Hid (#[.slice A1 k.length c1, .slice A2 v.length c2] = E.cells) := by show _ = _; rw [hE]; rfl
 have hEx : E.x = ⟨k, v⟩ := by rw [hE]
 rw [← hE] at hin
 have HEx := Lib.hid hEx
 have HFAR : Hid (E.At (w.heap.size + 1) w2) := by subst hE; exact ⟨⟨ho1'.rd', ho2.rd', hc1, hc2⟩, ho1'.far (Nat.le_refl _), ho2.far (by omega)⟩
 have hE3 := Ext.tr hE2 (Ext.alloc w2 (.cells E.cells 40))
 have hge := heap_alloc_new w2 (.cells E.cells 40)
 have hg3 : (w2.alloc (.cells E.cells 40)).heap[w.heap.size]? = some (.cells #[.slice none 0 0, .slice none 0 0] 40 (0, 0)) := ((Ext.alloc w2 (.cells E.cells 40)).block _ (lt_of_heap hg2)).trans hg2
 clear hE hEx hr1' hr2
 go_wp2_with (first | (refine wpList_store_row rfl 40 (.tmp 10) (.tmp 30) rfl w2.heap.size E.cells rfl (congrArg Value.agg HEc.out) 40 _ (heap_alloc_new w2 _) (einfo E) (by rfl) (eone E) ?_; rw [setRow_alloc]) | (refine wpList_store_row rfl 40 (.tmp 2) (.tmp 38) rfl w.heap.size #[.slice none 0 0, .slice none 0 0] rfl rfl _ _ hg3 (by kernel_rfl) rfl (by kernel_rfl) ?_))
 (try simp only [Exit.inBlock, Exit.then])
 refine bodyPost_ret (results_row_tmp2 rfl _ _ w.heap.size 40 #[.slice none 0 0, .slice none 0 0] (0, 0) _ rfl (setRow_heap _ w.heap.size _ #[.slice none 0 0, .slice none 0 0] _ _ hg3) Tryz.underlying40 rfl (by kernel_rfl)) rfl ?_
 exact ⟨⟨none, 0, none, 0, ⟨[], []⟩⟩, rfl, rfl, EnV.at_nil _ _ _ _ _ _, ext_rowD hE3 (Nat.le_refl _) _⟩
set_option maxRecDepth 100000 in
set_option maxHeartbeats 2000000 in
theorem eget_3 (A : Option Addr) (bs : List UInt8) (cap : Nat) (w : World) (hA : RdB w A bs) (hl : bs.length ≤ 1000000) (hc : bs.length ≤ cap) (k : List UInt8) (n : Nat) (hget : Vint.getBytes bs = (k, n, 0)) (v : List UInt8) (m y : Nat) (hget2 : Vint.getBytes (bs.drop n) = (v, m, y)) (hcn : cap = n) (hy : y ≠ 0) :
  Calls Tryz.prog 97 #[.slice A bs.length cap] w fun e w' => ∃ u : EnV, e = .returned (egot u 0 170) ∧ u.x = ⟨[], []⟩ ∧ u.At w.heap.size w' ∧ Below w.heap.size w w' := by
 have hn : n ≤ bs.length := by have := Vint.getBytes_le bs; rw [hget] at this; exact this
 have hm : m ≤ bs.length - n := by have := Vint.getBytes_le (bs.drop n); rw [hget2, List.length_drop] at this; exact this
 have Hget := Lib.hid hget
 have hE0 := Ext.alloc w (.cells #[.slice none 0 0, .slice none 0 0] 40)
 have hg0 := heap_alloc_new w (.cells #[.slice none 0 0, .slice none 0 0] 40)
 clear hget
 have hr0 : bs.drop n = [] := List.drop_eq_nil_of_le (by omega)
 rw [hr0] at hget2
 have Hget2 := Lib.hid hget2
 clear hr0 hget2
 subst hcn
 have hy' : ((y : Int) != 0) = true := by rw [bne_iff_ne]; omega
 go_enter Tryz.func97, Tryz.ntmps97
 go_wp2_with fail
 refine (getb A bs cap _ (hA.below hE0) hl hc Hget.out).mono ?_
 rintro e w1 ⟨A1, c1, rfl, hr1, hc1, ho1, hb1⟩
 have hg : w1.heap[w.heap.size]? = some (.cells #[.slice none 0 0, .slice none 0 0] 40 (0, 0)) := (hb1.block _ (lt_of_heap hg0)).trans hg0
 have hE1 := Ext.tr hE0 hb1
 clear hg0 hb1 hE0
 go_wp2_with fail
 refine (getb A [] 0 w1 (RdB.nil_ _ _) (by simp) (Nat.le_refl _) Hget2.out).mono ?_
 rintro e w2 ⟨A2, c2, rfl, hr2, hc2, ho2, hb2⟩
 have hg2 : w2.heap[w.heap.size]? = some (.cells #[.slice none 0 0, .slice none 0 0] 40 (0, 0)) := (hb2.block _ (lt_of_heap hg)).trans hg
 have hE2 := Ext.tr hE1 hb2
 have hr1' := hr1.below hb2
 have ho1' := ho1.below hb2
 have hsz2 := hE2.size
 have hsz1 := lt_of_heap hg
 rw [World.size_alloc] at ho1'
 clear hg hE1 hb2 hr1 ho1
 have hin : (⟨A1, c1, A2, c2, ⟨k, v⟩⟩ : EnV).In w2 := ⟨hr1', hr2, hc1, hc2⟩
 obtain ⟨E, hE⟩ : ∃ E : EnV, E = ⟨A1, c1, A2, c2, ⟨k, v⟩⟩ := ⟨_, rfl⟩
 have HEc : Hid (#[.slice A1 k.length c1, .slice A2 v.length c2] = E.cells) := by show _ = _; rw [hE]; rfl
 have hEx : E.x = ⟨k, v⟩ := by rw [hE]
 rw [← hE] at hin
 have HEx := Lib.hid hEx
 have HFAR : Hid (E.At (w.heap.size + 1) w2) := by subst hE; exact ⟨⟨ho1'.rd', ho2.rd', hc1, hc2⟩, ho1'.far (Nat.le_refl _), ho2.far (by omega)⟩
 have hE3 := Ext.tr hE2 (Ext.alloc w2 (.cells E.cells 40))
 have hge := heap_alloc_new w2 (.cells E.cells 40)
 have hg3 : (w2.alloc (.cells E.cells 40)).heap[w.heap.size]? = some (.cells #[.slice none 0 0, .slice none 0 0] 40 (0, 0)) := ((Ext.alloc w2 (.cells E.cells 40)).block _ (lt_of_heap hg2)).trans hg2
 clear hE hEx hr1' hr2
 go_wp2_with (first | (refine wpList_store_row rfl 40 (.tmp 10) (.tmp 30) rfl w2.heap.size E.cells rfl (congrArg Value.agg HEc.out) 40 _ (heap_alloc_new w2 _) (einfo E) (by rfl) (eone E) ?_; rw [setRow_alloc]) | (refine wpList_store_row rfl 40 (.tmp 2) (.tmp 38) rfl w.heap.size #[.slice none 0 0, .slice none 0 0] rfl rfl _ _ hg3 (by kernel_rfl) rfl (by kernel_rfl) ?_))
 (try simp only [Exit.inBlock, Exit.then])
 refine bodyPost_ret (results_row_tmp2 rfl _ _ w.heap.size 40 #[.slice none 0 0, .slice none 0 0] (0, 0) _ rfl (setRow_heap _ w.heap.size _ #[.slice none 0 0, .slice none 0 0] _ _ hg3) Tryz.underlying40 rfl (by kernel_rfl)) rfl ?_
 exact ⟨⟨none, 0, none, 0, ⟨[], []⟩⟩, rfl, rfl, EnV.at_nil _ _ _ _ _ _, ext_rowD hE3 (Nat.le_refl _) _⟩
set_option maxRecDepth 100000 in
set_option maxHeartbeats 2000000 in
theorem eget_4 (A : Option Addr) (bs : List UInt8) (cap : Nat) (w : World) (hA : RdB w A bs) (hl : bs.length ≤ 1000000) (hc : bs.length ≤ cap) (k : List UInt8) (n : Nat) (hget : Vint.getBytes bs = (k, n, 0)) (v : List UInt8) (m y : Nat) (hget2 : Vint.getBytes (bs.drop n) = (v, m, y)) (hcn : ¬ cap = n) (hy : y = 0) (hok : Ent.ok ⟨k, v⟩ = false) :
  Calls Tryz.prog 97 #[.slice A bs.length cap] w fun e w' => ∃ u : EnV, e = .returned (egot u 0 170) ∧ u.x = ⟨[], []⟩ ∧ u.At w.heap.size w' ∧ Below w.heap.size w w' := by
 have hn : n ≤ bs.length := by have := Vint.getBytes_le bs; rw [hget] at this; exact this
 have hm : m ≤ bs.length - n := by have := Vint.getBytes_le (bs.drop n); rw [hget2, List.length_drop] at this; exact this
 have Hget := Lib.hid hget
 have hE0 := Ext.alloc w (.cells #[.slice none 0 0, .slice none 0 0] 40)
 have hg0 := heap_alloc_new w (.cells #[.slice none 0 0, .slice none 0 0] 40)
 clear hget
 have Hdl : Hid (bs.length - n = (bs.drop n).length) := (List.length_drop).symm
 have hr := hA.tail hn (c := cap) hc
 rw [if_neg hcn] at hr
 have Hget2 := Lib.hid hget2
 clear hget2
 generalize hr0 : bs.drop n = r at *
 clear hr0
 subst hy
 have Hok := Lib.hid hok
 clear hok
 go_enter Tryz.func97, Tryz.ntmps97
 go_wp2_with fail
 refine (getb A bs cap _ (hA.below hE0) hl hc Hget.out).mono ?_
 rintro e w1 ⟨A1, c1, rfl, hr1, hc1, ho1, hb1⟩
 have hg : w1.heap[w.heap.size]? = some (.cells #[.slice none 0 0, .slice none 0 0] 40 (0, 0)) := (hb1.block _ (lt_of_heap hg0)).trans hg0
 have hE1 := Ext.tr hE0 hb1
 clear hg0 hb1 hE0
 go_wp2_with fail
 rw [show bs.length - n = r.length from Hdl.out]
 refine (getb _ r (cap - n) w1 (hr.below hE1) (by rw [← Hdl.out]; omega) (by rw [← Hdl.out]; omega) Hget2.out).mono ?_
 rintro e w2 ⟨A2, c2, rfl, hr2, hc2, ho2, hb2⟩
 have hg2 : w2.heap[w.heap.size]? = some (.cells #[.slice none 0 0, .slice none 0 0] 40 (0, 0)) := (hb2.block _ (lt_of_heap hg)).trans hg
 have hE2 := Ext.tr hE1 hb2
 have hr1' := hr1.below hb2
 have ho1' := ho1.below hb2
 have hsz2 := hE2.size
 have hsz1 := lt_of_heap hg
 rw [World.size_alloc] at ho1'
 clear hg hE1 hb2 hr1 ho1
 have hin : (⟨A1, c1, A2, c2, ⟨k, v⟩⟩ : EnV).In w2 := ⟨hr1', hr2, hc1, hc2⟩
 obtain ⟨E, hE⟩ : ∃ E : EnV, E = ⟨A1, c1, A2, c2, ⟨k, v⟩⟩ := ⟨_, rfl⟩
 have HEc : Hid (#[.slice A1 k.length c1, .slice A2 v.length c2] = E.cells) := by show _ = _; rw [hE]; rfl
 have hEx : E.x = ⟨k, v⟩ := by rw [hE]
 rw [← hE] at hin
 have HEx := Lib.hid hEx
 have HFAR : Hid (E.At (w.heap.size + 1) w2) := by subst hE; exact ⟨⟨ho1'.rd', ho2.rd', hc1, hc2⟩, ho1'.far (Nat.le_refl _), ho2.far (by omega)⟩
 have hE3 := Ext.tr hE2 (Ext.alloc w2 (.cells E.cells 40))
 have hge := heap_alloc_new w2 (.cells E.cells 40)
 have hg3 : (w2.alloc (.cells E.cells 40)).heap[w.heap.size]? = some (.cells #[.slice none 0 0, .slice none 0 0] 40 (0, 0)) := ((Ext.alloc w2 (.cells E.cells 40)).block _ (lt_of_heap hg2)).trans hg2
 clear hE hEx hr1' hr2
 go_wp2_with (first | (refine wpList_store_row rfl 40 (.tmp 10) (.tmp 30) rfl w2.heap.size E.cells rfl (congrArg Value.agg HEc.out) 40 _ (heap_alloc_new w2 _) (einfo E) (by rfl) (eone E) ?_; rw [setRow_alloc]) | (refine wpList_load_rowG rfl 40 (.tmp 10) rfl w2.heap.size rfl 40 E.cells (0, 0) _ hge Tryz.underlying40 rfl (einfo E) ?_))
 refine (isEntry_any E _).mono ?_
 rintro e w4 ⟨rfl, hb4⟩
 rw [HEx.out, Hok.out]
 have hg4 : w4.heap[w.heap.size]? = some (.cells #[.slice none 0 0, .slice none 0 0] 40 (0, 0)) := (hb4.block _ (lt_of_heap hg3)).trans hg3
 have hge4 : w4.heap[w2.heap.size]? = some (.cells E.cells 40 (0, 0)) := (hb4.block _ (lt_of_heap hge)).trans hge
 have hE4 := Ext.tr hE3 hb4
 have hin4 := hin.below (Ext.tr (Ext.alloc w2 _) hb4)
 clear hg3 hge hE3 hb4 hin
 go_wp2_with (refine wpList_store_row rfl 40 (.tmp 2) (.tmp 38) rfl w.heap.size #[.slice none 0 0, .slice none 0 0] rfl rfl _ _ hg4 (by kernel_rfl) rfl (by kernel_rfl) ?_)
 (try simp only [Exit.inBlock, Exit.then])
 refine bodyPost_ret (results_row_tmp2 rfl _ _ w.heap.size 40 #[.slice none 0 0, .slice none 0 0] (0, 0) _ rfl (setRow_heap _ w.heap.size _ #[.slice none 0 0, .slice none 0 0] _ _ hg4) Tryz.underlying40 rfl (by kernel_rfl)) rfl ?_
 exact ⟨⟨none, 0, none, 0, ⟨[], []⟩⟩, rfl, rfl, EnV.at_nil _ _ _ _ _ _, ext_rowD hE4 (Nat.le_refl _) _⟩
set_option maxRecDepth 100000 in
set_option maxHeartbeats 2000000 in
theorem eget_5 (A : Option Addr) (bs : List UInt8) (cap : Nat) (w : World) (hA : RdB w A bs) (hl : bs.length ≤ 1000000) (hc : bs.length ≤ cap) (k : List UInt8) (n : Nat) (hget : Vint.getBytes bs = (k, n, 0)) (v : List UInt8) (m y : Nat) (hget2 : Vint.getBytes (bs.drop n) = (v, m, y)) (hcn : ¬ cap = n) (hy : y = 0) (hok : Ent.ok ⟨k, v⟩ = true) :
  Calls Tryz.prog 97 #[.slice A bs.length cap] w fun e w' => ∃ u : EnV, e = .returned (egot u (n + m) 0) ∧ u.x = ⟨k, v⟩ ∧ u.At w.heap.size w' ∧ Below w.heap.size w w' := by
 have hn : n ≤ bs.length := by have := Vint.getBytes_le bs; rw [hget] at this; exact this
 have hm : m ≤ bs.length - n := by have := Vint.getBytes_le (bs.drop n); rw [hget2, List.length_drop] at this; exact this
 have Hget := Lib.hid hget
 have hE0 := Ext.alloc w (.cells #[.slice none 0 0, .slice none 0 0] 40)
 have hg0 := heap_alloc_new w (.cells #[.slice none 0 0, .slice none 0 0] 40)
 clear hget
 have Hdl : Hid (bs.length - n = (bs.drop n).length) := (List.length_drop).symm
 have hr := hA.tail hn (c := cap) hc
 rw [if_neg hcn] at hr
 have Hget2 := Lib.hid hget2
 clear hget2
 generalize hr0 : bs.drop n = r at *
 clear hr0
 subst hy
 have Hok := Lib.hid hok
 clear hok
 go_enter Tryz.func97, Tryz.ntmps97
 go_wp2_with fail
 refine (getb A bs cap _ (hA.below hE0) hl hc Hget.out).mono ?_
 rintro e w1 ⟨A1, c1, rfl, hr1, hc1, ho1, hb1⟩
 have hg : w1.heap[w.heap.size]? = some (.cells #[.slice none 0 0, .slice none 0 0] 40 (0, 0)) := (hb1.block _ (lt_of_heap hg0)).trans hg0
 have hE1 := Ext.tr hE0 hb1
 clear hg0 hb1 hE0
 go_wp2_with fail
 rw [show bs.length - n = r.length from Hdl.out]
 refine (getb _ r (cap - n) w1 (hr.below hE1) (by rw [← Hdl.out]; omega) (by rw [← Hdl.out]; omega) Hget2.out).mono ?_
 rintro e w2 ⟨A2, c2, rfl, hr2, hc2, ho2, hb2⟩
 have hg2 : w2.heap[w.heap.size]? = some (.cells #[.slice none 0 0, .slice none 0 0] 40 (0, 0)) := (hb2.block _ (lt_of_heap hg)).trans hg
 have hE2 := Ext.tr hE1 hb2
 have hr1' := hr1.below hb2
 have ho1' := ho1.below hb2
 have hsz2 := hE2.size
 have hsz1 := lt_of_heap hg
 rw [World.size_alloc] at ho1'
 clear hg hE1 hb2 hr1 ho1
 have hin : (⟨A1, c1, A2, c2, ⟨k, v⟩⟩ : EnV).In w2 := ⟨hr1', hr2, hc1, hc2⟩
 obtain ⟨E, hE⟩ : ∃ E : EnV, E = ⟨A1, c1, A2, c2, ⟨k, v⟩⟩ := ⟨_, rfl⟩
 have HEc : Hid (#[.slice A1 k.length c1, .slice A2 v.length c2] = E.cells) := by show _ = _; rw [hE]; rfl
 have hEx : E.x = ⟨k, v⟩ := by rw [hE]
 rw [← hE] at hin
 have HEx := Lib.hid hEx
 have HFAR : Hid (E.At (w.heap.size + 1) w2) := by subst hE; exact ⟨⟨ho1'.rd', ho2.rd', hc1, hc2⟩, ho1'.far (Nat.le_refl _), ho2.far (by omega)⟩
 have hE3 := Ext.tr hE2 (Ext.alloc w2 (.cells E.cells 40))
 have hge := heap_alloc_new w2 (.cells E.cells 40)
 have hg3 : (w2.alloc (.cells E.cells 40)).heap[w.heap.size]? = some (.cells #[.slice none 0 0, .slice none 0 0] 40 (0, 0)) := ((Ext.alloc w2 (.cells E.cells 40)).block _ (lt_of_heap hg2)).trans hg2
 clear hE hEx hr1' hr2
 go_wp2_with (first | (refine wpList_store_row rfl 40 (.tmp 10) (.tmp 30) rfl w2.heap.size E.cells rfl (congrArg Value.agg HEc.out) 40 _ (heap_alloc_new w2 _) (einfo E) (by rfl) (eone E) ?_; rw [setRow_alloc]) | (refine wpList_load_rowG rfl 40 (.tmp 10) rfl w2.heap.size rfl 40 E.cells (0, 0) _ hge Tryz.underlying40 rfl (einfo E) ?_))
 refine (isEntry_any E _).mono ?_
 rintro e w4 ⟨rfl, hb4⟩
 rw [HEx.out, Hok.out]
 have hg4 : w4.heap[w.heap.size]? = some (.cells #[.slice none 0 0, .slice none 0 0] 40 (0, 0)) := (hb4.block _ (lt_of_heap hg3)).trans hg3
 have hge4 : w4.heap[w2.heap.size]? = some (.cells E.cells 40 (0, 0)) := (hb4.block _ (lt_of_heap hge)).trans hge
 have hE4 := Ext.tr hE3 hb4
 have hin4 := hin.below (Ext.tr (Ext.alloc w2 _) hb4)
 clear hg3 hge hE3 hin
 go_wp2_with (first | (refine wpList_load_row rfl 40 (.tmp 10) rfl w2.heap.size rfl 40 E.cells (0, 0) _ hge4 Tryz.underlying40 rfl (einfo E) ?_) | (refine wpList_store_row rfl 40 (.tmp 2) (.tmp 39) rfl w.heap.size E.cells rfl rfl _ _ hg4 (einfo E) (by rfl) (eone E) ?_))
 (try simp only [Exit.inBlock, Exit.then])
 refine bodyPost_ret (results_row_tmp2 rfl _ _ w.heap.size 40 E.cells (0, 0) _ rfl (setRow_heap _ w.heap.size _ E.cells _ _ hg4) Tryz.underlying40 rfl (einfo E)) rfl ?_
 exact ⟨E, by show _ = Ending.returned (egot E (n + m) 0); unfold egot; rw [Int.natCast_add]; rfl, HEx.out, ((HFAR.out.ext (Ext.tr (Ext.alloc w2 _) hb4)).kept (grown_row _ w.heap.size E.cells) (fun r e => .inl (by injection e with e; omega))).mono (by omega), ext_rowD hE4 (Nat.le_refl _) _⟩
theorem Vint.getBytes_nil : Vint.getBytes [] = ([], 0, (Vint.getBytes []).2.2) ∧ (Vint.getBytes []).2.2 ≠ 0 := by decide
theorem eget_any (A : Option Addr) (bs : List UInt8) (cap : Nat) (w : World) (hA : RdB w A bs) (hl : bs.length ≤ 1000000) (hc : bs.length ≤ cap) :
  Calls Tryz.prog 97 #[.slice A bs.length cap] w fun e w' => ∃ u : EnV, e = .returned (egot u (Ent.get bs).2.1 (Ent.get bs).2.2) ∧ u.x = (Ent.get bs).1 ∧ u.At w.heap.size w' ∧ Below w.heap.size w w' := by
 obtain ⟨k, n, x, h1⟩ : ∃ k n x, Vint.getBytes bs = (k, n, x) := ⟨_, _, _, rfl⟩
 by_cases hx : x = 0
 ·
  subst hx
  obtain ⟨v, m, y, h2⟩ : ∃ v m y, Vint.getBytes (bs.drop n) = (v, m, y) := ⟨_, _, _, rfl⟩
  by_cases hy : y = 0
  ·
   have hcn : ¬ cap = n := by
    intro e
    have h3 : bs.drop n = [] := List.drop_eq_nil_of_le (by omega)
    rw [h3] at h2
    have := Vint.getBytes_nil.2
    rw [h2] at this
    exact this hy
   cases hok : Ent.ok ⟨k, v⟩ with
   | false =>
    have hg : Ent.get bs = (⟨[], []⟩, 0, 170) := by simp [Ent.get, h1, h2, hy, hok]
    rw [hg]
    exact eget_4 A bs cap w hA hl hc k n h1 v m y h2 hcn hy hok
   | true =>
    have hg : Ent.get bs = (⟨k, v⟩, n + m, 0) := by simp [Ent.get, h1, h2, hy, hok]
    rw [hg]
    exact eget_5 A bs cap w hA hl hc k n h1 v m y h2 hcn hy hok
  ·
   have hg : Ent.get bs = (⟨[], []⟩, 0, 170) := by simp [Ent.get, h1, h2, hy]
   rw [hg]
   by_cases hcn : cap = n
   ·
    exact eget_3 A bs cap w hA hl hc k n h1 v m y h2 hcn hy
   ·
    exact eget_2 A bs cap w hA hl hc k n h1 v m y h2 hcn hy
 ·
  have hg : Ent.get bs = (⟨[], []⟩, 0, 170) := by simp [Ent.get, h1, hx]
  rw [hg]
  exact eget_1 A bs cap w hA hl hc k n x h1 hx
theorem Ent.get_le (bs : List UInt8) : (Ent.get bs).2.1 ≤ bs.length ∧ ((Ent.get bs).2.2 = 0 ∨ (Ent.get bs).2.2 = 170) ∧ ((Ent.get bs).2.2 = 0 → 0 < (Ent.get bs).2.1 ∧ (Ent.get bs).1.ok = true) := by
 obtain ⟨k, n, x, h1⟩ : ∃ k n x, Vint.getBytes bs = (k, n, x) := ⟨_, _, _, rfl⟩
 obtain ⟨v, m, y, h2⟩ : ∃ v m y, Vint.getBytes (bs.drop n) = (v, m, y) := ⟨_, _, _, rfl⟩
 have hn : n ≤ bs.length := by have := Vint.getBytes_le bs; rw [h1] at this; exact this
 have hm : m ≤ bs.length - n := by have := Vint.getBytes_le (bs.drop n); rw [h2, List.length_drop] at this; exact this
 have hnk : x = 0 → k.length ≤ n := by
  intro hx
  have h3 := h1
  unfold Vint.getBytes at h3
  split at h3
  ·
   rename_i h4; cases h3; exact absurd hx h4
  ·
   split at h3
   ·
    cases h3; cases hx
   ·
    cases h3; simp; omega
 unfold Ent.get
 simp only [h1, h2]
 split
 ·
  simp
 ·
  split
  ·
   simp
  ·
   split
   ·
    rename_i h4 h5 h6
    have h7 : 1 ≤ k.length := by simp [Ent.ok] at h6; omega
    have := hnk (by simpa using h4)
    exact ⟨by simp only; omega, .inl rfl, fun _ => ⟨by simp only; omega, h6⟩⟩
   ·
    simp
end Go.Proofs.YtjholekgdnhpkaaGreatDoor
namespace Go.Proofs.YtjholekgdnhpkaaGreatDoor
open Go.RowKit
theorem wpAny_in {P : Program} {md : Region.Mode} {ops : Array Oper} {Q : Exit → Act → World → Prop} (l n : Nat) (hd : ∀ (i : Nat) (o : Oper), ops[i]? = some o → ∀ c, o.op ≠ .defer c) (hQ : ¬ LetsOut Q) :
  ∀ (fuel : Nat) (listed : Array Bool) (a : Act) (w : World), wpAny P md ops Q fuel listed a w → wpAnyIn (Fence.wide.inRound l) n P md ops Q fuel listed a w
 | 0, _, _, _, h => h
 | fuel + 1, listed, a, w, h => by
  refine ⟨h.1, fun i hi => ?_⟩
  have h2 := h.2 i hi
  unfold wpOp at h2
  unfold wpOpIn
  cases ho : ops[i]? with
  | none => rw [ho] at h2; exact wpAny_in l n hd hQ fuel _ _ _ h2
  | some o =>
   rw [ho] at h2
   simp only at h2 ⊢
   split
   ·
    rename_i hw
    rw [if_pos hw] at h2
    rcases h2 with h2 | ⟨_, h2⟩
    ·
     unfold Oper.wp at h2
     unfold Oper.wpIn
     refine ⟨fun _ _ => trivial, ?_⟩
     rw [show (Fence.wide.inRound l).round = some l from rfl, Oper.semAt_some l _ _ (hd i o ho)]
     generalize (execOp a.eval o).run P w = r at *
     cases r with
     | ok x w' =>
      cases x <;> simp only [Oper.upon] at h2 <;> simp only [Oper.uponIn]
      case value => exact wpAny_in l n hd hQ fuel _ _ _ h2
      case skip => exact wpAny_in l n hd hQ fuel _ _ _ h2
      case defer => exact wpAny_in l n hd hQ fuel _ _ _ h2
      case enter f args =>
       refine ⟨fun h => by simp [Fence.wide] at h, CallsIn.inRound l (callsIn_wide.2 (h2.mono fun e w'' he => ?_))⟩
       cases e with
       | returned v => exact wpAny_in l n hd hQ fuel _ _ _ he
       | panicked c => exact he
       | outgrown => exact he
      case row row args =>
       refine ⟨fun h => by simp [Fence.wide] at h, fun c cs _ => ?_⟩
       obtain ⟨v, w'', hr, hs⟩ := h2 c cs
       exact ⟨v, w'', wpAny_in l n hd hQ fuel _ _ _ hr, stepsIn_wide.2 hs⟩
     | halt x w' => cases x <;> simp only [Oper.upon] at h2 <;> simp only [Oper.uponIn]; exact h2
    ·
     exact absurd h2 hQ
   ·
    rename_i hw
    rw [if_neg hw] at h2
    exact ⟨fun _ _ => trivial, wpAny_in l n hd hQ fuel _ _ _ h2⟩
theorem rg_startIn {P : Program} {ops : Array Oper} {Q : Exit → Act → World → Prop} (l n : Nat) {id : Nat} {a : Act} {w : World} (hm : P.follows .mixedOrders = true) (hd : (ops.all fun o => match o.op with | .defer _ => false | _ => true) = true) (hQ : ¬ LetsOut Q)
  (h : wpAnyR P .any ops Q ops.size (Array.replicate ops.size false) a w.drew) : (Code.region id ops true).wpIn (Fence.wide.inRound l) n P Q a w := by
 refine wpIn_region_any hm (wpAny_in l n (fun i o hi c e => ?_) hQ _ _ _ _ (wpAny_of_R _ _ _ _ h))
 have h1 := (Array.all_eq_true.1 hd) i (Array.getElem?_eq_some_iff.1 hi).1
 rw [(Array.getElem?_eq_some_iff.1 hi).2, e] at h1
 cases h1
def GivesSome {α : Type} (F : Fence) (n : Nat) (P : Program) (gf : Nat) (lb : Array Value) (encs : World → α → Array Value → Prop) (Kp : World → World → Prop) (xs : List α) (gb : Nat) (w : World) : Prop :=
 ∀ (l : Nat) (J Jx : List α → World → Prop) (W : World), Below w.heap.size w W → (∀ s A B, J s A → A.grownBy B (some gb) → (A.heap[gb]?.map Obj.isCells) = some true → J s B) → (∀ s A B, Jx s A → A.grownBy B (some gb) → (A.heap[gb]?.map Obj.isCells) = some true → Jx s B) →
  (∀ pre x vs W1, J pre W1 → (pre ++ [x]) <+: xs → encs W1 x vs → YieldAt F (n - 1) P l vs W1 fun e W' => (e = .returned (.bool true) ∧ J (pre ++ [x]) W' ∧ Kp W1 W') ∨ (e = .returned (.bool false) ∧ Jx (pre ++ [x]) W')) →
  J [] W →
  CallsIn F n P gf (#[.func (.yield l) #[] #[]] ++ lb) W fun e W' => (∃ v, e = .returned v) ∧ (J xs W' ∨ ∃ pre, pre <+: xs ∧ Jx pre W')
def goesOrLeaves {α : Type} (Kp : World → World → Prop) (I Ix : List α → World → Prop) (xs : List α) (W : World) : Exit → Act → World → Prop
 | .normal, _, W' => KeepsOthers W W' ∧ Kp W W' ∧ I xs W'
 | .ret, _, W' => KeepsOthers W W' ∧ Ix xs W'
 | _, _, _ => False
theorem wp_range_some {P : Program} {α : Type} {g : Operand} {ps : Array Tmp} {assign body : Code} {Q : Exit → Act → World → Prop} {a : Act} {w : World} {n : Nat} (hn : 1 ≤ n)
  {gf : Nat} {lb : Array Value} (hg : a.eval g = .func (.func gf) #[] lb) (eg : ∀ args w, (callFunc gf args).run P w = .ok (.enter gf args) w)
  {encs : World → α → Array Value → Prop} {Kp : World → World → Prop} {xs : List α} {gb : Nat} (hseq : GivesSome Fence.wide (n - 1) P gf lb encs Kp xs gb w)
  (hgb : gb < w.heap.size) (hKt : ∀ {A B C : World}, Kp A B → Kp B C → Kp A C) (hKb : ∀ (W : World) (l : Nat) (o o' : Obj), w.heap.size ≤ l → W.heap[l]? = some o → o.isCells = false → Kp W (W.putObj l o')) (hps : ∀ W x vs, encs W x vs → vs.size = ps.size)
  (I Ix : List α → World → Prop) (Mid : α → Act → World → Prop) (hI : ∀ s A B row, I s A → A.grownBy B row → (∀ r, row = some r → w.heap.size ≤ r ∧ (A.heap[r]?.map Obj.isCells) = some false) → I s B)
  (hIx : ∀ s A B row, Ix s A → A.grownBy B row → (∀ r, row = some r → w.heap.size ≤ r ∧ (A.heap[r]?.map Obj.isCells) = some false) → Ix s B)
  (hMid : ∀ x a' A l o o', Mid x a' A → w.heap.size ≤ l → A.heap[l]? = some o → o.isCells = false → Mid x a' (A.putObj l o'))
  (hIg : ∀ s A B, I s A → A.grownBy B (some gb) → (A.heap[gb]?.map Obj.isCells) = some true → I s B) (hIxg : ∀ s A B, Ix s A → A.grownBy B (some gb) → (A.heap[gb]?.map Obj.isCells) = some true → Ix s B) (h0 : I [] w)
  (hassign : ∀ (l : Nat) (pre : List α) (x : α) (vs : Array Value) (W : World) (K : Act → World → Prop), I pre W → encs W x vs → (∀ a' W', KeepsOthers W W' → Kp W W' → I pre W' → Mid x a' W' → K a' W') →
   assign.wpIn (Fence.wide.inRound l) (n - 1 - 1) P (Exit.then K (fun _ _ _ => False)) { tmps := (ps.zip vs).foldl (fun t (p, v) => t.setIfInBounds p v) a.tmps, defers := [] } W)
  (hbody : ∀ (l : Nat) (pre : List α) (x : α) (a' : Act) (W : World), I pre W → (pre ++ [x]) <+: xs → Mid x a' W → body.wpIn (Fence.wide.inRound l) (n - 1 - 1) P (goesOrLeaves Kp I Ix (pre ++ [x]) W) a' W)
  (hdone : ∀ (D : Nat) (W : World), I xs W → w.heap.size ≤ D → W.heap[D]? = some (.deferred (some [])) → Q .normal { a with defers := { target := .collected D, args := #[] } :: a.defers } W)
  (hstop : ∀ (D : Nat) (pre : List α) (W : World), pre <+: xs → Ix pre W → w.heap.size ≤ D → W.heap[D]? = some (.deferred (some [])) → Q .ret { a with defers := { target := .collected D, args := #[] } :: a.defers } W) :
  (Code.rangeFunc g ps assign body).wp P Q a w := by
 refine (wpIn_wide (n := n)).1 (wpIn_rangeFunc ?_)
 intro fn hfn
 obtain ⟨rec, hrec⟩ : ∃ rec : LoopState → Option Code → Loop, rec = fun st pe => { state := st, pending := pe, fn, tmps := a.tmps, params := ps, assign, body, defers := w.heap.size } := ⟨_, rfl⟩
 obtain ⟨W1, hW1⟩ : ∃ W1, (w.alloc (.deferred (some []))).alloc (.loop (rec .ready none)) = W1 := ⟨_, rfl⟩
 have hL1 : W1.heap[w.heap.size + 1]? = some (.loop (rec .ready none)) := by
  rw [← hW1]; have := World.alloc_heap_new (w.alloc (.deferred (some []))) (.loop (rec .ready none)); rwa [World.size_alloc] at this
 have hK1 : W1.heap[w.heap.size]? = some (.deferred (some [])) := by
  rw [← hW1]; exact (Below.heap_alloc _ _ _ (by simp)).trans (World.alloc_heap_new w _)
 have hIalloc : ∀ s (A : World) (o : Obj), I s A → I s (A.alloc o) := fun s A o h => hI s A _ none h (World.grownBy_alloc A o none) (fun r e => by cases e)
 have hIput : ∀ s (A : World) (l : Nat) (o o' : Obj), I s A → w.heap.size ≤ l → A.heap[l]? = some o → o.isCells = false → I s (A.putObj l o') := fun s A l o o' h hl ho hc =>
  hI s A _ (some l) h (grownBy_putObj' A l o') (fun r e => by cases e; exact ⟨hl, by rw [ho]; simp [hc]⟩)
 have hIxput : ∀ s (A : World) (l : Nat) (o o' : Obj), Ix s A → w.heap.size ≤ l → A.heap[l]? = some o → o.isCells = false → Ix s (A.putObj l o') := fun s A l o o' h hl ho hc =>
  hIx s A _ (some l) h (grownBy_putObj' A l o') (fun r e => by cases e; exact ⟨hl, by rw [ho]; simp [hc]⟩)
 have hI1 : I [] W1 := by rw [← hW1]; exact hIalloc _ _ _ (hIalloc _ _ _ h0)
 have hb1 : Below w.heap.size w W1 := by
  rw [← hW1]; exact ((Below.refl _ w).alloc (Nat.le_refl _) _).alloc (by simp) _
 refine ⟨w.heap.size + 1, [{ target := .collected w.heap.size, args := #[] }], W1, { target := .fn (.func gf) lb, args := #[.func (.yield (w.heap.size + 1)) #[] #[]] }, W1, gf,
  #[.func (.yield (w.heap.size + 1)) #[] #[]] ++ lb, W1, ?_, ?_, ?_, ?_, fun _ => hn, ?_⟩
 ·
  rw [← hW1, hrec]; exact run_enterLoop_outer _ _ _ _ _
 ·
  simp only [resolve, hg]
  simp [go_sem]
 ·
  intro f' hf'; trivial
 ·
  simp [invoke, go_sem, eg]
 ·
  refine (hseq (w.heap.size + 1)
   (fun pre W => I pre W ∧ W.heap[w.heap.size + 1]? = some (.loop (rec .ready none)) ∧ W.heap[w.heap.size]? = some (.deferred (some [])))
   (fun pre W => Ix pre W ∧ W.heap[w.heap.size + 1]? = some (.loop (rec .done (some .ret))) ∧ W.heap[w.heap.size]? = some (.deferred (some [])))
   W1 hb1
   (fun s A B hs hg' hc => ⟨hIg s A B hs.1 hg' hc, (hg'.block _ (Array.getElem?_eq_some_iff.1 hs.2.1).1 (by intro e; injection e with e; omega)).trans hs.2.1, (hg'.block _ (Array.getElem?_eq_some_iff.1 hs.2.2).1 (by intro e; injection e with e; omega)).trans hs.2.2⟩)
   (fun s A B hs hg' hc => ⟨hIxg s A B hs.1 hg' hc, (hg'.block _ (Array.getElem?_eq_some_iff.1 hs.2.1).1 (by intro e; injection e with e; omega)).trans hs.2.1, (hg'.block _ (Array.getElem?_eq_some_iff.1 hs.2.2).1 (by intro e; injection e with e; omega)).trans hs.2.2⟩)
   ?_ ⟨hI1, hL1, hK1⟩).mono ?_
  ·
   rintro pre x vs W ⟨hi, hl, hk⟩ hpre hev
   have hy := run_yield (P := P) (args := vs) hl (by rw [hrec]; exact hps _ _ _ hev)
   rw [hrec] at hy
   refine ⟨fn, _, assign, body, hy, roundIn_of_wpIn hfn (hassign _ pre x vs W _ hi hev ?_)⟩
   intro a2 W0 hko0 hkp0 hi0 hmid0
   have hl0 := hko0.same _ _ hl rfl
   have hk0 := hko0.same _ _ hk rfl
   have hlt : w.heap.size + 1 < W0.heap.size := (Array.getElem?_eq_some_iff.1 hl0).1
   refine ⟨_, run_beginRound hl0 (by rw [hrec]), ?_⟩
   have hl2 : (W0.putObj (w.heap.size + 1) (.loop { rec .ready none with state := .busy })).heap[w.heap.size + 1]? = some (.loop { rec .ready none with state := .busy }) := World.putObj_heap_same hlt
   have hk2 : (W0.putObj (w.heap.size + 1) (.loop { rec .ready none with state := .busy })).heap[w.heap.size]? = some (.deferred (some [])) := (World.putObj_heap_other (by omega)).trans hk0
   have hw2 : Kp W (W0.putObj (w.heap.size + 1) (.loop { rec .ready none with state := .busy })) := hKt hkp0 (hKb _ _ _ _ (by omega) hl0 rfl)
   refine wpIn_mono (hbody _ pre x _ _ (hIput _ _ _ _ _ hi0 (by omega) hl0 rfl) hpre (hMid _ _ _ _ _ _ hmid0 (by omega) hl0 rfl)) ?_
   rintro e a3 W3 hp
   cases e with
   | normal =>
    obtain ⟨hk3, hkp3, hi3⟩ := hp
    have hl3 := hk3.same _ _ hl2 rfl
    have hr := run_endRound (P := P) none hl3
    rw [hrec] at hr hl3
    have hl4 : (W3.putObj (w.heap.size + 1) (.loop (rec .ready none))).heap[w.heap.size + 1]? = some (.loop (rec .ready none)) := World.putObj_heap_same (Array.getElem?_eq_some_iff.1 hl3).1
    have hk4 : (W3.putObj (w.heap.size + 1) (.loop (rec .ready none))).heap[w.heap.size]? = some (.deferred (some [])) := (World.putObj_heap_other (by omega)).trans (hk3.same _ _ hk2 rfl)
    rw [hrec] at hl4 hk4
    refine ⟨_, _, hr, .inl ⟨rfl, ⟨hIput _ _ _ _ _ hi3 (by omega) hl3 rfl, ?_, ?_⟩, hKt (hKt hw2 hkp3) (hKb _ _ _ _ (by omega) hl3 rfl)⟩⟩
    ·
     rw [hrec]; exact hl4
    ·
     exact hk4
   | ret =>
    obtain ⟨hk3, hi3⟩ := hp
    have hl3 := hk3.same _ _ hl2 rfl
    have hr := run_endRound (P := P) (some .ret) hl3
    rw [hrec] at hr hl3
    have hl4 : (W3.putObj (w.heap.size + 1) (.loop (rec .done (some .ret)))).heap[w.heap.size + 1]? = some (.loop (rec .done (some .ret))) := World.putObj_heap_same (Array.getElem?_eq_some_iff.1 hl3).1
    have hk4 : (W3.putObj (w.heap.size + 1) (.loop (rec .done (some .ret)))).heap[w.heap.size]? = some (.deferred (some [])) := (World.putObj_heap_other (by omega)).trans (hk3.same _ _ hk2 rfl)
    rw [hrec] at hl4 hk4
    refine ⟨_, _, hr, .inr ⟨rfl, hIxput _ _ _ _ _ hi3 (by omega) hl3 rfl, ?_, ?_⟩⟩
    ·
     rw [hrec]; exact hl4
    ·
     exact hk4
   | exit id => exact hp.elim
   | goto t => exact hp.elim
   | panic ch => exact hp.elim
   | outgrown => exact hp.elim
  ·
   rintro e W2 ⟨⟨v, rfl⟩, (⟨hi, hl, hk⟩ | ⟨pre, hpre, hi, hl, hk⟩)⟩
   ·
    refine ⟨none, _, by have := run_endLoop (P := P) hl (by rw [hrec]; simp); rw [hrec] at this; exact this, hdone _ _ (hIput _ _ _ _ _ hi (by omega) hl rfl) (Nat.le_refl _) ((World.putObj_heap_other (by omega)).trans hk)⟩
   ·
    refine ⟨some .ret, _, by have := run_endLoop (P := P) hl (by rw [hrec]; simp); rw [hrec] at this; exact this, wpIn_ret (hstop _ pre _ hpre (hIxput _ _ _ _ _ hi (by omega) hl rfl) (Nat.le_refl _) ((World.putObj_heap_other (by omega)).trans hk))⟩
end Go.Proofs.YtjholekgdnhpkaaGreatDoor
namespace Go.Proofs.YtjholekgdnhpkaaGreatDoor
open Go.RowKit
attribute [local go_sem] Oper.semAt_some
theorem wpListIn_load_row {F : Fence} {n : Nat} {P : Program} {ops : Array Oper} {rest : List Oper} {o : Oper} {a : Act} {w : World} {Q : Exit → Act → World → Prop} (hgd : o.guard = none) (ty : TypeId) (x : Operand) (ho : o.op = .load ty x)
  (g : Nat) (hx : a.eval x = .pointer (some ⟨g, 0, none⟩)) (t : TypeId) (cs : Array Value) (fr : Nat × Nat) (d : TypeDesc) (hg : w.heap[g]? = some (.cells cs t fr))
  (hu : P.underlying ty = some d) (hd : (match d with | .struct _ | .array _ _ => true | _ => false) = true) (hi : (P.info? ty).map (·.size) = some cs.size)
  (h : wpListIn F n P ops Q rest (a.put o.dst (.agg cs)) w) : wpListIn F n P ops Q (o :: rest) a w :=
 wpListIn_plain hgd fun K hK => by
  unfold Oper.wpIn
  refine ⟨by simp [Oper.about, ho], ?_⟩
  rw [Oper.semAt_plain F _ _ (by rw [ho]; intro c h; cases h), ex_load_row ty x ho g hx t cs fr d hg hu hd hi]
  exact hK _ _ h
theorem wpListIn_store_row {F : Fence} {n : Nat} {P : Program} {ops : Array Oper} {rest : List Oper} {o : Oper} {a : Act} {w : World} {Q : Exit → Act → World → Prop} (hgd : o.guard = none) (ty : TypeId) (x y : Operand) (ho : o.op = .store ty x y)
  (g : Nat) (cells : Array Value) (hx : a.eval x = .pointer (some ⟨g, 0, none⟩)) (hy : a.eval y = .agg cells)
  (t : TypeId) (old : Array Value) (hg : w.heap[g]? = some (.cells old t (0, 0))) (hi : (P.info? ty).map (·.size) = some cells.size)
  (hold : old.size = cells.size) (h1 : cells.all (·.oneCell') = true)
  (h : wpListIn F n P ops Q rest (a.put o.dst undef) (w.setRow g cells)) : wpListIn F n P ops Q (o :: rest) a w :=
 wpListIn_plain hgd fun K hK => by
  unfold Oper.wpIn
  refine ⟨by simp [Oper.about, ho], ?_⟩
  rw [Oper.semAt_plain F _ _ (by rw [ho]; intro c h; cases h)]
  have hx2 : (execOp a.eval o).run P w = .ok .skip (w.setRow g cells) := by
   unfold execOp
   simp only [ho, hx, hy, Instr.storeAt, Instr.sureAddr, Sem.run_bind, Sem.run_pure, Result.andThen_ok, run_storeVar_row w g t ty old cells hg hi hold h1]
  rw [hx2]
  exact hK _ _ h
def Ent.items : Nat → List UInt8 → List (Ent × Nat)
 | 0, _ => []
 | f + 1, b => if b = [] then [] else if (Ent.get b).2.2 = 0 then ((Ent.get b).1, 0) :: Ent.items f (b.drop (Ent.get b).2.1) else [((Ent.get b).1, (Ent.get b).2.2)]
theorem Ent.items_nil (f : Nat) : Ent.items f [] = [] := by cases f <;> simp [Ent.items]
def encE (B : Nat) (W : World) (x : Ent × Nat) (vs : Array Value) : Prop := ∃ u : EnV, vs = #[.agg u.cells, .int .i64 (x.2 : Int)] ∧ u.x = x.1 ∧ u.At B W
def lenOf : Option Value → Nat
 | some (.slice _ n _) => n
 | _ => 0
set_option maxRecDepth 100000 in
set_option maxHeartbeats 2000000 in
theorem each_gives (k : Nat) (_hk : 1 ≤ k) (gb : Nat) (A : Option Addr) (bs : List UInt8) (cap : Nat) (w0 w : World) (hgb : w.heap[gb]? = some (.cells #[.slice A bs.length cap] 23 (0, 0))) (hA : RdB w0 A bs) (hb0 : Below w0.heap.size w0 w) (hg0 : w0.heap.size ≤ gb) (hl : bs.length ≤ 1000000) (hc : bs.length ≤ cap) :
  GivesSome Fence.wide k Tryz.prog 96 #[.pointer (some ⟨gb, 0, none⟩)] (encE w.heap.size) (KeepB gb w0.heap.size) (Ent.items bs.length bs) gb w := by
 intro l J Jx W hB hJ hJx hY h0
 have hgW : W.heap[gb]? = some (.cells #[.slice A bs.length cap] 23 (0, 0)) := (hB.block gb (lt_of_heap hgb)).trans hgb
 have hbW : Below w0.heap.size w0 W := hb0.trans (hB.mono hb0.size)
 have hJb : ∀ s X Y, J s X → Ext X Y → (X.heap[gb]?.map Obj.isCells) = some true → J s Y := fun s X Y h1 h2 h3 => hJ s X Y h1 (grown_ext h2 _) h3
 clear hgb hb0
 refine callsIn_of_wp Tryz.func96 rfl trivial ?_ rfl
 simp only [Tryz.ntmps96, List.size_toArray, List.length_cons, List.length_nil, Nat.reduceAdd, Nat.reduceSub, Array.replicate_succ, Array.replicate_zero, List.push_toArray, List.append_toArray, List.nil_append, List.cons_append]
 gi_wp2
 gi_loopw [3, 4, 5] (fun _ _ _ wr => ∃ (pre : List (Ent × Nat)) (f : Nat) (rest : List UInt8) (A' : Option Addr) (cap' : Nat), pre ++ Ent.items f rest = Ent.items bs.length bs ∧ rest.length ≤ f ∧ rest.length ≤ bs.length ∧ rest.length ≤ cap' ∧ RdB w0 A' rest ∧ J pre wr ∧ w.heap.size ≤ wr.heap.size ∧ wr.heap[gb]? = some (.cells #[.slice A' rest.length cap'] 23 (0, 0)) ∧ Below w0.heap.size w0 wr)
  (fun _ _ _ wr => lenOf (wr.cell? ⟨gb, 0, none⟩))
 case atStart => exact ⟨[], bs.length, bs, A, cap, rfl, Nat.le_refl _, Nat.le_refl _, hc, hA, h0, hB.size, hgW, hbW⟩
 case round =>
  obtain ⟨pre, f, rest, A', cap', hpre, hrf, hrb, hrc, hA', hJp, hsz, hg, hbw⟩ := hrel
  have hcg : (wr.heap[gb]?.map Obj.isCells) = some true := by rw [hg]; rfl
  by_cases hr : rest = []
  ·
   subst hr
   rw [Ent.items_nil, List.append_nil] at hpre
   subst hpre
   have hcell : wr.cell? ⟨gb, 0, none⟩ = some (.slice A' 0 cap') := cell_of_row wr gb 0 _ _ _ hg
   gi_wp2
   go_end0
   exact ⟨⟨_, rfl⟩, .inl hJp⟩
  ·
   obtain ⟨f, rfl⟩ : ∃ f', f = f' + 1 := ⟨f - 1, by have := List.length_pos_iff.2 hr; omega⟩
   have hcell : wr.cell? ⟨gb, 0, none⟩ = some (.slice A' rest.length cap') := cell_of_row wr gb 0 _ _ _ hg
   have hpos : 0 < (rest.length : Int) := by have := List.length_pos_iff.2 hr; omega
   obtain ⟨hle, her, hok⟩ := Ent.get_le rest
   have hgot := eget_any A' rest cap' wr (hA'.below hbw) (by omega) hrc
   have hit : Ent.items (f + 1) rest = if (Ent.get rest).2.2 = 0 then ((Ent.get rest).1, 0) :: Ent.items f (rest.drop (Ent.get rest).2.1) else [((Ent.get rest).1, (Ent.get rest).2.2)] := by rw [Ent.items, if_neg hr]
   rw [hit] at hpre
   obtain ⟨x, m, er, hx⟩ : ∃ x m er, Ent.get rest = (x, m, er) := ⟨_, _, _, rfl⟩
   rw [hx] at hle her hok hgot hpre
   simp only at hle her hok hgot hpre
   have Hgot := Lib.hid hgot
   have Hcell := Lib.hid hcell
   have Hg := Lib.hid hg
   have Hok := Lib.hid hok
   clear hit hx hr hgot hg hok
   gi_wp2_with fail
   refine ⟨trivial, (callsIn_wide.2 Hgot.out).mono ?_⟩
   rintro e w1 ⟨u, rfl, hux, hat, hb1⟩
   simp only [egot]
   have hE1 := Ext.tr hb1 (Ext.alloc w1 (.cells u.cells 40))
   have hJ1 := hJb _ _ _ hJp hE1 hcg
   have hcg1 : ((w1.alloc (.cells u.cells 40)).heap[gb]?.map Obj.isCells) = some true := by rw [hE1.block gb (lt_of_heap Hg.out)]; exact hcg
   have hg1 : (w1.alloc (.cells u.cells 40)).heap[gb]? = some (.cells #[.slice A' rest.length cap'] 23 (0, 0)) := (hE1.block gb (lt_of_heap Hg.out)).trans Hg.out
   have hpx : pre ++ [(x, er)] <+: Ent.items bs.length bs := by
    rw [← hpre]
    split
    ·
     rename_i h; subst h; exact ⟨Ent.items f (rest.drop m), by simp⟩
    ·
     exact List.prefix_refl _
   obtain ⟨fn, tmps, assign, body, hy, hR⟩ := hY pre (x, er) _ _ hJ1 hpx ⟨u, rfl, hux, (hat.ext (Ext.alloc w1 _)).mono hsz⟩
   have hbd := hbw.trans (hE1.mono hbw.size)
   clear hb1 hJ1 hcg1 Hgot hux hat hcell hcg hJp
   simp only at hy
   gi_wp2_with (first | (refine wpListIn_store_row rfl 40 (.tmp 3) (.tmp 12) rfl w1.heap.size u.cells rfl rfl 40 _ (heap_alloc_new w1 _) (einfo u) (by rfl) (eone u) ?_; rw [setRow_alloc]) | (refine wpListIn_load_row rfl 40 (.tmp 3) rfl w1.heap.size rfl 40 u.cells (0, 0) _ (heap_alloc_new w1 _) Tryz.underlying40 rfl (einfo u) ?_))
   refine hR.mono ?_
   rintro e W2 (⟨rfl, hJ2, hk2, hk3⟩ | ⟨rfl, hJx2⟩)
   ·
    rcases her with rfl | rfl
    ·
     obtain ⟨hm0, _⟩ := Hok.out rfl
     have hg2 : W2.heap[gb]? = some (.cells #[.slice A' rest.length cap'] 23 (0, 0)) := Eq.trans hk2 hg1
     have hcell2 : W2.cell? ⟨gb, 0, none⟩ = some (.slice A' rest.length cap') := cell_of_row W2 gb 0 _ _ _ hg2
     have hfr2 : W2.frozen? ⟨gb, 0, none⟩ = false := frozen_of_row W2 gb 0 _ _ hg2
     have hbd2 := hbd.trans hk3
     have Hg2 := Lib.hid hg2
     have Hsz2 : Hid (w.heap.size ≤ W2.heap.size) := by show _ ≤ _; have h1 := hE1.size; have h2 := hk3.size; omega
     have Hdl : Hid ((rest.drop m).length = rest.length - m) := List.length_drop
     rw [if_pos rfl] at hpre
     clear hg1 hy hR hg2 hk2 hk3 hE1
     by_cases hcm : cap' = m
     ·
      have hrm : rest.length = m := by omega
      have hdr : rest.drop m = [] := List.drop_eq_nil_of_le (by omega)
      rw [hdr] at hpre
      subst hcm
      gi_wp2
      have hg3 := heap_setCell_same W2 gb 0 _ _ (.slice A' 0 0) Hg2.out
      go_roundw
      case rel => exact ⟨pre ++ [(x, 0)], f, [], A', 0, by rw [← hpre]; simp, by simp, by simp, by simp, RdB.nil_ _ _, hJ _ _ _ hJ2 (grown_setCell W2 ⟨gb, 0, none⟩ _) (by rw [Hg2.out]; rfl), by simp [World.setCell]; have := Hsz2.out; omega, hg3, hbd2.setCell hg0 _⟩
      case measure =>
       rw [cell_of_row _ gb 0 _ _ _ hg3, Hcell.out]
       simp [lenOf]
       omega
     ·
      have hcut := hA'.tail hle (c := cap') hrc
      rw [if_neg hcm] at hcut
      gi_wp2
      have hg3 := heap_setCell_same W2 gb 0 _ _ (.slice (A'.map (·.add m)) (rest.length - m) (cap' - m)) Hg2.out
      go_roundw
      case rel => exact ⟨pre ++ [(x, 0)], f, rest.drop m, _, cap' - m, by rw [← hpre]; simp, by rw [Hdl.out]; omega, by rw [Hdl.out]; omega, by rw [Hdl.out]; omega, hcut, hJ _ _ _ hJ2 (grown_setCell W2 ⟨gb, 0, none⟩ _) (by rw [Hg2.out]; rfl), by simp [World.setCell]; have := Hsz2.out; omega, by rw [Hdl.out]; exact hg3, hbd2.setCell hg0 _⟩
      case measure =>
       rw [cell_of_row _ gb 0 _ _ _ hg3, Hcell.out]
       simp [lenOf]
       omega
    ·
     rw [if_neg (by decide)] at hpre
     rw [hpre] at hJ2
     gi_wp2
     (try simp only [Exit.inBlock, Exit.then])
     refine bodyPost_ret (results_none rfl _ _ _) rfl ?_
     exact ⟨⟨_, rfl⟩, .inl hJ2⟩
   ·
    gi_wp2
    (try simp only [Exit.inBlock, Exit.then])
    refine bodyPost_ret (results_none rfl _ _ _) rfl ?_
    exact ⟨⟨_, rfl⟩, .inr ⟨_, hpx, hJx2⟩⟩
theorem each_any (A : Option Addr) (n cap : Nat) (w : World) : Calls Tryz.prog 86 #[.slice A n cap] w fun e w' =>
  e = .returned (.func (.func 96) #[] #[.pointer (some ⟨w.heap.size, 0, none⟩)]) ∧ w.alloc (.cells #[.slice A n cap] 23) = w' := by
 go_enter Tryz.func86, Tryz.ntmps86
 go_wp2
 go_ret
 exact ⟨rfl, rfl⟩
end Go.Proofs.YtjholekgdnhpkaaGreatDoor
