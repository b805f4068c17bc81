/- Texts of the proof, laid together: WrTx WrA. -/
import Derived.Test.YtjholekgdnhpkaaGreatDoorZ30
import Derived.Test.YtjholekgdnhpkaaGreatDoorZ6
import Derived.Test.YtjholekgdnhpkaaGreatDoorZ2
import Derived.Test.YtjholekgdnhpkaaGreatDoorZ1
import Derived.Test.YtjholekgdnhpkaaGreatDoorZ3
set_option linter.unusedVariables false
set_option linter.unusedSimpArgs false
set_option linter.unusedSectionVars false
namespace Go.Proofs.YtjholekgdnhpkaaGreatDoor
open Go.RowKit
attribute [local go_sem] Oper.semAt_some
structure Trn (S : Nat → Prop) (w w' : World) : Prop where
 os : w'.os = w.os
 tape : w'.tape = w.tape
 output : w'.output = w.output
 size : w.heap.size ≤ w'.heap.size
 block : ∀ i, i < w.heap.size → ¬ S i → w'.heap[i]? = w.heap[i]?
theorem Trn.refl (S : Nat → Prop) (w : World) : Trn S w w := ⟨rfl, rfl, rfl, Nat.le_refl _, fun _ _ _ => rfl⟩
theorem Trn.tr {S : Nat → Prop} {a b c : World} (h : Trn S a b) (k : Trn S b c) : Trn S a c := ⟨k.os.trans h.os, k.tape.trans h.tape, k.output.trans h.output, Nat.le_trans h.size k.size, fun i hi hn => (k.block i (Nat.lt_of_lt_of_le hi h.size) hn).trans (h.block i hi hn)⟩
theorem Trn.mono {S T : Nat → Prop} {a b : World} (h : Trn S a b) (hs : ∀ i, S i → i < a.heap.size → T i) : Trn T a b := ⟨h.os, h.tape, h.output, h.size, fun i hi hn => h.block i hi (fun e => hn (hs i e hi))⟩
theorem Trn.ext {S : Nat → Prop} {a b : World} (h : Ext a b) : Trn S a b := ⟨h.os, h.tape, h.output, h.size, fun i hi _ => h.block i hi⟩
theorem Trn.grown {S : Nat → Prop} {a b : World} {k : Nat} (h : a.grownBy b (some k)) (hk : S k) : Trn S a b := ⟨h.os, h.tape, h.output, h.size, fun i hi hn => h.block i hi (fun e => by injection e with e; exact hn (e ▸ hk))⟩
theorem Trn.below {S : Nat → Prop} {a b : World} {B : Nat} (h : Trn S a b) (hB : B ≤ a.heap.size) (hs : ∀ i, S i → B ≤ i) : Below B a b := ⟨h.os, h.tape, h.output, h.size, fun i hi => h.block i (by omega) (fun e => by have := hs i e; omega)⟩
theorem Trn.set {S : Nat → Prop} (w : World) (g : Nat) (cs : Array Value) (hg : S g) : Trn S w (w.setRow g cs) := Trn.grown (grown_row w g cs) hg
theorem Trn.row {S : Nat → Prop} {a b : World} {i : Nat} {o : Obj} (h : Trn S a b) (ho : a.heap[i]? = some o) (hn : ¬ S i) : b.heap[i]? = some o := (h.block i (lt_of_heap ho) hn).trans ho
theorem set_keeps {w : World} {g i : Nat} {cs : Array Value} {o : Obj} (h : w.heap[i]? = some o) (hn : i ≠ g) : (w.setRow g cs).heap[i]? = some o := (setRow_other w g i cs hn).trans h
structure Tx (w : World) (S : Nat → Prop) (A : Option Addr) (c : Nat) (d : List UInt8) : Prop where
 rd : RdB w A d
 cap : d.length ≤ c
 off : d ≠ [] → ∀ ad, A = some ad → ¬ S ad.block
section
variable {w w' : World} {S T : Nat → Prop} {A : Option Addr} {c : Nat} {d : List UInt8}
theorem Rd.trn {s n : Nat} {xs : List Value} (h : Rd w s A n xs) (ht : Trn T w w') (hn : xs ≠ [] → ∀ ad, A = some ad → ¬ T ad.block) : Rd w' s A n xs := ⟨h.1, fun hx => by
 obtain ⟨ad, e, hc⟩ := h.2 hx
 refine ⟨ad, e, fun j u hj => ?_⟩
 have h1 := hc j u hj
 have h2 := ht.block (ad.add j).block (World.block_lt_of_cell? _ _ h1) (by rw [add_block]; exact hn hx ad e)
 unfold World.cell? at h1 ⊢
 rw [h2]; exact h1⟩
theorem Tx.trn (h : Tx w S A c d) (t : Trn T w w') (hT : ∀ i, T i → S i) : Tx w' S A c d :=
 ⟨Rd.trn h.rd t (fun hx ad e hb => h.off (by rintro rfl; exact hx rfl) ad e (hT _ hb)), h.cap, h.off⟩
theorem Tx.ext (h : Tx w S A c d) (t : Ext w w') : Tx w' S A c d := h.trn (T := fun _ => False) (Trn.ext t) (fun _ => False.elim)
theorem Tx.lt (h : Tx w S A c d) (hd : d ≠ []) {ad : Addr} (e : A = some ad) : ad.block < w.heap.size := by
 obtain ⟨ad', e', hc⟩ := h.rd.2 (by intro e; exact hd (by cases d with | nil => rfl | cons _ _ => simp [bvs] at e))
 obtain rfl : ad = ad' := by rw [e] at e'; injection e'
 cases d with
 | nil => exact absurd rfl hd
 | cons x xs =>
  have := World.block_lt_of_cell? _ _ (hc 0 (bv x) rfl)
  rwa [add_block] at this
theorem Tx.more (h : Tx w S A c d) (hS : ∀ i, T i → S i ∨ w.heap.size ≤ i) : Tx w T A c d := ⟨h.rd, h.cap, fun hd ad e ht => by
 rcases hS _ ht with h1 | h1
 ·
  exact h.off hd ad e h1
 ·
  have := h.lt hd e; omega⟩
theorem Tx.own {B n : Nat} {e : TypeId} (h : Own w B e 1 A n c (bvs d)) (hS : ∀ i, S i → i < B) : Tx w S A c d := by
 have hn : n = d.length := by have := h.len; rw [bvs_len] at this; omega
 refine ⟨h.rd', by have := h.nc; omega, fun hd ad e' hs => ?_⟩
 have h1 := hS _ hs
 rcases h.mem with h0 | ⟨g, off, cur, hA, hb, _⟩
 ·
  have := h.nc
  have := List.length_pos_iff.2 hd
  omega
 ·
  rw [hA] at e'
  injection e' with e'
  subst e'
  simp only at h1
  omega
theorem Tx.nil_ (w : World) (S : Nat → Prop) (A : Option Addr) (c : Nat) : Tx w S A c [] := ⟨RdB.nil_ _ _, Nat.zero_le _, fun h => absurd rfl h⟩
theorem Tx.tail (h : Tx w S A c d) {k : Nat} (hk : k ≤ d.length) : Tx w S (if c = k then A else A.map (·.add k)) (c - k) (d.drop k) := by
 refine ⟨h.rd.tail hk h.cap, by rw [List.length_drop]; have := h.cap; omega, fun hd ad e hs => ?_⟩
 have hd' : d ≠ [] := by rintro rfl; simp at hd
 split at e
 ·
  exact h.off hd' ad e hs
 ·
  cases A with
  | none => cases e
  | some a =>
   simp only [Option.map_some, Option.some.injEq] at e
   subst e
   rw [add_block] at hs
   exact h.off hd' a rfl hs
theorem Tx.head (h : Tx w S A c d) {k : Nat} (hk : k ≤ d.length) : Tx w S A c (d.take k) := by
 refine ⟨h.rd.head hk, by rw [List.length_take]; have := h.cap; omega, fun hd ad e => h.off (by rintro rfl; simp at hd) ad e⟩
theorem Rd.row {s n : Nat} {g : Nat} {xs : List Value} {t : TypeId} {fr : Nat × Nat} (h : w.heap[g]? = some (.cells xs.toArray t fr)) (hl : xs.length = n * s) : Rd w s (some ⟨g, 0, none⟩) n xs :=
 ⟨hl, fun _ => ⟨_, rfl, fun j u hj => by rw [Addr.add_lit, Nat.zero_add, cell_of_row _ _ _ _ _ _ h]; simpa using hj⟩⟩
theorem FarB.trn {B : Nat} (h : FarB B w A d) (t : Trn T w w') (hT : ∀ i, T i → i < B) : FarB B w' A d := fun hd => by
 obtain ⟨ad, cur, fr, hA, hb, hh⟩ := h hd
 exact ⟨ad, cur, fr, hA, hb, t.row hh (fun hs => by have := hT _ hs; omega)⟩
theorem EnV.At.trn {B : Nat} {e : EnV} (h : e.At B w) (t : Trn T w w') (hT : ∀ i, T i → i < B) : e.At B w' := by
 have h1 : ∀ {A : Option Addr} {d : List UInt8}, RdB w A d → FarB B w A d → RdB w' A d := fun hr hf => Rd.trn hr t (fun hx ad e ht => by
  obtain ⟨ad', _, _, e', hb, _⟩ := hf (by rintro rfl; exact hx rfl)
  rw [e] at e'
  injection e' with e'
  subst e'
  have := hT _ ht
  omega)
 exact ⟨⟨h1 h.i.kr h.k, h1 h.i.vr h.v, h.i.kcap, h.i.vcap⟩, h.k.trn t hT, h.v.trn t hT⟩
theorem Own.trn {B n size : Nat} {e : TypeId} {xs : List Value} (h : Own w B e size A n c xs) (t : Trn T w w') (hT : ∀ i, T i → i < B) : Own w' B e size A n c xs := by
 refine ⟨h.len, h.nc, h.cm, h.mem.imp id ?_⟩
 rintro ⟨g, off, cur, hA, hb, hg, ho, ht⟩
 exact ⟨g, off, cur, hA, hb, t.row hg (fun hs => by have := hT _ hs; omega), ho, ht⟩
end
abbrev CT : TypeId := 89
structure LayAt (w : World) (B g : Nat) (A : Option Addr) (c : Nat) (bs : List UInt8) : Prop where
 row : w.heap[g]? = some (.cells #[.slice A bs.length c, .slice none 0 0, .bool false, .bool false] CT (0, 0))
 own : Own w B 5 1 A bs.length c (bvs bs)
 base : B ≤ g
def Lay (w : World) (B g : Nat) (bs : List UInt8) : Prop := ∃ A c, LayAt w B g A c bs
theorem Own.ne {w : World} {B n c size g : Nat} {e t : TypeId} {A : Option Addr} {xs : List Value} {cur : Array Value} {fr : Nat × Nat} (h : Own w B e size A n c xs) (hg : w.heap[g]? = some (.cells cur t fr)) (hne : t ≠ e) : ownRow A c ≠ some g := by
 intro hk
 rcases h.mem with h0 | ⟨g', off, cur', hA, hb, hgg, _⟩
 ·
  simp [ownRow, h0] at hk
 ·
  have : g' = g := by
   rw [hA] at hk
   unfold ownRow at hk
   split at hk
   ·
    cases hk
   ·
    simpa using hk
  subst this
  rw [hg] at hgg
  injection hgg with hgg
  injection hgg with _ h2 _
  exact hne h2
theorem LayAt.ext {w w' : World} {B g : Nat} {A : Option Addr} {c : Nat} {bs : List UInt8} (h : LayAt w B g A c bs) (hx : Ext w w') : LayAt w' B g A c bs := ⟨(hx.block _ (lt_of_heap h.row)).trans h.row, h.own.below hx, h.base⟩
structure Kept (B g : Nat) (w w' : World) : Prop where
 below : Below B w w'
 rows : ∀ (i : Nat) (cs : Array Value) (t : TypeId) (fr : Nat × Nat), w.heap[i]? = some (.cells cs t fr) → t ≠ 5 → i ≠ g → w'.heap[i]? = some (.cells cs t fr)
theorem Kept.refl (B g : Nat) (w : World) : Kept B g w w := ⟨Below.refl B w, fun _ _ _ _ h _ _ => h⟩
theorem Kept.tr {B g : Nat} {a b c : World} (h : Kept B g a b) (k : Kept B g b c) : Kept B g a c := ⟨h.below.trans k.below, fun i cs t fr e h1 h2 => k.rows i cs t fr (h.rows i cs t fr e h1 h2) h1 h2⟩
theorem Kept.ext {B g : Nat} {a b : World} (h : Ext a b) (hB : B ≤ a.heap.size) : Kept B g a b := ⟨Below.mono h hB, fun i _ _ _ e _ _ => (h.block i (lt_of_heap e)).trans e⟩
theorem LayAt.size {w : World} {B g : Nat} {A : Option Addr} {c : Nat} {bs : List UInt8} (h : LayAt w B g A c bs) : B ≤ w.heap.size := Nat.le_of_lt (Nat.lt_of_le_of_lt h.base (lt_of_heap h.row))
theorem LayAt.step {w w' : World} {B g : Nat} {A A' : Option Addr} {c c' : Nat} {bs xs : List UInt8} (h : LayAt w B g A c bs) (hg : w.grownBy w' (ownRow A c)) (ho : Own w' B 5 1 A' (bs ++ xs).length c' (bvs (bs ++ xs))) :
  LayAt (w'.setRow g #[.slice A' (bs ++ xs).length c', .slice none 0 0, .bool false, .bool false]) B g A' c' (bs ++ xs) ∧ Kept B g w (w'.setRow g #[.slice A' (bs ++ xs).length c', .slice none 0 0, .bool false, .bool false]) := by
 have hlt := lt_of_heap h.row
 have hB : B ≤ w.heap.size := h.size
 have hne := h.own.ne h.row (by decide)
 have hrow : w'.heap[g]? = some (.cells #[.slice A bs.length c, .slice none 0 0, .bool false, .bool false] CT (0, 0)) := (hg.block g hlt (fun e => hne e.symm)).trans h.row
 have hb : Below B w w' := (Below.refl _ _).grown hg hB (fun k e => (h.own.row_lt k e).1)
 refine ⟨⟨setRow_heap w' g _ _ _ _ hrow, ho.kept (grown_row _ _ _) (fun k hk e => ?_), h.base⟩, hb.grown (grown_row _ _ _) (Nat.le_trans hB hb.size) (fun k e => by injection e with e; subst e; exact h.base), fun i cs t fr e h1 h2 => ?_⟩
 ·
  injection e with e
  subst e
  exact ho.ne hrow (by decide) hk
 ·
  refine set_keeps ((hg.block i (lt_of_heap e) (fun e' => h.own.ne e h1 e'.symm)).trans e) h2
structure RdrAt (w : World) (S : Nat → Prop) (g : Nat) (A : Option Addr) (c : Nat) (d : List UInt8) (bad : Bool) : Prop where
 row : w.heap[g]? = some (.cells #[.slice none 0 0, .slice A d.length c, .bool true, .bool bad] CT (0, 0))
 tx : Tx w S A c d
 mem : S g
 lt : ∀ i, S i → i < w.heap.size
 len : d.length ≤ 1000000
def Rdr (w : World) (S : Nat → Prop) (g : Nat) (d : List UInt8) (bad : Bool) : Prop := ∃ A c, RdrAt w S g A c d bad
theorem Rdr.trn {w w' : World} {S T : Nat → Prop} {g : Nat} {d : List UInt8} {bad : Bool} (h : Rdr w S g d bad) (t : Trn T w w') (hT : ∀ i, T i → S i) (hg : ¬ T g) : Rdr w' S g d bad := by
 obtain ⟨A, c, h⟩ := h
 exact ⟨A, c, t.row h.row hg, h.tx.trn t hT, h.mem, fun i hi => Nat.lt_of_lt_of_le (h.lt i hi) t.size, h.len⟩
theorem Rdr.more {w w' : World} {S T : Nat → Prop} {g : Nat} {d : List UInt8} {bad : Bool} (h : Rdr w S g d bad) (hx : Ext w w') (hS : ∀ i, T i → S i ∨ (w.heap.size ≤ i ∧ i < w'.heap.size)) (hg : T g) : Rdr w' T g d bad := by
 obtain ⟨A, c, h⟩ := h
 exact ⟨A, c, (hx.block _ (lt_of_heap h.row)).trans h.row, (h.tx.more (fun i hi => (hS i hi).imp id (·.1))).ext hx, hg, fun i hi => (hS i hi).elim (fun k => Nat.lt_of_lt_of_le (h.lt i k) hx.size) (·.2), h.len⟩
theorem Rdr.less {w : World} {S T : Nat → Prop} {g : Nat} {d : List UInt8} {bad : Bool} (h : Rdr w S g d bad) (hS : ∀ i, T i → S i) (hg : T g) : Rdr w T g d bad := by
 obtain ⟨A, c, h⟩ := h
 exact ⟨A, c, h.row, h.tx.more (fun i hi => .inl (hS i hi)), hg, fun i hi => h.lt i (hS i hi), h.len⟩
section
variable {P : Program} {w : World} {ops : Array Oper} {rest : List Oper} {o : Oper} {a : Act} {Q : Exit → Act → World → Prop}
theorem ex_put1 (ty : TypeId) (x y : Operand) (ho : o.op = .store ty x y) (ad : Addr) (hx : a.eval x = .pointer (some ad)) (g off : Nat) (had : ad = ⟨g, off, none⟩)
  (v : Value) (hy : a.eval y = v) (cs : List Value) (hv : v.cells = cs.toArray) (cur : Array Value) (t : TypeId) (hg : w.heap[g]? = some (.cells cur t (0, 0))) (hi : (P.info? ty).map (·.size) = some cs.length) (hfit : off + cs.length ≤ cur.size)
  (h1 : ∀ u ∈ cs, u.oneCell' = true) (cur' : Array Value) (hc : put1 cur off cs = cur') : (execOp a.eval o).run P w = .ok .skip (w.setRow g cur') := by
 subst had
 subst hc
 have hr := run_storeCells_at (P := P) g off t cs 0 cur w hg (by simpa using hfit) h1
 simp only [Nat.add_zero] at hr
 have hst : (storeVar ty ⟨g, off, none⟩ v).run P w = .ok () (w.setRow g (put1 cur off cs)) := by
  cases hq : P.info? ty with
  | none => simp [hq] at hi
  | some i =>
   have hs : i.size = cs.length := by simpa [hq] using hi
   have hst := hr
   unfold put1
   simp only [List.append_assoc]
   simp [storeVar, sizeOf, typeInfo, hq, hv, hs, hst]
 unfold execOp
 simp only [ho, hx, hy, Instr.storeAt, Instr.sureAddr, Sem.run_bind, Sem.run_pure, Result.andThen_ok, hst]
theorem wpList_put1 (hgd : Region.wanted o (yielded ops a.tmps) = true) (ty : TypeId) (x y : Operand) (ho : o.op = .store ty x y) (ad : Addr) (hx : a.eval x = .pointer (some ad)) (g off : Nat) (had : ad = ⟨g, off, none⟩)
  (v : Value) (hy : a.eval y = v) (cs : List Value) (hv : v.cells = cs.toArray) (cur : Array Value) (t : TypeId) (hg : w.heap[g]? = some (.cells cur t (0, 0))) (hi : (P.info? ty).map (·.size) = some cs.length) (hfit : off + cs.length ≤ cur.size)
  (h1 : ∀ u ∈ cs, u.oneCell' = true) (cur' : Array Value) (hc : put1 cur off cs = cur') (h : wpList P ops Q rest (a.put o.dst undef) (w.setRow g cur')) : wpList P ops Q (o :: rest) a w := by
 refine wpList_want hgd fun _ hK => ?_
 unfold Oper.wp
 rw [ex_put1 (P := P) ty x y ho ad hx g off had v hy cs hv cur t hg hi hfit h1 cur' hc, Oper.upon_skip]
 exact hK _ _ h
end
def Two (g b : Nat) : Nat → Prop := fun i => i = g ∨ i = b
end Go.Proofs.YtjholekgdnhpkaaGreatDoor
namespace Go.Proofs.YtjholekgdnhpkaaGreatDoor
open Go.RowKit
attribute [local go_sem] Oper.semAt_some
theorem LayAt.cell0 {w : World} {B g : Nat} {A : Option Addr} {c : Nat} {bs : List UInt8} (h : LayAt w B g A c bs) : w.cell? ⟨g, 0, none⟩ = some (.slice A bs.length c) := cell_of_row w g 0 _ _ _ h.row
theorem LayAt.cell2 {w : World} {B g : Nat} {A : Option Addr} {c : Nat} {bs : List UInt8} (h : LayAt w B g A c bs) : w.cell? ⟨g, 2, none⟩ = some (.bool false) := cell_of_row w g 2 _ _ _ h.row
def Laid (B g : Nat) (bs : List UInt8) (w : World) (e : Ending) (w' : World) : Prop := e = .returned (.tuple #[]) ∧ Lay w' B g bs ∧ Kept B g w w'
set_option maxRecDepth 100000 in
set_option maxHeartbeats 1000000 in
theorem text_lay (B g : Nat) (A : Option Addr) (c : Nat) (bs : List UInt8) (p : Addr) (K : Option Addr) (ck : Nat) (k : List UInt8) (w : World) (h : LayAt w B g A c bs) (hp : w.cell? p = some (.slice K k.length ck)) (hk : RdB w K k) (hl : k.length ≤ 1000000) (hb : bs.length ≤ 100000000) :
  Calls Tryz.prog 67 #[.pointer (some ⟨g, 0, none⟩), .pointer (some p)] w (Laid B g (bs ++ Vint.putBytes k) w) := by
 have h2 := h.cell2
 have hd0 := h.ext (Ext.drew w)
 have h0 := hd0.cell0
 have hpd : w.drew.cell? p = some (.slice K k.length ck) := hp
 have hkd := hk.below (Ext.drew w)
 have hpl : (Vint.putBytes k).length ≤ 10000000 := by have := Vint.put_len k.length; unfold Vint.putBytes; rw [List.length_append]; omega
 have HPL := Lib.hid hpl
 have H := Lib.hid hd0
 have H' := Lib.hid h
 clear h hpl hd0
 go_enter Tryz.func67, Tryz.ntmps67
 go_wp2_with fail
 refine rr_start (extW) [0, 1, 2, 3, 5, 6, 10, 11] (by kernel_rfl) ?_
 refine qAD 0 rfl ?_
 simp only [sP]
 refine qAD 1 rfl ?_
 simp only [sP]
 refine qAD 2 rfl ?_
 simp only [sP]
 refine qAD 3 rfl ?_
 simp only [sP]
 refine qS 4 rfl ⟨_, fun w' hx => by have hcx := hx.load h0; (go_simp <;> with_reducible rfl), ?_⟩
 simp only [sP]
 refine qAD 5 rfl ?_
 simp only [sP]
 refine qAD 6 rfl ?_
 simp only [sP]
 refine qS 7 rfl ⟨_, fun w' hx => by have hcx := hx.load hpd; (go_simp <;> with_reducible rfl), ?_⟩
 simp only [sP]
 refine rr_call 8 (putbytes_any K k ck w.drew hkd (by omega)) rfl (by kernel_rfl) (by rfl) (by go_simp) ?_
 rintro e1 w1 ⟨A2, c2, rfl, ho2, hb2⟩
 refine ⟨_, rfl, hb2, ?_⟩
 simp only [sP]
 have hH2 := H.out.ext hb2
 obtain ⟨d, hd⟩ : ∃ d, d = Vint.putBytes k := ⟨_, rfl⟩
 rw [← hd] at HPL ho2 ⊢
 refine rr_last 9 rfl (by kernel_rfl) (by kernel_rfl) (by rfl) fun KK hK => wp_app (.tmp 16) (.tmp 20) 23 rfl elemB B A bs.length c (bvs bs) rfl A2 d.length c2 (bvs d) rfl (bs.length + d.length) rfl (bvs (bs ++ d)) (bvs_app _ _) hH2.own ho2.rd (bvs_one _) (by have := HPL.out; omega) (by have := HPL.out; omega) (Nat.le_of_lt (Nat.lt_of_le_of_lt hH2.base (lt_of_heap hH2.row))) (fun A3 c3 w3 ho3 hg3 hr3 => hK _ _ ?_)
 simp only [sP]
 refine qAD 10 rfl ?_
 simp only [sP]
 refine qAD 11 rfl ?_
 simp only [sP]
 have hrow3 := (hg3.block g (lt_of_heap hH2.row) (fun e => hH2.own.ne hH2.row (by decide) e.symm)).trans hH2.row
 obtain ⟨hL, hB⟩ := hH2.step hg3 (by rw [List.length_append]; exact ho3)
 refine rr_store 12 rfl (by kernel_rfl) (by kernel_rfl) (by rfl) ⟨w3.setRow g #[.slice A3 (bs ++ d).length c3, .slice none 0 0, .bool false, .bool false], ex_put1 23 (.tmp 23) (.tmp 21) rfl ⟨g, 0, none⟩ rfl g 0 rfl _ rfl [.slice A3 (bs.length + d.length) c3] rfl _ _ hrow3 (by kernel_rfl) (by simp) (by simp [Value.oneCell']) _ (by rw [List.length_append]; simp [put1]), ?_⟩
 simp only [Act.put]
 refine rr_done (by kernel_rfl) ?_
 obtain ⟨W9, hW9⟩ : ∃ W9, W9 = w3.setRow g #[.slice A3 (bs ++ d).length c3, .slice none 0 0, .bool false, .bool false] := ⟨_, rfl⟩
 rw [← hW9] at hL hB ⊢
 clear hW9
 have hBB : Kept B g w W9 := (Kept.ext (Ext.drew w) H'.out.size).tr ((Kept.ext hb2 H.out.size).tr hB)
 go_wp2_with fail
 (try simp only [Exit.inBlock, Exit.then])
 refine bodyPost_ret (results_none rfl _ _ _) rfl ?_
 exact ⟨rfl, ⟨_, _, by first | exact hL | (rw [← hd]; exact hL)⟩, hBB⟩
set_option maxRecDepth 100000 in
set_option maxHeartbeats 1000000 in
theorem number_lay (B g : Nat) (A : Option Addr) (c : Nat) (bs : List UInt8) (p : Addr) (n : Nat) (w : World) (h : LayAt w B g A c bs) (hp : w.cell? p = some (.int .i64 (n : Int))) (hn : n ≤ 9223372036854775807) (hb : bs.length ≤ 100000000) :
  Calls Tryz.prog 68 #[.pointer (some ⟨g, 0, none⟩), .pointer (some p)] w (Laid B g (bs ++ Vint.put n) w) := by
 have h2 := h.cell2
 have hd0 := h.ext (Ext.drew w)
 have h0 := hd0.cell0
 have hpd : w.drew.cell? p = some (.int .i64 (n : Int)) := hp
 have hwn : IntKind.u64.wrap (n : Int) = (n : Int) := by simp [IntKind.wrap, IntKind.bits, IntKind.signed]; omega
 have hpl : (Vint.put n).length ≤ 10000000 := by have := Vint.put_len n; omega
 have HPL := Lib.hid hpl
 have H := Lib.hid hd0
 have H' := Lib.hid h
 clear h hpl hd0
 go_enter Tryz.func68, Tryz.ntmps68
 go_wp2_with fail
 refine rr_start (extW) [0, 1, 2, 3, 5, 6, 8, 11, 12] (by kernel_rfl) ?_
 refine qAD 0 rfl ?_
 simp only [sP]
 refine qAD 1 rfl ?_
 simp only [sP]
 refine qAD 2 rfl ?_
 simp only [sP]
 refine qAD 3 rfl ?_
 simp only [sP]
 refine qS 4 rfl ⟨_, fun w' hx => by have hcx := hx.load h0; (go_simp <;> with_reducible rfl), ?_⟩
 simp only [sP]
 refine qAD 5 rfl ?_
 simp only [sP]
 refine qAD 6 rfl ?_
 simp only [sP]
 refine qS 7 rfl ⟨_, fun w' hx => by have hcx := hx.load hpd; (go_simp <;> with_reducible rfl), ?_⟩
 simp only [sP]
 refine qAS 8 rfl ⟨.int .u64 (n : Int), fun w' => by (go_simp <;> with_reducible rfl), ?_⟩
 simp only [sP]
 refine rr_call 9 (vput_any n (by omega) w.drew) rfl (by kernel_rfl) (by rfl) (by go_simp) ?_
 rintro e1 w1 ⟨A2, c2, rfl, ho2, hb2⟩
 refine ⟨_, rfl, hb2, ?_⟩
 simp only [sP]
 have hH2 := H.out.ext hb2
 obtain ⟨d, hd⟩ : ∃ d, d = Vint.put n := ⟨_, rfl⟩
 rw [← hd] at HPL ho2 ⊢
 refine rr_last 10 rfl (by kernel_rfl) (by kernel_rfl) (by rfl) fun KK hK => wp_app (.tmp 16) (.tmp 21) 23 rfl elemB B A bs.length c (bvs bs) rfl A2 d.length c2 (bvs d) rfl (bs.length + d.length) rfl (bvs (bs ++ d)) (bvs_app _ _) hH2.own ho2.rd (bvs_one _) (by have := HPL.out; omega) (by have := HPL.out; omega) (Nat.le_of_lt (Nat.lt_of_le_of_lt hH2.base (lt_of_heap hH2.row))) (fun A3 c3 w3 ho3 hg3 hr3 => hK _ _ ?_)
 simp only [sP]
 refine qAD 11 rfl ?_
 simp only [sP]
 refine qAD 12 rfl ?_
 simp only [sP]
 have hrow3 := (hg3.block g (lt_of_heap hH2.row) (fun e => hH2.own.ne hH2.row (by decide) e.symm)).trans hH2.row
 obtain ⟨hL, hB⟩ := hH2.step hg3 (by rw [List.length_append]; exact ho3)
 refine rr_store 13 rfl (by kernel_rfl) (by kernel_rfl) (by rfl) ⟨w3.setRow g #[.slice A3 (bs ++ d).length c3, .slice none 0 0, .bool false, .bool false], ex_put1 23 (.tmp 24) (.tmp 22) rfl ⟨g, 0, none⟩ rfl g 0 rfl _ rfl [.slice A3 (bs.length + d.length) c3] rfl _ _ hrow3 (by kernel_rfl) (by simp) (by simp [Value.oneCell']) _ (by rw [List.length_append]; simp [put1]), ?_⟩
 simp only [Act.put]
 refine rr_done (by kernel_rfl) ?_
 obtain ⟨W9, hW9⟩ : ∃ W9, W9 = w3.setRow g #[.slice A3 (bs ++ d).length c3, .slice none 0 0, .bool false, .bool false] := ⟨_, rfl⟩
 rw [← hW9] at hL hB ⊢
 clear hW9
 have hBB : Kept B g w W9 := (Kept.ext (Ext.drew w) H'.out.size).tr ((Kept.ext hb2 H.out.size).tr hB)
 go_wp2_with fail
 (try simp only [Exit.inBlock, Exit.then])
 refine bodyPost_ret (results_none rfl _ _ _) rfl ?_
 exact ⟨rfl, ⟨_, _, by first | exact hL | (rw [← hd]; exact hL)⟩, hBB⟩
set_option maxRecDepth 100000 in
set_option maxHeartbeats 1000000 in
theorem wide_lay (B g : Nat) (A : Option Addr) (c : Nat) (bs : List UInt8) (p : Addr) (n : Nat) (w : World) (h : LayAt w B g A c bs) (hp : w.cell? p = some (.int .u64 (n : Int))) (hb : bs.length ≤ 100000000) :
  Calls Tryz.prog 69 #[.pointer (some ⟨g, 0, none⟩), .pointer (some p)] w (Laid B g (bs ++ Vint.fixed n 8) w) := by
 have h2 := h.cell2
 have hd0 := h.ext (Ext.drew w)
 have h0 := hd0.cell0
 have hpd : w.drew.cell? p = some (.int .u64 (n : Int)) := hp
 have hpl : (Vint.fixed n 8).length ≤ 10000000 := by show (Vint.fixL n 8).length ≤ _; rw [Vint.fixL_len]; omega
 have HPL := Lib.hid hpl
 have H := Lib.hid hd0
 have H' := Lib.hid h
 clear h hpl hd0
 go_enter Tryz.func69, Tryz.ntmps69
 go_wp2_with fail
 refine rr_start (extW) [0, 1, 2, 3, 5, 6, 10, 11] (by kernel_rfl) ?_
 refine qAD 0 rfl ?_
 simp only [sP]
 refine qAD 1 rfl ?_
 simp only [sP]
 refine qAD 2 rfl ?_
 simp only [sP]
 refine qAD 3 rfl ?_
 simp only [sP]
 refine qS 4 rfl ⟨_, fun w' hx => by have hcx := hx.load h0; (go_simp <;> with_reducible rfl), ?_⟩
 simp only [sP]
 refine qAD 5 rfl ?_
 simp only [sP]
 refine qAD 6 rfl ?_
 simp only [sP]
 refine qS 7 rfl ⟨_, fun w' hx => by have hcx := hx.load hpd; (go_simp <;> with_reducible rfl), ?_⟩
 simp only [sP]
 refine rr_call 8 (fixed_any n 8 w.drew) rfl (by kernel_rfl) (by rfl) (by go_simp) ?_
 rintro e1 w1 ⟨A2, c2, rfl, ho2, hb2⟩
 refine ⟨_, rfl, hb2, ?_⟩
 simp only [sP]
 have hH2 := H.out.ext hb2
 obtain ⟨d, hd⟩ : ∃ d, d = Vint.fixed n 8 := ⟨_, rfl⟩
 rw [← hd] at HPL ho2 ⊢
 refine rr_last 9 rfl (by kernel_rfl) (by kernel_rfl) (by rfl) fun KK hK => wp_app (.tmp 13) (.tmp 17) 23 rfl elemB B A bs.length c (bvs bs) rfl A2 d.length c2 (bvs d) rfl (bs.length + d.length) rfl (bvs (bs ++ d)) (bvs_app _ _) hH2.own ho2.rd (bvs_one _) (by have := HPL.out; omega) (by have := HPL.out; omega) (Nat.le_of_lt (Nat.lt_of_le_of_lt hH2.base (lt_of_heap hH2.row))) (fun A3 c3 w3 ho3 hg3 hr3 => hK _ _ ?_)
 simp only [sP]
 refine qAD 10 rfl ?_
 simp only [sP]
 refine qAD 11 rfl ?_
 simp only [sP]
 have hrow3 := (hg3.block g (lt_of_heap hH2.row) (fun e => hH2.own.ne hH2.row (by decide) e.symm)).trans hH2.row
 obtain ⟨hL, hB⟩ := hH2.step hg3 (by rw [List.length_append]; exact ho3)
 refine rr_store 12 rfl (by kernel_rfl) (by kernel_rfl) (by rfl) ⟨w3.setRow g #[.slice A3 (bs ++ d).length c3, .slice none 0 0, .bool false, .bool false], ex_put1 23 (.tmp 20) (.tmp 18) rfl ⟨g, 0, none⟩ rfl g 0 rfl _ rfl [.slice A3 (bs.length + d.length) c3] rfl _ _ hrow3 (by kernel_rfl) (by simp) (by simp [Value.oneCell']) _ (by rw [List.length_append]; simp [put1]), ?_⟩
 simp only [Act.put]
 refine rr_done (by kernel_rfl) ?_
 obtain ⟨W9, hW9⟩ : ∃ W9, W9 = w3.setRow g #[.slice A3 (bs ++ d).length c3, .slice none 0 0, .bool false, .bool false] := ⟨_, rfl⟩
 rw [← hW9] at hL hB ⊢
 clear hW9
 have hBB : Kept B g w W9 := (Kept.ext (Ext.drew w) H'.out.size).tr ((Kept.ext hb2 H.out.size).tr hB)
 go_wp2_with fail
 (try simp only [Exit.inBlock, Exit.then])
 refine bodyPost_ret (results_none rfl _ _ _) rfl ?_
 exact ⟨rfl, ⟨_, _, by first | exact hL | (rw [← hd]; exact hL)⟩, hBB⟩
set_option maxRecDepth 100000 in
set_option maxHeartbeats 1000000 in
theorem sum_lay (B g : Nat) (A : Option Addr) (c : Nat) (bs : List UInt8) (p : Addr) (d : List UInt8) (w : World) (h : LayAt w B g A c bs) (hp : ∀ j u, (bvs d)[j]? = some u → w.cell? (p.add j) = some u) (hd32 : d.length = 32) (hb : bs.length ≤ 100000000) :
  Calls Tryz.prog 70 #[.pointer (some ⟨g, 0, none⟩), .pointer (some p)] w (Laid B g (bs ++ d) w) := by
 have h2 := h.cell2
 have hd0 := h.ext (Ext.drew w)
 have h0 := hd0.cell0
 have HRD := Lib.hid (show Rd w.drew 1 (some p) 32 (bvs d) from ⟨by rw [bvs_len]; omega, fun _ => ⟨p, rfl, hp⟩⟩)
 have hpl : d.length ≤ 10000000 := by omega
 have HPL := Lib.hid hpl
 have H := Lib.hid hd0
 have H' := Lib.hid h
 clear h hpl hd0
 go_enter Tryz.func70, Tryz.ntmps70
 go_wp2_with fail
 refine rr_start (extW) [0, 1, 2, 3, 5, 6, 7, 9, 10] (by kernel_rfl) ?_
 refine qAD 0 rfl ?_
 simp only [sP]
 refine qAD 1 rfl ?_
 simp only [sP]
 refine qAD 2 rfl ?_
 simp only [sP]
 refine qAD 3 rfl ?_
 simp only [sP]
 refine qS 4 rfl ⟨_, fun w' hx => by have hcx := hx.load h0; (go_simp <;> with_reducible rfl), ?_⟩
 simp only [sP]
 refine qAD 5 rfl ?_
 simp only [sP]
 refine qAD 6 rfl ?_
 simp only [sP]
 refine qAS 7 rfl ⟨.slice (some p) 32 32, fun w' => by (go_simp <;> with_reducible rfl), ?_⟩
 simp only [sP]
 have hH2 := H.out
 refine rr_last 8 rfl (by kernel_rfl) (by kernel_rfl) (by rfl) fun KK hK => wp_app (.tmp 13) (.tmp 16) 23 rfl elemB B A bs.length c (bvs bs) rfl (some p) 32 32 (bvs d) rfl (bs.length + d.length) (by omega) (bvs (bs ++ d)) (bvs_app _ _) hH2.own HRD.out (bvs_one _) (by have := HPL.out; omega) (by have := HPL.out; omega) (Nat.le_of_lt (Nat.lt_of_le_of_lt hH2.base (lt_of_heap hH2.row))) (fun A3 c3 w3 ho3 hg3 hr3 => hK _ _ ?_)
 simp only [sP]
 refine qAD 9 rfl ?_
 simp only [sP]
 refine qAD 10 rfl ?_
 simp only [sP]
 have hrow3 := (hg3.block g (lt_of_heap hH2.row) (fun e => hH2.own.ne hH2.row (by decide) e.symm)).trans hH2.row
 obtain ⟨hL, hB⟩ := hH2.step hg3 (by rw [List.length_append]; exact ho3)
 refine rr_store 11 rfl (by kernel_rfl) (by kernel_rfl) (by rfl) ⟨w3.setRow g #[.slice A3 (bs ++ d).length c3, .slice none 0 0, .bool false, .bool false], ex_put1 23 (.tmp 19) (.tmp 17) rfl ⟨g, 0, none⟩ rfl g 0 rfl _ rfl [.slice A3 (bs.length + d.length) c3] rfl _ _ hrow3 (by kernel_rfl) (by simp) (by simp [Value.oneCell']) _ (by rw [List.length_append]; simp [put1]), ?_⟩
 simp only [Act.put]
 refine rr_done (by kernel_rfl) ?_
 obtain ⟨W9, hW9⟩ : ∃ W9, W9 = w3.setRow g #[.slice A3 (bs ++ d).length c3, .slice none 0 0, .bool false, .bool false] := ⟨_, rfl⟩
 rw [← hW9] at hL hB ⊢
 clear hW9
 have hBB : Kept B g w W9 := (Kept.ext (Ext.drew w) H'.out.size).tr hB
 go_wp2_with fail
 (try simp only [Exit.inBlock, Exit.then])
 refine bodyPost_ret (results_none rfl _ _ _) rfl ?_
 exact ⟨rfl, ⟨_, _, by first | exact hL | (rw [← hd]; exact hL)⟩, hBB⟩
set_option maxRecDepth 100000 in
set_option maxHeartbeats 1000000 in
theorem entries_lay (B g : Nat) (A : Option Addr) (c : Nat) (bs : List UInt8) (p : Addr) (K : Option Addr) (ck : Nat) (l : List EnV) (w : World) (h : LayAt w B g A c bs) (hp : w.cell? p = some (.slice K l.length ck)) (hk : RdE w K l) (hl : Ent.total (l.map EnV.x) + 20 * l.length ≤ 1000000) (hb : bs.length ≤ 100000000) :
  Calls Tryz.prog 73 #[.pointer (some ⟨g, 0, none⟩), .pointer (some p)] w (Laid B g (bs ++ Ent.putAll (l.map EnV.x)) w) := by
 have h2 := h.cell2
 have hd0 := h.ext (Ext.drew w)
 have h0 := hd0.cell0
 have hpd : w.drew.cell? p = some (.slice K l.length ck) := hp
 have hkd := hk.below (Ext.drew w)
 have hpl : (Ent.putAll (l.map EnV.x)).length ≤ 10000000 := by have := Ent.putAll_len (l.map EnV.x); rw [List.length_map] at this; omega
 have HPL := Lib.hid hpl
 have H := Lib.hid hd0
 have H' := Lib.hid h
 clear h hpl hd0
 go_enter Tryz.func73, Tryz.ntmps73
 go_wp2_with fail
 refine rr_start (extW) [0, 1, 2, 3, 5, 6, 10, 11] (by kernel_rfl) ?_
 refine qAD 0 rfl ?_
 simp only [sP]
 refine qAD 1 rfl ?_
 simp only [sP]
 refine qAD 2 rfl ?_
 simp only [sP]
 refine qAD 3 rfl ?_
 simp only [sP]
 refine qS 4 rfl ⟨_, fun w' hx => by have hcx := hx.load h0; (go_simp <;> with_reducible rfl), ?_⟩
 simp only [sP]
 refine qAD 5 rfl ?_
 simp only [sP]
 refine qAD 6 rfl ?_
 simp only [sP]
 refine qS 7 rfl ⟨_, fun w' hx => by have hcx := hx.load hpd; (go_simp <;> with_reducible rfl), ?_⟩
 simp only [sP]
 refine rr_call 8 (eputall_any K l ck w.drew hkd (by omega) (by omega)) rfl (by kernel_rfl) (by rfl) (by go_simp) ?_
 rintro e1 w1 ⟨A2, c2, rfl, ho2, hb2⟩
 refine ⟨_, rfl, hb2, ?_⟩
 simp only [sP]
 have hH2 := H.out.ext hb2
 obtain ⟨d, hd⟩ : ∃ d, d = Ent.putAll (l.map EnV.x) := ⟨_, rfl⟩
 rw [← hd] at HPL ho2 ⊢
 refine rr_last 9 rfl (by kernel_rfl) (by kernel_rfl) (by rfl) fun KK hK => wp_app (.tmp 15) (.tmp 19) 23 rfl elemB B A bs.length c (bvs bs) rfl A2 d.length c2 (bvs d) rfl (bs.length + d.length) rfl (bvs (bs ++ d)) (bvs_app _ _) hH2.own ho2.rd (bvs_one _) (by have := HPL.out; omega) (by have := HPL.out; omega) (Nat.le_of_lt (Nat.lt_of_le_of_lt hH2.base (lt_of_heap hH2.row))) (fun A3 c3 w3 ho3 hg3 hr3 => hK _ _ ?_)
 simp only [sP]
 refine qAD 10 rfl ?_
 simp only [sP]
 refine qAD 11 rfl ?_
 simp only [sP]
 have hrow3 := (hg3.block g (lt_of_heap hH2.row) (fun e => hH2.own.ne hH2.row (by decide) e.symm)).trans hH2.row
 obtain ⟨hL, hB⟩ := hH2.step hg3 (by rw [List.length_append]; exact ho3)
 refine rr_store 12 rfl (by kernel_rfl) (by kernel_rfl) (by rfl) ⟨w3.setRow g #[.slice A3 (bs ++ d).length c3, .slice none 0 0, .bool false, .bool false], ex_put1 23 (.tmp 22) (.tmp 20) rfl ⟨g, 0, none⟩ rfl g 0 rfl _ rfl [.slice A3 (bs.length + d.length) c3] rfl _ _ hrow3 (by kernel_rfl) (by simp) (by simp [Value.oneCell']) _ (by rw [List.length_append]; simp [put1]), ?_⟩
 simp only [Act.put]
 refine rr_done (by kernel_rfl) ?_
 obtain ⟨W9, hW9⟩ : ∃ W9, W9 = w3.setRow g #[.slice A3 (bs ++ d).length c3, .slice none 0 0, .bool false, .bool false] := ⟨_, rfl⟩
 rw [← hW9] at hL hB ⊢
 clear hW9
 have hBB : Kept B g w W9 := (Kept.ext (Ext.drew w) H'.out.size).tr ((Kept.ext hb2 H.out.size).tr hB)
 go_wp2_with fail
 (try simp only [Exit.inBlock, Exit.then])
 refine bodyPost_ret (results_none rfl _ _ _) rfl ?_
 exact ⟨rfl, ⟨_, _, by first | exact hL | (rw [← hd]; exact hL)⟩, hBB⟩
set_option maxRecDepth 100000 in
set_option maxHeartbeats 1000000 in
theorem rest_lay (B g : Nat) (A : Option Addr) (c : Nat) (bs : List UInt8) (p : Addr) (K : Option Addr) (ck : Nat) (d : List UInt8) (w : World) (h : LayAt w B g A c bs) (hp : w.cell? p = some (.slice K d.length ck)) (hk : RdB w K d) (hl : d.length ≤ 1000000) (hb : bs.length ≤ 100000000) :
  Calls Tryz.prog 75 #[.pointer (some ⟨g, 0, none⟩), .pointer (some p)] w (Laid B g (bs ++ d) w) := by
 have h2 := h.cell2
 have hd0 := h.ext (Ext.drew w)
 have h0 := hd0.cell0
 have hpd : w.drew.cell? p = some (.slice K d.length ck) := hp
 have HRD := Lib.hid (hk.below (Ext.drew w))
 have hpl : d.length ≤ 10000000 := by omega
 have HPL := Lib.hid hpl
 have H := Lib.hid hd0
 have H' := Lib.hid h
 clear h hpl hd0
 go_enter Tryz.func75, Tryz.ntmps75
 go_wp2_with fail
 refine rr_start (extW) [0, 1, 2, 3, 5, 6, 9, 10] (by kernel_rfl) ?_
 refine qAD 0 rfl ?_
 simp only [sP]
 refine qAD 1 rfl ?_
 simp only [sP]
 refine qAD 2 rfl ?_
 simp only [sP]
 refine qAD 3 rfl ?_
 simp only [sP]
 refine qS 4 rfl ⟨_, fun w' hx => by have hcx := hx.load h0; (go_simp <;> with_reducible rfl), ?_⟩
 simp only [sP]
 refine qAD 5 rfl ?_
 simp only [sP]
 refine qAD 6 rfl ?_
 simp only [sP]
 refine qS 7 rfl ⟨_, fun w' hx => by have hcx := hx.load hpd; (go_simp <;> with_reducible rfl), ?_⟩
 simp only [sP]
 have hH2 := H.out
 refine rr_last 8 rfl (by kernel_rfl) (by kernel_rfl) (by rfl) fun KK hK => wp_app (.tmp 13) (.tmp 16) 23 rfl elemB B A bs.length c (bvs bs) rfl K d.length ck (bvs d) rfl (bs.length + d.length) rfl (bvs (bs ++ d)) (bvs_app _ _) hH2.own HRD.out (bvs_one _) (by have := HPL.out; omega) (by have := HPL.out; omega) (Nat.le_of_lt (Nat.lt_of_le_of_lt hH2.base (lt_of_heap hH2.row))) (fun A3 c3 w3 ho3 hg3 hr3 => hK _ _ ?_)
 simp only [sP]
 refine qAD 9 rfl ?_
 simp only [sP]
 refine qAD 10 rfl ?_
 simp only [sP]
 have hrow3 := (hg3.block g (lt_of_heap hH2.row) (fun e => hH2.own.ne hH2.row (by decide) e.symm)).trans hH2.row
 obtain ⟨hL, hB⟩ := hH2.step hg3 (by rw [List.length_append]; exact ho3)
 refine rr_store 11 rfl (by kernel_rfl) (by kernel_rfl) (by rfl) ⟨w3.setRow g #[.slice A3 (bs ++ d).length c3, .slice none 0 0, .bool false, .bool false], ex_put1 23 (.tmp 19) (.tmp 17) rfl ⟨g, 0, none⟩ rfl g 0 rfl _ rfl [.slice A3 (bs.length + d.length) c3] rfl _ _ hrow3 (by kernel_rfl) (by simp) (by simp [Value.oneCell']) _ (by rw [List.length_append]; simp [put1]), ?_⟩
 simp only [Act.put]
 refine rr_done (by kernel_rfl) ?_
 obtain ⟨W9, hW9⟩ : ∃ W9, W9 = w3.setRow g #[.slice A3 (bs ++ d).length c3, .slice none 0 0, .bool false, .bool false] := ⟨_, rfl⟩
 rw [← hW9] at hL hB ⊢
 clear hW9
 have hBB : Kept B g w W9 := (Kept.ext (Ext.drew w) H'.out.size).tr hB
 go_wp2_with fail
 (try simp only [Exit.inBlock, Exit.then])
 refine bodyPost_ret (results_none rfl _ _ _) rfl ?_
 exact ⟨rfl, ⟨_, _, by first | exact hL | (rw [← hd]; exact hL)⟩, hBB⟩
end Go.Proofs.YtjholekgdnhpkaaGreatDoor
