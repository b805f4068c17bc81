
/- Texts laid together by wip/tools/lay2.py: NdMem NdA NdB NdT NdU NdV NdH NdC NdD NdE NdF NdG. -/

import Derived.Test.YtkpagmfaccmiaaaGreatCellSame

import Derived.Test.YtkpagmfaccmiaaaGreatFlat

import Derived.Test.YtkpagmfaccmiaaaGreatCompare

import Derived.Laws.StructEq

import Derived.Laws.EntriesVeiled

import Derived.Test.YtkpagmfaccmiaaaGreatCellPut2

import Derived.Test.YtkpagmfaccmiaaaGreatRowG

import Derived.Test.YtkpagmfaccmiaaaGreatEnt

import Derived.Test.YtkpagmfaccmiaaaGreatReg3

import Derived.Test.YtkpagmfaccmiaaaGreatEqual

import Derived.Test.YtkpagmfaccmiaaaGreatCellPlain

import Derived.Test.YtkpagmfaccmiaaaGreatReg2

set_option linter.unusedVariables false

/- Nodes: in plain Lean, and in memory (layer 08). -/

namespace Go.Proofs.YtkpagmfaccmiaaaGreat

open Go.RowKit

attribute [local go_sem] Oper.semAt_some

structure Hd where
  root : Nat
  pages : Nat
  free : Nat
  entries : Nat
namespace Hd

def zero : Hd := ⟨0, 0, 0, 0⟩
def ok (h : Hd) : Bool := decide ((2 : Int) ≤ (h.pages : Int)) && decide ((h.pages : Int) ≤ 512) && decide ((1 : Int) ≤ (h.root : Int)) && decide ((h.root : Int) < (h.pages : Int)) && decide ((h.free : Int) < (h.pages : Int))
def same (a b : Hd) : Bool := ((a.root : Int) == (b.root : Int)) && ((a.pages : Int) == (b.pages : Int)) && ((a.free : Int) == (b.free : Int)) && ((a.entries : Int) == (b.entries : Int))
theorem same_iff (a b : Hd) : a.same b = true ↔ a = b := by
  obtain ⟨a1, a2, a3, a4⟩ := a
  obtain ⟨b1, b2, b3, b4⟩ := b
  simp only [same, Bool.and_eq_true, beq_iff_eq, Hd.mk.injEq, Int.natCast_inj, and_assoc]
def cells (h : Hd) : Array Value := #[.int .u32 (h.root : Int), .int .u32 (h.pages : Int), .int .u32 (h.free : Int), .int .u64 (h.entries : Int)]
structure In (h : Hd) : Prop where
  root : h.root < 4294967296
  pages : h.pages < 4294967296
  free : h.free < 4294967296
  entries : h.entries < 18446744073709551616
end Hd

/-- A node. -/
structure Nd where
  kind : Int
  lsn : Nat
  cells : List Cl
  next : Nat
  data : List UInt8
  head : Hd
def Cl.put (k : Int) (c : Cl) : List UInt8 × Nat := if k = 3 then c.putL else c.putI
def Cl.get (k : Int) (b : List UInt8) : Cl × Nat := if k = 3 then Cl.getL b else Cl.getI b
namespace Nd

def hasC (k : Int) : Bool := decide (k = 3) || decide (k = 2)
def zero : Nd := ⟨0, 0, [], 0, [], Hd.zero⟩
def plain (n : Nd) : Bool := (decide (n.kind = 1) || n.head.same Hd.zero) && (hasC n.kind || decide ((n.cells.length : Int) = 0)) && (decide (n.kind = 4) || decide ((n.data.length : Int) = 0)) && (decide (n.kind = 4) || decide (n.kind = 5) || decide ((n.next : Int) = 0))
/-- Keys rise strictly. -/
def rise (l : List Cl) : Prop := ∀ k (h : k + 1 < l.length), ltB (l[k]'(by omega)).key l[k + 1].key = true
def riseB : List Cl → Bool
  | a :: b :: l => ltB a.key b.key && riseB (b :: l)
  | _ => true
theorem riseB_iff : ∀ l : List Cl, riseB l = true ↔ rise l
  | [] => by simp [riseB, rise]
  | [_] => by simp [riseB, rise]
  | a :: b :: l => by
    simp only [riseB, Bool.and_eq_true, riseB_iff (b :: l)]
    constructor
    · rintro ⟨h1, h2⟩ k hk
      cases k with
      | zero => exact h1
      | succ k => exact h2 k (by simpa using hk)
    · intro h
      exact ⟨h 0 (by simp), fun k hk => h (k + 1) (by simpa using hk)⟩
def cellsOk (k : Int) (l : List Cl) : Bool := l.all (fun c => decide ((c.put k).2 = 0)) && riseB l
def ok (n : Nd) : Bool := n.plain && (if n.kind = 1 then n.head.ok else if n.kind = 4 then decide (1 ≤ n.data.length) && decide (n.data.length ≤ 238) else if n.kind = 5 then true else if n.kind = 2 then !n.cells.isEmpty && cellsOk 2 n.cells else if n.kind = 3 then cellsOk 3 n.cells else false)
def need (k : Int) : List Cl → Nat
  | [] => 0
  | c :: l => 2 + (c.put k).1.length + need k l
def used (k : Int) (l : List Cl) : Nat × Nat := if hasC k = true ∧ (l.all fun c => decide ((c.put k).2 = 0)) = true then (need k l, 0) else (0, 80)
def sameC : List Cl → List Cl → Bool
  | [], [] => true
  | a :: l, b :: m => a.same b && sameC l m
  | _, _ => false
theorem sameC_iff : ∀ (l m : List Cl), sameC l m = true ↔ l = m
  | [], [] => by simp [sameC]
  | [], _ :: _ => by simp [sameC]
  | _ :: _, [] => by simp [sameC]
  | a :: l, b :: m => by simp only [sameC, Bool.and_eq_true, Cl.same_iff, sameC_iff l m, List.cons.injEq]
def same (a b : Nd) : Bool := (decide (a.kind = b.kind) && decide ((a.lsn : Int) = (b.lsn : Int)) && decide ((a.next : Int) = (b.next : Int)) && a.head.same b.head) && (a.data == b.data) && sameC a.cells b.cells
theorem same_iff (a b : Nd) : a.same b = true ↔ a = b := by
  obtain ⟨a1, a2, a3, a4, a5, a6⟩ := a
  obtain ⟨b1, b2, b3, b4, b5, b6⟩ := b
  simp only [same, Bool.and_eq_true, decide_eq_true_eq, beq_iff_eq, Hd.same_iff, sameC_iff, Nd.mk.injEq, Int.natCast_inj]
  constructor
  · rintro ⟨⟨⟨⟨⟨h1, h2⟩, h3⟩, h4⟩, h5⟩, h6⟩; exact ⟨h1, h2, h6, h3, h5, h4⟩
  · rintro ⟨h1, h2, h3, h4, h5, h6⟩; exact ⟨⟨⟨⟨⟨h1, h2⟩, h4⟩, h6⟩, h5⟩, h3⟩
theorem need_app (k : Int) (l m : List Cl) : need k (l ++ m) = need k l + need k m := by
  induction l with
  | nil => simp [need]
  | cons c l ih => simp only [List.cons_append, need, ih]; omega
end Nd

/-! ### lists of cells in memory -/

theorem CellV.size (c : CellV) : c.cells.size = 5 := rfl
def ccs (l : List CellV) : List Value := l.flatMap fun c => c.cells.toList
theorem ccs_each (l : List CellV) : ∀ c ∈ l, (c.cells.toList).length = 5 := fun _ _ => rfl
theorem ccs_len (l : List CellV) : (ccs l).length = l.length * 5 := flat_len _ 5 l (ccs_each l)
theorem ccs_app (l m : List CellV) : ccs (l ++ m) = ccs l ++ ccs m := by simp [ccs]
theorem ccs_one (l : List CellV) : ∀ u ∈ ccs l, u.oneCell' = true := by
  intro u hu
  obtain ⟨p, _, hp⟩ := List.mem_flatMap.1 hu
  simp only [CellV.cells, List.mem_cons, List.not_mem_nil, or_false] at hp
  rcases hp with rfl | rfl | rfl | rfl | rfl <;> rfl
theorem elemC5 : ElemT Tryz.prog 23 43 5 64 := ElemT.mk' Tryz.underlying23 (z := .agg #[.slice none 0 0, .int .i64 0, .slice none 0 0, .int .u32 0, .int .u32 0]) (by kernel_rfl) (by rfl) (by decide)
structure RdC (w : World) (A : Option Addr) (l : List CellV) : Prop where
  rd : Rd w 5 A l.length (ccs l)
  each : ∀ c ∈ l, c.In w
theorem CellV.In.ext {w w' : World} {c : CellV} (h : c.In w) (hb : Ext w w') : c.In w' := ⟨h.over, h.kid, h.lo, h.hi, h.kr.below hb, h.vr.below hb, h.kcap, h.vcap⟩
section

variable {w w' : World} {A : Option Addr} {l : List CellV}

theorem RdC.nil_ (w : World) (A : Option Addr) : RdC w A [] := ⟨Rd.nil_ _ _ _, by simp⟩
theorem RdC.below (h : RdC w A l) (hb : Ext w w') : RdC w' A l := ⟨h.rd.below hb, fun e he => (h.each e he).ext hb⟩
theorem RdC.at_ (h : RdC w A l) {k : Nat} (hk : k < l.length) : ∃ ad, A = some ad ∧ (∀ j u, (l[k].cells)[j]? = some u → w.cell? ((ad.add (k * 5)).add j) = some u) ∧ l[k].In w := by
  obtain ⟨ad, e, hc⟩ := h.rd.2 (by intro e; have := ccs_len l; rw [e] at this; simp at this; omega)
  refine ⟨ad, e, fun j u hj => ?_, h.each _ (List.getElem_mem hk)⟩
  have hj2 : j < 5 := (Array.getElem?_eq_some_iff.1 hj).1
  rw [add_add']
  refine hc _ u ?_
  rw [ccs, flat_at _ 5 l (ccs_each l) k hk j hj2]
  simpa using hj
end

/-! ### nodes in memory -/

structure NdV where
  kind : Int
  lsn : Nat
  ca : Option Addr
  cl : List CellV
  cc : Nat
  next : Nat
  da : Option Addr
  data : List UInt8
  dc : Nat
  head : Hd
namespace NdV

def x (n : NdV) : Nd := ⟨n.kind, n.lsn, n.cl.map CellV.x, n.next, n.data, n.head⟩
def cells (n : NdV) : Array Value := #[.int .i64 n.kind, .int .u64 (n.lsn : Int), .slice n.ca n.cl.length n.cc, .int .u32 (n.next : Int), .slice n.da n.data.length n.dc, .int .u32 (n.head.root : Int), .int .u32 (n.head.pages : Int), .int .u32 (n.head.free : Int), .int .u64 (n.head.entries : Int)]
def val (n : NdV) : Value := .agg n.cells
def zero : NdV := ⟨0, 0, none, [], 0, 0, none, [], 0, Hd.zero⟩
structure In (w : World) (n : NdV) : Prop where
  lo : -9223372036854775808 ≤ n.kind
  hi : n.kind ≤ 9223372036854775807
  lsn : n.lsn < 18446744073709551616
  cr : RdC w n.ca n.cl
  ccap : n.cl.length ≤ n.cc
  clen : n.cl.length ≤ 1000000
  next : n.next < 4294967296
  dr : RdB w n.da n.data
  dcap : n.data.length ≤ n.dc
  dlen : n.data.length ≤ 1000000
  head : n.head.In
theorem In.ext {w w' : World} {n : NdV} (h : n.In w) (hb : Ext w w') : n.In w' := ⟨h.lo, h.hi, h.lsn, h.cr.below hb, h.ccap, h.clen, h.next, h.dr.below hb, h.dcap, h.dlen, h.head⟩
theorem zero_in (w : World) : zero.In w := ⟨by decide, by decide, by decide, RdC.nil_ _ _, by decide, by decide, by decide, RdB.nil_ _ _, by decide, by decide, ⟨by decide, by decide, by decide, by decide⟩⟩
theorem zero_x : zero.x = Nd.zero := rfl
end NdV

/-! ### == of two heads -/

theorem head_part (h : Hd) (w : World) : (part 24 h.cells 0).run Tryz.prog w = .ok (.int .u32 (h.root : Int)) w ∧ (part 24 h.cells 1).run Tryz.prog w = .ok (.int .u32 (h.pages : Int)) w ∧ (part 24 h.cells 2).run Tryz.prog w = .ok (.int .u32 (h.free : Int)) w ∧ (part 22 h.cells 3).run Tryz.prog w = .ok (.int .u64 (h.entries : Int)) w := by
  have c0 : h.cells[0]? = some (.int .u32 (h.root : Int)) := rfl
  have c1 : h.cells[1]? = some (.int .u32 (h.pages : Int)) := rfl
  have c2 : h.cells[2]? = some (.int .u32 (h.free : Int)) := rfl
  have c3 : h.cells[3]? = some (.int .u64 (h.entries : Int)) := rfl
  unfold part
  refine ⟨?_, ?_, ?_, ?_⟩ <;> go_simp
set_option maxRecDepth 100000 in
theorem head_fields : (Tryz.prog.fieldsOf 27).toList = [⟨"Root", 24, 0, false, "", "", 0⟩, ⟨"Pages", 24, 1, false, "", "", 4⟩, ⟨"Free", 24, 2, false, "", "", 8⟩, ⟨"Entries", 22, 3, false, "", "", 16⟩] := by kernel_rfl
theorem head_under : Tryz.prog.underlying 27 = some (.struct (Tryz.prog.fieldsOf 27)) := by kernel_rfl
theorem head_held : Tryz.prog.stoodInHeld 27 = false := by kernel_rfl
theorem eqFields_consB {P : Program} {w : World} {d : Nat} {xs ys : Array Value} {f : Field} {fs : List Field} {a b : Value} {r s : Bool} (hn : f.name ≠ "_") (ha : (part f.type xs f.offset).run P w = .ok a w) (hb : (part f.type ys f.offset).run P w = .ok b w)
    (hr : (Op.equalIn d f.type a b).run P w = .ok r w) (hs : (Op.eqFields d xs ys fs).run P w = .ok s w) : (Op.eqFields d xs ys (f :: fs)).run P w = .ok (r && s) w := by
  rw [Op.eqFields, if_pos hn]
  simp only [Sem.run_bind, ha, hb, Result.andThen_ok, hr]
  cases r with
  | true => simp only [Bool.not_true, Bool.false_eq_true, if_false, Bool.true_and]; exact hs
  | false => simp
theorem eqFields_nilB {P : Program} {w : World} {d : Nat} {xs ys : Array Value} : (Op.eqFields d xs ys []).run P w = .ok true w := rfl
theorem run_eqHeadIn (d : Nat) (s t : Hd) (w : World) : (Op.equalIn (d + 2 + 1) 27 (.agg s.cells) (.agg t.cells)).run Tryz.prog w = .ok (s.same t) w := by
  obtain ⟨p0, p1, p2, p3⟩ := head_part s w
  obtain ⟨q0, q1, q2, q3⟩ := head_part t w
  have e0 : (Op.equalIn (d + 2) 24 (.int .u32 (s.root : Int)) (.int .u32 (t.root : Int))).run Tryz.prog w = .ok _ w := run_equalIn_int w (d + 1) 24 .u32 .u32 _ _ Tryz.underlying24
  have e1 : (Op.equalIn (d + 2) 24 (.int .u32 (s.pages : Int)) (.int .u32 (t.pages : Int))).run Tryz.prog w = .ok _ w := run_equalIn_int w (d + 1) 24 .u32 .u32 _ _ Tryz.underlying24
  have e2 : (Op.equalIn (d + 2) 24 (.int .u32 (s.free : Int)) (.int .u32 (t.free : Int))).run Tryz.prog w = .ok _ w := run_equalIn_int w (d + 1) 24 .u32 .u32 _ _ Tryz.underlying24
  have e3 : (Op.equalIn (d + 2) 22 (.int .u64 (s.entries : Int)) (.int .u64 (t.entries : Int))).run Tryz.prog w = .ok _ w := run_equalIn_int w (d + 1) 22 .u64 .u64 _ _ Tryz.underlying22
  have e := run_equalIn_agg w (d + 2) 27 s.cells t.cells head_under head_held
  rw [head_fields] at e
  have z4 : (Op.eqFields (d + 2) s.cells t.cells []).run Tryz.prog w = .ok true w := eqFields_nilB
  have z3 : (Op.eqFields (d + 2) s.cells t.cells [⟨"Entries", 22, 3, false, "", "", 16⟩]).run Tryz.prog w = .ok _ w := eqFields_consB (by simp) p3 q3 e3 z4
  have z2 : (Op.eqFields (d + 2) s.cells t.cells [⟨"Free", 24, 2, false, "", "", 8⟩, ⟨"Entries", 22, 3, false, "", "", 16⟩]).run Tryz.prog w = .ok _ w := eqFields_consB (by simp) p2 q2 e2 z3
  have z1 : (Op.eqFields (d + 2) s.cells t.cells [⟨"Pages", 24, 1, false, "", "", 4⟩, ⟨"Free", 24, 2, false, "", "", 8⟩, ⟨"Entries", 22, 3, false, "", "", 16⟩]).run Tryz.prog w = .ok _ w := eqFields_consB (by simp) p1 q1 e1 z2
  have z0 : (Op.eqFields (d + 2) s.cells t.cells [⟨"Root", 24, 0, false, "", "", 0⟩, ⟨"Pages", 24, 1, false, "", "", 4⟩, ⟨"Free", 24, 2, false, "", "", 8⟩, ⟨"Entries", 22, 3, false, "", "", 16⟩]).run Tryz.prog w = .ok _ w := eqFields_consB (by simp) p0 q0 e0 z1
  refine e.trans (z0.trans ?_)
  simp only [Hd.same, Bool.and_true, Bool.and_assoc]
theorem run_eqHead (s t : Hd) (w : World) : (binOp .eql 27 (.agg s.cells) (.agg t.cells)).run Tryz.prog w = .ok (.bool (s.same t)) w := by
  rw [run_eql_struct, show (10000 : Nat) = 9997 + 2 + 1 from rfl, run_eqHeadIn 9997 s t w]
  rfl
theorem guardHead (w : World) (x y : Operand) (a b : Array Value) : (eqGuard .eql 27 x y (.agg a) (.agg b)).run Tryz.prog w = .ok () w := by
  exact run_eqGuard_agg w .eql 27 x y a b (by kernel_rfl)
end Go.Proofs.YtkpagmfaccmiaaaGreat

/- Contracts: hasCells, coderOf, isHead, isPlain (layer 08). Printed by wip/tools/gen_nda08.py. -/

namespace Go.Proofs.YtkpagmfaccmiaaaGreat

open Go.RowKit

attribute [local go_sem] Oper.semAt_some

set_option maxRecDepth 100000 in
theorem hasCells_any (k : Int) (w : World) : Calls Tryz.prog 20 #[.int .i64 k] w fun e w' => e = .returned (.bool (Nd.hasC k)) ∧ w = w' := by
  unfold Nd.hasC
  by_cases h3 : k = 3
  · go_enter Tryz.func20, Tryz.ntmps20
    go_wp2
    go_ret
    simp [h3]
  · by_cases h2 : k = 2
    · go_enter Tryz.func20, Tryz.ntmps20
      go_wp2
      go_ret
      simp [h2]
    · go_enter Tryz.func20, Tryz.ntmps20
      go_wp2
      go_ret
      simp [h2, h3]

/-- A coder's two functions. -/
def coderA (k : Int) : Array Value := if k = 3 then #[.func (.func 55) #[] #[], .func (.func 56) #[] #[]] else #[.func (.func 57) #[] #[], .func (.func 58) #[] #[]]
set_option maxRecDepth 100000 in
theorem coderOf_any (k : Int) (w : World) : Calls Tryz.prog 21 #[.int .i64 k] w fun e w' => e = .returned (.agg (coderA k)) ∧ Ext w w' := by
  unfold coderA
  by_cases h3 : k = 3
  · rw [if_pos h3]
    go_enter Tryz.func21, Tryz.ntmps21
    go_wp2
    refine bodyPost_ret (results_cell_row rfl _ _ w.heap.size 56 _ (0, 0) _ rfl (heap_alloc_new w _) Tryz.underlying56 rfl (by kernel_rfl)) rfl ⟨rfl, Ext.alloc w _⟩
  · rw [if_neg h3]
    go_enter Tryz.func21, Tryz.ntmps21
    go_wp2
    refine bodyPost_ret (results_cell_row rfl _ _ w.heap.size 56 _ (0, 0) _ rfl (heap_alloc_new w _) Tryz.underlying56 rfl (by kernel_rfl)) rfl ⟨rfl, Ext.alloc w _⟩

set_option maxRecDepth 100000 in
set_option maxHeartbeats 2000000 in
theorem isHead_any (h : Hd) (w : World) : Calls Tryz.prog 30 #[.agg h.cells] w fun e w' => e = .returned (.bool h.ok) ∧ Ext w w' := by
  obtain ⟨r, p, f, e⟩ := h
  have key_ : ∀ b : Bool, (Hd.mk r p f e).ok = b → Hid (b = (Hd.mk r p f e).ok) := fun _ h => h.symm
  simp only [Hd.cells]
  by_cases h1 : (p : Int) ≥ 2
  · by_cases h2 : (p : Int) ≤ 512
    · by_cases h3 : (r : Int) ≥ 1
      · by_cases h4 : (r : Int) < (p : Int)
        · by_cases h5 : (f : Int) < (p : Int)
          · have hv := key_ true (by simp [Hd.ok, *]; try omega)
            rw [← hv.out]
            clear key_ hv
            go_enter Tryz.func30, Tryz.ntmps30
            go_wp2
            go_ret
            exact ⟨rfl, Ext.alloc w _⟩
          · have hv := key_ false (by simp [Hd.ok, *]; try omega)
            rw [← hv.out]
            clear key_ hv
            go_enter Tryz.func30, Tryz.ntmps30
            go_wp2
            go_ret
            exact ⟨rfl, Ext.alloc w _⟩
        · have hv := key_ false (by simp [Hd.ok, *]; try omega)
          rw [← hv.out]
          clear key_ hv
          go_enter Tryz.func30, Tryz.ntmps30
          go_wp2
          go_ret
          exact ⟨rfl, Ext.alloc w _⟩
      · have hv := key_ false (by simp [Hd.ok, *]; try omega)
        rw [← hv.out]
        clear key_ hv
        go_enter Tryz.func30, Tryz.ntmps30
        go_wp2
        go_ret
        exact ⟨rfl, Ext.alloc w _⟩
    · have hv := key_ false (by simp [Hd.ok, *]; try omega)
      rw [← hv.out]
      clear key_ hv
      go_enter Tryz.func30, Tryz.ntmps30
      go_wp2
      go_ret
      exact ⟨rfl, Ext.alloc w _⟩
  · have hv := key_ false (by simp [Hd.ok, *]; try omega)
    rw [← hv.out]
    clear key_ hv
    go_enter Tryz.func30, Tryz.ntmps30
    go_wp2
    go_ret
    exact ⟨rfl, Ext.alloc w _⟩


theorem wpList_eqS {P : Program} {ops : Array Oper} {rest : List Oper} {o : Oper} {a : Act} {w : World} {Q : Exit → Act → World → Prop} {t u : TypeId} {x y : Operand} {p q : Value} {b : Bool} (ho : o.op = .binOp .eql t x y u) (hgd : Region.wanted o (yielded ops a.tmps) = true) (hx : a.eval x = p) (hy : a.eval y = q)
    (hr : ∀ w, (binOp .eql t p q).run P w = .ok (.bool b) w) (hg : ∀ w, (eqGuard .eql t x y p q).run P w = .ok () w) (h : wpList P ops Q rest (a.put o.dst (.bool b)) w) : wpList P ops Q (o :: rest) a w :=
  wpList_want hgd fun K hK => by
    unfold Oper.wp execOp
    simp only [ho, hx, hy, Sem.run_bind]
    rw [hg]
    simp only [Result.andThen_ok]
    rw [hr]
    exact hK _ _ h
theorem plain_eq (k : Int) (lsn : Nat) (ca : Option Addr) (cl : List CellV) (cc next : Nat) (da : Option Addr) (data : List UInt8) (dc : Nat) (h : Hd) : (NdV.mk k lsn ca cl cc next da data dc h).x.plain = ((decide (k = 1) || h.same Hd.zero) && (Nd.hasC k || decide ((cl.length : Int) = 0)) && (decide (k = 4) || decide ((data.length : Int) = 0)) && (decide (k = 4) || decide (k = 5) || decide ((next : Int) = 0))) := by
  unfold Nd.plain
  show ((decide (k = 1) || h.same Hd.zero) && (Nd.hasC k || decide (((cl.map CellV.x).length : Int) = 0)) && (decide (k = 4) || decide ((data.length : Int) = 0)) && (decide (k = 4) || decide (k = 5) || decide ((next : Int) = 0))) = _
  rw [List.length_map]
theorem run_eqHeadZ (h : Hd) (w : World) : (binOp .eql 27 (.agg h.cells) (.agg Hd.zero.cells)).run Tryz.prog w = .ok (.bool (h.same Hd.zero)) w := run_eqHead h Hd.zero w
set_option maxRecDepth 100000 in
set_option maxHeartbeats 4000000 in
theorem isPlain_any (n : NdV) (w : World) : Calls Tryz.prog 29 #[n.val] w fun e w' => e = .returned (.bool n.x.plain) ∧ Ext w w' := by
  obtain ⟨k, lsn, ca, cl, cc, next, da, data, dc, h⟩ := n
  obtain ⟨r, p, f, e⟩ := h
  obtain ⟨R, hR⟩ : ∃ R, R = (NdV.mk k lsn ca cl cc next da data dc ⟨r, p, f, e⟩).x.plain := ⟨_, rfl⟩
  rw [← hR]
  rw [plain_eq] at hR
  have hh := hasCells_any k
  have heq := fun W => run_eqHeadZ ⟨r, p, f, e⟩ W
  simp only [NdV.val, NdV.cells]

  by_cases k1 : k = 1
  · subst k1
    rw [show Nd.hasC 1 = false from rfl] at hh
    have Heq := Lib.hid heq
    clear heq
    have HR := Lib.hid hR
    clear hR
    go_enter Tryz.func29, Tryz.ntmps29
    go_wp2_with (first | (go_at_call 20; refine (hh _).mono ?_; rintro e w' ⟨rfl, rfl⟩) | (refine wpList_eqS rfl rfl rfl rfl Heq.out (fun W => guardHead W _ _ _ _) ?_))
    all_goals (go_ret; refine ⟨congrArg (fun b => Ending.returned (.bool b)) ?_, Ext.alloc w _⟩; rw [HR.out]; first | (simp [Nd.hasC, *]; done) | (rw [Bool.eq_iff_iff]; simp [Nd.hasC, *]; done) | (have b4 : (k == 4) = false := by simp [*]; have b5 : (k == 5) = false := by simp [*]; rw [Bool.eq_iff_iff]; simp [Hd.same, Hd.zero, *]; done) | (rw [Bool.eq_iff_iff]; simp [Hd.same, Hd.zero, *]; done))
  · by_cases k4 : k = 4
    · subst k4
      rw [show Nd.hasC 4 = false from rfl] at hh
      have Heq := Lib.hid heq
      clear heq
      have HR := Lib.hid hR
      clear hR
      go_enter Tryz.func29, Tryz.ntmps29
      go_wp2_with (first | (go_at_call 20; refine (hh _).mono ?_; rintro e w' ⟨rfl, rfl⟩) | (refine wpList_eqS rfl rfl rfl rfl Heq.out (fun W => guardHead W _ _ _ _) ?_))
      all_goals (go_ret; refine ⟨congrArg (fun b => Ending.returned (.bool b)) ?_, Ext.alloc w _⟩; rw [HR.out]; first | (simp [Nd.hasC, *]; done) | (rw [Bool.eq_iff_iff]; simp [Nd.hasC, *]; done) | (have b4 : (k == 4) = false := by simp [*]; have b5 : (k == 5) = false := by simp [*]; rw [Bool.eq_iff_iff]; simp [Hd.same, Hd.zero, *]; done) | (rw [Bool.eq_iff_iff]; simp [Hd.same, Hd.zero, *]; done))
    · by_cases k5 : k = 5
      · subst k5
        rw [show Nd.hasC 5 = false from rfl] at hh
        have Heq := Lib.hid heq
        clear heq
        have HR := Lib.hid hR
        clear hR
        go_enter Tryz.func29, Tryz.ntmps29
        go_wp2_with (first | (go_at_call 20; refine (hh _).mono ?_; rintro e w' ⟨rfl, rfl⟩) | (refine wpList_eqS rfl rfl rfl rfl Heq.out (fun W => guardHead W _ _ _ _) ?_))
        all_goals (go_ret; refine ⟨congrArg (fun b => Ending.returned (.bool b)) ?_, Ext.alloc w _⟩; rw [HR.out]; first | (simp [Nd.hasC, *]; done) | (rw [Bool.eq_iff_iff]; simp [Nd.hasC, *]; done) | (have b4 : (k == 4) = false := by simp [*]; have b5 : (k == 5) = false := by simp [*]; rw [Bool.eq_iff_iff]; simp [Hd.same, Hd.zero, *]; done) | (rw [Bool.eq_iff_iff]; simp [Hd.same, Hd.zero, *]; done))
      · cases kc : Nd.hasC k with
        | true =>
          rw [kc] at hh
          have Heq := Lib.hid heq
          clear heq
          have HR := Lib.hid hR
          clear hR
          go_enter Tryz.func29, Tryz.ntmps29
          go_wp2_with (first | (go_at_call 20; refine (hh _).mono ?_; rintro e w' ⟨rfl, rfl⟩) | (refine wpList_eqS rfl rfl rfl rfl Heq.out (fun W => guardHead W _ _ _ _) ?_))
          all_goals (go_ret; refine ⟨congrArg (fun b => Ending.returned (.bool b)) ?_, Ext.alloc w _⟩; rw [HR.out]; first | (simp [Nd.hasC, *]; done) | (rw [Bool.eq_iff_iff]; simp [Nd.hasC, *]; done) | (have b4 : (k == 4) = false := by simp [*]; have b5 : (k == 5) = false := by simp [*]; rw [Bool.eq_iff_iff]; simp [Hd.same, Hd.zero, *]; done) | (rw [Bool.eq_iff_iff]; simp [Hd.same, Hd.zero, *]; done))
        | false =>
          rw [kc] at hh
          have Heq := Lib.hid heq
          clear heq
          have HR := Lib.hid hR
          clear hR
          go_enter Tryz.func29, Tryz.ntmps29
          go_wp2_with (first | (go_at_call 20; refine (hh _).mono ?_; rintro e w' ⟨rfl, rfl⟩) | (refine wpList_eqS rfl rfl rfl rfl Heq.out (fun W => guardHead W _ _ _ _) ?_))
          all_goals (go_ret; refine ⟨congrArg (fun b => Ending.returned (.bool b)) ?_, Ext.alloc w _⟩; rw [HR.out]; first | (simp [Nd.hasC, *]; done) | (rw [Bool.eq_iff_iff]; simp [Nd.hasC, *]; done) | (have b4 : (k == 4) = false := by simp [*]; have b5 : (k == 5) = false := by simp [*]; rw [Bool.eq_iff_iff]; simp [Hd.same, Hd.zero, *]; done) | (rw [Bool.eq_iff_iff]; simp [Hd.same, Hd.zero, *]; done))
end Go.Proofs.YtkpagmfaccmiaaaGreat

/- Contracts: isCell, the closure of isNode (layer 08). Printed by wip/tools/gen_ndb08.py. -/

namespace Go.Proofs.YtkpagmfaccmiaaaGreat

open Go.RowKit

attribute [local go_sem] Oper.semAt_some

theorem cinfo (c : CellV) : (Tryz.prog.info? 43).map (·.size) = some c.cells.size := by
  rw [CellV.size]
  kernel_rfl
theorem cone1 (c : CellV) : c.cells.all (·.oneCell') = true := by simp [CellV.cells, Value.oneCell']
theorem heap_new2 (w : World) (o : Obj) (c : Array Value) (t : TypeId) : ((w.alloc o).alloc (.cells c t)).heap[w.heap.size + 1]? = some (.cells c t (0, 0)) := by
  have h := heap_alloc_new (w.alloc o) (.cells c t)
  have e : (w.alloc o).heap.size = w.heap.size + 1 := World.size_alloc _ _
  rw [e] at h
  exact h
theorem dec0 (n : Nat) : ((n : Int) == 0) = decide (n = 0) := by rw [Bool.eq_iff_iff]; simp
/-- A coder's function, called. -/
theorem cput_any (k : Int) (c : CellV) (w : World) (hc : c.In w) : Calls Tryz.prog (if k = 3 then 55 else 57) #[c.val] w fun e w' => ∃ A' c', e = .returned (.tuple #[.slice A' (c.x.put k).1.length c', .int .i64 ((c.x.put k).2 : Int)]) ∧ Own w' w.heap.size 5 1 A' (c.x.put k).1.length c' (bvs (c.x.put k).1) ∧ Ext w w' := by
  unfold Cl.put
  by_cases h : k = 3
  · rw [if_pos h, if_pos h]; exact putLeaf_any c w hc
  · rw [if_neg h, if_neg h]; exact putInner_any c w hc
/-- The function value of a coder's. -/
def putF (k : Int) : Value := .func (.func (if k = 3 then 55 else 57)) #[] #[]
def getF (k : Int) : Value := .func (.func (if k = 3 then 56 else 58)) #[] #[]
theorem coderA_eq (k : Int) : coderA k = #[putF k, getF k] := by
  unfold coderA putF getF
  by_cases h : k = 3
  · simp only [if_pos h]
  · simp only [if_neg h]
def Cl.good (k : Int) (c : Cl) : Bool := decide ((c.put k).2 = 0)
set_option maxRecDepth 100000 in
theorem isCell_3 (c : CellV) (w : World) (hc : c.In w) : Calls Tryz.prog 32 #[.agg #[.func (.func 55) #[] #[], .func (.func 56) #[] #[]], .agg c.cells] w fun e w' => e = .returned (.bool (decide (c.x.putL.2 = 0))) ∧ Ext w w' := by
  have hx := Ext.tr (Ext.alloc w (.cells #[.func (.func 55) #[] #[], .func (.func 56) #[] #[]] 56)) (Ext.alloc _ (.cells c.cells 43))
  have hp := putLeaf_any c _ (hc.ext hx)
  have hi := cinfo c
  have gl : ((w.alloc (.cells #[.func (.func 55) #[] #[], .func (.func 56) #[] #[]] 56)).alloc (.cells c.cells 43)).heap[w.heap.size + 1]? = some (.cells c.cells 43 (0, 0)) := heap_new2 w _ _ _
  have Hp := Lib.hid hp
  have Hx := Lib.hid hx
  clear hp hx hc
  go_enter Tryz.func32, Tryz.ntmps32
  go_wp2_with (first | (refine wpList_load_rowG rfl 43 (.tmp 3) rfl (w.heap.size + 1) rfl 43 c.cells (0, 0) _ gl Tryz.underlying43 rfl hi ?_) | (go_at_call 55; refine Hp.out.mono ?_; rintro e1 w1 ⟨A', c', rfl, ho, hb⟩; have Hb := Lib.hid hb; clear hb ho))
  go_ret
  exact ⟨congrArg (fun b => Ending.returned (.bool b)) (dec0 _), Hx.out.tr Hb.out⟩

set_option maxRecDepth 100000 in
theorem isNodeF_3 (c : CellV) (g : Nat) (w : World) (hc : c.In w) (hg : w.heap[g]? = some (.cells #[.func (.func 55) #[] #[], .func (.func 56) #[] #[]] 56 (0, 0))) : Calls Tryz.prog 31 #[.agg c.cells, .pointer (some ⟨g, 0, none⟩)] w fun e w' => e = .returned (.bool (!decide (c.x.putL.2 = 0))) ∧ Ext w w' := by
  have hx := Ext.alloc w (.cells c.cells 43)
  have hp := isCell_3 c _ (hc.ext hx)
  have hi := cinfo c
  have gl := heap_alloc_new w (.cells c.cells 43)
  have gg := (hx.block _ (lt_of_heap hg)).trans hg
  have Hp := Lib.hid hp
  have Hx := Lib.hid hx
  clear hp hx hc
  go_enter Tryz.func31, Tryz.ntmps31
  go_wp2_with (first | (refine wpList_load_rowG rfl 43 (.tmp 2) rfl w.heap.size rfl 43 c.cells (0, 0) _ gl Tryz.underlying43 rfl hi ?_) | (refine wpList_load_rowG rfl 56 (.tmp 1) rfl g rfl 56 _ (0, 0) _ gg Tryz.underlying56 rfl (by kernel_rfl) ?_) | (go_at_call 32; refine Hp.out.mono ?_; rintro e1 w1 ⟨rfl, hb⟩; have Hb := Lib.hid hb; clear hb))
  go_ret
  exact ⟨rfl, Hx.out.tr Hb.out⟩

set_option maxRecDepth 100000 in
theorem isCell_2 (c : CellV) (w : World) (hc : c.In w) : Calls Tryz.prog 32 #[.agg #[.func (.func 57) #[] #[], .func (.func 58) #[] #[]], .agg c.cells] w fun e w' => e = .returned (.bool (decide (c.x.putI.2 = 0))) ∧ Ext w w' := by
  have hx := Ext.tr (Ext.alloc w (.cells #[.func (.func 57) #[] #[], .func (.func 58) #[] #[]] 56)) (Ext.alloc _ (.cells c.cells 43))
  have hp := putInner_any c _ (hc.ext hx)
  have hi := cinfo c
  have gl : ((w.alloc (.cells #[.func (.func 57) #[] #[], .func (.func 58) #[] #[]] 56)).alloc (.cells c.cells 43)).heap[w.heap.size + 1]? = some (.cells c.cells 43 (0, 0)) := heap_new2 w _ _ _
  have Hp := Lib.hid hp
  have Hx := Lib.hid hx
  clear hp hx hc
  go_enter Tryz.func32, Tryz.ntmps32
  go_wp2_with (first | (refine wpList_load_rowG rfl 43 (.tmp 3) rfl (w.heap.size + 1) rfl 43 c.cells (0, 0) _ gl Tryz.underlying43 rfl hi ?_) | (go_at_call 57; refine Hp.out.mono ?_; rintro e1 w1 ⟨A', c', rfl, ho, hb⟩; have Hb := Lib.hid hb; clear hb ho))
  go_ret
  exact ⟨congrArg (fun b => Ending.returned (.bool b)) (dec0 _), Hx.out.tr Hb.out⟩

set_option maxRecDepth 100000 in
theorem isNodeF_2 (c : CellV) (g : Nat) (w : World) (hc : c.In w) (hg : w.heap[g]? = some (.cells #[.func (.func 57) #[] #[], .func (.func 58) #[] #[]] 56 (0, 0))) : Calls Tryz.prog 31 #[.agg c.cells, .pointer (some ⟨g, 0, none⟩)] w fun e w' => e = .returned (.bool (!decide (c.x.putI.2 = 0))) ∧ Ext w w' := by
  have hx := Ext.alloc w (.cells c.cells 43)
  have hp := isCell_2 c _ (hc.ext hx)
  have hi := cinfo c
  have gl := heap_alloc_new w (.cells c.cells 43)
  have gg := (hx.block _ (lt_of_heap hg)).trans hg
  have Hp := Lib.hid hp
  have Hx := Lib.hid hx
  clear hp hx hc
  go_enter Tryz.func31, Tryz.ntmps31
  go_wp2_with (first | (refine wpList_load_rowG rfl 43 (.tmp 2) rfl w.heap.size rfl 43 c.cells (0, 0) _ gl Tryz.underlying43 rfl hi ?_) | (refine wpList_load_rowG rfl 56 (.tmp 1) rfl g rfl 56 _ (0, 0) _ gg Tryz.underlying56 rfl (by kernel_rfl) ?_) | (go_at_call 32; refine Hp.out.mono ?_; rintro e1 w1 ⟨rfl, hb⟩; have Hb := Lib.hid hb; clear hb))
  go_ret
  exact ⟨rfl, Hx.out.tr Hb.out⟩


end Go.Proofs.YtkpagmfaccmiaaaGreat

/- Contract: slices.EqualFunc of cells (layer 08). Printed by wip/tools/gen_ndt08.py. -/

namespace Go.Proofs.YtkpagmfaccmiaaaGreat

open Go.RowKit

attribute [local go_sem] Oper.semAt_some

theorem sameC_no {l m : List Cl} (h : l ≠ m) : Nd.sameC l m = false := by
  cases h2 : Nd.sameC l m with
  | false => rfl
  | true => exact absurd ((Nd.sameC_iff l m).1 h2) h
set_option maxRecDepth 100000 in
set_option maxHeartbeats 1000000 in
theorem equalC_any (A B : Option Addr) (l m : List CellV) (c d : Nat) (w : World) (hA : RdC w A l) (hB : RdC w B m) (hl : l.length ≤ 1000000) (hm : m.length ≤ 1000000) :
    Calls Tryz.prog 26 #[.slice A l.length c, .slice B m.length d, .func (.func 27) #[] #[]] w fun e w' => e = .returned (.bool (Nd.sameC (l.map CellV.x) (m.map CellV.x))) ∧ Ext w w' := by
  have hno : l.length ≠ m.length → Nd.sameC (l.map CellV.x) (m.map CellV.x) = false := fun h => sameC_no (fun e => h (by have := congrArg List.length e; simpa using this))
  have hbad : ∀ j (h1 : j < l.length) (h2 : j < m.length), l[j].x.same m[j].x = false → Nd.sameC (l.map CellV.x) (m.map CellV.x) = false := fun j h1 h2 h => sameC_no (fun e => by
    have h3 : (l.map CellV.x)[j]? = (m.map CellV.x)[j]? := by rw [e]
    rw [List.getElem?_map, List.getElem?_map, List.getElem?_eq_getElem h1, List.getElem?_eq_getElem h2] at h3
    injection h3 with h3
    rw [h3, Cl.same_refl] at h
    cases h)
  have hgood : l.length = m.length → (∀ j (h1 : j < l.length) (h2 : j < m.length), l[j].x.same m[j].x = true) → Nd.sameC (l.map CellV.x) (m.map CellV.x) = true := fun h h2 => by
    rw [Nd.sameC_iff]
    refine List.ext_getElem (by simpa using h) fun j h3 h4 => ?_
    rw [List.getElem_map, List.getElem_map]
    exact (Cl.same_iff _ _).1 (h2 j (by simpa using h3) (by simpa using h4))
  obtain ⟨R, hR⟩ : ∃ R, R = Nd.sameC (l.map CellV.x) (m.map CellV.x) := ⟨_, rfl⟩
  rw [← hR] at hno hbad hgood ⊢
  clear hR
  have Hno := Lib.hid hno
  have Hbad := Lib.hid hbad
  have Hgood := Lib.hid hgood
  clear hno hbad hgood
  by_cases hlm : l.length = m.length
  · have hlm2 : ((l.length : Int) != (m.length : Int)) = false := by rw [bne_eq_false_iff_eq]; omega
    have Hlm := Lib.hid hlm
    clear hlm
    go_enter Tryz.func26, Tryz.ntmps26
    go_wp2_with fail
    go_loopw [17] (fun i wr => ∃ k : Nat, k ≤ l.length ∧ i = .int .i64 k ∧ (∀ j (h1 : j < l.length) (h2 : j < m.length), j < k → l[j].x.same m[j].x = true) ∧ Ext w wr) (fun i _ => l.length - (intOf i).toNat)
    case atStart => exact ⟨0, by omega, rfl, fun j _ _ h => absurd h (by omega), Ext.refl _⟩
    case round =>
      obtain ⟨k, hk, rfl, hyes, hbw⟩ := hrel
      have Hyes := Lib.hid hyes
      have Hbw := Lib.hid hbw
      clear hyes hbw
      by_cases h : k < l.length
      · have hm2 : k < m.length := by have := Hlm.out; omega
        obtain ⟨ad, rfl, hcell, hin⟩ := (hA.below Hbw.out).at_ h
        obtain ⟨W1, hW1⟩ : ∃ W1, W1 = wr.alloc (.cells l[k].cells 43) := ⟨_, rfl⟩
        have hx1 : Ext wr W1 := by rw [hW1]; exact Ext.alloc _ _
        have g1 : W1.heap[wr.heap.size]? = some (.cells l[k].cells 43 (0, 0)) := by rw [hW1]; exact heap_alloc_new wr _
        obtain ⟨bd, rfl, hcell2, hin2⟩ := ((hB.below Hbw.out).below hx1).at_ hm2
        obtain ⟨W2, hW2⟩ : ∃ W2, W2 = W1.alloc (.cells m[k].cells 43) := ⟨_, rfl⟩
        have hx2 : Ext W1 W2 := by rw [hW2]; exact Ext.alloc _ _
        have g2 : W2.heap[W1.heap.size]? = some (.cells m[k].cells 43 (0, 0)) := by rw [hW2]; exact heap_alloc_new W1 _
        have g1' := (hx2.block _ (lt_of_heap g1)).trans g1
        have hsame := cellsame_any l[k] m[k] W2 (hin.ext (hx1.tr hx2)) (hin2.ext hx2)
        have ik : (0 : Int) ≤ (k : Int) := by omega
        have ik2 : (k : Int) < (l.length : Int) := by omega
        have ik3 : (k : Int) < (m.length : Int) := by omega
        have hi1 := cinfo l[k]
        have hi2 := cinfo m[k]
        have ho1 := cone1 l[k]
        have ho2 := cone1 m[k]
        have Hb0 := Lib.hid (Hbad.out k h hm2)
        have Hn0 : l[k].x.same m[k].x = true → Hid (∀ j (h1 : j < l.length) (h2 : j < m.length), j < k + 1 → l[j].x.same m[j].x = true) := by
          intro hf
          show ∀ j (h1 : j < l.length) (h2 : j < m.length), j < k + 1 → l[j].x.same m[j].x = true
          intro j hj hj2 hjk
          by_cases e : j = k
          · subst e; exact hf
          · exact Hyes.out j hj hj2 (by omega)
        obtain ⟨P, hP⟩ : ∃ P, P = l[k] := ⟨_, rfl⟩
        obtain ⟨Q, hQ⟩ : ∃ Q, Q = m[k] := ⟨_, rfl⟩
        rw [← hP] at hcell hW1 g1 hsame hi1 ho1 Hb0 Hn0 g1'
        rw [← hQ] at hcell2 hW2 g2 hsame hi2 ho2 Hb0 Hn0
        rw [show P.val = .agg P.cells from rfl, show Q.val = .agg Q.cells from rfl] at hsame
        have HW1 := Lib.hid (show wr.alloc (.cells P.cells 43) = W1 from hW1.symm)
        have HW2 := Lib.hid (show W1.alloc (.cells Q.cells 43) = W2 from hW2.symm)
        have Hcx := Lib.hid hcell
        have Hcy := Lib.hid hcell2
        have Hx := Lib.hid (Hbw.out.tr (hx1.tr hx2))
        have G1 := Lib.hid g1'
        have G2 := Lib.hid g2
        obtain ⟨r, hr⟩ : ∃ r, r = P.x.same Q.x := ⟨_, rfl⟩
        rw [← hr] at hsame Hb0 Hn0
        have Hsame := Lib.hid hsame
        clear hr hP hQ hW1 hW2 hcell hcell2 hx1 hx2 g1 g1' g2 hsame hin hin2
        cases r with
        | true =>
          have Hn1 := Hn0 rfl
          go_wp2_with (first | (have hcx := Hcx.out; refine wpList_load_cells (by rfl) 43 (.tmp 20) rfl _ rfl P.cells _ hcx Tryz.underlying43 rfl hi1 ?_; clear hcx) | (refine wpList_store_row (by rfl) 43 (.tmp 8) (.tmp 21) rfl wr.heap.size P.cells rfl rfl 43 _ (heap_alloc_new wr _) hi1 (by rfl) ho1 ?_; rw [setRow_alloc, HW1.out]) | (have hcy := Hcy.out; refine wpList_load_cells (by rfl) 43 (.tmp 24) rfl _ rfl Q.cells _ hcy Tryz.underlying43 rfl hi2 ?_; clear hcy) | (refine wpList_store_row (by rfl) 43 (.tmp 9) (.tmp 25) rfl W1.heap.size Q.cells rfl rfl 43 _ (heap_alloc_new W1 _) hi2 (by rfl) ho2 ?_; rw [setRow_alloc, HW2.out]) | (refine wpList_load_rowG (by rfl) 43 (.tmp 8) rfl wr.heap.size rfl 43 P.cells (0, 0) _ G1.out Tryz.underlying43 rfl hi1 ?_) | (refine wpList_load_rowG (by rfl) 43 (.tmp 9) rfl W1.heap.size rfl 43 Q.cells (0, 0) _ G2.out Tryz.underlying43 rfl hi2 ?_) | (go_at_call 27; refine Hsame.out.mono ?_; rintro e3 w3 ⟨rfl, hx3⟩; have Hx3 : Hid (Ext W2 w3) := Lib.hid hx3; clear hx3))
          go_roundw
          case rel => exact ⟨k + 1, by omega, by go_num, Hn1.out, Hx.out.tr Hx3.out⟩
          case measure => simp [intOf]; omega
        | false =>
          go_wp2_with (first | (have hcx := Hcx.out; refine wpList_load_cells (by rfl) 43 (.tmp 20) rfl _ rfl P.cells _ hcx Tryz.underlying43 rfl hi1 ?_; clear hcx) | (refine wpList_store_row (by rfl) 43 (.tmp 8) (.tmp 21) rfl wr.heap.size P.cells rfl rfl 43 _ (heap_alloc_new wr _) hi1 (by rfl) ho1 ?_; rw [setRow_alloc, HW1.out]) | (have hcy := Hcy.out; refine wpList_load_cells (by rfl) 43 (.tmp 24) rfl _ rfl Q.cells _ hcy Tryz.underlying43 rfl hi2 ?_; clear hcy) | (refine wpList_store_row (by rfl) 43 (.tmp 9) (.tmp 25) rfl W1.heap.size Q.cells rfl rfl 43 _ (heap_alloc_new W1 _) hi2 (by rfl) ho2 ?_; rw [setRow_alloc, HW2.out]) | (refine wpList_load_rowG (by rfl) 43 (.tmp 8) rfl wr.heap.size rfl 43 P.cells (0, 0) _ G1.out Tryz.underlying43 rfl hi1 ?_) | (refine wpList_load_rowG (by rfl) 43 (.tmp 9) rfl W1.heap.size rfl 43 Q.cells (0, 0) _ G2.out Tryz.underlying43 rfl hi2 ?_) | (go_at_call 27; refine Hsame.out.mono ?_; rintro e3 w3 ⟨rfl, hx3⟩; have Hx3 : Hid (Ext W2 w3) := Lib.hid hx3; clear hx3))
          go_ret
          exact ⟨by rw [Hb0.out (by first | rfl | trivial)]; rfl, Hx.out.tr Hx3.out⟩
      · obtain rfl : k = l.length := by omega
        go_wp2_with fail
        go_ret
        exact ⟨by rw [Hgood.out Hlm.out (fun j h1 h2 => Hyes.out j h1 h2 h1)]; rfl, Hbw.out⟩
  · have hlm2 : ((l.length : Int) != (m.length : Int)) = true := by rw [bne_iff_ne]; omega
    have Hlm := Lib.hid hlm
    clear hlm
    go_enter Tryz.func26, Tryz.ntmps26
    go_wp2_with fail
    go_ret
    exact ⟨by rw [Hno.out Hlm.out]; rfl, Ext.refl _⟩
end Go.Proofs.YtkpagmfaccmiaaaGreat

/- Contract: node.Same (layer 08). Printed by wip/tools/gen_ndu08.py. -/

namespace Go.Proofs.YtkpagmfaccmiaaaGreat

open Go.RowKit

attribute [local go_sem] Oper.semAt_some

theorem Nd.same_eq (a b : Nd) : a.same b = ((a.kind == b.kind) && ((a.lsn : Int) == (b.lsn : Int)) && ((a.next : Int) == (b.next : Int)) && a.head.same b.head && (a.data == b.data) && Nd.sameC a.cells b.cells) := by
  unfold Nd.same
  rfl


set_option maxRecDepth 100000 in
set_option maxHeartbeats 1000000 in
theorem nsame_0 (k : Int) (lsn : Nat) (ca : Option Addr) (cl : List CellV) (cc next : Nat) (da : Option Addr) (data : List UInt8) (dc r p f e : Nat) (k2 : Int) (lsn2 : Nat) (ca2 : Option Addr) (cl2 : List CellV) (cc2 next2 : Nat) (da2 : Option Addr) (data2 : List UInt8) (dc2 r2 p2 f2 e2 : Nat) (w : World) (hca : RdC w ca cl) (hca2 : RdC w ca2 cl2) (hcl : cl.length ≤ 1000000) (hcl2 : cl2.length ≤ 1000000) (hda : RdB w da data) (hda2 : RdB w da2 data2) (h0 : (k == k2) = false) :
    Calls Tryz.prog 12 #[.agg #[.int .i64 k, .int .u64 (lsn : Int), .slice ca cl.length cc, .int .u32 (next : Int), .slice da data.length dc, .int .u32 (r : Int), .int .u32 (p : Int), .int .u32 (f : Int), .int .u64 (e : Int)], .agg #[.int .i64 k2, .int .u64 (lsn2 : Int), .slice ca2 cl2.length cc2, .int .u32 (next2 : Int), .slice da2 data2.length dc2, .int .u32 (r2 : Int), .int .u32 (p2 : Int), .int .u32 (f2 : Int), .int .u64 (e2 : Int)]] w fun e w' => e = .returned (.bool (false)) ∧ Ext w w' := by
  have hx := Ext.tr (Ext.alloc w (.cells #[.int .i64 k, .int .u64 (lsn : Int), .slice ca cl.length cc, .int .u32 (next : Int), .slice da data.length dc, .int .u32 (r : Int), .int .u32 (p : Int), .int .u32 (f : Int), .int .u64 (e : Int)] 29)) (Ext.alloc _ (.cells #[.int .i64 k2, .int .u64 (lsn2 : Int), .slice ca2 cl2.length cc2, .int .u32 (next2 : Int), .slice da2 data2.length dc2, .int .u32 (r2 : Int), .int .u32 (p2 : Int), .int .u32 (f2 : Int), .int .u64 (e2 : Int)] 29))
  have Hx := Lib.hid hx
  clear hx
  go_enter Tryz.func12, Tryz.ntmps12
  go_wp2_with fail
  go_ret
  exact ⟨rfl, Hx.out⟩


set_option maxRecDepth 100000 in
set_option maxHeartbeats 1000000 in
theorem nsame_1 (k : Int) (lsn : Nat) (ca : Option Addr) (cl : List CellV) (cc next : Nat) (da : Option Addr) (data : List UInt8) (dc r p f e : Nat) (k2 : Int) (lsn2 : Nat) (ca2 : Option Addr) (cl2 : List CellV) (cc2 next2 : Nat) (da2 : Option Addr) (data2 : List UInt8) (dc2 r2 p2 f2 e2 : Nat) (w : World) (hca : RdC w ca cl) (hca2 : RdC w ca2 cl2) (hcl : cl.length ≤ 1000000) (hcl2 : cl2.length ≤ 1000000) (hda : RdB w da data) (hda2 : RdB w da2 data2) (h0 : (k == k2) = true) (h1 : ((lsn : Int) == (lsn2 : Int)) = false) :
    Calls Tryz.prog 12 #[.agg #[.int .i64 k, .int .u64 (lsn : Int), .slice ca cl.length cc, .int .u32 (next : Int), .slice da data.length dc, .int .u32 (r : Int), .int .u32 (p : Int), .int .u32 (f : Int), .int .u64 (e : Int)], .agg #[.int .i64 k2, .int .u64 (lsn2 : Int), .slice ca2 cl2.length cc2, .int .u32 (next2 : Int), .slice da2 data2.length dc2, .int .u32 (r2 : Int), .int .u32 (p2 : Int), .int .u32 (f2 : Int), .int .u64 (e2 : Int)]] w fun e w' => e = .returned (.bool (false)) ∧ Ext w w' := by
  have hx := Ext.tr (Ext.alloc w (.cells #[.int .i64 k, .int .u64 (lsn : Int), .slice ca cl.length cc, .int .u32 (next : Int), .slice da data.length dc, .int .u32 (r : Int), .int .u32 (p : Int), .int .u32 (f : Int), .int .u64 (e : Int)] 29)) (Ext.alloc _ (.cells #[.int .i64 k2, .int .u64 (lsn2 : Int), .slice ca2 cl2.length cc2, .int .u32 (next2 : Int), .slice da2 data2.length dc2, .int .u32 (r2 : Int), .int .u32 (p2 : Int), .int .u32 (f2 : Int), .int .u64 (e2 : Int)] 29))
  have Hx := Lib.hid hx
  clear hx
  go_enter Tryz.func12, Tryz.ntmps12
  go_wp2_with fail
  go_ret
  exact ⟨rfl, Hx.out⟩


set_option maxRecDepth 100000 in
set_option maxHeartbeats 1000000 in
theorem nsame_2 (k : Int) (lsn : Nat) (ca : Option Addr) (cl : List CellV) (cc next : Nat) (da : Option Addr) (data : List UInt8) (dc r p f e : Nat) (k2 : Int) (lsn2 : Nat) (ca2 : Option Addr) (cl2 : List CellV) (cc2 next2 : Nat) (da2 : Option Addr) (data2 : List UInt8) (dc2 r2 p2 f2 e2 : Nat) (w : World) (hca : RdC w ca cl) (hca2 : RdC w ca2 cl2) (hcl : cl.length ≤ 1000000) (hcl2 : cl2.length ≤ 1000000) (hda : RdB w da data) (hda2 : RdB w da2 data2) (h0 : (k == k2) = true) (h1 : ((lsn : Int) == (lsn2 : Int)) = true) (h2 : ((next : Int) == (next2 : Int)) = false) :
    Calls Tryz.prog 12 #[.agg #[.int .i64 k, .int .u64 (lsn : Int), .slice ca cl.length cc, .int .u32 (next : Int), .slice da data.length dc, .int .u32 (r : Int), .int .u32 (p : Int), .int .u32 (f : Int), .int .u64 (e : Int)], .agg #[.int .i64 k2, .int .u64 (lsn2 : Int), .slice ca2 cl2.length cc2, .int .u32 (next2 : Int), .slice da2 data2.length dc2, .int .u32 (r2 : Int), .int .u32 (p2 : Int), .int .u32 (f2 : Int), .int .u64 (e2 : Int)]] w fun e w' => e = .returned (.bool (false)) ∧ Ext w w' := by
  have hx := Ext.tr (Ext.alloc w (.cells #[.int .i64 k, .int .u64 (lsn : Int), .slice ca cl.length cc, .int .u32 (next : Int), .slice da data.length dc, .int .u32 (r : Int), .int .u32 (p : Int), .int .u32 (f : Int), .int .u64 (e : Int)] 29)) (Ext.alloc _ (.cells #[.int .i64 k2, .int .u64 (lsn2 : Int), .slice ca2 cl2.length cc2, .int .u32 (next2 : Int), .slice da2 data2.length dc2, .int .u32 (r2 : Int), .int .u32 (p2 : Int), .int .u32 (f2 : Int), .int .u64 (e2 : Int)] 29))
  have Hx := Lib.hid hx
  clear hx
  go_enter Tryz.func12, Tryz.ntmps12
  go_wp2_with fail
  go_ret
  exact ⟨rfl, Hx.out⟩


set_option maxRecDepth 100000 in
set_option maxHeartbeats 1000000 in
theorem nsame_3 (k : Int) (lsn : Nat) (ca : Option Addr) (cl : List CellV) (cc next : Nat) (da : Option Addr) (data : List UInt8) (dc r p f e : Nat) (k2 : Int) (lsn2 : Nat) (ca2 : Option Addr) (cl2 : List CellV) (cc2 next2 : Nat) (da2 : Option Addr) (data2 : List UInt8) (dc2 r2 p2 f2 e2 : Nat) (w : World) (hca : RdC w ca cl) (hca2 : RdC w ca2 cl2) (hcl : cl.length ≤ 1000000) (hcl2 : cl2.length ≤ 1000000) (hda : RdB w da data) (hda2 : RdB w da2 data2) (h0 : (k == k2) = true) (h1 : ((lsn : Int) == (lsn2 : Int)) = true) (h2 : ((next : Int) == (next2 : Int)) = true) (h3 : ((Hd.mk r p f e).same ⟨r2, p2, f2, e2⟩) = false) :
    Calls Tryz.prog 12 #[.agg #[.int .i64 k, .int .u64 (lsn : Int), .slice ca cl.length cc, .int .u32 (next : Int), .slice da data.length dc, .int .u32 (r : Int), .int .u32 (p : Int), .int .u32 (f : Int), .int .u64 (e : Int)], .agg #[.int .i64 k2, .int .u64 (lsn2 : Int), .slice ca2 cl2.length cc2, .int .u32 (next2 : Int), .slice da2 data2.length dc2, .int .u32 (r2 : Int), .int .u32 (p2 : Int), .int .u32 (f2 : Int), .int .u64 (e2 : Int)]] w fun e w' => e = .returned (.bool (false)) ∧ Ext w w' := by
  have hx := Ext.tr (Ext.alloc w (.cells #[.int .i64 k, .int .u64 (lsn : Int), .slice ca cl.length cc, .int .u32 (next : Int), .slice da data.length dc, .int .u32 (r : Int), .int .u32 (p : Int), .int .u32 (f : Int), .int .u64 (e : Int)] 29)) (Ext.alloc _ (.cells #[.int .i64 k2, .int .u64 (lsn2 : Int), .slice ca2 cl2.length cc2, .int .u32 (next2 : Int), .slice da2 data2.length dc2, .int .u32 (r2 : Int), .int .u32 (p2 : Int), .int .u32 (f2 : Int), .int .u64 (e2 : Int)] 29))
  have Hx := Lib.hid hx
  clear hx
  have heq := fun W => run_eqHead ⟨r, p, f, e⟩ ⟨r2, p2, f2, e2⟩ W
  rw [h3] at heq
  have Heq := Lib.hid heq
  clear heq h3
  go_enter Tryz.func12, Tryz.ntmps12
  go_wp2_with (first | (refine wpList_eqS rfl (by rfl) rfl rfl Heq.out (fun W => guardHead W _ _ _ _) ?_))
  go_ret
  exact ⟨rfl, Hx.out⟩


set_option maxRecDepth 100000 in
set_option maxHeartbeats 1000000 in
theorem nsame_4 (k : Int) (lsn : Nat) (ca : Option Addr) (cl : List CellV) (cc next : Nat) (da : Option Addr) (data : List UInt8) (dc r p f e : Nat) (k2 : Int) (lsn2 : Nat) (ca2 : Option Addr) (cl2 : List CellV) (cc2 next2 : Nat) (da2 : Option Addr) (data2 : List UInt8) (dc2 r2 p2 f2 e2 : Nat) (w : World) (hca : RdC w ca cl) (hca2 : RdC w ca2 cl2) (hcl : cl.length ≤ 1000000) (hcl2 : cl2.length ≤ 1000000) (hda : RdB w da data) (hda2 : RdB w da2 data2) (h0 : (k == k2) = true) (h1 : ((lsn : Int) == (lsn2 : Int)) = true) (h2 : ((next : Int) == (next2 : Int)) = true) (h3 : ((Hd.mk r p f e).same ⟨r2, p2, f2, e2⟩) = true) (h4 : (data == data2) = false) :
    Calls Tryz.prog 12 #[.agg #[.int .i64 k, .int .u64 (lsn : Int), .slice ca cl.length cc, .int .u32 (next : Int), .slice da data.length dc, .int .u32 (r : Int), .int .u32 (p : Int), .int .u32 (f : Int), .int .u64 (e : Int)], .agg #[.int .i64 k2, .int .u64 (lsn2 : Int), .slice ca2 cl2.length cc2, .int .u32 (next2 : Int), .slice da2 data2.length dc2, .int .u32 (r2 : Int), .int .u32 (p2 : Int), .int .u32 (f2 : Int), .int .u64 (e2 : Int)]] w fun e w' => e = .returned (.bool (false)) ∧ Ext w w' := by
  have hx := Ext.tr (Ext.alloc w (.cells #[.int .i64 k, .int .u64 (lsn : Int), .slice ca cl.length cc, .int .u32 (next : Int), .slice da data.length dc, .int .u32 (r : Int), .int .u32 (p : Int), .int .u32 (f : Int), .int .u64 (e : Int)] 29)) (Ext.alloc _ (.cells #[.int .i64 k2, .int .u64 (lsn2 : Int), .slice ca2 cl2.length cc2, .int .u32 (next2 : Int), .slice da2 data2.length dc2, .int .u32 (r2 : Int), .int .u32 (p2 : Int), .int .u32 (f2 : Int), .int .u64 (e2 : Int)] 29))
  have Hx := Lib.hid hx
  clear hx
  have heq := fun W => run_eqHead ⟨r, p, f, e⟩ ⟨r2, p2, f2, e2⟩ W
  rw [h3] at heq
  have Heq := Lib.hid heq
  clear heq h3
  go_enter Tryz.func12, Tryz.ntmps12
  go_wp2_with (first | (refine wpList_eqS rfl (by rfl) rfl rfl Heq.out (fun W => guardHead W _ _ _ _) ?_) | (go_at_call 25; refine (equal_any da da2 data data2 dc dc2 _ (hda.below Hx.out) (hda2.below Hx.out)).mono ?_; rintro e1 w1 ⟨rfl, rfl⟩; rw [h4]))
  go_ret
  exact ⟨rfl, Hx.out⟩


set_option maxRecDepth 100000 in
set_option maxHeartbeats 1000000 in
theorem nsame_5 (k : Int) (lsn : Nat) (ca : Option Addr) (cl : List CellV) (cc next : Nat) (da : Option Addr) (data : List UInt8) (dc r p f e : Nat) (k2 : Int) (lsn2 : Nat) (ca2 : Option Addr) (cl2 : List CellV) (cc2 next2 : Nat) (da2 : Option Addr) (data2 : List UInt8) (dc2 r2 p2 f2 e2 : Nat) (w : World) (hca : RdC w ca cl) (hca2 : RdC w ca2 cl2) (hcl : cl.length ≤ 1000000) (hcl2 : cl2.length ≤ 1000000) (hda : RdB w da data) (hda2 : RdB w da2 data2) (h0 : (k == k2) = true) (h1 : ((lsn : Int) == (lsn2 : Int)) = true) (h2 : ((next : Int) == (next2 : Int)) = true) (h3 : ((Hd.mk r p f e).same ⟨r2, p2, f2, e2⟩) = true) (h4 : (data == data2) = true) :
    Calls Tryz.prog 12 #[.agg #[.int .i64 k, .int .u64 (lsn : Int), .slice ca cl.length cc, .int .u32 (next : Int), .slice da data.length dc, .int .u32 (r : Int), .int .u32 (p : Int), .int .u32 (f : Int), .int .u64 (e : Int)], .agg #[.int .i64 k2, .int .u64 (lsn2 : Int), .slice ca2 cl2.length cc2, .int .u32 (next2 : Int), .slice da2 data2.length dc2, .int .u32 (r2 : Int), .int .u32 (p2 : Int), .int .u32 (f2 : Int), .int .u64 (e2 : Int)]] w fun e w' => e = .returned (.bool (Nd.sameC (cl.map CellV.x) (cl2.map CellV.x))) ∧ Ext w w' := by
  have hx := Ext.tr (Ext.alloc w (.cells #[.int .i64 k, .int .u64 (lsn : Int), .slice ca cl.length cc, .int .u32 (next : Int), .slice da data.length dc, .int .u32 (r : Int), .int .u32 (p : Int), .int .u32 (f : Int), .int .u64 (e : Int)] 29)) (Ext.alloc _ (.cells #[.int .i64 k2, .int .u64 (lsn2 : Int), .slice ca2 cl2.length cc2, .int .u32 (next2 : Int), .slice da2 data2.length dc2, .int .u32 (r2 : Int), .int .u32 (p2 : Int), .int .u32 (f2 : Int), .int .u64 (e2 : Int)] 29))
  have Hx := Lib.hid hx
  clear hx
  have heq := fun W => run_eqHead ⟨r, p, f, e⟩ ⟨r2, p2, f2, e2⟩ W
  rw [h3] at heq
  have Heq := Lib.hid heq
  clear heq h3
  go_enter Tryz.func12, Tryz.ntmps12
  go_wp2_with (first | (refine wpList_eqS rfl (by rfl) rfl rfl Heq.out (fun W => guardHead W _ _ _ _) ?_) | (go_at_call 25; refine (equal_any da da2 data data2 dc dc2 _ (hda.below Hx.out) (hda2.below Hx.out)).mono ?_; rintro e1 w1 ⟨rfl, rfl⟩; rw [h4]) | (go_at_call 26; refine (equalC_any ca ca2 cl cl2 cc cc2 _ (hca.below Hx.out) (hca2.below Hx.out) hcl hcl2).mono ?_; rintro e2 w2 ⟨rfl, hx2⟩; have Hx2 := Lib.hid hx2; clear hx2))
  go_ret
  exact ⟨rfl, Hx.out.tr Hx2.out⟩


theorem nsame_any (a b : NdV) (w : World) (ha : a.In w) (hb : b.In w) : Calls Tryz.prog 12 #[.agg a.cells, .agg b.cells] w fun e w' => e = .returned (.bool (a.x.same b.x)) ∧ Ext w w' := by
  rw [Nd.same_eq]
  obtain ⟨k, lsn, ca, cl, cc, next, da, data, dc, ⟨r, p, f, e⟩⟩ := a
  obtain ⟨k2, lsn2, ca2, cl2, cc2, next2, da2, data2, dc2, ⟨r2, p2, f2, e2⟩⟩ := b
  simp only [NdV.x]
  cases h0 : (k == k2) with
  | false =>
    simp only [Bool.true_and, Bool.and_false, Bool.false_and, Bool.and_self]
    exact nsame_0 k lsn ca cl cc next da data dc r p f e k2 lsn2 ca2 cl2 cc2 next2 da2 data2 dc2 r2 p2 f2 e2 w ha.cr hb.cr ha.clen hb.clen ha.dr hb.dr h0
  | true =>
    cases h1 : ((lsn : Int) == (lsn2 : Int)) with
    | false =>
      simp only [Bool.true_and, Bool.and_false, Bool.false_and, Bool.and_self]
      exact nsame_1 k lsn ca cl cc next da data dc r p f e k2 lsn2 ca2 cl2 cc2 next2 da2 data2 dc2 r2 p2 f2 e2 w ha.cr hb.cr ha.clen hb.clen ha.dr hb.dr h0 h1
    | true =>
      cases h2 : ((next : Int) == (next2 : Int)) with
      | false =>
        simp only [Bool.true_and, Bool.and_false, Bool.false_and, Bool.and_self]
        exact nsame_2 k lsn ca cl cc next da data dc r p f e k2 lsn2 ca2 cl2 cc2 next2 da2 data2 dc2 r2 p2 f2 e2 w ha.cr hb.cr ha.clen hb.clen ha.dr hb.dr h0 h1 h2
      | true =>
        cases h3 : ((Hd.mk r p f e).same ⟨r2, p2, f2, e2⟩) with
        | false =>
          simp only [Bool.true_and, Bool.and_false, Bool.false_and, Bool.and_self]
          exact nsame_3 k lsn ca cl cc next da data dc r p f e k2 lsn2 ca2 cl2 cc2 next2 da2 data2 dc2 r2 p2 f2 e2 w ha.cr hb.cr ha.clen hb.clen ha.dr hb.dr h0 h1 h2 h3
        | true =>
          cases h4 : (data == data2) with
          | false =>
            simp only [Bool.true_and, Bool.and_false, Bool.false_and, Bool.and_self]
            exact nsame_4 k lsn ca cl cc next da data dc r p f e k2 lsn2 ca2 cl2 cc2 next2 da2 data2 dc2 r2 p2 f2 e2 w ha.cr hb.cr ha.clen hb.clen ha.dr hb.dr h0 h1 h2 h3 h4
          | true =>
            simp only [Bool.and_self, Bool.true_and]
            exact nsame_5 k lsn ca cl cc next da data dc r p f e k2 lsn2 ca2 cl2 cc2 next2 da2 data2 dc2 r2 p2 f2 e2 w ha.cr hb.cr ha.clen hb.clen ha.dr hb.dr h0 h1 h2 h3 h4
end Go.Proofs.YtkpagmfaccmiaaaGreat

/- Contract: scowref08.Same (layer 08). Printed by wip/tools/gen_ndv08.py. -/

namespace Go.Proofs.YtkpagmfaccmiaaaGreat

open Go.RowKit

attribute [local go_sem] Oper.semAt_some

theorem run_neqHead (s t : Hd) (w : World) : (binOp .neq 27 (.agg s.cells) (.agg t.cells)).run Tryz.prog w = .ok (.bool (!(s.same t))) w := by
  rw [run_neq_struct, show (10000 : Nat) = 9997 + 2 + 1 from rfl, run_eqHeadIn 9997 s t w]
  rfl
theorem guardHeadN (w : World) (x y : Operand) (a b : Array Value) : (eqGuard .neq 27 x y (.agg a) (.agg b)).run Tryz.prog w = .ok () w := by
  exact run_eqGuard_agg w .neq 27 x y a b (by kernel_rfl)
theorem wpList_neqS {P : Program} {ops : Array Oper} {rest : List Oper} {o : Oper} {a : Act} {w : World} {Q : Exit → Act → World → Prop} {t u : TypeId} {x y : Operand} {p q : Value} {b : Bool} (ho : o.op = .binOp .neq t x y u) (hgd : Region.wanted o (yielded ops a.tmps) = true) (hx : a.eval x = p) (hy : a.eval y = q)
    (hr : ∀ w, (binOp .neq t p q).run P w = .ok (.bool b) w) (hg : ∀ w, (eqGuard .neq t x y p q).run P w = .ok () w) (h : wpList P ops Q rest (a.put o.dst (.bool b)) w) : wpList P ops Q (o :: rest) a w :=
  wpList_want hgd fun K hK => by
    unfold Oper.wp execOp
    simp only [ho, hx, hy, Sem.run_bind]
    rw [hg]
    simp only [Result.andThen_ok]
    rw [hr]
    exact hK _ _ h


set_option maxRecDepth 100000 in
set_option maxHeartbeats 1000000 in
theorem rsame_0 (k : Int) (lsn : Nat) (ca : Option Addr) (cl : List CellV) (cc next : Nat) (da : Option Addr) (data : List UInt8) (dc r p f e : Nat) (k2 : Int) (lsn2 : Nat) (ca2 : Option Addr) (cl2 : List CellV) (cc2 next2 : Nat) (da2 : Option Addr) (data2 : List UInt8) (dc2 r2 p2 f2 e2 : Nat) (w : World) (hca : RdC w ca cl) (hca2 : RdC w ca2 cl2) (hcl : cl.length ≤ 1000000) (hda : RdB w da data) (hda2 : RdB w da2 data2) (h0 : (k == k2) = false) :
    Calls Tryz.prog 13 #[.agg #[.int .i64 k, .int .u64 (lsn : Int), .slice ca cl.length cc, .int .u32 (next : Int), .slice da data.length dc, .int .u32 (r : Int), .int .u32 (p : Int), .int .u32 (f : Int), .int .u64 (e : Int)], .agg #[.int .i64 k2, .int .u64 (lsn2 : Int), .slice ca2 cl2.length cc2, .int .u32 (next2 : Int), .slice da2 data2.length dc2, .int .u32 (r2 : Int), .int .u32 (p2 : Int), .int .u32 (f2 : Int), .int .u64 (e2 : Int)]] w fun e w' => e = .returned (.bool (false)) ∧ Ext w w' := by
  have hx := Ext.tr (Ext.alloc w (.cells #[.int .i64 k, .int .u64 (lsn : Int), .slice ca cl.length cc, .int .u32 (next : Int), .slice da data.length dc, .int .u32 (r : Int), .int .u32 (p : Int), .int .u32 (f : Int), .int .u64 (e : Int)] 29)) (Ext.alloc _ (.cells #[.int .i64 k2, .int .u64 (lsn2 : Int), .slice ca2 cl2.length cc2, .int .u32 (next2 : Int), .slice da2 data2.length dc2, .int .u32 (r2 : Int), .int .u32 (p2 : Int), .int .u32 (f2 : Int), .int .u64 (e2 : Int)] 29))
  have Hx := Lib.hid hx
  have n0 : (k != k2) = true := by rw [bne_iff_ne]; simpa using h0
  clear h0
  clear hx
  go_enter Tryz.func13, Tryz.ntmps13
  go_wp2_with fail
  go_ret
  exact ⟨rfl, Hx.out⟩


set_option maxRecDepth 100000 in
set_option maxHeartbeats 1000000 in
theorem rsame_1 (k : Int) (lsn : Nat) (ca : Option Addr) (cl : List CellV) (cc next : Nat) (da : Option Addr) (data : List UInt8) (dc r p f e : Nat) (k2 : Int) (lsn2 : Nat) (ca2 : Option Addr) (cl2 : List CellV) (cc2 next2 : Nat) (da2 : Option Addr) (data2 : List UInt8) (dc2 r2 p2 f2 e2 : Nat) (w : World) (hca : RdC w ca cl) (hca2 : RdC w ca2 cl2) (hcl : cl.length ≤ 1000000) (hda : RdB w da data) (hda2 : RdB w da2 data2) (h0 : (k == k2) = true) (h1 : ((lsn : Int) == (lsn2 : Int)) = false) :
    Calls Tryz.prog 13 #[.agg #[.int .i64 k, .int .u64 (lsn : Int), .slice ca cl.length cc, .int .u32 (next : Int), .slice da data.length dc, .int .u32 (r : Int), .int .u32 (p : Int), .int .u32 (f : Int), .int .u64 (e : Int)], .agg #[.int .i64 k2, .int .u64 (lsn2 : Int), .slice ca2 cl2.length cc2, .int .u32 (next2 : Int), .slice da2 data2.length dc2, .int .u32 (r2 : Int), .int .u32 (p2 : Int), .int .u32 (f2 : Int), .int .u64 (e2 : Int)]] w fun e w' => e = .returned (.bool (false)) ∧ Ext w w' := by
  have hx := Ext.tr (Ext.alloc w (.cells #[.int .i64 k, .int .u64 (lsn : Int), .slice ca cl.length cc, .int .u32 (next : Int), .slice da data.length dc, .int .u32 (r : Int), .int .u32 (p : Int), .int .u32 (f : Int), .int .u64 (e : Int)] 29)) (Ext.alloc _ (.cells #[.int .i64 k2, .int .u64 (lsn2 : Int), .slice ca2 cl2.length cc2, .int .u32 (next2 : Int), .slice da2 data2.length dc2, .int .u32 (r2 : Int), .int .u32 (p2 : Int), .int .u32 (f2 : Int), .int .u64 (e2 : Int)] 29))
  have Hx := Lib.hid hx
  have n0 : (k != k2) = false := by rw [bne_eq_false_iff_eq]; simpa using h0
  have n1 : ((lsn : Int) != (lsn2 : Int)) = true := by rw [bne_iff_ne]; simpa using h1
  clear h0 h1
  clear hx
  go_enter Tryz.func13, Tryz.ntmps13
  go_wp2_with fail
  go_ret
  exact ⟨rfl, Hx.out⟩


set_option maxRecDepth 100000 in
set_option maxHeartbeats 1000000 in
theorem rsame_2 (k : Int) (lsn : Nat) (ca : Option Addr) (cl : List CellV) (cc next : Nat) (da : Option Addr) (data : List UInt8) (dc r p f e : Nat) (k2 : Int) (lsn2 : Nat) (ca2 : Option Addr) (cl2 : List CellV) (cc2 next2 : Nat) (da2 : Option Addr) (data2 : List UInt8) (dc2 r2 p2 f2 e2 : Nat) (w : World) (hca : RdC w ca cl) (hca2 : RdC w ca2 cl2) (hcl : cl.length ≤ 1000000) (hda : RdB w da data) (hda2 : RdB w da2 data2) (h0 : (k == k2) = true) (h1 : ((lsn : Int) == (lsn2 : Int)) = true) (h2 : ((next : Int) == (next2 : Int)) = false) :
    Calls Tryz.prog 13 #[.agg #[.int .i64 k, .int .u64 (lsn : Int), .slice ca cl.length cc, .int .u32 (next : Int), .slice da data.length dc, .int .u32 (r : Int), .int .u32 (p : Int), .int .u32 (f : Int), .int .u64 (e : Int)], .agg #[.int .i64 k2, .int .u64 (lsn2 : Int), .slice ca2 cl2.length cc2, .int .u32 (next2 : Int), .slice da2 data2.length dc2, .int .u32 (r2 : Int), .int .u32 (p2 : Int), .int .u32 (f2 : Int), .int .u64 (e2 : Int)]] w fun e w' => e = .returned (.bool (false)) ∧ Ext w w' := by
  have hx := Ext.tr (Ext.alloc w (.cells #[.int .i64 k, .int .u64 (lsn : Int), .slice ca cl.length cc, .int .u32 (next : Int), .slice da data.length dc, .int .u32 (r : Int), .int .u32 (p : Int), .int .u32 (f : Int), .int .u64 (e : Int)] 29)) (Ext.alloc _ (.cells #[.int .i64 k2, .int .u64 (lsn2 : Int), .slice ca2 cl2.length cc2, .int .u32 (next2 : Int), .slice da2 data2.length dc2, .int .u32 (r2 : Int), .int .u32 (p2 : Int), .int .u32 (f2 : Int), .int .u64 (e2 : Int)] 29))
  have Hx := Lib.hid hx
  have n0 : (k != k2) = false := by rw [bne_eq_false_iff_eq]; simpa using h0
  have n1 : ((lsn : Int) != (lsn2 : Int)) = false := by rw [bne_eq_false_iff_eq]; simpa using h1
  have n2 : ((next : Int) != (next2 : Int)) = true := by rw [bne_iff_ne]; simpa using h2
  clear h0 h1 h2
  clear hx
  go_enter Tryz.func13, Tryz.ntmps13
  go_wp2_with fail
  go_ret
  exact ⟨rfl, Hx.out⟩


set_option maxRecDepth 100000 in
set_option maxHeartbeats 1000000 in
theorem rsame_3 (k : Int) (lsn : Nat) (ca : Option Addr) (cl : List CellV) (cc next : Nat) (da : Option Addr) (data : List UInt8) (dc r p f e : Nat) (k2 : Int) (lsn2 : Nat) (ca2 : Option Addr) (cl2 : List CellV) (cc2 next2 : Nat) (da2 : Option Addr) (data2 : List UInt8) (dc2 r2 p2 f2 e2 : Nat) (w : World) (hca : RdC w ca cl) (hca2 : RdC w ca2 cl2) (hcl : cl.length ≤ 1000000) (hda : RdB w da data) (hda2 : RdB w da2 data2) (h0 : (k == k2) = true) (h1 : ((lsn : Int) == (lsn2 : Int)) = true) (h2 : ((next : Int) == (next2 : Int)) = true) (h3 : (data == data2) = false) :
    Calls Tryz.prog 13 #[.agg #[.int .i64 k, .int .u64 (lsn : Int), .slice ca cl.length cc, .int .u32 (next : Int), .slice da data.length dc, .int .u32 (r : Int), .int .u32 (p : Int), .int .u32 (f : Int), .int .u64 (e : Int)], .agg #[.int .i64 k2, .int .u64 (lsn2 : Int), .slice ca2 cl2.length cc2, .int .u32 (next2 : Int), .slice da2 data2.length dc2, .int .u32 (r2 : Int), .int .u32 (p2 : Int), .int .u32 (f2 : Int), .int .u64 (e2 : Int)]] w fun e w' => e = .returned (.bool (false)) ∧ Ext w w' := by
  have hne : ¬ data = data2 := by simpa using h3
  clear h3
  have hx := Ext.tr (Ext.alloc w (.cells #[.int .i64 k, .int .u64 (lsn : Int), .slice ca cl.length cc, .int .u32 (next : Int), .slice da data.length dc, .int .u32 (r : Int), .int .u32 (p : Int), .int .u32 (f : Int), .int .u64 (e : Int)] 29)) (Ext.alloc _ (.cells #[.int .i64 k2, .int .u64 (lsn2 : Int), .slice ca2 cl2.length cc2, .int .u32 (next2 : Int), .slice da2 data2.length dc2, .int .u32 (r2 : Int), .int .u32 (p2 : Int), .int .u32 (f2 : Int), .int .u64 (e2 : Int)] 29))
  have r0 := run_str _ 25 9 5 da data dc Tryz.underlying25 Tryz.underlying5 Tryz.underlying9 (hda.below hx) data.length rfl
  have r1 := run_str _ 25 9 5 da2 data2 dc2 Tryz.underlying25 Tryz.underlying5 Tryz.underlying9 (hda2.below hx) data2.length rfl
  have Hx := Lib.hid hx
  have n0 : (k != k2) = false := by rw [bne_eq_false_iff_eq]; simpa using h0
  have n1 : ((lsn : Int) != (lsn2 : Int)) = false := by rw [bne_eq_false_iff_eq]; simpa using h1
  have n2 : ((next : Int) != (next2 : Int)) = false := by rw [bne_eq_false_iff_eq]; simpa using h2
  clear h0 h1 h2
  clear hx
  go_enter Tryz.func13, Tryz.ntmps13
  go_wp2_with fail
  go_ret
  exact ⟨rfl, Hx.out⟩


set_option maxRecDepth 100000 in
set_option maxHeartbeats 1000000 in
theorem rsame_4 (k : Int) (lsn : Nat) (ca : Option Addr) (cl : List CellV) (cc next : Nat) (da : Option Addr) (data : List UInt8) (dc r p f e : Nat) (k2 : Int) (lsn2 : Nat) (ca2 : Option Addr) (cl2 : List CellV) (cc2 next2 : Nat) (da2 : Option Addr) (data2 : List UInt8) (dc2 r2 p2 f2 e2 : Nat) (w : World) (hca : RdC w ca cl) (hca2 : RdC w ca2 cl2) (hcl : cl.length ≤ 1000000) (hda : RdB w da data) (hda2 : RdB w da2 data2) (h0 : (k == k2) = true) (h1 : ((lsn : Int) == (lsn2 : Int)) = true) (h2 : ((next : Int) == (next2 : Int)) = true) (h3 : (data == data2) = true) (h4 : ((Hd.mk r p f e).same ⟨r2, p2, f2, e2⟩) = false) :
    Calls Tryz.prog 13 #[.agg #[.int .i64 k, .int .u64 (lsn : Int), .slice ca cl.length cc, .int .u32 (next : Int), .slice da data.length dc, .int .u32 (r : Int), .int .u32 (p : Int), .int .u32 (f : Int), .int .u64 (e : Int)], .agg #[.int .i64 k2, .int .u64 (lsn2 : Int), .slice ca2 cl2.length cc2, .int .u32 (next2 : Int), .slice da2 data2.length dc2, .int .u32 (r2 : Int), .int .u32 (p2 : Int), .int .u32 (f2 : Int), .int .u64 (e2 : Int)]] w fun e w' => e = .returned (.bool (false)) ∧ Ext w w' := by
  obtain rfl : data = data2 := by simpa using h3
  have hx := Ext.tr (Ext.alloc w (.cells #[.int .i64 k, .int .u64 (lsn : Int), .slice ca cl.length cc, .int .u32 (next : Int), .slice da data.length dc, .int .u32 (r : Int), .int .u32 (p : Int), .int .u32 (f : Int), .int .u64 (e : Int)] 29)) (Ext.alloc _ (.cells #[.int .i64 k2, .int .u64 (lsn2 : Int), .slice ca2 cl2.length cc2, .int .u32 (next2 : Int), .slice da2 data.length dc2, .int .u32 (r2 : Int), .int .u32 (p2 : Int), .int .u32 (f2 : Int), .int .u64 (e2 : Int)] 29))
  have r0 := run_str _ 25 9 5 da data dc Tryz.underlying25 Tryz.underlying5 Tryz.underlying9 (hda.below hx) data.length rfl
  have r1 := run_str _ 25 9 5 da2 data dc2 Tryz.underlying25 Tryz.underlying5 Tryz.underlying9 (hda2.below hx) data.length rfl
  have Hx := Lib.hid hx
  have n0 : (k != k2) = false := by rw [bne_eq_false_iff_eq]; simpa using h0
  have n1 : ((lsn : Int) != (lsn2 : Int)) = false := by rw [bne_eq_false_iff_eq]; simpa using h1
  have n2 : ((next : Int) != (next2 : Int)) = false := by rw [bne_eq_false_iff_eq]; simpa using h2
  have heq := fun W => run_neqHead ⟨r, p, f, e⟩ ⟨r2, p2, f2, e2⟩ W
  rw [h4] at heq
  have Heq := Lib.hid heq
  clear heq h4
  clear h0 h1 h2
  clear hx
  go_enter Tryz.func13, Tryz.ntmps13
  go_wp2_with (refine wpList_neqS rfl (by rfl) rfl rfl Heq.out (fun W => guardHeadN W _ _ _ _) ?_)
  go_ret
  exact ⟨rfl, Hx.out⟩


set_option maxRecDepth 100000 in
set_option maxHeartbeats 1000000 in
theorem rsame_5 (k : Int) (lsn : Nat) (ca : Option Addr) (cl : List CellV) (cc next : Nat) (da : Option Addr) (data : List UInt8) (dc r p f e : Nat) (k2 : Int) (lsn2 : Nat) (ca2 : Option Addr) (cl2 : List CellV) (cc2 next2 : Nat) (da2 : Option Addr) (data2 : List UInt8) (dc2 r2 p2 f2 e2 : Nat) (w : World) (hca : RdC w ca cl) (hca2 : RdC w ca2 cl2) (hcl : cl.length ≤ 1000000) (hda : RdB w da data) (hda2 : RdB w da2 data2) (h0 : (k == k2) = true) (h1 : ((lsn : Int) == (lsn2 : Int)) = true) (h2 : ((next : Int) == (next2 : Int)) = true) (h3 : (data == data2) = true) (h4 : ((Hd.mk r p f e).same ⟨r2, p2, f2, e2⟩) = true) (h5 : cl.length ≠ cl2.length) :
    Calls Tryz.prog 13 #[.agg #[.int .i64 k, .int .u64 (lsn : Int), .slice ca cl.length cc, .int .u32 (next : Int), .slice da data.length dc, .int .u32 (r : Int), .int .u32 (p : Int), .int .u32 (f : Int), .int .u64 (e : Int)], .agg #[.int .i64 k2, .int .u64 (lsn2 : Int), .slice ca2 cl2.length cc2, .int .u32 (next2 : Int), .slice da2 data2.length dc2, .int .u32 (r2 : Int), .int .u32 (p2 : Int), .int .u32 (f2 : Int), .int .u64 (e2 : Int)]] w fun e w' => e = .returned (.bool (false)) ∧ Ext w w' := by
  obtain rfl : data = data2 := by simpa using h3
  have hx := Ext.tr (Ext.alloc w (.cells #[.int .i64 k, .int .u64 (lsn : Int), .slice ca cl.length cc, .int .u32 (next : Int), .slice da data.length dc, .int .u32 (r : Int), .int .u32 (p : Int), .int .u32 (f : Int), .int .u64 (e : Int)] 29)) (Ext.alloc _ (.cells #[.int .i64 k2, .int .u64 (lsn2 : Int), .slice ca2 cl2.length cc2, .int .u32 (next2 : Int), .slice da2 data.length dc2, .int .u32 (r2 : Int), .int .u32 (p2 : Int), .int .u32 (f2 : Int), .int .u64 (e2 : Int)] 29))
  have r0 := run_str _ 25 9 5 da data dc Tryz.underlying25 Tryz.underlying5 Tryz.underlying9 (hda.below hx) data.length rfl
  have r1 := run_str _ 25 9 5 da2 data dc2 Tryz.underlying25 Tryz.underlying5 Tryz.underlying9 (hda2.below hx) data.length rfl
  have Hx := Lib.hid hx
  have n0 : (k != k2) = false := by rw [bne_eq_false_iff_eq]; simpa using h0
  have n1 : ((lsn : Int) != (lsn2 : Int)) = false := by rw [bne_eq_false_iff_eq]; simpa using h1
  have n2 : ((next : Int) != (next2 : Int)) = false := by rw [bne_eq_false_iff_eq]; simpa using h2
  have heq := fun W => run_neqHead ⟨r, p, f, e⟩ ⟨r2, p2, f2, e2⟩ W
  rw [h4] at heq
  have Heq := Lib.hid heq
  clear heq h4
  clear h0 h1 h2
  have n5 : ((cl.length : Int) != (cl2.length : Int)) = true := by rw [bne_iff_ne]; omega
  clear hx h5
  go_enter Tryz.func13, Tryz.ntmps13
  go_wp2_with (refine wpList_neqS rfl (by rfl) rfl rfl Heq.out (fun W => guardHeadN W _ _ _ _) ?_)
  go_ret
  exact ⟨rfl, Hx.out⟩


set_option maxRecDepth 100000 in
set_option maxHeartbeats 1000000 in
theorem rsame_6 (k : Int) (lsn : Nat) (ca : Option Addr) (cl : List CellV) (cc next : Nat) (da : Option Addr) (data : List UInt8) (dc r p f e : Nat) (k2 : Int) (lsn2 : Nat) (ca2 : Option Addr) (cl2 : List CellV) (cc2 next2 : Nat) (da2 : Option Addr) (data2 : List UInt8) (dc2 r2 p2 f2 e2 : Nat) (w : World) (hca : RdC w ca cl) (hca2 : RdC w ca2 cl2) (hcl : cl.length ≤ 1000000) (hda : RdB w da data) (hda2 : RdB w da2 data2) (h0 : (k == k2) = true) (h1 : ((lsn : Int) == (lsn2 : Int)) = true) (h2 : ((next : Int) == (next2 : Int)) = true) (h3 : (data == data2) = true) (h4 : ((Hd.mk r p f e).same ⟨r2, p2, f2, e2⟩) = true) (h5 : cl.length = cl2.length) :
    Calls Tryz.prog 13 #[.agg #[.int .i64 k, .int .u64 (lsn : Int), .slice ca cl.length cc, .int .u32 (next : Int), .slice da data.length dc, .int .u32 (r : Int), .int .u32 (p : Int), .int .u32 (f : Int), .int .u64 (e : Int)], .agg #[.int .i64 k2, .int .u64 (lsn2 : Int), .slice ca2 cl2.length cc2, .int .u32 (next2 : Int), .slice da2 data2.length dc2, .int .u32 (r2 : Int), .int .u32 (p2 : Int), .int .u32 (f2 : Int), .int .u64 (e2 : Int)]] w fun e w' => e = .returned (.bool (Nd.sameC (cl.map CellV.x) (cl2.map CellV.x))) ∧ Ext w w' := by
  have hbad : ∀ j (h1 : j < cl.length) (h2 : j < cl2.length), cl[j].x.same cl2[j].x = false → Nd.sameC (cl.map CellV.x) (cl2.map CellV.x) = false := fun j h1 h2 h => sameC_no (fun e => by
    have h3 : (cl.map CellV.x)[j]? = (cl2.map CellV.x)[j]? := by rw [e]
    rw [List.getElem?_map, List.getElem?_map, List.getElem?_eq_getElem h1, List.getElem?_eq_getElem h2] at h3
    injection h3 with h3
    rw [h3, Cl.same_refl] at h
    cases h)
  have hgood : cl.length = cl2.length → (∀ j (h1 : j < cl.length) (h2 : j < cl2.length), cl[j].x.same cl2[j].x = true) → Nd.sameC (cl.map CellV.x) (cl2.map CellV.x) = true := fun h h2 => by
    rw [Nd.sameC_iff]
    refine List.ext_getElem (by simpa using h) fun j h3 h4 => ?_
    rw [List.getElem_map, List.getElem_map]
    exact (Cl.same_iff _ _).1 (h2 j (by simpa using h3) (by simpa using h4))
  obtain ⟨R, hR⟩ : ∃ R, R = Nd.sameC (cl.map CellV.x) (cl2.map CellV.x) := ⟨_, rfl⟩
  rw [← hR] at hbad hgood ⊢
  clear hR
  have Hbad := Lib.hid hbad
  have Hgood := Lib.hid hgood
  clear hbad hgood
  obtain rfl : data = data2 := by simpa using h3
  have hx := Ext.tr (Ext.alloc w (.cells #[.int .i64 k, .int .u64 (lsn : Int), .slice ca cl.length cc, .int .u32 (next : Int), .slice da data.length dc, .int .u32 (r : Int), .int .u32 (p : Int), .int .u32 (f : Int), .int .u64 (e : Int)] 29)) (Ext.alloc _ (.cells #[.int .i64 k2, .int .u64 (lsn2 : Int), .slice ca2 cl2.length cc2, .int .u32 (next2 : Int), .slice da2 data.length dc2, .int .u32 (r2 : Int), .int .u32 (p2 : Int), .int .u32 (f2 : Int), .int .u64 (e2 : Int)] 29))
  have r0 := run_str _ 25 9 5 da data dc Tryz.underlying25 Tryz.underlying5 Tryz.underlying9 (hda.below hx) data.length rfl
  have r1 := run_str _ 25 9 5 da2 data dc2 Tryz.underlying25 Tryz.underlying5 Tryz.underlying9 (hda2.below hx) data.length rfl
  have Hx := Lib.hid hx
  have n0 : (k != k2) = false := by rw [bne_eq_false_iff_eq]; simpa using h0
  have n1 : ((lsn : Int) != (lsn2 : Int)) = false := by rw [bne_eq_false_iff_eq]; simpa using h1
  have n2 : ((next : Int) != (next2 : Int)) = false := by rw [bne_eq_false_iff_eq]; simpa using h2
  have heq := fun W => run_neqHead ⟨r, p, f, e⟩ ⟨r2, p2, f2, e2⟩ W
  rw [h4] at heq
  have Heq := Lib.hid heq
  clear heq h4
  clear h0 h1 h2
  have n5 : ((cl.length : Int) != (cl2.length : Int)) = false := by rw [bne_eq_false_iff_eq]; omega
  have Hlm := Lib.hid h5
  have gx1 := heap_alloc_new w (.cells #[.int .i64 k, .int .u64 (lsn : Int), .slice ca cl.length cc, .int .u32 (next : Int), .slice da data.length dc, .int .u32 (r : Int), .int .u32 (p : Int), .int .u32 (f : Int), .int .u64 (e : Int)] 29)
  have gx2 := heap_alloc_new (w.alloc (.cells #[.int .i64 k, .int .u64 (lsn : Int), .slice ca cl.length cc, .int .u32 (next : Int), .slice da data.length dc, .int .u32 (r : Int), .int .u32 (p : Int), .int .u32 (f : Int), .int .u64 (e : Int)] 29)) (.cells #[.int .i64 k2, .int .u64 (lsn2 : Int), .slice ca2 cl2.length cc2, .int .u32 (next2 : Int), .slice da2 data.length dc2, .int .u32 (r2 : Int), .int .u32 (p2 : Int), .int .u32 (f2 : Int), .int .u64 (e2 : Int)] 29)
  have gx1' := ((Ext.alloc (w.alloc (.cells #[.int .i64 k, .int .u64 (lsn : Int), .slice ca cl.length cc, .int .u32 (next : Int), .slice da data.length dc, .int .u32 (r : Int), .int .u32 (p : Int), .int .u32 (f : Int), .int .u64 (e : Int)] 29)) (.cells #[.int .i64 k2, .int .u64 (lsn2 : Int), .slice ca2 cl2.length cc2, .int .u32 (next2 : Int), .slice da2 data.length dc2, .int .u32 (r2 : Int), .int .u32 (p2 : Int), .int .u32 (f2 : Int), .int .u64 (e2 : Int)] 29)).block _ (lt_of_heap gx1)).trans gx1
  rw [show (w.alloc (.cells #[.int .i64 k, .int .u64 (lsn : Int), .slice ca cl.length cc, .int .u32 (next : Int), .slice da data.length dc, .int .u32 (r : Int), .int .u32 (p : Int), .int .u32 (f : Int), .int .u64 (e : Int)] 29)).heap.size = w.heap.size + 1 by simp] at gx2
  obtain ⟨W0, hW0⟩ : ∃ W0, W0 = (w.alloc (.cells #[.int .i64 k, .int .u64 (lsn : Int), .slice ca cl.length cc, .int .u32 (next : Int), .slice da data.length dc, .int .u32 (r : Int), .int .u32 (p : Int), .int .u32 (f : Int), .int .u64 (e : Int)] 29)).alloc (.cells #[.int .i64 k2, .int .u64 (lsn2 : Int), .slice ca2 cl2.length cc2, .int .u32 (next2 : Int), .slice da2 data.length dc2, .int .u32 (r2 : Int), .int .u32 (p2 : Int), .int .u32 (f2 : Int), .int .u64 (e2 : Int)] 29) := ⟨_, rfl⟩
  rw [← hW0] at gx1' gx2 hx
  have HW0 := Lib.hid (show (w.alloc (.cells #[.int .i64 k, .int .u64 (lsn : Int), .slice ca cl.length cc, .int .u32 (next : Int), .slice da data.length dc, .int .u32 (r : Int), .int .u32 (p : Int), .int .u32 (f : Int), .int .u64 (e : Int)] 29)).alloc (.cells #[.int .i64 k2, .int .u64 (lsn2 : Int), .slice ca2 cl2.length cc2, .int .u32 (next2 : Int), .slice da2 data.length dc2, .int .u32 (r2 : Int), .int .u32 (p2 : Int), .int .u32 (f2 : Int), .int .u64 (e2 : Int)] 29) = W0 from hW0.symm)
  have G1 := Lib.hid gx1'
  have G2 := Lib.hid gx2
  have Hx0 := Lib.hid hx
  clear hx h5 gx1 gx1' gx2 Hx hW0
  go_enter Tryz.func13, Tryz.ntmps13
  go_wp2_with (refine wpList_neqS rfl (by rfl) rfl rfl Heq.out (fun W => guardHeadN W _ _ _ _) ?_)
  rw [HW0.out]
  clear n0 n1 n2 n5 r0 r1
  go_loopw [5] (fun i wr => ∃ k : Nat, k ≤ cl.length ∧ i = .int .i64 k ∧ (∀ j (h1 : j < cl.length) (h2 : j < cl2.length), j < k → cl[j].x.same cl2[j].x = true) ∧ Ext W0 wr) (fun i _ => cl.length - (intOf i).toNat)
  case atStart => exact ⟨0, by omega, rfl, fun j _ _ h => absurd h (by omega), Ext.refl _⟩
  case round =>
    obtain ⟨k, hk, rfl, hyes, hbw⟩ := hrel
    have Hyes := Lib.hid hyes
    have Hbw := Lib.hid hbw
    have c1 : wr.cell? ⟨w.heap.size, 2, none⟩ = some (.slice ca cl.length cc) := by rw [cell_of_row _ _ _ _ _ _ ((hbw.block _ (lt_of_heap G1.out)).trans G1.out)]; rfl
    have c2 : wr.cell? ⟨w.heap.size + 1, 2, none⟩ = some (.slice ca2 cl2.length cc2) := by rw [cell_of_row _ _ _ _ _ _ ((hbw.block _ (lt_of_heap G2.out)).trans G2.out)]; rfl
    clear hyes hbw
    by_cases h : k < cl.length
    · have hm2 : k < cl2.length := by have := Hlm.out; omega
      obtain ⟨ad, rfl, hcell, hin⟩ := (hca.below (Hx0.out.tr Hbw.out)).at_ h
      obtain ⟨bd, rfl, hcell2, hin2⟩ := (hca2.below (Hx0.out.tr Hbw.out)).at_ hm2
      have hsame := ref_cellsame cl[k] cl2[k] wr.drew (hin.ext (Ext.drew wr)) (hin2.ext (Ext.drew wr))
      have ik : (0 : Int) ≤ (k : Int) := by omega
      have ik2 : (k : Int) < (cl.length : Int) := by omega
      have ik3 : (k : Int) < (cl2.length : Int) := by omega
      have hc1 := (Ext.drew wr).load c1
      have hc2 := (Ext.drew wr).load c2
      have Hb0 := Lib.hid (Hbad.out k h hm2)
      have Hn0 : cl[k].x.same cl2[k].x = true → Hid (∀ j (h1 : j < cl.length) (h2 : j < cl2.length), j < k + 1 → cl[j].x.same cl2[j].x = true) := by
        intro hf
        show ∀ j (h1 : j < cl.length) (h2 : j < cl2.length), j < k + 1 → cl[j].x.same cl2[j].x = true
        intro j hj hj2 hjk
        by_cases e : j = k
        · subst e; exact hf
        · exact Hyes.out j hj hj2 (by omega)
      obtain ⟨P, hP⟩ : ∃ P, P = cl[k] := ⟨_, rfl⟩
      obtain ⟨Q, hQ⟩ : ∃ Q, Q = cl2[k] := ⟨_, rfl⟩
      rw [← hP] at hcell hsame Hb0 Hn0
      rw [← hQ] at hcell2 hsame Hb0 Hn0
      rw [show P.val = .agg P.cells from rfl, show Q.val = .agg Q.cells from rfl] at hsame
      have Hcx := Lib.hid (fun j u hj => (Ext.drew wr).load (hcell j u hj))
      have Hcy := Lib.hid (fun j u hj => (Ext.drew wr).load (hcell2 j u hj))
      have Hx := Lib.hid (Hx0.out.tr (Hbw.out.tr (Ext.drew wr)))
      obtain ⟨rr, hr⟩ : ∃ rr, rr = P.x.same Q.x := ⟨_, rfl⟩
      rw [← hr] at hsame Hb0 Hn0
      have Hsame := Lib.hid hsame
      clear hr hP hQ hcell hcell2 hsame hin hin2
      go_wp2_with fail
      refine rg_start (by kernel_rfl) ?_
      refine rg_take 0 rfl (by kernel_rfl) (by kernel_rfl) (by kernel_rfl) (fun _ _ _ _ h => h) (by rfl) ⟨_, fun w' hx => by (go_simp <;> with_reducible rfl), ?_⟩   -- t57 := fieldAddr 29 t2 2
      simp only [Act.put, List.setIfInBounds_toArray, List.set_cons_zero, List.set_cons_succ]
      refine rg_take 1 rfl (by kernel_rfl) (by kernel_rfl) (by kernel_rfl) (fun _ _ _ _ h => h) (by rfl) ⟨_, fun w' hx => by have hcx := hx.load hc1; (go_simp <;> with_reducible rfl), ?_⟩
      simp only [Act.put, List.setIfInBounds_toArray, List.set_cons_zero, List.set_cons_succ]
      refine rg_take 2 rfl (by kernel_rfl) (by kernel_rfl) (by kernel_rfl) (fun _ _ _ _ h => h) (by rfl) ⟨_, fun w' hx => by (go_simp <;> with_reducible rfl), ?_⟩
      simp only [Act.put, List.setIfInBounds_toArray, List.set_cons_zero, List.set_cons_succ]
      refine rg_take 3 rfl (by kernel_rfl) (by kernel_rfl) (by kernel_rfl) (fun _ _ _ _ h => h) (by rfl) ⟨_, fun w' hx => by (go_simp <;> with_reducible rfl), ?_⟩   -- t60 := indexAddr 23 t58 t59
      simp only [Act.put, List.setIfInBounds_toArray, List.set_cons_zero, List.set_cons_succ]
      refine rg_take 4 rfl (by kernel_rfl) (by kernel_rfl) (by kernel_rfl) (fun _ _ _ _ h => h) (by rfl) ⟨.agg P.cells, fun w' hx => ex_load_cells 43 (.tmp 60) rfl _ rfl P.cells _ (fun j u hj => hx.load (Hcx.out j u hj)) Tryz.underlying43 rfl (cinfo P), ?_⟩
      simp only [Act.put, List.setIfInBounds_toArray, List.set_cons_zero, List.set_cons_succ]
      refine rg_take 5 rfl (by kernel_rfl) (by kernel_rfl) (by kernel_rfl) (fun _ _ _ _ h => h) (by rfl) ⟨_, fun w' hx => by (go_simp <;> with_reducible rfl), ?_⟩   -- t62 := fieldAddr 29 t3 2
      simp only [Act.put, List.setIfInBounds_toArray, List.set_cons_zero, List.set_cons_succ]
      refine rg_take 6 rfl (by kernel_rfl) (by kernel_rfl) (by kernel_rfl) (fun _ _ _ _ h => h) (by rfl) ⟨_, fun w' hx => by have hcx := hx.load hc2; (go_simp <;> with_reducible rfl), ?_⟩
      simp only [Act.put, List.setIfInBounds_toArray, List.set_cons_zero, List.set_cons_succ]
      refine rg_take 7 rfl (by kernel_rfl) (by kernel_rfl) (by kernel_rfl) (fun _ _ _ _ h => h) (by rfl) ⟨_, fun w' hx => by (go_simp <;> with_reducible rfl), ?_⟩
      simp only [Act.put, List.setIfInBounds_toArray, List.set_cons_zero, List.set_cons_succ]
      refine rg_take 8 rfl (by kernel_rfl) (by kernel_rfl) (by kernel_rfl) (fun _ _ _ _ h => h) (by rfl) ⟨_, fun w' hx => by (go_simp <;> with_reducible rfl), ?_⟩   -- t65 := indexAddr 23 t63 t64
      simp only [Act.put, List.setIfInBounds_toArray, List.set_cons_zero, List.set_cons_succ]
      refine rg_take 9 rfl (by kernel_rfl) (by kernel_rfl) (by kernel_rfl) (fun _ _ _ _ h => h) (by rfl) ⟨.agg Q.cells, fun w' hx => ex_load_cells 43 (.tmp 65) rfl _ rfl Q.cells _ (fun j u hj => hx.load (Hcy.out j u hj)) Tryz.underlying43 rfl (cinfo Q), ?_⟩
      simp only [Act.put, List.setIfInBounds_toArray, List.set_cons_zero, List.set_cons_succ]
      refine rg_call 10 Hsame.out rfl (by kernel_rfl) (by rfl) (by go_simp) ?_
      rintro e3 w3 ⟨rfl, hx3⟩
      have Hx3 : Hid (Ext wr.drew w3) := Lib.hid hx3
      clear hx3
      refine ⟨_, rfl, Hx3.out, ?_⟩
      simp only [Act.put, List.setIfInBounds_toArray, List.set_cons_zero, List.set_cons_succ]
      refine rg_take 11 rfl (by kernel_rfl) (by kernel_rfl) (by kernel_rfl) (fun _ _ _ _ h => h) (by rfl) ⟨_, fun w' hx => by (go_simp <;> with_reducible rfl), ?_⟩   -- t68 := unOp not 4 t67
      simp only [Act.put, List.setIfInBounds_toArray, List.set_cons_zero, List.set_cons_succ]
      refine rg_done (by kernel_rfl) ?_
      cases rr with
      | true =>
        have Hn1 := Hn0 rfl
        go_wp2_with fail
        go_roundw
        case rel => exact ⟨k + 1, by omega, by go_num, Hn1.out, Hbw.out.tr ((Ext.drew wr).tr Hx3.out)⟩
        case measure => simp [intOf]; omega
      | false =>
        go_wp2_with fail
        go_ret
        exact ⟨by rw [Hb0.out (by first | rfl | trivial)]; rfl, Hx.out.tr Hx3.out⟩
    · obtain rfl : k = cl.length := by omega
      go_wp2_with fail
      go_ret
      exact ⟨by rw [Hgood.out Hlm.out (fun j h1 h2 => Hyes.out j h1 h2 h1)]; rfl, Hx0.out.tr Hbw.out⟩


theorem rsame_any (a b : NdV) (w : World) (ha : a.In w) (hb : b.In w) : Calls Tryz.prog 13 #[.agg a.cells, .agg b.cells] w fun e w' => e = .returned (.bool (a.x.same b.x)) ∧ Ext w w' := by
  rw [Nd.same_eq]
  obtain ⟨k, lsn, ca, cl, cc, next, da, data, dc, ⟨r, p, f, e⟩⟩ := a
  obtain ⟨k2, lsn2, ca2, cl2, cc2, next2, da2, data2, dc2, ⟨r2, p2, f2, e2⟩⟩ := b
  simp only [NdV.x]
  cases h0 : (k == k2) with
  | false =>
    simp only [Bool.true_and, Bool.and_false, Bool.false_and, Bool.and_self]
    exact rsame_0 k lsn ca cl cc next da data dc r p f e k2 lsn2 ca2 cl2 cc2 next2 da2 data2 dc2 r2 p2 f2 e2 w ha.cr hb.cr ha.clen ha.dr hb.dr h0
  | true =>
    cases h1 : ((lsn : Int) == (lsn2 : Int)) with
    | false =>
      simp only [Bool.true_and, Bool.and_false, Bool.false_and, Bool.and_self]
      exact rsame_1 k lsn ca cl cc next da data dc r p f e k2 lsn2 ca2 cl2 cc2 next2 da2 data2 dc2 r2 p2 f2 e2 w ha.cr hb.cr ha.clen ha.dr hb.dr h0 h1
    | true =>
      cases h2 : ((next : Int) == (next2 : Int)) with
      | false =>
        simp only [Bool.true_and, Bool.and_false, Bool.false_and, Bool.and_self]
        exact rsame_2 k lsn ca cl cc next da data dc r p f e k2 lsn2 ca2 cl2 cc2 next2 da2 data2 dc2 r2 p2 f2 e2 w ha.cr hb.cr ha.clen ha.dr hb.dr h0 h1 h2
      | true =>
        cases h3 : (data == data2) with
        | false =>
          simp only [Bool.true_and, Bool.and_false, Bool.false_and, Bool.and_self]
          exact rsame_3 k lsn ca cl cc next da data dc r p f e k2 lsn2 ca2 cl2 cc2 next2 da2 data2 dc2 r2 p2 f2 e2 w ha.cr hb.cr ha.clen ha.dr hb.dr h0 h1 h2 h3
        | true =>
          cases h4 : ((Hd.mk r p f e).same ⟨r2, p2, f2, e2⟩) with
          | false =>
            simp only [Bool.true_and, Bool.and_false, Bool.false_and, Bool.and_self]
            exact rsame_4 k lsn ca cl cc next da data dc r p f e k2 lsn2 ca2 cl2 cc2 next2 da2 data2 dc2 r2 p2 f2 e2 w ha.cr hb.cr ha.clen ha.dr hb.dr h0 h1 h2 h3 h4
          | true =>
            simp only [Bool.and_self, Bool.true_and]
            by_cases h5 : cl.length = cl2.length
            · exact rsame_6 k lsn ca cl cc next da data dc r p f e k2 lsn2 ca2 cl2 cc2 next2 da2 data2 dc2 r2 p2 f2 e2 w ha.cr hb.cr ha.clen ha.dr hb.dr h0 h1 h2 h3 h4 h5
            · rw [sameC_no (fun e => h5 (by have := congrArg List.length e; simpa using this))]
              exact rsame_5 k lsn ca cl cc next da data dc r p f e k2 lsn2 ca2 cl2 cc2 next2 da2 data2 dc2 r2 p2 f2 e2 w ha.cr hb.cr ha.clen ha.dr hb.dr h0 h1 h2 h3 h4 h5
end Go.Proofs.YtkpagmfaccmiaaaGreat

/- Contract: Used (layer 08). Printed by wip/tools/gen_ndh08.py. -/

namespace Go.Proofs.YtkpagmfaccmiaaaGreat

open Go.RowKit

attribute [local go_sem] Oper.semAt_some

set_option maxRecDepth 100000 in
theorem coder_put (F G : Value) (w : World) : (Instr.field 56 (.agg #[F, G]) 0).run Tryz.prog w = .ok F w := by
  have hu := Tryz.underlying56
  unfold Instr.field
  rw [Sem.run_bind, run_underlying hu]
  simp only [Result.andThen_ok]
  have hc : (#[F, G] : Array Value)[0]? = some F := rfl
  simp only [part]
  go_simp
  rfl
set_option maxRecDepth 100000 in
theorem coder_get (F G : Value) (w : World) : (Instr.field 56 (.agg #[F, G]) 1).run Tryz.prog w = .ok G w := by
  have hu := Tryz.underlying56
  unfold Instr.field
  rw [Sem.run_bind, run_underlying hu]
  simp only [Result.andThen_ok]
  have hc : (#[F, G] : Array Value)[1]? = some G := rfl
  simp only [part]
  go_simp
  rfl
attribute [local go_sem] coder_put

theorem put_len (k : Int) (c : Cl) : (c.put k).1.length ≤ 78 := by
  unfold Cl.put
  by_cases h : k = 3
  · rw [if_pos h]
    unfold Cl.putL
    by_cases hl : c.leaf = true
    · rw [if_pos hl]; exact Cl.flatL_len hl
    · rw [if_neg hl]; exact Nat.zero_le _
  · rw [if_neg h]
    unfold Cl.putI
    by_cases hl : c.inner = true
    · rw [if_pos hl]; exact Cl.flatI_len hl
    · rw [if_neg hl]; exact Nat.zero_le _
theorem need_le (k : Int) (l : List Cl) : Nd.need k l ≤ l.length * 80 := by
  induction l with
  | nil => exact Nat.le_refl _
  | cons c l ih =>
    have := put_len k c
    simp only [Nd.need, List.length_cons]
    omega
theorem need_take (k : Int) (l : List CellV) (j : Nat) (h : j < l.length) : Nd.need k ((l.take (j + 1)).map CellV.x) = Nd.need k ((l.take j).map CellV.x) + (2 + (l[j].x.put k).1.length) := by
  rw [List.take_succ_eq_append_getElem h, List.map_append, Nd.need_app]
  simp [Nd.need]

set_option maxRecDepth 100000 in
theorem used_no (k : Int) (A : Option Addr) (l : List CellV) (c : Nat) (w : World) (h : Nd.hasC k = false) : Calls Tryz.prog 8 #[.int .i64 k, .slice A l.length c] w fun e w' => e = .returned (.tuple #[.int .i64 0, .int .i64 80]) ∧ Ext w w' := by
  have hh := hasCells_any k
  rw [h] at hh
  go_enter Tryz.func8, Tryz.ntmps8
  go_wp2_with (go_at_call 20; refine (hh _).mono ?_; rintro e w' ⟨rfl, rfl⟩)
  go_ret2
  exact ⟨rfl, Ext.refl _⟩


set_option maxRecDepth 100000 in
set_option maxHeartbeats 2000000 in
theorem used_3 (A : Option Addr) (l : List CellV) (c : Nat) (w : World) (hA : RdC w A l) (hl : l.length ≤ 1000000) : Calls Tryz.prog 8 #[.int .i64 3, .slice A l.length c] w fun e w' => e = .returned (.tuple #[.int .i64 ((Nd.used 3 (l.map CellV.x)).1 : Int), .int .i64 ((Nd.used 3 (l.map CellV.x)).2 : Int)]) ∧ Ext w w' := by
  have hh := hasCells_any 3
  rw [show Nd.hasC 3 = true from rfl] at hh
  have hco := coderOf_any 3
  rw [show coderA 3 = #[.func (.func 55) #[] #[], .func (.func 56) #[] #[]] from rfl] at hco
  have hbad : ∀ j (h : j < l.length), l[j].x.putL.2 ≠ 0 → Nd.used 3 (l.map CellV.x) = (0, 80) := by
    intro j h e
    unfold Nd.used
    rw [if_neg]
    rintro ⟨_, h2⟩
    rw [List.all_eq_true] at h2
    exact e (of_decide_eq_true (h2 l[j].x (List.mem_map.2 ⟨l[j], List.getElem_mem h, rfl⟩)))
  have hgood : (∀ j (h : j < l.length), l[j].x.putL.2 = 0) → Nd.used 3 (l.map CellV.x) = (Nd.need 3 (l.map CellV.x), 0) := by
    intro h
    unfold Nd.used
    rw [if_pos]
    refine ⟨rfl, ?_⟩
    rw [List.all_eq_true]
    intro x hx
    obtain ⟨y, hy, rfl⟩ := List.mem_map.1 hx
    obtain ⟨j, hj, rfl⟩ := List.getElem_of_mem hy
    exact decide_eq_true (h j hj)
  obtain ⟨R, hR⟩ : ∃ R, R = Nd.used 3 (l.map CellV.x) := ⟨_, rfl⟩
  rw [← hR] at hbad hgood ⊢
  clear hR
  have Hbad := Lib.hid hbad
  have Hgood := Lib.hid hgood
  clear hbad hgood
  go_enter Tryz.func8, Tryz.ntmps8
  go_wp2_with (first | (go_at_call 20; refine (hh _).mono ?_; rintro e w' ⟨rfl, rfl⟩) | (go_at_call 21; refine (hco _).mono ?_; rintro e1 w1 ⟨rfl, hx1⟩; have Hx1 := Lib.hid hx1; clear hx1))
  go_loopw [7, 20] (fun a i wr => ∃ k : Nat, k ≤ l.length ∧ i = .int .i64 k ∧ a = .int .i64 (Nd.need 3 ((l.take k).map CellV.x) : Nat) ∧ (∀ j (h : j < l.length), j < k → l[j].x.putL.2 = 0) ∧ Ext w wr) (fun _ i _ => l.length - (intOf i).toNat)
  case atStart => exact ⟨0, by omega, rfl, rfl, fun j _ h => absurd h (by omega), Hx1.out⟩
  case round =>
    obtain ⟨k, hk, rfl, rfl, hno, hbw⟩ := hrel
    have Hno := Lib.hid hno
    clear hno
    by_cases h : k < l.length
    · obtain ⟨ad, rfl, hcell, hin⟩ := (hA.below hbw).at_ h
      have ik : (0 : Int) ≤ (k : Int) := by omega
      have ik2 : (k : Int) < (l.length : Int) := by omega
      have hi := cinfo l[k]
      have h1 := cone1 l[k]
      have Hbw := Lib.hid hbw
      have hal := Ext.alloc wr (.cells l[k].cells 43)
      have gl := heap_alloc_new wr (.cells l[k].cells 43)
      have hp := putLeaf_any l[k] _ (hin.ext hal)
      have Hcx := Lib.hid hcell
      have hnt := need_take 3 l k h
      rw [show Cl.put 3 l[k].x = l[k].x.putL from rfl] at hnt
      have hnl := need_le 3 ((l.take k).map CellV.x)
      rw [List.length_map, List.length_take, Nat.min_eq_left hk] at hnl
      have hpl : l[k].x.putL.1.length ≤ 78 := put_len 3 l[k].x
      obtain ⟨v, hv⟩ : ∃ v, v = Nd.need 3 ((l.take k).map CellV.x) := ⟨_, rfl⟩
      rw [← hv] at hnt hnl ⊢
      have Hal := Lib.hid (hbw.tr hal)
      have Hbd := Lib.hid (Hbad.out k h)
      have Hn0 : l[k].x.putL.2 = 0 → Hid (∀ j (h : j < l.length), j < k + 1 → l[j].x.putL.2 = 0) := by
        intro hf
        show ∀ j (h : j < l.length), j < k + 1 → l[j].x.putL.2 = 0
        intro j hj hjk
        by_cases e : j = k
        · subst e; exact hf
        · exact Hno.out j hj (by omega)
      obtain ⟨P, hP⟩ : ∃ P, P = l[k] := ⟨_, rfl⟩
      rw [← hP] at hi h1 gl hp Hcx hnt hpl Hal Hbd Hn0
      have Hp := Lib.hid hp
      have Hnt := Lib.hid hnt
      clear hv hP hcell hbw hal hin hp hA hnt
      by_cases hz : P.x.putL.2 = 0
      · have hz2 : (P.x.putL.2 : Int) = 0 := by omega
        have Hn1 := Hn0 hz
        go_wp2_with (first | (have hcx := Hcx.out; refine wpList_load_cells rfl 43 (.tmp 22) rfl _ rfl P.cells _ hcx Tryz.underlying43 rfl hi ?_; clear hcx) | (refine wpList_store_row rfl 43 (.tmp 9) (.tmp 23) rfl wr.heap.size P.cells rfl rfl 43 _ (heap_alloc_new wr _) hi (by rfl) h1 ?_; rw [setRow_alloc]) | (refine wpList_load_rowG rfl 43 (.tmp 9) rfl wr.heap.size rfl 43 P.cells (0, 0) _ gl Tryz.underlying43 rfl hi ?_) | (go_at_call 55; refine Hp.out.mono ?_; rintro e2 w2 ⟨A', c', rfl, ho, hx2⟩; have Hx2 := Lib.hid hx2; clear hx2 ho))
        go_roundw
        case rel => exact ⟨k + 1, by omega, by go_num, by rw [Hnt.out]; push_cast; go_num, Hn1.out, Hal.out.tr Hx2.out⟩
        case measure => simp [intOf]; omega
      · have hz2 : ¬ (P.x.putL.2 : Int) = 0 := by omega
        have HR := Lib.hid (Hbd.out hz)
        go_wp2_with (first | (have hcx := Hcx.out; refine wpList_load_cells rfl 43 (.tmp 22) rfl _ rfl P.cells _ hcx Tryz.underlying43 rfl hi ?_; clear hcx) | (refine wpList_store_row rfl 43 (.tmp 9) (.tmp 23) rfl wr.heap.size P.cells rfl rfl 43 _ (heap_alloc_new wr _) hi (by rfl) h1 ?_; rw [setRow_alloc]) | (refine wpList_load_rowG rfl 43 (.tmp 9) rfl wr.heap.size rfl 43 P.cells (0, 0) _ gl Tryz.underlying43 rfl hi ?_) | (go_at_call 55; refine Hp.out.mono ?_; rintro e2 w2 ⟨A', c', rfl, ho, hx2⟩; have Hx2 := Lib.hid hx2; clear hx2 ho))
        go_ret2
        exact ⟨by rw [HR.out]; rfl, Hal.out.tr Hx2.out⟩
    · obtain rfl : k = l.length := by omega
      rw [List.take_of_length_le (Nat.le_refl _)]
      have HR := Lib.hid (Hgood.out fun j hj => Hno.out j hj hj)
      go_wp2_with fail
      go_ret2
      exact ⟨by rw [HR.out]; rfl, hbw⟩


set_option maxRecDepth 100000 in
set_option maxHeartbeats 2000000 in
theorem used_2 (A : Option Addr) (l : List CellV) (c : Nat) (w : World) (hA : RdC w A l) (hl : l.length ≤ 1000000) : Calls Tryz.prog 8 #[.int .i64 2, .slice A l.length c] w fun e w' => e = .returned (.tuple #[.int .i64 ((Nd.used 2 (l.map CellV.x)).1 : Int), .int .i64 ((Nd.used 2 (l.map CellV.x)).2 : Int)]) ∧ Ext w w' := by
  have hh := hasCells_any 2
  rw [show Nd.hasC 2 = true from rfl] at hh
  have hco := coderOf_any 2
  rw [show coderA 2 = #[.func (.func 57) #[] #[], .func (.func 58) #[] #[]] from rfl] at hco
  have hbad : ∀ j (h : j < l.length), l[j].x.putI.2 ≠ 0 → Nd.used 2 (l.map CellV.x) = (0, 80) := by
    intro j h e
    unfold Nd.used
    rw [if_neg]
    rintro ⟨_, h2⟩
    rw [List.all_eq_true] at h2
    exact e (of_decide_eq_true (h2 l[j].x (List.mem_map.2 ⟨l[j], List.getElem_mem h, rfl⟩)))
  have hgood : (∀ j (h : j < l.length), l[j].x.putI.2 = 0) → Nd.used 2 (l.map CellV.x) = (Nd.need 2 (l.map CellV.x), 0) := by
    intro h
    unfold Nd.used
    rw [if_pos]
    refine ⟨rfl, ?_⟩
    rw [List.all_eq_true]
    intro x hx
    obtain ⟨y, hy, rfl⟩ := List.mem_map.1 hx
    obtain ⟨j, hj, rfl⟩ := List.getElem_of_mem hy
    exact decide_eq_true (h j hj)
  obtain ⟨R, hR⟩ : ∃ R, R = Nd.used 2 (l.map CellV.x) := ⟨_, rfl⟩
  rw [← hR] at hbad hgood ⊢
  clear hR
  have Hbad := Lib.hid hbad
  have Hgood := Lib.hid hgood
  clear hbad hgood
  go_enter Tryz.func8, Tryz.ntmps8
  go_wp2_with (first | (go_at_call 20; refine (hh _).mono ?_; rintro e w' ⟨rfl, rfl⟩) | (go_at_call 21; refine (hco _).mono ?_; rintro e1 w1 ⟨rfl, hx1⟩; have Hx1 := Lib.hid hx1; clear hx1))
  go_loopw [7, 20] (fun a i wr => ∃ k : Nat, k ≤ l.length ∧ i = .int .i64 k ∧ a = .int .i64 (Nd.need 2 ((l.take k).map CellV.x) : Nat) ∧ (∀ j (h : j < l.length), j < k → l[j].x.putI.2 = 0) ∧ Ext w wr) (fun _ i _ => l.length - (intOf i).toNat)
  case atStart => exact ⟨0, by omega, rfl, rfl, fun j _ h => absurd h (by omega), Hx1.out⟩
  case round =>
    obtain ⟨k, hk, rfl, rfl, hno, hbw⟩ := hrel
    have Hno := Lib.hid hno
    clear hno
    by_cases h : k < l.length
    · obtain ⟨ad, rfl, hcell, hin⟩ := (hA.below hbw).at_ h
      have ik : (0 : Int) ≤ (k : Int) := by omega
      have ik2 : (k : Int) < (l.length : Int) := by omega
      have hi := cinfo l[k]
      have h1 := cone1 l[k]
      have Hbw := Lib.hid hbw
      have hal := Ext.alloc wr (.cells l[k].cells 43)
      have gl := heap_alloc_new wr (.cells l[k].cells 43)
      have hp := putInner_any l[k] _ (hin.ext hal)
      have Hcx := Lib.hid hcell
      have hnt := need_take 2 l k h
      rw [show Cl.put 2 l[k].x = l[k].x.putI from rfl] at hnt
      have hnl := need_le 2 ((l.take k).map CellV.x)
      rw [List.length_map, List.length_take, Nat.min_eq_left hk] at hnl
      have hpl : l[k].x.putI.1.length ≤ 78 := put_len 2 l[k].x
      obtain ⟨v, hv⟩ : ∃ v, v = Nd.need 2 ((l.take k).map CellV.x) := ⟨_, rfl⟩
      rw [← hv] at hnt hnl ⊢
      have Hal := Lib.hid (hbw.tr hal)
      have Hbd := Lib.hid (Hbad.out k h)
      have Hn0 : l[k].x.putI.2 = 0 → Hid (∀ j (h : j < l.length), j < k + 1 → l[j].x.putI.2 = 0) := by
        intro hf
        show ∀ j (h : j < l.length), j < k + 1 → l[j].x.putI.2 = 0
        intro j hj hjk
        by_cases e : j = k
        · subst e; exact hf
        · exact Hno.out j hj (by omega)
      obtain ⟨P, hP⟩ : ∃ P, P = l[k] := ⟨_, rfl⟩
      rw [← hP] at hi h1 gl hp Hcx hnt hpl Hal Hbd Hn0
      have Hp := Lib.hid hp
      have Hnt := Lib.hid hnt
      clear hv hP hcell hbw hal hin hp hA hnt
      by_cases hz : P.x.putI.2 = 0
      · have hz2 : (P.x.putI.2 : Int) = 0 := by omega
        have Hn1 := Hn0 hz
        go_wp2_with (first | (have hcx := Hcx.out; refine wpList_load_cells rfl 43 (.tmp 22) rfl _ rfl P.cells _ hcx Tryz.underlying43 rfl hi ?_; clear hcx) | (refine wpList_store_row rfl 43 (.tmp 9) (.tmp 23) rfl wr.heap.size P.cells rfl rfl 43 _ (heap_alloc_new wr _) hi (by rfl) h1 ?_; rw [setRow_alloc]) | (refine wpList_load_rowG rfl 43 (.tmp 9) rfl wr.heap.size rfl 43 P.cells (0, 0) _ gl Tryz.underlying43 rfl hi ?_) | (go_at_call 57; refine Hp.out.mono ?_; rintro e2 w2 ⟨A', c', rfl, ho, hx2⟩; have Hx2 := Lib.hid hx2; clear hx2 ho))
        go_roundw
        case rel => exact ⟨k + 1, by omega, by go_num, by rw [Hnt.out]; push_cast; go_num, Hn1.out, Hal.out.tr Hx2.out⟩
        case measure => simp [intOf]; omega
      · have hz2 : ¬ (P.x.putI.2 : Int) = 0 := by omega
        have HR := Lib.hid (Hbd.out hz)
        go_wp2_with (first | (have hcx := Hcx.out; refine wpList_load_cells rfl 43 (.tmp 22) rfl _ rfl P.cells _ hcx Tryz.underlying43 rfl hi ?_; clear hcx) | (refine wpList_store_row rfl 43 (.tmp 9) (.tmp 23) rfl wr.heap.size P.cells rfl rfl 43 _ (heap_alloc_new wr _) hi (by rfl) h1 ?_; rw [setRow_alloc]) | (refine wpList_load_rowG rfl 43 (.tmp 9) rfl wr.heap.size rfl 43 P.cells (0, 0) _ gl Tryz.underlying43 rfl hi ?_) | (go_at_call 57; refine Hp.out.mono ?_; rintro e2 w2 ⟨A', c', rfl, ho, hx2⟩; have Hx2 := Lib.hid hx2; clear hx2 ho))
        go_ret2
        exact ⟨by rw [HR.out]; rfl, Hal.out.tr Hx2.out⟩
    · obtain rfl : k = l.length := by omega
      rw [List.take_of_length_le (Nat.le_refl _)]
      have HR := Lib.hid (Hgood.out fun j hj => Hno.out j hj hj)
      go_wp2_with fail
      go_ret2
      exact ⟨by rw [HR.out]; rfl, hbw⟩


theorem used_any (k : Int) (A : Option Addr) (l : List CellV) (c : Nat) (w : World) (hA : RdC w A l) (hl : l.length ≤ 1000000) : Calls Tryz.prog 8 #[.int .i64 k, .slice A l.length c] w fun e w' => e = .returned (.tuple #[.int .i64 ((Nd.used k (l.map CellV.x)).1 : Int), .int .i64 ((Nd.used k (l.map CellV.x)).2 : Int)]) ∧ Ext w w' := by
  by_cases k3 : k = 3
  · subst k3; exact used_3 A l c w hA hl
  by_cases k2 : k = 2
  · subst k2; exact used_2 A l c w hA hl
  have hc : Nd.hasC k = false := by simp [Nd.hasC, *]
  have : Nd.used k (l.map CellV.x) = (0, 80) := by
    unfold Nd.used
    rw [if_neg]
    rintro ⟨h, _⟩
    rw [hc] at h
    cases h
  rw [this]
  exact used_no k A l c w hc
end Go.Proofs.YtkpagmfaccmiaaaGreat

/- Contracts: slices.IndexFunc and ContainsFunc at cells (layer 08). Printed by wip/tools/gen_ndc08.py. -/

namespace Go.Proofs.YtkpagmfaccmiaaaGreat

open Go.RowKit

attribute [local go_sem] Oper.semAt_some

set_option maxRecDepth 100000 in
theorem indexC_3 (A : Option Addr) (l : List CellV) (c : Nat) (g : Nat) (w : World) (hA : RdC w A l) (hl : l.length ≤ 1000000) (hg : w.heap[g]? = some (.cells #[.func (.func 55) #[] #[], .func (.func 56) #[] #[]] 56 (0, 0))) :
    Calls Tryz.prog 66 #[.slice A l.length c, .func (.func 31) #[] #[.pointer (some ⟨g, 0, none⟩)]] w fun e w' => (∃ r : Int, e = .returned (.int .i64 r) ∧ Hid (decide (0 ≤ r) = !(l.all fun c => decide (c.x.putL.2 = 0)))) ∧ Ext w w' := by
  go_enter Tryz.func66, Tryz.ntmps66
  go_wp2
  go_loopw [8] (fun i wr => ∃ k : Nat, k ≤ l.length ∧ i = .int .i64 k ∧ (∀ j (h : j < l.length), j < k → l[j].x.putL.2 = 0) ∧ Ext w wr) (fun i _ => l.length - (intOf i).toNat)
  case atStart => exact ⟨0, by omega, rfl, fun j _ h => absurd h (by omega), Ext.refl _⟩
  case round =>
    obtain ⟨k, hk, rfl, hno, hbw⟩ := hrel
    have Hno := Lib.hid hno
    clear hno
    have hbd := hbw
    by_cases h : k < l.length
    · obtain ⟨ad, rfl, hcell, hin⟩ := (hA.below hbd).at_ h
      have ik : (0 : Int) ≤ (k : Int) := by omega
      have ik2 : (k : Int) < (l.length : Int) := by omega
      have gg := (hbd.block _ (lt_of_heap hg)).trans hg
      have hp := isNodeF_3 l[k] g wr hin gg
      have hi := cinfo l[k]
      have Hcx := Lib.hid hcell
      have Hbd := Lib.hid hbd
      cases hb : decide (l[k].x.putL.2 = 0) with
      | false =>
        have Hf : Hid (decide (0 ≤ (k : Int)) = !(l.all fun c => decide (c.x.putL.2 = 0))) := by
          show decide (0 ≤ (k : Int)) = !(l.all fun c => decide (c.x.putL.2 = 0))
          have h2 : (l.all fun c => decide (c.x.putL.2 = 0)) = false := by
            rw [List.all_eq_false]
            exact ⟨l[k], List.getElem_mem h, by rw [hb]; simp⟩
          rw [h2]
          simp
        rw [hb] at hp
        have Hp := Lib.hid hp
        clear hp hb hcell hbd hbw hin gg hA hg
        go_wp2_with (first | (have hcx := Hcx.out; refine wpList_load_cells rfl 43 (.tmp 14) rfl _ rfl l[k].cells _ hcx Tryz.underlying43 rfl hi ?_; clear hcx) | (go_at_call 31; refine Hp.out.mono ?_; rintro e1 w1 ⟨rfl, hb1⟩; have Hb1 := Lib.hid hb1; clear hb1))
        go_ret
        exact ⟨⟨_, rfl, Hf⟩, Hbd.out.tr Hb1.out⟩
      | true =>
        have Hn : Hid (∀ j (h : j < l.length), j < k + 1 → l[j].x.putL.2 = 0) := by
          show ∀ j (h : j < l.length), j < k + 1 → l[j].x.putL.2 = 0
          intro j hj hjk
          by_cases e : j = k
          · subst e; exact of_decide_eq_true hb
          · exact Hno.out j hj (by omega)
        rw [hb] at hp
        have Hp := Lib.hid hp
        clear hp hb hcell hbd hbw hin gg hA hg
        go_wp2_with (first | (have hcx := Hcx.out; refine wpList_load_cells rfl 43 (.tmp 14) rfl _ rfl l[k].cells _ hcx Tryz.underlying43 rfl hi ?_; clear hcx) | (go_at_call 31; refine Hp.out.mono ?_; rintro e1 w1 ⟨rfl, hb1⟩; have Hb1 := Lib.hid hb1; clear hb1))
        go_roundw
        case rel => exact ⟨k + 1, by omega, by go_num, Hn.out, Hbd.out.tr Hb1.out⟩
        case measure => simp [intOf]; omega
    · obtain rfl : k = l.length := by omega
      have Hf : Hid (decide ((0 : Int) ≤ -1) = !(l.all fun c => decide (c.x.putL.2 = 0))) := by
        show decide ((0 : Int) ≤ -1) = !(l.all fun c => decide (c.x.putL.2 = 0))
        have h2 : (l.all fun c => decide (c.x.putL.2 = 0)) = true := by
          rw [List.all_eq_true]
          intro x hx
          obtain ⟨j, hj, rfl⟩ := List.getElem_of_mem hx
          rw [Hno.out j hj hj]; rfl
        rw [h2]
        rfl
      go_wp2
      go_ret
      exact ⟨⟨_, rfl, Hf⟩, hbw⟩

set_option maxRecDepth 100000 in
theorem containsC_3 (A : Option Addr) (l : List CellV) (c : Nat) (g : Nat) (w : World) (hA : RdC w A l) (hl : l.length ≤ 1000000) (hg : w.heap[g]? = some (.cells #[.func (.func 55) #[] #[], .func (.func 56) #[] #[]] 56 (0, 0))) :
    Calls Tryz.prog 33 #[.slice A l.length c, .func (.func 31) #[] #[.pointer (some ⟨g, 0, none⟩)]] w fun e w' => e = .returned (.bool (!(l.all fun c => decide (c.x.putL.2 = 0)))) ∧ Ext w w' := by
  have Hp := Lib.hid (indexC_3 A l c g w hA hl hg)
  clear hA hl hg
  go_enter Tryz.func33, Tryz.ntmps33
  go_wp2_with (go_at_call 66; refine Hp.out.mono ?_; rintro e1 w1 ⟨⟨r, rfl, hr⟩, hb1⟩; have Hb1 := Lib.hid hb1; clear hb1)
  go_ret
  exact ⟨congrArg (fun b => Ending.returned (.bool b)) (Eq.trans rfl hr.out), Hb1.out⟩

set_option maxRecDepth 100000 in
theorem indexC_2 (A : Option Addr) (l : List CellV) (c : Nat) (g : Nat) (w : World) (hA : RdC w A l) (hl : l.length ≤ 1000000) (hg : w.heap[g]? = some (.cells #[.func (.func 57) #[] #[], .func (.func 58) #[] #[]] 56 (0, 0))) :
    Calls Tryz.prog 66 #[.slice A l.length c, .func (.func 31) #[] #[.pointer (some ⟨g, 0, none⟩)]] w fun e w' => (∃ r : Int, e = .returned (.int .i64 r) ∧ Hid (decide (0 ≤ r) = !(l.all fun c => decide (c.x.putI.2 = 0)))) ∧ Ext w w' := by
  go_enter Tryz.func66, Tryz.ntmps66
  go_wp2
  go_loopw [8] (fun i wr => ∃ k : Nat, k ≤ l.length ∧ i = .int .i64 k ∧ (∀ j (h : j < l.length), j < k → l[j].x.putI.2 = 0) ∧ Ext w wr) (fun i _ => l.length - (intOf i).toNat)
  case atStart => exact ⟨0, by omega, rfl, fun j _ h => absurd h (by omega), Ext.refl _⟩
  case round =>
    obtain ⟨k, hk, rfl, hno, hbw⟩ := hrel
    have Hno := Lib.hid hno
    clear hno
    have hbd := hbw
    by_cases h : k < l.length
    · obtain ⟨ad, rfl, hcell, hin⟩ := (hA.below hbd).at_ h
      have ik : (0 : Int) ≤ (k : Int) := by omega
      have ik2 : (k : Int) < (l.length : Int) := by omega
      have gg := (hbd.block _ (lt_of_heap hg)).trans hg
      have hp := isNodeF_2 l[k] g wr hin gg
      have hi := cinfo l[k]
      have Hcx := Lib.hid hcell
      have Hbd := Lib.hid hbd
      cases hb : decide (l[k].x.putI.2 = 0) with
      | false =>
        have Hf : Hid (decide (0 ≤ (k : Int)) = !(l.all fun c => decide (c.x.putI.2 = 0))) := by
          show decide (0 ≤ (k : Int)) = !(l.all fun c => decide (c.x.putI.2 = 0))
          have h2 : (l.all fun c => decide (c.x.putI.2 = 0)) = false := by
            rw [List.all_eq_false]
            exact ⟨l[k], List.getElem_mem h, by rw [hb]; simp⟩
          rw [h2]
          simp
        rw [hb] at hp
        have Hp := Lib.hid hp
        clear hp hb hcell hbd hbw hin gg hA hg
        go_wp2_with (first | (have hcx := Hcx.out; refine wpList_load_cells rfl 43 (.tmp 14) rfl _ rfl l[k].cells _ hcx Tryz.underlying43 rfl hi ?_; clear hcx) | (go_at_call 31; refine Hp.out.mono ?_; rintro e1 w1 ⟨rfl, hb1⟩; have Hb1 := Lib.hid hb1; clear hb1))
        go_ret
        exact ⟨⟨_, rfl, Hf⟩, Hbd.out.tr Hb1.out⟩
      | true =>
        have Hn : Hid (∀ j (h : j < l.length), j < k + 1 → l[j].x.putI.2 = 0) := by
          show ∀ j (h : j < l.length), j < k + 1 → l[j].x.putI.2 = 0
          intro j hj hjk
          by_cases e : j = k
          · subst e; exact of_decide_eq_true hb
          · exact Hno.out j hj (by omega)
        rw [hb] at hp
        have Hp := Lib.hid hp
        clear hp hb hcell hbd hbw hin gg hA hg
        go_wp2_with (first | (have hcx := Hcx.out; refine wpList_load_cells rfl 43 (.tmp 14) rfl _ rfl l[k].cells _ hcx Tryz.underlying43 rfl hi ?_; clear hcx) | (go_at_call 31; refine Hp.out.mono ?_; rintro e1 w1 ⟨rfl, hb1⟩; have Hb1 := Lib.hid hb1; clear hb1))
        go_roundw
        case rel => exact ⟨k + 1, by omega, by go_num, Hn.out, Hbd.out.tr Hb1.out⟩
        case measure => simp [intOf]; omega
    · obtain rfl : k = l.length := by omega
      have Hf : Hid (decide ((0 : Int) ≤ -1) = !(l.all fun c => decide (c.x.putI.2 = 0))) := by
        show decide ((0 : Int) ≤ -1) = !(l.all fun c => decide (c.x.putI.2 = 0))
        have h2 : (l.all fun c => decide (c.x.putI.2 = 0)) = true := by
          rw [List.all_eq_true]
          intro x hx
          obtain ⟨j, hj, rfl⟩ := List.getElem_of_mem hx
          rw [Hno.out j hj hj]; rfl
        rw [h2]
        rfl
      go_wp2
      go_ret
      exact ⟨⟨_, rfl, Hf⟩, hbw⟩

set_option maxRecDepth 100000 in
theorem containsC_2 (A : Option Addr) (l : List CellV) (c : Nat) (g : Nat) (w : World) (hA : RdC w A l) (hl : l.length ≤ 1000000) (hg : w.heap[g]? = some (.cells #[.func (.func 57) #[] #[], .func (.func 58) #[] #[]] 56 (0, 0))) :
    Calls Tryz.prog 33 #[.slice A l.length c, .func (.func 31) #[] #[.pointer (some ⟨g, 0, none⟩)]] w fun e w' => e = .returned (.bool (!(l.all fun c => decide (c.x.putI.2 = 0)))) ∧ Ext w w' := by
  have Hp := Lib.hid (indexC_2 A l c g w hA hl hg)
  clear hA hl hg
  go_enter Tryz.func33, Tryz.ntmps33
  go_wp2_with (go_at_call 66; refine Hp.out.mono ?_; rintro e1 w1 ⟨⟨r, rfl, hr⟩, hb1⟩; have Hb1 := Lib.hid hb1; clear hb1)
  go_ret
  exact ⟨congrArg (fun b => Ending.returned (.bool b)) (Eq.trans rfl hr.out), Hb1.out⟩
end Go.Proofs.YtkpagmfaccmiaaaGreat

/- Contracts: hasTwins, byKey, slices.IsSortedFunc at cells (layer 08). Printed by wip/tools/gen_ndd08.py. -/

namespace Go.Proofs.YtkpagmfaccmiaaaGreat

open Go.RowKit

attribute [local go_sem] Oper.semAt_some

theorem ckey_at {w : World} {c : CellV} {ad : Addr} (hc : ∀ j u, (c.cells)[j]? = some u → w.cell? (ad.add j) = some u) : w.cell? ad = some (.slice c.ka c.x.key.length c.kc) := hc 0 _ rfl
def Nd.twins (l : List Cl) : Bool := match l with
  | a :: b :: l => (a.key == b.key) || Nd.twins (b :: l)
  | _ => false
theorem twins_iff : ∀ l : List Cl, Nd.twins l = false ↔ ∀ k (h : k + 1 < l.length), (l[k]'(by omega)).key ≠ l[k + 1].key
  | [] => by simp [Nd.twins]
  | [_] => by simp [Nd.twins]
  | a :: b :: l => by
    simp only [Nd.twins, Bool.or_eq_false_iff, twins_iff (b :: l), beq_eq_false_iff_ne]
    constructor
    · rintro ⟨h1, h2⟩ k hk
      cases k with
      | zero => exact h1
      | succ k => exact h2 k (by simpa using hk)
    · intro h
      exact ⟨h 0 (by simp), fun k hk => h (k + 1) (by simpa using hk)⟩

set_option maxRecDepth 100000 in
set_option maxHeartbeats 2000000 in
theorem hasTwins_any (A : Option Addr) (l : List CellV) (c : Nat) (w : World) (hA : RdC w A l) (hl : l.length ≤ 1000000) :
    Calls Tryz.prog 34 #[.slice A l.length c] w fun e w' => e = .returned (.bool (Nd.twins (l.map CellV.x))) ∧ Ext w w' := by
  have hyes : ∀ k (h : k + 1 < l.length), (l[k]'(by omega)).x.key = l[k + 1].x.key → Nd.twins (l.map CellV.x) = true := by
    intro k h e
    cases ht : Nd.twins (l.map CellV.x) with
    | true => rfl
    | false => exact absurd (show ((l.map CellV.x)[k]'(by rw [List.length_map]; omega)).key = ((l.map CellV.x)[k + 1]'(by rw [List.length_map]; exact h)).key by rw [List.getElem_map, List.getElem_map]; exact e) ((twins_iff _).1 ht k (by rw [List.length_map]; exact h))
  have hnot : (∀ k (h : k + 1 < l.length), (l[k]'(by omega)).x.key ≠ l[k + 1].x.key) → Nd.twins (l.map CellV.x) = false := fun h => (twins_iff _).2 fun k hk => by
    rw [List.getElem_map, List.getElem_map]
    exact h k (by rw [List.length_map] at hk; exact hk)
  obtain ⟨R, hR⟩ : ∃ R, R = Nd.twins (l.map CellV.x) := ⟨_, rfl⟩
  rw [← hR] at hyes hnot ⊢
  clear hR
  have Hyes := Lib.hid hyes
  have Hnot := Lib.hid hnot
  clear hyes hnot
  go_enter Tryz.func34, Tryz.ntmps34
  go_wp2
  go_loopw [3] (fun i wr => ∃ k : Nat, k ≤ l.length ∧ i = .int .i64 ((k : Int) + 1) ∧ (∀ j (h : j + 1 < l.length), j < k → (l[j]'(by omega)).x.key ≠ l[j + 1].x.key) ∧ Ext w wr) (fun i _ => l.length + 1 - (intOf i).toNat)
  case atStart => exact ⟨0, by omega, rfl, fun j _ h => absurd h (by omega), Ext.refl _⟩
  case round =>
    obtain ⟨k, hk, rfl, hno, hbw⟩ := hrel
    have Hno := Lib.hid hno
    clear hno
    have hbd := hbw.tr (Ext.drew wr)
    by_cases h : k + 1 < l.length
    · obtain ⟨ad, rfl, hc1, hin1⟩ := (hA.below hbd).at_ (show k < l.length by omega)
      obtain ⟨ad2, e2, hc2, hin2⟩ := (hA.below hbd).at_ h
      injection e2 with e2
      subst e2
      have ik : (0 : Int) ≤ (k : Int) := by omega
      have ik2 : (k : Int) < (l.length : Int) := by omega
      have ik3 : (k : Int) + 1 < (l.length : Int) := by omega
      have jw : IntKind.i64.wrap (k : Int) = (k : Int) := by rw [IntKind.wrap_i64]; omega
      have k1 := ckey_at hc1
      have k2 := ckey_at hc2
      have ik4 : (0 : Int) ≤ (k : Int) + 1 := by omega
      have heq := equal_any l[k].ka l[k + 1].ka l[k].x.key l[k + 1].x.key l[k].kc l[k + 1].kc _ hin1.kr hin2.kr
      have Hy := Lib.hid (Hyes.out k h)
      have Hn : (l[k].x.key == l[k + 1].x.key) = false → Hid (∀ j (h : j + 1 < l.length), j < k + 1 → (l[j]'(by omega)).x.key ≠ l[j + 1].x.key) := by
        intro hf
        show ∀ j (h : j + 1 < l.length), j < k + 1 → (l[j]'(by omega)).x.key ≠ l[j + 1].x.key
        intro j hj hjk
        by_cases e : j = k
        · subst e; exact beq_eq_false_iff_ne.1 hf
        · exact Hno.out j hj (by omega)
      obtain ⟨p, hp⟩ : ∃ p, p = l[k].x.key := ⟨_, rfl⟩
      obtain ⟨q, hq⟩ : ∃ q, q = l[k + 1].x.key := ⟨_, rfl⟩
      rw [← hp] at k1
      rw [← hq] at k2
      rw [← hp, ← hq] at heq Hy Hn
      have Hbd := Lib.hid hbd
      clear hp hq hc1 hc2 hin1 hin2 hbd hbw hA
      go_wp2_with fail
      refine rg_start (by kernel_rfl) ?_
      refine rg_take 0 rfl (by kernel_rfl) (by kernel_rfl) (by kernel_rfl) (fun _ _ _ _ h => h) (by rfl) ⟨_, fun w' hx => by (go_simp <;> with_reducible rfl), ?_⟩
      simp only [Act.put, List.setIfInBounds_toArray, List.set_cons_zero, List.set_cons_succ]
      refine rg_take 1 rfl (by kernel_rfl) (by kernel_rfl) (by kernel_rfl) (fun _ _ _ _ h => h) (by rfl) ⟨_, fun w' hx => by (go_simp <;> with_reducible rfl), ?_⟩
      simp only [Act.put, List.setIfInBounds_toArray, List.set_cons_zero, List.set_cons_succ]
      refine rg_take 2 rfl (by kernel_rfl) (by kernel_rfl) (by kernel_rfl) (fun _ _ _ _ h => h) (by rfl) ⟨_, fun w' hx => by (go_simp <;> with_reducible rfl), ?_⟩   -- t12 := binOp sub 3 t11 1:i64 3
      simp only [Act.put, List.setIfInBounds_toArray, List.set_cons_zero, List.set_cons_succ]
      refine rg_take 3 rfl (by kernel_rfl) (by kernel_rfl) (by kernel_rfl) (fun _ _ _ _ h => h) (by rfl) ⟨_, fun w' hx => by (go_simp <;> with_reducible rfl), ?_⟩   -- t13 := indexAddr 23 t10 t12
      simp only [Act.put, List.setIfInBounds_toArray, List.set_cons_zero, List.set_cons_succ]
      refine rg_take 4 rfl (by kernel_rfl) (by kernel_rfl) (by kernel_rfl) (fun _ _ _ _ h => h) (by rfl) ⟨_, fun w' hx => by (go_simp <;> with_reducible rfl), ?_⟩   -- t14 := fieldAddr 43 t13 0
      simp only [Act.put, List.setIfInBounds_toArray, List.set_cons_zero, List.set_cons_succ]
      refine rg_take 5 rfl (by kernel_rfl) (by kernel_rfl) (by kernel_rfl) (fun _ _ _ _ h => h) (by rfl) ⟨_, fun w' hx => by have hcx := hx.load k1; (go_simp <;> with_reducible rfl), ?_⟩
      simp only [Act.put, List.setIfInBounds_toArray, List.set_cons_zero, List.set_cons_succ]
      refine rg_take 6 rfl (by kernel_rfl) (by kernel_rfl) (by kernel_rfl) (fun _ _ _ _ h => h) (by rfl) ⟨_, fun w' hx => by (go_simp <;> with_reducible rfl), ?_⟩
      simp only [Act.put, List.setIfInBounds_toArray, List.set_cons_zero, List.set_cons_succ]
      refine rg_take 7 rfl (by kernel_rfl) (by kernel_rfl) (by kernel_rfl) (fun _ _ _ _ h => h) (by rfl) ⟨_, fun w' hx => by (go_simp <;> with_reducible rfl), ?_⟩
      simp only [Act.put, List.setIfInBounds_toArray, List.set_cons_zero, List.set_cons_succ]
      refine rg_take 8 rfl (by kernel_rfl) (by kernel_rfl) (by kernel_rfl) (fun _ _ _ _ h => h) (by rfl) ⟨_, fun w' hx => by (go_simp <;> with_reducible rfl), ?_⟩   -- t18 := indexAddr 23 t16 t17
      simp only [Act.put, List.setIfInBounds_toArray, List.set_cons_zero, List.set_cons_succ]
      refine rg_take 9 rfl (by kernel_rfl) (by kernel_rfl) (by kernel_rfl) (fun _ _ _ _ h => h) (by rfl) ⟨_, fun w' hx => by (go_simp <;> with_reducible rfl), ?_⟩   -- t19 := fieldAddr 43 t18 0
      simp only [Act.put, List.setIfInBounds_toArray, List.set_cons_zero, List.set_cons_succ]
      refine rg_take 10 rfl (by kernel_rfl) (by kernel_rfl) (by kernel_rfl) (fun _ _ _ _ h => h) (by rfl) ⟨_, fun w' hx => by have hcx := hx.load k2; (go_simp <;> with_reducible rfl), ?_⟩
      simp only [Act.put, List.setIfInBounds_toArray, List.set_cons_zero, List.set_cons_succ]
      refine rg_call 11 (heq) rfl (by kernel_rfl) (by rfl) (by go_simp) ?_
      rintro e w' ⟨rfl, rfl⟩
      refine ⟨_, rfl, Ext.refl _, ?_⟩
      simp only [Act.put, List.setIfInBounds_toArray, List.set_cons_zero, List.set_cons_succ]
      refine rg_done (by kernel_rfl) ?_
      cases hpq : (p == q) with
      | true =>
        have HR : Hid (R = true) := Hy.out (beq_iff_eq.1 hpq)
        go_wp2_with fail
        go_ret
        exact ⟨congrArg (fun b => Ending.returned (.bool b)) HR.out.symm, Hbd.out⟩
      | false =>
        have Hn2 := Hn hpq
        go_wp2_with fail
        go_roundw
        case rel => exact ⟨k + 1, by omega, by go_num, Hn2.out, Hbd.out⟩
        case measure => simp [intOf]; omega
    · have HR : Hid (R = false) := Hnot.out fun j hj => Hno.out j hj (by omega)
      have ik3 : ¬ (k : Int) + 1 < (l.length : Int) := by omega
      go_wp2
      go_ret
      exact ⟨congrArg (fun b => Ending.returned (.bool b)) HR.out.symm, hbw⟩
end Go.Proofs.YtkpagmfaccmiaaaGreat

/- Contracts: byKey, slices.IsSortedFunc at cells (layer 08). Printed by wip/tools/gen_nde08.py. -/

namespace Go.Proofs.YtkpagmfaccmiaaaGreat

open Go.RowKit

attribute [local go_sem] Oper.semAt_some

set_option maxRecDepth 100000 in
theorem byKey_any (a b : CellV) (w : World) (ha : a.In w) (hb : b.In w) : Calls Tryz.prog 36 #[.agg a.cells, .agg b.cells] w fun e w' => e = .returned (.int .i64 (Lib.compareBytes a.x.key b.x.key)) ∧ Ext w w' := by
  have hE := Ext.tr (Ext.alloc w (.cells a.cells 43)) (Ext.alloc _ (.cells b.cells 43))
  have hq := compare_any a.ka b.ka a.x.key b.x.key a.kc b.kc _ (ha.kr.below hE) (hb.kr.below hE)
  have Hq := Lib.hid hq
  have HE := Lib.hid hE
  clear hq hE ha hb
  simp only [CellV.cells] at *
  go_enter Tryz.func36, Tryz.ntmps36
  go_wp2_with (go_at_call 67; refine Hq.out.mono ?_; rintro e1 w1 ⟨rfl, rfl⟩)
  go_ret
  exact ⟨rfl, HE.out⟩

/-- Keys do not fall. -/
def Nd.sorted (l : List Cl) : Bool := match l with
  | a :: b :: l => decide (0 ≤ Lib.compareBytes b.key a.key) && Nd.sorted (b :: l)
  | _ => true
theorem sorted_iff : ∀ l : List Cl, Nd.sorted l = true ↔ ∀ k (h : k + 1 < l.length), 0 ≤ Lib.compareBytes l[k + 1].key (l[k]'(by omega)).key
  | [] => by simp [Nd.sorted]
  | [_] => by simp [Nd.sorted]
  | a :: b :: l => by
    simp only [Nd.sorted, Bool.and_eq_true, sorted_iff (b :: l), decide_eq_true_eq]
    constructor
    · rintro ⟨h1, h2⟩ k hk
      cases k with
      | zero => exact h1
      | succ k => exact h2 k (by simpa using hk)
    · intro h
      exact ⟨h 0 (by simp), fun k hk => h (k + 1) (by simpa using hk)⟩
theorem rise_of (l : List Cl) : (!Nd.twins l && Nd.sorted l) = Nd.riseB l := by
  rw [Bool.eq_iff_iff, Nd.riseB_iff, Bool.and_eq_true, Bool.not_eq_true', twins_iff, sorted_iff]
  constructor
  · rintro ⟨h1, h2⟩ k hk
    rcases ltB_tri (l[k]'(by omega)).key l[k + 1].key with h | h | h
    · exact h
    · exact absurd h (h1 k hk)
    · have := (compare_lt _ _).2 h
      have := h2 k hk
      omega
  · intro h
    refine ⟨fun k hk e => ?_, fun k hk => ?_⟩
    · have := h k hk
      rw [e, ltB_irrefl] at this
      cases this
    · have h1 := h k hk
      have h2 := ltB_asymm h1
      rcases Int.lt_or_le (Lib.compareBytes l[k + 1].key (l[k]'(by omega)).key) 0 with h3 | h3
      · rw [(compare_lt _ _).1 h3] at h2; cases h2
      · exact h3

set_option maxRecDepth 100000 in
set_option maxHeartbeats 2000000 in
theorem isSorted_any (A : Option Addr) (l : List CellV) (c : Nat) (w : World) (hA : RdC w A l) (hl : l.length ≤ 1000000) :
    Calls Tryz.prog 35 #[.slice A l.length c, .func (.func 36) #[] #[]] w fun e w' => e = .returned (.bool (Nd.sorted (l.map CellV.x))) ∧ Ext w w' := by
  have hno : ∀ k (h : k + 1 < l.length), Lib.compareBytes l[k + 1].x.key (l[k]'(by omega)).x.key < 0 → Nd.sorted (l.map CellV.x) = false := by
    intro k h e
    cases ht : Nd.sorted (l.map CellV.x) with
    | false => rfl
    | true =>
      have := (sorted_iff _).1 ht k (by rw [List.length_map]; exact h)
      rw [List.getElem_map, List.getElem_map] at this
      omega
  have hyes : (∀ k (h : k + 1 < l.length), 0 ≤ Lib.compareBytes l[k + 1].x.key (l[k]'(by omega)).x.key) → Nd.sorted (l.map CellV.x) = true := fun h => (sorted_iff _).2 fun k hk => by
    rw [List.getElem_map, List.getElem_map]
    exact h k (by rw [List.length_map] at hk; exact hk)
  obtain ⟨R, hR⟩ : ∃ R, R = Nd.sorted (l.map CellV.x) := ⟨_, rfl⟩
  rw [← hR] at hyes hno ⊢
  clear hR
  have Hyes := Lib.hid hyes
  have Hno := Lib.hid hno
  clear hyes hno
  have w0 : IntKind.i64.wrap ((l.length : Int) - 1) = (l.length : Int) - 1 := by rw [IntKind.wrap_i64]; omega
  go_enter Tryz.func35, Tryz.ntmps35
  go_wp2
  go_loopw [5] (fun i wr => ∃ k : Nat, k ≤ l.length ∧ i = .int .i64 ((k : Int) - 1) ∧ (∀ j (h : j + 1 < l.length), k ≤ j + 1 → 0 ≤ Lib.compareBytes l[j + 1].x.key (l[j]'(by omega)).x.key) ∧ Ext w wr) (fun i _ => (intOf i + 1).toNat)
  case atStart => exact ⟨l.length, by omega, by go_num, fun j _ h => absurd h (by omega), Ext.refl _⟩
  case round =>
    obtain ⟨k, hk, rfl, hall, hbw⟩ := hrel
    have Hall := Lib.hid hall
    clear hall
    have hbd := hbw.tr (Ext.drew wr)
    by_cases h : 2 ≤ k
    · obtain ⟨m, rfl⟩ : ∃ m, k = m + 2 := ⟨k - 2, by omega⟩
      rw [show (((m + 2 : Nat) : Int) - 1) = (m : Int) + 1 by omega]
      obtain ⟨ad, rfl, hc1, hin1⟩ := (hA.below hbd).at_ (show m < l.length by omega)
      obtain ⟨ad2, e2, hc2, hin2⟩ := (hA.below hbd).at_ (show m + 1 < l.length by omega)
      injection e2 with e2
      subst e2
      have ik : (0 : Int) ≤ (m : Int) := by omega
      have ik2 : (m : Int) < (l.length : Int) := by omega
      have ik3 : (m : Int) + 1 < (l.length : Int) := by omega
      have ik4 : (0 : Int) ≤ (m : Int) + 1 := by omega
      have ik5 : (0 : Int) < (m : Int) + 1 := by omega
      have jw : IntKind.i64.wrap (m : Int) = (m : Int) := by rw [IntKind.wrap_i64]; omega
      have hcmp := byKey_any l[m + 1] l[m] wr.drew hin2 hin1
      have Hn := Lib.hid (Hno.out m (by omega))
      have Hy : 0 ≤ Lib.compareBytes l[m + 1].x.key l[m].x.key → Hid (∀ j (h : j + 1 < l.length), m + 1 ≤ j + 1 → 0 ≤ Lib.compareBytes l[j + 1].x.key (l[j]'(by omega)).x.key) := by
        intro hf
        show ∀ j (h : j + 1 < l.length), m + 1 ≤ j + 1 → 0 ≤ Lib.compareBytes l[j + 1].x.key (l[j]'(by omega)).x.key
        intro j hj hjk
        by_cases e : j = m
        · subst e; exact hf
        · exact Hall.out j hj (by omega)
      obtain ⟨P, hP⟩ : ∃ P, P = l[m + 1] := ⟨_, rfl⟩
      obtain ⟨Q, hQ⟩ : ∃ Q, Q = l[m] := ⟨_, rfl⟩
      rw [← hP, ← hQ] at hcmp Hn Hy
      rw [← hP] at hc2
      rw [← hQ] at hc1
      obtain ⟨z, hz⟩ : ∃ z, z = Lib.compareBytes P.x.key Q.x.key := ⟨_, rfl⟩
      rw [← hz] at hcmp Hn Hy
      have Hbd := Lib.hid hbd
      have Hc1 := Lib.hid hc1
      have Hc2 := Lib.hid hc2
      clear hP hQ hz hin1 hin2 hbd hbw hA hc1 hc2
      go_wp2_with fail
      refine rg_start (by kernel_rfl) ?_
      refine rg_take 0 rfl (by kernel_rfl) (by kernel_rfl) (by kernel_rfl) (fun _ _ _ _ h => h) (by rfl) ⟨_, fun w' hx => by (go_simp <;> with_reducible rfl), ?_⟩
      simp only [Act.put, List.setIfInBounds_toArray, List.set_cons_zero, List.set_cons_succ]
      refine rg_take 1 rfl (by kernel_rfl) (by kernel_rfl) (by kernel_rfl) (fun _ _ _ _ h => h) (by rfl) ⟨_, fun w' hx => by (go_simp <;> with_reducible rfl), ?_⟩
      simp only [Act.put, List.setIfInBounds_toArray, List.set_cons_zero, List.set_cons_succ]
      refine rg_take 2 rfl (by kernel_rfl) (by kernel_rfl) (by kernel_rfl) (fun _ _ _ _ h => h) (by rfl) ⟨_, fun w' hx => by (go_simp <;> with_reducible rfl), ?_⟩
      simp only [Act.put, List.setIfInBounds_toArray, List.set_cons_zero, List.set_cons_succ]
      refine rg_take 3 rfl (by kernel_rfl) (by kernel_rfl) (by kernel_rfl) (fun _ _ _ _ h => h) (by rfl) ⟨_, fun w' hx => by (go_simp <;> with_reducible rfl), ?_⟩   -- t16 := indexAddr 23 t14 t15
      simp only [Act.put, List.setIfInBounds_toArray, List.set_cons_zero, List.set_cons_succ]
      refine rg_take 4 rfl (by kernel_rfl) (by kernel_rfl) (by kernel_rfl) (fun _ _ _ _ h => h) (by rfl) ⟨.agg P.cells, fun w' hx => ex_load_cells 43 (.tmp 16) rfl _ rfl P.cells _ (fun j u hj => hx.load (Hc2.out j u hj)) Tryz.underlying43 rfl (cinfo P), ?_⟩
      simp only [Act.put, List.setIfInBounds_toArray, List.set_cons_zero, List.set_cons_succ]
      refine rg_take 5 rfl (by kernel_rfl) (by kernel_rfl) (by kernel_rfl) (fun _ _ _ _ h => h) (by rfl) ⟨_, fun w' hx => by (go_simp <;> with_reducible rfl), ?_⟩
      simp only [Act.put, List.setIfInBounds_toArray, List.set_cons_zero, List.set_cons_succ]
      refine rg_take 6 rfl (by kernel_rfl) (by kernel_rfl) (by kernel_rfl) (fun _ _ _ _ h => h) (by rfl) ⟨_, fun w' hx => by (go_simp <;> with_reducible rfl), ?_⟩
      simp only [Act.put, List.setIfInBounds_toArray, List.set_cons_zero, List.set_cons_succ]
      refine rg_take 7 rfl (by kernel_rfl) (by kernel_rfl) (by kernel_rfl) (fun _ _ _ _ h => h) (by rfl) ⟨_, fun w' hx => by (go_simp <;> with_reducible rfl), ?_⟩   -- t20 := binOp sub 3 t19 1:i64 3
      simp only [Act.put, List.setIfInBounds_toArray, List.set_cons_zero, List.set_cons_succ]
      refine rg_take 8 rfl (by kernel_rfl) (by kernel_rfl) (by kernel_rfl) (fun _ _ _ _ h => h) (by rfl) ⟨_, fun w' hx => by (go_simp <;> with_reducible rfl), ?_⟩   -- t21 := indexAddr 23 t18 t20
      simp only [Act.put, List.setIfInBounds_toArray, List.set_cons_zero, List.set_cons_succ]
      refine rg_take 9 rfl (by kernel_rfl) (by kernel_rfl) (by kernel_rfl) (fun _ _ _ _ h => h) (by rfl) ⟨.agg Q.cells, fun w' hx => ex_load_cells 43 (.tmp 21) rfl _ rfl Q.cells _ (fun j u hj => hx.load (Hc1.out j u hj)) Tryz.underlying43 rfl (cinfo Q), ?_⟩
      simp only [Act.put, List.setIfInBounds_toArray, List.set_cons_zero, List.set_cons_succ]
      refine rg_call 10 (hcmp) rfl (by kernel_rfl) (by rfl) (by go_simp) ?_
      rintro e1 w1 ⟨rfl, hx1⟩
      have Hx1 := Lib.hid hx1
      refine ⟨_, rfl, hx1, ?_⟩
      simp only [Act.put, List.setIfInBounds_toArray, List.set_cons_zero, List.set_cons_succ]
      refine rg_take 11 rfl (by kernel_rfl) (by kernel_rfl) (by kernel_rfl) (fun _ _ _ _ h => h) (by rfl) ⟨_, fun w' hx => by (go_simp <;> with_reducible rfl), ?_⟩   -- t24 := binOp lss 3 t23 0:i64 3
      simp only [Act.put, List.setIfInBounds_toArray, List.set_cons_zero, List.set_cons_succ]
      refine rg_done (by kernel_rfl) ?_
      by_cases hz : z < 0
      · have HR : Hid (R = false) := Hn.out hz
        go_wp2_with fail
        go_ret
        exact ⟨congrArg (fun b => Ending.returned (.bool b)) HR.out.symm, Hbd.out.tr Hx1.out⟩
      · have Hn2 := Hy (by omega)
        go_wp2_with fail
        go_roundw
        case rel => exact ⟨m + 1, by omega, by go_num, Hn2.out, Hbd.out.tr Hx1.out⟩
        case measure => simp [intOf]; omega
    · have HR : Hid (R = true) := Hyes.out fun j hj => Hall.out j hj (by omega)
      have ik3 : ¬ (k : Int) - 1 > 0 := by omega
      have ik4 : ¬ (0 : Int) < (k : Int) - 1 := by omega
      go_wp2
      go_ret
      exact ⟨congrArg (fun b => Ending.returned (.bool b)) HR.out.symm, hbw⟩
end Go.Proofs.YtkpagmfaccmiaaaGreat

/- Contract: isNode (layer 08). Printed by wip/tools/gen_ndf08.py. -/

namespace Go.Proofs.YtkpagmfaccmiaaaGreat

open Go.RowKit

attribute [local go_sem] Oper.semAt_some

theorem ok_plain (n : Nd) (h : n.plain = false) : n.ok = false := by unfold Nd.ok; rw [h]; rfl
theorem ok_of (n : Nd) (h : n.plain = true) : n.ok = (if n.kind = 1 then n.head.ok else if n.kind = 4 then decide (1 ≤ n.data.length) && decide (n.data.length ≤ 238) else if n.kind = 5 then true else if n.kind = 2 then !n.cells.isEmpty && Nd.cellsOk 2 n.cells else if n.kind = 3 then Nd.cellsOk 3 n.cells else false) := by unfold Nd.ok; rw [h]; rfl
theorem nd9 {w : World} {g : Nat} {a0 a1 a2 a3 a4 a5 a6 a7 a8 : Value} {t : TypeId} {fr : Nat × Nat} (h : w.heap[g]? = some (.cells #[a0, a1, a2, a3, a4, a5, a6, a7, a8] t fr)) : w.cell? ⟨g, 0, none⟩ = some a0 ∧ w.cell? ⟨g, 2, none⟩ = some a2 ∧ w.cell? ⟨g, 4, none⟩ = some a4 ∧ w.cell? ⟨g, 5, none⟩ = some a5 ∧ w.cell? ⟨g, 6, none⟩ = some a6 ∧ w.cell? ⟨g, 7, none⟩ = some a7 ∧ w.cell? ⟨g, 8, none⟩ = some a8 := by
  refine ⟨?_, ?_, ?_, ?_, ?_, ?_, ?_⟩ <;> (rw [cell_of_row _ _ _ _ _ _ h]; rfl)

set_option maxRecDepth 100000 in
set_option maxHeartbeats 2000000 in
theorem isNode_no (k : Int) (lsn : Nat) (ca : Option Addr) (cl : List CellV) (cc next : Nat) (da : Option Addr) (data : List UInt8) (dc r p f e : Nat) (w : World) (hn : (NdV.mk k lsn ca cl cc next da data dc ⟨r, p, f, e⟩).In w) (hpl : (NdV.mk k lsn ca cl cc next da data dc ⟨r, p, f, e⟩).x.plain = false) :
    Calls Tryz.prog 14 #[.agg #[.int .i64 k, .int .u64 (lsn : Int), .slice ca cl.length cc, .int .u32 (next : Int), .slice da data.length dc, .int .u32 (r : Int), .int .u32 (p : Int), .int .u32 (f : Int), .int .u64 (e : Int)]] w fun e' w' => e' = .returned (.bool false) ∧ Ext w w' := by
  have hx0 := Ext.alloc w (.cells #[.int .i64 k, .int .u64 (lsn : Int), .slice ca cl.length cc, .int .u32 (next : Int), .slice da data.length dc, .int .u32 (r : Int), .int .u32 (p : Int), .int .u32 (f : Int), .int .u64 (e : Int)] 29)
  have hnx := hn.ext hx0
  have hr : RdC w ca cl := hn.cr
  have hl : cl.length ≤ 1000000 := hn.clen
  have hdl : data.length ≤ 1000000 := hn.dlen
  have hp := isPlain_any ⟨k, lsn, ca, cl, cc, next, da, data, dc, ⟨r, p, f, e⟩⟩
  rw [hpl] at hp
  simp only [NdV.val, NdV.cells] at hp
  have hg0 := heap_alloc_new w (.cells #[.int .i64 k, .int .u64 (lsn : Int), .slice ca cl.length cc, .int .u32 (next : Int), .slice da data.length dc, .int .u32 (r : Int), .int .u32 (p : Int), .int .u32 (f : Int), .int .u64 (e : Int)] 29)
  have Hg0 := Lib.hid hg0
  clear hg0
  have Hx0 := Lib.hid hx0
  have Hr := Lib.hid hr
  clear hx0 hn hnx hr
  go_enter Tryz.func14, Tryz.ntmps14
  go_wp2_with (go_at_call 29; refine (hp _).mono ?_; rintro e1 w1 ⟨rfl, hx1⟩; have Hx1 := Lib.hid hx1; obtain ⟨c0, c2, c4, c5, c6, c7, c8⟩ := nd9 ((hx1.block _ (lt_of_heap Hg0.out)).trans Hg0.out); clear hx1)
  go_ret
  exact ⟨rfl, Hx0.out.tr Hx1.out⟩

set_option maxRecDepth 100000 in
set_option maxHeartbeats 2000000 in
theorem isNode_1 (k : Int) (lsn : Nat) (ca : Option Addr) (cl : List CellV) (cc next : Nat) (da : Option Addr) (data : List UInt8) (dc r p f e : Nat) (w : World) (hn : (NdV.mk k lsn ca cl cc next da data dc ⟨r, p, f, e⟩).In w) (hpl : (NdV.mk k lsn ca cl cc next da data dc ⟨r, p, f, e⟩).x.plain = true) (hk : k = 1) :
    Calls Tryz.prog 14 #[.agg #[.int .i64 k, .int .u64 (lsn : Int), .slice ca cl.length cc, .int .u32 (next : Int), .slice da data.length dc, .int .u32 (r : Int), .int .u32 (p : Int), .int .u32 (f : Int), .int .u64 (e : Int)]] w fun e' w' => e' = .returned (.bool (Hd.mk r p f e).ok) ∧ Ext w w' := by
  have hx0 := Ext.alloc w (.cells #[.int .i64 k, .int .u64 (lsn : Int), .slice ca cl.length cc, .int .u32 (next : Int), .slice da data.length dc, .int .u32 (r : Int), .int .u32 (p : Int), .int .u32 (f : Int), .int .u64 (e : Int)] 29)
  have hnx := hn.ext hx0
  have hr : RdC w ca cl := hn.cr
  have hl : cl.length ≤ 1000000 := hn.clen
  have hdl : data.length ≤ 1000000 := hn.dlen
  have hp := isPlain_any ⟨k, lsn, ca, cl, cc, next, da, data, dc, ⟨r, p, f, e⟩⟩
  rw [hpl] at hp
  simp only [NdV.val, NdV.cells] at hp
  have hg0 := heap_alloc_new w (.cells #[.int .i64 k, .int .u64 (lsn : Int), .slice ca cl.length cc, .int .u32 (next : Int), .slice da data.length dc, .int .u32 (r : Int), .int .u32 (p : Int), .int .u32 (f : Int), .int .u64 (e : Int)] 29)
  have Hg0 := Lib.hid hg0
  clear hg0
  have Hx0 := Lib.hid hx0
  have Hr := Lib.hid hr
  clear hx0 hn hnx hr
  subst hk
  have hh := isHead_any ⟨r, p, f, e⟩
  simp only [Hd.cells] at hh
  go_enter Tryz.func14, Tryz.ntmps14
  go_wp2_with (first | (go_at_call 29; refine (hp _).mono ?_; rintro e1 w1 ⟨rfl, hx1⟩; have Hx1 := Lib.hid hx1; obtain ⟨c0, c2, c4, c5, c6, c7, c8⟩ := nd9 ((hx1.block _ (lt_of_heap Hg0.out)).trans Hg0.out); clear hx1) | (go_at_call 30; refine (hh _).mono ?_; rintro e2 w2 ⟨rfl, hx2⟩; have Hx2 := Lib.hid hx2; clear hx2))
  go_ret
  exact ⟨rfl, (Hx0.out.tr Hx1.out).tr Hx2.out⟩

set_option maxRecDepth 100000 in
set_option maxHeartbeats 2000000 in
theorem isNode_5 (k : Int) (lsn : Nat) (ca : Option Addr) (cl : List CellV) (cc next : Nat) (da : Option Addr) (data : List UInt8) (dc r p f e : Nat) (w : World) (hn : (NdV.mk k lsn ca cl cc next da data dc ⟨r, p, f, e⟩).In w) (hpl : (NdV.mk k lsn ca cl cc next da data dc ⟨r, p, f, e⟩).x.plain = true) (hk : k = 5) :
    Calls Tryz.prog 14 #[.agg #[.int .i64 k, .int .u64 (lsn : Int), .slice ca cl.length cc, .int .u32 (next : Int), .slice da data.length dc, .int .u32 (r : Int), .int .u32 (p : Int), .int .u32 (f : Int), .int .u64 (e : Int)]] w fun e' w' => e' = .returned (.bool true) ∧ Ext w w' := by
  have hx0 := Ext.alloc w (.cells #[.int .i64 k, .int .u64 (lsn : Int), .slice ca cl.length cc, .int .u32 (next : Int), .slice da data.length dc, .int .u32 (r : Int), .int .u32 (p : Int), .int .u32 (f : Int), .int .u64 (e : Int)] 29)
  have hnx := hn.ext hx0
  have hr : RdC w ca cl := hn.cr
  have hl : cl.length ≤ 1000000 := hn.clen
  have hdl : data.length ≤ 1000000 := hn.dlen
  have hp := isPlain_any ⟨k, lsn, ca, cl, cc, next, da, data, dc, ⟨r, p, f, e⟩⟩
  rw [hpl] at hp
  simp only [NdV.val, NdV.cells] at hp
  have hg0 := heap_alloc_new w (.cells #[.int .i64 k, .int .u64 (lsn : Int), .slice ca cl.length cc, .int .u32 (next : Int), .slice da data.length dc, .int .u32 (r : Int), .int .u32 (p : Int), .int .u32 (f : Int), .int .u64 (e : Int)] 29)
  have Hg0 := Lib.hid hg0
  clear hg0
  have Hx0 := Lib.hid hx0
  have Hr := Lib.hid hr
  clear hx0 hn hnx hr
  subst hk
  go_enter Tryz.func14, Tryz.ntmps14
  go_wp2_with (go_at_call 29; refine (hp _).mono ?_; rintro e1 w1 ⟨rfl, hx1⟩; have Hx1 := Lib.hid hx1; obtain ⟨c0, c2, c4, c5, c6, c7, c8⟩ := nd9 ((hx1.block _ (lt_of_heap Hg0.out)).trans Hg0.out); clear hx1)
  go_ret
  exact ⟨rfl, Hx0.out.tr Hx1.out⟩

set_option maxRecDepth 100000 in
set_option maxHeartbeats 2000000 in
theorem isNode_4 (k : Int) (lsn : Nat) (ca : Option Addr) (cl : List CellV) (cc next : Nat) (da : Option Addr) (data : List UInt8) (dc r p f e : Nat) (w : World) (hn : (NdV.mk k lsn ca cl cc next da data dc ⟨r, p, f, e⟩).In w) (hpl : (NdV.mk k lsn ca cl cc next da data dc ⟨r, p, f, e⟩).x.plain = true) (hk : k = 4) :
    Calls Tryz.prog 14 #[.agg #[.int .i64 k, .int .u64 (lsn : Int), .slice ca cl.length cc, .int .u32 (next : Int), .slice da data.length dc, .int .u32 (r : Int), .int .u32 (p : Int), .int .u32 (f : Int), .int .u64 (e : Int)]] w fun e' w' => e' = .returned (.bool (decide (1 ≤ data.length) && decide (data.length ≤ 238))) ∧ Ext w w' := by
  have hx0 := Ext.alloc w (.cells #[.int .i64 k, .int .u64 (lsn : Int), .slice ca cl.length cc, .int .u32 (next : Int), .slice da data.length dc, .int .u32 (r : Int), .int .u32 (p : Int), .int .u32 (f : Int), .int .u64 (e : Int)] 29)
  have hnx := hn.ext hx0
  have hr : RdC w ca cl := hn.cr
  have hl : cl.length ≤ 1000000 := hn.clen
  have hdl : data.length ≤ 1000000 := hn.dlen
  have hp := isPlain_any ⟨k, lsn, ca, cl, cc, next, da, data, dc, ⟨r, p, f, e⟩⟩
  rw [hpl] at hp
  simp only [NdV.val, NdV.cells] at hp
  have hg0 := heap_alloc_new w (.cells #[.int .i64 k, .int .u64 (lsn : Int), .slice ca cl.length cc, .int .u32 (next : Int), .slice da data.length dc, .int .u32 (r : Int), .int .u32 (p : Int), .int .u32 (f : Int), .int .u64 (e : Int)] 29)
  have Hg0 := Lib.hid hg0
  clear hg0
  have Hx0 := Lib.hid hx0
  have Hr := Lib.hid hr
  clear hx0 hn hnx hr
  subst hk
  by_cases d1 : data.length ≥ 1
  · have i1 : (data.length : Int) ≥ 1 := by omega
    have hR : (decide (1 ≤ data.length) && decide (data.length ≤ 238)) = decide ((data.length : Int) ≤ 238) := by rw [Bool.eq_iff_iff]; simp; omega
    rw [hR]
    clear hR
    go_enter Tryz.func14, Tryz.ntmps14
    go_wp2_with (go_at_call 29; refine (hp _).mono ?_; rintro e1 w1 ⟨rfl, hx1⟩; have Hx1 := Lib.hid hx1; obtain ⟨c0, c2, c4, c5, c6, c7, c8⟩ := nd9 ((hx1.block _ (lt_of_heap Hg0.out)).trans Hg0.out); clear hx1)
    go_ret
    exact ⟨rfl, Hx0.out.tr Hx1.out⟩
  · have i1 : ¬ (data.length : Int) ≥ 1 := by omega
    have hR : (decide (1 ≤ data.length) && decide (data.length ≤ 238)) = false := by rw [Bool.eq_false_iff]; simp; omega
    rw [hR]
    clear hR
    go_enter Tryz.func14, Tryz.ntmps14
    go_wp2_with (go_at_call 29; refine (hp _).mono ?_; rintro e1 w1 ⟨rfl, hx1⟩; have Hx1 := Lib.hid hx1; obtain ⟨c0, c2, c4, c5, c6, c7, c8⟩ := nd9 ((hx1.block _ (lt_of_heap Hg0.out)).trans Hg0.out); clear hx1)
    go_ret
    exact ⟨rfl, Hx0.out.tr Hx1.out⟩

set_option maxRecDepth 100000 in
set_option maxHeartbeats 2000000 in
theorem isNode_o (k : Int) (lsn : Nat) (ca : Option Addr) (cl : List CellV) (cc next : Nat) (da : Option Addr) (data : List UInt8) (dc r p f e : Nat) (w : World) (hn : (NdV.mk k lsn ca cl cc next da data dc ⟨r, p, f, e⟩).In w) (hpl : (NdV.mk k lsn ca cl cc next da data dc ⟨r, p, f, e⟩).x.plain = true) (hk : ¬ k = 1 ∧ ¬ k = 2 ∧ ¬ k = 3 ∧ ¬ k = 4 ∧ ¬ k = 5) :
    Calls Tryz.prog 14 #[.agg #[.int .i64 k, .int .u64 (lsn : Int), .slice ca cl.length cc, .int .u32 (next : Int), .slice da data.length dc, .int .u32 (r : Int), .int .u32 (p : Int), .int .u32 (f : Int), .int .u64 (e : Int)]] w fun e' w' => e' = .returned (.bool false) ∧ Ext w w' := by
  have hx0 := Ext.alloc w (.cells #[.int .i64 k, .int .u64 (lsn : Int), .slice ca cl.length cc, .int .u32 (next : Int), .slice da data.length dc, .int .u32 (r : Int), .int .u32 (p : Int), .int .u32 (f : Int), .int .u64 (e : Int)] 29)
  have hnx := hn.ext hx0
  have hr : RdC w ca cl := hn.cr
  have hl : cl.length ≤ 1000000 := hn.clen
  have hdl : data.length ≤ 1000000 := hn.dlen
  have hp := isPlain_any ⟨k, lsn, ca, cl, cc, next, da, data, dc, ⟨r, p, f, e⟩⟩
  rw [hpl] at hp
  simp only [NdV.val, NdV.cells] at hp
  have hg0 := heap_alloc_new w (.cells #[.int .i64 k, .int .u64 (lsn : Int), .slice ca cl.length cc, .int .u32 (next : Int), .slice da data.length dc, .int .u32 (r : Int), .int .u32 (p : Int), .int .u32 (f : Int), .int .u64 (e : Int)] 29)
  have Hg0 := Lib.hid hg0
  clear hg0
  have Hx0 := Lib.hid hx0
  have Hr := Lib.hid hr
  clear hx0 hn hnx hr
  obtain ⟨k1, k2, k3, k4, k5⟩ := hk
  go_enter Tryz.func14, Tryz.ntmps14
  go_wp2_with (go_at_call 29; refine (hp _).mono ?_; rintro e1 w1 ⟨rfl, hx1⟩; have Hx1 := Lib.hid hx1; obtain ⟨c0, c2, c4, c5, c6, c7, c8⟩ := nd9 ((hx1.block _ (lt_of_heap Hg0.out)).trans Hg0.out); clear hx1)
  go_ret
  exact ⟨rfl, Hx0.out.tr Hx1.out⟩
end Go.Proofs.YtkpagmfaccmiaaaGreat

/- Contract: isNode, all kinds (layer 08). Printed by wip/tools/gen_ndg08.py. -/

namespace Go.Proofs.YtkpagmfaccmiaaaGreat

open Go.RowKit

attribute [local go_sem] Oper.semAt_some

set_option maxRecDepth 100000 in
set_option maxHeartbeats 2000000 in
theorem isNode_c3 (k : Int) (lsn : Nat) (ca : Option Addr) (cl : List CellV) (cc next : Nat) (da : Option Addr) (data : List UInt8) (dc r p f e : Nat) (w : World) (hn : (NdV.mk k lsn ca cl cc next da data dc ⟨r, p, f, e⟩).In w) (hpl : (NdV.mk k lsn ca cl cc next da data dc ⟨r, p, f, e⟩).x.plain = true) (hk : k = 3) :
    Calls Tryz.prog 14 #[.agg #[.int .i64 k, .int .u64 (lsn : Int), .slice ca cl.length cc, .int .u32 (next : Int), .slice da data.length dc, .int .u32 (r : Int), .int .u32 (p : Int), .int .u32 (f : Int), .int .u64 (e : Int)]] w fun e' w' => e' = .returned (.bool ((cl.all fun c => decide (c.x.putL.2 = 0)) && (!Nd.twins (cl.map CellV.x) && Nd.sorted (cl.map CellV.x)))) ∧ Ext w w' := by
  have hx0 := Ext.alloc w (.cells #[.int .i64 k, .int .u64 (lsn : Int), .slice ca cl.length cc, .int .u32 (next : Int), .slice da data.length dc, .int .u32 (r : Int), .int .u32 (p : Int), .int .u32 (f : Int), .int .u64 (e : Int)] 29)
  have hnx := hn.ext hx0
  have hr : RdC w ca cl := hn.cr
  have hl : cl.length ≤ 1000000 := hn.clen
  have hdl : data.length ≤ 1000000 := hn.dlen
  have hp := isPlain_any ⟨k, lsn, ca, cl, cc, next, da, data, dc, ⟨r, p, f, e⟩⟩
  rw [hpl] at hp
  simp only [NdV.val, NdV.cells] at hp
  have hg0 := heap_alloc_new w (.cells #[.int .i64 k, .int .u64 (lsn : Int), .slice ca cl.length cc, .int .u32 (next : Int), .slice da data.length dc, .int .u32 (r : Int), .int .u32 (p : Int), .int .u32 (f : Int), .int .u64 (e : Int)] 29)
  have Hg0 := Lib.hid hg0
  clear hg0
  have Hx0 := Lib.hid hx0
  have Hr := Lib.hid hr
  clear hx0 hn hnx hr
  subst hk
  have hco := coderOf_any 3
  rw [show coderA 3 = #[.func (.func 55) #[] #[], .func (.func 56) #[] #[]] from rfl] at hco
  have hct := fun g W h1 h2 => containsC_3 ca cl cc g W h1 hl h2
  have htw := fun W h1 => hasTwins_any ca cl cc W h1 hl
  have hso := fun W h1 => isSorted_any ca cl cc W h1 hl
  obtain ⟨A, hA⟩ : ∃ A, A = (cl.all fun c => decide (c.x.putL.2 = 0)) := ⟨_, rfl⟩
  obtain ⟨T, hT⟩ : ∃ T, T = Nd.twins (cl.map CellV.x) := ⟨_, rfl⟩
  obtain ⟨S, hS⟩ : ∃ S, S = Nd.sorted (cl.map CellV.x) := ⟨_, rfl⟩
  rw [← hA] at hct
  rw [← hT] at htw
  rw [← hS] at hso
  rw [← hA, ← hT, ← hS]
  clear hA hT hS
  have Hct := Lib.hid hct
  have Htw := Lib.hid htw
  have Hso := Lib.hid hso
  clear hct htw hso
  cases A with
  | false =>
    go_enter Tryz.func14, Tryz.ntmps14
    go_wp2_with (first | (go_at_call 29; refine (hp _).mono ?_; rintro e1 w1 ⟨rfl, hx1⟩; have Hx1 := Lib.hid hx1; obtain ⟨c0, c2, c4, c5, c6, c7, c8⟩ := nd9 ((hx1.block _ (lt_of_heap Hg0.out)).trans Hg0.out); have Hx01 := Lib.hid hx1; clear hx1) | (go_at_call 21; refine (hco _).mono ?_; rintro e2 w2 ⟨rfl, hx2⟩; have Hx12 := Lib.hid ((Hx01.out.tr hx2).tr (Ext.alloc w2 (.cells #[.func (.func 55) #[] #[], .func (.func 56) #[] #[]] 56))); obtain ⟨b0, b2, _⟩ := nd9 ((Hx12.out.block _ (lt_of_heap Hg0.out)).trans Hg0.out); clear hx2) | (go_at_call 33; refine (Hct.out _ _ (Hr.out.below (Hx0.out.tr Hx12.out)) (heap_alloc_new w2 _)).mono ?_; rintro e3 w3 ⟨rfl, hx3⟩; have Hx13 := Lib.hid (Hx12.out.tr hx3); obtain ⟨_, d2, _⟩ := nd9 ((Hx13.out.block _ (lt_of_heap Hg0.out)).trans Hg0.out); clear hx3))
    go_ret
    exact ⟨by first | rfl | simp, Hx0.out.tr Hx13.out⟩
  | true =>
    cases T with
    | true =>
      go_enter Tryz.func14, Tryz.ntmps14
      go_wp2_with (first | (go_at_call 29; refine (hp _).mono ?_; rintro e1 w1 ⟨rfl, hx1⟩; have Hx1 := Lib.hid hx1; obtain ⟨c0, c2, c4, c5, c6, c7, c8⟩ := nd9 ((hx1.block _ (lt_of_heap Hg0.out)).trans Hg0.out); have Hx01 := Lib.hid hx1; clear hx1) | (go_at_call 21; refine (hco _).mono ?_; rintro e2 w2 ⟨rfl, hx2⟩; have Hx12 := Lib.hid ((Hx01.out.tr hx2).tr (Ext.alloc w2 (.cells #[.func (.func 55) #[] #[], .func (.func 56) #[] #[]] 56))); obtain ⟨b0, b2, _⟩ := nd9 ((Hx12.out.block _ (lt_of_heap Hg0.out)).trans Hg0.out); clear hx2) | (go_at_call 33; refine (Hct.out _ _ (Hr.out.below (Hx0.out.tr Hx12.out)) (heap_alloc_new w2 _)).mono ?_; rintro e3 w3 ⟨rfl, hx3⟩; have Hx13 := Lib.hid (Hx12.out.tr hx3); obtain ⟨_, d2, _⟩ := nd9 ((Hx13.out.block _ (lt_of_heap Hg0.out)).trans Hg0.out); clear hx3) | (go_at_call 34; refine (Htw.out _ (Hr.out.below (Hx0.out.tr Hx13.out))).mono ?_; rintro e4 w4 ⟨rfl, hx4⟩; have Hx14 := Lib.hid (Hx13.out.tr hx4); obtain ⟨_, f2, _⟩ := nd9 ((Hx14.out.block _ (lt_of_heap Hg0.out)).trans Hg0.out); clear hx4))
      go_ret
      exact ⟨by first | rfl | simp, Hx0.out.tr Hx14.out⟩
    | false =>
      go_enter Tryz.func14, Tryz.ntmps14
      go_wp2_with (first | (go_at_call 29; refine (hp _).mono ?_; rintro e1 w1 ⟨rfl, hx1⟩; have Hx1 := Lib.hid hx1; obtain ⟨c0, c2, c4, c5, c6, c7, c8⟩ := nd9 ((hx1.block _ (lt_of_heap Hg0.out)).trans Hg0.out); have Hx01 := Lib.hid hx1; clear hx1) | (go_at_call 21; refine (hco _).mono ?_; rintro e2 w2 ⟨rfl, hx2⟩; have Hx12 := Lib.hid ((Hx01.out.tr hx2).tr (Ext.alloc w2 (.cells #[.func (.func 55) #[] #[], .func (.func 56) #[] #[]] 56))); obtain ⟨b0, b2, _⟩ := nd9 ((Hx12.out.block _ (lt_of_heap Hg0.out)).trans Hg0.out); clear hx2) | (go_at_call 33; refine (Hct.out _ _ (Hr.out.below (Hx0.out.tr Hx12.out)) (heap_alloc_new w2 _)).mono ?_; rintro e3 w3 ⟨rfl, hx3⟩; have Hx13 := Lib.hid (Hx12.out.tr hx3); obtain ⟨_, d2, _⟩ := nd9 ((Hx13.out.block _ (lt_of_heap Hg0.out)).trans Hg0.out); clear hx3) | (go_at_call 34; refine (Htw.out _ (Hr.out.below (Hx0.out.tr Hx13.out))).mono ?_; rintro e4 w4 ⟨rfl, hx4⟩; have Hx14 := Lib.hid (Hx13.out.tr hx4); obtain ⟨_, f2, _⟩ := nd9 ((Hx14.out.block _ (lt_of_heap Hg0.out)).trans Hg0.out); clear hx4) | (go_at_call 35; refine (Hso.out _ (Hr.out.below (Hx0.out.tr Hx14.out))).mono ?_; rintro e5 w5 ⟨rfl, hx5⟩; have Hx15 := Lib.hid (Hx14.out.tr hx5); clear hx5))
      go_ret
      exact ⟨by first | rfl | simp, Hx0.out.tr Hx15.out⟩

set_option maxRecDepth 100000 in
set_option maxHeartbeats 2000000 in
theorem isNode_c2 (k : Int) (lsn : Nat) (ca : Option Addr) (cl : List CellV) (cc next : Nat) (da : Option Addr) (data : List UInt8) (dc r p f e : Nat) (w : World) (hn : (NdV.mk k lsn ca cl cc next da data dc ⟨r, p, f, e⟩).In w) (hpl : (NdV.mk k lsn ca cl cc next da data dc ⟨r, p, f, e⟩).x.plain = true) (hk : k = 2) (hcl : cl.length ≠ 0) :
    Calls Tryz.prog 14 #[.agg #[.int .i64 k, .int .u64 (lsn : Int), .slice ca cl.length cc, .int .u32 (next : Int), .slice da data.length dc, .int .u32 (r : Int), .int .u32 (p : Int), .int .u32 (f : Int), .int .u64 (e : Int)]] w fun e' w' => e' = .returned (.bool ((cl.all fun c => decide (c.x.putI.2 = 0)) && (!Nd.twins (cl.map CellV.x) && Nd.sorted (cl.map CellV.x)))) ∧ Ext w w' := by
  have hx0 := Ext.alloc w (.cells #[.int .i64 k, .int .u64 (lsn : Int), .slice ca cl.length cc, .int .u32 (next : Int), .slice da data.length dc, .int .u32 (r : Int), .int .u32 (p : Int), .int .u32 (f : Int), .int .u64 (e : Int)] 29)
  have hnx := hn.ext hx0
  have hr : RdC w ca cl := hn.cr
  have hl : cl.length ≤ 1000000 := hn.clen
  have hdl : data.length ≤ 1000000 := hn.dlen
  have hp := isPlain_any ⟨k, lsn, ca, cl, cc, next, da, data, dc, ⟨r, p, f, e⟩⟩
  rw [hpl] at hp
  simp only [NdV.val, NdV.cells] at hp
  have hg0 := heap_alloc_new w (.cells #[.int .i64 k, .int .u64 (lsn : Int), .slice ca cl.length cc, .int .u32 (next : Int), .slice da data.length dc, .int .u32 (r : Int), .int .u32 (p : Int), .int .u32 (f : Int), .int .u64 (e : Int)] 29)
  have Hg0 := Lib.hid hg0
  clear hg0
  have Hx0 := Lib.hid hx0
  have Hr := Lib.hid hr
  clear hx0 hn hnx hr
  subst hk
  have hco := coderOf_any 2
  rw [show coderA 2 = #[.func (.func 57) #[] #[], .func (.func 58) #[] #[]] from rfl] at hco
  have hct := fun g W h1 h2 => containsC_2 ca cl cc g W h1 hl h2
  have htw := fun W h1 => hasTwins_any ca cl cc W h1 hl
  have hso := fun W h1 => isSorted_any ca cl cc W h1 hl
  obtain ⟨A, hA⟩ : ∃ A, A = (cl.all fun c => decide (c.x.putI.2 = 0)) := ⟨_, rfl⟩
  obtain ⟨T, hT⟩ : ∃ T, T = Nd.twins (cl.map CellV.x) := ⟨_, rfl⟩
  obtain ⟨S, hS⟩ : ∃ S, S = Nd.sorted (cl.map CellV.x) := ⟨_, rfl⟩
  rw [← hA] at hct
  rw [← hT] at htw
  rw [← hS] at hso
  rw [← hA, ← hT, ← hS]
  clear hA hT hS
  have Hct := Lib.hid hct
  have Htw := Lib.hid htw
  have Hso := Lib.hid hso
  clear hct htw hso
  have icl : ¬ (cl.length : Int) = 0 := by omega
  cases A with
  | false =>
    go_enter Tryz.func14, Tryz.ntmps14
    go_wp2_with (first | (go_at_call 29; refine (hp _).mono ?_; rintro e1 w1 ⟨rfl, hx1⟩; have Hx1 := Lib.hid hx1; obtain ⟨c0, c2, c4, c5, c6, c7, c8⟩ := nd9 ((hx1.block _ (lt_of_heap Hg0.out)).trans Hg0.out); have Hx01 := Lib.hid hx1; clear hx1) | (go_at_call 21; refine (hco _).mono ?_; rintro e2 w2 ⟨rfl, hx2⟩; have Hx12 := Lib.hid ((Hx01.out.tr hx2).tr (Ext.alloc w2 (.cells #[.func (.func 57) #[] #[], .func (.func 58) #[] #[]] 56))); obtain ⟨b0, b2, _⟩ := nd9 ((Hx12.out.block _ (lt_of_heap Hg0.out)).trans Hg0.out); clear hx2) | (go_at_call 33; refine (Hct.out _ _ (Hr.out.below (Hx0.out.tr Hx12.out)) (heap_alloc_new w2 _)).mono ?_; rintro e3 w3 ⟨rfl, hx3⟩; have Hx13 := Lib.hid (Hx12.out.tr hx3); obtain ⟨_, d2, _⟩ := nd9 ((Hx13.out.block _ (lt_of_heap Hg0.out)).trans Hg0.out); clear hx3))
    go_ret
    exact ⟨by first | rfl | simp, Hx0.out.tr Hx13.out⟩
  | true =>
    cases T with
    | true =>
      go_enter Tryz.func14, Tryz.ntmps14
      go_wp2_with (first | (go_at_call 29; refine (hp _).mono ?_; rintro e1 w1 ⟨rfl, hx1⟩; have Hx1 := Lib.hid hx1; obtain ⟨c0, c2, c4, c5, c6, c7, c8⟩ := nd9 ((hx1.block _ (lt_of_heap Hg0.out)).trans Hg0.out); have Hx01 := Lib.hid hx1; clear hx1) | (go_at_call 21; refine (hco _).mono ?_; rintro e2 w2 ⟨rfl, hx2⟩; have Hx12 := Lib.hid ((Hx01.out.tr hx2).tr (Ext.alloc w2 (.cells #[.func (.func 57) #[] #[], .func (.func 58) #[] #[]] 56))); obtain ⟨b0, b2, _⟩ := nd9 ((Hx12.out.block _ (lt_of_heap Hg0.out)).trans Hg0.out); clear hx2) | (go_at_call 33; refine (Hct.out _ _ (Hr.out.below (Hx0.out.tr Hx12.out)) (heap_alloc_new w2 _)).mono ?_; rintro e3 w3 ⟨rfl, hx3⟩; have Hx13 := Lib.hid (Hx12.out.tr hx3); obtain ⟨_, d2, _⟩ := nd9 ((Hx13.out.block _ (lt_of_heap Hg0.out)).trans Hg0.out); clear hx3) | (go_at_call 34; refine (Htw.out _ (Hr.out.below (Hx0.out.tr Hx13.out))).mono ?_; rintro e4 w4 ⟨rfl, hx4⟩; have Hx14 := Lib.hid (Hx13.out.tr hx4); obtain ⟨_, f2, _⟩ := nd9 ((Hx14.out.block _ (lt_of_heap Hg0.out)).trans Hg0.out); clear hx4))
      go_ret
      exact ⟨by first | rfl | simp, Hx0.out.tr Hx14.out⟩
    | false =>
      go_enter Tryz.func14, Tryz.ntmps14
      go_wp2_with (first | (go_at_call 29; refine (hp _).mono ?_; rintro e1 w1 ⟨rfl, hx1⟩; have Hx1 := Lib.hid hx1; obtain ⟨c0, c2, c4, c5, c6, c7, c8⟩ := nd9 ((hx1.block _ (lt_of_heap Hg0.out)).trans Hg0.out); have Hx01 := Lib.hid hx1; clear hx1) | (go_at_call 21; refine (hco _).mono ?_; rintro e2 w2 ⟨rfl, hx2⟩; have Hx12 := Lib.hid ((Hx01.out.tr hx2).tr (Ext.alloc w2 (.cells #[.func (.func 57) #[] #[], .func (.func 58) #[] #[]] 56))); obtain ⟨b0, b2, _⟩ := nd9 ((Hx12.out.block _ (lt_of_heap Hg0.out)).trans Hg0.out); clear hx2) | (go_at_call 33; refine (Hct.out _ _ (Hr.out.below (Hx0.out.tr Hx12.out)) (heap_alloc_new w2 _)).mono ?_; rintro e3 w3 ⟨rfl, hx3⟩; have Hx13 := Lib.hid (Hx12.out.tr hx3); obtain ⟨_, d2, _⟩ := nd9 ((Hx13.out.block _ (lt_of_heap Hg0.out)).trans Hg0.out); clear hx3) | (go_at_call 34; refine (Htw.out _ (Hr.out.below (Hx0.out.tr Hx13.out))).mono ?_; rintro e4 w4 ⟨rfl, hx4⟩; have Hx14 := Lib.hid (Hx13.out.tr hx4); obtain ⟨_, f2, _⟩ := nd9 ((Hx14.out.block _ (lt_of_heap Hg0.out)).trans Hg0.out); clear hx4) | (go_at_call 35; refine (Hso.out _ (Hr.out.below (Hx0.out.tr Hx14.out))).mono ?_; rintro e5 w5 ⟨rfl, hx5⟩; have Hx15 := Lib.hid (Hx14.out.tr hx5); clear hx5))
      go_ret
      exact ⟨by first | rfl | simp, Hx0.out.tr Hx15.out⟩

set_option maxRecDepth 100000 in
set_option maxHeartbeats 2000000 in
theorem isNode_c20 (k : Int) (lsn : Nat) (ca : Option Addr) (cl : List CellV) (cc next : Nat) (da : Option Addr) (data : List UInt8) (dc r p f e : Nat) (w : World) (hn : (NdV.mk k lsn ca cl cc next da data dc ⟨r, p, f, e⟩).In w) (hpl : (NdV.mk k lsn ca cl cc next da data dc ⟨r, p, f, e⟩).x.plain = true) (hk : k = 2) (hcl : cl.length = 0) :
    Calls Tryz.prog 14 #[.agg #[.int .i64 k, .int .u64 (lsn : Int), .slice ca cl.length cc, .int .u32 (next : Int), .slice da data.length dc, .int .u32 (r : Int), .int .u32 (p : Int), .int .u32 (f : Int), .int .u64 (e : Int)]] w fun e' w' => e' = .returned (.bool false) ∧ Ext w w' := by
  have hx0 := Ext.alloc w (.cells #[.int .i64 k, .int .u64 (lsn : Int), .slice ca cl.length cc, .int .u32 (next : Int), .slice da data.length dc, .int .u32 (r : Int), .int .u32 (p : Int), .int .u32 (f : Int), .int .u64 (e : Int)] 29)
  have hnx := hn.ext hx0
  have hr : RdC w ca cl := hn.cr
  have hl : cl.length ≤ 1000000 := hn.clen
  have hdl : data.length ≤ 1000000 := hn.dlen
  have hp := isPlain_any ⟨k, lsn, ca, cl, cc, next, da, data, dc, ⟨r, p, f, e⟩⟩
  rw [hpl] at hp
  simp only [NdV.val, NdV.cells] at hp
  have hg0 := heap_alloc_new w (.cells #[.int .i64 k, .int .u64 (lsn : Int), .slice ca cl.length cc, .int .u32 (next : Int), .slice da data.length dc, .int .u32 (r : Int), .int .u32 (p : Int), .int .u32 (f : Int), .int .u64 (e : Int)] 29)
  have Hg0 := Lib.hid hg0
  clear hg0
  have Hx0 := Lib.hid hx0
  have Hr := Lib.hid hr
  clear hx0 hn hnx hr
  subst hk
  obtain rfl : cl = [] := List.length_eq_zero_iff.1 hcl
  rw [List.length_nil] at hp Hg0 Hx0 ⊢
  clear hcl
  go_enter Tryz.func14, Tryz.ntmps14
  go_wp2_with (go_at_call 29; refine (hp _).mono ?_; rintro e1 w1 ⟨rfl, hx1⟩; have Hx1 := Lib.hid hx1; obtain ⟨c0, c2, c4, c5, c6, c7, c8⟩ := nd9 ((hx1.block _ (lt_of_heap Hg0.out)).trans Hg0.out); clear hx1)
  go_ret
  exact ⟨rfl, Hx0.out.tr Hx1.out⟩

theorem all_map (k : Int) (l : List CellV) : (l.map CellV.x).all (fun c => decide ((c.put k).2 = 0)) = l.all fun c => decide ((c.x.put k).2 = 0) := by rw [List.all_map]; rfl
theorem isNode_any (n : NdV) (w : World) (hn : n.In w) : Calls Tryz.prog 14 #[n.val] w fun e w' => e = .returned (.bool n.x.ok) ∧ Ext w w' := by
  obtain ⟨k, lsn, ca, cl, cc, next, da, data, dc, ⟨r, p, f, e⟩⟩ := n
  cases hpl : (NdV.mk k lsn ca cl cc next da data dc ⟨r, p, f, e⟩).x.plain with
  | false =>
    rw [ok_plain _ hpl]
    exact isNode_no k lsn ca cl cc next da data dc r p f e w hn hpl
  | true =>
    rw [ok_of _ hpl]
    show Calls Tryz.prog 14 _ w fun e' w' => e' = .returned (.bool (if k = 1 then (Hd.mk r p f e).ok else if k = 4 then decide (1 ≤ data.length) && decide (data.length ≤ 238) else if k = 5 then true else if k = 2 then !(cl.map CellV.x).isEmpty && Nd.cellsOk 2 (cl.map CellV.x) else if k = 3 then Nd.cellsOk 3 (cl.map CellV.x) else false)) ∧ Ext w w'
    by_cases k1 : k = 1
    · rw [if_pos k1]
      exact isNode_1 k lsn ca cl cc next da data dc r p f e w hn hpl k1
    rw [if_neg k1]
    by_cases k4 : k = 4
    · rw [if_pos k4]
      exact isNode_4 k lsn ca cl cc next da data dc r p f e w hn hpl k4
    rw [if_neg k4]
    by_cases k5 : k = 5
    · rw [if_pos k5]
      exact isNode_5 k lsn ca cl cc next da data dc r p f e w hn hpl k5
    rw [if_neg k5]
    by_cases k2 : k = 2
    · rw [if_pos k2]
      by_cases hcl : cl.length = 0
      · have : (!(cl.map CellV.x).isEmpty && Nd.cellsOk 2 (cl.map CellV.x)) = false := by rw [List.length_eq_zero_iff.1 hcl]; rfl
        rw [this]
        exact isNode_c20 k lsn ca cl cc next da data dc r p f e w hn hpl k2 hcl
      · have : (!(cl.map CellV.x).isEmpty && Nd.cellsOk 2 (cl.map CellV.x)) = ((cl.all fun c => decide (c.x.putI.2 = 0)) && (!Nd.twins (cl.map CellV.x) && Nd.sorted (cl.map CellV.x))) := by
          rw [rise_of]
          unfold Nd.cellsOk
          rw [all_map]
          have hne : (cl.map CellV.x).isEmpty = false := by
            cases cl with
            | nil => simp at hcl
            | cons _ _ => rfl
          rw [hne]
          rfl
        rw [this]
        exact isNode_c2 k lsn ca cl cc next da data dc r p f e w hn hpl k2 hcl
    rw [if_neg k2]
    by_cases k3 : k = 3
    · rw [if_pos k3]
      have : Nd.cellsOk 3 (cl.map CellV.x) = ((cl.all fun c => decide (c.x.putL.2 = 0)) && (!Nd.twins (cl.map CellV.x) && Nd.sorted (cl.map CellV.x))) := by
        rw [rise_of]
        unfold Nd.cellsOk
        rw [all_map]
        rfl
      rw [this]
      exact isNode_c3 k lsn ca cl cc next da data dc r p f e w hn hpl k3
    rw [if_neg k3]
    exact isNode_o k lsn ca cl cc next da data dc r p f e w hn hpl ⟨k1, k2, k3, k4, k5⟩
end Go.Proofs.YtkpagmfaccmiaaaGreat
