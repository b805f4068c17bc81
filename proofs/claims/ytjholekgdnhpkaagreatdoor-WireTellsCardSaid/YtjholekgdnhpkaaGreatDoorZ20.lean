/- Texts of the proof, laid together: Quick WrV. -/
import Derived.Test.YtjholekgdnhpkaaGreatDoorZ1
import Derived.Test.YtjholekgdnhpkaaGreatDoorZ32
import Derived.Test.YtjholekgdnhpkaaGreatDoorZ30
import Derived.Test.YtjholekgdnhpkaaGreatDoorZ6
import Derived.Test.YtjholekgdnhpkaaGreatDoorZ31
import Derived.Test.YtjholekgdnhpkaaGreatDoorZ3
set_option linter.unusedVariables false
set_option linter.unusedSimpArgs false
set_option linter.unusedSectionVars false
namespace Go.Proofs.YtjholekgdnhpkaaGreatDoor
open Go.RowKit
def quickOp (ops : Array Oper) (o : Oper) (a : Act) : Option Act :=
 match Region.wanted o (yielded ops a.tmps) with
 | false => some (a.put o.dst undef)
 | true => match o.op with
  | .move x => some (a.put o.dst (a.eval x))
  | .pick c x y => match a.eval c with
   | .bool b => some (a.put o.dst (if b = true then a.eval x else a.eval y))
   | _ => none
  | _ => none
def quick (ops : Array Oper) : List Oper → Act → Option Act
 | [], a => some a
 | o :: r, a => match quickOp ops o a with
  | some a' => quick ops r a'
  | none => none
section
variable {P : Program} {ops : Array Oper} {Q : Exit → Act → World → Prop} {w : World}
theorem quickOp_sound {o : Oper} {rest : List Oper} {a a' : Act} (h : quickOp ops o a = some a') (g : wpList P ops Q rest a' w) : wpList P ops Q (o :: rest) a w := by
 unfold quickOp at h
 cases hw : Region.wanted o (yielded ops a.tmps) with
 | false =>
  rw [hw] at h
  injection h with h
  subst h
  exact wpList_skip hw g
 | true =>
  rw [hw] at h
  simp only at h
  refine wpList_want hw fun K hK => ?_
  unfold Oper.wp execOp
  split at h
  ·
   next x he =>
   injection h with h
   subst h
   rw [he]
   exact hK _ _ g
  ·
   next c x y he =>
   split at h
   ·
    next b hb =>
    injection h with h
    subst h
    rw [he]
    simp only [hb]
    exact hK _ _ g
   ·
    cases h
  ·
   cases h
theorem quick_sound : ∀ {rest : List Oper} {a a' : Act}, quick ops rest a = some a' → wpList P ops Q [] a' w → wpList P ops Q rest a w
 | [], a, a', h, g => by
  injection h with h
  subst h
  exact g
 | o :: r, a, a', h, g => by
  unfold quick at h
  split at h
  ·
   next b hb => exact quickOp_sound hb (quick_sound h g)
  ·
   cases h
theorem quick_tail {rest : List Oper} {a : Act} (n : Nat) (tail : List Value) (h : quick ops rest a = some ⟨(a.tmps.toList.take n ++ tail).toArray, a.defers⟩) (g : wpList P ops Q [] ⟨(a.tmps.toList.take n ++ tail).toArray, a.defers⟩ w) : wpList P ops Q rest a w := quick_sound h g
theorem wpList_runS {rest : List Oper} {o : Oper} {a : Act} (hgd : Region.wanted o (yielded ops a.tmps) = true) (v : Value) (w' : World)
  (hr : (execOp a.eval o).run P w = .ok (.value v) w') (h : Hid (wpList P ops Q rest (a.put o.dst v) w')) : wpList P ops Q (o :: rest) a w :=
 wpList_want hgd fun K hK => by
  unfold Oper.wp
  rw [hr, Oper.upon_value]
  exact hK _ _ h.out
theorem ex_neqI {o : Oper} {a : Act} {t u : TypeId} {x y : Operand} {k : IntKind} {p q : Int} (ho : o.op = .binOp .neq t x y u) (hx : a.eval x = .int k p) (hy : a.eval y = .int k q) : (execOp a.eval o).run P w = .ok (.value (.bool (p != q))) w := by
 unfold execOp
 simp only [ho, hx, hy]
 go_simp
end
end Go.Proofs.YtjholekgdnhpkaaGreatDoor
namespace Go.Proofs.YtjholekgdnhpkaaGreatDoor
open Go.RowKit
attribute [local go_sem] Oper.semAt_some
theorem neqSumW {x y : List UInt8} (w : World) (hx : x.length = 32) (hy : y.length = 32) : (binOp .neq 26 (.agg (bvs x).toArray) (.agg (bvs y).toArray)).run Tryz.prog w = .ok (.bool (!(x == y))) w := by
 rw [run_neq_struct, show (10000 : Nat) = 9998 + 2 from rfl, run_eqArr x y w 9998 _ Tryz.underlying26 hx hy]
 simp
theorem guardSumN (w : World) (x y : Operand) (a b : Array Value) : (eqGuard .neq 26 x y (.agg a) (.agg b)).run Tryz.prog w = .ok () w := by
 exact run_eqGuard_agg w .neq 26 x y a b (by kernel_rfl)
theorem neqBoolW (w : World) (p q : Bool) : (binOp .neq 4 (.bool p) (.bool q)).run Tryz.prog w = .ok (.bool (p != q)) w := by cases p <;> cases q <;> kernel_rfl
theorem guardBoolW (w : World) (x y : Operand) (p q : Bool) : (eqGuard .neq 4 x y (.bool p) (.bool q)).run Tryz.prog w = .ok () w := by kernel_rfl
theorem WmV.subs_ne {M N : WmV} (k : Nat) (h1 : k < M.subs.length) (h2 : k < N.subs.length) (h : M.subs[k].x ≠ N.subs[k].x) : M.x ≠ N.x := fun e => h (by
 have e2 : M.subs.map WsV.x = N.subs.map WsV.x := congrArg Wm.subs e
 have e3 : (M.subs.map WsV.x)[k]? = (N.subs.map WsV.x)[k]? := by rw [e2]
 rw [List.getElem?_map, List.getElem?_map, List.getElem?_eq_getElem h1, List.getElem?_eq_getElem h2] at e3
 exact Option.some.inj e3)
theorem WmV.sigs_ne {M N : WmV} (k : Nat) (h1 : k < M.sigs.length) (h2 : k < N.sigs.length) (h : M.sigs[k] ≠ N.sigs[k]) : M.x ≠ N.x := fun e => h (by
 have e2 : M.sigs = N.sigs := congrArg Wm.sigs e
 have e3 : M.sigs[k]? = N.sigs[k]? := by rw [e2]
 rw [List.getElem?_eq_getElem h1, List.getElem?_eq_getElem h2] at e3
 exact Option.some.inj e3)
theorem WsV.x_ne {y z : WsV} {dl : Bool} (h : ((y.lsn : Int) != (z.lsn : Int)) = dl) (hd : dl = true) : y.x ≠ z.x := fun e => by
 have e2 : y.lsn = z.lsn := congrArg Ws.lsn e
 rw [e2, hd] at h
 simp at h
theorem WsV.x_ne2 {y z : WsV} (h : y.p.x.same z.p.x = false) : y.x ≠ z.x := fun e => by
 have e2 : y.p.x = z.p.x := congrArg Ws.p e
 rw [e2, (Pt.same_iff _ _).2 rfl] at h
 cases h
theorem WsV.x_eq {y z : WsV} (h : ((y.lsn : Int) != (z.lsn : Int)) = false) (h2 : y.p.x.same z.p.x = true) : y.x = z.x := by
 have e1 : y.lsn = z.lsn := by rw [bne_eq_false_iff_eq] at h; omega
 have e2 := (Pt.same_iff _ _).1 h2
 show Ws.mk y.p.x y.lsn = Ws.mk z.p.x z.lsn
 rw [e1, e2]
theorem take_step {α β : Type} (f : α → β) {l m : List α} {k : Nat} (h1 : k < l.length) (h2 : k < m.length) (h : (l.take k).map f = (m.take k).map f) (e : f l[k] = f m[k]) : (l.take (k + 1)).map f = (m.take (k + 1)).map f := by
 rw [List.take_add_one, List.take_add_one, List.getElem?_eq_getElem h1, List.getElem?_eq_getElem h2, List.map_append, List.map_append, h]
 simp [e]
set_option maxRecDepth 100000 in
set_option maxHeartbeats 4000000 in
theorem rsame_any (M N : WmV) (w : World) (hM : M.In w) (hN : N.In w) (f1 : M.subs.length ≤ 1000000) (f3 : M.ents.length ≤ 1000000) (f5 : M.sigs.length ≤ 1000000) :
  Calls Tryz.prog 11 #[.agg M.cells, .agg N.cells] w fun e w' => e = .returned (.bool (decide (M.x = N.x))) ∧ Ext w w' := by
 have hE : Ext w ((w.alloc (.cells M.cells MT)).alloc (.cells N.cells MT)) := Ext.tr (Ext.alloc _ _) (Ext.alloc _ _)
 have g0 : ((w.alloc (.cells M.cells MT)).alloc (.cells N.cells MT)).heap[w.heap.size]? = some (.cells M.cells MT (0, 0)) := ((Ext.alloc _ _).block _ (lt_of_heap (heap_alloc_new w _))).trans (heap_alloc_new w _)
 have k0 : ((w.alloc (.cells M.cells MT)).alloc (.cells N.cells MT)).heap[w.heap.size + 1]? = some (.cells N.cells MT (0, 0)) := by simpa using heap_alloc_new (w.alloc (.cells M.cells MT)) (.cells N.cells MT)
 obtain ⟨R, hR⟩ : ∃ R, R = decide (M.x = N.x) := ⟨_, rfl⟩
 rw [← hR]
 have a0 : ((w.alloc (.cells M.cells MT)).alloc (.cells N.cells MT)).cell? ⟨w.heap.size, 0, none⟩ = _ := (cell_of_row _ _ 0 _ _ _ g0).trans (WmV.at0 M)
 have b0 : ((w.alloc (.cells M.cells MT)).alloc (.cells N.cells MT)).cell? ⟨w.heap.size + 1, 0, none⟩ = _ := (cell_of_row _ _ 0 _ _ _ k0).trans (WmV.at0 N)
 have a1 : ((w.alloc (.cells M.cells MT)).alloc (.cells N.cells MT)).cell? ⟨w.heap.size, 1, none⟩ = _ := (cell_of_row _ _ 1 _ _ _ g0).trans (WmV.at1 M)
 have b1 : ((w.alloc (.cells M.cells MT)).alloc (.cells N.cells MT)).cell? ⟨w.heap.size + 1, 1, none⟩ = _ := (cell_of_row _ _ 1 _ _ _ k0).trans (WmV.at1 N)
 have a2 : ((w.alloc (.cells M.cells MT)).alloc (.cells N.cells MT)).cell? ⟨w.heap.size, 2, none⟩ = _ := (cell_of_row _ _ 2 _ _ _ g0).trans (WmV.at2 M)
 have b2 : ((w.alloc (.cells M.cells MT)).alloc (.cells N.cells MT)).cell? ⟨w.heap.size + 1, 2, none⟩ = _ := (cell_of_row _ _ 2 _ _ _ k0).trans (WmV.at2 N)
 have a3 : ((w.alloc (.cells M.cells MT)).alloc (.cells N.cells MT)).cell? ⟨w.heap.size, 3, none⟩ = _ := (cell_of_row _ _ 3 _ _ _ g0).trans (WmV.at3 M)
 have b3 : ((w.alloc (.cells M.cells MT)).alloc (.cells N.cells MT)).cell? ⟨w.heap.size + 1, 3, none⟩ = _ := (cell_of_row _ _ 3 _ _ _ k0).trans (WmV.at3 N)
 have a4 : ((w.alloc (.cells M.cells MT)).alloc (.cells N.cells MT)).cell? ⟨w.heap.size, 4, none⟩ = _ := (cell_of_row _ _ 4 _ _ _ g0).trans (WmV.at4 M)
 have b4 : ((w.alloc (.cells M.cells MT)).alloc (.cells N.cells MT)).cell? ⟨w.heap.size + 1, 4, none⟩ = _ := (cell_of_row _ _ 4 _ _ _ k0).trans (WmV.at4 N)
 have a5 : ((w.alloc (.cells M.cells MT)).alloc (.cells N.cells MT)).cell? ⟨w.heap.size, 5, none⟩ = _ := (cell_of_row _ _ 5 _ _ _ g0).trans (WmV.at5 M)
 have b5 : ((w.alloc (.cells M.cells MT)).alloc (.cells N.cells MT)).cell? ⟨w.heap.size + 1, 5, none⟩ = _ := (cell_of_row _ _ 5 _ _ _ k0).trans (WmV.at5 N)
 have a6 : ((w.alloc (.cells M.cells MT)).alloc (.cells N.cells MT)).cell? ⟨w.heap.size, 6, none⟩ = _ := (cell_of_row _ _ 6 _ _ _ g0).trans (WmV.at6 M)
 have b6 : ((w.alloc (.cells M.cells MT)).alloc (.cells N.cells MT)).cell? ⟨w.heap.size + 1, 6, none⟩ = _ := (cell_of_row _ _ 6 _ _ _ k0).trans (WmV.at6 N)
 have a7 : ((w.alloc (.cells M.cells MT)).alloc (.cells N.cells MT)).cell? ⟨w.heap.size, 7, none⟩ = _ := (cell_of_row _ _ 7 _ _ _ g0).trans (WmV.at7 M)
 have b7 : ((w.alloc (.cells M.cells MT)).alloc (.cells N.cells MT)).cell? ⟨w.heap.size + 1, 7, none⟩ = _ := (cell_of_row _ _ 7 _ _ _ k0).trans (WmV.at7 N)
 have a40 : ((w.alloc (.cells M.cells MT)).alloc (.cells N.cells MT)).cell? ⟨w.heap.size, 40, none⟩ = _ := (cell_of_row _ _ 40 _ _ _ g0).trans (WmV.at40 hM.ok)
 have b40 : ((w.alloc (.cells M.cells MT)).alloc (.cells N.cells MT)).cell? ⟨w.heap.size + 1, 40, none⟩ = _ := (cell_of_row _ _ 40 _ _ _ k0).trans (WmV.at40 hN.ok)
 have a73 : ((w.alloc (.cells M.cells MT)).alloc (.cells N.cells MT)).cell? ⟨w.heap.size, 73, none⟩ = _ := (cell_of_row _ _ 73 _ _ _ g0).trans (WmV.at73 hM.ok)
 have b73 : ((w.alloc (.cells M.cells MT)).alloc (.cells N.cells MT)).cell? ⟨w.heap.size + 1, 73, none⟩ = _ := (cell_of_row _ _ 73 _ _ _ k0).trans (WmV.at73 hN.ok)
 have a74 : ((w.alloc (.cells M.cells MT)).alloc (.cells N.cells MT)).cell? ⟨w.heap.size, 74, none⟩ = _ := (cell_of_row _ _ 74 _ _ _ g0).trans (WmV.at74 hM.ok)
 have b74 : ((w.alloc (.cells M.cells MT)).alloc (.cells N.cells MT)).cell? ⟨w.heap.size + 1, 74, none⟩ = _ := (cell_of_row _ _ 74 _ _ _ k0).trans (WmV.at74 hN.ok)
 have a75 : ((w.alloc (.cells M.cells MT)).alloc (.cells N.cells MT)).cell? ⟨w.heap.size, 75, none⟩ = _ := (cell_of_row _ _ 75 _ _ _ g0).trans (WmV.at75 hM.ok)
 have b75 : ((w.alloc (.cells M.cells MT)).alloc (.cells N.cells MT)).cell? ⟨w.heap.size + 1, 75, none⟩ = _ := (cell_of_row _ _ 75 _ _ _ k0).trans (WmV.at75 hN.ok)
 have a76 : ((w.alloc (.cells M.cells MT)).alloc (.cells N.cells MT)).cell? ⟨w.heap.size, 76, none⟩ = _ := (cell_of_row _ _ 76 _ _ _ g0).trans (WmV.at76 hM.ok)
 have b76 : ((w.alloc (.cells M.cells MT)).alloc (.cells N.cells MT)).cell? ⟨w.heap.size + 1, 76, none⟩ = _ := (cell_of_row _ _ 76 _ _ _ k0).trans (WmV.at76 hN.ok)
 have a77 : ((w.alloc (.cells M.cells MT)).alloc (.cells N.cells MT)).cell? ⟨w.heap.size, 77, none⟩ = _ := (cell_of_row _ _ 77 _ _ _ g0).trans (WmV.at77 hM.ok)
 have b77 : ((w.alloc (.cells M.cells MT)).alloc (.cells N.cells MT)).cell? ⟨w.heap.size + 1, 77, none⟩ = _ := (cell_of_row _ _ 77 _ _ _ k0).trans (WmV.at77 hN.ok)
 have z1 := run_str ((w.alloc (.cells M.cells MT)).alloc (.cells N.cells MT)) 23 9 5 M.la M.lo M.lc Tryz.underlying23 Tryz.underlying5 Tryz.underlying9 (hM.lr.below hE) M.lo.length rfl
 have z2 := run_str ((w.alloc (.cells M.cells MT)).alloc (.cells N.cells MT)) 23 9 5 N.la N.lo N.lc Tryz.underlying23 Tryz.underlying5 Tryz.underlying9 (hN.lr.below hE) N.lo.length rfl
 have z3 := run_str ((w.alloc (.cells M.cells MT)).alloc (.cells N.cells MT)) 23 9 5 M.ha M.hi M.hc Tryz.underlying23 Tryz.underlying5 Tryz.underlying9 (hM.hr.below hE) M.hi.length rfl
 have z4 := run_str ((w.alloc (.cells M.cells MT)).alloc (.cells N.cells MT)) 23 9 5 N.ha N.hi N.hc Tryz.underlying23 Tryz.underlying5 Tryz.underlying9 (hN.hr.below hE) N.hi.length rfl
 have z5 := run_str ((w.alloc (.cells M.cells MT)).alloc (.cells N.cells MT)) 23 9 5 M.da M.data M.dc Tryz.underlying23 Tryz.underlying5 Tryz.underlying9 (hM.dr.below hE) M.data.length rfl
 have z6 := run_str ((w.alloc (.cells M.cells MT)).alloc (.cells N.cells MT)) 23 9 5 N.da N.data N.dc Tryz.underlying23 Tryz.underlying5 Tryz.underlying9 (hN.dr.below hE) N.data.length rfl
 have s1 : ∀ j u, ((bvs M.sum).toArray)[j]? = some u → ((w.alloc (.cells M.cells MT)).alloc (.cells N.cells MT)).cell? ((⟨w.heap.size, 8, none⟩ : Addr).add j) = some u := fun j u hj => by
  have hj2 : j < 32 := by have := (Array.getElem?_eq_some_iff.1 hj).1; rw [List.size_toArray, bvs_len, hM.ok.sum] at this; exact this
  rw [Addr.add_lit, cell_of_row _ _ _ _ _ _ g0, WmV.at8 hM.ok j hj2]; simpa using hj
 have s2 : ∀ j u, ((bvs N.sum).toArray)[j]? = some u → ((w.alloc (.cells M.cells MT)).alloc (.cells N.cells MT)).cell? ((⟨w.heap.size + 1, 8, none⟩ : Addr).add j) = some u := fun j u hj => by
  have hj2 : j < 32 := by have := (Array.getElem?_eq_some_iff.1 hj).1; rw [List.size_toArray, bvs_len, hN.ok.sum] at this; exact this
  rw [Addr.add_lit, cell_of_row _ _ _ _ _ _ k0, WmV.at8 hN.ok j hj2]; simpa using hj
 have s3 : ∀ j u, ((bvs M.file).toArray)[j]? = some u → ((w.alloc (.cells M.cells MT)).alloc (.cells N.cells MT)).cell? ((⟨w.heap.size, 41, none⟩ : Addr).add j) = some u := fun j u hj => by
  have hj2 : j < 32 := by have := (Array.getElem?_eq_some_iff.1 hj).1; rw [List.size_toArray, bvs_len, hM.ok.file] at this; exact this
  rw [Addr.add_lit, cell_of_row _ _ _ _ _ _ g0, WmV.at41 hM.ok j hj2]; simpa using hj
 have s4 : ∀ j u, ((bvs N.file).toArray)[j]? = some u → ((w.alloc (.cells M.cells MT)).alloc (.cells N.cells MT)).cell? ((⟨w.heap.size + 1, 41, none⟩ : Addr).add j) = some u := fun j u hj => by
  have hj2 : j < 32 := by have := (Array.getElem?_eq_some_iff.1 hj).1; rw [List.size_toArray, bvs_len, hN.ok.file] at this; exact this
  rw [Addr.add_lit, cell_of_row _ _ _ _ _ _ k0, WmV.at41 hN.ok j hj2]; simpa using hj
 have i1 : (Tryz.prog.info? 26).map (·.size) = some ((bvs M.sum).toArray).size := by rw [List.size_toArray, bvs_len, hM.ok.sum]; kernel_rfl
 have i2 : (Tryz.prog.info? 26).map (·.size) = some ((bvs N.sum).toArray).size := by rw [List.size_toArray, bvs_len, hN.ok.sum]; kernel_rfl
 have i3 : (Tryz.prog.info? 26).map (·.size) = some ((bvs M.file).toArray).size := by rw [List.size_toArray, bvs_len, hM.ok.file]; kernel_rfl
 have i4 : (Tryz.prog.info? 26).map (·.size) = some ((bvs N.file).toArray).size := by rw [List.size_toArray, bvs_len, hN.ok.file]; kernel_rfl
 have q7 := fun W => neqSumW (x := M.sum) (y := N.sum) W hM.ok.sum hN.ok.sum
 have q9 := fun W => neqSumW (x := M.file) (y := N.file) W hM.ok.file hN.ok.file
 have e5 := ref_same17 M.ea N.ea M.ents N.ents M.ec N.ec _ (hM.er.below hE) (hN.er.below hE) f3
 obtain ⟨d11, hd11⟩ : ∃ b, (!(M.lo == N.lo)) = b := ⟨_, rfl⟩
 obtain ⟨d12, hd12⟩ : ∃ b, (!(M.hi == N.hi)) = b := ⟨_, rfl⟩
 obtain ⟨d13, hd13⟩ : ∃ b, (!(M.data == N.data)) = b := ⟨_, rfl⟩
 obtain ⟨d1, hd1⟩ : ∃ b, (M.kind != N.kind) = b := ⟨_, rfl⟩
 obtain ⟨d2, hd2⟩ : ∃ b, ((M.session : Int) != (N.session : Int)) = b := ⟨_, rfl⟩
 obtain ⟨d3, hd3⟩ : ∃ b, ((M.seq : Int) != (N.seq : Int)) = b := ⟨_, rfl⟩
 obtain ⟨d4, hd4⟩ : ∃ b, (M.n != N.n) = b := ⟨_, rfl⟩
 obtain ⟨d5, hd5⟩ : ∃ b, ((M.lsn : Int) != (N.lsn : Int)) = b := ⟨_, rfl⟩
 obtain ⟨d6, hd6⟩ : ∃ b, (M.count != N.count) = b := ⟨_, rfl⟩
 obtain ⟨d8, hd8⟩ : ∃ b, (M.size != N.size) = b := ⟨_, rfl⟩
 obtain ⟨d10, hd10⟩ : ∃ b, (M.more != N.more) = b := ⟨_, rfl⟩
 obtain ⟨d14, hd14⟩ : ∃ b, ((M.subs.length : Int) != (N.subs.length : Int)) = b := ⟨_, rfl⟩
 obtain ⟨d16, hd16⟩ : ∃ b, ((M.sigs.length : Int) != (N.sigs.length : Int)) = b := ⟨_, rfl⟩
 obtain ⟨d15, hd15⟩ : ∃ b, Ent.sameL (M.ents.map EnV.x) (N.ents.map EnV.x) = b := ⟨_, rfl⟩
 rw [hd15] at e5
 obtain ⟨d7, hd7⟩ : ∃ b, (!(M.sum == N.sum)) = b := ⟨_, rfl⟩
 obtain ⟨d9, hd9⟩ : ∃ b, (!(M.file == N.file)) = b := ⟨_, rfl⟩
 rw [hd7] at q7
 rw [hd9] at q9
 have HE := Lib.hid hE
 have E5 := Lib.hid e5
 have HM := Lib.hid hM
 have HN := Lib.hid hN
 have HR := Lib.hid hR
 have D11 := Lib.hid hd11
 have D12 := Lib.hid hd12
 have D13 := Lib.hid hd13
 have D1 := Lib.hid hd1
 have D2 := Lib.hid hd2
 have D3 := Lib.hid hd3
 have D4 := Lib.hid hd4
 have D5 := Lib.hid hd5
 have D6 := Lib.hid hd6
 have D8 := Lib.hid hd8
 have D10 := Lib.hid hd10
 have D14 := Lib.hid hd14
 have D16 := Lib.hid hd16
 have D7 := Lib.hid hd7
 have D9 := Lib.hid hd9
 have D15 := Lib.hid hd15
 have Q7 := Lib.hid q7
 have Q9 := Lib.hid q9
 have S1 := Lib.hid s1
 have S2 := Lib.hid s2
 have S3 := Lib.hid s3
 have S4 := Lib.hid s4
 clear hE g0 k0 s1 s2 s3 s4 e5 hM hN f3 hR hd1 hd2 hd3 hd4 hd5 hd6 hd7 hd8 hd9 hd10 hd11 hd12 hd13 hd14 hd15 hd16 q7 q9
 obtain ⟨W0, hW0⟩ : ∃ W0, W0 = (w.alloc (.cells M.cells MT)).alloc (.cells N.cells MT) := ⟨_, rfl⟩
 obtain ⟨P, hP⟩ : ∃ P, P = M.cells := ⟨_, rfl⟩
 obtain ⟨Q, hQ⟩ : ∃ Q, Q = N.cells := ⟨_, rfl⟩
 rw [← hW0] at HE E5 S1 S2 S3 S4 z1 z2 z3 z4 z5 z6 a0 b0 a1 b1 a2 b2 a3 b3 a4 b4 a5 b5 a6 b6 a7 b7 a40 b40 a73 b73 a74 b74 a75 b75 a76 b76 a77 b77
 rw [← hP, ← hQ] at hW0 ⊢
 have HW0 := Lib.hid hW0
 clear hP hQ hW0
 go_enter Tryz.func11, Tryz.ntmps11
 go_upto_region 1 with fail
 rw [← HW0.out]
 go_step
 simp only [List.append]
 go_wp2_with ((refine wpList_runS (by rfl) (.bool d1) _ (by rw [← D1.out]; exact ex_neqI (t := 3) (u := 3) (x := .tmp 8) (y := .tmp 10) rfl rfl rfl) ?_))
 refine Lib.hid ?_
 cases d1 with
 | true =>
  have hno : R = false := by rw [HR.out]; exact decide_eq_false (fun e => by have h := D1.out; rw [show M.kind = N.kind from congrArg Wm.kind e] at h; simp at h)
  refine quick_tail 12 [.bool true, undef, undef, undef, undef, undef, .bool true, .bool true, undef, undef, undef, undef, undef, .bool true, .bool true, undef, undef, undef, undef, undef, undef, undef, .bool true, .bool true, undef, undef, undef, undef, undef, undef, undef, .bool true, .bool true, undef, undef, undef, undef, undef, .bool true, .bool true, undef, undef, undef, undef, undef, .bool true, .bool true, undef, undef, undef, undef, undef, .bool true, .bool true, undef, undef, undef, undef, undef, .bool true, .bool true, undef, undef, undef, undef, undef, .bool true, .bool true, undef, undef, undef, undef, undef, .bool true, .bool true, undef, undef, undef, undef, undef, .bool true, .bool true, undef, undef, undef, undef, undef, undef, undef, .bool true, .bool true, undef, undef, undef, undef, undef, undef, undef, .bool true, .bool true, undef, undef, undef, undef, undef, undef, undef, .bool true, .bool true, undef, undef, undef, undef, undef, undef, .bool true, undef, undef, undef, undef, undef, undef, undef, undef, undef, undef, undef, undef, undef, undef, undef, undef, undef, undef, undef, undef, undef, undef, undef, undef, undef, undef, undef, undef, undef, undef, undef, undef, undef, undef, undef, undef, undef, undef, undef, undef, undef, undef, undef, undef, undef, undef, undef, undef, undef, undef, undef, undef, undef, undef] (by kernel_rfl) ?_
  simp only [List.take_succ_cons, List.take_zero, List.cons_append, List.nil_append]
  clear z1 z2 z3 z4 z5 z6 a0 b0 a1 b1 a2 b2 a3 b3 a4 b4 a5 b5 a6 b6 a7 b7 a40 b40 a73 b73 a74 b74 a75 b75 a76 b76 a77 b77
  go_wp2_with fail
  go_ret
  exact ⟨by rw [hno]; rfl, HE.out⟩
 | false =>
  go_wp2_with ((refine wpList_runS (by rfl) (.bool d2) _ (by rw [← D2.out]; exact ex_neqI (t := 22) (u := 22) (x := .tmp 14) (y := .tmp 16) rfl rfl rfl) ?_))
  refine Lib.hid ?_
  cases d2 with
  | true =>
   have hno : R = false := by rw [HR.out]; exact decide_eq_false (fun e => by have h := D2.out; rw [show M.session = N.session from congrArg Wm.session e] at h; simp at h)
   refine quick_tail 18 [.bool true, .bool true, undef, undef, undef, undef, undef, .bool true, .bool true, undef, undef, undef, undef, undef, undef, undef, .bool true, .bool true, undef, undef, undef, undef, undef, undef, undef, .bool true, .bool true, undef, undef, undef, undef, undef, .bool true, .bool true, undef, undef, undef, undef, undef, .bool true, .bool true, undef, undef, undef, undef, undef, .bool true, .bool true, undef, undef, undef, undef, undef, .bool true, .bool true, undef, undef, undef, undef, undef, .bool true, .bool true, undef, undef, undef, undef, undef, .bool true, .bool true, undef, undef, undef, undef, undef, .bool true, .bool true, undef, undef, undef, undef, undef, undef, undef, .bool true, .bool true, undef, undef, undef, undef, undef, undef, undef, .bool true, .bool true, undef, undef, undef, undef, undef, undef, undef, .bool true, .bool true, undef, undef, undef, undef, undef, undef, .bool true, undef, undef, undef, undef, undef, undef, undef, undef, undef, undef, undef, undef, undef, undef, undef, undef, undef, undef, undef, undef, undef, undef, undef, undef, undef, undef, undef, undef, undef, undef, undef, undef, undef, undef, undef, undef, undef, undef, undef, undef, undef, undef, undef, undef, undef, undef, undef, undef, undef, undef, undef, undef, undef, undef] (by kernel_rfl) ?_
   simp only [List.take_succ_cons, List.take_zero, List.cons_append, List.nil_append]
   clear z1 z2 z3 z4 z5 z6 a0 b0 a1 b1 a2 b2 a3 b3 a4 b4 a5 b5 a6 b6 a7 b7 a40 b40 a73 b73 a74 b74 a75 b75 a76 b76 a77 b77
   go_wp2_with fail
   go_ret
   exact ⟨by rw [hno]; rfl, HE.out⟩
  | false =>
   go_wp2_with ((refine wpList_runS (by rfl) (.bool d3) _ (by rw [← D3.out]; exact ex_neqI (t := 22) (u := 22) (x := .tmp 21) (y := .tmp 23) rfl rfl rfl) ?_))
   refine Lib.hid ?_
   cases d3 with
   | true =>
    have hno : R = false := by rw [HR.out]; exact decide_eq_false (fun e => by have h := D3.out; rw [show M.seq = N.seq from congrArg Wm.seq e] at h; simp at h)
    refine quick_tail 25 [.bool true, .bool true, undef, undef, undef, undef, undef, undef, undef, .bool true, .bool true, undef, undef, undef, undef, undef, undef, undef, .bool true, .bool true, undef, undef, undef, undef, undef, .bool true, .bool true, undef, undef, undef, undef, undef, .bool true, .bool true, undef, undef, undef, undef, undef, .bool true, .bool true, undef, undef, undef, undef, undef, .bool true, .bool true, undef, undef, undef, undef, undef, .bool true, .bool true, undef, undef, undef, undef, undef, .bool true, .bool true, undef, undef, undef, undef, undef, .bool true, .bool true, undef, undef, undef, undef, undef, undef, undef, .bool true, .bool true, undef, undef, undef, undef, undef, undef, undef, .bool true, .bool true, undef, undef, undef, undef, undef, undef, undef, .bool true, .bool true, undef, undef, undef, undef, undef, undef, .bool true, undef, undef, undef, undef, undef, undef, undef, undef, undef, undef, undef, undef, undef, undef, undef, undef, undef, undef, undef, undef, undef, undef, undef, undef, undef, undef, undef, undef, undef, undef, undef, undef, undef, undef, undef, undef, undef, undef, undef, undef, undef, undef, undef, undef, undef, undef, undef, undef, undef, undef, undef, undef, undef, undef] (by kernel_rfl) ?_
    simp only [List.take_succ_cons, List.take_zero, List.cons_append, List.nil_append]
    clear z1 z2 z3 z4 z5 z6 a0 b0 a1 b1 a2 b2 a3 b3 a4 b4 a5 b5 a6 b6 a7 b7 a40 b40 a73 b73 a74 b74 a75 b75 a76 b76 a77 b77
    go_wp2_with fail
    go_ret
    exact ⟨by rw [hno]; rfl, HE.out⟩
   | false =>
    go_wp2_with ((refine wpList_runS (by rfl) (.bool d11) _ (by rw [← D11.out]; exact ex_neqS (t := 9) (u := 9) (x := .tmp 29) (y := .tmp 32) rfl rfl rfl) ?_))
    refine Lib.hid ?_
    cases d11 with
    | true =>
     have hno : R = false := by rw [HR.out]; exact decide_eq_false (fun e => by have h := D11.out; rw [show M.lo = N.lo from congrArg Wm.lo e] at h; simp at h)
     refine quick_tail 34 [.bool true, .bool true, undef, undef, undef, undef, undef, undef, undef, .bool true, .bool true, undef, undef, undef, undef, undef, .bool true, .bool true, undef, undef, undef, undef, undef, .bool true, .bool true, undef, undef, undef, undef, undef, .bool true, .bool true, undef, undef, undef, undef, undef, .bool true, .bool true, undef, undef, undef, undef, undef, .bool true, .bool true, undef, undef, undef, undef, undef, .bool true, .bool true, undef, undef, undef, undef, undef, .bool true, .bool true, undef, undef, undef, undef, undef, undef, undef, .bool true, .bool true, undef, undef, undef, undef, undef, undef, undef, .bool true, .bool true, undef, undef, undef, undef, undef, undef, undef, .bool true, .bool true, undef, undef, undef, undef, undef, undef, .bool true, undef, undef, undef, undef, undef, undef, undef, undef, undef, undef, undef, undef, undef, undef, undef, undef, undef, undef, undef, undef, undef, undef, undef, undef, undef, undef, undef, undef, undef, undef, undef, undef, undef, undef, undef, undef, undef, undef, undef, undef, undef, undef, undef, undef, undef, undef, undef, undef, undef, undef, undef, undef, undef, undef] (by kernel_rfl) ?_
     simp only [List.take_succ_cons, List.take_zero, List.cons_append, List.nil_append]
     clear z1 z2 z3 z4 z5 z6 a0 b0 a1 b1 a2 b2 a3 b3 a4 b4 a5 b5 a6 b6 a7 b7 a40 b40 a73 b73 a74 b74 a75 b75 a76 b76 a77 b77
     go_wp2_with fail
     go_ret
     exact ⟨by rw [hno]; rfl, HE.out⟩
    | false =>
     go_wp2_with ((refine wpList_runS (by rfl) (.bool d12) _ (by rw [← D12.out]; exact ex_neqS (t := 9) (u := 9) (x := .tmp 38) (y := .tmp 41) rfl rfl rfl) ?_))
     refine Lib.hid ?_
     cases d12 with
     | true =>
      have hno : R = false := by rw [HR.out]; exact decide_eq_false (fun e => by have h := D12.out; rw [show M.hi = N.hi from congrArg Wm.hi e] at h; simp at h)
      refine quick_tail 43 [.bool true, .bool true, undef, undef, undef, undef, undef, .bool true, .bool true, undef, undef, undef, undef, undef, .bool true, .bool true, undef, undef, undef, undef, undef, .bool true, .bool true, undef, undef, undef, undef, undef, .bool true, .bool true, undef, undef, undef, undef, undef, .bool true, .bool true, undef, undef, undef, undef, undef, .bool true, .bool true, undef, undef, undef, undef, undef, .bool true, .bool true, undef, undef, undef, undef, undef, undef, undef, .bool true, .bool true, undef, undef, undef, undef, undef, undef, undef, .bool true, .bool true, undef, undef, undef, undef, undef, undef, undef, .bool true, .bool true, undef, undef, undef, undef, undef, undef, .bool true, undef, undef, undef, undef, undef, undef, undef, undef, undef, undef, undef, undef, undef, undef, undef, undef, undef, undef, undef, undef, undef, undef, undef, undef, undef, undef, undef, undef, undef, undef, undef, undef, undef, undef, undef, undef, undef, undef, undef, undef, undef, undef, undef, undef, undef, undef, undef, undef, undef, undef, undef, undef, undef, undef] (by kernel_rfl) ?_
      simp only [List.take_succ_cons, List.take_zero, List.cons_append, List.nil_append]
      clear z1 z2 z3 z4 z5 z6 a0 b0 a1 b1 a2 b2 a3 b3 a4 b4 a5 b5 a6 b6 a7 b7 a40 b40 a73 b73 a74 b74 a75 b75 a76 b76 a77 b77
      go_wp2_with fail
      go_ret
      exact ⟨by rw [hno]; rfl, HE.out⟩
     | false =>
      go_wp2_with ((refine wpList_runS (by rfl) (.bool d4) _ (by rw [← D4.out]; exact ex_neqI (t := 3) (u := 3) (x := .tmp 46) (y := .tmp 48) rfl rfl rfl) ?_))
      refine Lib.hid ?_
      cases d4 with
      | true =>
       have hno : R = false := by rw [HR.out]; exact decide_eq_false (fun e => by have h := D4.out; rw [show M.n = N.n from congrArg Wm.n e] at h; simp at h)
       refine quick_tail 50 [.bool true, .bool true, undef, undef, undef, undef, undef, .bool true, .bool true, undef, undef, undef, undef, undef, .bool true, .bool true, undef, undef, undef, undef, undef, .bool true, .bool true, undef, undef, undef, undef, undef, .bool true, .bool true, undef, undef, undef, undef, undef, .bool true, .bool true, undef, undef, undef, undef, undef, .bool true, .bool true, undef, undef, undef, undef, undef, undef, undef, .bool true, .bool true, undef, undef, undef, undef, undef, undef, undef, .bool true, .bool true, undef, undef, undef, undef, undef, undef, undef, .bool true, .bool true, undef, undef, undef, undef, undef, undef, .bool true, undef, undef, undef, undef, undef, undef, undef, undef, undef, undef, undef, undef, undef, undef, undef, undef, undef, undef, undef, undef, undef, undef, undef, undef, undef, undef, undef, undef, undef, undef, undef, undef, undef, undef, undef, undef, undef, undef, undef, undef, undef, undef, undef, undef, undef, undef, undef, undef, undef, undef, undef, undef, undef, undef] (by kernel_rfl) ?_
       simp only [List.take_succ_cons, List.take_zero, List.cons_append, List.nil_append]
       clear z1 z2 z3 z4 z5 z6 a0 b0 a1 b1 a2 b2 a3 b3 a4 b4 a5 b5 a6 b6 a7 b7 a40 b40 a73 b73 a74 b74 a75 b75 a76 b76 a77 b77
       go_wp2_with fail
       go_ret
       exact ⟨by rw [hno]; rfl, HE.out⟩
      | false =>
       go_wp2_with ((refine wpList_runS (by rfl) (.bool d5) _ (by rw [← D5.out]; exact ex_neqI (t := 24) (u := 24) (x := .tmp 53) (y := .tmp 55) rfl rfl rfl) ?_))
       refine Lib.hid ?_
       cases d5 with
       | true =>
        have hno : R = false := by rw [HR.out]; exact decide_eq_false (fun e => by have h := D5.out; rw [show M.lsn = N.lsn from congrArg Wm.lsn e] at h; simp at h)
        refine quick_tail 57 [.bool true, .bool true, undef, undef, undef, undef, undef, .bool true, .bool true, undef, undef, undef, undef, undef, .bool true, .bool true, undef, undef, undef, undef, undef, .bool true, .bool true, undef, undef, undef, undef, undef, .bool true, .bool true, undef, undef, undef, undef, undef, .bool true, .bool true, undef, undef, undef, undef, undef, undef, undef, .bool true, .bool true, undef, undef, undef, undef, undef, undef, undef, .bool true, .bool true, undef, undef, undef, undef, undef, undef, undef, .bool true, .bool true, undef, undef, undef, undef, undef, undef, .bool true, undef, undef, undef, undef, undef, undef, undef, undef, undef, undef, undef, undef, undef, undef, undef, undef, undef, undef, undef, undef, undef, undef, undef, undef, undef, undef, undef, undef, undef, undef, undef, undef, undef, undef, undef, undef, undef, undef, undef, undef, undef, undef, undef, undef, undef, undef, undef, undef, undef, undef, undef, undef, undef, undef] (by kernel_rfl) ?_
        simp only [List.take_succ_cons, List.take_zero, List.cons_append, List.nil_append]
        clear z1 z2 z3 z4 z5 z6 a0 b0 a1 b1 a2 b2 a3 b3 a4 b4 a5 b5 a6 b6 a7 b7 a40 b40 a73 b73 a74 b74 a75 b75 a76 b76 a77 b77
        go_wp2_with fail
        go_ret
        exact ⟨by rw [hno]; rfl, HE.out⟩
       | false =>
        go_wp2_with ((refine wpList_runS (by rfl) (.bool d6) _ (by rw [← D6.out]; exact ex_neqI (t := 3) (u := 3) (x := .tmp 60) (y := .tmp 62) rfl rfl rfl) ?_))
        refine Lib.hid ?_
        cases d6 with
        | true =>
         have hno : R = false := by rw [HR.out]; exact decide_eq_false (fun e => by have h := D6.out; rw [show M.count = N.count from congrArg Wm.count e] at h; simp at h)
         refine quick_tail 64 [.bool true, .bool true, undef, undef, undef, undef, undef, .bool true, .bool true, undef, undef, undef, undef, undef, .bool true, .bool true, undef, undef, undef, undef, undef, .bool true, .bool true, undef, undef, undef, undef, undef, .bool true, .bool true, undef, undef, undef, undef, undef, undef, undef, .bool true, .bool true, undef, undef, undef, undef, undef, undef, undef, .bool true, .bool true, undef, undef, undef, undef, undef, undef, undef, .bool true, .bool true, undef, undef, undef, undef, undef, undef, .bool true, undef, undef, undef, undef, undef, undef, undef, undef, undef, undef, undef, undef, undef, undef, undef, undef, undef, undef, undef, undef, undef, undef, undef, undef, undef, undef, undef, undef, undef, undef, undef, undef, undef, undef, undef, undef, undef, undef, undef, undef, undef, undef, undef, undef, undef, undef, undef, undef, undef, undef, undef, undef, undef, undef] (by kernel_rfl) ?_
         simp only [List.take_succ_cons, List.take_zero, List.cons_append, List.nil_append]
         clear z1 z2 z3 z4 z5 z6 a0 b0 a1 b1 a2 b2 a3 b3 a4 b4 a5 b5 a6 b6 a7 b7 a40 b40 a73 b73 a74 b74 a75 b75 a76 b76 a77 b77
         go_wp2_with fail
         go_ret
         exact ⟨by rw [hno]; rfl, HE.out⟩
        | false =>
         go_wp2_with (first | (refine wpList_load_cells (by rfl) 26 (.tmp 66) rfl ⟨w.heap.size, 8, none⟩ rfl (bvs M.sum).toArray _ S1.out Tryz.underlying26 rfl i1 ?_) | (refine wpList_load_cells (by rfl) 26 (.tmp 68) rfl ⟨w.heap.size + 1, 8, none⟩ rfl (bvs N.sum).toArray _ S2.out Tryz.underlying26 rfl i2 ?_; refine wpList_runS (by rfl) (.bool d7) _ (ex_neqSig (t := 26) (u := 26) (x := .tmp 67) (y := .tmp 69) (p := .agg (bvs M.sum).toArray) (q := .agg (bvs N.sum).toArray) rfl rfl rfl (Q7.out _) (guardSumN _ _ _ _ _)) ?_))
         refine Lib.hid ?_
         cases d7 with
         | true =>
          have hno : R = false := by rw [HR.out]; exact decide_eq_false (fun e => by have h := D7.out; rw [show M.sum = N.sum from congrArg Wm.sum e] at h; simp at h)
          refine quick_tail 71 [.bool true, .bool true, undef, undef, undef, undef, undef, .bool true, .bool true, undef, undef, undef, undef, undef, .bool true, .bool true, undef, undef, undef, undef, undef, .bool true, .bool true, undef, undef, undef, undef, undef, undef, undef, .bool true, .bool true, undef, undef, undef, undef, undef, undef, undef, .bool true, .bool true, undef, undef, undef, undef, undef, undef, undef, .bool true, .bool true, undef, undef, undef, undef, undef, undef, .bool true, undef, undef, undef, undef, undef, undef, undef, undef, undef, undef, undef, undef, undef, undef, undef, undef, undef, undef, undef, undef, undef, undef, undef, undef, undef, undef, undef, undef, undef, undef, undef, undef, undef, undef, undef, undef, undef, undef, undef, undef, undef, undef, undef, undef, undef, undef, undef, undef, undef, undef, undef, undef, undef, undef] (by kernel_rfl) ?_
          simp only [List.take_succ_cons, List.take_zero, List.cons_append, List.nil_append]
          clear z1 z2 z3 z4 z5 z6 a0 b0 a1 b1 a2 b2 a3 b3 a4 b4 a5 b5 a6 b6 a7 b7 a40 b40 a73 b73 a74 b74 a75 b75 a76 b76 a77 b77
          go_wp2_with fail
          go_ret
          exact ⟨by rw [hno]; rfl, HE.out⟩
         | false =>
          go_wp2_with ((refine wpList_runS (by rfl) (.bool d8) _ (by rw [← D8.out]; exact ex_neqI (t := 3) (u := 3) (x := .tmp 74) (y := .tmp 76) rfl rfl rfl) ?_))
          refine Lib.hid ?_
          cases d8 with
          | true =>
           have hno : R = false := by rw [HR.out]; exact decide_eq_false (fun e => by have h := D8.out; rw [show M.size = N.size from congrArg Wm.size e] at h; simp at h)
           refine quick_tail 78 [.bool true, .bool true, undef, undef, undef, undef, undef, .bool true, .bool true, undef, undef, undef, undef, undef, .bool true, .bool true, undef, undef, undef, undef, undef, undef, undef, .bool true, .bool true, undef, undef, undef, undef, undef, undef, undef, .bool true, .bool true, undef, undef, undef, undef, undef, undef, undef, .bool true, .bool true, undef, undef, undef, undef, undef, undef, .bool true, undef, undef, undef, undef, undef, undef, undef, undef, undef, undef, undef, undef, undef, undef, undef, undef, undef, undef, undef, undef, undef, undef, undef, undef, undef, undef, undef, undef, undef, undef, undef, undef, undef, undef, undef, undef, undef, undef, undef, undef, undef, undef, undef, undef, undef, undef, undef, undef, undef, undef, undef, undef, undef, undef] (by kernel_rfl) ?_
           simp only [List.take_succ_cons, List.take_zero, List.cons_append, List.nil_append]
           clear z1 z2 z3 z4 z5 z6 a0 b0 a1 b1 a2 b2 a3 b3 a4 b4 a5 b5 a6 b6 a7 b7 a40 b40 a73 b73 a74 b74 a75 b75 a76 b76 a77 b77
           go_wp2_with fail
           go_ret
           exact ⟨by rw [hno]; rfl, HE.out⟩
          | false =>
           go_wp2_with (first | (refine wpList_load_cells (by rfl) 26 (.tmp 80) rfl ⟨w.heap.size, 41, none⟩ rfl (bvs M.file).toArray _ S3.out Tryz.underlying26 rfl i3 ?_) | (refine wpList_load_cells (by rfl) 26 (.tmp 82) rfl ⟨w.heap.size + 1, 41, none⟩ rfl (bvs N.file).toArray _ S4.out Tryz.underlying26 rfl i4 ?_; refine wpList_runS (by rfl) (.bool d9) _ (ex_neqSig (t := 26) (u := 26) (x := .tmp 81) (y := .tmp 83) (p := .agg (bvs M.file).toArray) (q := .agg (bvs N.file).toArray) rfl rfl rfl (Q9.out _) (guardSumN _ _ _ _ _)) ?_))
           refine Lib.hid ?_
           cases d9 with
           | true =>
            have hno : R = false := by rw [HR.out]; exact decide_eq_false (fun e => by have h := D9.out; rw [show M.file = N.file from congrArg Wm.file e] at h; simp at h)
            refine quick_tail 85 [.bool true, .bool true, undef, undef, undef, undef, undef, .bool true, .bool true, undef, undef, undef, undef, undef, undef, undef, .bool true, .bool true, undef, undef, undef, undef, undef, undef, undef, .bool true, .bool true, undef, undef, undef, undef, undef, undef, undef, .bool true, .bool true, undef, undef, undef, undef, undef, undef, .bool true, undef, undef, undef, undef, undef, undef, undef, undef, undef, undef, undef, undef, undef, undef, undef, undef, undef, undef, undef, undef, undef, undef, undef, undef, undef, undef, undef, undef, undef, undef, undef, undef, undef, undef, undef, undef, undef, undef, undef, undef, undef, undef, undef, undef, undef, undef, undef, undef, undef, undef, undef, undef, undef, undef] (by kernel_rfl) ?_
            simp only [List.take_succ_cons, List.take_zero, List.cons_append, List.nil_append]
            clear z1 z2 z3 z4 z5 z6 a0 b0 a1 b1 a2 b2 a3 b3 a4 b4 a5 b5 a6 b6 a7 b7 a40 b40 a73 b73 a74 b74 a75 b75 a76 b76 a77 b77
            go_wp2_with fail
            go_ret
            exact ⟨by rw [hno]; rfl, HE.out⟩
           | false =>
            go_wp2_with ((refine wpList_runS (by rfl) (.bool d10) _ (ex_neqSig (t := 4) (u := 4) (x := .tmp 88) (y := .tmp 90) (p := .bool M.more) (q := .bool N.more) rfl rfl rfl (by rw [← D10.out]; exact neqBoolW _ _ _) (guardBoolW _ _ _ _ _)) ?_))
            refine Lib.hid ?_
            cases d10 with
            | true =>
             have hno : R = false := by rw [HR.out]; exact decide_eq_false (fun e => by have h := D10.out; rw [show M.more = N.more from congrArg Wm.more e] at h; simp at h)
             refine quick_tail 92 [.bool true, .bool true, undef, undef, undef, undef, undef, undef, undef, .bool true, .bool true, undef, undef, undef, undef, undef, undef, undef, .bool true, .bool true, undef, undef, undef, undef, undef, undef, undef, .bool true, .bool true, undef, undef, undef, undef, undef, undef, .bool true, undef, undef, undef, undef, undef, undef, undef, undef, undef, undef, undef, undef, undef, undef, undef, undef, undef, undef, undef, undef, undef, undef, undef, undef, undef, undef, undef, undef, undef, undef, undef, undef, undef, undef, undef, undef, undef, undef, undef, undef, undef, undef, undef, undef, undef, undef, undef, undef, undef, undef, undef, undef, undef, undef] (by kernel_rfl) ?_
             simp only [List.take_succ_cons, List.take_zero, List.cons_append, List.nil_append]
             clear z1 z2 z3 z4 z5 z6 a0 b0 a1 b1 a2 b2 a3 b3 a4 b4 a5 b5 a6 b6 a7 b7 a40 b40 a73 b73 a74 b74 a75 b75 a76 b76 a77 b77
             go_wp2_with fail
             go_ret
             exact ⟨by rw [hno]; rfl, HE.out⟩
            | false =>
             go_wp2_with ((refine wpList_runS (by rfl) (.bool d13) _ (by rw [← D13.out]; exact ex_neqS (t := 9) (u := 9) (x := .tmp 96) (y := .tmp 99) rfl rfl rfl) ?_))
             refine Lib.hid ?_
             cases d13 with
             | true =>
              have hno : R = false := by rw [HR.out]; exact decide_eq_false (fun e => by have h := D13.out; rw [show M.data = N.data from congrArg Wm.data e] at h; simp at h)
              refine quick_tail 101 [.bool true, .bool true, undef, undef, undef, undef, undef, undef, undef, .bool true, .bool true, undef, undef, undef, undef, undef, undef, undef, .bool true, .bool true, undef, undef, undef, undef, undef, undef, .bool true, undef, undef, undef, undef, undef, undef, undef, undef, undef, undef, undef, undef, undef, undef, undef, undef, undef, undef, undef, undef, undef, undef, undef, undef, undef, undef, undef, undef, undef, undef, undef, undef, undef, undef, undef, undef, undef, undef, undef, undef, undef, undef, undef, undef, undef, undef, undef, undef, undef, undef, undef, undef, undef, undef] (by kernel_rfl) ?_
              simp only [List.take_succ_cons, List.take_zero, List.cons_append, List.nil_append]
              clear z1 z2 z3 z4 z5 z6 a0 b0 a1 b1 a2 b2 a3 b3 a4 b4 a5 b5 a6 b6 a7 b7 a40 b40 a73 b73 a74 b74 a75 b75 a76 b76 a77 b77
              go_wp2_with fail
              go_ret
              exact ⟨by rw [hno]; rfl, HE.out⟩
             | false =>
              go_wp2_with ((refine wpList_runS (by rfl) (.bool d14) _ (by rw [← D14.out]; exact ex_neqI (t := 3) (u := 3) (x := .tmp 105) (y := .tmp 108) rfl rfl rfl) ?_))
              refine Lib.hid ?_
              cases d14 with
              | true =>
               have hno : R = false := by rw [HR.out]; exact decide_eq_false (fun e => by have h := D14.out; have h2 : (M.subs.map WsV.x).length = (N.subs.map WsV.x).length := congrArg (fun x => x.subs.length) e; rw [List.length_map, List.length_map] at h2; rw [h2] at h; simp at h)
               refine quick_tail 110 [.bool true, .bool true, undef, undef, undef, undef, undef, undef, undef, .bool true, .bool true, undef, undef, undef, undef, undef, undef, .bool true, undef, undef, undef, undef, undef, undef, undef, undef, undef, undef, undef, undef, undef, undef, undef, undef, undef, undef, undef, undef, undef, undef, undef, undef, undef, undef, undef, undef, undef, undef, undef, undef, undef, undef, undef, undef, undef, undef, undef, undef, undef, undef, undef, undef, undef, undef, undef, undef, undef, undef, undef, undef, undef, undef] (by kernel_rfl) ?_
               simp only [List.take_succ_cons, List.take_zero, List.cons_append, List.nil_append]
               clear z1 z2 z3 z4 z5 z6 a0 b0 a1 b1 a2 b2 a3 b3 a4 b4 a5 b5 a6 b6 a7 b7 a40 b40 a73 b73 a74 b74 a75 b75 a76 b76 a77 b77
               go_wp2_with fail
               go_ret
               exact ⟨by rw [hno]; rfl, HE.out⟩
              | false =>
               go_wp2_with ((refine wpList_runS (by rfl) (.bool d16) _ (by rw [← D16.out]; exact ex_neqI (t := 3) (u := 3) (x := .tmp 114) (y := .tmp 117) rfl rfl rfl) ?_))
               refine Lib.hid ?_
               cases d16 with
               | true =>
                have hno : R = false := by rw [HR.out]; exact decide_eq_false (fun e => by have h := D16.out; have h2 : M.sigs.length = N.sigs.length := congrArg (fun x => x.sigs.length) e; rw [h2] at h; simp at h)
                refine quick_tail 119 [.bool true, .bool true, undef, undef, undef, undef, undef, undef, .bool true, undef, undef, undef, undef, undef, undef, undef, undef, undef, undef, undef, undef, undef, undef, undef, undef, undef, undef, undef, undef, undef, undef, undef, undef, undef, undef, undef, undef, undef, undef, undef, undef, undef, undef, undef, undef, undef, undef, undef, undef, undef, undef, undef, undef, undef, undef, undef, undef, undef, undef, undef, undef, undef, undef] (by kernel_rfl) ?_
                simp only [List.take_succ_cons, List.take_zero, List.cons_append, List.nil_append]
                clear z1 z2 z3 z4 z5 z6 a0 b0 a1 b1 a2 b2 a3 b3 a4 b4 a5 b5 a6 b6 a7 b7 a40 b40 a73 b73 a74 b74 a75 b75 a76 b76 a77 b77
                go_wp2_with fail
                go_ret
                exact ⟨by rw [hno]; rfl, HE.out⟩
               | false =>
                go_wp2_with (go_at_call 28; refine E5.out.mono ?_; rintro e wa ⟨rfl, hxa⟩; refine Hid.out ?_)
                have c73 := Ext.load hxa a73
                have c76 := Ext.load hxa a76
                have e73 := Ext.load hxa b73
                have e76 := Ext.load hxa b76
                have HXa := Lib.hid (show Ext W0 wa from hxa)
                clear hxa z1 z2 z3 z4 z5 z6 a0 b0 a1 b1 a2 b2 a3 b3 a4 b4 a5 b5 a6 b6 a7 b7 a40 b40 a73 b73 a74 b74 a75 b75 a76 b76 a77 b77
                refine Lib.hid ?_
                cases d15 with
                | false =>
                 have hno : R = false := by rw [HR.out]; exact decide_eq_false (fun e => by have h := D15.out; rw [show M.ents.map EnV.x = N.ents.map EnV.x from congrArg Wm.ents e, Ent.sameL_refl] at h; cases h)
                 go_wp2_with fail
                 go_ret
                 exact ⟨by rw [hno]; rfl, HE.out.tr HXa.out⟩
                | true =>
                 have hls : M.subs.length = N.subs.length := by have h := D14.out; rw [bne_eq_false_iff_eq] at h; omega
                 have hlg : M.sigs.length = N.sigs.length := by have h := D16.out; rw [bne_eq_false_iff_eq] at h; omega
                 have HLS := Lib.hid hls
                 have HLG := Lib.hid hlg
                 clear hls hlg
                 go_wp2_with fail
                 go_loopw [5] (fun i wr => ∃ k : Nat, k ≤ M.subs.length ∧ i = .int .i64 k ∧ Hid ((M.subs.take k).map WsV.x = (N.subs.take k).map WsV.x) ∧ Ext wa wr) (fun i _ => M.subs.length - (intOf i).toNat)
                 case atStart => exact ⟨0, by omega, rfl, rfl, Ext.refl _⟩
                 case round =>
                  obtain ⟨k, hk, rfl, hyes, hbw⟩ := hrel
                  have c73 := Ext.load hbw c73
                  have HXr := Lib.hid (HXa.out.tr hbw)
                  have Hbw := Lib.hid hbw
                  clear hbw
                  by_cases h : k < M.subs.length
                  ·
                   have hm2 : k < N.subs.length := by have := HLS.out; omega
                   have hxd := HE.out.tr (HXr.out.tr (Ext.drew wr))
                   obtain ⟨ad, hsa, hcs, hin⟩ := (HM.out.sr.below hxd).at_ h
                   obtain ⟨bd, hsb, hct, hit⟩ := (HN.out.sr.below hxd).at_ hm2
                   have ik : (0 : Int) ≤ (k : Int) := by omega
                   have ik2 : (k : Int) < (M.subs.length : Int) := by omega
                   have ik3 : (k : Int) < (N.subs.length : Int) := by omega
                   have hstep : M.subs[k].x = N.subs[k].x → Hid ((M.subs.take (k + 1)).map WsV.x = (N.subs.take (k + 1)).map WsV.x) := fun e => take_step WsV.x h hm2 hyes e
                   have hne : M.subs[k].x ≠ N.subs[k].x → Hid (R = false) := fun e => by
                    show _ = _
                    rw [HR.out]; exact decide_eq_false (WmV.subs_ne k h hm2 e)
                   obtain ⟨y, hy⟩ : ∃ y, y = M.subs[k] := ⟨_, rfl⟩
                   obtain ⟨z, hz⟩ : ∃ z, z = N.subs[k] := ⟨_, rfl⟩
                   rw [← hy] at hcs hin hstep hne
                   rw [← hz] at hct hit hstep hne
                   clear hy hz
                   have y35 : wr.drew.cell? ⟨(ad.add (k * 36)).block, (ad.add (k * 36)).off + 35, none⟩ = some (.int .u64 (y.lsn : Int)) := hcs 35 _ (WsV.lsn_at hin.p.sum)
                   have z35 : wr.drew.cell? ⟨(bd.add (k * 36)).block, (bd.add (k * 36)).off + 35, none⟩ = some (.int .u64 (z.lsn : Int)) := hct 35 _ (WsV.lsn_at hit.p.sum)
                   have hYc : ∀ j u, (y.p.cells)[j]? = some u → wr.drew.cell? ((ad.add (k * 36)).add j) = some u := fun j u hj => hcs j u (WsV.part y j u hj)
                   have hZc : ∀ j u, (z.p.cells)[j]? = some u → wr.drew.cell? ((bd.add (k * 36)).add j) = some u := fun j u hj => hct j u (WsV.part z j u hj)
                   have i6 := pinfo hin.p.sum
                   have i7 := pinfo hit.p.sum
                   have sp : Calls Tryz.prog 29 #[.agg y.p.cells, .agg z.p.cells] wr.drew _ := ref_samePart y.p z.p wr.drew hin.p hit.p
                   obtain ⟨dl, hdl⟩ : ∃ b, ((y.lsn : Int) != (z.lsn : Int)) = b := ⟨_, rfl⟩
                   obtain ⟨ds, hds⟩ : ∃ b, y.p.x.same z.p.x = b := ⟨_, rfl⟩
                   rw [hds] at sp
                   obtain ⟨P1, hP1⟩ : ∃ P1, P1 = y.p.cells := ⟨_, rfl⟩
                   obtain ⟨P2, hP2⟩ : ∃ P2, P2 = z.p.cells := ⟨_, rfl⟩
                   rw [← hP1] at hYc i6 sp
                   rw [← hP2] at hZc i7 sp
                   have HY := Lib.hid hYc
                   have HZ := Lib.hid hZc
                   have SP := Lib.hid sp
                   have DL := Lib.hid hdl
                   have DS := Lib.hid hds
                   have HST := Lib.hid hstep
                   have HNE := Lib.hid hne
                   clear hYc hZc sp hdl hds hP1 hP2 hcs hct hin hit hstep hne hxd
                   have e73 := Ext.load Hbw.out e73
                   rw [hsa] at c73
                   rw [hsb] at e73
                   clear hsa hsb
                   go_wp2_with fail
                   have c73 := Ext.load (Ext.drew wr) c73
                   have e73 := Ext.load (Ext.drew wr) e73
                   cases dl with
                   | true =>
                    refine rg_start (by kernel_rfl) ?_
                    refine gD 0 rfl ?_
                    simp only [sP]
                    refine gS 1 rfl ⟨_, fun w' hx => by have hcx := hx.load c73; (go_simp <;> with_reducible rfl), ?_⟩
                    simp only [sP]
                    refine gD 2 rfl ?_
                    simp only [sP]
                    refine gD 3 rfl ?_
                    simp only [sP]
                    refine gD 4 rfl ?_
                    simp only [sP]
                    refine gS 5 rfl ⟨_, fun w' hx => by have hcx := hx.load y35; (go_simp <;> with_reducible rfl), ?_⟩
                    simp only [sP]
                    refine gD 6 rfl ?_
                    simp only [sP]
                    refine gS 7 rfl ⟨_, fun w' hx => by have hcx := hx.load e73; (go_simp <;> with_reducible rfl), ?_⟩
                    simp only [sP]
                    refine gD 8 rfl ?_
                    simp only [sP]
                    refine gD 9 rfl ?_
                    simp only [sP]
                    refine gD 10 rfl ?_
                    simp only [sP]
                    refine gS 11 rfl ⟨_, fun w' hx => by have hcx := hx.load z35; (go_simp <;> with_reducible rfl), ?_⟩
                    simp only [sP]
                    refine gS 12 rfl ⟨.bool true, fun w' hx => by rw [← DL.out]; exact ex_neqI rfl rfl rfl, ?_⟩
                    simp only [sP]
                    refine gD 13 rfl ?_
                    simp only [sP]
                    refine gK 14 rfl ?_
                    simp only [sP]
                    refine gK 15 rfl ?_
                    simp only [sP]
                    refine gK 16 rfl ?_
                    simp only [sP]
                    refine gK 17 rfl ?_
                    simp only [sP]
                    refine gK 18 rfl ?_
                    simp only [sP]
                    refine gK 19 rfl ?_
                    simp only [sP]
                    refine gK 20 rfl ?_
                    simp only [sP]
                    refine gK 21 rfl ?_
                    simp only [sP]
                    refine gK 22 rfl ?_
                    simp only [sP]
                    refine gK 23 rfl ?_
                    simp only [sP]
                    refine gK 24 rfl ?_
                    simp only [sP]
                    refine gK 25 rfl ?_
                    simp only [sP]
                    refine gK 26 rfl ?_
                    simp only [sP]
                    refine gK 27 rfl ?_
                    simp only [sP]
                    refine gD 28 rfl ?_
                    simp only [sP]
                    refine rg_done (by kernel_rfl) ?_
                    go_wp2_with fail
                    go_ret
                    exact ⟨by rw [(HNE.out (WsV.x_ne DL.out rfl)).out]; rfl, HE.out.tr (HXr.out.tr (Ext.drew wr))⟩
                   | false =>
                    refine rg_start (by kernel_rfl) ?_
                    refine gD 0 rfl ?_
                    simp only [sP]
                    refine gS 1 rfl ⟨_, fun w' hx => by have hcx := hx.load c73; (go_simp <;> with_reducible rfl), ?_⟩
                    simp only [sP]
                    refine gD 2 rfl ?_
                    simp only [sP]
                    refine gD 3 rfl ?_
                    simp only [sP]
                    refine gD 4 rfl ?_
                    simp only [sP]
                    refine gS 5 rfl ⟨_, fun w' hx => by have hcx := hx.load y35; (go_simp <;> with_reducible rfl), ?_⟩
                    simp only [sP]
                    refine gD 6 rfl ?_
                    simp only [sP]
                    refine gS 7 rfl ⟨_, fun w' hx => by have hcx := hx.load e73; (go_simp <;> with_reducible rfl), ?_⟩
                    simp only [sP]
                    refine gD 8 rfl ?_
                    simp only [sP]
                    refine gD 9 rfl ?_
                    simp only [sP]
                    refine gD 10 rfl ?_
                    simp only [sP]
                    refine gS 11 rfl ⟨_, fun w' hx => by have hcx := hx.load z35; (go_simp <;> with_reducible rfl), ?_⟩
                    simp only [sP]
                    refine gS 12 rfl ⟨.bool false, fun w' hx => by rw [← DL.out]; exact ex_neqI rfl rfl rfl, ?_⟩
                    simp only [sP]
                    refine gD 13 rfl ?_
                    simp only [sP]
                    refine gD 14 rfl ?_
                    simp only [sP]
                    refine gS 15 rfl ⟨_, fun w' hx => by have hcx := hx.load c73; (go_simp <;> with_reducible rfl), ?_⟩
                    simp only [sP]
                    refine gD 16 rfl ?_
                    simp only [sP]
                    refine gD 17 rfl ?_
                    simp only [sP]
                    refine gD 18 rfl ?_
                    simp only [sP]
                    refine gS 19 rfl ⟨.agg P1, fun w' hx => ex_load_cells 36 (.tmp 153) rfl _ rfl P1 _ (fun j u hj => hx.load (HY.out j u hj)) Tryz.underlying36 rfl i6, ?_⟩
                    simp only [sP]
                    refine gD 20 rfl ?_
                    simp only [sP]
                    refine gS 21 rfl ⟨_, fun w' hx => by have hcx := hx.load e73; (go_simp <;> with_reducible rfl), ?_⟩
                    simp only [sP]
                    refine gD 22 rfl ?_
                    simp only [sP]
                    refine gD 23 rfl ?_
                    simp only [sP]
                    refine gD 24 rfl ?_
                    simp only [sP]
                    refine gS 25 rfl ⟨.agg P2, fun w' hx => ex_load_cells 36 (.tmp 159) rfl _ rfl P2 _ (fun j u hj => hx.load (HZ.out j u hj)) Tryz.underlying36 rfl i7, ?_⟩
                    simp only [sP]
                    refine rg_call 26 SP.out rfl (by kernel_rfl) (by rfl) (by go_simp) ?_
                    rintro e w' ⟨rfl, hxs⟩
                    refine ⟨_, rfl, hxs, ?_⟩
                    simp only [sP]
                    refine gD 27 rfl ?_
                    simp only [sP]
                    refine gD 28 rfl ?_
                    simp only [sP]
                    refine rg_done (by kernel_rfl) ?_
                    have HXs := Lib.hid (show Ext wr.drew w' from hxs)
                    clear hxs
                    cases ds with
                    | false =>
                     go_wp2_with fail
                     go_ret
                     exact ⟨by rw [(HNE.out (WsV.x_ne2 DS.out)).out]; rfl, HE.out.tr (HXr.out.tr ((Ext.drew wr).tr HXs.out))⟩
                    | true =>
                     go_wp2_with fail
                     go_roundw
                     case rel => exact ⟨k + 1, by omega, by go_num, HST.out (WsV.x_eq DL.out DS.out), Hbw.out.tr ((Ext.drew wr).tr HXs.out)⟩
                     case measure => simp [intOf]; omega
                  ·
                   obtain rfl : k = M.subs.length := by omega
                   have c76 := Ext.load Hbw.out c76
                   have e76 := Ext.load Hbw.out e76
                   have HYES := Lib.hid hyes.out
                   clear h hyes
                   go_wp2_with fail
                   clear c73 e73
                   go_loopw [6] (fun i wq => ∃ k : Nat, k ≤ M.sigs.length ∧ i = .int .i64 k ∧ Hid ((M.sigs.take k).map id = (N.sigs.take k).map id) ∧ Ext wr wq) (fun i _ => M.sigs.length - (intOf i).toNat)
                   case atStart => exact ⟨0, by omega, rfl, rfl, Ext.refl _⟩
                   case round =>
                    obtain ⟨k, hk2, rfl, hyes, hbw⟩ := hrel
                    have c76 := Ext.load hbw c76
                    have e76 := Ext.load hbw e76
                    have HXq := Lib.hid (HXr.out.tr hbw)
                    have Hbq := Lib.hid hbw
                    clear hbw
                    by_cases h : k < M.sigs.length
                    ·
                     have hm2 : k < N.sigs.length := by have := HLG.out; omega
                     have hxd := HE.out.tr (HXq.out.tr (Ext.drew wr))
                     obtain ⟨ad, hsa, hcs, hin⟩ := (HM.out.gr.below hxd).at_ h
                     obtain ⟨bd, hsb, hct, hit⟩ := (HN.out.gr.below hxd).at_ hm2
                     have ik : (0 : Int) ≤ (k : Int) := by omega
                     have ik2 : (k : Int) < (M.sigs.length : Int) := by omega
                     have ik3 : (k : Int) < (N.sigs.length : Int) := by omega
                     have hstep : M.sigs[k] = N.sigs[k] → Hid ((M.sigs.take (k + 1)).map id = (N.sigs.take (k + 1)).map id) := fun e => take_step id h hm2 hyes e
                     have hne : M.sigs[k] ≠ N.sigs[k] → Hid (R = false) := fun e => by
                      show _ = _
                      rw [HR.out]; exact decide_eq_false (WmV.sigs_ne k h hm2 e)
                     obtain ⟨y, hy⟩ : ∃ y, y = M.sigs[k] := ⟨_, rfl⟩
                     obtain ⟨z, hz⟩ : ∃ z, z = N.sigs[k] := ⟨_, rfl⟩
                     rw [← hy] at hcs hin hstep hne
                     rw [← hz] at hct hit hstep hne
                     clear hy hz
                     have i6 := Wg.info hin
                     have i7 := Wg.info hit
                     obtain ⟨r, hr⟩ : ∃ r, r = decide (y = z) := ⟨_, rfl⟩
                     obtain ⟨P1, hP1⟩ : ∃ P1, P1 = y.cells := ⟨_, rfl⟩
                     obtain ⟨P2, hP2⟩ : ∃ P2, P2 = z.cells := ⟨_, rfl⟩
                     rw [← hP1] at hcs i6
                     rw [← hP2] at hct i7
                     have HY := Lib.hid hcs
                     have HZ := Lib.hid hct
                     have Hr := Lib.hid hr
                     have HP1 := Lib.hid hP1
                     have HP2 := Lib.hid hP2
                     have HST := Lib.hid hstep
                     have HNE := Lib.hid hne
                     have HIN := Lib.hid hin
                     have HIT := Lib.hid hit
                     clear hr hP1 hP2 hcs hct hin hit hstep hne hxd
                     rw [hsa] at c76
                     rw [hsb] at e76
                     clear hsa hsb
                     go_wp2_with fail
                     have c76 := Ext.load (Ext.drew wr) c76
                     have e76 := Ext.load (Ext.drew wr) e76
                     refine rg_start (by kernel_rfl) ?_
                     refine gD 0 rfl ?_
                     simp only [sP]
                     refine gS 1 rfl ⟨_, fun w' hx => by have hcx := hx.load c76; (go_simp <;> with_reducible rfl), ?_⟩
                     simp only [sP]
                     refine gD 2 rfl ?_
                     simp only [sP]
                     refine gD 3 rfl ?_
                     simp only [sP]
                     refine gS 4 rfl ⟨.agg P1, fun w' hx => ex_load_cells 65 (.tmp 174) rfl _ rfl P1 _ (fun j u hj => hx.load (HY.out j u hj)) Tryz.underlying65 rfl i6, ?_⟩
                     simp only [sP]
                     refine gD 5 rfl ?_
                     simp only [sP]
                     refine gS 6 rfl ⟨_, fun w' hx => by have hcx := hx.load e76; (go_simp <;> with_reducible rfl), ?_⟩
                     simp only [sP]
                     refine gD 7 rfl ?_
                     simp only [sP]
                     refine gD 8 rfl ?_
                     simp only [sP]
                     refine gS 9 rfl ⟨.agg P2, fun w' hx => ex_load_cells 65 (.tmp 179) rfl _ rfl P2 _ (fun j u hj => hx.load (HZ.out j u hj)) Tryz.underlying65 rfl i7, ?_⟩
                     simp only [sP]
                     refine gS 10 rfl ⟨.bool (!r), fun w' hx => ex_neqSig rfl rfl rfl (by rw [Hr.out, HP1.out, HP2.out]; exact neqSig y z HIN.out HIT.out w') (guardSigM _ _ _ _ _), ?_⟩
                     simp only [sP]
                     refine rg_done (by kernel_rfl) ?_
                     cases r with
                     | false =>
                      go_wp2_with fail
                      go_ret
                      exact ⟨by rw [(HNE.out (of_decide_eq_false Hr.out.symm)).out]; rfl, HE.out.tr (HXq.out.tr (Ext.drew wr))⟩
                     | true =>
                      go_wp2_with fail
                      go_roundw
                      case rel => exact ⟨k + 1, by omega, by go_num, HST.out (of_decide_eq_true Hr.out.symm), Hbq.out.tr (Ext.drew wr)⟩
                      case measure => simp [intOf]; omega
                    ·
                     obtain rfl : k = M.sigs.length := by omega
                     have hall : R = true := by
                      rw [HR.out]
                      refine decide_eq_true ?_
                      have x1 := D1.out
                      have x2 := D2.out
                      have x3 := D3.out
                      have x4 := D4.out
                      have x5 := D5.out
                      have x6 := D6.out
                      have x7 := D7.out
                      have x8 := D8.out
                      have x9 := D9.out
                      have x10 := D10.out
                      have x11 := D11.out
                      have x12 := D12.out
                      have x13 := D13.out
                      have x15 := (Ent.sameL_iff _ _).1 D15.out
                      have x14 := HYES.out
                      have x16 := hyes.out
                      rw [List.take_of_length_le (Nat.le_refl _), List.take_of_length_le (by rw [HLS.out]; exact Nat.le_refl _)] at x14
                      rw [List.take_of_length_le (Nat.le_refl _), List.take_of_length_le (by rw [HLG.out]; exact Nat.le_refl _), List.map_id, List.map_id] at x16
                      rw [bne_eq_false_iff_eq] at x1 x2 x3 x4 x5 x6 x8 x10
                      rw [Bool.not_eq_false', beq_iff_eq] at x7 x9 x11 x12 x13
                      show Wm.mk _ _ _ _ _ _ _ _ _ _ _ _ _ _ _ _ = Wm.mk _ _ _ _ _ _ _ _ _ _ _ _ _ _ _ _
                      rw [x1, x4, x6, x7, x8, x9, x10, x11, x12, x13, x14, x15, x16, show M.session = N.session by omega, show M.seq = N.seq by omega, show M.lsn = N.lsn by omega]
                     clear h
                     go_wp2_with fail
                     go_ret
                     exact ⟨by rw [hall]; rfl, HE.out.tr HXq.out⟩
end Go.Proofs.YtjholekgdnhpkaaGreatDoor
