/- Texts of the proof, laid together: WrN. -/
import Derived.Deep.Cut
import Derived.Test.YtjholekgdnhpkaaGreatZ13
import Derived.Test.YtjholekgdnhpkaaGreatZ14
set_option linter.unusedVariables false
set_option linter.unusedSimpArgs false
set_option linter.unusedSectionVars false
namespace Go.Proofs.YtjholekgdnhpkaaGreat
open Go.RowKit
attribute [local go_sem] Oper.semAt_some
theorem part_weakM (s : Wg) (w : World) : (part 23 s.cells 0).run Tryz.prog w = .ok (.int .u32 (s.weak : Int)) w := by
 have hc : s.cells[0]? = some (.int .u32 (s.weak : Int)) := rfl
 unfold part
 go_simp
theorem part_strongM {s : Wg} (h : s.Ok) (w : World) : (part 26 s.cells 1).run Tryz.prog w = .ok (.agg (bvs s.strong).toArray) w := by
 have hc : s.cells.extract 1 33 = (bvs s.strong).toArray := by
  apply Array.ext'
  simp [Wg.cells, Wg.cl]
  exact List.take_of_length_le (by rw [bvs_len, h.len]; exact Nat.le_refl _)
 have ha : (isAgg 26).run Tryz.prog w = .ok true w := by
  unfold isAgg
  rw [Sem.run_bind, run_underlying Tryz.underlying26 w]
  rfl
 have hi : (Tryz.prog.info? 26).map (·.size) = some 32 := by kernel_rfl
 have hz : (sizeOf 26).run Tryz.prog w = .ok 32 w := by
  cases hq : Tryz.prog.info? 26 with
  | none => rw [hq] at hi; cases hi
  | some i =>
   rw [hq] at hi
   have e : i.size = 32 := by simpa using hi
   simp [sizeOf, typeInfo, hq, e]
 unfold part
 simp only [Sem.run_bind, ha, Result.andThen_ok, if_true, hz, Sem.run_pure, hc]
theorem sigM_fields : (Tryz.prog.fieldsOf 65).toList = [⟨"Weak", 23, 0, false, "", "", 0⟩, ⟨"Strong", 26, 1, false, "", "", 4⟩] := by kernel_rfl
theorem sigM_under : Tryz.prog.underlying 65 = some (.struct (Tryz.prog.fieldsOf 65)) := by kernel_rfl
theorem sigM_held : Tryz.prog.stoodInHeld 65 = false := by kernel_rfl
theorem eqFields_consM {P : Program} {w : World} {d : Nat} {xs ys : Array Value} {f : Field} {fs : List Field} {a b : Value} {r s : Bool} (hn : f.name ≠ "_") (ha : (part f.type xs f.offset).run P w = .ok a w) (hb : (part f.type ys f.offset).run P w = .ok b w)
  (hr : (Op.equalIn d f.type a b).run P w = .ok r w) (hs : (Op.eqFields d xs ys fs).run P w = .ok s w) : (Op.eqFields d xs ys (f :: fs)).run P w = .ok (r && s) w := by
 rw [Op.eqFields, if_pos hn]
 simp only [Sem.run_bind, ha, hb, Result.andThen_ok, hr]
 cases r with
 | true => simp only [Bool.not_true, Bool.false_eq_true, if_false, Bool.true_and]; exact hs
 | false => simp
theorem eqFields_nilM {P : Program} {w : World} {d : Nat} {xs ys : Array Value} : (Op.eqFields d xs ys []).run P w = .ok true w := rfl
theorem run_eqSigM (d : Nat) (s t : Wg) (hs : s.Ok) (ht : t.Ok) (w : World) : (Op.equalIn (d + 2 + 1) 65 (.agg s.cells) (.agg t.cells)).run Tryz.prog w = .ok (decide (s = t)) w := by
 have h3 := run_eqArr s.strong t.strong w d 26 Tryz.underlying26 hs.len ht.len
 have h0 : (Op.equalIn (d + 2) 23 (.int .u32 (s.weak : Int)) (.int .u32 (t.weak : Int))).run Tryz.prog w = .ok ((s.weak : Int) == (t.weak : Int)) w := run_equalIn_int w (d + 1) 23 .u32 .u32 _ _ Tryz.underlying23
 have e := run_equalIn_agg w (d + 2) 65 s.cells t.cells sigM_under sigM_held
 rw [sigM_fields] at e
 have z1 : (Op.eqFields (d + 2) s.cells t.cells [⟨"Strong", 26, 1, false, "", "", 4⟩]).run Tryz.prog w = .ok _ w := eqFields_consM (by simp) (part_strongM hs w) (part_strongM ht w) h3 eqFields_nilM
 have z0 : (Op.eqFields (d + 2) s.cells t.cells [⟨"Weak", 23, 0, false, "", "", 0⟩, ⟨"Strong", 26, 1, false, "", "", 4⟩]).run Tryz.prog w = .ok _ w := eqFields_consM (by simp) (part_weakM s w) (part_weakM t w) h0 z1
 have hd : (((s.weak : Int) == (t.weak : Int)) && ((s.strong == t.strong) && true)) = decide (s = t) := by
  clear z0 z1 e h0 h3 hs ht
  obtain ⟨a, b⟩ := s
  obtain ⟨c, e⟩ := t
  rw [Bool.eq_iff_iff]
  simp only [Bool.and_true, Bool.and_eq_true, beq_iff_eq, decide_eq_true_eq, Wg.mk.injEq]
  constructor
  ·
   rintro ⟨h1, h2⟩; exact ⟨by omega, h2⟩
  ·
   rintro ⟨h1, h2⟩; exact ⟨by omega, h2⟩
 rw [hd] at z0
 exact e.trans z0
theorem ex_neqSig {P : Program} {o : Oper} {a : Act} {w : World} {t u : TypeId} {x y : Operand} {p q : Value} {b : Bool} (ho : o.op = .binOp .neq t x y u) (hx : a.eval x = p) (hy : a.eval y = q)
  (hr : (binOp .neq t p q).run P w = .ok (.bool b) w) (hg : (eqGuard .neq t x y p q).run P w = .ok () w) : (execOp a.eval o).run P w = .ok (.value (.bool b)) w := by
 unfold execOp
 simp only [ho, hx, hy, Sem.run_bind]
 rw [hg]
 simp only [Result.andThen_ok]
 rw [hr]
 rfl
theorem neqSig (s t : Wg) (hs : s.Ok) (ht : t.Ok) (w : World) : (binOp .neq 65 (.agg s.cells) (.agg t.cells)).run Tryz.prog w = .ok (.bool (!decide (s = t))) w := by
 rw [run_neq_struct, show (10000 : Nat) = 9997 + 2 + 1 from rfl, run_eqSigM 9997 s t hs ht w]
 rfl
theorem guardSigM (w : World) (x y : Operand) (a b : Array Value) : (eqGuard .neq 65 x y (.agg a) (.agg b)).run Tryz.prog w = .ok () w := by
 exact run_eqGuard_agg w .neq 65 x y a b (by kernel_rfl)
theorem wpList_eqM {P : Program} {ops : Array Oper} {rest : List Oper} {o : Oper} {a : Act} {w : World} {Q : Exit → Act → World → Prop} {t u : TypeId} {x y : Operand} {p q : Value} {b : Bool} (ho : o.op = .binOp .eql t x y u) (hgd : Region.wanted o (yielded ops a.tmps) = true) (hx : a.eval x = p) (hy : a.eval y = q)
  (hr : ∀ w, (binOp .eql t p q).run P w = .ok (.bool b) w) (hg : ∀ w, (eqGuard .eql t x y p q).run P w = .ok () w) (h : wpList P ops Q rest (a.put o.dst (.bool b)) w) : wpList P ops Q (o :: rest) a w :=
 wpList_want hgd fun K hK => by
  unfold Oper.wp execOp
  simp only [ho, hx, hy, Sem.run_bind]
  rw [hg]
  simp only [Result.andThen_ok]
  rw [hr]
  simp only [Result.andThen_ok]
  exact hK _ _ h
set_option maxRecDepth 100000 in
set_option maxHeartbeats 1000000 in
theorem equalG_any (A B : Option Addr) (l m : List Wg) (c d : Nat) (w : World) (hA : RdG w A l) (hB : RdG w B m) (hl : l.length ≤ 1000000) :
  Calls Tryz.prog 25 #[.slice A l.length c, .slice B m.length d] w fun e w' => e = .returned (.bool (decide (l = m))) ∧ Ext w w' := by
 obtain ⟨R, hR⟩ : ∃ R, R = decide (l = m) := ⟨_, rfl⟩
 rw [← hR]
 by_cases hlm : l.length = m.length
 ·
  have hlm2 : ((l.length : Int) != (m.length : Int)) = false := by rw [bne_eq_false_iff_eq]; omega
  have HR := Lib.hid hR
  have Hlm := Lib.hid hlm
  clear hlm hR
  go_enter Tryz.func25, Tryz.ntmps25
  go_wp2_with fail
  go_loopw [13] (fun i wr => ∃ k : Nat, k ≤ l.length ∧ i = .int .i64 k ∧ l.take k = m.take k ∧ Ext w wr) (fun i _ => l.length - (intOf i).toNat)
  case atStart => exact ⟨0, by omega, rfl, rfl, Ext.refl _⟩
  case round =>
   obtain ⟨k, hk, rfl, hyes, hbw⟩ := hrel
   have Hyes := Lib.hid hyes
   have Hbw := Lib.hid hbw
   clear hyes hbw
   by_cases h : k < l.length
   ·
    have hm2 : k < m.length := by have := Hlm.out; omega
    obtain ⟨ad, rfl, hcs, oks⟩ := ((hA.below Hbw.out).below (Ext.drew wr)).at_ h
    obtain ⟨bd, rfl, hct, okt⟩ := ((hB.below Hbw.out).below (Ext.drew wr)).at_ hm2
    have ik : (0 : Int) ≤ (k : Int) := by omega
    have ik2 : (k : Int) < (l.length : Int) := by omega
    have ik3 : (k : Int) < (m.length : Int) := by omega
    have Hn0 : decide (l[k] = m[k]) = true → Hid (l.take (k + 1) = m.take (k + 1)) := fun e => by
     show _ = _
     rw [List.take_add_one, List.take_add_one, List.getElem?_eq_getElem h, List.getElem?_eq_getElem hm2, Hyes.out, of_decide_eq_true e]
    have Hb0 : decide (l[k] = m[k]) = false → Hid (R = false) := fun e => by
     show _ = _
     rw [HR.out]
     refine decide_eq_false (fun e2 => absurd ?_ (of_decide_eq_false e))
     have h3 : l[k]? = m[k]? := by rw [e2]
     rw [List.getElem?_eq_getElem h, List.getElem?_eq_getElem hm2] at h3
     exact Option.some.inj h3
    obtain ⟨s, hs⟩ : ∃ s, s = l[k] := ⟨_, rfl⟩
    obtain ⟨t, ht⟩ : ∃ t, t = m[k] := ⟨_, rfl⟩
    rw [← hs] at hcs oks Hn0 Hb0
    rw [← ht] at hct okt Hn0 Hb0
    obtain ⟨r, hr⟩ : ∃ r, r = decide (s = t) := ⟨_, rfl⟩
    rw [← hr] at Hn0 Hb0
    have Hr := Lib.hid hr
    clear hs ht hr
    go_wp2_with fail
    refine rr_start (extW) [0, 1, 4, 5, 8] (by kernel_rfl) ?_
    refine qAD 0 rfl ?_
    simp only [sP]
    refine qAD 1 rfl ?_
    simp only [sP]
    refine qS 2 rfl ⟨.pointer (some (ad.add (k * 33))), fun w' hx => by (go_simp <;> with_reducible rfl), ?_⟩
    simp only [sP]
    refine qS 3 rfl ⟨.agg s.cells, fun w' hx => ex_load_cells 65 (.tmp 18) rfl _ rfl s.cells _ (fun j u hj => hx.load (hcs j u hj)) Tryz.underlying65 rfl (Wg.info oks), ?_⟩
    simp only [sP]
    refine qAD 4 rfl ?_
    simp only [sP]
    refine qAD 5 rfl ?_
    simp only [sP]
    refine qS 6 rfl ⟨.pointer (some (bd.add (k * 33))), fun w' hx => by (go_simp <;> with_reducible rfl), ?_⟩
    simp only [sP]
    refine qS 7 rfl ⟨.agg t.cells, fun w' hx => ex_load_cells 65 (.tmp 22) rfl _ rfl t.cells _ (fun j u hj => hx.load (hct j u hj)) Tryz.underlying65 rfl (Wg.info okt), ?_⟩
    simp only [sP]
    refine qAS 8 rfl ⟨.bool (!r), fun w' => ex_neqSig rfl rfl rfl (by rw [Hr.out]; exact neqSig s t oks okt w') (guardSigM _ _ _ _ _), ?_⟩
    simp only [sP]
    refine rr_done (by kernel_rfl) ?_
    cases r with
    | true =>
     have Hn1 := Hn0 rfl
     go_wp2_with fail
     go_roundw
     case rel => exact ⟨k + 1, by omega, by go_num, Hn1.out, Hbw.out.tr (Ext.drew _)⟩
     case measure => simp [intOf]; omega
    | false =>
     have Hb1 := Hb0 rfl
     go_wp2_with fail
     go_ret
     exact ⟨by rw [Hb1.out]; rfl, Hbw.out.tr (Ext.drew _)⟩
   ·
    obtain rfl : k = l.length := by omega
    have hlt : ¬ (l.length : Int) < (l.length : Int) := by omega
    go_wp2_with fail
    go_ret
    refine ⟨?_, Hbw.out⟩
    have h1 := Hyes.out
    rw [List.take_length, Hlm.out, List.take_length] at h1
    rw [HR.out, decide_eq_true h1]
    rfl
 ·
  have hlm2 : ((l.length : Int) != (m.length : Int)) = true := by rw [bne_iff_ne]; omega
  have hR' : R = false := by rw [hR]; exact decide_eq_false (fun e => hlm (by rw [e]))
  have HR := Lib.hid hR'
  clear hlm hR hR'
  go_enter Tryz.func25, Tryz.ntmps25
  go_wp2_with fail
  go_ret
  exact ⟨by rw [HR.out]; rfl, Ext.refl _⟩
theorem guardSumM (w : World) (x y : Operand) (a b : Array Value) : (eqGuard .eql 26 x y (.agg a) (.agg b)).run Tryz.prog w = .ok () w := by
 exact run_eqGuard_agg w .eql 26 x y a b (by kernel_rfl)
theorem wm_eq (a b : Wm) : decide (a = b) = ((((a.kind == b.kind) && ((a.session : Int) == (b.session : Int))) && ((a.seq : Int) == (b.seq : Int))) && (((((((a.n == b.n) && ((a.lsn : Int) == (b.lsn : Int))) && (a.count == b.count)) && (a.sum == b.sum)) && (a.size == b.size)) && (a.file == b.file)) && (a.more == b.more)) &&
  (((a.lo == b.lo) && (a.hi == b.hi)) && (a.data == b.data)) && decide (a.subs = b.subs) && decide (a.ents = b.ents) && decide (a.sigs = b.sigs)) := by
 obtain ⟨a1, a2, a3, a4, a5, a6, a7, a8, a9, a10, a11, a12, a13, a14, a15, a16⟩ := a
 obtain ⟨b1, b2, b3, b4, b5, b6, b7, b8, b9, b10, b11, b12, b13, b14, b15, b16⟩ := b
 rw [Bool.eq_iff_iff]
 simp only [Bool.and_eq_true, beq_iff_eq, decide_eq_true_eq, Wm.mk.injEq, Int.natCast_inj]
 constructor
 ·
  rintro ⟨h1, h2, h3, h4, h5, h6, h7, h8, h9, h10, h11, h12, h13, h14, h15, h16⟩
  exact ⟨⟨⟨⟨⟨⟨⟨h1, h2⟩, h3⟩, ⟨⟨⟨⟨⟨⟨h6, h7⟩, h8⟩, h9⟩, h10⟩, h11⟩, h13⟩⟩, ⟨⟨h4, h5⟩, h16⟩⟩, h12⟩, h14⟩, h15⟩
 ·
  rintro ⟨⟨⟨⟨⟨⟨⟨h1, h2⟩, h3⟩, ⟨⟨⟨⟨⟨⟨h6, h7⟩, h8⟩, h9⟩, h10⟩, h11⟩, h13⟩⟩, ⟨⟨h4, h5⟩, h16⟩⟩, h12⟩, h14⟩, h15⟩
  exact ⟨h1, h2, h3, h4, h5, h6, h7, h8, h9, h10, h11, h12, h13, h14, h15, h16⟩
set_option maxRecDepth 100000 in
set_option maxHeartbeats 40000000 in
theorem wsame_any (M N : WmV) (w : World) (hM : M.In w) (hN : N.In w) (f1 : M.subs.length ≤ 1000000) (f2 : N.subs.length ≤ 1000000) (f3 : M.ents.length ≤ 1000000) (f4 : N.ents.length ≤ 1000000) (f5 : M.sigs.length ≤ 1000000) :
  Calls Tryz.prog 10 #[.agg M.cells, .agg N.cells] w fun e w' => e = .returned (.bool (decide (M.x = N.x))) ∧ Ext w w' := by
 have hE : Ext w ((w.alloc (.cells M.cells MT)).alloc (.cells N.cells MT)) := Ext.tr (Ext.alloc _ _) (Ext.alloc _ _)
 have g0 : ((w.alloc (.cells M.cells MT)).alloc (.cells N.cells MT)).heap[w.heap.size]? = some (.cells M.cells MT (0, 0)) := ((Ext.alloc _ _).block _ (lt_of_heap (heap_alloc_new w _))).trans (heap_alloc_new w _)
 have k0 : ((w.alloc (.cells M.cells MT)).alloc (.cells N.cells MT)).heap[w.heap.size + 1]? = some (.cells N.cells MT (0, 0)) := by simpa using heap_alloc_new (w.alloc (.cells M.cells MT)) (.cells N.cells MT)
 rw [wm_eq]
 have a0 : ((w.alloc (.cells M.cells MT)).alloc (.cells N.cells MT)).cell? ⟨w.heap.size, 0, none⟩ = _ := (cell_of_row _ _ 0 _ _ _ g0).trans (WmV.at0 M)
 have b0 : ((w.alloc (.cells M.cells MT)).alloc (.cells N.cells MT)).cell? ⟨w.heap.size + 1, 0, none⟩ = _ := (cell_of_row _ _ 0 _ _ _ k0).trans (WmV.at0 N)
 have a1 : ((w.alloc (.cells M.cells MT)).alloc (.cells N.cells MT)).cell? ⟨w.heap.size, 1, none⟩ = _ := (cell_of_row _ _ 1 _ _ _ g0).trans (WmV.at1 M)
 have b1 : ((w.alloc (.cells M.cells MT)).alloc (.cells N.cells MT)).cell? ⟨w.heap.size + 1, 1, none⟩ = _ := (cell_of_row _ _ 1 _ _ _ k0).trans (WmV.at1 N)
 have a2 : ((w.alloc (.cells M.cells MT)).alloc (.cells N.cells MT)).cell? ⟨w.heap.size, 2, none⟩ = _ := (cell_of_row _ _ 2 _ _ _ g0).trans (WmV.at2 M)
 have b2 : ((w.alloc (.cells M.cells MT)).alloc (.cells N.cells MT)).cell? ⟨w.heap.size + 1, 2, none⟩ = _ := (cell_of_row _ _ 2 _ _ _ k0).trans (WmV.at2 N)
 have a3 : ((w.alloc (.cells M.cells MT)).alloc (.cells N.cells MT)).cell? ⟨w.heap.size, 3, none⟩ = _ := (cell_of_row _ _ 3 _ _ _ g0).trans (WmV.at3 M)
 have b3 : ((w.alloc (.cells M.cells MT)).alloc (.cells N.cells MT)).cell? ⟨w.heap.size + 1, 3, none⟩ = _ := (cell_of_row _ _ 3 _ _ _ k0).trans (WmV.at3 N)
 have a4 : ((w.alloc (.cells M.cells MT)).alloc (.cells N.cells MT)).cell? ⟨w.heap.size, 4, none⟩ = _ := (cell_of_row _ _ 4 _ _ _ g0).trans (WmV.at4 M)
 have b4 : ((w.alloc (.cells M.cells MT)).alloc (.cells N.cells MT)).cell? ⟨w.heap.size + 1, 4, none⟩ = _ := (cell_of_row _ _ 4 _ _ _ k0).trans (WmV.at4 N)
 have a5 : ((w.alloc (.cells M.cells MT)).alloc (.cells N.cells MT)).cell? ⟨w.heap.size, 5, none⟩ = _ := (cell_of_row _ _ 5 _ _ _ g0).trans (WmV.at5 M)
 have b5 : ((w.alloc (.cells M.cells MT)).alloc (.cells N.cells MT)).cell? ⟨w.heap.size + 1, 5, none⟩ = _ := (cell_of_row _ _ 5 _ _ _ k0).trans (WmV.at5 N)
 have a6 : ((w.alloc (.cells M.cells MT)).alloc (.cells N.cells MT)).cell? ⟨w.heap.size, 6, none⟩ = _ := (cell_of_row _ _ 6 _ _ _ g0).trans (WmV.at6 M)
 have b6 : ((w.alloc (.cells M.cells MT)).alloc (.cells N.cells MT)).cell? ⟨w.heap.size + 1, 6, none⟩ = _ := (cell_of_row _ _ 6 _ _ _ k0).trans (WmV.at6 N)
 have a7 : ((w.alloc (.cells M.cells MT)).alloc (.cells N.cells MT)).cell? ⟨w.heap.size, 7, none⟩ = _ := (cell_of_row _ _ 7 _ _ _ g0).trans (WmV.at7 M)
 have b7 : ((w.alloc (.cells M.cells MT)).alloc (.cells N.cells MT)).cell? ⟨w.heap.size + 1, 7, none⟩ = _ := (cell_of_row _ _ 7 _ _ _ k0).trans (WmV.at7 N)
 have a40 : ((w.alloc (.cells M.cells MT)).alloc (.cells N.cells MT)).cell? ⟨w.heap.size, 40, none⟩ = _ := (cell_of_row _ _ 40 _ _ _ g0).trans (WmV.at40 hM.ok)
 have b40 : ((w.alloc (.cells M.cells MT)).alloc (.cells N.cells MT)).cell? ⟨w.heap.size + 1, 40, none⟩ = _ := (cell_of_row _ _ 40 _ _ _ k0).trans (WmV.at40 hN.ok)
 have a73 : ((w.alloc (.cells M.cells MT)).alloc (.cells N.cells MT)).cell? ⟨w.heap.size, 73, none⟩ = _ := (cell_of_row _ _ 73 _ _ _ g0).trans (WmV.at73 hM.ok)
 have b73 : ((w.alloc (.cells M.cells MT)).alloc (.cells N.cells MT)).cell? ⟨w.heap.size + 1, 73, none⟩ = _ := (cell_of_row _ _ 73 _ _ _ k0).trans (WmV.at73 hN.ok)
 have a74 : ((w.alloc (.cells M.cells MT)).alloc (.cells N.cells MT)).cell? ⟨w.heap.size, 74, none⟩ = _ := (cell_of_row _ _ 74 _ _ _ g0).trans (WmV.at74 hM.ok)
 have b74 : ((w.alloc (.cells M.cells MT)).alloc (.cells N.cells MT)).cell? ⟨w.heap.size + 1, 74, none⟩ = _ := (cell_of_row _ _ 74 _ _ _ k0).trans (WmV.at74 hN.ok)
 have a75 : ((w.alloc (.cells M.cells MT)).alloc (.cells N.cells MT)).cell? ⟨w.heap.size, 75, none⟩ = _ := (cell_of_row _ _ 75 _ _ _ g0).trans (WmV.at75 hM.ok)
 have b75 : ((w.alloc (.cells M.cells MT)).alloc (.cells N.cells MT)).cell? ⟨w.heap.size + 1, 75, none⟩ = _ := (cell_of_row _ _ 75 _ _ _ k0).trans (WmV.at75 hN.ok)
 have a76 : ((w.alloc (.cells M.cells MT)).alloc (.cells N.cells MT)).cell? ⟨w.heap.size, 76, none⟩ = _ := (cell_of_row _ _ 76 _ _ _ g0).trans (WmV.at76 hM.ok)
 have b76 : ((w.alloc (.cells M.cells MT)).alloc (.cells N.cells MT)).cell? ⟨w.heap.size + 1, 76, none⟩ = _ := (cell_of_row _ _ 76 _ _ _ k0).trans (WmV.at76 hN.ok)
 have a77 : ((w.alloc (.cells M.cells MT)).alloc (.cells N.cells MT)).cell? ⟨w.heap.size, 77, none⟩ = _ := (cell_of_row _ _ 77 _ _ _ g0).trans (WmV.at77 hM.ok)
 have b77 : ((w.alloc (.cells M.cells MT)).alloc (.cells N.cells MT)).cell? ⟨w.heap.size + 1, 77, none⟩ = _ := (cell_of_row _ _ 77 _ _ _ k0).trans (WmV.at77 hN.ok)
 have s1 : ∀ j u, ((bvs M.sum).toArray)[j]? = some u → ((w.alloc (.cells M.cells MT)).alloc (.cells N.cells MT)).cell? ((⟨w.heap.size, 8, none⟩ : Addr).add j) = some u := fun j u hj => by
  have hj2 : j < 32 := by have := (Array.getElem?_eq_some_iff.1 hj).1; rw [List.size_toArray, bvs_len, hM.ok.sum] at this; exact this
  rw [Addr.add_lit, cell_of_row _ _ _ _ _ _ g0, WmV.at8 hM.ok j hj2]; simpa using hj
 have s2 : ∀ j u, ((bvs N.sum).toArray)[j]? = some u → ((w.alloc (.cells M.cells MT)).alloc (.cells N.cells MT)).cell? ((⟨w.heap.size + 1, 8, none⟩ : Addr).add j) = some u := fun j u hj => by
  have hj2 : j < 32 := by have := (Array.getElem?_eq_some_iff.1 hj).1; rw [List.size_toArray, bvs_len, hN.ok.sum] at this; exact this
  rw [Addr.add_lit, cell_of_row _ _ _ _ _ _ k0, WmV.at8 hN.ok j hj2]; simpa using hj
 have s3 : ∀ j u, ((bvs M.file).toArray)[j]? = some u → ((w.alloc (.cells M.cells MT)).alloc (.cells N.cells MT)).cell? ((⟨w.heap.size, 41, none⟩ : Addr).add j) = some u := fun j u hj => by
  have hj2 : j < 32 := by have := (Array.getElem?_eq_some_iff.1 hj).1; rw [List.size_toArray, bvs_len, hM.ok.file] at this; exact this
  rw [Addr.add_lit, cell_of_row _ _ _ _ _ _ g0, WmV.at41 hM.ok j hj2]; simpa using hj
 have s4 : ∀ j u, ((bvs N.file).toArray)[j]? = some u → ((w.alloc (.cells M.cells MT)).alloc (.cells N.cells MT)).cell? ((⟨w.heap.size + 1, 41, none⟩ : Addr).add j) = some u := fun j u hj => by
  have hj2 : j < 32 := by have := (Array.getElem?_eq_some_iff.1 hj).1; rw [List.size_toArray, bvs_len, hN.ok.file] at this; exact this
  rw [Addr.add_lit, cell_of_row _ _ _ _ _ _ k0, WmV.at41 hN.ok j hj2]; simpa using hj
 have i1 : (Tryz.prog.info? 26).map (·.size) = some ((bvs M.sum).toArray).size := by rw [List.size_toArray, bvs_len, hM.ok.sum]; kernel_rfl
 have i2 : (Tryz.prog.info? 26).map (·.size) = some ((bvs N.sum).toArray).size := by rw [List.size_toArray, bvs_len, hN.ok.sum]; kernel_rfl
 have i3 : (Tryz.prog.info? 26).map (·.size) = some ((bvs M.file).toArray).size := by rw [List.size_toArray, bvs_len, hM.ok.file]; kernel_rfl
 have i4 : (Tryz.prog.info? 26).map (·.size) = some ((bvs N.file).toArray).size := by rw [List.size_toArray, bvs_len, hN.ok.file]; kernel_rfl
 have q1 := fun W => run_eqSum (w := W) (x := M.sum) (y := N.sum) hM.ok.sum hN.ok.sum
 have q2 := fun W => run_eqSum (w := W) (x := M.file) (y := N.file) hM.ok.file hN.ok.file
 have e1 := fun W (x : Ext w W) => equal_any M.la N.la M.lo N.lo M.lc N.lc W (hM.lr.below x) (hN.lr.below x)
 have e2 := fun W (x : Ext w W) => equal_any M.ha N.ha M.hi N.hi M.hc N.hc W (hM.hr.below x) (hN.hr.below x)
 have e3 := fun W (x : Ext w W) => equal_any M.da N.da M.data N.data M.dc N.dc W (hM.dr.below x) (hN.dr.below x)
 have e4 := fun W (x : Ext w W) => equalW_any M.sa N.sa M.subs N.subs M.sc N.sc W (hM.sr.below x) (hN.sr.below x) f1 f2
 have e5 := fun W (x : Ext w W) => equalE_any M.ea N.ea M.ents N.ents M.ec N.ec W (hM.er.below x) (hN.er.below x) f3 f4
 have e6 := fun W (x : Ext w W) => equalG_any M.ga N.ga M.sigs N.sigs M.gc N.gc W (hM.gr.below x) (hN.gr.below x) f5
 obtain ⟨c1, hc1⟩ : ∃ b, b = (M.x.kind == N.x.kind) := ⟨_, rfl⟩
 obtain ⟨c2, hc2⟩ : ∃ b, b = ((M.x.session : Int) == (N.x.session : Int)) := ⟨_, rfl⟩
 obtain ⟨c3, hc3⟩ : ∃ b, b = ((M.x.seq : Int) == (N.x.seq : Int)) := ⟨_, rfl⟩
 obtain ⟨c4, hc4⟩ : ∃ b, b = (M.x.n == N.x.n) := ⟨_, rfl⟩
 obtain ⟨c5, hc5⟩ : ∃ b, b = ((M.x.lsn : Int) == (N.x.lsn : Int)) := ⟨_, rfl⟩
 obtain ⟨c6, hc6⟩ : ∃ b, b = (M.x.count == N.x.count) := ⟨_, rfl⟩
 obtain ⟨c7, hc7⟩ : ∃ b, b = (M.x.sum == N.x.sum) := ⟨_, rfl⟩
 obtain ⟨c8, hc8⟩ : ∃ b, b = (M.x.size == N.x.size) := ⟨_, rfl⟩
 obtain ⟨c9, hc9⟩ : ∃ b, b = (M.x.file == N.x.file) := ⟨_, rfl⟩
 obtain ⟨c10, hc10⟩ : ∃ b, b = (M.x.more == N.x.more) := ⟨_, rfl⟩
 obtain ⟨c11, hc11⟩ : ∃ b, b = (M.x.lo == N.x.lo) := ⟨_, rfl⟩
 obtain ⟨c12, hc12⟩ : ∃ b, b = (M.x.hi == N.x.hi) := ⟨_, rfl⟩
 obtain ⟨c13, hc13⟩ : ∃ b, b = (M.x.data == N.x.data) := ⟨_, rfl⟩
 obtain ⟨c14, hc14⟩ : ∃ b, b = decide (M.x.subs = N.x.subs) := ⟨_, rfl⟩
 obtain ⟨c15, hc15⟩ : ∃ b, b = decide (M.x.ents = N.x.ents) := ⟨_, rfl⟩
 obtain ⟨c16, hc16⟩ : ∃ b, b = decide (M.x.sigs = N.x.sigs) := ⟨_, rfl⟩
 rw [← hc1, ← hc2, ← hc3, ← hc4, ← hc5, ← hc6, ← hc7, ← hc8, ← hc9, ← hc10, ← hc11, ← hc12, ← hc13, ← hc14, ← hc15, ← hc16]
 have r1 : (M.kind == N.kind) = c1 := hc1.symm
 have r2 : ((M.session : Int) == (N.session : Int)) = c2 := hc2.symm
 have r3 : ((M.seq : Int) == (N.seq : Int)) = c3 := hc3.symm
 have r4 : (M.n == N.n) = c4 := hc4.symm
 have r5 : ((M.lsn : Int) == (N.lsn : Int)) = c5 := hc5.symm
 have r6 : (M.count == N.count) = c6 := hc6.symm
 have r8 : (M.size == N.size) = c8 := hc8.symm
 have r10 : (M.more == N.more) = c10 := hc10.symm
 rw [show (M.sum == N.sum) = c7 from hc7.symm] at q1
 rw [show (M.file == N.file) = c9 from hc9.symm] at q2
 rw [show (M.lo == N.lo) = c11 from hc11.symm] at e1
 rw [show (M.hi == N.hi) = c12 from hc12.symm] at e2
 rw [show (M.data == N.data) = c13 from hc13.symm] at e3
 rw [show decide (M.subs.map WsV.x = N.subs.map WsV.x) = c14 from hc14.symm] at e4
 rw [show decide (M.ents.map EnV.x = N.ents.map EnV.x) = c15 from hc15.symm] at e5
 rw [show decide (M.sigs = N.sigs) = c16 from hc16.symm] at e6
 clear hc1 hc2 hc3 hc4 hc5 hc6 hc7 hc8 hc9 hc10 hc11 hc12 hc13 hc14 hc15 hc16
 obtain ⟨B5, hB5⟩ : ∃ b, b = ((c1 && c2) && c3) := ⟨_, rfl⟩
 obtain ⟨B6, hB6⟩ : ∃ b, b = ((((((c4 && c5) && c6) && c7) && c8) && c9) && c10) := ⟨_, rfl⟩
 obtain ⟨B7, hB7⟩ : ∃ b, b = ((c11 && c12) && c13) := ⟨_, rfl⟩
 rw [← hB5, ← hB6, ← hB7]
 have HB5 := Lib.hid hB5
 have HB6 := Lib.hid hB6
 have HB7 := Lib.hid hB7
 clear hB5 hB6 hB7
 have HE := Lib.hid hE
 have Hs1 := Lib.hid s1
 have Hs2 := Lib.hid s2
 have Hs3 := Lib.hid s3
 have Hs4 := Lib.hid s4
 have Q1 := Lib.hid q1
 have Q2 := Lib.hid q2
 clear hE s1 s2 s3 s4 q1 q2 g0 k0 hM hN f1 f2 f3 f4 f5
 obtain ⟨W0, hW0⟩ : ∃ W0, W0 = (w.alloc (.cells M.cells MT)).alloc (.cells N.cells MT) := ⟨_, rfl⟩
 obtain ⟨P, hP⟩ : ∃ P, P = M.cells := ⟨_, rfl⟩
 obtain ⟨Q, hQ⟩ : ∃ Q, Q = N.cells := ⟨_, rfl⟩
 rw [← hW0] at HE Hs1 Hs2 Hs3 Hs4 a0 b0 a1 b1 a2 b2 a3 b3 a4 b4 a5 b5 a6 b6 a7 b7 a40 b40 a73 b73 a74 b74 a75 b75 a76 b76 a77 b77
 rw [← hP, ← hQ] at hW0 ⊢
 have HW0 := Lib.hid hW0
 clear hP hQ hW0
 go_enter Tryz.func10, Tryz.ntmps10
 go_upto_region 1 with fail
 rw [← HW0.out]
 go_cut [5] from 8 (fun s5 w' => s5 = .bool B5 ∧ w' = W0)
 case first =>
  go_wp2_with fail
  all_goals (go_meet; exact ⟨by rw [HB5.out]; first | rfl | (simp [*]; done), rfl⟩)
 case rest =>
 obtain ⟨rfl, hw⟩ := hcut
 rw [hw]
 clear hw
 go_upto_region 2 with fail
 go_cut [5, 6] from 8 (fun s5 s6 w' => s5 = .bool B5 ∧ s6 = .bool B6 ∧ w' = W0)
 case first =>
  cases c4 with
  | false =>
   go_wp2_with fail
   all_goals (go_meet; exact ⟨rfl, by rw [HB6.out]; first | rfl | (simp; done), rfl⟩)
  | true =>
   cases c5 with
   | false =>
    go_wp2_with fail
    all_goals (go_meet; exact ⟨rfl, by rw [HB6.out]; first | rfl | (simp; done), rfl⟩)
   | true =>
    cases c6 with
    | false =>
     go_wp2_with fail
     all_goals (go_meet; exact ⟨rfl, by rw [HB6.out]; first | rfl | (simp; done), rfl⟩)
    | true =>
     cases c7 with
     | false =>
      go_wp2_with (first | (refine wpList_load_cells (by rfl) 26 (.tmp 47) rfl ⟨w.heap.size, 8, none⟩ rfl (bvs M.sum).toArray _ Hs1.out Tryz.underlying26 rfl i1 ?_) | (refine wpList_load_cells (by rfl) 26 (.tmp 49) rfl ⟨w.heap.size + 1, 8, none⟩ rfl (bvs N.sum).toArray _ Hs2.out Tryz.underlying26 rfl i2 ?_; refine wpList_eqM (t := 26) (u := 26) (x := .tmp 48) (y := .tmp 50) (p := .agg (bvs M.sum).toArray) (q := .agg (bvs N.sum).toArray) (b := _) rfl (by rfl) rfl rfl Q1.out (fun W => guardSumM W _ _ _ _) ?_) | (refine wpList_load_cells (by rfl) 26 (.tmp 61) rfl ⟨w.heap.size, 41, none⟩ rfl (bvs M.file).toArray _ Hs3.out Tryz.underlying26 rfl i3 ?_) | (refine wpList_load_cells (by rfl) 26 (.tmp 63) rfl ⟨w.heap.size + 1, 41, none⟩ rfl (bvs N.file).toArray _ Hs4.out Tryz.underlying26 rfl i4 ?_; refine wpList_eqM (t := 26) (u := 26) (x := .tmp 62) (y := .tmp 64) (p := .agg (bvs M.file).toArray) (q := .agg (bvs N.file).toArray) (b := _) rfl (by rfl) rfl rfl Q2.out (fun W => guardSumM W _ _ _ _) ?_))
      all_goals (go_meet; exact ⟨rfl, by rw [HB6.out]; first | rfl | (simp; done), rfl⟩)
     | true =>
      cases c8 with
      | false =>
       go_wp2_with (first | (refine wpList_load_cells (by rfl) 26 (.tmp 47) rfl ⟨w.heap.size, 8, none⟩ rfl (bvs M.sum).toArray _ Hs1.out Tryz.underlying26 rfl i1 ?_) | (refine wpList_load_cells (by rfl) 26 (.tmp 49) rfl ⟨w.heap.size + 1, 8, none⟩ rfl (bvs N.sum).toArray _ Hs2.out Tryz.underlying26 rfl i2 ?_; refine wpList_eqM (t := 26) (u := 26) (x := .tmp 48) (y := .tmp 50) (p := .agg (bvs M.sum).toArray) (q := .agg (bvs N.sum).toArray) (b := _) rfl (by rfl) rfl rfl Q1.out (fun W => guardSumM W _ _ _ _) ?_) | (refine wpList_load_cells (by rfl) 26 (.tmp 61) rfl ⟨w.heap.size, 41, none⟩ rfl (bvs M.file).toArray _ Hs3.out Tryz.underlying26 rfl i3 ?_) | (refine wpList_load_cells (by rfl) 26 (.tmp 63) rfl ⟨w.heap.size + 1, 41, none⟩ rfl (bvs N.file).toArray _ Hs4.out Tryz.underlying26 rfl i4 ?_; refine wpList_eqM (t := 26) (u := 26) (x := .tmp 62) (y := .tmp 64) (p := .agg (bvs M.file).toArray) (q := .agg (bvs N.file).toArray) (b := _) rfl (by rfl) rfl rfl Q2.out (fun W => guardSumM W _ _ _ _) ?_))
       all_goals (go_meet; exact ⟨rfl, by rw [HB6.out]; first | rfl | (simp; done), rfl⟩)
      | true =>
       cases c9 with
       | false =>
        go_wp2_with (first | (refine wpList_load_cells (by rfl) 26 (.tmp 47) rfl ⟨w.heap.size, 8, none⟩ rfl (bvs M.sum).toArray _ Hs1.out Tryz.underlying26 rfl i1 ?_) | (refine wpList_load_cells (by rfl) 26 (.tmp 49) rfl ⟨w.heap.size + 1, 8, none⟩ rfl (bvs N.sum).toArray _ Hs2.out Tryz.underlying26 rfl i2 ?_; refine wpList_eqM (t := 26) (u := 26) (x := .tmp 48) (y := .tmp 50) (p := .agg (bvs M.sum).toArray) (q := .agg (bvs N.sum).toArray) (b := _) rfl (by rfl) rfl rfl Q1.out (fun W => guardSumM W _ _ _ _) ?_) | (refine wpList_load_cells (by rfl) 26 (.tmp 61) rfl ⟨w.heap.size, 41, none⟩ rfl (bvs M.file).toArray _ Hs3.out Tryz.underlying26 rfl i3 ?_) | (refine wpList_load_cells (by rfl) 26 (.tmp 63) rfl ⟨w.heap.size + 1, 41, none⟩ rfl (bvs N.file).toArray _ Hs4.out Tryz.underlying26 rfl i4 ?_; refine wpList_eqM (t := 26) (u := 26) (x := .tmp 62) (y := .tmp 64) (p := .agg (bvs M.file).toArray) (q := .agg (bvs N.file).toArray) (b := _) rfl (by rfl) rfl rfl Q2.out (fun W => guardSumM W _ _ _ _) ?_))
        all_goals (go_meet; exact ⟨rfl, by rw [HB6.out]; first | rfl | (simp; done), rfl⟩)
       | true =>
        go_wp2_with (first | (refine wpList_load_cells (by rfl) 26 (.tmp 47) rfl ⟨w.heap.size, 8, none⟩ rfl (bvs M.sum).toArray _ Hs1.out Tryz.underlying26 rfl i1 ?_) | (refine wpList_load_cells (by rfl) 26 (.tmp 49) rfl ⟨w.heap.size + 1, 8, none⟩ rfl (bvs N.sum).toArray _ Hs2.out Tryz.underlying26 rfl i2 ?_; refine wpList_eqM (t := 26) (u := 26) (x := .tmp 48) (y := .tmp 50) (p := .agg (bvs M.sum).toArray) (q := .agg (bvs N.sum).toArray) (b := _) rfl (by rfl) rfl rfl Q1.out (fun W => guardSumM W _ _ _ _) ?_) | (refine wpList_load_cells (by rfl) 26 (.tmp 61) rfl ⟨w.heap.size, 41, none⟩ rfl (bvs M.file).toArray _ Hs3.out Tryz.underlying26 rfl i3 ?_) | (refine wpList_load_cells (by rfl) 26 (.tmp 63) rfl ⟨w.heap.size + 1, 41, none⟩ rfl (bvs N.file).toArray _ Hs4.out Tryz.underlying26 rfl i4 ?_; refine wpList_eqM (t := 26) (u := 26) (x := .tmp 62) (y := .tmp 64) (p := .agg (bvs M.file).toArray) (q := .agg (bvs N.file).toArray) (b := _) rfl (by rfl) rfl rfl Q2.out (fun W => guardSumM W _ _ _ _) ?_))
        all_goals (go_meet; exact ⟨rfl, by rw [HB6.out]; first | rfl | (simp; done), rfl⟩)
 case rest =>
 obtain ⟨rfl, rfl, hw⟩ := hcut
 rw [hw]
 clear hw
 go_upto_region 3 with fail
 go_cut [5, 6, 7] from 8 (fun s5 s6 s7 w' => s5 = .bool B5 ∧ s6 = .bool B6 ∧ s7 = .bool B7 ∧ w' = W0)
 case first =>
  cases c11 with
  | false =>
   go_wp2_with (go_at_call 14; first | (refine (e1 W0 HE.out).mono ?_; rintro e w' ⟨rfl, rfl⟩) | (refine (e2 W0 HE.out).mono ?_; rintro e w' ⟨rfl, rfl⟩) | (refine (e3 W0 HE.out).mono ?_; rintro e w' ⟨rfl, rfl⟩))
   all_goals (go_meet; exact ⟨rfl, rfl, by rw [HB7.out]; first | rfl | (simp; done), rfl⟩)
  | true =>
   cases c12 with
   | false =>
    go_wp2_with (go_at_call 14; first | (refine (e1 W0 HE.out).mono ?_; rintro e w' ⟨rfl, rfl⟩) | (refine (e2 W0 HE.out).mono ?_; rintro e w' ⟨rfl, rfl⟩) | (refine (e3 W0 HE.out).mono ?_; rintro e w' ⟨rfl, rfl⟩))
    all_goals (go_meet; exact ⟨rfl, rfl, by rw [HB7.out]; first | rfl | (simp; done), rfl⟩)
   | true =>
    go_wp2_with (go_at_call 14; first | (refine (e1 W0 HE.out).mono ?_; rintro e w' ⟨rfl, rfl⟩) | (refine (e2 W0 HE.out).mono ?_; rintro e w' ⟨rfl, rfl⟩) | (refine (e3 W0 HE.out).mono ?_; rintro e w' ⟨rfl, rfl⟩))
    all_goals (go_meet; exact ⟨rfl, rfl, by rw [HB7.out]; first | rfl | (simp; done), rfl⟩)
 case rest =>
 obtain ⟨rfl, rfl, rfl, hw⟩ := hcut
 rw [hw]
 clear hw
 cases B5 with
 | false =>
  go_wp2_with fail
  go_ret
  exact ⟨by simp, HE.out⟩
 | true =>
  cases B6 with
  | false =>
   go_wp2_with fail
   go_ret
   exact ⟨by simp, HE.out⟩
  | true =>
   cases B7 with
   | false =>
    go_wp2_with fail
    go_ret
    exact ⟨by simp, HE.out⟩
   | true =>
    cases c14 with
    | false =>
     go_wp2_with (go_at_call 21; refine (e4 W0 HE.out).mono ?_; rintro e wa ⟨rfl, hxa⟩; refine Hid.out ?_)
     have HXa := Lib.hid (HE.out.tr hxa)
     have a73 := Ext.load (hxa) a73
     have b73 := Ext.load (hxa) b73
     have a75 := Ext.load (hxa) a75
     have b75 := Ext.load (hxa) b75
     have a76 := Ext.load (hxa) a76
     have b76 := Ext.load (hxa) b76
     clear hxa
     refine Lib.hid ?_
     go_wp2_with fail
     go_ret
     exact ⟨by simp, HXa.out⟩
    | true =>
     cases c15 with
     | false =>
      go_wp2_with (go_at_call 21; refine (e4 W0 HE.out).mono ?_; rintro e wa ⟨rfl, hxa⟩; refine Hid.out ?_)
      have HXa := Lib.hid (HE.out.tr hxa)
      have a73 := Ext.load (hxa) a73
      have b73 := Ext.load (hxa) b73
      have a75 := Ext.load (hxa) a75
      have b75 := Ext.load (hxa) b75
      have a76 := Ext.load (hxa) a76
      have b76 := Ext.load (hxa) b76
      clear hxa
      refine Lib.hid ?_
      go_wp2_with (go_at_call 23; refine (e5 wa HXa.out).mono ?_; rintro e wb ⟨rfl, hxb⟩; refine Hid.out ?_)
      have HXb := Lib.hid (HXa.out.tr hxb)
      have a73 := Ext.load (hxb) a73
      have b73 := Ext.load (hxb) b73
      have a75 := Ext.load (hxb) a75
      have b75 := Ext.load (hxb) b75
      have a76 := Ext.load (hxb) a76
      have b76 := Ext.load (hxb) b76
      clear hxb
      refine Lib.hid ?_
      go_wp2_with fail
      go_ret
      exact ⟨by simp, HXb.out⟩
     | true =>
      go_wp2_with (go_at_call 21; refine (e4 W0 HE.out).mono ?_; rintro e wa ⟨rfl, hxa⟩; refine Hid.out ?_)
      have HXa := Lib.hid (HE.out.tr hxa)
      have a73 := Ext.load (hxa) a73
      have b73 := Ext.load (hxa) b73
      have a75 := Ext.load (hxa) a75
      have b75 := Ext.load (hxa) b75
      have a76 := Ext.load (hxa) a76
      have b76 := Ext.load (hxa) b76
      clear hxa
      refine Lib.hid ?_
      go_wp2_with (go_at_call 23; refine (e5 wa HXa.out).mono ?_; rintro e wb ⟨rfl, hxb⟩; refine Hid.out ?_)
      have HXb := Lib.hid (HXa.out.tr hxb)
      have a73 := Ext.load (hxb) a73
      have b73 := Ext.load (hxb) b73
      have a75 := Ext.load (hxb) a75
      have b75 := Ext.load (hxb) b75
      have a76 := Ext.load (hxb) a76
      have b76 := Ext.load (hxb) b76
      clear hxb
      refine Lib.hid ?_
      go_wp2_with (go_at_call 25; refine (e6 wb HXb.out).mono ?_; rintro e wd ⟨rfl, hxd⟩; refine Hid.out ?_)
      have HXd := Lib.hid (HXb.out.tr hxd)
      clear hxd
      refine Lib.hid ?_
      go_wp2_with fail
      go_ret
      exact ⟨by simp, HXd.out⟩
end Go.Proofs.YtjholekgdnhpkaaGreat
