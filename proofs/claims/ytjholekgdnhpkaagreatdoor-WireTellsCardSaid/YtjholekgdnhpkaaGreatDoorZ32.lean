/- Texts of the proof, laid together: WrNa. -/
import Derived.Deep.Cut
import Derived.Deep.Draws
import Derived.Deep.RegionHeld
import Derived.Great.BuildSlice
import Derived.Laws.BitsAllLaws
import Derived.Laws.CopyRow
import Derived.Laws.Externs
import Derived.Laws.ResultCell
import Derived.Laws.Rows
import Derived.Laws.StructEq
import Derived.Lib.Bytealg
import Derived.Lib.Hide
import Derived.LoopIn
import Derived.LoopNIn
import Derived.MapKept
import Derived.OrdersHeld
import Derived.OrdersIn
import Derived.OwnWalkIn
import Derived.RangeFuncBound
import Derived.RangeFuncCalls
import Derived.RangeFuncLeaves
import Derived.RangeFuncNested
import Derived.TacticsInMore
import Derived.WalkKit
import Derived.WalkLawsBesides
import Derived.WalkSpells
import Derived.Test.YtjholekgdnhpkaaGreatDoorZ30
import Derived.Test.YtjholekgdnhpkaaGreatDoorZ14
import Derived.Test.YtjholekgdnhpkaaGreatDoorZ1
set_option linter.unusedVariables false
set_option linter.unusedSimpArgs false
set_option linter.unusedSectionVars false
namespace Go.Proofs.YtjholekgdnhpkaaGreatDoor
open Go.RowKit
attribute [local go_sem] Oper.semAt_some
theorem part_weakM (s : Wg) (w : World) : (part 22 s.cells 0).run Tryz.prog w = .ok (.int .u32 (s.weak : Int)) w := by
 have hc : s.cells[0]? = some (.int .u32 (s.weak : Int)) := rfl
 unfold part
 go_simp
theorem part_strongM {s : Wg} (h : s.Ok) (w : World) : (part 26 s.cells 1).run Tryz.prog w = .ok (.agg (bvs s.strong).toArray) w := by
 have hc : s.cells.extract 1 33 = (bvs s.strong).toArray := by
  apply Array.ext'
  simp [Wg.cells, Wg.cl]
  exact List.take_of_length_le (by rw [bvs_len, h.len]; exact Nat.le_refl _)
 have ha : (isAgg 26).run Tryz.prog w = .ok true w := by
  unfold isAgg
  rw [Sem.run_bind, run_underlying Tryz.underlying26 w]
  rfl
 have hi : (Tryz.prog.info? 26).map (·.size) = some 32 := by kernel_rfl
 have hz : (sizeOf 26).run Tryz.prog w = .ok 32 w := by
  cases hq : Tryz.prog.info? 26 with
  | none => rw [hq] at hi; cases hi
  | some i =>
   rw [hq] at hi
   have e : i.size = 32 := by simpa using hi
   simp [sizeOf, typeInfo, hq, e]
 unfold part
 simp only [Sem.run_bind, ha, Result.andThen_ok, if_true, hz, Sem.run_pure, hc]
theorem sigM_fields : (Tryz.prog.fieldsOf 65).toList = [⟨"Weak", 22, 0, false, "", "", 0⟩, ⟨"Strong", 26, 1, false, "", "", 4⟩] := by kernel_rfl
theorem sigM_under : Tryz.prog.underlying 65 = some (.struct (Tryz.prog.fieldsOf 65)) := by kernel_rfl
theorem sigM_held : Tryz.prog.stoodInHeld 65 = false := by kernel_rfl
theorem eqFields_consM {P : Program} {w : World} {d : Nat} {xs ys : Array Value} {f : Field} {fs : List Field} {a b : Value} {r s : Bool} (hn : f.name ≠ "_") (ha : (part f.type xs f.offset).run P w = .ok a w) (hb : (part f.type ys f.offset).run P w = .ok b w)
  (hr : (Op.equalIn d f.type a b).run P w = .ok r w) (hs : (Op.eqFields d xs ys fs).run P w = .ok s w) : (Op.eqFields d xs ys (f :: fs)).run P w = .ok (r && s) w := by
 rw [Op.eqFields, if_pos hn]
 simp only [Sem.run_bind, ha, hb, Result.andThen_ok, hr]
 cases r with
 | true => simp only [Bool.not_true, Bool.false_eq_true, if_false, Bool.true_and]; exact hs
 | false => simp
theorem eqFields_nilM {P : Program} {w : World} {d : Nat} {xs ys : Array Value} : (Op.eqFields d xs ys []).run P w = .ok true w := rfl
theorem run_eqSigM (d : Nat) (s t : Wg) (hs : s.Ok) (ht : t.Ok) (w : World) : (Op.equalIn (d + 2 + 1) 65 (.agg s.cells) (.agg t.cells)).run Tryz.prog w = .ok (decide (s = t)) w := by
 have h3 := run_eqArr s.strong t.strong w d 26 Tryz.underlying26 hs.len ht.len
 have h0 : (Op.equalIn (d + 2) 22 (.int .u32 (s.weak : Int)) (.int .u32 (t.weak : Int))).run Tryz.prog w = .ok ((s.weak : Int) == (t.weak : Int)) w := run_equalIn_int w (d + 1) 22 .u32 .u32 _ _ Tryz.underlying22
 have e := run_equalIn_agg w (d + 2) 65 s.cells t.cells sigM_under sigM_held
 rw [sigM_fields] at e
 have z1 : (Op.eqFields (d + 2) s.cells t.cells [⟨"Strong", 26, 1, false, "", "", 4⟩]).run Tryz.prog w = .ok _ w := eqFields_consM (by simp) (part_strongM hs w) (part_strongM ht w) h3 eqFields_nilM
 have z0 : (Op.eqFields (d + 2) s.cells t.cells [⟨"Weak", 22, 0, false, "", "", 0⟩, ⟨"Strong", 26, 1, false, "", "", 4⟩]).run Tryz.prog w = .ok _ w := eqFields_consM (by simp) (part_weakM s w) (part_weakM t w) h0 z1
 have hd : (((s.weak : Int) == (t.weak : Int)) && ((s.strong == t.strong) && true)) = decide (s = t) := by
  clear z0 z1 e h0 h3 hs ht
  obtain ⟨a, b⟩ := s
  obtain ⟨c, e⟩ := t
  rw [Bool.eq_iff_iff]
  simp only [Bool.and_true, Bool.and_eq_true, beq_iff_eq, decide_eq_true_eq, Wg.mk.injEq]
  constructor
  ·
   rintro ⟨h1, h2⟩; exact ⟨by omega, h2⟩
  ·
   rintro ⟨h1, h2⟩; exact ⟨by omega, h2⟩
 rw [hd] at z0
 exact e.trans z0
theorem ex_neqSig {P : Program} {o : Oper} {a : Act} {w : World} {t u : TypeId} {x y : Operand} {p q : Value} {b : Bool} (ho : o.op = .binOp .neq t x y u) (hx : a.eval x = p) (hy : a.eval y = q)
  (hr : (binOp .neq t p q).run P w = .ok (.bool b) w) (hg : (eqGuard .neq t x y p q).run P w = .ok () w) : (execOp a.eval o).run P w = .ok (.value (.bool b)) w := by
 unfold execOp
 simp only [ho, hx, hy, Sem.run_bind]
 rw [hg]
 simp only [Result.andThen_ok]
 rw [hr]
 rfl
theorem neqSig (s t : Wg) (hs : s.Ok) (ht : t.Ok) (w : World) : (binOp .neq 65 (.agg s.cells) (.agg t.cells)).run Tryz.prog w = .ok (.bool (!decide (s = t))) w := by
 rw [run_neq_struct, show (10000 : Nat) = 9997 + 2 + 1 from rfl, run_eqSigM 9997 s t hs ht w]
 rfl
theorem guardSigM (w : World) (x y : Operand) (a b : Array Value) : (eqGuard .neq 65 x y (.agg a) (.agg b)).run Tryz.prog w = .ok () w := by
 exact run_eqGuard_agg w .neq 65 x y a b (by kernel_rfl)
theorem wpList_eqM {P : Program} {ops : Array Oper} {rest : List Oper} {o : Oper} {a : Act} {w : World} {Q : Exit → Act → World → Prop} {t u : TypeId} {x y : Operand} {p q : Value} {b : Bool} (ho : o.op = .binOp .eql t x y u) (hgd : Region.wanted o (yielded ops a.tmps) = true) (hx : a.eval x = p) (hy : a.eval y = q)
  (hr : ∀ w, (binOp .eql t p q).run P w = .ok (.bool b) w) (hg : ∀ w, (eqGuard .eql t x y p q).run P w = .ok () w) (h : wpList P ops Q rest (a.put o.dst (.bool b)) w) : wpList P ops Q (o :: rest) a w :=
 wpList_want hgd fun K hK => by
  unfold Oper.wp execOp
  simp only [ho, hx, hy, Sem.run_bind]
  rw [hg]
  simp only [Result.andThen_ok]
  rw [hr]
  simp only [Result.andThen_ok]
  exact hK _ _ h
set_option maxRecDepth 100000 in
set_option maxHeartbeats 1000000 in
theorem equalG_any (A B : Option Addr) (l m : List Wg) (c d : Nat) (w : World) (hA : RdG w A l) (hB : RdG w B m) (hl : l.length ≤ 1000000) :
  Calls Tryz.prog 34 #[.slice A l.length c, .slice B m.length d] w fun e w' => e = .returned (.bool (decide (l = m))) ∧ Ext w w' := by
 obtain ⟨R, hR⟩ : ∃ R, R = decide (l = m) := ⟨_, rfl⟩
 rw [← hR]
 by_cases hlm : l.length = m.length
 ·
  have hlm2 : ((l.length : Int) != (m.length : Int)) = false := by rw [bne_eq_false_iff_eq]; omega
  have HR := Lib.hid hR
  have Hlm := Lib.hid hlm
  clear hlm hR
  go_enter Tryz.func34, Tryz.ntmps34
  go_wp2_with fail
  go_loopw [13] (fun i wr => ∃ k : Nat, k ≤ l.length ∧ i = .int .i64 k ∧ l.take k = m.take k ∧ Ext w wr) (fun i _ => l.length - (intOf i).toNat)
  case atStart => exact ⟨0, by omega, rfl, rfl, Ext.refl _⟩
  case round =>
   obtain ⟨k, hk, rfl, hyes, hbw⟩ := hrel
   have Hyes := Lib.hid hyes
   have Hbw := Lib.hid hbw
   clear hyes hbw
   by_cases h : k < l.length
   ·
    have hm2 : k < m.length := by have := Hlm.out; omega
    obtain ⟨ad, rfl, hcs, oks⟩ := ((hA.below Hbw.out).below (Ext.drew wr)).at_ h
    obtain ⟨bd, rfl, hct, okt⟩ := ((hB.below Hbw.out).below (Ext.drew wr)).at_ hm2
    have ik : (0 : Int) ≤ (k : Int) := by omega
    have ik2 : (k : Int) < (l.length : Int) := by omega
    have ik3 : (k : Int) < (m.length : Int) := by omega
    have Hn0 : decide (l[k] = m[k]) = true → Hid (l.take (k + 1) = m.take (k + 1)) := fun e => by
     show _ = _
     rw [List.take_add_one, List.take_add_one, List.getElem?_eq_getElem h, List.getElem?_eq_getElem hm2, Hyes.out, of_decide_eq_true e]
    have Hb0 : decide (l[k] = m[k]) = false → Hid (R = false) := fun e => by
     show _ = _
     rw [HR.out]
     refine decide_eq_false (fun e2 => absurd ?_ (of_decide_eq_false e))
     have h3 : l[k]? = m[k]? := by rw [e2]
     rw [List.getElem?_eq_getElem h, List.getElem?_eq_getElem hm2] at h3
     exact Option.some.inj h3
    obtain ⟨s, hs⟩ : ∃ s, s = l[k] := ⟨_, rfl⟩
    obtain ⟨t, ht⟩ : ∃ t, t = m[k] := ⟨_, rfl⟩
    rw [← hs] at hcs oks Hn0 Hb0
    rw [← ht] at hct okt Hn0 Hb0
    obtain ⟨r, hr⟩ : ∃ r, r = decide (s = t) := ⟨_, rfl⟩
    rw [← hr] at Hn0 Hb0
    have Hr := Lib.hid hr
    clear hs ht hr
    go_wp2_with fail
    refine rr_start (extW) [0, 1, 4, 5, 8] (by kernel_rfl) ?_
    refine qAD 0 rfl ?_
    simp only [sP]
    refine qAD 1 rfl ?_
    simp only [sP]
    refine qS 2 rfl ⟨.pointer (some (ad.add (k * 33))), fun w' hx => by (go_simp <;> with_reducible rfl), ?_⟩
    simp only [sP]
    refine qS 3 rfl ⟨.agg s.cells, fun w' hx => ex_load_cells 65 (.tmp 18) rfl _ rfl s.cells _ (fun j u hj => hx.load (hcs j u hj)) Tryz.underlying65 rfl (Wg.info oks), ?_⟩
    simp only [sP]
    refine qAD 4 rfl ?_
    simp only [sP]
    refine qAD 5 rfl ?_
    simp only [sP]
    refine qS 6 rfl ⟨.pointer (some (bd.add (k * 33))), fun w' hx => by (go_simp <;> with_reducible rfl), ?_⟩
    simp only [sP]
    refine qS 7 rfl ⟨.agg t.cells, fun w' hx => ex_load_cells 65 (.tmp 22) rfl _ rfl t.cells _ (fun j u hj => hx.load (hct j u hj)) Tryz.underlying65 rfl (Wg.info okt), ?_⟩
    simp only [sP]
    refine qAS 8 rfl ⟨.bool (!r), fun w' => ex_neqSig rfl rfl rfl (by rw [Hr.out]; exact neqSig s t oks okt w') (guardSigM _ _ _ _ _), ?_⟩
    simp only [sP]
    refine rr_done (by kernel_rfl) ?_
    cases r with
    | true =>
     have Hn1 := Hn0 rfl
     go_wp2_with fail
     go_roundw
     case rel => exact ⟨k + 1, by omega, by go_num, Hn1.out, Hbw.out.tr (Ext.drew _)⟩
     case measure => simp [intOf]; omega
    | false =>
     have Hb1 := Hb0 rfl
     go_wp2_with fail
     go_ret
     exact ⟨by rw [Hb1.out]; rfl, Hbw.out.tr (Ext.drew _)⟩
   ·
    obtain rfl : k = l.length := by omega
    have hlt : ¬ (l.length : Int) < (l.length : Int) := by omega
    go_wp2_with fail
    go_ret
    refine ⟨?_, Hbw.out⟩
    have h1 := Hyes.out
    rw [List.take_length, Hlm.out, List.take_length] at h1
    rw [HR.out, decide_eq_true h1]
    rfl
 ·
  have hlm2 : ((l.length : Int) != (m.length : Int)) = true := by rw [bne_iff_ne]; omega
  have hR' : R = false := by rw [hR]; exact decide_eq_false (fun e => hlm (by rw [e]))
  have HR := Lib.hid hR'
  clear hlm hR hR'
  go_enter Tryz.func34, Tryz.ntmps34
  go_wp2_with fail
  go_ret
  exact ⟨by rw [HR.out]; rfl, Ext.refl _⟩
theorem guardSumM (w : World) (x y : Operand) (a b : Array Value) : (eqGuard .eql 26 x y (.agg a) (.agg b)).run Tryz.prog w = .ok () w := by
 exact run_eqGuard_agg w .eql 26 x y a b (by kernel_rfl)
theorem wm_eq (a b : Wm) : decide (a = b) = ((((a.kind == b.kind) && ((a.session : Int) == (b.session : Int))) && ((a.seq : Int) == (b.seq : Int))) && (((((((a.n == b.n) && ((a.lsn : Int) == (b.lsn : Int))) && (a.count == b.count)) && (a.sum == b.sum)) && (a.size == b.size)) && (a.file == b.file)) && (a.more == b.more)) &&
  (((a.lo == b.lo) && (a.hi == b.hi)) && (a.data == b.data)) && decide (a.subs = b.subs) && decide (a.ents = b.ents) && decide (a.sigs = b.sigs)) := by
 obtain ⟨a1, a2, a3, a4, a5, a6, a7, a8, a9, a10, a11, a12, a13, a14, a15, a16⟩ := a
 obtain ⟨b1, b2, b3, b4, b5, b6, b7, b8, b9, b10, b11, b12, b13, b14, b15, b16⟩ := b
 rw [Bool.eq_iff_iff]
 simp only [Bool.and_eq_true, beq_iff_eq, decide_eq_true_eq, Wm.mk.injEq, Int.natCast_inj]
 constructor
 ·
  rintro ⟨h1, h2, h3, h4, h5, h6, h7, h8, h9, h10, h11, h12, h13, h14, h15, h16⟩
  exact ⟨⟨⟨⟨⟨⟨⟨h1, h2⟩, h3⟩, ⟨⟨⟨⟨⟨⟨h6, h7⟩, h8⟩, h9⟩, h10⟩, h11⟩, h13⟩⟩, ⟨⟨h4, h5⟩, h16⟩⟩, h12⟩, h14⟩, h15⟩
 ·
  rintro ⟨⟨⟨⟨⟨⟨⟨h1, h2⟩, h3⟩, ⟨⟨⟨⟨⟨⟨h6, h7⟩, h8⟩, h9⟩, h10⟩, h11⟩, h13⟩⟩, ⟨⟨h4, h5⟩, h16⟩⟩, h12⟩, h14⟩, h15⟩
  exact ⟨h1, h2, h3, h4, h5, h6, h7, h8, h9, h10, h11, h12, h13, h14, h15, h16⟩
end Go.Proofs.YtjholekgdnhpkaaGreatDoor
