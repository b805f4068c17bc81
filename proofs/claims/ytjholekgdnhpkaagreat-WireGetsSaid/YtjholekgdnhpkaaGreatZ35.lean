/- Texts of the proof, laid together: WqE. -/
import Derived.Test.YtjholekgdnhpkaaGreatZ34
import Derived.Test.YtjholekgdnhpkaaGreatZ29
import Derived.Test.YtjholekgdnhpkaaGreatZ19
set_option linter.unusedVariables false
set_option linter.unusedSimpArgs false
set_option linter.unusedSectionVars false
namespace Go.Proofs.YtjholekgdnhpkaaGreat
open Go.RowKit
attribute [local go_sem] Oper.semAt_some
theorem Ext.tr2 {a b c : World} (h : Ext a b) (t : Trn (fun i => a.heap.size ≤ i) b c) : Ext a c := h.trans (t.below h.size (fun _ e => e))
theorem Qs.run_le : ∀ (n : Nat) (d : List UInt8) (b : Bool), (Qs.run n d b).1.length ≤ n
 | 0, _, _ => Nat.le_refl _
 | n + 1, d, b => by
  unfold Qs.run
  split
  ·
   exact Nat.zero_le _
  ·
   have := Qs.run_le n (Qs.one d b).2.1 (Qs.one d b).2.2
   simp only [List.length_cons]
   omega
theorem Rg.run_le : ∀ (n : Nat) (d : List UInt8) (b : Bool), (Rg.run n d b).1.length ≤ n
 | 0, _, _ => Nat.le_refl _
 | n + 1, d, b => by
  unfold Rg.run
  split
  ·
   have := Rg.run_le n (Rg.one d b).2.1 (Rg.one d b).2.2
   simp only [List.length_cons]
   omega
  ·
   exact Nat.zero_le _
theorem Qn.rest_len (d : List UInt8) : (Qn.rest d).length ≤ d.length := by unfold Qn.rest; rw [List.length_drop]; omega
theorem Wm.qread_small (m : Wm) (hs : m.subs = []) (he : m.ents = []) (hg : m.sigs = []) (d : List UInt8) :
  (m.qread d).1.subs.length ≤ 60 ∧ Ent.total (m.qread d).1.ents + 20 * (m.qread d).1.ents.length ≤ 21 * d.length ∧ (m.qread d).1.sigs.length ≤ d.length + 1 := by
 have hnil : Ent.total [] + 20 * ([] : List Ent).length ≤ 21 * d.length := by simp [Ent.total_nil]
 have h0 : m.subs.length ≤ 60 ∧ Ent.total m.ents + 20 * m.ents.length ≤ 21 * d.length ∧ m.sigs.length ≤ d.length + 1 := by rw [hs, he, hg]; exact ⟨by simp, hnil, by simp⟩
 have hq : ∀ (x : List UInt8) (b : Bool), (Qs.all x b).1.length ≤ 60 := fun x b => by unfold Qs.all; exact Nat.le_trans (Qs.run_le _ _ _) (Nat.min_le_right _ _)
 unfold Wm.qread
 split
 ·
  exact h0
 ·
  split
  ·
   exact h0
  ·
   split
   ·
    exact h0
   ·
    split
    ·
     exact ⟨hq _ _, h0.2⟩
    ·
     split
     ·
      exact ⟨hq _ _, h0.2⟩
     ·
      split
      ·
       have hd5 : (Rc.rest 1 (Rt.rest (Rt.rest d))).length ≤ d.length := Nat.le_trans (Rc.rest_len 1 (Rt.rest (Rt.rest d))) (Nat.le_trans (Rt.rest_len (Rt.rest d)) (Rt.rest_len d))
       have hk : Ent.total ((Ent.getAll (Rc.rest 1 (Rt.rest (Rt.rest d)))).getD []) + 20 * ((Ent.getAll (Rc.rest 1 (Rt.rest (Rt.rest d)))).getD []).length ≤ 21 * d.length := by
        cases h : Ent.getAll (Rc.rest 1 (Rt.rest (Rt.rest d))) with
        | none => simp [Ent.total_nil]
        | some L => have := Ent.getAll_small h; simp only [Option.getD_some]; omega
       generalize hz : Ent.getAll (Rc.rest 1 (Rt.rest (Rt.rest d))) = z at hk
       simp only [Wm.rdEnds, hz]
       exact ⟨h0.1, hk, h0.2.2⟩
      ·
       split
       ·
        refine ⟨h0.1, h0.2.1, ?_⟩
        have h1 := Rg.run_le ((Qn.rest d).length + 1) (Qn.rest d) (!Rn.ok d)
        have h2 := Qn.rest_len d
        show (Rg.all (Qn.rest d) (!Rn.ok d)).1.length ≤ _
        unfold Rg.all
        omega
       ·
        split
        ·
         exact h0
        ·
         exact h0
def Wm.qd (b : List UInt8) : Wm × List UInt8 × Bool := (Wm.head (Crc.got b)).qread ((Crc.got b).drop 9)
theorem Wm.get_none {b : List UInt8} (h : Crc.ok b = true → 9 ≤ (Crc.got b).length → b.length ≤ 8000 → (Wm.qd b).2.2 = false → (Wm.qd b).1.put = (b, 0) → False) : Wm.get b = (Wm.nul, 240) := by
 unfold Wm.get
 split
 ·
  next hc =>
  split
  ·
   next hp =>
   exfalso
   obtain ⟨h1, h2⟩ := hp
   have h9 : 9 ≤ (Crc.got b).length := by
    by_cases hh : (Crc.got b).length < 9
    ·
     unfold Wm.take at h1; rw [if_pos hh] at h1; cases h1
    ·
     omega
   have ht : Wm.take (Crc.got b) = (((Wm.head (Crc.got b)).read ((Crc.got b).drop 9)).1, (Wm.known (Wm.head (Crc.got b)).kind && !((Wm.head (Crc.got b)).read ((Crc.got b).drop 9)).2.2) && decide (((Wm.head (Crc.got b)).read ((Crc.got b).drop 9)).2.1.length = 0)) := by
    unfold Wm.take
    rw [if_neg (by omega)]
   rw [ht] at h1 h2
   simp only [Bool.and_eq_true, Bool.not_eq_true'] at h1
   obtain ⟨a1, a2⟩ := Wm.qread_agree _ _ h1.1.2
   obtain ⟨_, _, _, h8⟩ := Wm.put_yes h2
   refine h hc h9 h8 a2 ?_
   unfold Wm.qd
   rw [a1]
   exact h2
  ·
   rfl
 ·
  rfl
section
variable {ρ : Wr} {E : List Nat} {P : Program} {ops : Array Oper} {md : Region.Mode} {Q : Exit → Act → World → Prop}
theorem rr_br (i j : Nat) {fuel : Nat} {listed : Array Bool} {a : Act} {w : World} (hr : Region.ready md ops listed = [i, j])
  (hi : wpOp P ops Q i (fun a' w' => (ρ.r w w' ∨ waitsE E md ops listed i = true) ∧ wpAnyQ ρ E P md ops Q fuel (listed.setIfInBounds i true) a' w') a w)
  (hj : wpOp P ops Q j (fun a' w' => (ρ.r w w' ∨ waitsE E md ops listed j = true) ∧ wpAnyQ ρ E P md ops Q fuel (listed.setIfInBounds j true) a' w') a w) : wpAnyQ ρ E P md ops Q (fuel + 1) listed a w := by
 refine ⟨fun h0 => absurd (hr ▸ h0) (by simp), fun k hk => ?_⟩
 rw [hr] at hk
 simp only [List.mem_cons, List.not_mem_nil, or_false] at hk
 rcases hk with rfl | rfl
 ·
  exact hi
 ·
  exact hj
theorem ro_call (i : Nat) {oi : Oper} {fuel : Nat} {listed : Array Bool} {a : Act} {w : World} {f : FuncId} {args : Array Value} {R : Ending → World → Prop} (hc : Calls P f args w R) (hi0 : ops.toList[i]? = some oi)
  (hw : Region.wanted oi (yielded ops a.tmps) = true) (hx : (execOp a.eval oi).run P w = .ok (.enter f args) w)
  (h : ∀ e w', R e w' → ∃ v, e = .returned v ∧ ρ.r w w' ∧ wpAnyQ ρ E P md ops Q fuel (listed.setIfInBounds i true) (a.put oi.dst v) w') :
  wpOp P ops Q i (fun a' w' => (ρ.r w w' ∨ waitsE E md ops listed i = true) ∧ wpAnyQ ρ E P md ops Q fuel (listed.setIfInBounds i true) a' w') a w := by
 have hi : ops[i]? = some oi := by rw [← hi0]; simp
 unfold wpOp
 rw [hi]
 show if _ then _ else _
 rw [if_pos hw]
 refine .inl ?_
 unfold Oper.wp
 rw [hx, Oper.upon_enter]
 refine hc.mono fun e w' hR => ?_
 obtain ⟨v, rfl, h1, h2⟩ := h e w' hR
 exact ⟨.inl h1, h2⟩
theorem ro_make (i : Nat) {oi : Oper} {fuel : Nat} {listed : Array Bool} {a : Act} {w : World} (hi0 : ops.toList[i]? = some oi)
  (hw : Region.wanted oi (yielded ops a.tmps) = true)
  (h : ∃ v w', (execOp a.eval oi).run P w = .ok (.value v) w' ∧ ρ.r w w' ∧ wpAnyQ ρ E P md ops Q fuel (listed.setIfInBounds i true) (a.put oi.dst v) w') :
  wpOp P ops Q i (fun a' w' => (ρ.r w w' ∨ waitsE E md ops listed i = true) ∧ wpAnyQ ρ E P md ops Q fuel (listed.setIfInBounds i true) a' w') a w := by
 have hi : ops[i]? = some oi := by rw [← hi0]; simp
 obtain ⟨v, w', hx, h1, h2⟩ := h
 unfold wpOp
 rw [hi]
 show if _ then _ else _
 rw [if_pos hw]
 refine .inl ?_
 unfold Oper.wp
 rw [hx, Oper.upon_value]
 exact ⟨.inl h1, h2⟩
end
set_option maxRecDepth 100000 in
set_option maxHeartbeats 4000000 in
theorem rget_any (A : Option Addr) (b : List UInt8) (cap : Nat) (w : World) (hA : RdB w A b) (hl : b.length ≤ 20000) (hc : b.length ≤ cap) :
  Calls Tryz.prog 7 #[.slice A b.length cap] w (WGet (Wm.get b) w) := by
 have hE : Ext w (w.alloc (.cells WmV.nul.cells MT (0, 0))) := Ext.alloc _ _
 have g0 := heap_alloc_new w (.cells WmV.nul.cells MT (0, 0))
 obtain ⟨W0, hW0⟩ : ∃ W0, W0 = w.alloc (.cells WmV.nul.cells MT (0, 0)) := ⟨_, rfl⟩
 rw [← hW0] at hE g0
 have hCK := ref_check A b cap W0 (hA.below hE) (by omega) hc
 have hgl := Crc.got_len_le b
 obtain ⟨ck, hck⟩ : ∃ ck, ck = Crc.ok b := ⟨_, rfl⟩
 rw [← hck] at hCK
 have hno : (Crc.ok b = true → 9 ≤ (Crc.got b).length → b.length ≤ 8000 → (Wm.qd b).2.2 = false → (Wm.qd b).1.put = (b, 0) → False) → Wm.get b = (Wm.nul, 240) := Wm.get_none
 obtain ⟨RG, hRG⟩ : ∃ RG, RG = Wm.get b := ⟨_, rfl⟩
 rw [← hRG] at hno ⊢
 obtain ⟨p, hp⟩ : ∃ p, p = Crc.got b := ⟨_, rfl⟩
 rw [← hp] at hno hCK hgl
 rw [← hck] at hno
 have hgen : ∀ w1, Ext W0 w1 → w1.heap[w.heap.size]? = some (.cells WmV.nul.cells MT (0, 0)) ∧ RdB w1 A b ∧ Ext w w1 := fun w1 hx => ⟨(hx.block _ (lt_of_heap g0)).trans g0, (hA.below hE).below hx, hE.tr hx⟩
 have HG := Lib.hid hgen
 have HCK := Lib.hid hCK
 have HW0 := Lib.hid hW0
 have HNO := Lib.hid hno
 have HRG := Lib.hid hRG
 have HP := Lib.hid hp
 clear hgen hCK hW0 hck hRG hE g0 hA hno hp
 go_enter Tryz.func7, Tryz.ntmps7
 go_wp2_with (first | (refine wpList_run rfl _ _ (ex_allocMsg rfl) ?_; rw [← HW0.out]) | (go_at_call 15; refine HCK.out.mono ?_; rintro e1 w1 ⟨A1, c1, rfl, ho1, hx1⟩; refine Hid.out ?_))
 obtain ⟨g1, rb1, xw1⟩ := HG.out w1 hx1
 have hw1lt : w.heap.size < w1.heap.size := lt_of_heap g1
 have HX1 := Lib.hid (show Ext W0 w1 from hx1)
 have HO1 := Lib.hid ho1
 have XW1 := Lib.hid xw1
 clear ho1 hx1 HCK rb1 xw1
 by_cases hbad : ck = false ∨ p.length < 9 ∨ 8000 < b.length
 ·
  have hn : RG = (Wm.nul, 240) := HNO.out (fun h1 h2 h3 _ _ => by rcases hbad with h | h | h; rw [h] at h1; cases h1; omega; omega)
  have HN := Lib.hid hn
  clear hn
  cases ck with
  | false =>
   refine Lib.hid ?_
   go_wp2_with (first | (refine wpList_run rfl _ _ (ex_buildMsg0 rfl) ?_) | (refine wpList_store_row rfl MT (.tmp 2) (.tmp 27) rfl w.heap.size WmV.nul.cells rfl rfl MT WmV.nul.cells g1 (WmV.info WmV.nul_ok) rfl (WmV.one _) ?_; rw [setRow_sameW g1]))
   (try simp only [Exit.inBlock, Exit.then])
   refine bodyPost_ret (results_row_tmpM rfl _ _ w.heap.size MT WmV.nul.cells (0, 0) _ rfl (g1) Tryz.underlying31 rfl (WmV.info WmV.nul_ok)) rfl ?_
   exact ⟨WmV.nul, by rw [HN.out]; rfl, by rw [HN.out]; rfl, WmV.nul_in _, XW1.out⟩
  | true =>
   by_cases h9 : p.length < 9
   ·
    have i9 : (p.length : Int) < 9 := by omega
    refine Lib.hid ?_
    go_wp2_with (first | (refine wpList_run rfl _ _ (ex_buildMsg0 rfl) ?_) | (refine wpList_store_row rfl MT (.tmp 2) (.tmp 27) rfl w.heap.size WmV.nul.cells rfl rfl MT WmV.nul.cells g1 (WmV.info WmV.nul_ok) rfl (WmV.one _) ?_; rw [setRow_sameW g1]))
    (try simp only [Exit.inBlock, Exit.then])
    refine bodyPost_ret (results_row_tmpM rfl _ _ w.heap.size MT WmV.nul.cells (0, 0) _ rfl (g1) Tryz.underlying31 rfl (WmV.info WmV.nul_ok)) rfl ?_
    exact ⟨WmV.nul, by rw [HN.out]; rfl, by rw [HN.out]; rfl, WmV.nul_in _, XW1.out⟩
   ·
    have i9 : ¬ (p.length : Int) < 9 := by omega
    have i8 : (8000 : Int) < (b.length : Int) := by rcases hbad with h | h | h; cases h; omega; omega
    refine Lib.hid ?_
    go_wp2_with (first | (refine wpList_run rfl _ _ (ex_buildMsg0 rfl) ?_) | (refine wpList_store_row rfl MT (.tmp 2) (.tmp 27) rfl w.heap.size WmV.nul.cells rfl rfl MT WmV.nul.cells g1 (WmV.info WmV.nul_ok) rfl (WmV.one _) ?_; rw [setRow_sameW g1]))
    (try simp only [Exit.inBlock, Exit.then])
    refine bodyPost_ret (results_row_tmpM rfl _ _ w.heap.size MT WmV.nul.cells (0, 0) _ rfl (g1) Tryz.underlying31 rfl (WmV.info WmV.nul_ok)) rfl ?_
    exact ⟨WmV.nul, by rw [HN.out]; rfl, by rw [HN.out]; rfl, WmV.nul_in _, XW1.out⟩
 ·
  obtain rfl : ck = true := by cases ck <;> simp_all
  have h9 : 9 ≤ p.length := by omega
  have h8 : b.length ≤ 8000 := by omega
  have i9 : ¬ (p.length : Int) < 9 := by omega
  have i8 : ¬ (8000 : Int) < (b.length : Int) := by omega
  clear hbad
  obtain ⟨ad, rfl, hc0⟩ := (HO1.out.rd').at_ (k := 0) (by omega)
  have hP := HO1.out.rd'
  have hcp : p.length ≤ c1 := HO1.out.nc
  obtain ⟨A9, hA9⟩ : ∃ A9, A9 = (if c1 = 9 then some ad else (some ad : Option Addr).map (·.add (9 * 1))) := ⟨_, rfl⟩
  have HA9 := Lib.hid hA9
  obtain ⟨k, hk⟩ : ∃ k : Int, k = ((p.getD 0 0).toNat : Int) := ⟨_, rfl⟩
  obtain ⟨s, hs⟩ : ∃ s, s = Vint.number ((p.drop 1).take 4) := ⟨_, rfl⟩
  obtain ⟨q, hq⟩ : ∃ q, q = Vint.number ((p.drop 5).take 4) := ⟨_, rfl⟩
  have l1 : ((p.drop 1).take 4).length = 4 := by rw [List.length_take, List.length_drop]; omega
  have l2 : ((p.drop 5).take 4).length = 4 := by rw [List.length_take, List.length_drop]; omega
  have r1 : RdB w1 (some ⟨ad.block, ad.off + 1, none⟩) ((p.drop 1).take 4) := by
   have := (hP.tail (k := 1) (by omega) hcp).head (m := 4) (by rw [List.length_drop]; omega)
   rwa [if_neg (by omega)] at this
  have r2 : RdB w1 (some ⟨ad.block, ad.off + 5, none⟩) ((p.drop 5).take 4) := by
   have := (hP.tail (k := 5) (by omega) hcp).head (m := 4) (by rw [List.length_drop]; omega)
   rwa [if_neg (by omega)] at this
  have hslt : s < 4294967296 := by rw [hs]; exact number4W _ l1
  have hqlt : q < 4294967296 := by rw [hq]; exact number4W _ l2
  have hws : IntKind.u32.wrap (s : Int) = (s : Int) := by simp [IntKind.wrap, IntKind.bits, IntKind.signed]; omega
  have hwq : IntKind.u32.wrap (q : Int) = (q : Int) := by simp [IntKind.wrap, IntKind.bits, IntKind.signed]; omega
  have hn1 : ∀ W, Ext w1 W → ∀ c, Calls Tryz.prog 17 #[.slice (some ⟨ad.block, ad.off + 1, none⟩) 4 c] W (fun e w' => e = .returned (.int .u64 (s : Int)) ∧ W = w') := fun W hx c => by
   have := ref_number01 _ _ c W (r1.below hx) (by omega)
   rw [l1, ← hs] at this
   exact this
  have hn2 : ∀ W, Ext w1 W → ∀ c, Calls Tryz.prog 17 #[.slice (some ⟨ad.block, ad.off + 5, none⟩) 4 c] W (fun e w' => e = .returned (.int .u64 (q : Int)) ∧ W = w') := fun W hx c => by
   have := ref_number01 _ _ c W (r2.below hx) (by omega)
   rw [l2, ← hq] at this
   exact this
  have h00w : w1.cell? ad = some (.int .u8 k) := by
   obtain ⟨ad', e, hc⟩ := hP.2 (by intro e; have := congrArg List.length e; rw [bvs_len] at this; exact absurd this (by simp only [List.length_nil]; omega))
   injection e with e
   subst e
   have h0 : p[0]? = some (p.getD 0 0) := by rw [List.getD_eq_getElem?_getD, List.getElem?_eq_getElem (by omega)]; rfl
   have := hc 0 (bv (p.getD 0 0)) (by unfold bvs; rw [List.getElem?_map, h0]; rfl)
   rw [hk]
   exact this
  have hadl : ad.block < w1.heap.size := World.block_lt_of_cell? _ _ h00w
  have hk0 : 0 ≤ k := by omega
  have hk1 : k ≤ 255 := by have := (p.getD 0 0).toNat_lt; omega
  have hwk : IntKind.i64.wrap k = k := by simp [IntKind.wrap, IntKind.bits, IntKind.signed]; omega
  have hb0 : 0 < p.length := by omega
  have hc5 : (5 : Int) ≤ (c1 : Int) := by omega
  have hn1' : ¬ c1 = 1 := by omega
  have hn5' : ¬ c1 = 5 := by omega
  have hc9 : (9 : Int) ≤ (c1 : Int) := by omega
  have hqd : Wm.qd b = (WmV.only k s q).x.qread (p.drop 9) := by
   have hh : Wm.head p = (WmV.only k s q).x := by rw [hk, hs, hq]; rfl
   unfold Wm.qd
   rw [← HP.out, hh]
  obtain ⟨r, hr⟩ : ∃ r, r = Wm.qd b := ⟨_, rfl⟩
  have hsm := Wm.qread_small (WmV.only k s q).x rfl rfl rfl (p.drop 9)
  rw [← hqd, ← hr] at hsm
  have HSM := Lib.hid hsm
  have HQD := Lib.hid (hr.trans hqd)
  have HR := Lib.hid hr
  have hokM : (WmV.only k s q).Ok := { WmV.nul_ok with klo := by show _ ≤ k; omega, khi := by show k ≤ _; omega, session := hslt, seq := hqlt }
  have HMR := Lib.hid (show ∀ (W : World) (S : Nat → Prop) (bm : Nat), W.heap[bm]? = some (.cells (WmV.only k s q).cells MT (0, 0)) → MsgR W S bm (WmV.only k s q) from fun _ _ _ hr => ⟨hr, hokM, Tx.nil_ _ _ _ _, Tx.nil_ _ _ _ _, ⟨rfl, rfl, rfl⟩, ⟨rfl, rfl, rfl⟩, rfl, rfl⟩)
  have hw0s : W0.heap.size = w.heap.size + 1 := by rw [HW0.out]; exact World.size_alloc _ _
  have htx : Tx w1 (fun i => i = w.heap.size) (some ad) c1 p := Tx.own HO1.out (fun i e => by omega)
  have ht9 := htx.tail (k := 9) h9
  rw [show (some ad : Option Addr).map (·.add 9) = (some ad : Option Addr).map (·.add (9 * 1)) from rfl, ← hA9] at ht9
  have hl9 : (p.drop 9).length = p.length - 9 := List.length_drop
  obtain ⟨WR, hWR⟩ : ∃ WR, WR = (w1.alloc (.cells #[.slice A9 (p.length - 9) (c1 - 9), .bool true] QT)).drew := ⟨_, rfl⟩
  have hxr : Ext w1 WR := by rw [hWR]; exact (Ext.alloc _ _).tr (Ext.drew _)
  have hrow : WR.heap[w1.heap.size]? = some (.cells #[.slice A9 (p.length - 9) (c1 - 9), .bool true] QT (0, 0)) := by rw [hWR]; exact heap_alloc_new w1 (.cells #[.slice A9 (p.length - 9) (c1 - 9), .bool true] QT)
  have hszr : WR.heap.size = w1.heap.size + 1 := by rw [hWR]; exact World.size_alloc _ _
  have hrr : ∀ (S : Nat → Prop) W, Ext WR W → (∀ i, S i → (i = w.heap.size ∨ w1.heap.size < i) ∧ i < W.heap.size) → Rr W (fun i => i = w1.heap.size ∨ S i) w1.heap.size (p.drop 9) true := fun S W hx hS => ⟨A9, c1 - 9, by rw [hl9]; exact (hx.block _ (lt_of_heap hrow)).trans hrow, ((ht9.more (T := fun i => i = w.heap.size ∨ w1.heap.size ≤ i) (fun i e => e)).ext (hxr.tr hx)).more (fun i e => .inl (e.elim (fun e => .inr (by omega)) (fun e => (hS i e).1.imp id (fun k => Nat.le_of_lt k)))), .inl rfl, fun i e => e.elim (fun e => by have := hx.size; omega) (fun e => (hS i e).2), by rw [hl9]; omega⟩
  have HRR := Lib.hid hrr
  have HXR := Lib.hid hxr
  have HWR := Lib.hid hWR
  have HN1 := Lib.hid (fun W (x : Ext WR W) => hn1 W (hxr.tr x) (c1 - 1))
  have HN2 := Lib.hid (fun W (x : Ext WR W) => hn2 W (hxr.tr x) (c1 - 5))
  have h00 : WR.cell? ad = some (.int .u8 k) := hxr.load h00w
  clear hA9 hn1 hn2 r1 r2 l1 l2 hs hq hk hr hsm hqd hWR hrow hxr hrr hl9 ht9 htx hP hc0 h00w hokM
  refine Lib.hid ?_
  go_wp2_with (refine wpList_sliceL (by rfl) (.tmp 28) (.const (.int .i64 9)) 22 rfl elemB (some ad) p.length c1 rfl 9 rfl h9 A9 HA9.out (p.length - 9) (c1 - 9) rfl rfl ?_)
  refine rr_start (trnW (fun i => i = w1.heap.size)) [0, 1, 2, 4, 5, 6, 8, 9, 10, 12, 13] (by kernel_rfl) ?_
  rw [← HWR.out]
  refine qAD 0 rfl ?_
  simp only [sP]
  refine qAD 1 rfl ?_
  simp only [sP]
  refine qAD 2 rfl ?_
  simp only [sP]
  refine qS 3 rfl ⟨_, fun w' hx => by have hcx := Trn.load hx h00 (by show ¬ ad.block = w1.heap.size; omega); (go_simp <;> with_reducible rfl), ?_⟩
  simp only [sP]
  refine qAS 4 rfl ⟨.int .i64 k, fun w' => by (go_simp <;> with_reducible rfl), ?_⟩
  simp only [sP]
  refine qAD 5 rfl ?_
  simp only [sP]
  refine qAS 6 rfl ⟨.slice (some ⟨ad.block, ad.off + 1, none⟩) 4 (c1 - 1), fun w' => by (go_simp <;> with_reducible rfl), ?_⟩
  simp only [sP]
  refine qAD 9 rfl ?_
  simp only [sP]
  refine qAS 10 rfl ⟨.slice (some ⟨ad.block, ad.off + 5, none⟩) 4 (c1 - 5), fun w' => by (go_simp <;> with_reducible rfl), ?_⟩
  simp only [sP]
  have hxa := Ext.alloc WR (.cells WmV.nul.cells MT (0, 0))
  have hra := heap_alloc_new WR (.cells WmV.nul.cells MT (0, 0))
  have hrrA := HRR.out (fun i => i = WR.heap.size ∨ i = w.heap.size) _ hxa (fun i e => by rw [World.size_alloc]; omega)
  have HXA := Lib.hid hxa
  refine rr_br 7 15 (by kernel_rfl) ?_ ?_
  refine ro_call 7 (HN1.out WR (Ext.refl _)) rfl (by rfl) (by go_simp) ?_
  rintro e' w' ⟨rfl, rfl⟩
  refine ⟨_, rfl, Trn.refl _ _, ?_⟩
  simp only [sP]
  refine qAS 8 rfl ⟨.int .u32 (s : Int), fun w' => by (go_simp <;> with_reducible rfl), ?_⟩
  simp only [sP]
  refine rr_br 11 15 (by kernel_rfl) ?_ ?_
  refine ro_call 11 (HN2.out WR (Ext.refl _)) rfl (by rfl) (by go_simp) ?_
  rintro e' w' ⟨rfl, rfl⟩
  refine ⟨_, rfl, Trn.refl _ _, ?_⟩
  simp only [sP]
  refine qAS 12 rfl ⟨.int .u32 (q : Int), fun w' => by (go_simp <;> with_reducible rfl), ?_⟩
  simp only [sP]
  refine qAS 13 rfl ⟨.agg (WmV.only k s q).cells, fun w' => ex_buildMsg3 (.tmp 36) (.tmp 40) (.tmp 44) rfl k s q rfl rfl rfl, ?_⟩
  simp only [sP]
  refine rr_br 14 15 (by kernel_rfl) ?_ ?_
  refine ro_call 14 (rread_any (fun i => i = w.heap.size) w1.heap.size (p.drop 9) (WmV.only k s q) WR (HRR.out _ WR (Ext.refl _) (fun i e => by omega)) HMR.out) rfl (by rfl) (by go_simp) ?_
  rintro e' w14 ⟨M2, rfl, hx2, hin2, hok2, ht2⟩
  refine ⟨_, rfl, ht2, ?_⟩
  simp only [sP]
  have hM2l : M2.cl.length = 78 := WmV.cl_len (hin2 w14 (Trn.refl _ _)).ok
  have hrow7 := heap_alloc_new w14 (.cells WmV.nul.cells MT (0, 0))
  refine rr_make 15 rfl (by kernel_rfl) (by rfl) ⟨_, _, ex_allocMsg rfl, Trn.ext (Ext.alloc _ _), ?_⟩
  simp only [sP]
  refine rr_store 16 rfl (by kernel_rfl) (by kernel_rfl) (by rfl) ⟨(w14.alloc (.cells WmV.nul.cells MT (0, 0))).setRow w14.heap.size M2.cells, ex_put1 MT (.tmp 7) (.tmp 46) rfl ⟨w14.heap.size, 0, none⟩ rfl w14.heap.size 0 rfl (.agg M2.cells) rfl M2.cl rfl _ _ hrow7 (by rw [hM2l]; kernel_rfl) (by rw [hM2l, WmV.size78 WmV.nul_ok]; omega) (fun u hu => (Array.all_eq_true_iff_forall_mem.1 (WmV.one _)) u (by simpa [WmV.cells] using hu)) _ (put1_whole (by rw [hM2l, WmV.size78 WmV.nul_ok])), ?_⟩
  simp only [Act.put]
  refine rr_done (by kernel_rfl) ?_
  have tS : Trn (fun i => i = w14.heap.size) (w14.alloc (.cells WmV.nul.cells MT (0, 0))) ((w14.alloc (.cells WmV.nul.cells MT (0, 0))).setRow w14.heap.size M2.cells) := Trn.set _ _ _ rfl
  have hxS : Ext w14 ((w14.alloc (.cells WmV.nul.cells MT (0, 0))).setRow w14.heap.size M2.cells) := (Ext.alloc w14 _).trans (tS.below (by rw [World.size_alloc]; omega) (fun i e => by omega))
  have hin9 : ∀ w2, Trn (fun i => i = w.heap.size) ((w14.alloc (.cells WmV.nul.cells MT (0, 0))).setRow w14.heap.size M2.cells) w2 → M2.In w2 := fun w2 t => hin2 w2 ((Trn.ext hxS).tr t)
  have hok9 := hxS.load hok2
  have hrow9 := setRow_heap _ w14.heap.size _ M2.cells _ _ hrow7
  have hxU : Ext w1 ((w14.alloc (.cells WmV.nul.cells MT (0, 0))).setRow w14.heap.size M2.cells) := HXR.out.tr2 ((ht2.mono (fun i e _ => e ▸ Nat.le_refl _)).tr (Trn.ext hxS))
  have HIN := Lib.hid hin9
  have HOK := Lib.hid hok9
  have HROW := Lib.hid hrow9
  have HXU := Lib.hid hxU
  have HX2 := Lib.hid (hx2.trans (congrArg Prod.fst HQD.out.symm))
  obtain ⟨U, hU⟩ : ∃ U, U = (w14.alloc (.cells WmV.nul.cells MT (0, 0))).setRow w14.heap.size M2.cells := ⟨_, rfl⟩
  rw [← hU] at HIN HOK HROW HXU ⊢
  obtain ⟨g7, hg7⟩ : ∃ g7, g7 = w14.heap.size := ⟨_, rfl⟩
  rw [← hg7] at HROW ⊢
  clear hU hg7 hin9 hok9 hrow9 hxU hx2 hin2 hok2 ht2 hrow7 hM2l hxa hra hrrA HXA
  refine Lib.hid ?_
  rotate_left
  refine ro_make 15 rfl (by rfl) ⟨_, _, ex_allocMsg rfl, Trn.ext (Ext.alloc _ _), ?_⟩
  simp only [sP]
  refine rr_call 14 (rread_any (fun i => i = WR.heap.size ∨ i = w.heap.size) w1.heap.size (p.drop 9) (WmV.only k s q) _ hrrA HMR.out) rfl (by kernel_rfl) (by rfl) (by go_simp) ?_
  rintro e' w14 ⟨M2, rfl, hx2, hin2, hok2, ht2⟩
  refine ⟨_, rfl, ht2, ?_⟩
  simp only [sP]
  have hM2l : M2.cl.length = 78 := WmV.cl_len (hin2 w14 (Trn.refl _ _)).ok
  have hrow7 := ht2.row hra (by omega)
  refine rr_store 16 rfl (by kernel_rfl) (by kernel_rfl) (by rfl) ⟨(w14).setRow WR.heap.size M2.cells, ex_put1 MT (.tmp 7) (.tmp 46) rfl ⟨WR.heap.size, 0, none⟩ rfl WR.heap.size 0 rfl (.agg M2.cells) rfl M2.cl rfl _ _ hrow7 (by rw [hM2l]; kernel_rfl) (by rw [hM2l, WmV.size78 WmV.nul_ok]; omega) (fun u hu => (Array.all_eq_true_iff_forall_mem.1 (WmV.one _)) u (by simpa [WmV.cells] using hu)) _ (put1_whole (by rw [hM2l, WmV.size78 WmV.nul_ok])), ?_⟩
  simp only [Act.put]
  refine rr_done (by kernel_rfl) ?_
  have tS : Trn (fun i => i = WR.heap.size) w14 (w14.setRow WR.heap.size M2.cells) := Trn.set _ _ _ rfl
  have hin9 : ∀ w2, Trn (fun i => i = w.heap.size) (w14.setRow WR.heap.size M2.cells) w2 → M2.In w2 := fun w2 t => hin2 w2 ((tS.mono (fun i e _ => .inl e)).tr (t.mono (fun i e _ => .inr e)))
  have hok9 := tS.load hok2 (by show ¬ w1.heap.size = WR.heap.size; omega)
  have hrow9 := setRow_heap _ WR.heap.size _ M2.cells _ _ hrow7
  have hxU : Ext w1 (w14.setRow WR.heap.size M2.cells) := (HXR.out.tr HXA.out).tr2 ((ht2.mono (fun i e _ => e ▸ Nat.le_refl _)).tr (tS.mono (fun i e _ => by omega)))
  have HIN := Lib.hid hin9
  have HOK := Lib.hid hok9
  have HROW := Lib.hid hrow9
  have HXU := Lib.hid hxU
  have HX2 := Lib.hid (hx2.trans (congrArg Prod.fst HQD.out.symm))
  obtain ⟨U, hU⟩ : ∃ U, U = (w14).setRow WR.heap.size M2.cells := ⟨_, rfl⟩
  rw [← hU] at HIN HOK HROW HXU ⊢
  obtain ⟨g7, hg7⟩ : ∃ g7, g7 = WR.heap.size := ⟨_, rfl⟩
  rw [← hg7] at HROW ⊢
  clear hU hg7 hin9 hok9 hrow9 hxU hx2 hin2 hok2 ht2 hrow7 hM2l hxa hra hrrA HXA
  refine Lib.hid ?_
  rotate_left
  refine ro_make 15 rfl (by rfl) ⟨_, _, ex_allocMsg rfl, Trn.ext (Ext.alloc _ _), ?_⟩
  simp only [sP]
  refine rr_call 11 (HN2.out (WR.alloc (.cells WmV.nul.cells MT (0, 0))) HXA.out) rfl (by kernel_rfl) (by rfl) (by go_simp) ?_
  rintro e' w' ⟨rfl, rfl⟩
  refine ⟨_, rfl, Trn.refl _ _, ?_⟩
  simp only [sP]
  refine qAS 12 rfl ⟨.int .u32 (q : Int), fun w' => by (go_simp <;> with_reducible rfl), ?_⟩
  simp only [sP]
  refine qAS 13 rfl ⟨.agg (WmV.only k s q).cells, fun w' => ex_buildMsg3 (.tmp 36) (.tmp 40) (.tmp 44) rfl k s q rfl rfl rfl, ?_⟩
  simp only [sP]
  refine rr_call 14 (rread_any (fun i => i = WR.heap.size ∨ i = w.heap.size) w1.heap.size (p.drop 9) (WmV.only k s q) _ hrrA HMR.out) rfl (by kernel_rfl) (by rfl) (by go_simp) ?_
  rintro e' w14 ⟨M2, rfl, hx2, hin2, hok2, ht2⟩
  refine ⟨_, rfl, ht2, ?_⟩
  simp only [sP]
  have hM2l : M2.cl.length = 78 := WmV.cl_len (hin2 w14 (Trn.refl _ _)).ok
  have hrow7 := ht2.row hra (by omega)
  refine rr_store 16 rfl (by kernel_rfl) (by kernel_rfl) (by rfl) ⟨(w14).setRow WR.heap.size M2.cells, ex_put1 MT (.tmp 7) (.tmp 46) rfl ⟨WR.heap.size, 0, none⟩ rfl WR.heap.size 0 rfl (.agg M2.cells) rfl M2.cl rfl _ _ hrow7 (by rw [hM2l]; kernel_rfl) (by rw [hM2l, WmV.size78 WmV.nul_ok]; omega) (fun u hu => (Array.all_eq_true_iff_forall_mem.1 (WmV.one _)) u (by simpa [WmV.cells] using hu)) _ (put1_whole (by rw [hM2l, WmV.size78 WmV.nul_ok])), ?_⟩
  simp only [Act.put]
  refine rr_done (by kernel_rfl) ?_
  have tS : Trn (fun i => i = WR.heap.size) w14 (w14.setRow WR.heap.size M2.cells) := Trn.set _ _ _ rfl
  have hin9 : ∀ w2, Trn (fun i => i = w.heap.size) (w14.setRow WR.heap.size M2.cells) w2 → M2.In w2 := fun w2 t => hin2 w2 ((tS.mono (fun i e _ => .inl e)).tr (t.mono (fun i e _ => .inr e)))
  have hok9 := tS.load hok2 (by show ¬ w1.heap.size = WR.heap.size; omega)
  have hrow9 := setRow_heap _ WR.heap.size _ M2.cells _ _ hrow7
  have hxU : Ext w1 (w14.setRow WR.heap.size M2.cells) := (HXR.out.tr HXA.out).tr2 ((ht2.mono (fun i e _ => e ▸ Nat.le_refl _)).tr (tS.mono (fun i e _ => by omega)))
  have HIN := Lib.hid hin9
  have HOK := Lib.hid hok9
  have HROW := Lib.hid hrow9
  have HXU := Lib.hid hxU
  have HX2 := Lib.hid (hx2.trans (congrArg Prod.fst HQD.out.symm))
  obtain ⟨U, hU⟩ : ∃ U, U = (w14).setRow WR.heap.size M2.cells := ⟨_, rfl⟩
  rw [← hU] at HIN HOK HROW HXU ⊢
  obtain ⟨g7, hg7⟩ : ∃ g7, g7 = WR.heap.size := ⟨_, rfl⟩
  rw [← hg7] at HROW ⊢
  clear hU hg7 hin9 hok9 hrow9 hxU hx2 hin2 hok2 ht2 hrow7 hM2l hxa hra hrrA HXA
  refine Lib.hid ?_
  rotate_left
  refine ro_make 15 rfl (by rfl) ⟨_, _, ex_allocMsg rfl, Trn.ext (Ext.alloc _ _), ?_⟩
  simp only [sP]
  refine rr_call 7 (HN1.out (WR.alloc (.cells WmV.nul.cells MT (0, 0))) HXA.out) rfl (by kernel_rfl) (by rfl) (by go_simp) ?_
  rintro e' w' ⟨rfl, rfl⟩
  refine ⟨_, rfl, Trn.refl _ _, ?_⟩
  simp only [sP]
  refine qAS 8 rfl ⟨.int .u32 (s : Int), fun w' => by (go_simp <;> with_reducible rfl), ?_⟩
  simp only [sP]
  refine rr_call 11 (HN2.out (WR.alloc (.cells WmV.nul.cells MT (0, 0))) HXA.out) rfl (by kernel_rfl) (by rfl) (by go_simp) ?_
  rintro e' w' ⟨rfl, rfl⟩
  refine ⟨_, rfl, Trn.refl _ _, ?_⟩
  simp only [sP]
  refine qAS 12 rfl ⟨.int .u32 (q : Int), fun w' => by (go_simp <;> with_reducible rfl), ?_⟩
  simp only [sP]
  refine qAS 13 rfl ⟨.agg (WmV.only k s q).cells, fun w' => ex_buildMsg3 (.tmp 36) (.tmp 40) (.tmp 44) rfl k s q rfl rfl rfl, ?_⟩
  simp only [sP]
  refine rr_call 14 (rread_any (fun i => i = WR.heap.size ∨ i = w.heap.size) w1.heap.size (p.drop 9) (WmV.only k s q) _ hrrA HMR.out) rfl (by kernel_rfl) (by rfl) (by go_simp) ?_
  rintro e' w14 ⟨M2, rfl, hx2, hin2, hok2, ht2⟩
  refine ⟨_, rfl, ht2, ?_⟩
  simp only [sP]
  have hM2l : M2.cl.length = 78 := WmV.cl_len (hin2 w14 (Trn.refl _ _)).ok
  have hrow7 := ht2.row hra (by omega)
  refine rr_store 16 rfl (by kernel_rfl) (by kernel_rfl) (by rfl) ⟨(w14).setRow WR.heap.size M2.cells, ex_put1 MT (.tmp 7) (.tmp 46) rfl ⟨WR.heap.size, 0, none⟩ rfl WR.heap.size 0 rfl (.agg M2.cells) rfl M2.cl rfl _ _ hrow7 (by rw [hM2l]; kernel_rfl) (by rw [hM2l, WmV.size78 WmV.nul_ok]; omega) (fun u hu => (Array.all_eq_true_iff_forall_mem.1 (WmV.one _)) u (by simpa [WmV.cells] using hu)) _ (put1_whole (by rw [hM2l, WmV.size78 WmV.nul_ok])), ?_⟩
  simp only [Act.put]
  refine rr_done (by kernel_rfl) ?_
  have tS : Trn (fun i => i = WR.heap.size) w14 (w14.setRow WR.heap.size M2.cells) := Trn.set _ _ _ rfl
  have hin9 : ∀ w2, Trn (fun i => i = w.heap.size) (w14.setRow WR.heap.size M2.cells) w2 → M2.In w2 := fun w2 t => hin2 w2 ((tS.mono (fun i e _ => .inl e)).tr (t.mono (fun i e _ => .inr e)))
  have hok9 := tS.load hok2 (by show ¬ w1.heap.size = WR.heap.size; omega)
  have hrow9 := setRow_heap _ WR.heap.size _ M2.cells _ _ hrow7
  have hxU : Ext w1 (w14.setRow WR.heap.size M2.cells) := (HXR.out.tr HXA.out).tr2 ((ht2.mono (fun i e _ => e ▸ Nat.le_refl _)).tr (tS.mono (fun i e _ => by omega)))
  have HIN := Lib.hid hin9
  have HOK := Lib.hid hok9
  have HROW := Lib.hid hrow9
  have HXU := Lib.hid hxU
  have HX2 := Lib.hid (hx2.trans (congrArg Prod.fst HQD.out.symm))
  obtain ⟨U, hU⟩ : ∃ U, U = (w14).setRow WR.heap.size M2.cells := ⟨_, rfl⟩
  rw [← hU] at HIN HOK HROW HXU ⊢
  obtain ⟨g7, hg7⟩ : ∃ g7, g7 = WR.heap.size := ⟨_, rfl⟩
  rw [← hg7] at HROW ⊢
  clear hU hg7 hin9 hok9 hrow9 hxU hx2 hin2 hok2 ht2 hrow7 hM2l hxa hra hrrA HXA
  refine Lib.hid ?_
  all_goals
   obtain ⟨gU, rbU, xwU⟩ := HG.out U (HX1.out.tr HXU.out)
   have XWU := Lib.hid xwU
   have RBU := Lib.hid rbU
   have hokc := HOK.out
   rw [← HQD.out] at hokc
   obtain ⟨bad, hbad⟩ : ∃ x, x = r.2.2 := ⟨_, rfl⟩
   rw [← hbad] at hokc
   have HBAD := Lib.hid hbad
   have hinU := HIN.out U (Trn.refl _ _)
   have hi2 := WmV.info hinU.ok
   have hs2 := WmV.size78 hinU.ok
   have hone := WmV.one M2
   have hb1 : M2.subs.length ≤ 100000 := by
    have h1 := HSM.out.1
    rw [← HX2.out] at h1
    have e : M2.x.subs.length = M2.subs.length := by show (M2.subs.map WsV.x).length = _; rw [List.length_map]
    omega
   have hb2 : Ent.total (M2.ents.map EnV.x) + 20 * M2.ents.length ≤ 900000 := by
    have h1 := HSM.out.2.1
    rw [← HX2.out, List.length_drop] at h1
    have e : M2.x.ents.length = M2.ents.length := by show (M2.ents.map EnV.x).length = _; rw [List.length_map]
    have e2 : Ent.total M2.x.ents = Ent.total (M2.ents.map EnV.x) := rfl
    omega
   have hb3 : M2.sigs.length ≤ 1000000 := by
    have h1 := HSM.out.2.2
    rw [← HX2.out, List.length_drop] at h1
    have e : M2.x.sigs = M2.sigs := rfl
    rw [e] at h1
    omega
   have hPU := rput_any M2 U hinU hb1 (fun _ _ _ => hb2) (by omega) hb3
   rw [HX2.out] at hPU
   obtain ⟨P2, hP2⟩ : ∃ P2, P2 = M2.cells := ⟨_, rfl⟩
   rw [← hP2] at hi2 hs2 hone hPU HROW
   have HP2 := Lib.hid hP2
   have HPU := Lib.hid hPU
   have hrU := HROW.out
   clear xwU rbU hbad hPU hb1 hb2 hb3 hinU hP2 HROW
   cases bad with
   | true =>
    have HN := Lib.hid (HNO.out (fun _ _ _ h4 _ => by rw [← HR.out, ← HBAD.out] at h4; cases h4))
    have hokc : U.cell? ⟨w1.heap.size, 1, none⟩ = some (.bool false) := hokc
    go_wp2_with (first | (refine wpList_run rfl _ _ (ex_buildMsg0 rfl) ?_) | (refine wpList_store_row rfl MT (.tmp 2) (.tmp 52) rfl w.heap.size WmV.nul.cells rfl rfl MT WmV.nul.cells gU (WmV.info WmV.nul_ok) rfl (WmV.one _) ?_; rw [setRow_sameW gU]))
    (try simp only [Exit.inBlock, Exit.then])
    refine bodyPost_ret (results_row_tmpM rfl _ _ w.heap.size MT WmV.nul.cells (0, 0) _ rfl (gU) Tryz.underlying31 rfl (WmV.info WmV.nul_ok)) rfl ?_
    exact ⟨WmV.nul, by rw [HN.out]; rfl, by rw [HN.out]; rfl, WmV.nul_in _, XWU.out⟩
   | false =>
    have hokc : U.cell? ⟨w1.heap.size, 1, none⟩ = some (.bool true) := hokc
    go_wp2_with (first | (refine wpList_load_rowG (by rfl) MT (.tmp 7) rfl g7 rfl MT P2 (0, 0) _ hrU Tryz.underlying31 rfl hi2 ?_) | (go_at_call 18; refine HPU.out.mono ?_; rintro e5 w5 ⟨A5, c5, rfl, ho5, hx5⟩; refine Hid.out ?_))
    have hr5 := (hx5.block _ (lt_of_heap hrU)).trans hrU
    obtain ⟨g5, rb5, xw5⟩ := HG.out w5 ((HX1.out.tr HXU.out).tr hx5)
    have XW5 := Lib.hid xw5
    have RB5 := Lib.hid rb5
    have HX5 := Lib.hid (show Ext U w5 from hx5)
    have HO5 := Lib.hid ho5
    obtain ⟨pu, hpu⟩ : ∃ pu, pu = r.1.put := ⟨_, rfl⟩
    rw [← hpu] at HO5 ⊢
    have HPV := Lib.hid hpu
    clear hpu hx5 ho5 xw5 rb5 HPU gU hokc
    obtain ⟨px, er⟩ := pu
    simp only
    by_cases her : er = 0
    ·
     subst her
     obtain ⟨q2, hq2⟩ : ∃ q, q = (px == b) := ⟨_, rfl⟩
     have Hq := Lib.hid hq2
     clear hq2
     cases q2 with
     | false =>
      have HN := Lib.hid (HNO.out (fun _ _ _ _ h5 => by
       rw [← HR.out, ← HPV.out] at h5
       have h3 : px = b := congrArg Prod.fst h5
       have h4 := Hq.out
       rw [h3] at h4
       simp at h4))
      refine Lib.hid ?_
      go_wp2_with (first | (refine wpList_run (by rfl) (.string ⟨px.toArray⟩) _ (ex_str (x := .tmp 61) rfl rfl Tryz.underlying22 Tryz.underlying5 Tryz.underlying9 (Own.rd' HO5.out) rfl) ?_) | (refine wpList_run (by rfl) (.string ⟨b.toArray⟩) _ (ex_str (x := .tmp 63) rfl rfl Tryz.underlying22 Tryz.underlying5 Tryz.underlying9 RB5.out rfl) ?_) | (refine wpList_run (by rfl) (.bool true) _ ((ex_neqS (p := px) (q := b) (x := .tmp 62) (y := .tmp 64) rfl rfl rfl).trans (by rw [← Hq.out]; rfl)) ?_) | (refine wpList_run rfl _ _ (ex_buildMsg0 rfl) ?_) | (refine wpList_store_row rfl MT (.tmp 2) (.tmp 67) rfl w.heap.size WmV.nul.cells rfl rfl MT WmV.nul.cells g5 (WmV.info WmV.nul_ok) rfl (WmV.one _) ?_; rw [setRow_sameW g5]))
      (try simp only [Exit.inBlock, Exit.then])
      refine bodyPost_ret (results_row_tmpM rfl _ _ w.heap.size MT WmV.nul.cells (0, 0) _ rfl (g5) Tryz.underlying31 rfl (WmV.info WmV.nul_ok)) rfl ?_
      exact ⟨WmV.nul, by rw [HN.out]; rfl, by rw [HN.out]; rfl, WmV.nul_in _, XW5.out⟩
     | true =>
      have hpb : px = b := eq_of_beq Hq.out.symm
      have hyes : RG = (r.1, 0) := by
       rw [HRG.out]
       refine Wm.get_put ?_ (by rw [← HPV.out, hpb])
       rw [← HX2.out]
       exact (HIN.out U (Trn.refl _ _)).own
      have HY := Lib.hid hyes
      clear hpb hyes
      have hst := setRow_heap w5 w.heap.size _ P2 _ _ g5
      have t6 : Trn (fun i => i = w.heap.size) w5 (w5.setRow w.heap.size P2) := Trn.set _ _ _ rfl
      refine Lib.hid ?_
      go_wp2_with (first | (refine wpList_run (by rfl) (.string ⟨px.toArray⟩) _ (ex_str (x := .tmp 61) rfl rfl Tryz.underlying22 Tryz.underlying5 Tryz.underlying9 (Own.rd' HO5.out) rfl) ?_) | (refine wpList_run (by rfl) (.string ⟨b.toArray⟩) _ (ex_str (x := .tmp 63) rfl rfl Tryz.underlying22 Tryz.underlying5 Tryz.underlying9 RB5.out rfl) ?_) | (refine wpList_run (by rfl) (.bool false) _ ((ex_neqS (p := px) (q := b) (x := .tmp 62) (y := .tmp 64) rfl rfl rfl).trans (by rw [← Hq.out]; rfl)) ?_) | (refine wpList_load_rowG (by rfl) MT (.tmp 7) rfl g7 rfl MT P2 (0, 0) _ hr5 Tryz.underlying31 rfl hi2 ?_) | (refine wpList_store_row rfl MT (.tmp 2) (.tmp 68) rfl w.heap.size P2 rfl rfl MT _ g5 hi2 (by rw [hs2]; rfl) hone ?_))
      (try simp only [Exit.inBlock, Exit.then])
      refine bodyPost_ret (results_row_tmpM rfl _ _ w.heap.size MT P2 (0, 0) _ rfl hst Tryz.underlying31 rfl hi2) rfl ?_
      exact ⟨M2, by rw [HY.out, HP2.out]; rfl, by rw [HY.out]; exact HX2.out, HIN.out _ ((Trn.ext HX5.out).tr t6), XW5.out.trans (t6.below XW5.out.size (fun i e => by omega))⟩
    ·
     have hne : ((er : Int) != 0) = true := by rw [bne_iff_ne]; omega
     have HN := Lib.hid (HNO.out (fun _ _ _ _ h5 => by
      rw [← HR.out, ← HPV.out] at h5
      injection h5 with _ h3
      exact her h3))
     refine Lib.hid ?_
     go_wp2_with (first | (refine wpList_run rfl _ _ (ex_buildMsg0 rfl) ?_) | (refine wpList_store_row rfl MT (.tmp 2) (.tmp 67) rfl w.heap.size WmV.nul.cells rfl rfl MT WmV.nul.cells g5 (WmV.info WmV.nul_ok) rfl (WmV.one _) ?_; rw [setRow_sameW g5]))
     (try simp only [Exit.inBlock, Exit.then])
     refine bodyPost_ret (results_row_tmpM rfl _ _ w.heap.size MT WmV.nul.cells (0, 0) _ rfl (g5) Tryz.underlying31 rfl (WmV.info WmV.nul_ok)) rfl ?_
     exact ⟨WmV.nul, by rw [HN.out]; rfl, by rw [HN.out]; rfl, WmV.nul_in _, XW5.out⟩
end Go.Proofs.YtjholekgdnhpkaaGreat
