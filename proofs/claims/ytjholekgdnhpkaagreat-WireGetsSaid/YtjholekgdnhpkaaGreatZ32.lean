/- Texts of the proof, laid together: WqB. -/
import Derived.Test.YtjholekgdnhpkaaGreatZ31
import Derived.Test.YtjholekgdnhpkaaGreatZ10
set_option linter.unusedVariables false
set_option linter.unusedSimpArgs false
set_option linter.unusedSectionVars false
namespace Go.Proofs.YtjholekgdnhpkaaGreat
open Go.RowKit
attribute [local go_sem] Oper.semAt_some
section
variable {x : WsV} (hx : x.p.x.sum.length = 32)
include hx
theorem sput_lo (A : Option Addr) (c : Nat) (d : List UInt8) : put1 x.cells 0 [.slice A d.length c] = (⟨{ x.p with la := A, lc := c, x := { x.p.x with lo := d } }, x.lsn⟩ : WsV).cells := by
 have h := mput_lo (L := []) (R := []) (x := x) (by intro s hs; simp at hs; subst hs; exact hx) A c d
 simpa [wcs, WsV.cells] using h
theorem sput_hi (A : Option Addr) (c : Nat) (d : List UInt8) : put1 x.cells 1 [.slice A d.length c] = (⟨{ x.p with ha := A, hc := c, x := { x.p.x with hi := d } }, x.lsn⟩ : WsV).cells := by
 have h := mput_hi (L := []) (R := []) (x := x) (by intro s hs; simp at hs; subst hs; exact hx) A c d
 simpa [wcs, WsV.cells] using h
theorem sput_count (n : Int) : put1 x.cells 2 [.int .i64 n] = (⟨{ x.p with x := { x.p.x with count := n } }, x.lsn⟩ : WsV).cells := by
 have h := mput_count (L := []) (R := []) (x := x) (by intro s hs; simp at hs; subst hs; exact hx) n
 simpa [wcs, WsV.cells] using h
theorem sput_sum (z : List UInt8) (hz : z.length = 32) : put1 x.cells 3 (bvs z) = (⟨{ x.p with x := { x.p.x with sum := z } }, x.lsn⟩ : WsV).cells := by
 have h := mput_sum (L := []) (R := []) (x := x) (by intro s hs; simp at hs; subst hs; exact hx) z hz
 simpa [wcs, WsV.cells] using h
theorem sput_lsn (n : Nat) : put1 x.cells 35 [.int .u64 (n : Int)] = (⟨x.p, n⟩ : WsV).cells := by
 have h := mput_lsn (L := []) (R := []) (x := x) (by intro s hs; simp at hs; subst hs; exact hx) n
 simpa [wcs, WsV.cells] using h
end
theorem setRow_same {w : World} {g : Nat} {cs : Array Value} {t : TypeId} {fr : Nat × Nat} (h : w.heap[g]? = some (.cells cs t fr)) : w.setRow g cs = w := by
 have key : ∀ h : Array Obj, h = w.heap → ({ w with heap := h } : World) = w := by rintro _ rfl; rfl
 unfold World.setRow
 refine key _ ?_
 apply Array.ext_getElem?
 intro i
 rw [Array.getElem?_modify]
 by_cases hi : g = i
 ·
  subst hi
  rw [if_pos rfl, h]
  rfl
 ·
  rw [if_neg hi]
theorem Qn.val_ge (d : List UInt8) (b : Bool) : 0 ≤ Qn.val d b := by unfold Qn.val; split <;> omega
theorem Qn.val_le (d : List UInt8) (b : Bool) (h : b = false → Rn.ok d = true) : Qn.val d b ≤ 2147483647 := by
 unfold Qn.val
 split
 ·
  omega
 ·
  next hb =>
  have := h (by simpa using hb)
  simp only [Rn.ok, Bool.and_eq_true, decide_eq_true_eq] at this
  omega
def QSubs (S : Nat → Prop) (g : Nat) (r : List Ws × List UInt8 × Bool) (w : World) (e : Ending) (w' : World) : Prop :=
 ∃ A c L, e = .returned (.slice A L.length c) ∧ (∀ s ∈ L, SubW w' S s) ∧ Own w' w.heap.size 45 36 A L.length c (wcs L) ∧ L.map WsV.x = r.1 ∧ Rr w' S g r.2.1 (!r.2.2) ∧ Trn (fun i => i = g) w w'
theorem Qs.run_true (j : Nat) (d : List UInt8) : Qs.run j d true = ([], d, true) := by cases j <;> rfl
theorem Qs.all_ok (d : List UInt8) (ok : Bool) : Qs.all d (!ok) = Qs.run (min (Qn.val d (!(ok && Rn.ok d))).toNat 60) (Qn.rest d) (!(ok && Rn.ok d)) := by unfold Qs.all; rw [Bool.not_and]
structure QLoop (S : Nat → Prop) (g : Nat) (B : Nat) (w0 w : World) (L : List WsV) (A : Option Addr) (c : Nat) (d : List UInt8) (ok : Bool) : Prop where
 t : ∃ T : Nat → Prop, (∀ i, S i → T i) ∧ (∀ i, T i → S i ∨ B ≤ i) ∧ (∀ i, ownRow A c = some i → T i) ∧ (∀ s ∈ L, SubW w T s) ∧ Rr w T g d ok
 own : Own w B 45 36 A L.length c (wcs L)
 trn : Trn (fun i => i = g) w0 w
theorem Qs.one_is {d2 d3 d4 d5 d6 d7 Z6 : List UInt8} {b3 b4 b5 b6 b7 : Bool} {V5 : Int} (h3 : d3 = d2.drop (Vint.getBytes d2).2.1) (k3 : b3 = (true && decide ((Vint.getBytes d2).2.2 = 0))) (h4 : d4 = d3.drop (Vint.getBytes d3).2.1) (k4 : b4 = (b3 && decide ((Vint.getBytes d3).2.2 = 0)))
  (h5 : d5 = Rc.rest 8 d4) (k5 : b5 = (b4 && !decide (d4.length < 8))) (hV : V5 = Qn.val d5 (!(b5 && Rn.ok d5))) (h6 : d6 = Qn.rest d5) (k6 : b6 = (b5 && Rn.ok d5)) (h7 : d7 = Rc.rest 32 d6) (k7 : b7 = (b6 && !decide (d6.length < 32))) (hZ : Z6 = Rc.val 32 d6) :
  Qs.one d2 false = (⟨⟨(Vint.getBytes d2).1, (Vint.getBytes d3).1, V5, Z6⟩, Vint.number (Rc.val 8 d4)⟩, d7, !b7) := by
 have e4 : (!b4) = ((false || Rt.bad d2) || Rt.bad d3) := by rw [k4, k3, h3]; simp [Rt.bad]
 have e5 : (!b5) = ((!b4) || decide (d4.length < 8)) := by rw [k5]; simp
 have e6 : (!b6) = ((!b5) || !Rn.ok d5) := by rw [k6]; simp
 have e7 : (!b7) = ((!b6) || decide (d6.length < 32)) := by rw [k7]; simp
 rw [← k6] at hV
 rw [e7, hV, e6, e5, e4]
 subst hZ h7 h6 h5 h4 h3
 rfl
set_option maxRecDepth 100000 in
set_option maxHeartbeats 4000000 in
theorem rsubsr_any (S : Nat → Prop) (g : Nat) (d : List UInt8) (ok : Bool) (w : World) (h : Rr w S g d ok) :
  Calls Tryz.prog 38 #[.pointer (some ⟨g, 0, none⟩)] w fun e w' => QSubs S g (Qs.all d (!ok)) w e w' := by
 rw [Qs.all_ok]
 obtain ⟨A, c, hA⟩ := h
 have HN := Lib.hid (rnum_any S g A c d ok w hA)
 have hgl := hA.lt _ hA.mem
 have HSl := Lib.hid hA.lt
 have hSg := hA.mem
 have hv0 := Qn.val_ge d (!(ok && Rn.ok d))
 have hv1 := Qn.val_le d (!(ok && Rn.ok d)) (by cases ok <;> simp)
 clear hA
 go_enter Tryz.func38, Tryz.ntmps38
 generalize Qn.val d (!(ok && Rn.ok d)) = V at HN hv0 hv1 ⊢
 generalize Qn.rest d = rr at HN ⊢
 generalize (ok && Rn.ok d) = b0 at HN ⊢
 obtain ⟨N, rfl⟩ := Int.eq_ofNat_of_zero_le hv0
 obtain ⟨m, hm⟩ : ∃ m, m = min N 60 := ⟨_, rfl⟩
 rw [show min ((N : Int)).toNat 60 = m by rw [hm]; simp]
 have hmN : m ≤ N := by omega
 have hm60 : m ≤ 60 := by omega
 have hmin : ∀ j, j < N → j < 60 → j < m := fun j _ _ => by omega
 clear hm
 go_wp2_with (go_at_call 35; refine HN.out.mono ?_; rintro e1 w1 ⟨rfl, hR1, hT1⟩; refine Hid.out ?_)
 clear HN
 refine Lib.hid ?_
 go_wp2_with fail
 go_loopw [4, 5] (fun x i wr => ∃ (k : Nat) (L : List WsV) (A1 : Option Addr) (c1 : Nat) (d2 : List UInt8) (ok2 : Bool), k ≤ m ∧ L.length = k ∧ i = .int .i64 k ∧ x = .slice A1 L.length c1 ∧ Hid (QLoop S g w.heap.size w wr L A1 c1 d2 ok2) ∧ Hid (Qs.run m rr (!b0) = (L.map WsV.x ++ (Qs.run (m - k) d2 (!ok2)).1, (Qs.run (m - k) d2 (!ok2)).2))) (fun _ i _ => 60 - (intOf i).toNat)
 case atStart => exact ⟨0, [], none, 0, rr, b0, by omega, rfl, rfl, rfl, Lib.hid ⟨⟨S, fun _ h => h, fun _ h => .inl h, fun i e => by simp [ownRow] at e, by simp, hR1⟩, Own.none_ _ _ _ _ _, hT1⟩, Lib.hid rfl⟩
 case round =>
  obtain ⟨k, L, A1, c1, d2, ok2, hk, hL, rfl, rfl, hq, hrun⟩ := hrel
  obtain rfl : L.length = k := hL
  obtain ⟨T, hT1', hT2, hT3, hT4, A2, c2, hA2⟩ := hq.out.t
  have h1 := hA2.cell1
  have HA2 := Lib.hid hA2
  have HT4 := Lib.hid hT4
  clear hA2 hT4 hT1 hR1
  have ik : (0 : Int) ≤ (L.length : Int) := by omega
  by_cases hc : L.length < m ∧ ok2 = true
  ·
   obtain ⟨hc1, rfl⟩ := hc
   have ik1 : L.length < N := by omega
   have ik2 : L.length < 60 := by omega
   have iSub : (Tryz.prog.info? 45).map (·.size) = some 36 := by kernel_rfl
   have hwo : ∀ u ∈ wsz.cl, u.oneCell' = true := by decide
   obtain ⟨W1, hW1⟩ : ∃ W1, W1 = wr.alloc (.cells wsz.cells 45) := ⟨_, rfl⟩
   have HW1 := Lib.hid (show (wr.alloc (.cells wsz.cells 45)).setRow wr.heap.size wsz.cells = W1 by rw [hW1]; exact setRow_same (heap_alloc_new wr _))
   have hx1 : Ext wr W1 := by rw [hW1]; exact Ext.alloc _ _
   have hs1 : W1.heap.size = wr.heap.size + 1 := by rw [hW1]; simp
   have hr1 : W1.heap[wr.heap.size]? = some (.cells wsz.cells 45 (0, 0)) := by rw [hW1]; exact heap_alloc_new wr _
   clear hW1
   have hTl := HA2.out.lt
   have hTg := HA2.out.mem
   obtain ⟨A2b, c2b, hA2b⟩ : Rr W1 (fun i => T i ∨ i = wr.heap.size) g d2 true := Rr.more ⟨A2, c2, HA2.out⟩ hx1 (fun i hi => hi.imp id (fun e => by omega)) (.inl hTg)
   have HC1 := Lib.hid (rbytes_any _ g A2b c2b d2 true W1 hA2b)
   clear hA2b
   go_wp2_with (refine wpList_put1 (by rfl) 45 (.tmp 6) (.tmp 24) rfl ⟨wr.heap.size, 0, none⟩ rfl wr.heap.size 0 rfl (.agg wsz.cells) rfl wsz.cl rfl wsz.cells 45 (heap_alloc_new wr _) iSub (by decide) hwo wsz.cells rfl ?_; refine Eq.mpr (congrArg (fun X => wpList _ _ _ _ _ X) (show _ = W1 from HW1.out)) ?_; refine Hid.out ?_)
   refine Lib.hid ?_
   go_wp2_with (go_at_call 34; refine HC1.out.mono ?_; rintro e3 w3 ⟨A3, c3, rfl, ho3, hR3, ht3⟩; refine Hid.out ?_)
   have hs3 := ht3.size
   have hr3 := ht3.row hr1 (fun e => by have := hTl _ hTg; omega)
   have hx3 : Tx w3 (fun i => T i ∨ i = wr.heap.size) A3 c3 (Vint.getBytes d2).1 := Tx.own ho3 (fun i hi => hi.elim (fun e => by have := hTl _ e; omega) (fun e => by omega))
   obtain ⟨d3, hd3⟩ : ∃ d3, d3 = d2.drop (Vint.getBytes d2).2.1 := ⟨_, rfl⟩
   rw [← hd3] at hR3
   obtain ⟨b3, hb3⟩ : ∃ b3, b3 = (true && decide ((Vint.getBytes d2).2.2 = 0)) := ⟨_, rfl⟩
   rw [← hb3] at hR3
   have HB3 := Lib.hid hb3
   clear hb3
   have HD3 := Lib.hid hd3
   clear hd3
   have hgr : ¬ wr.heap.size = g := fun e => by have := hTl _ hTg; omega
   obtain ⟨A3b, c3b, hA3b⟩ := hR3
   have HC2 := Lib.hid (rbytes_any _ g A3b c3b _ _ w3 hA3b)
   clear hA3b ho3 HC1 HW1
   refine Lib.hid ?_
   go_wp2_with (go_at_call 34; refine HC2.out.mono ?_; rintro e4 w4 ⟨A4, c4, rfl, ho4, hR4, ht4⟩; refine Hid.out ?_)
   have hs4 := ht4.size
   have r4 := ht4.row hr3 hgr
   have hx4 : Tx w4 (fun i => T i ∨ i = wr.heap.size) A4 c4 (Vint.getBytes d3).1 := Tx.own ho4 (fun i hi => hi.elim (fun e => by have := hTl _ e; omega) (fun e => by omega))
   have hx34 := hx3.trn ht4 (fun i e => .inl (e ▸ hTg))
   obtain ⟨d4, hd4⟩ : ∃ d4, d4 = d3.drop (Vint.getBytes d3).2.1 := ⟨_, rfl⟩
   rw [← hd4] at hR4
   obtain ⟨b4, hb4⟩ : ∃ b4, b4 = (b3 && decide ((Vint.getBytes d3).2.2 = 0)) := ⟨_, rfl⟩
   rw [← hb4] at hR4
   have HB4 := Lib.hid hb4
   clear hb4
   have HD4 := Lib.hid hd4
   clear hd4 ho4 HC2
   have i0 : (Tryz.prog.info? 22).map (·.size) = some 1 := by kernel_rfl
   have hS1 : ((⟨{ wsz.p with la := A3, lc := c3, x := { wsz.p.x with lo := (Vint.getBytes d2).1 } }, wsz.lsn⟩ : WsV)).p.x.sum.length = 32 := wsz_sum
   have hS2 : ((⟨{ wsz.p with la := A3, lc := c3, ha := A4, hc := c4, x := { wsz.p.x with lo := (Vint.getBytes d2).1, hi := (Vint.getBytes d3).1 } }, wsz.lsn⟩ : WsV)).p.x.sum.length = 32 := wsz_sum
   have hp1 : put1 wsz.cells 0 [.slice A3 (Vint.getBytes d2).1.length c3] = ((⟨{ wsz.p with la := A3, lc := c3, x := { wsz.p.x with lo := (Vint.getBytes d2).1 } }, wsz.lsn⟩ : WsV)).cells := sput_lo wsz_sum A3 c3 _
   have hp2 : put1 ((⟨{ wsz.p with la := A3, lc := c3, x := { wsz.p.x with lo := (Vint.getBytes d2).1 } }, wsz.lsn⟩ : WsV)).cells 1 [.slice A4 (Vint.getBytes d3).1.length c4] = ((⟨{ wsz.p with la := A3, lc := c3, ha := A4, hc := c4, x := { wsz.p.x with lo := (Vint.getBytes d2).1, hi := (Vint.getBytes d3).1 } }, wsz.lsn⟩ : WsV)).cells := sput_hi hS1 A4 c4 _
   have hf1 := WsV.size wsz_sum
   have hf2 := WsV.size hS1
   generalize hX1 : ((⟨{ wsz.p with la := A3, lc := c3, x := { wsz.p.x with lo := (Vint.getBytes d2).1 } }, wsz.lsn⟩ : WsV)).cells = Y1 at hp1 hp2 hf2
   generalize hX2 : ((⟨{ wsz.p with la := A3, lc := c3, ha := A4, hc := c4, x := { wsz.p.x with lo := (Vint.getBytes d2).1, hi := (Vint.getBytes d3).1 } }, wsz.lsn⟩ : WsV)).cells = Y2 at hp2
   generalize hX0 : wsz.cells = Y0 at r4 hp1 hf1
   obtain ⟨W5, hW5⟩ : ∃ W5, W5 = w4.setRow wr.heap.size Y1 := ⟨_, rfl⟩
   have r5 : W5.heap[wr.heap.size]? = some (.cells Y1 45 (0, 0)) := by rw [hW5]; exact setRow_heap _ _ _ _ _ _ r4
   obtain ⟨W6, hW6⟩ : ∃ W6, W6 = W5.setRow wr.heap.size Y2 := ⟨_, rfl⟩
   have r6 : W6.heap[wr.heap.size]? = some (.cells Y2 45 (0, 0)) := by rw [hW6]; exact setRow_heap _ _ _ _ _ _ r5
   have ht6 : Trn (fun i => i = wr.heap.size) w4 W6 := by rw [hW6, hW5]; exact (Trn.set (S := fun i => i = wr.heap.size) _ _ _ rfl).tr (Trn.set (S := fun i => i = wr.heap.size) _ _ _ rfl)
   have HW5 := Lib.hid hW5
   have HW6 := Lib.hid hW6
   have HX1 := Lib.hid hX1
   have HX2 := Lib.hid hX2
   clear hW5 hW6 hX1 hX2 hX0
   refine Lib.hid ?_
   go_wp2_with (first | (refine wpList_put1 (by rfl) 22 (.tmp 30) (.tmp 26) rfl ⟨wr.heap.size, 0, none⟩ rfl wr.heap.size 0 rfl _ rfl [.slice A3 (Vint.getBytes d2).1.length c3] rfl Y0 _ r4 i0 (by rw [hf1]; simp) (by simp [Value.oneCell']) Y1 hp1 ?_; rw [← HW5.out]) | (refine wpList_put1 (by rfl) 22 (.tmp 32) (.tmp 28) rfl ⟨wr.heap.size, 1, none⟩ rfl wr.heap.size 1 rfl _ rfl [.slice A4 (Vint.getBytes d3).1.length c4] rfl Y1 _ r5 i0 (by rw [hf2]; simp) (by simp [Value.oneCell']) Y2 hp2 ?_; rw [← HW6.out]; refine Hid.out ?_))
   obtain ⟨A6, c6, hA6⟩ := hR4.trn ht6 (fun i e => .inr e) (fun e => hgr e.symm)
   have HC6 := Lib.hid (rfixed_any _ g A6 c6 _ _ W6 8 (by omega) hA6)
   unfold QCut at HC6
   have hT6 := ht6
   have hs6 := ht6.size
   clear hA6 hR4 r4 r5 HW5 HW6 hp1 hp2 hf1 hf2
   refine Lib.hid ?_
   go_wp2_with (go_at_call 36; refine HC6.out.mono ?_; rintro e7 w7 ⟨A7, c7, rfl, hx7, hc7, ht7, hR7⟩; refine Hid.out ?_)
   have hN7 := ref_number01 A7 (Rc.val 8 d4) c7 w7 hx7.rd (by rw [Rc.len]; omega)
   rw [Rc.len] at hN7
   have HN7 := Lib.hid hN7
   have r7 := ht7.row r6 hgr
   have hs7 := ht7.size
   obtain ⟨d5, hd5⟩ : ∃ d5, d5 = Rc.rest 8 d4 := ⟨_, rfl⟩
   rw [← hd5] at hR7
   have HD5 := Lib.hid hd5
   obtain ⟨b5, hb5⟩ : ∃ b5, b5 = (b4 && !decide (d4.length < 8)) := ⟨_, rfl⟩
   rw [← hb5] at hR7
   have HB5 := Lib.hid hb5
   have hS3 : ((⟨{ wsz.p with la := A3, lc := c3, ha := A4, hc := c4, x := { wsz.p.x with lo := (Vint.getBytes d2).1, hi := (Vint.getBytes d3).1 } }, Vint.number (Rc.val 8 d4)⟩ : WsV)).p.x.sum.length = 32 := wsz_sum
   have hp3 : put1 Y2 35 [.int .u64 ((Vint.number (Rc.val 8 d4) : Nat) : Int)] = ((⟨{ wsz.p with la := A3, lc := c3, ha := A4, hc := c4, x := { wsz.p.x with lo := (Vint.getBytes d2).1, hi := (Vint.getBytes d3).1 } }, Vint.number (Rc.val 8 d4)⟩ : WsV)).cells := by rw [← HX2.out]; exact sput_lsn (x := (⟨{ wsz.p with la := A3, lc := c3, ha := A4, hc := c4, x := { wsz.p.x with lo := (Vint.getBytes d2).1, hi := (Vint.getBytes d3).1 } }, wsz.lsn⟩ : WsV)) hS2 _
   have hf3 : Y2.size = 36 := by rw [← HX2.out]; exact WsV.size (s := (⟨{ wsz.p with la := A3, lc := c3, ha := A4, hc := c4, x := { wsz.p.x with lo := (Vint.getBytes d2).1, hi := (Vint.getBytes d3).1 } }, wsz.lsn⟩ : WsV)) hS2
   generalize hX3 : ((⟨{ wsz.p with la := A3, lc := c3, ha := A4, hc := c4, x := { wsz.p.x with lo := (Vint.getBytes d2).1, hi := (Vint.getBytes d3).1 } }, Vint.number (Rc.val 8 d4)⟩ : WsV)).cells = Y3 at hp3
   have HX3 := Lib.hid hX3
   obtain ⟨W8, hW8⟩ : ∃ W8, W8 = w7.setRow wr.heap.size Y3 := ⟨_, rfl⟩
   have r8 : W8.heap[wr.heap.size]? = some (.cells Y3 45 (0, 0)) := by rw [hW8]; exact setRow_heap _ _ _ _ _ _ r7
   have ht8 : Trn (fun i => i = wr.heap.size) w7 W8 := by rw [hW8]; exact Trn.set (S := fun i => i = wr.heap.size) _ _ _ rfl
   have HW8 := Lib.hid hW8
   obtain ⟨A8, c8, hA8⟩ := hR7.trn ht8 (fun i e => .inr e) (fun e => hgr e.symm)
   have HC8 := Lib.hid (rnum_any _ g A8 c8 d5 b5 W8 hA8)
   obtain ⟨V5, hV5⟩ : ∃ V5, V5 = Qn.val d5 (!(b5 && Rn.ok d5)) := ⟨_, rfl⟩
   rw [← hV5] at HC8
   have HV5 := Lib.hid hV5
   clear hV5
   have iu : (Tryz.prog.info? 24).map (·.size) = some 1 := by kernel_rfl
   have hs8 := ht8.size
   clear hX3 hW8 hd5 hb5 hN7 hA8 HC6 r6
   refine Lib.hid ?_
   go_wp2_with (first | (go_at_call 17; refine HN7.out.mono ?_; rintro e8 w8 ⟨rfl, rfl⟩) | (refine wpList_put1 (by rfl) 24 (.tmp 36) (.tmp 35) rfl ⟨wr.heap.size, 35, none⟩ rfl wr.heap.size 35 rfl _ rfl [.int .u64 ((Vint.number (Rc.val 8 d4) : Nat) : Int)] rfl Y2 _ r7 iu (by rw [hf3]; simp) (by simp [Value.oneCell']) Y3 hp3 ?_; rw [← HW8.out]) | (go_at_call 35; refine HC8.out.mono ?_; rintro e9 w9 ⟨rfl, hR9, ht9⟩; refine Hid.out ?_))
   have r9 := ht9.row r8 hgr
   have hs9 := ht9.size
   obtain ⟨d6, hd6⟩ : ∃ d6, d6 = Qn.rest d5 := ⟨_, rfl⟩
   rw [← hd6] at hR9
   have HD6 := Lib.hid hd6
   obtain ⟨b6, hb6⟩ : ∃ b6, b6 = (b5 && Rn.ok d5) := ⟨_, rfl⟩
   rw [← hb6] at hR9
   have HB6 := Lib.hid hb6
   have hS4 : ((⟨{ wsz.p with la := A3, lc := c3, ha := A4, hc := c4, x := { wsz.p.x with lo := (Vint.getBytes d2).1, hi := (Vint.getBytes d3).1, count := V5 } }, Vint.number (Rc.val 8 d4)⟩ : WsV)).p.x.sum.length = 32 := wsz_sum
   have hp4 : put1 Y3 2 [.int .i64 V5] = ((⟨{ wsz.p with la := A3, lc := c3, ha := A4, hc := c4, x := { wsz.p.x with lo := (Vint.getBytes d2).1, hi := (Vint.getBytes d3).1, count := V5 } }, Vint.number (Rc.val 8 d4)⟩ : WsV)).cells := by rw [← HX3.out]; exact sput_count (x := (⟨{ wsz.p with la := A3, lc := c3, ha := A4, hc := c4, x := { wsz.p.x with lo := (Vint.getBytes d2).1, hi := (Vint.getBytes d3).1 } }, Vint.number (Rc.val 8 d4)⟩ : WsV)) hS3 _
   have hf4 : Y3.size = 36 := by rw [← HX3.out]; exact WsV.size (s := (⟨{ wsz.p with la := A3, lc := c3, ha := A4, hc := c4, x := { wsz.p.x with lo := (Vint.getBytes d2).1, hi := (Vint.getBytes d3).1 } }, Vint.number (Rc.val 8 d4)⟩ : WsV)) hS3
   generalize hX4 : ((⟨{ wsz.p with la := A3, lc := c3, ha := A4, hc := c4, x := { wsz.p.x with lo := (Vint.getBytes d2).1, hi := (Vint.getBytes d3).1, count := V5 } }, Vint.number (Rc.val 8 d4)⟩ : WsV)).cells = Y4 at hp4
   have HX4 := Lib.hid hX4
   obtain ⟨W10, hW10⟩ : ∃ W10, W10 = w9.setRow wr.heap.size Y4 := ⟨_, rfl⟩
   have r10 : W10.heap[wr.heap.size]? = some (.cells Y4 45 (0, 0)) := by rw [hW10]; exact setRow_heap _ _ _ _ _ _ r9
   have ht10 : Trn (fun i => i = wr.heap.size) w9 W10 := by rw [hW10]; exact Trn.set (S := fun i => i = wr.heap.size) _ _ _ rfl
   have HW10 := Lib.hid hW10
   have HC10 := Lib.hid (rsumr_any _ g d6 b6 W10 (hR9.trn ht10 (fun i e => .inr e) (fun e => hgr e.symm)))
   unfold QSum at HC10
   have ii : (Tryz.prog.info? 3).map (·.size) = some 1 := by kernel_rfl
   have hs10 := ht10.size
   clear hX4 hW10 hd6 hb6 HC8 HN7 r7 r8 HW8 hp3 hf3
   refine Lib.hid ?_
   go_wp2_with (first | (refine wpList_put1 (by rfl) 3 (.tmp 40) (.tmp 38) rfl ⟨wr.heap.size, 2, none⟩ rfl wr.heap.size 2 rfl _ rfl [.int .i64 V5] rfl Y3 _ r9 ii (by rw [hf4]; simp) (by simp [Value.oneCell']) Y4 hp4 ?_; rw [← HW10.out]) | (go_at_call 37; refine HC10.out.mono ?_; rintro e11 w11 ⟨rfl, hR11, ht11⟩; refine Hid.out ?_))
   have r11 := ht11.row r10 hgr
   have hs11 := ht11.size
   obtain ⟨d7, hd7⟩ : ∃ d7, d7 = Rc.rest 32 d6 := ⟨_, rfl⟩
   rw [← hd7] at hR11
   have HD7 := Lib.hid hd7
   obtain ⟨b7, hb7⟩ : ∃ b7, b7 = (b6 && !decide (d6.length < 32)) := ⟨_, rfl⟩
   rw [← hb7] at hR11
   have HB7 := Lib.hid hb7
   have hz6 := Rc.len 32 d6
   obtain ⟨Z6, hZ6⟩ : ∃ Z6, Z6 = Rc.val 32 d6 := ⟨_, rfl⟩
   rw [← hZ6] at hz6
   have HZ6 := Lib.hid hZ6
   have hS5 : ((⟨{ wsz.p with la := A3, lc := c3, ha := A4, hc := c4, x := { wsz.p.x with lo := (Vint.getBytes d2).1, hi := (Vint.getBytes d3).1, count := V5, sum := Z6 } }, Vint.number (Rc.val 8 d4)⟩ : WsV)).p.x.sum.length = 32 := hz6
   have hp5 : put1 Y4 3 (bvs Z6) = ((⟨{ wsz.p with la := A3, lc := c3, ha := A4, hc := c4, x := { wsz.p.x with lo := (Vint.getBytes d2).1, hi := (Vint.getBytes d3).1, count := V5, sum := Z6 } }, Vint.number (Rc.val 8 d4)⟩ : WsV)).cells := by rw [← HX4.out]; exact sput_sum (x := (⟨{ wsz.p with la := A3, lc := c3, ha := A4, hc := c4, x := { wsz.p.x with lo := (Vint.getBytes d2).1, hi := (Vint.getBytes d3).1, count := V5 } }, Vint.number (Rc.val 8 d4)⟩ : WsV)) hS4 _ hz6
   have hf5 : Y4.size = 36 := by rw [← HX4.out]; exact WsV.size (s := (⟨{ wsz.p with la := A3, lc := c3, ha := A4, hc := c4, x := { wsz.p.x with lo := (Vint.getBytes d2).1, hi := (Vint.getBytes d3).1, count := V5 } }, Vint.number (Rc.val 8 d4)⟩ : WsV)) hS4
   have hf6 : ((⟨{ wsz.p with la := A3, lc := c3, ha := A4, hc := c4, x := { wsz.p.x with lo := (Vint.getBytes d2).1, hi := (Vint.getBytes d3).1, count := V5, sum := Z6 } }, Vint.number (Rc.val 8 d4)⟩ : WsV)).cells.size = 36 := WsV.size (s := (⟨{ wsz.p with la := A3, lc := c3, ha := A4, hc := c4, x := { wsz.p.x with lo := (Vint.getBytes d2).1, hi := (Vint.getBytes d3).1, count := V5, sum := Z6 } }, Vint.number (Rc.val 8 d4)⟩ : WsV)) hS5
   obtain ⟨X5, hX5⟩ : ∃ X5 : WsV, X5 = (⟨{ wsz.p with la := A3, lc := c3, ha := A4, hc := c4, x := { wsz.p.x with lo := (Vint.getBytes d2).1, hi := (Vint.getBytes d3).1, count := V5, sum := Z6 } }, Vint.number (Rc.val 8 d4)⟩ : WsV) := ⟨_, rfl⟩
   rw [← hX5] at hp5 hf6 hS5
   have HX5 := Lib.hid hX5
   obtain ⟨W12, hW12⟩ : ∃ W12, W12 = w11.setRow wr.heap.size X5.cells := ⟨_, rfl⟩
   have r12 : W12.heap[wr.heap.size]? = some (.cells X5.cells 45 (0, 0)) := by rw [hW12]; exact setRow_heap _ _ _ _ _ _ r11
   have ht12 : Trn (fun i => i = wr.heap.size) w11 W12 := by rw [hW12]; exact Trn.set (S := fun i => i = wr.heap.size) _ _ _ rfl
   have HW12 := Lib.hid hW12
   have hR12 := hR11.trn ht12 (fun i e => .inr e) (fun e => hgr e.symm)
   have iS : (Tryz.prog.info? 26).map (·.size) = some 32 := by kernel_rfl
   have hbz : (bvs Z6).length = 32 := by rw [bvs_len, hz6]
   have hbo := bvs_one Z6
   rw [← hZ6]
   clear hX5 hW12 hd7 hb7 HC10 r9 r10 HW10 hp4 hf4 hZ6
   refine Lib.hid ?_
   go_wp2_with (first | (refine wpList_put1 (by rfl) 26 (.tmp 44) (.tmp 42) rfl ⟨wr.heap.size, 3, none⟩ rfl wr.heap.size 3 rfl (.agg (bvs Z6).toArray) rfl (bvs Z6) rfl Y4 _ r11 (by rw [hbz]; exact iS) (by rw [hf5, hbz]; omega) hbo X5.cells hp5 ?_; rw [← HW12.out]) | (refine wpList_load_row rfl 45 (.tmp 6) rfl wr.heap.size rfl 45 X5.cells (0, 0) _ r12 Tryz.underlying45 rfl (by rw [hf6]; exact iSub) ?_; refine Hid.out ?_))
   have hs12 := ht12.size
   have htA : Trn (fun i => i = g ∨ i = wr.heap.size) wr W12 := by
    have k1 : Trn (fun i => i = g ∨ i = wr.heap.size) wr w3 := (Trn.ext hx1).tr (ht3.mono (fun i e _ => .inl e))
    have k2 := (k1.tr (ht4.mono (fun i e _ => .inl e))).tr (hT6.mono (fun i e _ => .inr e))
    have k3 := (k2.tr (ht7.mono (fun i e _ => .inl e))).tr (ht8.mono (fun i e _ => .inr e))
    have k4 := (k3.tr (ht9.mono (fun i e _ => .inl e))).tr (ht10.mono (fun i e _ => .inr e))
    exact (k4.tr (ht11.mono (fun i e _ => .inl e))).tr (ht12.mono (fun i e _ => .inr e))
   have htB : Trn (fun i => i = g) wr W12 := htA.mono (fun i e hi => e.elim id (fun e => by omega))
   have hwB : w.heap.size ≤ wr.heap.size := hq.out.trn.size
   have ho12 := hq.out.own.trn htB (fun i e => by omega)
   have hown := Lib.hid (ho12.below (Ext.alloc W12 (.cells X5.cells 45)))
   have hrd1 := Lib.hid (Rd.row (n := 1) (s := 36) (xs := X5.cl) (heap_alloc_new W12 (.cells X5.cells 45)) (WsV.cl_len hS5))
   have hwc : wcs (L ++ [X5]) = wcs L ++ X5.cl := by simp [wcs]
   have HWC := Lib.hid hwc
   have hone5 : ∀ u ∈ X5.cl, u.oneCell' = true := fun u hu => (Array.all_eq_true_iff_forall_mem.1 (WsV.one X5)) u (by simpa [WsV.cells] using hu)
   clear hwc HW12 hp5 hf5 r11
   refine Lib.hid ?_
   go_wp2_with (refine wpList_buildOne (by rfl) 27 (.tmp 46) rfl elemW X5.cells rfl hf6 (by omega) ?_; refine wpList_app (by rfl) (.tmp 45) (.tmp 47) 27 rfl elemW w.heap.size A1 L.length c1 (wcs L) rfl (some ⟨W12.heap.size, 0, none⟩) 1 1 X5.cl rfl (L.length + 1) rfl (wcs (L ++ [X5])) HWC.out hown.out hrd1.out hone5 (by omega) (by omega) (by simp; omega) ?_; intro A9 c9 W13 ho13 hg13 hr13; refine Hid.out ?_)
   obtain ⟨V0, hV0⟩ : ∃ V0, V0 = W12.alloc (.cells X5.cells 45) := ⟨_, rfl⟩
   have hxV : Ext W12 V0 := by rw [hV0]; exact Ext.alloc _ _
   rw [← hV0] at hg13 hr13
   have hsV := hxV.size
   obtain ⟨T1, hT1d⟩ : ∃ T1 : Nat → Prop, T1 = fun i => T i ∨ i = wr.heap.size := ⟨_, rfl⟩
   obtain ⟨T9, hT9d⟩ : ∃ T9 : Nat → Prop, T9 = fun i => T1 i ∨ ownRow A9 c9 = some i := ⟨_, rfl⟩
   have hg : Trn (fun i => ownRow A1 c1 = some i) V0 W13 := ⟨hg13.os, hg13.tape, hg13.output, hg13.size, fun i hi hn => hg13.block i hi (fun e => hn e.symm)⟩
   have hT1T : ∀ i, T i → T1 i := fun i e => by rw [hT1d]; exact .inl e
   have hT1r : T1 wr.heap.size := by rw [hT1d]; exact .inr rfl
   have hT1e : ∀ i, T1 i → T i ∨ i = wr.heap.size := fun i e => by rw [hT1d] at e; exact e
   have hT9T : ∀ i, T1 i → T9 i := fun i e => by rw [hT9d]; exact .inl e
   have hT9e : ∀ i, T9 i → T1 i ∨ ownRow A9 c9 = some i := fun i e => by rw [hT9d] at e; exact e
   have hT9n : ∀ i, T9 i → T1 i ∨ V0.heap.size ≤ i := fun i e => (hT9e i e).elim .inl fun e => hr13.elim (fun k => .inl (hT1T _ (hT3 _ (k ▸ e)))) (fun k => .inr (by rw [k] at e; injection e with e; omega))
   have hown9 := ho13.row_lt
   have hown1 := hq.out.own.row_lt
   rw [← hT1d] at hx34 hx4 hR12
   have up : ∀ {A : Option Addr} {c : Nat} {d : List UInt8}, Tx W12 T1 A c d → Tx W13 T9 A c d := fun h => ((h.ext hxV).more hT9n).trn hg (fun i e => hT9T _ (hT1T _ (hT3 _ e)))
   have hgT : ∀ i, i = g → T1 i := fun i e => hT1T _ (e ▸ hTg)
   have hrT : ∀ i, i = wr.heap.size → T1 i := fun i e => e ▸ hT1r
   have tail6 : ∀ {A : Option Addr} {c : Nat} {d : List UInt8}, Tx w4 T1 A c d → Tx W12 T1 A c d := fun h => ((((((h.trn hT6 hrT).trn ht7 hgT).trn ht8 hrT).trn ht9 hgT).trn ht10 hrT).trn ht11 hgT).trn ht12 hrT
   have htA1 : ∀ i, (i = g ∨ i = wr.heap.size) → T1 i := fun i e => e.elim (hgT i) (hrT i)
   have old : ∀ {A : Option Addr} {c : Nat} {d : List UInt8}, Tx wr T A c d → Tx W13 T9 A c d := fun h => up ((h.more (fun i e => (hT1e i e).imp id (fun e => by omega))).trn htA htA1)
   have hx3f := up (tail6 hx34)
   have hx4f := up (tail6 hx4)
   have hnum : Vint.number (Rc.val 8 d4) < 18446744073709551616 := Vint.number_lt _
   have hV0' : 0 ≤ V5 := by rw [HV5.out]; exact Qn.val_ge _ _
   have hV1' : V5 ≤ 2147483647 := by rw [HV5.out]; exact Qn.val_le _ _ (by cases b5 <;> simp)
   have hX5f : SubW W13 T9 X5 := by rw [HX5.out]; exact ⟨hx3f, hx4f, hz6, hV0', hV1', hnum⟩
   have hX5x : X5.x = ⟨⟨(Vint.getBytes d2).1, (Vint.getBytes d3).1, V5, Z6⟩, Vint.number (Rc.val 8 d4)⟩ := by rw [HX5.out]; rfl
   have hone := Qs.one_is HD3.out HB3.out HD4.out HB4.out HD5.out HB5.out HV5.out HD6.out HB6.out HD7.out HB7.out HZ6.out
   rw [← hX5x] at hone
   have hrun9 : Qs.run m rr (!b0) = ((L ++ [X5]).map WsV.x ++ (Qs.run (m - (L ++ [X5]).length) d7 (!b7)).1, (Qs.run (m - (L ++ [X5]).length) d7 (!b7)).2) := by
    rw [hrun.out, List.length_append, show m - L.length = (m - (L.length + [X5].length)) + 1 by simp; omega]
    rw [show Qs.run (m - (L.length + [X5].length) + 1) d2 (!true) = ((Qs.one d2 false).1 :: (Qs.run (m - (L.length + [X5].length)) (Qs.one d2 false).2.1 (Qs.one d2 false).2.2).1, (Qs.run (m - (L.length + [X5].length)) (Qs.one d2 false).2.1 (Qs.one d2 false).2.2).2) from rfl, hone]
    simp
   have hl9 : (L ++ [X5]).length = L.length + 1 := by simp
   have hq9 : QLoop S g w.heap.size w W13 (L ++ [X5]) A9 c9 d7 b7 := by
    refine ⟨⟨T9, fun i e => hT9T _ (hT1T _ (hT1' i e)), fun i e => ?_, fun i e => by rw [hT9d]; exact .inr e, fun s hs => ?_, ?_⟩, by rw [hl9]; exact ho13, ?_⟩
    ·
     rcases hT9e i e with e | e
     ·
      rcases hT1e i e with e | e
      ·
       exact hT2 i e
      ·
       exact .inr (by omega)
     ·
      exact .inr (hown9 i e).1
    ·
     rcases List.mem_append.1 hs with hs | hs
     ·
      have hw := HT4.out s hs
      exact ⟨old hw.lo, old hw.hi, hw.sum, hw.c0, hw.c1, hw.lsn⟩
     ·
      rw [List.mem_singleton] at hs
      subst hs
      exact hX5f
    ·
     obtain ⟨A12, c12, h12⟩ := hR12
     have hgr13 : ¬ ownRow A1 c1 = some g := fun e => by have := (hown1 g e).1; omega
     refine ⟨A12, c12, hg.row ((hxV.block _ (lt_of_heap h12.row)).trans h12.row) hgr13, up h12.tx, hT9T _ (hT1T _ hTg), fun i e => ?_, h12.len⟩
     rcases hT9e i e with e | e
     ·
      have := h12.lt i e
      have := hg.size
      omega
     ·
      exact (hown9 i e).2
    ·
     have k1 : Trn (fun i => i = g ∨ w.heap.size ≤ i) w W12 := (hq.out.trn.tr htB).mono (fun i e _ => .inl e)
     have k2 : Trn (fun i => i = g ∨ w.heap.size ≤ i) W12 W13 := (Trn.ext hxV).tr (hg.mono (fun i e _ => .inr (hown1 i e).1))
     exact (k1.tr k2).mono (fun i e hi => e.elim id (fun e => by omega))
   have HQ9 := Lib.hid hq9
   have HR9 := Lib.hid hrun9
   have Hl9 := Lib.hid hl9
   obtain ⟨L9, hL9⟩ : ∃ L9, L9 = L ++ [X5] := ⟨_, rfl⟩
   rw [← hL9] at HQ9 HR9 Hl9
   have hj1 : L.length + 1 ≤ m := by omega
   clear hq9 hrun9 hl9 hL9 hone hX5f hX5x up old tail6 hx3f hx4f hx34 hx4 hx3 hR12 hg hT9n hT9e hT9T hT1e hT1T hT1d hT9d hown1 hown9 hR11 ho13 hg13 hr13
   refine Lib.hid ?_
   go_wp2_with fail
   go_roundw
   case rel => exact ⟨L.length + 1, L9, A9, c9, d7, b7, hj1, Hl9.out, by go_num, by rw [Hl9.out], HQ9, by have := HR9.out; rw [Hl9.out] at this; exact this⟩
   case measure => simp [intOf]; omega
  ·
   have hend : (Qs.run (m - L.length) d2 (!ok2)) = ([], d2, !ok2) := by
    by_cases ho : ok2 = true
    ·
     have hnm : ¬ L.length < m := fun h => hc ⟨h, ho⟩
     rw [show m - L.length = 0 by omega, ho]; rfl
    ·
     rw [Bool.not_eq_true] at ho
     subst ho
     exact Qs.run_true _ _
   have HE := Lib.hid hend
   clear hend
   have hfin : QSubs S g (Qs.run m rr (!b0)) w (.returned (.slice A1 L.length c1)) wr := by
    rw [hrun.out, HE.out, List.append_nil]
    refine ⟨A1, c1, L, rfl, fun s hs => ?_, hq.out.own, rfl, ?_, hq.out.trn⟩
    ·
     have hw := HT4.out s hs
     exact ⟨hw.lo.more (fun i e => .inl (hT1' i e)), hw.hi.more (fun i e => .inl (hT1' i e)), hw.sum, hw.c0, hw.c1, hw.lsn⟩
    ·
     rw [Bool.not_not]
     exact Rr.less ⟨A2, c2, HA2.out⟩ hT1' hSg
   have HF := Lib.hid hfin
   clear hfin hrun hq
   by_cases hkN : L.length < N
   ·
    by_cases hk60 : L.length < 60
    ·
     obtain rfl : ok2 = false := by
      cases ok2 with
      | false => rfl
      | true => exact absurd ⟨hmin _ hkN hk60, rfl⟩ hc
     go_wp2_with fail
     go_ret
     exact HF.out
    ·
     go_wp2_with fail
     go_ret
     exact HF.out
   ·
    go_wp2_with fail
    go_ret
    exact HF.out
end Go.Proofs.YtjholekgdnhpkaaGreat
