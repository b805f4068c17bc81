
/- Contract: scowref20.Get. Printed by wip/tools/gen_oprget20.py. -/

import Derived.Test.YtdekdblebflklaaOpGet

import Derived.Test.YtdekdblebflklaaOpMap

import Derived.Test.YtdekdblebflklaaSlCut

namespace Go.Proofs.Ytdekdblebflklaa

open Go.RowKit

attribute [local go_sem] Oper.semAt_some

theorem getb01 (A : Option Addr) (bs : List UInt8) (cap : Nat) (w : World) (hA : RdB w A bs) (hl : bs.length ≤ 1000000) (hc : bs.length ≤ cap) {k : List UInt8} {n x : Nat} (h : Vint.getBytes bs = (k, n, x)) :
    Calls Try.prog 40 #[.slice A bs.length cap] w fun e w' => ∃ A' c', e = .returned (.tuple #[.slice A' k.length c', .int .i64 (n : Int), .int .i64 (x : Int)]) ∧ RdB w' A' k ∧ k.length ≤ c' ∧ Own w' w.heap.size 5 1 A' k.length c' (bvs k) ∧ Below w.heap.size w w' := by
  refine (ref_getbytes01 A bs cap w hA hl hc).mono ?_
  rintro e w' ⟨A', c', rfl, ho, hb⟩
  rw [h] at ho ⊢
  exact ⟨A', c', rfl, ho.rd', ho.nc, ho, hb⟩
theorem getb_len {bs k : List UInt8} {n x : Nat} (h : Vint.getBytes bs = (k, n, x)) : k.length ≤ bs.length := by
  unfold Vint.getBytes at h
  split at h
  · simp only [Prod.mk.injEq] at h; rw [← h.1]; simp
  · split at h
    · simp only [Prod.mk.injEq] at h; rw [← h.1]; simp
    · simp only [Prod.mk.injEq] at h; rw [← h.1]; simp; omega
theorem RdB.from_ {w : World} {A A2 : Option Addr} {bs : List UInt8} {c k : Nat} (h : RdB w A bs) (hk : k ≤ bs.length) (hc : bs.length ≤ c) (hA : A2 = if c = k then A else A.map (·.add (k * 1))) : RdB w A2 (bs.drop k) := by
  subst hA
  have := h.tail hk hc
  simpa using this
set_option maxRecDepth 100000 in
set_option maxHeartbeats 4000000 in
theorem ref_oget (A : Option Addr) (bs : List UInt8) (c : Nat) (w : World) (hA : RdB w A bs) (hc : bs.length ≤ c) (hl : bs.length ≤ 500000) :
    Calls Try.prog 20 #[.slice A bs.length c] w (OGetP bs w) := by
  go_enter Try.func20, Try.ntmps20
  go_wp2
  go_loopw [0, 4] (fun a v wr => ∃ (cur : List UInt8) (A1 : Option Addr) (c1 : Nat) (L : List OpV) (A' : Option Addr) (c' f : Nat), a = .slice A1 cur.length c1 ∧ v = .slice A' L.length c' ∧ OGetI A bs w cur A1 c1 L A' c' f wr) (fun a _ _ => lenV a)
  case atStart => exact ⟨bs, A, c, [], none, 0, bs.length, rfl, rfl, ⟨rfl, Nat.le_refl _, by simp, fun _ h => h, hc, Own.none_ _ _ _ _ _, by simp, Below.refl _ _⟩⟩
  case round =>
    obtain ⟨cur, A1, c1, L, A', c', f, rfl, rfl, hI⟩ := hrel
    rcases cur with _ | ⟨t, r⟩
    · simp only [List.length_nil]
      go_wp2
      refine bodyPost_ret (results_tmp2 rfl _ _ _) rfl ?_
      refine .inl ⟨L, A', c', by show Opn.getF bs.length [] bs = _; rw [hI.run, Opn.getF_nil], rfl, ⟨hI.own.rd, fun e he => (hI.ins e he).i⟩, hI.own.nc, by have := hI.tot; simp at this; exact this, hI.bel⟩
    · have hRd := hI.rd _ (hA.below hI.bel)
      have hRw := hI.rd _ hA
      have hcp := hI.cap
      have htot := hI.tot
      simp only [List.length_cons] at hcp htot ⊢
      have hlr : r.length ≤ 500000 := by omega
      have HI := Lib.hid hI
      have hnz : (0 : Int) < (r.length : Int) + 1 := by omega
      have Hh := Lib.hid hA
      obtain ⟨bd, hbd, hc0⟩ := hRd.at_ (k := 0) (by simp)
      simp only [List.getElem_cons_zero] at hc0
      have hc0 : wr.cell? bd = some (.int .u8 (t.toNat : Int)) := hc0
      subst hbd
      have HRw := Lib.hid hRw
      have HNONE : Hid (Opn.one (t :: r) = none → Opn.getAll bs = none) := by
        show Opn.one (t :: r) = none → Opn.getF bs.length [] bs = none
        intro h
        rw [HI.out.run]
        exact Opn.getF_none (by simp) h
      have HBAR : Hid (∀ k, (Opn.one (t :: r) = none ∨ ∃ q n, Opn.one (t :: r) = some (q, n) ∧ q.key = k) → Opn.bars (L.map OpV.x) ⟨false, k, []⟩ = true → Opn.getAll bs = none) := by
        show ∀ k, _ → _ → Opn.getF bs.length [] bs = none
        rintro k (h | ⟨q, n, h, rfl⟩) hb
        · rw [HI.out.run]; exact Opn.getF_none (by simp) h
        · rw [HI.out.run]; exact Opn.getF_bars (by simp) h (by unfold Opn.bars at hb ⊢; exact hb)
      clear hRd hI hA hRw
      by_cases ht : 1 < t.toNat
      · have hone := HNONE.out (by simp only [Opn.one]; rw [if_pos ht])
        have Hone := Lib.hid hone
        have hti : (1 : Int) < (t.toNat : Int) := by omega
        clear hone
        go_wp2_with fail
        refine bodyPost_ret (results_tmp2 rfl _ _ _) rfl ?_
        exact .inr ⟨Hone.out, rfl, HI.out.bel⟩
      · obtain ⟨A2, hA2⟩ : ∃ A2, A2 = (if c1 = 1 then some bd else (some bd).map (·.add (1 * 1))) := ⟨_, rfl⟩
        have hrd2 : ∀ W, RdB W (some bd) (t :: r) → RdB W A2 r := fun W h => h.from_ (k := 1) (by simp) (by simpa using hcp) hA2
        obtain ⟨k, n, x, hget⟩ : ∃ k n x, Vint.getBytes r = (k, n, x) := ⟨_, _, _, rfl⟩
        have hnl : n ≤ r.length := by have := Vint.getBytes_le r; rw [hget] at this; exact this
        have hkl : k.length ≤ 1000000 := by
          have h1 := getb_len hget
          omega
        have Hrd2 := Lib.hid hrd2
        have HA2 := Lib.hid hA2
        have Hget := Lib.hid hget
        clear hrd2 hA2 hget
        rcases (show t.toNat = 1 ∨ t.toNat = 0 by omega) with ht1 | ht1
        · have hone : Opn.one (t :: r) = (if x ≠ 0 ∨ ¬ (1 ≤ k.length ∧ k.length ≤ 24) then none else some (⟨true, k, []⟩, 1 + n)) := by
            simp only [Opn.one]
            rw [if_neg ht, Hget.out, if_pos ht1]
          have HO := Lib.hid hone
          rw [ht1] at hc0
          obtain ⟨W1, hW1⟩ : ∃ W1, W1 = wr.alloc (.cells #[.bool true, .slice none 0 0, .slice none 0 0] 50) := ⟨_, rfl⟩
          have g1 : W1.heap[wr.heap.size]? = some (.cells #[.bool true, .slice none 0 0, .slice none 0 0] 50 (0, 0)) := by rw [hW1]; exact heap_alloc_new wr _
          have hE1 : Ext wr W1 := by rw [hW1]; exact Ext.alloc _ _
          have hs1 : W1.heap.size = wr.heap.size + 1 := by rw [hW1]; simp
          have hc1' : W1.cell? bd = some (.int .u8 1) := Ext.load hE1 hc0
          have HGB := getb01 A2 r (c1 - 1) W1 (Hrd2.out _ (HRw.out.below (HI.out.bel.trans (hE1.mono HI.out.bel.size)))) (by omega) (by omega) Hget.out
          have G1 := Lib.hid g1
          have HE1 := Lib.hid hE1
          have HW1 := Lib.hid hW1
          have Hs1 := Lib.hid hs1
          clear ht ht1 hone g1 hE1 hW1 hs1
          go_wp2_with (first | (rw [← HW1.out]; refine wpList_sliceL (by rfl) (.tmp 25) _ 33 rfl elemB (some bd) (r.length + 1) c1 rfl 1 rfl (by omega) A2 HA2.out r.length (c1 - 1) (by omega) rfl ?_) | (go_at_call 40; refine HGB.mono ?_; rintro e2 w2 ⟨A3, c3, rfl, hr3, hc3, ho3, hb2⟩; refine Hid.out ?_))
          have hx2 : Ext wr w2 := Ext.tr HE1.out hb2
          have hxd : Ext wr w2.drew := Ext.tr hx2 (Ext.drew w2)
          have g2 : w2.drew.heap[wr.heap.size]? = some (.cells #[.bool true, .slice none 0 0, .slice none 0 0] 50 (0, 0)) := (hb2.block _ (lt_of_heap G1.out)).trans G1.out
          have G2 := Lib.hid g2
          have Ho3 := Lib.hid ho3
          have HNo : Hid (Below w.heap.size w w2.drew) := HI.out.bel.trans (hxd.mono HI.out.bel.size)
          have hkey := ref_key A3 k c3 w2.drew hkl
          clear hr3 g2 ho3 hb2 HGB
          refine Lib.hid ?_
          by_cases hx0 : x = 0
          · subst hx0
            have hyb : ((0 : Nat) : Int) = 0 := rfl
            by_cases hkk : 1 ≤ k.length ∧ k.length ≤ 24
            · rw [show decide (1 ≤ k.length ∧ k.length ≤ 24) = true from decide_eq_true hkk] at hkey
              have Hkk := Lib.hid hkk
              have Hbars : Hid (Opn.one (t :: r) = none ∨ ∃ q n, Opn.one (t :: r) = some (q, n) ∧ q.key = k) := by
                show _ ∨ _
                exact .inr ⟨_, _, by rw [HO.out, if_neg (by simp [hkk])], rfl⟩
              clear hkk
              by_cases hL0 : L = []
              · subst hL0
                have Hbar : Hid (Opn.bars (([] : List OpV).map OpV.x) ⟨false, k, []⟩ = false) := rfl
                go_wp2_with fail
                refine rg_start (by kernel_rfl) ?_
                refine rg_take 0 rfl (by kernel_rfl) (by kernel_rfl) (by kernel_rfl) (fun _ _ _ _ h => h) (by rfl) ⟨_, fun w' hx => by (go_simp <;> with_reducible rfl), ?_⟩
                simp only [Act.put, List.setIfInBounds_toArray, List.set_cons_zero, List.set_cons_succ]
                refine rg_take 1 rfl (by kernel_rfl) (by kernel_rfl) (by kernel_rfl) (fun _ _ _ _ h => h) (by rfl) ⟨.bool false, fun w' hx => by (go_simp <;> with_reducible rfl), ?_⟩
                simp only [Act.put, List.setIfInBounds_toArray, List.set_cons_zero, List.set_cons_succ]
                refine rg_take 2 rfl (by kernel_rfl) (by kernel_rfl) (by kernel_rfl) (fun _ _ _ _ h => h) (by rfl) ⟨_, fun w' hx => by (go_simp <;> with_reducible rfl), ?_⟩
                simp only [Act.put, List.setIfInBounds_toArray, List.set_cons_zero, List.set_cons_succ]
                refine rg_take 3 rfl (by kernel_rfl) (by kernel_rfl) (by kernel_rfl) (fun _ _ _ _ h => h) (by rfl) ⟨_, fun w' hx => by (go_simp <;> with_reducible rfl), ?_⟩
                simp only [Act.put, List.setIfInBounds_toArray, List.set_cons_zero, List.set_cons_succ]
                refine rg_call 4 hkey rfl (by kernel_rfl) (by rfl) (by go_simp) ?_
                rintro e w' ⟨rfl, rfl⟩
                refine ⟨_, rfl, Ext.refl _, ?_⟩
                simp only [Act.put, List.setIfInBounds_toArray, List.set_cons_zero, List.set_cons_succ]
                refine rg_take 5 rfl (by kernel_rfl) (by kernel_rfl) (by kernel_rfl) (fun _ _ _ _ h => h) (by rfl) ⟨_, fun w' hx => by (go_simp <;> with_reducible rfl), ?_⟩   -- t36 := unOp not 4 t35
                simp only [Act.put, List.setIfInBounds_toArray, List.set_cons_zero, List.set_cons_succ]
                refine rg_take 6 rfl (by kernel_rfl) (by kernel_rfl) (by kernel_rfl) (fun _ _ _ _ h => h) (by rfl) ⟨_, fun w' hx => by (go_simp <;> with_reducible rfl), ?_⟩
                simp only [Act.put, List.setIfInBounds_toArray, List.set_cons_zero, List.set_cons_succ]
                refine rg_take 7 rfl (by kernel_rfl) (by kernel_rfl) (by kernel_rfl) (fun _ _ _ _ h => h) (by rfl) ⟨_, fun w' hx => by (go_simp <;> with_reducible rfl), ?_⟩
                simp only [Act.put, List.setIfInBounds_toArray, List.set_cons_zero, List.set_cons_succ]
                refine rg_take 8 rfl (by kernel_rfl) (by kernel_rfl) (by kernel_rfl) (fun _ _ _ _ h => h) (by rfl) ⟨_, fun w' hx => by (go_simp <;> with_reducible rfl), ?_⟩
                simp only [Act.put, List.setIfInBounds_toArray, List.set_cons_zero, List.set_cons_succ]
                refine rg_take 9 rfl (by kernel_rfl) (by kernel_rfl) (by kernel_rfl) (fun _ _ _ _ h => h) (by rfl) ⟨_, fun w' hx => by (go_simp <;> with_reducible rfl), ?_⟩   -- t40 := len(t39)
                simp only [Act.put, List.setIfInBounds_toArray, List.set_cons_zero, List.set_cons_succ]
                refine rg_take 10 rfl (by kernel_rfl) (by kernel_rfl) (by kernel_rfl) (fun _ _ _ _ h => h) (by rfl) ⟨_, fun w' hx => by (go_simp <;> with_reducible rfl), ?_⟩   -- t41 := binOp gtr 3 t40 0:i64 3
                simp only [Act.put, List.setIfInBounds_toArray, List.set_cons_zero, List.set_cons_succ]
                refine rg_take 11 rfl (by kernel_rfl) (by kernel_rfl) (by kernel_rfl) (fun _ _ _ _ h => h) (by rfl) ⟨_, fun w' hx => by (go_simp <;> with_reducible rfl), ?_⟩
                simp only [Act.put, List.setIfInBounds_toArray, List.set_cons_zero, List.set_cons_succ]
                refine rg_skip 12 rfl (by kernel_rfl) (by kernel_rfl) (by kernel_rfl) (fun _ _ _ _ h => h) (by rfl) ?_
                simp only [Act.put, List.setIfInBounds_toArray, List.set_cons_zero, List.set_cons_succ]
                refine rg_skip 13 rfl (by kernel_rfl) (by kernel_rfl) (by kernel_rfl) (fun _ _ _ _ h => h) (by rfl) ?_
                simp only [Act.put, List.setIfInBounds_toArray, List.set_cons_zero, List.set_cons_succ]
                refine rg_skip 14 rfl (by kernel_rfl) (by kernel_rfl) (by kernel_rfl) (fun _ _ _ _ h => h) (by rfl) ?_
                simp only [Act.put, List.setIfInBounds_toArray, List.set_cons_zero, List.set_cons_succ]
                refine rg_skip 15 rfl (by kernel_rfl) (by kernel_rfl) (by kernel_rfl) (fun _ _ _ _ h => h) (by rfl) ?_
                simp only [Act.put, List.setIfInBounds_toArray, List.set_cons_zero, List.set_cons_succ]
                refine rg_skip 16 rfl (by kernel_rfl) (by kernel_rfl) (by kernel_rfl) (fun _ _ _ _ h => h) (by rfl) ?_
                simp only [Act.put, List.setIfInBounds_toArray, List.set_cons_zero, List.set_cons_succ]
                refine rg_skip 17 rfl (by kernel_rfl) (by kernel_rfl) (by kernel_rfl) (fun _ _ _ _ h => h) (by rfl) ?_
                simp only [Act.put, List.setIfInBounds_toArray, List.set_cons_zero, List.set_cons_succ]
                refine rg_skip 18 rfl (by kernel_rfl) (by kernel_rfl) (by kernel_rfl) (fun _ _ _ _ h => h) (by rfl) ?_
                simp only [Act.put, List.setIfInBounds_toArray, List.set_cons_zero, List.set_cons_succ]
                refine rg_skip 19 rfl (by kernel_rfl) (by kernel_rfl) (by kernel_rfl) (fun _ _ _ _ h => h) (by rfl) ?_
                simp only [Act.put, List.setIfInBounds_toArray, List.set_cons_zero, List.set_cons_succ]
                refine rg_skip 20 rfl (by kernel_rfl) (by kernel_rfl) (by kernel_rfl) (fun _ _ _ _ h => h) (by rfl) ?_
                simp only [Act.put, List.setIfInBounds_toArray, List.set_cons_zero, List.set_cons_succ]
                refine rg_skip 21 rfl (by kernel_rfl) (by kernel_rfl) (by kernel_rfl) (fun _ _ _ _ h => h) (by rfl) ?_
                simp only [Act.put, List.setIfInBounds_toArray, List.set_cons_zero, List.set_cons_succ]
                refine rg_skip 22 rfl (by kernel_rfl) (by kernel_rfl) (by kernel_rfl) (fun _ _ _ _ h => h) (by rfl) ?_
                simp only [Act.put, List.setIfInBounds_toArray, List.set_cons_zero, List.set_cons_succ]
                refine rg_take 23 rfl (by kernel_rfl) (by kernel_rfl) (by kernel_rfl) (fun _ _ _ _ h => h) (by rfl) ⟨_, fun w' hx => by (go_simp <;> with_reducible rfl), ?_⟩
                simp only [Act.put, List.setIfInBounds_toArray, List.set_cons_zero, List.set_cons_succ]
                refine rg_take 24 rfl (by kernel_rfl) (by kernel_rfl) (by kernel_rfl) (fun _ _ _ _ h => h) (by rfl) ⟨_, fun w' hx => by (go_simp <;> with_reducible rfl), ?_⟩
                simp only [Act.put, List.setIfInBounds_toArray, List.set_cons_zero, List.set_cons_succ]
                refine rg_done (by kernel_rfl) ?_
                clear hkey
                obtain ⟨A5, hA5⟩ : ∃ A5, A5 = (if c1 = 1 + n then some bd else (some bd).map (·.add ((1 + n) * 1))) := ⟨_, rfl⟩
                have hrd5 : ∀ W, RdB W (some bd) (t :: r) → RdB W A5 ((t :: r).drop (1 + n)) := fun W h => h.from_ (k := 1 + n) (by simp; omega) (by simpa using hcp) hA5
                obtain ⟨m5, hm5⟩ : ∃ m5, m5 = r.length + 1 - (1 + n) := ⟨_, rfl⟩
                have h5l : ((t :: r).drop (1 + n)).length = m5 := by rw [List.length_drop, List.length_cons, hm5]
                obtain ⟨W3, hW3⟩ : ∃ W3, W3 = w2.drew.setRow wr.heap.size #[.bool true, .slice A3 k.length c3, .slice none 0 0] := ⟨_, rfl⟩
                have g3 : W3.heap[wr.heap.size]? = some (.cells #[.bool true, .slice A3 k.length c3, .slice none 0 0] 50 (0, 0)) := by rw [hW3]; exact setRow_heap _ _ _ _ _ _ G2.out
                have hE3 : Ext wr W3 := by rw [hW3]; exact ext_rowD hxd (Nat.le_refl _) _
                have hkA : Own W3 (wr.heap.size + 1) 5 1 A3 k.length c3 (bvs k) := by
                  rw [hW3]
                  refine own_setRow ?_ (by omega) _
                  have h9 := Ho3.out.below (Ext.drew w2)
                  rw [Hs1.out] at h9
                  exact h9
                have hc30 : W3.cell? ⟨wr.heap.size, 0, none⟩ = some (.bool true) := by rw [cell_of_row _ _ _ _ _ _ g3]; rfl
                have w1n : IntKind.i64.wrap (1 + (n : Int)) = ((1 + n : Nat) : Int) := by rw [IntKind.wrap_i64]; omega
                have HA5 := Lib.hid hA5
                have Hrd5 := Lib.hid hrd5
                have Hm5 := Lib.hid hm5
                have H5l := Lib.hid h5l
                have HW3 := Lib.hid hW3
                have G3 := Lib.hid g3
                have HE3 := Lib.hid hE3
                have HKA := Lib.hid hkA
                clear hA5 hrd5 hm5 h5l hW3 g3 hE3 hkA
                go_wp2_with (first | (refine wpList_store_at (by rfl) 33 (.tmp 57) (.tmp 56) rfl ⟨wr.heap.size, 1, none⟩ rfl wr.heap.size 1 rfl (.slice A3 k.length c3) rfl #[.slice A3 k.length c3] rfl _ 50 G2.out (by kernel_rfl) (by simp) (by simp [Value.oneCell']) #[.bool true, .slice A3 k.length c3, .slice none 0 0] rfl ?_; rw [← HW3.out]) | (refine wpList_sliceL (by rfl) (.tmp 58) (.tmp 60) 33 rfl elemB (some bd) (r.length + 1) c1 rfl (1 + n) rfl (by omega) A5 HA5.out m5 (c1 - (1 + n)) Hm5.out rfl ?_; refine Hid.out ?_))
                refine Lib.hid ?_
                obtain ⟨q, hq⟩ : ∃ q : OpV, q = ⟨A3, c3, none, 0, ⟨true, k, []⟩⟩ := ⟨_, rfl⟩
                have hqc : (#[.bool true, .slice A3 k.length c3, .slice none 0 0] : Array Value) = q.cells := by rw [hq]; rfl
                have gq : W3.heap[wr.heap.size]? = some (.cells q.cells 50 (0, 0)) := by rw [← hqc]; exact G3.out
                have hqa : q.At w.heap.size W3 := by
                  have := HI.out.bel.size
                  rw [hq]; exact ⟨⟨HKA.out.rd', RdB.nil_ _ _, HKA.out.nc, Nat.zero_le _⟩, HKA.out.far (by omega), fun h => absurd rfl h⟩
                have hone : Opn.one (t :: r) = some (q.x, 1 + n) := by rw [HO.out, if_neg (by simp [Hkk.out])]; rw [hq]
                have hbq : Opn.bars (([] : List OpV).map OpV.x) q.x = false := by have := Hbar.out; unfold Opn.bars at this ⊢; rw [hq]; exact this
                have hcq : ((t :: r).drop (1 + n)).length ≤ c1 - (1 + n) := by rw [H5l.out, Hm5.out]; omega
                have hEv : Ext wr (W3.alloc (.cells q.cells 50)) := Ext.tr HE3.out (Ext.alloc _ _)
                have hown5 := HI.out.own.below hEv
                have hrdq := (RdO.one W3 50 q hqa.i).rd
                have hsz5 : w.heap.size ≤ (W3.alloc (.cells q.cells 50)).heap.size := Nat.le_trans HI.out.bel.size hEv.size
                have hL5 : ([] : List OpV).length ≤ 500000 := by have := HI.out.tot; simp only [List.length_cons] at this; omega
                have Gq := Lib.hid gq
                have Hown5 := Lib.hid hown5
                have Hrdq := Lib.hid hrdq
                have Hqa := Lib.hid hqa
                have Hsz5 := Lib.hid hsz5
                have Hone := Lib.hid hone
                have Hbq := Lib.hid hbq
                have Hcq := Lib.hid hcq
                clear gq hown5 hrdq hqa hsz5 hone hbq hcq hcp htot hq hqc
                go_wp2_with (first | (refine wpList_load_rowG (by rfl) 50 (.tmp 5) rfl wr.heap.size rfl 50 q.cells (0, 0) _ Gq.out Try.underlying50 rfl (oinfo _) ?_) | (refine wpList_buildOne (by rfl) 23 (.tmp 84) rfl elemO q.cells rfl rfl (by omega) ?_; at_builtin; refine wpList_app rfl (.tmp 83) (.tmp 85) 23 rfl elemO w.heap.size A' ([] : List OpV).length c' (ocs ([] : List OpV)) rfl (some ⟨W3.heap.size, 0, none⟩) 1 1 (ocs [q]) rfl (([] : List OpV).length + 1) rfl (ocs ([] ++ [q])) (ocs_app _ _) Hown5.out Hrdq.out (ocs_one_cell _) (by omega) (by omega) Hsz5.out ?_; intro D2 c4 w4 ho4 hg4 hr4))
                go_roundw
                case rel =>
                  exact ⟨(t :: r).drop (1 + n), A5, c1 - (1 + n), [] ++ [q], D2, c4, f - 1, by rw [H5l.out], by rw [List.length_append]; rfl, HI.out.push (by simp) Hone.out Hbq.out Hrd5.out Hcq.out (Hqa.out.ext (Ext.alloc _ _)) hEv hg4 ho4⟩
                case measure =>
                  have h8 := (Opn.one_some Hone.out).2.2
                  have h9 := H5l.out
                  simp only [lenV, List.length_drop, List.length_cons] at h8 h9 ⊢
                  omega
              · have hk : L.length - 1 < L.length := by have := List.length_pos_iff.2 hL0; omega
                have hbars : Opn.bars (L.map OpV.x) ⟨false, k, []⟩ = !ltB (L[L.length - 1]).x.key k := by
                  unfold Opn.bars
                  rw [List.getLast?_eq_getElem?]
                  simp [List.getElem?_eq_getElem hk]
                obtain ⟨j, hjl⟩ : ∃ j, L.length = j + 1 := ⟨L.length - 1, by omega⟩
                have hrd0 : RdO wr A' L := ⟨HI.out.own.rd, fun e he => (HI.out.ins e he).i⟩
                have hjj : j < L.length := by omega
                obtain ⟨ad, hA1, hcell, hin⟩ := hrd0.at_ hjj
                subst hA1
                have hLk : L[L.length - 1] = L[j] := by congr 1; omega
                rw [hLk] at hbars
                obtain ⟨y, hy⟩ : ∃ y, L[j] = y := ⟨_, rfl⟩
                rw [hy] at hbars hcell hin
                have hkc : wr.cell? ⟨(ad.add (j * 3)).block, (ad.add (j * 3)).off + 1, none⟩ = some (.slice y.ka y.x.key.length y.kc) := hcell 1 _ rfl
                have ik : (0 : Int) ≤ (j : Int) := by omega
                have ik2 : (j : Int) < (L.length : Int) := by omega
                have hw : IntKind.i64.wrap ((L.length : Int) - 1) = (j : Int) := by rw [IntKind.wrap_i64]; omega
                have hpos : decide (0 < L.length) = true := by simp; omega
                have hkc1 := Ext.load hxd hkc
                have hyk := hin.kr.below hxd
                have hkk2 : RdB w2.drew A3 k := (Ho3.out.below (Ext.drew w2)).rd'
                clear hrd0 hcell hin hLk hL0 hk hjl hkc hy
                cases hlt : ltB y.x.key k with
                | false =>
                  rw [hlt] at hbars
                  have hq : (!(ltB y.x.key k)) = true := by rw [hlt]; rfl
                  have Hbar := Lib.hid (HBAR.out k Hbars.out hbars)
                  clear hlt hbars
                  go_wp2_with fail
                  refine rg_start (by kernel_rfl) ?_
                  refine rg_take 0 rfl (by kernel_rfl) (by kernel_rfl) (by kernel_rfl) (fun _ _ _ _ h => h) (by rfl) ⟨_, fun w' hx => by (go_simp <;> with_reducible rfl), ?_⟩
                  simp only [Act.put, List.setIfInBounds_toArray, List.set_cons_zero, List.set_cons_succ]
                  refine rg_take 1 rfl (by kernel_rfl) (by kernel_rfl) (by kernel_rfl) (fun _ _ _ _ h => h) (by rfl) ⟨.bool false, fun w' hx => by (go_simp <;> with_reducible rfl), ?_⟩
                  simp only [Act.put, List.setIfInBounds_toArray, List.set_cons_zero, List.set_cons_succ]
                  refine rg_take 2 rfl (by kernel_rfl) (by kernel_rfl) (by kernel_rfl) (fun _ _ _ _ h => h) (by rfl) ⟨_, fun w' hx => by (go_simp <;> with_reducible rfl), ?_⟩
                  simp only [Act.put, List.setIfInBounds_toArray, List.set_cons_zero, List.set_cons_succ]
                  refine rg_take 3 rfl (by kernel_rfl) (by kernel_rfl) (by kernel_rfl) (fun _ _ _ _ h => h) (by rfl) ⟨_, fun w' hx => by (go_simp <;> with_reducible rfl), ?_⟩
                  simp only [Act.put, List.setIfInBounds_toArray, List.set_cons_zero, List.set_cons_succ]
                  refine rg_call 4 hkey rfl (by kernel_rfl) (by rfl) (by go_simp) ?_
                  rintro e w' ⟨rfl, rfl⟩
                  refine ⟨_, rfl, Ext.refl _, ?_⟩
                  simp only [Act.put, List.setIfInBounds_toArray, List.set_cons_zero, List.set_cons_succ]
                  refine rg_take 5 rfl (by kernel_rfl) (by kernel_rfl) (by kernel_rfl) (fun _ _ _ _ h => h) (by rfl) ⟨_, fun w' hx => by (go_simp <;> with_reducible rfl), ?_⟩   -- t36 := unOp not 4 t35
                  simp only [Act.put, List.setIfInBounds_toArray, List.set_cons_zero, List.set_cons_succ]
                  refine rg_take 6 rfl (by kernel_rfl) (by kernel_rfl) (by kernel_rfl) (fun _ _ _ _ h => h) (by rfl) ⟨_, fun w' hx => by (go_simp <;> with_reducible rfl), ?_⟩
                  simp only [Act.put, List.setIfInBounds_toArray, List.set_cons_zero, List.set_cons_succ]
                  refine rg_take 7 rfl (by kernel_rfl) (by kernel_rfl) (by kernel_rfl) (fun _ _ _ _ h => h) (by rfl) ⟨_, fun w' hx => by (go_simp <;> with_reducible rfl), ?_⟩
                  simp only [Act.put, List.setIfInBounds_toArray, List.set_cons_zero, List.set_cons_succ]
                  refine rg_take 8 rfl (by kernel_rfl) (by kernel_rfl) (by kernel_rfl) (fun _ _ _ _ h => h) (by rfl) ⟨_, fun w' hx => by (go_simp <;> with_reducible rfl), ?_⟩
                  simp only [Act.put, List.setIfInBounds_toArray, List.set_cons_zero, List.set_cons_succ]
                  refine rg_take 9 rfl (by kernel_rfl) (by kernel_rfl) (by kernel_rfl) (fun _ _ _ _ h => h) (by rfl) ⟨_, fun w' hx => by (go_simp <;> with_reducible rfl), ?_⟩   -- t40 := len(t39)
                  simp only [Act.put, List.setIfInBounds_toArray, List.set_cons_zero, List.set_cons_succ]
                  refine rg_take 10 rfl (by kernel_rfl) (by kernel_rfl) (by kernel_rfl) (fun _ _ _ _ h => h) (by rfl) ⟨.bool true, fun w' hx => by (go_simp <;> with_reducible rfl), ?_⟩
                  simp only [Act.put, List.setIfInBounds_toArray, List.set_cons_zero, List.set_cons_succ]
                  refine rg_take 11 rfl (by kernel_rfl) (by kernel_rfl) (by kernel_rfl) (fun _ _ _ _ h => h) (by rfl) ⟨_, fun w' hx => by (go_simp <;> with_reducible rfl), ?_⟩
                  simp only [Act.put, List.setIfInBounds_toArray, List.set_cons_zero, List.set_cons_succ]
                  refine rg_take 12 rfl (by kernel_rfl) (by kernel_rfl) (by kernel_rfl) (fun _ _ _ _ h => h) (by rfl) ⟨_, fun w' hx => by (go_simp <;> with_reducible rfl), ?_⟩
                  simp only [Act.put, List.setIfInBounds_toArray, List.set_cons_zero, List.set_cons_succ]
                  refine rg_take 13 rfl (by kernel_rfl) (by kernel_rfl) (by kernel_rfl) (fun _ _ _ _ h => h) (by rfl) ⟨_, fun w' hx => by (go_simp <;> with_reducible rfl), ?_⟩
                  simp only [Act.put, List.setIfInBounds_toArray, List.set_cons_zero, List.set_cons_succ]
                  refine rg_take 14 rfl (by kernel_rfl) (by kernel_rfl) (by kernel_rfl) (fun _ _ _ _ h => h) (by rfl) ⟨_, fun w' hx => by (go_simp <;> with_reducible rfl), ?_⟩
                  simp only [Act.put, List.setIfInBounds_toArray, List.set_cons_zero, List.set_cons_succ]
                  refine rg_take 15 rfl (by kernel_rfl) (by kernel_rfl) (by kernel_rfl) (fun _ _ _ _ h => h) (by rfl) ⟨.int .i64 (j : Int), fun w' hx => by (go_simp <;> with_reducible rfl), ?_⟩
                  simp only [Act.put, List.setIfInBounds_toArray, List.set_cons_zero, List.set_cons_succ]
                  refine rg_take 16 rfl (by kernel_rfl) (by kernel_rfl) (by kernel_rfl) (fun _ _ _ _ h => h) (by rfl) ⟨_, fun w' hx => by (go_simp <;> with_reducible rfl), ?_⟩   -- t47 := indexAddr 23 t43 t46
                  simp only [Act.put, List.setIfInBounds_toArray, List.set_cons_zero, List.set_cons_succ]
                  refine rg_take 17 rfl (by kernel_rfl) (by kernel_rfl) (by kernel_rfl) (fun _ _ _ _ h => h) (by rfl) ⟨_, fun w' hx => by (go_simp <;> with_reducible rfl), ?_⟩   -- t48 := fieldAddr 50 t47 1
                  simp only [Act.put, List.setIfInBounds_toArray, List.set_cons_zero, List.set_cons_succ]
                  refine rg_take 18 rfl (by kernel_rfl) (by kernel_rfl) (by kernel_rfl) (fun _ _ _ _ h => h) (by rfl) ⟨_, fun w' hx => by have hcx := hx.load hkc1; (go_simp <;> with_reducible rfl), ?_⟩
                  simp only [Act.put, List.setIfInBounds_toArray, List.set_cons_zero, List.set_cons_succ]
                  refine rg_take 19 rfl (by kernel_rfl) (by kernel_rfl) (by kernel_rfl) (fun _ _ _ _ h => h) (by rfl) ⟨.string ⟨(y.x.key).toArray⟩, fun w' hx => ex_str rfl rfl Try.underlying33 Try.underlying5 Try.underlying9 (hyk.below hx) rfl, ?_⟩
                  simp only [Act.put, List.setIfInBounds_toArray, List.set_cons_zero, List.set_cons_succ]
                  refine rg_take 20 rfl (by kernel_rfl) (by kernel_rfl) (by kernel_rfl) (fun _ _ _ _ h => h) (by rfl) ⟨_, fun w' hx => by (go_simp <;> with_reducible rfl), ?_⟩
                  simp only [Act.put, List.setIfInBounds_toArray, List.set_cons_zero, List.set_cons_succ]
                  refine rg_take 21 rfl (by kernel_rfl) (by kernel_rfl) (by kernel_rfl) (fun _ _ _ _ h => h) (by rfl) ⟨.string ⟨(k).toArray⟩, fun w' hx => ex_str rfl rfl Try.underlying33 Try.underlying5 Try.underlying9 (hkk2.below hx) rfl, ?_⟩
                  simp only [Act.put, List.setIfInBounds_toArray, List.set_cons_zero, List.set_cons_succ]
                  refine rg_take 22 rfl (by kernel_rfl) (by kernel_rfl) (by kernel_rfl) (fun _ _ _ _ h => h) (by rfl) ⟨.bool (!(ltB y.x.key k)), fun w' hx => ex_geqS rfl rfl rfl, ?_⟩
                  rw [hq]
                  simp only [Act.put, List.setIfInBounds_toArray, List.set_cons_zero, List.set_cons_succ]
                  refine rg_take 23 rfl (by kernel_rfl) (by kernel_rfl) (by kernel_rfl) (fun _ _ _ _ h => h) (by rfl) ⟨_, fun w' hx => by (go_simp <;> with_reducible rfl), ?_⟩
                  simp only [Act.put, List.setIfInBounds_toArray, List.set_cons_zero, List.set_cons_succ]
                  refine rg_take 24 rfl (by kernel_rfl) (by kernel_rfl) (by kernel_rfl) (fun _ _ _ _ h => h) (by rfl) ⟨_, fun w' hx => by (go_simp <;> with_reducible rfl), ?_⟩
                  simp only [Act.put, List.setIfInBounds_toArray, List.set_cons_zero, List.set_cons_succ]
                  refine rg_done (by kernel_rfl) ?_
                  go_wp2_with fail
                  refine bodyPost_ret (results_tmp2 rfl _ _ _) rfl ?_
                  exact .inr ⟨Hbar.out, rfl, HNo.out⟩
                | true =>
                  rw [hlt] at hbars
                  have hq : (!(ltB y.x.key k)) = false := by rw [hlt]; rfl
                  have Hbar : Hid (Opn.bars (L.map OpV.x) ⟨false, k, []⟩ = false) := hbars
                  clear hlt hbars
                  go_wp2_with fail
                  refine rg_start (by kernel_rfl) ?_
                  refine rg_take 0 rfl (by kernel_rfl) (by kernel_rfl) (by kernel_rfl) (fun _ _ _ _ h => h) (by rfl) ⟨_, fun w' hx => by (go_simp <;> with_reducible rfl), ?_⟩
                  simp only [Act.put, List.setIfInBounds_toArray, List.set_cons_zero, List.set_cons_succ]
                  refine rg_take 1 rfl (by kernel_rfl) (by kernel_rfl) (by kernel_rfl) (fun _ _ _ _ h => h) (by rfl) ⟨.bool false, fun w' hx => by (go_simp <;> with_reducible rfl), ?_⟩
                  simp only [Act.put, List.setIfInBounds_toArray, List.set_cons_zero, List.set_cons_succ]
                  refine rg_take 2 rfl (by kernel_rfl) (by kernel_rfl) (by kernel_rfl) (fun _ _ _ _ h => h) (by rfl) ⟨_, fun w' hx => by (go_simp <;> with_reducible rfl), ?_⟩
                  simp only [Act.put, List.setIfInBounds_toArray, List.set_cons_zero, List.set_cons_succ]
                  refine rg_take 3 rfl (by kernel_rfl) (by kernel_rfl) (by kernel_rfl) (fun _ _ _ _ h => h) (by rfl) ⟨_, fun w' hx => by (go_simp <;> with_reducible rfl), ?_⟩
                  simp only [Act.put, List.setIfInBounds_toArray, List.set_cons_zero, List.set_cons_succ]
                  refine rg_call 4 hkey rfl (by kernel_rfl) (by rfl) (by go_simp) ?_
                  rintro e w' ⟨rfl, rfl⟩
                  refine ⟨_, rfl, Ext.refl _, ?_⟩
                  simp only [Act.put, List.setIfInBounds_toArray, List.set_cons_zero, List.set_cons_succ]
                  refine rg_take 5 rfl (by kernel_rfl) (by kernel_rfl) (by kernel_rfl) (fun _ _ _ _ h => h) (by rfl) ⟨_, fun w' hx => by (go_simp <;> with_reducible rfl), ?_⟩   -- t36 := unOp not 4 t35
                  simp only [Act.put, List.setIfInBounds_toArray, List.set_cons_zero, List.set_cons_succ]
                  refine rg_take 6 rfl (by kernel_rfl) (by kernel_rfl) (by kernel_rfl) (fun _ _ _ _ h => h) (by rfl) ⟨_, fun w' hx => by (go_simp <;> with_reducible rfl), ?_⟩
                  simp only [Act.put, List.setIfInBounds_toArray, List.set_cons_zero, List.set_cons_succ]
                  refine rg_take 7 rfl (by kernel_rfl) (by kernel_rfl) (by kernel_rfl) (fun _ _ _ _ h => h) (by rfl) ⟨_, fun w' hx => by (go_simp <;> with_reducible rfl), ?_⟩
                  simp only [Act.put, List.setIfInBounds_toArray, List.set_cons_zero, List.set_cons_succ]
                  refine rg_take 8 rfl (by kernel_rfl) (by kernel_rfl) (by kernel_rfl) (fun _ _ _ _ h => h) (by rfl) ⟨_, fun w' hx => by (go_simp <;> with_reducible rfl), ?_⟩
                  simp only [Act.put, List.setIfInBounds_toArray, List.set_cons_zero, List.set_cons_succ]
                  refine rg_take 9 rfl (by kernel_rfl) (by kernel_rfl) (by kernel_rfl) (fun _ _ _ _ h => h) (by rfl) ⟨_, fun w' hx => by (go_simp <;> with_reducible rfl), ?_⟩   -- t40 := len(t39)
                  simp only [Act.put, List.setIfInBounds_toArray, List.set_cons_zero, List.set_cons_succ]
                  refine rg_take 10 rfl (by kernel_rfl) (by kernel_rfl) (by kernel_rfl) (fun _ _ _ _ h => h) (by rfl) ⟨.bool true, fun w' hx => by (go_simp <;> with_reducible rfl), ?_⟩
                  simp only [Act.put, List.setIfInBounds_toArray, List.set_cons_zero, List.set_cons_succ]
                  refine rg_take 11 rfl (by kernel_rfl) (by kernel_rfl) (by kernel_rfl) (fun _ _ _ _ h => h) (by rfl) ⟨_, fun w' hx => by (go_simp <;> with_reducible rfl), ?_⟩
                  simp only [Act.put, List.setIfInBounds_toArray, List.set_cons_zero, List.set_cons_succ]
                  refine rg_take 12 rfl (by kernel_rfl) (by kernel_rfl) (by kernel_rfl) (fun _ _ _ _ h => h) (by rfl) ⟨_, fun w' hx => by (go_simp <;> with_reducible rfl), ?_⟩
                  simp only [Act.put, List.setIfInBounds_toArray, List.set_cons_zero, List.set_cons_succ]
                  refine rg_take 13 rfl (by kernel_rfl) (by kernel_rfl) (by kernel_rfl) (fun _ _ _ _ h => h) (by rfl) ⟨_, fun w' hx => by (go_simp <;> with_reducible rfl), ?_⟩
                  simp only [Act.put, List.setIfInBounds_toArray, List.set_cons_zero, List.set_cons_succ]
                  refine rg_take 14 rfl (by kernel_rfl) (by kernel_rfl) (by kernel_rfl) (fun _ _ _ _ h => h) (by rfl) ⟨_, fun w' hx => by (go_simp <;> with_reducible rfl), ?_⟩
                  simp only [Act.put, List.setIfInBounds_toArray, List.set_cons_zero, List.set_cons_succ]
                  refine rg_take 15 rfl (by kernel_rfl) (by kernel_rfl) (by kernel_rfl) (fun _ _ _ _ h => h) (by rfl) ⟨.int .i64 (j : Int), fun w' hx => by (go_simp <;> with_reducible rfl), ?_⟩
                  simp only [Act.put, List.setIfInBounds_toArray, List.set_cons_zero, List.set_cons_succ]
                  refine rg_take 16 rfl (by kernel_rfl) (by kernel_rfl) (by kernel_rfl) (fun _ _ _ _ h => h) (by rfl) ⟨_, fun w' hx => by (go_simp <;> with_reducible rfl), ?_⟩   -- t47 := indexAddr 23 t43 t46
                  simp only [Act.put, List.setIfInBounds_toArray, List.set_cons_zero, List.set_cons_succ]
                  refine rg_take 17 rfl (by kernel_rfl) (by kernel_rfl) (by kernel_rfl) (fun _ _ _ _ h => h) (by rfl) ⟨_, fun w' hx => by (go_simp <;> with_reducible rfl), ?_⟩   -- t48 := fieldAddr 50 t47 1
                  simp only [Act.put, List.setIfInBounds_toArray, List.set_cons_zero, List.set_cons_succ]
                  refine rg_take 18 rfl (by kernel_rfl) (by kernel_rfl) (by kernel_rfl) (fun _ _ _ _ h => h) (by rfl) ⟨_, fun w' hx => by have hcx := hx.load hkc1; (go_simp <;> with_reducible rfl), ?_⟩
                  simp only [Act.put, List.setIfInBounds_toArray, List.set_cons_zero, List.set_cons_succ]
                  refine rg_take 19 rfl (by kernel_rfl) (by kernel_rfl) (by kernel_rfl) (fun _ _ _ _ h => h) (by rfl) ⟨.string ⟨(y.x.key).toArray⟩, fun w' hx => ex_str rfl rfl Try.underlying33 Try.underlying5 Try.underlying9 (hyk.below hx) rfl, ?_⟩
                  simp only [Act.put, List.setIfInBounds_toArray, List.set_cons_zero, List.set_cons_succ]
                  refine rg_take 20 rfl (by kernel_rfl) (by kernel_rfl) (by kernel_rfl) (fun _ _ _ _ h => h) (by rfl) ⟨_, fun w' hx => by (go_simp <;> with_reducible rfl), ?_⟩
                  simp only [Act.put, List.setIfInBounds_toArray, List.set_cons_zero, List.set_cons_succ]
                  refine rg_take 21 rfl (by kernel_rfl) (by kernel_rfl) (by kernel_rfl) (fun _ _ _ _ h => h) (by rfl) ⟨.string ⟨(k).toArray⟩, fun w' hx => ex_str rfl rfl Try.underlying33 Try.underlying5 Try.underlying9 (hkk2.below hx) rfl, ?_⟩
                  simp only [Act.put, List.setIfInBounds_toArray, List.set_cons_zero, List.set_cons_succ]
                  refine rg_take 22 rfl (by kernel_rfl) (by kernel_rfl) (by kernel_rfl) (fun _ _ _ _ h => h) (by rfl) ⟨.bool (!(ltB y.x.key k)), fun w' hx => ex_geqS rfl rfl rfl, ?_⟩
                  rw [hq]
                  simp only [Act.put, List.setIfInBounds_toArray, List.set_cons_zero, List.set_cons_succ]
                  refine rg_take 23 rfl (by kernel_rfl) (by kernel_rfl) (by kernel_rfl) (fun _ _ _ _ h => h) (by rfl) ⟨_, fun w' hx => by (go_simp <;> with_reducible rfl), ?_⟩
                  simp only [Act.put, List.setIfInBounds_toArray, List.set_cons_zero, List.set_cons_succ]
                  refine rg_take 24 rfl (by kernel_rfl) (by kernel_rfl) (by kernel_rfl) (fun _ _ _ _ h => h) (by rfl) ⟨_, fun w' hx => by (go_simp <;> with_reducible rfl), ?_⟩
                  simp only [Act.put, List.setIfInBounds_toArray, List.set_cons_zero, List.set_cons_succ]
                  refine rg_done (by kernel_rfl) ?_
                  clear hkey hw hpos hkc1 hyk hkk2 hq
                  obtain ⟨A5, hA5⟩ : ∃ A5, A5 = (if c1 = 1 + n then some bd else (some bd).map (·.add ((1 + n) * 1))) := ⟨_, rfl⟩
                  have hrd5 : ∀ W, RdB W (some bd) (t :: r) → RdB W A5 ((t :: r).drop (1 + n)) := fun W h => h.from_ (k := 1 + n) (by simp; omega) (by simpa using hcp) hA5
                  obtain ⟨m5, hm5⟩ : ∃ m5, m5 = r.length + 1 - (1 + n) := ⟨_, rfl⟩
                  have h5l : ((t :: r).drop (1 + n)).length = m5 := by rw [List.length_drop, List.length_cons, hm5]
                  obtain ⟨W3, hW3⟩ : ∃ W3, W3 = w2.drew.setRow wr.heap.size #[.bool true, .slice A3 k.length c3, .slice none 0 0] := ⟨_, rfl⟩
                  have g3 : W3.heap[wr.heap.size]? = some (.cells #[.bool true, .slice A3 k.length c3, .slice none 0 0] 50 (0, 0)) := by rw [hW3]; exact setRow_heap _ _ _ _ _ _ G2.out
                  have hE3 : Ext wr W3 := by rw [hW3]; exact ext_rowD hxd (Nat.le_refl _) _
                  have hkA : Own W3 (wr.heap.size + 1) 5 1 A3 k.length c3 (bvs k) := by
                    rw [hW3]
                    refine own_setRow ?_ (by omega) _
                    have h9 := Ho3.out.below (Ext.drew w2)
                    rw [Hs1.out] at h9
                    exact h9
                  have hc30 : W3.cell? ⟨wr.heap.size, 0, none⟩ = some (.bool true) := by rw [cell_of_row _ _ _ _ _ _ g3]; rfl
                  have w1n : IntKind.i64.wrap (1 + (n : Int)) = ((1 + n : Nat) : Int) := by rw [IntKind.wrap_i64]; omega
                  have HA5 := Lib.hid hA5
                  have Hrd5 := Lib.hid hrd5
                  have Hm5 := Lib.hid hm5
                  have H5l := Lib.hid h5l
                  have HW3 := Lib.hid hW3
                  have G3 := Lib.hid g3
                  have HE3 := Lib.hid hE3
                  have HKA := Lib.hid hkA
                  clear hA5 hrd5 hm5 h5l hW3 g3 hE3 hkA
                  go_wp2_with (first | (refine wpList_store_at (by rfl) 33 (.tmp 57) (.tmp 56) rfl ⟨wr.heap.size, 1, none⟩ rfl wr.heap.size 1 rfl (.slice A3 k.length c3) rfl #[.slice A3 k.length c3] rfl _ 50 G2.out (by kernel_rfl) (by simp) (by simp [Value.oneCell']) #[.bool true, .slice A3 k.length c3, .slice none 0 0] rfl ?_; rw [← HW3.out]) | (refine wpList_sliceL (by rfl) (.tmp 58) (.tmp 60) 33 rfl elemB (some bd) (r.length + 1) c1 rfl (1 + n) rfl (by omega) A5 HA5.out m5 (c1 - (1 + n)) Hm5.out rfl ?_; refine Hid.out ?_))
                  refine Lib.hid ?_
                  obtain ⟨q, hq⟩ : ∃ q : OpV, q = ⟨A3, c3, none, 0, ⟨true, k, []⟩⟩ := ⟨_, rfl⟩
                  have hqc : (#[.bool true, .slice A3 k.length c3, .slice none 0 0] : Array Value) = q.cells := by rw [hq]; rfl
                  have gq : W3.heap[wr.heap.size]? = some (.cells q.cells 50 (0, 0)) := by rw [← hqc]; exact G3.out
                  have hqa : q.At w.heap.size W3 := by
                    have := HI.out.bel.size
                    rw [hq]; exact ⟨⟨HKA.out.rd', RdB.nil_ _ _, HKA.out.nc, Nat.zero_le _⟩, HKA.out.far (by omega), fun h => absurd rfl h⟩
                  have hone : Opn.one (t :: r) = some (q.x, 1 + n) := by rw [HO.out, if_neg (by simp [Hkk.out])]; rw [hq]
                  have hbq : Opn.bars (L.map OpV.x) q.x = false := by have := Hbar.out; unfold Opn.bars at this ⊢; rw [hq]; exact this
                  have hcq : ((t :: r).drop (1 + n)).length ≤ c1 - (1 + n) := by rw [H5l.out, Hm5.out]; omega
                  have hEv : Ext wr (W3.alloc (.cells q.cells 50)) := Ext.tr HE3.out (Ext.alloc _ _)
                  have hown5 := HI.out.own.below hEv
                  have hrdq := (RdO.one W3 50 q hqa.i).rd
                  have hsz5 : w.heap.size ≤ (W3.alloc (.cells q.cells 50)).heap.size := Nat.le_trans HI.out.bel.size hEv.size
                  have hL5 : L.length ≤ 500000 := by have := HI.out.tot; simp only [List.length_cons] at this; omega
                  have Gq := Lib.hid gq
                  have Hown5 := Lib.hid hown5
                  have Hrdq := Lib.hid hrdq
                  have Hqa := Lib.hid hqa
                  have Hsz5 := Lib.hid hsz5
                  have Hone := Lib.hid hone
                  have Hbq := Lib.hid hbq
                  have Hcq := Lib.hid hcq
                  clear gq hown5 hrdq hqa hsz5 hone hbq hcq hcp htot hq hqc
                  go_wp2_with (first | (refine wpList_load_rowG (by rfl) 50 (.tmp 5) rfl wr.heap.size rfl 50 q.cells (0, 0) _ Gq.out Try.underlying50 rfl (oinfo _) ?_) | (refine wpList_buildOne (by rfl) 23 (.tmp 84) rfl elemO q.cells rfl rfl (by omega) ?_; at_builtin; refine wpList_app rfl (.tmp 83) (.tmp 85) 23 rfl elemO w.heap.size (some ad) L.length c' (ocs L) rfl (some ⟨W3.heap.size, 0, none⟩) 1 1 (ocs [q]) rfl (L.length + 1) rfl (ocs (L ++ [q])) (ocs_app _ _) Hown5.out Hrdq.out (ocs_one_cell _) (by omega) (by omega) Hsz5.out ?_; intro D2 c4 w4 ho4 hg4 hr4))
                  go_roundw
                  case rel =>
                    exact ⟨(t :: r).drop (1 + n), A5, c1 - (1 + n), L ++ [q], D2, c4, f - 1, by rw [H5l.out], by rw [List.length_append]; rfl, HI.out.push (by simp) Hone.out Hbq.out Hrd5.out Hcq.out (Hqa.out.ext (Ext.alloc _ _)) hEv hg4 ho4⟩
                  case measure =>
                    have h8 := (Opn.one_some Hone.out).2.2
                    have h9 := H5l.out
                    simp only [lenV, List.length_drop, List.length_cons] at h8 h9 ⊢
                    omega
            · rw [show decide (1 ≤ k.length ∧ k.length ≤ 24) = false from decide_eq_false hkk] at hkey
              have Hn := Lib.hid (HNONE.out (by rw [HO.out]; exact if_pos (.inr hkk)))
              clear hkk
              go_wp2_with fail
              refine rg_start (by kernel_rfl) ?_
              refine rg_take 0 rfl (by kernel_rfl) (by kernel_rfl) (by kernel_rfl) (fun _ _ _ _ h => h) (by rfl) ⟨_, fun w' hx => by (go_simp <;> with_reducible rfl), ?_⟩
              simp only [Act.put, List.setIfInBounds_toArray, List.set_cons_zero, List.set_cons_succ]
              refine rg_take 1 rfl (by kernel_rfl) (by kernel_rfl) (by kernel_rfl) (fun _ _ _ _ h => h) (by rfl) ⟨.bool false, fun w' hx => by (go_simp <;> with_reducible rfl), ?_⟩
              simp only [Act.put, List.setIfInBounds_toArray, List.set_cons_zero, List.set_cons_succ]
              refine rg_take 2 rfl (by kernel_rfl) (by kernel_rfl) (by kernel_rfl) (fun _ _ _ _ h => h) (by rfl) ⟨_, fun w' hx => by (go_simp <;> with_reducible rfl), ?_⟩
              simp only [Act.put, List.setIfInBounds_toArray, List.set_cons_zero, List.set_cons_succ]
              refine rg_take 3 rfl (by kernel_rfl) (by kernel_rfl) (by kernel_rfl) (fun _ _ _ _ h => h) (by rfl) ⟨_, fun w' hx => by (go_simp <;> with_reducible rfl), ?_⟩
              simp only [Act.put, List.setIfInBounds_toArray, List.set_cons_zero, List.set_cons_succ]
              refine rg_call 4 hkey rfl (by kernel_rfl) (by rfl) (by go_simp) ?_
              rintro e w' ⟨rfl, rfl⟩
              refine ⟨_, rfl, Ext.refl _, ?_⟩
              simp only [Act.put, List.setIfInBounds_toArray, List.set_cons_zero, List.set_cons_succ]
              refine rg_take 5 rfl (by kernel_rfl) (by kernel_rfl) (by kernel_rfl) (fun _ _ _ _ h => h) (by rfl) ⟨_, fun w' hx => by (go_simp <;> with_reducible rfl), ?_⟩   -- t36 := unOp not 4 t35
              simp only [Act.put, List.setIfInBounds_toArray, List.set_cons_zero, List.set_cons_succ]
              refine rg_take 6 rfl (by kernel_rfl) (by kernel_rfl) (by kernel_rfl) (fun _ _ _ _ h => h) (by rfl) ⟨_, fun w' hx => by (go_simp <;> with_reducible rfl), ?_⟩
              simp only [Act.put, List.setIfInBounds_toArray, List.set_cons_zero, List.set_cons_succ]
              refine rg_take 7 rfl (by kernel_rfl) (by kernel_rfl) (by kernel_rfl) (fun _ _ _ _ h => h) (by rfl) ⟨_, fun w' hx => by (go_simp <;> with_reducible rfl), ?_⟩
              simp only [Act.put, List.setIfInBounds_toArray, List.set_cons_zero, List.set_cons_succ]
              refine rg_skip 8 rfl (by kernel_rfl) (by kernel_rfl) (by kernel_rfl) (fun _ _ _ _ h => h) (by rfl) ?_
              simp only [Act.put, List.setIfInBounds_toArray, List.set_cons_zero, List.set_cons_succ]
              refine rg_skip 9 rfl (by kernel_rfl) (by kernel_rfl) (by kernel_rfl) (fun _ _ _ _ h => h) (by rfl) ?_
              simp only [Act.put, List.setIfInBounds_toArray, List.set_cons_zero, List.set_cons_succ]
              refine rg_skip 10 rfl (by kernel_rfl) (by kernel_rfl) (by kernel_rfl) (fun _ _ _ _ h => h) (by rfl) ?_
              simp only [Act.put, List.setIfInBounds_toArray, List.set_cons_zero, List.set_cons_succ]
              refine rg_skip 11 rfl (by kernel_rfl) (by kernel_rfl) (by kernel_rfl) (fun _ _ _ _ h => h) (by rfl) ?_
              simp only [Act.put, List.setIfInBounds_toArray, List.set_cons_zero, List.set_cons_succ]
              refine rg_skip 12 rfl (by kernel_rfl) (by kernel_rfl) (by kernel_rfl) (fun _ _ _ _ h => h) (by rfl) ?_
              simp only [Act.put, List.setIfInBounds_toArray, List.set_cons_zero, List.set_cons_succ]
              refine rg_skip 13 rfl (by kernel_rfl) (by kernel_rfl) (by kernel_rfl) (fun _ _ _ _ h => h) (by rfl) ?_
              simp only [Act.put, List.setIfInBounds_toArray, List.set_cons_zero, List.set_cons_succ]
              refine rg_skip 14 rfl (by kernel_rfl) (by kernel_rfl) (by kernel_rfl) (fun _ _ _ _ h => h) (by rfl) ?_
              simp only [Act.put, List.setIfInBounds_toArray, List.set_cons_zero, List.set_cons_succ]
              refine rg_skip 15 rfl (by kernel_rfl) (by kernel_rfl) (by kernel_rfl) (fun _ _ _ _ h => h) (by rfl) ?_
              simp only [Act.put, List.setIfInBounds_toArray, List.set_cons_zero, List.set_cons_succ]
              refine rg_skip 16 rfl (by kernel_rfl) (by kernel_rfl) (by kernel_rfl) (fun _ _ _ _ h => h) (by rfl) ?_
              simp only [Act.put, List.setIfInBounds_toArray, List.set_cons_zero, List.set_cons_succ]
              refine rg_skip 17 rfl (by kernel_rfl) (by kernel_rfl) (by kernel_rfl) (fun _ _ _ _ h => h) (by rfl) ?_
              simp only [Act.put, List.setIfInBounds_toArray, List.set_cons_zero, List.set_cons_succ]
              refine rg_skip 18 rfl (by kernel_rfl) (by kernel_rfl) (by kernel_rfl) (fun _ _ _ _ h => h) (by rfl) ?_
              simp only [Act.put, List.setIfInBounds_toArray, List.set_cons_zero, List.set_cons_succ]
              refine rg_skip 19 rfl (by kernel_rfl) (by kernel_rfl) (by kernel_rfl) (fun _ _ _ _ h => h) (by rfl) ?_
              simp only [Act.put, List.setIfInBounds_toArray, List.set_cons_zero, List.set_cons_succ]
              refine rg_skip 20 rfl (by kernel_rfl) (by kernel_rfl) (by kernel_rfl) (fun _ _ _ _ h => h) (by rfl) ?_
              simp only [Act.put, List.setIfInBounds_toArray, List.set_cons_zero, List.set_cons_succ]
              refine rg_skip 21 rfl (by kernel_rfl) (by kernel_rfl) (by kernel_rfl) (fun _ _ _ _ h => h) (by rfl) ?_
              simp only [Act.put, List.setIfInBounds_toArray, List.set_cons_zero, List.set_cons_succ]
              refine rg_skip 22 rfl (by kernel_rfl) (by kernel_rfl) (by kernel_rfl) (fun _ _ _ _ h => h) (by rfl) ?_
              simp only [Act.put, List.setIfInBounds_toArray, List.set_cons_zero, List.set_cons_succ]
              refine rg_skip 23 rfl (by kernel_rfl) (by kernel_rfl) (by kernel_rfl) (fun _ _ _ _ h => h) (by rfl) ?_
              simp only [Act.put, List.setIfInBounds_toArray, List.set_cons_zero, List.set_cons_succ]
              refine rg_take 24 rfl (by kernel_rfl) (by kernel_rfl) (by kernel_rfl) (fun _ _ _ _ h => h) (by rfl) ⟨_, fun w' hx => by (go_simp <;> with_reducible rfl), ?_⟩
              simp only [Act.put, List.setIfInBounds_toArray, List.set_cons_zero, List.set_cons_succ]
              refine rg_done (by kernel_rfl) ?_
              go_wp2_with fail
              refine bodyPost_ret (results_tmp2 rfl _ _ _) rfl ?_
              exact .inr ⟨Hn.out, rfl, HNo.out⟩
          · have hb1 : ((x : Int) != 0) = true := by rw [bne_iff_ne]; omega
            have Hn := Lib.hid (HNONE.out (by rw [HO.out]; exact if_pos (.inl hx0)))
            clear hx0
            go_wp2_with fail
            refine rg_start (by kernel_rfl) ?_
            refine rg_take 0 rfl (by kernel_rfl) (by kernel_rfl) (by kernel_rfl) (fun _ _ _ _ h => h) (by rfl) ⟨_, fun w' hx => by (go_simp <;> with_reducible rfl), ?_⟩
            simp only [Act.put, List.setIfInBounds_toArray, List.set_cons_zero, List.set_cons_succ]
            refine rg_take 1 rfl (by kernel_rfl) (by kernel_rfl) (by kernel_rfl) (fun _ _ _ _ h => h) (by rfl) ⟨.bool true, fun w' hx => by (go_simp <;> with_reducible rfl), ?_⟩
            simp only [Act.put, List.setIfInBounds_toArray, List.set_cons_zero, List.set_cons_succ]
            refine rg_take 2 rfl (by kernel_rfl) (by kernel_rfl) (by kernel_rfl) (fun _ _ _ _ h => h) (by rfl) ⟨_, fun w' hx => by (go_simp <;> with_reducible rfl), ?_⟩
            simp only [Act.put, List.setIfInBounds_toArray, List.set_cons_zero, List.set_cons_succ]
            refine rg_skip 3 rfl (by kernel_rfl) (by kernel_rfl) (by kernel_rfl) (fun _ _ _ _ h => h) (by rfl) ?_
            simp only [Act.put, List.setIfInBounds_toArray, List.set_cons_zero, List.set_cons_succ]
            refine rg_skip 4 rfl (by kernel_rfl) (by kernel_rfl) (by kernel_rfl) (fun _ _ _ _ h => h) (by rfl) ?_
            simp only [Act.put, List.setIfInBounds_toArray, List.set_cons_zero, List.set_cons_succ]
            refine rg_skip 5 rfl (by kernel_rfl) (by kernel_rfl) (by kernel_rfl) (fun _ _ _ _ h => h) (by rfl) ?_
            simp only [Act.put, List.setIfInBounds_toArray, List.set_cons_zero, List.set_cons_succ]
            refine rg_take 6 rfl (by kernel_rfl) (by kernel_rfl) (by kernel_rfl) (fun _ _ _ _ h => h) (by rfl) ⟨_, fun w' hx => by (go_simp <;> with_reducible rfl), ?_⟩
            simp only [Act.put, List.setIfInBounds_toArray, List.set_cons_zero, List.set_cons_succ]
            refine rg_take 7 rfl (by kernel_rfl) (by kernel_rfl) (by kernel_rfl) (fun _ _ _ _ h => h) (by rfl) ⟨_, fun w' hx => by (go_simp <;> with_reducible rfl), ?_⟩
            simp only [Act.put, List.setIfInBounds_toArray, List.set_cons_zero, List.set_cons_succ]
            refine rg_skip 8 rfl (by kernel_rfl) (by kernel_rfl) (by kernel_rfl) (fun _ _ _ _ h => h) (by rfl) ?_
            simp only [Act.put, List.setIfInBounds_toArray, List.set_cons_zero, List.set_cons_succ]
            refine rg_skip 9 rfl (by kernel_rfl) (by kernel_rfl) (by kernel_rfl) (fun _ _ _ _ h => h) (by rfl) ?_
            simp only [Act.put, List.setIfInBounds_toArray, List.set_cons_zero, List.set_cons_succ]
            refine rg_skip 10 rfl (by kernel_rfl) (by kernel_rfl) (by kernel_rfl) (fun _ _ _ _ h => h) (by rfl) ?_
            simp only [Act.put, List.setIfInBounds_toArray, List.set_cons_zero, List.set_cons_succ]
            refine rg_skip 11 rfl (by kernel_rfl) (by kernel_rfl) (by kernel_rfl) (fun _ _ _ _ h => h) (by rfl) ?_
            simp only [Act.put, List.setIfInBounds_toArray, List.set_cons_zero, List.set_cons_succ]
            refine rg_skip 12 rfl (by kernel_rfl) (by kernel_rfl) (by kernel_rfl) (fun _ _ _ _ h => h) (by rfl) ?_
            simp only [Act.put, List.setIfInBounds_toArray, List.set_cons_zero, List.set_cons_succ]
            refine rg_skip 13 rfl (by kernel_rfl) (by kernel_rfl) (by kernel_rfl) (fun _ _ _ _ h => h) (by rfl) ?_
            simp only [Act.put, List.setIfInBounds_toArray, List.set_cons_zero, List.set_cons_succ]
            refine rg_skip 14 rfl (by kernel_rfl) (by kernel_rfl) (by kernel_rfl) (fun _ _ _ _ h => h) (by rfl) ?_
            simp only [Act.put, List.setIfInBounds_toArray, List.set_cons_zero, List.set_cons_succ]
            refine rg_skip 15 rfl (by kernel_rfl) (by kernel_rfl) (by kernel_rfl) (fun _ _ _ _ h => h) (by rfl) ?_
            simp only [Act.put, List.setIfInBounds_toArray, List.set_cons_zero, List.set_cons_succ]
            refine rg_skip 16 rfl (by kernel_rfl) (by kernel_rfl) (by kernel_rfl) (fun _ _ _ _ h => h) (by rfl) ?_
            simp only [Act.put, List.setIfInBounds_toArray, List.set_cons_zero, List.set_cons_succ]
            refine rg_skip 17 rfl (by kernel_rfl) (by kernel_rfl) (by kernel_rfl) (fun _ _ _ _ h => h) (by rfl) ?_
            simp only [Act.put, List.setIfInBounds_toArray, List.set_cons_zero, List.set_cons_succ]
            refine rg_skip 18 rfl (by kernel_rfl) (by kernel_rfl) (by kernel_rfl) (fun _ _ _ _ h => h) (by rfl) ?_
            simp only [Act.put, List.setIfInBounds_toArray, List.set_cons_zero, List.set_cons_succ]
            refine rg_skip 19 rfl (by kernel_rfl) (by kernel_rfl) (by kernel_rfl) (fun _ _ _ _ h => h) (by rfl) ?_
            simp only [Act.put, List.setIfInBounds_toArray, List.set_cons_zero, List.set_cons_succ]
            refine rg_skip 20 rfl (by kernel_rfl) (by kernel_rfl) (by kernel_rfl) (fun _ _ _ _ h => h) (by rfl) ?_
            simp only [Act.put, List.setIfInBounds_toArray, List.set_cons_zero, List.set_cons_succ]
            refine rg_skip 21 rfl (by kernel_rfl) (by kernel_rfl) (by kernel_rfl) (fun _ _ _ _ h => h) (by rfl) ?_
            simp only [Act.put, List.setIfInBounds_toArray, List.set_cons_zero, List.set_cons_succ]
            refine rg_skip 22 rfl (by kernel_rfl) (by kernel_rfl) (by kernel_rfl) (fun _ _ _ _ h => h) (by rfl) ?_
            simp only [Act.put, List.setIfInBounds_toArray, List.set_cons_zero, List.set_cons_succ]
            refine rg_skip 23 rfl (by kernel_rfl) (by kernel_rfl) (by kernel_rfl) (fun _ _ _ _ h => h) (by rfl) ?_
            simp only [Act.put, List.setIfInBounds_toArray, List.set_cons_zero, List.set_cons_succ]
            refine rg_take 24 rfl (by kernel_rfl) (by kernel_rfl) (by kernel_rfl) (fun _ _ _ _ h => h) (by rfl) ⟨_, fun w' hx => by (go_simp <;> with_reducible rfl), ?_⟩
            simp only [Act.put, List.setIfInBounds_toArray, List.set_cons_zero, List.set_cons_succ]
            refine rg_done (by kernel_rfl) ?_
            go_wp2_with fail
            refine bodyPost_ret (results_tmp2 rfl _ _ _) rfl ?_
            exact .inr ⟨Hn.out, rfl, HNo.out⟩
        · have hone : Opn.one (t :: r) = (if x ≠ 0 ∨ ¬ (1 ≤ k.length ∧ k.length ≤ 24) then none else if (Vint.getBytes (r.drop n)).2.2 ≠ 0 ∨ 1000 < (Vint.getBytes (r.drop n)).1.length then none else some (⟨false, k, (Vint.getBytes (r.drop n)).1⟩, 1 + n + (Vint.getBytes (r.drop n)).2.1)) := by
            simp only [Opn.one]
            rw [if_neg ht, Hget.out, if_neg (show ¬ t.toNat = 1 by omega)]
          have HO := Lib.hid hone
          rw [ht1] at hc0
          obtain ⟨W1, hW1⟩ : ∃ W1, W1 = wr.alloc (.cells #[.bool false, .slice none 0 0, .slice none 0 0] 50) := ⟨_, rfl⟩
          have g1 : W1.heap[wr.heap.size]? = some (.cells #[.bool false, .slice none 0 0, .slice none 0 0] 50 (0, 0)) := by rw [hW1]; exact heap_alloc_new wr _
          have hE1 : Ext wr W1 := by rw [hW1]; exact Ext.alloc _ _
          have hs1 : W1.heap.size = wr.heap.size + 1 := by rw [hW1]; simp
          have hc1' : W1.cell? bd = some (.int .u8 0) := Ext.load hE1 hc0
          have HGB := getb01 A2 r (c1 - 1) W1 (Hrd2.out _ (HRw.out.below (HI.out.bel.trans (hE1.mono HI.out.bel.size)))) (by omega) (by omega) Hget.out
          have G1 := Lib.hid g1
          have HE1 := Lib.hid hE1
          have HW1 := Lib.hid hW1
          have Hs1 := Lib.hid hs1
          clear ht ht1 hone g1 hE1 hW1 hs1
          go_wp2_with (first | (rw [← HW1.out]; refine wpList_sliceL (by rfl) (.tmp 25) _ 33 rfl elemB (some bd) (r.length + 1) c1 rfl 1 rfl (by omega) A2 HA2.out r.length (c1 - 1) (by omega) rfl ?_) | (go_at_call 40; refine HGB.mono ?_; rintro e2 w2 ⟨A3, c3, rfl, hr3, hc3, ho3, hb2⟩; refine Hid.out ?_))
          have hx2 : Ext wr w2 := Ext.tr HE1.out hb2
          have hxd : Ext wr w2.drew := Ext.tr hx2 (Ext.drew w2)
          have g2 : w2.drew.heap[wr.heap.size]? = some (.cells #[.bool false, .slice none 0 0, .slice none 0 0] 50 (0, 0)) := (hb2.block _ (lt_of_heap G1.out)).trans G1.out
          have G2 := Lib.hid g2
          have Ho3 := Lib.hid ho3
          have HNo : Hid (Below w.heap.size w w2.drew) := HI.out.bel.trans (hxd.mono HI.out.bel.size)
          have hkey := ref_key A3 k c3 w2.drew hkl
          clear hr3 g2 ho3 hb2 HGB
          refine Lib.hid ?_
          by_cases hx0 : x = 0
          · subst hx0
            have hyb : ((0 : Nat) : Int) = 0 := rfl
            by_cases hkk : 1 ≤ k.length ∧ k.length ≤ 24
            · rw [show decide (1 ≤ k.length ∧ k.length ≤ 24) = true from decide_eq_true hkk] at hkey
              have Hkk := Lib.hid hkk
              have Hbars : Hid (Opn.one (t :: r) = none ∨ ∃ q n, Opn.one (t :: r) = some (q, n) ∧ q.key = k) := by
                show _ ∨ _
                rw [HO.out, if_neg (by simp [hkk])]
                split
                · exact .inl rfl
                · exact .inr ⟨_, _, rfl, rfl⟩
              clear hkk
              by_cases hL0 : L = []
              · subst hL0
                have Hbar : Hid (Opn.bars (([] : List OpV).map OpV.x) ⟨false, k, []⟩ = false) := rfl
                go_wp2_with fail
                refine rg_start (by kernel_rfl) ?_
                refine rg_take 0 rfl (by kernel_rfl) (by kernel_rfl) (by kernel_rfl) (fun _ _ _ _ h => h) (by rfl) ⟨_, fun w' hx => by (go_simp <;> with_reducible rfl), ?_⟩
                simp only [Act.put, List.setIfInBounds_toArray, List.set_cons_zero, List.set_cons_succ]
                refine rg_take 1 rfl (by kernel_rfl) (by kernel_rfl) (by kernel_rfl) (fun _ _ _ _ h => h) (by rfl) ⟨.bool false, fun w' hx => by (go_simp <;> with_reducible rfl), ?_⟩
                simp only [Act.put, List.setIfInBounds_toArray, List.set_cons_zero, List.set_cons_succ]
                refine rg_take 2 rfl (by kernel_rfl) (by kernel_rfl) (by kernel_rfl) (fun _ _ _ _ h => h) (by rfl) ⟨_, fun w' hx => by (go_simp <;> with_reducible rfl), ?_⟩
                simp only [Act.put, List.setIfInBounds_toArray, List.set_cons_zero, List.set_cons_succ]
                refine rg_take 3 rfl (by kernel_rfl) (by kernel_rfl) (by kernel_rfl) (fun _ _ _ _ h => h) (by rfl) ⟨_, fun w' hx => by (go_simp <;> with_reducible rfl), ?_⟩
                simp only [Act.put, List.setIfInBounds_toArray, List.set_cons_zero, List.set_cons_succ]
                refine rg_call 4 hkey rfl (by kernel_rfl) (by rfl) (by go_simp) ?_
                rintro e w' ⟨rfl, rfl⟩
                refine ⟨_, rfl, Ext.refl _, ?_⟩
                simp only [Act.put, List.setIfInBounds_toArray, List.set_cons_zero, List.set_cons_succ]
                refine rg_take 5 rfl (by kernel_rfl) (by kernel_rfl) (by kernel_rfl) (fun _ _ _ _ h => h) (by rfl) ⟨_, fun w' hx => by (go_simp <;> with_reducible rfl), ?_⟩   -- t36 := unOp not 4 t35
                simp only [Act.put, List.setIfInBounds_toArray, List.set_cons_zero, List.set_cons_succ]
                refine rg_take 6 rfl (by kernel_rfl) (by kernel_rfl) (by kernel_rfl) (fun _ _ _ _ h => h) (by rfl) ⟨_, fun w' hx => by (go_simp <;> with_reducible rfl), ?_⟩
                simp only [Act.put, List.setIfInBounds_toArray, List.set_cons_zero, List.set_cons_succ]
                refine rg_take 7 rfl (by kernel_rfl) (by kernel_rfl) (by kernel_rfl) (fun _ _ _ _ h => h) (by rfl) ⟨_, fun w' hx => by (go_simp <;> with_reducible rfl), ?_⟩
                simp only [Act.put, List.setIfInBounds_toArray, List.set_cons_zero, List.set_cons_succ]
                refine rg_take 8 rfl (by kernel_rfl) (by kernel_rfl) (by kernel_rfl) (fun _ _ _ _ h => h) (by rfl) ⟨_, fun w' hx => by (go_simp <;> with_reducible rfl), ?_⟩
                simp only [Act.put, List.setIfInBounds_toArray, List.set_cons_zero, List.set_cons_succ]
                refine rg_take 9 rfl (by kernel_rfl) (by kernel_rfl) (by kernel_rfl) (fun _ _ _ _ h => h) (by rfl) ⟨_, fun w' hx => by (go_simp <;> with_reducible rfl), ?_⟩   -- t40 := len(t39)
                simp only [Act.put, List.setIfInBounds_toArray, List.set_cons_zero, List.set_cons_succ]
                refine rg_take 10 rfl (by kernel_rfl) (by kernel_rfl) (by kernel_rfl) (fun _ _ _ _ h => h) (by rfl) ⟨_, fun w' hx => by (go_simp <;> with_reducible rfl), ?_⟩   -- t41 := binOp gtr 3 t40 0:i64 3
                simp only [Act.put, List.setIfInBounds_toArray, List.set_cons_zero, List.set_cons_succ]
                refine rg_take 11 rfl (by kernel_rfl) (by kernel_rfl) (by kernel_rfl) (fun _ _ _ _ h => h) (by rfl) ⟨_, fun w' hx => by (go_simp <;> with_reducible rfl), ?_⟩
                simp only [Act.put, List.setIfInBounds_toArray, List.set_cons_zero, List.set_cons_succ]
                refine rg_skip 12 rfl (by kernel_rfl) (by kernel_rfl) (by kernel_rfl) (fun _ _ _ _ h => h) (by rfl) ?_
                simp only [Act.put, List.setIfInBounds_toArray, List.set_cons_zero, List.set_cons_succ]
                refine rg_skip 13 rfl (by kernel_rfl) (by kernel_rfl) (by kernel_rfl) (fun _ _ _ _ h => h) (by rfl) ?_
                simp only [Act.put, List.setIfInBounds_toArray, List.set_cons_zero, List.set_cons_succ]
                refine rg_skip 14 rfl (by kernel_rfl) (by kernel_rfl) (by kernel_rfl) (fun _ _ _ _ h => h) (by rfl) ?_
                simp only [Act.put, List.setIfInBounds_toArray, List.set_cons_zero, List.set_cons_succ]
                refine rg_skip 15 rfl (by kernel_rfl) (by kernel_rfl) (by kernel_rfl) (fun _ _ _ _ h => h) (by rfl) ?_
                simp only [Act.put, List.setIfInBounds_toArray, List.set_cons_zero, List.set_cons_succ]
                refine rg_skip 16 rfl (by kernel_rfl) (by kernel_rfl) (by kernel_rfl) (fun _ _ _ _ h => h) (by rfl) ?_
                simp only [Act.put, List.setIfInBounds_toArray, List.set_cons_zero, List.set_cons_succ]
                refine rg_skip 17 rfl (by kernel_rfl) (by kernel_rfl) (by kernel_rfl) (fun _ _ _ _ h => h) (by rfl) ?_
                simp only [Act.put, List.setIfInBounds_toArray, List.set_cons_zero, List.set_cons_succ]
                refine rg_skip 18 rfl (by kernel_rfl) (by kernel_rfl) (by kernel_rfl) (fun _ _ _ _ h => h) (by rfl) ?_
                simp only [Act.put, List.setIfInBounds_toArray, List.set_cons_zero, List.set_cons_succ]
                refine rg_skip 19 rfl (by kernel_rfl) (by kernel_rfl) (by kernel_rfl) (fun _ _ _ _ h => h) (by rfl) ?_
                simp only [Act.put, List.setIfInBounds_toArray, List.set_cons_zero, List.set_cons_succ]
                refine rg_skip 20 rfl (by kernel_rfl) (by kernel_rfl) (by kernel_rfl) (fun _ _ _ _ h => h) (by rfl) ?_
                simp only [Act.put, List.setIfInBounds_toArray, List.set_cons_zero, List.set_cons_succ]
                refine rg_skip 21 rfl (by kernel_rfl) (by kernel_rfl) (by kernel_rfl) (fun _ _ _ _ h => h) (by rfl) ?_
                simp only [Act.put, List.setIfInBounds_toArray, List.set_cons_zero, List.set_cons_succ]
                refine rg_skip 22 rfl (by kernel_rfl) (by kernel_rfl) (by kernel_rfl) (fun _ _ _ _ h => h) (by rfl) ?_
                simp only [Act.put, List.setIfInBounds_toArray, List.set_cons_zero, List.set_cons_succ]
                refine rg_take 23 rfl (by kernel_rfl) (by kernel_rfl) (by kernel_rfl) (fun _ _ _ _ h => h) (by rfl) ⟨_, fun w' hx => by (go_simp <;> with_reducible rfl), ?_⟩
                simp only [Act.put, List.setIfInBounds_toArray, List.set_cons_zero, List.set_cons_succ]
                refine rg_take 24 rfl (by kernel_rfl) (by kernel_rfl) (by kernel_rfl) (fun _ _ _ _ h => h) (by rfl) ⟨_, fun w' hx => by (go_simp <;> with_reducible rfl), ?_⟩
                simp only [Act.put, List.setIfInBounds_toArray, List.set_cons_zero, List.set_cons_succ]
                refine rg_done (by kernel_rfl) ?_
                clear hkey
                obtain ⟨A5, hA5⟩ : ∃ A5, A5 = (if c1 = 1 + n then some bd else (some bd).map (·.add ((1 + n) * 1))) := ⟨_, rfl⟩
                have hrd5 : ∀ W, RdB W (some bd) (t :: r) → RdB W A5 ((t :: r).drop (1 + n)) := fun W h => h.from_ (k := 1 + n) (by simp; omega) (by simpa using hcp) hA5
                obtain ⟨m5, hm5⟩ : ∃ m5, m5 = r.length + 1 - (1 + n) := ⟨_, rfl⟩
                have h5l : ((t :: r).drop (1 + n)).length = m5 := by rw [List.length_drop, List.length_cons, hm5]
                obtain ⟨W3, hW3⟩ : ∃ W3, W3 = w2.drew.setRow wr.heap.size #[.bool false, .slice A3 k.length c3, .slice none 0 0] := ⟨_, rfl⟩
                have g3 : W3.heap[wr.heap.size]? = some (.cells #[.bool false, .slice A3 k.length c3, .slice none 0 0] 50 (0, 0)) := by rw [hW3]; exact setRow_heap _ _ _ _ _ _ G2.out
                have hE3 : Ext wr W3 := by rw [hW3]; exact ext_rowD hxd (Nat.le_refl _) _
                have hkA : Own W3 (wr.heap.size + 1) 5 1 A3 k.length c3 (bvs k) := by
                  rw [hW3]
                  refine own_setRow ?_ (by omega) _
                  have h9 := Ho3.out.below (Ext.drew w2)
                  rw [Hs1.out] at h9
                  exact h9
                have hc30 : W3.cell? ⟨wr.heap.size, 0, none⟩ = some (.bool false) := by rw [cell_of_row _ _ _ _ _ _ g3]; rfl
                have w1n : IntKind.i64.wrap (1 + (n : Int)) = ((1 + n : Nat) : Int) := by rw [IntKind.wrap_i64]; omega
                have HA5 := Lib.hid hA5
                have Hrd5 := Lib.hid hrd5
                have Hm5 := Lib.hid hm5
                have H5l := Lib.hid h5l
                have HW3 := Lib.hid hW3
                have G3 := Lib.hid g3
                have HE3 := Lib.hid hE3
                have HKA := Lib.hid hkA
                clear hA5 hrd5 hm5 h5l hW3 g3 hE3 hkA
                go_wp2_with (first | (refine wpList_store_at (by rfl) 33 (.tmp 57) (.tmp 56) rfl ⟨wr.heap.size, 1, none⟩ rfl wr.heap.size 1 rfl (.slice A3 k.length c3) rfl #[.slice A3 k.length c3] rfl _ 50 G2.out (by kernel_rfl) (by simp) (by simp [Value.oneCell']) #[.bool false, .slice A3 k.length c3, .slice none 0 0] rfl ?_; rw [← HW3.out]) | (refine wpList_sliceL (by rfl) (.tmp 58) (.tmp 60) 33 rfl elemB (some bd) (r.length + 1) c1 rfl (1 + n) rfl (by omega) A5 HA5.out m5 (c1 - (1 + n)) Hm5.out rfl ?_; refine Hid.out ?_))
                refine Lib.hid ?_
                obtain ⟨v, m, y2, hget2⟩ : ∃ v m y2, Vint.getBytes (r.drop n) = (v, m, y2) := ⟨_, _, _, rfl⟩
                have hd5 : (t :: r).drop (1 + n) = r.drop n := by rw [Nat.add_comm]; rfl
                have hml : m ≤ m5 := by have := Vint.getBytes_le (r.drop n); rw [hget2, ← hd5, H5l.out] at this; exact this
                have hm5b : m5 ≤ r.length := by rw [Hm5.out]; omega
                have HGB2 := getb01 A5 (r.drop n) (c1 - (1 + n)) W3 (by rw [← hd5]; exact Hrd5.out _ (HRw.out.below (HI.out.bel.trans (HE3.out.mono HI.out.bel.size)))) (by rw [← hd5, H5l.out]; omega) (by rw [← hd5, H5l.out, Hm5.out]; omega) hget2
                rw [← hd5, H5l.out] at HGB2
                have hone1 : (Opn.one (t :: r) = if y2 ≠ 0 ∨ 1000 < v.length then none else some (⟨false, k, v⟩, 1 + n + m)) := by rw [HO.out, if_neg (by simp [Hkk.out]), hget2]
                have Hone1 := Lib.hid hone1
                clear hone1 hget2 hd5
                go_wp2_with fail
                refine HGB2.mono ?_
                rintro e4 w4 ⟨A6, c6, rfl, hr6, hc6, ho6, hb4⟩
                have g4 : w4.heap[wr.heap.size]? = some (.cells #[.bool false, .slice A3 k.length c3, .slice none 0 0] 50 (0, 0)) := (hb4.block _ (lt_of_heap G3.out)).trans G3.out
                have hE4 : Ext wr w4 := Ext.tr HE3.out hb4
                have HNo4 : Hid (Below w.heap.size w w4) := HI.out.bel.trans (hE4.mono HI.out.bel.size)
                have G4 := Lib.hid g4
                have HE4 := Lib.hid hE4
                have Hb4 := Lib.hid hb4
                have Ho6 := Lib.hid ho6
                clear g4 hE4 hb4 ho6 hr6 HGB2
                by_cases hy0 : y2 = 0
                · subst hy0
                  have hyb2 : ((0 : Nat) : Int) = 0 := rfl
                  by_cases hv : v.length ≤ 1000
                  · have hvi : ¬ ((1000 : Int) < (v.length : Int)) := by omega
                    obtain ⟨A7, hA7⟩ : ∃ A7, A7 = (if c1 - (1 + n) = m then A5 else A5.map (·.add (m * 1))) := ⟨_, rfl⟩
                    have hdd : ((t :: r).drop (1 + n)).drop m = (t :: r).drop (1 + n + m) := List.drop_drop ..
                    have hrd7 : ∀ W, RdB W (some bd) (t :: r) → RdB W A7 ((t :: r).drop (1 + n + m)) := fun W h => by
                      rw [← hdd]; exact (Hrd5.out W h).from_ (by rw [H5l.out]; exact hml) (by rw [H5l.out, Hm5.out]; omega) hA7
                    obtain ⟨m7, hm7⟩ : ∃ m7, m7 = m5 - m := ⟨_, rfl⟩
                    have h7l : ((t :: r).drop (1 + n + m)).length = m7 := by rw [← hdd, List.length_drop, H5l.out, hm7]
                    obtain ⟨W5, hW5⟩ : ∃ W5, W5 = w4.setRow wr.heap.size #[.bool false, .slice A3 k.length c3, .slice A6 v.length c6] := ⟨_, rfl⟩
                    have g5 : W5.heap[wr.heap.size]? = some (.cells #[.bool false, .slice A3 k.length c3, .slice A6 v.length c6] 50 (0, 0)) := by rw [hW5]; exact setRow_heap _ _ _ _ _ _ G4.out
                    have hE5 : Ext wr W5 := by rw [hW5]; exact ext_rowD HE4.out (Nat.le_refl _) _
                    have hkA5 : Own W5 (wr.heap.size + 1) 5 1 A3 k.length c3 (bvs k) := by rw [hW5]; exact own_setRow (HKA.out.below Hb4.out) (by omega) _
                    have hvA5 : Own W5 (wr.heap.size + 1) 5 1 A6 v.length c6 (bvs v) := by
                      have h8 := lt_of_heap G3.out
                      rw [hW5]; exact (own_setRow (Ho6.out.mono (by omega)) (by omega) _)
                    have HA7 := Lib.hid hA7
                    have Hrd7 := Lib.hid hrd7
                    have Hm7 := Lib.hid hm7
                    have H7l := Lib.hid h7l
                    have HW5 := Lib.hid hW5
                    have G5 := Lib.hid g5
                    have HE5 := Lib.hid hE5
                    have HKA5 := Lib.hid hkA5
                    have HVA5 := Lib.hid hvA5
                    clear hA7 hrd7 hm7 h7l hW5 g5 hE5 hkA5 hvA5 hdd
                    go_wp2_with (first | (refine wpList_store_at (by rfl) 33 (.tmp 79) (.tmp 78) rfl ⟨wr.heap.size, 2, none⟩ rfl wr.heap.size 2 rfl (.slice A6 v.length c6) rfl #[.slice A6 v.length c6] rfl _ 50 G4.out (by kernel_rfl) (by simp) (by simp [Value.oneCell']) #[.bool false, .slice A3 k.length c3, .slice A6 v.length c6] rfl ?_; rw [← HW5.out]) | (refine wpList_sliceL (by rfl) (.tmp 80) (.tmp 81) 33 rfl elemB A5 m5 (c1 - (1 + n)) rfl m rfl (by omega) A7 HA7.out m7 (c1 - (1 + n) - m) Hm7.out rfl ?_; refine Hid.out ?_))
                    refine Lib.hid ?_
                    obtain ⟨q, hq⟩ : ∃ q : OpV, q = ⟨A3, c3, A6, c6, ⟨false, k, v⟩⟩ := ⟨_, rfl⟩
                    have hqc : (#[.bool false, .slice A3 k.length c3, .slice A6 v.length c6] : Array Value) = q.cells := by rw [hq]; rfl
                    have gq : W5.heap[wr.heap.size]? = some (.cells q.cells 50 (0, 0)) := by rw [← hqc]; exact G5.out
                    have hqa : q.At w.heap.size W5 := by
                      have := HI.out.bel.size
                      rw [hq]; exact ⟨⟨HKA5.out.rd', HVA5.out.rd', HKA5.out.nc, HVA5.out.nc⟩, HKA5.out.far (by omega), HVA5.out.far (by omega)⟩
                    have hone : Opn.one (t :: r) = some (q.x, 1 + n + m) := by rw [Hone1.out, if_neg (by simp; omega)]; rw [hq]
                    have hbq : Opn.bars (([] : List OpV).map OpV.x) q.x = false := by have := Hbar.out; unfold Opn.bars at this ⊢; rw [hq]; exact this
                    have hcq : ((t :: r).drop (1 + n + m)).length ≤ c1 - (1 + n) - m := by rw [H7l.out, Hm7.out, Hm5.out]; omega
                    have hEv : Ext wr (W5.alloc (.cells q.cells 50)) := Ext.tr HE5.out (Ext.alloc _ _)
                    have hown5 := HI.out.own.below hEv
                    have hrdq := (RdO.one W5 50 q hqa.i).rd
                    have hsz5 : w.heap.size ≤ (W5.alloc (.cells q.cells 50)).heap.size := Nat.le_trans HI.out.bel.size hEv.size
                    have hL5 : ([] : List OpV).length ≤ 500000 := by have := HI.out.tot; simp only [List.length_cons] at this; omega
                    have Gq := Lib.hid gq
                    have Hown5 := Lib.hid hown5
                    have Hrdq := Lib.hid hrdq
                    have Hqa := Lib.hid hqa
                    have Hsz5 := Lib.hid hsz5
                    have Hone := Lib.hid hone
                    have Hbq := Lib.hid hbq
                    have Hcq := Lib.hid hcq
                    clear gq hown5 hrdq hqa hsz5 hone hbq hcq hcp htot hq hqc
                    go_wp2_with (first | (refine wpList_load_rowG (by rfl) 50 (.tmp 5) rfl wr.heap.size rfl 50 q.cells (0, 0) _ Gq.out Try.underlying50 rfl (oinfo _) ?_) | (refine wpList_buildOne (by rfl) 23 (.tmp 84) rfl elemO q.cells rfl rfl (by omega) ?_; at_builtin; refine wpList_app rfl (.tmp 83) (.tmp 85) 23 rfl elemO w.heap.size A' ([] : List OpV).length c' (ocs ([] : List OpV)) rfl (some ⟨W5.heap.size, 0, none⟩) 1 1 (ocs [q]) rfl (([] : List OpV).length + 1) rfl (ocs ([] ++ [q])) (ocs_app _ _) Hown5.out Hrdq.out (ocs_one_cell _) (by omega) (by omega) Hsz5.out ?_; intro D2 c4 w4 ho4 hg4 hr4))
                    go_roundw
                    case rel =>
                      exact ⟨(t :: r).drop (1 + n + m), A7, c1 - (1 + n) - m, [] ++ [q], D2, c4, f - 1, by rw [H7l.out], by rw [List.length_append]; rfl, HI.out.push (by simp) Hone.out Hbq.out Hrd7.out Hcq.out (Hqa.out.ext (Ext.alloc _ _)) hEv hg4 ho4⟩
                    case measure =>
                      have h8 := (Opn.one_some Hone.out).2.2
                      have h9 := H7l.out
                      simp only [lenV, List.length_drop, List.length_cons] at h8 h9 ⊢
                      omega
                  · have hvi : (1000 : Int) < (v.length : Int) := by omega
                    have Hn := Lib.hid (HNONE.out (by rw [Hone1.out]; exact if_pos (.inr (by omega))))
                    clear hv
                    go_wp2_with fail
                    refine bodyPost_ret (results_tmp2 rfl _ _ _) rfl ?_
                    exact .inr ⟨Hn.out, rfl, HNo4.out⟩
                · have hb1 : ((y2 : Int) != 0) = true := by rw [bne_iff_ne]; omega
                  have Hn := Lib.hid (HNONE.out (by rw [Hone1.out]; exact if_pos (.inl hy0)))
                  clear hy0
                  go_wp2_with fail
                  refine bodyPost_ret (results_tmp2 rfl _ _ _) rfl ?_
                  exact .inr ⟨Hn.out, rfl, HNo4.out⟩
              · have hk : L.length - 1 < L.length := by have := List.length_pos_iff.2 hL0; omega
                have hbars : Opn.bars (L.map OpV.x) ⟨false, k, []⟩ = !ltB (L[L.length - 1]).x.key k := by
                  unfold Opn.bars
                  rw [List.getLast?_eq_getElem?]
                  simp [List.getElem?_eq_getElem hk]
                obtain ⟨j, hjl⟩ : ∃ j, L.length = j + 1 := ⟨L.length - 1, by omega⟩
                have hrd0 : RdO wr A' L := ⟨HI.out.own.rd, fun e he => (HI.out.ins e he).i⟩
                have hjj : j < L.length := by omega
                obtain ⟨ad, hA1, hcell, hin⟩ := hrd0.at_ hjj
                subst hA1
                have hLk : L[L.length - 1] = L[j] := by congr 1; omega
                rw [hLk] at hbars
                obtain ⟨y, hy⟩ : ∃ y, L[j] = y := ⟨_, rfl⟩
                rw [hy] at hbars hcell hin
                have hkc : wr.cell? ⟨(ad.add (j * 3)).block, (ad.add (j * 3)).off + 1, none⟩ = some (.slice y.ka y.x.key.length y.kc) := hcell 1 _ rfl
                have ik : (0 : Int) ≤ (j : Int) := by omega
                have ik2 : (j : Int) < (L.length : Int) := by omega
                have hw : IntKind.i64.wrap ((L.length : Int) - 1) = (j : Int) := by rw [IntKind.wrap_i64]; omega
                have hpos : decide (0 < L.length) = true := by simp; omega
                have hkc1 := Ext.load hxd hkc
                have hyk := hin.kr.below hxd
                have hkk2 : RdB w2.drew A3 k := (Ho3.out.below (Ext.drew w2)).rd'
                clear hrd0 hcell hin hLk hL0 hk hjl hkc hy
                cases hlt : ltB y.x.key k with
                | false =>
                  rw [hlt] at hbars
                  have hq : (!(ltB y.x.key k)) = true := by rw [hlt]; rfl
                  have Hbar := Lib.hid (HBAR.out k Hbars.out hbars)
                  clear hlt hbars
                  go_wp2_with fail
                  refine rg_start (by kernel_rfl) ?_
                  refine rg_take 0 rfl (by kernel_rfl) (by kernel_rfl) (by kernel_rfl) (fun _ _ _ _ h => h) (by rfl) ⟨_, fun w' hx => by (go_simp <;> with_reducible rfl), ?_⟩
                  simp only [Act.put, List.setIfInBounds_toArray, List.set_cons_zero, List.set_cons_succ]
                  refine rg_take 1 rfl (by kernel_rfl) (by kernel_rfl) (by kernel_rfl) (fun _ _ _ _ h => h) (by rfl) ⟨.bool false, fun w' hx => by (go_simp <;> with_reducible rfl), ?_⟩
                  simp only [Act.put, List.setIfInBounds_toArray, List.set_cons_zero, List.set_cons_succ]
                  refine rg_take 2 rfl (by kernel_rfl) (by kernel_rfl) (by kernel_rfl) (fun _ _ _ _ h => h) (by rfl) ⟨_, fun w' hx => by (go_simp <;> with_reducible rfl), ?_⟩
                  simp only [Act.put, List.setIfInBounds_toArray, List.set_cons_zero, List.set_cons_succ]
                  refine rg_take 3 rfl (by kernel_rfl) (by kernel_rfl) (by kernel_rfl) (fun _ _ _ _ h => h) (by rfl) ⟨_, fun w' hx => by (go_simp <;> with_reducible rfl), ?_⟩
                  simp only [Act.put, List.setIfInBounds_toArray, List.set_cons_zero, List.set_cons_succ]
                  refine rg_call 4 hkey rfl (by kernel_rfl) (by rfl) (by go_simp) ?_
                  rintro e w' ⟨rfl, rfl⟩
                  refine ⟨_, rfl, Ext.refl _, ?_⟩
                  simp only [Act.put, List.setIfInBounds_toArray, List.set_cons_zero, List.set_cons_succ]
                  refine rg_take 5 rfl (by kernel_rfl) (by kernel_rfl) (by kernel_rfl) (fun _ _ _ _ h => h) (by rfl) ⟨_, fun w' hx => by (go_simp <;> with_reducible rfl), ?_⟩   -- t36 := unOp not 4 t35
                  simp only [Act.put, List.setIfInBounds_toArray, List.set_cons_zero, List.set_cons_succ]
                  refine rg_take 6 rfl (by kernel_rfl) (by kernel_rfl) (by kernel_rfl) (fun _ _ _ _ h => h) (by rfl) ⟨_, fun w' hx => by (go_simp <;> with_reducible rfl), ?_⟩
                  simp only [Act.put, List.setIfInBounds_toArray, List.set_cons_zero, List.set_cons_succ]
                  refine rg_take 7 rfl (by kernel_rfl) (by kernel_rfl) (by kernel_rfl) (fun _ _ _ _ h => h) (by rfl) ⟨_, fun w' hx => by (go_simp <;> with_reducible rfl), ?_⟩
                  simp only [Act.put, List.setIfInBounds_toArray, List.set_cons_zero, List.set_cons_succ]
                  refine rg_take 8 rfl (by kernel_rfl) (by kernel_rfl) (by kernel_rfl) (fun _ _ _ _ h => h) (by rfl) ⟨_, fun w' hx => by (go_simp <;> with_reducible rfl), ?_⟩
                  simp only [Act.put, List.setIfInBounds_toArray, List.set_cons_zero, List.set_cons_succ]
                  refine rg_take 9 rfl (by kernel_rfl) (by kernel_rfl) (by kernel_rfl) (fun _ _ _ _ h => h) (by rfl) ⟨_, fun w' hx => by (go_simp <;> with_reducible rfl), ?_⟩   -- t40 := len(t39)
                  simp only [Act.put, List.setIfInBounds_toArray, List.set_cons_zero, List.set_cons_succ]
                  refine rg_take 10 rfl (by kernel_rfl) (by kernel_rfl) (by kernel_rfl) (fun _ _ _ _ h => h) (by rfl) ⟨.bool true, fun w' hx => by (go_simp <;> with_reducible rfl), ?_⟩
                  simp only [Act.put, List.setIfInBounds_toArray, List.set_cons_zero, List.set_cons_succ]
                  refine rg_take 11 rfl (by kernel_rfl) (by kernel_rfl) (by kernel_rfl) (fun _ _ _ _ h => h) (by rfl) ⟨_, fun w' hx => by (go_simp <;> with_reducible rfl), ?_⟩
                  simp only [Act.put, List.setIfInBounds_toArray, List.set_cons_zero, List.set_cons_succ]
                  refine rg_take 12 rfl (by kernel_rfl) (by kernel_rfl) (by kernel_rfl) (fun _ _ _ _ h => h) (by rfl) ⟨_, fun w' hx => by (go_simp <;> with_reducible rfl), ?_⟩
                  simp only [Act.put, List.setIfInBounds_toArray, List.set_cons_zero, List.set_cons_succ]
                  refine rg_take 13 rfl (by kernel_rfl) (by kernel_rfl) (by kernel_rfl) (fun _ _ _ _ h => h) (by rfl) ⟨_, fun w' hx => by (go_simp <;> with_reducible rfl), ?_⟩
                  simp only [Act.put, List.setIfInBounds_toArray, List.set_cons_zero, List.set_cons_succ]
                  refine rg_take 14 rfl (by kernel_rfl) (by kernel_rfl) (by kernel_rfl) (fun _ _ _ _ h => h) (by rfl) ⟨_, fun w' hx => by (go_simp <;> with_reducible rfl), ?_⟩
                  simp only [Act.put, List.setIfInBounds_toArray, List.set_cons_zero, List.set_cons_succ]
                  refine rg_take 15 rfl (by kernel_rfl) (by kernel_rfl) (by kernel_rfl) (fun _ _ _ _ h => h) (by rfl) ⟨.int .i64 (j : Int), fun w' hx => by (go_simp <;> with_reducible rfl), ?_⟩
                  simp only [Act.put, List.setIfInBounds_toArray, List.set_cons_zero, List.set_cons_succ]
                  refine rg_take 16 rfl (by kernel_rfl) (by kernel_rfl) (by kernel_rfl) (fun _ _ _ _ h => h) (by rfl) ⟨_, fun w' hx => by (go_simp <;> with_reducible rfl), ?_⟩   -- t47 := indexAddr 23 t43 t46
                  simp only [Act.put, List.setIfInBounds_toArray, List.set_cons_zero, List.set_cons_succ]
                  refine rg_take 17 rfl (by kernel_rfl) (by kernel_rfl) (by kernel_rfl) (fun _ _ _ _ h => h) (by rfl) ⟨_, fun w' hx => by (go_simp <;> with_reducible rfl), ?_⟩   -- t48 := fieldAddr 50 t47 1
                  simp only [Act.put, List.setIfInBounds_toArray, List.set_cons_zero, List.set_cons_succ]
                  refine rg_take 18 rfl (by kernel_rfl) (by kernel_rfl) (by kernel_rfl) (fun _ _ _ _ h => h) (by rfl) ⟨_, fun w' hx => by have hcx := hx.load hkc1; (go_simp <;> with_reducible rfl), ?_⟩
                  simp only [Act.put, List.setIfInBounds_toArray, List.set_cons_zero, List.set_cons_succ]
                  refine rg_take 19 rfl (by kernel_rfl) (by kernel_rfl) (by kernel_rfl) (fun _ _ _ _ h => h) (by rfl) ⟨.string ⟨(y.x.key).toArray⟩, fun w' hx => ex_str rfl rfl Try.underlying33 Try.underlying5 Try.underlying9 (hyk.below hx) rfl, ?_⟩
                  simp only [Act.put, List.setIfInBounds_toArray, List.set_cons_zero, List.set_cons_succ]
                  refine rg_take 20 rfl (by kernel_rfl) (by kernel_rfl) (by kernel_rfl) (fun _ _ _ _ h => h) (by rfl) ⟨_, fun w' hx => by (go_simp <;> with_reducible rfl), ?_⟩
                  simp only [Act.put, List.setIfInBounds_toArray, List.set_cons_zero, List.set_cons_succ]
                  refine rg_take 21 rfl (by kernel_rfl) (by kernel_rfl) (by kernel_rfl) (fun _ _ _ _ h => h) (by rfl) ⟨.string ⟨(k).toArray⟩, fun w' hx => ex_str rfl rfl Try.underlying33 Try.underlying5 Try.underlying9 (hkk2.below hx) rfl, ?_⟩
                  simp only [Act.put, List.setIfInBounds_toArray, List.set_cons_zero, List.set_cons_succ]
                  refine rg_take 22 rfl (by kernel_rfl) (by kernel_rfl) (by kernel_rfl) (fun _ _ _ _ h => h) (by rfl) ⟨.bool (!(ltB y.x.key k)), fun w' hx => ex_geqS rfl rfl rfl, ?_⟩
                  rw [hq]
                  simp only [Act.put, List.setIfInBounds_toArray, List.set_cons_zero, List.set_cons_succ]
                  refine rg_take 23 rfl (by kernel_rfl) (by kernel_rfl) (by kernel_rfl) (fun _ _ _ _ h => h) (by rfl) ⟨_, fun w' hx => by (go_simp <;> with_reducible rfl), ?_⟩
                  simp only [Act.put, List.setIfInBounds_toArray, List.set_cons_zero, List.set_cons_succ]
                  refine rg_take 24 rfl (by kernel_rfl) (by kernel_rfl) (by kernel_rfl) (fun _ _ _ _ h => h) (by rfl) ⟨_, fun w' hx => by (go_simp <;> with_reducible rfl), ?_⟩
                  simp only [Act.put, List.setIfInBounds_toArray, List.set_cons_zero, List.set_cons_succ]
                  refine rg_done (by kernel_rfl) ?_
                  go_wp2_with fail
                  refine bodyPost_ret (results_tmp2 rfl _ _ _) rfl ?_
                  exact .inr ⟨Hbar.out, rfl, HNo.out⟩
                | true =>
                  rw [hlt] at hbars
                  have hq : (!(ltB y.x.key k)) = false := by rw [hlt]; rfl
                  have Hbar : Hid (Opn.bars (L.map OpV.x) ⟨false, k, []⟩ = false) := hbars
                  clear hlt hbars
                  go_wp2_with fail
                  refine rg_start (by kernel_rfl) ?_
                  refine rg_take 0 rfl (by kernel_rfl) (by kernel_rfl) (by kernel_rfl) (fun _ _ _ _ h => h) (by rfl) ⟨_, fun w' hx => by (go_simp <;> with_reducible rfl), ?_⟩
                  simp only [Act.put, List.setIfInBounds_toArray, List.set_cons_zero, List.set_cons_succ]
                  refine rg_take 1 rfl (by kernel_rfl) (by kernel_rfl) (by kernel_rfl) (fun _ _ _ _ h => h) (by rfl) ⟨.bool false, fun w' hx => by (go_simp <;> with_reducible rfl), ?_⟩
                  simp only [Act.put, List.setIfInBounds_toArray, List.set_cons_zero, List.set_cons_succ]
                  refine rg_take 2 rfl (by kernel_rfl) (by kernel_rfl) (by kernel_rfl) (fun _ _ _ _ h => h) (by rfl) ⟨_, fun w' hx => by (go_simp <;> with_reducible rfl), ?_⟩
                  simp only [Act.put, List.setIfInBounds_toArray, List.set_cons_zero, List.set_cons_succ]
                  refine rg_take 3 rfl (by kernel_rfl) (by kernel_rfl) (by kernel_rfl) (fun _ _ _ _ h => h) (by rfl) ⟨_, fun w' hx => by (go_simp <;> with_reducible rfl), ?_⟩
                  simp only [Act.put, List.setIfInBounds_toArray, List.set_cons_zero, List.set_cons_succ]
                  refine rg_call 4 hkey rfl (by kernel_rfl) (by rfl) (by go_simp) ?_
                  rintro e w' ⟨rfl, rfl⟩
                  refine ⟨_, rfl, Ext.refl _, ?_⟩
                  simp only [Act.put, List.setIfInBounds_toArray, List.set_cons_zero, List.set_cons_succ]
                  refine rg_take 5 rfl (by kernel_rfl) (by kernel_rfl) (by kernel_rfl) (fun _ _ _ _ h => h) (by rfl) ⟨_, fun w' hx => by (go_simp <;> with_reducible rfl), ?_⟩   -- t36 := unOp not 4 t35
                  simp only [Act.put, List.setIfInBounds_toArray, List.set_cons_zero, List.set_cons_succ]
                  refine rg_take 6 rfl (by kernel_rfl) (by kernel_rfl) (by kernel_rfl) (fun _ _ _ _ h => h) (by rfl) ⟨_, fun w' hx => by (go_simp <;> with_reducible rfl), ?_⟩
                  simp only [Act.put, List.setIfInBounds_toArray, List.set_cons_zero, List.set_cons_succ]
                  refine rg_take 7 rfl (by kernel_rfl) (by kernel_rfl) (by kernel_rfl) (fun _ _ _ _ h => h) (by rfl) ⟨_, fun w' hx => by (go_simp <;> with_reducible rfl), ?_⟩
                  simp only [Act.put, List.setIfInBounds_toArray, List.set_cons_zero, List.set_cons_succ]
                  refine rg_take 8 rfl (by kernel_rfl) (by kernel_rfl) (by kernel_rfl) (fun _ _ _ _ h => h) (by rfl) ⟨_, fun w' hx => by (go_simp <;> with_reducible rfl), ?_⟩
                  simp only [Act.put, List.setIfInBounds_toArray, List.set_cons_zero, List.set_cons_succ]
                  refine rg_take 9 rfl (by kernel_rfl) (by kernel_rfl) (by kernel_rfl) (fun _ _ _ _ h => h) (by rfl) ⟨_, fun w' hx => by (go_simp <;> with_reducible rfl), ?_⟩   -- t40 := len(t39)
                  simp only [Act.put, List.setIfInBounds_toArray, List.set_cons_zero, List.set_cons_succ]
                  refine rg_take 10 rfl (by kernel_rfl) (by kernel_rfl) (by kernel_rfl) (fun _ _ _ _ h => h) (by rfl) ⟨.bool true, fun w' hx => by (go_simp <;> with_reducible rfl), ?_⟩
                  simp only [Act.put, List.setIfInBounds_toArray, List.set_cons_zero, List.set_cons_succ]
                  refine rg_take 11 rfl (by kernel_rfl) (by kernel_rfl) (by kernel_rfl) (fun _ _ _ _ h => h) (by rfl) ⟨_, fun w' hx => by (go_simp <;> with_reducible rfl), ?_⟩
                  simp only [Act.put, List.setIfInBounds_toArray, List.set_cons_zero, List.set_cons_succ]
                  refine rg_take 12 rfl (by kernel_rfl) (by kernel_rfl) (by kernel_rfl) (fun _ _ _ _ h => h) (by rfl) ⟨_, fun w' hx => by (go_simp <;> with_reducible rfl), ?_⟩
                  simp only [Act.put, List.setIfInBounds_toArray, List.set_cons_zero, List.set_cons_succ]
                  refine rg_take 13 rfl (by kernel_rfl) (by kernel_rfl) (by kernel_rfl) (fun _ _ _ _ h => h) (by rfl) ⟨_, fun w' hx => by (go_simp <;> with_reducible rfl), ?_⟩
                  simp only [Act.put, List.setIfInBounds_toArray, List.set_cons_zero, List.set_cons_succ]
                  refine rg_take 14 rfl (by kernel_rfl) (by kernel_rfl) (by kernel_rfl) (fun _ _ _ _ h => h) (by rfl) ⟨_, fun w' hx => by (go_simp <;> with_reducible rfl), ?_⟩
                  simp only [Act.put, List.setIfInBounds_toArray, List.set_cons_zero, List.set_cons_succ]
                  refine rg_take 15 rfl (by kernel_rfl) (by kernel_rfl) (by kernel_rfl) (fun _ _ _ _ h => h) (by rfl) ⟨.int .i64 (j : Int), fun w' hx => by (go_simp <;> with_reducible rfl), ?_⟩
                  simp only [Act.put, List.setIfInBounds_toArray, List.set_cons_zero, List.set_cons_succ]
                  refine rg_take 16 rfl (by kernel_rfl) (by kernel_rfl) (by kernel_rfl) (fun _ _ _ _ h => h) (by rfl) ⟨_, fun w' hx => by (go_simp <;> with_reducible rfl), ?_⟩   -- t47 := indexAddr 23 t43 t46
                  simp only [Act.put, List.setIfInBounds_toArray, List.set_cons_zero, List.set_cons_succ]
                  refine rg_take 17 rfl (by kernel_rfl) (by kernel_rfl) (by kernel_rfl) (fun _ _ _ _ h => h) (by rfl) ⟨_, fun w' hx => by (go_simp <;> with_reducible rfl), ?_⟩   -- t48 := fieldAddr 50 t47 1
                  simp only [Act.put, List.setIfInBounds_toArray, List.set_cons_zero, List.set_cons_succ]
                  refine rg_take 18 rfl (by kernel_rfl) (by kernel_rfl) (by kernel_rfl) (fun _ _ _ _ h => h) (by rfl) ⟨_, fun w' hx => by have hcx := hx.load hkc1; (go_simp <;> with_reducible rfl), ?_⟩
                  simp only [Act.put, List.setIfInBounds_toArray, List.set_cons_zero, List.set_cons_succ]
                  refine rg_take 19 rfl (by kernel_rfl) (by kernel_rfl) (by kernel_rfl) (fun _ _ _ _ h => h) (by rfl) ⟨.string ⟨(y.x.key).toArray⟩, fun w' hx => ex_str rfl rfl Try.underlying33 Try.underlying5 Try.underlying9 (hyk.below hx) rfl, ?_⟩
                  simp only [Act.put, List.setIfInBounds_toArray, List.set_cons_zero, List.set_cons_succ]
                  refine rg_take 20 rfl (by kernel_rfl) (by kernel_rfl) (by kernel_rfl) (fun _ _ _ _ h => h) (by rfl) ⟨_, fun w' hx => by (go_simp <;> with_reducible rfl), ?_⟩
                  simp only [Act.put, List.setIfInBounds_toArray, List.set_cons_zero, List.set_cons_succ]
                  refine rg_take 21 rfl (by kernel_rfl) (by kernel_rfl) (by kernel_rfl) (fun _ _ _ _ h => h) (by rfl) ⟨.string ⟨(k).toArray⟩, fun w' hx => ex_str rfl rfl Try.underlying33 Try.underlying5 Try.underlying9 (hkk2.below hx) rfl, ?_⟩
                  simp only [Act.put, List.setIfInBounds_toArray, List.set_cons_zero, List.set_cons_succ]
                  refine rg_take 22 rfl (by kernel_rfl) (by kernel_rfl) (by kernel_rfl) (fun _ _ _ _ h => h) (by rfl) ⟨.bool (!(ltB y.x.key k)), fun w' hx => ex_geqS rfl rfl rfl, ?_⟩
                  rw [hq]
                  simp only [Act.put, List.setIfInBounds_toArray, List.set_cons_zero, List.set_cons_succ]
                  refine rg_take 23 rfl (by kernel_rfl) (by kernel_rfl) (by kernel_rfl) (fun _ _ _ _ h => h) (by rfl) ⟨_, fun w' hx => by (go_simp <;> with_reducible rfl), ?_⟩
                  simp only [Act.put, List.setIfInBounds_toArray, List.set_cons_zero, List.set_cons_succ]
                  refine rg_take 24 rfl (by kernel_rfl) (by kernel_rfl) (by kernel_rfl) (fun _ _ _ _ h => h) (by rfl) ⟨_, fun w' hx => by (go_simp <;> with_reducible rfl), ?_⟩
                  simp only [Act.put, List.setIfInBounds_toArray, List.set_cons_zero, List.set_cons_succ]
                  refine rg_done (by kernel_rfl) ?_
                  clear hkey hw hpos hkc1 hyk hkk2 hq
                  obtain ⟨A5, hA5⟩ : ∃ A5, A5 = (if c1 = 1 + n then some bd else (some bd).map (·.add ((1 + n) * 1))) := ⟨_, rfl⟩
                  have hrd5 : ∀ W, RdB W (some bd) (t :: r) → RdB W A5 ((t :: r).drop (1 + n)) := fun W h => h.from_ (k := 1 + n) (by simp; omega) (by simpa using hcp) hA5
                  obtain ⟨m5, hm5⟩ : ∃ m5, m5 = r.length + 1 - (1 + n) := ⟨_, rfl⟩
                  have h5l : ((t :: r).drop (1 + n)).length = m5 := by rw [List.length_drop, List.length_cons, hm5]
                  obtain ⟨W3, hW3⟩ : ∃ W3, W3 = w2.drew.setRow wr.heap.size #[.bool false, .slice A3 k.length c3, .slice none 0 0] := ⟨_, rfl⟩
                  have g3 : W3.heap[wr.heap.size]? = some (.cells #[.bool false, .slice A3 k.length c3, .slice none 0 0] 50 (0, 0)) := by rw [hW3]; exact setRow_heap _ _ _ _ _ _ G2.out
                  have hE3 : Ext wr W3 := by rw [hW3]; exact ext_rowD hxd (Nat.le_refl _) _
                  have hkA : Own W3 (wr.heap.size + 1) 5 1 A3 k.length c3 (bvs k) := by
                    rw [hW3]
                    refine own_setRow ?_ (by omega) _
                    have h9 := Ho3.out.below (Ext.drew w2)
                    rw [Hs1.out] at h9
                    exact h9
                  have hc30 : W3.cell? ⟨wr.heap.size, 0, none⟩ = some (.bool false) := by rw [cell_of_row _ _ _ _ _ _ g3]; rfl
                  have w1n : IntKind.i64.wrap (1 + (n : Int)) = ((1 + n : Nat) : Int) := by rw [IntKind.wrap_i64]; omega
                  have HA5 := Lib.hid hA5
                  have Hrd5 := Lib.hid hrd5
                  have Hm5 := Lib.hid hm5
                  have H5l := Lib.hid h5l
                  have HW3 := Lib.hid hW3
                  have G3 := Lib.hid g3
                  have HE3 := Lib.hid hE3
                  have HKA := Lib.hid hkA
                  clear hA5 hrd5 hm5 h5l hW3 g3 hE3 hkA
                  go_wp2_with (first | (refine wpList_store_at (by rfl) 33 (.tmp 57) (.tmp 56) rfl ⟨wr.heap.size, 1, none⟩ rfl wr.heap.size 1 rfl (.slice A3 k.length c3) rfl #[.slice A3 k.length c3] rfl _ 50 G2.out (by kernel_rfl) (by simp) (by simp [Value.oneCell']) #[.bool false, .slice A3 k.length c3, .slice none 0 0] rfl ?_; rw [← HW3.out]) | (refine wpList_sliceL (by rfl) (.tmp 58) (.tmp 60) 33 rfl elemB (some bd) (r.length + 1) c1 rfl (1 + n) rfl (by omega) A5 HA5.out m5 (c1 - (1 + n)) Hm5.out rfl ?_; refine Hid.out ?_))
                  refine Lib.hid ?_
                  obtain ⟨v, m, y2, hget2⟩ : ∃ v m y2, Vint.getBytes (r.drop n) = (v, m, y2) := ⟨_, _, _, rfl⟩
                  have hd5 : (t :: r).drop (1 + n) = r.drop n := by rw [Nat.add_comm]; rfl
                  have hml : m ≤ m5 := by have := Vint.getBytes_le (r.drop n); rw [hget2, ← hd5, H5l.out] at this; exact this
                  have hm5b : m5 ≤ r.length := by rw [Hm5.out]; omega
                  have HGB2 := getb01 A5 (r.drop n) (c1 - (1 + n)) W3 (by rw [← hd5]; exact Hrd5.out _ (HRw.out.below (HI.out.bel.trans (HE3.out.mono HI.out.bel.size)))) (by rw [← hd5, H5l.out]; omega) (by rw [← hd5, H5l.out, Hm5.out]; omega) hget2
                  rw [← hd5, H5l.out] at HGB2
                  have hone1 : (Opn.one (t :: r) = if y2 ≠ 0 ∨ 1000 < v.length then none else some (⟨false, k, v⟩, 1 + n + m)) := by rw [HO.out, if_neg (by simp [Hkk.out]), hget2]
                  have Hone1 := Lib.hid hone1
                  clear hone1 hget2 hd5
                  go_wp2_with fail
                  refine HGB2.mono ?_
                  rintro e4 w4 ⟨A6, c6, rfl, hr6, hc6, ho6, hb4⟩
                  have g4 : w4.heap[wr.heap.size]? = some (.cells #[.bool false, .slice A3 k.length c3, .slice none 0 0] 50 (0, 0)) := (hb4.block _ (lt_of_heap G3.out)).trans G3.out
                  have hE4 : Ext wr w4 := Ext.tr HE3.out hb4
                  have HNo4 : Hid (Below w.heap.size w w4) := HI.out.bel.trans (hE4.mono HI.out.bel.size)
                  have G4 := Lib.hid g4
                  have HE4 := Lib.hid hE4
                  have Hb4 := Lib.hid hb4
                  have Ho6 := Lib.hid ho6
                  clear g4 hE4 hb4 ho6 hr6 HGB2
                  by_cases hy0 : y2 = 0
                  · subst hy0
                    have hyb2 : ((0 : Nat) : Int) = 0 := rfl
                    by_cases hv : v.length ≤ 1000
                    · have hvi : ¬ ((1000 : Int) < (v.length : Int)) := by omega
                      obtain ⟨A7, hA7⟩ : ∃ A7, A7 = (if c1 - (1 + n) = m then A5 else A5.map (·.add (m * 1))) := ⟨_, rfl⟩
                      have hdd : ((t :: r).drop (1 + n)).drop m = (t :: r).drop (1 + n + m) := List.drop_drop ..
                      have hrd7 : ∀ W, RdB W (some bd) (t :: r) → RdB W A7 ((t :: r).drop (1 + n + m)) := fun W h => by
                        rw [← hdd]; exact (Hrd5.out W h).from_ (by rw [H5l.out]; exact hml) (by rw [H5l.out, Hm5.out]; omega) hA7
                      obtain ⟨m7, hm7⟩ : ∃ m7, m7 = m5 - m := ⟨_, rfl⟩
                      have h7l : ((t :: r).drop (1 + n + m)).length = m7 := by rw [← hdd, List.length_drop, H5l.out, hm7]
                      obtain ⟨W5, hW5⟩ : ∃ W5, W5 = w4.setRow wr.heap.size #[.bool false, .slice A3 k.length c3, .slice A6 v.length c6] := ⟨_, rfl⟩
                      have g5 : W5.heap[wr.heap.size]? = some (.cells #[.bool false, .slice A3 k.length c3, .slice A6 v.length c6] 50 (0, 0)) := by rw [hW5]; exact setRow_heap _ _ _ _ _ _ G4.out
                      have hE5 : Ext wr W5 := by rw [hW5]; exact ext_rowD HE4.out (Nat.le_refl _) _
                      have hkA5 : Own W5 (wr.heap.size + 1) 5 1 A3 k.length c3 (bvs k) := by rw [hW5]; exact own_setRow (HKA.out.below Hb4.out) (by omega) _
                      have hvA5 : Own W5 (wr.heap.size + 1) 5 1 A6 v.length c6 (bvs v) := by
                        have h8 := lt_of_heap G3.out
                        rw [hW5]; exact (own_setRow (Ho6.out.mono (by omega)) (by omega) _)
                      have HA7 := Lib.hid hA7
                      have Hrd7 := Lib.hid hrd7
                      have Hm7 := Lib.hid hm7
                      have H7l := Lib.hid h7l
                      have HW5 := Lib.hid hW5
                      have G5 := Lib.hid g5
                      have HE5 := Lib.hid hE5
                      have HKA5 := Lib.hid hkA5
                      have HVA5 := Lib.hid hvA5
                      clear hA7 hrd7 hm7 h7l hW5 g5 hE5 hkA5 hvA5 hdd
                      go_wp2_with (first | (refine wpList_store_at (by rfl) 33 (.tmp 79) (.tmp 78) rfl ⟨wr.heap.size, 2, none⟩ rfl wr.heap.size 2 rfl (.slice A6 v.length c6) rfl #[.slice A6 v.length c6] rfl _ 50 G4.out (by kernel_rfl) (by simp) (by simp [Value.oneCell']) #[.bool false, .slice A3 k.length c3, .slice A6 v.length c6] rfl ?_; rw [← HW5.out]) | (refine wpList_sliceL (by rfl) (.tmp 80) (.tmp 81) 33 rfl elemB A5 m5 (c1 - (1 + n)) rfl m rfl (by omega) A7 HA7.out m7 (c1 - (1 + n) - m) Hm7.out rfl ?_; refine Hid.out ?_))
                      refine Lib.hid ?_
                      obtain ⟨q, hq⟩ : ∃ q : OpV, q = ⟨A3, c3, A6, c6, ⟨false, k, v⟩⟩ := ⟨_, rfl⟩
                      have hqc : (#[.bool false, .slice A3 k.length c3, .slice A6 v.length c6] : Array Value) = q.cells := by rw [hq]; rfl
                      have gq : W5.heap[wr.heap.size]? = some (.cells q.cells 50 (0, 0)) := by rw [← hqc]; exact G5.out
                      have hqa : q.At w.heap.size W5 := by
                        have := HI.out.bel.size
                        rw [hq]; exact ⟨⟨HKA5.out.rd', HVA5.out.rd', HKA5.out.nc, HVA5.out.nc⟩, HKA5.out.far (by omega), HVA5.out.far (by omega)⟩
                      have hone : Opn.one (t :: r) = some (q.x, 1 + n + m) := by rw [Hone1.out, if_neg (by simp; omega)]; rw [hq]
                      have hbq : Opn.bars (L.map OpV.x) q.x = false := by have := Hbar.out; unfold Opn.bars at this ⊢; rw [hq]; exact this
                      have hcq : ((t :: r).drop (1 + n + m)).length ≤ c1 - (1 + n) - m := by rw [H7l.out, Hm7.out, Hm5.out]; omega
                      have hEv : Ext wr (W5.alloc (.cells q.cells 50)) := Ext.tr HE5.out (Ext.alloc _ _)
                      have hown5 := HI.out.own.below hEv
                      have hrdq := (RdO.one W5 50 q hqa.i).rd
                      have hsz5 : w.heap.size ≤ (W5.alloc (.cells q.cells 50)).heap.size := Nat.le_trans HI.out.bel.size hEv.size
                      have hL5 : L.length ≤ 500000 := by have := HI.out.tot; simp only [List.length_cons] at this; omega
                      have Gq := Lib.hid gq
                      have Hown5 := Lib.hid hown5
                      have Hrdq := Lib.hid hrdq
                      have Hqa := Lib.hid hqa
                      have Hsz5 := Lib.hid hsz5
                      have Hone := Lib.hid hone
                      have Hbq := Lib.hid hbq
                      have Hcq := Lib.hid hcq
                      clear gq hown5 hrdq hqa hsz5 hone hbq hcq hcp htot hq hqc
                      go_wp2_with (first | (refine wpList_load_rowG (by rfl) 50 (.tmp 5) rfl wr.heap.size rfl 50 q.cells (0, 0) _ Gq.out Try.underlying50 rfl (oinfo _) ?_) | (refine wpList_buildOne (by rfl) 23 (.tmp 84) rfl elemO q.cells rfl rfl (by omega) ?_; at_builtin; refine wpList_app rfl (.tmp 83) (.tmp 85) 23 rfl elemO w.heap.size (some ad) L.length c' (ocs L) rfl (some ⟨W5.heap.size, 0, none⟩) 1 1 (ocs [q]) rfl (L.length + 1) rfl (ocs (L ++ [q])) (ocs_app _ _) Hown5.out Hrdq.out (ocs_one_cell _) (by omega) (by omega) Hsz5.out ?_; intro D2 c4 w4 ho4 hg4 hr4))
                      go_roundw
                      case rel =>
                        exact ⟨(t :: r).drop (1 + n + m), A7, c1 - (1 + n) - m, L ++ [q], D2, c4, f - 1, by rw [H7l.out], by rw [List.length_append]; rfl, HI.out.push (by simp) Hone.out Hbq.out Hrd7.out Hcq.out (Hqa.out.ext (Ext.alloc _ _)) hEv hg4 ho4⟩
                      case measure =>
                        have h8 := (Opn.one_some Hone.out).2.2
                        have h9 := H7l.out
                        simp only [lenV, List.length_drop, List.length_cons] at h8 h9 ⊢
                        omega
                    · have hvi : (1000 : Int) < (v.length : Int) := by omega
                      have Hn := Lib.hid (HNONE.out (by rw [Hone1.out]; exact if_pos (.inr (by omega))))
                      clear hv
                      go_wp2_with fail
                      refine bodyPost_ret (results_tmp2 rfl _ _ _) rfl ?_
                      exact .inr ⟨Hn.out, rfl, HNo4.out⟩
                  · have hb1 : ((y2 : Int) != 0) = true := by rw [bne_iff_ne]; omega
                    have Hn := Lib.hid (HNONE.out (by rw [Hone1.out]; exact if_pos (.inl hy0)))
                    clear hy0
                    go_wp2_with fail
                    refine bodyPost_ret (results_tmp2 rfl _ _ _) rfl ?_
                    exact .inr ⟨Hn.out, rfl, HNo4.out⟩
            · rw [show decide (1 ≤ k.length ∧ k.length ≤ 24) = false from decide_eq_false hkk] at hkey
              have Hn := Lib.hid (HNONE.out (by rw [HO.out]; exact if_pos (.inr hkk)))
              clear hkk
              go_wp2_with fail
              refine rg_start (by kernel_rfl) ?_
              refine rg_take 0 rfl (by kernel_rfl) (by kernel_rfl) (by kernel_rfl) (fun _ _ _ _ h => h) (by rfl) ⟨_, fun w' hx => by (go_simp <;> with_reducible rfl), ?_⟩
              simp only [Act.put, List.setIfInBounds_toArray, List.set_cons_zero, List.set_cons_succ]
              refine rg_take 1 rfl (by kernel_rfl) (by kernel_rfl) (by kernel_rfl) (fun _ _ _ _ h => h) (by rfl) ⟨.bool false, fun w' hx => by (go_simp <;> with_reducible rfl), ?_⟩
              simp only [Act.put, List.setIfInBounds_toArray, List.set_cons_zero, List.set_cons_succ]
              refine rg_take 2 rfl (by kernel_rfl) (by kernel_rfl) (by kernel_rfl) (fun _ _ _ _ h => h) (by rfl) ⟨_, fun w' hx => by (go_simp <;> with_reducible rfl), ?_⟩
              simp only [Act.put, List.setIfInBounds_toArray, List.set_cons_zero, List.set_cons_succ]
              refine rg_take 3 rfl (by kernel_rfl) (by kernel_rfl) (by kernel_rfl) (fun _ _ _ _ h => h) (by rfl) ⟨_, fun w' hx => by (go_simp <;> with_reducible rfl), ?_⟩
              simp only [Act.put, List.setIfInBounds_toArray, List.set_cons_zero, List.set_cons_succ]
              refine rg_call 4 hkey rfl (by kernel_rfl) (by rfl) (by go_simp) ?_
              rintro e w' ⟨rfl, rfl⟩
              refine ⟨_, rfl, Ext.refl _, ?_⟩
              simp only [Act.put, List.setIfInBounds_toArray, List.set_cons_zero, List.set_cons_succ]
              refine rg_take 5 rfl (by kernel_rfl) (by kernel_rfl) (by kernel_rfl) (fun _ _ _ _ h => h) (by rfl) ⟨_, fun w' hx => by (go_simp <;> with_reducible rfl), ?_⟩   -- t36 := unOp not 4 t35
              simp only [Act.put, List.setIfInBounds_toArray, List.set_cons_zero, List.set_cons_succ]
              refine rg_take 6 rfl (by kernel_rfl) (by kernel_rfl) (by kernel_rfl) (fun _ _ _ _ h => h) (by rfl) ⟨_, fun w' hx => by (go_simp <;> with_reducible rfl), ?_⟩
              simp only [Act.put, List.setIfInBounds_toArray, List.set_cons_zero, List.set_cons_succ]
              refine rg_take 7 rfl (by kernel_rfl) (by kernel_rfl) (by kernel_rfl) (fun _ _ _ _ h => h) (by rfl) ⟨_, fun w' hx => by (go_simp <;> with_reducible rfl), ?_⟩
              simp only [Act.put, List.setIfInBounds_toArray, List.set_cons_zero, List.set_cons_succ]
              refine rg_skip 8 rfl (by kernel_rfl) (by kernel_rfl) (by kernel_rfl) (fun _ _ _ _ h => h) (by rfl) ?_
              simp only [Act.put, List.setIfInBounds_toArray, List.set_cons_zero, List.set_cons_succ]
              refine rg_skip 9 rfl (by kernel_rfl) (by kernel_rfl) (by kernel_rfl) (fun _ _ _ _ h => h) (by rfl) ?_
              simp only [Act.put, List.setIfInBounds_toArray, List.set_cons_zero, List.set_cons_succ]
              refine rg_skip 10 rfl (by kernel_rfl) (by kernel_rfl) (by kernel_rfl) (fun _ _ _ _ h => h) (by rfl) ?_
              simp only [Act.put, List.setIfInBounds_toArray, List.set_cons_zero, List.set_cons_succ]
              refine rg_skip 11 rfl (by kernel_rfl) (by kernel_rfl) (by kernel_rfl) (fun _ _ _ _ h => h) (by rfl) ?_
              simp only [Act.put, List.setIfInBounds_toArray, List.set_cons_zero, List.set_cons_succ]
              refine rg_skip 12 rfl (by kernel_rfl) (by kernel_rfl) (by kernel_rfl) (fun _ _ _ _ h => h) (by rfl) ?_
              simp only [Act.put, List.setIfInBounds_toArray, List.set_cons_zero, List.set_cons_succ]
              refine rg_skip 13 rfl (by kernel_rfl) (by kernel_rfl) (by kernel_rfl) (fun _ _ _ _ h => h) (by rfl) ?_
              simp only [Act.put, List.setIfInBounds_toArray, List.set_cons_zero, List.set_cons_succ]
              refine rg_skip 14 rfl (by kernel_rfl) (by kernel_rfl) (by kernel_rfl) (fun _ _ _ _ h => h) (by rfl) ?_
              simp only [Act.put, List.setIfInBounds_toArray, List.set_cons_zero, List.set_cons_succ]
              refine rg_skip 15 rfl (by kernel_rfl) (by kernel_rfl) (by kernel_rfl) (fun _ _ _ _ h => h) (by rfl) ?_
              simp only [Act.put, List.setIfInBounds_toArray, List.set_cons_zero, List.set_cons_succ]
              refine rg_skip 16 rfl (by kernel_rfl) (by kernel_rfl) (by kernel_rfl) (fun _ _ _ _ h => h) (by rfl) ?_
              simp only [Act.put, List.setIfInBounds_toArray, List.set_cons_zero, List.set_cons_succ]
              refine rg_skip 17 rfl (by kernel_rfl) (by kernel_rfl) (by kernel_rfl) (fun _ _ _ _ h => h) (by rfl) ?_
              simp only [Act.put, List.setIfInBounds_toArray, List.set_cons_zero, List.set_cons_succ]
              refine rg_skip 18 rfl (by kernel_rfl) (by kernel_rfl) (by kernel_rfl) (fun _ _ _ _ h => h) (by rfl) ?_
              simp only [Act.put, List.setIfInBounds_toArray, List.set_cons_zero, List.set_cons_succ]
              refine rg_skip 19 rfl (by kernel_rfl) (by kernel_rfl) (by kernel_rfl) (fun _ _ _ _ h => h) (by rfl) ?_
              simp only [Act.put, List.setIfInBounds_toArray, List.set_cons_zero, List.set_cons_succ]
              refine rg_skip 20 rfl (by kernel_rfl) (by kernel_rfl) (by kernel_rfl) (fun _ _ _ _ h => h) (by rfl) ?_
              simp only [Act.put, List.setIfInBounds_toArray, List.set_cons_zero, List.set_cons_succ]
              refine rg_skip 21 rfl (by kernel_rfl) (by kernel_rfl) (by kernel_rfl) (fun _ _ _ _ h => h) (by rfl) ?_
              simp only [Act.put, List.setIfInBounds_toArray, List.set_cons_zero, List.set_cons_succ]
              refine rg_skip 22 rfl (by kernel_rfl) (by kernel_rfl) (by kernel_rfl) (fun _ _ _ _ h => h) (by rfl) ?_
              simp only [Act.put, List.setIfInBounds_toArray, List.set_cons_zero, List.set_cons_succ]
              refine rg_skip 23 rfl (by kernel_rfl) (by kernel_rfl) (by kernel_rfl) (fun _ _ _ _ h => h) (by rfl) ?_
              simp only [Act.put, List.setIfInBounds_toArray, List.set_cons_zero, List.set_cons_succ]
              refine rg_take 24 rfl (by kernel_rfl) (by kernel_rfl) (by kernel_rfl) (fun _ _ _ _ h => h) (by rfl) ⟨_, fun w' hx => by (go_simp <;> with_reducible rfl), ?_⟩
              simp only [Act.put, List.setIfInBounds_toArray, List.set_cons_zero, List.set_cons_succ]
              refine rg_done (by kernel_rfl) ?_
              go_wp2_with fail
              refine bodyPost_ret (results_tmp2 rfl _ _ _) rfl ?_
              exact .inr ⟨Hn.out, rfl, HNo.out⟩
          · have hb1 : ((x : Int) != 0) = true := by rw [bne_iff_ne]; omega
            have Hn := Lib.hid (HNONE.out (by rw [HO.out]; exact if_pos (.inl hx0)))
            clear hx0
            go_wp2_with fail
            refine rg_start (by kernel_rfl) ?_
            refine rg_take 0 rfl (by kernel_rfl) (by kernel_rfl) (by kernel_rfl) (fun _ _ _ _ h => h) (by rfl) ⟨_, fun w' hx => by (go_simp <;> with_reducible rfl), ?_⟩
            simp only [Act.put, List.setIfInBounds_toArray, List.set_cons_zero, List.set_cons_succ]
            refine rg_take 1 rfl (by kernel_rfl) (by kernel_rfl) (by kernel_rfl) (fun _ _ _ _ h => h) (by rfl) ⟨.bool true, fun w' hx => by (go_simp <;> with_reducible rfl), ?_⟩
            simp only [Act.put, List.setIfInBounds_toArray, List.set_cons_zero, List.set_cons_succ]
            refine rg_take 2 rfl (by kernel_rfl) (by kernel_rfl) (by kernel_rfl) (fun _ _ _ _ h => h) (by rfl) ⟨_, fun w' hx => by (go_simp <;> with_reducible rfl), ?_⟩
            simp only [Act.put, List.setIfInBounds_toArray, List.set_cons_zero, List.set_cons_succ]
            refine rg_skip 3 rfl (by kernel_rfl) (by kernel_rfl) (by kernel_rfl) (fun _ _ _ _ h => h) (by rfl) ?_
            simp only [Act.put, List.setIfInBounds_toArray, List.set_cons_zero, List.set_cons_succ]
            refine rg_skip 4 rfl (by kernel_rfl) (by kernel_rfl) (by kernel_rfl) (fun _ _ _ _ h => h) (by rfl) ?_
            simp only [Act.put, List.setIfInBounds_toArray, List.set_cons_zero, List.set_cons_succ]
            refine rg_skip 5 rfl (by kernel_rfl) (by kernel_rfl) (by kernel_rfl) (fun _ _ _ _ h => h) (by rfl) ?_
            simp only [Act.put, List.setIfInBounds_toArray, List.set_cons_zero, List.set_cons_succ]
            refine rg_take 6 rfl (by kernel_rfl) (by kernel_rfl) (by kernel_rfl) (fun _ _ _ _ h => h) (by rfl) ⟨_, fun w' hx => by (go_simp <;> with_reducible rfl), ?_⟩
            simp only [Act.put, List.setIfInBounds_toArray, List.set_cons_zero, List.set_cons_succ]
            refine rg_take 7 rfl (by kernel_rfl) (by kernel_rfl) (by kernel_rfl) (fun _ _ _ _ h => h) (by rfl) ⟨_, fun w' hx => by (go_simp <;> with_reducible rfl), ?_⟩
            simp only [Act.put, List.setIfInBounds_toArray, List.set_cons_zero, List.set_cons_succ]
            refine rg_skip 8 rfl (by kernel_rfl) (by kernel_rfl) (by kernel_rfl) (fun _ _ _ _ h => h) (by rfl) ?_
            simp only [Act.put, List.setIfInBounds_toArray, List.set_cons_zero, List.set_cons_succ]
            refine rg_skip 9 rfl (by kernel_rfl) (by kernel_rfl) (by kernel_rfl) (fun _ _ _ _ h => h) (by rfl) ?_
            simp only [Act.put, List.setIfInBounds_toArray, List.set_cons_zero, List.set_cons_succ]
            refine rg_skip 10 rfl (by kernel_rfl) (by kernel_rfl) (by kernel_rfl) (fun _ _ _ _ h => h) (by rfl) ?_
            simp only [Act.put, List.setIfInBounds_toArray, List.set_cons_zero, List.set_cons_succ]
            refine rg_skip 11 rfl (by kernel_rfl) (by kernel_rfl) (by kernel_rfl) (fun _ _ _ _ h => h) (by rfl) ?_
            simp only [Act.put, List.setIfInBounds_toArray, List.set_cons_zero, List.set_cons_succ]
            refine rg_skip 12 rfl (by kernel_rfl) (by kernel_rfl) (by kernel_rfl) (fun _ _ _ _ h => h) (by rfl) ?_
            simp only [Act.put, List.setIfInBounds_toArray, List.set_cons_zero, List.set_cons_succ]
            refine rg_skip 13 rfl (by kernel_rfl) (by kernel_rfl) (by kernel_rfl) (fun _ _ _ _ h => h) (by rfl) ?_
            simp only [Act.put, List.setIfInBounds_toArray, List.set_cons_zero, List.set_cons_succ]
            refine rg_skip 14 rfl (by kernel_rfl) (by kernel_rfl) (by kernel_rfl) (fun _ _ _ _ h => h) (by rfl) ?_
            simp only [Act.put, List.setIfInBounds_toArray, List.set_cons_zero, List.set_cons_succ]
            refine rg_skip 15 rfl (by kernel_rfl) (by kernel_rfl) (by kernel_rfl) (fun _ _ _ _ h => h) (by rfl) ?_
            simp only [Act.put, List.setIfInBounds_toArray, List.set_cons_zero, List.set_cons_succ]
            refine rg_skip 16 rfl (by kernel_rfl) (by kernel_rfl) (by kernel_rfl) (fun _ _ _ _ h => h) (by rfl) ?_
            simp only [Act.put, List.setIfInBounds_toArray, List.set_cons_zero, List.set_cons_succ]
            refine rg_skip 17 rfl (by kernel_rfl) (by kernel_rfl) (by kernel_rfl) (fun _ _ _ _ h => h) (by rfl) ?_
            simp only [Act.put, List.setIfInBounds_toArray, List.set_cons_zero, List.set_cons_succ]
            refine rg_skip 18 rfl (by kernel_rfl) (by kernel_rfl) (by kernel_rfl) (fun _ _ _ _ h => h) (by rfl) ?_
            simp only [Act.put, List.setIfInBounds_toArray, List.set_cons_zero, List.set_cons_succ]
            refine rg_skip 19 rfl (by kernel_rfl) (by kernel_rfl) (by kernel_rfl) (fun _ _ _ _ h => h) (by rfl) ?_
            simp only [Act.put, List.setIfInBounds_toArray, List.set_cons_zero, List.set_cons_succ]
            refine rg_skip 20 rfl (by kernel_rfl) (by kernel_rfl) (by kernel_rfl) (fun _ _ _ _ h => h) (by rfl) ?_
            simp only [Act.put, List.setIfInBounds_toArray, List.set_cons_zero, List.set_cons_succ]
            refine rg_skip 21 rfl (by kernel_rfl) (by kernel_rfl) (by kernel_rfl) (fun _ _ _ _ h => h) (by rfl) ?_
            simp only [Act.put, List.setIfInBounds_toArray, List.set_cons_zero, List.set_cons_succ]
            refine rg_skip 22 rfl (by kernel_rfl) (by kernel_rfl) (by kernel_rfl) (fun _ _ _ _ h => h) (by rfl) ?_
            simp only [Act.put, List.setIfInBounds_toArray, List.set_cons_zero, List.set_cons_succ]
            refine rg_skip 23 rfl (by kernel_rfl) (by kernel_rfl) (by kernel_rfl) (fun _ _ _ _ h => h) (by rfl) ?_
            simp only [Act.put, List.setIfInBounds_toArray, List.set_cons_zero, List.set_cons_succ]
            refine rg_take 24 rfl (by kernel_rfl) (by kernel_rfl) (by kernel_rfl) (fun _ _ _ _ h => h) (by rfl) ⟨_, fun w' hx => by (go_simp <;> with_reducible rfl), ?_⟩
            simp only [Act.put, List.setIfInBounds_toArray, List.set_cons_zero, List.set_cons_succ]
            refine rg_done (by kernel_rfl) ?_
            go_wp2_with fail
            refine bodyPost_ret (results_tmp2 rfl _ _ _) rfl ?_
            exact .inr ⟨Hn.out, rfl, HNo.out⟩
end Go.Proofs.Ytdekdblebflklaa
