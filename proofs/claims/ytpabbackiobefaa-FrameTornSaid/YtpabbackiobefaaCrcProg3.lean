
/- Contracts of the program's functions for sums (crc): what is put, and checked. -/

import Derived.Test.YtpabbackiobefaaCrcProg2

import Derived.Test.YtpabbackiobefaaSlices

import Derived.Test.YtpabbackiobefaaReg2

namespace Go.Proofs.Ytpabbackiobefaa

open Go.RowKit

theorem fixed4 (n : Nat) : Vint.fixed n 4 = Crc.four n := by
  have : Vint.fixed n 4 = Vint.fixL n 4 := by unfold Vint.fixed; rw [if_pos (by omega)]; rfl
  rw [this]
  simp [Vint.fixL, Vint.fixB, Crc.four, List.range, List.range.loop]

set_option maxHeartbeats 400000 in
theorem put_any (A : Option Addr) (bs : List UInt8) (cap : Nat) (w : World) (hA : RdB w A bs) (hl : bs.length ≤ 1000000) :
    Calls Try.prog 22 #[.slice A bs.length cap] w fun e w' => ∃ A' c', e = .returned (.slice A' (Crc.put bs).length c') ∧ Own w' w.heap.size 5 1 A' (Crc.put bs).length c' (bvs (Crc.put bs)) ∧ Below w.heap.size w w' := by
  go_enter Try.func22, Try.ntmps22
  go_wp2_with fail
  have h1 := sum_any _ [⟨A, bs, cap⟩] 1 _ (RdL.one w 23 A bs cap hA) (by simp) (by rw [cat_one]; omega)
  rw [cat_one] at h1
  refine h1.mono ?_
  rintro e w1 ⟨rfl, hb1⟩
  have hs := Crc.sum_lt bs
  have hbw := ext_trans ((Below.refl w.heap.size w).alloc (Nat.le_refl _) _) hb1
  clear h1
  go_wp2_with fail
  refine (fixed_any (Crc.sum bs) 4 w1).mono ?_
  rintro e w2 ⟨A2, c2, rfl, ho2, hb2⟩
  rw [fixed4] at ho2
  rw [fixed4]
  have hA2 := hA.below (ext_trans hbw hb2)
  go_wp2_with fail
  have h3 := concat_any _ [⟨A, bs, cap⟩, ⟨A2, Crc.four (Crc.sum bs), c2⟩] 2 _ (RdL.two w2 23 A A2 bs (Crc.four (Crc.sum bs)) cap c2 hA2 ho2.rd') (by simp) (by rw [cat_two]; simp [Crc.four_len]; omega)
  rw [cat_two, show bs ++ Crc.four (Crc.sum bs) = Crc.put bs from rfl] at h3
  refine h3.mono ?_
  rintro e w3 ⟨A3, c3, rfl, ho3, hb3⟩
  clear h3
  have hb4 := ext_trans (ext_trans hbw hb2) (ext_trans ((Below.refl w2.heap.size w2).alloc (Nat.le_refl _) _) hb3)
  go_wp2
  go_ret
  exact ⟨A3, c3, rfl, ho3.mono (by have := (ext_trans hbw hb2).size; simp; omega), hb4⟩

theorem number4 (b p : List UInt8) (h : 4 ≤ b.length) (hp : p = b.take (b.length - 4)) : decide (Crc.sum p = Vint.number (b.drop (b.length - 4))) = (Crc.put p == b) := by
  have hd : (b.drop (b.length - 4)).length = 4 := by simp; omega
  have hb : b = p ++ b.drop (b.length - 4) := by rw [hp, List.take_append_drop]
  have hs := Crc.sum_lt p
  generalize b.drop (b.length - 4) = d at *
  match d, hd with
  | [x0, x1, x2, x3], _ =>
    have e0 : Vint.number [x0, x1, x2, x3] = ((x0.toNat * 256 + x1.toNat) * 256 + x2.toNat) * 256 + x3.toNat := by simp [Vint.number, Vint.numL]
    rw [Bool.eq_iff_iff, beq_iff_eq, decide_eq_true_iff, e0, hb, Crc.put, List.append_cancel_left_eq, Crc.four]
    have l0 := x0.toNat_lt
    have l1 := x1.toNat_lt
    have l2 := x2.toNat_lt
    have l3 := x3.toNat_lt
    simp only [List.cons.injEq, and_true, ← UInt8.toNat_inj, UInt8.toNat_ofNat']
    omega

set_option maxHeartbeats 800000 in
theorem check_any (A : Option Addr) (bs : List UInt8) (cap : Nat) (w : World) (hA : RdB w A bs) (hl : bs.length ≤ 1000000) (hcap : bs.length ≤ cap) :
    Calls Try.prog 38 #[.slice A bs.length cap] w fun e w' => ∃ A' c', e = .returned (.tuple #[.slice A' (Crc.got bs).length c', .bool (Crc.ok bs)]) ∧ Own w' w.heap.size 5 1 A' (Crc.got bs).length c' (bvs (Crc.got bs)) ∧ Below w.heap.size w w' := by
  by_cases h4 : bs.length < 4
  · have h1 : Crc.ok bs = false := by unfold Crc.ok; simp; omega
    have h2 : Crc.got bs = [] := by unfold Crc.got; rw [h1]; rfl
    rw [h1, h2]
    clear h1 h2
    have hneg : decide ((bs.length : Int) - 4 < 0) = true := by simp; omega
    go_enter Try.func38, Try.ntmps38
    go_wp2
    refine rg_start (by kernel_rfl) ?_
    refine rg_take 0 rfl (by kernel_rfl) (by kernel_rfl) (by kernel_rfl) (fun _ _ _ _ h => h) (by rfl) ⟨_, fun w' hx => by (go_simp <;> with_reducible rfl), ?_⟩
    simp only [Act.put, List.setIfInBounds_toArray, List.set_cons_zero, List.set_cons_succ]
    refine rg_take 1 rfl (by kernel_rfl) (by kernel_rfl) (by kernel_rfl) (fun _ _ _ _ h => h) (by rfl) ⟨_, fun w' hx => by (go_simp <;> with_reducible rfl), ?_⟩   -- t9 := binOp lss 3 t8 0:i64 3
    simp only [Act.put, List.setIfInBounds_toArray, List.set_cons_zero, List.set_cons_succ]
    refine rg_take 2 rfl (by kernel_rfl) (by kernel_rfl) (by kernel_rfl) (fun _ _ _ _ h => h) (by rfl) ⟨_, fun w' hx => by (go_simp <;> with_reducible rfl), ?_⟩
    simp only [Act.put, List.setIfInBounds_toArray, List.set_cons_zero, List.set_cons_succ]
    refine rg_skip 3 rfl (by kernel_rfl) (by kernel_rfl) (by kernel_rfl) (fun _ _ _ _ h => h) (by rfl) ?_
    simp only [Act.put, List.setIfInBounds_toArray, List.set_cons_zero, List.set_cons_succ]
    refine rg_skip 4 rfl (by kernel_rfl) (by kernel_rfl) (by kernel_rfl) (fun _ _ _ _ h => h) (by rfl) ?_
    simp only [Act.put, List.setIfInBounds_toArray, List.set_cons_zero, List.set_cons_succ]
    refine rg_skip 5 rfl (by kernel_rfl) (by kernel_rfl) (by kernel_rfl) (fun _ _ _ _ h => h) (by rfl) ?_
    simp only [Act.put, List.setIfInBounds_toArray, List.set_cons_zero, List.set_cons_succ]
    refine rg_skip 6 rfl (by kernel_rfl) (by kernel_rfl) (by kernel_rfl) (fun _ _ _ _ h => h) (by rfl) ?_
    simp only [Act.put, List.setIfInBounds_toArray, List.set_cons_zero, List.set_cons_succ]
    refine rg_skip 7 rfl (by kernel_rfl) (by kernel_rfl) (by kernel_rfl) (fun _ _ _ _ h => h) (by rfl) ?_
    simp only [Act.put, List.setIfInBounds_toArray, List.set_cons_zero, List.set_cons_succ]
    refine rg_skip 8 rfl (by kernel_rfl) (by kernel_rfl) (by kernel_rfl) (fun _ _ _ _ h => h) (by rfl) ?_
    simp only [Act.put, List.setIfInBounds_toArray, List.set_cons_zero, List.set_cons_succ]
    refine rg_skip 9 rfl (by kernel_rfl) (by kernel_rfl) (by kernel_rfl) (fun _ _ _ _ h => h) (by rfl) ?_
    simp only [Act.put, List.setIfInBounds_toArray, List.set_cons_zero, List.set_cons_succ]
    refine rg_skip 10 rfl (by kernel_rfl) (by kernel_rfl) (by kernel_rfl) (fun _ _ _ _ h => h) (by rfl) ?_
    simp only [Act.put, List.setIfInBounds_toArray, List.set_cons_zero, List.set_cons_succ]
    refine rg_skip 11 rfl (by kernel_rfl) (by kernel_rfl) (by kernel_rfl) (fun _ _ _ _ h => h) (by rfl) ?_
    simp only [Act.put, List.setIfInBounds_toArray, List.set_cons_zero, List.set_cons_succ]
    refine rg_skip 12 rfl (by kernel_rfl) (by kernel_rfl) (by kernel_rfl) (fun _ _ _ _ h => h) (by rfl) ?_
    simp only [Act.put, List.setIfInBounds_toArray, List.set_cons_zero, List.set_cons_succ]
    refine rg_skip 13 rfl (by kernel_rfl) (by kernel_rfl) (by kernel_rfl) (fun _ _ _ _ h => h) (by rfl) ?_
    simp only [Act.put, List.setIfInBounds_toArray, List.set_cons_zero, List.set_cons_succ]
    refine rg_take 14 rfl (by kernel_rfl) (by kernel_rfl) (by kernel_rfl) (fun _ _ _ _ h => h) (by rfl) ⟨_, fun w' hx => by (go_simp <;> with_reducible rfl), ?_⟩
    simp only [Act.put, List.setIfInBounds_toArray, List.set_cons_zero, List.set_cons_succ]
    refine rg_done (by kernel_rfl) ?_
    go_wp2
    go_ret2
    exact ⟨none, 0, rfl, Own.none_ _ _ _ _ _, (Below.refl _ _).drew⟩
  · obtain ⟨p, hp⟩ : ∃ p, p = bs.take (bs.length - 4) := ⟨_, rfl⟩
    obtain ⟨d, hd⟩ : ∃ d, d = bs.drop (bs.length - 4) := ⟨_, rfl⟩
    have hA0 := hA.head (m := bs.length - 4) (by omega)
    rw [← hp] at hA0
    have hpl : p.length = bs.length - 4 := by rw [hp]; simp
    have hT := hA.tail (k := p.length) (by omega) hcap
    rw [hpl, ← hd, ← hpl] at hT
    have hok := Crc.ok_of (b := bs) (p := p) (by omega) hp
    have hnum := number4 bs p (by omega) hp
    rw [← hd] at hnum
    have hdl : d.length = 4 := by rw [hd]; simp; omega
    have hcast : ((bs.length : Int) - 4) = ((p.length : Nat) : Int) := by omega
    have hple : p.length ≤ bs.length := by omega
    have Hp := Lib.hid hp
    have Hok := Lib.hid (hok.trans hnum.symm)
    have Hdl := Lib.hid hdl
    have hneg : decide ((p.length : Int) < 0) = false := by simp
    have hsl := wrap_u64 (Crc.sum p) (Nat.lt_trans (Crc.sum_lt p) (by omega))
    have hpc : p.length ≤ cap := by omega
    have hd2 : bs.length - p.length = d.length := by omega
    have hd8 : d.length ≤ 140737488355328 := by omega
    clear hp hd hok hpl hnum hdl
    go_enter Try.func38, Try.ntmps38
    go_wp2
    refine rg_start (by kernel_rfl) ?_
    refine rg_take 0 rfl (by kernel_rfl) (by kernel_rfl) (by kernel_rfl) (fun _ _ _ _ h => h) (by rfl) ⟨_, fun w' hx => by (go_simp <;> with_reducible rfl), ?_⟩
    simp only [Act.put, List.setIfInBounds_toArray, List.set_cons_zero, List.set_cons_succ]
    refine rg_take 1 rfl (by kernel_rfl) (by kernel_rfl) (by kernel_rfl) (fun _ _ _ _ h => h) (by rfl) ⟨_, fun w' hx => by (go_simp <;> with_reducible rfl), ?_⟩   -- t9 := binOp lss 3 t8 0:i64 3
    simp only [Act.put, List.setIfInBounds_toArray, List.set_cons_zero, List.set_cons_succ]
    refine rg_take 2 rfl (by kernel_rfl) (by kernel_rfl) (by kernel_rfl) (fun _ _ _ _ h => h) (by rfl) ⟨_, fun w' hx => by (go_simp <;> with_reducible rfl), ?_⟩
    simp only [Act.put, List.setIfInBounds_toArray, List.set_cons_zero, List.set_cons_succ]
    refine rg_take 3 rfl (by kernel_rfl) (by kernel_rfl) (by kernel_rfl) (fun _ _ _ _ h => h) (by rfl) ⟨_, fun w' hx => by (go_simp <;> with_reducible rfl), ?_⟩
    simp only [Act.put, List.setIfInBounds_toArray, List.set_cons_zero, List.set_cons_succ]
    refine rg_take 4 rfl (by kernel_rfl) (by kernel_rfl) (by kernel_rfl) (fun _ _ _ _ h => h) (by rfl) ⟨_, fun w' hx => by (go_simp <;> with_reducible rfl), ?_⟩
    simp only [Act.put, List.setIfInBounds_toArray, List.set_cons_zero, List.set_cons_succ]
    refine rg_take 5 rfl (by kernel_rfl) (by kernel_rfl) (by kernel_rfl) (fun _ _ _ _ h => h) (by rfl) ⟨_, fun w' hx => by (go_simp <;> with_reducible rfl), ?_⟩   -- t13 := slice 22 t11 - t12 -
    simp only [Act.put, List.setIfInBounds_toArray, List.set_cons_zero, List.set_cons_succ]
    refine rg_take 9 rfl (by kernel_rfl) (by kernel_rfl) (by kernel_rfl) (fun _ _ _ _ h => h) (by rfl) ⟨_, fun w' hx => by (go_simp <;> with_reducible rfl), ?_⟩
    simp only [Act.put, List.setIfInBounds_toArray, List.set_cons_zero, List.set_cons_succ]
    refine rg_take 10 rfl (by kernel_rfl) (by kernel_rfl) (by kernel_rfl) (fun _ _ _ _ h => h) (by rfl) ⟨_, fun w' hx => by (go_simp <;> with_reducible rfl), ?_⟩
    simp only [Act.put, List.setIfInBounds_toArray, List.set_cons_zero, List.set_cons_succ]
    refine rg_take 11 rfl (by kernel_rfl) (by kernel_rfl) (by kernel_rfl) (fun _ _ _ _ h => h) (by rfl) ⟨_, fun w' hx => by (go_simp <;> with_reducible rfl), ?_⟩   -- t19 := slice 22 t17 t18 - -
    simp only [Act.put, List.setIfInBounds_toArray, List.set_cons_zero, List.set_cons_succ]
    -- 6: t14 := buildSlice 31 1 [(0, t13)]
    refine rg_make 6 rfl (by kernel_rfl) (by rfl) ⟨_, _, by (go_simp <;> first | exact ⟨rfl, rfl⟩ | rfl), ?_, ?_⟩
    · exact Ext.alloc _ _
    simp only [Act.put, List.setIfInBounds_toArray, List.set_cons_zero, List.set_cons_succ]
    have hsum := sum_any _ [⟨A, p, cap⟩] 1 _ (RdL.one w.drew 23 A p cap hA0) (by simp) (by rw [cat_one]; omega)
    rw [cat_one] at hsum
    refine rg_call 7 hsum rfl (by kernel_rfl) (by rfl) (by go_simp) ?_
    rintro e w1 ⟨rfl, hb1⟩
    refine ⟨_, rfl, hb1, ?_⟩
    simp only [Act.put, List.setIfInBounds_toArray, List.set_cons_zero, List.set_cons_succ]
    refine rg_take 8 rfl (by kernel_rfl) (by kernel_rfl) (by kernel_rfl) (fun _ _ _ _ h => h) (by rfl) ⟨_, fun w' hx => by (go_simp <;> with_reducible rfl), ?_⟩
    simp only [Act.put, List.setIfInBounds_toArray, List.set_cons_zero, List.set_cons_succ]
    have hb2 := (Below.refl w.heap.size w).drew.trans (ext_trans (Ext.alloc w.drew _) hb1)
    refine rg_call 12 (number_any _ d (cap - p.length) w1 (hT.below hb2) hd8) rfl (by kernel_rfl) (by rfl) (by go_simp) ?_
    rintro e w2 ⟨rfl, rfl⟩
    refine ⟨_, rfl, Ext.refl _, ?_⟩
    simp only [Act.put, List.setIfInBounds_toArray, List.set_cons_zero, List.set_cons_succ]
    refine rg_take 13 rfl (by kernel_rfl) (by kernel_rfl) (by kernel_rfl) (fun _ _ _ _ h => h) (by rfl) ⟨_, fun w' hx => by (go_simp <;> with_reducible rfl), ?_⟩   -- t21 := binOp neq 37 t16 t20 37
    simp only [Act.put, List.setIfInBounds_toArray, List.set_cons_zero, List.set_cons_succ]
    refine rg_take 14 rfl (by kernel_rfl) (by kernel_rfl) (by kernel_rfl) (fun _ _ _ _ h => h) (by rfl) ⟨_, fun w' hx => by (go_simp <;> with_reducible rfl), ?_⟩
    simp only [Act.put, List.setIfInBounds_toArray, List.set_cons_zero, List.set_cons_succ]
    refine rg_done (by kernel_rfl) ?_
    have hne : (((Crc.sum p : Nat) : Int) != ((Vint.number d : Nat) : Int)) = !decide (Crc.sum p = Vint.number d) := by
      rw [Bool.eq_iff_iff]; simp [Int.natCast_inj]
    rw [hne]
    clear hne hsl
    have hb3 := (hA0.below hb2)
    by_cases hv : Crc.sum p = Vint.number d
    · have h1 : Crc.ok bs = true := by rw [Hok.out]; exact decide_eq_true hv
      have H2 := Lib.hid (Crc.got_yes Hp.out h1)
      have H1 := Lib.hid h1
      rw [decide_eq_true hv]
      clear h1 hv
      go_wp2_with (go_at_call 37; refine (clone_any A p cap w1 hb3 (by omega)).mono ?_; rintro e w3 ⟨A3, c3, rfl, ho3, hb4⟩)
      go_ret2
      rw [H1.out, H2.out]
      exact ⟨A3, c3, rfl, ho3.mono hb2.size, ext_trans hb2 hb4⟩
    · have h1 : Crc.ok bs = false := by rw [Hok.out]; exact decide_eq_false hv
      have H2 := Lib.hid (Crc.got_no h1)
      have H1 := Lib.hid h1
      rw [decide_eq_false hv]
      clear h1 hv
      go_wp2
      go_ret2
      rw [H1.out, H2.out]
      exact ⟨none, 0, rfl, Own.none_ _ _ _ _ _, hb2⟩
end Go.Proofs.Ytpabbackiobefaa
