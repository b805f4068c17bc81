
/- Contracts: a log's epoch (frame.Epoch), and the document's answers (scowref14.Head, Epoch, Stamped, Lists). -/

import Derived.Test.YtpabbackiobefaaFrmHead

import Derived.Test.YtpabbackiobefaaVintRefN

import Derived.Test.YtpabbackiobefaaAppZ

import Derived.Test.YtpabbackiobefaaStrCmp

namespace Go.Proofs.Ytpabbackiobefaa

open Go.RowKit

attribute [local go_sem] Oper.semAt_some

def epochRes (s : List UInt8) : Value := .tuple #[.int .u64 ((Frm.epoch s).1 : Int), .int .i64 ((Frm.epoch s).2 : Int)]
theorem epoch_short {s : List UInt8} (h : s.length ≠ 64) : Frm.epoch s = (0, 140) := by unfold Frm.epoch; rw [if_neg (fun e => h e.1)]
theorem epoch_yes {s : List UInt8} (h : s.length = 64) (he : (s == Frm.head (Vint.number ((s.take 16).drop 8))) = true) : Frm.epoch s = (Vint.number ((s.take 16).drop 8), 0) := by unfold Frm.epoch; rw [if_pos ⟨h, eq_of_beq he⟩]
theorem epoch_no {s : List UInt8} (he : (s == Frm.head (Vint.number ((s.take 16).drop 8))) = false) : Frm.epoch s = (0, 140) := by
  unfold Frm.epoch; rw [if_neg (fun e => by rw [beq_eq_false_iff_ne] at he; exact he e.2)]

set_option maxRecDepth 100000 in
set_option maxHeartbeats 1000000 in
theorem epoch_any (A : Option Addr) (s : List UInt8) (c : Nat) (w : World) (hA : RdB w A s) (hc : s.length ≤ c) :
    Calls Try.prog 10 #[.slice A s.length c] w fun r w' => r = .returned (epochRes s) ∧ Below w.heap.size w w' := by
  by_cases h64 : s.length = 64
  · obtain ⟨ad, hAd, hk0⟩ := hA.at_ (k := 0) (by omega)
    clear hk0
    subst hAd
    have hcut := hA.cut (k := 8) (m := 16) (by omega) (by omega) (c := c) (by omega)
    rw [if_neg (by omega)] at hcut
    obtain ⟨p, hp⟩ : ∃ p, p = (s.take 16).drop 8 := ⟨_, rfl⟩
    have hy := epoch_yes h64
    have hn := epoch_no (s := s)
    rw [← hp] at hcut hy hn
    have hpl : p.length = 8 := by rw [hp, List.length_drop, List.length_take]; omega
    have h1 := number_any _ p (c - 8) w hcut (by omega)
    rw [hpl] at h1
    obtain ⟨n, hn'⟩ : ∃ n, n = Vint.number p := ⟨_, rfl⟩
    rw [← hn'] at h1 hy hn
    have H1 := Lib.hid h1
    have hn64 : n < 18446744073709551616 := by rw [hn']; exact Vint.number_lt p
    have Hy := Lib.hid hy
    have Hn := Lib.hid hn
    have hcc : 16 ≤ c := by omega
    have Hn64 := Lib.hid hn64
    have HA := Lib.hid hA
    have HA0 : Hid (RdB w.drew (some ad) s) := hA.below (Ext.drew w)
    have Hh := Frm.head_len n
    have h64' := Lib.hid h64
    rw [h64]
    clear hp hcut hy hn hpl h1 hn' hn64 hA h64 hc
    go_enter Try.func10, Try.ntmps10
    go_wp2_with fail
    refine H1.out.mono ?_
    rintro r w' ⟨rfl, rfl⟩
    go_wp2_with fail
    refine (head_any n w).mono ?_
    rintro r w1 ⟨A1, c1, rfl, ho1, hb1⟩
    have h2 := equal_any (some ad) A1 s (Frm.head n) c c1 w1 (HA.out.below hb1) (ho1.rd')
    rw [h64'.out, Hh] at h2
    go_wp2_with fail
    refine h2.mono ?_
    rintro r w' ⟨rfl, rfl⟩
    cases he : (s == Frm.head n) with
    | true =>
      have hres : epochRes s = .tuple #[.int .u64 (n : Int), .int .i64 0] := by unfold epochRes; rw [Hy.out he]; rfl
      clear h2
      go_wp2_with fail
      go_ret2
      exact ⟨by rw [hres]; rfl, hb1⟩
    | false =>
      have hres : epochRes s = .tuple #[.int .u64 0, .int .i64 140] := by unfold epochRes; rw [Hn.out he]; rfl
      clear h2
      go_wp2_with fail
      go_ret2
      exact ⟨by rw [hres]; rfl, hb1⟩
  · have hres : epochRes s = .tuple #[.int .u64 0, .int .i64 140] := by unfold epochRes; rw [epoch_short h64]; rfl
    have hne : ((s.length : Int) != 64) = true := by rw [bne_iff_ne]; omega
    go_enter Try.func10, Try.ntmps10
    go_wp2
    go_ret2
    exact ⟨by rw [hres]; rfl, Below.refl _ _⟩

set_option maxRecDepth 100000 in
set_option maxHeartbeats 1000000 in
theorem ref_head14 (e : Nat) (he : e < 18446744073709551616) (w : World) :
    Calls Try.prog 15 #[.int .u64 (e : Int)] w fun r w' => ∃ A' c', r = .returned (.slice A' 64 c') ∧ Own w' w.heap.size 5 1 A' 64 c' (bvs (Frm.head e)) ∧ Below w.heap.size w w' := by
  have hl8 := Frm.fixed_len8 e
  have kc := convC (P := Try.prog) Try.underlying23 Try.underlying5
  go_enter Try.func15, Try.ntmps15
  go_wp2_with fail
  obtain ⟨W1, hW1⟩ : ∃ W1, W1 = w.alloc (.cells (bvs Frm.magic).toArray 5 (8, 9)) := ⟨_, rfl⟩
  have hrm := RdB.litF w 5 Frm.magic (8, 9)
  rw [← hW1] at hrm
  have hb1 : Ext w W1 := by rw [hW1]; exact Ext.alloc w _
  have hW1' := hW1
  simp only [bvs, bv, Frm.magic, List.map_cons, List.map_nil] at hW1'
  have h1 := ref_fixed01 e he 8 W1
  rw [hl8, hW1'] at h1
  refine h1.mono ?_
  clear h1
  rw [← hW1']
  clear hW1' hW1 kc
  rintro r w2 ⟨A2, c2, rfl, ho2, hb2⟩
  have hr1 : Rd w2 1 (some ⟨w.heap.size, 0, none⟩) 8 (bvs Frm.magic) := rdb_len (hrm.below hb2) rfl
  have hr2 : Rd w2 1 A2 8 (bvs (Vint.fixed e 8)) := ho2.rd
  have hB2 := ext_trans hb1 hb2
  obtain ⟨d, hd⟩ : ∃ d, d = Frm.magic ++ Vint.fixed e 8 := ⟨_, rfl⟩
  have hd2 : bvs d = bvs Frm.magic ++ bvs (Vint.fixed e 8) := by rw [hd, bvs_app]
  have Hfin : Hid (bvs (Frm.head e) = bvs d ++ List.replicate 48 (Value.int .u8 0)) := by
    show _ = _
    unfold Frm.head Frm.zeros
    rw [← hd, bvs_app]
    simp [bvs, bv]
  have Hd2 := Lib.hid hd2
  clear hd hd2 hrm hb1 ho2 hb2
  go_wp2_with (at_builtin; refine wpList_appG rfl (.tmp 5) (.tmp 7) 23 rfl elemB ⟨w.heap.size, 0, none⟩ 8 8 (bvs Frm.magic) rfl A2 8 c2 (bvs (Vint.fixed e 8)) rfl 16 rfl (bvs d) Hd2.out hr1 hr2 (by omega) (by omega) (by omega) (by omega) (by omega) ?_; intro A4 c4 w4 ho4 hb4; refine Hid.out ?_)
  have hB4 := ext_trans hB2 hb4
  have ho5 := ho4.mono hB2.size
  clear hB2 hb4 ho4 hr1 hr2
  refine Lib.hid ?_
  go_wp2_with (at_builtin; go_loud (refine wpList_appZ rfl (.tmp 9) (.tmp 12) 23 3 rfl elemB Try.underlying3 (.int .u8 0) zeroB rfl rfl w.heap.size A4 16 c4 (bvs d) rfl .i64 48 rfl 64 rfl (bvs (Frm.head e)) Hfin.out ho5 (by omega) (by omega) (by omega) (by omega) hB4.size ?_); intro A6 c6 w6 ho6 hg6 hr6)
  go_ret
  exact ⟨A6, c6, rfl, ho6, below_app hB4 ho5 hg6 hB4.size⟩

set_option maxRecDepth 100000 in
set_option maxHeartbeats 1000000 in
theorem ref_epoch14 (A : Option Addr) (s : List UInt8) (c : Nat) (w : World) (hA : RdB w A s) (hc : s.length ≤ c) :
    Calls Try.prog 11 #[.slice A s.length c] w fun r w' => r = .returned (epochRes s) ∧ Below w.heap.size w w' := by
  by_cases h64 : s.length = 64
  · obtain ⟨ad, hAd, hk0⟩ := hA.at_ (k := 0) (by omega)
    clear hk0
    subst hAd
    have hcut := hA.cut (k := 8) (m := 16) (by omega) (by omega) (c := c) (by omega)
    rw [if_neg (by omega)] at hcut
    obtain ⟨p, hp⟩ : ∃ p, p = (s.take 16).drop 8 := ⟨_, rfl⟩
    have hy := epoch_yes h64
    have hn := epoch_no (s := s)
    rw [← hp] at hcut hy hn
    have hpl : p.length = 8 := by rw [hp, List.length_drop, List.length_take]; omega
    have h1 := ref_number01 _ p (c - 8) w hcut (by omega)
    rw [hpl] at h1
    obtain ⟨n, hn'⟩ : ∃ n, n = Vint.number p := ⟨_, rfl⟩
    rw [← hn'] at h1 hy hn
    have H1 := Lib.hid h1
    have hn64 : n < 18446744073709551616 := by rw [hn']; exact Vint.number_lt p
    have Hy := Lib.hid hy
    have Hn := Lib.hid hn
    have hcc : 16 ≤ c := by omega
    have Hn64 := Lib.hid hn64
    have HA := Lib.hid hA
    have HA0 : Hid (RdB w.drew (some ad) s) := hA.below (Ext.drew w)
    have Hh := Frm.head_len n
    have h64' := Lib.hid h64
    rw [h64]
    clear hp hcut hy hn hpl h1 hn' hn64 hA h64 hc
    go_enter Try.func11, Try.ntmps11
    go_wp2_with fail
    refine H1.out.mono ?_
    rintro r w' ⟨rfl, rfl⟩
    go_wp2_with fail
    refine rg_start (by kernel_rfl) ?_
    refine rg_take 0 rfl (by kernel_rfl) (by kernel_rfl) (by kernel_rfl) (fun _ _ _ _ h => h) (by rfl) ⟨_, fun w' hx => by (go_simp <;> with_reducible rfl), ?_⟩
    simp only [Act.put, List.setIfInBounds_toArray, List.set_cons_zero, List.set_cons_succ]
    refine rg_take 3 rfl (by kernel_rfl) (by kernel_rfl) (by kernel_rfl) (fun _ _ _ _ h => h) (by rfl) ⟨_, fun w' hx => by (go_simp <;> with_reducible rfl), ?_⟩
    simp only [Act.put, List.setIfInBounds_toArray, List.set_cons_zero, List.set_cons_succ]
    refine rg_take 4 rfl (by kernel_rfl) (by kernel_rfl) (by kernel_rfl) (fun _ _ _ _ h => h) (by rfl) ⟨_, fun w' hx => ex_str rfl rfl Try.underlying23 Try.underlying5 Try.underlying9 (HA0.out.below hx) h64'.out.symm, ?_⟩
    simp only [Act.put, List.setIfInBounds_toArray, List.set_cons_zero, List.set_cons_succ]
    refine rg_call 1 (ref_head14 n Hn64.out _) rfl (by kernel_rfl) (by rfl) (by go_simp) ?_
    rintro r w1 ⟨A1, c1, rfl, ho1, hb1⟩
    refine ⟨_, rfl, hb1, ?_⟩
    have hE := Ext.tr (Ext.drew w) hb1
    have hr1 : RdB w1 A1 (Frm.head n) := ho1.rd'
    simp only [Act.put, List.setIfInBounds_toArray, List.set_cons_zero, List.set_cons_succ]
    refine rg_take 2 rfl (by kernel_rfl) (by kernel_rfl) (by kernel_rfl) (fun _ _ _ _ h => h) (by rfl) ⟨_, fun w' hx => ex_str rfl rfl Try.underlying23 Try.underlying5 Try.underlying9 (hr1.below hx) Hh.symm, ?_⟩
    simp only [Act.put, List.setIfInBounds_toArray, List.set_cons_zero, List.set_cons_succ]
    refine rg_take 5 rfl (by kernel_rfl) (by kernel_rfl) (by kernel_rfl) (fun _ _ _ _ h => h) (by rfl) ⟨_, fun w' hx => ex_neqS rfl rfl rfl, ?_⟩
    simp only [Act.put, List.setIfInBounds_toArray, List.set_cons_zero, List.set_cons_succ]
    refine rg_done (by kernel_rfl) ?_
    cases he : (Frm.head n == s) with
    | true =>
      have hres : epochRes s = .tuple #[.int .u64 (n : Int), .int .i64 0] := by unfold epochRes; rw [Hy.out (by rw [eq_of_beq he]; simp)]; rfl
      go_wp2_with fail
      go_ret2
      exact ⟨by rw [hres]; rfl, hE⟩
    | false =>
      have hres : epochRes s = .tuple #[.int .u64 0, .int .i64 140] := by unfold epochRes; rw [Hn.out (by rw [beq_eq_false_iff_ne] at he ⊢; exact fun e => he e.symm)]; rfl
      go_wp2_with fail
      go_ret2
      exact ⟨by rw [hres]; rfl, hE⟩
  · have hres : epochRes s = .tuple #[.int .u64 0, .int .i64 140] := by unfold epochRes; rw [epoch_short h64]; rfl
    have hne : ((s.length : Int) != 64) = true := by rw [bne_iff_ne]; omega
    go_enter Try.func11, Try.ntmps11
    go_wp2
    go_ret2
    exact ⟨by rw [hres]; rfl, Below.refl _ _⟩

theorem stmp_two {s : List UInt8} {e a : Nat} (h : s.length = 64) : Frm.stmpB s e a = ((s.take 8 == Vint.fixed e 8) && ((s.take 12).drop 8 == Vint.fixed a 4)) := by
  have hl8 := Frm.fixed_len8 e
  have h12 : s.take 12 = s.take 8 ++ (s.take 12).drop 8 := by
    have e1 : s.take 8 = (s.take 12).take 8 := by rw [List.take_take, Nat.min_eq_left (by omega)]
    rw [e1, List.take_append_drop]
  have h8 : (s.take 8).length = 8 := by rw [List.length_take]; omega
  unfold Frm.stmpB Frm.stamp
  rw [h, Bool.eq_iff_iff]
  simp only [beq_self_eq_true, Bool.true_and, beq_iff_eq, Bool.and_eq_true]
  constructor
  · intro h2
    rw [h12] at h2
    exact List.append_inj h2 (by omega)
  · rintro ⟨h2, h3⟩
    rw [h12, h2, h3]

set_option maxRecDepth 100000 in
set_option maxHeartbeats 2000000 in
theorem ref_stamped14 (A : Option Addr) (s : List UInt8) (c e a : Nat) (w : World) (he : e < 18446744073709551616) (ha : a < 9223372036854775808) (hA : RdB w A s) (hc : s.length ≤ c) :
    Calls Try.prog 19 #[.slice A s.length c, .int .u64 (e : Int), .int .i64 (a : Int)] w fun r w' => r = .returned (.bool (Frm.stmpB s e a)) ∧ Below w.heap.size w w' := by
  have hl8 := Frm.fixed_len8 e
  have hl4 := Frm.fixed_len4 a
  have hwr : IntKind.u64.wrap (a : Int) = (a : Int) := wrap_u64 a (by omega)
  by_cases h64 : s.length = 64
  · obtain ⟨ad, hAd, hk0⟩ := hA.at_ (k := 0) (by omega)
    clear hk0
    subst hAd
    have hr8 := (hA.head (m := 8) (by omega)).below (Ext.drew w)
    have hr4 := hA.cut (k := 8) (m := 12) (by omega) (by omega) (c := c) (by omega)
    rw [if_neg (by omega)] at hr4
    have hres := stmp_two (e := e) (a := a) h64
    have hp8 : (s.take 8).length = 8 := by rw [List.length_take]; omega
    have hp4 : ((s.take 12).drop 8).length = 4 := by rw [List.length_drop, List.length_take]; omega
    obtain ⟨p, hp⟩ : ∃ p, p = s.take 8 := ⟨_, rfl⟩
    obtain ⟨q, hq⟩ : ∃ q, q = (s.take 12).drop 8 := ⟨_, rfl⟩
    rw [← hp] at hr8 hres hp8
    rw [← hq] at hr4 hres hp4
    have hcc : 12 ≤ c := by omega
    have hc8 : (8 : Int) ≤ (c : Int) := by omega
    have hc12 : (12 : Int) ≤ (c : Int) := by omega
    have hc9 : ¬ c = 8 := by omega
    have Hres := Lib.hid hres
    rw [h64]
    clear hp hq hres h64 hc hA
    cases h1 : (p == Vint.fixed e 8) with
    | false =>
      have hz : Hid (Frm.stmpB s e a = false) := by show _ = _; rw [Hres.out, h1]; rfl
      go_enter Try.func19, Try.ntmps19
      go_wp2
      refine rg_start (by kernel_rfl) ?_
      refine rg_take 0 rfl (by kernel_rfl) (by kernel_rfl) (by kernel_rfl) (fun _ _ _ _ h => h) (by rfl) ⟨_, fun w' hx => by (go_simp <;> with_reducible rfl), ?_⟩
      simp only [Act.put, List.setIfInBounds_toArray, List.set_cons_zero, List.set_cons_succ]
      refine rg_take 1 rfl (by kernel_rfl) (by kernel_rfl) (by kernel_rfl) (fun _ _ _ _ h => h) (by rfl) ⟨_, fun w' hx => by (go_simp <;> with_reducible rfl), ?_⟩   -- t8 := len(t7)
      simp only [Act.put, List.setIfInBounds_toArray, List.set_cons_zero, List.set_cons_succ]
      refine rg_take 2 rfl (by kernel_rfl) (by kernel_rfl) (by kernel_rfl) (fun _ _ _ _ h => h) (by rfl) ⟨_, fun w' hx => by (go_simp <;> with_reducible rfl), ?_⟩   -- t9 := binOp eql 3 t8 64:i64 3
      simp only [Act.put, List.setIfInBounds_toArray, List.set_cons_zero, List.set_cons_succ]
      refine rg_take 3 rfl (by kernel_rfl) (by kernel_rfl) (by kernel_rfl) (fun _ _ _ _ h => h) (by rfl) ⟨_, fun w' hx => by (go_simp <;> with_reducible rfl), ?_⟩
      simp only [Act.put, List.setIfInBounds_toArray, List.set_cons_zero, List.set_cons_succ]
      refine rg_take 4 rfl (by kernel_rfl) (by kernel_rfl) (by kernel_rfl) (fun _ _ _ _ h => h) (by rfl) ⟨_, fun w' hx => by (go_simp <;> with_reducible rfl), ?_⟩
      simp only [Act.put, List.setIfInBounds_toArray, List.set_cons_zero, List.set_cons_succ]
      refine rg_take 5 rfl (by kernel_rfl) (by kernel_rfl) (by kernel_rfl) (fun _ _ _ _ h => h) (by rfl) ⟨_, fun w' hx => by (go_simp <;> with_reducible rfl), ?_⟩   -- t12 := slice 23 t11 - 8:i64 -
      simp only [Act.put, List.setIfInBounds_toArray, List.set_cons_zero, List.set_cons_succ]
      refine rg_take 6 rfl (by kernel_rfl) (by kernel_rfl) (by kernel_rfl) (fun _ _ _ _ h => h) (by rfl) ⟨_, fun w' hx => ex_str rfl rfl Try.underlying23 Try.underlying5 Try.underlying9 (hr8.below hx) hp8.symm, ?_⟩
      simp only [Act.put, List.setIfInBounds_toArray, List.set_cons_zero, List.set_cons_succ]
      refine rg_take 7 rfl (by kernel_rfl) (by kernel_rfl) (by kernel_rfl) (fun _ _ _ _ h => h) (by rfl) ⟨_, fun w' hx => by (go_simp <;> with_reducible rfl), ?_⟩
      simp only [Act.put, List.setIfInBounds_toArray, List.set_cons_zero, List.set_cons_succ]
      have k1 := ref_fixed01 e he 8 (World.drew w)
      rw [hl8] at k1
      refine rg_call 8 k1 rfl (by kernel_rfl) (by rfl) (by go_simp) ?_
      rintro r w1 ⟨A1, c1, rfl, ho1, hb1⟩
      refine ⟨_, rfl, hb1, ?_⟩
      have hE1 := Ext.tr (Ext.drew w) hb1
      have hf1 : RdB w1 A1 (Vint.fixed e 8) := ho1.rd'
      simp only [Act.put, List.setIfInBounds_toArray, List.set_cons_zero, List.set_cons_succ]
      refine rg_take 9 rfl (by kernel_rfl) (by kernel_rfl) (by kernel_rfl) (fun _ _ _ _ h => h) (by rfl) ⟨_, fun w' hx => ex_str rfl rfl Try.underlying23 Try.underlying5 Try.underlying9 (hf1.below hx) hl8.symm, ?_⟩
      simp only [Act.put, List.setIfInBounds_toArray, List.set_cons_zero, List.set_cons_succ]
      refine rg_take 10 rfl (by kernel_rfl) (by kernel_rfl) (by kernel_rfl) (fun _ _ _ _ h => h) (by rfl) ⟨.bool false, fun w' hx => by rw [ex_eqlS rfl rfl rfl, h1], ?_⟩
      simp only [Act.put, List.setIfInBounds_toArray, List.set_cons_zero, List.set_cons_succ]
      refine rg_take 11 rfl (by kernel_rfl) (by kernel_rfl) (by kernel_rfl) (fun _ _ _ _ h => h) (by rfl) ⟨_, fun w' hx => by (go_simp <;> with_reducible rfl), ?_⟩
      simp only [Act.put, List.setIfInBounds_toArray, List.set_cons_zero, List.set_cons_succ]
      refine rg_take 12 rfl (by kernel_rfl) (by kernel_rfl) (by kernel_rfl) (fun _ _ _ _ h => h) (by rfl) ⟨_, fun w' hx => by (go_simp <;> with_reducible rfl), ?_⟩
      simp only [Act.put, List.setIfInBounds_toArray, List.set_cons_zero, List.set_cons_succ]
      refine rg_skip 13 rfl (by kernel_rfl) (by kernel_rfl) (by kernel_rfl) (fun _ _ _ _ h => h) (by rfl) ?_
      simp only [Act.put, List.setIfInBounds_toArray, List.set_cons_zero, List.set_cons_succ]
      refine rg_skip 14 rfl (by kernel_rfl) (by kernel_rfl) (by kernel_rfl) (fun _ _ _ _ h => h) (by rfl) ?_
      simp only [Act.put, List.setIfInBounds_toArray, List.set_cons_zero, List.set_cons_succ]
      refine rg_skip 15 rfl (by kernel_rfl) (by kernel_rfl) (by kernel_rfl) (fun _ _ _ _ h => h) (by rfl) ?_
      simp only [Act.put, List.setIfInBounds_toArray, List.set_cons_zero, List.set_cons_succ]
      refine rg_skip 16 rfl (by kernel_rfl) (by kernel_rfl) (by kernel_rfl) (fun _ _ _ _ h => h) (by rfl) ?_
      simp only [Act.put, List.setIfInBounds_toArray, List.set_cons_zero, List.set_cons_succ]
      refine rg_skip 17 rfl (by kernel_rfl) (by kernel_rfl) (by kernel_rfl) (fun _ _ _ _ h => h) (by rfl) ?_
      simp only [Act.put, List.setIfInBounds_toArray, List.set_cons_zero, List.set_cons_succ]
      refine rg_skip 18 rfl (by kernel_rfl) (by kernel_rfl) (by kernel_rfl) (fun _ _ _ _ h => h) (by rfl) ?_
      simp only [Act.put, List.setIfInBounds_toArray, List.set_cons_zero, List.set_cons_succ]
      refine rg_skip 19 rfl (by kernel_rfl) (by kernel_rfl) (by kernel_rfl) (fun _ _ _ _ h => h) (by rfl) ?_
      simp only [Act.put, List.setIfInBounds_toArray, List.set_cons_zero, List.set_cons_succ]
      refine rg_skip 20 rfl (by kernel_rfl) (by kernel_rfl) (by kernel_rfl) (fun _ _ _ _ h => h) (by rfl) ?_
      simp only [Act.put, List.setIfInBounds_toArray, List.set_cons_zero, List.set_cons_succ]
      refine rg_take 21 rfl (by kernel_rfl) (by kernel_rfl) (by kernel_rfl) (fun _ _ _ _ h => h) (by rfl) ⟨_, fun w' hx => by (go_simp <;> with_reducible rfl), ?_⟩
      simp only [Act.put, List.setIfInBounds_toArray, List.set_cons_zero, List.set_cons_succ]
      refine rg_take 22 rfl (by kernel_rfl) (by kernel_rfl) (by kernel_rfl) (fun _ _ _ _ h => h) (by rfl) ⟨_, fun w' hx => by (go_simp <;> with_reducible rfl), ?_⟩
      simp only [Act.put, List.setIfInBounds_toArray, List.set_cons_zero, List.set_cons_succ]
      refine rg_done (by kernel_rfl) ?_
      go_wp2
      go_ret
      exact ⟨by rw [hz.out]; rfl, hE1⟩
    | true =>
      cases h2 : (q == Vint.fixed a 4) with
      | false =>
        have hz : Hid (Frm.stmpB s e a = false) := by show _ = _; rw [Hres.out, h1, h2]; rfl
        go_enter Try.func19, Try.ntmps19
        go_wp2
        refine rg_start (by kernel_rfl) ?_
        refine rg_take 0 rfl (by kernel_rfl) (by kernel_rfl) (by kernel_rfl) (fun _ _ _ _ h => h) (by rfl) ⟨_, fun w' hx => by (go_simp <;> with_reducible rfl), ?_⟩
        simp only [Act.put, List.setIfInBounds_toArray, List.set_cons_zero, List.set_cons_succ]
        refine rg_take 1 rfl (by kernel_rfl) (by kernel_rfl) (by kernel_rfl) (fun _ _ _ _ h => h) (by rfl) ⟨_, fun w' hx => by (go_simp <;> with_reducible rfl), ?_⟩   -- t8 := len(t7)
        simp only [Act.put, List.setIfInBounds_toArray, List.set_cons_zero, List.set_cons_succ]
        refine rg_take 2 rfl (by kernel_rfl) (by kernel_rfl) (by kernel_rfl) (fun _ _ _ _ h => h) (by rfl) ⟨_, fun w' hx => by (go_simp <;> with_reducible rfl), ?_⟩   -- t9 := binOp eql 3 t8 64:i64 3
        simp only [Act.put, List.setIfInBounds_toArray, List.set_cons_zero, List.set_cons_succ]
        refine rg_take 3 rfl (by kernel_rfl) (by kernel_rfl) (by kernel_rfl) (fun _ _ _ _ h => h) (by rfl) ⟨_, fun w' hx => by (go_simp <;> with_reducible rfl), ?_⟩
        simp only [Act.put, List.setIfInBounds_toArray, List.set_cons_zero, List.set_cons_succ]
        refine rg_take 4 rfl (by kernel_rfl) (by kernel_rfl) (by kernel_rfl) (fun _ _ _ _ h => h) (by rfl) ⟨_, fun w' hx => by (go_simp <;> with_reducible rfl), ?_⟩
        simp only [Act.put, List.setIfInBounds_toArray, List.set_cons_zero, List.set_cons_succ]
        refine rg_take 5 rfl (by kernel_rfl) (by kernel_rfl) (by kernel_rfl) (fun _ _ _ _ h => h) (by rfl) ⟨_, fun w' hx => by (go_simp <;> with_reducible rfl), ?_⟩   -- t12 := slice 23 t11 - 8:i64 -
        simp only [Act.put, List.setIfInBounds_toArray, List.set_cons_zero, List.set_cons_succ]
        refine rg_take 6 rfl (by kernel_rfl) (by kernel_rfl) (by kernel_rfl) (fun _ _ _ _ h => h) (by rfl) ⟨_, fun w' hx => ex_str rfl rfl Try.underlying23 Try.underlying5 Try.underlying9 (hr8.below hx) hp8.symm, ?_⟩
        simp only [Act.put, List.setIfInBounds_toArray, List.set_cons_zero, List.set_cons_succ]
        refine rg_take 7 rfl (by kernel_rfl) (by kernel_rfl) (by kernel_rfl) (fun _ _ _ _ h => h) (by rfl) ⟨_, fun w' hx => by (go_simp <;> with_reducible rfl), ?_⟩
        simp only [Act.put, List.setIfInBounds_toArray, List.set_cons_zero, List.set_cons_succ]
        have k1 := ref_fixed01 e he 8 (World.drew w)
        rw [hl8] at k1
        refine rg_call 8 k1 rfl (by kernel_rfl) (by rfl) (by go_simp) ?_
        rintro r w1 ⟨A1, c1, rfl, ho1, hb1⟩
        refine ⟨_, rfl, hb1, ?_⟩
        have hE1 := Ext.tr (Ext.drew w) hb1
        have hf1 : RdB w1 A1 (Vint.fixed e 8) := ho1.rd'
        simp only [Act.put, List.setIfInBounds_toArray, List.set_cons_zero, List.set_cons_succ]
        refine rg_take 9 rfl (by kernel_rfl) (by kernel_rfl) (by kernel_rfl) (fun _ _ _ _ h => h) (by rfl) ⟨_, fun w' hx => ex_str rfl rfl Try.underlying23 Try.underlying5 Try.underlying9 (hf1.below hx) hl8.symm, ?_⟩
        simp only [Act.put, List.setIfInBounds_toArray, List.set_cons_zero, List.set_cons_succ]
        refine rg_take 10 rfl (by kernel_rfl) (by kernel_rfl) (by kernel_rfl) (fun _ _ _ _ h => h) (by rfl) ⟨.bool true, fun w' hx => by rw [ex_eqlS rfl rfl rfl, h1], ?_⟩
        simp only [Act.put, List.setIfInBounds_toArray, List.set_cons_zero, List.set_cons_succ]
        refine rg_take 11 rfl (by kernel_rfl) (by kernel_rfl) (by kernel_rfl) (fun _ _ _ _ h => h) (by rfl) ⟨_, fun w' hx => by (go_simp <;> with_reducible rfl), ?_⟩
        simp only [Act.put, List.setIfInBounds_toArray, List.set_cons_zero, List.set_cons_succ]
        refine rg_take 12 rfl (by kernel_rfl) (by kernel_rfl) (by kernel_rfl) (fun _ _ _ _ h => h) (by rfl) ⟨_, fun w' hx => by (go_simp <;> with_reducible rfl), ?_⟩
        simp only [Act.put, List.setIfInBounds_toArray, List.set_cons_zero, List.set_cons_succ]
        refine rg_take 13 rfl (by kernel_rfl) (by kernel_rfl) (by kernel_rfl) (fun _ _ _ _ h => h) (by rfl) ⟨_, fun w' hx => by (go_simp <;> with_reducible rfl), ?_⟩
        simp only [Act.put, List.setIfInBounds_toArray, List.set_cons_zero, List.set_cons_succ]
        refine rg_take 14 rfl (by kernel_rfl) (by kernel_rfl) (by kernel_rfl) (fun _ _ _ _ h => h) (by rfl) ⟨_, fun w' hx => by (go_simp <;> with_reducible rfl), ?_⟩   -- t21 := slice 23 t20 8:i64 12:i64 -
        simp only [Act.put, List.setIfInBounds_toArray, List.set_cons_zero, List.set_cons_succ]
        refine rg_take 15 rfl (by kernel_rfl) (by kernel_rfl) (by kernel_rfl) (fun _ _ _ _ h => h) (by rfl) ⟨_, fun w' hx => ex_str rfl rfl Try.underlying23 Try.underlying5 Try.underlying9 ((hr4.below hE1).below hx) hp4.symm, ?_⟩
        simp only [Act.put, List.setIfInBounds_toArray, List.set_cons_zero, List.set_cons_succ]
        refine rg_take 16 rfl (by kernel_rfl) (by kernel_rfl) (by kernel_rfl) (fun _ _ _ _ h => h) (by rfl) ⟨_, fun w' hx => by (go_simp <;> with_reducible rfl), ?_⟩
        simp only [Act.put, List.setIfInBounds_toArray, List.set_cons_zero, List.set_cons_succ]
        refine rg_take 17 rfl (by kernel_rfl) (by kernel_rfl) (by kernel_rfl) (fun _ _ _ _ h => h) (by rfl) ⟨_, fun w' hx => by (go_simp <;> with_reducible rfl), ?_⟩
        simp only [Act.put, List.setIfInBounds_toArray, List.set_cons_zero, List.set_cons_succ]
        have k2 := ref_fixed01 a (by omega) 4 w1
        rw [hl4] at k2
        refine rg_call 18 k2 rfl (by kernel_rfl) (by rfl) (by go_simp) ?_
        rintro r w2 ⟨A2, c2, rfl, ho2, hb2⟩
        refine ⟨_, rfl, hb2, ?_⟩
        have hE2 := Ext.tr hE1 hb2
        have hf2 : RdB w2 A2 (Vint.fixed a 4) := ho2.rd'
        simp only [Act.put, List.setIfInBounds_toArray, List.set_cons_zero, List.set_cons_succ]
        refine rg_take 19 rfl (by kernel_rfl) (by kernel_rfl) (by kernel_rfl) (fun _ _ _ _ h => h) (by rfl) ⟨_, fun w' hx => ex_str rfl rfl Try.underlying23 Try.underlying5 Try.underlying9 (hf2.below hx) hl4.symm, ?_⟩
        simp only [Act.put, List.setIfInBounds_toArray, List.set_cons_zero, List.set_cons_succ]
        refine rg_take 20 rfl (by kernel_rfl) (by kernel_rfl) (by kernel_rfl) (fun _ _ _ _ h => h) (by rfl) ⟨.bool false, fun w' hx => by rw [ex_eqlS rfl rfl rfl, h2], ?_⟩
        simp only [Act.put, List.setIfInBounds_toArray, List.set_cons_zero, List.set_cons_succ]
        refine rg_take 21 rfl (by kernel_rfl) (by kernel_rfl) (by kernel_rfl) (fun _ _ _ _ h => h) (by rfl) ⟨_, fun w' hx => by (go_simp <;> with_reducible rfl), ?_⟩
        simp only [Act.put, List.setIfInBounds_toArray, List.set_cons_zero, List.set_cons_succ]
        refine rg_take 22 rfl (by kernel_rfl) (by kernel_rfl) (by kernel_rfl) (fun _ _ _ _ h => h) (by rfl) ⟨_, fun w' hx => by (go_simp <;> with_reducible rfl), ?_⟩
        simp only [Act.put, List.setIfInBounds_toArray, List.set_cons_zero, List.set_cons_succ]
        refine rg_done (by kernel_rfl) ?_
        go_wp2
        go_ret
        exact ⟨by rw [hz.out]; rfl, hE2⟩
      | true =>
        have hz : Hid (Frm.stmpB s e a = true) := by show _ = _; rw [Hres.out, h1, h2]; rfl
        go_enter Try.func19, Try.ntmps19
        go_wp2
        refine rg_start (by kernel_rfl) ?_
        refine rg_take 0 rfl (by kernel_rfl) (by kernel_rfl) (by kernel_rfl) (fun _ _ _ _ h => h) (by rfl) ⟨_, fun w' hx => by (go_simp <;> with_reducible rfl), ?_⟩
        simp only [Act.put, List.setIfInBounds_toArray, List.set_cons_zero, List.set_cons_succ]
        refine rg_take 1 rfl (by kernel_rfl) (by kernel_rfl) (by kernel_rfl) (fun _ _ _ _ h => h) (by rfl) ⟨_, fun w' hx => by (go_simp <;> with_reducible rfl), ?_⟩   -- t8 := len(t7)
        simp only [Act.put, List.setIfInBounds_toArray, List.set_cons_zero, List.set_cons_succ]
        refine rg_take 2 rfl (by kernel_rfl) (by kernel_rfl) (by kernel_rfl) (fun _ _ _ _ h => h) (by rfl) ⟨_, fun w' hx => by (go_simp <;> with_reducible rfl), ?_⟩   -- t9 := binOp eql 3 t8 64:i64 3
        simp only [Act.put, List.setIfInBounds_toArray, List.set_cons_zero, List.set_cons_succ]
        refine rg_take 3 rfl (by kernel_rfl) (by kernel_rfl) (by kernel_rfl) (fun _ _ _ _ h => h) (by rfl) ⟨_, fun w' hx => by (go_simp <;> with_reducible rfl), ?_⟩
        simp only [Act.put, List.setIfInBounds_toArray, List.set_cons_zero, List.set_cons_succ]
        refine rg_take 4 rfl (by kernel_rfl) (by kernel_rfl) (by kernel_rfl) (fun _ _ _ _ h => h) (by rfl) ⟨_, fun w' hx => by (go_simp <;> with_reducible rfl), ?_⟩
        simp only [Act.put, List.setIfInBounds_toArray, List.set_cons_zero, List.set_cons_succ]
        refine rg_take 5 rfl (by kernel_rfl) (by kernel_rfl) (by kernel_rfl) (fun _ _ _ _ h => h) (by rfl) ⟨_, fun w' hx => by (go_simp <;> with_reducible rfl), ?_⟩   -- t12 := slice 23 t11 - 8:i64 -
        simp only [Act.put, List.setIfInBounds_toArray, List.set_cons_zero, List.set_cons_succ]
        refine rg_take 6 rfl (by kernel_rfl) (by kernel_rfl) (by kernel_rfl) (fun _ _ _ _ h => h) (by rfl) ⟨_, fun w' hx => ex_str rfl rfl Try.underlying23 Try.underlying5 Try.underlying9 (hr8.below hx) hp8.symm, ?_⟩
        simp only [Act.put, List.setIfInBounds_toArray, List.set_cons_zero, List.set_cons_succ]
        refine rg_take 7 rfl (by kernel_rfl) (by kernel_rfl) (by kernel_rfl) (fun _ _ _ _ h => h) (by rfl) ⟨_, fun w' hx => by (go_simp <;> with_reducible rfl), ?_⟩
        simp only [Act.put, List.setIfInBounds_toArray, List.set_cons_zero, List.set_cons_succ]
        have k1 := ref_fixed01 e he 8 (World.drew w)
        rw [hl8] at k1
        refine rg_call 8 k1 rfl (by kernel_rfl) (by rfl) (by go_simp) ?_
        rintro r w1 ⟨A1, c1, rfl, ho1, hb1⟩
        refine ⟨_, rfl, hb1, ?_⟩
        have hE1 := Ext.tr (Ext.drew w) hb1
        have hf1 : RdB w1 A1 (Vint.fixed e 8) := ho1.rd'
        simp only [Act.put, List.setIfInBounds_toArray, List.set_cons_zero, List.set_cons_succ]
        refine rg_take 9 rfl (by kernel_rfl) (by kernel_rfl) (by kernel_rfl) (fun _ _ _ _ h => h) (by rfl) ⟨_, fun w' hx => ex_str rfl rfl Try.underlying23 Try.underlying5 Try.underlying9 (hf1.below hx) hl8.symm, ?_⟩
        simp only [Act.put, List.setIfInBounds_toArray, List.set_cons_zero, List.set_cons_succ]
        refine rg_take 10 rfl (by kernel_rfl) (by kernel_rfl) (by kernel_rfl) (fun _ _ _ _ h => h) (by rfl) ⟨.bool true, fun w' hx => by rw [ex_eqlS rfl rfl rfl, h1], ?_⟩
        simp only [Act.put, List.setIfInBounds_toArray, List.set_cons_zero, List.set_cons_succ]
        refine rg_take 11 rfl (by kernel_rfl) (by kernel_rfl) (by kernel_rfl) (fun _ _ _ _ h => h) (by rfl) ⟨_, fun w' hx => by (go_simp <;> with_reducible rfl), ?_⟩
        simp only [Act.put, List.setIfInBounds_toArray, List.set_cons_zero, List.set_cons_succ]
        refine rg_take 12 rfl (by kernel_rfl) (by kernel_rfl) (by kernel_rfl) (fun _ _ _ _ h => h) (by rfl) ⟨_, fun w' hx => by (go_simp <;> with_reducible rfl), ?_⟩
        simp only [Act.put, List.setIfInBounds_toArray, List.set_cons_zero, List.set_cons_succ]
        refine rg_take 13 rfl (by kernel_rfl) (by kernel_rfl) (by kernel_rfl) (fun _ _ _ _ h => h) (by rfl) ⟨_, fun w' hx => by (go_simp <;> with_reducible rfl), ?_⟩
        simp only [Act.put, List.setIfInBounds_toArray, List.set_cons_zero, List.set_cons_succ]
        refine rg_take 14 rfl (by kernel_rfl) (by kernel_rfl) (by kernel_rfl) (fun _ _ _ _ h => h) (by rfl) ⟨_, fun w' hx => by (go_simp <;> with_reducible rfl), ?_⟩   -- t21 := slice 23 t20 8:i64 12:i64 -
        simp only [Act.put, List.setIfInBounds_toArray, List.set_cons_zero, List.set_cons_succ]
        refine rg_take 15 rfl (by kernel_rfl) (by kernel_rfl) (by kernel_rfl) (fun _ _ _ _ h => h) (by rfl) ⟨_, fun w' hx => ex_str rfl rfl Try.underlying23 Try.underlying5 Try.underlying9 ((hr4.below hE1).below hx) hp4.symm, ?_⟩
        simp only [Act.put, List.setIfInBounds_toArray, List.set_cons_zero, List.set_cons_succ]
        refine rg_take 16 rfl (by kernel_rfl) (by kernel_rfl) (by kernel_rfl) (fun _ _ _ _ h => h) (by rfl) ⟨_, fun w' hx => by (go_simp <;> with_reducible rfl), ?_⟩
        simp only [Act.put, List.setIfInBounds_toArray, List.set_cons_zero, List.set_cons_succ]
        refine rg_take 17 rfl (by kernel_rfl) (by kernel_rfl) (by kernel_rfl) (fun _ _ _ _ h => h) (by rfl) ⟨_, fun w' hx => by (go_simp <;> with_reducible rfl), ?_⟩
        simp only [Act.put, List.setIfInBounds_toArray, List.set_cons_zero, List.set_cons_succ]
        have k2 := ref_fixed01 a (by omega) 4 w1
        rw [hl4] at k2
        refine rg_call 18 k2 rfl (by kernel_rfl) (by rfl) (by go_simp) ?_
        rintro r w2 ⟨A2, c2, rfl, ho2, hb2⟩
        refine ⟨_, rfl, hb2, ?_⟩
        have hE2 := Ext.tr hE1 hb2
        have hf2 : RdB w2 A2 (Vint.fixed a 4) := ho2.rd'
        simp only [Act.put, List.setIfInBounds_toArray, List.set_cons_zero, List.set_cons_succ]
        refine rg_take 19 rfl (by kernel_rfl) (by kernel_rfl) (by kernel_rfl) (fun _ _ _ _ h => h) (by rfl) ⟨_, fun w' hx => ex_str rfl rfl Try.underlying23 Try.underlying5 Try.underlying9 (hf2.below hx) hl4.symm, ?_⟩
        simp only [Act.put, List.setIfInBounds_toArray, List.set_cons_zero, List.set_cons_succ]
        refine rg_take 20 rfl (by kernel_rfl) (by kernel_rfl) (by kernel_rfl) (fun _ _ _ _ h => h) (by rfl) ⟨.bool true, fun w' hx => by rw [ex_eqlS rfl rfl rfl, h2], ?_⟩
        simp only [Act.put, List.setIfInBounds_toArray, List.set_cons_zero, List.set_cons_succ]
        refine rg_take 21 rfl (by kernel_rfl) (by kernel_rfl) (by kernel_rfl) (fun _ _ _ _ h => h) (by rfl) ⟨_, fun w' hx => by (go_simp <;> with_reducible rfl), ?_⟩
        simp only [Act.put, List.setIfInBounds_toArray, List.set_cons_zero, List.set_cons_succ]
        refine rg_take 22 rfl (by kernel_rfl) (by kernel_rfl) (by kernel_rfl) (fun _ _ _ _ h => h) (by rfl) ⟨_, fun w' hx => by (go_simp <;> with_reducible rfl), ?_⟩
        simp only [Act.put, List.setIfInBounds_toArray, List.set_cons_zero, List.set_cons_succ]
        refine rg_done (by kernel_rfl) ?_
        go_wp2
        go_ret
        exact ⟨by rw [hz.out]; rfl, hE2⟩
  · have hz : Hid (Frm.stmpB s e a = false) := by
      show _ = _
      unfold Frm.stmpB
      have : (s.length == 64) = false := by rw [beq_eq_false_iff_ne]; exact h64
      rw [this]; rfl
    have hne : ((s.length : Int) == 64) = false := by rw [beq_eq_false_iff_ne]; omega
    clear h64
    go_enter Try.func19, Try.ntmps19
    go_wp2
    refine rg_start (by kernel_rfl) ?_
    refine rg_take 0 rfl (by kernel_rfl) (by kernel_rfl) (by kernel_rfl) (fun _ _ _ _ h => h) (by rfl) ⟨_, fun w' hx => by (go_simp <;> with_reducible rfl), ?_⟩
    simp only [Act.put, List.setIfInBounds_toArray, List.set_cons_zero, List.set_cons_succ]
    refine rg_take 1 rfl (by kernel_rfl) (by kernel_rfl) (by kernel_rfl) (fun _ _ _ _ h => h) (by rfl) ⟨_, fun w' hx => by (go_simp <;> with_reducible rfl), ?_⟩   -- t8 := len(t7)
    simp only [Act.put, List.setIfInBounds_toArray, List.set_cons_zero, List.set_cons_succ]
    refine rg_take 2 rfl (by kernel_rfl) (by kernel_rfl) (by kernel_rfl) (fun _ _ _ _ h => h) (by rfl) ⟨_, fun w' hx => by (go_simp <;> with_reducible rfl), ?_⟩   -- t9 := binOp eql 3 t8 64:i64 3
    simp only [Act.put, List.setIfInBounds_toArray, List.set_cons_zero, List.set_cons_succ]
    refine rg_take 3 rfl (by kernel_rfl) (by kernel_rfl) (by kernel_rfl) (fun _ _ _ _ h => h) (by rfl) ⟨_, fun w' hx => by (go_simp <;> with_reducible rfl), ?_⟩
    simp only [Act.put, List.setIfInBounds_toArray, List.set_cons_zero, List.set_cons_succ]
    refine rg_skip 4 rfl (by kernel_rfl) (by kernel_rfl) (by kernel_rfl) (fun _ _ _ _ h => h) (by rfl) ?_
    simp only [Act.put, List.setIfInBounds_toArray, List.set_cons_zero, List.set_cons_succ]
    refine rg_skip 5 rfl (by kernel_rfl) (by kernel_rfl) (by kernel_rfl) (fun _ _ _ _ h => h) (by rfl) ?_
    simp only [Act.put, List.setIfInBounds_toArray, List.set_cons_zero, List.set_cons_succ]
    refine rg_skip 6 rfl (by kernel_rfl) (by kernel_rfl) (by kernel_rfl) (fun _ _ _ _ h => h) (by rfl) ?_
    simp only [Act.put, List.setIfInBounds_toArray, List.set_cons_zero, List.set_cons_succ]
    refine rg_skip 7 rfl (by kernel_rfl) (by kernel_rfl) (by kernel_rfl) (fun _ _ _ _ h => h) (by rfl) ?_
    simp only [Act.put, List.setIfInBounds_toArray, List.set_cons_zero, List.set_cons_succ]
    refine rg_skip 8 rfl (by kernel_rfl) (by kernel_rfl) (by kernel_rfl) (fun _ _ _ _ h => h) (by rfl) ?_
    simp only [Act.put, List.setIfInBounds_toArray, List.set_cons_zero, List.set_cons_succ]
    refine rg_skip 9 rfl (by kernel_rfl) (by kernel_rfl) (by kernel_rfl) (fun _ _ _ _ h => h) (by rfl) ?_
    simp only [Act.put, List.setIfInBounds_toArray, List.set_cons_zero, List.set_cons_succ]
    refine rg_skip 10 rfl (by kernel_rfl) (by kernel_rfl) (by kernel_rfl) (fun _ _ _ _ h => h) (by rfl) ?_
    simp only [Act.put, List.setIfInBounds_toArray, List.set_cons_zero, List.set_cons_succ]
    refine rg_take 11 rfl (by kernel_rfl) (by kernel_rfl) (by kernel_rfl) (fun _ _ _ _ h => h) (by rfl) ⟨_, fun w' hx => by (go_simp <;> with_reducible rfl), ?_⟩
    simp only [Act.put, List.setIfInBounds_toArray, List.set_cons_zero, List.set_cons_succ]
    refine rg_take 12 rfl (by kernel_rfl) (by kernel_rfl) (by kernel_rfl) (fun _ _ _ _ h => h) (by rfl) ⟨_, fun w' hx => by (go_simp <;> with_reducible rfl), ?_⟩
    simp only [Act.put, List.setIfInBounds_toArray, List.set_cons_zero, List.set_cons_succ]
    refine rg_skip 13 rfl (by kernel_rfl) (by kernel_rfl) (by kernel_rfl) (fun _ _ _ _ h => h) (by rfl) ?_
    simp only [Act.put, List.setIfInBounds_toArray, List.set_cons_zero, List.set_cons_succ]
    refine rg_skip 14 rfl (by kernel_rfl) (by kernel_rfl) (by kernel_rfl) (fun _ _ _ _ h => h) (by rfl) ?_
    simp only [Act.put, List.setIfInBounds_toArray, List.set_cons_zero, List.set_cons_succ]
    refine rg_skip 15 rfl (by kernel_rfl) (by kernel_rfl) (by kernel_rfl) (fun _ _ _ _ h => h) (by rfl) ?_
    simp only [Act.put, List.setIfInBounds_toArray, List.set_cons_zero, List.set_cons_succ]
    refine rg_skip 16 rfl (by kernel_rfl) (by kernel_rfl) (by kernel_rfl) (fun _ _ _ _ h => h) (by rfl) ?_
    simp only [Act.put, List.setIfInBounds_toArray, List.set_cons_zero, List.set_cons_succ]
    refine rg_skip 17 rfl (by kernel_rfl) (by kernel_rfl) (by kernel_rfl) (fun _ _ _ _ h => h) (by rfl) ?_
    simp only [Act.put, List.setIfInBounds_toArray, List.set_cons_zero, List.set_cons_succ]
    refine rg_skip 18 rfl (by kernel_rfl) (by kernel_rfl) (by kernel_rfl) (fun _ _ _ _ h => h) (by rfl) ?_
    simp only [Act.put, List.setIfInBounds_toArray, List.set_cons_zero, List.set_cons_succ]
    refine rg_skip 19 rfl (by kernel_rfl) (by kernel_rfl) (by kernel_rfl) (fun _ _ _ _ h => h) (by rfl) ?_
    simp only [Act.put, List.setIfInBounds_toArray, List.set_cons_zero, List.set_cons_succ]
    refine rg_skip 20 rfl (by kernel_rfl) (by kernel_rfl) (by kernel_rfl) (fun _ _ _ _ h => h) (by rfl) ?_
    simp only [Act.put, List.setIfInBounds_toArray, List.set_cons_zero, List.set_cons_succ]
    refine rg_take 21 rfl (by kernel_rfl) (by kernel_rfl) (by kernel_rfl) (fun _ _ _ _ h => h) (by rfl) ⟨_, fun w' hx => by (go_simp <;> with_reducible rfl), ?_⟩
    simp only [Act.put, List.setIfInBounds_toArray, List.set_cons_zero, List.set_cons_succ]
    refine rg_take 22 rfl (by kernel_rfl) (by kernel_rfl) (by kernel_rfl) (fun _ _ _ _ h => h) (by rfl) ⟨_, fun w' hx => by (go_simp <;> with_reducible rfl), ?_⟩
    simp only [Act.put, List.setIfInBounds_toArray, List.set_cons_zero, List.set_cons_succ]
    refine rg_done (by kernel_rfl) ?_
    go_wp2
    go_ret
    exact ⟨by rw [hz.out]; rfl, Ext.drew w⟩

set_option maxRecDepth 100000 in
set_option maxHeartbeats 2000000 in
theorem ref_lists14 (A B : Option Addr) (l m : List Sl) (c d : Nat) (w : World) (hl : RdL w A l) (hm : RdL w B m) (hc : l.length ≤ 1000000) :
    Calls Try.prog 12 #[.slice A l.length c, .slice B m.length d] w fun r w' => r = .returned (.bool (l.map Sl.bs == m.map Sl.bs)) ∧ Below w.heap.size w w' := by
  by_cases hlen : l.length = m.length
  · have hfalse : ∀ k (h : k < l.length) (h2 : k < m.length), (l[k].bs == m[k].bs) = false → (l.map Sl.bs == m.map Sl.bs) = false := fun k h h2 hx => by
      rw [beq_eq_false_iff_ne] at hx ⊢
      intro e
      have h1 : (l.map Sl.bs)[k]? = (m.map Sl.bs)[k]? := by rw [e]
      rw [List.getElem?_map, List.getElem?_map, List.getElem?_eq_getElem h, List.getElem?_eq_getElem h2] at h1
      exact hx (by simpa using h1)
    have htrue : (∀ k (h : k < l.length) (h2 : k < m.length), (l[k].bs == m[k].bs) = true) → (l.map Sl.bs == m.map Sl.bs) = true := fun hx => by
      rw [beq_iff_eq]
      apply List.ext_getElem (by simp [hlen])
      intro k h1 h2
      simpa using hx k (by simpa using h1) (by simpa using h2)
    have HFalse := Lib.hid hfalse
    have HTrue := Lib.hid htrue
    have hne : ((l.length : Int) != (m.length : Int)) = false := by rw [bne_eq_false_iff_eq]; omega
    have hm1 : m.length ≤ l.length := by omega
    have hm2 : l.length ≤ m.length := by omega
    clear hfalse htrue hlen
    go_enter Try.func12, Try.ntmps12
    go_wp2
    go_loopw [5] (fun i wr => ∃ k : Nat, k ≤ l.length ∧ i = .int .i64 k ∧ (∀ j (h : j < l.length) (h2 : j < m.length), j < k → (l[j].bs == m[j].bs) = true) ∧ Below w.heap.size w wr) (fun i _ => l.length - (intOf i).toNat)
    case atStart => exact ⟨0, by omega, rfl, fun j _ _ h => absurd h (by omega), Below.refl _ _⟩
    case round =>
      obtain ⟨k, hk, rfl, hpre, hbw⟩ := hrel
      have Hpre := Lib.hid hpre
      clear hpre
      by_cases h : k < l.length
      · have hm3 : k < m.length := by omega
        obtain ⟨ad, rfl, hcell, hin⟩ := (hl.below hbw).at_ h
        obtain ⟨ad2, rfl, hcell2, hin2⟩ := (hm.below hbw).at_ hm3
        have k1 := Ext.load (Ext.drew wr) hcell
        have k2 := Ext.load (Ext.drew wr) hcell2
        have r1 := hin.below (Ext.drew wr)
        have r2 := hin2.below (Ext.drew wr)
        have hf := HFalse.out k h hm3
        have HF := Lib.hid hf
        have ik : (0 : Int) ≤ (k : Int) := by omega
        have ik2 : (k : Int) < (l.length : Int) := by omega
        have ik3 : (k : Int) < (m.length : Int) := by omega
        clear hcell hcell2 hf hin hin2
        have hbd := hbw.trans ((Ext.drew wr).mono hbw.size)
        cases hb : (l[k].bs == m[k].bs) with
        | true =>
          go_wp2_with fail
          refine rg_start (by kernel_rfl) ?_
          refine rg_take 0 rfl (by kernel_rfl) (by kernel_rfl) (by kernel_rfl) (fun _ _ _ _ h => h) (by rfl) ⟨_, fun w' hx => by (go_simp <;> with_reducible rfl), ?_⟩
          simp only [Act.put, List.setIfInBounds_toArray, List.set_cons_zero, List.set_cons_succ]
          refine rg_take 1 rfl (by kernel_rfl) (by kernel_rfl) (by kernel_rfl) (fun _ _ _ _ h => h) (by rfl) ⟨_, fun w' hx => by (go_simp <;> with_reducible rfl), ?_⟩
          simp only [Act.put, List.setIfInBounds_toArray, List.set_cons_zero, List.set_cons_succ]
          refine rg_take 2 rfl (by kernel_rfl) (by kernel_rfl) (by kernel_rfl) (fun _ _ _ _ h => h) (by rfl) ⟨_, fun w' hx => by (go_simp <;> with_reducible rfl), ?_⟩   -- t19 := indexAddr 25 t17 t18
          simp only [Act.put, List.setIfInBounds_toArray, List.set_cons_zero, List.set_cons_succ]
          refine rg_take 3 rfl (by kernel_rfl) (by kernel_rfl) (by kernel_rfl) (fun _ _ _ _ h => h) (by rfl) ⟨_, fun w' hx => by have hcx := hx.load k1; (go_simp <;> with_reducible rfl), ?_⟩
          simp only [Act.put, List.setIfInBounds_toArray, List.set_cons_zero, List.set_cons_succ]
          refine rg_take 4 rfl (by kernel_rfl) (by kernel_rfl) (by kernel_rfl) (fun _ _ _ _ h => h) (by rfl) ⟨_, fun w' hx => ex_str rfl rfl Try.underlying23 Try.underlying5 Try.underlying9 (r1.below hx) rfl, ?_⟩
          simp only [Act.put, List.setIfInBounds_toArray, List.set_cons_zero, List.set_cons_succ]
          refine rg_take 5 rfl (by kernel_rfl) (by kernel_rfl) (by kernel_rfl) (fun _ _ _ _ h => h) (by rfl) ⟨_, fun w' hx => by (go_simp <;> with_reducible rfl), ?_⟩
          simp only [Act.put, List.setIfInBounds_toArray, List.set_cons_zero, List.set_cons_succ]
          refine rg_take 6 rfl (by kernel_rfl) (by kernel_rfl) (by kernel_rfl) (fun _ _ _ _ h => h) (by rfl) ⟨_, fun w' hx => by (go_simp <;> with_reducible rfl), ?_⟩
          simp only [Act.put, List.setIfInBounds_toArray, List.set_cons_zero, List.set_cons_succ]
          refine rg_take 7 rfl (by kernel_rfl) (by kernel_rfl) (by kernel_rfl) (fun _ _ _ _ h => h) (by rfl) ⟨_, fun w' hx => by (go_simp <;> with_reducible rfl), ?_⟩   -- t24 := indexAddr 25 t22 t23
          simp only [Act.put, List.setIfInBounds_toArray, List.set_cons_zero, List.set_cons_succ]
          refine rg_take 8 rfl (by kernel_rfl) (by kernel_rfl) (by kernel_rfl) (fun _ _ _ _ h => h) (by rfl) ⟨_, fun w' hx => by have hcx := hx.load k2; (go_simp <;> with_reducible rfl), ?_⟩
          simp only [Act.put, List.setIfInBounds_toArray, List.set_cons_zero, List.set_cons_succ]
          refine rg_take 9 rfl (by kernel_rfl) (by kernel_rfl) (by kernel_rfl) (fun _ _ _ _ h => h) (by rfl) ⟨_, fun w' hx => ex_str rfl rfl Try.underlying23 Try.underlying5 Try.underlying9 (r2.below hx) rfl, ?_⟩
          simp only [Act.put, List.setIfInBounds_toArray, List.set_cons_zero, List.set_cons_succ]
          refine rg_take 10 rfl (by kernel_rfl) (by kernel_rfl) (by kernel_rfl) (fun _ _ _ _ h => h) (by rfl) ⟨.bool false, fun w' hx => (by rw [ex_neqS rfl rfl rfl, hb]; rfl), ?_⟩
          simp only [Act.put, List.setIfInBounds_toArray, List.set_cons_zero, List.set_cons_succ]
          refine rg_done (by kernel_rfl) ?_
          go_wp2_with fail
          go_roundw
          case rel => exact ⟨k + 1, by omega, by go_num, fun j hj hj2 hjk => by
            rcases Nat.lt_or_ge j k with h' | h'
            · exact Hpre.out j hj hj2 h'
            · obtain rfl : j = k := by omega
              exact hb, hbd⟩
          case measure => simp [intOf]; omega
        | false =>
          have HF2 := Lib.hid (HF.out hb)
          go_wp2_with fail
          refine rg_start (by kernel_rfl) ?_
          refine rg_take 0 rfl (by kernel_rfl) (by kernel_rfl) (by kernel_rfl) (fun _ _ _ _ h => h) (by rfl) ⟨_, fun w' hx => by (go_simp <;> with_reducible rfl), ?_⟩
          simp only [Act.put, List.setIfInBounds_toArray, List.set_cons_zero, List.set_cons_succ]
          refine rg_take 1 rfl (by kernel_rfl) (by kernel_rfl) (by kernel_rfl) (fun _ _ _ _ h => h) (by rfl) ⟨_, fun w' hx => by (go_simp <;> with_reducible rfl), ?_⟩
          simp only [Act.put, List.setIfInBounds_toArray, List.set_cons_zero, List.set_cons_succ]
          refine rg_take 2 rfl (by kernel_rfl) (by kernel_rfl) (by kernel_rfl) (fun _ _ _ _ h => h) (by rfl) ⟨_, fun w' hx => by (go_simp <;> with_reducible rfl), ?_⟩   -- t19 := indexAddr 25 t17 t18
          simp only [Act.put, List.setIfInBounds_toArray, List.set_cons_zero, List.set_cons_succ]
          refine rg_take 3 rfl (by kernel_rfl) (by kernel_rfl) (by kernel_rfl) (fun _ _ _ _ h => h) (by rfl) ⟨_, fun w' hx => by have hcx := hx.load k1; (go_simp <;> with_reducible rfl), ?_⟩
          simp only [Act.put, List.setIfInBounds_toArray, List.set_cons_zero, List.set_cons_succ]
          refine rg_take 4 rfl (by kernel_rfl) (by kernel_rfl) (by kernel_rfl) (fun _ _ _ _ h => h) (by rfl) ⟨_, fun w' hx => ex_str rfl rfl Try.underlying23 Try.underlying5 Try.underlying9 (r1.below hx) rfl, ?_⟩
          simp only [Act.put, List.setIfInBounds_toArray, List.set_cons_zero, List.set_cons_succ]
          refine rg_take 5 rfl (by kernel_rfl) (by kernel_rfl) (by kernel_rfl) (fun _ _ _ _ h => h) (by rfl) ⟨_, fun w' hx => by (go_simp <;> with_reducible rfl), ?_⟩
          simp only [Act.put, List.setIfInBounds_toArray, List.set_cons_zero, List.set_cons_succ]
          refine rg_take 6 rfl (by kernel_rfl) (by kernel_rfl) (by kernel_rfl) (fun _ _ _ _ h => h) (by rfl) ⟨_, fun w' hx => by (go_simp <;> with_reducible rfl), ?_⟩
          simp only [Act.put, List.setIfInBounds_toArray, List.set_cons_zero, List.set_cons_succ]
          refine rg_take 7 rfl (by kernel_rfl) (by kernel_rfl) (by kernel_rfl) (fun _ _ _ _ h => h) (by rfl) ⟨_, fun w' hx => by (go_simp <;> with_reducible rfl), ?_⟩   -- t24 := indexAddr 25 t22 t23
          simp only [Act.put, List.setIfInBounds_toArray, List.set_cons_zero, List.set_cons_succ]
          refine rg_take 8 rfl (by kernel_rfl) (by kernel_rfl) (by kernel_rfl) (fun _ _ _ _ h => h) (by rfl) ⟨_, fun w' hx => by have hcx := hx.load k2; (go_simp <;> with_reducible rfl), ?_⟩
          simp only [Act.put, List.setIfInBounds_toArray, List.set_cons_zero, List.set_cons_succ]
          refine rg_take 9 rfl (by kernel_rfl) (by kernel_rfl) (by kernel_rfl) (fun _ _ _ _ h => h) (by rfl) ⟨_, fun w' hx => ex_str rfl rfl Try.underlying23 Try.underlying5 Try.underlying9 (r2.below hx) rfl, ?_⟩
          simp only [Act.put, List.setIfInBounds_toArray, List.set_cons_zero, List.set_cons_succ]
          refine rg_take 10 rfl (by kernel_rfl) (by kernel_rfl) (by kernel_rfl) (fun _ _ _ _ h => h) (by rfl) ⟨.bool true, fun w' hx => (by rw [ex_neqS rfl rfl rfl, hb]; rfl), ?_⟩
          simp only [Act.put, List.setIfInBounds_toArray, List.set_cons_zero, List.set_cons_succ]
          refine rg_done (by kernel_rfl) ?_
          go_wp2_with fail
          go_ret
          exact ⟨by rw [HF2.out]; rfl, hbd⟩
      · obtain rfl : k = l.length := by omega
        have HT := Lib.hid (HTrue.out fun j h1 h2 => Hpre.out j h1 h2 h1)
        go_wp2
        go_ret
        exact ⟨by rw [HT.out]; rfl, hbw⟩
  · have hz : Hid ((l.map Sl.bs == m.map Sl.bs) = false) := by
      show _ = _
      rw [beq_eq_false_iff_ne]
      intro e
      have := congrArg List.length e
      simp at this
      exact hlen this
    have hne : ((l.length : Int) != (m.length : Int)) = true := by rw [bne_iff_ne]; omega
    clear hlen
    go_enter Try.func12, Try.ntmps12
    go_wp2
    go_ret
    exact ⟨by rw [hz.out]; rfl, Below.refl _ _⟩
end Go.Proofs.Ytpabbackiobefaa
