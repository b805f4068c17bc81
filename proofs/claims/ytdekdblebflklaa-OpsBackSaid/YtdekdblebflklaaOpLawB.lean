
/- Walks of laws of layer 20: OpsTexts, OpsBack. Printed by wip/tools/gen_oplaws20.py. -/

import Derived.Test.YtdekdblebflklaaOpLive

import Derived.Test.YtdekdblebflklaaOpRight

import Derived.Test.YtdekdblebflklaaOpRGet

import Derived.Test.YtdekdblebflklaaOpRPut

namespace Go.Proofs.Ytdekdblebflklaa

open Go.RowKit

attribute [local go_sem] Oper.semAt_some

theorem oput_len (l : List OpV) (h : SmallO l) : (Opn.putAll (l.map OpV.x)).length ≤ 200000 := by
  have key : ∀ m : List Opn, (∀ e ∈ m, e.key.length ≤ 100 ∧ e.val.length ≤ 2000) → (Opn.putAll m).length ≤ m.length * 2200 := by
    intro m
    induction m with
    | nil => intro _; simp [Opn.putAll]
    | cons e m ih =>
      intro hm
      have h1 := ih (fun x hx => hm x (by simp [hx]))
      have h2 := hm e (by simp)
      have h3 := Opn.bytes_len e
      have h4 : Opn.putAll (e :: m) = e.bytes ++ Opn.putAll m := by simp [Opn.putAll]
      rw [h4, List.length_append, List.length_cons]
      omega
  have h1 := key (l.map OpV.x) (fun e he => by obtain ⟨x, hx, rfl⟩ := List.mem_map.1 he; exact h.2 x hx)
  have h2 := h.1
  rw [List.length_map] at h1
  omega
/-- What Get answers, in one. -/
def OGetU (bs : List UInt8) (w : World) (e : Ending) (w' : World) : Prop :=
  ∃ (L : List OpV) (A : Option Addr) (c : Nat) (x : Int), e = .returned (.tuple #[.slice A L.length c, .int .i64 x]) ∧ RdO w' A L ∧ L.length ≤ bs.length ∧ Hid ((Opn.getAll bs = some (L.map OpV.x) ∧ x = 0) ∨ (Opn.getAll bs = none ∧ L = [] ∧ x = 200)) ∧ Ext w w'
theorem OGetP.uni {bs : List UInt8} {w : World} (e : Ending) (w' : World) (h : OGetP bs w e w') : OGetU bs w e w' := by
  rcases h with ⟨L, A, c, h1, h2, h3, h4, h5, h6⟩ | ⟨h1, h2, h3⟩
  · exact ⟨L, A, c, 0, h2, h3, h5, .inl ⟨h1, rfl⟩, h6⟩
  · exact ⟨[], none, 0, 200, h2, RdO.nil_ _ _, Nat.zero_le _, .inr ⟨h1, rfl, rfl⟩, h3⟩
theorem oget_same {bs : List UInt8} {L M : List OpV} {x y : Int} (h : (Opn.getAll bs = some (L.map OpV.x) ∧ x = 0) ∨ (Opn.getAll bs = none ∧ L = [] ∧ x = 200)) (k : (Opn.getAll bs = some (M.map OpV.x) ∧ y = 0) ∨ (Opn.getAll bs = none ∧ M = [] ∧ y = 200)) : L.map OpV.x = M.map OpV.x ∧ x = y := by
  rcases h with ⟨h1, rfl⟩ | ⟨h1, rfl, rfl⟩ <;> rcases k with ⟨k1, rfl⟩ | ⟨k1, rfl, rfl⟩
  · rw [h1] at k1; injection k1 with k1; exact ⟨k1, rfl⟩
  · rw [h1] at k1; cases k1
  · rw [h1] at k1; cases k1
  · exact ⟨rfl, rfl⟩
set_option maxRecDepth 100000 in
set_option maxHeartbeats 4000000 in
theorem walkOpsTexts (w : World) (C : Option Addr) (o : List OpV) (n : Nat) (hC : RdO w C o) (_cn : o.length ≤ n) (B : Option Addr) (b : List UInt8) (m : Nat) (hB : RdB w B b) (_cm : b.length ≤ m) :
    Calls Try.prog 4 #[.slice C o.length n, .slice B b.length m] w fun e w' => e = .returned (.bool true) ∧ Below w.heap.size w w' := by
  go_enter Try.func4, Try.ntmps4
  go_wp2_with fail
  refine (small20 C o n _ (hC.below (Ext.refl w))).mono ?_
  rintro e1 w1 ⟨b1, rfl, hf1, hb1⟩
  have hE1 : Ext w w1 := Ext.tr (Ext.refl w) hb1
  rcases b1 with _ | _
  · go_wp2_with fail
    refine (live20 _).mono ?_
    rintro e2 w2 ⟨rfl, hb2⟩
    go_wp2_with fail
    go_ret
    exact ⟨rfl, Ext.tr hE1 hb2⟩
  have sm_o : SmallO o := hf1 rfl
  clear hf1
  have Sm_o := Lib.hid sm_o
  have sl_o := sm_o.1
  by_cases h8 : 8000 < b.length
  · have h8i : (8000 : Int) < (b.length : Int) := by omega
    go_wp2_with fail
    refine (live20 _).mono ?_
    rintro e8 w8 ⟨rfl, hb8⟩
    go_wp2_with fail
    go_ret
    exact ⟨rfl, Ext.tr hE1 hb8⟩
  have h8i : ¬ (8000 : Int) < (b.length : Int) := by omega
  have hBx := (hB.below hE1).below (Ext.alloc w1 (.cells #[] 5))
  go_wp2_with (refine wpList_app (by rfl) (.tmp 19) (.tmp 20) 33 rfl elemB w1.heap.size _ 0 0 [] rfl B b.length m (bvs b) rfl b.length (by omega) (bvs b) rfl (Own.none_ _ _ _ _ _) hBx (bvs_one _) (by omega) (by omega) (by rw [World.size_alloc]; omega) ?_; intro A4 c4 w2 ho4 hg4 hr4; refine Hid.out ?_)
  have hb2 : Ext w1 w2 := Ext.tr (Ext.alloc _ _) (grown_none (by simpa [ownRow] using hg4))
  have hE2 : Ext w w2 := Ext.tr hE1 hb2
  have r4 := ho4.rd'
  have n4 := ho4.nc
  clear ho4 hg4 hr4 hBx
  refine Lib.hid ?_
  go_wp2_with fail
  refine ((oget_any A4 b c4 _ r4 n4 (by omega)).mono OGetP.uni).mono ?_
  rintro e3 w3 ⟨L1, A5, c5, x1, rfl, hr5, hl5, hx5, hb3⟩
  have hE3 : Ext w w3 := Ext.tr hE2 hb3
  go_wp2_with fail
  refine ((ref_oget B b m _ (hB.below hE3) _cm (by omega)).mono OGetP.uni).mono ?_
  rintro e4 w4 ⟨L2, A6, c6, x2, rfl, hr6, hl6, hx6, hb4⟩
  have hE4 : Ext w w4 := Ext.tr hE3 hb4
  obtain ⟨hL12, hx12⟩ := oget_same hx5.out hx6.out
  subst hx12
  have hr5x := Lib.hid (hr5.below hb4)
  have hr6x := Lib.hid hr6
  have HL := Lib.hid hL12
  have Sb := Lib.hid (fun e he => (⟨by have := (Sm_o.out.2 e he).1; omega, by have := (Sm_o.out.2 e he).2; omega⟩ : (e : OpV).x.key.length ≤ 1000 ∧ e.x.val.length ≤ 100000) : ∀ e ∈ o, (e : OpV).x.key.length ≤ 1000 ∧ e.x.val.length ≤ 100000)
  clear hr5 hr6 hx5 hx6 r4 hL12
  go_wp2_with fail
  refine rg_start (by kernel_rfl) ?_
  refine rg_take 0 rfl (by kernel_rfl) (by kernel_rfl) (by kernel_rfl) (fun _ _ _ _ h => h) (by rfl) ⟨_, fun w' hx => by (go_simp <;> with_reducible rfl), ?_⟩
  simp only [Act.put, List.setIfInBounds_toArray, List.set_cons_zero, List.set_cons_succ]
  refine rg_take 3 rfl (by kernel_rfl) (by kernel_rfl) (by kernel_rfl) (fun _ _ _ _ h => h) (by rfl) ⟨_, fun w' hx => by (go_simp <;> with_reducible rfl), ?_⟩
  simp only [Act.put, List.setIfInBounds_toArray, List.set_cons_zero, List.set_cons_succ]
  refine rg_call 1 (oput_any C o n w4.drew (hC.below (Ext.tr hE4 (Ext.drew _))) (by omega) Sb.out) rfl (by kernel_rfl) (by rfl) (by go_simp) ?_
  rintro ee wa ⟨Aa, ca, rfl, hoa, hba⟩
  refine ⟨_, rfl, hba, ?_⟩
  simp only [Act.put, List.setIfInBounds_toArray, List.set_cons_zero, List.set_cons_succ]
  refine rg_take 2 rfl (by kernel_rfl) (by kernel_rfl) (by kernel_rfl) (fun _ _ _ _ h => h) (by rfl) ⟨.string ⟨(Opn.putAll (o.map OpV.x)).toArray⟩, fun w' hx => ex_str rfl rfl Try.underlying33 Try.underlying5 Try.underlying9 ((hoa.rd').below hx) rfl, ?_⟩
  simp only [Act.put, List.setIfInBounds_toArray, List.set_cons_zero, List.set_cons_succ]
  refine rg_call 4 (ref_oput C o n wa (hC.below (Ext.tr hE4 (Ext.tr (Ext.drew _) hba))) (by omega) Sb.out) rfl (by kernel_rfl) (by rfl) (by go_simp) ?_
  rintro ee wb ⟨Ab, cb, rfl, hob, hbb⟩
  refine ⟨_, rfl, hbb, ?_⟩
  simp only [Act.put, List.setIfInBounds_toArray, List.set_cons_zero, List.set_cons_succ]
  refine rg_take 5 rfl (by kernel_rfl) (by kernel_rfl) (by kernel_rfl) (fun _ _ _ _ h => h) (by rfl) ⟨.string ⟨(Opn.putAll (o.map OpV.x)).toArray⟩, fun w' hx => ex_str rfl rfl Try.underlying33 Try.underlying5 Try.underlying9 ((hob.rd').below hx) rfl, ?_⟩
  simp only [Act.put, List.setIfInBounds_toArray, List.set_cons_zero, List.set_cons_succ]
  refine rg_take 6 rfl (by kernel_rfl) (by kernel_rfl) (by kernel_rfl) (fun _ _ _ _ h => h) (by rfl) ⟨.bool (Opn.putAll (o.map OpV.x) == Opn.putAll (o.map OpV.x)), fun w' hx => ex_eqlS rfl rfl rfl, ?_⟩
  rw [show (Opn.putAll (o.map OpV.x) == Opn.putAll (o.map OpV.x)) = true from beq_self_eq_true _]
  have hsame := ref_osame A5 A6 L1 L2 c5 c6 wb (hr5x.out.below (Ext.tr (Ext.drew _) (Ext.tr hba hbb))) (hr6x.out.below (Ext.tr (Ext.drew _) (Ext.tr hba hbb))) (by omega)
  rw [HL.out, decide_eq_true (rfl : L2.map OpV.x = _)] at hsame
  simp only [Act.put, List.setIfInBounds_toArray, List.set_cons_zero, List.set_cons_succ]
  refine rg_take 7 rfl (by kernel_rfl) (by kernel_rfl) (by kernel_rfl) (fun _ _ _ _ h => h) (by rfl) ⟨_, fun w' hx => by (go_simp <;> with_reducible rfl), ?_⟩
  simp only [Act.put, List.setIfInBounds_toArray, List.set_cons_zero, List.set_cons_succ]
  refine rg_take 8 rfl (by kernel_rfl) (by kernel_rfl) (by kernel_rfl) (fun _ _ _ _ h => h) (by rfl) ⟨_, fun w' hx => by (go_simp <;> with_reducible rfl), ?_⟩
  simp only [Act.put, List.setIfInBounds_toArray, List.set_cons_zero, List.set_cons_succ]
  refine rg_take 9 rfl (by kernel_rfl) (by kernel_rfl) (by kernel_rfl) (fun _ _ _ _ h => h) (by rfl) ⟨_, fun w' hx => by (go_simp <;> with_reducible rfl), ?_⟩
  simp only [Act.put, List.setIfInBounds_toArray, List.set_cons_zero, List.set_cons_succ]
  refine rg_call 10 (hsame) rfl (by kernel_rfl) (by rfl) (by go_simp) ?_
  rintro ee wc ⟨rfl, hbc⟩
  refine ⟨_, rfl, hbc, ?_⟩
  simp only [Act.put, List.setIfInBounds_toArray, List.set_cons_zero, List.set_cons_succ]
  refine rg_take 11 rfl (by kernel_rfl) (by kernel_rfl) (by kernel_rfl) (fun _ _ _ _ h => h) (by rfl) ⟨_, fun w' hx => by (go_simp <;> with_reducible rfl), ?_⟩
  simp only [Act.put, List.setIfInBounds_toArray, List.set_cons_zero, List.set_cons_succ]
  refine rg_take 12 rfl (by kernel_rfl) (by kernel_rfl) (by kernel_rfl) (fun _ _ _ _ h => h) (by rfl) ⟨_, fun w' hx => by (go_simp <;> with_reducible rfl), ?_⟩
  simp only [Act.put, List.setIfInBounds_toArray, List.set_cons_zero, List.set_cons_succ]
  refine rg_take 13 rfl (by kernel_rfl) (by kernel_rfl) (by kernel_rfl) (fun _ _ _ _ h => h) (by rfl) ⟨_, fun w' hx => by (go_simp <;> with_reducible rfl), ?_⟩
  simp only [Act.put, List.setIfInBounds_toArray, List.set_cons_zero, List.set_cons_succ]
  refine rg_take 15 rfl (by kernel_rfl) (by kernel_rfl) (by kernel_rfl) (fun _ _ _ _ h => h) (by rfl) ⟨_, fun w' hx => by (go_simp <;> with_reducible rfl), ?_⟩
  simp only [Act.put, List.setIfInBounds_toArray, List.set_cons_zero, List.set_cons_succ]
  refine rg_call 14 (num20 x1 wc) rfl (by kernel_rfl) (by rfl) (by go_simp) ?_
  rintro ee wd ⟨rfl, rfl⟩
  refine ⟨_, rfl, Ext.refl _, ?_⟩
  simp only [Act.put, List.setIfInBounds_toArray, List.set_cons_zero, List.set_cons_succ]
  refine rg_take 16 rfl (by kernel_rfl) (by kernel_rfl) (by kernel_rfl) (fun _ _ _ _ h => h) (by rfl) ⟨.bool true, fun w' hx => by (go_simp; try rfl), ?_⟩
  simp only [Act.put, List.setIfInBounds_toArray, List.set_cons_zero, List.set_cons_succ]
  refine rg_take 17 rfl (by kernel_rfl) (by kernel_rfl) (by kernel_rfl) (fun _ _ _ _ h => h) (by rfl) ⟨_, fun w' hx => by (go_simp <;> with_reducible rfl), ?_⟩
  simp only [Act.put, List.setIfInBounds_toArray, List.set_cons_zero, List.set_cons_succ]
  refine rg_take 18 rfl (by kernel_rfl) (by kernel_rfl) (by kernel_rfl) (fun _ _ _ _ h => h) (by rfl) ⟨_, fun w' hx => by (go_simp <;> with_reducible rfl), ?_⟩
  simp only [Act.put, List.setIfInBounds_toArray, List.set_cons_zero, List.set_cons_succ]
  refine rg_call 19 (live20 _) rfl (by kernel_rfl) (by rfl) (by go_simp) ?_
  rintro ee wf ⟨rfl, hbf⟩
  refine ⟨_, rfl, hbf, ?_⟩
  simp only [Act.put, List.setIfInBounds_toArray, List.set_cons_zero, List.set_cons_succ]
  refine rg_take 20 rfl (by kernel_rfl) (by kernel_rfl) (by kernel_rfl) (fun _ _ _ _ h => h) (by rfl) ⟨_, fun w' hx => by (go_simp <;> with_reducible rfl), ?_⟩
  simp only [Act.put, List.setIfInBounds_toArray, List.set_cons_zero, List.set_cons_succ]
  refine rg_take 21 rfl (by kernel_rfl) (by kernel_rfl) (by kernel_rfl) (fun _ _ _ _ h => h) (by rfl) ⟨_, fun w' hx => by (go_simp <;> with_reducible rfl), ?_⟩
  simp only [Act.put, List.setIfInBounds_toArray, List.set_cons_zero, List.set_cons_succ]
  refine rg_done (by kernel_rfl) ?_
  go_wp2_with fail
  go_ret
  exact ⟨rfl, Ext.tr hE4 (Ext.tr (Ext.drew _) (Ext.tr hba (Ext.tr hbb (Ext.tr hbc hbf))))⟩
set_option maxRecDepth 100000 in
set_option maxHeartbeats 4000000 in
theorem walkOpsBack (w : World) (C : Option Addr) (o : List OpV) (n : Nat) (hC : RdO w C o) (_cn : o.length ≤ n) (B : Option Addr) (b : List UInt8) (m : Nat) (hB : RdB w B b) (_cm : b.length ≤ m) :
    Calls Try.prog 6 #[.slice C o.length n, .slice B b.length m] w fun e w' => e = .returned (.bool true) ∧ Below w.heap.size w w' := by
  go_enter Try.func6, Try.ntmps6
  go_wp2_with fail
  refine (small20 C o n _ (hC.below (Ext.refl w))).mono ?_
  rintro e1 w1 ⟨b1, rfl, hf1, hb1⟩
  have hE1 : Ext w w1 := Ext.tr (Ext.refl w) hb1
  rcases b1 with _ | _
  · go_wp2_with fail
    refine (live20 _).mono ?_
    rintro e2 w2 ⟨rfl, hb2⟩
    go_wp2_with fail
    go_ret
    exact ⟨rfl, Ext.tr hE1 hb2⟩
  have sm_o : SmallO o := hf1 rfl
  clear hf1
  have Sm_o := Lib.hid sm_o
  have sl_o := sm_o.1
  by_cases h8 : 8000 < b.length
  · have h8i : (8000 : Int) < (b.length : Int) := by omega
    go_wp2_with fail
    refine (live20 _).mono ?_
    rintro e8 w8 ⟨rfl, hb8⟩
    go_wp2_with fail
    go_ret
    exact ⟨rfl, Ext.tr hE1 hb8⟩
  have h8i : ¬ (8000 : Int) < (b.length : Int) := by omega
  have hpl := oput_len o Sm_o.out
  have Sb := Lib.hid (fun e he => (⟨by have := (Sm_o.out.2 e he).1; omega, by have := (Sm_o.out.2 e he).2; omega⟩ : (e : OpV).x.key.length ≤ 1000 ∧ e.x.val.length ≤ 100000) : ∀ e ∈ o, (e : OpV).x.key.length ≤ 1000 ∧ e.x.val.length ≤ 100000)
  obtain ⟨p, hp⟩ : ∃ p, p = Opn.putAll (o.map OpV.x) := ⟨_, rfl⟩
  have hput := oput_any C o n w1 (hC.below hE1) (by omega) Sb.out
  rw [← hp] at hput hpl
  have Hp := Lib.hid hp
  clear hp
  go_wp2_with fail
  refine (hput).mono ?_
  rintro e2 w2 ⟨A4, c4, rfl, ho4, hb2⟩
  have hE2 : Ext w w2 := Ext.tr hE1 hb2
  have r4 := ho4.rd'
  have n4 := ho4.nc
  clear ho4 hput
  go_wp2_with fail
  refine ((oget_any A4 p c4 _ r4 n4 (by omega)).mono OGetP.uni).mono ?_
  rintro e3 w3 ⟨L1, A5, c5, x1, rfl, hr5, hl5, hx5, hb3⟩
  have hE3 : Ext w w3 := Ext.tr hE2 hb3
  have hr5x := Lib.hid hr5
  have Hx5 := Lib.hid hx5
  clear hr5 hx5
  go_wp2_with fail
  refine (ref_right C o n _ (hC.below hE3) (by omega) (fun e he => by have := (Sm_o.out.2 e he).1; omega)).mono ?_
  rintro e4 w4 ⟨br, rfl, hbr, hb4⟩
  have hE4 : Ext w w4 := Ext.tr hE3 hb4
  cases br
  · have hEr := hE4
    clear hbr
    go_wp2_with fail
    refine ((oget_any B b m _ (hB.below hEr) _cm (by omega)).mono OGetP.uni).mono ?_
    rintro e6 w16 ⟨L2, A6, c6, x2, rfl, hr6, hl6, hx6, hb6⟩
    have hE6 : Ext w w16 := Ext.tr hEr hb6
    have Hr6 := Lib.hid hr6
    clear hr6
    go_wp2_with fail
    refine (num20 x2 _).mono ?_
    rintro e7 w17 ⟨rfl, rfl⟩
    rcases hx6.out with ⟨hg6, rfl⟩ | ⟨hg6, rfl, rfl⟩
    · obtain ⟨hrt, hpb⟩ := Opn.getAll_some hg6
      have Sb2 := Lib.hid (fun e he => by
        have h1 := hrt.ok e.x (List.mem_map.2 ⟨e, he, rfl⟩)
        have h2 := h1.key
        have h3 := h1.val
        exact ⟨by omega, by omega⟩ : ∀ e ∈ L2, (e : OpV).x.key.length ≤ 1000 ∧ e.x.val.length ≤ 100000)
      have hright := ref_right A6 L2 c6 w16.drew (Hr6.out.below (Ext.drew _)) (by omega) (fun e he => by have := (Sb2.out e he).1; omega)
      have Hrt := Lib.hid hrt
      have Hpb := Lib.hid hpb
      clear hg6 hrt hpb hx6
      have hright2 : Calls Try.prog 11 #[.slice A6 L2.length c6] w16.drew fun e' w' => e' = .returned (.bool true) ∧ Ext w16.drew w' := by
        refine hright.mono ?_
        rintro e w' ⟨b2, rfl, hb2, hb3⟩
        rw [hb2.2 Hrt.out]
        exact ⟨rfl, hb3⟩
      clear hright
      go_wp2_with fail
      refine rg_start (by kernel_rfl) ?_
      refine rg_take 0 rfl (by kernel_rfl) (by kernel_rfl) (by kernel_rfl) (fun _ _ _ _ h => h) (by rfl) ⟨_, fun w' hx => by (go_simp <;> with_reducible rfl), ?_⟩
      simp only [Act.put, List.setIfInBounds_toArray, List.set_cons_zero, List.set_cons_succ]
      refine rg_call 1 (hright2) rfl (by kernel_rfl) (by rfl) (by go_simp) ?_
      rintro ee wa ⟨rfl, hba⟩
      refine ⟨_, rfl, hba, ?_⟩
      simp only [Act.put, List.setIfInBounds_toArray, List.set_cons_zero, List.set_cons_succ]
      refine rg_take 2 rfl (by kernel_rfl) (by kernel_rfl) (by kernel_rfl) (fun _ _ _ _ h => h) (by rfl) ⟨_, fun w' hx => by (go_simp <;> with_reducible rfl), ?_⟩
      simp only [Act.put, List.setIfInBounds_toArray, List.set_cons_zero, List.set_cons_succ]
      refine rg_take 3 rfl (by kernel_rfl) (by kernel_rfl) (by kernel_rfl) (fun _ _ _ _ h => h) (by rfl) ⟨_, fun w' hx => by (go_simp <;> with_reducible rfl), ?_⟩
      simp only [Act.put, List.setIfInBounds_toArray, List.set_cons_zero, List.set_cons_succ]
      refine rg_take 6 rfl (by kernel_rfl) (by kernel_rfl) (by kernel_rfl) (fun _ _ _ _ h => h) (by rfl) ⟨_, fun w' hx => by (go_simp <;> with_reducible rfl), ?_⟩
      simp only [Act.put, List.setIfInBounds_toArray, List.set_cons_zero, List.set_cons_succ]
      refine rg_take 7 rfl (by kernel_rfl) (by kernel_rfl) (by kernel_rfl) (fun _ _ _ _ h => h) (by rfl) ⟨.string ⟨(b).toArray⟩, fun w' hx => ex_str rfl rfl Try.underlying33 Try.underlying5 Try.underlying9 (hB.below (Ext.tr hE6 (Ext.tr (Ext.drew _) (Ext.tr hba hx)))) rfl, ?_⟩
      simp only [Act.put, List.setIfInBounds_toArray, List.set_cons_zero, List.set_cons_succ]
      refine rg_call 4 (oput_any A6 L2 c6 wa (Hr6.out.below (Ext.tr (Ext.drew _) hba)) (by omega) Sb2.out) rfl (by kernel_rfl) (by rfl) (by go_simp) ?_
      rintro ee wb ⟨Ab, cb, rfl, hob, hbb⟩
      refine ⟨_, rfl, hbb, ?_⟩
      rw [Hpb.out] at hob ⊢
      simp only [Act.put, List.setIfInBounds_toArray, List.set_cons_zero, List.set_cons_succ]
      refine rg_take 5 rfl (by kernel_rfl) (by kernel_rfl) (by kernel_rfl) (fun _ _ _ _ h => h) (by rfl) ⟨.string ⟨(b).toArray⟩, fun w' hx => ex_str rfl rfl Try.underlying33 Try.underlying5 Try.underlying9 ((hob.rd').below hx) rfl, ?_⟩
      simp only [Act.put, List.setIfInBounds_toArray, List.set_cons_zero, List.set_cons_succ]
      refine rg_take 8 rfl (by kernel_rfl) (by kernel_rfl) (by kernel_rfl) (fun _ _ _ _ h => h) (by rfl) ⟨.bool (b == b), fun w' hx => ex_eqlS rfl rfl rfl, ?_⟩
      rw [show (b == b) = true from beq_self_eq_true _]
      simp only [Act.put, List.setIfInBounds_toArray, List.set_cons_zero, List.set_cons_succ]
      refine rg_take 9 rfl (by kernel_rfl) (by kernel_rfl) (by kernel_rfl) (fun _ _ _ _ h => h) (by rfl) ⟨_, fun w' hx => by (go_simp <;> with_reducible rfl), ?_⟩
      simp only [Act.put, List.setIfInBounds_toArray, List.set_cons_zero, List.set_cons_succ]
      refine rg_take 10 rfl (by kernel_rfl) (by kernel_rfl) (by kernel_rfl) (fun _ _ _ _ h => h) (by rfl) ⟨_, fun w' hx => by (go_simp <;> with_reducible rfl), ?_⟩
      simp only [Act.put, List.setIfInBounds_toArray, List.set_cons_zero, List.set_cons_succ]
      refine rg_call 11 (live20 _) rfl (by kernel_rfl) (by rfl) (by go_simp) ?_
      rintro ee wf ⟨rfl, hbf⟩
      refine ⟨_, rfl, hbf, ?_⟩
      simp only [Act.put, List.setIfInBounds_toArray, List.set_cons_zero, List.set_cons_succ]
      refine rg_take 12 rfl (by kernel_rfl) (by kernel_rfl) (by kernel_rfl) (fun _ _ _ _ h => h) (by rfl) ⟨_, fun w' hx => by (go_simp <;> with_reducible rfl), ?_⟩
      simp only [Act.put, List.setIfInBounds_toArray, List.set_cons_zero, List.set_cons_succ]
      refine rg_take 13 rfl (by kernel_rfl) (by kernel_rfl) (by kernel_rfl) (fun _ _ _ _ h => h) (by rfl) ⟨_, fun w' hx => by (go_simp <;> with_reducible rfl), ?_⟩
      simp only [Act.put, List.setIfInBounds_toArray, List.set_cons_zero, List.set_cons_succ]
      refine rg_done (by kernel_rfl) ?_
      go_wp2_with fail
      go_ret
      exact ⟨rfl, Ext.tr hE6 (Ext.tr (Ext.drew _) (Ext.tr hba (Ext.tr hbb hbf)))⟩
    · simp only [List.length_nil]
      go_wp2_with fail
      refine (live20 _).mono ?_
      rintro e9 w19 ⟨rfl, hb9⟩
      go_wp2_with fail
      go_ret
      exact ⟨rfl, Ext.tr hE6 hb9⟩
  · have hright := hbr.1 rfl
    rcases Hx5.out with ⟨hg5, rfl⟩ | ⟨hg5, _⟩
    case inr => rw [Hp.out, Opn.getAll_putAll hright] at hg5; cases hg5
    rw [Hp.out, Opn.getAll_putAll hright] at hg5
    injection hg5 with hg5
    have Hg5 := Lib.hid hg5
    clear hbr hright hg5
    go_wp2_with fail
    refine (num20 0 _).mono ?_
    rintro e9 w19 ⟨rfl, rfl⟩
    have hsame := ref_osame A5 C L1 o c5 n w4 (hr5x.out.below hb4) (hC.below hE4) (by omega)
    rw [← Hg5.out, decide_eq_true (rfl : o.map OpV.x = _)] at hsame
    go_wp2_with fail
    refine hsame.mono ?_
    clear hsame
    rintro e15 w15 ⟨rfl, hb15⟩
    have hEr : Ext w w15 := Ext.tr hE4 hb15
    go_wp2_with fail
    refine ((oget_any B b m _ (hB.below hEr) _cm (by omega)).mono OGetP.uni).mono ?_
    rintro e6 w16 ⟨L2, A6, c6, x2, rfl, hr6, hl6, hx6, hb6⟩
    have hE6 : Ext w w16 := Ext.tr hEr hb6
    have Hr6 := Lib.hid hr6
    clear hr6
    go_wp2_with fail
    refine (num20 x2 _).mono ?_
    rintro e7 w17 ⟨rfl, rfl⟩
    rcases hx6.out with ⟨hg6, rfl⟩ | ⟨hg6, rfl, rfl⟩
    · obtain ⟨hrt, hpb⟩ := Opn.getAll_some hg6
      have Sb2 := Lib.hid (fun e he => by
        have h1 := hrt.ok e.x (List.mem_map.2 ⟨e, he, rfl⟩)
        have h2 := h1.key
        have h3 := h1.val
        exact ⟨by omega, by omega⟩ : ∀ e ∈ L2, (e : OpV).x.key.length ≤ 1000 ∧ e.x.val.length ≤ 100000)
      have hright := ref_right A6 L2 c6 w16.drew (Hr6.out.below (Ext.drew _)) (by omega) (fun e he => by have := (Sb2.out e he).1; omega)
      have Hrt := Lib.hid hrt
      have Hpb := Lib.hid hpb
      clear hg6 hrt hpb hx6
      have hright2 : Calls Try.prog 11 #[.slice A6 L2.length c6] w16.drew fun e' w' => e' = .returned (.bool true) ∧ Ext w16.drew w' := by
        refine hright.mono ?_
        rintro e w' ⟨b2, rfl, hb2, hb3⟩
        rw [hb2.2 Hrt.out]
        exact ⟨rfl, hb3⟩
      clear hright
      go_wp2_with fail
      refine rg_start (by kernel_rfl) ?_
      refine rg_take 0 rfl (by kernel_rfl) (by kernel_rfl) (by kernel_rfl) (fun _ _ _ _ h => h) (by rfl) ⟨_, fun w' hx => by (go_simp <;> with_reducible rfl), ?_⟩
      simp only [Act.put, List.setIfInBounds_toArray, List.set_cons_zero, List.set_cons_succ]
      refine rg_call 1 (hright2) rfl (by kernel_rfl) (by rfl) (by go_simp) ?_
      rintro ee wa ⟨rfl, hba⟩
      refine ⟨_, rfl, hba, ?_⟩
      simp only [Act.put, List.setIfInBounds_toArray, List.set_cons_zero, List.set_cons_succ]
      refine rg_take 2 rfl (by kernel_rfl) (by kernel_rfl) (by kernel_rfl) (fun _ _ _ _ h => h) (by rfl) ⟨_, fun w' hx => by (go_simp <;> with_reducible rfl), ?_⟩
      simp only [Act.put, List.setIfInBounds_toArray, List.set_cons_zero, List.set_cons_succ]
      refine rg_take 3 rfl (by kernel_rfl) (by kernel_rfl) (by kernel_rfl) (fun _ _ _ _ h => h) (by rfl) ⟨_, fun w' hx => by (go_simp <;> with_reducible rfl), ?_⟩
      simp only [Act.put, List.setIfInBounds_toArray, List.set_cons_zero, List.set_cons_succ]
      refine rg_take 6 rfl (by kernel_rfl) (by kernel_rfl) (by kernel_rfl) (fun _ _ _ _ h => h) (by rfl) ⟨_, fun w' hx => by (go_simp <;> with_reducible rfl), ?_⟩
      simp only [Act.put, List.setIfInBounds_toArray, List.set_cons_zero, List.set_cons_succ]
      refine rg_take 7 rfl (by kernel_rfl) (by kernel_rfl) (by kernel_rfl) (fun _ _ _ _ h => h) (by rfl) ⟨.string ⟨(b).toArray⟩, fun w' hx => ex_str rfl rfl Try.underlying33 Try.underlying5 Try.underlying9 (hB.below (Ext.tr hE6 (Ext.tr (Ext.drew _) (Ext.tr hba hx)))) rfl, ?_⟩
      simp only [Act.put, List.setIfInBounds_toArray, List.set_cons_zero, List.set_cons_succ]
      refine rg_call 4 (oput_any A6 L2 c6 wa (Hr6.out.below (Ext.tr (Ext.drew _) hba)) (by omega) Sb2.out) rfl (by kernel_rfl) (by rfl) (by go_simp) ?_
      rintro ee wb ⟨Ab, cb, rfl, hob, hbb⟩
      refine ⟨_, rfl, hbb, ?_⟩
      rw [Hpb.out] at hob ⊢
      simp only [Act.put, List.setIfInBounds_toArray, List.set_cons_zero, List.set_cons_succ]
      refine rg_take 5 rfl (by kernel_rfl) (by kernel_rfl) (by kernel_rfl) (fun _ _ _ _ h => h) (by rfl) ⟨.string ⟨(b).toArray⟩, fun w' hx => ex_str rfl rfl Try.underlying33 Try.underlying5 Try.underlying9 ((hob.rd').below hx) rfl, ?_⟩
      simp only [Act.put, List.setIfInBounds_toArray, List.set_cons_zero, List.set_cons_succ]
      refine rg_take 8 rfl (by kernel_rfl) (by kernel_rfl) (by kernel_rfl) (fun _ _ _ _ h => h) (by rfl) ⟨.bool (b == b), fun w' hx => ex_eqlS rfl rfl rfl, ?_⟩
      rw [show (b == b) = true from beq_self_eq_true _]
      simp only [Act.put, List.setIfInBounds_toArray, List.set_cons_zero, List.set_cons_succ]
      refine rg_take 9 rfl (by kernel_rfl) (by kernel_rfl) (by kernel_rfl) (fun _ _ _ _ h => h) (by rfl) ⟨_, fun w' hx => by (go_simp <;> with_reducible rfl), ?_⟩
      simp only [Act.put, List.setIfInBounds_toArray, List.set_cons_zero, List.set_cons_succ]
      refine rg_take 10 rfl (by kernel_rfl) (by kernel_rfl) (by kernel_rfl) (fun _ _ _ _ h => h) (by rfl) ⟨_, fun w' hx => by (go_simp <;> with_reducible rfl), ?_⟩
      simp only [Act.put, List.setIfInBounds_toArray, List.set_cons_zero, List.set_cons_succ]
      refine rg_call 11 (live20 _) rfl (by kernel_rfl) (by rfl) (by go_simp) ?_
      rintro ee wf ⟨rfl, hbf⟩
      refine ⟨_, rfl, hbf, ?_⟩
      simp only [Act.put, List.setIfInBounds_toArray, List.set_cons_zero, List.set_cons_succ]
      refine rg_take 12 rfl (by kernel_rfl) (by kernel_rfl) (by kernel_rfl) (fun _ _ _ _ h => h) (by rfl) ⟨_, fun w' hx => by (go_simp <;> with_reducible rfl), ?_⟩
      simp only [Act.put, List.setIfInBounds_toArray, List.set_cons_zero, List.set_cons_succ]
      refine rg_take 13 rfl (by kernel_rfl) (by kernel_rfl) (by kernel_rfl) (fun _ _ _ _ h => h) (by rfl) ⟨_, fun w' hx => by (go_simp <;> with_reducible rfl), ?_⟩
      simp only [Act.put, List.setIfInBounds_toArray, List.set_cons_zero, List.set_cons_succ]
      refine rg_done (by kernel_rfl) ?_
      go_wp2_with fail
      go_ret
      exact ⟨rfl, Ext.tr hE6 (Ext.tr (Ext.drew _) (Ext.tr hba (Ext.tr hbb hbf)))⟩
    · simp only [List.length_nil]
      go_wp2_with fail
      refine (live20 _).mono ?_
      rintro e9 w19 ⟨rfl, hb9⟩
      go_wp2_with fail
      go_ret
      exact ⟨rfl, Ext.tr hE6 hb9⟩
end Go.Proofs.Ytdekdblebflklaa
