
/- Walks of laws of layer 20: OpsJust. Printed by wip/tools/gen_oplaws20.py. -/

import Derived.Test.YtdekdblebflklaaOpLive

import Derived.Test.YtdekdblebflklaaOpRight

import Derived.Test.YtdekdblebflklaaSlCut

import Derived.Test.YtdekdblebflklaaReg3

namespace Go.Proofs.Ytdekdblebflklaa

open Go.RowKit

attribute [local go_sem] Oper.semAt_some

set_option maxRecDepth 100000 in
set_option maxHeartbeats 4000000 in
theorem walkOpsJust (w : World) (A : Option Addr) (h : List EnV) (k : Nat) (hA : RdE w A h) (_ck : h.length ≤ k) (B : Option Addr) (l : List EnV) (m : Nat) (hB : RdE w B l) (_cm : l.length ≤ m) (z : Int) (_wz : (Lit.int .i64 z).wf = true) :
    Calls Try.prog 5 #[.slice A h.length k, .slice B l.length m, .int .i64 z] w fun e w' => e = .returned (.bool true) ∧ Below w.heap.size w w' := by
  go_enter Try.func5, Try.ntmps5
  go_wp2_with fail
  refine (fit20 A h k _ (hA.below (Ext.refl w))).mono ?_
  rintro e1 w1 ⟨b1, rfl, hf1, hb1⟩
  have hE1 : Ext w w1 := Ext.tr (Ext.refl w) hb1
  rcases b1 with _ | _
  · go_wp2_with fail
    refine (live20 _).mono ?_
    rintro e2 w2 ⟨rfl, hb2⟩
    go_wp2_with fail
    go_ret
    exact ⟨rfl, Ext.tr hE1 hb2⟩
  have fit_h : FitE h := hf1 rfl
  clear hf1
  have Fit_h := Lib.hid fit_h
  have fl_h := fit_h.1
  have Up_h := Lib.hid fit_h.2.upK
  clear fit_h
  go_wp2_with fail
  refine (fit20 B l m _ (hB.below hE1)).mono ?_
  rintro e2 w2 ⟨b2, rfl, hf2, hb2⟩
  have hE2 : Ext w w2 := Ext.tr hE1 hb2
  rcases b2 with _ | _
  · go_wp2_with fail
    refine (live20 _).mono ?_
    rintro e3 w3 ⟨rfl, hb3⟩
    go_wp2_with fail
    go_ret
    exact ⟨rfl, Ext.tr hE2 hb3⟩
  have fit_l : FitE l := hf2 rfl
  clear hf2
  have Fit_l := Lib.hid fit_l
  have fl_l := fit_l.1
  have Up_l := Lib.hid fit_l.2.upK
  clear fit_l
  by_cases hneg : z < 0
  · go_wp2_with fail
    refine (live20 _).mono ?_
    rintro e8 w8 ⟨rfl, hb8⟩
    go_wp2_with fail
    go_ret
    exact ⟨rfl, Ext.tr hE2 hb8⟩
  have Fup : Hid (UpK Ent.key (h.map EnV.x) ∧ UpK Ent.key (l.map EnV.x)) := ⟨UpK.of_up Fit_h.out.2.up, UpK.of_up Fit_l.out.2.up⟩
  go_wp2_with fail
  refine (diff_any A h k B l m _ (hA.below hE2) (hB.below hE2) _ck _cm (by omega) (by omega)).mono ?_
  rintro e3 w3 ⟨A1, D, c1, rfl, hd1, hr1, hc1, _, hl1, hb3⟩
  have hE3 : Ext w w3 := Ext.tr hE2 hb3
  have hr1w := Lib.hid hr1
  have Hd1 := Lib.hid hd1
  clear hr1 hd1
  go_wp2_with fail
  refine (apply_any A h k A1 D c1 _ (hA.below hE3) (hr1w.out) Up_h.out (by omega) (by omega)).mono ?_
  rintro e4 w4 ⟨A2, L2, c2, rfl, hx2, _, hl2, hr2, _, _, hb4⟩
  have hE4 : Ext w w4 := Ext.tr hE3 hb4
  rw [Hd1.out, Opn.apply_diff Fup.out.1 Fup.out.2] at hx2
  have hsame := ref_same17 A2 B L2 l c2 m _ hr2 (hB.below hE4) (by omega)
  rw [hx2, Ent.sameL_refl] at hsame
  clear hx2 hr2
  go_wp2_with fail
  refine (hsame).mono ?_
  rintro e5 w5 ⟨rfl, hb5⟩
  have hE5 : Ext w w5 := Ext.tr hE4 hb5
  have hsame2 := ref_same17 A B h l k m w5 (hA.below hE5) (hB.below hE5) (by omega)
  clear hsame
  have hDn := Opn.diff_nil Fup.out.1 Fup.out.2
  rw [← Hd1.out, List.map_eq_nil_iff] at hDn
  by_cases hD0 : D = []
  · have he : Ent.sameL (h.map EnV.x) (l.map EnV.x) = true := (Ent.sameL_iff _ _).2 (hDn.1 hD0)
    rw [he] at hsame2
    subst hD0
    clear he hDn
    simp only [List.length_nil] at hc1 hl1 ⊢
    go_wp2_with fail
    refine hsame2.mono ?_
    clear hsame2
    rintro e8 w8 ⟨rfl, hb8⟩
    go_wp2_with fail
    refine (live20 _).mono ?_
    rintro e9 w9 ⟨rfl, hb9⟩
    go_wp2_with fail
    go_ret
    exact ⟨rfl, Ext.tr hE5 (Ext.tr hb8 hb9)⟩
  have he : Ent.sameL (h.map EnV.x) (l.map EnV.x) = false := Ent.sameL_ne fun e => hD0 (hDn.2 e)
  rw [he] at hsame2
  have hDp := List.length_pos_iff.2 hD0
  have hDi : ¬ ((D.length : Int) = 0) := by omega
  have hDb : ((D.length : Int) == 0) = false := by rw [beq_eq_false_iff_ne]; omega
  clear he hDn hD0
  go_wp2_with fail
  refine (hsame2).mono ?_
  rintro e6 w6 ⟨rfl, hb6⟩
  have hE6 : Ext w w6 := Ext.tr hE5 hb6
  clear hsame2
  obtain ⟨j, hj⟩ : ∃ j : Nat, j = z.toNat % D.length := ⟨_, rfl⟩
  have hjl : j < D.length := by rw [hj]; exact Nat.mod_lt _ hDp
  have hz : z = (z.toNat : Int) := by omega
  have hrem : Int.tmod z (D.length : Int) = (j : Int) := by
    rw [Int.tmod_eq_emod_of_nonneg (by omega), hj]
    have : ((z.toNat % D.length : Nat) : Int) = (z.toNat : Int) % (D.length : Int) := Int.natCast_emod _ _
    rw [this, ← hz]
  have jw : IntKind.i64.wrap (j : Int) = (j : Int) := by rw [IntKind.wrap_i64]; omega
  have jw1 : IntKind.i64.wrap ((j : Int) + 1) = ((j + 1 : Nat) : Int) := by rw [IntKind.wrap_i64]; omega
  obtain ⟨less, hless⟩ : ∃ less, less = D.take j ++ D.drop (j + 1) := ⟨_, rfl⟩
  have hnot : Opn.apply (h.map EnV.x) (less.map OpV.x) ≠ l.map EnV.x := Opn.diff_just Fup.out.1 Fup.out.2 (i := j) (by rw [← Hd1.out]; simpa using hjl) _ (by rw [hless, ← Hd1.out, List.map_append, List.map_take, List.map_drop])
  have hll : less.length = j + (D.length - (j + 1)) := by rw [hless, List.length_append, List.length_take, List.length_drop]; omega
  have Hless := Lib.hid hless
  have Hnot := Lib.hid hnot
  have Hll := Lib.hid hll
  have hrD : RdO w6 A1 D := hr1w.out.below (Ext.tr hb4 (Ext.tr hb5 hb6))
  obtain ⟨A7, hA7⟩ : ∃ A7, A7 = (if c1 = j + 1 then A1 else A1.map (·.add ((j + 1) * 3))) := ⟨_, rfl⟩
  obtain ⟨m7, hm7⟩ : ∃ m7, m7 = D.length - (j + 1) := ⟨_, rfl⟩
  have hrd1 : Rd w6 3 A1 j (ocs (D.take j)) := by
    have := hrD.rd.headS (m := j) (by omega)
    rwa [ocs_take] at this
  have hrd7 : Rd w6 3 A7 m7 (ocs (D.drop (j + 1))) := by
    have := (hrD.tail (k := j + 1) (by omega) hc1).rd
    rw [← hA7, List.length_drop, ← hm7] at this
    exact this
  have HA7 := Lib.hid hA7
  have Hm7 := Lib.hid hm7
  have HrD := Lib.hid hrD
  have Hrd1 := Lib.hid hrd1
  have Hrd7 := Lib.hid hrd7
  have Hj := Lib.hid hj
  clear hj hz hless hnot hll hrD hA7 hm7 hrd1 hrd7
  go_wp2_with fail
  refine rg_start (by kernel_rfl) ?_
  refine rg_take 1 rfl (by kernel_rfl) (by kernel_rfl) (by kernel_rfl) (fun _ _ _ _ h => h) (by rfl) ⟨_, fun w' hx => by (go_simp <;> with_reducible rfl), ?_⟩
  simp only [Act.put, List.setIfInBounds_toArray, List.set_cons_zero, List.set_cons_succ]
  refine rg_take 2 rfl (by kernel_rfl) (by kernel_rfl) (by kernel_rfl) (fun _ _ _ _ h => h) (by rfl) ⟨_, fun w' hx => by (go_simp <;> with_reducible rfl), ?_⟩
  simp only [Act.put, List.setIfInBounds_toArray, List.set_cons_zero, List.set_cons_succ]
  refine rg_take 3 rfl (by kernel_rfl) (by kernel_rfl) (by kernel_rfl) (fun _ _ _ _ h => h) (by rfl) ⟨.slice A1 j c1, fun w' hx => ex_sliceH (.tmp 50) (.tmp 51) 23 rfl elemO A1 D.length c1 rfl j rfl (by omega), ?_⟩
  simp only [Act.put, List.setIfInBounds_toArray, List.set_cons_zero, List.set_cons_succ]
  refine rg_take 5 rfl (by kernel_rfl) (by kernel_rfl) (by kernel_rfl) (fun _ _ _ _ h => h) (by rfl) ⟨_, fun w' hx => by (go_simp <;> with_reducible rfl), ?_⟩
  simp only [Act.put, List.setIfInBounds_toArray, List.set_cons_zero, List.set_cons_succ]
  refine rg_take 6 rfl (by kernel_rfl) (by kernel_rfl) (by kernel_rfl) (fun _ _ _ _ h => h) (by rfl) ⟨_, fun w' hx => by (go_simp <;> with_reducible rfl), ?_⟩
  simp only [Act.put, List.setIfInBounds_toArray, List.set_cons_zero, List.set_cons_succ]
  refine rg_take 7 rfl (by kernel_rfl) (by kernel_rfl) (by kernel_rfl) (fun _ _ _ _ h => h) (by rfl) ⟨.int .i64 ((j + 1 : Nat) : Int), fun w' hx => by (go_simp <;> with_reducible rfl), ?_⟩
  simp only [Act.put, List.setIfInBounds_toArray, List.set_cons_zero, List.set_cons_succ]
  refine rg_take 8 rfl (by kernel_rfl) (by kernel_rfl) (by kernel_rfl) (fun _ _ _ _ h => h) (by rfl) ⟨.slice A7 m7 (c1 - (j + 1)), fun w' hx => ex_sliceL (.tmp 54) (.tmp 56) 23 rfl elemO A1 D.length c1 rfl (j + 1) rfl (by omega) A7 HA7.out m7 _ Hm7.out rfl, ?_⟩
  simp only [Act.put, List.setIfInBounds_toArray, List.set_cons_zero, List.set_cons_succ]
  refine rg_make 0 rfl (by kernel_rfl) (by rfl) ⟨_, _, by (go_simp <;> first | exact ⟨rfl, rfl⟩ | rfl), Ext.alloc _ _, ?_⟩
  simp only [Act.put, List.setIfInBounds_toArray, List.set_cons_zero, List.set_cons_succ]
  have hW0 : Ext w6 (w6.drew.alloc (.cells #[] 50)) := Ext.tr (Ext.drew _) (Ext.alloc _ _)
  refine rg_one 4 rfl (by kernel_rfl) (by rfl) (wp_app (.tmp 49) (.tmp 52) 23 rfl elemO w6.heap.size _ 0 0 [] rfl A1 j c1 (ocs (D.take j)) rfl j (by omega) (ocs (D.take j)) rfl (Own.none_ _ _ _ _ _) (Hrd1.out.below hW0) (ocs_one_cell _) (by omega) (by omega) hW0.size (fun A8 c8 wa ho8 hg8 hr8 => ⟨.inl (grown_none (by simpa [ownRow] using hg8)), ?_⟩))
  have hba : Ext w6 wa := Ext.tr hW0 (grown_none (by simpa [ownRow] using hg8))
  simp only [Act.put, List.setIfInBounds_toArray, List.set_cons_zero, List.set_cons_succ]
  refine rg_last 9 rfl (by kernel_rfl) (by kernel_rfl) (by rfl) fun K hK => wp_app (.tmp 53) (.tmp 57) 23 rfl elemO w6.heap.size A8 j c8 (ocs (D.take j)) rfl A7 m7 (c1 - (j + 1)) (ocs (D.drop (j + 1))) rfl (j + m7) rfl (ocs less) (by rw [Hless.out, ocs_app]) ho8 (Hrd7.out.below hba) (ocs_one_cell _) (by have := Hm7.out; omega) (by have := Hm7.out; omega) hba.size fun A9 c9 wb ho9 hg9 hr9 => hK _ _ ?_
  have hbb : Ext w6 wb := below_app hba ho8 hg9 hba.size
  simp only [Act.put, List.setIfInBounds_toArray, List.set_cons_zero, List.set_cons_succ]
  refine rg_take 10 rfl (by kernel_rfl) (by kernel_rfl) (by kernel_rfl) (fun _ _ _ _ h => h) (by rfl) ⟨_, fun w' hx => by (go_simp <;> with_reducible rfl), ?_⟩
  simp only [Act.put, List.setIfInBounds_toArray, List.set_cons_zero, List.set_cons_succ]
  refine rg_done (by kernel_rfl) ?_
  have hless9 : RdO wb A9 less := ⟨by rw [Hll.out, ← Hm7.out]; exact ho9.rd, fun e he => (HrD.out.each e (by rw [Hless.out] at he; rcases List.mem_append.1 he with he | he; exact List.mem_of_mem_take he; exact List.mem_of_mem_drop he)).below hbb⟩
  have hjm : j + m7 = less.length := by rw [Hll.out, Hm7.out]
  rw [hjm]
  have Hless9 := Lib.hid hless9
  have hEb : Ext w wb := Ext.tr hE6 hbb
  have hlb : less.length ≤ 100000 := by rw [← hjm, Hm7.out]; omega
  clear hless9 ho8 hg8 hr8 ho9 hg9 hr9 hba hW0 hbb
  go_wp2_with fail
  refine (apply_any A h k A9 less c9 _ (hA.below hEb) Hless9.out Up_h.out (by omega) hlb).mono ?_
  rintro e7 w7 ⟨A10, L10, c10, rfl, hx10, _, hl10, hr10, _, _, hb7⟩
  have hE7 : Ext w w7 := Ext.tr hEb hb7
  have hsame := ref_same17 A10 B L10 l c10 m _ hr10 (hB.below hE7) (by omega)
  rw [Ent.sameL_ne (by rw [hx10]; exact Hnot.out)] at hsame
  clear hx10 hr10
  go_wp2_with fail
  refine (hsame).mono ?_
  rintro e8 w8 ⟨rfl, hb8⟩
  have hE8 : Ext w w8 := Ext.tr hE7 hb8
  clear hsame
  go_wp2_with fail
  refine (live20 _).mono ?_
  rintro e9 w9 ⟨rfl, hb9⟩
  have hE9 : Ext w w9 := Ext.tr hE8 hb9
  go_wp2_with fail
  go_ret
  exact ⟨rfl, hE9⟩
end Go.Proofs.Ytdekdblebflklaa
