
/- Contracts: Blocks, Block (the program's and the document's), num, Ints. -/

import Derived.Test.YtnagbhaknmoilaaSgnAll

namespace Go.Proofs.Ytnagbhaknmoilaa

open Go.RowKit

attribute [local go_sem] Oper.semAt_some

theorem num22 (v : Int) (w : World) : Calls Try.prog 16 #[.int .i64 v] w fun e w' => e = .returned (.int .i64 v) ∧ w = w' := by
  go_enter Try.func16, Try.ntmps16
  go_wp2
  go_ret
  exact ⟨rfl, rfl⟩
theorem blocks_any (s : Int) (h1 : -9223372036854775808 ≤ s) (h2 : s ≤ 9223372036854775807) (w : World) : Calls Try.prog 11 #[.int .i64 s] w fun e w' => e = .returned (.int .i64 (Sg.blocks s : Int)) ∧ w = w' := by
  by_cases h : s < 1 ∨ 131072 < s
  · have hb : Sg.blocks s = 0 := by unfold Sg.blocks; rw [if_pos h]
    rw [hb]
    by_cases h3 : s < 1
    · go_enter Try.func11, Try.ntmps11
      go_wp2
      go_ret
      exact ⟨rfl, rfl⟩
    · have h4 : 131072 < s := by omega
      have h5 : 1 ≤ s := by omega
      clear h
      go_enter Try.func11, Try.ntmps11
      go_wp2
      go_ret
      exact ⟨rfl, rfl⟩
  · have hb : (Sg.blocks s : Int) = (s - 1) / 64 + 1 := by unfold Sg.blocks; rw [if_neg h]; omega
    have h4 : s ≤ 131072 := by omega
    have h5 : 1 ≤ s := by omega
    rw [hb]
    clear h hb
    go_enter Try.func11, Try.ntmps11
    go_wp2
    go_ret
    exact ⟨rfl, rfl⟩
theorem ref_blocks (s : Int) (h1 : -9223372036854775808 ≤ s) (h2 : s ≤ 9223372036854775807) (w : World) : Calls Try.prog 12 #[.int .i64 s] w fun e w' => e = .returned (.int .i64 (Sg.blocks s : Int)) ∧ w = w' := by
  by_cases h : s < 1 ∨ 131072 < s
  · have hb : Sg.blocks s = 0 := by unfold Sg.blocks; rw [if_pos h]
    rw [hb]
    by_cases h3 : s < 1
    · go_enter Try.func12, Try.ntmps12
      go_wp2
      go_ret
      exact ⟨rfl, rfl⟩
    · have h4 : 131072 < s := by omega
      have h5 : 1 ≤ s := by omega
      clear h
      go_enter Try.func12, Try.ntmps12
      go_wp2
      go_ret
      exact ⟨rfl, rfl⟩
  · have hb : (Sg.blocks s : Int) = (s - 1) / 64 + 1 := by unfold Sg.blocks; rw [if_neg h]; omega
    have h4 : s ≤ 131072 := by omega
    have h5 : 1 ≤ s := by omega
    rw [hb]
    clear h hb
    go_enter Try.func12, Try.ntmps12
    go_wp2
    go_ret
    exact ⟨ret_int (by omega), rfl⟩
def bl2 (z : Int × Int) : Value := .tuple #[.int .i64 z.1, .int .i64 z.2]
theorem block_any (s i : Int) (h1 : -9223372036854775808 ≤ s) (h2 : s ≤ 9223372036854775807) (w : World) : Calls Try.prog 9 #[.int .i64 s, .int .i64 i] w fun e w' => e = .returned (bl2 (Sg.block s i)) ∧ w = w' := by
  have hB := blocks_any s h1 h2 w
  obtain ⟨b, hb⟩ : ∃ b, b = Sg.blocks s := ⟨_, rfl⟩
  rw [← hb] at hB
  have hb2 := Sg.blocks_le s
  rw [← hb] at hb2
  by_cases h0 : i < 0
  · rw [Sg.block_out (.inl h0)]
    clear hb
    go_enter Try.func9, Try.ntmps9
    go_wp2_with fail
    refine bodyPost_ret (results_tmp2 rfl _ _ _) rfl ?_
    exact ⟨rfl, rfl⟩
  · have h0' : 0 ≤ i := by omega
    by_cases h3 : (b : Int) ≤ i
    · rw [Sg.block_out (.inr (by omega))]
      clear hb h0
      go_enter Try.func9, Try.ntmps9
      go_wp2_with (go_at_call 11; refine hB.mono ?_; clear hB; rintro e1 w1 ⟨rfl, rfl⟩)
      refine bodyPost_ret (results_tmp2 rfl _ _ _) rfl ?_
      exact ⟨rfl, rfl⟩
    · have h3' : i < (b : Int) := by omega
      obtain ⟨j, rfl⟩ : ∃ j : Nat, i = j := ⟨i.toNat, by omega⟩
      obtain ⟨e1, q1, q2, q3, q4, q5⟩ := Sg.block_in (size := s) (i := j) (by omega)
      rw [e1]
      have m1 : IntKind.i64.wrap (64 * (j : Int)) = 64 * (j : Int) := by rw [IntKind.wrap_i64]; omega
      have m2 : IntKind.i64.wrap (s - 64 * (j : Int)) = s - 64 * (j : Int) := by rw [IntKind.wrap_i64]; omega
      have hq : Sg.len s j = if s - 64 * (j : Int) < 64 then s - 64 * (j : Int) else 64 := rfl
      have Hq := Lib.hid hq
      clear hb h0 e1 q1 q2 q3 h3 hq
      go_enter Try.func9, Try.ntmps9
      go_wp2_with (go_at_call 11; refine hB.mono ?_; clear hB; rintro e1 w1 ⟨rfl, rfl⟩)
      all_goals
        refine bodyPost_ret (results_tmp2 rfl _ _ _) rfl ?_
        refine ⟨?_, rfl⟩
        unfold bl2
        rw [Hq.out]
        first | rw [if_pos (by omega)] | rw [if_neg (by omega)]
        rfl
theorem ref_block22 (s i : Int) (h1 : -9223372036854775808 ≤ s) (h2 : s ≤ 9223372036854775807) (w : World) : Calls Try.prog 10 #[.int .i64 s, .int .i64 i] w fun e w' => e = .returned (bl2 (Sg.block s i)) ∧ w = w' := by
  have hB := ref_blocks s h1 h2 w
  obtain ⟨b, hb⟩ : ∃ b, b = Sg.blocks s := ⟨_, rfl⟩
  rw [← hb] at hB
  have hb2 := Sg.blocks_le s
  rw [← hb] at hb2
  by_cases h0 : i < 0
  · rw [Sg.block_out (.inl h0)]
    clear hb
    go_enter Try.func10, Try.ntmps10
    go_wp2_with fail
    refine bodyPost_ret (results_tmp2 rfl _ _ _) rfl ?_
    exact ⟨rfl, rfl⟩
  · have h0' : 0 ≤ i := by omega
    by_cases h3 : (b : Int) ≤ i
    · rw [Sg.block_out (.inr (by omega))]
      clear hb h0
      go_enter Try.func10, Try.ntmps10
      go_wp2_with (go_at_call 12; refine hB.mono ?_; clear hB; rintro e1 w1 ⟨rfl, rfl⟩)
      refine bodyPost_ret (results_tmp2 rfl _ _ _) rfl ?_
      exact ⟨rfl, rfl⟩
    · have h3' : i < (b : Int) := by omega
      obtain ⟨j, rfl⟩ : ∃ j : Nat, i = j := ⟨i.toNat, by omega⟩
      obtain ⟨e1, q1, q2, q3, q4, q5⟩ := Sg.block_in (size := s) (i := j) (by omega)
      rw [e1]
      have m1 : IntKind.i64.wrap ((j : Int) * 64) = 64 * (j : Int) := by rw [IntKind.wrap_i64]; omega
      have m2 : IntKind.i64.wrap (s - 64 * (j : Int)) = s - 64 * (j : Int) := by rw [IntKind.wrap_i64]; omega
      have hq : Sg.len s j = if s - 64 * (j : Int) < 64 then s - 64 * (j : Int) else 64 := rfl
      have Hq := Lib.hid hq
      clear hb h0 e1 q1 q2 q3 h3 hq
      go_enter Try.func10, Try.ntmps10
      go_wp2_with (go_at_call 12; refine hB.mono ?_; clear hB; rintro e1 w1 ⟨rfl, rfl⟩)
      all_goals
        refine bodyPost_ret (results_tmp2 rfl _ _ _) rfl ?_
        refine ⟨?_, rfl⟩
        unfold bl2
        rw [Hq.out]
        first | rw [if_pos (by omega)] | rw [if_neg (by omega)]
        rfl

/-! ### lists of ints -/

def iv (x : Int) : Value := .int .i64 x
def ivs (l : List Int) : List Value := l.map iv
theorem ivs_app (l m : List Int) : ivs (l ++ m) = ivs l ++ ivs m := by simp [ivs]
theorem ivs_len (l : List Int) : (ivs l).length = l.length := by simp [ivs]
theorem ivs_one (l : List Int) : ∀ u ∈ ivs l, u.oneCell' = true := by
  intro u hu
  simp only [ivs, List.mem_map] at hu
  obtain ⟨x, _, rfl⟩ := hu
  rfl
theorem elemI : ElemT Try.prog 35 3 1 8 := ElemT.mk' Try.underlying35 (z := .int .i64 0) (by kernel_rfl) (by rfl) (by decide)
def RdI (w : World) (A : Option Addr) (l : List Int) : Prop := Rd w 1 A l.length (ivs l)
theorem RdI.below {w w' : World} {A : Option Addr} {l : List Int} (h : RdI w A l) (hb : Ext w w') : RdI w' A l := Rd.below h hb
theorem RdI.at_ {w : World} {A : Option Addr} {l : List Int} (h : RdI w A l) {k : Nat} (hk : k < l.length) : ∃ ad, A = some ad ∧ w.cell? (ad.add k) = some (.int .i64 l[k]) := by
  obtain ⟨ad, u, h1, h2, h3⟩ := Rd.at_ h hk
  refine ⟨ad, h1, ?_⟩
  rw [h3]
  simp [ivs, hk] at h2
  rw [← h2]
  rfl
set_option maxRecDepth 100000 in
theorem ref_ints22 (A B : Option Addr) (l m : List Int) (c d : Nat) (w : World) (hA : RdI w A l) (hB : RdI w B m) (hl : l.length ≤ 1000000) :
    Calls Try.prog 15 #[.slice A l.length c, .slice B m.length d] w fun e w' => e = .returned (.bool (decide (l = m))) ∧ Ext w w' := by
  go_enter Try.func15, Try.ntmps15
  by_cases h : l.length = m.length
  · obtain ⟨n, hn⟩ : ∃ n, n = l.length := ⟨_, rfl⟩
    rw [← hn] at h
    rw [← h, ← hn]
    have Hn := Lib.hid hn
    have Hm := Lib.hid h
    have hl2 : n ≤ 1000000 := by omega
    clear hn h
    go_wp2
    go_loopw [5] (fun i wr => ∃ k : Nat, k ≤ n ∧ i = .int .i64 k ∧ l.take k = m.take k ∧ Ext w wr) (fun i _ => n - (intOf i).toNat)
    case atStart => exact ⟨0, by omega, rfl, by simp, Ext.refl _⟩
    case round =>
      obtain ⟨k, hk, rfl, ht, hE⟩ := hrel
      by_cases hkn : k < n
      · have hE2 := Ext.tr hE (Ext.drew _)
        obtain ⟨a, rfl, ha⟩ := (hA.below hE2).at_ (k := k) (by have := Hn.out; omega)
        obtain ⟨b, rfl, hb⟩ := (hB.below hE2).at_ (k := k) (by have := Hm.out; omega)
        have hkl : k < l.length := by have := Hn.out; omega
        have hkm : k < m.length := by have := Hm.out; omega
        obtain ⟨x, hx⟩ : ∃ x, x = l[k] := ⟨_, rfl⟩
        obtain ⟨y, hy⟩ : ∃ y, y = m[k] := ⟨_, rfl⟩
        rw [← hx] at ha
        rw [← hy] at hb
        have Hx := Lib.hid hx
        have Hy := Lib.hid hy
        have Ht := Lib.hid ht
        have ik : (0 : Int) ≤ (k : Int) := by omega
        have ik2 : (k : Int) < (n : Int) := by omega
        clear hx hy ht
        go_wp2_with fail
        refine rg_start (by kernel_rfl) ?_
        refine rg_take 0 rfl (by kernel_rfl) (by kernel_rfl) (by kernel_rfl) (fun _ _ _ _ h => h) (by rfl) ⟨_, fun w' hx => by (go_simp <;> with_reducible rfl), ?_⟩
        simp only [Act.put, List.setIfInBounds_toArray, List.set_cons_zero, List.set_cons_succ]
        refine rg_take 1 rfl (by kernel_rfl) (by kernel_rfl) (by kernel_rfl) (fun _ _ _ _ h => h) (by rfl) ⟨_, fun w' hx => by (go_simp <;> with_reducible rfl), ?_⟩
        simp only [Act.put, List.setIfInBounds_toArray, List.set_cons_zero, List.set_cons_succ]
        refine rg_take 2 rfl (by kernel_rfl) (by kernel_rfl) (by kernel_rfl) (fun _ _ _ _ h => h) (by rfl) ⟨_, fun w' hx => by (go_simp <;> with_reducible rfl), ?_⟩   -- t19 := indexAddr 35 t17 t18
        simp only [Act.put, List.setIfInBounds_toArray, List.set_cons_zero, List.set_cons_succ]
        refine rg_take 3 rfl (by kernel_rfl) (by kernel_rfl) (by kernel_rfl) (fun _ _ _ _ h => h) (by rfl) ⟨_, fun w' hx => by have hcx := hx.load ha; (go_simp <;> with_reducible rfl), ?_⟩
        simp only [Act.put, List.setIfInBounds_toArray, List.set_cons_zero, List.set_cons_succ]
        refine rg_take 4 rfl (by kernel_rfl) (by kernel_rfl) (by kernel_rfl) (fun _ _ _ _ h => h) (by rfl) ⟨_, fun w' hx => by (go_simp <;> with_reducible rfl), ?_⟩
        simp only [Act.put, List.setIfInBounds_toArray, List.set_cons_zero, List.set_cons_succ]
        refine rg_take 5 rfl (by kernel_rfl) (by kernel_rfl) (by kernel_rfl) (fun _ _ _ _ h => h) (by rfl) ⟨_, fun w' hx => by (go_simp <;> with_reducible rfl), ?_⟩
        simp only [Act.put, List.setIfInBounds_toArray, List.set_cons_zero, List.set_cons_succ]
        refine rg_take 6 rfl (by kernel_rfl) (by kernel_rfl) (by kernel_rfl) (fun _ _ _ _ h => h) (by rfl) ⟨_, fun w' hx => by (go_simp <;> with_reducible rfl), ?_⟩   -- t23 := indexAddr 35 t21 t22
        simp only [Act.put, List.setIfInBounds_toArray, List.set_cons_zero, List.set_cons_succ]
        refine rg_take 7 rfl (by kernel_rfl) (by kernel_rfl) (by kernel_rfl) (fun _ _ _ _ h => h) (by rfl) ⟨_, fun w' hx => by have hcx := hx.load hb; (go_simp <;> with_reducible rfl), ?_⟩
        simp only [Act.put, List.setIfInBounds_toArray, List.set_cons_zero, List.set_cons_succ]
        refine rg_take 8 rfl (by kernel_rfl) (by kernel_rfl) (by kernel_rfl) (fun _ _ _ _ h => h) (by rfl) ⟨.bool (!decide (x = y)), fun w' hx => by (go_simp; try rfl), ?_⟩
        simp only [Act.put, List.setIfInBounds_toArray, List.set_cons_zero, List.set_cons_succ]
        refine rg_done (by kernel_rfl) ?_
        by_cases hxy : x = y
        · have e0 : (!decide (x = y)) = false := by simp [hxy]
          rw [e0]
          go_wp2_with fail
          go_roundw
          case rel => exact ⟨k + 1, by omega, by go_num, by rw [List.take_add_one, List.take_add_one, Ht.out, List.getElem?_eq_getElem hkl, List.getElem?_eq_getElem hkm, ← Hx.out, ← Hy.out, hxy], hE2⟩
          case measure => simp [intOf]; omega
        · have e0 : (!decide (x = y)) = true := by simp [hxy]
          rw [e0]
          go_wp2_with fail
          go_ret
          refine ⟨?_, hE2⟩
          have hne : ¬ l = m := fun e => hxy (by rw [Hx.out, Hy.out]; subst e; rfl)
          simp [hne]
      · obtain rfl : k = n := by omega
        go_wp2_with fail
        go_ret
        refine ⟨?_, hE⟩
        have he : l = m := by
          rw [List.take_of_length_le (by have := Hn.out; omega), List.take_of_length_le (by have := Hm.out; omega)] at ht
          exact ht
        simp [he]
  · have hne : ¬ l = m := fun e => h (by rw [e])
    have hI : ¬ (l.length : Int) = (m.length : Int) := by omega
    go_wp2
    go_ret
    exact ⟨by simp [hne], Ext.refl _⟩
end Go.Proofs.Ytnagbhaknmoilaa
