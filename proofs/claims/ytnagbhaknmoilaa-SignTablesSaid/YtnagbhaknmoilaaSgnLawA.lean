
/- Walk of SignTables (scowlaw22). Printed by wip/tools/gen_sgnlaws22.py. -/

import Derived.Test.YtnagbhaknmoilaaSgnEq

namespace Go.Proofs.Ytnagbhaknmoilaa

open Go.RowKit

attribute [local go_sem] Oper.semAt_some

theorem ex_neqArr {P : Program} {o : Oper} {a : Act} {w : World} {t u : TypeId} {x y : Operand} {p q : Value} {b : Bool} (ho : o.op = .binOp .neq t x y u) (hx : a.eval x = p) (hy : a.eval y = q) (hr : (binOp .neq t p q).run P w = .ok (.bool b) w) (hg : (eqGuard .neq t x y p q).run P w = .ok () w) :
    (execOp a.eval o).run P w = .ok (.value (.bool b)) w := by
  unfold execOp
  simp only [ho, hx, hy, Sem.run_bind]
  rw [hg]
  simp only [Result.andThen_ok]
  rw [hr]
  rfl
set_option maxRecDepth 100000 in
set_option maxHeartbeats 2000000 in
theorem walkSignTables (w : World) (A : Option Addr) (bs : List UInt8) (cap : Nat) (hA : RdB w A bs) (hc : bs.length ≤ cap) (size : Int) (hsz : (Lit.int .i64 size).wf = true) (i : Int) (_hi : (Lit.int .i64 i).wf = true) :
    Calls Try.prog 3 #[.slice A bs.length cap, .int .i64 size, .int .i64 i] w fun e w' => e = .returned (.bool true) ∧ Below w.heap.size w w' := by
  obtain ⟨s1, s2⟩ := wf_int hsz
  obtain ⟨L, hL⟩ : ∃ L, L = bs.length := ⟨_, rfl⟩
  rw [← hL] at hc ⊢
  have HL := Lib.hid hL
  clear hL hsz
  by_cases hbig : 800 < L
  · have hbI : (800 : Int) < (L : Int) := by omega
    go_enter Try.func3, Try.ntmps3
    go_wp2_with (go_at_call 6; refine (live22 _).mono ?_; rintro e1 w1 ⟨rfl, hx1⟩)
    go_ret
    exact ⟨rfl, hx1⟩
  · have hbI : (L : Int) ≤ 800 := by omega
    have hx0 : Ext w (w.alloc (.cells #[] 5)) := Ext.alloc _ _
    have hrd0 : Rd (w.alloc (.cells #[] 5)) 1 A L (bvs bs) := by
      have := hA.below hx0
      rw [HL.out]
      exact this
    go_enter Try.func3, Try.ntmps3
    go_wp2_with (first | (refine wpList_app rfl (.tmp 18) (.tmp 19) 22 rfl elemB w.heap.size _ 0 0 [] rfl A L cap (bvs bs) rfl L (by omega) (bvs bs) rfl (Own.none_ _ _ _ _ _) hrd0 (bvs_one _) (by omega) (by omega) hx0.size ?_; intro A2 c2 w2 ho2 hg2 hr2; refine Hid.out ?_))
    have hx2 : Ext w w2 := Ext.tr hx0 (grown_none (by simpa [ownRow] using hg2))
    have hc2 := ho2.nc
    have hrd2 : RdB w2 A2 bs := ho2.rd'
    have ht := table_any A2 bs c2 w2 hrd2 (by rw [← HL.out]; exact hc2) (by rw [← HL.out]; omega)
    rw [← HL.out] at ht
    clear ho2 hg2 hr2 hrd0 hx0
    refine Lib.hid ?_
    go_wp2_with (first | (go_at_call 7; refine ht.mono ?_; refine Hid.out ?_))
    rintro e3 w3 ⟨A3, c3, rfl, ho3, hx3⟩
    have hx3w := Ext.tr hx2 hx3
    have ht2 := ref_table A bs cap w3 (hA.below hx3w) (by rw [← HL.out]; exact hc) (by rw [← HL.out]; omega)
    rw [← HL.out] at ht2
    have Hrd3 := Lib.hid ho3.rd
    clear ht hx2 hrd2 ho3 hx3
    refine Lib.hid ?_
    go_wp2_with (first | (go_at_call 8; refine ht2.mono ?_; refine Hid.out ?_))
    rintro e4 w4 ⟨A4, c4, rfl, ho4, hx4⟩
    have hx4w := Ext.tr hx3w hx4
    obtain ⟨T, hT⟩ : ∃ T, T = Sg.table bs := ⟨_, rfl⟩
    have hTok : ∀ s ∈ T, s.Ok := by rw [hT]; exact Sg.table_ok bs
    have hTl : T.length ≤ 2048 := by rw [hT, Sg.table_len]; exact Sg.blocks_le _
    obtain ⟨n, hn⟩ : ∃ n, n = T.length := ⟨_, rfl⟩
    have hG3 : RdG w4 A3 T := by rw [hT]; exact ⟨Hrd3.out.below hx4, Sg.table_ok bs⟩
    have hG4 : RdG w4 A4 T := by rw [hT]; exact ⟨ho4.rd, Sg.table_ok bs⟩
    rw [← hT, ← hn]
    have Hn := Lib.hid hn
    have HG3 := Lib.hid hG3
    have HG4 := Lib.hid hG4
    have hbA := fun w => block_any size i s1 s2 w
    have hbB := fun w => ref_block22 size i s1 s2 w
    have hbsA := fun w => blocks_any size s1 s2 w
    have hbsB := fun w => ref_blocks size s1 s2 w
    obtain ⟨z, hz⟩ : ∃ z, z = Sg.block size i := ⟨_, rfl⟩
    rw [← hz] at hbA hbB
    unfold bl2 at hbA hbB
    clear ht2 hT hn Hrd3 ho4 hx4 hx3w hG3 hG4 hz
    refine Lib.hid ?_
    go_wp2_with (first | (go_at_call 9; refine (hbA _).mono ?_; rintro e5 w5 ⟨rfl, rfl⟩) | (go_at_call 10; refine (hbB _).mono ?_; rintro e5 w5 ⟨rfl, rfl⟩) | (go_at_call 11; refine (hbsA _).mono ?_; rintro e5 w5 ⟨rfl, rfl⟩) | (go_at_call 12; refine (hbsB _).mono ?_; rintro e5 w5 ⟨rfl, rfl⟩))
    go_loopw [13] (fun i wr => ∃ k : Nat, k ≤ n ∧ i = .int .i64 k ∧ Ext w4 wr) (fun i _ => n - (intOf i).toNat)
    case atStart => exact ⟨0, by omega, rfl, Ext.refl _⟩
    case round =>
      obtain ⟨k, hk, rfl, hE⟩ := hrel
      by_cases hkn : k < n
      · have ik : (0 : Int) ≤ (k : Int) := by omega
        have ik2 : (k : Int) < (n : Int) := by omega
        have hE2 := Ext.tr hE (Ext.drew wr)
        have hkl : k < T.length := by have := Hn.out; omega
        obtain ⟨ad3, rfl, cs3, hok⟩ := (HG3.out.below hE2).at_ hkl
        obtain ⟨ad4, rfl, cs4, _⟩ := (HG4.out.below hE2).at_ hkl
        obtain ⟨s, hs⟩ : ∃ s, s = T[k] := ⟨_, rfl⟩
        rw [← hs] at cs3 cs4 hok
        have Cs3 := Lib.hid cs3
        have Cs4 := Lib.hid cs4
        clear cs3 cs4 hs
        go_wp2_with fail
        refine rg_start (by kernel_rfl) ?_
        refine rg_take 0 rfl (by kernel_rfl) (by kernel_rfl) (by kernel_rfl) (fun _ _ _ _ h => h) (by rfl) ⟨_, fun w' hx => by (go_simp <;> with_reducible rfl), ?_⟩
        simp only [Act.put, List.setIfInBounds_toArray, List.set_cons_zero, List.set_cons_succ]
        refine rg_take 1 rfl (by kernel_rfl) (by kernel_rfl) (by kernel_rfl) (fun _ _ _ _ h => h) (by rfl) ⟨_, fun w' hx => by (go_simp <;> with_reducible rfl), ?_⟩
        simp only [Act.put, List.setIfInBounds_toArray, List.set_cons_zero, List.set_cons_succ]
        refine rg_take 2 rfl (by kernel_rfl) (by kernel_rfl) (by kernel_rfl) (fun _ _ _ _ h => h) (by rfl) ⟨_, fun w' hx => by (go_simp <;> with_reducible rfl), ?_⟩   -- t66 := indexAddr 24 t64 t65
        simp only [Act.put, List.setIfInBounds_toArray, List.set_cons_zero, List.set_cons_succ]
        refine rg_take 3 rfl (by kernel_rfl) (by kernel_rfl) (by kernel_rfl) (fun _ _ _ _ h => h) (by rfl) ⟨.agg s.cells, fun w' hx => ex_load_cellsG 33 (.tmp 66) rfl _ rfl s.cells _ (fun j u hj => hx.load (Cs3.out j u hj)) Try.underlying33 rfl (Sg.info hok), ?_⟩
        simp only [Act.put, List.setIfInBounds_toArray, List.set_cons_zero, List.set_cons_succ]
        refine rg_take 4 rfl (by kernel_rfl) (by kernel_rfl) (by kernel_rfl) (fun _ _ _ _ h => h) (by rfl) ⟨_, fun w' hx => by (go_simp <;> with_reducible rfl), ?_⟩
        simp only [Act.put, List.setIfInBounds_toArray, List.set_cons_zero, List.set_cons_succ]
        refine rg_take 5 rfl (by kernel_rfl) (by kernel_rfl) (by kernel_rfl) (fun _ _ _ _ h => h) (by rfl) ⟨_, fun w' hx => by (go_simp <;> with_reducible rfl), ?_⟩
        simp only [Act.put, List.setIfInBounds_toArray, List.set_cons_zero, List.set_cons_succ]
        refine rg_take 6 rfl (by kernel_rfl) (by kernel_rfl) (by kernel_rfl) (fun _ _ _ _ h => h) (by rfl) ⟨_, fun w' hx => by (go_simp <;> with_reducible rfl), ?_⟩   -- t70 := indexAddr 24 t68 t69
        simp only [Act.put, List.setIfInBounds_toArray, List.set_cons_zero, List.set_cons_succ]
        refine rg_take 7 rfl (by kernel_rfl) (by kernel_rfl) (by kernel_rfl) (fun _ _ _ _ h => h) (by rfl) ⟨.agg s.cells, fun w' hx => ex_load_cellsG 33 (.tmp 70) rfl _ rfl s.cells _ (fun j u hj => hx.load (Cs4.out j u hj)) Try.underlying33 rfl (Sg.info hok), ?_⟩
        simp only [Act.put, List.setIfInBounds_toArray, List.set_cons_zero, List.set_cons_succ]
        refine rg_take 8 rfl (by kernel_rfl) (by kernel_rfl) (by kernel_rfl) (fun _ _ _ _ h => h) (by rfl) ⟨.bool false, fun w' hx => ex_neqArr rfl rfl rfl (run_eqSig s hok _) (guardSig _ _ _ _ _), ?_⟩
        simp only [Act.put, List.setIfInBounds_toArray, List.set_cons_zero, List.set_cons_succ]
        refine rg_done (by kernel_rfl) ?_
        go_wp2_with fail
        go_roundw
        case rel => exact ⟨k + 1, by omega, by go_num, hE2⟩
        case measure => simp [intOf]; omega
      · obtain rfl : k = n := by omega
        go_wp2_with (go_at_call 6; refine (live22 _).mono ?_; rintro e1 w1 ⟨rfl, hx1⟩)
        go_ret
        exact ⟨rfl, Ext.tr hx4w (Ext.tr hE hx1)⟩
end Go.Proofs.Ytnagbhaknmoilaa
