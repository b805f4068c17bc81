
/- Contracts: the document's map as a list (scowref11.Map.at, Key), scowref20.find. Printed by wip/tools/gen_opmap20.py. -/

import Derived.Test.YtdekdblebflklaaOpApply

import Derived.Test.YtdekdblebflklaaStrCmp

import Derived.Test.YtdekdblebflklaaEntIn

namespace Go.Proofs.Ytdekdblebflklaa

open Go.RowKit

attribute [local go_sem] Oper.semAt_some

section

variable {P : Program} {o : Oper} {a : Act} {w : World} {x y : Operand} {t u : TypeId} {p q : List UInt8}

theorem ex_geqS (ho : o.op = .binOp .geq t x y u) (hx : a.eval x = .string ⟨p.toArray⟩) (hy : a.eval y = .string ⟨q.toArray⟩) : (execOp a.eval o).run P w = .ok (.value (.bool (!(ltB p q)))) w := by
  rw [← less_ltB]
  unfold execOp
  simp only [ho, hx, hy]
  go_simp
theorem ex_lssS (ho : o.op = .binOp .lss t x y u) (hx : a.eval x = .string ⟨p.toArray⟩) (hy : a.eval y = .string ⟨q.toArray⟩) : (execOp a.eval o).run P w = .ok (.value (.bool (ltB p q))) w := by
  rw [← less_ltB]
  unfold execOp
  simp only [ho, hx, hy]
  go_simp
end

/-- What another block turns leaves a slice as it is, if that block is a row of one cell that is a slice. -/
theorem RdB.turn {w w' : World} {A a : Option Addr} {d : List UInt8} {g n c : Nat} {t : TypeId} {fr : Nat × Nat} (h : RdB w A d) (hg : w.grownBy w' (some g)) (hr : w.heap[g]? = some (.cells #[.slice a n c] t fr)) : RdB w' A d := by
  refine ⟨h.1, fun hx => ?_⟩
  obtain ⟨ad, hA, hc⟩ := h.2 hx
  refine ⟨ad, hA, fun j u hj => hg.cell (hc j u hj) (fun e => ?_)⟩
  injection e with e
  have h1 := hc j u hj
  unfold World.cell? at h1
  rw [e, hr] at h1
  simp only at h1
  split at h1
  · cases h1
  · rcases Nat.eq_zero_or_pos (ad.add j).off with h0 | h0
    · rw [h0] at h1
      have hu : u ∈ bvs d := List.mem_of_getElem? hj
      simp only [bvs, List.mem_map] at hu
      obtain ⟨b, _, rfl⟩ := hu
      simp [bv] at h1
    · rw [Array.getElem?_eq_none (by simp; omega)] at h1
      cases h1
theorem EnV.In.turn {w w' : World} {e : EnV} {a : Option Addr} {g n c : Nat} {t : TypeId} {fr : Nat × Nat} (h : e.In w) (hg : w.grownBy w' (some g)) (hr : w.heap[g]? = some (.cells #[.slice a n c] t fr)) : e.In w' := ⟨h.kr.turn hg hr, h.vr.turn hg hr, h.kcap, h.vcap⟩
theorem cell_not {w : World} {g : Nat} {v : Value} {t : TypeId} {fr : Nat × Nat} {ad : Addr} {u : Value} (hr : w.heap[g]? = some (.cells #[v] t fr)) (h1 : w.cell? (ad.add 1) = some u) : ad.block ≠ g := by
  intro e
  unfold World.cell? at h1
  rw [add_block, e, hr] at h1
  simp only at h1
  split at h1
  · cases h1
  · have h2 : 1 ≤ (ad.add 1).off := by unfold Addr.add; simp
    rw [Array.getElem?_eq_none (by simpa using h2)] at h1
    cases h1
theorem RdE.turn {w w' : World} {A a : Option Addr} {l : List EnV} {g n c : Nat} {t : TypeId} {fr : Nat × Nat} (h : RdE w A l) (hg : w.grownBy w' (some g)) (hr : w.heap[g]? = some (.cells #[.slice a n c] t fr)) : RdE w' A l := by
  refine ⟨⟨h.rd.1, fun hx => ?_⟩, fun e he => (h.each e he).turn hg hr⟩
  obtain ⟨ad, hA, hc⟩ := h.rd.2 hx
  have h2 : 1 < (ecs l).length := by
    rw [ecs_len]
    rcases l with _ | ⟨e, l⟩
    · exact absurd rfl hx
    · simp; omega
  have hne := cell_not hr (hc 1 _ (List.getElem?_eq_getElem h2))
  exact ⟨ad, hA, fun j u hj => hg.cell (hc j u hj) (fun e => by injection e with e; rw [add_block] at e; exact hne e)⟩
theorem RdO.turn {w w' : World} {A a : Option Addr} {l : List OpV} {g n c : Nat} {t : TypeId} {fr : Nat × Nat} (h : RdO w A l) (hg : w.grownBy w' (some g)) (hr : w.heap[g]? = some (.cells #[.slice a n c] t fr)) : RdO w' A l := by
  refine ⟨⟨h.rd.1, fun hx => ?_⟩, fun e he => ⟨(h.each e he).kr.turn hg hr, (h.each e he).vr.turn hg hr, (h.each e he).kcap, (h.each e he).vcap⟩⟩
  obtain ⟨ad, hA, hc⟩ := h.rd.2 hx
  have h2 : 1 < (ocs l).length := by
    rw [ocs_len]
    rcases l with _ | ⟨e, l⟩
    · exact absurd rfl hx
    · simp; omega
  have hne := cell_not hr (hc 1 _ (List.getElem?_eq_getElem h2))
  exact ⟨ad, hA, fun j u hj => hg.cell (hc j u hj) (fun e => by injection e with e; rw [add_block] at e; exact hne e)⟩
/-- A map in memory. -/
structure MapAt (w : World) (g : Nat) (A : Option Addr) (c : Nat) (L : List EnV) : Prop where
  row : w.heap[g]? = some (.cells #[.slice A L.length c] 56 (0, 0))
  rd : RdE w A L
  cap : L.length ≤ c
theorem MapAt.ext {w w' : World} {g : Nat} {A : Option Addr} {c : Nat} {L : List EnV} (h : MapAt w g A c L) (hx : Ext w w') : MapAt w' g A c L := ⟨(hx.block _ (lt_of_heap h.row)).trans h.row, h.rd.below hx, h.cap⟩
theorem MapAt.cell {w : World} {g : Nat} {A : Option Addr} {c : Nat} {L : List EnV} (h : MapAt w g A c L) : w.cell? ⟨g, 0, none⟩ = some (.slice A L.length c) := cell_of_row w _ 0 _ _ _ h.row
theorem MapAt.frozen {w : World} {g : Nat} {A : Option Addr} {c : Nat} {L : List EnV} (h : MapAt w g A c L) : w.frozen? ⟨g, 0, none⟩ = false := frozen_of_row w _ 0 _ _ h.row
theorem keyAt {w : World} {l : List EnV} {k : Nat} {h : k < l.length} {ad : Addr} (hc : ∀ j u, (l[k].cells)[j]? = some u → w.cell? (ad.add (k * 2 + j)) = some u) : w.cell? (ad.add (k * 2)) = some (.slice l[k].ka l[k].x.key.length l[k].kc) := hc 0 _ rfl
theorem valAt {w : World} {l : List EnV} {k : Nat} {h : k < l.length} {ad : Addr} (hc : ∀ j u, (l[k].cells)[j]? = some u → w.cell? (ad.add (k * 2 + j)) = some u) : w.cell? ⟨(ad.add (k * 2)).block, (ad.add (k * 2)).off + 1, none⟩ = some (.slice l[k].va l[k].x.val.length l[k].vc) := by
  have := hc 1 _ rfl
  rw [← add_add'] at this
  exact this
set_option maxRecDepth 100000 in
set_option maxHeartbeats 1000000 in
theorem ref_at (g : Nat) (A : Option Addr) (c : Nat) (L : List EnV) (K : Option Addr) (key : List UInt8) (kc : Nat) (w : World) (hM : MapAt w g A c L) (hK : RdB w K key) (hl : L.length ≤ 1000000) :
    Calls Try.prog 49 #[.pointer (some ⟨g, 0, none⟩), .slice K key.length kc] w fun e w' => e = .returned (.tuple #[.int .i64 (posK EnV.key key L : Nat), .bool (thereK EnV.key key L)]) ∧ Below w.heap.size w w' := by
  go_enter Try.func49, Try.ntmps49
  go_wp2
  go_loopw [6] (fun i wr => ∃ k : Nat, k ≤ L.length ∧ i = .int .i64 k ∧ (∀ j (h : j < L.length), j < k → ltB L[j].x.key key = true) ∧ Below w.heap.size w wr) (fun i _ => L.length - (intOf i).toNat)
  case atStart => exact ⟨0, by omega, rfl, fun j _ h => absurd h (by omega), Below.refl _ _⟩
  case round =>
    obtain ⟨k, hk, rfl, hlo, hbw⟩ := hrel
    have Hlo := Lib.hid hlo
    clear hlo
    have hM1 := hM.ext hbw
    have hm0 : wr.cell? ⟨g, 0, none⟩ = _ := hM1.cell
    by_cases h : k < L.length
    · obtain ⟨ad, rfl, hcell, hin⟩ := hM1.rd.at_ h
      have k1 : wr.drew.cell? _ = _ := keyAt hcell
      have hmd : wr.drew.cell? ⟨g, 0, none⟩ = _ := hm0
      have ik : (0 : Int) ≤ (k : Int) := by omega
      have ik2 : (k : Int) < (L.length : Int) := by omega
      have hkr := hin.kr
      have hKr := hK.below hbw
      have hMh := Lib.hid hM1
      obtain ⟨y, hy⟩ : ∃ y, L[k] = y := ⟨_, rfl⟩
      rw [hy] at k1 hkr
      have Hy := Lib.hid hy
      clear hcell hin hM1 hM hy
      cases hlt : ltB y.x.key key with
      | true =>
        have Hlt := Lib.hid hlt
        have hgq : (!(ltB y.x.key key)) = false := by rw [hlt]; rfl
        clear hlt
        go_wp2_with fail
        refine rg_start (by kernel_rfl) ?_
        refine rg_take 0 rfl (by kernel_rfl) (by kernel_rfl) (by kernel_rfl) (fun _ _ _ _ h => h) (by rfl) ⟨_, fun w' hx => by (go_simp <;> with_reducible rfl), ?_⟩
        simp only [Act.put, List.setIfInBounds_toArray, List.set_cons_zero, List.set_cons_succ]
        refine rg_take 1 rfl (by kernel_rfl) (by kernel_rfl) (by kernel_rfl) (fun _ _ _ _ h => h) (by rfl) ⟨_, fun w' hx => by (go_simp <;> with_reducible rfl), ?_⟩   -- t17 := nilCheck t16
        simp only [Act.put, List.setIfInBounds_toArray, List.set_cons_zero, List.set_cons_succ]
        refine rg_take 2 rfl (by kernel_rfl) (by kernel_rfl) (by kernel_rfl) (fun _ _ _ _ h => h) (by rfl) ⟨_, fun w' hx => by (go_simp <;> with_reducible rfl), ?_⟩   -- t18 := fieldAddr 56 t17 0
        simp only [Act.put, List.setIfInBounds_toArray, List.set_cons_zero, List.set_cons_succ]
        refine rg_take 3 rfl (by kernel_rfl) (by kernel_rfl) (by kernel_rfl) (fun _ _ _ _ h => h) (by rfl) ⟨_, fun w' hx => by have hcx := hx.load hmd; (go_simp <;> with_reducible rfl), ?_⟩
        simp only [Act.put, List.setIfInBounds_toArray, List.set_cons_zero, List.set_cons_succ]
        refine rg_take 4 rfl (by kernel_rfl) (by kernel_rfl) (by kernel_rfl) (fun _ _ _ _ h => h) (by rfl) ⟨_, fun w' hx => by (go_simp <;> with_reducible rfl), ?_⟩
        simp only [Act.put, List.setIfInBounds_toArray, List.set_cons_zero, List.set_cons_succ]
        refine rg_take 5 rfl (by kernel_rfl) (by kernel_rfl) (by kernel_rfl) (fun _ _ _ _ h => h) (by rfl) ⟨_, fun w' hx => by (go_simp <;> with_reducible rfl), ?_⟩   -- t21 := indexAddr 22 t19 t20
        simp only [Act.put, List.setIfInBounds_toArray, List.set_cons_zero, List.set_cons_succ]
        refine rg_take 6 rfl (by kernel_rfl) (by kernel_rfl) (by kernel_rfl) (fun _ _ _ _ h => h) (by rfl) ⟨_, fun w' hx => by (go_simp <;> with_reducible rfl), ?_⟩   -- t22 := fieldAddr 48 t21 0
        simp only [Act.put, List.setIfInBounds_toArray, List.set_cons_zero, List.set_cons_succ]
        refine rg_take 7 rfl (by kernel_rfl) (by kernel_rfl) (by kernel_rfl) (fun _ _ _ _ h => h) (by rfl) ⟨_, fun w' hx => by have hcx := hx.load k1; (go_simp <;> with_reducible rfl), ?_⟩
        simp only [Act.put, List.setIfInBounds_toArray, List.set_cons_zero, List.set_cons_succ]
        refine rg_take 8 rfl (by kernel_rfl) (by kernel_rfl) (by kernel_rfl) (fun _ _ _ _ h => h) (by rfl) ⟨.string ⟨(y.x.key).toArray⟩, fun w' hx => ex_str rfl rfl Try.underlying33 Try.underlying5 Try.underlying9 (hkr.below (Ext.tr (Ext.drew wr) hx)) rfl, ?_⟩
        simp only [Act.put, List.setIfInBounds_toArray, List.set_cons_zero, List.set_cons_succ]
        refine rg_take 9 rfl (by kernel_rfl) (by kernel_rfl) (by kernel_rfl) (fun _ _ _ _ h => h) (by rfl) ⟨_, fun w' hx => by (go_simp <;> with_reducible rfl), ?_⟩
        simp only [Act.put, List.setIfInBounds_toArray, List.set_cons_zero, List.set_cons_succ]
        refine rg_take 10 rfl (by kernel_rfl) (by kernel_rfl) (by kernel_rfl) (fun _ _ _ _ h => h) (by rfl) ⟨.string ⟨(key).toArray⟩, fun w' hx => ex_str rfl rfl Try.underlying33 Try.underlying5 Try.underlying9 (hKr.below (Ext.tr (Ext.drew wr) hx)) rfl, ?_⟩
        simp only [Act.put, List.setIfInBounds_toArray, List.set_cons_zero, List.set_cons_succ]
        refine rg_take 11 rfl (by kernel_rfl) (by kernel_rfl) (by kernel_rfl) (fun _ _ _ _ h => h) (by rfl) ⟨.bool (!(ltB y.x.key key)), fun w' hx => ex_geqS rfl rfl rfl, ?_⟩
        simp only [Act.put, List.setIfInBounds_toArray, List.set_cons_zero, List.set_cons_succ]
        refine rg_done (by kernel_rfl) ?_
        rw [hgq]
        go_wp2_with fail
        go_roundw
        case rel =>
          refine ⟨k + 1, by omega, by go_num, fun j hj hjk => ?_, hbw.trans ((Ext.drew wr).mono hbw.size)⟩
          rcases Nat.lt_or_ge j k with h9 | h9
          · exact Hlo.out j hj h9
          · obtain rfl : j = k := by omega
            rw [Hy.out]; exact Hlt.out
        case measure => simp [intOf]; omega
      | false =>
        have Hlt := Lib.hid hlt
        have hgq : (!(ltB y.x.key key)) = true := by rw [hlt]; rfl
        have k2 : wr.drew.drew.cell? _ = _ := k1
        have hmd2 : wr.drew.drew.cell? ⟨g, 0, none⟩ = _ := hmd
        clear hlt
        go_wp2_with fail
        refine rg_start (by kernel_rfl) ?_
        refine rg_take 0 rfl (by kernel_rfl) (by kernel_rfl) (by kernel_rfl) (fun _ _ _ _ h => h) (by rfl) ⟨_, fun w' hx => by (go_simp <;> with_reducible rfl), ?_⟩
        simp only [Act.put, List.setIfInBounds_toArray, List.set_cons_zero, List.set_cons_succ]
        refine rg_take 1 rfl (by kernel_rfl) (by kernel_rfl) (by kernel_rfl) (fun _ _ _ _ h => h) (by rfl) ⟨_, fun w' hx => by (go_simp <;> with_reducible rfl), ?_⟩   -- t17 := nilCheck t16
        simp only [Act.put, List.setIfInBounds_toArray, List.set_cons_zero, List.set_cons_succ]
        refine rg_take 2 rfl (by kernel_rfl) (by kernel_rfl) (by kernel_rfl) (fun _ _ _ _ h => h) (by rfl) ⟨_, fun w' hx => by (go_simp <;> with_reducible rfl), ?_⟩   -- t18 := fieldAddr 56 t17 0
        simp only [Act.put, List.setIfInBounds_toArray, List.set_cons_zero, List.set_cons_succ]
        refine rg_take 3 rfl (by kernel_rfl) (by kernel_rfl) (by kernel_rfl) (fun _ _ _ _ h => h) (by rfl) ⟨_, fun w' hx => by have hcx := hx.load hmd; (go_simp <;> with_reducible rfl), ?_⟩
        simp only [Act.put, List.setIfInBounds_toArray, List.set_cons_zero, List.set_cons_succ]
        refine rg_take 4 rfl (by kernel_rfl) (by kernel_rfl) (by kernel_rfl) (fun _ _ _ _ h => h) (by rfl) ⟨_, fun w' hx => by (go_simp <;> with_reducible rfl), ?_⟩
        simp only [Act.put, List.setIfInBounds_toArray, List.set_cons_zero, List.set_cons_succ]
        refine rg_take 5 rfl (by kernel_rfl) (by kernel_rfl) (by kernel_rfl) (fun _ _ _ _ h => h) (by rfl) ⟨_, fun w' hx => by (go_simp <;> with_reducible rfl), ?_⟩   -- t21 := indexAddr 22 t19 t20
        simp only [Act.put, List.setIfInBounds_toArray, List.set_cons_zero, List.set_cons_succ]
        refine rg_take 6 rfl (by kernel_rfl) (by kernel_rfl) (by kernel_rfl) (fun _ _ _ _ h => h) (by rfl) ⟨_, fun w' hx => by (go_simp <;> with_reducible rfl), ?_⟩   -- t22 := fieldAddr 48 t21 0
        simp only [Act.put, List.setIfInBounds_toArray, List.set_cons_zero, List.set_cons_succ]
        refine rg_take 7 rfl (by kernel_rfl) (by kernel_rfl) (by kernel_rfl) (fun _ _ _ _ h => h) (by rfl) ⟨_, fun w' hx => by have hcx := hx.load k1; (go_simp <;> with_reducible rfl), ?_⟩
        simp only [Act.put, List.setIfInBounds_toArray, List.set_cons_zero, List.set_cons_succ]
        refine rg_take 8 rfl (by kernel_rfl) (by kernel_rfl) (by kernel_rfl) (fun _ _ _ _ h => h) (by rfl) ⟨.string ⟨(y.x.key).toArray⟩, fun w' hx => ex_str rfl rfl Try.underlying33 Try.underlying5 Try.underlying9 (hkr.below (Ext.tr (Ext.drew wr) hx)) rfl, ?_⟩
        simp only [Act.put, List.setIfInBounds_toArray, List.set_cons_zero, List.set_cons_succ]
        refine rg_take 9 rfl (by kernel_rfl) (by kernel_rfl) (by kernel_rfl) (fun _ _ _ _ h => h) (by rfl) ⟨_, fun w' hx => by (go_simp <;> with_reducible rfl), ?_⟩
        simp only [Act.put, List.setIfInBounds_toArray, List.set_cons_zero, List.set_cons_succ]
        refine rg_take 10 rfl (by kernel_rfl) (by kernel_rfl) (by kernel_rfl) (fun _ _ _ _ h => h) (by rfl) ⟨.string ⟨(key).toArray⟩, fun w' hx => ex_str rfl rfl Try.underlying33 Try.underlying5 Try.underlying9 (hKr.below (Ext.tr (Ext.drew wr) hx)) rfl, ?_⟩
        simp only [Act.put, List.setIfInBounds_toArray, List.set_cons_zero, List.set_cons_succ]
        refine rg_take 11 rfl (by kernel_rfl) (by kernel_rfl) (by kernel_rfl) (fun _ _ _ _ h => h) (by rfl) ⟨.bool (!(ltB y.x.key key)), fun w' hx => ex_geqS rfl rfl rfl, ?_⟩
        simp only [Act.put, List.setIfInBounds_toArray, List.set_cons_zero, List.set_cons_succ]
        refine rg_done (by kernel_rfl) ?_
        rw [hgq]
        go_wp2_with fail
        refine rg_start (by kernel_rfl) ?_
        refine rg_take 0 rfl (by kernel_rfl) (by kernel_rfl) (by kernel_rfl) (fun _ _ _ _ h => h) (by rfl) ⟨_, fun w' hx => by (go_simp <;> with_reducible rfl), ?_⟩
        simp only [Act.put, List.setIfInBounds_toArray, List.set_cons_zero, List.set_cons_succ]
        refine rg_take 1 rfl (by kernel_rfl) (by kernel_rfl) (by kernel_rfl) (fun _ _ _ _ h => h) (by rfl) ⟨_, fun w' hx => by (go_simp <;> with_reducible rfl), ?_⟩
        simp only [Act.put, List.setIfInBounds_toArray, List.set_cons_zero, List.set_cons_succ]
        refine rg_take 2 rfl (by kernel_rfl) (by kernel_rfl) (by kernel_rfl) (fun _ _ _ _ h => h) (by rfl) ⟨_, fun w' hx => by (go_simp <;> with_reducible rfl), ?_⟩   -- t30 := nilCheck t29
        simp only [Act.put, List.setIfInBounds_toArray, List.set_cons_zero, List.set_cons_succ]
        refine rg_take 3 rfl (by kernel_rfl) (by kernel_rfl) (by kernel_rfl) (fun _ _ _ _ h => h) (by rfl) ⟨_, fun w' hx => by (go_simp <;> with_reducible rfl), ?_⟩   -- t31 := fieldAddr 56 t30 0
        simp only [Act.put, List.setIfInBounds_toArray, List.set_cons_zero, List.set_cons_succ]
        refine rg_take 4 rfl (by kernel_rfl) (by kernel_rfl) (by kernel_rfl) (fun _ _ _ _ h => h) (by rfl) ⟨_, fun w' hx => by have hcx := hx.load hmd2; (go_simp <;> with_reducible rfl), ?_⟩
        simp only [Act.put, List.setIfInBounds_toArray, List.set_cons_zero, List.set_cons_succ]
        refine rg_take 5 rfl (by kernel_rfl) (by kernel_rfl) (by kernel_rfl) (fun _ _ _ _ h => h) (by rfl) ⟨_, fun w' hx => by (go_simp <;> with_reducible rfl), ?_⟩
        simp only [Act.put, List.setIfInBounds_toArray, List.set_cons_zero, List.set_cons_succ]
        refine rg_take 6 rfl (by kernel_rfl) (by kernel_rfl) (by kernel_rfl) (fun _ _ _ _ h => h) (by rfl) ⟨_, fun w' hx => by (go_simp <;> with_reducible rfl), ?_⟩   -- t34 := indexAddr 22 t32 t33
        simp only [Act.put, List.setIfInBounds_toArray, List.set_cons_zero, List.set_cons_succ]
        refine rg_take 7 rfl (by kernel_rfl) (by kernel_rfl) (by kernel_rfl) (fun _ _ _ _ h => h) (by rfl) ⟨_, fun w' hx => by (go_simp <;> with_reducible rfl), ?_⟩   -- t35 := fieldAddr 48 t34 0
        simp only [Act.put, List.setIfInBounds_toArray, List.set_cons_zero, List.set_cons_succ]
        refine rg_take 8 rfl (by kernel_rfl) (by kernel_rfl) (by kernel_rfl) (fun _ _ _ _ h => h) (by rfl) ⟨_, fun w' hx => by have hcx := hx.load k2; (go_simp <;> with_reducible rfl), ?_⟩
        simp only [Act.put, List.setIfInBounds_toArray, List.set_cons_zero, List.set_cons_succ]
        refine rg_take 9 rfl (by kernel_rfl) (by kernel_rfl) (by kernel_rfl) (fun _ _ _ _ h => h) (by rfl) ⟨.string ⟨(y.x.key).toArray⟩, fun w' hx => ex_str rfl rfl Try.underlying33 Try.underlying5 Try.underlying9 (hkr.below (Ext.tr (Ext.tr (Ext.drew wr) (Ext.drew wr.drew)) hx)) rfl, ?_⟩
        simp only [Act.put, List.setIfInBounds_toArray, List.set_cons_zero, List.set_cons_succ]
        refine rg_take 10 rfl (by kernel_rfl) (by kernel_rfl) (by kernel_rfl) (fun _ _ _ _ h => h) (by rfl) ⟨_, fun w' hx => by (go_simp <;> with_reducible rfl), ?_⟩
        simp only [Act.put, List.setIfInBounds_toArray, List.set_cons_zero, List.set_cons_succ]
        refine rg_take 11 rfl (by kernel_rfl) (by kernel_rfl) (by kernel_rfl) (fun _ _ _ _ h => h) (by rfl) ⟨.string ⟨(key).toArray⟩, fun w' hx => ex_str rfl rfl Try.underlying33 Try.underlying5 Try.underlying9 (hKr.below (Ext.tr (Ext.tr (Ext.drew wr) (Ext.drew wr.drew)) hx)) rfl, ?_⟩
        simp only [Act.put, List.setIfInBounds_toArray, List.set_cons_zero, List.set_cons_succ]
        refine rg_take 12 rfl (by kernel_rfl) (by kernel_rfl) (by kernel_rfl) (fun _ _ _ _ h => h) (by rfl) ⟨.bool (y.x.key == key), fun w' hx => ex_eqlS rfl rfl rfl, ?_⟩
        simp only [Act.put, List.setIfInBounds_toArray, List.set_cons_zero, List.set_cons_succ]
        refine rg_take 13 rfl (by kernel_rfl) (by kernel_rfl) (by kernel_rfl) (fun _ _ _ _ h => h) (by rfl) ⟨_, fun w' hx => by (go_simp <;> with_reducible rfl), ?_⟩
        simp only [Act.put, List.setIfInBounds_toArray, List.set_cons_zero, List.set_cons_succ]
        refine rg_take 14 rfl (by kernel_rfl) (by kernel_rfl) (by kernel_rfl) (fun _ _ _ _ h => h) (by rfl) ⟨_, fun w' hx => by (go_simp <;> with_reducible rfl), ?_⟩
        simp only [Act.put, List.setIfInBounds_toArray, List.set_cons_zero, List.set_cons_succ]
        refine rg_done (by kernel_rfl) ?_
        go_wp2_with fail
        refine bodyPost_ret (results_tmp2 rfl _ _ _) rfl ?_
        have hp : posK EnV.key key L = k := posK_eq hk (fun j h9 h8 => Hlo.out j h9 h8) (fun h9 => by show ltB L[k].x.key key = false; rw [Hy.out]; exact Hlt.out)
        have ht : thereK EnV.key key L = (y.x.key == key) := by
          unfold thereK
          rw [hp, List.getElem?_eq_getElem h, Hy.out]
          rfl
        rw [hp, ht]
        exact ⟨rfl, hbw.trans (((Ext.drew wr).tr (Ext.drew wr.drew)).mono hbw.size)⟩
    · obtain rfl : k = L.length := by omega
      go_wp2
      refine bodyPost_ret (results_tmp2 rfl _ _ _) rfl ?_
      have hp : posK EnV.key key L = L.length := posK_eq (Nat.le_refl _) (fun j h9 h8 => Hlo.out j h9 h8) (fun h9 => absurd h9 (by omega))
      have ht : thereK EnV.key key L = false := by
        unfold thereK
        rw [hp, List.getElem?_eq_none (Nat.le_refl _)]
        rfl
      rw [hp, ht]
      exact ⟨rfl, hbw⟩
set_option maxRecDepth 100000 in
theorem ref_key (K : Option Addr) (key : List UInt8) (kc : Nat) (w : World) (hl : key.length ≤ 1000000) :
    Calls Try.prog 28 #[.slice K key.length kc] w fun e w' => e = .returned (.bool (decide (1 ≤ key.length ∧ key.length ≤ 24))) ∧ w = w' := by
  go_enter Try.func28, Try.ntmps28
  by_cases h1 : 1 ≤ key.length
  · have b1 : decide ((1 : Int) ≤ (key.length : Int)) = true := by simp; omega
    go_wp2
    go_ret
    refine ⟨?_, rfl⟩
    congr 2
    simp [h1]
    omega
  · have b1 : decide ((1 : Int) ≤ (key.length : Int)) = false := by simp; omega
    go_wp2
    go_ret
    refine ⟨?_, rfl⟩
    congr 2
    simp [h1]
set_option maxRecDepth 100000 in
set_option maxHeartbeats 1000000 in
theorem ref_find (A : Option Addr) (L : List EnV) (c : Nat) (K : Option Addr) (key : List UInt8) (kc : Nat) (w : World) (hA : RdE w A L) (hK : RdB w K key) (hl : L.length ≤ 1000000) :
    Calls Try.prog 32 #[.slice A L.length c, .slice K key.length kc] w fun e w' => (∃ y : EnV, y ∈ L ∧ y.x.key = key ∧ look EnV.key L key = some y ∧ e = .returned (.tuple #[.slice y.va y.x.val.length y.vc, .bool true]) ∧ Below w.heap.size w w') ∨ (look EnV.key L key = none ∧ e = .returned (.tuple #[.slice none 0 0, .bool false]) ∧ Below w.heap.size w w') := by
  go_enter Try.func32, Try.ntmps32
  go_wp2
  go_loopw [6] (fun i wr => ∃ k : Nat, k ≤ L.length ∧ i = .int .i64 k ∧ look EnV.key L key = look EnV.key (L.drop k) key ∧ Below w.heap.size w wr) (fun i _ => L.length - (intOf i).toNat)
  case atStart => exact ⟨0, by omega, rfl, by rw [List.drop_zero], Below.refl _ _⟩
  case round =>
    obtain ⟨k, hk, rfl, hlo, hbw⟩ := hrel
    have Hlo := Lib.hid hlo
    clear hlo
    by_cases h : k < L.length
    · obtain ⟨ad, rfl, hcell, hin⟩ := (hA.below hbw).at_ h
      have k1 : wr.drew.cell? _ = _ := keyAt hcell
      have v1 : wr.drew.cell? _ = _ := valAt hcell
      have ik : (0 : Int) ≤ (k : Int) := by omega
      have ik2 : (k : Int) < (L.length : Int) := by omega
      have hkr := hin.kr
      have hKr := hK.below hbw
      have hdr : L.drop k = L[k] :: L.drop (k + 1) := List.drop_eq_getElem_cons h
      have hmem : L[k] ∈ L := List.getElem_mem h
      obtain ⟨y, hy⟩ : ∃ y, L[k] = y := ⟨_, rfl⟩
      rw [hy] at k1 v1 hkr hdr hmem
      have Hdr := Lib.hid hdr
      have Hmem := Lib.hid hmem
      clear hcell hin hy hA hdr hmem
      by_cases he : y.x.key = key
      · have hq : (y.x.key == key) = true := by rw [he]; simp
        have He := Lib.hid he
        clear he
        go_wp2_with fail
        refine rg_start (by kernel_rfl) ?_
        refine rg_take 0 rfl (by kernel_rfl) (by kernel_rfl) (by kernel_rfl) (fun _ _ _ _ h => h) (by rfl) ⟨_, fun w' hx => by (go_simp <;> with_reducible rfl), ?_⟩
        simp only [Act.put, List.setIfInBounds_toArray, List.set_cons_zero, List.set_cons_succ]
        refine rg_take 1 rfl (by kernel_rfl) (by kernel_rfl) (by kernel_rfl) (fun _ _ _ _ h => h) (by rfl) ⟨_, fun w' hx => by (go_simp <;> with_reducible rfl), ?_⟩
        simp only [Act.put, List.setIfInBounds_toArray, List.set_cons_zero, List.set_cons_succ]
        refine rg_take 2 rfl (by kernel_rfl) (by kernel_rfl) (by kernel_rfl) (fun _ _ _ _ h => h) (by rfl) ⟨_, fun w' hx => by (go_simp <;> with_reducible rfl), ?_⟩   -- t15 := indexAddr 22 t13 t14
        simp only [Act.put, List.setIfInBounds_toArray, List.set_cons_zero, List.set_cons_succ]
        refine rg_take 3 rfl (by kernel_rfl) (by kernel_rfl) (by kernel_rfl) (fun _ _ _ _ h => h) (by rfl) ⟨_, fun w' hx => by (go_simp <;> with_reducible rfl), ?_⟩   -- t16 := fieldAddr 48 t15 0
        simp only [Act.put, List.setIfInBounds_toArray, List.set_cons_zero, List.set_cons_succ]
        refine rg_take 4 rfl (by kernel_rfl) (by kernel_rfl) (by kernel_rfl) (fun _ _ _ _ h => h) (by rfl) ⟨_, fun w' hx => by have hcx := hx.load k1; (go_simp <;> with_reducible rfl), ?_⟩
        simp only [Act.put, List.setIfInBounds_toArray, List.set_cons_zero, List.set_cons_succ]
        refine rg_take 5 rfl (by kernel_rfl) (by kernel_rfl) (by kernel_rfl) (fun _ _ _ _ h => h) (by rfl) ⟨.string ⟨(y.x.key).toArray⟩, fun w' hx => ex_str rfl rfl Try.underlying33 Try.underlying5 Try.underlying9 (hkr.below (Ext.tr (Ext.drew wr) hx)) rfl, ?_⟩
        simp only [Act.put, List.setIfInBounds_toArray, List.set_cons_zero, List.set_cons_succ]
        refine rg_take 6 rfl (by kernel_rfl) (by kernel_rfl) (by kernel_rfl) (fun _ _ _ _ h => h) (by rfl) ⟨_, fun w' hx => by (go_simp <;> with_reducible rfl), ?_⟩
        simp only [Act.put, List.setIfInBounds_toArray, List.set_cons_zero, List.set_cons_succ]
        refine rg_take 7 rfl (by kernel_rfl) (by kernel_rfl) (by kernel_rfl) (fun _ _ _ _ h => h) (by rfl) ⟨.string ⟨(key).toArray⟩, fun w' hx => ex_str rfl rfl Try.underlying33 Try.underlying5 Try.underlying9 (hKr.below (Ext.tr (Ext.drew wr) hx)) rfl, ?_⟩
        simp only [Act.put, List.setIfInBounds_toArray, List.set_cons_zero, List.set_cons_succ]
        refine rg_take 8 rfl (by kernel_rfl) (by kernel_rfl) (by kernel_rfl) (fun _ _ _ _ h => h) (by rfl) ⟨.bool (y.x.key == key), fun w' hx => ex_eqlS rfl rfl rfl, ?_⟩
        simp only [Act.put, List.setIfInBounds_toArray, List.set_cons_zero, List.set_cons_succ]
        refine rg_done (by kernel_rfl) ?_
        rw [hq]
        go_wp2
        refine bodyPost_ret (results_tmp2 rfl _ _ _) rfl ?_
        exact .inl ⟨y, Hmem.out, He.out, by rw [Hlo.out, Hdr.out, look_cons]; exact if_pos He.out, rfl, hbw.trans ((Ext.drew wr).mono hbw.size)⟩
      · have hq : (y.x.key == key) = false := by simp [he]
        have He := Lib.hid he
        clear he
        go_wp2_with fail
        refine rg_start (by kernel_rfl) ?_
        refine rg_take 0 rfl (by kernel_rfl) (by kernel_rfl) (by kernel_rfl) (fun _ _ _ _ h => h) (by rfl) ⟨_, fun w' hx => by (go_simp <;> with_reducible rfl), ?_⟩
        simp only [Act.put, List.setIfInBounds_toArray, List.set_cons_zero, List.set_cons_succ]
        refine rg_take 1 rfl (by kernel_rfl) (by kernel_rfl) (by kernel_rfl) (fun _ _ _ _ h => h) (by rfl) ⟨_, fun w' hx => by (go_simp <;> with_reducible rfl), ?_⟩
        simp only [Act.put, List.setIfInBounds_toArray, List.set_cons_zero, List.set_cons_succ]
        refine rg_take 2 rfl (by kernel_rfl) (by kernel_rfl) (by kernel_rfl) (fun _ _ _ _ h => h) (by rfl) ⟨_, fun w' hx => by (go_simp <;> with_reducible rfl), ?_⟩   -- t15 := indexAddr 22 t13 t14
        simp only [Act.put, List.setIfInBounds_toArray, List.set_cons_zero, List.set_cons_succ]
        refine rg_take 3 rfl (by kernel_rfl) (by kernel_rfl) (by kernel_rfl) (fun _ _ _ _ h => h) (by rfl) ⟨_, fun w' hx => by (go_simp <;> with_reducible rfl), ?_⟩   -- t16 := fieldAddr 48 t15 0
        simp only [Act.put, List.setIfInBounds_toArray, List.set_cons_zero, List.set_cons_succ]
        refine rg_take 4 rfl (by kernel_rfl) (by kernel_rfl) (by kernel_rfl) (fun _ _ _ _ h => h) (by rfl) ⟨_, fun w' hx => by have hcx := hx.load k1; (go_simp <;> with_reducible rfl), ?_⟩
        simp only [Act.put, List.setIfInBounds_toArray, List.set_cons_zero, List.set_cons_succ]
        refine rg_take 5 rfl (by kernel_rfl) (by kernel_rfl) (by kernel_rfl) (fun _ _ _ _ h => h) (by rfl) ⟨.string ⟨(y.x.key).toArray⟩, fun w' hx => ex_str rfl rfl Try.underlying33 Try.underlying5 Try.underlying9 (hkr.below (Ext.tr (Ext.drew wr) hx)) rfl, ?_⟩
        simp only [Act.put, List.setIfInBounds_toArray, List.set_cons_zero, List.set_cons_succ]
        refine rg_take 6 rfl (by kernel_rfl) (by kernel_rfl) (by kernel_rfl) (fun _ _ _ _ h => h) (by rfl) ⟨_, fun w' hx => by (go_simp <;> with_reducible rfl), ?_⟩
        simp only [Act.put, List.setIfInBounds_toArray, List.set_cons_zero, List.set_cons_succ]
        refine rg_take 7 rfl (by kernel_rfl) (by kernel_rfl) (by kernel_rfl) (fun _ _ _ _ h => h) (by rfl) ⟨.string ⟨(key).toArray⟩, fun w' hx => ex_str rfl rfl Try.underlying33 Try.underlying5 Try.underlying9 (hKr.below (Ext.tr (Ext.drew wr) hx)) rfl, ?_⟩
        simp only [Act.put, List.setIfInBounds_toArray, List.set_cons_zero, List.set_cons_succ]
        refine rg_take 8 rfl (by kernel_rfl) (by kernel_rfl) (by kernel_rfl) (fun _ _ _ _ h => h) (by rfl) ⟨.bool (y.x.key == key), fun w' hx => ex_eqlS rfl rfl rfl, ?_⟩
        simp only [Act.put, List.setIfInBounds_toArray, List.set_cons_zero, List.set_cons_succ]
        refine rg_done (by kernel_rfl) ?_
        rw [hq]
        go_wp2_with fail
        go_roundw
        case rel => exact ⟨k + 1, by omega, by go_num, by rw [Hlo.out, Hdr.out, look_cons]; exact if_neg He.out, hbw.trans ((Ext.drew wr).mono hbw.size)⟩
        case measure => simp [intOf]; omega
    · obtain rfl : k = L.length := by omega
      go_wp2
      refine bodyPost_ret (results_tmp2 rfl _ _ _) rfl ?_
      exact .inr ⟨by rw [Hlo.out, List.drop_length]; rfl, rfl, hbw⟩
end Go.Proofs.Ytdekdblebflklaa
