
/- Contracts: the entries in a range (entry.Between, scowref17.Between). -/

import Derived.Test.YtiiekdhlcmaabaaEntPut

import Derived.Test.YtiiekdhlcmaabaaEntIn

namespace Go.Proofs.Ytiiekdhlcmaabaa

open Go.RowKit

attribute [local go_sem] Oper.semAt_some

/-- The entries in a range, as they lie. -/
def betV (l : List EnV) (lo hi : List UInt8) : List EnV := l.filter fun e => inR e.x.key lo hi
theorem betV_snoc (l : List EnV) (lo hi : List UInt8) (k : Nat) (h : k < l.length) : betV (l.take (k + 1)) lo hi = betV (l.take k) lo hi ++ if inR l[k].x.key lo hi then [l[k]] else [] := by
  unfold betV
  rw [List.take_succ_eq_append_getElem h, List.filter_append]
  congr 1
  simp only [List.filter_cons, List.filter_nil]
theorem betV_len (l : List EnV) (lo hi : List UInt8) : (betV l lo hi).length ≤ l.length := List.length_filter_le _ _
theorem betV_mem {l : List EnV} {lo hi : List UInt8} {e : EnV} (h : e ∈ betV l lo hi) : e ∈ l := (List.mem_filter.1 h).1
theorem ecs_snoc (l : List EnV) (e : EnV) : ecs (l ++ [e]) = ecs l ++ e.cells.toList := by simp [ecs]
theorem cells_one (e : EnV) : ∀ u ∈ e.cells.toList, u.oneCell' = true := by
  intro u hu
  simp only [EnV.cells, List.mem_cons, List.not_mem_nil, or_false] at hu
  rcases hu with rfl | rfl <;> rfl

set_option maxRecDepth 100000 in
set_option maxHeartbeats 1000000 in
theorem between_any (A : Option Addr) (l : List EnV) (cap : Nat) (L H : Option Addr) (lo hi : List UInt8) (cl ch : Nat) (w : World) (hl : RdE w A l) (hc : l.length ≤ 1000000) (hL : RdB w L lo) (hH : RdB w H hi) :
    Calls Try.prog 29 #[.slice A l.length cap, .slice L lo.length cl, .slice H hi.length ch] w fun e' w' => ∃ A' c', e' = .returned (.slice A' (betV l lo hi).length c') ∧ Own w' w.heap.size 49 2 A' (betV l lo hi).length c' (ecs (betV l lo hi)) ∧ Below w.heap.size w w' := by
  go_enter Try.func29, Try.ntmps29
  go_wp2
  go_loopw [6, 11] (fun v i wr => ∃ (k : Nat) (A' : Option Addr) (c' : Nat), k ≤ l.length ∧ i = .int .i64 k ∧ v = .slice A' (betV (l.take k) lo hi).length c' ∧ Own wr w.heap.size 49 2 A' (betV (l.take k) lo hi).length c' (ecs (betV (l.take k) lo hi)) ∧ Below w.heap.size w wr) (fun _ i _ => l.length - (intOf i).toNat)
  case atStart => exact ⟨0, none, 0, by omega, rfl, rfl, Own.none_ _ _ _ _ _, Below.refl _ _⟩
  case round =>
    obtain ⟨k, A', c', hk, rfl, rfl, hown, hbw⟩ := hrel
    by_cases h : k < l.length
    · obtain ⟨ad, rfl, hcell, hin⟩ := (hl.below hbw).at_ h
      have hs := betV_snoc l lo hi k h
      have hlen := betV_len (l.take k) lo hi
      rw [List.length_take] at hlen
      obtain ⟨d, hd⟩ : ∃ d, d = betV (l.take k) lo hi := ⟨_, rfl⟩
      rw [← hd] at hs hown hlen ⊢
      have hdl : d.length ≤ 1000000 := by omega
      have Hs := Lib.hid hs
      clear hs hd hlen
      have hcx : ∀ j u, (l[k].cells)[j]? = some u → wr.cell? ((ad.add (k * 2)).add j) = some u := fun j u hj => by rw [add_add']; exact hcell j u hj
      have Hcx := Lib.hid hcx
      clear hcell hcx
      have hbx := Ext.alloc wr (.cells l[k].cells 49)
      have hinx := isIn_any l[k].ka L H l[k].x.key lo hi l[k].kc cl ch _ (hin.kr.below hbx) ((hL.below hbw).below hbx) ((hH.below hbw).below hbx)
      have hfc : (wr.alloc (.cells l[k].cells 49)).cell? ⟨wr.heap.size, 0, none⟩ = some (.slice l[k].ka l[k].x.key.length l[k].kc) := cell_of_row _ _ 0 _ _ _ (heap_alloc_new wr _)
      have HX := Lib.hid hinx
      clear hinx
      cases hb : inR l[k].x.key lo hi with
      | false =>
        rw [hb] at Hs HX
        have hs' : betV (l.take (k + 1)) lo hi = d := by rw [Hs.out]; simp
        have Hs' := Lib.hid hs'
        clear hs' Hs hb
        go_wp2_with (first | (have hcx := Hcx.out; refine wpList_load_cells rfl 49 (.tmp 13) rfl _ rfl l[k].cells _ hcx Try.underlying49 rfl (einfo _) ?_; clear hcx) | (refine wpList_store_row rfl 49 (.tmp 8) (.tmp 14) rfl wr.heap.size l[k].cells rfl rfl 49 _ (heap_alloc_new wr _) (einfo _) (by rfl) (eone _) ?_; rw [setRow_alloc]))
        refine HX.out.mono ?_
        rintro e' w2 ⟨rfl, rfl⟩
        have hown2 := hown.below hbx
        have hbw2 := hbw.trans (hbx.mono hbw.size)
        clear hown hbw hfc HX Hcx hin hbx
        go_wp2_with fail
        go_roundw
        case rel => exact ⟨k + 1, A', c', by omega, by go_num, by rw [Hs'.out], by rw [Hs'.out]; exact hown2, hbw2⟩
        case measure => simp [intOf]; omega
      | true =>
        rw [hb] at Hs HX
        have hs' : betV (l.take (k + 1)) lo hi = d ++ [l[k]] := by rw [Hs.out]; simp
        have Hs1 : Hid ((betV (l.take (k + 1)) lo hi).length = d.length + 1) := by show _ = _; rw [hs']; simp
        have Hs2 : Hid (ecs (betV (l.take (k + 1)) lo hi) = ecs d ++ l[k].cells.toList) := by show _ = _; rw [hs', ecs_snoc]
        clear hs' Hs hb
        obtain ⟨d2, hd2⟩ : ∃ d2, d2 = betV (l.take (k + 1)) lo hi := ⟨_, rfl⟩
        rw [← hd2] at Hs1 Hs2
        have Hd2 := Lib.hid hd2
        clear hd2
        go_wp2_with (first | (have hcx := Hcx.out; refine wpList_load_cells rfl 49 (.tmp 13) rfl _ rfl l[k].cells _ hcx Try.underlying49 rfl (einfo _) ?_; clear hcx) | (refine wpList_store_row rfl 49 (.tmp 8) (.tmp 14) rfl wr.heap.size l[k].cells rfl rfl 49 _ (heap_alloc_new wr _) (einfo _) (by rfl) (eone _) ?_; rw [setRow_alloc]))
        refine HX.out.mono ?_
        rintro e' w2 ⟨rfl, rfl⟩
        have hbx2 := Ext.alloc (wr.alloc (.cells l[k].cells 49)) (.cells l[k].cells 49)
        have hown2 := hown.below (Ext.tr hbx hbx2)
        have hbw2 := hbw.trans ((Ext.tr hbx hbx2).mono hbw.size)
        have hrd : Rd ((wr.alloc (.cells l[k].cells 49)).alloc (.cells l[k].cells 49)) 2 (some ⟨wr.heap.size + 1, 0, none⟩) 1 l[k].cells.toList := by
          have h1 := RdE.one (wr.alloc (.cells l[k].cells 49)) 49 l[k] (hin.below hbx)
          have h2 := h1.rd
          simpa [ecs] using h2
        have hsz : l[k].cells.size = 2 := rfl
        clear hown hbw hfc HX Hcx hin hbx hbx2
        go_wp2_with (first | (refine wpList_load_rowG rfl 49 (.tmp 8) rfl wr.heap.size rfl 49 l[k].cells (0, 0) _ (heap_alloc_new wr _) Try.underlying49 rfl (einfo _) ?_) | (at_builtin; refine wpList_app rfl (.tmp 20) (.tmp 22) 22 rfl elemE w.heap.size A' d.length c' (ecs d) rfl _ 1 1 l[k].cells.toList rfl d2.length Hs1.out (ecs d2) Hs2.out hown2 hrd (cells_one _) (by rw [Hs1.out]; omega) (by rw [Hs1.out]; omega) hbw2.size ?_; intro A4 c4 w4 ho4 hg4 hr4))
        go_roundw
        case rel => exact ⟨k + 1, A4, c4, by omega, by go_num, by rw [← Hd2.out], by rw [← Hd2.out]; exact ho4, below_app hbw2 hown2 hg4 hbw2.size⟩
        case measure => simp [intOf]; omega
    · have hkl : k = l.length := by omega
      subst hkl
      rw [List.take_length] at hown ⊢
      go_wp2
      go_ret
      exact ⟨A', c', rfl, hown, hbw⟩
set_option maxRecDepth 100000 in
set_option maxHeartbeats 1000000 in
theorem ref_between (A : Option Addr) (l : List EnV) (cap : Nat) (L H : Option Addr) (lo hi : List UInt8) (cl ch : Nat) (w : World) (hl : RdE w A l) (hc : l.length ≤ 1000000) (hL : RdB w L lo) (hH : RdB w H hi) :
    Calls Try.prog 19 #[.slice A l.length cap, .slice L lo.length cl, .slice H hi.length ch] w fun e' w' => ∃ A' c', e' = .returned (.slice A' (betV l lo hi).length c') ∧ Own w' w.heap.size 49 2 A' (betV l lo hi).length c' (ecs (betV l lo hi)) ∧ Below w.heap.size w w' := by
  go_enter Try.func19, Try.ntmps19
  go_wp2
  go_loopw [7, 8] (fun v i wr => ∃ (k : Nat) (A' : Option Addr) (c' : Nat), k ≤ l.length ∧ i = .int .i64 k ∧ v = .slice A' (betV (l.take k) lo hi).length c' ∧ Own wr w.heap.size 49 2 A' (betV (l.take k) lo hi).length c' (ecs (betV (l.take k) lo hi)) ∧ Below w.heap.size w wr) (fun _ i _ => l.length - (intOf i).toNat)
  case atStart => exact ⟨0, none, 0, by omega, rfl, rfl, Own.none_ _ _ _ _ _, Below.refl _ _⟩
  case round =>
    obtain ⟨k, A', c', hk, rfl, rfl, hown, hbw⟩ := hrel
    by_cases h : k < l.length
    · obtain ⟨ad, rfl, hcell, hin⟩ := (hl.below hbw).at_ h
      have hs := betV_snoc l lo hi k h
      have hlen := betV_len (l.take k) lo hi
      rw [List.length_take] at hlen
      obtain ⟨d, hd⟩ : ∃ d, d = betV (l.take k) lo hi := ⟨_, rfl⟩
      rw [← hd] at hs hown hlen ⊢
      have hdl : d.length ≤ 1000000 := by omega
      have Hs := Lib.hid hs
      clear hs hd hlen
      have hcx : ∀ j u, (l[k].cells)[j]? = some u → wr.cell? ((ad.add (k * 2)).add j) = some u := fun j u hj => by rw [add_add']; exact hcell j u hj
      have Hcx := Lib.hid hcx
      clear hcell hcx
      have hinx := ref_In l[k].ka L H l[k].x.key lo hi l[k].kc cl ch _ hin.kr (hL.below hbw) (hH.below hbw)
      have hfc : wr.cell? (ad.add (k * 2)) = some (.slice l[k].ka l[k].x.key.length l[k].kc) := Hcx.out 0 _ rfl
      have HX := Lib.hid hinx
      clear hinx
      cases hb : inR l[k].x.key lo hi with
      | false =>
        rw [hb] at Hs HX
        have hs' : betV (l.take (k + 1)) lo hi = d := by rw [Hs.out]; simp
        have Hs' := Lib.hid hs'
        clear hs' Hs hb
        go_wp2_with fail
        refine HX.out.mono ?_
        rintro e' w2 ⟨rfl, rfl⟩
        have hown2 := hown
        have hbw2 := hbw
        clear hown hbw hfc HX Hcx hin
        go_wp2_with fail
        go_roundw
        case rel => exact ⟨k + 1, A', c', by omega, by go_num, by rw [Hs'.out], by rw [Hs'.out]; exact hown2, hbw2⟩
        case measure => simp [intOf]; omega
      | true =>
        rw [hb] at Hs HX
        have hs' : betV (l.take (k + 1)) lo hi = d ++ [l[k]] := by rw [Hs.out]; simp
        have Hs1 : Hid ((betV (l.take (k + 1)) lo hi).length = d.length + 1) := by show _ = _; rw [hs']; simp
        have Hs2 : Hid (ecs (betV (l.take (k + 1)) lo hi) = ecs d ++ l[k].cells.toList) := by show _ = _; rw [hs', ecs_snoc]
        clear hs' Hs hb
        obtain ⟨d2, hd2⟩ : ∃ d2, d2 = betV (l.take (k + 1)) lo hi := ⟨_, rfl⟩
        rw [← hd2] at Hs1 Hs2
        have Hd2 := Lib.hid hd2
        clear hd2
        go_wp2_with fail
        refine HX.out.mono ?_
        rintro e' w2 ⟨rfl, rfl⟩
        have hbx2 := Ext.alloc wr (.cells l[k].cells 49)
        have hown2 := hown.below hbx2
        have hbw2 := hbw.trans (hbx2.mono hbw.size)
        have hrd : Rd (wr.alloc (.cells l[k].cells 49)) 2 (some ⟨wr.heap.size, 0, none⟩) 1 l[k].cells.toList := by
          have h1 := RdE.one wr 49 l[k] hin
          have h2 := h1.rd
          simpa [ecs] using h2
        have hsz : l[k].cells.size = 2 := rfl
        clear hown hbw hfc HX hin hbx2
        go_wp2_with (first | (have hcx := Hcx.out; refine wpList_load_cells rfl 49 (.tmp 26) rfl _ rfl l[k].cells _ hcx Try.underlying49 rfl (einfo _) ?_; clear hcx) | (at_builtin; refine wpList_app rfl (.tmp 23) (.tmp 28) 22 rfl elemE w.heap.size A' d.length c' (ecs d) rfl _ 1 1 l[k].cells.toList rfl d2.length Hs1.out (ecs d2) Hs2.out hown2 hrd (cells_one _) (by rw [Hs1.out]; omega) (by rw [Hs1.out]; omega) hbw2.size ?_; intro A4 c4 w4 ho4 hg4 hr4))
        go_roundw
        case rel => exact ⟨k + 1, A4, c4, by omega, by go_num, by rw [← Hd2.out], by rw [← Hd2.out]; exact ho4, below_app hbw2 hown2 hg4 hbw2.size⟩
        case measure => simp [intOf]; omega
    · have hkl : k = l.length := by omega
      subst hkl
      rw [List.take_length] at hown ⊢
      go_wp2
      go_ret
      exact ⟨A', c', rfl, hown, hbw⟩
end Go.Proofs.Ytiiekdhlcmaabaa
