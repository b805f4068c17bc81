
/- Texts laid together by wip/tools/lay2.py: WrZA. -/

import Derived.Test.YtjholekgdnhpkaaH21

import Derived.Test.YtjholekgdnhpkaaH22

set_option linter.unusedVariables false

set_option linter.unusedSimpArgs false

set_option linter.unusedSectionVars false

/- The walks of the laws WireBack, WireTurned (layer 24). Printed by wip/tools/gen_wrza24.py. -/

namespace Go.Proofs.Ytjholekgdnhpkaa

open Go.RowKit

attribute [local go_sem] Oper.semAt_some

theorem Wm.get_small (b : List UInt8) : (Wm.get b).1.subs.length ≤ 60 ∧ Ent.total (Wm.get b).1.ents + 20 * (Wm.get b).1.ents.length ≤ 21 * b.length := by
  have h1 := Wm.take_small (Crc.got b)
  have h2 := Crc.got_len_le b
  have z1 : Wm.nul.subs = [] := rfl
  have z2 : Wm.nul.ents = [] := rfl
  unfold Wm.get
  repeat' split
  · exact ⟨h1.1, by simp only; omega⟩
  · exact ⟨by rw [z1]; simp, by rw [z2]; simp [Ent.total_nil]⟩
  · exact ⟨by rw [z1]; simp, by rw [z2]; simp [Ent.total_nil]⟩
theorem WmV.lens {M : WmV} {m : Wm} (h : M.x = m) : M.subs.length = m.subs.length ∧ M.ents.length = m.ents.length ∧ M.sigs.length = m.sigs.length ∧ M.ents.map EnV.x = m.ents := by
  subst h
  refine ⟨?_, ?_, rfl, rfl⟩
  · show _ = (M.subs.map WsV.x).length; rw [List.length_map]
  · show _ = (M.ents.map EnV.x).length; rw [List.length_map]
theorem WmV.Small.mod {M : WmV} (h : M.Small) : M.data.length ≤ 64 → M.lo.length ≤ 24 → M.hi.length ≤ 24 → Ent.total (M.ents.map EnV.x) + 20 * M.ents.length ≤ 900000 := fun h1 h2 h3 => by
  have := h.total ⟨h1, h2, h3⟩
  have := h.ents
  omega

set_option maxRecDepth 100000 in
set_option maxHeartbeats 4000000 in
theorem walkWireBack (w : World) (M : WmV) (hM : M.In w) (B : Option Addr) (b : List UInt8) (cap : Nat) (hB : RdB w B b) (hcap : b.length ≤ cap) : Calls Try.prog 4 #[.agg M.cells, .slice B b.length cap] w fun e w' => e = .returned (.bool true) ∧ Below w.heap.size w w' := by
  have HB := Lib.hid hB
  clear hB
  obtain ⟨W0, hW0⟩ : ∃ W0, W0 = w.alloc (.cells M.cells MT) := ⟨_, rfl⟩
  have hx0 : Ext w W0 := by rw [hW0]; exact Ext.alloc _ _
  have G0 : W0.heap[w.heap.size]? = some (.cells M.cells MT (0, 0)) := by rw [hW0]; exact heap_alloc_new w _
  have HS := Lib.hid (small24 M W0 (hM.ext hx0))
  have i0 := WmV.info hM.ok
  have hM0 := hM.ext hx0
  obtain ⟨P0, hP0⟩ : ∃ P, P = M.cells := ⟨_, rfl⟩
  rw [← hP0] at G0 HS i0 hW0 ⊢
  have HW0 := Lib.hid hW0
  have X0 := Lib.hid hx0
  have N0 := Lib.hid hM0
  have HP0 := Lib.hid hP0
  clear hW0 hx0 hM0 hM hP0
  go_enter Try.func4, Try.ntmps4
  go_wp2_with (first | (rw [← HW0.out]; refine wpList_load_rowG (by rfl) MT (.tmp 2) rfl w.heap.size rfl MT P0 (0, 0) _ G0 Try.underlying31 rfl i0 ?_) | (go_at_call 6; refine HS.out.mono ?_; rintro e1 w1 ⟨b1, rfl, hb1, hx1⟩; refine Hid.out ?_))
  have G1 := (hx1.block _ (lt_of_heap G0)).trans G0
  have X1 := Lib.hid (X0.out.tr hx1)
  have N1 := Lib.hid (N0.out.ext hx1)
  have HB1 := Lib.hid hb1
  clear G0 hx1 hb1 HS X0 N0
  refine Lib.hid ?_
  cases b1 with
  | false =>
    go_wp2_with (go_at_call 7; refine (live24 _).mono ?_; rintro e9 w9 ⟨rfl, hx9⟩; have Hx9 := Lib.hid hx9; clear hx9)
    go_ret
    exact ⟨rfl, X1.out.tr Hx9.out⟩
  | true =>
    by_cases hb : 20000 < b.length
    · (go_wp2_with (go_at_call 7; refine (live24 _).mono ?_; rintro e9 w9 ⟨rfl, hx9⟩; have Hx9 := Lib.hid hx9; clear hx9); go_ret; exact ⟨rfl, X1.out.tr Hx9.out⟩)
    · have hsmall := HB1.out rfl
      have hpu := wput_any M w1 N1.out (by have := hsmall.subs; omega) hsmall.mod (by have := hsmall.ents; omega)
      rw [← HP0.out] at hpu
      have hgp := fun p (h : M.x.put = (p, 0)) => Wm.get_put N1.out.own h
      have hln := fun p (h : M.x.put = (p, 0)) => (Wm.put_yes h).2.2.2
      unfold WPut at hpu
      generalize M.x.put = pu at hpu hgp hln
      obtain ⟨p, er⟩ := pu
      simp only at hpu
      have HPU := Lib.hid hpu
      have HGP := Lib.hid hgp
      have HLN := Lib.hid hln
      have HSML := Lib.hid hsmall
      clear hpu hgp hln hsmall HB1
      go_wp2_with (first | (refine wpList_load_rowG (by rfl) MT (.tmp 2) rfl w.heap.size rfl MT P0 (0, 0) _ G1 Try.underlying31 rfl i0 ?_) | (go_at_call 8; refine HPU.out.mono ?_; rintro e2 w2 ⟨A2, c2, rfl, ho2, hx2⟩; refine Hid.out ?_))
      have G2 := (hx2.block _ (lt_of_heap G1)).trans G1
      have X2 := Lib.hid (X1.out.tr hx2)
      have N2 := Lib.hid (N1.out.ext hx2)
      have HO2 := Lib.hid ho2
      clear G1 hx2 ho2 HPU
      refine Lib.hid ?_
      by_cases her : er = 0
      · subst her
        have hlen := HLN.out p rfl
        have hg3 := wget_any A2 p c2 w2 (Own.rd' HO2.out) (by omega) HO2.out.nc
        rw [HGP.out p rfl] at hg3
        have HG3 := Lib.hid hg3
        clear hg3
        go_wp2_with (first | (go_at_call 10; refine (num24 _ _).mono ?_; rintro e w' ⟨rfl, rfl⟩) | (go_at_call 11; refine HG3.out.mono ?_; rintro e3 w3 ⟨M3, rfl, hx3, hin3, hext3⟩; refine Hid.out ?_))
        try simp only at hx3
        have G3 := (hext3.block _ (lt_of_heap G2)).trans G2
        have hst3 := Ext.alloc w3 (.cells M3.cells MT)
        have i3 := WmV.info hin3.ok
        have s3 := WmV.size78 hin3.ok
        have o3 := WmV.one M3
        have hIn3 := hin3.ext hst3
        have K3 := heap_alloc_new w3 (.cells M3.cells MT)
        have hXX3 := (X2.out).tr (hext3.tr hst3)
        have hYY3 := hext3.tr hst3
        obtain ⟨P3, hP3⟩ : ∃ P, P = M3.cells := ⟨_, rfl⟩
        rw [← hP3] at i3 s3 o3 hIn3 K3 hXX3 hYY3 ⊢
        obtain ⟨W3, hW3⟩ : ∃ W, W = w3.alloc (.cells P3 MT) := ⟨_, rfl⟩
        rw [← hW3] at hIn3 K3 hXX3 hYY3
        have HW3 := Lib.hid hW3
        have HP3 := Lib.hid hP3
        have N3 := Lib.hid hIn3
        have X3 := Lib.hid hXX3
        have Y3 := Lib.hid hYY3
        clear hst3 hIn3 hXX3 hYY3 hW3 hP3 hin3 hext3
        have J3 := ((Ext.alloc w3 (.cells P3 MT)).block _ (lt_of_heap G3)).trans G3
        rw [← HW3.out] at J3
        have hl3 := WmV.lens hx3
        have hs0 := HSML.out
        have hl0 := WmV.lens (M := M) rfl
        have hsa := wsame_any M3 M W3 N3.out (N2.out.ext Y3.out) (by rw [hl3.1, ← hl0.1]; have := hs0.subs; omega) (by have := hs0.subs; omega) (by rw [hl3.2.1, ← hl0.2.1]; have := hs0.ents; omega) (by have := hs0.ents; omega) (by rw [hl3.2.2.1, ← hl0.2.2.1]; have := hs0.sigs; omega)
        rw [hx3, ← HP3.out, ← HP0.out, show decide (M.x = M.x) = true from decide_eq_true rfl] at hsa
        have HSA := Lib.hid hsa
        have hlen2 : decide (8000 < (p.length : Int)) = false := decide_eq_false (by omega)
        clear hsa hl3 hs0 hl0 hx3 hlen G3
        refine Lib.hid ?_
        go_wp2_with (first | (refine wpList_run rfl _ _ (ex_allocMsg rfl) ?_) | (refine wpList_store_row rfl MT (.tmp 7) (.tmp 33) rfl w3.heap.size P3 rfl rfl MT _ (heap_alloc_new w3 _) i3 (by rw [s3]; rfl) o3 ?_; rw [setRow_alloc, ← HW3.out]) | (go_at_call 10; refine (num24 _ _).mono ?_; rintro e w' ⟨rfl, rfl⟩) | (refine wpList_load_rowG (by rfl) MT (.tmp 7) rfl w3.heap.size rfl MT P3 (0, 0) _ K3 Try.underlying31 rfl i3 ?_) | (refine wpList_load_rowG (by rfl) MT (.tmp 2) rfl w.heap.size rfl MT P0 (0, 0) _ J3 Try.underlying31 rfl i0 ?_) | (go_at_call 12; refine HSA.out.mono ?_; rintro e5 w3b ⟨rfl, hx5⟩; have X3b := Lib.hid (X3.out.tr hx5); clear hx5) | (go_at_call 11; refine Hid.out ?_))
        have hgb := wget_any B b cap w3b (HB.out.below X3b.out) (by omega) hcap
        have hge := Wm.get_err b
        have hpg := fun h : (Wm.get b).2 = 0 => Wm.put_get h
        have hsm := Wm.get_small b
        generalize Wm.get b = gb at hgb hge hpg hsm
        obtain ⟨gm, ge⟩ := gb
        have HGB := Lib.hid hgb
        have HGE := Lib.hid hge
        have HPG := Lib.hid hpg
        have HSM := Lib.hid hsm
        clear hgb hge hpg hsm
        try refine Lib.hid ?_
        go_wp2_with (go_at_call 11; refine HGB.out.mono ?_; rintro e4 w4 ⟨M4, rfl, hx4, hin4, hext4⟩; refine Hid.out ?_)
        try simp only at hx4
        have hst4 := Ext.alloc w4 (.cells M4.cells MT)
        have i4 := WmV.info hin4.ok
        have s4 := WmV.size78 hin4.ok
        have o4 := WmV.one M4
        have hIn4 := hin4.ext hst4
        have K4 := heap_alloc_new w4 (.cells M4.cells MT)
        have hXX4 := (X3b.out).tr (hext4.tr hst4)
        have hYY4 := hext4.tr hst4
        obtain ⟨P4, hP4⟩ : ∃ P, P = M4.cells := ⟨_, rfl⟩
        rw [← hP4] at i4 s4 o4 hIn4 K4 hXX4 hYY4 ⊢
        obtain ⟨W4, hW4⟩ : ∃ W, W = w4.alloc (.cells P4 MT) := ⟨_, rfl⟩
        rw [← hW4] at hIn4 K4 hXX4 hYY4
        have HW4 := Lib.hid hW4
        have HP4 := Lib.hid hP4
        have N4 := Lib.hid hIn4
        have X4 := Lib.hid hXX4
        have Y4 := Lib.hid hYY4
        clear hst4 hIn4 hXX4 hYY4 hW4 hP4 hin4 hext4
        refine Lib.hid ?_
        by_cases hge : ge = 0
        · subst hge
          have hl4 := WmV.lens hx4
          have hq := HSM.out
          try simp only at hq
          have hpu := wput_any M4 W4 N4.out (by rw [hl4.1]; omega) (fun _ _ _ => by rw [hl4.2.2.2, hl4.2.1]; omega) (by rw [hl4.2.1]; omega)
          rw [hx4, ← HP4.out] at hpu
          have hgp := HPG.out rfl
          try simp only at hgp
          unfold WPut at hpu
          rw [hgp] at hpu
          have HPU := Lib.hid hpu
          clear hpu hgp hl4 hq hx4
          go_wp2_with (first | (refine wpList_run rfl _ _ (ex_allocMsg rfl) ?_) | (refine wpList_store_row rfl MT (.tmp 9) (.tmp 52) rfl w4.heap.size P4 rfl rfl MT _ (heap_alloc_new w4 _) i4 (by rw [s4]; rfl) o4 ?_; rw [setRow_alloc, ← HW4.out]) | (go_at_call 10; refine (num24 _ _).mono ?_; rintro e w' ⟨rfl, rfl⟩) | (refine wpList_load_rowG (by rfl) MT (.tmp 9) rfl w4.heap.size rfl MT P4 (0, 0) _ K4 Try.underlying31 rfl i4 ?_) | (go_at_call 8; refine HPU.out.mono ?_; rintro e5 w5 ⟨A5, c5, rfl, ho5, hx5⟩; refine Hid.out ?_))
          have z1 := run_str w5 23 9 5 A5 b c5 Try.underlying23 Try.underlying5 Try.underlying9 (Own.rd' ho5) b.length rfl
          have z2 := run_str w5 23 9 5 B b cap Try.underlying23 Try.underlying5 Try.underlying9 (HB.out.below (X4.out.tr hx5)) b.length rfl
          have X5 := Lib.hid (X4.out.tr hx5)
          clear ho5 hx5
          refine Lib.hid ?_
          go_wp2_with (first | (go_at_call 10; refine (num24 _ _).mono ?_; rintro e w' ⟨rfl, rfl⟩) | (go_at_call 7; refine (live24 _).mono ?_; rintro e9 w9 ⟨rfl, hx9⟩; have Hx9 := Lib.hid hx9; clear hx9))
          go_ret
          exact ⟨rfl, X5.out.tr Hx9.out⟩
        · have hne : ((ge : Int) != 0) = true := by rw [bne_iff_ne]; omega
          have hnu : gm = Wm.nul := by
            rcases HGE.out with h | h
            · exact absurd h hge
            · exact h.2
          have hl4 := WmV.lens hx4
          have hsa := wsame_any M4 WmV.nul W4 N4.out (WmV.nul_in _) (by rw [hl4.1, hnu]; simp [Wm.nul, WmV.x, WmV.nul]) (by simp [WmV.nul]) (by rw [hl4.2.1, hnu]; simp [Wm.nul, WmV.x, WmV.nul]) (by simp [WmV.nul]) (by rw [hl4.2.2.1, hnu]; simp [Wm.nul, WmV.x, WmV.nul])
          rw [hx4, hnu, ← HP4.out, show decide (Wm.nul = WmV.nul.x) = true from decide_eq_true rfl] at hsa
          have HSA := Lib.hid hsa
          clear hsa hl4 hnu hx4 hge
          go_wp2_with (first | (refine wpList_run rfl _ _ (ex_allocMsg rfl) ?_) | (refine wpList_store_row rfl MT (.tmp 9) (.tmp 52) rfl w4.heap.size P4 rfl rfl MT _ (heap_alloc_new w4 _) i4 (by rw [s4]; rfl) o4 ?_; rw [setRow_alloc, ← HW4.out]) | (go_at_call 10; refine (num24 _ _).mono ?_; rintro e w' ⟨rfl, rfl⟩) | (refine wpList_load_rowG (by rfl) MT (.tmp 9) rfl w4.heap.size rfl MT P4 (0, 0) _ K4 Try.underlying31 rfl i4 ?_) | (refine wpList_run rfl _ _ (ex_buildMsg0 rfl) ?_) | (go_at_call 12; refine HSA.out.mono ?_; rintro e5 w5 ⟨rfl, hx5⟩; have X5 := Lib.hid (X4.out.tr hx5); clear hx5) | (go_at_call 7; refine (live24 _).mono ?_; rintro e9 w9 ⟨rfl, hx9⟩; have Hx9 := Lib.hid hx9; clear hx9))
          go_ret
          exact ⟨rfl, X5.out.tr Hx9.out⟩
      · have hea2 : ((er : Int) == 0) = false := by rw [beq_eq_false_iff_ne]; omega
        go_wp2_with (first | (go_at_call 10; refine (num24 _ _).mono ?_; rintro e w' ⟨rfl, rfl⟩) | (go_at_call 11; refine Hid.out ?_))
        have hgb := wget_any B b cap w2 (HB.out.below X2.out) (by omega) hcap
        have hge := Wm.get_err b
        have hpg := fun h : (Wm.get b).2 = 0 => Wm.put_get h
        have hsm := Wm.get_small b
        generalize Wm.get b = gb at hgb hge hpg hsm
        obtain ⟨gm, ge⟩ := gb
        have HGB := Lib.hid hgb
        have HGE := Lib.hid hge
        have HPG := Lib.hid hpg
        have HSM := Lib.hid hsm
        clear hgb hge hpg hsm
        try refine Lib.hid ?_
        go_wp2_with (go_at_call 11; refine HGB.out.mono ?_; rintro e4 w4 ⟨M4, rfl, hx4, hin4, hext4⟩; refine Hid.out ?_)
        try simp only at hx4
        have hst4 := Ext.alloc w4 (.cells M4.cells MT)
        have i4 := WmV.info hin4.ok
        have s4 := WmV.size78 hin4.ok
        have o4 := WmV.one M4
        have hIn4 := hin4.ext hst4
        have K4 := heap_alloc_new w4 (.cells M4.cells MT)
        have hXX4 := (X2.out).tr (hext4.tr hst4)
        have hYY4 := hext4.tr hst4
        obtain ⟨P4, hP4⟩ : ∃ P, P = M4.cells := ⟨_, rfl⟩
        rw [← hP4] at i4 s4 o4 hIn4 K4 hXX4 hYY4 ⊢
        obtain ⟨W4, hW4⟩ : ∃ W, W = w4.alloc (.cells P4 MT) := ⟨_, rfl⟩
        rw [← hW4] at hIn4 K4 hXX4 hYY4
        have HW4 := Lib.hid hW4
        have HP4 := Lib.hid hP4
        have N4 := Lib.hid hIn4
        have X4 := Lib.hid hXX4
        have Y4 := Lib.hid hYY4
        clear hst4 hIn4 hXX4 hYY4 hW4 hP4 hin4 hext4
        refine Lib.hid ?_
        by_cases hge : ge = 0
        · subst hge
          have hl4 := WmV.lens hx4
          have hq := HSM.out
          try simp only at hq
          have hpu := wput_any M4 W4 N4.out (by rw [hl4.1]; omega) (fun _ _ _ => by rw [hl4.2.2.2, hl4.2.1]; omega) (by rw [hl4.2.1]; omega)
          rw [hx4, ← HP4.out] at hpu
          have hgp := HPG.out rfl
          try simp only at hgp
          unfold WPut at hpu
          rw [hgp] at hpu
          have HPU := Lib.hid hpu
          clear hpu hgp hl4 hq hx4
          go_wp2_with (first | (refine wpList_run rfl _ _ (ex_allocMsg rfl) ?_) | (refine wpList_store_row rfl MT (.tmp 9) (.tmp 52) rfl w4.heap.size P4 rfl rfl MT _ (heap_alloc_new w4 _) i4 (by rw [s4]; rfl) o4 ?_; rw [setRow_alloc, ← HW4.out]) | (go_at_call 10; refine (num24 _ _).mono ?_; rintro e w' ⟨rfl, rfl⟩) | (refine wpList_load_rowG (by rfl) MT (.tmp 9) rfl w4.heap.size rfl MT P4 (0, 0) _ K4 Try.underlying31 rfl i4 ?_) | (go_at_call 8; refine HPU.out.mono ?_; rintro e5 w5 ⟨A5, c5, rfl, ho5, hx5⟩; refine Hid.out ?_))
          have z1 := run_str w5 23 9 5 A5 b c5 Try.underlying23 Try.underlying5 Try.underlying9 (Own.rd' ho5) b.length rfl
          have z2 := run_str w5 23 9 5 B b cap Try.underlying23 Try.underlying5 Try.underlying9 (HB.out.below (X4.out.tr hx5)) b.length rfl
          have X5 := Lib.hid (X4.out.tr hx5)
          clear ho5 hx5
          refine Lib.hid ?_
          go_wp2_with (first | (go_at_call 10; refine (num24 _ _).mono ?_; rintro e w' ⟨rfl, rfl⟩) | (go_at_call 7; refine (live24 _).mono ?_; rintro e9 w9 ⟨rfl, hx9⟩; have Hx9 := Lib.hid hx9; clear hx9))
          go_ret
          exact ⟨rfl, X5.out.tr Hx9.out⟩
        · have hne : ((ge : Int) != 0) = true := by rw [bne_iff_ne]; omega
          have hnu : gm = Wm.nul := by
            rcases HGE.out with h | h
            · exact absurd h hge
            · exact h.2
          have hl4 := WmV.lens hx4
          have hsa := wsame_any M4 WmV.nul W4 N4.out (WmV.nul_in _) (by rw [hl4.1, hnu]; simp [Wm.nul, WmV.x, WmV.nul]) (by simp [WmV.nul]) (by rw [hl4.2.1, hnu]; simp [Wm.nul, WmV.x, WmV.nul]) (by simp [WmV.nul]) (by rw [hl4.2.2.1, hnu]; simp [Wm.nul, WmV.x, WmV.nul])
          rw [hx4, hnu, ← HP4.out, show decide (Wm.nul = WmV.nul.x) = true from decide_eq_true rfl] at hsa
          have HSA := Lib.hid hsa
          clear hsa hl4 hnu hx4 hge
          go_wp2_with (first | (refine wpList_run rfl _ _ (ex_allocMsg rfl) ?_) | (refine wpList_store_row rfl MT (.tmp 9) (.tmp 52) rfl w4.heap.size P4 rfl rfl MT _ (heap_alloc_new w4 _) i4 (by rw [s4]; rfl) o4 ?_; rw [setRow_alloc, ← HW4.out]) | (go_at_call 10; refine (num24 _ _).mono ?_; rintro e w' ⟨rfl, rfl⟩) | (refine wpList_load_rowG (by rfl) MT (.tmp 9) rfl w4.heap.size rfl MT P4 (0, 0) _ K4 Try.underlying31 rfl i4 ?_) | (refine wpList_run rfl _ _ (ex_buildMsg0 rfl) ?_) | (go_at_call 12; refine HSA.out.mono ?_; rintro e5 w5 ⟨rfl, hx5⟩; have X5 := Lib.hid (X4.out.tr hx5); clear hx5) | (go_at_call 7; refine (live24 _).mono ?_; rintro e9 w9 ⟨rfl, hx9⟩; have Hx9 := Lib.hid hx9; clear hx9))
          go_ret
          exact ⟨rfl, X5.out.tr Hx9.out⟩

set_option maxRecDepth 100000 in
set_option maxHeartbeats 4000000 in
theorem walkWireTurned (w : World) (M : WmV) (hM : M.In w) (at_ : Int) (hat : (Lit.int .i64 at_).wf = true) (x : Int) (hx : (Lit.int .u8 x).wf = true) : Calls Try.prog 5 #[.agg M.cells, .int .i64 at_, .int .u8 x] w fun e w' => e = .returned (.bool true) ∧ Below w.heap.size w w' := by
  obtain ⟨b, rfl⟩ := wf_byte hx
  obtain ⟨hat1, hat2⟩ := wf_int hat
  clear hx hat
  obtain ⟨W0, hW0⟩ : ∃ W0, W0 = w.alloc (.cells M.cells MT) := ⟨_, rfl⟩
  have hx0 : Ext w W0 := by rw [hW0]; exact Ext.alloc _ _
  have G0 : W0.heap[w.heap.size]? = some (.cells M.cells MT (0, 0)) := by rw [hW0]; exact heap_alloc_new w _
  have HS := Lib.hid (small24 M W0 (hM.ext hx0))
  have i0 := WmV.info hM.ok
  have hM0 := hM.ext hx0
  obtain ⟨P0, hP0⟩ : ∃ P, P = M.cells := ⟨_, rfl⟩
  rw [← hP0] at G0 HS i0 hW0 ⊢
  have HW0 := Lib.hid hW0
  have X0 := Lib.hid hx0
  have N0 := Lib.hid hM0
  have HP0 := Lib.hid hP0
  clear hW0 hx0 hM0 hM hP0
  go_enter Try.func5, Try.ntmps5
  go_wp2_with (first | (rw [← HW0.out]; refine wpList_load_rowG (by rfl) MT (.tmp 3) rfl w.heap.size rfl MT P0 (0, 0) _ G0 Try.underlying31 rfl i0 ?_) | (go_at_call 6; refine HS.out.mono ?_; rintro e1 w1 ⟨b1, rfl, hb1, hx1⟩; refine Hid.out ?_))
  have G1 := (hx1.block _ (lt_of_heap G0)).trans G0
  have X1 := Lib.hid (X0.out.tr hx1)
  have N1 := Lib.hid (N0.out.ext hx1)
  have HB1 := Lib.hid hb1
  clear G0 hx1 hb1 HS X0 N0
  refine Lib.hid ?_
  cases b1 with
  | false =>
    go_wp2_with (go_at_call 7; refine (live24 _).mono ?_; rintro e9 w9 ⟨rfl, hx9⟩; have Hx9 := Lib.hid hx9; clear hx9)
    go_ret
    exact ⟨rfl, X1.out.tr Hx9.out⟩
  | true =>
    by_cases ha : at_ < 0
    · (go_wp2_with (go_at_call 7; refine (live24 _).mono ?_; rintro e9 w9 ⟨rfl, hx9⟩; have Hx9 := Lib.hid hx9; clear hx9); go_ret; exact ⟨rfl, X1.out.tr Hx9.out⟩)
    · cases hb0 : ((b.toNat : Int) == 0) with
      | true =>
        go_wp2_with (go_at_call 7; refine (live24 _).mono ?_; rintro e9 w9 ⟨rfl, hx9⟩; have Hx9 := Lib.hid hx9; clear hx9)
        go_ret
        exact ⟨rfl, X1.out.tr Hx9.out⟩
      | false =>
        have hbne : b ≠ 0 := fun h => by rw [h] at hb0; exact absurd hb0 (by decide)
        obtain ⟨i, rfl⟩ := Int.eq_ofNat_of_zero_le (show 0 ≤ at_ by omega)
        have hsmall := HB1.out rfl
        have hpu := wput_any M w1 N1.out (by have := hsmall.subs; omega) hsmall.mod (by have := hsmall.ents; omega)
        rw [← HP0.out] at hpu
        have hgp := fun p (h : M.x.put = (p, 0)) (k : Nat) (hk : k < p.length) => Wm.get_turned h k hk b hbne
        have hln := fun p (h : M.x.put = (p, 0)) => (Wm.put_yes h).2.2
        have hcl := Crc.put_len M.x.laid
        unfold WPut at hpu
        generalize M.x.put = pu at hpu hgp hln
        obtain ⟨p, er⟩ := pu
        simp only at hpu
        have HPU := Lib.hid hpu
        have HGP := Lib.hid hgp
        have HLN := Lib.hid hln
        have HCL := Lib.hid hcl
        clear hpu hgp hln hsmall HB1 hcl hbne
        go_wp2_with (first | (refine wpList_load_rowG (by rfl) MT (.tmp 3) rfl w.heap.size rfl MT P0 (0, 0) _ G1 Try.underlying31 rfl i0 ?_) | (go_at_call 8; refine HPU.out.mono ?_; rintro e2 w2 ⟨A2, c2, rfl, ho2, hx2⟩; refine Hid.out ?_))
        have X2 := Lib.hid (X1.out.tr hx2)
        have HO2 := Lib.hid (ho2.mono X1.out.size)
        clear hx2 ho2 HPU G1
        refine Lib.hid ?_
        by_cases her : er = 0
        · subst her
          have hl0 := HLN.out p rfl
          have hlen : 0 < p.length ∧ p.length ≤ 8000 := ⟨by rw [hl0.1, HCL.out]; omega, hl0.2⟩
          obtain ⟨k, hkd⟩ : ∃ k, k = i % p.length := ⟨_, rfl⟩
          have hkl : k < p.length := by rw [hkd]; exact Nat.mod_lt _ hlen.1
          have HK := Lib.hid (show Int.tmod (i : Int) (p.length : Int) = (k : Int) by rw [hkd]; rfl)
          have hpne : ¬ p = [] := fun h => by rw [h] at hlen; exact absurd hlen.1 (by decide)
          have HGT := Lib.hid (HGP.out p rfl k hkl)
          have HO2d := Lib.hid (HO2.out.below (Ext.drew w2))
          obtain ⟨ad, rfl, hcell, hfr, hbase, hrow, hset⟩ := HO2d.out.setB hkl
          have hl1 := hlen.1
          have hl2 := hlen.2
          have ho4 := Lib.hid (hset (p[k] ^^^ b))
          have hx8 := Lib.hid (x8 p[k] b)
          obtain ⟨pk, hpk⟩ : ∃ pk, pk = p[k] := ⟨_, rfl⟩
          rw [← hpk] at hcell ho4 hx8 HGT
          clear hset hrow hpk hkd HGP HLN HCL hlen hl0
          have hb4 := Lib.hid ((Ext.tr X2.out (Ext.drew w2)).setCell hbase (.int .u8 ((pk ^^^ b).toNat : Int)))
          go_wp2_with (go_at_call 10; refine (num24 _ _).mono ?_; rintro e w' ⟨rfl, rfl⟩)
          refine re_start [0, 1, 2, 3, 4, 5, 6, 7, 8, 9, 10, 12, 13, 14] (by kernel_rfl) ?_
          refine re_takeA 0 rfl (by kernel_rfl) (by kernel_rfl) (by kernel_rfl) (fun _ _ _ _ h => h) (by rfl) ⟨_, fun w' => by (go_simp <;> with_reducible rfl), ?_⟩
          simp only [Act.put, List.setIfInBounds_toArray, List.set_cons_zero, List.set_cons_succ]
          refine re_takeA 1 rfl (by kernel_rfl) (by kernel_rfl) (by kernel_rfl) (fun _ _ _ _ h => h) (by rfl) ⟨_, fun w' => by (go_simp <;> with_reducible rfl), ?_⟩
          simp only [Act.put, List.setIfInBounds_toArray, List.set_cons_zero, List.set_cons_succ]
          refine re_takeA 2 rfl (by kernel_rfl) (by kernel_rfl) (by kernel_rfl) (fun _ _ _ _ h => h) (by rfl) ⟨_, fun w' => by (go_simp <;> with_reducible rfl), ?_⟩
          simp only [Act.put, List.setIfInBounds_toArray, List.set_cons_zero, List.set_cons_succ]
          refine re_takeA 3 rfl (by kernel_rfl) (by kernel_rfl) (by kernel_rfl) (fun _ _ _ _ h => h) (by rfl) ⟨_, fun w' => by (go_simp <;> with_reducible rfl), ?_⟩   -- t38 := len(t37)
          simp only [Act.put, List.setIfInBounds_toArray, List.set_cons_zero, List.set_cons_succ]
          refine re_takeA 4 rfl (by kernel_rfl) (by kernel_rfl) (by kernel_rfl) (fun _ _ _ _ h => h) (by rfl) ⟨.int .i64 ((k : Nat) : Int), fun w' => by have hkt := HK.out; (go_simp <;> rfl), ?_⟩
          simp only [Act.put, List.setIfInBounds_toArray, List.set_cons_zero, List.set_cons_succ]
          refine re_takeA 5 rfl (by kernel_rfl) (by kernel_rfl) (by kernel_rfl) (fun _ _ _ _ h => h) (by rfl) ⟨_, fun w' => by (go_simp <;> with_reducible rfl), ?_⟩
          simp only [Act.put, List.setIfInBounds_toArray, List.set_cons_zero, List.set_cons_succ]
          refine re_takeA 6 rfl (by kernel_rfl) (by kernel_rfl) (by kernel_rfl) (fun _ _ _ _ h => h) (by rfl) ⟨_, fun w' => by (go_simp <;> with_reducible rfl), ?_⟩
          simp only [Act.put, List.setIfInBounds_toArray, List.set_cons_zero, List.set_cons_succ]
          refine re_takeA 7 rfl (by kernel_rfl) (by kernel_rfl) (by kernel_rfl) (fun _ _ _ _ h => h) (by rfl) ⟨_, fun w' => by (go_simp <;> with_reducible rfl), ?_⟩
          simp only [Act.put, List.setIfInBounds_toArray, List.set_cons_zero, List.set_cons_succ]
          refine re_takeA 8 rfl (by kernel_rfl) (by kernel_rfl) (by kernel_rfl) (fun _ _ _ _ h => h) (by rfl) ⟨_, fun w' => by (go_simp <;> with_reducible rfl), ?_⟩   -- t43 := len(t42)
          simp only [Act.put, List.setIfInBounds_toArray, List.set_cons_zero, List.set_cons_succ]
          refine re_takeA 9 rfl (by kernel_rfl) (by kernel_rfl) (by kernel_rfl) (fun _ _ _ _ h => h) (by rfl) ⟨.int .i64 ((k : Nat) : Int), fun w' => by have hkt := HK.out; (go_simp <;> rfl), ?_⟩
          simp only [Act.put, List.setIfInBounds_toArray, List.set_cons_zero, List.set_cons_succ]
          refine re_takeA 10 rfl (by kernel_rfl) (by kernel_rfl) (by kernel_rfl) (fun _ _ _ _ h => h) (by rfl) ⟨.pointer (some (ad.add k)), fun w' => by (go_simp <;> with_reducible rfl), ?_⟩
          simp only [Act.put, List.setIfInBounds_toArray, List.set_cons_zero, List.set_cons_succ]
          refine re_take 11 (by rfl) rfl (by kernel_rfl) (by kernel_rfl) (by kernel_rfl) (fun _ _ _ _ h => h) (by rfl) ⟨_, fun w' hx => by have hcx := hx.load hcell; (go_simp <;> with_reducible rfl), ?_⟩
          simp only [Act.put, List.setIfInBounds_toArray, List.set_cons_zero, List.set_cons_succ]
          refine re_takeA 12 rfl (by kernel_rfl) (by kernel_rfl) (by kernel_rfl) (fun _ _ _ _ h => h) (by rfl) ⟨_, fun w' => by (go_simp <;> with_reducible rfl), ?_⟩
          simp only [Act.put, List.setIfInBounds_toArray, List.set_cons_zero, List.set_cons_succ]
          refine re_takeA 13 rfl (by kernel_rfl) (by kernel_rfl) (by kernel_rfl) (fun _ _ _ _ h => h) (by rfl) ⟨_, fun w' => by (go_simp <;> with_reducible rfl), ?_⟩   -- t48 := binOp xor 5 t46 t47 5
          simp only [Act.put, List.setIfInBounds_toArray, List.set_cons_zero, List.set_cons_succ]
          refine re_takeA 14 rfl (by kernel_rfl) (by kernel_rfl) (by kernel_rfl) (fun _ _ _ _ h => h) (by rfl) ⟨.pointer (some (ad.add k)), fun w' => by (go_simp <;> with_reducible rfl), ?_⟩
          simp only [Act.put, List.setIfInBounds_toArray, List.set_cons_zero, List.set_cons_succ]
          -- 15: - := store 5 t49 t48
          refine re_store 15 rfl (by kernel_rfl) (by kernel_rfl) (by rfl) ⟨_, by (go_simp <;> rfl), ?_⟩
          simp only [Act.put]
          refine re_done (by kernel_rfl) ?_
          rw [hx8.out]
          obtain ⟨W4, hW4⟩ : ∃ W4, W4 = w2.drew.setCell (ad.add k) (.int .u8 ((pk ^^^ b).toNat : Int)) := ⟨_, rfl⟩
          rw [show (w2.setCell (ad.add k) (.int .u8 ((pk ^^^ b).toNat : Int))).drew = W4 from hW4.symm]
          have ho4 := ho4.out
          have X4 := Lib.hid (show Ext w W4 by rw [hW4]; exact hb4.out)
          rw [← hW4] at ho4
          have hg5 := wget_any (some ad) (p.set k (pk ^^^ b)) c2 W4 (Own.rd' ho4) (by rw [List.length_set]; omega) (by rw [List.length_set]; exact ho4.nc)
          rw [List.length_set] at hg5
          have hgt := HGT.out
          generalize Wm.get (p.set k (pk ^^^ b)) = gb at hg5 hgt
          obtain ⟨gm, ge⟩ := gb
          simp only at hgt
          subst hgt
          have HG5 := Lib.hid hg5
          clear hg5 ho4 hb4 hW4 hcell hfr hbase HK HGT
          go_wp2_with (first | (go_at_call 11; refine HG5.out.mono ?_; rintro e4 w4 ⟨M4, rfl, hx4, hin4, hext4⟩; refine Hid.out ?_))
          have hst4 := Ext.alloc w4 (.cells M4.cells MT)
          have i4 := WmV.info hin4.ok
          have s4 := WmV.size78 hin4.ok
          have o4 := WmV.one M4
          have hIn4 := hin4.ext hst4
          have K4 := heap_alloc_new w4 (.cells M4.cells MT)
          have hXX4 := (X4.out).tr (hext4.tr hst4)
          have hYY4 := hext4.tr hst4
          obtain ⟨P4, hP4⟩ : ∃ P, P = M4.cells := ⟨_, rfl⟩
          rw [← hP4] at i4 s4 o4 hIn4 K4 hXX4 hYY4 ⊢
          obtain ⟨W4, hW4⟩ : ∃ W, W = w4.alloc (.cells P4 MT) := ⟨_, rfl⟩
          rw [← hW4] at hIn4 K4 hXX4 hYY4
          have HW4 := Lib.hid hW4
          have HP4 := Lib.hid hP4
          have N4 := Lib.hid hIn4
          have X4 := Lib.hid hXX4
          have Y4 := Lib.hid hYY4
          clear hst4 hIn4 hXX4 hYY4 hW4 hP4 hin4 hext4
          refine Lib.hid ?_
          go_wp2_with (first | (refine wpList_run rfl _ _ (ex_allocMsg rfl) ?_) | (refine wpList_store_row rfl MT (.tmp 9) (.tmp 53) rfl w4.heap.size P4 rfl rfl MT _ (heap_alloc_new w4 _) i4 (by rw [s4]; rfl) o4 ?_; rw [setRow_alloc, ← HW4.out]) | (go_at_call 10; refine (num24 _ _).mono ?_; rintro e w' ⟨rfl, rfl⟩) | (go_at_call 7; refine (live24 _).mono ?_; rintro e9 w9 ⟨rfl, hx9⟩; have Hx9 := Lib.hid hx9; clear hx9))
          go_ret
          exact ⟨rfl, X4.out.tr Hx9.out⟩
        · have hea2 : ((er : Int) != 0) = true := by rw [bne_iff_ne]; omega
          go_wp2_with (first | (go_at_call 10; refine (num24 _ _).mono ?_; rintro e w' ⟨rfl, rfl⟩) | (go_at_call 7; refine (live24 _).mono ?_; rintro e9 w9 ⟨rfl, hx9⟩; have Hx9 := Lib.hid hx9; clear hx9))
          go_ret
          exact ⟨rfl, X2.out.tr Hx9.out⟩
end Go.Proofs.Ytjholekgdnhpkaa
