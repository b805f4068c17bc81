/- Texts laid together by wip/tools/lay2.py: NdZB. -/
import Derived.Test.YtkpagmfaccmiaaaNdAllB
/- The walk of the law NodeBack (layer 08). Printed by wip/tools/gen_ndzb08.py. -/
namespace Go.Proofs.Ytkpagmfaccmiaaa
open Go.RowKit
attribute [local go_sem] Oper.semAt_some

theorem Nd.used_need {n : Nd} (h : n.ok = true) (hk : Nd.hasC n.kind = true) : (Nd.used n.kind n.cells).1 = Nd.need n.kind n.cells := by
  unfold Nd.used
  rw [if_pos]
  refine ⟨hk, ?_⟩
  rw [List.all_eq_true]
  exact fun c hc => decide_eq_true (Nd.ok_cells h hk c hc)
theorem Nd.PutR.says {n : Nd} {r : List UInt8 × Nat} (h : n.PutR r) (hi : n.In) (h0 : r.2 = 0) : Nd.Says r.1 n := by
  rcases h with ⟨_, rfl⟩ | ⟨_, _, rfl⟩ | ⟨hok, hu, bs, hb, hl, rfl⟩
  · cases h0
  · cases h0
  · exact Nd.says_put hok (fun hk => by rw [← Nd.used_need hok hk]; exact hu) hi hb hl
theorem Nd.Says.putR {b : List UInt8} {n : Nd} (h : Nd.Says b n) {r : List UInt8 × Nat} (hR : n.PutR r) : r.2 = 0 ∧ (Nd.hasC n.kind = false → r.1 = b) := by
  rcases hR with ⟨hok, _⟩ | ⟨hok, hu, _⟩ | ⟨_, _, bs, hb, _, rfl⟩
  · rw [h.ok] at hok; cases hok
  · exfalso
    by_cases hk : Nd.hasC n.kind = true
    · rw [Nd.used_need hok hk] at hu
      have := Nd.need_says h hk
      omega
    · unfold Nd.used at hu
      rw [if_neg (fun e => hk e.1)] at hu
      simp at hu
  · refine ⟨rfl, fun hk => ?_⟩
    unfold Nd.Body at hb
    rw [if_neg (by rw [hk]; decide)] at hb
    rw [hb]
    exact (Nd.put_says h hk).symm
set_option maxRecDepth 100000 in
set_option maxHeartbeats 2000000 in
theorem walkNodeBack (w : World) (n : NdV) (hn : n.Arg w) (B : Option Addr) (b : List UInt8) (cap : Nat) (hB : RdB w B b) (hcap : b.length ≤ cap) : Calls Try.prog 5 #[.agg n.cells, .slice B b.length cap] w fun e w' => e = .returned (.bool true) ∧ Below w.heap.size w w' := by
  obtain ⟨W0, hW0⟩ : ∃ W0, W0 = w.alloc (.cells n.cells 29) := ⟨_, rfl⟩
  have hx0 : Ext w W0 := by rw [hW0]; exact Ext.alloc _ _
  have g0 : W0.heap[w.heap.size]? = some (.cells n.cells 29 (0, 0)) := by rw [hW0]; exact heap_alloc_new w _
  have HW0 := Lib.hid (show w.alloc (.cells n.cells 29) = W0 from hW0.symm)
  have hs := small08 n W0 (hn.ext hx0)
  have Hx0 := Lib.hid hx0
  have Hn := Lib.hid hn
  have HB := Lib.hid hB
  clear hW0 hx0 hn hB
  go_enter Try.func5, Try.ntmps5
  go_wp2_with (first | (rw [HW0.out]; refine wpList_load_rowG (by rfl) 29 (.tmp 2) rfl w.heap.size rfl 29 n.cells (0, 0) _ g0 Try.underlying29 rfl (ninfo _) ?_) | (go_at_call 6; refine Hid.out ?_))
  refine Lib.hid ?_
  refine hs.mono ?_
  rintro e1 w1 ⟨b1, hb1, rfl, hx1⟩
  have g1 := (hx1.block _ (lt_of_heap g0)).trans g0
  have Hx1 := Lib.hid (Hx0.out.tr hx1)
  clear hx1 g0 hs
  cases b1 with
  | false =>
    clear g1 hb1
    go_wp2_with (go_at_call 7; refine (live08 _).mono ?_; rintro e9 w9 ⟨rfl, hx9⟩; have Hx9 : Hid (Ext _ w9) := Lib.hid hx9; clear hx9)
    go_ret
    exact ⟨rfl, Hx1.out.tr Hx9.out⟩
  | true =>
    have hsm := hb1 rfl
    clear hb1
    by_cases hbl : (2000 : Int) < (b.length : Int)
    · clear g1 hsm
      go_wp2_with (go_at_call 7; refine (live08 _).mono ?_; rintro e9 w9 ⟨rfl, hx9⟩; have Hx9 : Hid (Ext _ w9) := Lib.hid hx9; clear hx9)
      go_ret
      exact ⟨rfl, Hx1.out.tr Hx9.out⟩
    have N1 := Lib.hid ((Hn.out.in_ hsm.1 hsm.2).ext Hx1.out)
    have hp := nput_any n w1 N1.out
    have Hbl := Lib.hid hbl
    clear hsm
    go_wp2_with (first | (refine wpList_load_rowG (by rfl) 29 (.tmp 2) rfl w.heap.size rfl 29 n.cells (0, 0) _ g1 Try.underlying29 rfl (ninfo _) ?_) | (go_at_call 9; refine Hid.out ?_))
    refine Lib.hid ?_
    refine hp.mono ?_
    rintro e2 w2 ⟨r, A2, c2, hR, rfl, hrd, hrc, hx2⟩
    have G2 := Lib.hid ((hx2.block _ (lt_of_heap g1)).trans g1)
    have N2 := Lib.hid (N1.out.ext hx2)
    have X2 := Lib.hid (Hx1.out.tr hx2)
    have Hsay := Lib.hid (hR.says N1.out.plain)
    clear hR hx2 hp g1 hbl
    obtain ⟨a, ea⟩ := r
    simp only at hrd hrc Hsay ⊢
    by_cases hea : ea = 0
    · have hsay := Hsay.out hea
      have Hs1 := Lib.hid hsay
      subst hea
      clear hsay
      have hg := nget_any A2 a c2 w2 hrd hrc
      go_wp2_with (first | (go_at_call 10; refine (num08 _ _).mono ?_; rintro e w' ⟨rfl, rfl⟩) | (go_at_call 13; refine Hid.out ?_))
      refine Lib.hid ?_
      refine hg.mono ?_
      rintro e3 w3 ⟨m, code, rfl, hinm, hx3, _, hcase⟩
      have hm : code = 0 ∧ m.x = n.x := by
        rcases hcase with ⟨h, hsm⟩ | ⟨_, _, hno⟩
        · exact ⟨h, hsm.uniq Hs1.out⟩
        · exact absurd Hs1.out (hno _)
      obtain ⟨rfl, hmx⟩ := hm
      obtain ⟨W3, hW3⟩ : ∃ W3, W3 = w3.alloc (.cells m.cells 29) := ⟨_, rfl⟩
      have hy3 : Ext w3 W3 := by rw [hW3]; exact Ext.alloc _ _
      have K3 : W3.heap[w3.heap.size]? = some (.cells m.cells 29 (0, 0)) := by rw [hW3]; exact heap_alloc_new w3 _
      have HW3 := Lib.hid (show w3.alloc (.cells m.cells 29) = W3 from hW3.symm)
      have G3 := ((hx3.tr hy3).block _ (lt_of_heap G2.out)).trans G2.out
      have hs3 := nsame_any m n W3 (hinm.ext hy3) (N2.out.ext (hx3.tr hy3))
      rw [hmx, (Nd.same_iff _ _).2 rfl] at hs3
      have X3 := Lib.hid (X2.out.tr (hx3.tr hy3))
      clear hmx hcase hinm hx3 hy3 hW3 hrd hrc hg
      go_wp2_with (first | (refine wpList_store_row (by rfl) 29 (.tmp 7) (.tmp 35) rfl w3.heap.size m.cells rfl rfl 29 _ (heap_alloc_new w3 _) (ninfo _) (by rfl) (none1 _) ?_; rw [setRow_alloc, HW3.out]) | (go_at_call 10; refine (num08 _ _).mono ?_; rintro e w' ⟨rfl, rfl⟩) | (refine wpList_load_rowG (by rfl) 29 (.tmp 7) rfl w3.heap.size rfl 29 m.cells (0, 0) _ K3 Try.underlying29 rfl (ninfo _) ?_) | (refine wpList_load_rowG (by rfl) 29 (.tmp 2) rfl w.heap.size rfl 29 n.cells (0, 0) _ G3 Try.underlying29 rfl (ninfo _) ?_) | (go_at_call 11; refine hs3.mono ?_; rintro e4 w4 ⟨rfl, hx4⟩; have X4 := Lib.hid (X3.out.tr hx4); clear hx4))
      clear hs3 K3 G3
      have hgb := nget_any B b cap w4 (HB.out.below X4.out) hcap
      refine hgb.mono ?_
      rintro e5 w5 ⟨m, code, rfl, hinm, hx5, _, hcase⟩
      obtain ⟨W5, hW5⟩ : ∃ W5, W5 = w5.alloc (.cells m.cells 29) := ⟨_, rfl⟩
      have hy5 : Ext w5 W5 := by rw [hW5]; exact Ext.alloc _ _
      have K5 : W5.heap[w5.heap.size]? = some (.cells m.cells 29 (0, 0)) := by rw [hW5]; exact heap_alloc_new w5 _
      have HW5 := Lib.hid (show w5.alloc (.cells m.cells 29) = W5 from hW5.symm)
      have X5 := Lib.hid (X4.out.tr (Ext.tr hx5 hy5))
      have M5 := Lib.hid (hinm.ext hy5)
      clear hW5 hinm hx5 hy5 hgb
      rcases hcase with ⟨rfl, hsay⟩ | ⟨hcz, hmz, _⟩
      · have hp5 := nput_any m W5 M5.out
        have Hsb := Lib.hid hsay
        clear hsay
        go_wp2_with (first | (refine wpList_store_row (by rfl) 29 (.tmp 9) (.tmp 49) rfl w5.heap.size m.cells rfl rfl 29 _ (heap_alloc_new w5 _) (ninfo _) (by rfl) (none1 _) ?_; rw [setRow_alloc, HW5.out]) | (go_at_call 10; refine (num08 _ _).mono ?_; rintro e w' ⟨rfl, rfl⟩) | (refine wpList_load_rowG (by rfl) 29 (.tmp 9) rfl w5.heap.size rfl 29 m.cells (0, 0) _ K5 Try.underlying29 rfl (ninfo _) ?_) | (go_at_call 9; refine Hid.out ?_))
        refine Lib.hid ?_
        refine hp5.mono ?_
        rintro e6 w6 ⟨r, A6, c6, hR, rfl, hrd, hrc, hx6⟩
        obtain ⟨h60, h61⟩ := Hsb.out.putR hR
        have hs6 := hR.says M5.out.plain h60
        obtain ⟨c, ec⟩ := r
        simp only at h60 h61 hs6 hrd hrc ⊢
        subst h60
        have Hs6 := Lib.hid hs6
        have H61 := Lib.hid h61
        have K6 := (hx6.block _ (lt_of_heap K5)).trans K5
        have X6 := Lib.hid (X5.out.tr hx6)
        have M6 := Lib.hid (M5.out.ext hx6)
        have Hrd6 := Lib.hid hrd
        have hg6 := nget_any A6 c c6 w6 hrd hrc
        clear hs6 h61 hx6 hR hp5 K5 hrd
        go_wp2_with (first | (go_at_call 13; refine Hid.out ?_))
        refine Lib.hid ?_
        refine hg6.mono ?_
        rintro e7 w7 ⟨k, code, rfl, hink, hx7, _, hcase⟩
        have hm : code = 0 ∧ k.x = m.x := by
          rcases hcase with ⟨h, hsm⟩ | ⟨_, _, hno⟩
          · exact ⟨h, hsm.uniq Hs6.out⟩
          · exact absurd Hs6.out (hno _)
        obtain ⟨rfl, hkx⟩ := hm
        obtain ⟨W7, hW7⟩ : ∃ W7, W7 = w7.alloc (.cells k.cells 29) := ⟨_, rfl⟩
        have hy7 : Ext w7 W7 := by rw [hW7]; exact Ext.alloc _ _
        have L7 : W7.heap[w7.heap.size]? = some (.cells k.cells 29 (0, 0)) := by rw [hW7]; exact heap_alloc_new w7 _
        have HW7 := Lib.hid (show w7.alloc (.cells k.cells 29) = W7 from hW7.symm)
        have hz7 := hx7.tr hy7
        have K7 := (hz7.block _ (lt_of_heap K6)).trans K6
        have hs7 := nsame_any m k W7 (M6.out.ext hz7) (hink.ext hy7)
        rw [hkx, (Nd.same_iff _ _).2 rfl] at hs7
        have K7' := Lib.hid K7
        have X7 := Lib.hid (X6.out.tr hz7)
        have Hr7 := Lib.hid (Hrd6.out.below hz7)
        clear hkx hcase hink hx7 hy7 hz7 hW7 hg6 K6
        go_wp2_with (first | (refine wpList_store_row (by rfl) 29 (.tmp 13) (.tmp 68) rfl w7.heap.size k.cells rfl rfl 29 _ (heap_alloc_new w7 _) (ninfo _) (by rfl) (none1 _) ?_; rw [setRow_alloc, HW7.out]) | (go_at_call 10; refine (num08 _ _).mono ?_; rintro e w' ⟨rfl, rfl⟩) | (refine wpList_load_rowG (by rfl) 29 (.tmp 9) rfl w5.heap.size rfl 29 m.cells (0, 0) _ K7 Try.underlying29 rfl (ninfo _) ?_) | (refine wpList_load_rowG (by rfl) 29 (.tmp 13) rfl w7.heap.size rfl 29 k.cells (0, 0) _ L7 Try.underlying29 rfl (ninfo _) ?_) | (go_at_call 11; refine Hid.out ?_))
        refine Lib.hid ?_
        refine hs7.mono ?_
        rintro e8 w8 ⟨rfl, hx8⟩
        have c8 : w8.cell? ⟨w5.heap.size, 0, none⟩ = some (.int .i64 m.kind) := by rw [row_cell ((hx8.block _ (lt_of_heap K7'.out)).trans K7'.out)]; rfl
        have X8 := Lib.hid (X7.out.tr hx8)
        have Hr8 := Lib.hid (Hr7.out.below hx8)
        clear hx8 hs7 K7 L7
        by_cases k3 : m.kind = 3
        · have k3b : (m.kind == 3) = true := by rw [beq_iff_eq]; exact k3
          clear k3
          go_wp2_with (go_at_call 7; refine (live08 _).mono ?_; rintro e9 w9 ⟨rfl, hx9⟩; have Hx9 : Hid (Ext _ w9) := Lib.hid hx9; clear hx9)
          go_ret
          exact ⟨rfl, X8.out.tr Hx9.out⟩
        · by_cases k2 : m.kind = 2
          · have k3b : (m.kind == 3) = false := by rw [beq_eq_false_iff_ne]; exact k3
            have k2b : (m.kind == 2) = true := by rw [beq_iff_eq]; exact k2
            clear k2 k3
            go_wp2_with (go_at_call 7; refine (live08 _).mono ?_; rintro e9 w9 ⟨rfl, hx9⟩; have Hx9 : Hid (Ext _ w9) := Lib.hid hx9; clear hx9)
            go_ret
            exact ⟨rfl, X8.out.tr Hx9.out⟩
          · have hcb : c = b := H61.out (by show Nd.hasC m.kind = false; simp [Nd.hasC, k2, k3])
            have k3b : (m.kind == 3) = false := by rw [beq_eq_false_iff_ne]; exact k3
            have k2b : (m.kind == 2) = false := by rw [beq_eq_false_iff_ne]; exact k2
            subst hcb
            have z1 := run_str w8 25 9 5 A6 c c6 Try.underlying25 Try.underlying5 Try.underlying9 Hr8.out c.length rfl
            have z2 := run_str w8 25 9 5 B c cap Try.underlying25 Try.underlying5 Try.underlying9 (HB.out.below X8.out) c.length rfl
            clear k2 k3
            go_wp2_with (go_at_call 7; refine (live08 _).mono ?_; rintro e9 w9 ⟨rfl, hx9⟩; have Hx9 : Hid (Ext _ w9) := Lib.hid hx9; clear hx9)
            go_ret
            exact ⟨rfl, X8.out.tr Hx9.out⟩
      · have hcz2 : ((code : Int) != 0) = true := by rw [bne_iff_ne]; omega
        have hs5 := nsame_any m NdV.zero W5 M5.out (NdV.zero_in _)
        rw [hmz, NdV.zero_x, (Nd.same_iff _ _).2 rfl] at hs5
        clear hcz hmz
        go_wp2_with (first | (refine wpList_store_row (by rfl) 29 (.tmp 9) (.tmp 49) rfl w5.heap.size m.cells rfl rfl 29 _ (heap_alloc_new w5 _) (ninfo _) (by rfl) (none1 _) ?_; rw [setRow_alloc, HW5.out]) | (go_at_call 10; refine (num08 _ _).mono ?_; rintro e w' ⟨rfl, rfl⟩) | (refine wpList_load_rowG (by rfl) 29 (.tmp 9) rfl w5.heap.size rfl 29 m.cells (0, 0) _ K5 Try.underlying29 rfl (ninfo _) ?_) | (go_at_call 11; refine hs5.mono ?_; rintro e6 w6 ⟨rfl, hx6⟩; have X6 := Lib.hid (X5.out.tr hx6); clear hx6) | (go_at_call 7; refine (live08 _).mono ?_; rintro e9 w9 ⟨rfl, hx9⟩; have Hx9 : Hid (Ext _ w9) := Lib.hid hx9; clear hx9))
        go_ret
        exact ⟨rfl, X6.out.tr Hx9.out⟩
    · have hea2 : ((ea : Int) == 0) = false := by rw [beq_eq_false_iff_ne]; omega
      have X4 := X2
      clear hea hrd hrc
      go_wp2_with (go_at_call 10; refine (num08 _ _).mono ?_; rintro e w' ⟨rfl, rfl⟩)
      have hgb := nget_any B b cap w2 (HB.out.below X4.out) hcap
      refine hgb.mono ?_
      rintro e5 w5 ⟨m, code, rfl, hinm, hx5, _, hcase⟩
      obtain ⟨W5, hW5⟩ : ∃ W5, W5 = w5.alloc (.cells m.cells 29) := ⟨_, rfl⟩
      have hy5 : Ext w5 W5 := by rw [hW5]; exact Ext.alloc _ _
      have K5 : W5.heap[w5.heap.size]? = some (.cells m.cells 29 (0, 0)) := by rw [hW5]; exact heap_alloc_new w5 _
      have HW5 := Lib.hid (show w5.alloc (.cells m.cells 29) = W5 from hW5.symm)
      have X5 := Lib.hid (X4.out.tr (Ext.tr hx5 hy5))
      have M5 := Lib.hid (hinm.ext hy5)
      clear hW5 hinm hx5 hy5 hgb
      rcases hcase with ⟨rfl, hsay⟩ | ⟨hcz, hmz, _⟩
      · have hp5 := nput_any m W5 M5.out
        have Hsb := Lib.hid hsay
        clear hsay
        go_wp2_with (first | (refine wpList_store_row (by rfl) 29 (.tmp 9) (.tmp 49) rfl w5.heap.size m.cells rfl rfl 29 _ (heap_alloc_new w5 _) (ninfo _) (by rfl) (none1 _) ?_; rw [setRow_alloc, HW5.out]) | (go_at_call 10; refine (num08 _ _).mono ?_; rintro e w' ⟨rfl, rfl⟩) | (refine wpList_load_rowG (by rfl) 29 (.tmp 9) rfl w5.heap.size rfl 29 m.cells (0, 0) _ K5 Try.underlying29 rfl (ninfo _) ?_) | (go_at_call 9; refine Hid.out ?_))
        refine Lib.hid ?_
        refine hp5.mono ?_
        rintro e6 w6 ⟨r, A6, c6, hR, rfl, hrd, hrc, hx6⟩
        obtain ⟨h60, h61⟩ := Hsb.out.putR hR
        have hs6 := hR.says M5.out.plain h60
        obtain ⟨c, ec⟩ := r
        simp only at h60 h61 hs6 hrd hrc ⊢
        subst h60
        have Hs6 := Lib.hid hs6
        have H61 := Lib.hid h61
        have K6 := (hx6.block _ (lt_of_heap K5)).trans K5
        have X6 := Lib.hid (X5.out.tr hx6)
        have M6 := Lib.hid (M5.out.ext hx6)
        have Hrd6 := Lib.hid hrd
        have hg6 := nget_any A6 c c6 w6 hrd hrc
        clear hs6 h61 hx6 hR hp5 K5 hrd
        go_wp2_with (first | (go_at_call 13; refine Hid.out ?_))
        refine Lib.hid ?_
        refine hg6.mono ?_
        rintro e7 w7 ⟨k, code, rfl, hink, hx7, _, hcase⟩
        have hm : code = 0 ∧ k.x = m.x := by
          rcases hcase with ⟨h, hsm⟩ | ⟨_, _, hno⟩
          · exact ⟨h, hsm.uniq Hs6.out⟩
          · exact absurd Hs6.out (hno _)
        obtain ⟨rfl, hkx⟩ := hm
        obtain ⟨W7, hW7⟩ : ∃ W7, W7 = w7.alloc (.cells k.cells 29) := ⟨_, rfl⟩
        have hy7 : Ext w7 W7 := by rw [hW7]; exact Ext.alloc _ _
        have L7 : W7.heap[w7.heap.size]? = some (.cells k.cells 29 (0, 0)) := by rw [hW7]; exact heap_alloc_new w7 _
        have HW7 := Lib.hid (show w7.alloc (.cells k.cells 29) = W7 from hW7.symm)
        have hz7 := hx7.tr hy7
        have K7 := (hz7.block _ (lt_of_heap K6)).trans K6
        have hs7 := nsame_any m k W7 (M6.out.ext hz7) (hink.ext hy7)
        rw [hkx, (Nd.same_iff _ _).2 rfl] at hs7
        have K7' := Lib.hid K7
        have X7 := Lib.hid (X6.out.tr hz7)
        have Hr7 := Lib.hid (Hrd6.out.below hz7)
        clear hkx hcase hink hx7 hy7 hz7 hW7 hg6 K6
        go_wp2_with (first | (refine wpList_store_row (by rfl) 29 (.tmp 13) (.tmp 68) rfl w7.heap.size k.cells rfl rfl 29 _ (heap_alloc_new w7 _) (ninfo _) (by rfl) (none1 _) ?_; rw [setRow_alloc, HW7.out]) | (go_at_call 10; refine (num08 _ _).mono ?_; rintro e w' ⟨rfl, rfl⟩) | (refine wpList_load_rowG (by rfl) 29 (.tmp 9) rfl w5.heap.size rfl 29 m.cells (0, 0) _ K7 Try.underlying29 rfl (ninfo _) ?_) | (refine wpList_load_rowG (by rfl) 29 (.tmp 13) rfl w7.heap.size rfl 29 k.cells (0, 0) _ L7 Try.underlying29 rfl (ninfo _) ?_) | (go_at_call 11; refine Hid.out ?_))
        refine Lib.hid ?_
        refine hs7.mono ?_
        rintro e8 w8 ⟨rfl, hx8⟩
        have c8 : w8.cell? ⟨w5.heap.size, 0, none⟩ = some (.int .i64 m.kind) := by rw [row_cell ((hx8.block _ (lt_of_heap K7'.out)).trans K7'.out)]; rfl
        have X8 := Lib.hid (X7.out.tr hx8)
        have Hr8 := Lib.hid (Hr7.out.below hx8)
        clear hx8 hs7 K7 L7
        by_cases k3 : m.kind = 3
        · have k3b : (m.kind == 3) = true := by rw [beq_iff_eq]; exact k3
          clear k3
          go_wp2_with (go_at_call 7; refine (live08 _).mono ?_; rintro e9 w9 ⟨rfl, hx9⟩; have Hx9 : Hid (Ext _ w9) := Lib.hid hx9; clear hx9)
          go_ret
          exact ⟨rfl, X8.out.tr Hx9.out⟩
        · by_cases k2 : m.kind = 2
          · have k3b : (m.kind == 3) = false := by rw [beq_eq_false_iff_ne]; exact k3
            have k2b : (m.kind == 2) = true := by rw [beq_iff_eq]; exact k2
            clear k2 k3
            go_wp2_with (go_at_call 7; refine (live08 _).mono ?_; rintro e9 w9 ⟨rfl, hx9⟩; have Hx9 : Hid (Ext _ w9) := Lib.hid hx9; clear hx9)
            go_ret
            exact ⟨rfl, X8.out.tr Hx9.out⟩
          · have hcb : c = b := H61.out (by show Nd.hasC m.kind = false; simp [Nd.hasC, k2, k3])
            have k3b : (m.kind == 3) = false := by rw [beq_eq_false_iff_ne]; exact k3
            have k2b : (m.kind == 2) = false := by rw [beq_eq_false_iff_ne]; exact k2
            subst hcb
            have z1 := run_str w8 25 9 5 A6 c c6 Try.underlying25 Try.underlying5 Try.underlying9 Hr8.out c.length rfl
            have z2 := run_str w8 25 9 5 B c cap Try.underlying25 Try.underlying5 Try.underlying9 (HB.out.below X8.out) c.length rfl
            clear k2 k3
            go_wp2_with (go_at_call 7; refine (live08 _).mono ?_; rintro e9 w9 ⟨rfl, hx9⟩; have Hx9 : Hid (Ext _ w9) := Lib.hid hx9; clear hx9)
            go_ret
            exact ⟨rfl, X8.out.tr Hx9.out⟩
      · have hcz2 : ((code : Int) != 0) = true := by rw [bne_iff_ne]; omega
        have hs5 := nsame_any m NdV.zero W5 M5.out (NdV.zero_in _)
        rw [hmz, NdV.zero_x, (Nd.same_iff _ _).2 rfl] at hs5
        clear hcz hmz
        go_wp2_with (first | (refine wpList_store_row (by rfl) 29 (.tmp 9) (.tmp 49) rfl w5.heap.size m.cells rfl rfl 29 _ (heap_alloc_new w5 _) (ninfo _) (by rfl) (none1 _) ?_; rw [setRow_alloc, HW5.out]) | (go_at_call 10; refine (num08 _ _).mono ?_; rintro e w' ⟨rfl, rfl⟩) | (refine wpList_load_rowG (by rfl) 29 (.tmp 9) rfl w5.heap.size rfl 29 m.cells (0, 0) _ K5 Try.underlying29 rfl (ninfo _) ?_) | (go_at_call 11; refine hs5.mono ?_; rintro e6 w6 ⟨rfl, hx6⟩; have X6 := Lib.hid (X5.out.tr hx6); clear hx6) | (go_at_call 7; refine (live08 _).mono ?_; rintro e9 w9 ⟨rfl, hx9⟩; have Hx9 : Hid (Ext _ w9) := Lib.hid hx9; clear hx9))
        go_ret
        exact ⟨rfl, X6.out.tr Hx9.out⟩
end Go.Proofs.Ytkpagmfaccmiaaa
