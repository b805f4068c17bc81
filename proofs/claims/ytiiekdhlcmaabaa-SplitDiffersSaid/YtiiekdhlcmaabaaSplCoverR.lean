
/- Contract: whether parts are a range, the document's (scowref18.Cover). Printed by wip/tools/gen_cover18.py. -/

import Derived.Test.YtiiekdhlcmaabaaSplCover

import Derived.Test.YtiiekdhlcmaabaaEntIn

namespace Go.Proofs.Ytiiekdhlcmaabaa

open Go.RowKit

attribute [local go_sem] Oper.semAt_some

/-- The document's way to say it. -/
def Spl.Q (lo hi : List UInt8) (ps : List Pt) (k : Nat) : Prop := (Spl.at_ ps k).lo = (if k = 0 then lo else (Spl.at_ ps (k - 1)).hi) ∧ (k + 1 = ps.length → (Spl.at_ ps k).hi = hi) ∧ (k + 1 < ps.length → (Spl.at_ ps k).hi ≠ []) ∧ ((Spl.at_ ps k).hi ≠ [] → ltB (Spl.at_ ps k).lo (Spl.at_ ps k).hi = true)
theorem Spl.Cov.q {lo hi : List UInt8} {ps : List Pt} (h : Spl.Cov lo hi ps) (k : Nat) (hk : k < ps.length) : Spl.Q lo hi ps k := by
  refine ⟨?_, fun e => ?_, (h.each k hk).1, (h.each k hk).2.1⟩
  · by_cases h0 : k = 0
    · rw [if_pos h0, h0]; exact h.first
    · rw [if_neg h0]
      have := (h.each (k - 1) (by omega)).2.2 (by omega)
      rw [this, show k - 1 + 1 = k by omega]
  · have := h.last
    rwa [show ps.length - 1 = k by omega] at this
theorem Spl.cov_of {lo hi : List UInt8} {ps : List Pt} (h0 : 0 < ps.length) (h : ∀ k, k < ps.length → Spl.Q lo hi ps k) : Spl.Cov lo hi ps := by
  refine ⟨h0, by simpa using (h 0 h0).1, (h (ps.length - 1) (by omega)).2.1 (by omega), fun k hk => ⟨(h k hk).2.2.1, (h k hk).2.2.2, fun h2 => ?_⟩⟩
  have := (h (k + 1) h2).1
  rw [if_neg (by omega)] at this
  rw [this]; rfl

set_option maxRecDepth 100000 in
set_option maxHeartbeats 4000000 in
theorem ref_cover (L H B : Option Addr) (lo hi : List UInt8) (cl ch : Nat) (T : List PtV) (d : Nat) (w : World) (hL : RdB w L lo) (hH : RdB w H hi) (hT : RdP w B T) (hc : T.length ≤ 1000000) :
    Calls Try.prog 18 #[.slice L lo.length cl, .slice H hi.length ch, .slice B T.length d] w (CovPost lo hi (T.map PtV.x) w) := by
  obtain ⟨ps, hps0⟩ : ∃ ps, ps = T.map PtV.x := ⟨_, rfl⟩
  have hml : ps.length = T.length := by rw [hps0]; simp
  have hat : ∀ k (h : k < T.length), Spl.at_ ps k = T[k].x := fun k h => by rw [hps0]; exact Spl.at_map T k h
  rw [← hps0]
  have Hml := Lib.hid hml
  have Hat := Lib.hid hat
  clear hps0 hml hat
  have z0 := run_str w 23 9 5 L lo cl Try.underlying23 Try.underlying5 Try.underlying9 hL lo.length rfl
  go_enter Try.func18, Try.ntmps18
  go_wp2_with fail
  clear z0
  go_loopw [7, 8] (fun v i wr => ∃ (k : Nat) (a : List UInt8), k ≤ T.length ∧ i = .int .i64 k ∧ v = .string ⟨a.toArray⟩ ∧ a = (if k = 0 then lo else (Spl.at_ ps (k - 1)).hi) ∧ (∀ r, r < k → Spl.Q lo hi ps r) ∧ Below w.heap.size w wr) (fun _ i _ => T.length - (intOf i).toNat)
  case atStart => exact ⟨0, lo, by omega, rfl, rfl, rfl, fun r h => absurd h (by omega), Below.refl _ _⟩
  case round =>
    obtain ⟨k, a, hk, rfl, rfl, hat2, hpre, hbw⟩ := hrel
    have Hpre := Lib.hid hpre
    have Hat2 := Lib.hid hat2
    clear hpre hat2
    by_cases h' : k < T.length
    · obtain ⟨ad, rfl, hcx, hin⟩ := (hT.below hbw).at_ h'
      have ak := Hat.out k h'
      obtain ⟨p, hp⟩ : ∃ p, p = T[k] := ⟨_, rfl⟩
      rw [← hp] at hcx hin ak
      have hpsm := hin.sum
      have Hcx := Lib.hid hcx
      have AK := Lib.hid ak
      have hxa := Ext.alloc wr (.cells p.cells 33)
      have g1 := heap_alloc_new wr (.cells p.cells 33)
      have hxw : Below w.heap.size w (wr.alloc (.cells p.cells 33)) := hbw.trans (hxa.mono hbw.size)
      have c0 : (wr.alloc (.cells p.cells 33)).cell? ⟨wr.heap.size, 0, none⟩ = some (.slice p.la p.x.lo.length p.lc) := (cell_of_row _ _ 0 _ _ _ g1).trans (pc0 p)
      have c1 : (wr.alloc (.cells p.cells 33)).cell? ⟨wr.heap.size, 1, none⟩ = some (.slice p.ha p.x.hi.length p.hc) := (cell_of_row _ _ 1 _ _ _ g1).trans (pc1 p)
      have hin1 := hin.below hxa
      have hH1 := hH.below hxw
      have z0 := run_str (wr.alloc (.cells p.cells 33)) 23 9 5 p.la p.x.lo p.lc Try.underlying23 Try.underlying5 Try.underlying9 hin1.lr p.x.lo.length rfl
      have ik : (0 : Int) ≤ (k : Int) := by omega
      have ik2 : (k : Int) < (T.length : Int) := by omega
      clear hcx ak hp hin hxa g1
      by_cases hlo : p.x.lo = a
      · subst hlo
        by_cases hla : k + 1 = T.length
        · have hli : ((k : Int) + 1 == (T.length : Int)) = true := by rw [beq_iff_eq]; omega
          have Hla := Lib.hid hla
          clear hla
          by_cases hhi : p.x.hi = hi
          · by_cases hop : p.x.hi.length = 0
            · have hopen := List.eq_nil_of_length_eq_zero hop
              have hgz : ¬ 0 < p.x.hi.length := by omega
              have hyes : Spl.Q lo hi ps k := by
                exact ⟨by rw [AK.out]; exact Hat2.out, fun _ => by rw [AK.out]; exact hhi, fun h => absurd h (by rw [Hml.out, Hla.out]; omega), fun h => absurd (by rw [AK.out]; exact hopen) h⟩
              have Hyes := Lib.hid hyes
              clear hyes
              have Hhi := Lib.hid hhi
              clear hop hopen
              subst hhi
              have z1 := run_str (wr.alloc (.cells p.cells 33)) 23 9 5 p.ha p.x.hi p.hc Try.underlying23 Try.underlying5 Try.underlying9 hin1.hr p.x.hi.length rfl
              have z2 := run_str (wr.alloc (.cells p.cells 33)) 23 9 5 H p.x.hi ch Try.underlying23 Try.underlying5 Try.underlying9 hH1 p.x.hi.length rfl
              go_wp2_with (first | (have hcx := Hcx.out; refine wpList_load_cells (by rfl) 33 (.tmp 21) rfl _ rfl p.cells _ hcx Try.underlying33 rfl (pinfo hpsm) ?_; clear hcx) | (refine wpList_store_row rfl 33 (.tmp 9) (.tmp 22) rfl wr.heap.size p.cells rfl rfl 33 _ (heap_alloc_new wr _) (pinfo hpsm) (by rw [psize hpsm]; rfl) (pone p) ?_; rw [setRow_alloc]; refine Hid.out ?_))
              refine Lib.hid ?_
              go_wp2_with fail
              go_roundw
              case rel => exact ⟨k + 1, p.x.hi, by omega, by go_num, rfl, (by rw [if_neg (by omega), Nat.add_sub_cancel, AK.out]), fun r hr => (by
                by_cases hrk : r = k
                · subst hrk; exact Hyes.out
                · exact Hpre.out r (by omega)), hxw⟩
              case measure => simp [intOf]; omega
            · have hopen : p.x.hi ≠ [] := fun e => hop (by rw [e]; rfl)
              have hgz : 0 < p.x.hi.length := by omega
              cases hlt : ltB p.x.lo p.x.hi with
              | false =>
                have hno : ¬ Spl.Q lo hi ps k := by
                  intro h
                  have h2 := h.2.2.2 (by rw [AK.out]; exact hopen)
                  rw [AK.out, hlt] at h2
                  cases h2
                have Hno := Lib.hid hno
                clear hno
                have hor : Op.bytesLess p.x.hi p.x.lo = true ∨ (Op.bytesLess p.x.hi p.x.lo = false ∧ (p.x.hi == p.x.lo) = true) := by
                  rw [less_ltB]
                  rcases ltB_tri p.x.lo p.x.hi with h1 | h1 | h1
                  · rw [h1] at hlt; cases hlt
                  · exact .inr ⟨by rw [h1]; exact ltB_irrefl _, by rw [h1]; simp⟩
                  · exact .inl h1
                clear hop hopen hlt
                subst hhi
                have z1 := run_str (wr.alloc (.cells p.cells 33)) 23 9 5 p.ha p.x.hi p.hc Try.underlying23 Try.underlying5 Try.underlying9 hin1.hr p.x.hi.length rfl
                have z2 := run_str (wr.alloc (.cells p.cells 33)) 23 9 5 H p.x.hi ch Try.underlying23 Try.underlying5 Try.underlying9 hH1 p.x.hi.length rfl
                rcases hor with hb1 | ⟨hb1, hb2⟩
                · go_wp2_with (first | (have hcx := Hcx.out; refine wpList_load_cells (by rfl) 33 (.tmp 21) rfl _ rfl p.cells _ hcx Try.underlying33 rfl (pinfo hpsm) ?_; clear hcx) | (refine wpList_store_row rfl 33 (.tmp 9) (.tmp 22) rfl wr.heap.size p.cells rfl rfl 33 _ (heap_alloc_new wr _) (pinfo hpsm) (by rw [psize hpsm]; rfl) (pone p) ?_; rw [setRow_alloc]; refine Hid.out ?_))
                  refine Lib.hid ?_
                  go_wp2_with fail
                  go_ret
                  exact ⟨false, rfl, ⟨fun h => (by cases h), fun h => absurd (h.q k (by rw [Hml.out]; exact h')) Hno.out⟩, hxw⟩
                · go_wp2_with (first | (have hcx := Hcx.out; refine wpList_load_cells (by rfl) 33 (.tmp 21) rfl _ rfl p.cells _ hcx Try.underlying33 rfl (pinfo hpsm) ?_; clear hcx) | (refine wpList_store_row rfl 33 (.tmp 9) (.tmp 22) rfl wr.heap.size p.cells rfl rfl 33 _ (heap_alloc_new wr _) (pinfo hpsm) (by rw [psize hpsm]; rfl) (pone p) ?_; rw [setRow_alloc]; refine Hid.out ?_))
                  refine Lib.hid ?_
                  go_wp2_with fail
                  go_ret
                  exact ⟨false, rfl, ⟨fun h => (by cases h), fun h => absurd (h.q k (by rw [Hml.out]; exact h')) Hno.out⟩, hxw⟩
              | true =>
                have hyes : Spl.Q lo hi ps k := by
                  exact ⟨by rw [AK.out]; exact Hat2.out, fun _ => by rw [AK.out]; exact hhi, fun h => absurd h (by rw [Hml.out, Hla.out]; omega), fun _ => by rw [AK.out]; exact hlt⟩
                have Hyes := Lib.hid hyes
                clear hyes
                have hb1 : Op.bytesLess p.x.hi p.x.lo = false := by rw [less_ltB]; exact ltB_asymm hlt
                have hb2 : (p.x.hi == p.x.lo) = false := by
                  rw [beq_eq_false_iff_ne]; intro e; rw [e, ltB_irrefl] at hlt; cases hlt
                clear hop hopen hlt
                subst hhi
                have z1 := run_str (wr.alloc (.cells p.cells 33)) 23 9 5 p.ha p.x.hi p.hc Try.underlying23 Try.underlying5 Try.underlying9 hin1.hr p.x.hi.length rfl
                have z2 := run_str (wr.alloc (.cells p.cells 33)) 23 9 5 H p.x.hi ch Try.underlying23 Try.underlying5 Try.underlying9 hH1 p.x.hi.length rfl
                go_wp2_with (first | (have hcx := Hcx.out; refine wpList_load_cells (by rfl) 33 (.tmp 21) rfl _ rfl p.cells _ hcx Try.underlying33 rfl (pinfo hpsm) ?_; clear hcx) | (refine wpList_store_row rfl 33 (.tmp 9) (.tmp 22) rfl wr.heap.size p.cells rfl rfl 33 _ (heap_alloc_new wr _) (pinfo hpsm) (by rw [psize hpsm]; rfl) (pone p) ?_; rw [setRow_alloc]; refine Hid.out ?_))
                refine Lib.hid ?_
                go_wp2_with fail
                go_roundw
                case rel => exact ⟨k + 1, p.x.hi, by omega, by go_num, rfl, (by rw [if_neg (by omega), Nat.add_sub_cancel, AK.out]), fun r hr => (by
                  by_cases hrk : r = k
                  · subst hrk; exact Hyes.out
                  · exact Hpre.out r (by omega)), hxw⟩
                case measure => simp [intOf]; omega
          · have Hhi := Lib.hid hhi
            have hno : ¬ Spl.Q lo hi ps k := by
              intro h
              have h2 := h.2.1 (by rw [Hml.out]; exact Hla.out)
              rw [AK.out] at h2
              exact Hhi.out h2
            have Hno := Lib.hid hno
            clear hno
            have z1 := run_str (wr.alloc (.cells p.cells 33)) 23 9 5 p.ha p.x.hi p.hc Try.underlying23 Try.underlying5 Try.underlying9 hin1.hr p.x.hi.length rfl
            have z2 := run_str (wr.alloc (.cells p.cells 33)) 23 9 5 H hi ch Try.underlying23 Try.underlying5 Try.underlying9 hH1 hi.length rfl
            go_wp2_with (first | (have hcx := Hcx.out; refine wpList_load_cells (by rfl) 33 (.tmp 21) rfl _ rfl p.cells _ hcx Try.underlying33 rfl (pinfo hpsm) ?_; clear hcx) | (refine wpList_store_row rfl 33 (.tmp 9) (.tmp 22) rfl wr.heap.size p.cells rfl rfl 33 _ (heap_alloc_new wr _) (pinfo hpsm) (by rw [psize hpsm]; rfl) (pone p) ?_; rw [setRow_alloc]; refine Hid.out ?_))
            refine Lib.hid ?_
            go_wp2_with fail
            go_ret
            exact ⟨false, rfl, ⟨fun h => (by cases h), fun h => absurd (h.q k (by rw [Hml.out]; exact h')) Hno.out⟩, hxw⟩
        · have hli : ((k : Int) + 1 == (T.length : Int)) = false := by rw [beq_eq_false_iff_ne]; omega
          have Hla := Lib.hid hla
          clear hla
          by_cases hop : p.x.hi.length = 0
          · have hopen := List.eq_nil_of_length_eq_zero hop
            have hoi : ((p.x.hi.length : Int) == 0) = true := by rw [beq_iff_eq]; omega
            have hno : ¬ Spl.Q lo hi ps k := by
              have hl := Hla.out
              exact fun h => h.2.2.1 (by rw [Hml.out]; omega) (by rw [AK.out]; exact hopen)
            have Hno := Lib.hid hno
            clear hno
            clear hop hopen
            have z1 := run_str (wr.alloc (.cells p.cells 33)) 23 9 5 p.ha p.x.hi p.hc Try.underlying23 Try.underlying5 Try.underlying9 hin1.hr p.x.hi.length rfl
            go_wp2_with (first | (have hcx := Hcx.out; refine wpList_load_cells (by rfl) 33 (.tmp 21) rfl _ rfl p.cells _ hcx Try.underlying33 rfl (pinfo hpsm) ?_; clear hcx) | (refine wpList_store_row rfl 33 (.tmp 9) (.tmp 22) rfl wr.heap.size p.cells rfl rfl 33 _ (heap_alloc_new wr _) (pinfo hpsm) (by rw [psize hpsm]; rfl) (pone p) ?_; rw [setRow_alloc]; refine Hid.out ?_))
            refine Lib.hid ?_
            go_wp2_with fail
            go_ret
            exact ⟨false, rfl, ⟨fun h => (by cases h), fun h => absurd (h.q k (by rw [Hml.out]; exact h')) Hno.out⟩, hxw⟩
          · have hopen : p.x.hi ≠ [] := fun e => hop (by rw [e]; rfl)
            have hgz : 0 < p.x.hi.length := by omega
            have hoi : ((p.x.hi.length : Int) == 0) = false := by rw [beq_eq_false_iff_ne]; omega
            cases hlt : ltB p.x.lo p.x.hi with
            | false =>
              have hno : ¬ Spl.Q lo hi ps k := by
                intro h
                have h2 := h.2.2.2 (by rw [AK.out]; exact hopen)
                rw [AK.out, hlt] at h2
                cases h2
              have Hno := Lib.hid hno
              clear hno
              have hor : Op.bytesLess p.x.hi p.x.lo = true ∨ (Op.bytesLess p.x.hi p.x.lo = false ∧ (p.x.hi == p.x.lo) = true) := by
                rw [less_ltB]
                rcases ltB_tri p.x.lo p.x.hi with h1 | h1 | h1
                · rw [h1] at hlt; cases hlt
                · exact .inr ⟨by rw [h1]; exact ltB_irrefl _, by rw [h1]; simp⟩
                · exact .inl h1
              clear hop hopen hlt
              have z1 := run_str (wr.alloc (.cells p.cells 33)) 23 9 5 p.ha p.x.hi p.hc Try.underlying23 Try.underlying5 Try.underlying9 hin1.hr p.x.hi.length rfl
              rcases hor with hb1 | ⟨hb1, hb2⟩
              · go_wp2_with (first | (have hcx := Hcx.out; refine wpList_load_cells (by rfl) 33 (.tmp 21) rfl _ rfl p.cells _ hcx Try.underlying33 rfl (pinfo hpsm) ?_; clear hcx) | (refine wpList_store_row rfl 33 (.tmp 9) (.tmp 22) rfl wr.heap.size p.cells rfl rfl 33 _ (heap_alloc_new wr _) (pinfo hpsm) (by rw [psize hpsm]; rfl) (pone p) ?_; rw [setRow_alloc]; refine Hid.out ?_))
                refine Lib.hid ?_
                go_wp2_with fail
                go_ret
                exact ⟨false, rfl, ⟨fun h => (by cases h), fun h => absurd (h.q k (by rw [Hml.out]; exact h')) Hno.out⟩, hxw⟩
              · go_wp2_with (first | (have hcx := Hcx.out; refine wpList_load_cells (by rfl) 33 (.tmp 21) rfl _ rfl p.cells _ hcx Try.underlying33 rfl (pinfo hpsm) ?_; clear hcx) | (refine wpList_store_row rfl 33 (.tmp 9) (.tmp 22) rfl wr.heap.size p.cells rfl rfl 33 _ (heap_alloc_new wr _) (pinfo hpsm) (by rw [psize hpsm]; rfl) (pone p) ?_; rw [setRow_alloc]; refine Hid.out ?_))
                refine Lib.hid ?_
                go_wp2_with fail
                go_ret
                exact ⟨false, rfl, ⟨fun h => (by cases h), fun h => absurd (h.q k (by rw [Hml.out]; exact h')) Hno.out⟩, hxw⟩
            | true =>
              have hyes : Spl.Q lo hi ps k := by
                have hl := Hla.out
                exact ⟨by rw [AK.out]; exact Hat2.out, fun h => absurd h (by rw [Hml.out]; exact hl), fun _ => by rw [AK.out]; exact hopen, fun _ => by rw [AK.out]; exact hlt⟩
              have Hyes := Lib.hid hyes
              clear hyes
              have hb1 : Op.bytesLess p.x.hi p.x.lo = false := by rw [less_ltB]; exact ltB_asymm hlt
              have hb2 : (p.x.hi == p.x.lo) = false := by
                rw [beq_eq_false_iff_ne]; intro e; rw [e, ltB_irrefl] at hlt; cases hlt
              clear hop hopen hlt
              have z1 := run_str (wr.alloc (.cells p.cells 33)) 23 9 5 p.ha p.x.hi p.hc Try.underlying23 Try.underlying5 Try.underlying9 hin1.hr p.x.hi.length rfl
              go_wp2_with (first | (have hcx := Hcx.out; refine wpList_load_cells (by rfl) 33 (.tmp 21) rfl _ rfl p.cells _ hcx Try.underlying33 rfl (pinfo hpsm) ?_; clear hcx) | (refine wpList_store_row rfl 33 (.tmp 9) (.tmp 22) rfl wr.heap.size p.cells rfl rfl 33 _ (heap_alloc_new wr _) (pinfo hpsm) (by rw [psize hpsm]; rfl) (pone p) ?_; rw [setRow_alloc]; refine Hid.out ?_))
              refine Lib.hid ?_
              go_wp2_with fail
              go_roundw
              case rel => exact ⟨k + 1, p.x.hi, by omega, by go_num, rfl, (by rw [if_neg (by omega), Nat.add_sub_cancel, AK.out]), fun r hr => (by
                by_cases hrk : r = k
                · subst hrk; exact Hyes.out
                · exact Hpre.out r (by omega)), hxw⟩
              case measure => simp [intOf]; omega
      · have Hlo := Lib.hid hlo
        have hno : ¬ Spl.Q lo hi ps k := by
          intro h
          have h2 := h.1
          rw [AK.out, ← Hat2.out] at h2
          exact Hlo.out h2
        have Hno := Lib.hid hno
        clear hno
        go_wp2_with (first | (have hcx := Hcx.out; refine wpList_load_cells (by rfl) 33 (.tmp 21) rfl _ rfl p.cells _ hcx Try.underlying33 rfl (pinfo hpsm) ?_; clear hcx) | (refine wpList_store_row rfl 33 (.tmp 9) (.tmp 22) rfl wr.heap.size p.cells rfl rfl 33 _ (heap_alloc_new wr _) (pinfo hpsm) (by rw [psize hpsm]; rfl) (pone p) ?_; rw [setRow_alloc]; refine Hid.out ?_))
        refine Lib.hid ?_
        go_wp2_with fail
        go_ret
        exact ⟨false, rfl, ⟨fun h => (by cases h), fun h => absurd (h.q k (by rw [Hml.out]; exact h')) Hno.out⟩, hxw⟩
    · have hkT : k = T.length := by omega
      by_cases h0 : 0 < T.length
      · go_wp2
        go_ret
        exact ⟨true, rfl, ⟨fun _ => Spl.cov_of (by rw [Hml.out]; exact h0) fun r hr => Hpre.out r (by rw [hkT, ← Hml.out]; exact hr), fun _ => rfl⟩, hbw⟩
      · go_wp2
        go_ret
        exact ⟨false, rfl, ⟨fun h => (by cases h), fun h => absurd h.pos (by rw [Hml.out]; exact h0)⟩, hbw⟩
end Go.Proofs.Ytiiekdhlcmaabaa
