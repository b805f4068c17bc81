
/- Contract of scowref14.Scan. Printed by wip/tools/gen_scan14.py. -/

import Derived.Test.YtpabbackiobefaaFrmScan

import Derived.Test.YtpabbackiobefaaFrmRRec

namespace Go.Proofs.Ytpabbackiobefaa

open Go.RowKit

attribute [local go_sem] Oper.semAt_some

set_option maxRecDepth 100000 in
set_option maxHeartbeats 4000000 in
theorem ref_scan14 (A : Option Addr) (l : List Sl) (c : Nat) (w : World) (hl : RdLc w A l) (hll : l.length ≤ 4000) :
    Calls Try.prog 18 #[.slice A l.length c] w (ScanPost l w) := by
  by_cases h0 : l.length = 0
  · have hl0 : l = [] := List.eq_nil_of_length_eq_zero h0
    subst hl0
    go_enter Try.func18, Try.ntmps18
    go_wp2
    refine bodyPost_ret (results_tmp4 rfl _ _ _) rfl ?_
    exact .inl ⟨fun h => absurd h (by simp), rfl, Below.refl _ _⟩
  · have hpos : 0 < l.length := by omega
    obtain ⟨ad, hA, hcell, hin⟩ := hl.rd.at_ hpos
    subst hA
    have hc0 := hl.cap l[0] (List.getElem_mem hpos)
    have hep := ref_epoch14 l[0].a l[0].bs l[0].c w hin hc0
    have i1 : (0 : Int) < (l.length : Int) := by omega
    have i2 : ((l.length : Int) == 0) = false := by rw [beq_eq_false_iff_ne]; omega
    have i3 : decide ((l.length : Int) < 1) = false := by simp; omega
    obtain ⟨x, hx⟩ : ∃ x, x = l[0] := ⟨_, rfl⟩
    rw [← hx] at hep hcell hc0 hin
    obtain ⟨e, er, he⟩ : ∃ e er, Frm.epoch x.bs = (e, er) := ⟨_, _, rfl⟩
    unfold epochRes at hep
    rw [he] at hep
    simp only at hep
    have Hep := Lib.hid hep
    have hcell0 : w.cell? ad = some (.slice x.a x.bs.length x.c) := by
      have h1 := hcell
      rwa [show ad.add 0 = ad from rfl] at h1
    have he64 : e < 18446744073709551616 := by
      have h1 := he
      unfold Frm.epoch at h1
      split at h1
      · injection h1 with h1 _; rw [← h1]; exact Vint.number_lt _
      · injection h1 with h1 _; omega
    have He64 := Lib.hid he64
    clear he64
    have He := Lib.hid he
    have Hx := Lib.hid hx
    by_cases her : er = 0
    · subst her
      have hex : ∃ h : 0 < l.length, Frm.epoch l[0].bs = (e, 0) := ⟨hpos, by rw [← Hx.out]; exact He.out⟩
      have Hex := Lib.hid hex
      clear he hep hx hin hex hcell
      go_enter Try.func18, Try.ntmps18
      go_wp2_with fail
      refine Hep.out.mono ?_
      rintro r w1 ⟨rfl, hb1⟩
      clear hcell0
      go_wp2_with fail
      go_loopw [8, 9, 10, 11, 12] (fun o i _ _ _ wr => ∃ (a : Nat) (L : List Sl) (A' : Option Addr) (c' : Nat), a ≤ l.length ∧ i = .int .i64 (a : Int) ∧ o = .slice A' L.length c' ∧ (∀ cs f, Frm.Scans (bsL l) e a cs f → Frm.Scans (bsL l) e 1 (L.map Sl.bs ++ cs) f) ∧ L.length < a ∧ Own wr w.heap.size 23 1 A' L.length c' (L.map Sl.val) ∧ (∀ s ∈ L, OwnS w.heap.size wr s) ∧ Below w.heap.size w wr) (fun _ i _ _ _ _ => l.length + 1 - (intOf i).toNat)
      case atStart => exact ⟨1, [], none, 0, by omega, rfl, rfl, fun cs f h => h, by simp, Own.none_ _ _ _ _ _, by simp, hb1⟩
      case round =>
        obtain ⟨a, L, A', c', ha, rfl, rfl, hsc, hLa, hown, hins, hbw⟩ := hrel
        have hr := ref_record14 (some ad) l c e a wr He64.out (hl.below hbw) hll (by omega) (by omega)
        have Hr := Lib.hid hr
        have Hsc := Lib.hid hsc
        have Hins := Lib.hid hins
        clear hsc hr hins hb1
        go_wp2_with fail
        refine Hr.out.mono ?_
        clear Hr
        rintro r w2 (⟨g, A2, c2, hS, rfl, ho2, hb2⟩ | ⟨hno, rfl, hb2⟩)
        · have hst := hS.st (Frm.need g.length - 1) (by have := Frm.need_pos g.length; omega)
          have hlt := Frm.stmp_lt hst
          rw [bsL_len] at hlt
          have hnp := Frm.need_pos g.length
          have Hsc2 : Hid (∀ cs f, Frm.Scans (bsL l) e (a + Frm.need g.length) cs f → Frm.Scans (bsL l) e 1 (L.map Sl.bs ++ g :: cs) f) := fun cs f h => Hsc.out _ _ (.go a g cs f hS h)
          obtain ⟨s, hs⟩ : ∃ s : Sl, s = ⟨A2, g, c2⟩ := ⟨_, rfl⟩
          obtain ⟨gn, hgn⟩ : ∃ gn, gn = g.length := ⟨_, rfl⟩
          obtain ⟨k, hk⟩ : ∃ k, k = Frm.need g.length := ⟨_, rfl⟩
          have hsv : s.val = .slice A2 gn c2 := by rw [hs, hgn]; rfl
          have hso : OwnS w.heap.size w2 s := by rw [hs]; exact ho2.mono hbw.size
          have hsb : s.bs = g := by rw [hs]
          have hown2 := hown.below hb2
          have hbw2 := hbw.trans (hb2.mono hbw.size)
          rw [← hk, ← hgn]
          rw [← hk] at hlt hnp Hsc2
          have hown3 := hown2.below (Ext.alloc w2 (.cells #[.slice A2 gn c2] 23))
          have hbw3 := hbw2.trans ((Ext.alloc w2 (.cells #[.slice A2 gn c2] 23)).mono hbw2.size)
          have hrd3 : Rd (w2.alloc (.cells #[.slice A2 gn c2] 23)) 1 (some ⟨w2.heap.size, 0, none⟩) 1 [s.val] := by rw [hsv]; exact Rd.new w2 23 [.slice A2 gn c2]
          have Hmv : Hid ((L ++ [s]).map Sl.val = L.map Sl.val ++ [s.val]) := by show _ = _; simp
          have Hone : Hid (∀ u ∈ [s.val], u.oneCell' = true) := fun u hu => by rw [List.mem_singleton.1 hu, hsv]; rfl
          have Hins2 : Hid (∀ t ∈ L ++ [s], OwnS w.heap.size (w2.alloc (.cells #[.slice A2 gn c2] 23)) t) := fun t ht => by
            rcases List.mem_append.1 ht with h | h
            · exact ((Hins.out t h).below hb2).below (Ext.alloc w2 _)
            · rw [List.mem_singleton] at h; subst h; exact Own.below hso (Ext.alloc w2 _)
          have Hsb := Lib.hid hsb
          have Htyp := Lib.hid (own_typ hown3)
          have Hrow := Lib.hid hown3.row_lt
          have hsz3 := hbw3.size
          clear hS hst ho2 hs hgn hk hsv hso hsb hown hown2 hbw hbw2 hb2
          go_wp2_with (at_builtin; refine wpList_app rfl (.tmp 36) (.tmp 38) 25 rfl elemSl w.heap.size A' L.length c' (L.map Sl.val) rfl _ 1 1 [s.val] rfl (L.length + 1) rfl ((L ++ [s]).map Sl.val) Hmv.out hown3 hrd3 Hone.out (by omega) (by omega) hsz3 ?_; intro A6 c6 w6 ho6 hg6 hr6)
          go_roundw
          case rel => exact ⟨a + k, L ++ [s], A6, c6, by omega, by go_num, by simp, fun cs f h => by rw [List.map_append, List.append_assoc]; simp only [List.map_cons, List.map_nil, List.singleton_append, Hsb.out]; exact Hsc2.out cs f h, by simp; omega, by simpa using ho6, fun t ht => OwnS.kept (Hins2.out t ht) hg6 (fun r hr9 => .inr (fun cur fr h9 => by
            obtain ⟨cur', h'⟩ := Htyp.out r hr9
            rw [h'] at h9
            injection h9 with h9
            injection h9 with _ h9 _
            exact absurd h9 (by decide))), hbw3.grown hg6 hbw3.size (fun k9 e9 => (Hrow.out k9 e9).1)⟩
          case measure => simp [intOf]; omega
        · have Hfin : Hid (Frm.Scans (bsL l) e 1 (L.map Sl.bs) a) := by
            have := Hsc.out [] a (.stop a hno)
            rwa [List.append_nil] at this
          have hown2 := hown.below hb2
          have hbw2 := hbw.trans (hb2.mono hbw.size)
          have Hins2 : Hid (∀ t ∈ L, OwnS w.heap.size w2 t) := fun t ht => (Hins.out t ht).below hb2
          clear hno hown hbw hb2
          go_wp2
          refine bodyPost_ret (results_tmp4 rfl _ _ _) rfl ?_
          exact .inr ⟨e, a, L, A', c', Hex.out, Hfin.out, rfl, hown2, Hins2.out, hbw2⟩
    · have hex : ∀ h : 0 < l.length, (Frm.epoch l[0].bs).2 ≠ 0 := fun h => by rw [← Hx.out, He.out]; exact her
      have hex2 : e = 0 ∧ er = 140 := by
        have h1 := He.out
        unfold Frm.epoch at h1
        split at h1
        · injection h1 with _ h1; exact absurd h1.symm her
        · injection h1 with h1 h2; exact ⟨h1.symm, h2.symm⟩
      obtain ⟨rfl, rfl⟩ := hex2
      have Hex := Lib.hid hex
      clear he hep hx hin hex hcell her
      go_enter Try.func18, Try.ntmps18
      go_wp2_with fail
      refine Hep.out.mono ?_
      rintro r w1 ⟨rfl, hb1⟩
      clear hcell0
      go_wp2_with fail
      refine bodyPost_ret (results_tmp4 rfl _ _ _) rfl ?_
      exact .inl ⟨Hex.out, rfl, hb1⟩
end Go.Proofs.Ytpabbackiobefaa
