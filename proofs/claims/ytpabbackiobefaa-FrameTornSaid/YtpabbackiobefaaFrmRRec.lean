
/- Contract of scowref14.record. Printed by wip/tools/gen_rrec14.py. -/

import Derived.Test.YtpabbackiobefaaFrmRPut

namespace Go.Proofs.Ytpabbackiobefaa

open Go.RowKit

attribute [local go_sem] Oper.semAt_some

theorem stands_content {l : List (List UInt8)} {e a : Nat} {c : List UInt8} (h : Frm.Stands l e a c) : ((Frm.pays l a (Frm.need c.length)).drop 4).take c.length = c := by
  rw [h.pay]
  unfold Frm.padB Frm.body Crc.put
  rw [List.append_assoc, List.drop_append_of_le_length (by rw [Frm.fixed_len4]; omega), List.drop_of_length_le (by rw [Frm.fixed_len4]; omega), List.nil_append, List.append_assoc, List.take_left]

set_option maxRecDepth 100000 in
set_option maxHeartbeats 8000000 in
theorem ref_record14 (A : Option Addr) (l : List Sl) (c e a : Nat) (w : World) (he : e < 18446744073709551616) (hl : RdLc w A l) (hll : l.length ≤ 4000) (ha : a ≤ l.length) (ha1 : 1 ≤ a) :
    Calls Try.prog 31 #[.slice A l.length c, .int .u64 (e : Int), .int .i64 (a : Int)] w (RecPost (bsL l) e a w) := by
  by_cases h : a < l.length
  · obtain ⟨ad, hA, hcell, hin⟩ := hl.rd.at_ h
    subst hA
    have hcap := hl.cap l[a] (List.getElem_mem h)
    obtain ⟨x, hx⟩ : ∃ x, x = l[a] := ⟨_, rfl⟩
    rw [← hx] at hcell hin hcap
    have i0 : (0 : Int) ≤ (a : Int) := by omega
    have i1 : (a : Int) < (l.length : Int) := by omega
    have i2 : decide ((l.length : Int) ≤ (a : Int)) = false := by simp; omega
    have hs := ref_stamped14 x.a x.bs x.c e a w he (by omega) hin hcap
    have Hx := Lib.hid hx
    cases hst : Frm.stmpB x.bs e a with
    | false =>
      have Hno : Hid (∀ c, ¬ Frm.Stands (bsL l) e a c) := fun c hS => by
        have h1 := hS.first
        rw [stmp_l h, ← Hx.out, hst] at h1
        cases h1
      rw [hst] at hs
      have Hs := Lib.hid hs
      clear hs hst hx hin
      go_enter Try.func31, Try.ntmps31
      go_wp2_with fail
      refine Hs.out.mono ?_
      rintro r w1 ⟨rfl, hb1⟩
      go_wp2_with fail
      refine bodyPost_ret (results_tmp3 rfl _ _ _) rfl ?_
      exact .inr ⟨Hno.out, rfl, hb1⟩
    | true =>
      rw [hst] at hs
      have hx64 := (stmp_parts.1 hst).1
      obtain ⟨xd, hxd, hk0⟩ := hin.at_ (k := 0) (by omega)
      clear hk0
      rw [hxd, hx64] at hcell
      rw [hxd] at hin hs
      rw [hx64] at hs
      obtain ⟨q, hq⟩ : ∃ q, q = (x.bs.drop 12).take 4 := ⟨_, rfl⟩
      have hq2 : q = (x.bs.take 16).drop 12 := by rw [hq, List.drop_take]
      have hql : q.length = 4 := by rw [hq2, List.length_drop, List.length_take]; omega
      obtain ⟨n, hn⟩ : ∃ n, n = Vint.number q := ⟨_, rfl⟩
      have hqr : RdB w (some (xd.add 12)) q := by
        have h1 := hin.cut (k := 12) (m := 16) (by omega) (by omega) (c := x.c) (by omega)
        rw [if_neg (by omega)] at h1
        rw [hq2]; exact h1
      have hn32 : n < 4294967296 := by
        rw [hn]
        unfold Vint.number
        rw [if_pos (by omega)]
        have := Vint.numL_lt q
        rw [hql] at this
        exact this
      have hal : (bsL l)[a]'(by rw [bsL_len]; exact h) = x.bs := by rw [bsL_get l a h, hx]
      have hnum : ∀ c, Frm.Stands (bsL l) e a c → c.length = n := fun c hs => by
        have h1 := hs.num (by rw [bsL_len]; exact h)
        rw [hal, ← hq, ← hn] at h1
        exact h1.symm
      have Hnum := Lib.hid hnum
      have c16 : (16 : Int) ≤ (x.c : Int) := by omega
      have c12 : ¬ x.c = 12 := by omega
      have Hs := Lib.hid hs
      have hwn : IntKind.i64.wrap (n : Int) = (n : Int) := by simp [IntKind.wrap, IntKind.bits, IntKind.signed]; omega
      have Hqr := Lib.hid hqr
      have Hql := Lib.hid hql
      have Hqn := Lib.hid hn
      have Hcell := Lib.hid hcell
      clear hs hst hin hq hq2 hql hn hqr hal hnum hx hxd hx64 hcap
      go_enter Try.func31, Try.ntmps31
      go_wp2_with fail
      refine Hs.out.mono ?_
      clear Hs
      rintro r w1 ⟨rfl, hb1⟩
      have hcell1 := Ext.load hb1 hcell
      have hk1 := ref_number01 (some (xd.add 12)) q (x.c - 12) w1 (Hqr.out.below hb1) (by rw [Hql.out]; omega)
      rw [Hql.out, ← Hqn.out] at hk1
      have Hk1 := Lib.hid hk1
      clear hcell hk1
      go_wp2_with fail
      refine Hk1.out.mono ?_
      rintro r w9 ⟨rfl, rfl⟩
      clear Hk1 Hqr Hql Hqn hcell1
      by_cases hbig : 140000 < n
      · have Hno : Hid (∀ c, ¬ Frm.Stands (bsL l) e a c) := fun c hs => by have h1 := Hnum.out c hs; have h2 := hs.len; omega
        have hbig' : decide ((140000 : Int) < (n : Int)) = true := by simp; omega
        go_wp2
        refine bodyPost_ret (results_tmp3 rfl _ _ _) rfl ?_
        exact .inr ⟨Hno.out, rfl, hb1⟩
      · have hbig' : decide ((140000 : Int) < (n : Int)) = false := by simp; omega
        obtain ⟨k, hk⟩ : ∃ k, k = Frm.need n := ⟨_, rfl⟩
        have hk' : ((n : Int) + 8 + 52 - 1) / 52 = (k : Int) := by rw [hk]; unfold Frm.need; omega
        have hK1 := Frm.need_ge n
        have hK2 := Frm.need_lt n
        rw [← hk] at hK1 hK2
        have HK := Lib.hid hk
        clear hk
        by_cases hfit : l.length < a + k
        · have Hno : Hid (∀ c, ¬ Frm.Stands (bsL l) e a c) := fun c hs => by
            have h1 := hs.st (k - 1) (by rw [Hnum.out c hs, ← HK.out]; omega)
            have h2 := Frm.stmp_lt h1
            rw [bsL_len] at h2
            omega
          have hfit' : decide ((l.length : Int) - (a : Int) < (k : Int)) = true := by simp; omega
          go_wp2_with fail
          refine bodyPost_ret (results_tmp3 rfl _ _ _) rfl ?_
          exact .inr ⟨Hno.out, rfl, hb1⟩
        · have hfit' : decide ((l.length : Int) - (a : Int) < (k : Int)) = false := by simp; omega
          have hk4 : k ≤ 2700 := by omega
          go_wp2_with fail
          simp only [hk']
          clear hk'
          go_loopw [11, 12] (fun b i wr => ∃ (j m p : Nat) (A' : Option Addr) (c' : Nat), j ≤ k ∧ m = 52 * j ∧ p = a + j ∧ i = .int .i64 (p : Int) ∧ b = .slice A' m c' ∧ Own wr w.heap.size 5 1 A' m c' (bvs (Frm.pays (bsL l) a j)) ∧ Below w.heap.size w wr) (fun _ i _ => 10000 - (intOf i).toNat)
          case atStart => exact ⟨0, 0, a, none, 0, by omega, rfl, rfl, rfl, rfl, Own.none_ _ _ _ _ _, hb1⟩
          case round =>
            obtain ⟨j, m, p, A', c', hjk, hm, hp, rfl, rfl, hown, hbw⟩ := hrel
            have Hm := Lib.hid hm
            have Hp := Lib.hid hp
            have hsz := hbw.size
            by_cases hj : j < k
            · have hpl : p < l.length := by omega
              obtain ⟨ad2, hA2, hcell2, hin2⟩ := (hl.below hbw).rd.at_ hpl
              injection hA2 with hA2
              subst hA2
              have hcap2 := hl.cap l[p] (List.getElem_mem hpl)
              have j0 : (0 : Int) ≤ (p : Int) := by omega
              have j1 : (p : Int) < (l.length : Int) := by omega
              have j2 : decide ((p : Int) < (a : Int) + (k : Int)) = true := by simp; omega
              obtain ⟨y, hy⟩ : ∃ y, y = l[p] := ⟨_, rfl⟩
              rw [← hy] at hcell2 hin2 hcap2
              have Hy := Lib.hid hy
              have Hj := Lib.hid hj
              have Hpl := Lib.hid hpl
              by_cases h64 : y.bs.length = 64
              · obtain ⟨yd, hyd, hk0⟩ := hin2.at_ (k := 0) (by omega)
                clear hk0
                rw [hyd, h64] at hcell2
                rw [hyd] at hin2
                have hr2 : Rd wr 1 (some (yd.add 12)) 52 (bvs (y.bs.drop 12)) := by
                  have h2 := hin2.tail (k := 12) (by omega) hcap2
                  rw [if_neg (by omega)] at h2
                  exact rdb_len h2 (by rw [List.length_drop]; omega)
                have hps : Frm.pays (bsL l) a (j + 1) = Frm.pays (bsL l) a j ++ y.bs.drop 12 := by
                  have hpe := Hp.out
                  subst hpe
                  rw [Frm.pays_snoc (bsL l) a j (by rw [bsL_len]; exact hpl), bsL_get l (a + j) hpl, ← Hy.out]
                have Hps : Hid (bvs (Frm.pays (bsL l) a (j + 1)) = bvs (Frm.pays (bsL l) a j) ++ bvs (y.bs.drop 12)) := by show _ = _; rw [hps, bvs_app]
                have y12 : (12 : Int) ≤ (y.c : Int) := by omega
                have y13 : ¬ y.c = 12 := by omega
                have hm2 : m ≤ 140400 := by omega
                obtain ⟨xb, hxb⟩ : ∃ xb, xb = bvs (y.bs.drop 12) := ⟨_, rfl⟩
                have hone : ∀ u ∈ xb, u.oneCell' = true := by rw [hxb]; exact bvs_one _
                obtain ⟨yb, hyb⟩ : ∃ yb, yb = bvs (Frm.pays (bsL l) a (j + 1)) := ⟨_, rfl⟩
                rw [← hxb] at hr2 Hps
                rw [← hyb] at Hps
                have Hyb := Lib.hid hyb
                clear hm hp hps hin2 hyd hxb hyb hy Hy hj hpl h64 hcap2
                go_wp2_with (at_builtin; refine wpList_app rfl (.tmp 65) (.tmp 70) 23 rfl elemB w.heap.size A' m c' (bvs (Frm.pays (bsL l) a j)) rfl (some (yd.add 12)) 52 (y.c - 12) xb rfl (m + 52) rfl yb Hps.out hown hr2 hone (by omega) (by omega) hsz ?_; intro A6 c6 w6 ho6 hg6 hr6)
                go_roundw
                case rel => exact ⟨j + 1, m + 52, p + 1, A6, c6, by have := Hj.out; omega, by have := Hm.out; omega, by have := Hp.out; omega, by go_num, rfl, by rw [← Hyb.out]; exact ho6, below_app hbw hown hg6 hsz⟩
                case measure => simp [intOf]; omega
              · have Hno : Hid (∀ c, ¬ Frm.Stands (bsL l) e a c) := fun c hs => by
                  have h1 := hs.st j (by rw [Hnum.out c hs, ← HK.out]; exact hj)
                  rw [← hp, stmp_l hpl, ← Hy.out] at h1
                  exact h64 (stmp_parts.1 h1).1
                have hne : ((y.bs.length : Int) != 64) = true := by rw [bne_iff_ne]; omega
                clear hm hp hin2 hy Hy hj hpl h64 hown
                go_wp2
                refine bodyPost_ret (results_tmp3 rfl _ _ _) rfl ?_
                exact .inr ⟨Hno.out, rfl, hbw⟩
            · have hjk2 : j = k := by omega
              subst hjk2
              have j2 : decide ((p : Int) < (a : Int) + (j : Int)) = false := by simp; omega
              obtain ⟨b, hb⟩ : ∃ b, b = Frm.pays (bsL l) a j := ⟨_, rfl⟩
              rw [← hb] at hown
              have hbl : b.length = m := by have := hown.len; rw [bvs_len] at this; omega
              have hmc := hown.nc
              have hnm : n + 8 ≤ m := by omega
              obtain ⟨bd, hA', hk0⟩ := (hown.rd').at_ (k := 0) (by omega)
              clear hk0
              subst hA'
              obtain ⟨ct, hct⟩ : ∃ ct, ct = (b.drop 4).take n := ⟨_, rfl⟩
              have hctl : ct.length = n := by rw [hct, List.length_take, List.length_drop]; omega
              have hcr : RdB wr (some (bd.add 4)) ct := by
                have h1 := (hown.rd').cut (k := 4) (m := 4 + n) (by omega) (by omega) (c := c') (by omega)
                rw [if_neg (by omega), List.drop_take, show 4 + n - 4 = n by omega, ← hct] at h1
                exact h1
              have hct2 : ∀ c, Frm.Stands (bsL l) e a c → c = ct := fun c hs => by
                have h1 := stands_content hs
                rw [Hnum.out c hs, ← HK.out, ← hb, ← hct] at h1
                exact h1.symm
              have Hct2 := Lib.hid hct2
              have Hctl := Lib.hid hctl
              have hput := ref_put14 e (a : Int) (some (bd.add 4)) ct (c' - 4) wr he hcr (by omega)
              rw [hctl] at hput
              have hpe : Frm.putE (a : Int) ct = 0 := by unfold Frm.putE; rw [if_neg (by omega), if_neg (by omega)]
              have Hpe := Lib.hid hpe
              have Hput := Lib.hid hput
              have Hcr := Lib.hid hcr
              have m1 : (4 : Int) ≤ 4 + (n : Int) := by omega
              have m2 : (4 : Int) + (n : Int) ≤ (c' : Int) := by omega
              have m3 : ¬ c' = 4 := by omega
              have m4 : (4 : Int) + (n : Int) - 4 = (n : Int) := by omega
              clear hm hp hb hct hctl hct2 hput hpe hcr hown hj
              go_wp2_with fail
              refine Hput.out.mono ?_
              clear Hput
              rintro r w4 ⟨L, A9, c9, rfl, hLs, hLo, hLi, hb4⟩
              rw [Hpe.out, if_pos rfl, Int.toNat_natCast] at hLs
              have hLj : L.length = j := by
                have h1 := congrArg List.length hLs
                rw [List.length_map, Frm.secs_len, Hctl.out, ← HK.out] at h1
                exact h1
              have hLk : ∀ i (hi : i < L.length), L[i].bs = Frm.sec e a ct i := fun i hi => by
                have h1 : (L.map Sl.bs)[i]? = (Frm.secs e a ct)[i]? := by rw [hLs]
                rw [List.getElem?_map, List.getElem?_eq_getElem hi] at h1
                have h2 : i < Frm.need ct.length := by rw [Hctl.out, ← HK.out, ← hLj]; exact hi
                simp only [Frm.secs, List.getElem?_map, List.getElem?_range h2, Option.map_some, Option.some.injEq] at h1
                exact h1
              have hrdL : RdL w4 A9 L := ⟨hLo.rd, fun s hs => (hLi s hs).rd⟩
              have hb5 := hbw.trans (hb4.mono hsz)
              have HLk := Lib.hid hLk
              have Hyes : Hid ((∀ i (hi : i < L.length) (hi2 : a + i < l.length), (L[i].bs == l[a + i].bs) = true) → Frm.Stands (bsL l) e a ct) := fun hall => by
                refine Frm.stands_secs (by rw [Hctl.out]; omega) fun i hi => ?_
                have h1 : i < L.length := by rw [hLj, HK.out, ← Hctl.out]; exact hi
                have h2 : a + i < l.length := by omega
                rw [bsL, List.getElem?_map, List.getElem?_eq_getElem h2, ← hLk i h1, eq_of_beq (hall i h1 h2)]
                rfl
              have Hnoo : Hid (∀ i (hi : i < L.length) (hi2 : a + i < l.length), (L[i].bs == l[a + i].bs) = false → ∀ c, ¬ Frm.Stands (bsL l) e a c) := fun i hi hi2 hb c hs => by
                have h0 := Hct2.out c hs
                subst h0
                have h1 := hs.secs i (by rw [Hctl.out, ← HK.out, ← hLj]; exact hi)
                rw [bsL, List.getElem?_map, List.getElem?_eq_getElem hi2, ← hLk i hi] at h1
                injection h1 with h1
                rw [h1] at hb
                simp at hb
              have n1 : ((L.length : Int) != (j : Int)) = false := by rw [bne_eq_false_iff_eq]; omega
              have hj5 : L.length ≤ 2700 := by omega
              have hcr4 := Hcr.out.below hb4
              have hfl : a + L.length ≤ l.length := by omega
              obtain ⟨Lj, hLjj⟩ : ∃ Lj, Lj = j := ⟨_, rfl⟩
              subst hLj
              clear hLs hLk hLo hLi hb4 hLjj
              go_wp2_with fail
              go_loopw [16] (fun i wq => ∃ t : Nat, t ≤ L.length ∧ i = .int .i64 (t : Int) ∧ (∀ r (hr : r < L.length) (hr2 : a + r < l.length), r < t → (L[r].bs == l[a + r].bs) = true) ∧ Ext w4 wq) (fun i _ => 10000 - (intOf i).toNat)
              case atStart => exact ⟨0, by omega, rfl, fun r _ _ h => absurd h (by omega), Ext.refl _⟩
              case round =>
                obtain ⟨t, ht, rfl, hall, hE⟩ := hrel
                have Hall := Lib.hid hall
                clear hall
                have hbq := hb5.trans (hE.mono hb5.size)
                by_cases htl : t < L.length
                · have htl2 : a + t < l.length := by omega
                  obtain ⟨sd, hsd, hsc, hsr⟩ := (hrdL.below hE).at_ htl
                  subst hsd
                  obtain ⟨ad2, hA2, hcell2, hin2⟩ := (hl.below hbq).rd.at_ htl2
                  injection hA2 with hA2
                  subst hA2
                  have k1 := Ext.load (Ext.drew wr) hsc
                  have k2 := Ext.load (Ext.drew wr) hcell2
                  have r1 := hsr.below (Ext.drew wr)
                  have r2 := hin2.below (Ext.drew wr)
                  have Hno3 := Hnoo.out t htl htl2
                  have z0 : (0 : Int) ≤ (t : Int) := by omega
                  have z1 : (t : Int) < (L.length : Int) := by omega
                  obtain ⟨sx, hsx⟩ : ∃ sx, sx = a + t := ⟨_, rfl⟩
                  have z2 : (0 : Int) ≤ (sx : Int) := by omega
                  have z3 : (sx : Int) < (l.length : Int) := by omega
                  have z5 : IntKind.i64.wrap ((a : Int) + (t : Int)) = (sx : Int) := by simp [IntKind.wrap, IntKind.bits, IntKind.signed]; omega
                  have k3 : (World.drew wr).cell? (ad.add sx) = some (.slice l[a + t].a l[a + t].bs.length l[a + t].c) := by rw [hsx]; exact k2
                  clear hsx k2
                  have hbd := hbq.trans ((Ext.drew wr).mono hbq.size)
                  have hEd := Ext.tr hE (Ext.drew wr)
                  have HEd := Lib.hid hEd
                  cases hb : (L[t].bs == l[a + t].bs) with
                  | true =>
                    have Hb := Lib.hid hb
                    clear Hno3 hsc hcell2 hsr hin2
                    go_wp2_with fail
                    refine rg_start (by kernel_rfl) ?_
                    refine rg_take 0 rfl (by kernel_rfl) (by kernel_rfl) (by kernel_rfl) (fun _ _ _ _ h => h) (by rfl) ⟨_, fun w' hx => by (go_simp <;> with_reducible rfl), ?_⟩
                    simp only [Act.put, List.setIfInBounds_toArray, List.set_cons_zero, List.set_cons_succ]
                    refine rg_take 1 rfl (by kernel_rfl) (by kernel_rfl) (by kernel_rfl) (fun _ _ _ _ h => h) (by rfl) ⟨_, fun w' hx => by (go_simp <;> with_reducible rfl), ?_⟩
                    simp only [Act.put, List.setIfInBounds_toArray, List.set_cons_zero, List.set_cons_succ]
                    refine rg_take 2 rfl (by kernel_rfl) (by kernel_rfl) (by kernel_rfl) (fun _ _ _ _ h => h) (by rfl) ⟨_, fun w' hx => by (go_simp <;> with_reducible rfl), ?_⟩   -- t98 := indexAddr 25 t96 t97
                    simp only [Act.put, List.setIfInBounds_toArray, List.set_cons_zero, List.set_cons_succ]
                    refine rg_take 3 rfl (by kernel_rfl) (by kernel_rfl) (by kernel_rfl) (fun _ _ _ _ h => h) (by rfl) ⟨_, fun w' hx => by have hcx := hx.load k1; (go_simp <;> with_reducible rfl), ?_⟩
                    simp only [Act.put, List.setIfInBounds_toArray, List.set_cons_zero, List.set_cons_succ]
                    refine rg_take 4 rfl (by kernel_rfl) (by kernel_rfl) (by kernel_rfl) (fun _ _ _ _ h => h) (by rfl) ⟨_, fun w' hx => ex_str rfl rfl Try.underlying23 Try.underlying5 Try.underlying9 (r1.below hx) rfl, ?_⟩
                    simp only [Act.put, List.setIfInBounds_toArray, List.set_cons_zero, List.set_cons_succ]
                    refine rg_take 5 rfl (by kernel_rfl) (by kernel_rfl) (by kernel_rfl) (fun _ _ _ _ h => h) (by rfl) ⟨_, fun w' hx => by (go_simp <;> with_reducible rfl), ?_⟩
                    simp only [Act.put, List.setIfInBounds_toArray, List.set_cons_zero, List.set_cons_succ]
                    refine rg_take 6 rfl (by kernel_rfl) (by kernel_rfl) (by kernel_rfl) (fun _ _ _ _ h => h) (by rfl) ⟨_, fun w' hx => by (go_simp <;> with_reducible rfl), ?_⟩
                    simp only [Act.put, List.setIfInBounds_toArray, List.set_cons_zero, List.set_cons_succ]
                    refine rg_take 7 rfl (by kernel_rfl) (by kernel_rfl) (by kernel_rfl) (fun _ _ _ _ h => h) (by rfl) ⟨_, fun w' hx => by (go_simp <;> with_reducible rfl), ?_⟩
                    simp only [Act.put, List.setIfInBounds_toArray, List.set_cons_zero, List.set_cons_succ]
                    refine rg_take 8 rfl (by kernel_rfl) (by kernel_rfl) (by kernel_rfl) (fun _ _ _ _ h => h) (by rfl) ⟨.int .i64 (sx : Int), fun w' hx => by (go_simp <;> with_reducible rfl), ?_⟩
                    simp only [Act.put, List.setIfInBounds_toArray, List.set_cons_zero, List.set_cons_succ]
                    refine rg_take 9 rfl (by kernel_rfl) (by kernel_rfl) (by kernel_rfl) (fun _ _ _ _ h => h) (by rfl) ⟨_, fun w' hx => by (go_simp <;> with_reducible rfl), ?_⟩   -- t105 := indexAddr 25 t101 t104
                    simp only [Act.put, List.setIfInBounds_toArray, List.set_cons_zero, List.set_cons_succ]
                    refine rg_take 10 rfl (by kernel_rfl) (by kernel_rfl) (by kernel_rfl) (fun _ _ _ _ h => h) (by rfl) ⟨_, fun w' hx => by have hcx := hx.load k3; (go_simp <;> with_reducible rfl), ?_⟩
                    simp only [Act.put, List.setIfInBounds_toArray, List.set_cons_zero, List.set_cons_succ]
                    refine rg_take 11 rfl (by kernel_rfl) (by kernel_rfl) (by kernel_rfl) (fun _ _ _ _ h => h) (by rfl) ⟨_, fun w' hx => ex_str rfl rfl Try.underlying23 Try.underlying5 Try.underlying9 (r2.below hx) rfl, ?_⟩
                    simp only [Act.put, List.setIfInBounds_toArray, List.set_cons_zero, List.set_cons_succ]
                    refine rg_take 12 rfl (by kernel_rfl) (by kernel_rfl) (by kernel_rfl) (fun _ _ _ _ h => h) (by rfl) ⟨.bool false, fun w' hx => (by rw [ex_neqS rfl rfl rfl, hb]; rfl), ?_⟩
                    simp only [Act.put, List.setIfInBounds_toArray, List.set_cons_zero, List.set_cons_succ]
                    refine rg_done (by kernel_rfl) ?_
                    go_wp2_with fail
                    go_roundw
                    case rel => exact ⟨t + 1, by omega, by go_num, fun r hr hr2 hrt => by
                      rcases Nat.lt_or_ge r t with h' | h'
                      · exact Hall.out r hr hr2 h'
                      · obtain rfl : r = t := by omega
                        exact Hb.out, HEd.out⟩
                    case measure => simp [intOf]; omega
                  | false =>
                    have Hno4 := Lib.hid (Hno3 hb)
                    clear Hno3 hsc hcell2 hsr hin2
                    go_wp2_with fail
                    refine rg_start (by kernel_rfl) ?_
                    refine rg_take 0 rfl (by kernel_rfl) (by kernel_rfl) (by kernel_rfl) (fun _ _ _ _ h => h) (by rfl) ⟨_, fun w' hx => by (go_simp <;> with_reducible rfl), ?_⟩
                    simp only [Act.put, List.setIfInBounds_toArray, List.set_cons_zero, List.set_cons_succ]
                    refine rg_take 1 rfl (by kernel_rfl) (by kernel_rfl) (by kernel_rfl) (fun _ _ _ _ h => h) (by rfl) ⟨_, fun w' hx => by (go_simp <;> with_reducible rfl), ?_⟩
                    simp only [Act.put, List.setIfInBounds_toArray, List.set_cons_zero, List.set_cons_succ]
                    refine rg_take 2 rfl (by kernel_rfl) (by kernel_rfl) (by kernel_rfl) (fun _ _ _ _ h => h) (by rfl) ⟨_, fun w' hx => by (go_simp <;> with_reducible rfl), ?_⟩   -- t98 := indexAddr 25 t96 t97
                    simp only [Act.put, List.setIfInBounds_toArray, List.set_cons_zero, List.set_cons_succ]
                    refine rg_take 3 rfl (by kernel_rfl) (by kernel_rfl) (by kernel_rfl) (fun _ _ _ _ h => h) (by rfl) ⟨_, fun w' hx => by have hcx := hx.load k1; (go_simp <;> with_reducible rfl), ?_⟩
                    simp only [Act.put, List.setIfInBounds_toArray, List.set_cons_zero, List.set_cons_succ]
                    refine rg_take 4 rfl (by kernel_rfl) (by kernel_rfl) (by kernel_rfl) (fun _ _ _ _ h => h) (by rfl) ⟨_, fun w' hx => ex_str rfl rfl Try.underlying23 Try.underlying5 Try.underlying9 (r1.below hx) rfl, ?_⟩
                    simp only [Act.put, List.setIfInBounds_toArray, List.set_cons_zero, List.set_cons_succ]
                    refine rg_take 5 rfl (by kernel_rfl) (by kernel_rfl) (by kernel_rfl) (fun _ _ _ _ h => h) (by rfl) ⟨_, fun w' hx => by (go_simp <;> with_reducible rfl), ?_⟩
                    simp only [Act.put, List.setIfInBounds_toArray, List.set_cons_zero, List.set_cons_succ]
                    refine rg_take 6 rfl (by kernel_rfl) (by kernel_rfl) (by kernel_rfl) (fun _ _ _ _ h => h) (by rfl) ⟨_, fun w' hx => by (go_simp <;> with_reducible rfl), ?_⟩
                    simp only [Act.put, List.setIfInBounds_toArray, List.set_cons_zero, List.set_cons_succ]
                    refine rg_take 7 rfl (by kernel_rfl) (by kernel_rfl) (by kernel_rfl) (fun _ _ _ _ h => h) (by rfl) ⟨_, fun w' hx => by (go_simp <;> with_reducible rfl), ?_⟩
                    simp only [Act.put, List.setIfInBounds_toArray, List.set_cons_zero, List.set_cons_succ]
                    refine rg_take 8 rfl (by kernel_rfl) (by kernel_rfl) (by kernel_rfl) (fun _ _ _ _ h => h) (by rfl) ⟨.int .i64 (sx : Int), fun w' hx => by (go_simp <;> with_reducible rfl), ?_⟩
                    simp only [Act.put, List.setIfInBounds_toArray, List.set_cons_zero, List.set_cons_succ]
                    refine rg_take 9 rfl (by kernel_rfl) (by kernel_rfl) (by kernel_rfl) (fun _ _ _ _ h => h) (by rfl) ⟨_, fun w' hx => by (go_simp <;> with_reducible rfl), ?_⟩   -- t105 := indexAddr 25 t101 t104
                    simp only [Act.put, List.setIfInBounds_toArray, List.set_cons_zero, List.set_cons_succ]
                    refine rg_take 10 rfl (by kernel_rfl) (by kernel_rfl) (by kernel_rfl) (fun _ _ _ _ h => h) (by rfl) ⟨_, fun w' hx => by have hcx := hx.load k3; (go_simp <;> with_reducible rfl), ?_⟩
                    simp only [Act.put, List.setIfInBounds_toArray, List.set_cons_zero, List.set_cons_succ]
                    refine rg_take 11 rfl (by kernel_rfl) (by kernel_rfl) (by kernel_rfl) (fun _ _ _ _ h => h) (by rfl) ⟨_, fun w' hx => ex_str rfl rfl Try.underlying23 Try.underlying5 Try.underlying9 (r2.below hx) rfl, ?_⟩
                    simp only [Act.put, List.setIfInBounds_toArray, List.set_cons_zero, List.set_cons_succ]
                    refine rg_take 12 rfl (by kernel_rfl) (by kernel_rfl) (by kernel_rfl) (fun _ _ _ _ h => h) (by rfl) ⟨.bool true, fun w' hx => (by rw [ex_neqS rfl rfl rfl, hb]; rfl), ?_⟩
                    simp only [Act.put, List.setIfInBounds_toArray, List.set_cons_zero, List.set_cons_succ]
                    refine rg_done (by kernel_rfl) ?_
                    go_wp2_with fail
                    refine bodyPost_ret (results_tmp3 rfl _ _ _) rfl ?_
                    exact .inr ⟨Hno4.out, rfl, hbd⟩
                · have HS := Lib.hid (Hyes.out fun r hr hr2 => Hall.out r hr hr2 (by omega))
                  have hcr5 := (hcr4.below hE).below (Ext.alloc wr (.cells #[] 5))
                  have hcr6 : Rd (wr.alloc (.cells #[] 5)) 1 (some (bd.add 4)) n (bvs ct) := rdb_len hcr5 Hctl.out.symm
                  have hbz := hbq.trans ((Ext.alloc wr (.cells #[] 5)).mono hbq.size)
                  have htl3 : ¬ ((t : Int) < (L.length : Int)) := by omega
                  have hsz7 := hbz.size
                  clear hE Hall hcr5
                  go_wp2_with (at_builtin; refine wpList_app rfl (.tmp 109) (.tmp 110) 23 rfl elemB w.heap.size _ 0 0 [] rfl (some (bd.add 4)) n (c' - 4) (bvs ct) rfl n (by omega) (bvs ct) rfl (Own.none_ _ _ _ _ _) hcr6 (bvs_one _) (by omega) (by omega) hsz7 ?_; intro A1 c1 w9 ho9 hg9 hr9)
                  refine bodyPost_ret (results_tmp3 rfl _ _ _) rfl ?_
                  refine .inl ⟨ct, A1, c1, HS.out, by rw [Hctl.out, ← HK.out]; rfl, ?_, ?_⟩
                  · rw [Hctl.out]; exact ho9
                  · exact below_app hbz (Own.none_ _ _ 5 1 (some ⟨wr.heap.size, 0, none⟩)) hg9 hsz7
  · have Hno : Hid (∀ c, ¬ Frm.Stands (bsL l) e a c) := fun c hs => by
      have h2 := Frm.stmp_lt hs.first
      rw [bsL_len] at h2
      omega
    have i2 : decide ((l.length : Int) ≤ (a : Int)) = true := by simp; omega
    go_enter Try.func31, Try.ntmps31
    go_wp2
    refine bodyPost_ret (results_tmp3 rfl _ _ _) rfl ?_
    exact .inr ⟨Hno.out, rfl, Below.refl _ _⟩
end Go.Proofs.Ytpabbackiobefaa
