
/- Contract: a range cut into parts (split.Split). Printed by wip/tools/gen_split18.py. -/

import Derived.Test.YtiiekdhlcmaabaaSplPlain

namespace Go.Proofs.Ytiiekdhlcmaabaa

open Go.RowKit

attribute [local go_sem] Oper.semAt_some

theorem wrap_in {n : Int} (h : -9223372036854775808 ≤ n ∧ n ≤ 9223372036854775807) : wrap64 n = n := by unfold wrap64; omega
theorem wrap_i {n : Int} (h : -9223372036854775808 ≤ n ∧ n ≤ 9223372036854775807) : IntKind.i64.wrap n = n := by
  simp [IntKind.wrap, IntKind.bits, IntKind.signed]
  omega
theorem Ent.total_sub {l m : List Ent} (h : m.Sublist l) : Ent.total m ≤ Ent.total l := by
  induction h with
  | slnil => exact Nat.le_refl _
  | cons a _ ih => rw [Ent.total_cons]; omega
  | cons_cons a _ ih => rw [Ent.total_cons, Ent.total_cons]; omega
theorem Fit.sub {l m : List EnV} (h : Fit l) (hs : m.Sublist l) : Fit m := by
  unfold Fit at h ⊢
  have h1 := Ent.total_sub (hs.map EnV.x)
  have h2 := hs.length_le
  omega
theorem PtV.set_lo (p : PtV) (A : Option Addr) (c : Nat) (bs : List UInt8) : p.cells.setIfInBounds 0 (.slice A bs.length c) = (⟨A, c, p.ha, p.hc, ⟨bs, p.x.hi, p.x.count, p.x.sum⟩⟩ : PtV).cells := by
  apply Array.ext'; simp [PtV.cells]
theorem PtV.set_hi (p : PtV) (A : Option Addr) (c : Nat) (bs : List UInt8) : p.cells.setIfInBounds 1 (.slice A bs.length c) = (⟨p.la, p.lc, A, c, ⟨p.x.lo, bs, p.x.count, p.x.sum⟩⟩ : PtV).cells := by
  apply Array.ext'; simp [PtV.cells]
theorem elemP : ElemT Try.prog 27 33 35 88 := ElemT.mk' Try.underlying27 (z := ptz.val) (by kernel_rfl) (by rfl) (by decide)

set_option maxRecDepth 100000 in
set_option maxHeartbeats 4000000 in
theorem split_any (A : Option Addr) (l : List EnV) (cap : Nat) (L H : Option Addr) (lo hi : List UInt8) (cl ch : Nat) (ways : Int) (w : World) (hl : RdE w A l) (hf : Fit l) (hL : RdB w L lo) (hH : RdB w H hi) (hcl : lo.length ≤ cl) (hch : hi.length ≤ ch) :
    Calls Try.prog 12 #[.slice A l.length cap, .slice L lo.length cl, .slice H hi.length ch, .int .i64 ways] w fun e w' => ∃ A' c' T, e = .returned (.slice A' T.length c') ∧ T.map PtV.x = Spl.split (l.map EnV.x) lo hi ways ∧ RdP w' A' T ∧ T.length ≤ c' ∧ Below w.heap.size w w' := by
  have hlen := hf.len
  have hB := between_any A l cap L H lo hi cl ch w hl (by omega) hL hH
  go_enter Try.func12, Try.ntmps12
  go_wp2_with fail
  refine hB.mono ?_
  clear hB
  rintro e w1 ⟨A1, c1, rfl, ho1, hb1⟩
  have hV : RdE w1 A1 (betV l lo hi) := ho1.rdE fun e he => (hl.each e (betV_mem he)).below hb1
  have hVold : ∀ e ∈ betV l lo hi, e.In w := fun e he => hl.each e (betV_mem he)
  have hfV := hf.bet lo hi
  have hn1 := ho1.nc
  have hXV := betV_map l lo hi
  obtain ⟨V, hVV⟩ : ∃ V, V = betV l lo hi := ⟨_, rfl⟩
  rw [← hVV] at hV hVold hfV hn1 hXV ⊢
  obtain ⟨n, hn⟩ : ∃ n, n = V.length := ⟨_, rfl⟩
  rw [← hn] at hn1 ⊢
  have hn5 := hfV.len
  rw [← hn] at hn5
  obtain ⟨k, hk⟩ : ∃ k, k = Spl.k n ways := ⟨_, rfl⟩
  have hkm := Spl.k_is n ways
  have hk1 := Spl.k_pos n ways
  have hk8 := Spl.k_le n ways
  have hkn := Spl.k_n n ways
  rw [← hk] at hkm hk1 hk8 hkn
  obtain ⟨q1, hq1⟩ : ∃ q1 : Int, (if ways < (n : Int) then ways else (n : Int)) = q1 := ⟨_, rfl⟩
  obtain ⟨q2, hq2⟩ : ∃ q2 : Int, (if (8 : Int) < q1 then (8 : Int) else q1) = q2 := ⟨_, rfl⟩
  have hq3 : (if (1 : Int) < q2 then q2 else (1 : Int)) = (k : Int) := by
    rw [← hkm, ← hq2, ← hq1]
    omega
  clear hkm
  have HVV := Lib.hid hVV
  have Hn := Lib.hid hn
  have Hk := Lib.hid hk
  have HXV := Lib.hid hXV
  have Hkn := Lib.hid hkn
  have HfV := Lib.hid hfV
  clear hVV hn hk ho1 hl hf hXV hkn hfV
  go_wp2_with (refine wpList_mkS rfl (.tmp 27) (.tmp 27) 27 rfl elemP ptz.val (by kernel_rfl) k .i64 .i64 rfl rfl (by omega) (by omega) (pcs (List.replicate k ptz)).toArray (madeP k) ?_)
  clear hq1 hq2 hq3
  have hE2 := Ext.alloc w1 (.cells (pcs (List.replicate k ptz)).toArray 33)
  have hP2 : PRow (w1.alloc (.cells (pcs (List.replicate k ptz)).toArray 33)) 33 w1.heap.size (List.replicate k ptz) := ⟨heap_alloc_new w1 _, fun p hp => by rw [List.eq_of_mem_replicate hp]; rfl⟩
  obtain ⟨X, hX⟩ : ∃ X, X = V.map EnV.x := ⟨_, rfl⟩
  have hXl : X.length = n := by rw [hX, List.length_map, Hn.out]
  obtain ⟨W2, hW2⟩ : ∃ W2, W2 = w1.alloc (.cells (pcs (List.replicate k ptz)).toArray 33) := ⟨_, rfl⟩
  rw [← hW2] at hP2 hE2 ⊢
  obtain ⟨ad, had⟩ : ∃ ad : Addr, ad = ⟨w1.heap.size, 0, none⟩ := ⟨_, rfl⟩
  rw [← had]
  have hgl : w1.heap.size ≤ w1.heap.size := Nat.le_refl _
  obtain ⟨g, hg⟩ : ∃ g, g = w1.heap.size := ⟨_, rfl⟩
  rw [← hg] at hP2 had
  have hgl : w1.heap.size ≤ g := by omega
  have HAD := Lib.hid had
  have HX := Lib.hid hX
  have HXL := Lib.hid hXl
  clear hW2 had hg hX hXl
  go_loopw [30] (fun i wr => ∃ (j : Nat) (T : List PtV), j ≤ k ∧ i = .int .i64 j ∧ T.length = k ∧ PRow wr 33 g T ∧ (∀ r (h : r < T.length), r < j → T[r].x = Spl.part X lo hi k j r ∧ T[r].In w) ∧ Ext w1 wr) (fun i _ => k - (intOf i).toNat)
  case atStart => exact ⟨0, List.replicate k ptz, by omega, rfl, List.length_replicate, hP2, fun r _ h => absurd h (by omega), hE2⟩
  case round =>
    obtain ⟨j, T, hj, rfl, hTl, hP, hT, hx⟩ := hrel
    have HT := Lib.hid hT
    clear hP2 hE2 hT
    by_cases h : j < k
    · have hxd := Ext.tr hx (Ext.drew wr)
      have hVd := hV.below hxd
      have hPd := hP.ext (Ext.drew wr)
      obtain ⟨jn, hjn⟩ : ∃ q, q = j * n := ⟨_, rfl⟩
      obtain ⟨j1, hj1⟩ : ∃ q, q = j + 1 := ⟨_, rfl⟩
      obtain ⟨jn1, hjn1⟩ : ∃ q, q = j1 * n := ⟨_, rfl⟩
      obtain ⟨a, ha⟩ : ∃ q, q = jn / k := ⟨_, rfl⟩
      obtain ⟨b, hb⟩ : ∃ q, q = jn1 / k := ⟨_, rfl⟩
      have jb : jn ≤ 40000 := by rw [hjn]; exact Nat.le_trans (Nat.mul_le_mul (show j ≤ 8 by omega) hn5) (by decide)
      have jb1 : jn1 ≤ 40000 := by rw [hjn1]; exact Nat.le_trans (Nat.mul_le_mul (show j1 ≤ 8 by omega) hn5) (by decide)
      have hm1 : IntKind.i64.wrap ((j : Int) * (n : Int)) = (jn : Int) := by rw [hjn, Int.natCast_mul]; exact wrap_i ⟨by rw [← Int.natCast_mul, ← hjn]; omega, by rw [← Int.natCast_mul, ← hjn]; omega⟩
      have hm2 : IntKind.i64.wrap ((j : Int) + 1) = (j1 : Int) := by rw [hj1, Int.natCast_add]; exact wrap_i ⟨by omega, by omega⟩
      have hm3 : IntKind.i64.wrap ((j1 : Int) * (n : Int)) = (jn1 : Int) := by rw [hjn1, Int.natCast_mul]; exact wrap_i ⟨by rw [← Int.natCast_mul, ← hjn1]; omega, by rw [← Int.natCast_mul, ← hjn1]; omega⟩
      have hd1 : Int.tdiv (jn : Int) (k : Int) = (a : Int) := by rw [ha, Int.ofNat_tdiv]
      have hd2 : Int.tdiv (jn1 : Int) (k : Int) = (b : Int) := by rw [hb, Int.ofNat_tdiv]
      have hk0 : ¬ k = 0 := by omega
      have hab : a ≤ b := by rw [ha, hb, hjn, hjn1, hj1]; exact Spl.cut_mono n k (Nat.le_succ j)
      have hbn : b ≤ n := by rw [hb, hjn1]; exact Spl.cut_le n k j1 (by rw [hj1]; exact h) hk1
      have hlt : 0 < j → a < b := fun h0 => by
        rw [ha, hb, hjn, hjn1, hj1]
        rcases Hkn.out with h1 | h1
        · exact absurd (Nat.lt_of_lt_of_eq h h1) (Nat.not_lt.2 h0)
        · exact Spl.cut_lt n k j hk1 h1
      have hwa : IntKind.i64.wrap (a : Int) = (a : Int) := wrap_i ⟨by omega, by omega⟩
      have hwb : IntKind.i64.wrap (b : Int) = (b : Int) := wrap_i ⟨by omega, by omega⟩
      have HA : Hid (a = j * n / k ∧ b = (j + 1) * n / k) := ⟨by rw [ha, hjn], by rw [hb, hjn1, hj1]⟩
      have Hlt := Lib.hid hlt
      have Hj1 := Lib.hid hj1
      clear hjn hjn1 ha hb jb jb1 hlt hj1
      obtain ⟨D, hD⟩ : ∃ D, D = (V.take b).drop a := ⟨_, rfl⟩
      have hDl : D.length = b - a := by rw [hD, List.length_drop, List.length_take, ← Hn.out, Nat.min_eq_left hbn]
      have hD1 := hV.cut hab (by rw [← Hn.out]; exact hbn) (Nat.le_refl b)
      have hDV : ∀ e ∈ D, e ∈ V := fun e he => by rw [hD] at he; exact List.mem_of_mem_take (List.mem_of_mem_drop he)
      have hfD : Fit D := HfV.out.sub (by rw [hD]; exact (List.drop_sublist _ _).trans (List.take_sublist _ _))
      obtain ⟨A2, hA2⟩ : ∃ A2 : Option Addr, A2 = (if b = a then A1 else Option.map (fun x => x.add (a * 2)) A1) := ⟨_, rfl⟩
      rw [← hD, ← hA2] at hD1
      have hDx : Hid (Ent.digest ((X.take b).drop a) = Ent.digest (D.map EnV.x)) := by
        show _ = _
        rw [hD, HX.out, List.map_drop, List.map_take]
      have hD0 : Hid (∀ (h : 0 < D.length), D[0].x.key = keyAt X a) := fun h => by
        have h1 : D[0]? = V[a]? := by rw [hD, List.getElem?_drop, Nat.add_zero, List.getElem?_take, if_pos (by omega)]
        unfold keyAt
        rw [HX.out, List.getElem?_map, ← h1, List.getElem?_eq_getElem h]
        rfl
      have hA2' := hA2.symm
      have hdg := edigest_any A2 D (b - a) wr.drew (hD1.below hxd) (by have := hfD.len; omega) hfD.total hfD.putAll
      rw [hDl] at hdg
      have Hdg := Lib.hid hdg
      have HDl := Lib.hid hDl
      clear hD hA2 hdg hfD hDl
      go_wp2_with fail
      refine rg_start (by kernel_rfl) ?_
      refine rg_take 0 rfl (by kernel_rfl) (by kernel_rfl) (by kernel_rfl) (fun _ _ _ _ h => h) (by rfl) ⟨_, fun w' hx => by (go_simp <;> with_reducible rfl), ?_⟩
      simp only [Act.put, List.setIfInBounds_toArray, List.set_cons_zero, List.set_cons_succ]
      refine rg_take 1 rfl (by kernel_rfl) (by kernel_rfl) (by kernel_rfl) (fun _ _ _ _ h => h) (by rfl) ⟨_, fun w' hx => by (go_simp <;> with_reducible rfl), ?_⟩
      simp only [Act.put, List.setIfInBounds_toArray, List.set_cons_zero, List.set_cons_succ]
      refine rg_take 2 rfl (by kernel_rfl) (by kernel_rfl) (by kernel_rfl) (fun _ _ _ _ h => h) (by rfl) ⟨.int .i64 (jn : Int), fun w' hx => by (go_simp <;> with_reducible rfl), ?_⟩
      simp only [Act.put, List.setIfInBounds_toArray, List.set_cons_zero, List.set_cons_succ]
      refine rg_take 3 rfl (by kernel_rfl) (by kernel_rfl) (by kernel_rfl) (fun _ _ _ _ h => h) (by rfl) ⟨_, fun w' hx => by (go_simp <;> with_reducible rfl), ?_⟩
      simp only [Act.put, List.setIfInBounds_toArray, List.set_cons_zero, List.set_cons_succ]
      refine rg_take 4 rfl (by kernel_rfl) (by kernel_rfl) (by kernel_rfl) (fun _ _ _ _ h => h) (by rfl) ⟨.int .i64 (a : Int), fun w' hx => by (go_simp <;> with_reducible rfl), ?_⟩
      simp only [Act.put, List.setIfInBounds_toArray, List.set_cons_zero, List.set_cons_succ]
      refine rg_take 5 rfl (by kernel_rfl) (by kernel_rfl) (by kernel_rfl) (fun _ _ _ _ h => h) (by rfl) ⟨_, fun w' hx => by (go_simp <;> with_reducible rfl), ?_⟩
      simp only [Act.put, List.setIfInBounds_toArray, List.set_cons_zero, List.set_cons_succ]
      refine rg_take 6 rfl (by kernel_rfl) (by kernel_rfl) (by kernel_rfl) (fun _ _ _ _ h => h) (by rfl) ⟨.int .i64 (j1 : Int), fun w' hx => by (go_simp <;> with_reducible rfl), ?_⟩
      simp only [Act.put, List.setIfInBounds_toArray, List.set_cons_zero, List.set_cons_succ]
      refine rg_take 7 rfl (by kernel_rfl) (by kernel_rfl) (by kernel_rfl) (fun _ _ _ _ h => h) (by rfl) ⟨_, fun w' hx => by (go_simp <;> with_reducible rfl), ?_⟩
      simp only [Act.put, List.setIfInBounds_toArray, List.set_cons_zero, List.set_cons_succ]
      refine rg_take 8 rfl (by kernel_rfl) (by kernel_rfl) (by kernel_rfl) (fun _ _ _ _ h => h) (by rfl) ⟨.int .i64 (jn1 : Int), fun w' hx => by (go_simp <;> with_reducible rfl), ?_⟩
      simp only [Act.put, List.setIfInBounds_toArray, List.set_cons_zero, List.set_cons_succ]
      refine rg_take 9 rfl (by kernel_rfl) (by kernel_rfl) (by kernel_rfl) (fun _ _ _ _ h => h) (by rfl) ⟨_, fun w' hx => by (go_simp <;> with_reducible rfl), ?_⟩
      simp only [Act.put, List.setIfInBounds_toArray, List.set_cons_zero, List.set_cons_succ]
      refine rg_take 10 rfl (by kernel_rfl) (by kernel_rfl) (by kernel_rfl) (fun _ _ _ _ h => h) (by rfl) ⟨.int .i64 (b : Int), fun w' hx => by (go_simp <;> with_reducible rfl), ?_⟩
      simp only [Act.put, List.setIfInBounds_toArray, List.set_cons_zero, List.set_cons_succ]
      refine rg_take 11 rfl (by kernel_rfl) (by kernel_rfl) (by kernel_rfl) (fun _ _ _ _ h => h) (by rfl) ⟨_, fun w' hx => by (go_simp <;> with_reducible rfl), ?_⟩
      simp only [Act.put, List.setIfInBounds_toArray, List.set_cons_zero, List.set_cons_succ]
      refine rg_take 12 rfl (by kernel_rfl) (by kernel_rfl) (by kernel_rfl) (fun _ _ _ _ h => h) (by rfl) ⟨_, fun w' hx => by (go_simp <;> with_reducible rfl), ?_⟩
      simp only [Act.put, List.setIfInBounds_toArray, List.set_cons_zero, List.set_cons_succ]
      refine rg_done (by kernel_rfl) ?_
      go_wp2_with fail
      refine Hdg.out.mono ?_
      clear Hdg
      rintro e w3 ⟨rfl, hb3⟩
      have hz := Ent.digest_len (D.map EnV.x)
      obtain ⟨z, hz0⟩ : ∃ z, z = Ent.digest (D.map EnV.x) := ⟨_, rfl⟩
      rw [← hz0] at hz ⊢
      have HZ0 := Lib.hid hz0
      have hx3 := Ext.tr hxd hb3
      have hP3 := hPd.ext hb3
      have hzb : (bvs z).length = 32 := by rw [bvs_len, hz]
      have hzz : (bvs z).toArray.size = 32 := by rw [List.size_toArray, hzb]
      obtain ⟨p, hp⟩ : ∃ p : PtV, p = ⟨L, cl, H, ch, ⟨lo, hi, ((b - a : Nat) : Int), z⟩⟩ := ⟨_, rfl⟩
      have hps : p.x.sum.length = 32 := by rw [hp]; exact hz
      have HPC : Hid (p.cells = #[.slice L lo.length cl, .slice H hi.length ch, .int .i64 ((b - a : Nat) : Int)] ++ (bvs z).toArray) := by show _ = _; rw [hp]; rfl
      have HP := Lib.hid hp
      have hjT : j < T.length := by omega
      have HADJ : Hid (ad.add (j * 35) = ⟨g, j * 35, none⟩) := by show _ = _; rw [HAD.out, Addr.add_lit, Nat.zero_add]
      obtain ⟨T1, hT1⟩ : ∃ T1, T1 = T.set j p := ⟨_, rfl⟩
      have hc1 := hP3.set_cells hjT p hps
      have hP4 := hP3.set_row (k := j) p hps
      rw [← hT1] at hc1 hP4
      have hT1l : T1.length = k := by rw [hT1, List.length_set, hTl]
      have hfit1 : j * 35 + p.cells.size ≤ (pcs T).toArray.size := by rw [hP3.size, psize hps]; omega
      have hx4 : Ext w1 (w3.setRow g (pcs T1).toArray) := ext_rowD hx3 hgl _
      have HT1 := Lib.hid hT1
      have Hc1 := Lib.hid hc1
      clear hp hz0 hT1 hc1 hb3 hPd hxd hVd hx hP hm1 hm2 hm3 hd1 hd2 hk0 hwa hwb
      rcases Nat.eq_zero_or_pos j with hj0 | hj0
      · have hgt : ¬ 0 < j := by omega
        have HJ0 := Lib.hid hj0
        clear hj0
        go_wp2_with (refine wpList_store_at rfl 33 (.tmp 58) (.tmp 57) rfl (ad.add (j * 35)) rfl g (j * 35) HADJ.out (.agg p.cells) (by show Value.agg _ = Value.agg _; rw [HPC.out]; exact congrArg Value.agg (fold35 _ _ _ _ (by rfl) (by rfl) (by rfl) (by rfl) z hz)) p.cells rfl _ _ hP3.row (pinfo hps) hfit1 (pone p) _ Hc1.out ?_)
        go_roundw
        case rel =>
          refine ⟨j + 1, T1, by omega, by go_num, hT1l, hP4, fun r h1 h2 => ?_, hx4⟩
          have hr : r = j := by have := HJ0.out; omega
          subst hr
          have e1 : T1[r] = p := by simp [HT1.out]
          rw [e1, HP.out]
          refine ⟨?_, hL, hH, hcl, hch, hz, by show -9223372036854775808 ≤ ((b - a : Nat) : Int); omega, by show ((b - a : Nat) : Int) ≤ 9223372036854775807; omega⟩
          unfold Spl.part
          rw [if_neg (by have := HJ0.out; omega), if_neg (by omega), HXL.out, ← HA.out.1, ← HA.out.2, hDx.out, ← HZ0.out]
        case measure => simp [intOf]; omega
      · have hgt : decide ((0 : Int) < (j : Int)) = true := by simp; omega
        have hD4 := hD1.below hx4
        have hlt := Hlt.out hj0
        have hDp : 0 < D.length := by rw [HDl.out]; omega
        obtain ⟨ad2, rfl, hcell, _⟩ := hD4.at_ hDp
        have hkey := hD0.out hDp
        have hein := hVold _ (hDV _ (List.getElem_mem hDp))
        have kc4 : (w3.setRow g (pcs T1).toArray).cell? ad2 = some (.slice D[0].ka D[0].x.key.length D[0].kc) := hcell 0 _ rfl
        obtain ⟨e, he⟩ : ∃ e, e = D[0] := ⟨_, rfl⟩
        rw [← he] at hkey hein kc4
        obtain ⟨jm, hjm⟩ : ∃ jm, jm = j - 1 := ⟨_, rfl⟩
        have hjm1 : (j : Int) - 1 = (jm : Int) := by omega
        have hjmk : jm < k := by omega
        obtain ⟨p2, hp2⟩ : ∃ p2 : PtV, p2 = ⟨e.ka, e.kc, p.ha, p.hc, ⟨e.x.key, p.x.hi, p.x.count, p.x.sum⟩⟩ := ⟨_, rfl⟩
        have hj1T : j < T1.length := by omega
        have e1 : T1[j] = p := by simp [HT1.out]
        have hs2 : p2.x.sum.length = 32 := by rw [hp2]; exact hps
        have hc2 := hP4.set_cell hj1T p2 hs2 0 (by omega) (.slice e.ka e.x.key.length e.kc) (by rw [e1, hp2]; exact PtV.set_lo _ _ _ _)
        have hP5 := hP4.set_row (k := j) p2 hs2
        obtain ⟨T2, hT2⟩ : ∃ T2, T2 = T1.set j p2 := ⟨_, rfl⟩
        rw [← hT2] at hc2 hP5
        have hT2l : T2.length = k := by rw [hT2, List.length_set, hT1l]
        have hx5 : Ext w1 ((w3.setRow g (pcs T1).toArray).setRow g (pcs T2).toArray) := ext_rowD hx4 hgl _
        obtain ⟨_, hadd, hcell5, _⟩ := (hD1.below hx5).at_ hDp
        injection hadd with hadd
        subst hadd
        have kc5 : ((w3.setRow g (pcs T1).toArray).setRow g (pcs T2).toArray).cell? ad2 = some (.slice e.ka e.x.key.length e.kc) := by rw [he]; exact hcell5 0 _ rfl
        have hjm2 : jm < T2.length := by omega
        have hjmT : jm < T.length := by omega
        have e2 : T2[jm] = T[jm] := by simp only [hT2, HT1.out]; rw [List.getElem_set_ne (by omega), List.getElem_set_ne (by omega)]
        have hq := (HT.out jm hjmT (by omega)).2
        obtain ⟨q, hqq⟩ : ∃ q, q = T[jm] := ⟨_, rfl⟩
        obtain ⟨p3, hp3⟩ : ∃ p3 : PtV, p3 = ⟨q.la, q.lc, e.ka, e.kc, ⟨q.x.lo, e.x.key, q.x.count, q.x.sum⟩⟩ := ⟨_, rfl⟩
        have hs3 : p3.x.sum.length = 32 := by rw [hp3]; show q.x.sum.length = 32; rw [hqq]; exact hq.sum
        have hc3 := hP5.set_cell hjm2 p3 hs3 1 (by omega) (.slice e.ka e.x.key.length e.kc) (by rw [e2, ← hqq, hp3]; exact PtV.set_hi _ _ _ _)
        have hP6 := hP5.set_row (k := jm) p3 hs3
        obtain ⟨T3, hT3⟩ : ∃ T3, T3 = T2.set jm p3 := ⟨_, rfl⟩
        rw [← hT3] at hc3 hP6
        have hT3l : T3.length = k := by rw [hT3, List.length_set, hT2l]
        have hx6 : Ext w1 (((w3.setRow g (pcs T1).toArray).setRow g (pcs T2).toArray).setRow g (pcs T3).toArray) := ext_rowD hx5 hgl _
        have HADM : Hid ((⟨(ad.add (jm * 35)).block, (ad.add (jm * 35)).off + 1, none⟩ : Addr) = ⟨g, jm * 35 + 1, none⟩) := by show _ = _; rw [HAD.out, Addr.add_lit, Nat.zero_add]
        have hf2 : j * 35 + 0 + 1 ≤ (pcs T1).toArray.size := by rw [hP4.size]; omega
        have hf3 : jm * 35 + 1 + 1 ≤ (pcs T2).toArray.size := by rw [hP5.size]; omega
        have hik : (j : Int) < (k : Int) := by omega
        have hik2 : (jm : Int) < (k : Int) := by omega
        have hbd0 : (0 : Int) < ((b - a : Nat) : Int) := by omega
        have HE := Lib.hid he
        have HP2 := Lib.hid hp2
        have HP3 := Lib.hid hp3
        have HQQ := Lib.hid hqq
        have HT2 := Lib.hid hT2
        have HT3 := Lib.hid hT3
        have Hc2 := Lib.hid hc2
        have Hc3 := Lib.hid hc3
        have HJM := Lib.hid hjm
        have Hkey := Lib.hid hkey
        clear he hp2 hp3 hqq hT2 hT3 hc2 hc3 hjm hkey e1 e2 hcell hcell5
        go_wp2_with (first | (refine wpList_store_at rfl 33 (.tmp 58) (.tmp 57) rfl (ad.add (j * 35)) rfl g (j * 35) HADJ.out (.agg p.cells) (by show Value.agg _ = Value.agg _; rw [HPC.out]; exact congrArg Value.agg (fold35 _ _ _ _ (by rfl) (by rfl) (by rfl) (by rfl) z hz)) p.cells rfl _ _ hP3.row (pinfo hps) hfit1 (pone p) _ Hc1.out ?_) | (refine wpList_store_at rfl 23 (.tmp 68) (.tmp 66) rfl (ad.add (j * 35)) rfl g (j * 35 + 0) HADJ.out (.slice e.ka e.x.key.length e.kc) rfl #[.slice e.ka e.x.key.length e.kc] rfl _ _ hP4.row (by kernel_rfl) hf2 (by simp [Value.oneCell']) _ Hc2.out ?_) | (refine wpList_store_at rfl 23 (.tmp 77) (.tmp 75) rfl ⟨(ad.add (jm * 35)).block, (ad.add (jm * 35)).off + 1, none⟩ rfl g (jm * 35 + 1) HADM.out (.slice e.ka e.x.key.length e.kc) rfl #[.slice e.ka e.x.key.length e.kc] rfl _ _ hP5.row (by kernel_rfl) hf3 (by simp [Value.oneCell']) _ Hc3.out ?_))
        go_roundw
        case rel =>
          refine ⟨j + 1, T3, by omega, by go_num, hT3l, hP6, fun r h1 h2 => ?_, hx6⟩
          have hzr : -9223372036854775808 ≤ ((b - a : Nat) : Int) ∧ ((b - a : Nat) : Int) ≤ 9223372036854775807 := by omega
          by_cases hr : r = j
          · subst hr
            have e3 : T3[r] = p2 := by simp only [HT3.out, HT2.out]; rw [List.getElem_set_ne (by have := HJM.out; omega), List.getElem_set_self]
            rw [e3, HP2.out, HP.out]
            refine ⟨?_, hein.kr, hH, hein.kcap, hch, hz, hzr.1, hzr.2⟩
            unfold Spl.part
            rw [if_pos hj0, if_neg (by omega), HXL.out, ← HA.out.1, ← HA.out.2, hDx.out, ← HZ0.out, Hkey.out]
          · by_cases hr2 : r = jm
            · subst hr2
              have e3 : T3[r] = p3 := by simp only [HT3.out]; rw [List.getElem_set_self]
              have hqx := (HT.out r hjmT (by have := HJM.out; omega)).1
              rw [← HQQ.out] at hqx hq
              rw [e3, HP3.out]
              refine ⟨?_, hq.lr, hein.kr, hq.lcap, hein.kcap, hq.sum, hq.clo, hq.chi⟩
              rw [hqx]
              have hrj : r + 1 = j := by have := HJM.out; omega
              unfold Spl.part
              rw [if_pos (show r + 1 < j + 1 by omega), hrj, HXL.out, ← HA.out.1, Hkey.out]
            · have hrT : r < T.length := by omega
              have e3 : T3[r] = T[r] := by simp only [HT3.out, HT2.out, HT1.out]; rw [List.getElem_set_ne (by omega), List.getElem_set_ne (by omega), List.getElem_set_ne (by omega)]
              rw [e3]
              obtain ⟨k1, k2⟩ := HT.out r hrT (by omega)
              refine ⟨?_, k2⟩
              rw [k1]
              unfold Spl.part
              rw [if_pos (show r + 1 < j by have := HJM.out; omega), if_pos (show r + 1 < j + 1 by omega)]
        case measure => simp [intOf]; omega
    · have hjk : j = k := by omega
      go_wp2
      go_ret
      refine ⟨some ad, k, T, by rw [hTl]; rfl, ?_, ?_, by omega, Ext.tr hb1 hx⟩
      · unfold Spl.split
        rw [← HXV.out, ← HX.out, HXL.out, ← Hk.out]
        apply List.ext_getElem (by simp [hTl])
        intro r h1 h2
        have h3 := (HT.out r (by simpa using h1) (by rw [hjk, ← hTl]; simpa using h1)).1
        rw [hjk] at h3
        simpa using h3
      · rw [HAD.out]
        refine hP.rd fun p hp => ?_
        obtain ⟨r, hr, rfl⟩ := List.getElem_of_mem hp
        exact (HT.out r hr (by omega)).2.below (Ext.tr hb1 hx)
end Go.Proofs.Ytiiekdhlcmaabaa
