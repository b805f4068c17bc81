
/- Contract: a range cut into parts, the document's (scowref18.Split). Printed by wip/tools/gen_splitref18.py. -/

import Derived.Test.YtiiekdhlcmaabaaSplSplit

namespace Go.Proofs.Ytiiekdhlcmaabaa

open Go.RowKit

attribute [local go_sem] Oper.semAt_some

theorem PtV.put_lo (p : PtV) (hp : p.x.sum.length = 32) (A : Option Addr) (c : Nat) (bs : List UInt8) : (p.cells.toList.take 0 ++ #[Value.slice A bs.length c].toList ++ p.cells.toList.drop (0 + #[Value.slice A bs.length c].size)).toArray = (⟨A, c, p.ha, p.hc, ⟨bs, p.x.hi, p.x.count, p.x.sum⟩⟩ : PtV).cells := by
  refine Eq.trans ?_ (PtV.set_lo p A c bs)
  apply Array.ext'
  rw [Array.toList_setIfInBounds, List.set_eq_take_append_cons_drop, if_pos (by rw [pcell_len hp]; omega), List.append_assoc]
  rfl
theorem PtV.put_hi (p : PtV) (hp : p.x.sum.length = 32) (A : Option Addr) (c : Nat) (bs : List UInt8) : (p.cells.toList.take 1 ++ #[Value.slice A bs.length c].toList ++ p.cells.toList.drop (1 + #[Value.slice A bs.length c].size)).toArray = (⟨p.la, p.lc, A, c, ⟨p.x.lo, bs, p.x.count, p.x.sum⟩⟩ : PtV).cells := by
  refine Eq.trans ?_ (PtV.set_hi p A c bs)
  apply Array.ext'
  rw [Array.toList_setIfInBounds, List.set_eq_take_append_cons_drop, if_pos (by rw [pcell_len hp]; omega), List.append_assoc]
  rfl

set_option maxRecDepth 100000 in
set_option maxHeartbeats 4000000 in
theorem ref_split (A : Option Addr) (l : List EnV) (cap : Nat) (L H : Option Addr) (lo hi : List UInt8) (cl ch : Nat) (ways : Int) (w : World) (hl : RdE w A l) (hf : Fit l) (hL : RdB w L lo) (hH : RdB w H hi) (hcl : lo.length ≤ cl) (hch : hi.length ≤ ch) :
    Calls Try.prog 13 #[.slice A l.length cap, .slice L lo.length cl, .slice H hi.length ch, .int .i64 ways] w fun e w' => ∃ A' c' T, e = .returned (.slice A' T.length c') ∧ T.map PtV.x = Spl.split (l.map EnV.x) lo hi ways ∧ RdP w' A' T ∧ T.length ≤ c' ∧ Below w.heap.size w w' := by
  have hlen := hf.len
  have hB := ref_between A l cap L H lo hi cl ch w hl (by omega) hL hH
  go_enter Try.func13, Try.ntmps13
  go_wp2_with fail
  refine hB.mono ?_
  clear hB
  rintro e w1 ⟨A1, c1, rfl, ho1, hb1⟩
  have hV : RdE w1 A1 (betV l lo hi) := ho1.rdE fun e he => (hl.each e (betV_mem he)).below hb1
  have hVold : ∀ e ∈ betV l lo hi, e.In w := fun e he => hl.each e (betV_mem he)
  have hfV := hf.bet lo hi
  have hn1 := ho1.nc
  have hXV := betV_map l lo hi
  obtain ⟨V, hVV⟩ : ∃ V, V = betV l lo hi := ⟨_, rfl⟩
  rw [← hVV] at hV hVold hfV hn1 hXV ⊢
  obtain ⟨n, hn⟩ : ∃ n, n = V.length := ⟨_, rfl⟩
  rw [← hn] at hn1 ⊢
  have hn5 := hfV.len
  rw [← hn] at hn5
  obtain ⟨k, hk⟩ : ∃ k, k = Spl.k n ways := ⟨_, rfl⟩
  have hkm := Spl.k_is n ways
  have hk1 := Spl.k_pos n ways
  have hk8 := Spl.k_le n ways
  have hkn := Spl.k_n n ways
  rw [← hk] at hkm hk1 hk8 hkn
  obtain ⟨q1, hq1⟩ : ∃ q1 : Int, (if ways < (n : Int) then ways else (n : Int)) = q1 := ⟨_, rfl⟩
  obtain ⟨q2, hq2⟩ : ∃ q2 : Int, (if (8 : Int) < q1 then (8 : Int) else q1) = q2 := ⟨_, rfl⟩
  have hq3 : (if (1 : Int) < q2 then q2 else (1 : Int)) = (k : Int) := by
    rw [← hkm, ← hq2, ← hq1]
    omega
  clear hkm
  have HVV := Lib.hid hVV
  have Hn := Lib.hid hn
  have Hk := Lib.hid hk
  have HXV := Lib.hid hXV
  have Hkn := Lib.hid hkn
  have HfV := Lib.hid hfV
  clear hVV hn hk ho1 hl hf hXV hkn hfV
  go_wp2_with fail
  clear hq1 hq2 hq3
  obtain ⟨X, hX⟩ : ∃ X, X = V.map EnV.x := ⟨_, rfl⟩
  have hXl : X.length = n := by rw [hX, List.length_map, Hn.out]
  have HX := Lib.hid hX
  have HXL := Lib.hid hXl
  clear hX hXl
  go_loopw [12, 13] (fun v i wr => ∃ (j : Nat) (T : List PtV) (A' : Option Addr) (c' : Nat), j ≤ k ∧ i = .int .i64 j ∧ v = .slice A' T.length c' ∧ T.length = j ∧ Own wr w1.heap.size 33 35 A' T.length c' (pcs T) ∧ (∀ r (h : r < T.length), T[r].x = Spl.part X lo hi k k r ∧ T[r].In w) ∧ Ext w1 wr) (fun _ i _ => k - (intOf i).toNat)
  case atStart => exact ⟨0, [], none, 0, by omega, rfl, rfl, rfl, Own.none_ _ _ _ _ _, fun r h => absurd h (by simp), Ext.refl _⟩
  case round =>
    obtain ⟨j, T, AT, cT, hj, rfl, rfl, hTl, hown, hT, hx⟩ := hrel
    have HT := Lib.hid hT
    clear hT
    by_cases h : j < k
    · have hxd := Ext.tr hx (Ext.drew wr)
      have hVd := hV.below hxd
      have hownd := hown.below (Ext.drew wr)
      obtain ⟨jn, hjn⟩ : ∃ q, q = j * n := ⟨_, rfl⟩
      obtain ⟨j1, hj1⟩ : ∃ q, q = j + 1 := ⟨_, rfl⟩
      obtain ⟨jn1, hjn1⟩ : ∃ q, q = j1 * n := ⟨_, rfl⟩
      obtain ⟨a, ha⟩ : ∃ q, q = jn / k := ⟨_, rfl⟩
      obtain ⟨b, hb⟩ : ∃ q, q = jn1 / k := ⟨_, rfl⟩
      have jb : jn ≤ 40000 := by rw [hjn]; exact Nat.le_trans (Nat.mul_le_mul (show j ≤ 8 by omega) hn5) (by decide)
      have jb1 : jn1 ≤ 40000 := by rw [hjn1]; exact Nat.le_trans (Nat.mul_le_mul (show j1 ≤ 8 by omega) hn5) (by decide)
      have hm1 : IntKind.i64.wrap ((j : Int) * (n : Int)) = (jn : Int) := by rw [hjn, Int.natCast_mul]; exact wrap_i ⟨by rw [← Int.natCast_mul, ← hjn]; omega, by rw [← Int.natCast_mul, ← hjn]; omega⟩
      have hm2 : IntKind.i64.wrap ((j : Int) + 1) = (j1 : Int) := by rw [hj1, Int.natCast_add]; exact wrap_i ⟨by omega, by omega⟩
      have hm3 : IntKind.i64.wrap ((j1 : Int) * (n : Int)) = (jn1 : Int) := by rw [hjn1, Int.natCast_mul]; exact wrap_i ⟨by rw [← Int.natCast_mul, ← hjn1]; omega, by rw [← Int.natCast_mul, ← hjn1]; omega⟩
      have hd1 : Int.tdiv (jn : Int) (k : Int) = (a : Int) := by rw [ha, Int.ofNat_tdiv]
      have hd2 : Int.tdiv (jn1 : Int) (k : Int) = (b : Int) := by rw [hb, Int.ofNat_tdiv]
      have hk0 : ¬ k = 0 := by omega
      have hab : a ≤ b := by rw [ha, hb, hjn, hjn1, hj1]; exact Spl.cut_mono n k (Nat.le_succ j)
      have hbn : b ≤ n := by rw [hb, hjn1]; exact Spl.cut_le n k j1 (by rw [hj1]; exact h) hk1
      have hlt : 0 < j → a < b := fun h0 => by
        rw [ha, hb, hjn, hjn1, hj1]
        rcases Hkn.out with h1 | h1
        · exact absurd (Nat.lt_of_lt_of_eq h h1) (Nat.not_lt.2 h0)
        · exact Spl.cut_lt n k j hk1 h1
      have hwa : IntKind.i64.wrap (a : Int) = (a : Int) := wrap_i ⟨by omega, by omega⟩
      have hwb : IntKind.i64.wrap (b : Int) = (b : Int) := wrap_i ⟨by omega, by omega⟩
      have HA : Hid (a = j * n / k ∧ b = (j + 1) * n / k) := ⟨by rw [ha, hjn], by rw [hb, hjn1, hj1]⟩
      have Hlt := Lib.hid hlt
      have Hj1 := Lib.hid hj1
      clear hjn hjn1 ha hb jb jb1 hlt hj1
      obtain ⟨D, hD⟩ : ∃ D, D = (V.take b).drop a := ⟨_, rfl⟩
      have hDl : D.length = b - a := by rw [hD, List.length_drop, List.length_take, ← Hn.out, Nat.min_eq_left hbn]
      have hD1 := hV.cut hab (by rw [← Hn.out]; exact hbn) (Nat.le_refl b)
      have hDV : ∀ e ∈ D, e ∈ V := fun e he => by rw [hD] at he; exact List.mem_of_mem_take (List.mem_of_mem_drop he)
      have hfD : Fit D := HfV.out.sub (by rw [hD]; exact (List.drop_sublist _ _).trans (List.take_sublist _ _))
      obtain ⟨A2, hA2⟩ : ∃ A2 : Option Addr, A2 = (if c1 = a then A1 else Option.map (fun x => x.add (a * 2)) A1) := ⟨_, rfl⟩
      have hD1 := hV.cut hab (by rw [← Hn.out]; exact hbn) (show b ≤ c1 by omega)
      rw [← hD, ← hA2] at hD1
      have hDx : Hid (Ent.digest ((X.take b).drop a) = Ent.digest (D.map EnV.x)) := by
        show _ = _
        rw [hD, HX.out, List.map_drop, List.map_take]
      have hA2' := hA2.symm
      have hdg := ref_edigest A2 D (c1 - a) wr.drew (hD1.below hxd) (by have := hfD.len; omega) hfD.total hfD.putAll
      rw [hDl] at hdg
      have Hdg := Lib.hid hdg
      have hbma : (b : Int) - (a : Int) = ((b - a : Nat) : Int) := by omega
      have hVk : ∀ i, i < n → ∃ e : EnV, e.In w ∧ e.x.key = keyAt X i ∧ ∀ W, Ext w1 W → ∃ adv, A1 = some adv ∧ W.cell? (adv.add (i * 2)) = some (.slice e.ka e.x.key.length e.kc) := fun i hi => by
        have hiV : i < V.length := by rw [← Hn.out]; exact hi
        refine ⟨V[i], hVold _ (List.getElem_mem hiV), ?_, fun W hW => ?_⟩
        · unfold keyAt
          rw [HX.out, List.getElem?_map, List.getElem?_eq_getElem hiV]; rfl
        · obtain ⟨adv, h1, h2, _⟩ := (hV.below hW).at_ hiV
          exact ⟨adv, h1, key_at h2⟩
      have HVk := Lib.hid hVk
      have hbl : j + 1 < k → b < n := fun h0 => by
        have hb2 := HA.out.2
        rcases Hkn.out with h1 | h1
        · omega
        · have h3 := Spl.cut_lt n k (j + 1) hk1 h1
          have h4 := Spl.cut_le n k (j + 1 + 1) (by omega) hk1
          omega
      have Hbl := Lib.hid hbl
      clear hD hA2 hdg hfD hDl hVk hbl hDV hVold
      go_wp2_with fail
      refine rg_start (by kernel_rfl) ?_
      refine rg_take 0 rfl (by kernel_rfl) (by kernel_rfl) (by kernel_rfl) (fun _ _ _ _ h => h) (by rfl) ⟨_, fun w' hx => by (go_simp <;> with_reducible rfl), ?_⟩
      simp only [Act.put, List.setIfInBounds_toArray, List.set_cons_zero, List.set_cons_succ]
      refine rg_take 1 rfl (by kernel_rfl) (by kernel_rfl) (by kernel_rfl) (fun _ _ _ _ h => h) (by rfl) ⟨_, fun w' hx => by (go_simp <;> with_reducible rfl), ?_⟩
      simp only [Act.put, List.setIfInBounds_toArray, List.set_cons_zero, List.set_cons_succ]
      refine rg_take 2 rfl (by kernel_rfl) (by kernel_rfl) (by kernel_rfl) (fun _ _ _ _ h => h) (by rfl) ⟨.int .i64 (jn : Int), fun w' hx => by (go_simp <;> with_reducible rfl), ?_⟩
      simp only [Act.put, List.setIfInBounds_toArray, List.set_cons_zero, List.set_cons_succ]
      refine rg_take 3 rfl (by kernel_rfl) (by kernel_rfl) (by kernel_rfl) (fun _ _ _ _ h => h) (by rfl) ⟨_, fun w' hx => by (go_simp <;> with_reducible rfl), ?_⟩
      simp only [Act.put, List.setIfInBounds_toArray, List.set_cons_zero, List.set_cons_succ]
      refine rg_take 4 rfl (by kernel_rfl) (by kernel_rfl) (by kernel_rfl) (fun _ _ _ _ h => h) (by rfl) ⟨.int .i64 (a : Int), fun w' hx => by (go_simp <;> with_reducible rfl), ?_⟩
      simp only [Act.put, List.setIfInBounds_toArray, List.set_cons_zero, List.set_cons_succ]
      refine rg_take 5 rfl (by kernel_rfl) (by kernel_rfl) (by kernel_rfl) (fun _ _ _ _ h => h) (by rfl) ⟨_, fun w' hx => by (go_simp <;> with_reducible rfl), ?_⟩
      simp only [Act.put, List.setIfInBounds_toArray, List.set_cons_zero, List.set_cons_succ]
      refine rg_take 6 rfl (by kernel_rfl) (by kernel_rfl) (by kernel_rfl) (fun _ _ _ _ h => h) (by rfl) ⟨.int .i64 (j1 : Int), fun w' hx => by (go_simp <;> with_reducible rfl), ?_⟩
      simp only [Act.put, List.setIfInBounds_toArray, List.set_cons_zero, List.set_cons_succ]
      refine rg_take 7 rfl (by kernel_rfl) (by kernel_rfl) (by kernel_rfl) (fun _ _ _ _ h => h) (by rfl) ⟨_, fun w' hx => by (go_simp <;> with_reducible rfl), ?_⟩
      simp only [Act.put, List.setIfInBounds_toArray, List.set_cons_zero, List.set_cons_succ]
      refine rg_take 8 rfl (by kernel_rfl) (by kernel_rfl) (by kernel_rfl) (fun _ _ _ _ h => h) (by rfl) ⟨.int .i64 (jn1 : Int), fun w' hx => by (go_simp <;> with_reducible rfl), ?_⟩
      simp only [Act.put, List.setIfInBounds_toArray, List.set_cons_zero, List.set_cons_succ]
      refine rg_take 9 rfl (by kernel_rfl) (by kernel_rfl) (by kernel_rfl) (fun _ _ _ _ h => h) (by rfl) ⟨_, fun w' hx => by (go_simp <;> with_reducible rfl), ?_⟩
      simp only [Act.put, List.setIfInBounds_toArray, List.set_cons_zero, List.set_cons_succ]
      refine rg_take 10 rfl (by kernel_rfl) (by kernel_rfl) (by kernel_rfl) (fun _ _ _ _ h => h) (by rfl) ⟨.int .i64 (b : Int), fun w' hx => by (go_simp <;> with_reducible rfl), ?_⟩
      simp only [Act.put, List.setIfInBounds_toArray, List.set_cons_zero, List.set_cons_succ]
      refine rg_take 11 rfl (by kernel_rfl) (by kernel_rfl) (by kernel_rfl) (fun _ _ _ _ h => h) (by rfl) ⟨_, fun w' hx => by (go_simp <;> with_reducible rfl), ?_⟩
      simp only [Act.put, List.setIfInBounds_toArray, List.set_cons_zero, List.set_cons_succ]
      refine rg_take 12 rfl (by kernel_rfl) (by kernel_rfl) (by kernel_rfl) (fun _ _ _ _ h => h) (by rfl) ⟨_, fun w' hx => by (go_simp <;> with_reducible rfl), ?_⟩
      simp only [Act.put, List.setIfInBounds_toArray, List.set_cons_zero, List.set_cons_succ]
      refine rg_done (by kernel_rfl) ?_
      go_wp2_with fail
      refine Hdg.out.mono ?_
      clear Hdg
      rintro e w3 ⟨rfl, hb3⟩
      have hz := Ent.digest_len (D.map EnV.x)
      obtain ⟨z, hz0⟩ : ∃ z, z = Ent.digest (D.map EnV.x) := ⟨_, rfl⟩
      rw [← hz0] at hz ⊢
      have HZ0 := Lib.hid hz0
      have hx3 := Ext.tr hxd hb3
      have hown3 := hownd.below hb3
      rw [hTl] at hown3
      have hzb : (bvs z).length = 32 := by rw [bvs_len, hz]
      have hzz : (bvs z).toArray.size = 32 := by rw [List.size_toArray, hzb]
      obtain ⟨p, hp⟩ : ∃ p : PtV, p = ⟨L, cl, H, ch, ⟨lo, hi, ((b - a : Nat) : Int), z⟩⟩ := ⟨_, rfl⟩
      have hps : p.x.sum.length = 32 := by rw [hp]; exact hz
      have HPC : Hid (p.cells = #[.slice L lo.length cl, .slice H hi.length ch, .int .i64 ((b - a : Nat) : Int)] ++ (bvs z).toArray) := by show _ = _; rw [hp]; rfl
      have HP := Lib.hid hp
      have hzr : -9223372036854775808 ≤ ((b - a : Nat) : Int) ∧ ((b - a : Nat) : Int) ≤ 9223372036854775807 := by omega
      have hTb : T.length + 1 ≤ 20 := by omega
      clear hp hz0 hb3 hxd hVd hx hm1 hm2 hm3 hd1 hd2 hk0 hwa hwb hownd hown
      by_cases hj0 : 0 < j
      · by_cases hj1k : j + 1 < k
        · have hj1i : (j : Int) + 1 < (k : Int) := by omega
          have hlt := Hlt.out hj0
          obtain ⟨e, hein, hkey, hcl3⟩ := HVk.out a (by omega)
          obtain ⟨p2, hp2⟩ : ∃ p2 : PtV, p2 = ⟨e.ka, e.kc, p.ha, p.hc, ⟨e.x.key, p.x.hi, p.x.count, p.x.sum⟩⟩ := ⟨_, rfl⟩
          have hs2 : p2.x.sum.length = 32 := by rw [hp2]; exact hps
          have hc2 := PtV.set_lo p e.ka e.kc e.x.key
          rw [← hp2] at hc2
          obtain ⟨adv, hA1, kca⟩ := hcl3 _ (Ext.tr hx3 (Ext.alloc w3 (.cells p.cells 33)))
          subst hA1
          have haI : (a : Int) < (n : Int) := by omega
          have hq0 := pc0 p
          have HP2 := Lib.hid hp2
          have Hkey := Lib.hid hkey
          clear hp2 hkey hcl3
          obtain ⟨f, hfin, hfkey, hcl4⟩ := HVk.out b (Hbl.out hj1k)
          obtain ⟨p3, hp3⟩ : ∃ p3 : PtV, p3 = ⟨p2.la, p2.lc, f.ka, f.kc, ⟨p2.x.lo, f.x.key, p2.x.count, p2.x.sum⟩⟩ := ⟨_, rfl⟩
          have hs3 : p3.x.sum.length = 32 := by rw [hp3]; exact hs2
          have hc3 := PtV.set_hi p2 f.ka f.kc f.x.key
          rw [← hp3] at hc3
          obtain ⟨adw, hA1, kcb⟩ := hcl4 _ (Ext.tr hx3 (Ext.alloc w3 (.cells p2.cells 33)))
          injection hA1 with hA1
          subst hA1
          have hbI : (b : Int) < (n : Int) := by have := Hbl.out hj1k; omega
          have hq1 := pc1 p2
          have HP3 := Lib.hid hp3
          have Hfkey := Lib.hid hfkey
          clear hp3 hfkey hcl4
          have hEQ := Ext.tr (Ext.alloc w3 (.cells p3.cells 33)) (Ext.alloc (w3.alloc (.cells p3.cells 33)) (.cells p3.cells 33))
          have hownQ := hown3.below hEQ
          have hrQ : Rd ((w3.alloc (.cells p3.cells 33)).alloc (.cells p3.cells 33)) 35 (some ⟨(w3.alloc (.cells p3.cells 33)).heap.size, 0, none⟩) 1 p3.cells.toList := ⟨by rw [pcell_len hs3], fun _ => ⟨_, rfl, fun j u hj => by
            rw [Addr.add_lit, cell_of_row _ _ _ _ _ _ (heap_alloc_new (w3.alloc (.cells p3.cells 33)) (.cells p3.cells 33)), Nat.zero_add]; simpa using hj⟩⟩
          have hszQ : w1.heap.size ≤ ((w3.alloc (.cells p3.cells 33)).alloc (.cells p3.cells 33)).heap.size := (Ext.tr hx3 hEQ).size
          have hsQ := psize hs3
          go_wp2_with (first | (refine wpList_store_row rfl 33 (.tmp 16) (.tmp 54) rfl w3.heap.size p.cells rfl (by show Value.agg _ = _; rw [HPC.out]; exact congrArg Value.agg (fold35 _ _ _ _ (by rfl) (by rfl) (by rfl) (by rfl) z hz)) 33 _ (heap_alloc_new w3 _) (pinfo hps) (by rw [psize hps]; rfl) (pone p) ?_; rw [setRow_alloc]) | (refine wpList_load_row rfl 33 (.tmp 16) rfl w3.heap.size rfl 33 p3.cells (0, 0) _ (heap_alloc_new w3 _) Try.underlying33 rfl (pinfo hs3) ?_) | (refine wpList_buildOne rfl 27 (.tmp 74) rfl elemP p3.cells rfl hsQ (by decide) ?_; refine wpList_app rfl (.tmp 73) (.tmp 75) 27 rfl elemP w1.heap.size AT j cT (pcs T) rfl _ 1 1 p3.cells.toList rfl (j + 1) rfl (pcs (T ++ [p3])) (by simp [pcs]) hownQ hrQ (fun u hu => (Array.all_eq_true_iff_forall_mem.1 (pone p3)) u (by simpa using hu)) (by omega) (by omega) hszQ ?_; intro A5 c5 w5 ho5 hg5 hr5))
          go_roundw
          case rel =>
            have hx5 : Ext w1 w5 := below_app (Ext.tr hx3 hEQ) hownQ hg5 hszQ
            refine ⟨j + 1, T ++ [p3], A5, c5, by omega, by go_num, by rw [List.length_append, hTl]; rfl, by simp [hTl], by rw [List.length_append, hTl]; exact ho5, fun r h1 => ?_, hx5⟩
            by_cases hr : r < T.length
            · have e3 : (T ++ [p3])[r] = T[r] := List.getElem_append_left hr
              rw [e3]
              exact HT.out r hr
            · have hr2 : r = j := by simp at h1; omega
              have e3 : (T ++ [p3])[r] = p3 := by rw [List.getElem_append_right (by omega)]; simp
              rw [e3, HP3.out, HP2.out, HP.out, hr2]
              refine ⟨?_, hein.kr, hfin.kr, hein.kcap, hfin.kcap, hz, hzr.1, hzr.2⟩
              unfold Spl.part
              rw [if_pos hj0, if_pos hj1k, HXL.out, ← HA.out.1, ← HA.out.2, hDx.out, ← HZ0.out, Hkey.out, Hfkey.out]
          case measure => simp [intOf]; omega
        · have hj1i : ¬ (j : Int) + 1 < (k : Int) := by omega
          have hlt := Hlt.out hj0
          obtain ⟨e, hein, hkey, hcl3⟩ := HVk.out a (by omega)
          obtain ⟨p2, hp2⟩ : ∃ p2 : PtV, p2 = ⟨e.ka, e.kc, p.ha, p.hc, ⟨e.x.key, p.x.hi, p.x.count, p.x.sum⟩⟩ := ⟨_, rfl⟩
          have hs2 : p2.x.sum.length = 32 := by rw [hp2]; exact hps
          have hc2 := PtV.set_lo p e.ka e.kc e.x.key
          rw [← hp2] at hc2
          obtain ⟨adv, hA1, kca⟩ := hcl3 _ (Ext.tr hx3 (Ext.alloc w3 (.cells p.cells 33)))
          subst hA1
          have haI : (a : Int) < (n : Int) := by omega
          have hq0 := pc0 p
          have HP2 := Lib.hid hp2
          have Hkey := Lib.hid hkey
          clear hp2 hkey hcl3
          have hEQ := Ext.tr (Ext.alloc w3 (.cells p2.cells 33)) (Ext.alloc (w3.alloc (.cells p2.cells 33)) (.cells p2.cells 33))
          have hownQ := hown3.below hEQ
          have hrQ : Rd ((w3.alloc (.cells p2.cells 33)).alloc (.cells p2.cells 33)) 35 (some ⟨(w3.alloc (.cells p2.cells 33)).heap.size, 0, none⟩) 1 p2.cells.toList := ⟨by rw [pcell_len hs2], fun _ => ⟨_, rfl, fun j u hj => by
            rw [Addr.add_lit, cell_of_row _ _ _ _ _ _ (heap_alloc_new (w3.alloc (.cells p2.cells 33)) (.cells p2.cells 33)), Nat.zero_add]; simpa using hj⟩⟩
          have hszQ : w1.heap.size ≤ ((w3.alloc (.cells p2.cells 33)).alloc (.cells p2.cells 33)).heap.size := (Ext.tr hx3 hEQ).size
          have hsQ := psize hs2
          go_wp2_with (first | (refine wpList_store_row rfl 33 (.tmp 16) (.tmp 54) rfl w3.heap.size p.cells rfl (by show Value.agg _ = _; rw [HPC.out]; exact congrArg Value.agg (fold35 _ _ _ _ (by rfl) (by rfl) (by rfl) (by rfl) z hz)) 33 _ (heap_alloc_new w3 _) (pinfo hps) (by rw [psize hps]; rfl) (pone p) ?_; rw [setRow_alloc]) | (refine wpList_load_row rfl 33 (.tmp 16) rfl w3.heap.size rfl 33 p2.cells (0, 0) _ (heap_alloc_new w3 _) Try.underlying33 rfl (pinfo hs2) ?_) | (refine wpList_buildOne rfl 27 (.tmp 74) rfl elemP p2.cells rfl hsQ (by decide) ?_; refine wpList_app rfl (.tmp 73) (.tmp 75) 27 rfl elemP w1.heap.size AT j cT (pcs T) rfl _ 1 1 p2.cells.toList rfl (j + 1) rfl (pcs (T ++ [p2])) (by simp [pcs]) hownQ hrQ (fun u hu => (Array.all_eq_true_iff_forall_mem.1 (pone p2)) u (by simpa using hu)) (by omega) (by omega) hszQ ?_; intro A5 c5 w5 ho5 hg5 hr5))
          go_roundw
          case rel =>
            have hx5 : Ext w1 w5 := below_app (Ext.tr hx3 hEQ) hownQ hg5 hszQ
            refine ⟨j + 1, T ++ [p2], A5, c5, by omega, by go_num, by rw [List.length_append, hTl]; rfl, by simp [hTl], by rw [List.length_append, hTl]; exact ho5, fun r h1 => ?_, hx5⟩
            by_cases hr : r < T.length
            · have e3 : (T ++ [p2])[r] = T[r] := List.getElem_append_left hr
              rw [e3]
              exact HT.out r hr
            · have hr2 : r = j := by simp at h1; omega
              have e3 : (T ++ [p2])[r] = p2 := by rw [List.getElem_append_right (by omega)]; simp
              rw [e3, HP2.out, HP.out, hr2]
              refine ⟨?_, hein.kr, hH, hein.kcap, hch, hz, hzr.1, hzr.2⟩
              unfold Spl.part
              rw [if_pos hj0, if_neg hj1k, HXL.out, ← HA.out.1, ← HA.out.2, hDx.out, ← HZ0.out, Hkey.out]
          case measure => simp [intOf]; omega
      · by_cases hj1k : j + 1 < k
        · have hj1i : (j : Int) + 1 < (k : Int) := by omega
          obtain ⟨f, hfin, hfkey, hcl4⟩ := HVk.out b (Hbl.out hj1k)
          obtain ⟨p3, hp3⟩ : ∃ p3 : PtV, p3 = ⟨p.la, p.lc, f.ka, f.kc, ⟨p.x.lo, f.x.key, p.x.count, p.x.sum⟩⟩ := ⟨_, rfl⟩
          have hs3 : p3.x.sum.length = 32 := by rw [hp3]; exact hps
          have hc3 := PtV.set_hi p f.ka f.kc f.x.key
          rw [← hp3] at hc3
          obtain ⟨adw, hA1, kcb⟩ := hcl4 _ (Ext.tr hx3 (Ext.alloc w3 (.cells p.cells 33)))
          subst hA1
          have hbI : (b : Int) < (n : Int) := by have := Hbl.out hj1k; omega
          have hq1 := pc1 p
          have HP3 := Lib.hid hp3
          have Hfkey := Lib.hid hfkey
          clear hp3 hfkey hcl4
          have hEQ := Ext.tr (Ext.alloc w3 (.cells p3.cells 33)) (Ext.alloc (w3.alloc (.cells p3.cells 33)) (.cells p3.cells 33))
          have hownQ := hown3.below hEQ
          have hrQ : Rd ((w3.alloc (.cells p3.cells 33)).alloc (.cells p3.cells 33)) 35 (some ⟨(w3.alloc (.cells p3.cells 33)).heap.size, 0, none⟩) 1 p3.cells.toList := ⟨by rw [pcell_len hs3], fun _ => ⟨_, rfl, fun j u hj => by
            rw [Addr.add_lit, cell_of_row _ _ _ _ _ _ (heap_alloc_new (w3.alloc (.cells p3.cells 33)) (.cells p3.cells 33)), Nat.zero_add]; simpa using hj⟩⟩
          have hszQ : w1.heap.size ≤ ((w3.alloc (.cells p3.cells 33)).alloc (.cells p3.cells 33)).heap.size := (Ext.tr hx3 hEQ).size
          have hsQ := psize hs3
          go_wp2_with (first | (refine wpList_store_row rfl 33 (.tmp 16) (.tmp 54) rfl w3.heap.size p.cells rfl (by show Value.agg _ = _; rw [HPC.out]; exact congrArg Value.agg (fold35 _ _ _ _ (by rfl) (by rfl) (by rfl) (by rfl) z hz)) 33 _ (heap_alloc_new w3 _) (pinfo hps) (by rw [psize hps]; rfl) (pone p) ?_; rw [setRow_alloc]) | (refine wpList_load_row rfl 33 (.tmp 16) rfl w3.heap.size rfl 33 p3.cells (0, 0) _ (heap_alloc_new w3 _) Try.underlying33 rfl (pinfo hs3) ?_) | (refine wpList_buildOne rfl 27 (.tmp 74) rfl elemP p3.cells rfl hsQ (by decide) ?_; refine wpList_app rfl (.tmp 73) (.tmp 75) 27 rfl elemP w1.heap.size AT j cT (pcs T) rfl _ 1 1 p3.cells.toList rfl (j + 1) rfl (pcs (T ++ [p3])) (by simp [pcs]) hownQ hrQ (fun u hu => (Array.all_eq_true_iff_forall_mem.1 (pone p3)) u (by simpa using hu)) (by omega) (by omega) hszQ ?_; intro A5 c5 w5 ho5 hg5 hr5))
          go_roundw
          case rel =>
            have hx5 : Ext w1 w5 := below_app (Ext.tr hx3 hEQ) hownQ hg5 hszQ
            refine ⟨j + 1, T ++ [p3], A5, c5, by omega, by go_num, by rw [List.length_append, hTl]; rfl, by simp [hTl], by rw [List.length_append, hTl]; exact ho5, fun r h1 => ?_, hx5⟩
            by_cases hr : r < T.length
            · have e3 : (T ++ [p3])[r] = T[r] := List.getElem_append_left hr
              rw [e3]
              exact HT.out r hr
            · have hr2 : r = j := by simp at h1; omega
              have e3 : (T ++ [p3])[r] = p3 := by rw [List.getElem_append_right (by omega)]; simp
              rw [e3, HP3.out, HP.out, hr2]
              refine ⟨?_, hL, hfin.kr, hcl, hfin.kcap, hz, hzr.1, hzr.2⟩
              unfold Spl.part
              rw [if_neg hj0, if_pos hj1k, HXL.out, ← HA.out.1, ← HA.out.2, hDx.out, ← HZ0.out, Hfkey.out]
          case measure => simp [intOf]; omega
        · have hj1i : ¬ (j : Int) + 1 < (k : Int) := by omega
          have hEQ := Ext.tr (Ext.alloc w3 (.cells p.cells 33)) (Ext.alloc (w3.alloc (.cells p.cells 33)) (.cells p.cells 33))
          have hownQ := hown3.below hEQ
          have hrQ : Rd ((w3.alloc (.cells p.cells 33)).alloc (.cells p.cells 33)) 35 (some ⟨(w3.alloc (.cells p.cells 33)).heap.size, 0, none⟩) 1 p.cells.toList := ⟨by rw [pcell_len hps], fun _ => ⟨_, rfl, fun j u hj => by
            rw [Addr.add_lit, cell_of_row _ _ _ _ _ _ (heap_alloc_new (w3.alloc (.cells p.cells 33)) (.cells p.cells 33)), Nat.zero_add]; simpa using hj⟩⟩
          have hszQ : w1.heap.size ≤ ((w3.alloc (.cells p.cells 33)).alloc (.cells p.cells 33)).heap.size := (Ext.tr hx3 hEQ).size
          have hsQ := psize hps
          go_wp2_with (first | (refine wpList_store_row rfl 33 (.tmp 16) (.tmp 54) rfl w3.heap.size p.cells rfl (by show Value.agg _ = _; rw [HPC.out]; exact congrArg Value.agg (fold35 _ _ _ _ (by rfl) (by rfl) (by rfl) (by rfl) z hz)) 33 _ (heap_alloc_new w3 _) (pinfo hps) (by rw [psize hps]; rfl) (pone p) ?_; rw [setRow_alloc]) | (refine wpList_load_row rfl 33 (.tmp 16) rfl w3.heap.size rfl 33 p.cells (0, 0) _ (heap_alloc_new w3 _) Try.underlying33 rfl (pinfo hps) ?_) | (refine wpList_buildOne rfl 27 (.tmp 74) rfl elemP p.cells rfl hsQ (by decide) ?_; refine wpList_app rfl (.tmp 73) (.tmp 75) 27 rfl elemP w1.heap.size AT j cT (pcs T) rfl _ 1 1 p.cells.toList rfl (j + 1) rfl (pcs (T ++ [p])) (by simp [pcs]) hownQ hrQ (fun u hu => (Array.all_eq_true_iff_forall_mem.1 (pone p)) u (by simpa using hu)) (by omega) (by omega) hszQ ?_; intro A5 c5 w5 ho5 hg5 hr5))
          go_roundw
          case rel =>
            have hx5 : Ext w1 w5 := below_app (Ext.tr hx3 hEQ) hownQ hg5 hszQ
            refine ⟨j + 1, T ++ [p], A5, c5, by omega, by go_num, by rw [List.length_append, hTl]; rfl, by simp [hTl], by rw [List.length_append, hTl]; exact ho5, fun r h1 => ?_, hx5⟩
            by_cases hr : r < T.length
            · have e3 : (T ++ [p])[r] = T[r] := List.getElem_append_left hr
              rw [e3]
              exact HT.out r hr
            · have hr2 : r = j := by simp at h1; omega
              have e3 : (T ++ [p])[r] = p := by rw [List.getElem_append_right (by omega)]; simp
              rw [e3, HP.out, hr2]
              refine ⟨?_, hL, hH, hcl, hch, hz, hzr.1, hzr.2⟩
              unfold Spl.part
              rw [if_neg hj0, if_neg hj1k, HXL.out, ← HA.out.1, ← HA.out.2, hDx.out, ← HZ0.out]
          case measure => simp [intOf]; omega
    · have hjk : j = k := by omega
      go_wp2
      go_ret
      refine ⟨AT, cT, T, rfl, ?_, ⟨hown.rd, fun p hp => ?_⟩, hown.nc, Ext.tr hb1 hx⟩
      · unfold Spl.split
        rw [← HXV.out, ← HX.out, HXL.out, ← Hk.out]
        apply List.ext_getElem (by simp [hTl, hjk])
        intro r h1 h2
        simpa using (HT.out r (by simpa using h1)).1
      · obtain ⟨r, hr, rfl⟩ := List.getElem_of_mem hp
        exact (HT.out r hr).2.below (Ext.tr hb1 hx)
end Go.Proofs.Ytiiekdhlcmaabaa
