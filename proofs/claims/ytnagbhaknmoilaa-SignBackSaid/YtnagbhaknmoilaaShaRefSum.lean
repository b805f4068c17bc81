
/- The reference's digest (scowref03.Sum). -/

import Derived.Test.YtnagbhaknmoilaaShaRefBlock

import Derived.Test.YtnagbhaknmoilaaShaOut

namespace Go.Proofs.Ytnagbhaknmoilaa

open Go.RowKit

theorem byte_at (n i : Nat) (h : i < 8) : Value.int .u8 (((n / 2 ^ (56 - 8 * i) : Nat) : Int) % 256) = bv (Vint.fixB n 8 i) := by
  have h1 : n / 2 ^ (56 - 8 * i) = n / 256 ^ (8 - 1 - i) := by
    rcases to8 h with rfl | rfl | rfl | rfl | rfl | rfl | rfl | rfl <;> rfl
  rw [h1]
  unfold bv Vint.fixB
  rw [UInt8.toNat_ofNat']
  congr 1
theorem fix_snoc (n i : Nat) (h : i < 8) : (Vint.fixL n 8).take (i + 1) = (Vint.fixL n 8).take i ++ [Vint.fixB n 8 i] := by
  rcases to8 h with rfl | rfl | rfl | rfl | rfl | rfl | rfl | rfl <;> rfl

def outJ (s : Sha.St) (j : Nat) : Array Value := (bvs ((Sha.out s).take j) ++ List.replicate (32 - j) (Value.int .u8 0)).toArray
theorem outJ_size (s : Sha.St) (j : Nat) (h : j ≤ 32) : (outJ s j).size = 32 := by
  have := Sha.out_len s
  simp [outJ, bvs_len]
  omega
theorem outJ_get (s : Sha.St) (j : Nat) (h : j < 32) : (outJ s j)[j]? = some (.int .u8 0) := by
  have := Sha.out_len s
  simp only [outJ, List.getElem?_toArray]
  rw [List.getElem?_append_right (by rw [bvs_len, List.length_take]; omega), bvs_len, List.length_take, Nat.min_eq_left (by omega), Nat.sub_self]
  have h1 : 0 < 32 - j := by omega
  simp [h1]
theorem outJ_set (s : Sha.St) (j : Nat) (h : j < 32) (x : UInt8) (hx : x = (Sha.out s).getD j 0) : (outJ s j).setIfInBounds j (bv x) = outJ s (j + 1) := by
  have hl := Sha.out_len s
  apply Array.ext'
  simp only [outJ, Array.toList_setIfInBounds]
  have h1 : (bvs ((Sha.out s).take j)).length = j := by rw [bvs_len, List.length_take]; omega
  rw [List.set_append_right _ _ (by omega), h1, Nat.sub_self]
  obtain ⟨m, hm⟩ : ∃ m, 32 - j = m + 1 := ⟨31 - j, by omega⟩
  rw [hm, show 32 - (j + 1) = m by omega, List.replicate_succ, List.set_cons_zero]
  rw [List.take_succ_eq_append_getElem (by omega), bvs_app, List.append_assoc, hx]
  congr 2
  simp [List.getElem?_eq_getElem (show j < (Sha.out s).length by omega)]
theorem outJ_one (s : Sha.St) (i : Nat) : (outJ s i).all (·.oneCell') = true := by
  rw [Array.all_eq_true_iff_forall_mem]
  intro v hv
  simp only [outJ, List.mem_toArray, List.mem_append, List.mem_replicate] at hv
  rcases hv with hv | ⟨_, rfl⟩
  · exact bvs_one _ v hv
  · rfl
theorem outJ_all (s : Sha.St) : outJ s 32 = (bvs (Sha.out s)).toArray := by
  have := Sha.out_len s
  simp [outJ, List.take_of_length_le (show (Sha.out s).length ≤ 32 by omega)]
theorem infoJ (s : Sha.St) (i : Nat) (h : i ≤ 32) : (Try.prog.info? 30).map (·.size) = some (outJ s i).size := by rw [outJ_size s i h]; kernel_rfl
theorem out_at (s : Sha.St) (q m : Nat) (hq : q < 8) (hm : m < 4) : (Sha.out s).getD (4 * q + m) 0 = Vint.fixB (s.list.getD q 0).toNat 4 m := by
  have h4 : m = 0 ∨ m = 1 ∨ m = 2 ∨ m = 3 := by omega
  rcases to8 hq with rfl | rfl | rfl | rfl | rfl | rfl | rfl | rfl <;> rcases h4 with rfl | rfl | rfl | rfl <;> rfl
theorem byteW (x : UInt32) (m : Nat) (hm : m < 4) : Value.int .u8 (W x / 2 ^ (24 - 8 * m) % 256) = bv (Vint.fixB x.toNat 4 m) := by
  have h4 : m = 0 ∨ m = 1 ∨ m = 2 ∨ m = 3 := by omega
  unfold bv Vint.fixB W
  rw [UInt8.toNat_ofNat']
  rcases h4 with rfl | rfl | rfl | rfl <;> simp

set_option maxRecDepth 100000 in
set_option maxHeartbeats 4000000 in
theorem ref_sum (A : Option Addr) (p : List UInt8) (cap : Nat) (w : World) (hA : RdB w A p) (hl : p.length ≤ 100000) :
    Calls Try.prog 17 #[.slice A p.length cap] w fun e w' => e = .returned (.agg (bvs (Sha.sum p)).toArray) ∧ Below w.heap.size w w' := by
  obtain ⟨W0, hW0⟩ : ∃ W0, W0 = (w.alloc (.cells (Array.replicate 32 (Value.int .u8 0)) 30)) := ⟨_, rfl⟩
  have hB0 : Ext w W0 := by rw [hW0]; exact Ext.alloc w _
  have hs0 : W0.heap.size = w.heap.size + 1 := by rw [hW0]; simp
  have hz0 : W0.heap[w.heap.size]? = some (.cells (Array.replicate 32 (Value.int .u8 0)) 30 (0, 0)) := by rw [hW0]; exact heap_alloc_new w _
  have hA0 := (hA.below hB0).below (Ext.alloc W0 (.cells #[] 5))
  have HW0 := Lib.hid hW0
  have Hs0 := Lib.hid hs0
  clear hW0 hs0
  obtain ⟨pd, hpd⟩ : ∃ pd, pd = Sha.padn p.length := ⟨_, rfl⟩
  have hpd1 : 1 ≤ pd ∧ pd ≤ 64 ∧ (p.length + pd) % 64 = 56 := by rw [hpd]; unfold Sha.padn; omega
  obtain ⟨hpd1, hpd2, hpd3⟩ := hpd1
  have Hpd := Lib.hid hpd
  clear hpd
  have hW0s : w.heap.size + 1 = W0.heap.size := Hs0.out.symm
  have hq1 : bvs (p ++ 128 :: List.replicate 0 0) = bvs p ++ [.int .u8 128] := by simp [bvs, bv]
  have Hq1 := Lib.hid hq1
  clear hq1
  go_enter Try.func17, Try.ntmps17
  go_wp2_with (first
    | (at_builtin; refine Eq.mpr (congrArg (fun X => wpList _ _ _ _ _ X) (show _ = W0.alloc (.cells #[] 5) from by rw [HW0.out]; rfl)) ?_; refine wpList_app rfl (.tmp 10) (.tmp 11) 22 rfl elemB W0.heap.size _ 0 0 [] rfl A p.length cap (bvs p) rfl p.length (by omega) (bvs p) rfl (Own.none_ _ _ _ _ _) hA0 (bvs_one _) (by omega) (by omega) (by simp) ?_; intro A1 c1 w1 ho1 hg1 hr1; have hb1 := below_app (Ext.alloc W0 (.cells #[] 5)) (Own.none_ _ _ 5 1 (some ⟨w.heap.size + 1, 0, none⟩)) hg1 (by simp); have ho1' := ho1.below (Ext.alloc w1 (.cells #[.int .u8 128] 5)); have hsz1 := hb1.size; clear hg1 hr1)
    | (at_builtin; refine wpList_app rfl (.tmp 12) (.tmp 13) 22 rfl elemB W0.heap.size A1 p.length c1 (bvs p) rfl (some ⟨w1.heap.size, 0, none⟩) 1 1 [.int .u8 128] rfl (p.length + 1) rfl (bvs (p ++ 128 :: List.replicate 0 0)) Hq1.out ho1' (Rd.new w1 5 [.int .u8 128]) (by simp; rfl) (by omega) (by omega) (by simp; omega) ?_; intro A2 c2 w2 ho2 hg2 hr2; have hb2 := below_app (hb1.alloc hsz1 _) ho1' hg2 (by simp; omega); clear hg2 hr2))
  clear ho1 ho1'
  go_loopw [3] (fun sl wr => ∃ (z : Nat) (A2 : Option Addr) (c2 : Nat), z < pd ∧ sl = .slice A2 (p.length + 1 + z) c2 ∧ Own wr W0.heap.size 5 1 A2 (p.length + 1 + z) c2 (bvs (p ++ 128 :: List.replicate z 0)) ∧ Below W0.heap.size W0 wr) (fun sl _ => 200000 - lenV sl)
  case atStart => exact ⟨0, A2, c2, by omega, rfl, ho2, hb2⟩
  case round =>
    clear ho2 hb2 hb1 hsz1
    obtain ⟨z, A2, c2, hz, rfl, ho, hb⟩ := hrel
    obtain ⟨m, hm⟩ : ∃ m, m = p.length + 1 + z := ⟨_, rfl⟩
    rw [← hm] at ho ⊢
    have hsz := hb.size
    by_cases h56 : m % 64 = 56
    · have hz1 : z = pd - 1 := by omega
      subst hz1
      obtain ⟨D0, hD0⟩ : ∃ D0, D0 = p ++ 128 :: List.replicate (pd - 1) 0 := ⟨_, rfl⟩
      rw [← hD0] at ho
      have hD0l : D0.length = m := by rw [hD0]; simp; omega
      have HD0 := Lib.hid hD0
      have heq : ((m : Int) % 64 != 56) = false := by simp; omega
      obtain ⟨n8, hn8⟩ : ∃ n8, n8 = 8 * p.length := ⟨_, rfl⟩
      have Hn8 := Lib.hid hn8
      have hn8I : (p.length : Int) * 8 = (n8 : Int) := by omega
      have hn9 : n8 ≤ 800000 := by omega
      have Hm := Lib.hid hm
      have hm9 : m ≤ 100100 := by omega
      clear hD0 hn8 hm h56 hz hpd3
      have hD0l' := Lib.hid hD0l
      clear hD0l
      go_wp2_with fail
      go_loopw [3, 5] (fun sl i wr => ∃ (j : Nat) (A2 : Option Addr) (c2 : Nat), j ≤ 8 ∧ i = .int .i64 j ∧ sl = .slice A2 (m + j) c2 ∧ Own wr W0.heap.size 5 1 A2 (m + j) c2 (bvs (D0 ++ (Vint.fixL n8 8).take j)) ∧ Below W0.heap.size W0 wr) (fun _ i _ => 8 - (intOf i).toNat)
      case atStart => exact ⟨0, A2, c2, by omega, rfl, rfl, by rw [List.take_zero, List.append_nil]; exact ho, hb⟩
      case round =>
        clear ho hb hsz
        obtain ⟨j, A2, c2, hj, rfl, rfl, ho, hb⟩ := hrel
        have hsz := hb.size
        by_cases hj8 : j < 8
        · have e1 : 56 - 8 * (j : Int) ≤ 64 := by omega
          have e2 : 0 ≤ 56 - 8 * (j : Int) := by omega
          have e3 : (56 - 8 * (j : Int)).toNat = 56 - 8 * j := by omega
          have hby := byte_at n8 j hj8
          have hzz : bvs (D0 ++ (Vint.fixL n8 8).take (j + 1)) = bvs (D0 ++ (Vint.fixL n8 8).take j) ++ [bv (Vint.fixB n8 8 j)] := by rw [fix_snoc n8 j hj8, ← List.append_assoc, bvs_app]; rfl
          rw [← hby] at hzz
          have Hzz := Lib.hid hzz
          have ho' := fun o => ho.below (Ext.alloc wr o)
          clear hzz hby
          go_wp2_with (at_builtin; refine wpList_app rfl (.tmp 30) (.tmp 37) 22 rfl elemB W0.heap.size A2 (m + j) c2 (bvs (D0 ++ (Vint.fixL n8 8).take j)) rfl (some ⟨wr.heap.size, 0, none⟩) 1 1 [.int .u8 (((n8 / 2 ^ (56 - 8 * j) : Nat) : Int) % 256)] rfl (m + (j + 1)) rfl (bvs (D0 ++ (Vint.fixL n8 8).take (j + 1))) Hzz.out (ho' _) (Rd.new wr 5 [.int .u8 (((n8 / 2 ^ (56 - 8 * j) : Nat) : Int) % 256)]) (by simp; rfl) (by omega) (by omega) (by simp; omega) ?_; intro A3 c3 w3 ho3 hg3 hr3; have hb3 := below_app (hb.alloc hsz _) (ho' _) hg3 (by simp; omega); clear hg3 hr3)
          go_roundw
          case rel => exact ⟨j + 1, A3, c3, by omega, by go_num, rfl, ho3, hb3⟩
          case measure => simp [intOf]; omega
        · obtain rfl : j = 8 := by omega
          rw [List.take_of_length_le (by rw [Vint.fixL_len]; omega)] at ho
          obtain ⟨D, hD⟩ : ∃ D, D = D0 ++ Vint.fixL n8 8 := ⟨_, rfl⟩
          rw [← hD] at ho
          have hDp : D = Sha.pad p := by rw [hD, HD0.out, Hn8.out, Hpd.out, List.append_assoc]; rfl
          have hDl : D.length = m + 8 := by rw [hD, List.length_append, Vint.fixL_len, hD0l'.out]
          have hD64 : D.length % 64 = 0 := by rw [hDp]; exact Sha.pad_len p
          have HDp := Lib.hid hDp
          obtain ⟨nb, hnb⟩ : ∃ nb, nb = D.length / 64 := ⟨_, rfl⟩
          have Hnb := Lib.hid hnb
          have hdn : D.length = 64 * nb := by omega
          have Hdn := Lib.hid hdn
          have hD9 : D.length ≤ 100200 := by omega
          rw [← hDl] at ho ⊢
          have hcD := ho.nc
          have hrD := ho.rd'
          clear hD hDp hDl hdn hnb hn8I hpd1 hpd2 ho
          rw [show (((8 : Nat)) : Int) = 8 from rfl]
          go_wp2_with fail
          obtain ⟨V0, hV0⟩ : ∃ V0, V0 = wr.alloc (.cells (stC Sha.first) 29) := ⟨_, rfl⟩
          have hE0 : Ext wr V0 := by rw [hV0]; exact Ext.alloc wr _
          have hg0 : V0.heap[wr.heap.size]? = some (.cells (stC Sha.first) 29 (0, 0)) := by rw [hV0]; exact heap_alloc_new wr _
          have hf0 : Rd V0 1 (some ⟨wr.heap.size, 0, none⟩) 8 ((Sha.run Sha.first D 0).list.map wv) := Rd.row_ hg0 8 rfl
          refine Eq.mpr (congrArg (fun X => Code.wp _ _ _ _ X) (show _ = V0 from by rw [hV0]; rfl)) ?_
          have hrD0 := hrD.below hE0
          have hb0 := hb.trans (hE0.mono hsz)
          clear hV0 hE0 hg0 hrD hb
          go_loopw [6, 7] (fun hs i wr => ∃ (k q : Nat) (Ah : Option Addr) (ch : Nat), q = 64 * k ∧ k ≤ nb ∧ i = .int .i64 (q : Int) ∧ hs = .slice Ah 8 ch ∧ 8 ≤ ch ∧ Rd wr 1 Ah 8 ((Sha.run Sha.first D k).list.map wv) ∧ RdB wr A2 D ∧ Below W0.heap.size W0 wr) (fun _ i _ => D.length - (intOf i).toNat)
          case atStart => exact ⟨0, 0, _, 8, rfl, by omega, rfl, rfl, by omega, hf0, hrD0, hb0⟩
          case round =>
            clear hf0 hrD0 hb0
            obtain ⟨k, q, Ah, ch, hq, hk, rfl, rfl, hch, hf, hrD, hb⟩ := hrel
            have hsz := hb.size
            by_cases hkn : k < nb
            · have hq64 : q + 64 ≤ D.length := by have := Hdn.out; omega
              have hqI : (q : Int) < (D.length : Int) := by omega
              obtain ⟨ad, rfl, hat0⟩ := hrD.at_ (k := 0) (by omega)
              clear hat0
              have hC := hrD.cut (k := q) (m := q + 64) (by omega) hq64 (c := c2) (by omega)
              rw [if_neg (by omega)] at hC
              simp only [Option.map_some] at hC
              have hT := ref_block (Sha.run Sha.first D k) Ah ch _ ((D.take (q + 64)).drop q) (c2 - q) wr hf hch hC (by simp; omega) (by omega)
              have hst : Sha.run Sha.first D (k + 1) = Sha.block (Sha.run Sha.first D k) ((D.take (q + 64)).drop q) := by
                rw [hq]
                show Sha.block _ _ = _
                congr 1
                rw [List.drop_take]
                congr 1
                omega
              rw [← hst] at hT
              have HT := Lib.hid hT
              have Hq := Lib.hid hq
              have hc2q : ¬ c2 = q := by omega
              have hqc : q + 64 ≤ c2 := by omega
              clear hC hst hT hq
              go_wp2_with fail
              refine HT.out.mono ?_
              rintro e w3 ⟨A3, c3, rfl, hc3, hf3, hb3⟩
              go_wp2_with fail
              go_roundw
              case rel => exact ⟨k + 1, q + 64, A3, c3, by have := Hq.out; omega, by omega, by go_num, rfl, hc3, hf3, hrD.below hb3, hb.trans (hb3.mono hsz)⟩
              case measure => simp [intOf]; omega
            · obtain rfl : k = nb := by omega
              have hqI : ¬ (q : Int) < (D.length : Int) := by have := Hdn.out; omega
              obtain ⟨s, hs⟩ : ∃ s, s = Sha.run Sha.first D k := ⟨_, rfl⟩
              rw [← hs] at hf
              have hsum : Hid (Sha.out s = Sha.sum p) := by show _ = _; rw [hs, Hnb.out, HDp.out]; rfl
              obtain ⟨ah, rfl⟩ : ∃ ah, Ah = some ah := by
                obtain ⟨a, e, _⟩ := hf.2 (by simp [Sha.St.list])
                exact ⟨a, e⟩
              clear hs hrD
              go_wp2_with fail
              obtain ⟨V1, hV1⟩ : ∃ V1, V1 = wr.alloc (.cells (outJ s 0) 30) := ⟨_, rfl⟩
              have hE1 : Ext wr V1 := by rw [hV1]; exact Ext.alloc wr _
              have hg1 : V1.heap[wr.heap.size]? = some (.cells (outJ s 0) 30 (0, 0)) := by rw [hV1]; exact heap_alloc_new wr _
              refine Eq.mpr (congrArg (fun X => Code.wp _ _ _ _ X) (show _ = V1 from by rw [hV1]; rfl)) ?_
              obtain ⟨go, hgo⟩ : ∃ go, go = wr.heap.size := ⟨_, rfl⟩
              have hf1 := Rd.below hf hE1
              have hB1 := hb.trans (hE1.mono hsz)
              have hgo2 : W0.heap.size ≤ go := by rw [hgo]; exact hsz
              have hahg : ∀ a, some ah = some a → a.block ≠ go := by
                intro a h e
                cases h
                obtain ⟨a, e2, f⟩ := hf.2 (by simp [Sha.St.list])
                cases e2
                have h9 := World.block_lt_of_cell? _ _ (f 0 _ (list_get s 0 (by omega)))
                rw [add_block] at h9
                omega
              have Hahg := Lib.hid hahg
              rw [← hgo] at hg1 ⊢
              clear hV1 hE1 hgo hf hb hsz hahg
              go_loopw [9] (fun i wr => ∃ j : Nat, j ≤ 32 ∧ i = .int .i64 j ∧ wr.heap[go]? = some (.cells (outJ s j) 30 (0, 0)) ∧ Rd wr 1 (some ah) 8 (s.list.map wv) ∧ Below W0.heap.size W0 wr) (fun i _ => 32 - (intOf i).toNat)
              case atStart => exact ⟨0, by omega, rfl, hg1, hf1, hB1⟩
              case round =>
                clear hg1 hf1 hB1
                obtain ⟨j, hj, rfl, hsj, hf, hb⟩ := hrel
                by_cases hj32 : j < 32
                · obtain ⟨u, hu⟩ : ∃ u, u = j / 4 := ⟨_, rfl⟩
                  obtain ⟨m4, hm4⟩ : ∃ m4, m4 = j % 4 := ⟨_, rfl⟩
                  have hu8 : u < 8 := by omega
                  have hm44 : m4 < 4 := by omega
                  have hjI : (j : Int) < 32 := by omega
                  have hq1 : (j : Int) / 4 = (u : Int) := by omega
                  have hq2 : (j : Int).tdiv 4 = (u : Int) := by rw [Int.tdiv_eq_ediv_of_nonneg (by omega)]; exact hq1
                  have huI : (u : Int) < 8 := by omega
                  have hm1 : (j : Int) % 4 = (m4 : Int) := by omega
                  have hm2 : (j : Int).tmod 4 = (m4 : Int) := by rw [Int.tmod_eq_emod_of_nonneg (by omega)]; exact hm1
                  have ha : wr.cell? (ah.add u) = some (.int .u32 (W (s.list.getD u 0))) := by
                    obtain ⟨a, e, f⟩ := hf.2 (by simp [Sha.St.list])
                    cases e
                    exact f u _ (list_get s u hu8)
                  have h3 : wr.cell? ⟨go, j, none⟩ = some (.int .u8 0) := (cell_of_row wr _ j _ _ _ hsj).trans (outJ_get s j hj32)
                  have h4 : wr.frozen? ⟨go, j, none⟩ = false := frozen_of_row wr _ _ _ _ hsj
                  have hjj : j = 4 * u + m4 := by omega
                  have hset := outJ_set s j hj32 (Vint.fixB (s.list.getD u 0).toNat 4 m4) (by rw [hjj]; exact (out_at s u m4 hu8 hm44).symm)
                  obtain ⟨x, hx⟩ : ∃ x, x = s.list.getD u 0 := ⟨_, rfl⟩
                  rw [← hx] at ha hset
                  have Hset := Lib.hid hset
                  have Hby := Lib.hid (byteW x m4 hm44)
                  have s1 : 24 - 8 * (m4 : Int) ≤ 64 := by omega
                  have s2 : 0 ≤ 24 - 8 * (m4 : Int) := by omega
                  have s3 : (24 - 8 * (m4 : Int)).toNat = 24 - 8 * m4 := by omega
                  have s4 : 24 - 8 * (m4 : Int) ≤ 32 := by omega
                  clear hu hm4 hjj hset hx
                  have hn1 := heap_setCell_same wr go j _ _ (.int .u8 (W x / 2 ^ (24 - 8 * m4) % 256)) hsj
                  rw [Hby.out, Hset.out] at hn1
                  have hG := grown_cell_ wr go j (bv (Vint.fixB x.toNat 4 m4))
                  have hn2 : Rd (wr.setCell ⟨go, j, none⟩ (bv (Vint.fixB x.toNat 4 m4))) 1 (some ah) 8 (s.list.map wv) := Rd.grown hf hG (fun a h e => by simp only [Option.some.injEq] at e; exact Hahg.out a h e)
                  have hn3 := hb.setCell (p := ⟨go, j, none⟩) hgo2 (bv (Vint.fixB x.toNat 4 m4))
                  go_wp2_with fail
                  go_roundw
                  case rel => exact ⟨j + 1, by omega, by go_num, by rw [Hby.out]; exact hn1, by rw [Hby.out]; exact hn2, by rw [Hby.out]; exact hn3⟩
                  case measure => simp [intOf]; omega
                · obtain rfl : j = 32 := by omega
                  have hz9 := (hb.block _ (by rw [Hs0.out]; omega)).trans hz0
                  have hin := infoJ s 32 (by omega)
                  go_wp2_with (first
                    | (refine wpList_load_row rfl 30 (.tmp 8) rfl go rfl 30 (outJ s 32) (0, 0) _ hsj Try.underlying30 rfl hin ?_)
                    | (refine wpList_store_row rfl 30 (.tmp 2) (.tmp 70) rfl w.heap.size (outJ s 32) rfl rfl 30 _ hz9 hin (by rw [outJ_size s 32 (by omega)]; simp) (outJ_one s 32) ?_))
                  have hg9 := setRow_heap wr w.heap.size _ (outJ s 32) _ _ hz9
                  refine bodyPost_ret (v := .agg (outJ s 32)) (results_cell_row rfl _ _ w.heap.size 30 (outJ s 32) (0, 0) _ rfl hg9 Try.underlying30 rfl hin) rfl ⟨by rw [outJ_all, hsum.out], ?_⟩
                  have hB := ext_trans hB0 hb
                  exact ⟨hB.os, hB.tape, hB.output, by simpa using hB.size, fun i hi => (setRow_other _ _ _ _ (by omega)).trans (hB.block i hi)⟩
    · have hne : ((m : Int) % 64 != 56) = true := by simp; omega
      have hz2 : z + 1 < pd := by omega
      have hzz : bvs (p ++ 128 :: List.replicate (z + 1) 0) = bvs (p ++ 128 :: List.replicate z 0) ++ [.int .u8 0] := by
        rw [List.replicate_succ', ← List.cons_append, ← List.append_assoc, bvs_app]; rfl
      have Hzz := Lib.hid hzz
      have ho' := ho.below (Ext.alloc wr (.cells #[.int .u8 0] 5))
      have Hm := Lib.hid hm
      have hm9 : m ≤ 100100 := by omega
      clear hzz hm
      go_wp2_with (at_builtin; refine wpList_app rfl (.tmp 19) (.tmp 20) 22 rfl elemB W0.heap.size A2 m c2 (bvs (p ++ 128 :: List.replicate z 0)) rfl (some ⟨wr.heap.size, 0, none⟩) 1 1 [.int .u8 0] rfl (m + 1) rfl (bvs (p ++ 128 :: List.replicate (z + 1) 0)) Hzz.out ho' (Rd.new wr 5 [.int .u8 0]) (by simp; rfl) (by omega) (by omega) (by simp; omega) ?_; intro A3 c3 w3 ho3 hg3 hr3; have hb3 := below_app (hb.alloc hsz _) ho' hg3 (by simp; omega); clear hg3 hr3)
      go_roundw
      case rel => exact ⟨z + 1, A3, c3, hz2, by rw [Hm.out]; rfl, by rw [Hm.out] at ho3; exact ho3, hb3⟩
      case measure => simp [lenV]; omega
end Go.Proofs.Ytnagbhaknmoilaa
