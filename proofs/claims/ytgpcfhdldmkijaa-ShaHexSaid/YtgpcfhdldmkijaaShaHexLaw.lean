/- The law on digests' texts: the walk returns true and changes nothing that was there. Written by wip/tools/gen_hexlaw03.py. -/
import Derived.Test.YtgpcfhdldmkijaaShaLaws
namespace Go.Proofs.Ytgpcfhdldmkijaa
open Go.RowKit
attribute [local go_sem] Oper.semAt_some

theorem hv_hexd' : ∀ n : Fin 16, Sha.hv (Sha.hexd n.val) = n.val := by decide +kernel
theorem hv_hexd (n : Nat) (h : n < 16) : Sha.hv (Sha.hexd n) = n := hv_hexd' ⟨n, h⟩
theorem hex_get (d : List UInt8) : ∀ j, j < d.length → (Sha.hex d).getD (2 * j) 0 = Sha.hexd ((d.getD j 0).toNat / 16) ∧ (Sha.hex d).getD (2 * j + 1) 0 = Sha.hexd ((d.getD j 0).toNat % 16) := by
  induction d with
  | nil => intro j h; simp at h
  | cons c d ih =>
    intro j h
    have hc : Sha.hex (c :: d) = Sha.hexd (c.toNat / 16) :: Sha.hexd (c.toNat % 16) :: Sha.hex d := rfl
    rw [hc]
    cases j with
    | zero => exact ⟨rfl, rfl⟩
    | succ j =>
      have := ih j (by simpa using h)
      rw [show 2 * (j + 1) = 2 * j + 1 + 1 by omega, List.getD_cons_succ, List.getD_cons_succ, List.getD_cons_succ, List.getD_cons_succ, List.getD_cons_succ]
      exact this
theorem hex_ok (d : List UInt8) (hd : d.length = 32) : Sha.okB (Sha.hex d) = true := by
  refine Sha.ok_yes (by rw [Sha.hex_len, hd]) (fun i hi => ?_)
  obtain ⟨h1, h2⟩ := hex_get d (i / 2) (by omega)
  have hc := (d.getD (i / 2) 0).toNat_lt
  rcases (by omega : i = 2 * (i / 2) ∨ i = 2 * (i / 2) + 1) with h | h
  · rw [h, h1, hv_hexd _ (by omega)]; omega
  · rw [h, h2, hv_hexd _ (by omega)]; omega
theorem hex_back (d : List UInt8) (hd : d.length = 32) : Sha.parsed (Sha.hex d) = d := by
  unfold Sha.parsed
  rw [hex_ok d hd]
  show Sha.acc _ _ = _
  apply List.ext_getElem
  · rw [Sha.acc_len, hd]
  · intro j h1 h2
    simp only [Sha.acc, List.getElem_map, List.getElem_range]
    obtain ⟨g1, g2⟩ := hex_get d j h2
    have hc := (d.getD j 0).toNat_lt
    unfold Sha.accN
    rw [if_pos (by omega), g1, g2]
    unfold Sha.hn
    rw [hv_hexd _ (by omega), hv_hexd _ (by omega), Int.toNat_natCast, Int.toNat_natCast]
    rw [← UInt8.toNat_inj, UInt8.toNat_ofNat']
    simp only [List.getD_eq_getElem?_getD, List.getElem?_eq_getElem h2, Option.getD_some] at hc ⊢
    omega
theorem par_len (l : List UInt8) : (Sha.parsed l).length = 32 := by
  unfold Sha.parsed
  split
  · exact Sha.acc_len _ _
  · simp
theorem sInf' (z : List UInt8) (h : z.length = 32) : (Try.prog.info? 24).map (·.size) = some (bvs z).toArray.size := by rw [List.size_toArray, bvs_len, h]; kernel_rfl

set_option maxRecDepth 100000 in
set_option maxHeartbeats 2000000 in
theorem walkShaHex (w : World) (d : List UInt8) (hd : d.length = 32) (t : ByteArray) (_ht : t.size ≤ maxLen) :
    Calls Try.prog 5 #[.agg (bvs d).toArray, .string t] w fun e w' => e = .returned (.bool true) ∧ Below w.heap.size w w' := by
  obtain ⟨l, rfl⟩ : ∃ l : List UInt8, t = ⟨l.toArray⟩ := ⟨t.data.toList, by cases t; simp⟩
  clear _ht
  obtain ⟨C, hC⟩ : ∃ C, C = (bvs d).toArray := ⟨_, rfl⟩
  rw [← hC]
  obtain ⟨W0, hW0⟩ : ∃ W0, W0 = w.alloc (.cells C 24) := ⟨_, rfl⟩
  have hd0 : W0.heap[w.heap.size]? = some (.cells C 24 (0, 0)) := by rw [hW0]; exact heap_alloc_new w _
  have hB0 : Ext w W0 := by rw [hW0]; exact Ext.alloc w _
  have HW0 := Lib.hid hW0
  clear hW0
  by_cases h : l.length ≤ 2000
  · have id' := sInf' d hd
    obtain ⟨P, hP⟩ : ∃ P, P = Sha.parsed l := ⟨_, rfl⟩
    have hPl : P.length = 32 := by rw [hP]; exact par_len l
    have iP := sInf P hPl
    have iP' := sInf' P hPl
    have iS := sInf d hd
    have p1 := fun W => parse_any l W
    have p2 := fun W => ref_parse l W
    have p3 := fun W => parse_any (Sha.hex d) W
    rw [← hP] at p1 p2
    rw [hex_ok d hd, hex_back d hd, ← hC] at p3
    have h1 := fun W => hex_any d hd W
    have h2 := fun W => ref_hex d hd W
    rw [← hC] at h1 h2 iS id'
    have eC := fun w' => run_eqTrue d hd w'
    rw [← hC] at eC
    have oC := sOne d
    rw [← hC] at oC
    have zC : C.size = 32 := by rw [hC, List.size_toArray, bvs_len, hd]
    obtain ⟨D, hD⟩ : ∃ D, D = (bvs P).toArray := ⟨_, rfl⟩
    rw [← hD] at p1 p2 iP iP'
    have eD := fun w' => run_eqTrue P hPl w'
    rw [← hD] at eD
    have oD := sOne P
    rw [← hD] at oD
    have zD : D.size = 32 := by rw [hD, List.size_toArray, bvs_len, hPl]
    have HZC := Lib.hid zC
    have HZD := Lib.hid zD
    clear zC zD hD hC
    obtain ⟨ok, hok⟩ : ∃ ok, ok = Sha.okB l := ⟨_, rfl⟩
    rw [← hok] at p1 p2
    clear hP hok
    go_enter Try.func5, Try.ntmps5
    go_wp2_with fail
    refine Eq.mpr (congrArg (fun X => Calls _ _ _ X _) (show _ = W0 from by rw [HW0.out])) ?_
    refine (p1 W0).mono ?_
    rintro e w1 ⟨rfl, hb1⟩
    go_wp2_with (refine wpList_store_row rfl 25 (.tmp 5) (.tmp 18) rfl w1.heap.size D rfl rfl 25 _ (heap_alloc_new w1 _) iP (by rw [HZD.out]; rfl) oD ?_; rw [setRow_alloc])
    obtain ⟨W1, hW1⟩ : ∃ W1, W1 = w1.alloc (.cells D 25) := ⟨_, rfl⟩
    have hx1 : W1.heap[w1.heap.size]? = some (.cells D 25 (0, 0)) := by rw [hW1]; exact heap_alloc_new w1 _
    have hE1 : Ext W0 W1 := by rw [hW1]; exact Ext.tr hb1 (Ext.alloc w1 _)
    obtain ⟨gx, hgx⟩ : ∃ gx, gx = w1.heap.size := ⟨_, rfl⟩
    rw [← hgx] at hx1 ⊢
    rw [← hW1]
    have hd1 := (hE1.block _ (lt_of_heap hd0)).trans hd0
    clear hW1 hgx hb1 p1
    refine (p2 W1).mono ?_
    rintro e w2 ⟨rfl, hb2⟩
    have hd2a := (hb2.block _ (lt_of_heap hd1)).trans hd1
    go_wp2_with (first
      | (refine wpList_store_row rfl 24 (.tmp 7) (.tmp 23) rfl w2.heap.size D rfl rfl 24 _ (heap_alloc_new w2 _) iP' (by rw [HZD.out]; rfl) oD ?_; rw [setRow_alloc])
      | (refine wpList_load_row rfl 24 (.tmp 2) rfl w.heap.size rfl 24 C (0, 0) _ (((Ext.alloc w2 (.cells D 24)).block _ (lt_of_heap hd2a)).trans hd2a) Try.underlying24 rfl id' ?_))
    obtain ⟨W2, hW2⟩ : ∃ W2, W2 = w2.alloc (.cells D 24) := ⟨_, rfl⟩
    have hy2 : W2.heap[w2.heap.size]? = some (.cells D 24 (0, 0)) := by rw [hW2]; exact heap_alloc_new w2 _
    have hE2 : Ext W1 W2 := by rw [hW2]; exact Ext.tr hb2 (Ext.alloc w2 _)
    obtain ⟨gy, hgy⟩ : ∃ gy, gy = w2.heap.size := ⟨_, rfl⟩
    rw [← hgy] at hy2 ⊢
    have hd2 := (hE2.block _ (lt_of_heap hd1)).trans hd1
    have hx2 := (hE2.block _ (lt_of_heap hx1)).trans hx1
    have hE02 := Ext.tr hE1 hE2
    rw [← hW2]
    clear hW2 hgy hb2 hx1 hd1 hE1 hE2 p2
    refine (h1 W2).mono ?_
    rintro e w3 ⟨rfl, hb3⟩
    go_wp2_with fail
    refine (p3 w3).mono ?_
    rintro e w4 ⟨rfl, hb4⟩
    go_wp2_with (refine wpList_store_row rfl 25 (.tmp 9) (.tmp 29) rfl w4.heap.size C rfl rfl 25 _ (heap_alloc_new w4 _) iS (by rw [HZC.out]; rfl) oC ?_; rw [setRow_alloc])
    obtain ⟨W4, hW4⟩ : ∃ W4, W4 = w4.alloc (.cells C 25) := ⟨_, rfl⟩
    have hz4 : W4.heap[w4.heap.size]? = some (.cells C 25 (0, 0)) := by rw [hW4]; exact heap_alloc_new w4 _
    have hE4 : Ext W2 W4 := by rw [hW4]; exact Ext.tr hb3 (Ext.tr hb4 (Ext.alloc w4 _))
    obtain ⟨gz, hgz⟩ : ∃ gz, gz = w4.heap.size := ⟨_, rfl⟩
    rw [← hgz] at hz4 ⊢
    have hd4 := (hE4.block _ (lt_of_heap hd2)).trans hd2
    have hx4 := (hE4.block _ (lt_of_heap hx2)).trans hx2
    have hy4 := (hE4.block _ (lt_of_heap hy2)).trans hy2
    have hE04 := Ext.tr hE02 hE4
    rw [← hW4]
    clear hW4 hgz hb3 hb4 hd2 hx2 hy2 hE02 hE4 p3
    have hdr := Ext.drew W4
    have hd5 := (hdr.block _ (lt_of_heap hd4)).trans hd4
    have hx5 := (hdr.block _ (lt_of_heap hx4)).trans hx4
    have hy5 := (hdr.block _ (lt_of_heap hy4)).trans hy4
    have hz5 := (hdr.block _ (lt_of_heap hz4)).trans hz4
    clear hd4 hx4 hy4 hz4

    refine rg_start (by kernel_rfl) ?_
    refine rg_take 0 rfl (by kernel_rfl) (by kernel_rfl) (by kernel_rfl) (fun _ _ _ _ h => h) (by rfl) ⟨.agg C, fun w' hx => ex_load_row 24 _ rfl w.heap.size rfl 24 _ (0, 0) _ ((hx.block _ (lt_of_heap hd5)).trans hd5) Try.underlying24 rfl id', ?_⟩
    simp only [Act.put, List.setIfInBounds_toArray, List.set_cons_zero, List.set_cons_succ]
    refine rg_take 2 rfl (by kernel_rfl) (by kernel_rfl) (by kernel_rfl) (fun _ _ _ _ h => h) (by rfl) ⟨.agg C, fun w' hx => ex_load_row 24 _ rfl w.heap.size rfl 24 _ (0, 0) _ ((hx.block _ (lt_of_heap hd5)).trans hd5) Try.underlying24 rfl id', ?_⟩
    simp only [Act.put, List.setIfInBounds_toArray, List.set_cons_zero, List.set_cons_succ]
    refine rg_call 1 (h1 _) rfl (by kernel_rfl) (by rfl) (by go_simp) ?_
    rintro e w6 ⟨rfl, hb6⟩
    refine ⟨_, rfl, hb6, ?_⟩
    simp only [Act.put, List.setIfInBounds_toArray, List.set_cons_zero, List.set_cons_succ]
    refine rg_call 3 (h2 _) rfl (by kernel_rfl) (by rfl) (by go_simp) ?_
    rintro e w7 ⟨rfl, hb7⟩
    refine ⟨_, rfl, hb7, ?_⟩
    have hE7 := Ext.tr hb6 hb7
    have hx7 := (hE7.block _ (lt_of_heap hx5)).trans hx5
    have hy7 := (hE7.block _ (lt_of_heap hy5)).trans hy5
    have hz7 := (hE7.block _ (lt_of_heap hz5)).trans hz5
    have hd7 := (hE7.block _ (lt_of_heap hd5)).trans hd5
    simp only [Act.put, List.setIfInBounds_toArray, List.set_cons_zero, List.set_cons_succ]
    refine rg_take 4 rfl (by kernel_rfl) (by kernel_rfl) (by kernel_rfl) (fun _ _ _ _ h => h) (by rfl) ⟨.bool true, fun w' hx => by go_simp, ?_⟩
    simp only [Act.put, List.setIfInBounds_toArray, List.set_cons_zero, List.set_cons_succ]
    refine rg_take 5 rfl (by kernel_rfl) (by kernel_rfl) (by kernel_rfl) (fun _ _ _ _ h => h) (by rfl) ⟨_, fun w' hx => by (go_simp <;> with_reducible rfl), ?_⟩
    simp only [Act.put, List.setIfInBounds_toArray, List.set_cons_zero, List.set_cons_succ]
    refine rg_take 6 rfl (by kernel_rfl) (by kernel_rfl) (by kernel_rfl) (fun _ _ _ _ h => h) (by rfl) ⟨.agg D, fun w' hx => ex_load_row 25 _ rfl gx rfl 25 _ (0, 0) _ ((hx.block _ (lt_of_heap hx7)).trans hx7) Try.underlying25 rfl iP, ?_⟩
    simp only [Act.put, List.setIfInBounds_toArray, List.set_cons_zero, List.set_cons_succ]
    refine rg_take 7 rfl (by kernel_rfl) (by kernel_rfl) (by kernel_rfl) (fun _ _ _ _ h => h) (by rfl) ⟨.agg D, fun w' hx => ex_load_row 24 _ rfl gy rfl 24 _ (0, 0) _ ((hx.block _ (lt_of_heap hy7)).trans hy7) Try.underlying24 rfl iP', ?_⟩
    simp only [Act.put, List.setIfInBounds_toArray, List.set_cons_zero, List.set_cons_succ]
    refine rg_take 8 rfl (by kernel_rfl) (by kernel_rfl) (by kernel_rfl) (fun _ _ _ _ h => h) (by rfl) ⟨.bool true, fun w' hx => by go_simp, ?_⟩
    simp only [Act.put, List.setIfInBounds_toArray, List.set_cons_zero, List.set_cons_succ]
    refine rg_take 9 rfl (by kernel_rfl) (by kernel_rfl) (by kernel_rfl) (fun _ _ _ _ h => h) (by rfl) ⟨_, fun w' hx => by (go_simp <;> with_reducible rfl), ?_⟩
    simp only [Act.put, List.setIfInBounds_toArray, List.set_cons_zero, List.set_cons_succ]
    refine rg_take 10 rfl (by kernel_rfl) (by kernel_rfl) (by kernel_rfl) (fun _ _ _ _ h => h) (by rfl) ⟨_, fun w' hx => by (go_simp <;> with_reducible rfl), ?_⟩
    simp only [Act.put, List.setIfInBounds_toArray, List.set_cons_zero, List.set_cons_succ]
    refine rg_take 11 rfl (by kernel_rfl) (by kernel_rfl) (by kernel_rfl) (fun _ _ _ _ h => h) (by rfl) ⟨_, fun w' hx => by (go_simp <;> with_reducible rfl), ?_⟩
    simp only [Act.put, List.setIfInBounds_toArray, List.set_cons_zero, List.set_cons_succ]
    refine rg_take 12 rfl (by kernel_rfl) (by kernel_rfl) (by kernel_rfl) (fun _ _ _ _ h => h) (by rfl) ⟨_, fun w' hx => by (go_simp <;> with_reducible rfl), ?_⟩
    simp only [Act.put, List.setIfInBounds_toArray, List.set_cons_zero, List.set_cons_succ]
    refine rg_take 13 rfl (by kernel_rfl) (by kernel_rfl) (by kernel_rfl) (fun _ _ _ _ h => h) (by rfl) ⟨.bool true, fun w' hx => by (go_simp <;> simp), ?_⟩
    simp only [Act.put, List.setIfInBounds_toArray, List.set_cons_zero, List.set_cons_succ]
    refine rg_take 14 rfl (by kernel_rfl) (by kernel_rfl) (by kernel_rfl) (fun _ _ _ _ h => h) (by rfl) ⟨_, fun w' hx => by (go_simp <;> with_reducible rfl), ?_⟩
    simp only [Act.put, List.setIfInBounds_toArray, List.set_cons_zero, List.set_cons_succ]
    refine rg_take 15 rfl (by kernel_rfl) (by kernel_rfl) (by kernel_rfl) (fun _ _ _ _ h => h) (by rfl) ⟨_, fun w' hx => by (go_simp <;> with_reducible rfl), ?_⟩
    simp only [Act.put, List.setIfInBounds_toArray, List.set_cons_zero, List.set_cons_succ]
    refine rg_take 16 rfl (by kernel_rfl) (by kernel_rfl) (by kernel_rfl) (fun _ _ _ _ h => h) (by rfl) ⟨_, fun w' hx => by (go_simp <;> with_reducible rfl), ?_⟩
    simp only [Act.put, List.setIfInBounds_toArray, List.set_cons_zero, List.set_cons_succ]
    refine rg_take 17 rfl (by kernel_rfl) (by kernel_rfl) (by kernel_rfl) (fun _ _ _ _ h => h) (by rfl) ⟨_, fun w' hx => by (go_simp <;> with_reducible rfl), ?_⟩
    simp only [Act.put, List.setIfInBounds_toArray, List.set_cons_zero, List.set_cons_succ]
    refine rg_take 18 rfl (by kernel_rfl) (by kernel_rfl) (by kernel_rfl) (fun _ _ _ _ h => h) (by rfl) ⟨_, fun w' hx => by (go_simp <;> with_reducible rfl), ?_⟩
    simp only [Act.put, List.setIfInBounds_toArray, List.set_cons_zero, List.set_cons_succ]
    refine rg_take 19 rfl (by kernel_rfl) (by kernel_rfl) (by kernel_rfl) (fun _ _ _ _ h => h) (by rfl) ⟨.agg C, fun w' hx => ex_load_row 25 _ rfl gz rfl 25 _ (0, 0) _ ((hx.block _ (lt_of_heap hz7)).trans hz7) Try.underlying25 rfl iS, ?_⟩
    simp only [Act.put, List.setIfInBounds_toArray, List.set_cons_zero, List.set_cons_succ]
    refine rg_take 20 rfl (by kernel_rfl) (by kernel_rfl) (by kernel_rfl) (fun _ _ _ _ h => h) (by rfl) ⟨.agg C, fun w' hx => ex_load_row 24 _ rfl w.heap.size rfl 24 _ (0, 0) _ ((hx.block _ (lt_of_heap hd7)).trans hd7) Try.underlying24 rfl id', ?_⟩
    simp only [Act.put, List.setIfInBounds_toArray, List.set_cons_zero, List.set_cons_succ]
    refine rg_take 21 rfl (by kernel_rfl) (by kernel_rfl) (by kernel_rfl) (fun _ _ _ _ h => h) (by rfl) ⟨.bool true, fun w' hx => by go_simp, ?_⟩
    simp only [Act.put, List.setIfInBounds_toArray, List.set_cons_zero, List.set_cons_succ]
    refine rg_take 22 rfl (by kernel_rfl) (by kernel_rfl) (by kernel_rfl) (fun _ _ _ _ h => h) (by rfl) ⟨_, fun w' hx => by (go_simp <;> with_reducible rfl), ?_⟩
    simp only [Act.put, List.setIfInBounds_toArray, List.set_cons_zero, List.set_cons_succ]
    refine rg_take 23 rfl (by kernel_rfl) (by kernel_rfl) (by kernel_rfl) (fun _ _ _ _ h => h) (by rfl) ⟨_, fun w' hx => by (go_simp <;> with_reducible rfl), ?_⟩
    simp only [Act.put, List.setIfInBounds_toArray, List.set_cons_zero, List.set_cons_succ]
    refine rg_call 24 (live03 _) rfl (by kernel_rfl) (by rfl) (by go_simp) ?_
    rintro e w8 ⟨rfl, hb8⟩
    refine ⟨_, rfl, hb8, ?_⟩
    simp only [Act.put, List.setIfInBounds_toArray, List.set_cons_zero, List.set_cons_succ]
    refine rg_take 25 rfl (by kernel_rfl) (by kernel_rfl) (by kernel_rfl) (fun _ _ _ _ h => h) (by rfl) ⟨_, fun w' hx => by (go_simp <;> with_reducible rfl), ?_⟩
    simp only [Act.put, List.setIfInBounds_toArray, List.set_cons_zero, List.set_cons_succ]
    refine rg_take 26 rfl (by kernel_rfl) (by kernel_rfl) (by kernel_rfl) (fun _ _ _ _ h => h) (by rfl) ⟨_, fun w' hx => by (go_simp <;> with_reducible rfl), ?_⟩
    simp only [Act.put, List.setIfInBounds_toArray, List.set_cons_zero, List.set_cons_succ]
    refine rg_done (by kernel_rfl) ?_
    go_wp2
    go_ret
    exact ⟨rfl, Ext.tr hB0 (Ext.tr hE04 (Ext.tr hdr (Ext.tr hE7 hb8)))⟩
  · clear hC
    go_enter Try.func5, Try.ntmps5
    go_wp2_with fail
    refine Eq.mpr (congrArg (fun X => Calls _ _ _ X _) (show _ = W0 from by rw [HW0.out])) ?_
    refine (live03 W0).mono ?_
    rintro e w4 ⟨rfl, hb4⟩
    go_wp2
    go_ret
    exact ⟨rfl, Ext.tr hB0 hb4⟩
end Go.Proofs.Ytgpcfhdldmkijaa
