/- The reference's text of a digest (scowref03.Hex). Written by wip/tools/gen_refhex03.py. -/
import Derived.Test.YtgpcfhdldmkijaaShaHex
namespace Go.Proofs.Ytgpcfhdldmkijaa
open Go.RowKit

theorem digs_cut (n : Nat) (h : n < 16) : (⟨#[48, 49, 50, 51, 52, 53, 54, 55, 56, 57, 97, 98, 99, 100, 101, 102]⟩ : ByteArray).extract n (n + 1) = ⟨#[Sha.hexd n]⟩ := by
  have h16 : n = 0 ∨ n = 1 ∨ n = 2 ∨ n = 3 ∨ n = 4 ∨ n = 5 ∨ n = 6 ∨ n = 7 ∨ n = 8 ∨ n = 9 ∨ n = 10 ∨ n = 11 ∨ n = 12 ∨ n = 13 ∨ n = 14 ∨ n = 15 := by omega
  rcases h16 with rfl | rfl | rfl | rfl | rfl | rfl | rfl | rfl | rfl | rfl | rfl | rfl | rfl | rfl | rfl | rfl <;> rfl
theorem str_snoc (l : List UInt8) (x : UInt8) : (⟨l.toArray⟩ : ByteArray) ++ ⟨#[x]⟩ = ⟨(l ++ [x]).toArray⟩ := by
  apply ByteArray.ext
  simp [ByteArray.data_append]

set_option maxRecDepth 100000 in
set_option maxHeartbeats 1000000 in
theorem ref_hex (d : List UInt8) (hd : d.length = 32) (w : World) :
    Calls Try.prog 17 #[.agg (bvs d).toArray] w fun e w' => e = .returned (.string ⟨(Sha.hex d).toArray⟩) ∧ Below w.heap.size w w' := by
  obtain ⟨C, hC⟩ : ∃ C, C = (bvs d).toArray := ⟨_, rfl⟩
  rw [← hC]
  have hCs : C.size = 32 := by rw [hC, List.size_toArray, bvs_len, hd]
  have hCg : ∀ k, k < 32 → C[k]? = some (.int .u8 ((d.getD k 0).toNat : Int)) := by
    intro k hk
    rw [hC, List.getElem?_toArray, bvs_get _ _ (by omega)]
    simp [bv, List.getElem?_eq_getElem (show k < d.length by omega)]
  obtain ⟨W0, hW0⟩ : ∃ W0, W0 = w.alloc (.cells C 24) := ⟨_, rfl⟩
  have hg0 : W0.heap[w.heap.size]? = some (.cells C 24 (0, 0)) := by rw [hW0]; exact heap_alloc_new w _
  have hB0 : Below w.heap.size w W0 := by rw [hW0]; exact Ext.alloc w _
  have HW0 := Lib.hid hW0
  clear hC hW0
  go_enter Try.func17, Try.ntmps17
  go_wp2_with fail
  rw [← HW0.out]
  go_loopw [4, 5] (fun sv i wr => ∃ k : Nat, k ≤ 32 ∧ i = .int .i64 k ∧ sv = .string ⟨(Sha.hex (d.take k)).toArray⟩ ∧ wr.heap[w.heap.size]? = some (.cells C 24 (0, 0)) ∧ Below w.heap.size w wr) (fun _ i _ => 32 - (intOf i).toNat)
  case atStart => exact ⟨0, by omega, rfl, rfl, hg0, hB0⟩
  case round =>
    clear hg0 hB0
    obtain ⟨k, hk, rfl, rfl, hg, hB⟩ := hrel
    by_cases h : k < 32
    · obtain ⟨c, hc⟩ : ∃ c, c = d.getD k 0 := ⟨_, rfl⟩
      have hcg := hCg k h
      rw [← hc] at hcg
      have hcc : wr.drew.cell? ⟨w.heap.size, k, none⟩ = some (.int .u8 (c.toNat : Int)) := (cell_of_row wr.drew _ k _ _ _ hg).trans hcg
      have hsn : Sha.hex (d.take (k + 1)) = Sha.hex (d.take k) ++ [Sha.hexd (c.toNat / 16)] ++ [Sha.hexd (c.toNat % 16)] := by
        rw [List.take_succ_eq_append_getElem (by omega), Sha.hex_snoc, hc]
        simp [List.getElem?_eq_getElem (show k < d.length by omega)]
      have Hsn := Lib.hid hsn
      obtain ⟨L, hL⟩ : ∃ L, L = Sha.hex (d.take k) := ⟨_, rfl⟩
      rw [← hL] at hsn ⊢
      have HL := Lib.hid hL
      have hLl : L.length ≤ 64 := by rw [hL, Sha.hex_len, List.length_take]; omega
      have hcl := c.toNat_lt
      obtain ⟨q, hq⟩ : ∃ q, q = c.toNat / 16 := ⟨_, rfl⟩
      obtain ⟨m, hm⟩ : ∃ m, m = c.toNat % 16 := ⟨_, rfl⟩
      have hq16 : q < 16 := by omega
      have hm16 : m < 16 := by omega
      have q1 : (c.toNat : Int) / 16 = (q : Int) := by omega
      have q2 : (c.toNat : Int).tdiv 16 = (q : Int) := by rw [Int.tdiv_eq_ediv_of_nonneg (by omega)]; exact q1
      have m1 : (c.toNat : Int) % 16 = (m : Int) := by omega
      have m2 : (c.toNat : Int).tmod 16 = (m : Int) := by rw [Int.tmod_eq_emod_of_nonneg (by omega)]; exact m1
      have v1 : IntKind.u8.wrap (q : Int) = (q : Int) := by rw [IntKind.wrap_u8']; omega
      have v2 : IntKind.u8.wrap ((q : Int) + 1) = ((q + 1 : Nat) : Int) := by rw [IntKind.wrap_u8']; omega
      have v3 : IntKind.u8.wrap (m : Int) = (m : Int) := by rw [IntKind.wrap_u8']; omega
      have v4 : IntKind.u8.wrap ((m : Int) + 1) = ((m + 1 : Nat) : Int) := by rw [IntKind.wrap_u8']; omega
      have b1 : (q : Int) < 16 := by omega
      have b2 : (m : Int) < 16 := by omega
      have b3 : ((q + 1 : Nat) : Int) ≤ 16 := by omega
      have b4 : ((m + 1 : Nat) : Int) ≤ 16 := by omega
      have b5 : (q : Int) ≤ ((q + 1 : Nat) : Int) := by omega
      have b6 : (m : Int) ≤ ((m + 1 : Nat) : Int) := by omega
      have hkI : (k : Int) < 32 := by omega
      have d1 := digs_cut q hq16
      have d2 := digs_cut m hm16
      rw [← hq, ← hm] at Hsn
      rw [← hL] at Hsn
      clear hc hcg hsn hL hcl hq hm
      go_wp2_with fail
      refine rg_start (by kernel_rfl) ?_
      refine rg_take 0 rfl (by kernel_rfl) (by kernel_rfl) (by kernel_rfl) (fun _ _ _ _ h => h) (by rfl) ⟨_, fun w' hx => by (go_simp <;> with_reducible rfl), ?_⟩
      simp only [Act.put, List.setIfInBounds_toArray, List.set_cons_zero, List.set_cons_succ]
      refine rg_take 1 rfl (by kernel_rfl) (by kernel_rfl) (by kernel_rfl) (fun _ _ _ _ h => h) (by rfl) ⟨_, fun w' hx => by (go_simp <;> with_reducible rfl), ?_⟩
      simp only [Act.put, List.setIfInBounds_toArray, List.set_cons_zero, List.set_cons_succ]
      refine rg_take 2 rfl (by kernel_rfl) (by kernel_rfl) (by kernel_rfl) (fun _ _ _ _ h => h) (by rfl) ⟨_, fun w' hx => by (go_simp <;> with_reducible rfl), ?_⟩
      simp only [Act.put, List.setIfInBounds_toArray, List.set_cons_zero, List.set_cons_succ]
      refine rg_take 3 rfl (by kernel_rfl) (by kernel_rfl) (by kernel_rfl) (fun _ _ _ _ h => h) (by rfl) ⟨_, fun w' hx => by (go_simp <;> with_reducible rfl), ?_⟩   -- t13 := indexAddr 24 t1 t12
      simp only [Act.put, List.setIfInBounds_toArray, List.set_cons_zero, List.set_cons_succ]
      refine rg_take 4 rfl (by kernel_rfl) (by kernel_rfl) (by kernel_rfl) (fun _ _ _ _ h => h) (by rfl) ⟨_, fun w' hx => by have hcx := hx.load hcc; (go_simp <;> with_reducible rfl), ?_⟩
      simp only [Act.put, List.setIfInBounds_toArray, List.set_cons_zero, List.set_cons_succ]
      refine rg_take 5 rfl (by kernel_rfl) (by kernel_rfl) (by kernel_rfl) (fun _ _ _ _ h => h) (by rfl) ⟨.int .u8 (q : Int), fun w' hx => by (go_simp), ?_⟩
      simp only [Act.put, List.setIfInBounds_toArray, List.set_cons_zero, List.set_cons_succ]
      refine rg_take 6 rfl (by kernel_rfl) (by kernel_rfl) (by kernel_rfl) (fun _ _ _ _ h => h) (by rfl) ⟨_, fun w' hx => by (go_simp <;> with_reducible rfl), ?_⟩
      simp only [Act.put, List.setIfInBounds_toArray, List.set_cons_zero, List.set_cons_succ]
      refine rg_take 7 rfl (by kernel_rfl) (by kernel_rfl) (by kernel_rfl) (fun _ _ _ _ h => h) (by rfl) ⟨_, fun w' hx => by (go_simp <;> with_reducible rfl), ?_⟩   -- t17 := indexAddr 24 t1 t16
      simp only [Act.put, List.setIfInBounds_toArray, List.set_cons_zero, List.set_cons_succ]
      refine rg_take 8 rfl (by kernel_rfl) (by kernel_rfl) (by kernel_rfl) (fun _ _ _ _ h => h) (by rfl) ⟨_, fun w' hx => by have hcx := hx.load hcc; (go_simp <;> with_reducible rfl), ?_⟩
      simp only [Act.put, List.setIfInBounds_toArray, List.set_cons_zero, List.set_cons_succ]
      refine rg_take 9 rfl (by kernel_rfl) (by kernel_rfl) (by kernel_rfl) (fun _ _ _ _ h => h) (by rfl) ⟨.int .u8 (q : Int), fun w' hx => by (go_simp), ?_⟩
      simp only [Act.put, List.setIfInBounds_toArray, List.set_cons_zero, List.set_cons_succ]
      refine rg_take 10 rfl (by kernel_rfl) (by kernel_rfl) (by kernel_rfl) (fun _ _ _ _ h => h) (by rfl) ⟨.int .u8 ((q + 1 : Nat) : Int), fun w' hx => by (go_simp), ?_⟩
      simp only [Act.put, List.setIfInBounds_toArray, List.set_cons_zero, List.set_cons_succ]
      refine rg_take 11 rfl (by kernel_rfl) (by kernel_rfl) (by kernel_rfl) (fun _ _ _ _ h => h) (by rfl) ⟨.string ⟨#[Sha.hexd q]⟩, fun w' hx => by (go_simp; rw [if_pos (by omega), if_pos (by omega)]), ?_⟩
      simp only [Act.put, List.setIfInBounds_toArray, List.set_cons_zero, List.set_cons_succ]
      refine rg_take 12 rfl (by kernel_rfl) (by kernel_rfl) (by kernel_rfl) (fun _ _ _ _ h => h) (by rfl) ⟨.string ⟨(L ++ [Sha.hexd q]).toArray⟩, fun w' hx => by (go_simp; rw [if_neg (by (try simp); omega), str_snoc]), ?_⟩
      simp only [Act.put, List.setIfInBounds_toArray, List.set_cons_zero, List.set_cons_succ]
      refine rg_take 13 rfl (by kernel_rfl) (by kernel_rfl) (by kernel_rfl) (fun _ _ _ _ h => h) (by rfl) ⟨_, fun w' hx => by (go_simp <;> with_reducible rfl), ?_⟩
      simp only [Act.put, List.setIfInBounds_toArray, List.set_cons_zero, List.set_cons_succ]
      refine rg_take 14 rfl (by kernel_rfl) (by kernel_rfl) (by kernel_rfl) (fun _ _ _ _ h => h) (by rfl) ⟨_, fun w' hx => by (go_simp <;> with_reducible rfl), ?_⟩
      simp only [Act.put, List.setIfInBounds_toArray, List.set_cons_zero, List.set_cons_succ]
      refine rg_take 15 rfl (by kernel_rfl) (by kernel_rfl) (by kernel_rfl) (fun _ _ _ _ h => h) (by rfl) ⟨_, fun w' hx => by (go_simp <;> with_reducible rfl), ?_⟩   -- t25 := indexAddr 24 t1 t24
      simp only [Act.put, List.setIfInBounds_toArray, List.set_cons_zero, List.set_cons_succ]
      refine rg_take 16 rfl (by kernel_rfl) (by kernel_rfl) (by kernel_rfl) (fun _ _ _ _ h => h) (by rfl) ⟨_, fun w' hx => by have hcx := hx.load hcc; (go_simp <;> with_reducible rfl), ?_⟩
      simp only [Act.put, List.setIfInBounds_toArray, List.set_cons_zero, List.set_cons_succ]
      refine rg_take 17 rfl (by kernel_rfl) (by kernel_rfl) (by kernel_rfl) (fun _ _ _ _ h => h) (by rfl) ⟨.int .u8 (m : Int), fun w' hx => by (go_simp), ?_⟩
      simp only [Act.put, List.setIfInBounds_toArray, List.set_cons_zero, List.set_cons_succ]
      refine rg_take 18 rfl (by kernel_rfl) (by kernel_rfl) (by kernel_rfl) (fun _ _ _ _ h => h) (by rfl) ⟨_, fun w' hx => by (go_simp <;> with_reducible rfl), ?_⟩
      simp only [Act.put, List.setIfInBounds_toArray, List.set_cons_zero, List.set_cons_succ]
      refine rg_take 19 rfl (by kernel_rfl) (by kernel_rfl) (by kernel_rfl) (fun _ _ _ _ h => h) (by rfl) ⟨_, fun w' hx => by (go_simp <;> with_reducible rfl), ?_⟩   -- t29 := indexAddr 24 t1 t28
      simp only [Act.put, List.setIfInBounds_toArray, List.set_cons_zero, List.set_cons_succ]
      refine rg_take 20 rfl (by kernel_rfl) (by kernel_rfl) (by kernel_rfl) (fun _ _ _ _ h => h) (by rfl) ⟨_, fun w' hx => by have hcx := hx.load hcc; (go_simp <;> with_reducible rfl), ?_⟩
      simp only [Act.put, List.setIfInBounds_toArray, List.set_cons_zero, List.set_cons_succ]
      refine rg_take 21 rfl (by kernel_rfl) (by kernel_rfl) (by kernel_rfl) (fun _ _ _ _ h => h) (by rfl) ⟨.int .u8 (m : Int), fun w' hx => by (go_simp), ?_⟩
      simp only [Act.put, List.setIfInBounds_toArray, List.set_cons_zero, List.set_cons_succ]
      refine rg_take 22 rfl (by kernel_rfl) (by kernel_rfl) (by kernel_rfl) (fun _ _ _ _ h => h) (by rfl) ⟨.int .u8 ((m + 1 : Nat) : Int), fun w' hx => by (go_simp), ?_⟩
      simp only [Act.put, List.setIfInBounds_toArray, List.set_cons_zero, List.set_cons_succ]
      refine rg_take 23 rfl (by kernel_rfl) (by kernel_rfl) (by kernel_rfl) (fun _ _ _ _ h => h) (by rfl) ⟨.string ⟨#[Sha.hexd m]⟩, fun w' hx => by (go_simp; rw [if_pos (by omega), if_pos (by omega)]), ?_⟩
      simp only [Act.put, List.setIfInBounds_toArray, List.set_cons_zero, List.set_cons_succ]
      refine rg_take 24 rfl (by kernel_rfl) (by kernel_rfl) (by kernel_rfl) (fun _ _ _ _ h => h) (by rfl) ⟨.string ⟨(L ++ [Sha.hexd q, Sha.hexd m]).toArray⟩, fun w' hx => by (go_simp; rw [if_neg (by (try simp); omega), str_snoc]; simp), ?_⟩
      simp only [Act.put, List.setIfInBounds_toArray, List.set_cons_zero, List.set_cons_succ]
      refine rg_take 25 rfl (by kernel_rfl) (by kernel_rfl) (by kernel_rfl) (fun _ _ _ _ h => h) (by rfl) ⟨_, fun w' hx => by (go_simp <;> with_reducible rfl), ?_⟩
      simp only [Act.put, List.setIfInBounds_toArray, List.set_cons_zero, List.set_cons_succ]
      refine rg_done (by kernel_rfl) ?_
      go_wp2_with fail
      go_roundw
      case rel => exact ⟨k + 1, by omega, by go_num, by rw [Hsn.out]; simp, hg, hB.drew⟩
      case measure => simp [intOf]; omega
    · obtain rfl : k = 32 := by omega
      rw [List.take_of_length_le (by omega)]
      go_wp2
      go_ret
      exact ⟨rfl, hB⟩
end Go.Proofs.Ytgpcfhdldmkijaa
