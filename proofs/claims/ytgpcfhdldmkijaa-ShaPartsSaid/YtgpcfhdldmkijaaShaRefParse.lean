/- Texts as digests: the reference's Parse (scowref03.Parse). -/
import Derived.Test.YtgpcfhdldmkijaaShaParse2
namespace Go.Proofs.Ytgpcfhdldmkijaa
open Go.RowKit

theorem infoZ' : (Try.prog.info? 24).map (·.size) = some Z32.size := by rw [Z32_size]; kernel_rfl

set_option maxRecDepth 100000 in
set_option maxHeartbeats 2000000 in
theorem ref_parse (l : List UInt8) (w : World) :
    Calls Try.prog 15 #[.string ⟨l.toArray⟩] w fun e w' => e = .returned (.tuple #[.agg (bvs (Sha.parsed l)).toArray, .bool (Sha.okB l)]) ∧ Below w.heap.size w w' := by
  obtain ⟨W0, hW0⟩ : ∃ W0, W0 = (w.alloc (.cells Z32 24)).alloc (.cells Z32 24) := ⟨_, rfl⟩
  have hz0 : W0.heap[w.heap.size]? = some (.cells Z32 24 (0, 0)) := by rw [hW0]; exact (two_new w _ _).1
  have hz1 : W0.heap[w.heap.size + 1]? = some (.cells Z32 24 (0, 0)) := by rw [hW0]; exact (two_new w _ _).2
  have hB0 : Ext w W0 := by rw [hW0]; exact Ext.tr (Ext.alloc w _) (Ext.alloc _ _)
  have HW0 := Lib.hid hW0
  clear hW0
  by_cases h64 : l.length = 64
  · go_enter Try.func15, Try.ntmps15
    go_wp2_with fail
    refine Eq.mpr (congrArg (fun X => Code.wp _ _ _ _ X) (show _ = W0 from by rw [HW0.out]; rfl)) ?_
    have hacc0 : (bvs (Sha.acc l 0)).toArray = Z32 := by rw [← Z32_is]; rfl
    go_loopw [5] (fun i wr => ∃ k : Nat, k ≤ 64 ∧ i = .int .i64 k ∧ wr.heap[w.heap.size]? = some (.cells Z32 24 (0, 0)) ∧ wr.heap[w.heap.size + 1]? = some (.cells (bvs (Sha.acc l k)).toArray 24 (0, 0)) ∧ Below w.heap.size w wr ∧ (∀ j, j < k → 0 ≤ Sha.hv (l.getD j 0))) (fun i _ => 64 - (intOf i).toNat)
    case atStart => exact ⟨0, by omega, rfl, hz0, by rw [hacc0]; exact hz1, hB0, fun j hj => absurd hj (by omega)⟩
    case round =>
      clear hz0 hz1 hB0
      obtain ⟨k, hk, rfl, hZ, hXz, hXB, hdig⟩ := hrel
      by_cases hk64 : k < 64
      · obtain ⟨c, hc⟩ : ∃ c, c = l.getD k 0 := ⟨_, rfl⟩
        have hat : (⟨l.toArray⟩ : ByteArray)[k]'(by show k < l.toArray.size; simp; omega) = c := by rw [hc]; exact str_at l k (by omega)
        have hkI : (k : Int) < 64 := by omega
        by_cases hv : 0 ≤ Sha.hv c
        · obtain ⟨n, hn⟩ : ∃ n, n = Sha.hn c := ⟨_, rfl⟩
          have hn16 : n < 16 := by rw [hn]; exact Sha.hn_lt c
          have hvn : Sha.hv c = (n : Int) := by rw [hn]; unfold Sha.hn; omega
          obtain ⟨x, hx⟩ : ∃ x, x = Sha.accN l k (k / 2) := ⟨_, rfl⟩
          have hx16 : x < 16 := by rw [hx]; exact Sha.accN_old l k
          have hset : Hid ((bvs (Sha.acc l k)).toArray.setIfInBounds (k / 2) (.int .u8 ((x * 16 + n : Nat) : Int)) = (bvs (Sha.acc l (k + 1))).toArray) := by
            show _ = _
            rw [← Sha.acc_set l k hk64, ← hx, ← hc, ← hn]
            apply Array.ext'
            rw [Array.toList_setIfInBounds]
            show (bvs (Sha.acc l k)).set (k / 2) _ = bvs _
            rw [← bvs_set]
            congr 1
            unfold bv
            rw [UInt8.toNat_ofNat', Nat.mod_eq_of_lt (by omega)]
          have hdig2 : ∀ j, j < k + 1 → 0 ≤ Sha.hv (l.getD j 0) := fun j hj => by
            by_cases hjk : j = k
            · rw [hjk, ← hc]; exact hv
            · exact hdig j (by omega)
          have hcell : wr.cell? ⟨w.heap.size + 1, k / 2, none⟩ = some (.int .u8 (x : Int)) := by
            rw [cell_of_row wr _ _ _ _ _ hXz, bvs_get' _ _ (by rw [Sha.acc_len]; omega), acc_getD l k (k / 2) (by omega), ← hx, Nat.mod_eq_of_lt (by omega)]
          have hfz : wr.frozen? ⟨w.heap.size + 1, k / 2, none⟩ = false := frozen_of_row wr _ _ _ _ hXz
          have hwx : IntKind.u8.wrap ((x : Int) * 16) = (x : Int) * 16 := by rw [IntKind.wrap_u8']; omega
          have hwn : IntKind.u8.wrap ((x : Int) * 16 + (n : Int)) = (x : Int) * 16 + (n : Int) := by rw [IntKind.wrap_u8']; omega
          have hmx : (x : Int) * 16 % 256 = (x : Int) * 16 := by omega
          have hmn : ((x : Int) * 16 + (n : Int)) % 256 = (x : Int) * 16 + (n : Int) := by omega
          obtain ⟨q, hq⟩ : ∃ q, q = k / 2 := ⟨_, rfl⟩
          have hq1 : (k : Int) / 2 = (q : Int) := by omega
          have hq2 : (k : Int).tdiv 2 = (q : Int) := by rw [Int.tdiv_eq_ediv_of_nonneg (by omega)]; exact hq1
          have hq3 : (q : Int) < 32 := by omega
          rw [← hq] at hset hcell hfz
          have Hdig2 := Lib.hid hdig2
          have hn1 := heap_setCell_same wr (w.heap.size + 1) q _ _ (.int .u8 ((x * 16 + n : Nat) : Int)) hXz
          rw [hset.out] at hn1
          have hn2 := hXB.setCell (p := ⟨w.heap.size + 1, q, none⟩) (Nat.le_succ _) (.int .u8 ((x * 16 + n : Nat) : Int))
          have hn3 : (wr.setCell ⟨w.heap.size + 1, q, none⟩ (.int .u8 ((x * 16 + n : Nat) : Int))).heap[w.heap.size]? = some (.cells Z32 24 (0, 0)) := (heap_setCell_other _ _ _ _ (by show w.heap.size ≠ w.heap.size + 1; omega)).trans hZ
          push_cast at hn1 hn2 hn3
          clear hq hc hn hx hdig hdig2 hset hZ
          have hcl := c.toNat_lt
          by_cases hd : 48 ≤ c.toNat ∧ c.toNat ≤ 57
          · have e1 : (c.toNat : Int) - 48 = (n : Int) := by rw [← hvn]; unfold Sha.hv; rw [if_pos hd]
            have e2 : IntKind.u8.wrap ((c.toNat : Int) - 48) = (n : Int) := by rw [e1, IntKind.wrap_u8']; omega
            have g1 : (48 : Int) ≤ (c.toNat : Int) := by omega
            have g2 : (c.toNat : Int) ≤ 57 := by omega
            clear hvn hv hd e1
            go_wp2_with fail
            go_roundw
            case rel => exact ⟨k + 1, by omega, by go_num, hn3, hn1, hn2, Hdig2.out⟩
            case measure => simp [intOf]; omega
          · have hl : 97 ≤ c.toNat ∧ c.toNat ≤ 102 := by
              unfold Sha.hv at hv
              rw [if_neg hd] at hv
              split at hv <;> omega
            have e1 : (c.toNat : Int) - 87 = (n : Int) := by rw [← hvn]; unfold Sha.hv; rw [if_neg hd, if_pos hl]
            have e2 : IntKind.u8.wrap ((c.toNat : Int) - 97) = (c.toNat : Int) - 97 := by rw [IntKind.wrap_u8']; omega
            have e3 : IntKind.u8.wrap ((c.toNat : Int) - 97 + 10) = (n : Int) := by rw [IntKind.wrap_u8']; omega
            have g1 : (48 : Int) ≤ (c.toNat : Int) := by omega
            have g2 : ¬ (c.toNat : Int) ≤ 57 := by omega
            have g3 : (97 : Int) ≤ (c.toNat : Int) := by omega
            have g4 : (c.toNat : Int) ≤ 102 := by omega
            clear hvn hv hd hl e1
            go_wp2_with fail
            go_roundw
            case rel => exact ⟨k + 1, by omega, by go_num, hn3, hn1, hn2, Hdig2.out⟩
            case measure => simp [intOf]; omega
        · have hok : Sha.okB l = false := Sha.ok_at hk64 (by rw [← hc]; omega)
          have HP : Hid ((bvs (Sha.parsed l)).toArray = Z32) := by show _ = _; unfold Sha.parsed; rw [hok]; exact Z32_is
          have HO := Lib.hid hok
          have hcl := c.toNat_lt
          have hcs : c.toNat < 48 ∨ (57 < c.toNat ∧ c.toNat < 97) ∨ 102 < c.toNat := by
            unfold Sha.hv at hv
            split at hv
            · omega
            · split at hv <;> omega
          clear hc hok hv hdig hXz
          rcases hcs with g | ⟨g, g'⟩ | g
          all_goals
            go_wp2_with (first | (refine wpList_store_row rfl 24 (.tmp 2) (.tmp 15) rfl w.heap.size Z32 rfl rfl 24 _ hZ infoZ' rfl Z32_one ?_))
            have hg2 := setRow_heap wr w.heap.size _ Z32 _ _ hZ
            refine bodyPost_ret (results_row_tmp rfl _ _ w.heap.size 24 Z32 (0, 0) _ rfl hg2 Try.underlying24 rfl infoZ') rfl ?_
            rw [HP.out, HO.out]
            exact ⟨rfl, ⟨hXB.os, hXB.tape, hXB.output, by simpa using hXB.size, fun i hi => (setRow_other _ _ _ _ (by omega)).trans (hXB.block i hi)⟩⟩
      · obtain rfl : k = 64 := by omega
        have hok : Sha.okB l = true := Sha.ok_yes h64 hdig
        have HP : Hid ((bvs (Sha.parsed l)).toArray = (bvs (Sha.acc l 64)).toArray) := by show _ = _; unfold Sha.parsed; rw [hok]; rfl
        have HO := Lib.hid hok
        have hsz : (bvs (Sha.acc l 64)).toArray.size = 32 := by rw [List.size_toArray, bvs_len, Sha.acc_len]
        have hone : (bvs (Sha.acc l 64)).toArray.all (·.oneCell') = true := by
          rw [Array.all_eq_true_iff_forall_mem]
          intro v hv
          exact bvs_one _ v (by simpa using hv)
        have hinf : (Try.prog.info? 24).map (·.size) = some (bvs (Sha.acc l 64)).toArray.size := by rw [hsz]; kernel_rfl
        have hold : Z32.size = (bvs (Sha.acc l 64)).toArray.size := by rw [hsz, Z32_size]
        generalize (bvs (Sha.acc l 64)).toArray = C at hXz hone hinf HP hold
        clear hok hdig hsz
        go_wp2_with (first
          | (refine wpList_load_row rfl 24 (.tmp 4) rfl (w.heap.size + 1) rfl 24 C (0, 0) _ hXz Try.underlying24 rfl hinf ?_)
          | (refine wpList_store_row rfl 24 (.tmp 2) (.tmp 57) rfl w.heap.size C rfl rfl 24 Z32 hZ hinf hold hone ?_))
        have hg2 := setRow_heap wr w.heap.size _ C _ _ hZ
        refine bodyPost_ret (results_row_tmp rfl _ _ w.heap.size 24 C (0, 0) _ rfl hg2 Try.underlying24 rfl hinf) rfl ?_
        rw [HP.out, HO.out]
        exact ⟨rfl, ⟨hXB.os, hXB.tape, hXB.output, by simpa using hXB.size, fun i hi => (setRow_other _ _ _ _ (by omega)).trans (hXB.block i hi)⟩⟩
  · have hok := Sha.ok_len h64
    have hne : ((l.length : Int) == 64) = false := by rw [beq_eq_false_iff_ne]; omega
    have HP : Hid ((bvs (Sha.parsed l)).toArray = Z32) := by show _ = _; unfold Sha.parsed; rw [hok]; exact Z32_is
    have HO := Lib.hid hok
    clear hok
    go_enter Try.func15, Try.ntmps15
    go_wp2_with (first
      | (refine Eq.mpr (congrArg (fun X => wpList _ _ _ _ _ X) (show _ = W0 from by rw [HW0.out]; rfl)) ?_; refine wpList_load_row rfl 24 (.tmp 4) rfl (w.heap.size + 1) rfl 24 Z32 (0, 0) _ hz1 Try.underlying24 rfl infoZ' ?_)
      | (refine wpList_store_row rfl 24 (.tmp 2) (.tmp 10) rfl w.heap.size Z32 rfl rfl 24 Z32 hz0 infoZ' rfl Z32_one ?_))
    have hg2 := setRow_heap W0 w.heap.size _ Z32 _ _ hz0
    refine bodyPost_ret (results_row_tmp rfl _ _ w.heap.size 24 Z32 (0, 0) _ rfl hg2 Try.underlying24 rfl infoZ') rfl ?_
    rw [HP.out, HO.out]
    exact ⟨rfl, ⟨hB0.os, hB0.tape, hB0.output, by simpa using hB0.size, fun i hi => (setRow_other _ _ _ _ (by omega)).trans (hB0.block i hi)⟩⟩
end Go.Proofs.Ytgpcfhdldmkijaa
