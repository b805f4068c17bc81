/- Texts as digests: the walk of sha.Parse. -/
import Derived.Test.YtgpcfhdldmkijaaShaParse
namespace Go.Proofs.Ytgpcfhdldmkijaa
open Go.RowKit

theorem results_row_tmp {P : Program} {fn : Func} {p u : Tmp} {ty : TypeId} (h : fn.results = #[.cell p ty, .tmp u]) (tmps : Array Value) (w : World) (g : Nat) (t : TypeId) (cs : Array Value) (fr : Nat × Nat) (d : TypeDesc)
    (hp : tmps.getD p undef = .pointer (some ⟨g, 0, none⟩)) (hg : w.heap[g]? = some (.cells cs t fr))
    (hu : P.underlying ty = some d) (hd : (match d with | .struct _ | .array _ _ => true | _ => false) = true) (hi : (P.info? ty).map (·.size) = some cs.size) :
    (results fn tmps).run P w = .ok (.tuple #[.agg cs, tmps.getD u undef]) w := by
  rw [results_cell_tmp h, hp]
  simp [asAddr, run_loadVar_row w g t ty cs fr d hg hu hd hi, Result.andThen]
theorem setCell_iter (w : World) (s : ByteArray) (k g i : Nat) (v : Value) (h : g < w.heap.size) : (w.iter s k).setCell ⟨g, i, none⟩ v = (w.setCell ⟨g, i, none⟩ v).iter s k := World.setCell_alloc_past _ g i v h
theorem str_at (l : List UInt8) (k : Nat) (h : k < l.length) : (⟨l.toArray⟩ : ByteArray)[k]'(by show k < l.toArray.size; simpa using h) = l.getD k 0 := by
  rw [List.getD_eq_getElem?_getD, List.getElem?_eq_getElem h]
  rfl
theorem it_pos (X : World) (t : ByteArray) (k m : Nat) (h : X.heap.size = m) : (X.iter t k).iterPos m = k := by subst h; simp
def Z32 : Array Value := Array.replicate 32 (.int .u8 0)
theorem bvs_zeros (n : Nat) : (bvs (List.replicate n 0)).toArray = Array.replicate n (Value.int .u8 0) := by simp [bvs, bv]
theorem Z32_is : (bvs (List.replicate 32 0)).toArray = Z32 := bvs_zeros 32
theorem Z32_size : Z32.size = 32 := by simp [Z32]
theorem Z32_one : Z32.all (·.oneCell') = true := by
  rw [Array.all_eq_true_iff_forall_mem]
  intro v hv
  simp only [Z32, Array.mem_replicate] at hv
  rw [hv.2]
  rfl
theorem infoZ : (Try.prog.info? 25).map (·.size) = some Z32.size := by rw [Z32_size]; kernel_rfl
theorem bvs_get' (l : List UInt8) (k : Nat) (h : k < l.length) : (bvs l).toArray[k]? = some (.int .u8 ((l.getD k 0).toNat : Int)) := by
  rw [List.getElem?_toArray, bvs_get _ _ h]
  simp [bv, List.getElem?_eq_getElem h]
theorem acc_getD (t : List UInt8) (i j : Nat) (h : j < 32) : ((Sha.acc t i).getD j 0).toNat = Sha.accN t i j % 256 := by
  simp [Sha.acc, h]
theorem or8 (x n : Nat) (hx : x < 16) (hn : n < 16) : bits .or .u8 ((x : Int) * 16) (n : Int) = ((x * 16 + n : Nat) : Int) := by
  have h1 := u8_or_nat (x * 16) n (by omega) (by omega)
  have h2 := Nat.two_pow_add_eq_or_of_lt (i := 4) (b := n) (by omega) x
  rw [Nat.mul_comm] at h2
  simp only [Nat.reducePow] at h2
  rw [← h2] at h1
  rw [← h1]
  norm_cast

set_option maxRecDepth 100000 in
set_option maxHeartbeats 2000000 in
theorem parse_any (l : List UInt8) (w : World) :
    Calls Try.prog 14 #[.string ⟨l.toArray⟩] w fun e w' => e = .returned (.tuple #[.agg (bvs (Sha.parsed l)).toArray, .bool (Sha.okB l)]) ∧ Below w.heap.size w w' := by
  obtain ⟨W0, hW0⟩ : ∃ W0, W0 = w.alloc (.cells Z32 25) := ⟨_, rfl⟩
  have hz0 : W0.heap[w.heap.size]? = some (.cells Z32 25 (0, 0)) := by rw [hW0]; exact heap_alloc_new w _
  have hB0 : Ext w W0 := by rw [hW0]; exact Ext.alloc w _
  have hs0 : W0.heap.size = w.heap.size + 1 := by rw [hW0]; simp
  have HW0 := Lib.hid hW0
  clear hW0
  by_cases h64 : l.length = 64
  · go_enter Try.func14, Try.ntmps14
    go_wp2_with fail
    refine Eq.mpr (congrArg (fun X => Code.wp _ _ _ _ X) (show _ = W0.iter ⟨l.toArray⟩ 0 from by rw [HW0.out]; rfl)) ?_
    have hacc0 : (bvs (Sha.acc l 0)).toArray = Z32 := by rw [← Z32_is]; rfl
    go_loopw [12] (fun _ wr => ∃ (X : World) (k : Nat), k ≤ 64 ∧ wr = X.iter ⟨l.toArray⟩ k ∧ X.heap.size = w.heap.size + 1 ∧ X.heap[w.heap.size]? = some (.cells (bvs (Sha.acc l k)).toArray 25 (0, 0)) ∧ Below w.heap.size w X ∧ (∀ j, j < k → 0 ≤ Sha.hv (l.getD j 0))) (fun _ wr => 64 - wr.iterPos (w.heap.size + 1))
    case atStart => exact ⟨W0, 0, by omega, rfl, hs0, by rw [hacc0]; exact hz0, hB0, fun j hj => absurd hj (by omega)⟩
    case round =>
      obtain ⟨X, k, hk, rfl, hXs, hXz, hXB, hdig⟩ := hrel
      by_cases hk64 : k < 64
      · obtain ⟨c, hc⟩ : ∃ c, c = l.getD k 0 := ⟨_, rfl⟩
        have hat : (⟨l.toArray⟩ : ByteArray)[k]'(by show k < l.toArray.size; simp; omega) = c := by rw [hc]; exact str_at l k (by omega)
        have hkI : (k : Int) < 64 := by omega
        by_cases hv : 0 ≤ Sha.hv c
        · have hasc : c.toNat < 128 := by
            unfold Sha.hv at hv
            split at hv
            · omega
            · split at hv <;> omega
          have hnx : ∀ ty, (Instr.next (.pointer (some ⟨w.heap.size + 1, 0, none⟩)) true ty).run Try.prog (X.iter ⟨l.toArray⟩ k) = .ok (.tuple #[.bool true, .int .i64 k, .int .i32 c.toNat]) (X.iter ⟨l.toArray⟩ (k + 1)) := by
            intro ty
            have h1 := run_next_ascii (P := Try.prog) X ⟨l.toArray⟩ k ty (by show k < l.toArray.size; simp; omega) (by rw [hat]; exact hasc)
            rw [hat, hXs] at h1
            exact h1
          obtain ⟨n, hn⟩ : ∃ n, n = Sha.hn c := ⟨_, rfl⟩
          have hn16 : n < 16 := by rw [hn]; exact Sha.hn_lt c
          have hvn : Sha.hv c = (n : Int) := by rw [hn]; unfold Sha.hn; omega
          obtain ⟨x, hx⟩ : ∃ x, x = Sha.accN l k (k / 2) := ⟨_, rfl⟩
          have hx16 : x < 16 := by rw [hx]; exact Sha.accN_old l k
          have hset : Hid ((bvs (Sha.acc l k)).toArray.setIfInBounds (k / 2) (.int .u8 ((x * 16 + n : Nat) : Int)) = (bvs (Sha.acc l (k + 1))).toArray) := by
            show _ = _
            rw [← Sha.acc_set l k hk64, ← hx, ← hc, ← hn]
            apply Array.ext'
            rw [Array.toList_setIfInBounds]
            show (bvs (Sha.acc l k)).set (k / 2) _ = bvs _
            rw [← bvs_set]
            congr 1
            unfold bv
            rw [UInt8.toNat_ofNat', Nat.mod_eq_of_lt (by omega)]
          have hdig2 : ∀ j, j < k + 1 → 0 ≤ Sha.hv (l.getD j 0) := fun j hj => by
            by_cases hjk : j = k
            · rw [hjk, ← hc]; exact hv
            · exact hdig j (by omega)
          have hgl := lt_of_heap hXz
          have hcell : (X.iter ⟨l.toArray⟩ (k + 1)).cell? ⟨w.heap.size, k / 2, none⟩ = some (.int .u8 (x : Int)) := by
            have h1 : X.cell? ⟨w.heap.size, k / 2, none⟩ = some (.int .u8 (x : Int)) := by
              rw [cell_of_row X _ _ _ _ _ hXz, bvs_get' _ _ (by rw [Sha.acc_len]; omega), acc_getD l k (k / 2) (by omega), ← hx, Nat.mod_eq_of_lt (by omega)]
            exact (Ext.alloc X (.stringIter ⟨l.toArray⟩ (k + 1))).load h1
          have hfz : (X.iter ⟨l.toArray⟩ (k + 1)).frozen? ⟨w.heap.size, k / 2, none⟩ = false := by
            have h1 := frozen_of_row X w.heap.size (k / 2) _ _ hXz
            rw [← h1]
            exact World.frozen?_alloc_old _ _ _ (by show w.heap.size ≠ X.heap.size; omega)
          have hor := or8 x n hx16 hn16
          have hwx : IntKind.u8.wrap ((x : Int) * 16) = (x : Int) * 16 := by rw [IntKind.wrap_u8']; omega
          have hwn : IntKind.u8.wrap (n : Int) = (n : Int) := by rw [IntKind.wrap_u8']; omega
          obtain ⟨q, hq⟩ : ∃ q, q = k / 2 := ⟨_, rfl⟩
          have hq1 : (k : Int) / 2 = (q : Int) := by omega
          have hq2 : (k : Int).tdiv 2 = (q : Int) := by rw [Int.tdiv_eq_ediv_of_nonneg (by omega)]; exact hq1
          have hq3 : (q : Int) < 32 := by omega
          rw [← hq] at hset hcell hfz
          clear hq
          have hlk : l[k]'(by omega) = c := by rw [hc]; simp [List.getElem?_eq_getElem (show k < l.length by omega)]
          have Hdig2 := Lib.hid hdig2
          clear hc hn hx hdig hdig2 hv hasc hlk
          go_wp2_with fail
          refine (str_index c _).mono ?_
          rintro e w' ⟨rfl, rfl⟩
          rw [hvn]
          have hn0 : ¬ (n : Int) < 0 := by omega
          clear hvn hnx
          have hn1 := heap_setCell_same X w.heap.size q _ _ (.int .u8 ((x * 16 + n : Nat) : Int)) hXz
          rw [hset.out] at hn1
          have hn2 := hXB.setCell (p := ⟨w.heap.size, q, none⟩) (Nat.le_refl _) (.int .u8 ((x * 16 + n : Nat) : Int))
          have hn3 : (X.setCell ⟨w.heap.size, q, none⟩ (.int .u8 ((x * 16 + n : Nat) : Int))).heap.size = w.heap.size + 1 := by simp [hXs]
          have hsi := setCell_iter X ⟨l.toArray⟩ (k + 1) w.heap.size q (.int .u8 ((x * 16 + n : Nat) : Int)) hgl
          obtain ⟨V, hV⟩ : ∃ V, V = X.setCell ⟨w.heap.size, q, none⟩ (.int .u8 ((x * 16 + n : Nat) : Int)) := ⟨_, rfl⟩
          rw [← hV] at hn1 hn2 hn3 hsi
          have Hsi := Lib.hid hsi
          clear hsi hV hset
          go_wp2_with fail
          go_roundw
          case rel => exact ⟨V, k + 1, by omega, by first | exact Hsi.out | (rw [← Hsi.out]; push_cast; rfl), hn3, hn1, hn2, Hdig2.out⟩
          case measure =>
            have e1 : (X.iter ⟨l.toArray⟩ (k + 1)).setCell ⟨w.heap.size, q, none⟩ (.int .u8 ((x : Int) * 16 + (n : Int))) = V.iter ⟨l.toArray⟩ (k + 1) := by rw [← Hsi.out]; push_cast; rfl
            rw [e1, it_pos V _ _ _ hn3, it_pos X _ _ _ hXs]
            omega
        · have hok : Sha.okB l = false := Sha.ok_at hk64 (by rw [← hc]; omega)
          have HP : Hid ((bvs (Sha.parsed l)).toArray = Z32) := by show _ = _; unfold Sha.parsed; rw [hok]; exact Z32_is
          have HO := Lib.hid hok
          have hneg : Sha.hv c < 0 := by omega
          obtain ⟨d, hd⟩ : ∃ d, d = k + (Utf8.decode ⟨l.toArray⟩ k).2 := ⟨_, rfl⟩
          have hnx : ∀ ty, (Instr.next (.pointer (some ⟨w.heap.size + 1, 0, none⟩)) true ty).run Try.prog (X.iter ⟨l.toArray⟩ k) = .ok (.tuple #[.bool true, .int .i64 k, .int .i32 (Utf8.decode ⟨l.toArray⟩ k).1]) (X.iter ⟨l.toArray⟩ d) := by
            intro ty
            have h1 := run_next_any (P := Try.prog) X ⟨l.toArray⟩ k ty (by show k < l.toArray.size; simp; omega)
            rw [hXs] at h1
            rw [hd]
            exact h1
          have hXi : (X.iter ⟨l.toArray⟩ d).heap[w.heap.size]? = some (.cells (bvs (Sha.acc l k)).toArray 25 (0, 0)) := ((Ext.alloc X (.stringIter ⟨l.toArray⟩ d)).block _ (lt_of_heap hXz)).trans hXz
          have hold : (bvs (Sha.acc l k)).toArray.size = Z32.size := by rw [List.size_toArray, bvs_len, Sha.acc_len, Z32_size]
          have hXiB : Below w.heap.size w (X.iter ⟨l.toArray⟩ d) := hXB.trans ((Ext.alloc X (.stringIter ⟨l.toArray⟩ d)).mono hXB.size)
          generalize (Utf8.decode ⟨l.toArray⟩ k).1 = rn at hnx
          obtain ⟨Y, hY⟩ : ∃ Y, Y = X.iter ⟨l.toArray⟩ d := ⟨_, rfl⟩
          rw [← hY] at hXi hXiB hnx
          clear hc hok hv hd hdig hY hXz
          generalize (bvs (Sha.acc l k)).toArray = OLD at hXi hold
          go_wp2_with fail
          refine (str_index c _).mono ?_
          rintro e w' ⟨rfl, rfl⟩
          go_wp2_with (first | (refine wpList_store_row rfl 25 (.tmp 2) (.tmp 21) rfl w.heap.size Z32 rfl rfl 25 _ hXi infoZ hold Z32_one ?_))
          have hg2 := setRow_heap Y w.heap.size _ Z32 _ _ hXi
          refine bodyPost_ret (results_row_tmp rfl _ _ w.heap.size 25 Z32 (0, 0) _ rfl hg2 Try.underlying25 rfl infoZ) rfl ?_
          rw [HP.out, HO.out]
          exact ⟨rfl, ⟨hXiB.os, hXiB.tape, hXiB.output, by simpa using hXiB.size, fun i hi => (setRow_other _ _ _ _ (by omega)).trans (hXiB.block i hi)⟩⟩
      · obtain rfl : k = 64 := by omega
        have hok : Sha.okB l = true := Sha.ok_yes h64 hdig
        have HP : Hid ((bvs (Sha.parsed l)).toArray = (bvs (Sha.acc l 64)).toArray) := by show _ = _; unfold Sha.parsed; rw [hok]; rfl
        have HO := Lib.hid hok
        have hnx : ∀ ty, (Instr.next (.pointer (some ⟨w.heap.size + 1, 0, none⟩)) true ty).run Try.prog (X.iter ⟨l.toArray⟩ 64) = .ok (.tuple #[.bool false]) (X.iter ⟨l.toArray⟩ 64) := by
          intro ty
          have h1 := run_next_end (P := Try.prog) X ⟨l.toArray⟩ 64 ty (by show ¬ 64 < l.toArray.size; simp; omega)
          rw [hXs] at h1
          exact h1
        have hXi : (X.iter ⟨l.toArray⟩ 64).heap[w.heap.size]? = some (.cells (bvs (Sha.acc l 64)).toArray 25 (0, 0)) := ((Ext.alloc X (.stringIter ⟨l.toArray⟩ 64)).block _ (lt_of_heap hXz)).trans hXz
        have hXiB : Below w.heap.size w (X.iter ⟨l.toArray⟩ 64) := hXB.trans ((Ext.alloc X (.stringIter ⟨l.toArray⟩ 64)).mono hXB.size)
        have hsz : (bvs (Sha.acc l 64)).toArray.size = 32 := by rw [List.size_toArray, bvs_len, Sha.acc_len]
        have hone : (bvs (Sha.acc l 64)).toArray.all (·.oneCell') = true := by
          rw [Array.all_eq_true_iff_forall_mem]
          intro v hv
          exact bvs_one _ v (by simpa using hv)
        have hinf : (Try.prog.info? 25).map (·.size) = some (bvs (Sha.acc l 64)).toArray.size := by rw [hsz]; kernel_rfl
        obtain ⟨Y, hY⟩ : ∃ Y, Y = X.iter ⟨l.toArray⟩ 64 := ⟨_, rfl⟩
        rw [← hY] at hXi hXiB hnx ⊢
        generalize (bvs (Sha.acc l 64)).toArray = C at hXi hone hinf HP
        clear hok hdig hY hXz hsz
        go_wp2_with (first
          | (refine wpList_load_row rfl 25 (.tmp 2) rfl w.heap.size rfl 25 C (0, 0) _ hXi Try.underlying25 rfl hinf ?_)
          | (refine wpList_store_row rfl 25 (.tmp 2) (.tmp 33) rfl w.heap.size C rfl rfl 25 C hXi hinf rfl hone ?_))
        have hg2 := setRow_heap Y w.heap.size _ C _ _ hXi
        refine bodyPost_ret (results_row_tmp rfl _ _ w.heap.size 25 C (0, 0) _ rfl hg2 Try.underlying25 rfl hinf) rfl ?_
        rw [HP.out, HO.out]
        exact ⟨rfl, ⟨hXiB.os, hXiB.tape, hXiB.output, by simpa using hXiB.size, fun i hi => (setRow_other _ _ _ _ (by omega)).trans (hXiB.block i hi)⟩⟩
  · have hok := Sha.ok_len h64
    have hne : ((l.length : Int) == 64) = false := by rw [beq_eq_false_iff_ne]; omega
    have HP : Hid ((bvs (Sha.parsed l)).toArray = Z32) := by show _ = _; unfold Sha.parsed; rw [hok]; exact Z32_is
    have HO := Lib.hid hok
    clear hok
    go_enter Try.func14, Try.ntmps14
    go_wp2_with (first
      | (refine Eq.mpr (congrArg (fun X => wpList _ _ _ _ _ X) (show _ = W0 from by rw [HW0.out]; rfl)) ?_; refine wpList_load_row rfl 25 (.tmp 2) rfl w.heap.size rfl 25 Z32 (0, 0) _ hz0 Try.underlying25 rfl infoZ ?_)
      | (refine wpList_store_row rfl 25 (.tmp 2) (.tmp 9) rfl w.heap.size Z32 rfl rfl 25 Z32 hz0 infoZ rfl Z32_one ?_))
    have hg2 := setRow_heap W0 w.heap.size _ Z32 _ _ hz0
    refine bodyPost_ret (results_row_tmp rfl _ _ w.heap.size 25 Z32 (0, 0) _ rfl hg2 Try.underlying25 rfl infoZ) rfl ?_
    rw [HP.out, HO.out]
    exact ⟨rfl, ⟨hB0.os, hB0.tape, hB0.output, by simpa using hB0.size, fun i hi => (setRow_other _ _ _ _ (by omega)).trans (hB0.block i hi)⟩⟩
end Go.Proofs.Ytgpcfhdldmkijaa
