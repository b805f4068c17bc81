/- Digests as texts (sha.Hex, scowref03.Hex). -/
import Derived.Test.YtgpcfhdldmkijaaShaRefSum
import Derived.Test.YtgpcfhdldmkijaaBuilder
namespace Go.Proofs.Ytgpcfhdldmkijaa
open Go.RowKit

namespace Sha
def hexd (n : Nat) : UInt8 := if n < 10 then UInt8.ofNat (48 + n) else UInt8.ofNat (87 + n)
def hex (l : List UInt8) : List UInt8 := l.flatMap fun c => [hexd (c.toNat / 16), hexd (c.toNat % 16)]
theorem hex_snoc (l : List UInt8) (c : UInt8) : hex (l ++ [c]) = hex l ++ [hexd (c.toNat / 16)] ++ [hexd (c.toNat % 16)] := by simp [hex]
theorem hex_len (l : List UInt8) : (hex l).length = 2 * l.length := by
  induction l with
  | nil => rfl
  | cons x xs ih => simp only [hex, List.flatMap_cons, List.length_append, List.length_cons, List.length_nil] at *; omega
end Sha

def digs : ByteArray := ⟨#[48, 49, 50, 51, 52, 53, 54, 55, 56, 57, 97, 98, 99, 100, 101, 102]⟩

theorem digs_at (n : Nat) (h : n < 16) : (⟨#[48, 49, 50, 51, 52, 53, 54, 55, 56, 57, 97, 98, 99, 100, 101, 102]⟩ : ByteArray)[n]'(by show n < 16; exact h) = Sha.hexd n := by
  have h16 : n = 0 ∨ n = 1 ∨ n = 2 ∨ n = 3 ∨ n = 4 ∨ n = 5 ∨ n = 6 ∨ n = 7 ∨ n = 8 ∨ n = 9 ∨ n = 10 ∨ n = 11 ∨ n = 12 ∨ n = 13 ∨ n = 14 ∨ n = 15 := by omega
  rcases h16 with rfl | rfl | rfl | rfl | rfl | rfl | rfl | rfl | rfl | rfl | rfl | rfl | rfl | rfl | rfl | rfl <;> rfl
theorem and15 (c : UInt8) : bits .and .u8 (c.toNat : Int) 15 = ((c.toNat % 16 : Nat) : Int) := by
  have := u8_and_nat c.toNat 15 c.toNat_lt (by omega)
  rw [nat_mask4] at this
  exact this
theorem cells_snoc (l : List UInt8) (x : UInt8) : Lib.byteCells l ++ [.int .u8 (x.toNat : Int)] = Lib.byteCells (l ++ [x]) := by simp [Lib.byteCells]
theorem run_index_sum (C : Array Value) (k : Nat) (h : k < 32) (c : UInt8) (hc : C[k]? = some (.int .u8 (c.toNat : Int))) (w : World) :
    (Instr.index 25 (.agg C) (.int .i64 (k : Int))).run Try.prog w = .ok (.int .u8 (c.toNat : Int)) w := by
  have h1 : (k : Int) < 32 := by omega
  unfold Instr.index
  simp only [asIntOf, Sem.run_bind, Sem.run_pure, Result.andThen_ok, run_underlying Try.underlying25]
  rw [if_pos (by constructor <;> omega)]
  unfold part
  go_simp

set_option maxRecDepth 100000 in
set_option maxHeartbeats 1000000 in
theorem hex_any (d : List UInt8) (hd : d.length = 32) (w : World) :
    Calls Try.prog 16 #[.agg (bvs d).toArray] w fun e w' => e = .returned (.string ⟨(Sha.hex d).toArray⟩) ∧ Below w.heap.size w w' := by
  obtain ⟨C, hC⟩ : ∃ C, C = (bvs d).toArray := ⟨_, rfl⟩
  rw [← hC]
  have hCs : C.size = 32 := by rw [hC, List.size_toArray, bvs_len, hd]
  have hCg : ∀ k, k < 32 → C[k]? = some (.int .u8 ((d.getD k 0).toNat : Int)) := by
    intro k hk
    rw [hC, List.getElem?_toArray, bvs_get _ _ (by omega)]
    simp [bv, List.getElem?_eq_getElem (show k < d.length by omega)]
  have hinf : (Try.prog.info? 25).map (·.size) = some C.size := by rw [hCs]; kernel_rfl
  have HC := Lib.hid hC
  have HCs := Lib.hid hCs
  clear hC hCs
  go_enter Try.func16, Try.ntmps16
  go_wp2_with (refine wpList_load_row rfl 25 (.tmp 1) rfl w.heap.size rfl 25 C (0, 0) _ (two_new w _ _).1 Try.underlying25 rfl hinf ?_)
  have hb0 := Lib.fresh_isBuilder 59 5 (w.alloc (.cells C 25))
  have hE0 := Ext.tr (Ext.alloc w (.cells C 25)) (Ext.alloc _ (.cells #[.pointer none, .slice none 0 0] 59))
  have hb1 : IsB (w.heap.size + 1) (w.heap.size + 1) (Lib.byteCells (Sha.hex (d.take 0))) ((w.alloc (.cells C 25)).alloc (.cells #[.pointer none, .slice none 0 0] 59)) := by
    simpa [Sha.hex, Lib.byteCells] using hb0
  go_loopw [7] (fun i wr => ∃ k : Nat, k ≤ 32 ∧ i = .int .i64 k ∧ IsB (w.heap.size + 1) (w.heap.size + 1) (Lib.byteCells (Sha.hex (d.take k))) wr ∧ Below w.heap.size w wr ∧ w.heap.size + 1 ≤ wr.heap.size) (fun i _ => 32 - (intOf i).toNat)
  case atStart => exact ⟨0, by omega, rfl, hb1, hE0, by simp⟩
  case round =>
    clear hb0 hE0 hb1
    obtain ⟨k, hk, rfl, hb, hB, hsz⟩ := hrel
    by_cases h : k < 32
    · have hcg := hCg k h
      obtain ⟨c, hc⟩ : ∃ c, c = d.getD k 0 := ⟨_, rfl⟩
      rw [← hc] at hcg
      have hix := run_index_sum C k h c hcg
      have hsn : Sha.hex (d.take (k + 1)) = Sha.hex (d.take k) ++ [Sha.hexd (c.toNat / 16)] ++ [Sha.hexd (c.toNat % 16)] := by
        rw [List.take_succ_eq_append_getElem (by omega), Sha.hex_snoc, hc]
        simp [List.getElem?_eq_getElem (show k < d.length by omega)]
      have Hsn := Lib.hid hsn
      have hlen : (Lib.byteCells (Sha.hex (d.take k))).length ≤ 64 := by rw [Lib.byteCells_length, Sha.hex_len, List.length_take]; omega
      have hc16 : (c.toNat : Int) / 16 < 16 := by have := c.toNat_lt; omega
      have hcn : c.toNat / 16 < 16 := by have := c.toNat_lt; omega
      have hcm : c.toNat % 16 < 16 := by omega
      have ha := and15 c
      clear hc hsn hcg
      go_wp2_with fail
      rw [digs_at _ hcn]
      refine (writeByte (w.heap.size + 1) (w.heap.size + 1) _ _ wr hb (by omega) hsz).mono ?_
      rintro e w1 ⟨rfl, hb1, hB1⟩
      rw [cells_snoc] at hb1
      have hs1 := hB1.size
      have hlen1 : (Lib.byteCells (Sha.hex (d.take k) ++ [Sha.hexd (c.toNat / 16)])).length ≤ 65 := by rw [← cells_snoc, List.length_append]; simp; omega
      go_wp2_with fail
      rw [digs_at _ hcm]
      refine (writeByte (w.heap.size + 1) (w.heap.size + 1) _ _ w1 (.inr hb1) (by omega) (by omega)).mono ?_
      rintro e w2 ⟨rfl, hb2, hB2⟩
      rw [cells_snoc, ← Hsn.out] at hb2
      have hs2 := hB2.size
      have hBB : Below w.heap.size w w2 := hB.trans ((hB1.trans hB2).mono (by omega))
      go_wp2_with fail
      go_roundw
      case rel => exact ⟨k + 1, by omega, by go_num, .inr hb2, hBB, by omega⟩
      case measure => simp [intOf]; omega
    · obtain rfl : k = 32 := by omega
      rw [List.take_of_length_le (by omega)] at hb
      go_wp2_with fail
      refine (bString (w.heap.size + 1) (w.heap.size + 1) (Sha.hex d) wr hb (by intro e; have h9 := Sha.hex_len d; rw [e] at h9; simp at h9; omega)).mono ?_
      rintro e w1 ⟨rfl, hB1⟩
      go_wp2
      go_ret
      exact ⟨rfl, hB.trans (hB1.mono (by omega))⟩
end Go.Proofs.Ytgpcfhdldmkijaa
