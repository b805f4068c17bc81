/- The law on bits turned within 32 neighbouring ones: the walk returns true and changes nothing that was there. -/
import Derived.Test.YtbjaeocmmgoobaaCrcLive
import Derived.Test.YtbjaeocmmgoobaaCrcErr
import Derived.Test.YtbjaeocmmgoobaaReg
namespace Go.Proofs.Ytbjaeocmmgoobaa
open Go.RowKit

/-- The bytes d as they are when k places, from place s on, were gone through with the mask m: their tail is the old sum. -/
def Turned (p d : List UInt8) (s m k : Nat) : Prop :=
  d.length = p.length + 4 ∧ d.drop p.length = Crc.four (Crc.sum p) ∧ Crc.le (d.take p.length) = Crc.le p ^^^ 2 ^ s * (m % 2 ^ k)
theorem Turned.start (p : List UInt8) (s m : Nat) : Turned p (Crc.put p) s m 0 :=
  ⟨Crc.put_len p, by unfold Crc.put; exact List.drop_left, by rw [show (Crc.put p).take p.length = p by unfold Crc.put; exact List.take_left, Nat.pow_zero, Nat.mod_one, Nat.mul_zero, Nat.xor_zero]⟩
theorem mod_succ (m k : Nat) : m % 2 ^ (k + 1) = m % 2 ^ k ^^^ 2 ^ k * (m / 2 ^ k % 2) := by
  have h1 : m % 2 ^ (k + 1) = 2 ^ k * (m / 2 ^ k % 2) + m % 2 ^ k := by rw [Nat.mod_pow_succ, Nat.add_comm]
  have h2 : m % 2 ^ k < 2 ^ k := Nat.mod_lt _ (Nat.two_pow_pos k)
  rw [h1, Nat.xor_comm]
  apply Nat.eq_of_testBit_eq
  intro i
  rw [Nat.testBit_xor]
  by_cases hi : i < k
  · rw [Nat.testBit_two_pow_mul_add _ h2, if_pos hi, Nat.testBit_two_pow_mul]
    simp [show ¬ k ≤ i by omega]
  · rw [Nat.testBit_two_pow_mul_add _ h2, if_neg hi, Nat.testBit_two_pow_mul, Nat.testBit_lt_two_pow (x := m % 2 ^ k) (Nat.lt_of_lt_of_le h2 (Nat.pow_le_pow_right (by omega) (by omega)))]
    simp [show k ≤ i by omega]
theorem Turned.skip {p d : List UInt8} {s m k : Nat} (h : Turned p d s m k) (h0 : m / 2 ^ k % 2 = 0) : Turned p d s m (k + 1) :=
  ⟨h.1, h.2.1, by rw [h.2.2, mod_succ, h0, Nat.mul_zero, Nat.xor_zero]⟩
theorem Turned.turn {p d : List UInt8} {s m k : Nat} (h : Turned p d s m k) (h0 : m / 2 ^ k % 2 = 1) (hk : s + k < 8 * p.length) (hi : (s + k) / 8 < d.length) :
    Turned p (d.set ((s + k) / 8) (d[(s + k) / 8] ^^^ UInt8.ofNat (2 ^ ((s + k) % 8)))) s m (k + 1) := by
  have hlt : (s + k) / 8 < p.length := by omega
  refine ⟨by rw [List.length_set]; exact h.1, by rw [List.drop_set_of_lt hlt]; exact h.2.1, ?_⟩
  have hlt2 : (s + k) / 8 < (d.take p.length).length := by rw [List.length_take]; omega
  have e1 : (d.take p.length)[(s + k) / 8] = d[(s + k) / 8] := List.getElem_take
  have h8 : (UInt8.ofNat (2 ^ ((s + k) % 8))).toNat = 2 ^ ((s + k) % 8) := by
    rw [UInt8.toNat_ofNat', Nat.mod_eq_of_lt]
    have : 2 ^ ((s + k) % 8) ≤ 2 ^ 7 := Nat.pow_le_pow_right (by omega) (by omega)
    omega
  rw [List.take_set, ← e1, Crc.le_set _ _ hlt2, h.2.2, h8, mod_succ, h0, Nat.mul_one, Nat.xor_assoc, Crc.mul_xor, ← Nat.pow_add, ← Nat.pow_add]
  congr 3
  omega
theorem Turned.none_taken {p d : List UInt8} {s m k : Nat} (h : Turned p d s m k) (hs : s + k ≤ 8 * p.length) (hm : m < 4294967296) (h0 : m % 2 ^ k ≠ 0) : Crc.ok d = false := by
  have hd : d = d.take p.length ++ Crc.four (Crc.sum p) := by rw [← h.2.1, List.take_append_drop]
  have hl : (d.take p.length).length = p.length := by rw [List.length_take]; have := h.1; omega
  rw [hd]
  exact Crc.not_ok hl (Crc.burst_ne hl s (m % 2 ^ k) (by omega) (Nat.lt_of_le_of_lt (Nat.mod_le _ _) hm) h0 h.2.2)

set_option maxHeartbeats 1000000 in
theorem walkCrcBurst (w : World) (A : Option Addr) (p : List UInt8) (cp : Nat) (hA : RdB w A p) (_hcp : p.length ≤ cp) (at_ : Int) (hat : (Lit.int .i64 at_).wf = true) (x : Int) (hx : (Lit.int .u32 x).wf = true) :
    Calls Try.prog 6 #[.slice A p.length cp, .int .i64 at_, .int .u32 x] w fun e w' => e = .returned (.bool true) ∧ Below w.heap.size w w' := by
  obtain ⟨m, rfl, hm⟩ := wf_u32 hx
  obtain ⟨hat1, hat2⟩ := wf_int hat
  have live : Hid (Calls Try.prog 8 #[] w fun e w' => e = .returned (.bool true) ∧ Below w.heap.size w w') := live02 w
  clear hx hat
  by_cases h1 : p.length ≤ 3000
  · by_cases h2 : at_ < 0
    · go_enter Try.func6, Try.ntmps6
      go_wp2_with (go_at_call 8; refine live.out.mono ?_; rintro e w3 ⟨rfl, hb3⟩)
      go_ret
      exact ⟨rfl, hb3⟩
    · obtain ⟨s, rfl⟩ := Int.eq_ofNat_of_zero_le (show 0 ≤ at_ by omega)
      by_cases h3 : 8 * p.length ≤ s
      · go_enter Try.func6, Try.ntmps6
        go_wp2_with (go_at_call 8; refine live.out.mono ?_; rintro e w3 ⟨rfl, hb3⟩)
        go_ret
        exact ⟨rfl, hb3⟩
      · by_cases h4 : m = 0
        · subst h4
          go_enter Try.func6, Try.ntmps6
          go_wp2_with (go_at_call 8; refine live.out.mono ?_; rintro e w3 ⟨rfl, hb3⟩)
          go_ret
          exact ⟨rfl, hb3⟩
        · have hb0 : ((m : Int) == 0) = false := by
            rw [beq_eq_false_iff_ne]
            intro h
            exact h4 (by simpa using h)
          have hpl := Crc.put_len p
          have hlen : (((Crc.put p).length : Int) != (p.length : Int) + 4) = false := by rw [hpl]; simp
          have Hpl := Lib.hid hpl
          have Hm := Lib.hid hm
          clear hpl h4 hm
          go_enter Try.func6, Try.ntmps6
          go_wp2_with fail
          refine (put_any A p cp w hA (by omega)).mono ?_
          rintro e w1 ⟨A1, c1, rfl, ho1, hb1⟩
          go_wp2_with fail
          clear hlen
          go_loopw [1, 8, 9] (fun a t i wr => ∃ (k : Nat) (d : List UInt8), k ≤ 32 ∧ s + k ≤ 8 * p.length ∧ i = .int .i64 k ∧ a = .int .i64 ((s : Int) + k) ∧ t = .bool (!decide (m % 2 ^ k = 0)) ∧ Turned p d s m k ∧
            Own wr w.heap.size 5 1 A1 (Crc.put p).length c1 (bvs d) ∧ Below w.heap.size w wr) (fun _ _ i _ => 32 - (intOf i).toNat)
          case atStart =>
            exact ⟨0, Crc.put p, by omega, by omega, rfl, by simp, by simp [Nat.mod_one], Turned.start p s m, ho1, hb1⟩
          case round =>
            obtain ⟨k, d, hk, hsk, rfl, rfl, rfl, hT, hown, hbw⟩ := hrel
            have HT := Lib.hid hT
            clear hT
            by_cases hgo : k < 32 ∧ s + k < 8 * p.length
            · obtain ⟨hk32, hsk8⟩ := hgo
              have hmk : m / 2 ^ k < 4294967296 := Nat.lt_of_le_of_lt (Nat.div_le_self _ _) Hm.out
              have hbit := a32_1 (m / 2 ^ k) hmk
              have hcast : ((m / 2 ^ k : Nat) : Int) = (m : Int) / 2 ^ k := by simp
              rw [hcast] at hbit
              have hdl : d.length = p.length + 4 := HT.out.1
              have hi : (s + k) / 8 < d.length := by omega
              have hcp : (Crc.put p).length = p.length + 4 := Hpl.out
              clear hmk hcast
              rcases Crc.mod_two (m / 2 ^ k) with h0 | h0 <;> rw [h0] at hbit
              · have hT2 := Lib.hid (HT.out.skip h0)
                have hsame : Hid (m % 2 ^ (k + 1) = m % 2 ^ k) := by show _ = _; rw [mod_succ, h0, Nat.mul_zero, Nat.xor_zero]
                clear h0 hdl hi hcp
                go_wp2
                go_round
                case rel => exact ⟨k + 1, d, by omega, by omega, by go_num, val_int (by omega), by rw [hsame.out], hT2.out, hown, hbw⟩
                case measure => simp [intOf]; omega
              · have hT2 := Lib.hid (HT.out.turn h0 hsk8 hi)
                have hnz : Hid (decide (m % 2 ^ (k + 1) = 0) = false) := by
                  show _ = _
                  rw [decide_eq_false_iff_not, mod_succ, h0, Nat.mul_one]
                  intro h9
                  have h10 : m % 2 ^ k < 2 ^ k := Nat.mod_lt _ (Nat.two_pow_pos k)
                  have h11 := congrArg (m % 2 ^ k ^^^ ·) h9
                  simp only [← Nat.xor_assoc, Nat.xor_self, Nat.zero_xor, Nat.xor_zero] at h11
                  omega
                obtain ⟨ad, rfl, hcell, hfr, hbase, hrow, hset⟩ := hown.setB hi
                have Hrow := Lib.hid hrow
                have Hset := Lib.hid hset
                have Hcp := Lib.hid hcp
                have hl1 : (s + k) / 8 < (Crc.put p).length := by omega
                have hq : IntKind.i64.wrap (((s : Int) + (k : Int)).tdiv 8) = (((s + k) / 8 : Nat) : Int) := by
                  rw [Int.tdiv_eq_ediv_of_nonneg (by omega), IntKind.wrap_i64]; omega
                have hr : ((s : Int) + (k : Int)).tmod 8 = (((s + k) % 8 : Nat) : Int) := by
                  rw [Int.tmod_eq_emod_of_nonneg (by omega)]; omega
                have hj8 : (s + k) % 8 < 8 := Nat.mod_lt _ (by omega)
                clear h0 hrow hset hcp hdl
                generalize (s + k) / 8 = I at *
                generalize (s + k) % 8 = J at *
                have hv : Hid (bits .xor .u8 (d[I].toNat : Int) ((2 : Int) ^ J % 256) = ((d[I] ^^^ UInt8.ofNat (2 ^ J)).toNat : Int)) := by
                  have h9 := x8 d[I] (UInt8.ofNat (2 ^ J))
                  rwa [UInt8.toNat_ofNat', show ((2 ^ J % 2 ^ 8 : Nat) : Int) = (2 : Int) ^ J % 256 by simp] at h9
                go_wp2
                refine rg_start (by kernel_rfl) ?_
                refine rg_take 0 rfl (by kernel_rfl) (by kernel_rfl) (by kernel_rfl) (fun _ _ _ _ h => h) (by rfl) ⟨_, fun w' hx => by (go_simp <;> with_reducible rfl), ?_⟩
                simp only [Act.put, List.setIfInBounds_toArray, List.set_cons_zero, List.set_cons_succ]
                refine rg_take 1 rfl (by kernel_rfl) (by kernel_rfl) (by kernel_rfl) (fun _ _ _ _ h => h) (by rfl) ⟨_, fun w' hx => by (go_simp <;> with_reducible rfl), ?_⟩
                simp only [Act.put, List.setIfInBounds_toArray, List.set_cons_zero, List.set_cons_succ]
                refine rg_take 2 rfl (by kernel_rfl) (by kernel_rfl) (by kernel_rfl) (fun _ _ _ _ h => h) (by rfl) ⟨_, fun w' hx => by (go_simp <;> with_reducible rfl), ?_⟩   -- t57 := binOp quo 3 t56 8:i64 3
                simp only [Act.put, List.setIfInBounds_toArray, List.set_cons_zero, List.set_cons_succ]
                refine rg_take 3 rfl (by kernel_rfl) (by kernel_rfl) (by kernel_rfl) (fun _ _ _ _ h => h) (by rfl) ⟨_, fun w' hx => by (go_simp <;> with_reducible rfl), ?_⟩
                simp only [Act.put, List.setIfInBounds_toArray, List.set_cons_zero, List.set_cons_succ]
                refine rg_take 4 rfl (by kernel_rfl) (by kernel_rfl) (by kernel_rfl) (fun _ _ _ _ h => h) (by rfl) ⟨_, fun w' hx => by (go_simp <;> with_reducible rfl), ?_⟩
                simp only [Act.put, List.setIfInBounds_toArray, List.set_cons_zero, List.set_cons_succ]
                refine rg_take 5 rfl (by kernel_rfl) (by kernel_rfl) (by kernel_rfl) (fun _ _ _ _ h => h) (by rfl) ⟨_, fun w' hx => by (go_simp <;> with_reducible rfl), ?_⟩   -- t60 := binOp quo 3 t59 8:i64 3
                simp only [Act.put, List.setIfInBounds_toArray, List.set_cons_zero, List.set_cons_succ]
                refine rg_take 6 rfl (by kernel_rfl) (by kernel_rfl) (by kernel_rfl) (fun _ _ _ _ h => h) (by rfl) ⟨_, fun w' hx => by (go_simp <;> with_reducible rfl), ?_⟩   -- t61 := indexAddr 22 t58 t60
                simp only [Act.put, List.setIfInBounds_toArray, List.set_cons_zero, List.set_cons_succ]
                refine rg_take 7 rfl (by kernel_rfl) (by kernel_rfl) (by kernel_rfl) (fun _ _ _ _ h => h) (by rfl) ⟨_, fun w' hx => by have hcx := hx.load (v := .int .u8 (d[I].toNat : Int)) hcell; (go_simp <;> with_reducible rfl), ?_⟩
                simp only [Act.put, List.setIfInBounds_toArray, List.set_cons_zero, List.set_cons_succ]
                refine rg_take 8 rfl (by kernel_rfl) (by kernel_rfl) (by kernel_rfl) (fun _ _ _ _ h => h) (by rfl) ⟨_, fun w' hx => by (go_simp <;> with_reducible rfl), ?_⟩
                simp only [Act.put, List.setIfInBounds_toArray, List.set_cons_zero, List.set_cons_succ]
                refine rg_take 9 rfl (by kernel_rfl) (by kernel_rfl) (by kernel_rfl) (fun _ _ _ _ h => h) (by rfl) ⟨_, fun w' hx => by (go_simp <;> with_reducible rfl), ?_⟩   -- t64 := binOp rem 3 t63 8:i64 3
                simp only [Act.put, List.setIfInBounds_toArray, List.set_cons_zero, List.set_cons_succ]
                refine rg_take 10 rfl (by kernel_rfl) (by kernel_rfl) (by kernel_rfl) (fun _ _ _ _ h => h) (by rfl) ⟨_, fun w' hx => by (go_simp <;> with_reducible rfl), ?_⟩   -- t65 := binOp shl 5 1:u8 t64 3
                simp only [Act.put, List.setIfInBounds_toArray, List.set_cons_zero, List.set_cons_succ]
                refine rg_take 11 rfl (by kernel_rfl) (by kernel_rfl) (by kernel_rfl) (fun _ _ _ _ h => h) (by rfl) ⟨_, fun w' hx => by (go_simp <;> with_reducible rfl), ?_⟩   -- t66 := binOp xor 5 t62 t65 5
                simp only [Act.put, List.setIfInBounds_toArray, List.set_cons_zero, List.set_cons_succ]
                refine rg_take 12 rfl (by kernel_rfl) (by kernel_rfl) (by kernel_rfl) (fun _ _ _ _ h => h) (by rfl) ⟨_, fun w' hx => by (go_simp <;> with_reducible rfl), ?_⟩   -- t67 := indexAddr 22 t55 t57
                simp only [Act.put, List.setIfInBounds_toArray, List.set_cons_zero, List.set_cons_succ]
                -- 13: - := store 5 t67 t66
                refine rg_store 13 rfl (by kernel_rfl) (by kernel_rfl) (by rfl) ⟨_, by (go_simp <;> rfl), ?_⟩
                simp only [Act.put]
                refine rg_done (by kernel_rfl) ?_
                go_wp2
                go_roundw
                case rel => exact ⟨k + 1, d.set I (d[I] ^^^ UInt8.ofNat (2 ^ J)), by omega, by omega, by go_num, val_int (by omega), by rw [hnz.out]; rfl, hT2.out, by rw [hv.out]; exact (Hset.out _).below (Ext.drew _), (hbw.setCell hbase _).drew⟩
                case measure => simp [intOf]; omega
            · have hdl : d.length = (Crc.put p).length := by rw [Hpl.out]; exact HT.out.1
              have Hdl := Lib.hid hdl
              have hchk := check_any A1 d c1 wr hown.rd' (by rw [hdl, Hpl.out]; omega) (by rw [hdl]; exact hown.nc)
              rw [hdl] at hchk
              have Hchk := Lib.hid hchk
              clear hchk hdl
              by_cases hM : m % 2 ^ k = 0
              · have hMd : decide (m % 2 ^ k = 0) = true := decide_eq_true hM
                clear hM
                go_wp2_with fail
                all_goals
                  refine Hchk.out.mono ?_
                  rintro e w5 ⟨A5, c5, rfl, ho5, hb5⟩
                  go_wp2_with fail
                  refine (live02 w5).mono ?_
                  rintro e w6 ⟨rfl, hb6⟩
                  go_wp2
                  go_ret
                  exact ⟨rfl, hbw.trans ((ext_trans hb5 hb6).mono hbw.size)⟩
              · have hok := HT.out.none_taken hsk Hm.out hM
                have hMd : decide (m % 2 ^ k = 0) = false := decide_eq_false hM
                rw [hok] at Hchk
                clear hM hok
                go_wp2_with fail
                all_goals
                  refine Hchk.out.mono ?_
                  rintro e w5 ⟨A5, c5, rfl, ho5, hb5⟩
                  go_wp2_with fail
                  refine (live02 w5).mono ?_
                  rintro e w6 ⟨rfl, hb6⟩
                  go_wp2
                  go_ret
                  exact ⟨rfl, hbw.trans ((ext_trans hb5 hb6).mono hbw.size)⟩
  · go_enter Try.func6, Try.ntmps6
    go_wp2_with (go_at_call 8; refine live.out.mono ?_; rintro e w3 ⟨rfl, hb3⟩)
    go_ret
    exact ⟨rfl, hb3⟩
end Go.Proofs.Ytbjaeocmmgoobaa
