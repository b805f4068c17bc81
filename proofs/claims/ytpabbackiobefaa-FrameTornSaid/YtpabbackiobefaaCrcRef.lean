
/- Contracts of the reference's functions for sums (scowref02). -/

import Derived.Test.YtpabbackiobefaaProg

import Derived.Test.YtpabbackiobefaaNum

import Derived.Test.YtpabbackiobefaaCrcMath

namespace Go.Proofs.Ytpabbackiobefaa

open Go.RowKit

set_option maxHeartbeats 400000 in
theorem ref_step (c b : Nat) (w : World) (hc : c < 4294967296) (hb : b < 256) :
    Calls Try.prog 47 #[.int .u32 (c : Int), .int .u8 (b : Int)] w fun e w' => e = .returned (.int .u32 (Crc.byte c b : Nat)) ∧ w = w' := by
  have h0 := x32 c b hc (by omega)
  have hx : c ^^^ b < 4294967296 := Crc.xor_lt hc (by omega)
  have hfin : Hid (∃ f : Nat → Nat, f 0 = c ^^^ b ∧ (∀ k, f (k + 1) = Crc.bit (f k)) ∧ (∀ k, f k < 4294967296) ∧ f 8 = Crc.byte c b) := by
    refine ⟨fun k => Nat.rec (c ^^^ b) (fun _ x => Crc.bit x) k, rfl, fun k => rfl, fun k => ?_, ?_⟩
    · induction k with
      | zero => exact hx
      | succ k ih => exact Crc.bit_lt ih
    · unfold Crc.byte
      rw [← Crc.four_bits, ← Crc.four_bits]
      rfl
  obtain ⟨f, f0, fs, fl, f8⟩ := hfin.out
  clear hfin
  rw [← f0] at h0
  rw [← f8]
  have Fs := Lib.hid fs
  clear fs hx f0 f8
  go_enter Try.func47, Try.ntmps47
  go_wp2
  go_loop [0, 5] (fun a i => ∃ k : Nat, k ≤ 8 ∧ i = .int .i64 k ∧ a = .int .u32 (f k : Nat)) (fun _ i => 8 - (intOf i).toNat)
  case atStart => exact ⟨0, by omega, rfl, rfl⟩
  case round =>
    obtain ⟨k, hk, rfl, rfl⟩ := hrel
    by_cases h : k < 8
    · have hf := fl k
      have h1 := a32_1 (f k) hf
      have hq : f k / 2 < 4294967296 := by omega
      have h2 := x32 (f k / 2) 2197175160 hq (by omega)
      have H2 := Lib.hid h2
      clear h2 fl
      rcases Crc.mod_two (f k) with hm | hm <;> rw [hm] at h1
      · have hb1 : (bits .and .u32 (f k : Int) 1 == 1) = false := by rw [h1]; decide
        have HM := Lib.hid hm
        clear h1 hm
        go_wp2
        all_goals go_round
        case rel => exact ⟨k + 1, by omega, by go_num, val_int (by rw [Fs.out k, Crc.bit, HM.out]; simp)⟩
        case measure => simp [intOf]; omega
      · have hb1 : (bits .and .u32 (f k : Int) 1 == 1) = true := by rw [h1]; decide
        have HM := Lib.hid hm
        clear h1 hm
        go_wp2
        all_goals go_round
        case rel => exact ⟨k + 1, by omega, by go_num, val_int (by rw [Fs.out k, Crc.bit, HM.out]; exact H2.out)⟩
        case measure => simp [intOf]; omega
    · obtain rfl : k = 8 := by omega
      go_wp2
      go_ret
      exact ⟨rfl, rfl⟩

set_option maxHeartbeats 400000 in
theorem ref_more (c : Nat) (A : Option Addr) (bs : List UInt8) (cap : Nat) (w : World) (hc : c < 4294967296) (hA : RdB w A bs) (hl : bs.length ≤ 140737488355328) :
    Calls Try.prog 43 #[.int .u32 (c : Int), .slice A bs.length cap] w fun e w' => e = .returned (.int .u32 (Crc.more c bs : Nat)) ∧ w = w' := by
  have h0 : bits .xor .u32 IntKind.u32.max (c : Int) = ((Crc.flip c : Nat) : Int) := not32 c hc
  have hx := Crc.flip_lt c
  unfold Crc.more
  generalize hd : Crc.flip c = d at *
  clear hd
  have Hx := Lib.hid hx
  have Hend : Hid (bits .xor .u32 IntKind.u32.max ((Crc.over d bs : Nat) : Int) = ((Crc.flip (Crc.over d bs) : Nat) : Int)) := not32 (Crc.over d bs) (Crc.over_lt hx bs)
  clear hx
  go_enter Try.func43, Try.ntmps43
  go_wp2
  go_loop [0, 5] (fun a i => ∃ k : Nat, k ≤ bs.length ∧ i = .int .i64 k ∧ a = .int .u32 (Crc.over d (bs.take k) : Nat)) (fun _ i => bs.length - (intOf i).toNat)
  case atStart => exact ⟨0, by omega, rfl, rfl⟩
  case round =>
    obtain ⟨k, hk, rfl, rfl⟩ := hrel
    by_cases h : k < bs.length
    · obtain ⟨ad, rfl, hcell⟩ := hA.at_ h
      have hov := Crc.over_lt Hx.out (bs.take k)
      have hs := Lib.hid (Crc.over_snoc d bs k h)
      go_wp2_with (go_at_call 47; refine (ref_step _ _ _ hov bs[k].toNat_lt).mono ?_; rintro e w' ⟨rfl, rfl⟩)
      all_goals go_round
      case rel => exact ⟨k + 1, by omega, by go_num, val_int (by rw [hs.out])⟩
      case measure => simp [intOf]; omega
    · obtain rfl : k = bs.length := by omega
      rw [List.take_length]
      have hend := Hend.out
      go_wp2
      go_ret
      exact ⟨rfl, rfl⟩

theorem ref_sum (A : Option Addr) (bs : List UInt8) (cap : Nat) (w : World) (hA : RdB w A bs) (hl : bs.length ≤ 140737488355328) :
    Calls Try.prog 35 #[.slice A bs.length cap] w fun e w' => e = .returned (.int .u32 (Crc.sum bs : Nat)) ∧ w = w' := by
  have H := Lib.hid (ref_more 0 A bs cap w (by omega) hA hl)
  go_enter Try.func35, Try.ntmps35
  go_wp2_with (go_at_call 43; refine H.out.mono ?_; rintro e w' ⟨rfl, rfl⟩)
  go_ret
  exact ⟨rfl, rfl⟩
end Go.Proofs.Ytpabbackiobefaa
