
/- Contracts of the program's functions for sums (crc): bytes taken in. -/

import Derived.Test.YtpabbackiobefaaCrcProg

import Derived.Test.YtpabbackiobefaaSl

namespace Go.Proofs.Ytpabbackiobefaa

open Go.RowKit

/-- Four bits, as the walk goes through them. -/
theorem nibI (x y : Nat) (h : x < 4294967296) (e : y = Crc.nib x) : ∃ j : Nat, j < 16 ∧ bits .and .u32 (x : Int) 15 = (j : Int) ∧ (tabV 16)[j]? = some (Value.int .u32 (Crc.tab j : Nat)) ∧ bits .xor .u32 ((x : Int) / 16) ((Crc.tab j : Nat) : Int) = (y : Int) := by
  refine ⟨x % 16, by omega, a32_15 x h, ?_, ?_⟩
  · have := tabV_get 16 (x % 16) (by omega)
    rwa [if_pos (by omega)] at this
  · rw [show ((x : Int) / 16) = ((x / 16 : Nat) : Int) by omega, e]
    exact x32 _ _ (by omega) (Crc.tab_lt (by omega))

set_option maxHeartbeats 400000 in
theorem over_any (c : Nat) (A : Option Addr) (bs : List UInt8) (cap : Nat) (w : World) (hc : c < 4294967296) (hA : RdB w A bs) (hl : bs.length ≤ 140737488355328) :
    Calls Try.prog 42 #[.agg (tabV 16), .int .u32 (c : Int), .slice A bs.length cap] w fun e w' => e = .returned (.int .u32 (Crc.over c bs : Nat)) ∧ Below w.heap.size w w' := by
  have hA1 := hA.below ((Below.refl w.heap.size w).alloc (Nat.le_refl _) (.cells (tabV 16) 71))
  have Hc := Lib.hid hc
  clear hc
  go_enter Try.func42, Try.ntmps42
  go_wp2
  go_loop [1, 11] (fun a i => ∃ k : Nat, k ≤ bs.length ∧ i = .int .i64 k ∧ a = .int .u32 (Crc.over c (bs.take k) : Nat)) (fun _ i => bs.length - (intOf i).toNat)
  case atStart => exact ⟨0, by omega, rfl, rfl⟩
  case round =>
    obtain ⟨k, hk, rfl, rfl⟩ := hrel
    by_cases h : k < bs.length
    · obtain ⟨ad, rfl, hcell⟩ := hA1.at_ h
      have hov := Crc.over_lt Hc.out (bs.take k)
      have hs := Lib.hid (Crc.over_snoc c bs k h)
      generalize Crc.over c (bs.take k) = d at *
      have hb := bs[k].toNat_lt
      generalize bs[k].toNat = b at *
      -- the steps, each under a name
      obtain ⟨x1, e1⟩ : ∃ x, x = d ^^^ b := ⟨_, rfl⟩
      have E1 := Lib.hid e1
      have l1 : x1 < 4294967296 := by rw [e1]; exact Crc.xor_lt hov (by omega)
      have b1 : bits .xor .u32 (d : Int) (b : Int) = (x1 : Int) := by rw [e1]; exact x32 d b hov (by omega)
      obtain ⟨x2, e2⟩ : ∃ x, x = Crc.nib x1 := ⟨_, rfl⟩
      have E2 := Lib.hid e2
      have l2 : x2 < 4294967296 := by rw [e2]; exact Crc.nib_lt l1
      have b2 := nibI x1 x2 l1 e2
      obtain ⟨x3, e3⟩ : ∃ x, x = Crc.nib x2 := ⟨_, rfl⟩
      have E3 := Lib.hid e3
      have b3 := nibI x2 x3 l2 e3
      clear e1 e2 e3
      obtain ⟨j1, j1l, b21, b22, b23⟩ := b2
      obtain ⟨j2, j2l, b31, b32, b33⟩ := b3
      go_wp2
      go_round
      case rel => exact ⟨k + 1, by omega, by go_num, val_int (by rw [hs.out, E3.out, E2.out, E1.out]; rfl)⟩
      case measure => simp [intOf]; omega
    · obtain rfl : k = bs.length := by omega
      rw [List.take_length]
      go_wp2
      go_ret
      exact ⟨rfl, (Below.refl _ _).alloc (Nat.le_refl _) _⟩

theorem over_cat (c : Nat) (l : List Sl) (k : Nat) (h : k < l.length) : Crc.over c (cat (l.take (k + 1))) = Crc.over (Crc.over c (cat (l.take k))) l[k].bs := by
  rw [cat_snoc l k h, Crc.over_app]

set_option maxHeartbeats 400000 in
theorem sum_any (A : Option Addr) (l : List Sl) (cap : Nat) (w : World) (hA : RdL w A l) (hl : l.length ≤ 1000000) (hc : (cat l).length ≤ 140737488355328) :
    Calls Try.prog 33 #[.slice A l.length cap] w fun e w' => e = .returned (.int .u32 (Crc.sum (cat l) : Nat)) ∧ Below w.heap.size w w' := by
  have hend : bits .xor .u32 IntKind.u32.max ((Crc.over 4294967295 (cat l) : Nat) : Int) = ((Crc.sum (cat l) : Nat) : Int) := not32 _ (Crc.over_lt (by omega) _)
  have Hc := Lib.hid hc
  clear hc
  go_enter Try.func33, Try.ntmps33
  go_wp2_with fail
  refine (table_of w).mono ?_
  rintro e w1 ⟨rfl, hb1⟩
  go_wp2_with (first
    | (refine wpList_store_row rfl 71 (.tmp 3) (.tmp 7) rfl w1.heap.size (tabV 16) rfl rfl 71 _ (heap_alloc_new w1 _) tabInfo rfl tabOne ?_; rw [setRow_alloc]))
  go_loopw [4, 10] (fun a i wr => ∃ k : Nat, k ≤ l.length ∧ i = .int .i64 k ∧ a = .int .u32 (Crc.over 4294967295 (cat (l.take k)) : Nat) ∧ Below (w1.heap.size + 1) (w1.alloc (.cells (tabV 16) 71)) wr) (fun _ i _ => l.length - (intOf i).toNat)
  case atStart => exact ⟨0, by omega, rfl, rfl, Below.refl _ _⟩
  case round =>
    obtain ⟨k, hk, rfl, rfl, hb2⟩ := hrel
    have hg : wr.heap[w1.heap.size]? = some (.cells (tabV 16) 71 (0, 0)) := (hb2.block _ (by omega)).trans (heap_alloc_new w1 _)
    have hbw : Below w.heap.size w wr := (hb1.alloc hb1.size _).trans (hb2.mono (by have := hb1.size; omega))
    have hsz := hb2.size
    simp only [World.size_alloc] at hsz
    by_cases h : k < l.length
    · obtain ⟨ad, rfl, hcell, hrd⟩ := (hA.below hbw).at_ h
      have hov := Lib.hid (Crc.over_lt (c := 4294967295) (by omega) (cat (l.take k)))
      have hs := Lib.hid (over_cat 4294967295 l k h)
      have hle := one_le_cat l k h
      have hcc := Hc.out
      have hlk : l[k].bs.length ≤ 140737488355328 := by omega
      clear hle hcc
      generalize Crc.over 4294967295 (cat (l.take k)) = d at *
      go_wp2_with (first
        | (refine wpList_load_row rfl 71 (.tmp 3) rfl w1.heap.size rfl 71 (tabV 16) (0, 0) _ hg Try.underlying71 rfl tabInfo ?_)
        | (go_at_call 42; refine (over_any d _ _ _ _ hov.out hrd hlk).mono ?_; rintro e w3 ⟨rfl, hb3⟩))
      go_roundw
      case rel => exact ⟨k + 1, by omega, by go_num, val_int (by rw [hs.out]), hb2.trans (hb3.mono hsz)⟩
      case measure => simp [intOf]; omega
    · obtain rfl : k = l.length := by omega
      rw [List.take_length]
      go_wp2
      go_ret
      exact ⟨rfl, hbw⟩
end Go.Proofs.Ytpabbackiobefaa
