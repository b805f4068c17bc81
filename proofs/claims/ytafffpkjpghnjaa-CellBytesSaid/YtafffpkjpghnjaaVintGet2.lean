/- Contract of vint.Get. -/
import Derived.Test.YtafffpkjpghnjaaVintGet
namespace Go.Proofs.Ytafffpkjpghnjaa
open Go.RowKit
attribute [local go_sem] Oper.semAt_some

def getRes (r : Nat × Nat × Nat) : Value := .tuple #[.int .u64 (r.1 : Int), .int .i64 (r.2.1 : Int), .int .i64 (r.2.2 : Int)]

theorem firstI_none {b : List UInt8} (h : Vint.first b = b.length) : Vint.firstI b = -1 := by unfold Vint.firstI; rw [if_pos h]
theorem firstI_some {b : List UInt8} (h : Vint.first b < b.length) : Vint.firstI b = ((Vint.first b : Nat) : Int) := by unfold Vint.firstI; rw [if_neg (by omega)]

/-- What is left of bytes of which ten at most are looked at. -/
def Cut10 (bs b : List UInt8) : Prop := (bs.length ≤ 10 ∧ b = bs) ∨ (10 < bs.length ∧ b = bs.take 10)
theorem cut10 (bs : List UInt8) : Cut10 bs (bs.take 10) := by
  by_cases h : bs.length ≤ 10
  · exact .inl ⟨h, List.take_of_length_le h⟩
  · exact .inr ⟨by omega, rfl⟩

set_option maxHeartbeats 1000000 in
theorem get_none (A : Option Addr) (bs b : List UInt8) (cap : Nat) (w : World) (hA : RdB w A bs) (hl : bs.length ≤ cap) (hb : Cut10 bs b) (h : Vint.first b = b.length) :
    Calls Try.prog 29 #[.slice A bs.length cap] w fun e w' => e = .returned (getRes (0, 0, if bs.length < 10 then 10 else 11)) ∧ w = w' := by
  have hf := Lib.hid (firstI_none h)
  clear h
  rcases hb with ⟨h10, rfl⟩ | ⟨h10, rfl⟩
  · have hix := Lib.hid (index_any A b cap w hA (by omega))
    by_cases h9 : b.length < 10
    · rw [if_pos h9]
      go_enter Try.func29, Try.ntmps29
      go_wp2_with (go_at_call 39; refine hix.out.mono ?_; rintro e w' ⟨rfl, rfl⟩; rw [hf.out])
      go_ret3
      exact ⟨rfl, rfl⟩
    · rw [if_neg h9]
      go_enter Try.func29, Try.ntmps29
      go_wp2_with (go_at_call 39; refine hix.out.mono ?_; rintro e w' ⟨rfl, rfl⟩; rw [hf.out])
      go_ret3
      exact ⟨rfl, rfl⟩
  · rw [if_neg (by omega)]
    have hl10 : (bs.take 10).length = 10 := by simp; omega
    have hix := index_any A (bs.take 10) cap w (hA.head (m := 10) (by omega)) (by omega)
    rw [hl10] at hix
    have Hix := Lib.hid hix
    clear hix hl10
    go_enter Try.func29, Try.ntmps29
    go_wp2_with (go_at_call 39; refine Hix.out.mono ?_; rintro e w' ⟨rfl, rfl⟩; rw [hf.out])
    go_ret3
    exact ⟨rfl, rfl⟩


set_option maxHeartbeats 1000000 in
theorem get_wide (A : Option Addr) (bs b : List UInt8) (cap i x : Nat) (w : World) (hA : RdB w A bs) (hl : bs.length ≤ cap) (hb : Cut10 bs b) (h : Vint.first b = i) (hi : i < b.length) (hx : b[i].toNat = x) (h9 : i = 9) (h1 : 1 < x) :
    Calls Try.prog 29 #[.slice A bs.length cap] w fun e w' => e = .returned (getRes (0, 0, 11)) ∧ w = w' := by
  have hf := Lib.hid (firstI_some (b := b) (by omega))
  rw [h] at hf
  have hA' : RdB w A b := by
    rcases hb with ⟨_, rfl⟩ | ⟨_, rfl⟩
    · exact hA
    · exact hA.head (by omega)
  have hbl : b.length ≤ 10 := by
    rcases hb with ⟨h2, rfl⟩ | ⟨h2, rfl⟩
    · exact h2
    · simp; omega
  have hix := Lib.hid (index_any A b cap w hA' (by omega))
  obtain ⟨ad, rfl, hcell⟩ := hA'.at_ hi
  rw [hx] at hcell
  have k9 : ((i : Int) == 9) = true := by rw [beq_iff_eq]; omega
  have k0 : decide (1 < (x : Int)) = true := by simp; omega
  clear h9
  clear hA' h hx hA
  have hi' : i < bs.length := by
    rcases hb with ⟨_, rfl⟩ | ⟨_, rfl⟩
    · exact hi
    · omega
  rcases hb with ⟨h2, rfl⟩ | ⟨h2, rfl⟩
  · go_enter Try.func29, Try.ntmps29
    go_wp2_with (go_at_call 39; refine hix.out.mono ?_; rintro e w' ⟨rfl, rfl⟩; rw [hf.out])
    go_ret3
    exact ⟨rfl, rfl⟩
  · have hl10 : (bs.take 10).length = 10 := by simp; omega
    rw [hl10] at hix hi
    clear hl10
    go_enter Try.func29, Try.ntmps29
    go_wp2_with (go_at_call 39; refine hix.out.mono ?_; rintro e w' ⟨rfl, rfl⟩; rw [hf.out])
    go_ret3
    exact ⟨rfl, rfl⟩

set_option maxHeartbeats 1000000 in
theorem get_form (A : Option Addr) (bs b : List UInt8) (cap i x : Nat) (w : World) (hA : RdB w A bs) (hl : bs.length ≤ cap) (hb : Cut10 bs b) (h : Vint.first b = i) (hi : i < b.length) (hx : b[i].toNat = x) (h1 : 0 < i ∧ x = 0) :
    Calls Try.prog 29 #[.slice A bs.length cap] w fun e w' => e = .returned (getRes (0, 0, 12)) ∧ w = w' := by
  have hf := Lib.hid (firstI_some (b := b) (by omega))
  rw [h] at hf
  have hA' : RdB w A b := by
    rcases hb with ⟨_, rfl⟩ | ⟨_, rfl⟩
    · exact hA
    · exact hA.head (by omega)
  have hbl : b.length ≤ 10 := by
    rcases hb with ⟨h2, rfl⟩ | ⟨h2, rfl⟩
    · exact h2
    · simp; omega
  have hix := Lib.hid (index_any A b cap w hA' (by omega))
  obtain ⟨ad, rfl, hcell⟩ := hA'.at_ hi
  rw [hx] at hcell
  obtain ⟨h1, rfl⟩ := h1
  have k0 : decide (0 < (i : Int)) = true := by simp; omega
  clear hA' h hx hA
  have hi' : i < bs.length := by
    rcases hb with ⟨_, rfl⟩ | ⟨_, rfl⟩
    · exact hi
    · omega
  rcases hb with ⟨h2, rfl⟩ | ⟨h2, rfl⟩
  · go_enter Try.func29, Try.ntmps29
    cases k9 : ((i : Int) == 9) <;> go_wp2_with (go_at_call 39; refine hix.out.mono ?_; rintro e w' ⟨rfl, rfl⟩; rw [hf.out])
    all_goals
      go_ret3
      exact ⟨rfl, rfl⟩
  · have hl10 : (bs.take 10).length = 10 := by simp; omega
    rw [hl10] at hix hi
    clear hl10
    go_enter Try.func29, Try.ntmps29
    cases k9 : ((i : Int) == 9) <;> go_wp2_with (go_at_call 39; refine hix.out.mono ?_; rintro e w' ⟨rfl, rfl⟩; rw [hf.out])
    all_goals
      go_ret3
      exact ⟨rfl, rfl⟩
end Go.Proofs.Ytafffpkjpghnjaa
