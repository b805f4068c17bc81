/- Contracts of the number with which bytes begin (slices.IndexFunc, slices.Backward, vint.Get). -/
import Derived.Test.YtafffpkjpghnjaaProg
import Derived.Test.YtafffpkjpghnjaaVintPut
namespace Go.Proofs.Ytafffpkjpghnjaa
open Go.RowKit
attribute [local go_sem] Oper.semAt_some

theorem ends_any (b : Nat) (d : Bool) (w : World) (hd : decide ((b : Int) < 128) = d) : Calls Try.prog 40 #[.int .u8 (b : Int)] w fun e w' => e = .returned (.bool d) ∧ w = w' := by
  subst hd
  go_enter Try.func40, Try.ntmps40
  go_wp2
  go_ret
  exact ⟨rfl, rfl⟩

set_option maxHeartbeats 400000 in
theorem index_any (A : Option Addr) (bs : List UInt8) (cap : Nat) (w : World) (hA : RdB w A bs) (hl : bs.length ≤ 140737488355328) :
    Calls Try.prog 39 #[.slice A bs.length cap, .func (.func 40) #[] #[]] w fun e w' =>
      e = .returned (.int .i64 (Vint.firstI bs)) ∧ w = w' := by
  go_enter Try.func39, Try.ntmps39
  go_wp2
  go_loop [8] (fun i => ∃ k : Nat, k ≤ bs.length ∧ i = .int .i64 k ∧ Hid (∀ j (h : j < bs.length), j < k → 128 ≤ bs[j].toNat)) (fun i => bs.length - (intOf i).toNat)
  case atStart => exact ⟨0, by omega, rfl, fun j _ h => by omega⟩
  case round =>
    obtain ⟨k, hk, rfl, hall⟩ := hrel
    by_cases h : k < bs.length
    · obtain ⟨ad, rfl, hcell⟩ := hA.at_ h
      have hb := bs[k].toNat_lt
      by_cases h8 : bs[k].toNat < 128
      · have hfin : Hid (Vint.firstI bs = k) := by
          have h9 := Vint.first_at h h8 (fun j hj => hall.out j (by omega) hj)
          show _ = _
          unfold Vint.firstI; rw [h9, if_neg (by omega)]
        have H8 := Lib.hid h8
        generalize bs[k].toNat = b at *
        have hd := Lib.hid (show decide ((b : Int) < 128) = true by simp; omega)
        clear h8
        go_wp2_with (go_at_call 40; refine (ends_any b true _ hd.out).mono ?_; rintro e w' ⟨rfl, rfl⟩)
        go_ret
        exact ⟨ret_int (by rw [hfin.out]), rfl⟩
      · have hnext : Hid (∀ j (h : j < bs.length), j < k + 1 → 128 ≤ bs[j].toNat) := fun j hj hjk => by
          rcases Nat.lt_or_ge j k with h1 | h1
          · exact hall.out j hj h1
          · obtain rfl : j = k := by omega
            omega
        generalize bs[k].toNat = b at *
        have hd := Lib.hid (show decide ((b : Int) < 128) = false by simp; omega)
        go_wp2_with (go_at_call 40; refine (ends_any b false _ hd.out).mono ?_; rintro e w' ⟨rfl, rfl⟩)
        go_round
        case rel => exact ⟨k + 1, by omega, by go_num, hnext⟩
        case measure => simp [intOf]; omega
    · obtain rfl : k = bs.length := by omega
      have hfin : Hid (Vint.firstI bs = -1) := by
        show _ = _
        unfold Vint.firstI; rw [if_pos (Vint.first_none (fun j hj => hall.out j hj hj))]
      go_wp2
      go_ret
      exact ⟨ret_int (by rw [hfin.out]), rfl⟩

def encB (x : Nat × UInt8) : Array Value := #[.int .i64 (x.1 : Int), .int .u8 (x.2.toNat : Int)]
def KeepB (gb m0 : Nat) (W W' : World) : Prop := SameAt gb W W' ∧ Below m0 W W'

set_option maxRecDepth 100000 in
set_option maxHeartbeats 1000000 in
theorem back_gives (k : Nat) (hk : 1 ≤ k) (gb : Nat) (A : Option Addr) (bs : List UInt8) (cap : Nat) (w0 w : World) (hgb : w.heap[gb]? = some (.cells #[.slice A bs.length cap] 22 (0, 0))) (hA : RdB w0 A bs) (hb0 : Below w0.heap.size w0 w) (hl : bs.length ≤ 140737488355328) :
    GivesAll Fence.wide k Try.prog 43 #[.pointer (some ⟨gb, 0, none⟩)] encB (KeepB gb w0.heap.size) (Vint.back bs) gb w := by
  intro l J W hB hJ hY h0
  have hgW : W.heap[gb]? = some (.cells #[.slice A bs.length cap] 22 (0, 0)) := (hB.block gb (lt_of_heap hgb)).trans hgb
  have hbW : Below w0.heap.size w0 W := hb0.trans (hB.mono hb0.size)
  have hcell0 : W.cell? ⟨gb, 0, none⟩ = some (.slice A bs.length cap) := cell_of_row W gb 0 _ _ _ hgW
  clear hB hgb
  refine callsIn_of_wp Try.func43 rfl trivial ?_ rfl
  simp only [Try.ntmps43, List.size_toArray, List.length_cons, List.length_nil, Nat.reduceAdd, Nat.reduceSub, Array.replicate_succ, Array.replicate_zero, List.push_toArray, List.append_toArray, List.nil_append, List.cons_append]
  gi_wp2
  clear hcell0
  gi_loopw [3] (fun i wr => ∃ m : Nat, m ≤ bs.length ∧ i = .int .i64 ((m : Int) - 1) ∧ J ((Vint.back bs).take (bs.length - m)) wr ∧ wr.heap[gb]? = some (.cells #[.slice A bs.length cap] 22 (0, 0)) ∧ Below w0.heap.size w0 wr)
    (fun i _ => (intOf i + 1).toNat)
  case atStart => exact ⟨bs.length, by omega, rfl, by simpa using h0, hgW, hbW⟩
  case round =>
    obtain ⟨m, hm, rfl, hJp, hg, hbw⟩ := hrel
    have hcell : wr.cell? ⟨gb, 0, none⟩ = some (.slice A bs.length cap) := cell_of_row wr gb 0 _ _ _ hg
    by_cases h : 0 < m
    · obtain ⟨j, rfl⟩ : ∃ j, m = j + 1 := ⟨m - 1, by omega⟩
      have hnx := Vint.back_next bs j (by omega)
      obtain ⟨ad, rfl, hbyte⟩ := (hA.below hbw).at_ (k := j) (by omega)
      obtain ⟨fn, tmps, assign, body, hy, hR⟩ := hY _ (j, bs[j]) wr hJp ⟨(Vint.back bs).drop (bs.length - j), by rw [hnx, List.take_append_drop]⟩
      simp only [encB] at hy
      have Hnx := Lib.hid hnx
      have hj : ((j + 1 : Nat) : Int) - 1 = (j : Int) := by omega
      rw [hj]
      clear hnx
      generalize bs[j] = x at *
      gi_wp2
      refine hR.mono ?_
      rintro e W2 ⟨rfl, hJ2, hk2, hk3⟩
      rw [Hnx.out] at hJ2
      clear hcell hbyte hy
      gi_wp2
      go_roundw
      case rel => exact ⟨j, by omega, rfl, hJ2, Eq.trans hk2 hg, hbw.trans hk3⟩
      case measure => simp [intOf]
    · obtain rfl : m = 0 := by omega
      gi_wp2
      go_end0
      exact ⟨⟨_, rfl⟩, by rw [Nat.sub_zero, List.take_of_length_le (by rw [Vint.back_len]; omega)] at hJp; exact hJp⟩

theorem backward_any (A : Option Addr) (n cap : Nat) (w : World) : Calls Try.prog 41 #[.slice A n cap] w fun e w' =>
    e = .returned (.func (.func 43) #[] #[.pointer (some ⟨w.heap.size, 0, none⟩)]) ∧ w.alloc (.cells #[.slice A n cap] 22) = w' := by
  go_enter Try.func41, Try.ntmps41
  go_wp2
  go_ret
  exact ⟨rfl, rfl⟩
end Go.Proofs.Ytafffpkjpghnjaa
