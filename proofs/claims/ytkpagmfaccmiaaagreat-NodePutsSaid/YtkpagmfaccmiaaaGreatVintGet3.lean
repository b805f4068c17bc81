
/- Contracts of the number with which bytes begin (slices.IndexFunc, slices.Backward, vint.Get). -/

import Derived.Test.YtkpagmfaccmiaaaGreatProg

import Derived.Test.YtkpagmfaccmiaaaGreatVintPut

namespace Go.Proofs.YtkpagmfaccmiaaaGreat

open Go.RowKit

attribute [local go_sem] Oper.semAt_some

theorem ends_any (b : Nat) (d : Bool) (w : World) (hd : decide ((b : Int) < 128) = d) : Calls Tryz.prog 98 #[.int .u8 (b : Int)] w fun e w' => e = .returned (.bool d) ∧ w = w' := by
  subst hd
  go_enter Tryz.func98, Tryz.ntmps98
  go_wp2
  go_ret
  exact ⟨rfl, rfl⟩

set_option maxHeartbeats 400000 in
theorem index_any (A : Option Addr) (bs : List UInt8) (cap : Nat) (w : World) (hA : RdB w A bs) (hl : bs.length ≤ 140737488355328) :
    Calls Tryz.prog 97 #[.slice A bs.length cap, .func (.func 98) #[] #[]] w fun e w' =>
      e = .returned (.int .i64 (Vint.firstI bs)) ∧ w = w' := by
  go_enter Tryz.func97, Tryz.ntmps97
  go_wp2
  go_loop [8] (fun i => ∃ k : Nat, k ≤ bs.length ∧ i = .int .i64 k ∧ Hid (∀ j (h : j < bs.length), j < k → 128 ≤ bs[j].toNat)) (fun i => bs.length - (intOf i).toNat)
  case atStart => exact ⟨0, by omega, rfl, fun j _ h => by omega⟩
  case round =>
    obtain ⟨k, hk, rfl, hall⟩ := hrel
    by_cases h : k < bs.length
    · obtain ⟨ad, rfl, hcell⟩ := hA.at_ h
      have hb := bs[k].toNat_lt
      by_cases h8 : bs[k].toNat < 128
      · have hfin : Hid (Vint.firstI bs = k) := by
          have h9 := Vint.first_at h h8 (fun j hj => hall.out j (by omega) hj)
          show _ = _
          unfold Vint.firstI; rw [h9, if_neg (by omega)]
        have H8 := Lib.hid h8
        generalize bs[k].toNat = b at *
        have hd := Lib.hid (show decide ((b : Int) < 128) = true by simp; omega)
        clear h8
        go_wp2_with (go_at_call 98; refine (ends_any b true _ hd.out).mono ?_; rintro e w' ⟨rfl, rfl⟩)
        go_ret
        exact ⟨ret_int (by rw [hfin.out]), rfl⟩
      · have hnext : Hid (∀ j (h : j < bs.length), j < k + 1 → 128 ≤ bs[j].toNat) := fun j hj hjk => by
          rcases Nat.lt_or_ge j k with h1 | h1
          · exact hall.out j hj h1
          · obtain rfl : j = k := by omega
            omega
        generalize bs[k].toNat = b at *
        have hd := Lib.hid (show decide ((b : Int) < 128) = false by simp; omega)
        go_wp2_with (go_at_call 98; refine (ends_any b false _ hd.out).mono ?_; rintro e w' ⟨rfl, rfl⟩)
        go_round
        case rel => exact ⟨k + 1, by omega, by go_num, hnext⟩
        case measure => simp [intOf]; omega
    · obtain rfl : k = bs.length := by omega
      have hfin : Hid (Vint.firstI bs = -1) := by
        show _ = _
        unfold Vint.firstI; rw [if_pos (Vint.first_none (fun j hj => hall.out j hj hj))]
      go_wp2
      go_ret
      exact ⟨ret_int (by rw [hfin.out]), rfl⟩

def encB (x : Nat × UInt8) : Array Value := #[.int .i64 (x.1 : Int), .int .u8 (x.2.toNat : Int)]
def KeepB (gb m0 : Nat) (W W' : World) : Prop := SameAt gb W W' ∧ Below m0 W W'

set_option maxRecDepth 100000 in
set_option maxHeartbeats 1000000 in
theorem back_gives (k : Nat) (hk : 1 ≤ k) (gb : Nat) (A : Option Addr) (bs : List UInt8) (cap : Nat) (w0 w : World) (hgb : w.heap[gb]? = some (.cells #[.slice A bs.length cap] 25 (0, 0))) (hA : RdB w0 A bs) (hb0 : Below w0.heap.size w0 w) (hl : bs.length ≤ 140737488355328) :
    GivesAll Fence.wide k Tryz.prog 103 #[.pointer (some ⟨gb, 0, none⟩)] encB (KeepB gb w0.heap.size) (Vint.back bs) gb w := by
  intro l J W hB hJ hY h0
  have hgW : W.heap[gb]? = some (.cells #[.slice A bs.length cap] 25 (0, 0)) := (hB.block gb (lt_of_heap hgb)).trans hgb
  have hbW : Below w0.heap.size w0 W := hb0.trans (hB.mono hb0.size)
  have hcell0 : W.cell? ⟨gb, 0, none⟩ = some (.slice A bs.length cap) := cell_of_row W gb 0 _ _ _ hgW
  clear hB hgb
  refine callsIn_of_wp Tryz.func103 rfl trivial ?_ rfl
  simp only [Tryz.ntmps103, List.size_toArray, List.length_cons, List.length_nil, Nat.reduceAdd, Nat.reduceSub, Array.replicate_succ, Array.replicate_zero, List.push_toArray, List.append_toArray, List.nil_append, List.cons_append]
  gi_wp2
  clear hcell0
  gi_loopw [3] (fun i wr => ∃ m : Nat, m ≤ bs.length ∧ i = .int .i64 ((m : Int) - 1) ∧ J ((Vint.back bs).take (bs.length - m)) wr ∧ wr.heap[gb]? = some (.cells #[.slice A bs.length cap] 25 (0, 0)) ∧ Below w0.heap.size w0 wr)
    (fun i _ => (intOf i + 1).toNat)
  case atStart => exact ⟨bs.length, by omega, rfl, by simpa using h0, hgW, hbW⟩
  case round =>
    obtain ⟨m, hm, rfl, hJp, hg, hbw⟩ := hrel
    have hcell : wr.cell? ⟨gb, 0, none⟩ = some (.slice A bs.length cap) := cell_of_row wr gb 0 _ _ _ hg
    by_cases h : 0 < m
    · obtain ⟨j, rfl⟩ : ∃ j, m = j + 1 := ⟨m - 1, by omega⟩
      have hnx := Vint.back_next bs j (by omega)
      obtain ⟨ad, rfl, hbyte⟩ := (hA.below hbw).at_ (k := j) (by omega)
      obtain ⟨fn, tmps, assign, body, hy, hR⟩ := hY _ (j, bs[j]) wr hJp ⟨(Vint.back bs).drop (bs.length - j), by rw [hnx, List.take_append_drop]⟩
      simp only [encB] at hy
      have Hnx := Lib.hid hnx
      have hj : ((j + 1 : Nat) : Int) - 1 = (j : Int) := by omega
      rw [hj]
      clear hnx
      generalize bs[j] = x at *
      gi_wp2
      refine hR.mono ?_
      rintro e W2 ⟨rfl, hJ2, hk2, hk3⟩
      rw [Hnx.out] at hJ2
      clear hcell hbyte hy
      gi_wp2
      go_roundw
      case rel => exact ⟨j, by omega, rfl, hJ2, Eq.trans hk2 hg, hbw.trans hk3⟩
      case measure => simp [intOf]
    · obtain rfl : m = 0 := by omega
      gi_wp2
      go_end0
      exact ⟨⟨_, rfl⟩, by rw [Nat.sub_zero, List.take_of_length_le (by rw [Vint.back_len]; omega)] at hJp; exact hJp⟩

theorem backward_any (A : Option Addr) (n cap : Nat) (w : World) : Calls Tryz.prog 99 #[.slice A n cap] w fun e w' =>
    e = .returned (.func (.func 103) #[] #[.pointer (some ⟨w.heap.size, 0, none⟩)]) ∧ w.alloc (.cells #[.slice A n cap] 25) = w' := by
  go_enter Tryz.func99, Tryz.ntmps99
  go_wp2
  go_ret
  exact ⟨rfl, rfl⟩
end Go.Proofs.YtkpagmfaccmiaaaGreat

/- Contract of vint.Get. -/

namespace Go.Proofs.YtkpagmfaccmiaaaGreat

open Go.RowKit

attribute [local go_sem] Oper.semAt_some

def getRes (r : Nat × Nat × Nat) : Value := .tuple #[.int .u64 (r.1 : Int), .int .i64 (r.2.1 : Int), .int .i64 (r.2.2 : Int)]

theorem firstI_none {b : List UInt8} (h : Vint.first b = b.length) : Vint.firstI b = -1 := by unfold Vint.firstI; rw [if_pos h]
theorem firstI_some {b : List UInt8} (h : Vint.first b < b.length) : Vint.firstI b = ((Vint.first b : Nat) : Int) := by unfold Vint.firstI; rw [if_neg (by omega)]

/-- What is left of bytes of which ten at most are looked at. -/
def Cut10 (bs b : List UInt8) : Prop := (bs.length ≤ 10 ∧ b = bs) ∨ (10 < bs.length ∧ b = bs.take 10)
theorem cut10 (bs : List UInt8) : Cut10 bs (bs.take 10) := by
  by_cases h : bs.length ≤ 10
  · exact .inl ⟨h, List.take_of_length_le h⟩
  · exact .inr ⟨by omega, rfl⟩

set_option maxHeartbeats 1000000 in
theorem get_none (A : Option Addr) (bs b : List UInt8) (cap : Nat) (w : World) (hA : RdB w A bs) (hl : bs.length ≤ cap) (hb : Cut10 bs b) (h : Vint.first b = b.length) :
    Calls Tryz.prog 83 #[.slice A bs.length cap] w fun e w' => e = .returned (getRes (0, 0, if bs.length < 10 then 10 else 11)) ∧ w = w' := by
  have hf := Lib.hid (firstI_none h)
  clear h
  rcases hb with ⟨h10, rfl⟩ | ⟨h10, rfl⟩
  · have hix := Lib.hid (index_any A b cap w hA (by omega))
    by_cases h9 : b.length < 10
    · rw [if_pos h9]
      go_enter Tryz.func83, Tryz.ntmps83
      go_wp2_with (go_at_call 97; refine hix.out.mono ?_; rintro e w' ⟨rfl, rfl⟩; rw [hf.out])
      go_ret3
      exact ⟨rfl, rfl⟩
    · rw [if_neg h9]
      go_enter Tryz.func83, Tryz.ntmps83
      go_wp2_with (go_at_call 97; refine hix.out.mono ?_; rintro e w' ⟨rfl, rfl⟩; rw [hf.out])
      go_ret3
      exact ⟨rfl, rfl⟩
  · rw [if_neg (by omega)]
    have hl10 : (bs.take 10).length = 10 := by simp; omega
    have hix := index_any A (bs.take 10) cap w (hA.head (m := 10) (by omega)) (by omega)
    rw [hl10] at hix
    have Hix := Lib.hid hix
    clear hix hl10
    go_enter Tryz.func83, Tryz.ntmps83
    go_wp2_with (go_at_call 97; refine Hix.out.mono ?_; rintro e w' ⟨rfl, rfl⟩; rw [hf.out])
    go_ret3
    exact ⟨rfl, rfl⟩


set_option maxHeartbeats 1000000 in
theorem get_wide (A : Option Addr) (bs b : List UInt8) (cap i x : Nat) (w : World) (hA : RdB w A bs) (hl : bs.length ≤ cap) (hb : Cut10 bs b) (h : Vint.first b = i) (hi : i < b.length) (hx : b[i].toNat = x) (h9 : i = 9) (h1 : 1 < x) :
    Calls Tryz.prog 83 #[.slice A bs.length cap] w fun e w' => e = .returned (getRes (0, 0, 11)) ∧ w = w' := by
  have hf := Lib.hid (firstI_some (b := b) (by omega))
  rw [h] at hf
  have hA' : RdB w A b := by
    rcases hb with ⟨_, rfl⟩ | ⟨_, rfl⟩
    · exact hA
    · exact hA.head (by omega)
  have hbl : b.length ≤ 10 := by
    rcases hb with ⟨h2, rfl⟩ | ⟨h2, rfl⟩
    · exact h2
    · simp; omega
  have hix := Lib.hid (index_any A b cap w hA' (by omega))
  obtain ⟨ad, rfl, hcell⟩ := hA'.at_ hi
  rw [hx] at hcell
  have k9 : ((i : Int) == 9) = true := by rw [beq_iff_eq]; omega
  have k0 : decide (1 < (x : Int)) = true := by simp; omega
  clear h9
  clear hA' h hx hA
  have hi' : i < bs.length := by
    rcases hb with ⟨_, rfl⟩ | ⟨_, rfl⟩
    · exact hi
    · omega
  rcases hb with ⟨h2, rfl⟩ | ⟨h2, rfl⟩
  · go_enter Tryz.func83, Tryz.ntmps83
    go_wp2_with (go_at_call 97; refine hix.out.mono ?_; rintro e w' ⟨rfl, rfl⟩; rw [hf.out])
    go_ret3
    exact ⟨rfl, rfl⟩
  · have hl10 : (bs.take 10).length = 10 := by simp; omega
    rw [hl10] at hix hi
    clear hl10
    go_enter Tryz.func83, Tryz.ntmps83
    go_wp2_with (go_at_call 97; refine hix.out.mono ?_; rintro e w' ⟨rfl, rfl⟩; rw [hf.out])
    go_ret3
    exact ⟨rfl, rfl⟩

set_option maxHeartbeats 1000000 in
theorem get_form (A : Option Addr) (bs b : List UInt8) (cap i x : Nat) (w : World) (hA : RdB w A bs) (hl : bs.length ≤ cap) (hb : Cut10 bs b) (h : Vint.first b = i) (hi : i < b.length) (hx : b[i].toNat = x) (h1 : 0 < i ∧ x = 0) :
    Calls Tryz.prog 83 #[.slice A bs.length cap] w fun e w' => e = .returned (getRes (0, 0, 12)) ∧ w = w' := by
  have hf := Lib.hid (firstI_some (b := b) (by omega))
  rw [h] at hf
  have hA' : RdB w A b := by
    rcases hb with ⟨_, rfl⟩ | ⟨_, rfl⟩
    · exact hA
    · exact hA.head (by omega)
  have hbl : b.length ≤ 10 := by
    rcases hb with ⟨h2, rfl⟩ | ⟨h2, rfl⟩
    · exact h2
    · simp; omega
  have hix := Lib.hid (index_any A b cap w hA' (by omega))
  obtain ⟨ad, rfl, hcell⟩ := hA'.at_ hi
  rw [hx] at hcell
  obtain ⟨h1, rfl⟩ := h1
  have k0 : decide (0 < (i : Int)) = true := by simp; omega
  clear hA' h hx hA
  have hi' : i < bs.length := by
    rcases hb with ⟨_, rfl⟩ | ⟨_, rfl⟩
    · exact hi
    · omega
  rcases hb with ⟨h2, rfl⟩ | ⟨h2, rfl⟩
  · go_enter Tryz.func83, Tryz.ntmps83
    cases k9 : ((i : Int) == 9) <;> go_wp2_with (go_at_call 97; refine hix.out.mono ?_; rintro e w' ⟨rfl, rfl⟩; rw [hf.out])
    all_goals
      go_ret3
      exact ⟨rfl, rfl⟩
  · have hl10 : (bs.take 10).length = 10 := by simp; omega
    rw [hl10] at hix hi
    clear hl10
    go_enter Tryz.func83, Tryz.ntmps83
    cases k9 : ((i : Int) == 9) <;> go_wp2_with (go_at_call 97; refine hix.out.mono ?_; rintro e w' ⟨rfl, rfl⟩; rw [hf.out])
    all_goals
      go_ret3
      exact ⟨rfl, rfl⟩
end Go.Proofs.YtkpagmfaccmiaaaGreat

/- Contract of vint.Get: where there is a number. -/

namespace Go.Proofs.YtkpagmfaccmiaaaGreat

open Go.RowKit

attribute [local go_sem] Oper.semAt_some

theorem or7 (a c : Nat) (ha : a * 128 + c % 128 < 18446744073709551616) : bits .or .u64 ((a : Int) * 128) ((c % 128 : Nat) : Int) = ((a * 128 + c % 128 : Nat) : Int) := by
  rw [show ((a : Int) * 128) = ((a * 128 : Nat) : Int) by omega, u64_or_nat _ _ (by omega) (by omega)]
  have := nat_join 7 (a * 128) (c % 128) (by omega) (by omega)
  rw [this]
theorem and7 (c : Nat) (hc : c < 256) : bits .and .u8 (c : Int) 127 = ((c % 128 : Nat) : Int) := by
  have h1 := u8_and_nat c 127 hc (by omega)
  rw [nat_mask7] at h1
  exact h1

def GetInv (w0 : World) (g : List UInt8) (pre : List (Nat × UInt8)) (W : World) : Prop :=
  W.heap[w0.heap.size]? = some (.cells #[.int .u64 ((Vint.val (g.drop (g.length - pre.length)) : Nat) : Int)] 22 (0, 0)) ∧ Below w0.heap.size w0 W ∧ w0.heap.size + 2 ≤ W.heap.size

theorem get_hKb (w W0 : World) (hsz : W0.heap.size = w.heap.size + 2) : ∀ (W : World) (l : Nat) (o o' : Obj), W0.heap.size ≤ l → W.heap[l]? = some o → o.isCells = false → KeepB (w.heap.size + 1) w.heap.size W (W.putObj l o') := fun W l o o' hl ho _ =>
  ⟨World.putObj_heap_other (by omega), (Below.refl _ W).grown (grownBy_putObj' W l o') (by have := lt_of_heap ho; omega) (fun k e => by injection e with e; omega)⟩
theorem get_hI (w W0 : World) (g : List UInt8) (hsz : W0.heap.size = w.heap.size + 2) : ∀ s A B row, GetInv w g s A → A.grownBy B row → (∀ r, row = some r → W0.heap.size ≤ r ∧ (A.heap[r]?.map Obj.isCells) = some false) → GetInv w g s B := by
  rintro s A B row ⟨h1, h3, h4⟩ hg hr
  exact ⟨(hg.block _ (lt_of_heap h1) (fun e => by have := (hr _ e.symm).1; omega)).trans h1, h3.grown hg h3.size (fun k e => by have := (hr k e).1; omega), Nat.le_trans h4 hg.size⟩
theorem get_hIg (w : World) (g : List UInt8) : ∀ s A B, GetInv w g s A → A.grownBy B (some (w.heap.size + 1)) → (A.heap[w.heap.size + 1]?.map Obj.isCells) = some true → GetInv w g s B := by
  rintro s A B ⟨h1, h3, h4⟩ hg _
  exact ⟨(hg.block _ (lt_of_heap h1) (fun e => by injection e with e; omega)).trans h1, h3.grown hg h3.size (fun k e => by injection e with e; omega), Nat.le_trans h4 hg.size⟩
theorem get_body {w W : World} {g : List UInt8} {pre : List (Nat × UInt8)} {j : Nat} {y : UInt8} (hI : GetInv w g pre W) (hpre : (pre ++ [(j, y)]) <+: Vint.back g) (hval : Vint.val g < 18446744073709551616) :
    ∃ a : Nat, a * 128 + y.toNat % 128 < 18446744073709551616 ∧ W.heap[w.heap.size]? = some (.cells #[.int .u64 (a : Int)] 22 (0, 0)) ∧
      (∀ v, v = ((a * 128 + y.toNat % 128 : Nat) : Int) → KeepsOthers W (W.setCell ⟨w.heap.size, 0, none⟩ (.int .u64 v)) ∧ KeepB (w.heap.size + 1) w.heap.size W (W.setCell ⟨w.heap.size, 0, none⟩ (.int .u64 v)) ∧ GetInv w g (pre ++ [(j, y)]) (W.setCell ⟨w.heap.size, 0, none⟩ (.int .u64 v))) := by
  obtain ⟨h1, h3, h4⟩ := hI
  obtain ⟨hl, h5, rfl, rfl⟩ := Vint.back_pre hpre
  have h6 := Vint.val_cons_drop g (g.length - 1 - pre.length) h5
  rw [show g.length - 1 - pre.length + 1 = g.length - pre.length by omega] at h6
  refine ⟨Vint.val (g.drop (g.length - pre.length)), ?_, h1, ?_⟩
  · rw [← h6]; exact Nat.lt_of_le_of_lt (Vint.val_drop_le g _) hval
  · rintro v rfl
    refine ⟨KeepsOthers.setCell _ _ _, ⟨?_, (Below.refl w.heap.size W).setCell (p := ⟨w.heap.size, 0, none⟩) (Nat.le_refl _) _⟩, ?_, h3.setCell (Nat.le_refl _) _, ?_⟩
    · show _ = _
      rw [Below.heap_setCell W _ _ _ (by simp)]
    · rw [List.length_append, List.length_singleton, show g.length - (pre.length + 1) = g.length - 1 - pre.length by omega, h6]
      have := heap_setCell_same W w.heap.size 0 _ _ (.int .u64 ((Vint.val (g.drop (g.length - pre.length)) * 128 + g[g.length - 1 - pre.length].toNat % 128 : Nat) : Int)) h1
      simpa using this
    · have : (W.setCell ⟨w.heap.size, 0, none⟩ (.int .u64 ((Vint.val (g.drop (g.length - pre.length)) * 128 + g[g.length - 1 - pre.length].toNat % 128 : Nat) : Int))).heap.size = W.heap.size := by simp [World.setCell]
      omega

set_option maxRecDepth 100000 in
set_option maxHeartbeats 2000000 in
theorem get_ok (A : Option Addr) (bs b : List UInt8) (cap i x : Nat) (w : World) (hA : RdB w A bs) (hl : bs.length ≤ cap) (hb : Cut10 bs b) (h : Vint.first b = i) (hi : i < b.length) (hx : b[i].toNat = x) (h1 : ¬ (i = 9 ∧ 1 < x)) (h2 : ¬ (0 < i ∧ x = 0)) :
    Calls Tryz.prog 83 #[.slice A bs.length cap] w fun e w' => e = .returned (getRes (Vint.val (b.take (i + 1)), i + 1, 0)) ∧ Below w.heap.size w w' := by
  have hf := Lib.hid (firstI_some (b := b) (by omega))
  rw [h] at hf
  have hA' : RdB w A b := by
    rcases hb with ⟨_, rfl⟩ | ⟨_, rfl⟩
    · exact hA
    · exact hA.head (by omega)
  have hbl : b.length ≤ 10 := by
    rcases hb with ⟨h2, rfl⟩ | ⟨h2, rfl⟩
    · exact h2
    · simp; omega
  have hix := Lib.hid (index_any A b cap w hA' (by omega))
  have hval := Lib.hid (Vint.val_take_lt b i hi hbl (by rw [hx]; exact h1))
  obtain ⟨g, hg⟩ : ∃ g, g = b.take (i + 1) := ⟨_, rfl⟩
  have hgl : g.length = i + 1 := by rw [hg, List.length_take]; omega
  have hAg : RdB w A g := by rw [hg]; exact hA'.head (by omega)
  obtain ⟨ad, rfl, hcell⟩ := hA'.at_ hi
  rw [hx] at hcell
  rw [← hg] at hval ⊢
  have Hgl := Lib.hid hgl
  have hi' : i < bs.length ∧ i + 1 ≤ cap := by
    rcases hb with ⟨_, rfl⟩ | ⟨_, rfl⟩
    · exact ⟨hi, by omega⟩
    · omega
  have hx256 : x < 256 := by rw [← hx]; exact b[i].toNat_lt
  clear hA' h hx hA hg hgl
  obtain ⟨m, hm⟩ : ∃ m, m = b.length := ⟨_, rfl⟩
  rw [← hm] at hix hi
  have hcut : (bs.length ≤ 10 ∧ m = bs.length) ∨ (10 < bs.length ∧ m = 10) := by
    rcases hb with ⟨h5, rfl⟩ | ⟨h5, rfl⟩
    · exact .inl ⟨h5, hm⟩
    · exact .inr ⟨h5, by rw [hm]; simp; omega⟩
  clear hm hb
  refine (callsIn_wide (n := 5)).1 (callsIn_of_wp_marks Tryz.func83 rfl trivial ?_ rfl)
  simp only [Tryz.ntmps83, List.size_toArray, List.length_cons, List.length_nil, Nat.reduceAdd, Nat.reduceSub, Array.replicate_succ, Array.replicate_zero, List.push_toArray, List.append_toArray, List.nil_append, List.cons_append]
  refine wpIn_wide.2 ?_
  have hd9 : ∀ d, ((i : Int) == 9) = d → (d = true → decide (1 < (x : Int)) = false) := fun d hd hdt => by
    subst hdt
    have : i = 9 := by have := beq_iff_eq.1 hd; omega
    simp only [decide_eq_false_iff_not]
    omega
  have hd0 : ∀ d, decide (0 < (i : Int)) = d → (d = true → ((x : Int) == 0) = false) := fun d hd hdt => by
    subst hdt
    have : 0 < i := by have := of_decide_eq_true hd; omega
    rw [beq_eq_false_iff_ne]
    omega
  have h90 : (((i : Int) == 9) = false ∧ decide (0 < (i : Int)) = false) ∨ (((i : Int) == 9) = false ∧ decide (0 < (i : Int)) = true) ∨ (((i : Int) == 9) = true ∧ decide (0 < (i : Int)) = true) := by
    simp only [beq_eq_false_iff_ne, beq_iff_eq, decide_eq_false_iff_not, decide_eq_true_eq]; omega
  rcases h90 with ⟨k9, k0⟩ | ⟨k9, k0⟩ | ⟨k9, k0⟩ <;> rcases hcut with ⟨h5, rfl⟩ | ⟨h5, rfl⟩
  all_goals
    have q9 := hd9 _ k9
    have q0 := hd0 _ k0
    clear hd9 hd0
    simp only [Bool.false_eq_true, false_implies, true_implies] at q9 q0
    go_wp2_with (first
      | (go_at_call 97; refine hix.out.mono ?_; rintro e w' ⟨rfl, rfl⟩; rw [hf.out])
      | (go_at_call 99; refine (backward_any _ _ _ _).mono ?_; rintro e w' ⟨rfl, rfl⟩))
    all_goals
      obtain ⟨W0, hW0⟩ : ∃ W0, (w.alloc (.cells #[.int .u64 0] 22)).alloc (.cells #[.slice (some ad) (i + 1) cap] 25) = W0 := ⟨_, rfl⟩
      have hsz : W0.heap.size = w.heap.size + 2 := by rw [← hW0]; simp
      have hBl : W0.heap[w.heap.size]? = some (.cells #[.int .u64 0] 22 (0, 0)) := by rw [← hW0]; exact heap_alloc2_old w _ _
      have hgb : W0.heap[w.heap.size + 1]? = some (.cells #[.slice (some ad) g.length cap] 25 (0, 0)) := by rw [← hW0, Hgl.out]; exact heap_alloc2_new w _ _
      have hb0 : Below w.heap.size w W0 := by rw [← hW0]; exact ((Below.refl _ w).alloc (Nat.le_refl _) _).alloc (by simp) _
      rw [hW0]
      clear hW0
      refine wp_range_all (n := 5) (by omega) (gf := 103) (lb := #[.pointer (some ⟨w.heap.size + 1, 0, none⟩)]) rfl (enters_fn Tryz.func103 (by kernel_rfl) rfl)
        (back_gives 4 (by omega) (w.heap.size + 1) (some ad) g cap w W0 hgb hAg hb0 (by have := Hgl.out; omega)) (by omega) (fun h k => ⟨Eq.trans k.1 h.1, h.2.trans (k.2.mono (Nat.le_refl _))⟩) (get_hKb w W0 hsz) (fun _ => rfl) (GetInv w g) (get_hI w W0 g hsz) (get_hIg w g) ⟨by rw [hBl]; simp [Vint.val], hb0, by omega⟩
        ?_ ?_ ?_ ?_
      rotate_left 1
      · intro l x W K hK
        simp only [encB]
        gi_wp2
        exact hK
      · rintro l pre ⟨j, y⟩ W hI hpre
        obtain ⟨a, ha, h1, hnew⟩ := get_body hI hpre hval.out
        have Hnew := Lib.hid hnew
        clear hnew
        have hcell : W.cell? ⟨w.heap.size, 0, none⟩ = some (.int .u64 (a : Int)) := cell_of_row W _ 0 _ _ _ h1
        have hfr : W.frozen? ⟨w.heap.size, 0, none⟩ = false := frozen_of_row W _ 0 _ _ h1
        have e1 := and7 y.toNat y.toNat_lt
        have e2 := or7 a y.toNat ha
        gi_wp2
        refine Hnew.out _ (Eq.trans ?_ e2)
        rw [Int.natCast_emod]
        rfl
      · rintro D W ⟨h1, h3, h4⟩ hD hK
        rw [Vint.back_len, Nat.sub_self, List.drop_zero] at h1
        have hcell : W.cell? ⟨w.heap.size, 0, none⟩ = some (.int .u64 (Vint.val g : Int)) := cell_of_row W _ 0 _ _ _ h1
        dsimp only
        go_wp2
        refine ⟨by simp, .inl ⟨_, _, rfl, run_takeDeferred hK, ?_⟩⟩
        have hput : W.grownBy (W.putObj D (.deferred none)) (some D) := grownBy_putObj' W D _
        refine ⟨_, results_tmp3 rfl _ _ _, ?_, h3.grown hput h3.size (fun k e => by injection e with e; omega)⟩
        first | rfl | simp [getRes]

theorem get_any (A : Option Addr) (bs : List UInt8) (cap : Nat) (w : World) (hA : RdB w A bs) (hl : bs.length ≤ cap) :
    Calls Tryz.prog 83 #[.slice A bs.length cap] w fun e w' => e = .returned (getRes (Vint.get bs)) ∧ Below w.heap.size w w' := by
  have hb := cut10 bs
  have key : ∀ r : Nat × Nat × Nat, r = Vint.get bs → Calls Tryz.prog 83 #[.slice A bs.length cap] w (fun e w' => e = .returned (getRes r) ∧ w = w') → Calls Tryz.prog 83 #[.slice A bs.length cap] w fun e w' => e = .returned (getRes (Vint.get bs)) ∧ Below w.heap.size w w' := by
    rintro r rfl h
    exact h.mono (by rintro e w' ⟨rfl, rfl⟩; exact ⟨rfl, Below.refl _ _⟩)
  by_cases h0 : Vint.first (bs.take 10) = (bs.take 10).length
  · refine key _ ?_ (get_none A bs _ cap w hA hl hb h0)
    unfold Vint.get
    rw [if_pos h0]
    split <;> rfl
  · have hi : Vint.first (bs.take 10) < (bs.take 10).length := by have := Vint.first_le (bs.take 10); omega
    have hgd : (bs.take 10).getD (Vint.first (bs.take 10)) 0 = (bs.take 10)[Vint.first (bs.take 10)] := by
      rw [List.getD_eq_getElem?_getD, List.getElem?_eq_getElem hi]; rfl
    by_cases h1 : Vint.first (bs.take 10) = 9 ∧ 1 < ((bs.take 10)[Vint.first (bs.take 10)]).toNat
    · refine key _ ?_ (get_wide A bs _ cap _ _ w hA hl hb rfl hi rfl h1.1 h1.2)
      unfold Vint.get
      simp only [hgd]
      rw [if_neg h0, if_pos h1]
    · by_cases h2 : 0 < Vint.first (bs.take 10) ∧ ((bs.take 10)[Vint.first (bs.take 10)]).toNat = 0
      · refine key _ ?_ (get_form A bs _ cap _ _ w hA hl hb rfl hi rfl h2)
        unfold Vint.get
        simp only [hgd]
        rw [if_neg h0, if_neg h1, if_pos h2]
      · have h3 := get_ok A bs _ cap _ _ w hA hl hb rfl hi rfl h1 h2
        have h4 : Vint.get bs = (Vint.val ((bs.take 10).take (Vint.first (bs.take 10) + 1)), Vint.first (bs.take 10) + 1, 0) := by
          unfold Vint.get
          simp only [hgd]
          rw [if_neg h0, if_neg h1, if_neg h2]
        rw [h4]
        exact h3
end Go.Proofs.YtkpagmfaccmiaaaGreat
