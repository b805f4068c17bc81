
/- Contracts of the reference's functions for numbers (scowref01). -/

import Derived.Test.YtdekdblebflklaaVintGet3

import Derived.Test.YtdekdblebflklaaSlices

namespace Go.Proofs.Ytdekdblebflklaa

open Go.RowKit

attribute [local go_sem] Oper.semAt_some

theorem plus128 (m : Nat) : (m : Int) % 128 + 128 = ((UInt8.ofNat (m % 128) ||| 128).toNat : Int) := by
  have h1 := or128 (UInt8.ofNat (m % 128))
  rw [← h1]
  have h2 : (UInt8.ofNat (m % 128)).toNat = m % 128 := by rw [UInt8.toNat_ofNat']; omega
  rw [h2, show (128 : Int) = ((128 : Nat) : Int) from rfl, u8_or_nat _ _ (by omega) (by omega)]
  have h3 := nat_join 7 128 (m % 128) (by omega) (by omega)
  rw [Nat.or_comm, h3]
  omega

set_option maxRecDepth 100000 in
set_option maxHeartbeats 800000 in
theorem ref_put01 (n : Nat) (hn : n < 18446744073709551616) (w : World) :
    Calls Try.prog 56 #[.int .u64 (n : Int)] w fun e w' => ∃ A' c', e = .returned (.slice A' (Vint.put n).length c') ∧ Own w' w.heap.size 5 1 A' (Vint.put n).length c' (bvs (Vint.put n)) ∧ Below w.heap.size w w' := by
  go_enter Try.func56, Try.ntmps56
  go_wp2
  go_loopw [0, 3] (fun a s wr => ∃ (d : List UInt8) (f m : Nat) (A1 : Option Addr) (c1 : Nat), a = .int .u64 (m : Int) ∧ s = .slice A1 d.length c1 ∧ Hid (d ++ (Vint.grpF f m).map Vint.outOf = Vint.put n) ∧ Hid (m < 128 ^ f * 2) ∧ m < 18446744073709551616 ∧ Own wr w.heap.size 5 1 A1 d.length c1 (bvs d) ∧ Below w.heap.size w wr)
    (fun a _ _ => (intOf a).toNat)
  case atStart => exact ⟨[], 9, n, none, 0, rfl, rfl, Lib.hid rfl, Lib.hid (by omega), hn, Own.none_ _ _ _ _ _, Below.refl _ _⟩
  case round =>
    obtain ⟨d, f, m, A1, c1, rfl, rfl, hd, hm, hm64, ho, hb⟩ := hrel
    have hdl : d.length + 1 ≤ 10 := by
      have h1 := congrArg List.length hd.out
      have h2 := (Vint.put_len n).2
      have h3 := (Vint.grpF_len f m).1
      rw [List.length_append, List.length_map] at h1
      omega
    by_cases h : 128 ≤ m
    · obtain ⟨f, rfl⟩ : ∃ f', f = f' + 1 := by
        rcases f with _ | f
        · have := hm.out; simp at this; omega
        · exact ⟨f, rfl⟩
      have hg1 : Vint.grpF (f + 1) m = (UInt8.ofNat (m % 128), true) :: Vint.grpF f (m / 128) := by rw [Vint.grpF, if_neg (by omega)]
      have hd2 : Hid ((d ++ [UInt8.ofNat (m % 128) ||| 128]) ++ (Vint.grpF f (m / 128)).map Vint.outOf = Vint.put n) := by
        have := hd.out
        rw [hg1] at this
        show _ = _
        rw [← this]
        simp [Vint.outOf]
      have hlt : Hid (m / 128 < 128 ^ f * 2) := by have := hm.out; rw [Nat.pow_succ] at this; show _ < _; omega
      have hbt := Lib.hid (plus128 m)
      have hown := Lib.hid (fun o => ho.below (Ext.alloc wr o))
      clear hd hm hg1
      generalize (UInt8.ofNat (m % 128) ||| 128) = x at *
      go_wp2_with (at_builtin; refine wpList_app rfl (.tmp 6) (.tmp 11) 33 rfl elemB w.heap.size A1 d.length c1 (bvs d) rfl (some ⟨wr.heap.size, 0, none⟩) 1 1 [.int .u8 ((m : Int) % 128 + 128)] rfl (d.length + 1) rfl (bvs (d ++ [x])) (by rw [bvs_app, hbt.out]; rfl) (hown.out _) (Rd.new wr 5 [.int .u8 ((m : Int) % 128 + 128)]) (by simp; rfl) (by omega) (by omega) (by have := hb.size; simp; omega) ?_; intro A2 c2 W2 ho2 hg2 hr2)
      have hb2 := below_app (hb.alloc hb.size _) (hown.out _) hg2 (by have := hb.size; simp; omega)
      go_roundw
      case rel => exact ⟨d ++ [x], f, m / 128, A2, c2, by go_num, by rw [List.length_append]; rfl, hd2, hlt, by omega, by rw [List.length_append]; exact ho2, hb2⟩
      case measure => simp [intOf]; omega
    · have hg1 : Vint.grpF f m = [(UInt8.ofNat m, false)] := by
        rcases f with _ | f
        · rfl
        · rw [Vint.grpF, if_pos (by omega)]
      have hd2 : Hid (Vint.put n = d ++ [UInt8.ofNat m]) := by
        have := hd.out
        rw [hg1] at this
        show _ = _
        rw [← this]
        rfl
      have e7 : Hid (((m : Int)) = ((UInt8.ofNat m).toNat : Int)) := by show _ = _; rw [UInt8.toNat_ofNat', Nat.mod_eq_of_lt (by omega)]
      have hown := Lib.hid (fun o => ho.below (Ext.alloc wr o))
      clear hd hm hg1
      generalize (UInt8.ofNat m) = x at *
      go_wp2_with (at_builtin; refine wpList_app rfl (.tmp 15) (.tmp 18) 33 rfl elemB w.heap.size A1 d.length c1 (bvs d) rfl (some ⟨wr.heap.size, 0, none⟩) 1 1 [.int .u8 (m : Int)] rfl (d.length + 1) rfl (bvs (d ++ [x])) (by rw [bvs_app, e7.out]; rfl) (hown.out _) (Rd.new wr 5 [.int .u8 (m : Int)]) (by simp; rfl) (by omega) (by omega) (by have := hb.size; simp; omega) ?_; intro A2 c2 W2 ho2 hg2 hr2)
      have hb2 := below_app (hb.alloc hb.size _) (hown.out _) hg2 (by have := hb.size; simp; omega)
      go_ret
      rw [hd2.out, List.length_append]
      exact ⟨A2, c2, rfl, ho2, hb2⟩

theorem val_snoc (bs : List UInt8) (k : Nat) (h : k < bs.length) : Vint.val (bs.take (k + 1)) = Vint.val (bs.take k) + bs[k].toNat % 128 * 128 ^ k := by
  rw [List.take_succ_eq_append_getElem h, Vint.val_app, List.length_take, Nat.min_eq_left (by omega)]
  simp [Vint.val, Nat.mul_comm]
theorem first_of (bs : List UInt8) (k : Nat) (hk : k ≤ bs.length) (h10 : k < 10) (hall : ∀ j (h : j < bs.length), j < k → 128 ≤ bs[j].toNat) :
    (k = bs.length → Vint.get bs = (0, 0, 10)) ∧ ∀ h : k < bs.length, (k = 9 → 1 < bs[k].toNat → Vint.get bs = (0, 0, 11)) ∧ (bs[k].toNat < 128 → ¬ (k = 9 ∧ 1 < bs[k].toNat) → ((0 < k ∧ bs[k].toNat = 0) → Vint.get bs = (0, 0, 12)) ∧ (¬ (0 < k ∧ bs[k].toNat = 0) → Vint.get bs = (Vint.val (bs.take (k + 1)), k + 1, 0))) := by
  refine ⟨?_, fun h => ?_⟩
  · rintro rfl
    have h1 : bs.take 10 = bs := List.take_of_length_le (by omega)
    have h2 := Vint.first_none (fun j hj => hall j hj hj)
    unfold Vint.get
    rw [h1]
    simp only
    rw [if_pos h2, if_pos h10]
  · have hl : k < (bs.take 10).length := by rw [List.length_take]; omega
    have hx : (bs.take 10)[k] = bs[k] := by simp
    have hf : bs[k].toNat < 128 → Vint.first (bs.take 10) = k := fun h8 => Vint.first_at hl (by rw [hx]; exact h8) (fun j hj => by rw [List.getElem_take]; exact hall j (by omega) hj)
    have hgd : (bs.take 10).getD k 0 = bs[k] := by rw [List.getD_eq_getElem?_getD, List.getElem?_eq_getElem hl, hx]; rfl
    refine ⟨?_, ?_⟩
    · rintro rfl h1
      by_cases h8 : bs[9].toNat < 128
      · have h2 := hf h8
        unfold Vint.get
        simp only [h2, hgd]
        rw [if_neg (by omega), if_pos ⟨trivial, h1⟩]
      · have h3 : Vint.first (bs.take 10) = (bs.take 10).length := Vint.first_none (fun j hj => by
          rw [List.getElem_take]
          rw [List.length_take] at hj
          by_cases h9 : j = 9
          · subst h9; omega
          · exact hall j (by omega) (by omega))
        unfold Vint.get
        simp only
        rw [if_pos h3, if_neg (by omega)]
    · intro h8 h9
      have h2 := hf h8
      refine ⟨fun h3 => ?_, fun h3 => ?_⟩
      · unfold Vint.get
        simp only [h2, hgd]
        rw [if_neg (by omega), if_neg h9, if_pos h3]
      · unfold Vint.get
        simp only [h2, hgd]
        rw [if_neg (by omega), if_neg h9, if_neg h3, List.take_take, Nat.min_eq_left (by omega)]
theorem first_ten (bs : List UInt8) (h10 : 10 ≤ bs.length) (hall : ∀ j (h : j < bs.length), j < 10 → 128 ≤ bs[j].toNat) : Vint.get bs = (0, 0, 11) := by
  have h3 : Vint.first (bs.take 10) = (bs.take 10).length := Vint.first_none (fun j hj => by
    rw [List.getElem_take]
    rw [List.length_take] at hj
    exact hall j (by omega) (by omega))
  unfold Vint.get
  simp only
  rw [if_pos h3, if_neg (by omega)]

set_option maxRecDepth 100000 in
set_option maxHeartbeats 1600000 in
theorem ref_get01 (A : Option Addr) (bs : List UInt8) (cap : Nat) (w : World) (hA : RdB w A bs) (hl : bs.length ≤ 140737488355328) :
    Calls Try.prog 53 #[.slice A bs.length cap] w fun e w' => e = .returned (getRes (Vint.get bs)) ∧ w = w' := by
  go_enter Try.func53, Try.ntmps53
  go_wp2
  go_loop [5, 6, 7] (fun a b i => ∃ (k p : Nat), k ≤ bs.length ∧ k ≤ 10 ∧ i = .int .i64 k ∧ a = .int .u64 (Vint.val (bs.take k) : Nat) ∧ b = .int .u64 (p : Int) ∧ Hid (k < 10 → p = 128 ^ k) ∧ Hid (∀ j (h : j < bs.length), j < k → 128 ≤ bs[j].toNat)) (fun _ _ i => 10 - (intOf i).toNat)
  case atStart => exact ⟨0, 1, by omega, by omega, rfl, rfl, rfl, Lib.hid (fun _ => rfl), Lib.hid (fun j _ h => by omega)⟩
  case round =>
    obtain ⟨k, p, hk, hk10, rfl, rfl, rfl, hp, hall⟩ := hrel
    by_cases h10 : k < 10
    · by_cases h : k < bs.length
      · have hp1 := hp.out h10
        have hF := (first_of bs k hk h10 hall.out).2 h
        have hv := val_snoc bs k h
        have hvlt := Vint.val_lt (bs.take k)
        have hb := bs[k].toNat_lt
        obtain ⟨ad, rfl, hcell⟩ := hA.at_ h
        have hnext : ¬ bs[k].toNat < 128 → Hid (∀ j (h : j < bs.length), j < k + 1 → 128 ≤ bs[j].toNat) := fun h8 => Lib.hid fun j hj hjk => by
          rcases Nat.lt_or_ge j k with h1 | h1
          · exact hall.out j hj h1
          · obtain rfl : j = k := by omega
            omega
        rw [List.length_take, Nat.min_eq_left hk, ← hp1] at hvlt
        rw [← hp1] at hv
        generalize bs[k].toNat = x at *
        by_cases k9 : k = 9
        · have hp9 : p = 9223372036854775808 := by rw [hp1, k9]
          by_cases h1 : 1 < x
          · have hfin := Lib.hid (hF.1 k9 h1)
            have k9' : ((k : Int) == 9) = true := by rw [k9]; rfl
            have k1' : decide (1 < (x : Int)) = true := by simp; omega
            clear hF hv hp hnext hp1 hvlt k9 hp9
            go_wp2
            go_ret3
            exact ⟨by rw [hfin.out]; rfl, rfl⟩
          · have hF2 := hF.2 (by omega) (by omega)
            have k9' : ((k : Int) == 9) = true := by rw [k9]; rfl
            have k1' : decide (1 < (x : Int)) = false := by simp; omega
            have k0' : 0 < k := by omega
            have k8' : decide ((x : Int) < 128) = true := by simp; omega
            have hw0 : IntKind.u64.wrap ((p : Int) * 128) = 0 := by rw [hp9]; rfl
            have hx2 : x = 0 ∨ x = 1 := by omega
            rcases hx2 with rfl | rfl
            · have hfin := Lib.hid (hF2.1 ⟨by omega, rfl⟩)
              clear hF hF2 hv hp hnext hp1 hvlt k9 hp9 k8'
              go_wp2
              go_ret3
              exact ⟨by rw [hfin.out]; rfl, rfl⟩
            · have hfin := Lib.hid (hF2.2 (by omega))
              have hv' := Lib.hid hv
              clear hF hF2 hv hp hnext hp1
              rw [hp9] at hvlt
              have e1 := Lib.hid (show (1 : Int) % 128 * (p : Int) = (p : Int) by simp)
              have hpb : p < 9223372036854775809 := by omega
              clear k9 hp9 k8'
              generalize Vint.val (bs.take k) = d at *
              go_wp2
              go_ret3
              refine ⟨?_, rfl⟩
              rw [hfin.out, hv'.out]
              simp [getRes]
        · have hp8 : p ≤ 72057594037927936 := by
            rw [hp1]
            have : 128 ^ k ≤ 128 ^ 8 := Nat.pow_le_pow_right (by omega) (by omega)
            omega
          have k9' : ((k : Int) == 9) = false := by rw [beq_eq_false_iff_ne]; omega
          have hxp : x % 128 * p ≤ 127 * p := Nat.mul_le_mul_right p (by omega)
          obtain ⟨q, hq⟩ : ∃ q, q = x % 128 * p := ⟨_, rfl⟩
          have hqi : (x : Int) % 128 * (p : Int) = (q : Int) := by rw [hq]; simp
          rw [← hq] at hxp hv
          have hpi : 128 ^ (k + 1) = p * 128 := by rw [Nat.pow_succ, ← hp1]
          have hqb : q < 9223372036854775808 := by omega
          have hdb : Vint.val (bs.take k) < 72057594037927937 := by omega
          have Hv := Lib.hid hv
          have Hpi := Lib.hid hpi
          clear hv hpi hvlt hxp hq hp hp1
          generalize Vint.val (bs.take k) = d at *
          by_cases h8 : x < 128
          · have hF2 := hF.2 h8 (by omega)
            by_cases h0 : 0 < k ∧ x = 0
            · have hfin := Lib.hid (hF2.1 h0)
              obtain ⟨h0, rfl⟩ := h0
              clear hF hF2 hnext
              have hq0 : q = 0 := by simpa using hqi.symm
              subst hq0
              go_wp2
              go_ret3
              exact ⟨by rw [hfin.out]; rfl, rfl⟩
            · have hfin := Lib.hid (hF2.2 h0)
              have hx0 : 0 < k → ((x : Int) == 0) = false := fun h => by rw [beq_eq_false_iff_ne]; omega
              clear hF hF2 hnext h0 k9
              by_cases k0 : 0 < k
              · have hx0' := hx0 k0
                clear hx0
                go_wp2
                go_ret3
                exact ⟨by rw [hfin.out, Hv.out]; simp [getRes], rfl⟩
              · clear hx0
                go_wp2
                go_ret3
                exact ⟨by rw [hfin.out, Hv.out]; simp [getRes], rfl⟩
          · have hnx := hnext h8
            clear hF hnext k9
            go_wp2
            go_round
            case rel => exact ⟨k + 1, p * 128, by omega, by omega, by go_num, val_int (by rw [Hv.out]; simp), by go_num, Lib.hid fun _ => Hpi.out.symm, hnx⟩
            case measure => simp [intOf]; omega
      · obtain rfl : k = bs.length := by omega
        have hfin := Lib.hid ((first_of bs bs.length hk h10 hall.out).1 rfl)
        go_wp2
        go_ret3
        exact ⟨by rw [hfin.out]; rfl, rfl⟩
    · obtain rfl : k = 10 := by omega
      have hfin := Lib.hid (first_ten bs hk hall.out)
      go_wp2
      go_ret3
      exact ⟨by rw [hfin.out]; rfl, rfl⟩
end Go.Proofs.Ytdekdblebflklaa

/- Contracts: numbers in so many bytes by the reference (scowref01), texts with their length (vint, scowref01). -/

namespace Go.Proofs.Ytdekdblebflklaa

open Go.RowKit

attribute [local go_sem] Oper.semAt_some
theorem fixB_mod (n z k : Nat) (h : k < z) : Value.int .u8 (((n / 256 ^ k : Nat) : Int) % 256) = bv (Vint.fixB n z (z - 1 - k)) := by
  have h2 : z - 1 - (z - 1 - k) = k := by omega
  rw [byte0]
  unfold Vint.fixB
  rw [h2]
  rfl

/-- A text's bytes behind its length; the text with which bytes begin. -/
def Vint.putBytes (b : List UInt8) : List UInt8 := Vint.put b.length ++ b
def Vint.getBytes (b : List UInt8) : List UInt8 × Nat × Nat :=
  if (Vint.get b).2.2 ≠ 0 then ([], 0, (Vint.get b).2.2)
  else if b.length - (Vint.get b).2.1 < (Vint.get b).1 then ([], 0, 10)
  else ((b.drop (Vint.get b).2.1).take (Vint.get b).1, (Vint.get b).2.1 + (Vint.get b).1, 0)
theorem Vint.get_le (b : List UInt8) : (Vint.get b).2.1 ≤ b.length ∧ (Vint.get b).2.1 ≤ 10 ∧ (Vint.get b).1 < 18446744073709551616 ∧ (Vint.get b).2.2 < 256 := by
  have h1 := Vint.first_le (b.take 10)
  have h2 : (b.take 10).length ≤ b.length := by simp; omega
  have h3 : (b.take 10).length ≤ 10 := by simp; omega
  unfold Vint.get
  simp only
  split
  · split <;> simp
  · split
    · simp
    · split
      · simp
      · rename_i h4 h5 h6
        have h7 : Vint.first (b.take 10) < (b.take 10).length := by omega
        have hgd : (b.take 10).getD (Vint.first (b.take 10)) 0 = (b.take 10)[Vint.first (b.take 10)] := by
          rw [List.getD_eq_getElem?_getD, List.getElem?_eq_getElem h7]; rfl
        rw [hgd] at h5
        exact ⟨by simp only; omega, by simp only; omega, Vint.val_take_lt _ _ h7 h3 h5, by simp⟩

set_option maxRecDepth 100000 in
theorem putbytes_any (A : Option Addr) (bs : List UInt8) (cap : Nat) (w : World) (hA : RdB w A bs) (hl : bs.length ≤ 1000000) :
    Calls Try.prog 42 #[.slice A bs.length cap] w fun e w' => ∃ A' c', e = .returned (.slice A' (Vint.putBytes bs).length c') ∧ Own w' w.heap.size 5 1 A' (Vint.putBytes bs).length c' (bvs (Vint.putBytes bs)) ∧ Below w.heap.size w w' := by
  go_enter Try.func42, Try.ntmps42
  go_wp2_with fail
  refine (vput_any bs.length (by omega) w).mono ?_
  rintro e w1 ⟨A1, c1, rfl, ho1, hb1⟩
  have hpl := (Vint.put_len bs.length).2
  have hA1 := hA.below hb1
  go_wp2_with fail
  have h3 := concat_any _ [⟨A1, Vint.put bs.length, c1⟩, ⟨A, bs, cap⟩] 2 _ (RdL.two w1 33 A1 A (Vint.put bs.length) bs c1 cap ho1.rd' hA1) (by simp) (by rw [cat_two]; simp; omega)
  rw [cat_two, show Vint.put bs.length ++ bs = Vint.putBytes bs from rfl] at h3
  refine h3.mono ?_
  rintro e w3 ⟨A3, c3, rfl, ho3, hb3⟩
  have hb4 := ext_trans hb1 (ext_trans (Ext.alloc w1 _) hb3)
  clear h3
  go_wp2
  go_ret
  exact ⟨A3, c3, rfl, ho3.mono (by have := hb1.size; simp; omega), hb4⟩

set_option maxRecDepth 100000 in
theorem ref_putbytes01 (A : Option Addr) (bs : List UInt8) (cap : Nat) (w : World) (hA : RdB w A bs) (hl : bs.length ≤ 1000000) :
    Calls Try.prog 43 #[.slice A bs.length cap] w fun e w' => ∃ A' c', e = .returned (.slice A' (Vint.putBytes bs).length c') ∧ Own w' w.heap.size 5 1 A' (Vint.putBytes bs).length c' (bvs (Vint.putBytes bs)) ∧ Below w.heap.size w w' := by
  have hpl := (Vint.put_len bs.length).2
  have hlen : Hid ((Vint.putBytes bs).length = (Vint.put bs.length).length + bs.length) := by show _ = _; unfold Vint.putBytes; simp
  go_enter Try.func43, Try.ntmps43
  go_wp2_with (first
    | (go_at_call 56; refine (ref_put01 bs.length (by omega) w).mono ?_; rintro e w1 ⟨A1, c1, rfl, ho1, hb1⟩)
    | (at_builtin; refine wpList_app rfl (.tmp 6) (.tmp 7) 33 rfl elemB w.heap.size A1 _ c1 (bvs (Vint.put bs.length)) rfl A bs.length cap (bvs bs) rfl (Vint.putBytes bs).length hlen.out (bvs (Vint.putBytes bs)) (bvs_app _ _) ho1 (hA.below hb1) (bvs_one _) (by rw [hlen.out]; omega) (by rw [hlen.out]; omega) hb1.size ?_; intro A2 c2 w2 ho2 hg2 hr2))
  have hb2 := below_app hb1 ho1 hg2 hb1.size
  go_ret
  exact ⟨A2, c2, rfl, ho2, hb2⟩

/-- The values that a text's reading gives. -/
def gotRes (A : Option Addr) (n c : Nat) (r : List UInt8 × Nat × Nat) : Value := .tuple #[.slice A n c, .int .i64 (r.2.1 : Int), .int .i64 (r.2.2 : Int)]

set_option maxRecDepth 100000 in
set_option maxHeartbeats 800000 in
theorem getbytes_any (A : Option Addr) (bs : List UInt8) (cap : Nat) (w : World) (hA : RdB w A bs) (hl : bs.length ≤ 1000000) (hc : bs.length ≤ cap) :
    Calls Try.prog 52 #[.slice A bs.length cap] w fun e w' => ∃ A' c', e = .returned (gotRes A' (Vint.getBytes bs).1.length c' (Vint.getBytes bs)) ∧ Own w' w.heap.size 5 1 A' (Vint.getBytes bs).1.length c' (bvs (Vint.getBytes bs).1) ∧ Below w.heap.size w w' := by
  obtain ⟨hg1, hg2, hg3, hg4⟩ := Vint.get_le bs
  have hget := get_any A bs cap w hA hc
  have hdef : Vint.getBytes bs = if (Vint.get bs).2.2 ≠ 0 then ([], 0, (Vint.get bs).2.2) else if bs.length - (Vint.get bs).2.1 < (Vint.get bs).1 then ([], 0, 10) else ((bs.drop (Vint.get bs).2.1).take (Vint.get bs).1, (Vint.get bs).2.1 + (Vint.get bs).1, 0) := rfl
  generalize Vint.get bs = r at *
  obtain ⟨n, k, x⟩ := r
  simp only at hg1 hg2 hg3 hg4 hdef
  have Hget := Lib.hid hget
  clear hget
  by_cases hx : x = 0
  · subst hx
    by_cases hn : bs.length - k < n
    · have hfin := Lib.hid (hdef.trans (by rw [if_neg (by simp), if_pos hn]) : Vint.getBytes bs = ([], 0, 10))
      clear hdef
      go_enter Try.func52, Try.ntmps52
      go_wp2_with (go_at_call 60; refine Hget.out.mono ?_; rintro e w1 ⟨rfl, hb1⟩; simp only [getRes])
      go_ret3
      rw [hfin.out]
      exact ⟨none, 0, rfl, Own.none_ _ _ _ _ _, hb1⟩
    · have hfin := Lib.hid (hdef.trans (by rw [if_neg (by simp), if_neg hn]) : Vint.getBytes bs = ((bs.drop k).take n, k + n, 0))
      clear hdef
      have hle : k + n ≤ bs.length := by omega
      have hcut := hA.cut (k := k) (m := k + n) (by omega) hle (c := cap) (by omega)
      have hl2 : ((bs.take (k + n)).drop k).length = n := by simp; omega
      have he : (bs.take (k + n)).drop k = (bs.drop k).take n := by rw [List.drop_take]; congr 1; omega
      rw [he] at hcut hl2
      have Hl2 := Lib.hid hl2
      have Hcut := Lib.hid hcut
      clear hcut hl2 he
      go_enter Try.func52, Try.ntmps52
      go_wp2_with (first
        | (go_at_call 60; refine Hget.out.mono ?_; rintro e w1 ⟨rfl, hb1⟩; simp only [getRes])
        | fail)
      all_goals
        have hcut1 := Hcut.out
        first | rw [if_pos ‹cap = k›] at hcut1 | rw [if_neg ‹¬ cap = k›] at hcut1
        have h5 := fun c => clone_any _ _ c w1 (hcut1.below hb1) (by rw [Hl2.out]; omega)
        simp only [Hl2.out] at h5
        refine (h5 _).mono ?_
        rintro e w2 ⟨A2, c2, rfl, ho2, hb2⟩
        clear h5 hcut1
        go_wp2
        go_ret3
        rw [hfin.out]
        simp only [Hl2.out]
        exact ⟨A2, c2, by simp [gotRes], ho2.mono hb1.size, ext_trans hb1 hb2⟩
  · have hfin := Lib.hid (hdef.trans (by rw [if_pos hx]) : Vint.getBytes bs = ([], 0, x))
    have hx' : ((x : Int) == 0) = false := by rw [beq_eq_false_iff_ne]; omega
    clear hdef
    go_enter Try.func52, Try.ntmps52
    go_wp2_with (go_at_call 60; refine Hget.out.mono ?_; rintro e w1 ⟨rfl, hb1⟩; simp only [getRes])
    go_ret3
    rw [hfin.out]
    exact ⟨none, 0, rfl, Own.none_ _ _ _ _ _, hb1⟩
set_option maxRecDepth 100000 in
set_option maxHeartbeats 800000 in
theorem ref_getbytes01 (A : Option Addr) (bs : List UInt8) (cap : Nat) (w : World) (hA : RdB w A bs) (hl : bs.length ≤ 1000000) (hc : bs.length ≤ cap) :
    Calls Try.prog 40 #[.slice A bs.length cap] w fun e w' => ∃ A' c', e = .returned (gotRes A' (Vint.getBytes bs).1.length c' (Vint.getBytes bs)) ∧ Own w' w.heap.size 5 1 A' (Vint.getBytes bs).1.length c' (bvs (Vint.getBytes bs).1) ∧ Below w.heap.size w w' := by
  obtain ⟨hg1, hg2, hg3, hg4⟩ := Vint.get_le bs
  have hget := ref_get01 A bs cap w hA (by omega)
  have hdef : Vint.getBytes bs = if (Vint.get bs).2.2 ≠ 0 then ([], 0, (Vint.get bs).2.2) else if bs.length - (Vint.get bs).2.1 < (Vint.get bs).1 then ([], 0, 10) else ((bs.drop (Vint.get bs).2.1).take (Vint.get bs).1, (Vint.get bs).2.1 + (Vint.get bs).1, 0) := rfl
  generalize Vint.get bs = r at *
  obtain ⟨n, k, x⟩ := r
  simp only at hg1 hg2 hg3 hg4 hdef
  have Hget := Lib.hid hget
  clear hget
  by_cases hx : x = 0
  · subst hx
    by_cases hn : bs.length - k < n
    · have hfin := Lib.hid (hdef.trans (by rw [if_neg (by simp), if_pos hn]) : Vint.getBytes bs = ([], 0, 10))
      clear hdef
      go_enter Try.func40, Try.ntmps40
      go_wp2_with (go_at_call 53; refine Hget.out.mono ?_; rintro e w1 ⟨rfl, rfl⟩; simp only [getRes])
      go_ret3
      rw [hfin.out]
      exact ⟨none, 0, rfl, Own.none_ _ _ _ _ _, Below.refl _ _⟩
    · have hfin := Lib.hid (hdef.trans (by rw [if_neg (by simp), if_neg hn]) : Vint.getBytes bs = ((bs.drop k).take n, k + n, 0))
      clear hdef
      have hle : k + n ≤ bs.length := by omega
      by_cases hck : cap = k
      · obtain rfl : n = 0 := by omega
        rw [List.take_zero, Nat.add_zero] at hfin
        clear hle hn
        subst hck
        go_enter Try.func40, Try.ntmps40
        go_wp2_with (first
          | (go_at_call 53; refine Hget.out.mono ?_; rintro e w1 ⟨rfl, rfl⟩; simp only [getRes])
          | (at_builtin; refine wpList_app rfl (.tmp 24) (.tmp 31) 33 rfl elemB w.heap.size _ 0 0 [] rfl _ 0 _ [] rfl 0 rfl [] rfl (Own.none_ _ _ _ _ _) (Rd.nil_ _ _ _) (by simp) (by omega) (by omega) (by simp) ?_; intro A2 c2 w2 ho2 hg2 hr2))
        all_goals
          have hb2 := below_app (((Below.refl w.heap.size w).alloc (Nat.le_refl _) (.cells #[] 5))) (Own.none_ _ _ 5 1 (some ⟨w.heap.size, 0, none⟩)) hg2 (by simp)
          go_ret3
          rw [hfin.out]
          exact ⟨A2, c2, by simp [gotRes], ho2, hb2⟩
      · have hcut := hA.cut (k := k) (m := k + n) (by omega) hle (c := cap) (by omega)
        have hl2 : ((bs.take (k + n)).drop k).length = n := by simp; omega
        have he : (bs.take (k + n)).drop k = (bs.drop k).take n := by rw [List.drop_take]; congr 1; omega
        rw [he, if_neg hck] at hcut
        rw [he] at hl2
        have Hl2 := Lib.hid hl2
        have hcut1 := hcut.below (Ext.alloc w (.cells #[] 5))
        unfold RdB at hcut1
        rw [hl2] at hcut1
        have hcut2 : Rd (w.alloc (.cells #[] 5)) 1 (A.map fun x => x.add k) (k + n - k) (bvs ((bs.drop k).take n)) := by rw [Nat.add_sub_cancel_left]; exact hcut1
        have Hcut2 := Lib.hid hcut2
        clear hcut hl2 he hcut1 hcut2
        go_enter Try.func40, Try.ntmps40
        go_wp2_with (first
          | (go_at_call 53; refine Hget.out.mono ?_; rintro e w1 ⟨rfl, rfl⟩; simp only [getRes])
          | (at_builtin; (refine wpList_app rfl (.tmp 24) (.tmp 31) 33 rfl elemB w.heap.size _ 0 0 [] rfl (A.map fun x => x.add k) (k + n - k) (cap - k) (bvs ((bs.drop k).take n)) rfl n (by omega) (bvs ((bs.drop k).take n)) rfl (Own.none_ _ _ _ _ _) Hcut2.out (bvs_one _) (by omega) (by omega) (by simp) ?_; intro A2 c2 w2 ho2 hg2 hr2)))
        have hb2 := below_app (((Below.refl w.heap.size w).alloc (Nat.le_refl _) (.cells #[] 5))) (Own.none_ _ _ 5 1 (some ⟨w.heap.size, 0, none⟩)) hg2 (by simp)
        go_ret3
        rw [hfin.out]
        simp only [Hl2.out]
        exact ⟨A2, c2, by simp [gotRes], ho2, hb2⟩
  · have hfin := Lib.hid (hdef.trans (by rw [if_pos hx]) : Vint.getBytes bs = ([], 0, x))
    have hx' : ((x : Int) == 0) = false := by rw [beq_eq_false_iff_ne]; omega
    clear hdef
    go_enter Try.func40, Try.ntmps40
    go_wp2_with (go_at_call 53; refine Hget.out.mono ?_; rintro e w1 ⟨rfl, rfl⟩; simp only [getRes])
    go_ret3
    rw [hfin.out]
    exact ⟨none, 0, rfl, Own.none_ _ _ _ _ _, Below.refl _ _⟩
end Go.Proofs.Ytdekdblebflklaa
