
/- Contracts of the reference's functions for numbers (scowref01). -/

import Derived.Test.YtkpagmfaccmiaaaGreatVintRefN

import Derived.Test.YtkpagmfaccmiaaaGreatVintGet3

import Derived.Test.YtkpagmfaccmiaaaGreatSlices

namespace Go.Proofs.YtkpagmfaccmiaaaGreat

open Go.RowKit

attribute [local go_sem] Oper.semAt_some

theorem plus128 (m : Nat) : (m : Int) % 128 + 128 = ((UInt8.ofNat (m % 128) ||| 128).toNat : Int) := by
  have h1 := or128 (UInt8.ofNat (m % 128))
  rw [← h1]
  have h2 : (UInt8.ofNat (m % 128)).toNat = m % 128 := by rw [UInt8.toNat_ofNat']; omega
  rw [h2, show (128 : Int) = ((128 : Nat) : Int) from rfl, u8_or_nat _ _ (by omega) (by omega)]
  have h3 := nat_join 7 128 (m % 128) (by omega) (by omega)
  rw [Nat.or_comm, h3]
  omega

set_option maxRecDepth 100000 in
set_option maxHeartbeats 800000 in
theorem ref_put01 (n : Nat) (hn : n < 18446744073709551616) (w : World) :
    Calls Tryz.prog 85 #[.int .u64 (n : Int)] w fun e w' => ∃ A' c', e = .returned (.slice A' (Vint.put n).length c') ∧ Own w' w.heap.size 5 1 A' (Vint.put n).length c' (bvs (Vint.put n)) ∧ Below w.heap.size w w' := by
  go_enter Tryz.func85, Tryz.ntmps85
  go_wp2
  go_loopw [0, 3] (fun a s wr => ∃ (d : List UInt8) (f m : Nat) (A1 : Option Addr) (c1 : Nat), a = .int .u64 (m : Int) ∧ s = .slice A1 d.length c1 ∧ Hid (d ++ (Vint.grpF f m).map Vint.outOf = Vint.put n) ∧ Hid (m < 128 ^ f * 2) ∧ m < 18446744073709551616 ∧ Own wr w.heap.size 5 1 A1 d.length c1 (bvs d) ∧ Below w.heap.size w wr)
    (fun a _ _ => (intOf a).toNat)
  case atStart => exact ⟨[], 9, n, none, 0, rfl, rfl, Lib.hid rfl, Lib.hid (by omega), hn, Own.none_ _ _ _ _ _, Below.refl _ _⟩
  case round =>
    obtain ⟨d, f, m, A1, c1, rfl, rfl, hd, hm, hm64, ho, hb⟩ := hrel
    have hdl : d.length + 1 ≤ 10 := by
      have h1 := congrArg List.length hd.out
      have h2 := (Vint.put_len n).2
      have h3 := (Vint.grpF_len f m).1
      rw [List.length_append, List.length_map] at h1
      omega
    by_cases h : 128 ≤ m
    · obtain ⟨f, rfl⟩ : ∃ f', f = f' + 1 := by
        rcases f with _ | f
        · have := hm.out; simp at this; omega
        · exact ⟨f, rfl⟩
      have hg1 : Vint.grpF (f + 1) m = (UInt8.ofNat (m % 128), true) :: Vint.grpF f (m / 128) := by rw [Vint.grpF, if_neg (by omega)]
      have hd2 : Hid ((d ++ [UInt8.ofNat (m % 128) ||| 128]) ++ (Vint.grpF f (m / 128)).map Vint.outOf = Vint.put n) := by
        have := hd.out
        rw [hg1] at this
        show _ = _
        rw [← this]
        simp [Vint.outOf]
      have hlt : Hid (m / 128 < 128 ^ f * 2) := by have := hm.out; rw [Nat.pow_succ] at this; show _ < _; omega
      have hbt := Lib.hid (plus128 m)
      have hown := Lib.hid (fun o => ho.below (Ext.alloc wr o))
      clear hd hm hg1
      generalize (UInt8.ofNat (m % 128) ||| 128) = x at *
      go_wp2_with (at_builtin; refine wpList_app rfl (.tmp 6) (.tmp 11) 25 rfl elemB w.heap.size A1 d.length c1 (bvs d) rfl (some ⟨wr.heap.size, 0, none⟩) 1 1 [.int .u8 ((m : Int) % 128 + 128)] rfl (d.length + 1) rfl (bvs (d ++ [x])) (by rw [bvs_app, hbt.out]; rfl) (hown.out _) (Rd.new wr 5 [.int .u8 ((m : Int) % 128 + 128)]) (by simp; rfl) (by omega) (by omega) (by have := hb.size; simp; omega) ?_; intro A2 c2 W2 ho2 hg2 hr2)
      have hb2 := below_app (hb.alloc hb.size _) (hown.out _) hg2 (by have := hb.size; simp; omega)
      go_roundw
      case rel => exact ⟨d ++ [x], f, m / 128, A2, c2, by go_num, by rw [List.length_append]; rfl, hd2, hlt, by omega, by rw [List.length_append]; exact ho2, hb2⟩
      case measure => simp [intOf]; omega
    · have hg1 : Vint.grpF f m = [(UInt8.ofNat m, false)] := by
        rcases f with _ | f
        · rfl
        · rw [Vint.grpF, if_pos (by omega)]
      have hd2 : Hid (Vint.put n = d ++ [UInt8.ofNat m]) := by
        have := hd.out
        rw [hg1] at this
        show _ = _
        rw [← this]
        rfl
      have e7 : Hid (((m : Int)) = ((UInt8.ofNat m).toNat : Int)) := by show _ = _; rw [UInt8.toNat_ofNat', Nat.mod_eq_of_lt (by omega)]
      have hown := Lib.hid (fun o => ho.below (Ext.alloc wr o))
      clear hd hm hg1
      generalize (UInt8.ofNat m) = x at *
      go_wp2_with (at_builtin; refine wpList_app rfl (.tmp 15) (.tmp 18) 25 rfl elemB w.heap.size A1 d.length c1 (bvs d) rfl (some ⟨wr.heap.size, 0, none⟩) 1 1 [.int .u8 (m : Int)] rfl (d.length + 1) rfl (bvs (d ++ [x])) (by rw [bvs_app, e7.out]; rfl) (hown.out _) (Rd.new wr 5 [.int .u8 (m : Int)]) (by simp; rfl) (by omega) (by omega) (by have := hb.size; simp; omega) ?_; intro A2 c2 W2 ho2 hg2 hr2)
      have hb2 := below_app (hb.alloc hb.size _) (hown.out _) hg2 (by have := hb.size; simp; omega)
      go_ret
      rw [hd2.out, List.length_append]
      exact ⟨A2, c2, rfl, ho2, hb2⟩

theorem val_snoc (bs : List UInt8) (k : Nat) (h : k < bs.length) : Vint.val (bs.take (k + 1)) = Vint.val (bs.take k) + bs[k].toNat % 128 * 128 ^ k := by
  rw [List.take_succ_eq_append_getElem h, Vint.val_app, List.length_take, Nat.min_eq_left (by omega)]
  simp [Vint.val, Nat.mul_comm]
theorem first_of (bs : List UInt8) (k : Nat) (hk : k ≤ bs.length) (h10 : k < 10) (hall : ∀ j (h : j < bs.length), j < k → 128 ≤ bs[j].toNat) :
    (k = bs.length → Vint.get bs = (0, 0, 10)) ∧ ∀ h : k < bs.length, (k = 9 → 1 < bs[k].toNat → Vint.get bs = (0, 0, 11)) ∧ (bs[k].toNat < 128 → ¬ (k = 9 ∧ 1 < bs[k].toNat) → ((0 < k ∧ bs[k].toNat = 0) → Vint.get bs = (0, 0, 12)) ∧ (¬ (0 < k ∧ bs[k].toNat = 0) → Vint.get bs = (Vint.val (bs.take (k + 1)), k + 1, 0))) := by
  refine ⟨?_, fun h => ?_⟩
  · rintro rfl
    have h1 : bs.take 10 = bs := List.take_of_length_le (by omega)
    have h2 := Vint.first_none (fun j hj => hall j hj hj)
    unfold Vint.get
    rw [h1]
    simp only
    rw [if_pos h2, if_pos h10]
  · have hl : k < (bs.take 10).length := by rw [List.length_take]; omega
    have hx : (bs.take 10)[k] = bs[k] := by simp
    have hf : bs[k].toNat < 128 → Vint.first (bs.take 10) = k := fun h8 => Vint.first_at hl (by rw [hx]; exact h8) (fun j hj => by rw [List.getElem_take]; exact hall j (by omega) hj)
    have hgd : (bs.take 10).getD k 0 = bs[k] := by rw [List.getD_eq_getElem?_getD, List.getElem?_eq_getElem hl, hx]; rfl
    refine ⟨?_, ?_⟩
    · rintro rfl h1
      by_cases h8 : bs[9].toNat < 128
      · have h2 := hf h8
        unfold Vint.get
        simp only [h2, hgd]
        rw [if_neg (by omega), if_pos ⟨trivial, h1⟩]
      · have h3 : Vint.first (bs.take 10) = (bs.take 10).length := Vint.first_none (fun j hj => by
          rw [List.getElem_take]
          rw [List.length_take] at hj
          by_cases h9 : j = 9
          · subst h9; omega
          · exact hall j (by omega) (by omega))
        unfold Vint.get
        simp only
        rw [if_pos h3, if_neg (by omega)]
    · intro h8 h9
      have h2 := hf h8
      refine ⟨fun h3 => ?_, fun h3 => ?_⟩
      · unfold Vint.get
        simp only [h2, hgd]
        rw [if_neg (by omega), if_neg h9, if_pos h3]
      · unfold Vint.get
        simp only [h2, hgd]
        rw [if_neg (by omega), if_neg h9, if_neg h3, List.take_take, Nat.min_eq_left (by omega)]
theorem first_ten (bs : List UInt8) (h10 : 10 ≤ bs.length) (hall : ∀ j (h : j < bs.length), j < 10 → 128 ≤ bs[j].toNat) : Vint.get bs = (0, 0, 11) := by
  have h3 : Vint.first (bs.take 10) = (bs.take 10).length := Vint.first_none (fun j hj => by
    rw [List.getElem_take]
    rw [List.length_take] at hj
    exact hall j (by omega) (by omega))
  unfold Vint.get
  simp only
  rw [if_pos h3, if_neg (by omega)]

end Go.Proofs.YtkpagmfaccmiaaaGreat

/- Contracts: numbers in so many bytes by the reference (scowref01), texts with their length (vint, scowref01). -/

namespace Go.Proofs.YtkpagmfaccmiaaaGreat

open Go.RowKit

attribute [local go_sem] Oper.semAt_some
/-- A text's bytes behind its length; the text with which bytes begin. -/
def Vint.putBytes (b : List UInt8) : List UInt8 := Vint.put b.length ++ b
def Vint.getBytes (b : List UInt8) : List UInt8 × Nat × Nat :=
  if (Vint.get b).2.2 ≠ 0 then ([], 0, (Vint.get b).2.2)
  else if b.length - (Vint.get b).2.1 < (Vint.get b).1 then ([], 0, 10)
  else ((b.drop (Vint.get b).2.1).take (Vint.get b).1, (Vint.get b).2.1 + (Vint.get b).1, 0)
theorem Vint.get_le (b : List UInt8) : (Vint.get b).2.1 ≤ b.length ∧ (Vint.get b).2.1 ≤ 10 ∧ (Vint.get b).1 < 18446744073709551616 ∧ (Vint.get b).2.2 < 256 := by
  have h1 := Vint.first_le (b.take 10)
  have h2 : (b.take 10).length ≤ b.length := by simp; omega
  have h3 : (b.take 10).length ≤ 10 := by simp; omega
  unfold Vint.get
  simp only
  split
  · split <;> simp
  · split
    · simp
    · split
      · simp
      · rename_i h4 h5 h6
        have h7 : Vint.first (b.take 10) < (b.take 10).length := by omega
        have hgd : (b.take 10).getD (Vint.first (b.take 10)) 0 = (b.take 10)[Vint.first (b.take 10)] := by
          rw [List.getD_eq_getElem?_getD, List.getElem?_eq_getElem h7]; rfl
        rw [hgd] at h5
        exact ⟨by simp only; omega, by simp only; omega, Vint.val_take_lt _ _ h7 h3 h5, by simp⟩

/-- The values that a text's reading gives. -/
def gotRes (A : Option Addr) (n c : Nat) (r : List UInt8 × Nat × Nat) : Value := .tuple #[.slice A n c, .int .i64 (r.2.1 : Int), .int .i64 (r.2.2 : Int)]

end Go.Proofs.YtkpagmfaccmiaaaGreat
