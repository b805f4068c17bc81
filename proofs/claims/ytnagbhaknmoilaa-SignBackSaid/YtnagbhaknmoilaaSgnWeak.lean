
/- Contracts: weak sums: the program's (weak: whole, of, roll, Sum) and the document's (scowref21.Sum). -/

import Derived.Test.YtnagbhaknmoilaaSgnPlain

import Derived.Test.YtnagbhaknmoilaaChecked

import Derived.Test.YtnagbhaknmoilaaReg2

import Derived.Test.YtnagbhaknmoilaaNum

namespace Go.Proofs.Ytnagbhaknmoilaa

open Go.RowKit

attribute [local go_sem] Oper.semAt_some

theorem u32_or_high (a b : Nat) (ha : a < 65536) (hb : b < 65536) : bits .or .u32 ((b : Int) * 65536) (a : Int) = ((a + 65536 * b : Nat) : Int) := by
  have h := u32_or_nat (b * 65536) a (by omega) (by omega)
  have h2 := Nat.shiftLeft_add_eq_or_of_lt (b := a) (i := 16) ha b
  rw [Nat.shiftLeft_eq] at h2
  rw [show (b : Int) * 65536 = ((b * 65536 : Nat) : Int) by omega, h]
  simp only [Nat.reducePow] at h2
  rw [← h2]
  congr 1
  omega
set_option maxRecDepth 100000 in
theorem whole_any (a b : Nat) (ha : a < 65536) (hb : b < 65536) (w : World) :
    Calls Try.prog 26 #[.agg #[.int .u16 (a : Int), .int .u16 (b : Int)]] w fun e w' => e = .returned (.int .u32 ((a + 65536 * b : Nat) : Int)) ∧ Ext w w' := by
  go_enter Try.func26, Try.ntmps26
  go_wp2
  rw [u32_or_high a b ha hb]
  go_ret
  exact ⟨rfl, Ext.alloc _ _⟩
set_option maxRecDepth 100000 in
theorem weakof_any (s : Nat) (hs : s < 4294967296) (w : World) :
    Calls Try.prog 44 #[.int .u32 (s : Int)] w fun e w' => e = .returned (.agg #[.int .u16 ((s % 65536 : Nat) : Int), .int .u16 ((s / 65536 : Nat) : Int)]) ∧ Ext w w' := by
  go_enter Try.func44, Try.ntmps44
  go_wp2
  refine bodyPost_ret (results_cell_row rfl _ _ w.heap.size 61 _ (0, 0) _ rfl (heap_alloc_new w _) Try.underlying61 rfl (by rfl)) rfl ?_
  refine ⟨?_, Ext.alloc _ _⟩
  rw [IntKind.wrap_u16]
  simp
theorem roll_num (a x y : Nat) (q : Nat) (h : q + x = a + y) : IntKind.u16.wrap (((a % 65536 : Nat) : Int) + IntKind.u16.wrap ((y : Int) - (x : Int))) = ((q % 65536 : Nat) : Int) := by
  rw [IntKind.wrap_u16, IntKind.wrap_u16]; omega
theorem roll_num2 (b a x n q : Nat) (h : q + n * x = b + a) :
    IntKind.u16.wrap (((b % 65536 : Nat) : Int) + IntKind.u16.wrap (((a % 65536 : Nat) : Int) - IntKind.u16.wrap (IntKind.u16.wrap (n : Int) * (x : Int)))) = ((q % 65536 : Nat) : Int) := by
  simp only [IntKind.wrap_u16]
  have h1 : ((n : Int) % 65536 * (x : Int)) % 65536 = ((n : Int) * (x : Int)) % 65536 := by rw [Int.mul_emod, Int.emod_emod_of_dvd _ (by decide), ← Int.mul_emod]
  rw [h1]
  have h2 : ((n * x : Nat) : Int) = (n : Int) * (x : Int) := by simp
  rw [← h2]
  generalize n * x = m at *
  omega
set_option maxRecDepth 100000 in
theorem roll_any (a b x y n q r : Nat) (hx : x < 256) (hy : y < 256) (hq : q + x = a + y) (hr : r + n * x = b + q) (w : World) :
    Calls Try.prog 45 #[.agg #[.int .u16 ((a % 65536 : Nat) : Int), .int .u16 ((b % 65536 : Nat) : Int)], .int .u8 (x : Int), .int .u8 (y : Int), .int .i64 (n : Int)] w fun e w' => e = .returned (.agg #[.int .u16 ((q % 65536 : Nat) : Int), .int .u16 ((r % 65536 : Nat) : Int)]) ∧ Ext w w' := by
  have e1 := roll_num a x y q hq
  have e2 := roll_num2 b q x n r hr
  obtain ⟨a', ha'⟩ : ∃ a', a' = a % 65536 := ⟨_, rfl⟩
  obtain ⟨b', hb'⟩ : ∃ b', b' = b % 65536 := ⟨_, rfl⟩
  obtain ⟨q', hq'⟩ : ∃ q', q' = q % 65536 := ⟨_, rfl⟩
  obtain ⟨r', hr'⟩ : ∃ r', r' = r % 65536 := ⟨_, rfl⟩
  rw [← ha', ← hq'] at e1
  rw [← hb', ← hq', ← hr'] at e2
  rw [← ha', ← hb', ← hq', ← hr']
  clear ha' hb' hq' hr' hq hr
  go_enter Try.func45, Try.ntmps45
  go_wp2
  have h2 := heap_alloc_new (w.alloc (.cells #[.int .u16 (q' : Int), .int .u16 (r' : Int)] 61)) (.cells #[.int .u16 (q' : Int), .int .u16 (r' : Int)] 61)
  rw [World.size_alloc] at h2
  refine bodyPost_ret (results_cell_row rfl _ _ (w.heap.size + 1) 61 _ (0, 0) _ rfl h2 Try.underlying61 rfl (by rfl)) rfl ?_
  exact ⟨rfl, Ext.tr (Ext.alloc _ _) (Ext.alloc _ _)⟩
set_option maxRecDepth 100000 in
theorem wsum_any (A : Option Addr) (p : List UInt8) (c : Nat) (w : World) (hA : RdB w A p) (hl : p.length ≤ 1000000) :
    Calls Try.prog 18 #[.slice A p.length c] w fun e w' => e = .returned (.int .u32 (Wk.sum p : Int)) ∧ Ext w w' := by
  obtain ⟨n, hn⟩ : ∃ n, n = p.length := ⟨_, rfl⟩
  rw [← hn]
  have Hn := Lib.hid hn
  have hl2 : n ≤ 1000000 := by omega
  clear hn
  go_enter Try.func18, Try.ntmps18
  go_wp2
  obtain ⟨g, hg⟩ : ∃ g, g = w.heap.size := ⟨_, rfl⟩
  have Hx1 := Lib.hid (Ext.alloc w (.cells #[.int .u16 0, .int .u16 0] 61))
  have hr := heap_alloc_new w (.cells #[.int .u16 0, .int .u16 0] 61)
  rw [← hg] at hr ⊢
  have Hg := Lib.hid hg
  clear hg
  go_loopw [8] (fun i wr => ∃ (k x y : Nat), k ≤ n ∧ i = .int .i64 k ∧ x = Wk.a (p.take k) % 65536 ∧ y = Wk.b (p.take k) % 65536 ∧ wr.heap[g]? = some (.cells #[.int .u16 (x : Int), .int .u16 (y : Int)] 61 (0, 0)) ∧ Ext w wr) (fun i _ => n - (intOf i).toNat)
  case atStart => exact ⟨0, 0, 0, by omega, rfl, by simp [Wk.a], by simp [Wk.b, Wk.bp], hr, Hx1.out⟩
  case round =>
    obtain ⟨k, x, y, hk, rfl, hx, hy, hr1, hE⟩ := hrel
    have c0 : wr.cell? ⟨g, 0, none⟩ = some (.int .u16 (x : Int)) := cell_of_row wr g 0 _ _ _ hr1
    have c1 : wr.cell? ⟨g, 1, none⟩ = some (.int .u16 (y : Int)) := cell_of_row wr g 1 _ _ _ hr1
    by_cases h : k < n
    · obtain ⟨ad, rfl, hb⟩ := (hA.below hE).at_ (k := k) (by have := Hn.out; omega)
      obtain ⟨u, hu⟩ : ∃ u, u = p[k]'(by have := Hn.out; omega) := ⟨_, rfl⟩
      rw [← hu] at hb
      have ik : (0 : Int) ≤ (k : Int) := by omega
      have ik2 : (k : Int) < (n : Int) := by omega
      have f0 := frozen_of_row wr g 0 _ _ hr1
      have f1 := frozen_of_row wr g 1 _ _ hr1
      have hut := u.toNat_lt
      obtain ⟨x2, hx2⟩ : ∃ x2 : Nat, IntKind.u16.wrap ((x : Int) + (u.toNat : Int)) = (x2 : Int) := ⟨(x + u.toNat) % 65536, by rw [IntKind.wrap_u16]; omega⟩
      obtain ⟨y2, hy2⟩ : ∃ y2 : Nat, IntKind.u16.wrap ((y : Int) + (x2 : Int)) = (y2 : Int) := ⟨(y + x2) % 65536, by rw [IntKind.wrap_u16]; omega⟩
      have Hr1 := Lib.hid hr1
      have Hx := Lib.hid hx
      have Hy := Lib.hid hy
      have Hu := Lib.hid hu
      clear hr1 hx hy hu
      go_wp2
      have hr2 := heap_setCell_same wr g 0 _ _ (.int .u16 (x2 : Int)) Hr1.out
      have hr3 := heap_setCell_same _ g 1 _ _ (.int .u16 (y2 : Int)) hr2
      have hgs : w.heap.size ≤ g := by have := Hg.out; omega
      have htk : p.take (k + 1) = p.take k ++ [u] := by
        have hk2 : k < p.length := by have := Hn.out; omega
        rw [List.take_add_one, List.getElem?_eq_getElem hk2, Hu.out]; rfl
      have ex2 : x2 = Wk.a (p.take (k + 1)) % 65536 := by
        rw [htk, Wk.a_snoc]; have := Hx.out; rw [IntKind.wrap_u16] at hx2; omega
      have ey2 : y2 = Wk.b (p.take (k + 1)) % 65536 := by
        rw [htk, Wk.b_snoc, ← htk]; have := Hy.out; rw [IntKind.wrap_u16] at hy2; omega
      go_roundw
      case rel => exact ⟨k + 1, x2, y2, by omega, by go_num, ex2, ey2, hr3, (hE.setCell hgs _).setCell hgs _⟩
      case measure => simp [intOf]; omega
    · obtain rfl : k = n := by omega
      have hw := whole_any x y (by omega) (by omega) wr
      have Hx := Lib.hid hx
      have Hy := Lib.hid hy
      clear hx hy
      go_wp2_with (go_at_call 26; refine hw.mono ?_; clear hw; rintro e5 w5 ⟨rfl, hx5⟩)
      go_ret
      refine ⟨?_, Ext.tr hE hx5⟩
      have h1 := Hx.out
      have h2 := Hy.out
      rw [List.take_of_length_le (by have := Hn.out; omega)] at h1 h2
      unfold Wk.sum
      rw [← h1, ← h2]
      rfl
set_option maxRecDepth 100000 in
theorem ref_wsum (A : Option Addr) (p : List UInt8) (c : Nat) (w : World) (hA : RdB w A p) (hl : p.length ≤ 1000000) :
    Calls Try.prog 24 #[.slice A p.length c] w fun e w' => e = .returned (.int .u32 (Wk.sum p : Int)) ∧ w = w' := by
  obtain ⟨n, hn⟩ : ∃ n, n = p.length := ⟨_, rfl⟩
  rw [← hn]
  have Hn := Lib.hid hn
  have hl2 : n ≤ 1000000 := by omega
  have hnw : IntKind.u32.wrap (n : Int) = (n : Int) := by rw [IntKind.wrap_u32]; omega
  clear hn
  go_enter Try.func24, Try.ntmps24
  go_wp2
  go_loopw [3, 4, 6] (fun a b i wr => ∃ (k x y : Nat), k ≤ n ∧ i = .int .i64 k ∧ a = .int .u32 (x : Int) ∧ b = .int .u32 (y : Int) ∧ x = Wk.a (p.take k) % 65536 ∧ y = Wk.bp n (p.take k) % 65536 ∧ w = wr) (fun _ _ i _ => n - (intOf i).toNat)
  case atStart => exact ⟨0, 0, 0, by omega, rfl, rfl, rfl, by simp [Wk.a], by simp [Wk.bp], rfl⟩
  case round =>
    obtain ⟨k, x, y, hk, rfl, rfl, rfl, hx, hy, rfl⟩ := hrel
    by_cases h : k < n
    · obtain ⟨ad, rfl, hb⟩ := hA.at_ (k := k) (by have := Hn.out; omega)
      obtain ⟨u, hu⟩ : ∃ u, u = p[k]'(by have := Hn.out; omega) := ⟨_, rfl⟩
      rw [← hu] at hb
      have ik : (0 : Int) ≤ (k : Int) := by omega
      have ik2 : (k : Int) < (n : Int) := by omega
      have hut := u.toNat_lt
      have htk : p.take (k + 1) = p.take k ++ [u] := by
        have hk2 : k < p.length := by have := Hn.out; omega
        rw [List.take_add_one, List.getElem?_eq_getElem hk2, hu]; rfl
      have hkl : (p.take k).length = k := by rw [List.length_take]; have := Hn.out; omega
      obtain ⟨d, hd⟩ : ∃ d : Nat, d = (n - k) % 65536 := ⟨_, rfl⟩
      obtain ⟨du, hdu⟩ : ∃ du : Nat, du = d * u.toNat := ⟨_, rfl⟩
      have hdu2 : du ≤ 65535 * 255 := by rw [hdu]; exact Nat.mul_le_mul (by omega) (by omega)
      have q1 : IntKind.u32.wrap ((x : Int) + (u.toNat : Int)) = ((x + u.toNat : Nat) : Int) := by rw [IntKind.wrap_u32]; omega
      have q2 : IntKind.u32.wrap ((n : Int) - IntKind.u32.wrap (k : Int)) = ((n - k : Nat) : Int) := by rw [IntKind.wrap_u32, IntKind.wrap_u32]; omega
      have q2b : IntKind.u32.wrap ((n : Int) - (k : Int)) = ((n - k : Nat) : Int) := by rw [IntKind.wrap_u32]; omega
      have q3 : IntKind.u32.wrap ((d : Int) * (u.toNat : Int)) = (du : Int) := by
        rw [hdu, ← Int.natCast_mul, IntKind.wrap_u32, ← hdu]; omega
      have q4 : IntKind.u32.wrap ((y : Int) + (du : Int)) = ((y + du : Nat) : Int) := by rw [IntKind.wrap_u32]; omega
      have ex2 : (x + u.toNat) % 65536 = Wk.a (p.take (k + 1)) % 65536 := by rw [htk, Wk.a_snoc]; omega
      have ey2 : (y + du) % 65536 = Wk.bp n (p.take (k + 1)) % 65536 := by
        rw [htk, Wk.bp_snoc, hkl]
        have h1 : du % 65536 = ((n - k) * u.toNat) % 65536 := by rw [hdu, hd, Nat.mul_mod, Nat.mod_mod, ← Nat.mul_mod]
        omega
      have v1 : ((x : Int) + (u.toNat : Int)) % 4294967296 % 65536 = ((Wk.a (p.take (k + 1)) % 65536 : Nat) : Int) := by omega
      have v2 : ((y : Int) + ((n - k : Nat) : Int) % 65536 * (u.toNat : Int)) % 4294967296 % 65536 = ((Wk.bp n (p.take (k + 1)) % 65536 : Nat) : Int) := by
        rw [show ((n - k : Nat) : Int) % 65536 = (d : Int) by omega, ← Int.natCast_mul, ← hdu]
        omega
      have V1 := Lib.hid v1
      have V2 := Lib.hid v2
      clear hx hy hu hdu ex2 ey2 htk hkl hdu2 q1 q2 q3 q4 hd v1 v2
      go_wp2
      go_roundw
      case rel => exact ⟨k + 1, _, _, by omega, by go_num, val_int V1.out, val_int V2.out, rfl, rfl, trivial⟩
      case measure => simp [intOf]; omega
    · obtain rfl : k = n := by omega
      rw [List.take_of_length_le (by have := Hn.out; omega)] at hx hy
      have hx2 : x < 65536 := by omega
      have hy2 : y < 65536 := by omega
      have hs : x + 65536 * y = Wk.sum p := by unfold Wk.sum Wk.b; rw [hx, hy, Hn.out]
      have q5 : IntKind.u32.wrap (65536 * (y : Int)) = 65536 * (y : Int) := by rw [IntKind.wrap_u32]; omega
      have q6 : IntKind.u32.wrap ((x : Int) + 65536 * (y : Int)) = (x : Int) + 65536 * (y : Int) := by rw [IntKind.wrap_u32]; omega
      have Hs := Lib.hid hs
      clear hx hy hs
      go_wp2
      go_ret
      exact ⟨ret_int (by rw [← Hs.out]; omega), rfl⟩
end Go.Proofs.Ytnagbhaknmoilaa
