
/- Contract: slices.BinarySearchFunc at entries. -/

import Derived.Test.YtdekdblebflklaaOpCmp

namespace Go.Proofs.Ytdekdblebflklaa

open Go.RowKit

attribute [local go_sem] Oper.semAt_some

/-! ### slices.BinarySearchFunc -/

def EnV.key (e : EnV) : List UInt8 := e.x.key
def OpV.key (e : OpV) : List UInt8 := e.x.key
def thereK {α : Type} (key : α → List UInt8) (k : List UInt8) (l : List α) : Bool := (l[posK key k l]?).map key == some k
theorem cmp_neg (a b : List UInt8) : decide (Lib.compareBytes a b < 0) = ltB a b := by
  rw [Bool.eq_iff_iff, decide_eq_true_iff]; exact compare_lt a b
theorem UpK.below_ {α : Type} {key : α → List UInt8} {l : List α} (h : UpK key l) {k : List UInt8} {i : Nat} (hi : i < l.length) (hk : ltB (key l[i]) k = true) : ∀ q (hq : q < l.length), q ≤ i → ltB (key l[q]) k = true := by
  intro q hq hqi
  rcases Nat.lt_or_ge q i with h1 | h1
  · exact ltB_trans ((List.pairwise_iff_getElem.1 h) q i hq hi h1) hk
  · obtain rfl : q = i := by omega
    exact hk
theorem UpK.above_ {α : Type} {key : α → List UInt8} {l : List α} (h : UpK key l) {k : List UInt8} {i : Nat} (hi : i < l.length) (hk : ltB (key l[i]) k = false) : ∀ q (hq : q < l.length), i ≤ q → ltB (key l[q]) k = false := by
  intro q hq hqi
  cases h2 : ltB (key l[q]) k with
  | false => rfl
  | true => rw [h.below_ hq h2 i hi hqi] at hk; cases hk
theorem half_val (i j : Nat) (h : i + j < 1000000000) : IntKind.u64.wrap ((i : Int) + (j : Int)) = ((i + j : Nat) : Int) := by
  rw [IntKind.wrap_u64]; omega
set_option maxRecDepth 100000 in
set_option maxHeartbeats 1000000 in
theorem bsearchE_any (A : Option Addr) (l : List EnV) (c : Nat) (K : Option Addr) (k : List UInt8) (kc : Nat) (w : World) (hA : RdE w A l) (hK : RdB w K k) (hu : UpK EnV.key l) (hl : l.length ≤ 1000000) :
    Calls Try.prog 34 #[.slice A l.length c, .slice K k.length kc, .func (.func 35) #[] #[]] w fun x w' =>
      x = .returned (.tuple #[.int .i64 (posK EnV.key k l : Nat), .bool (thereK EnV.key k l)]) ∧ Below w.heap.size w w' := by
  have Hu := Lib.hid hu
  clear hu
  go_enter Try.func34, Try.ntmps34
  go_wp2
  go_loopw [9, 10] (fun a b wr => ∃ i j : Nat, i ≤ j ∧ j ≤ l.length ∧ a = .int .i64 i ∧ b = .int .i64 j ∧ Hid (∀ q (h : q < l.length), q < i → ltB (EnV.key l[q]) k = true) ∧ Hid (∀ q (h : q < l.length), j ≤ q → ltB (EnV.key l[q]) k = false) ∧ Below w.heap.size w wr) (fun a b _ => (intOf b).toNat - (intOf a).toNat)
  case atStart => exact ⟨0, l.length, by omega, by omega, rfl, rfl, fun q _ h => by omega, fun q h h2 => by omega, Below.refl _ _⟩
  case round =>
    obtain ⟨i, j, hij, hj, rfl, rfl, hlo, hhi, hbel⟩ := hrel
    by_cases h : i < j
    · obtain ⟨m, hm, him, hmj⟩ : ∃ m : Nat, ((i : Int) + (j : Int)) / 2 = (m : Int) ∧ i ≤ m ∧ m < j := ⟨(i + j) / 2, by omega, by omega, by omega⟩
      have hml : m < l.length := by omega
      obtain ⟨ad, rfl, hcell, hin⟩ := (hA.below hbel).at_ hml
      have Hcx := Lib.hid (show ∀ q u, (l[m].cells)[q]? = some u → wr.cell? ((ad.add (m * 2)).add q) = some u from fun q u hq => by rw [add_add']; exact hcell q u hq)
      have Hin := Lib.hid hin
      have hKr := hK.below hbel
      clear hcell hin
      cases hlt : ltB (EnV.key l[m]) k with
      | true =>
        have Hlt := Lib.hid hlt
        have hcm : Lib.compareBytes l[m].x.key k < 0 := (compare_lt _ _).2 hlt
        clear hlt
        go_wp2_with (first | (have hcx := Hcx.out; refine wpList_load_cells rfl 48 (.tmp 27) rfl _ rfl l[m].cells _ hcx Try.underlying48 rfl (einfo _) ?_; clear hcx) | (go_at_call 35; refine (cmpE_any l[m] K k kc _ Hin.out hKr).mono ?_; rintro e1 w2 ⟨rfl, hb2⟩))
        go_roundw
        case rel =>
          have hq := (Hu.out).below_ hml Hlt.out
          refine ⟨m + 1, j, by omega, by omega, by go_num, rfl, fun q h1 h2 => hq q h1 (by omega), hhi, hbel.trans (hb2.mono hbel.size)⟩
        case measure => simp [intOf]; omega
      | false =>
        have Hlt := Lib.hid hlt
        have hcm : ¬ Lib.compareBytes l[m].x.key k < 0 := fun h => by have h5 := (compare_lt _ _).1 h; unfold EnV.key at hlt; rw [h5] at hlt; cases hlt
        clear hlt
        go_wp2_with (first | (have hcx := Hcx.out; refine wpList_load_cells rfl 48 (.tmp 27) rfl _ rfl l[m].cells _ hcx Try.underlying48 rfl (einfo _) ?_; clear hcx) | (go_at_call 35; refine (cmpE_any l[m] K k kc _ Hin.out hKr).mono ?_; rintro e1 w2 ⟨rfl, hb2⟩))
        go_roundw
        case rel =>
          have hq := (Hu.out).above_ hml Hlt.out
          refine ⟨i, m, by omega, by omega, rfl, rfl, hlo, fun q h1 h2 => hq q h1 (by omega), hbel.trans (hb2.mono hbel.size)⟩
        case measure => simp [intOf]; omega
    · obtain rfl : i = j := by omega
      have hpos : posK EnV.key k l = i := posK_eq hj (fun q h1 h2 => hlo.out q h1 h2) (fun h => hhi.out i h (Nat.le_refl _))
      have Hpos := Lib.hid hpos
      clear hpos
      by_cases hil : i < l.length
      · obtain ⟨ad, rfl, hcell, hin⟩ := (hA.below hbel).at_ hil
        have Hcx := Lib.hid (show ∀ q u, (l[i].cells)[q]? = some u → wr.cell? ((ad.add (i * 2)).add q) = some u from fun q u hq => by rw [add_add']; exact hcell q u hq)
        have Hin := Lib.hid hin
        have hKr := hK.below hbel
        clear hcell hin
        have hth : Hid (thereK EnV.key k l = (Lib.compareBytes l[i].x.key k == 0)) := by
          show _ = _
          unfold thereK
          rw [Hpos.out, List.getElem?_eq_getElem hil, Bool.eq_iff_iff, beq_iff_eq, beq_iff_eq, compare_zero]
          simp [EnV.key]
        go_wp2_with (first | (have hcx := Hcx.out; refine wpList_load_cells (by rfl) 48 (.tmp 43) rfl _ rfl l[i].cells _ hcx Try.underlying48 rfl (einfo _) ?_; clear hcx) | (go_at_call 35; refine (cmpE_any l[i] K k kc _ Hin.out hKr).mono ?_; rintro e1 w2 ⟨rfl, hb2⟩))
        go_ret2
        exact ⟨by rw [Hpos.out, hth.out]; rfl, hbel.trans (hb2.mono hbel.size)⟩
      · have hth : Hid (thereK EnV.key k l = false) := by
          show _ = _
          unfold thereK
          rw [Hpos.out, List.getElem?_eq_none (by omega)]
          rfl
        go_wp2
        go_ret2
        exact ⟨by rw [Hpos.out, hth.out]; rfl, hbel⟩
end Go.Proofs.Ytdekdblebflklaa
