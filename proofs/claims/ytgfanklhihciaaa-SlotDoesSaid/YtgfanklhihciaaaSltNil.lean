
/- Contracts: slot.Body's methods at a nil body; the laws' num, small (scowlaw06). -/

import Derived.Test.YtgfanklhihciaaaSltProg

import Derived.Test.YtgfanklhihciaaaDeed

namespace Go.Proofs.Ytgfanklhihciaaa

open Go.RowKit

attribute [local go_sem] Oper.semAt_some

theorem DeV.kindAt {w : World} {e : DeV} {ad : Addr} {k : Nat} (hy : ∀ j u, e.cells[j]? = some u → w.cell? ((ad.add (k * 3)).add j) = some u) : w.cell? (ad.add (k * 3)) = some (.int .i64 e.x.kind) := hy 0 _ rfl
theorem DeV.iAt {w : World} {e : DeV} {ad : Addr} {k : Nat} (hy : ∀ j u, e.cells[j]? = some u → w.cell? ((ad.add (k * 3)).add j) = some u) : w.cell? ⟨(ad.add (k * 3)).block, (ad.add (k * 3)).off + 1, none⟩ = some (.int .i64 e.x.i) := hy 1 _ rfl
theorem DeV.pAt {w : World} {e : DeV} {ad : Addr} {k : Nat} (hy : ∀ j u, e.cells[j]? = some u → w.cell? ((ad.add (k * 3)).add j) = some u) : w.cell? ⟨(ad.add (k * 3)).block, (ad.add (k * 3)).off + 2, none⟩ = some (.slice e.pa e.x.p.length e.pc) := hy 2 _ rfl
theorem pack_nil (w : World) : Calls Try.prog 16 #[.pointer none] w fun e w' => e = .returned (.tuple #[]) ∧ w = w' := by
  go_enter Try.func16, Try.ntmps16
  go_wp2
  refine bodyPost_ret (results_none rfl _ _ _) rfl ?_
  exact ⟨rfl, rfl⟩
theorem sbytes_nil (w : World) : Calls Try.prog 22 #[.pointer none] w fun e w' => e = .returned (.slice none 0 0) ∧ w = w' := by
  go_enter Try.func22, Try.ntmps22
  go_wp2
  go_ret
  exact ⟨rfl, rfl⟩
theorem cell_nil (i : Int) (w : World) : Calls Try.prog 20 #[.pointer none, .int .i64 i] w fun e w' => e = .returned (.slice none 0 0) ∧ w = w' := by
  have hL := blen_nil w
  by_cases h0 : i < 0
  · go_enter Try.func20, Try.ntmps20
    go_wp2
    go_ret
    exact ⟨rfl, rfl⟩
  · have hi : (0 : Int) ≤ i := by omega
    go_enter Try.func20, Try.ntmps20
    go_wp2_with (go_at_call 18; refine hL.mono ?_; rintro e1 w1 ⟨rfl, rfl⟩)
    go_ret
    exact ⟨rfl, rfl⟩
theorem delete_nil (i : Int) (w : World) : Calls Try.prog 15 #[.pointer none, .int .i64 i] w fun e w' => e = .returned (.int .i64 7) ∧ w = w' := by
  have hL := blen_nil w
  by_cases h0 : i < 0
  · go_enter Try.func15, Try.ntmps15
    go_wp2_with (go_at_call 18; refine hL.mono ?_; rintro e1 w1 ⟨rfl, rfl⟩)
    go_ret
    exact ⟨rfl, rfl⟩
  · have hi : (0 : Int) ≤ i := by omega
    go_enter Try.func15, Try.ntmps15
    go_wp2_with (go_at_call 18; refine hL.mono ?_; rintro e1 w1 ⟨rfl, rfl⟩)
    go_ret
    exact ⟨rfl, rfl⟩
theorem insert_nil (i : Int) (c : Value) (w : World) : Calls Try.prog 14 #[.pointer none, .int .i64 i, c] w fun e w' => e = .returned (.int .i64 7) ∧ w = w' := by
  have hL := blen_nil w
  go_enter Try.func14, Try.ntmps14
  go_wp2_with (go_at_call 18; refine hL.mono ?_; rintro e1 w1 ⟨rfl, rfl⟩)
  go_ret
  exact ⟨rfl, rfl⟩
theorem num06 (v : Int) (w : World) : Calls Try.prog 13 #[.int .i64 v] w fun e w' => e = .returned (.int .i64 v) ∧ w = w' := by
  go_enter Try.func13, Try.ntmps13
  go_wp2
  go_ret
  exact ⟨rfl, rfl⟩
def SmallD (l : List DeV) : Prop := l.length ≤ 120 ∧ ∀ e ∈ l, e.x.p.length ≤ 2000
def BoolP (Q : Prop) (w : World) (e : Ending) (w' : World) : Prop := ∃ b : Bool, e = .returned (.bool b) ∧ (b = true → Q) ∧ w = w'
set_option maxRecDepth 100000 in
theorem small06 (A : Option Addr) (l : List DeV) (c : Nat) (w : World) (hl : RdD w A l) (_hc : l.length ≤ c) :
    Calls Try.prog 7 #[.slice A l.length c] w (BoolP (SmallD l) w) := by
  go_enter Try.func7, Try.ntmps7
  go_wp2
  go_loopw [3] (fun i wr => ∃ k : Nat, k ≤ l.length ∧ k ≤ 121 ∧ i = .int .i64 k ∧ (∀ j (h : j < l.length), j < k → l[j].x.p.length ≤ 2000) ∧ w = wr) (fun i _ => l.length - (intOf i).toNat)
  case atStart => exact ⟨0, by omega, by omega, rfl, fun j _ h => absurd h (by omega), rfl⟩
  case round =>
    obtain ⟨k, hk, hk1, rfl, hso, rfl⟩ := hrel
    have Hso := Lib.hid hso
    clear hso
    by_cases h : k < l.length
    · by_cases h60 : k ≤ 120
      · obtain ⟨ad, rfl, hy, hyi⟩ := hl.at_ h
        have y2 := DeV.pAt hy
        have ik : (0 : Int) ≤ (k : Int) := by omega
        have ik2 : (k : Int) < (l.length : Int) := by omega
        have ik3 : (k : Int) ≤ 120 := by omega
        obtain ⟨y, hyl⟩ : ∃ y, l[k] = y := ⟨_, rfl⟩
        rw [hyl] at y2
        have Hyl := Lib.hid hyl
        clear hyl hy hyi
        by_cases a1 : 2000 < y.x.p.length
        · have a1i : (2000 : Int) < (y.x.p.length : Int) := by omega
          go_wp2_with fail
          go_ret
          exact ⟨false, rfl, (fun h => by cases h), rfl⟩
        · have a1i : ¬ (2000 : Int) < (y.x.p.length : Int) := by omega
          have kw : IntKind.i64.wrap ((k : Int) + 1) = ((k + 1 : Nat) : Int) := by rw [IntKind.wrap_i64]; omega
          go_wp2_with fail
          go_roundw
          case rel => exact ⟨k + 1, by omega, by omega, by go_num, fun j hj h2 => by
            rcases Nat.lt_or_ge j k with h3 | h3
            · exact Hso.out j hj h3
            · have : j = k := by omega
              subst this; rw [Hyl.out]; omega, trivial⟩
          case measure => simp [intOf]; omega
      · have ik3 : ¬ (k : Int) ≤ 120 := by omega
        have ik2 : (k : Int) < (l.length : Int) := by omega
        have ll : ¬ (l.length : Int) ≤ 120 := by omega
        have lb : decide ((l.length : Int) ≤ 120) = false := by simp; omega
        go_wp2_with fail
        go_ret
        exact ⟨false, rfl, (fun h => by cases h), rfl⟩
    · have hke : k = l.length := by omega
      subst hke
      have hll : (l.length : Int) ≤ 120 ∨ ¬ (l.length : Int) ≤ 120 := by omega
      rcases hll with hll | hll
      · go_wp2_with fail
        go_ret
        exact ⟨true, rfl, (fun _ => ⟨by omega, fun e he => by
          obtain ⟨j, hj, rfl⟩ := List.getElem_of_mem he
          exact Hso.out j hj hj⟩), rfl⟩
      · go_wp2_with fail
        go_ret
        exact ⟨false, rfl, (fun h => by cases h), rfl⟩
end Go.Proofs.Ytgfanklhihciaaa
