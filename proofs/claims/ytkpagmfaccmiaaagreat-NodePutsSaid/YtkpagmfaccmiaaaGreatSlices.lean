
/- Contracts of the library's slices.Clone, slices.Grow (of nil), slices.Concat at bytes. -/

import Derived.Test.YtkpagmfaccmiaaaGreatProg

import Derived.Test.YtkpagmfaccmiaaaGreatVintNum

import Derived.WalkSpells

namespace Go.Proofs.YtkpagmfaccmiaaaGreat

open Go.RowKit

theorem RdB.none_nil {w : World} {bs : List UInt8} (h : RdB w none bs) : bs = [] := by
  rcases bs with _ | ⟨b, l⟩
  · rfl
  · obtain ⟨ad, e, _⟩ := h.2 (by simp [bvs])
    cases e

set_option maxHeartbeats 400000 in
theorem clone_any (A : Option Addr) (bs : List UInt8) (cap : Nat) (w : World) (hA : RdB w A bs) (hl : bs.length ≤ 140737488355328) :
    Calls Tryz.prog 64 #[.slice A bs.length cap] w fun e w' => ∃ A' c', e = .returned (.slice A' bs.length c') ∧ Own w' w.heap.size 5 1 A' bs.length c' (bvs bs) ∧ Below w.heap.size w w' := by
  have hnil := fun (W : World) (a : Option Addr) (n c : Nat) => Lib.run_eql_slice_nil (P := Tryz.prog) W 25 5 a n c 0 0 Tryz.underlying25
  have hA1 := hA.below (((Below.refl w.heap.size w).alloc (Nat.le_refl _) (.cells #[] 5)))
  rcases A with _ | ad
  · obtain rfl := hA.none_nil
    go_enter Tryz.func64, Tryz.ntmps64
    go_wp2
    go_ret
    exact ⟨none, 0, rfl, Own.none_ _ _ _ _ _, Below.refl _ _⟩
  · go_enter Tryz.func64, Tryz.ntmps64
    go_wp2_with (at_builtin; refine wpList_app rfl (.tmp 5) (.tmp 6) 25 rfl elemB w.heap.size _ 0 0 [] rfl (some ad) bs.length cap (bvs bs) rfl bs.length (by omega) (bvs bs) rfl (Own.none_ _ _ _ _ _) hA1 (bvs_one _) (by omega) (by omega) (by simp) ?_; intro A1 c1 w1 ho1 hg1 hr1)
    go_ret
    exact ⟨A1, c1, rfl, ho1, below_app (((Below.refl w.heap.size w).alloc (Nat.le_refl _) (.cells #[] 5))) (Own.none_ _ _ 5 1 (some ⟨w.heap.size, 0, none⟩)) hg1 (by simp)⟩

theorem zeroCells_len (z : Array Value) (n : Nat) : (Builtin.zeroCells z n).size = n * z.size := size_zeroCells z n

theorem run_app_zeros {P : Program} (w : World) (t u ty e : TypeId) {bytes : Nat} (T : ElemT P t e 1 bytes) (hu : P.underlying u = some (.int .i64)) (n : Nat) (hn : 0 < n) (h63 : n ≤ 140737488355328) (hb : n * bytes ≤ 140737488355328) :
    ∃ c' cs, n ≤ c' ∧ c' ≤ maxLen ∧ cs.size = c' ∧ (Builtin.append_ #[t, u] ty #[.slice none 0 0, .int .i64 (n : Int)]).run P w = .ok (.slice (some ⟨w.heap.size, 0, none⟩) n c') (w.drew.alloc (.cells cs e)) := by
  obtain ⟨i, z, g1, g2, g3, g4, g5⟩ := T.hi
  have hge := grownCap_ge w n 0 e
  have hcm := grownCap_le_maxLen w n 0 e (by unfold maxLen; omega)
  refine ⟨grownCap w n 0 e, Builtin.zeroCells z.cells n ++ Builtin.zeroCells z.cells (grownCap w n 0 e - n), hge, hcm, ?_, ?_⟩
  · rw [Array.size_append, size_zeroCells, size_zeroCells, g5]; omega
  · have hw : IntKind.i64.wrap (n : Int) = n := by rw [IntKind.wrap_i64]; omega
    have h1 : ¬ ((n : Int) < 0) := by omega
    have h2 : ¬ (281474976710656 < (n : Int) * (i.bytes : Int)) := by
      rw [g4]
      have : ((n * bytes : Nat) : Int) ≤ 140737488355328 := by omega
      rw [Int.natCast_mul] at this
      omega
    have h3 : ¬ (9223372036854775807 < (n : Int)) := by omega
    have h4 : ¬ (281474976710656 < Builtin.nextslicecap n 0 * i.bytes) := by rw [nextslicecap_zero hn, g4]; omega
    have hne : n ≠ 0 := by omega
    have hs1 : ¬ (n * i.size = 0) := by rw [g3]; omega
    simp [Builtin.append_, run_underlying T.ht, run_underlying hu, sizeOf, typeInfo, zeroValue, g1, g2, g3, hw, asInt, asIntOf, h1, h2, h3, h4, hne, Question.forced, Builtin.firstCells, newRow, grownCap, Builtin.lenOf]

theorem wpList_app_zeros {P : Program} {w : World} {ops : Array Oper} {rest : List Oper} {o : Oper} {a : Act} {Q : Exit → Act → World → Prop} (hgd : Region.wanted o (yielded ops a.tmps) = true) (s x : Operand) (t u : TypeId)
    (ho : o.op = .call { callee := .builtin .append, args := #[s, x], argTypes := #[t, u] }) {e : TypeId} {bytes : Nat} (T : ElemT P t e 1 bytes) (hu : P.underlying u = some (.int .i64)) (n : Nat) (hs : a.eval s = .slice none 0 0) (hx : a.eval x = .int .i64 (n : Int))
    (hn : 0 < n) (h63 : n ≤ 140737488355328) (hb : n * bytes ≤ 140737488355328)
    (h : ∀ c' cs, n ≤ c' → c' ≤ maxLen → cs.size = c' → wpList P ops Q rest (a.put o.dst (.slice (some ⟨w.heap.size, 0, none⟩) n c')) (w.drew.alloc (.cells cs e))) : wpList P ops Q (o :: rest) a w := by
  refine wpList_want hgd fun K hK => ?_
  obtain ⟨c', cs, h1, h2, h3, hrun⟩ := run_app_zeros (P := P) w t u o.type e T hu n hn h63 hb
  unfold Oper.wp execOp
  simp only [ho, resolve, invoke, builtin, Sem.run_bind, Sem.run_pure, Result.andThen_ok, List.map_toArray, List.map_cons, List.map_nil, hs, hx, hrun]
  exact hK _ _ (h c' cs h1 h2 h3)

set_option maxHeartbeats 400000 in
/-- Room for n bytes, of nothing. -/
theorem grow_nil (n : Nat) (hn : n ≤ 140737488355328) (w : World) :
    Calls Tryz.prog 89 #[.slice none 0 0, .int .i64 (n : Int)] w fun e w' => ∃ A' c', e = .returned (.slice A' 0 c') ∧ Own w' w.heap.size 5 1 A' 0 c' [] ∧ Below w.heap.size w w' := by
  by_cases h0 : n = 0
  · subst h0
    go_enter Tryz.func89, Tryz.ntmps89
    go_wp2
    go_ret
    exact ⟨none, 0, rfl, Own.none_ _ _ _ _ _, Below.refl _ _⟩
  · have hp : 0 < n := by omega
    go_enter Tryz.func89, Tryz.ntmps89
    go_wp2_with (at_builtin; go_loud (refine wpList_app_zeros rfl (.tmp 20) (.tmp 21) 25 3 rfl elemB Tryz.underlying3 n rfl rfl hp hn (by omega) ?_); intro c1 cs1 hc1 hc2 hc3)
    go_ret
    subst hc3
    have := Own.new w.drew 5 1 cs1 0 cs1.size (Nat.zero_le _) hc2 (by omega)
    simp only [Nat.zero_mul, List.take_zero] at this
    exact ⟨_, _, rfl, this, ((Below.refl _ w).drew).alloc (Nat.le_refl _) _⟩

set_option maxHeartbeats 400000 in
theorem concat_any (A : Option Addr) (l : List Sl) (cap : Nat) (w : World) (hA : RdL w A l) (hl : l.length ≤ 1000000) (hc : (cat l).length ≤ 100000000000000) :
    Calls Tryz.prog 68 #[.slice A l.length cap] w fun e w' => ∃ A' c', e = .returned (.slice A' (cat l).length c') ∧ Own w' w.heap.size 5 1 A' (cat l).length c' (bvs (cat l)) ∧ Below w.heap.size w w' := by
  have Hc := Lib.hid hc
  clear hc
  go_enter Tryz.func68, Tryz.ntmps68
  go_wp2
  go_loop [3, 11] (fun s i => ∃ k : Nat, k ≤ l.length ∧ i = .int .i64 k ∧ s = .int .i64 ((cat (l.take k)).length : Nat)) (fun _ i => l.length - (intOf i).toNat)
  case atStart => exact ⟨0, by omega, rfl, rfl⟩
  case round =>
    obtain ⟨k, hk, rfl, rfl⟩ := hrel
    by_cases h : k < l.length
    · obtain ⟨ad, rfl, hcell, hrd⟩ := hA.at_ h
      have hle := one_le_cat l k h
      have hcc := Hc.out
      have hs : Hid ((cat (l.take (k + 1))).length = (cat (l.take k)).length + l[k].bs.length) := by
        show _ = _
        rw [cat_snoc l k h, List.length_append]
      generalize (cat (l.take k)).length = d at *
      have hd1 : d + l[k].bs.length ≤ 100000000000000 := by omega
      clear hle hcc
      go_wp2
      go_round
      case rel => exact ⟨k + 1, by omega, by go_num, val_int (by rw [hs.out]; omega)⟩
      case measure => simp [intOf]; omega
    · obtain rfl : k = l.length := by omega
      rw [List.take_length]
      have hcc := Hc.out
      go_wp2_with fail
      refine (grow_nil (cat l).length (by omega) w).mono ?_
      rintro e w1 ⟨A1, c1, rfl, ho1, hb1⟩
      clear hcc
      go_wp2_with fail
      go_loopw [6, 27] (fun v i wr => ∃ (k : Nat) (A' : Option Addr) (c' : Nat), k ≤ l.length ∧ i = .int .i64 k ∧ v = .slice A' (cat (l.take k)).length c' ∧ Own wr w.heap.size 5 1 A' (cat (l.take k)).length c' (bvs (cat (l.take k))) ∧ Below w.heap.size w wr) (fun _ i _ => l.length - (intOf i).toNat)
      case atStart => exact ⟨0, A1, c1, by omega, rfl, rfl, ho1, hb1⟩
      case round =>
        obtain ⟨k, A', c', hk, rfl, rfl, hown, hbw⟩ := hrel
        by_cases h : k < l.length
        · obtain ⟨ad, rfl, hcell, hrd⟩ := (hA.below hbw).at_ h
          have hle := one_le_cat l k h
          have hs := Lib.hid (cat_snoc l k h)
          have hcc := Hc.out
          have hbnd : (cat (l.take k)).length + l[k].bs.length ≤ 100000000000000 := by omega
          clear hle hcc
          generalize cat (l.take k) = d at *
          go_wp2_with (at_builtin; refine wpList_app rfl (.tmp 31) (.tmp 32) 25 rfl elemB w.heap.size A' d.length c' (bvs d) rfl l[k].a l[k].bs.length l[k].c (bvs l[k].bs) rfl (d ++ l[k].bs).length (by simp) (bvs (d ++ l[k].bs)) (bvs_app _ _) hown hrd (bvs_one _) (by simp; omega) (by simp; omega) hbw.size ?_; intro A2 c2 w2 ho2 hg2 hr2)
          go_roundw
          case rel => exact ⟨k + 1, A2, c2, by omega, by go_num, by rw [hs.out, List.length_append], by rw [hs.out]; exact ho2, below_app hbw hown hg2 hbw.size⟩
          case measure => simp [intOf]; omega
        · obtain rfl : k = l.length := by omega
          rw [List.take_length] at hown ⊢
          go_wp2
          go_ret
          exact ⟨A', c', rfl, hown, hbw⟩
end Go.Proofs.YtkpagmfaccmiaaaGreat
