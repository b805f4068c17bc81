
/- Contracts of the library's slices.Clone, slices.Grow (of nil), slices.Concat at bytes. -/

import Derived.Test.YtgfanklhihciaaaProg

import Derived.Test.YtgfanklhihciaaaVintNum

import Derived.WalkSpells

namespace Go.Proofs.Ytgfanklhihciaaa

open Go.RowKit

theorem RdB.none_nil {w : World} {bs : List UInt8} (h : RdB w none bs) : bs = [] := by
  rcases bs with _ | ⟨b, l⟩
  · rfl
  · obtain ⟨ad, e, _⟩ := h.2 (by simp [bvs])
    cases e

set_option maxHeartbeats 400000 in
theorem clone_any (A : Option Addr) (bs : List UInt8) (cap : Nat) (w : World) (hA : RdB w A bs) (hl : bs.length ≤ 140737488355328) :
    Calls Try.prog 34 #[.slice A bs.length cap] w fun e w' => ∃ A' c', e = .returned (.slice A' bs.length c') ∧ Own w' w.heap.size 5 1 A' bs.length c' (bvs bs) ∧ Below w.heap.size w w' := by
  have hnil := fun (W : World) (a : Option Addr) (n c : Nat) => Lib.run_eql_slice_nil (P := Try.prog) W 30 5 a n c 0 0 Try.underlying30
  have hA1 := hA.below (((Below.refl w.heap.size w).alloc (Nat.le_refl _) (.cells #[] 5)))
  rcases A with _ | ad
  · obtain rfl := hA.none_nil
    go_enter Try.func34, Try.ntmps34
    go_wp2
    go_ret
    exact ⟨none, 0, rfl, Own.none_ _ _ _ _ _, Below.refl _ _⟩
  · go_enter Try.func34, Try.ntmps34
    go_wp2_with (at_builtin; refine wpList_app rfl (.tmp 5) (.tmp 6) 30 rfl elemB w.heap.size _ 0 0 [] rfl (some ad) bs.length cap (bvs bs) rfl bs.length (by omega) (bvs bs) rfl (Own.none_ _ _ _ _ _) hA1 (bvs_one _) (by omega) (by omega) (by simp) ?_; intro A1 c1 w1 ho1 hg1 hr1)
    go_ret
    exact ⟨A1, c1, rfl, ho1, below_app (((Below.refl w.heap.size w).alloc (Nat.le_refl _) (.cells #[] 5))) (Own.none_ _ _ 5 1 (some ⟨w.heap.size, 0, none⟩)) hg1 (by simp)⟩

theorem zeroCells_len (z : Array Value) (n : Nat) : (Builtin.zeroCells z n).size = n * z.size := size_zeroCells z n

theorem run_app_zeros {P : Program} (w : World) (t u ty e : TypeId) {bytes : Nat} (T : ElemT P t e 1 bytes) (hu : P.underlying u = some (.int .i64)) (n : Nat) (hn : 0 < n) (h63 : n ≤ 140737488355328) (hb : n * bytes ≤ 140737488355328) :
    ∃ c' cs, n ≤ c' ∧ c' ≤ maxLen ∧ cs.size = c' ∧ (Builtin.append_ #[t, u] ty #[.slice none 0 0, .int .i64 (n : Int)]).run P w = .ok (.slice (some ⟨w.heap.size, 0, none⟩) n c') (w.drew.alloc (.cells cs e)) := by
  obtain ⟨i, z, g1, g2, g3, g4, g5⟩ := T.hi
  have hge := grownCap_ge w n 0 e
  have hcm := grownCap_le_maxLen w n 0 e (by unfold maxLen; omega)
  refine ⟨grownCap w n 0 e, Builtin.zeroCells z.cells n ++ Builtin.zeroCells z.cells (grownCap w n 0 e - n), hge, hcm, ?_, ?_⟩
  · rw [Array.size_append, size_zeroCells, size_zeroCells, g5]; omega
  · have hw : IntKind.i64.wrap (n : Int) = n := by rw [IntKind.wrap_i64]; omega
    have h1 : ¬ ((n : Int) < 0) := by omega
    have h2 : ¬ (281474976710656 < (n : Int) * (i.bytes : Int)) := by
      rw [g4]
      have : ((n * bytes : Nat) : Int) ≤ 140737488355328 := by omega
      rw [Int.natCast_mul] at this
      omega
    have h3 : ¬ (9223372036854775807 < (n : Int)) := by omega
    have h4 : ¬ (281474976710656 < Builtin.nextslicecap n 0 * i.bytes) := by rw [nextslicecap_zero hn, g4]; omega
    have hne : n ≠ 0 := by omega
    have hs1 : ¬ (n * i.size = 0) := by rw [g3]; omega
    simp [Builtin.append_, run_underlying T.ht, run_underlying hu, sizeOf, typeInfo, zeroValue, g1, g2, g3, hw, asInt, asIntOf, h1, h2, h3, h4, hne, Question.forced, Builtin.firstCells, newRow, grownCap, Builtin.lenOf]

theorem wpList_app_zeros {P : Program} {w : World} {ops : Array Oper} {rest : List Oper} {o : Oper} {a : Act} {Q : Exit → Act → World → Prop} (hgd : Region.wanted o (yielded ops a.tmps) = true) (s x : Operand) (t u : TypeId)
    (ho : o.op = .call { callee := .builtin .append, args := #[s, x], argTypes := #[t, u] }) {e : TypeId} {bytes : Nat} (T : ElemT P t e 1 bytes) (hu : P.underlying u = some (.int .i64)) (n : Nat) (hs : a.eval s = .slice none 0 0) (hx : a.eval x = .int .i64 (n : Int))
    (hn : 0 < n) (h63 : n ≤ 140737488355328) (hb : n * bytes ≤ 140737488355328)
    (h : ∀ c' cs, n ≤ c' → c' ≤ maxLen → cs.size = c' → wpList P ops Q rest (a.put o.dst (.slice (some ⟨w.heap.size, 0, none⟩) n c')) (w.drew.alloc (.cells cs e))) : wpList P ops Q (o :: rest) a w := by
  refine wpList_want hgd fun K hK => ?_
  obtain ⟨c', cs, h1, h2, h3, hrun⟩ := run_app_zeros (P := P) w t u o.type e T hu n hn h63 hb
  unfold Oper.wp execOp
  simp only [ho, resolve, invoke, builtin, Sem.run_bind, Sem.run_pure, Result.andThen_ok, List.map_toArray, List.map_cons, List.map_nil, hs, hx, hrun]
  exact hK _ _ (h c' cs h1 h2 h3)

end Go.Proofs.Ytgfanklhihciaaa
