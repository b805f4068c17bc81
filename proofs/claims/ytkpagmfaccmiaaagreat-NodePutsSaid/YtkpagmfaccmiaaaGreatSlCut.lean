
/- A part of a slice, its index no literal: the operation told in one equation (with a named address). -/

import Derived.Test.YtkpagmfaccmiaaaGreatMem

namespace Go.Proofs.YtkpagmfaccmiaaaGreat

open Go.RowKit

section

variable {P : Program} {w : World} {ops : Array Oper} {rest : List Oper} {o : Oper} {act : Act} {Q : Exit → Act → World → Prop}

theorem ex_sliceL (x lo : Operand) (t : TypeId) (ho : o.op = .slice t x (some lo) none none) {e : TypeId} {s bytes : Nat} (T : ElemT P t e s bytes) (A : Option Addr) (n c : Nat) (hx : act.eval x = .slice A n c) (k : Nat) (hlo : act.eval lo = .int .i64 (k : Int)) (hk : k ≤ n)
    (A2 : Option Addr) (hA : A2 = if c = k then A else A.map (·.add (k * s))) (m d : Nat) (hm : m = n - k) (hd : d = c - k) :
    (execOp act.eval o).run P w = .ok (.value (.slice A2 m d)) w := by
  subst hA hm hd
  obtain ⟨i, z, g1, g2, g3, g4, g5⟩ := T.hi
  have hs : Instr.sliceAt t (act.eval x) (some (act.eval lo)) none none = Instr.sliceAt t (.slice A n c) (some (.int .i64 (k : Int))) none none := by rw [hx, hlo]
  unfold execOp
  simp only [ho, Option.map_some, Option.map_none, hs]
  have h1 : (Instr.sliceAt t (.slice A n c) (some (.int .i64 (k : Int))) none none).run P w = .ok (.slice (if c = k then A else A.map (·.add (k * s))) (n - k) (c - k)) w := by
    have h0 : (Instr.sliceAt t (.slice A n c) (some (.int .i64 (k : Int))) none none).run P w = (Instr.slice t (.slice A n c) (some (.int .i64 (k : Int))) none none).run P w := by
      simp [Instr.sliceAt, run_underlying T.ht]
    rw [h0]
    simp [Instr.slice, run_underlying T.ht, Instr.sliceBounds, run_sliceBound, hk, sizeOf, typeInfo, g1, g3]
  simp [h1, Result.andThen]
theorem ex_sliceH (x hi : Operand) (t : TypeId) (ho : o.op = .slice t x none (some hi) none) {e : TypeId} {s bytes : Nat} (T : ElemT P t e s bytes) (A : Option Addr) (n c : Nat) (hx : act.eval x = .slice A n c) (k : Nat) (hlo : act.eval hi = .int .i64 (k : Int)) (hk : k ≤ c) :
    (execOp act.eval o).run P w = .ok (.value (.slice A k c)) w := by
  obtain ⟨i, z, g1, g2, g3, g4, g5⟩ := T.hi
  have hs : Instr.sliceAt t (act.eval x) none (some (act.eval hi)) none = Instr.sliceAt t (.slice A n c) none (some (.int .i64 (k : Int))) none := by rw [hx, hlo]
  unfold execOp
  simp only [ho, Option.map_some, Option.map_none, hs]
  have h1 : (Instr.sliceAt t (.slice A n c) none (some (.int .i64 (k : Int))) none).run P w = .ok (.slice A k c) w := by
    have h0 : (Instr.sliceAt t (.slice A n c) none (some (.int .i64 (k : Int))) none).run P w = (Instr.slice t (.slice A n c) none (some (.int .i64 (k : Int))) none).run P w := by
      simp [Instr.sliceAt, run_underlying T.ht]
    rw [h0]
    simp [Instr.slice, run_underlying T.ht, Instr.sliceBounds, run_sliceBound, hk, sizeOf, typeInfo, g1]
    cases A <;> simp [Addr.add]
  simp [h1, Result.andThen]
theorem wpList_sliceL (hgd : Region.wanted o (yielded ops act.tmps) = true) (x lo : Operand) (t : TypeId) (ho : o.op = .slice t x (some lo) none none) {e : TypeId} {s bytes : Nat} (T : ElemT P t e s bytes) (A : Option Addr) (n c : Nat) (hx : act.eval x = .slice A n c) (k : Nat) (hlo : act.eval lo = .int .i64 (k : Int)) (hk : k ≤ n)
    (A2 : Option Addr) (hA : A2 = if c = k then A else A.map (·.add (k * s))) (m d : Nat) (hm : m = n - k) (hd : d = c - k) (h : wpList P ops Q rest (act.put o.dst (.slice A2 m d)) w) : wpList P ops Q (o :: rest) act w :=
  wpList_want hgd fun K hK => by
    unfold Oper.wp
    rw [ex_sliceL x lo t ho T A n c hx k hlo hk A2 hA m d hm hd]
    exact hK _ _ h
theorem wpList_sliceH (hgd : Region.wanted o (yielded ops act.tmps) = true) (x hi : Operand) (t : TypeId) (ho : o.op = .slice t x none (some hi) none) {e : TypeId} {s bytes : Nat} (T : ElemT P t e s bytes) (A : Option Addr) (n c : Nat) (hx : act.eval x = .slice A n c) (k : Nat) (hlo : act.eval hi = .int .i64 (k : Int)) (hk : k ≤ c)
    (h : wpList P ops Q rest (act.put o.dst (.slice A k c)) w) : wpList P ops Q (o :: rest) act w :=
  wpList_want hgd fun K hK => by
    unfold Oper.wp
    rw [ex_sliceH x hi t ho T A n c hx k hlo hk]
    exact hK _ _ h
end

end Go.Proofs.YtkpagmfaccmiaaaGreat
