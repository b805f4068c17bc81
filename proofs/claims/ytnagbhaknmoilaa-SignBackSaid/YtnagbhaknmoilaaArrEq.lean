
/- Whether two arrays of 32 bytes are the same. -/

import Derived.Test.YtnagbhaknmoilaaMem

import Derived.Test.YtnagbhaknmoilaaProg

import Derived.Laws.StructEq

namespace Go.Proofs.Ytnagbhaknmoilaa

open Go.RowKit

theorem bvs_getA (l : List UInt8) (k : Nat) (h : k < l.length) : (bvs l).toArray[k]? = some (.int .u8 ((l.getD k 0).toNat : Int)) := by
  rw [List.getElem?_toArray, bvs_get l k h]
  simp [bv, List.getElem?_eq_getElem h]
section

variable (x y : List UInt8) (w : World)

theorem run_part (x : List UInt8) (i : Nat) (h : i < x.length) (w : World) : (part 5 (bvs x).toArray (i * 1)).run Try.prog w = .ok (.int .u8 ((x.getD i 0).toNat : Int)) w := by
  have hc := bvs_getA x i h
  rw [Nat.mul_one]
  unfold part
  go_simp
theorem run_eqb (d : Nat) (a b : UInt8) (w : World) : (Op.equalIn (d + 1) 5 (.int .u8 (a.toNat : Int)) (.int .u8 (b.toNat : Int))).run Try.prog w = .ok (a == b) w := by
  rw [run_equalIn_int w d 5 .u8 .u8 _ _ Try.underlying5]
  congr 1
  rw [Bool.eq_iff_iff, beq_iff_eq, beq_iff_eq, Int.natCast_inj, UInt8.toNat_inj]
theorem run_eqArr (d : Nat) (t : TypeId) (ht : Try.prog.underlying t = some (.array 32 5)) (hx : x.length = 32) (hy : y.length = 32) :
    (Op.equalIn (d + 2) t (.agg (bvs x).toArray) (.agg (bvs y).toArray)).run Try.prog w = .ok (x == y) w := by
  have hsz : ∀ w', (sizeOf 5).run Try.prog w' = .ok 1 w' := fun w' => by go_simp
  have hall : (x == y) = (List.range' 0 32).all fun i => x.getD i 0 == y.getD i 0 := by
    rw [Bool.eq_iff_iff, beq_iff_eq, List.all_eq_true]
    constructor
    · rintro rfl i _
      simp
    · intro h
      apply List.ext_getElem (by omega)
      intro i h1 h2
      have h3 := h i (by simp [List.mem_range']; omega)
      simpa [List.getElem?_eq_getElem h1, List.getElem?_eq_getElem h2] using h3
  rw [hall]
  unfold Op.equalIn
  simp only [Sem.run_bind, run_underlying ht, Result.andThen_ok, hsz]
  simp only [Std.Legacy.Range.forIn_eq_forIn_range', Std.Legacy.Range.size, Nat.sub_zero, Nat.add_sub_cancel, Nat.div_one]
  have hm : ∀ i ∈ List.range' 0 32, i < 32 := by intro i hi; simp [List.mem_range'] at hi; omega
  generalize List.range' 0 32 = L at hm
  clear hall
  induction L with
  | nil => simp
  | cons i L ih =>
    have hi := hm i (List.mem_cons_self ..)
    have h1 := run_part x i (by omega) w
    have h2 := run_part y i (by omega) w
    have h3 := run_eqb d (x.getD i 0) (y.getD i 0) w
    have h4 := ih (fun j hj => hm j (List.mem_cons_of_mem _ hj))
    simp only [List.forIn_cons, Sem.run_bind, h1, h2, h3, Result.andThen_ok, List.all_cons]
    cases hb : (x.getD i 0 == y.getD i 0) with
    | false => simp
    | true =>
      simp only [Bool.not_true, Bool.false_eq_true, if_false, Sem.run_pure, Result.andThen_ok, Bool.true_and]
      exact h4
theorem run_eqSum (hx : x.length = 32) (hy : y.length = 32) : (binOp .eql 31 (.agg (bvs x).toArray) (.agg (bvs y).toArray)).run Try.prog w = .ok (.bool (x == y)) w := by
  rw [run_eql_struct, show (10000 : Nat) = 9998 + 2 from rfl, run_eqArr x y w 9998 _ Try.underlying31 hx hy]
  rfl
end

end Go.Proofs.Ytnagbhaknmoilaa
