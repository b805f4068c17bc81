
/- Whether two block sums are the same. -/

import Derived.Test.YtnagbhaknmoilaaSgnLive

namespace Go.Proofs.Ytnagbhaknmoilaa

open Go.RowKit

theorem part_weak (s : Sg) (w : World) : (part 29 s.cells 0).run Try.prog w = .ok (.int .u32 (s.weak : Int)) w := by
  have hc : s.cells[0]? = some (.int .u32 (s.weak : Int)) := rfl
  unfold part
  go_simp
theorem part_strong {s : Sg} (h : s.Ok) (w : World) : (part 31 s.cells 1).run Try.prog w = .ok (.agg (bvs s.strong).toArray) w := by
  have hc : s.cells.extract 1 33 = (bvs s.strong).toArray := by
    apply Array.ext'
    simp [Sg.cells, Sg.cl]
    exact List.take_of_length_le (by rw [bvs_len, h.len]; exact Nat.le_refl _)
  have ha : (isAgg 31).run Try.prog w = .ok true w := by
    unfold isAgg
    rw [Sem.run_bind, run_underlying Try.underlying31 w]
    rfl
  have hi : (Try.prog.info? 31).map (·.size) = some 32 := by kernel_rfl
  have hz : (sizeOf 31).run Try.prog w = .ok 32 w := by
    cases hq : Try.prog.info? 31 with
    | none => rw [hq] at hi; cases hi
    | some i =>
      rw [hq] at hi
      have e : i.size = 32 := by simpa using hi
      simp [sizeOf, typeInfo, hq, e]
  unfold part
  simp only [Sem.run_bind, ha, Result.andThen_ok, if_true, hz, Sem.run_pure, hc]
theorem sig_fields : (Try.prog.fieldsOf 33).toList = [⟨"Weak", 29, 0, false, "", "", 0⟩, ⟨"Strong", 31, 1, false, "", "", 4⟩] := by kernel_rfl
theorem sig_under : Try.prog.underlying 33 = some (.struct (Try.prog.fieldsOf 33)) := by kernel_rfl
theorem sig_held : Try.prog.stoodInHeld 33 = false := by kernel_rfl
theorem eqFields_cons {P : Program} {w : World} {d : Nat} {xs ys : Array Value} {f : Field} {fs : List Field} {a b : Value} (hn : f.name ≠ "_") (ha : (part f.type xs f.offset).run P w = .ok a w) (hb : (part f.type ys f.offset).run P w = .ok b w)
    (hr : (Op.equalIn d f.type a b).run P w = .ok true w) : (Op.eqFields d xs ys (f :: fs)).run P w = (Op.eqFields d xs ys fs).run P w := by
  rw [Op.eqFields, if_pos hn]
  simp only [Sem.run_bind, ha, hb, Result.andThen_ok, hr, Bool.not_true, Bool.false_eq_true, if_false]
theorem eqFields_nil {P : Program} {w : World} {d : Nat} {xs ys : Array Value} : (Op.eqFields d xs ys []).run P w = .ok true w := rfl
theorem run_eqSigIn (d : Nat) (s : Sg) (h : s.Ok) (w : World) : (Op.equalIn (d + 2 + 1) 33 (.agg s.cells) (.agg s.cells)).run Try.prog w = .ok true w := by
  have h1 := part_weak s w
  have h2 := part_strong h w
  have h3 := run_eqArr s.strong s.strong w d 31 Try.underlying31 h.len h.len
  have h0 : (Op.equalIn (d + 2) 29 (.int .u32 (s.weak : Int)) (.int .u32 (s.weak : Int))).run Try.prog w = .ok ((s.weak : Int) == (s.weak : Int)) w := run_equalIn_int w (d + 1) 29 .u32 .u32 _ _ Try.underlying29
  have e := run_equalIn_agg w (d + 2) 33 s.cells s.cells sig_under sig_held
  rw [beq_self_eq_true] at h0 h3
  rw [sig_fields] at e
  refine e.trans ((eqFields_cons (by decide) h1 h1 h0).trans ((eqFields_cons (by decide) h2 h2 h3).trans eqFields_nil))
theorem run_eqSig (s : Sg) (h : s.Ok) (w : World) : (binOp .neq 33 (.agg s.cells) (.agg s.cells)).run Try.prog w = .ok (.bool false) w := by
  rw [run_neq_struct, show (10000 : Nat) = 9997 + 2 + 1 from rfl, run_eqSigIn 9997 s h w]
  rfl
theorem guardSig (w : World) (x y : Operand) (a b : Array Value) : (eqGuard .neq 33 x y (.agg a) (.agg b)).run Try.prog w = .ok () w := by
  exact run_eqGuard_agg w .neq 33 x y a b (by kernel_rfl)
end Go.Proofs.Ytnagbhaknmoilaa
