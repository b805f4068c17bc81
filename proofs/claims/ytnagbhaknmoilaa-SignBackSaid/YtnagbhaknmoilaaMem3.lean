
/- Copy of a few cells into a longer slice of a row. -/

import Derived.Test.YtnagbhaknmoilaaMem2

namespace Go.Proofs.Ytnagbhaknmoilaa

open Go.RowKit

section

variable {P : Program} {w : World} {ops : Array Oper} {o : Oper} {a : Act} {Q : Exit → Act → World → Prop}

theorem wp_copyL {K : Act → World → Prop} (d x : Operand) (t : TypeId) (ho : o.op = .call { callee := .builtin .copy, args := #[d, x], argTypes := #[t, t] })
    {e : TypeId} {bytes : Nat} (T : ElemT P t e 1 bytes) (g f dLen dCap : Nat) (m : Nat) (hd : a.eval d = .slice (some ⟨g, f, none⟩) dLen dCap) (A2 : Option Addr) (c2 : Nat) (ys : List Value) (hx : a.eval x = .slice A2 m c2)
    (hr : Rd w 1 A2 m ys) (hm : 0 < m) (hmd : m ≤ dLen) (cur : Array Value) (rt : TypeId) (hg : w.heap[g]? = some (.cells cur rt (0, 0))) (hfit : f + m ≤ cur.size) (h1 : ∀ u ∈ ys, u.oneCell' = true)
    (h : K (a.put o.dst (.int .i64 (m : Int))) (w.setRow g (cur.toList.take f ++ ys ++ cur.toList.drop (f + m)).toArray)) : o.wp P a w K Q := by
  have hl : ys.length = m := by have := hr.1; omega
  obtain ⟨ad, rfl, hcells⟩ := hr.2 (by rintro rfl; simp at hl; omega)
  have hrun := run_copy_row (P := P) w t t o.type e g f dLen dCap ad m c2 cur rt ys T.ht T.one hg (by rw [hl]; exact (Nat.min_eq_left hmd).symm) hcells (by rw [hl]; exact hfit) h1
  rw [hl] at hrun
  unfold Oper.wp execOp
  simp only [ho, resolve, invoke, builtin, Sem.run_bind, Sem.run_pure, Result.andThen_ok, List.map_toArray, List.map_cons, List.map_nil, hd, hx, hrun]
  exact h
end

end Go.Proofs.Ytnagbhaknmoilaa
