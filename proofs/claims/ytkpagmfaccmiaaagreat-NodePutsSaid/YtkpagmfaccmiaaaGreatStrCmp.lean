
/- Whether two texts, told by their bytes, are the same: the operations == and != on them. -/

import Derived.Test.YtkpagmfaccmiaaaGreatEqual

import Derived.Test.YtkpagmfaccmiaaaGreatReg2

namespace Go.Proofs.YtkpagmfaccmiaaaGreat

open Go.RowKit

section

variable {P : Program} {o : Oper} {a : Act} {w : World} {x y : Operand} {t u : TypeId} {p q : List UInt8}

theorem ex_neqS (ho : o.op = .binOp .neq t x y u) (hx : a.eval x = .string ⟨p.toArray⟩) (hy : a.eval y = .string ⟨q.toArray⟩) : (execOp a.eval o).run P w = .ok (.value (.bool (!(p == q)))) w := by
  unfold execOp
  simp only [ho, hx, hy]
  go_simp
theorem ex_eqlS (ho : o.op = .binOp .eql t x y u) (hx : a.eval x = .string ⟨p.toArray⟩) (hy : a.eval y = .string ⟨q.toArray⟩) : (execOp a.eval o).run P w = .ok (.value (.bool (p == q))) w := by
  unfold execOp
  simp only [ho, hx, hy]
  go_simp
theorem ex_str {s d e : TypeId} {A : Option Addr} {bs : List UInt8} {n c : Nat} (ho : o.op = .convert s d x) (hx : a.eval x = .slice A n c) (hs : P.underlying s = some (.slice e)) (he : P.underlying e = some (.int .u8)) (hd : P.underlying d = some .string)
    (h : RdB w A bs) (hn : n = bs.length) : (execOp a.eval o).run P w = .ok (.value (.string ⟨bs.toArray⟩)) w := ex_convert ho hx (run_str w s d e A bs c hs he hd h n hn)
end

end Go.Proofs.YtkpagmfaccmiaaaGreat
