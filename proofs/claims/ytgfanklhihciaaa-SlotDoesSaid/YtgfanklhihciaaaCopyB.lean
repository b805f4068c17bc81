
/- copy of bytes into a row of bytes, of any length, also where both lie in the same row: one equation. -/

import Derived.Test.YtgfanklhihciaaaSlIns

import Derived.Test.YtgfanklhihciaaaSltBytes

namespace Go.Proofs.Ytgfanklhihciaaa

open Go.RowKit

section

variable {P : Program} {w : World} {ops : Array Oper} {rest : List Oper} {o : Oper} {act : Act} {Q : Exit → Act → World → Prop}

theorem run_copyB (t ty : TypeId) {e : TypeId} {bytes : Nat} (T : ElemT P t e 1 bytes) (g f dLen dCap : Nat) (A1 A2 : Option Addr) (c2 : Nat) (b p : List UInt8) (rt : TypeId) (hA : p = [] ∨ A1 = some ⟨g, f, none⟩) (hl : p.length ≤ dLen)
    (hg : w.heap[g]? = some (.cells (bvs b).toArray rt (0, 0))) (hf : f + p.length ≤ b.length) (hr : RdB w A2 p) :
    ∃ w', (Builtin.copy_ #[t, t] ty #[.slice A1 dLen dCap, .slice A2 p.length c2]).run P w = .ok (.int .i64 (p.length : Int)) w' ∧ w'.heap[g]? = some (.cells (bvs (ovw b f p)).toArray rt (0, 0)) ∧ w.grownBy w' (some g) := by
  obtain ⟨i, z, g1, g2, g3, g4, g5⟩ := T.hi
  by_cases hp : p = []
  · subst hp
    refine ⟨w, ?_, by rw [ovw_nil]; exact hg, ⟨rfl, rfl, rfl, Nat.le_refl _, fun _ _ _ => rfl⟩⟩
    rcases A1 with _ | a <;> rcases A2 with _ | a2 <;>
      simp [Builtin.copy_, run_underlying T.ht, Builtin.lenOf, sizeOf, typeInfo, g1, Builtin.firstCells, storeCells, loadCells, loadCellsFrom, goInt]
  · obtain rfl := hA.resolve_left hp
    have hb : bvs b = bvs (b.take f) ++ (bvs ((b.drop f).take p.length) ++ bvs (b.drop (f + p.length))) := by
      rw [← bvs_app, ← bvs_app]
      congr 1
      conv => lhs; rw [← List.take_append_drop f b, ← List.take_append_drop p.length (b.drop f), List.drop_drop]
    rw [hb] at hg
    have hm : p.length = Nat.min p.length dLen := (Nat.min_eq_left hl).symm
    have hrun := run_copyS (P := P) w t t ty e 1 g f dLen dCap A2 p.length c2 p.length (bvs (b.take f)) (bvs ((b.drop f).take p.length)) (bvs (b.drop (f + p.length))) (bvs p) rt T.ht (by rw [g1]; simp [g3]) (by omega) hg
      (by rw [bvs_len, List.length_take]; omega) (by rw [bvs_len, bvs_len, List.length_take, List.length_drop]; omega) hm (List.length_pos_iff.2 hp) hr (bvs_one _)
    refine ⟨_, hrun, ?_, ⟨rfl, rfl, rfl, by simp, fun k _ hn => setRow_other _ _ _ _ (fun e => hn (by rw [e]))⟩⟩
    rw [setRow_heap _ _ _ _ _ _ hg, ← bvs_app, ← bvs_app]
    rfl
theorem wp_copyB {K : Act → World → Prop} (dd x : Operand) (t : TypeId) (ho : o.op = .call { callee := .builtin .copy, args := #[dd, x], argTypes := #[t, t] })
    {e : TypeId} {bytes : Nat} (T : ElemT P t e 1 bytes) (g f dLen dCap : Nat) (A1 : Option Addr) (hd : act.eval dd = .slice A1 dLen dCap) (A2 : Option Addr) (c2 : Nat) (b p : List UInt8) (hx : act.eval x = .slice A2 p.length c2) (rt : TypeId)
    (hA : p = [] ∨ A1 = some ⟨g, f, none⟩) (hl : p.length ≤ dLen) (hg : w.heap[g]? = some (.cells (bvs b).toArray rt (0, 0))) (hf : f + p.length ≤ b.length) (hr : RdB w A2 p)
    (h : ∀ w', w'.heap[g]? = some (.cells (bvs (ovw b f p)).toArray rt (0, 0)) → w.grownBy w' (some g) → K (act.put o.dst (.int .i64 (p.length : Int))) w') : o.wp P act w K Q := by
  obtain ⟨w', hrun, h1, h2⟩ := run_copyB (P := P) t o.type T g f dLen dCap A1 A2 c2 b p rt hA hl hg hf hr
  unfold Oper.wp execOp
  simp only [ho, resolve, invoke, builtin, Sem.run_bind, Sem.run_pure, Result.andThen_ok, List.map_toArray, List.map_cons, List.map_nil, hd, hx, hrun]
  exact h w' h1 h2
theorem wpList_copyB (hgd : Region.wanted o (yielded ops act.tmps) = true) (dd x : Operand) (t : TypeId) (ho : o.op = .call { callee := .builtin .copy, args := #[dd, x], argTypes := #[t, t] })
    {e : TypeId} {bytes : Nat} (T : ElemT P t e 1 bytes) (g f dLen dCap : Nat) (A1 : Option Addr) (hd : act.eval dd = .slice A1 dLen dCap) (A2 : Option Addr) (c2 : Nat) (b p : List UInt8) (hx : act.eval x = .slice A2 p.length c2) (rt : TypeId)
    (hA : p = [] ∨ A1 = some ⟨g, f, none⟩) (hl : p.length ≤ dLen) (hg : w.heap[g]? = some (.cells (bvs b).toArray rt (0, 0))) (hf : f + p.length ≤ b.length) (hr : RdB w A2 p)
    (h : ∀ w', w'.heap[g]? = some (.cells (bvs (ovw b f p)).toArray rt (0, 0)) → w.grownBy w' (some g) → wpList P ops Q rest (act.put o.dst (.int .i64 (p.length : Int))) w') : wpList P ops Q (o :: rest) act w :=
  wpList_want hgd fun _ hK => wp_copyB dd x t ho T g f dLen dCap A1 hd A2 c2 b p hx rt hA hl hg hf hr fun w' h1 h2 => hK _ _ (h w' h1 h2)
end

end Go.Proofs.Ytgfanklhihciaaa
