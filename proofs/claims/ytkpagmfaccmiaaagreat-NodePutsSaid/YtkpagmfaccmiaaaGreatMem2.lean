
/- Append onto a slice that is full: the result is a new row, nothing that was there changes. -/

import Derived.Test.YtkpagmfaccmiaaaGreatMem

import Derived.Laws.CopyRow

namespace Go.Proofs.YtkpagmfaccmiaaaGreat

open Go.RowKit

section

variable {P : Program} {w : World} {o : Oper} {a : Act} {Q : Exit → Act → World → Prop}

theorem wp_app_grow {K : Act → World → Prop} (s x : Operand) (t : TypeId) (ho : o.op = .call { callee := .builtin .append, args := #[s, x], argTypes := #[t, t] })
    {e : TypeId} {size bytes : Nat} (T : ElemT P t e size bytes) (ad0 : Addr) (n c : Nat) (xs : List Value) (hs : a.eval s = .slice (some ad0) n c)
    (A2 : Option Addr) (m c2 : Nat) (ys : List Value) (hx : a.eval x = .slice A2 m c2) (k : Nat) (hk : k = n + m) (zs : List Value) (hz : zs = xs ++ ys)
    (hA : Rd w size (some ad0) n xs) (hr : Rd w size A2 m ys) (hn : 0 < n) (hm : 0 < m) (hfull : c < n + m)
    (hbytes : k * bytes ≤ 140737488355328) (h63 : k ≤ 140737488355328)
    (h : ∀ A' c' w', Own w' w.heap.size e size A' k c' zs → Below w.heap.size w w' → K (a.put o.dst (.slice A' k c')) w') : o.wp P a w K Q := by
  subst hk
  subst hz
  obtain ⟨i, z, g1, g2, g3, g4, g5⟩ := T.hi
  have hpos := T.pos
  subst g3
  subst g4
  have hlen : (xs ++ ys).length = (n + m) * i.size := by rw [List.length_append, hA.1, hr.1, Nat.add_mul]
  obtain ⟨ad, rfl, hcells⟩ := hr.2 (by rintro rfl; have h9 := hr.1; simp only [List.length_nil] at h9; have : 0 < m * i.size := Nat.mul_pos hm hpos; omega)
  obtain ⟨ad1, he1, hcells1⟩ := hA.2 (by rintro rfl; have h9 := hA.1; simp only [List.length_nil] at h9; have : 0 < n * i.size := Nat.mul_pos hn hpos; omega)
  injection he1 with he1
  subst he1
  have hrun := run_append_grow (P := P) w t o.type e i z T.ht g1 g2 ad0 n c xs hA.1 hcells1 ad m c2 ys hr.1 hcells (by omega) (by omega) (growslice_fits (by omega) hbytes)
  have hge := grownCap_ge w (n + m) c e
  have hcm : grownCap w (n + m) c e ≤ maxLen := grownCap_le_maxLen w (n + m) c e (by unfold maxLen; omega)
  unfold Oper.wp execOp
  simp only [ho, resolve, invoke, builtin, Sem.run_bind, Sem.run_pure, Result.andThen_ok, List.map_toArray, List.map_cons, List.map_nil, hs, hx, hrun]
  refine h _ _ _ ⟨hlen, hge, hcm, .inr ⟨w.heap.size, 0, _, rfl, Nat.le_refl _, heap_alloc_new w.drew _, ?_, ?_⟩⟩ ⟨rfl, rfl, rfl, by simp, fun k hk => Below.heap_alloc w.drew _ k hk⟩
  · simp only [Array.size_append, List.size_toArray, size_zeroCells, g5, hA.1, hr.1, ← Nat.add_mul, Nat.zero_add]
    refine Nat.mul_le_mul_right _ (by omega)
  · simp only [Array.toList_append, List.append_assoc, List.drop_zero]
    rw [← List.append_assoc, ← hlen]
    exact List.take_left

/-- Copy into a part of a row. -/
theorem wp_copy {K : Act → World → Prop} (d x : Operand) (t : TypeId) (ho : o.op = .call { callee := .builtin .copy, args := #[d, x], argTypes := #[t, t] })
    {e : TypeId} {bytes : Nat} (T : ElemT P t e 1 bytes) (g f dCap : Nat) (m : Nat) (hd : a.eval d = .slice (some ⟨g, f, none⟩) m dCap) (A2 : Option Addr) (c2 : Nat) (ys : List Value) (hx : a.eval x = .slice A2 m c2)
    (hr : Rd w 1 A2 m ys) (hm : 0 < m) (cur : Array Value) (hg : w.heap[g]? = some (.cells cur e (0, 0))) (hfit : f + m ≤ cur.size) (h1 : ∀ u ∈ ys, u.oneCell' = true)
    (h : K (a.put o.dst (.int .i64 (m : Int))) (w.setRow g (cur.toList.take f ++ ys ++ cur.toList.drop (f + m)).toArray)) : o.wp P a w K Q := by
  have hl : ys.length = m := by have := hr.1; omega
  obtain ⟨ad, rfl, hcells⟩ := hr.2 (by rintro rfl; simp at hl; omega)
  have hrun := run_copy_row (P := P) w t t o.type e g f m dCap ad m c2 cur e ys T.ht T.one hg (by rw [hl]; simp) hcells (by rw [hl]; exact hfit) h1
  rw [hl] at hrun
  unfold Oper.wp execOp
  simp only [ho, resolve, invoke, builtin, Sem.run_bind, Sem.run_pure, Result.andThen_ok, List.map_toArray, List.map_cons, List.map_nil, hd, hx, hrun]
  exact h
/-- The same where the row is an array's. -/
theorem wp_copyT {K : Act → World → Prop} (d x : Operand) (t : TypeId) (ho : o.op = .call { callee := .builtin .copy, args := #[d, x], argTypes := #[t, t] })
    {e : TypeId} {bytes : Nat} (T : ElemT P t e 1 bytes) (g f dCap : Nat) (m : Nat) (hd : a.eval d = .slice (some ⟨g, f, none⟩) m dCap) (A2 : Option Addr) (c2 : Nat) (ys : List Value) (hx : a.eval x = .slice A2 m c2)
    (hr : Rd w 1 A2 m ys) (hm : 0 < m) (cur : Array Value) (rt : TypeId) (hg : w.heap[g]? = some (.cells cur rt (0, 0))) (hfit : f + m ≤ cur.size) (h1 : ∀ u ∈ ys, u.oneCell' = true)
    (h : K (a.put o.dst (.int .i64 (m : Int))) (w.setRow g (cur.toList.take f ++ ys ++ cur.toList.drop (f + m)).toArray)) : o.wp P a w K Q := by
  have hl : ys.length = m := by have := hr.1; omega
  obtain ⟨ad, rfl, hcells⟩ := hr.2 (by rintro rfl; simp at hl; omega)
  have hrun := run_copy_row (P := P) w t t o.type e g f m dCap ad m c2 cur rt ys T.ht T.one hg (by rw [hl]; simp) hcells (by rw [hl]; exact hfit) h1
  rw [hl] at hrun
  unfold Oper.wp execOp
  simp only [ho, resolve, invoke, builtin, Sem.run_bind, Sem.run_pure, Result.andThen_ok, List.map_toArray, List.map_cons, List.map_nil, hd, hx, hrun]
  exact h
end

end Go.Proofs.YtkpagmfaccmiaaaGreat
