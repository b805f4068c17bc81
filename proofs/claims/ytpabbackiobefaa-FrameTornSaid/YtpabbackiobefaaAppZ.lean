
/- Append of fresh zeros (append(s, make([]T, m)...)) onto a slice of the call's own. -/

import Derived.Test.YtpabbackiobefaaMem2

namespace Go.Proofs.Ytpabbackiobefaa

open Go.RowKit

theorem zeroCells_one (z : Value) (hz : z.cells = #[z]) (m : Nat) : Builtin.zeroCells z.cells m = (List.replicate m z).toArray := by
  rw [hz]
  apply Array.ext
  · simp [Builtin.zeroCells]
  · intro k h1 h2
    simp only [Builtin.zeroCells, Array.getElem_map, List.getElem_toArray, List.getElem_replicate]
    simp [Nat.mod_one]
section

variable {P : Program} (w : World)

theorem run_appZ (base : Nat) (t u ty e : TypeId) (k : IntKind) (i : TypeInfo) (z : Value) (bytes : Nat) (ht : P.underlying t = some (.slice e)) (hu : P.underlying u = some (.int k)) (hi : P.info? e = some i) (hz : i.zero = some z)
    (hsize : i.size = 1) (hby : i.bytes = bytes) (hzc : z.cells = #[z]) (h1z : z.oneCell' = true)
    (A : Option Addr) (n c : Nat) (xs : List Value) (hown : Own w base e 1 A n c xs) (m : Nat) (hn : 0 < n) (hm : 0 < m) (ki : IntKind)
    (h63 : n + m ≤ 140737488355328) (hbytes : (n + m) * bytes ≤ 140737488355328) (hbase : base ≤ w.heap.size) :
    ∃ A' c' w', (Builtin.append_ #[t, u] ty #[.slice A n c, .int ki (m : Int)]).run P w = .ok (.slice A' (n + m) c') w' ∧ Own w' base e 1 A' (n + m) c' (xs ++ List.replicate m z) ∧ w.grownBy w' (ownRow A c) ∧
      (ownRow A' c' = ownRow A c ∨ ownRow A' c' = some w.heap.size) := by
  subst hby
  have hwrap : IntKind.i64.wrap (m : Int) = (m : Int) := by simp [IntKind.wrap, IntKind.bits, IntKind.signed]; omega
  have hnn : ¬ ((m : Int) < 0) := by omega
  have hmb : ¬ (281474976710656 < (m : Int) * (i.bytes : Int)) := by
    have h2 : m * i.bytes ≤ (n + m) * i.bytes := Nat.mul_le_mul_right _ (by omega)
    have h3 : ((m * i.bytes : Nat) : Int) ≤ 140737488355328 := by omega
    rw [Int.natCast_mul] at h3
    omega
  have hz1 : z.cells.size = 1 := by rw [hzc]; rfl
  have hlen : (xs ++ List.replicate m z).length = (n + m) * 1 := by rw [List.length_append, hown.len, List.length_replicate, Nat.add_mul, Nat.mul_one m]
  have hzm := zeroCells_one z hzc
  have hm0 : ¬ m = 0 := by omega
  rcases hown.mem with hc0 | ⟨g, off, cur, rfl, hbg, hg, hoff, htake⟩
  · have := hown.nc; omega
  · have hnc := hown.nc
    by_cases hroom : n + m ≤ c
    · have hfit : off + n * 1 + 0 + (List.replicate m z).length ≤ cur.size := by rw [List.length_replicate]; omega
      have h1 : ∀ u ∈ List.replicate m z, u.oneCell' = true := fun u hu => by rw [(List.mem_replicate.1 hu).2]; exact h1z
      have hst := run_storeCells_at P g (off + n * 1) e (List.replicate m z) 0 cur w hg hfit h1
      simp only [Nat.add_zero] at hst
      refine ⟨some ⟨g, off, none⟩, c, w.setRow g (cur.toList.take (off + n * 1) ++ (List.replicate m z ++ cur.toList.drop (off + n * 1 + (List.replicate m z).length))).toArray, ?_, ⟨hlen, hroom, hown.cm, .inr ⟨g, off, _, rfl, hbg, setRow_heap w g cur _ e _ hg, ?_, ?_⟩⟩, ⟨rfl, rfl, rfl, by simp, fun k _ hk => setRow_other w g k _ (fun e => hk (by unfold ownRow; rw [if_neg (by omega)]; simp [e]))⟩, .inl rfl⟩
      · simp [Builtin.append_, run_underlying ht, run_underlying hu, sizeOf, typeInfo, zeroValue, hi, hz, asInt, asIntOf, hwrap, hnn, hmb, hsize, hm0, hroom, hzm]
        rw [Addr.add_lit]
        simp only [Nat.mul_one] at hst
        rw [hst]
        simp
      · simp only [List.size_toArray, List.length_append, List.length_take, List.length_drop, Array.length_toList, List.length_replicate]
        omega
      · have hlx : ((cur.toList.drop off).take (n * 1)).length = n * 1 := by rw [htake]; exact hown.len
        have e1 : (cur.toList.take (off + n * 1) ++ (List.replicate m z ++ cur.toList.drop (off + n * 1 + (List.replicate m z).length))).drop off = xs ++ (List.replicate m z ++ cur.toList.drop (off + n * 1 + (List.replicate m z).length)) := by
          rw [List.take_add, List.append_assoc, htake]
          exact List.drop_left' (by simp; omega)
        rw [e1, ← List.append_assoc, ← hlen]
        exact List.take_left
    · have holds : ∀ j u, xs[j]? = some u → w.cell? ((⟨g, off, none⟩ : Addr).add j) = some u := by
        intro j u hj
        have h2 := hown.rd.2 (by intro e0; rw [e0] at hj; simp at hj)
        obtain ⟨ad', he, hc'⟩ := h2
        injection he with he
        subst he
        exact hc' j u hj
      have hge := grownCap_ge w (n + m) c e
      have hcm : grownCap w (n + m) c e ≤ maxLen := grownCap_le_maxLen w (n + m) c e (by unfold maxLen; omega)
      have h63' : ¬ (9223372036854775807 < ((n : Int) + (m : Int))) := by omega
      have h48' : ¬ (281474976710656 < Builtin.nextslicecap (n + m) c * i.bytes) := by have := growslice_fits (old := c) (need := n + m) (bytes := i.bytes) (by omega) hbytes; omega
      have hfo := run_firstCells_some (P := P) w.drew i.size n ⟨g, off, none⟩ n c xs (by rw [hsize]; exact hown.len) (by simpa using holds)
      have hroom' : ¬ (n + m ≤ c) := hroom
      refine ⟨some ⟨w.heap.size, 0, none⟩, grownCap w (n + m) c e, w.drew.alloc (.cells (xs.toArray ++ (List.replicate m z).toArray ++ Builtin.zeroCells z.cells (grownCap w (n + m) c e - (n + m))) e), ?_,
        ⟨hlen, hge, hcm, .inr ⟨w.heap.size, 0, _, rfl, hbase, heap_alloc_new w.drew _, ?_, ?_⟩⟩, ⟨rfl, rfl, rfl, by simp, fun k hk _ => Below.heap_alloc w.drew _ k hk⟩, .inr ?_⟩
      · rw [hsize] at hfo
        simp [Builtin.append_, run_underlying ht, run_underlying hu, sizeOf, typeInfo, zeroValue, hi, hz, asInt, asIntOf, hwrap, hnn, hmb, hsize, hm0, hroom', hzm, h63', h48', Question.forced, hfo, newRow, grownCap]
      · simp only [Array.size_append, List.size_toArray, size_zeroCells, hz1, hown.len, List.length_replicate, Nat.zero_add]
        omega
      · simp only [Array.toList_append, List.append_assoc, List.drop_zero]
        rw [← List.append_assoc, ← hlen]
        exact List.take_left
      · unfold ownRow; rw [if_neg (by omega)]; rfl
end

section

variable {P : Program} {w : World} {ops : Array Oper} {rest : List Oper} {o : Oper} {a : Act} {Q : Exit → Act → World → Prop}

theorem wpList_appZ (hgd : Region.wanted o (yielded ops a.tmps) = true) (s x : Operand) (t u : TypeId) (ho : o.op = .call { callee := .builtin .append, args := #[s, x], argTypes := #[t, u] })
    {e : TypeId} {bytes : Nat} (T : ElemT P t e 1 bytes) {k : IntKind} (hu : P.underlying u = some (.int k)) (z : Value) (hz : (P.info? e).bind (·.zero) = some z) (hz1 : z.cells = #[z]) (h1z : z.oneCell' = true)
    (base : Nat) (A : Option Addr) (n c : Nat) (xs : List Value) (hs : a.eval s = .slice A n c) (ki : IntKind) (m : Nat) (hx : a.eval x = .int ki (m : Int)) (d : Nat) (hd : d = n + m) (zs : List Value) (hzs : zs = xs ++ List.replicate m z)
    (hown : Own w base e 1 A n c xs) (hn : 0 < n) (hm : 0 < m) (hbytes : d * bytes ≤ 140737488355328) (h63 : d ≤ 140737488355328) (hbase : base ≤ w.heap.size)
    (h : ∀ A' c' w', Own w' base e 1 A' d c' zs → w.grownBy w' (ownRow A c) → (ownRow A' c' = ownRow A c ∨ ownRow A' c' = some w.heap.size) → wpList P ops Q rest (a.put o.dst (.slice A' d c')) w') : wpList P ops Q (o :: rest) a w :=
  wpList_want hgd fun K hK => by
    subst hd
    subst hzs
    obtain ⟨i, z', g1, g2, g3, g4, g5⟩ := T.hi
    obtain rfl : z' = z := by rw [g1] at hz; simpa [g2] using hz
    obtain ⟨A', c', w', hrun, h2, h3, h4⟩ := run_appZ (P := P) w base t u o.type e k i z' bytes T.ht hu g1 g2 g3 g4 hz1 h1z A n c xs hown m hn hm ki h63 hbytes hbase
    unfold Oper.wp execOp
    simp only [ho, resolve, invoke, builtin, Sem.run_bind, Sem.run_pure, Result.andThen_ok, List.map_toArray, List.map_cons, List.map_nil, hs, hx, hrun]
    exact hK _ _ (h A' c' w' h2 h3 h4)
theorem wpList_appG (hgd : Region.wanted o (yielded ops a.tmps) = true) (s x : Operand) (t : TypeId) (ho : o.op = .call { callee := .builtin .append, args := #[s, x], argTypes := #[t, t] })
    {e : TypeId} {size bytes : Nat} (T : ElemT P t e size bytes) (ad0 : Addr) (n c : Nat) (xs : List Value) (hs : a.eval s = .slice (some ad0) n c)
    (A2 : Option Addr) (m c2 : Nat) (ys : List Value) (hx : a.eval x = .slice A2 m c2) (k : Nat) (hk : k = n + m) (zs : List Value) (hz : zs = xs ++ ys)
    (hA : Rd w size (some ad0) n xs) (hr : Rd w size A2 m ys) (hn : 0 < n) (hm : 0 < m) (hfull : c < n + m)
    (hbytes : k * bytes ≤ 140737488355328) (h63 : k ≤ 140737488355328)
    (h : ∀ A' c' w', Own w' w.heap.size e size A' k c' zs → Below w.heap.size w w' → wpList P ops Q rest (a.put o.dst (.slice A' k c')) w') : wpList P ops Q (o :: rest) a w :=
  wpList_want hgd fun _ hK => wp_app_grow s x t ho T ad0 n c xs hs A2 m c2 ys hx k hk zs hz hA hr hn hm hfull hbytes h63 fun A' c' w' h2 h3 => hK _ _ (h A' c' w' h2 h3)
end

end Go.Proofs.Ytpabbackiobefaa
