
/- Words for rows of elements of many cells that are turned in place: copy, append where there is room, clear, append of zeros that makes a new row. -/

import Derived.Test.YtkpagmfaccmiaaaGreatMem2

namespace Go.Proofs.YtkpagmfaccmiaaaGreat

open Go.RowKit

theorem seg_row {A B C D : List Value} {o : Nat} (hA : A.length = o) (hB : B.length = D.length) : (A ++ (B ++ C)).toArray.toList.take o ++ D ++ (A ++ (B ++ C)).toArray.toList.drop (o + D.length) = A ++ (D ++ C) := by
  show (A ++ (B ++ C)).take o ++ D ++ (A ++ (B ++ C)).drop (o + D.length) = A ++ (D ++ C)
  rw [List.take_left' hA, ← hB, ← List.append_assoc A B C, List.drop_left' (by simp [hA]), List.append_assoc]
theorem zc_one (zs : Array Value) (n : Nat) (h : zs.all (·.oneCell') = true) : ∀ v ∈ (Builtin.zeroCells zs n).toList, v.oneCell' = true := by
  intro v hv
  simp only [Builtin.zeroCells, Array.mem_toList_iff, Array.mem_map, Array.mem_range] at hv
  obtain ⟨i, hi, rfl⟩ := hv
  have hpos : 0 < zs.size := by
    rcases Nat.eq_zero_or_pos zs.size with h0 | h0
    · rw [h0] at hi; omega
    · exact h0
  have h2 : i % zs.size < zs.size := Nat.mod_lt _ hpos
  rw [getElem!_pos zs _ h2]
  exact (Array.all_eq_true_iff_forall_mem.1 h) _ (Array.getElem_mem h2)
/-- An own slice's row in three parts. -/
theorem Own.parts {w : World} {base : Nat} {e : TypeId} {s : Nat} {A : Option Addr} {n c : Nat} {xs : List Value} (h : Own w base e s A n c xs) (hc : 0 < c) :
    ∃ g off p r, A = some ⟨g, off, none⟩ ∧ base ≤ g ∧ p.length = off ∧ w.heap[g]? = some (.cells (p ++ (xs ++ r)).toArray e (0, 0)) ∧ (c - n) * s ≤ r.length ∧ ownRow A c = some g := by
  rcases h.mem with h0 | ⟨g, off, cur, rfl, hb, hg, ho, ht⟩
  · omega
  · have h1 : off + c * s ≤ cur.toList.length := by simpa using ho
    have h2 : n * s ≤ c * s := Nat.mul_le_mul_right s h.nc
    refine ⟨g, off, cur.toList.take off, cur.toList.drop (off + n * s), rfl, hb, by rw [List.length_take]; omega, ?_, ?_, ?_⟩
    · have e1 : cur.toList.take off ++ (xs ++ cur.toList.drop (off + n * s)) = cur.toList := by
        rw [← ht, ← List.drop_drop, List.take_append_drop, List.take_append_drop]
      rw [e1]; exact hg
    · rw [List.length_drop, Nat.sub_mul]; omega
    · unfold ownRow; rw [if_neg (by omega)]; rfl
theorem Own.of_parts {w : World} {base g : Nat} {e : TypeId} {s n c : Nat} {p xs r : List Value} (hg : w.heap[g]? = some (.cells (p ++ (xs ++ r)).toArray e (0, 0))) (hb : base ≤ g) (hl : xs.length = n * s) (hn : n ≤ c) (hm : c ≤ maxLen) (hr : (c - n) * s ≤ r.length) :
    Own w base e s (some ⟨g, p.length, none⟩) n c xs := by
  refine ⟨hl, hn, hm, .inr ⟨g, p.length, _, rfl, hb, hg, ?_, ?_⟩⟩
  · have h2 : n * s ≤ c * s := Nat.mul_le_mul_right s hn
    rw [Nat.sub_mul] at hr
    simp only [List.size_toArray, List.length_append]
    omega
  · show ((p ++ (xs ++ r)).drop p.length).take (n * s) = xs
    rw [List.drop_left, ← hl, List.take_left]
/-- One element of an own slice of elements of many cells is turned. -/
theorem Own.setS {w : World} {base : Nat} {e : TypeId} {s : Nat} {A : Option Addr} {n c : Nat} {xs : List Value} (h : Own w base e s A n c xs) {i : Nat} (hi : i < n) (ys : List Value) (hy : ys.length = s) :
    ∃ g off cur cur', A = some ⟨g, off, none⟩ ∧ base ≤ g ∧ w.heap[g]? = some (.cells cur e (0, 0)) ∧ off + i * s + s ≤ cur.size ∧ (cur.toList.take (off + i * s) ++ ys ++ cur.toList.drop (off + i * s + s)).toArray = cur' ∧ ownRow A c = some g ∧
      ∀ W : World, W.heap[g]? = some (.cells cur' e (0, 0)) → Own W base e s A n c (xs.take (i * s) ++ (ys ++ xs.drop ((i + 1) * s))) := by
  have hnc := h.nc
  have hxl := h.len
  have hm : (i + 1) * s ≤ n * s := Nat.mul_le_mul_right s hi
  rw [Nat.succ_mul] at hm
  obtain ⟨g, off, p, r, rfl, hbg, hp, hg, hr, hrow⟩ := h.parts (by omega)
  refine ⟨g, off, _, _, rfl, hbg, hg, ?_, rfl, hrow, fun W hW => ?_⟩
  · simp only [List.size_toArray, List.length_append]; omega
  · have e0 : p ++ (xs ++ r) = (p ++ xs.take (i * s)) ++ ((xs.drop (i * s)).take s ++ (xs.drop ((i + 1) * s) ++ r)) := by
      have e1 : xs.drop ((i + 1) * s) = (xs.drop (i * s)).drop s := by rw [List.drop_drop, Nat.succ_mul]
      rw [e1, ← List.append_assoc ((xs.drop (i * s)).take s), List.take_append_drop, List.append_assoc, ← List.append_assoc (xs.take (i * s)), List.take_append_drop]
    have e2 := seg_row (A := p ++ xs.take (i * s)) (B := (xs.drop (i * s)).take s) (C := xs.drop ((i + 1) * s) ++ r) (D := ys) (o := off + i * s) (by rw [List.length_append, List.length_take, hp]; omega) (by rw [List.length_take, List.length_drop, hy]; omega)
    rw [e0] at hW
    rw [hy] at e2
    rw [e2] at hW
    obtain rfl := hp
    refine Own.of_parts (r := r) (by rw [hW]; simp only [List.append_assoc]) hbg (by simp only [List.length_append, List.length_take, List.length_drop, hy, Nat.succ_mul]; omega) hnc h.cm hr
theorem rd_parts {w : World} {g s m : Nat} {e : TypeId} {p xs r : List Value} {o : Nat} (hg : w.heap[g]? = some (.cells (p ++ (xs ++ r)).toArray e (0, 0))) (ho : p.length = o) (hl : xs.length = m * s) : Rd w s (some ⟨g, o, none⟩) m xs := by
  refine ⟨hl, fun _ => ⟨_, rfl, fun j u hj => ?_⟩⟩
  rw [Addr.add_lit, cell_of_row w g _ _ e (0, 0) hg]
  have hlt := (List.getElem?_eq_some_iff.1 hj).1
  rw [List.getElem?_toArray, List.getElem?_append_right (by omega), ho, List.getElem?_append_left (by omega)]
  rw [show o + j - o = j by omega]; exact hj
section

variable {P : Program} (w : World)

theorem run_copyS (dT sT ty elem : TypeId) (s g o dLen dCap : Nat) (A2 : Option Addr) (sLen sCap m : Nat) (a b c d : List Value) (t : TypeId) (hu : P.underlying dT = some (.slice elem)) (hs : (P.info? elem).map (·.size) = some s) (hs0 : 0 < s)
    (hg : w.heap[g]? = some (.cells (a ++ (b ++ c)).toArray t (0, 0))) (ha : a.length = o) (hb : b.length = d.length) (hm : m = Nat.min sLen dLen) (hm0 : 0 < m) (hsrc : Rd w s A2 m d) (h1 : ∀ v ∈ d, v.oneCell' = true) :
    (Builtin.copy_ #[dT, sT] ty #[.slice (some ⟨g, o, none⟩) dLen dCap, .slice A2 sLen sCap]).run P w = .ok (.int .i64 (m : Int)) (w.setRow g (a ++ (d ++ c)).toArray) := by
  subst hm
  have hdl := hsrc.1
  have hpos : 0 < Nat.min sLen dLen * s := Nat.mul_pos hm0 hs0
  obtain ⟨ad, rfl, hcells⟩ := hsrc.2 (by rintro rfl; simp at hdl; omega)
  have hst := run_storeCells_at P g o t d 0 _ w hg (by simp [ha]; omega) h1
  have hfo := run_firstCells_some (P := P) w s (Nat.min sLen dLen) ad sLen sCap d hdl hcells
  rw [seg_row (by simpa using ha) hb] at hst
  cases hq : P.info? elem with
  | none => simp [hq] at hs
  | some i =>
    have hi : i.size = s := by simpa [hq] using hs
    simp [Builtin.copy_, run_underlying hu, Builtin.lenOf, sizeOf, typeInfo, hq, hi, hfo, hst, goInt]
theorem run_clearS (t e ty : TypeId) (i : TypeInfo) (z : Value) (ht : P.underlying t = some (.slice e)) (hi : P.info? e = some i) (hz : i.zero = some z) (g o n c : Nat) (hn : 0 < n) (a b d : List Value) (rt : TypeId)
    (hg : w.heap[g]? = some (.cells (a ++ (b ++ d)).toArray rt (0, 0))) (ha : a.length = o) (hb : b.length = n * z.cells.size) (h1 : ∀ v ∈ (Builtin.zeroCells z.cells n).toList, v.oneCell' = true) :
    (Builtin.clear_ #[t] ty #[.slice (some ⟨g, o, none⟩) n c]).run P w = .ok (.tuple #[]) (w.setRow g (a ++ ((Builtin.zeroCells z.cells n).toList ++ d)).toArray) := by
  have hl : (Builtin.zeroCells z.cells n).toList.length = n * z.cells.size := by rw [Array.length_toList, size_zeroCells]
  have hst := run_storeCells_at P g o rt (Builtin.zeroCells z.cells n).toList 0 _ w hg (by simp only [List.size_toArray, List.length_append, hl]; omega) h1
  rw [seg_row (by simpa using ha) (by rw [hl, hb])] at hst
  obtain ⟨m, rfl⟩ : ∃ m, n = m + 1 := ⟨n - 1, by omega⟩
  simp [Builtin.clear_, run_underlying ht, zeroValue, typeInfo, hi, hz, hst]
/-- Append where there is room. -/
theorem run_appR (t ty e : TypeId) (i : TypeInfo) (s : Nat) (ht : P.underlying t = some (.slice e)) (hi : P.info? e = some i) (hs : i.size = s) (g off n c m : Nat) (A2 : Option Addr) (c2 : Nat) (a b d ys : List Value) (rt : TypeId)
    (hg : w.heap[g]? = some (.cells (a ++ (b ++ d)).toArray rt (0, 0))) (ha : a.length = off + n * s) (hb : b.length = ys.length) (hr : Rd w s A2 m ys) (h1 : ∀ v ∈ ys, v.oneCell' = true) (hroom : n + m ≤ c) :
    (Builtin.append_ #[t, t] ty #[.slice (some ⟨g, off, none⟩) n c, .slice A2 m c2]).run P w = .ok (.slice (some ⟨g, off, none⟩) (n + m) c) (w.setRow g (a ++ (ys ++ d)).toArray) := by
  have hst := run_storeCells_at P g (off + n * s) rt ys 0 _ w hg (by simp only [List.size_toArray, List.length_append]; omega) h1
  rw [seg_row (by simpa using ha) hb] at hst
  have hfo : ∃ cs : Array Value, cs.toList = ys ∧ (Builtin.firstCells s m (.slice A2 m c2)).run P w = .ok cs w := by
    by_cases h0 : ys = []
    · subst h0
      rcases A2 with _ | ad
      · exact ⟨#[], rfl, by simp [Builtin.firstCells]⟩
      · exact ⟨_, rfl, run_firstCells_some (P := P) w s m ad m c2 [] hr.1 (by simp)⟩
    · obtain ⟨ad, rfl, hcells⟩ := hr.2 h0
      exact ⟨_, rfl, run_firstCells_some (P := P) w s m ad m c2 ys hr.1 hcells⟩
  obtain ⟨cs, rfl, hfo⟩ := hfo
  simp [Builtin.append_, run_underlying ht, sizeOf, typeInfo, hi, hs, Builtin.lenOf, hroom, hfo]
  rw [Addr.add_lit, hst]
  rfl
/-- Append of zeros that makes a new row. -/
theorem run_appZG (t u ty e : TypeId) (k : IntKind) (i : TypeInfo) (z : Value) (s bytes : Nat) (ht : P.underlying t = some (.slice e)) (hu : P.underlying u = some (.int k)) (hi : P.info? e = some i) (hz : i.zero = some z)
    (hs : i.size = s) (hs0 : 0 < s) (hby : i.bytes = bytes) (hzs : z.cells.size = s) (g off n c : Nat) (xs : List Value) (hr : Rd w s (some ⟨g, off, none⟩) n xs) (m : Nat) (hm : 0 < m) (ki : IntKind)
    (h63 : n + m ≤ 140737488355328) (hbytes : (n + m) * bytes ≤ 140737488355328) (hgrow : c < n + m) :
    ∃ c' r, (Builtin.append_ #[t, u] ty #[.slice (some ⟨g, off, none⟩) n c, .int ki (m : Int)]).run P w = .ok (.slice (some ⟨w.heap.size, 0, none⟩) (n + m) c') (w.drew.alloc (.cells (xs ++ ((Builtin.zeroCells z.cells m).toList ++ r)).toArray e)) ∧
      n + m ≤ c' ∧ c' ≤ maxLen ∧ r.length = (c' - (n + m)) * s := by
  subst hby
  have hwrap : IntKind.i64.wrap (m : Int) = (m : Int) := by simp [IntKind.wrap, IntKind.bits, IntKind.signed]; omega
  have hnn : ¬ ((m : Int) < 0) := by omega
  have hmb : ¬ (281474976710656 < (m : Int) * (i.bytes : Int)) := by
    have h2 : m * i.bytes ≤ (n + m) * i.bytes := Nat.mul_le_mul_right _ (by omega)
    have h3 : ((m * i.bytes : Nat) : Int) ≤ 140737488355328 := by omega
    rw [Int.natCast_mul] at h3
    omega
  have hm0 : ¬ (m * s = 0) := by have := Nat.mul_pos hm hs0; omega
  have hge := grownCap_ge w (n + m) c e
  have hcm : grownCap w (n + m) c e ≤ maxLen := grownCap_le_maxLen w (n + m) c e (by unfold maxLen; omega)
  have h63' : ¬ (9223372036854775807 < ((n : Int) + (m : Int))) := by omega
  have h48' : ¬ (281474976710656 < Builtin.nextslicecap (n + m) c * i.bytes) := by have := growslice_fits (old := c) (need := n + m) (bytes := i.bytes) (by omega) hbytes; omega
  have hfo : (Builtin.firstCells s n (.slice (some ⟨g, off, none⟩) n c)).run P w.drew = .ok xs.toArray w.drew := by
    refine run_firstCells_some (P := P) w.drew s n ⟨g, off, none⟩ n c xs hr.1 fun j v hj => ?_
    obtain ⟨ad, e1, hc⟩ := hr.2 (by rintro rfl; simp at hj)
    injection e1 with e1
    subst e1
    exact hc j v hj
  have hroom' : ¬ (n + m ≤ c) := by omega
  refine ⟨grownCap w (n + m) c e, (Builtin.zeroCells z.cells (grownCap w (n + m) c e - (n + m))).toList, ?_, hge, hcm, by rw [Array.length_toList, size_zeroCells, hzs]⟩
  have hrow : (xs ++ ((Builtin.zeroCells z.cells m).toList ++ (Builtin.zeroCells z.cells (grownCap w (n + m) c e - (n + m))).toList)).toArray = xs.toArray ++ Builtin.zeroCells z.cells m ++ Builtin.zeroCells z.cells (grownCap w (n + m) c e - (n + m)) := by
    apply Array.ext'
    simp
  rw [hrow]
  simp [Builtin.append_, run_underlying ht, run_underlying hu, sizeOf, typeInfo, zeroValue, hi, hz, asInt, asIntOf, hwrap, hnn, hmb, hs, hm0, hroom', h63', h48', Question.forced, hfo, newRow, grownCap]
end

section

variable {P : Program} {w : World} {ops : Array Oper} {rest : List Oper} {o : Oper} {act : Act} {Q : Exit → Act → World → Prop}

theorem wp_copyS {K : Act → World → Prop} (dd x : Operand) (t : TypeId) (ho : o.op = .call { callee := .builtin .copy, args := #[dd, x], argTypes := #[t, t] })
    {e : TypeId} {s bytes : Nat} (T : ElemT P t e s bytes) (g f dLen dCap : Nat) (hd : act.eval dd = .slice (some ⟨g, f, none⟩) dLen dCap) (A2 : Option Addr) (sLen c2 : Nat) (hx : act.eval x = .slice A2 sLen c2)
    (m : Nat) (hm : m = Nat.min sLen dLen) (hm0 : 0 < m) (a b c d : List Value) (rt : TypeId) (hg : w.heap[g]? = some (.cells (a ++ (b ++ c)).toArray rt (0, 0))) (ha : a.length = f) (hb : b.length = d.length) (hr : Rd w s A2 m d)
    (h1 : ∀ u ∈ d, u.oneCell' = true) (C' : Array Value) (hC : (a ++ (d ++ c)).toArray = C') (h : K (act.put o.dst (.int .i64 (m : Int))) (w.setRow g C')) : o.wp P act w K Q := by
  subst hC
  obtain ⟨i, z, g1, g2, g3, g4, g5⟩ := T.hi
  have hrun := run_copyS (P := P) w t t o.type e s g f dLen dCap A2 sLen c2 m a b c d rt T.ht (by rw [g1]; simp [g3]) T.pos hg ha hb hm hm0 hr h1
  unfold Oper.wp execOp
  simp only [ho, resolve, invoke, builtin, Sem.run_bind, Sem.run_pure, Result.andThen_ok, List.map_toArray, List.map_cons, List.map_nil, hd, hx, hrun]
  exact h
theorem wpList_copyS (hgd : Region.wanted o (yielded ops act.tmps) = true) (dd x : Operand) (t : TypeId) (ho : o.op = .call { callee := .builtin .copy, args := #[dd, x], argTypes := #[t, t] })
    {e : TypeId} {s bytes : Nat} (T : ElemT P t e s bytes) (g f dLen dCap : Nat) (hd : act.eval dd = .slice (some ⟨g, f, none⟩) dLen dCap) (A2 : Option Addr) (sLen c2 : Nat) (hx : act.eval x = .slice A2 sLen c2)
    (m : Nat) (hm : m = Nat.min sLen dLen) (hm0 : 0 < m) (a b c d : List Value) (rt : TypeId) (hg : w.heap[g]? = some (.cells (a ++ (b ++ c)).toArray rt (0, 0))) (ha : a.length = f) (hb : b.length = d.length) (hr : Rd w s A2 m d)
    (h1 : ∀ u ∈ d, u.oneCell' = true) (C' : Array Value) (hC : (a ++ (d ++ c)).toArray = C') (h : wpList P ops Q rest (act.put o.dst (.int .i64 (m : Int))) (w.setRow g C')) : wpList P ops Q (o :: rest) act w :=
  wpList_want hgd fun _ hK => wp_copyS dd x t ho T g f dLen dCap hd A2 sLen c2 hx m hm hm0 a b c d rt hg ha hb hr h1 C' hC (hK _ _ h)
theorem wp_appR {K : Act → World → Prop} (s' x : Operand) (t : TypeId) (ho : o.op = .call { callee := .builtin .append, args := #[s', x], argTypes := #[t, t] })
    {e : TypeId} {s bytes : Nat} (T : ElemT P t e s bytes) (g off n c : Nat) (hs : act.eval s' = .slice (some ⟨g, off, none⟩) n c) (A2 : Option Addr) (m c2 : Nat) (hx : act.eval x = .slice A2 m c2)
    (a b d ys : List Value) (rt : TypeId) (hg : w.heap[g]? = some (.cells (a ++ (b ++ d)).toArray rt (0, 0))) (ha : a.length = off + n * s) (hb : b.length = ys.length) (hr : Rd w s A2 m ys) (h1 : ∀ v ∈ ys, v.oneCell' = true) (k : Nat) (hk : k = n + m) (hroom : k ≤ c)
    (h : K (act.put o.dst (.slice (some ⟨g, off, none⟩) k c)) (w.setRow g (a ++ (ys ++ d)).toArray)) : o.wp P act w K Q := by
  subst hk
  obtain ⟨i, z, g1, g2, g3, g4, g5⟩ := T.hi
  have hrun := run_appR (P := P) w t o.type e i s T.ht g1 g3 g off n c m A2 c2 a b d ys rt hg ha hb hr h1 hroom
  unfold Oper.wp execOp
  simp only [ho, resolve, invoke, builtin, Sem.run_bind, Sem.run_pure, Result.andThen_ok, List.map_toArray, List.map_cons, List.map_nil, hs, hx, hrun]
  exact h
theorem wpList_clearS (hgd : Region.wanted o (yielded ops act.tmps) = true) (x : Operand) (t : TypeId) (ho : o.op = .call { callee := .builtin .clear, args := #[x], argTypes := #[t] })
    {e : TypeId} {s bytes : Nat} (T : ElemT P t e s bytes) (z : Value) (hz : (P.info? e).bind (·.zero) = some z) (g f n c : Nat) (hx : act.eval x = .slice (some ⟨g, f, none⟩) n c) (hn : 0 < n) (a b d : List Value) (rt : TypeId)
    (hg : w.heap[g]? = some (.cells (a ++ (b ++ d)).toArray rt (0, 0))) (ha : a.length = f) (hb : b.length = n * s) (h1 : ∀ v ∈ (Builtin.zeroCells z.cells n).toList, v.oneCell' = true)
    (C' : Array Value) (hC : (a ++ ((Builtin.zeroCells z.cells n).toList ++ d)).toArray = C') (h : wpList P ops Q rest (act.put o.dst (.tuple #[])) (w.setRow g C')) : wpList P ops Q (o :: rest) act w :=
  wpList_want hgd fun K hK => by
    subst hC
    obtain ⟨i, z', g1, g2, g3, g4, g5⟩ := T.hi
    obtain rfl : z' = z := by rw [g1] at hz; simpa [g2] using hz
    have hrun := run_clearS (P := P) w t e o.type i z' T.ht g1 g2 g f n c hn a b d rt hg ha (by rw [hb, g5]) h1
    unfold Oper.wp execOp
    simp only [ho, resolve, invoke, builtin, Sem.run_bind, Sem.run_pure, Result.andThen_ok, List.map_toArray, List.map_cons, List.map_nil, hx, hrun]
    exact hK _ _ h
theorem wpList_appZG (hgd : Region.wanted o (yielded ops act.tmps) = true) (s' x : Operand) (t u : TypeId) (ho : o.op = .call { callee := .builtin .append, args := #[s', x], argTypes := #[t, u] })
    {e : TypeId} {s bytes : Nat} (T : ElemT P t e s bytes) {k : IntKind} (hu : P.underlying u = some (.int k)) (z : Value) (hz : (P.info? e).bind (·.zero) = some z) (g off n c : Nat) (hs : act.eval s' = .slice (some ⟨g, off, none⟩) n c)
    (ki : IntKind) (m : Nat) (hx : act.eval x = .int ki (m : Int)) (hm : 0 < m) (d : Nat) (hd : d = n + m) (xs : List Value) (hr : Rd w s (some ⟨g, off, none⟩) n xs) (h63 : d ≤ 140737488355328) (hbytes : d * bytes ≤ 140737488355328) (hgrow : c < d)
    (h : ∀ c' r zs w', d ≤ c' → c' ≤ maxLen → r.length = (c' - d) * s → zs.length = m * s → w'.heap[w.heap.size]? = some (.cells (xs ++ (zs ++ r)).toArray e (0, 0)) → Below w.heap.size w w' → wpList P ops Q rest (act.put o.dst (.slice (some ⟨w.heap.size, 0, none⟩) d c')) w') : wpList P ops Q (o :: rest) act w :=
  wpList_want hgd fun K hK => by
    subst hd
    obtain ⟨i, z', g1, g2, g3, g4, g5⟩ := T.hi
    obtain rfl : z' = z := by rw [g1] at hz; simpa [g2] using hz
    obtain ⟨c', r, hrun, h1, h2, h3⟩ := run_appZG (P := P) w t u o.type e k i z' s bytes T.ht hu g1 g2 g3 T.pos g4 g5 g off n c xs hr m hm ki h63 hbytes hgrow
    unfold Oper.wp execOp
    simp only [ho, resolve, invoke, builtin, Sem.run_bind, Sem.run_pure, Result.andThen_ok, List.map_toArray, List.map_cons, List.map_nil, hs, hx, hrun]
    exact hK _ _ (h c' r _ _ h1 h2 h3 (by rw [Array.length_toList, size_zeroCells, g5]) (heap_alloc_new w.drew _) ((Below.refl _ _).drew.alloc (Nat.le_refl _) _))
end

end Go.Proofs.YtkpagmfaccmiaaaGreat
