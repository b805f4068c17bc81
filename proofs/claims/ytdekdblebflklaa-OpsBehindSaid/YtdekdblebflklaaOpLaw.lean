
/- Lists of entries and of operations as arguments. -/

import Derived.Test.YtdekdblebflklaaFields

import Derived.Test.YtdekdblebflklaaOpMem

import Derived.Deep.SlicePairs

namespace Go.Proofs.Ytdekdblebflklaa

open Go.RowKit

section

open Go.ChangeShapes Go.WideShapes Go.ChangeAt Go.Joins

variable {H : Type} {enc : TypeId × Value → H} {W : World} {base : Nat} {spare : Nat → Bool} {held : Bool} {d : DataW H} {p : List MemPlace}

theorem open_EntryL {a : Option Addr} {len cap : Nat} (h : DataW.Trod enc Try.prog W base spare held 22 (.slice a len cap) d p) :
    ∃ l : List EnV, len = l.length ∧ RdE W a l ∧ l.length ≤ cap := by
  obtain ⟨fuel, hf⟩ := h
  rcases Deep.open_slice_pairs Try.underlying22 Try.underlying48 (by kernel_rfl) rfl rfl (by kernel_rfl) (by kernel_rfl) hf with ⟨hcs, _⟩ | ⟨x, l, c, m, n, V0, V1, D0, D1, P0, P1, hcs, hb, hl, hm, hmm, hx, hel⟩
  · simp [Value.cells] at hcs
    obtain ⟨rfl, rfl, rfl⟩ := hcs
    exact ⟨[], rfl, RdE.nil_ _ _, Nat.le_refl _⟩
  · simp [Value.cells] at hcs
    obtain ⟨rfl, rfl, rfl⟩ := hcs
    have hlm : len ≤ m := by rw [hmm]; split <;> omega
    have each : ∀ r, r < len → ∃ e : EnV, W.cell? (x.add (r * 2)) = some (.slice e.ka e.x.key.length e.kc) ∧ W.cell? (x.add (r * 2 + 1)) = some (.slice e.va e.x.val.length e.vc) ∧ e.In W := by
      intro r hr
      obtain ⟨h0, h1, t0, t1⟩ := hel r (by omega)
      obtain ⟨ka, key, kc, e0, hkr, hkc⟩ := read_bytes Try.underlying33 Try.underlying5 (by kernel_rfl) ⟨_, _, t0⟩
      obtain ⟨va, val, vc, e1, hvr, hvc⟩ := read_bytes Try.underlying33 Try.underlying5 (by kernel_rfl) ⟨_, _, t1⟩
      rw [e0] at h0
      rw [e1] at h1
      exact ⟨⟨ka, kc, va, vc, ⟨key, val⟩⟩, h0, h1, ⟨hkr, hvr, hkc, hvc⟩⟩
    obtain ⟨l, hll, hR⟩ := list_of len _ each
    refine ⟨l, hll.symm, ⟨⟨ecs_len l, fun _ => ⟨x, rfl, fun j u hj => ?_⟩⟩, fun e he => ?_⟩, by omega⟩
    · have hjl : j < l.length * 2 := by rw [← ecs_len l]; exact (List.getElem?_eq_some_iff.1 hj).1
      have hk : j / 2 < l.length := by omega
      have h2 : j % 2 < 2 := Nat.mod_lt _ (by omega)
      have hjj : j = j / 2 * 2 + j % 2 := by omega
      rw [hjj, ecs_at l _ hk _ h2] at hj
      obtain ⟨h0, h1, _⟩ := hR (j / 2) hk
      rw [hjj]
      rcases (show j % 2 = 0 ∨ j % 2 = 1 by omega) with h3 | h3
      · rw [h3] at hj ⊢
        simp [EnV.cells] at hj
        rw [← hj]; exact h0
      · rw [h3] at hj ⊢
        simp [EnV.cells] at hj
        rw [← hj]; exact h1
    · obtain ⟨j, hj', rfl⟩ := List.getElem_of_mem he
      exact (hR j hj').2.2
set_option maxRecDepth 20000 in
theorem read_Op {k : Nat} {cs : List Value} {y : DataW H × List MemPlace} (hsz : cs.length = 3) (hf : DataW.trod enc Try.prog W base spare held k 50 cs = some y) : ∃ q : OpV, cs = q.cells.toList ∧ q.In W := by
  obtain ⟨ys, n, _, _, _, hyl, hfs⟩ := DataW.trod_struct Try.underlying50 hf
  have h0 := hfs 0 _ rfl
  have h1 := hfs 1 _ rfl
  have h2 := hfs 2 _ rfl
  have hy : ys.length = 3 := hyl
  rw [List.getElem?_eq_getElem (by omega)] at h0 h1 h2
  match cs, hsz with
  | [c0, c1, c2], _ =>
    obtain ⟨b, hb, _⟩ := DataW.trod_bool Try.underlying4 h0
    have hb : [c0] = [Value.bool b] := hb
    injection hb with hb
    subst hb
    obtain ⟨la, lo, lc, rfl, hlr, hlc⟩ := read_bytes Try.underlying33 Try.underlying5 (by kernel_rfl) ⟨_, _, h1⟩
    obtain ⟨ha, hi, hc, rfl, hhr, hhc⟩ := read_bytes Try.underlying33 Try.underlying5 (by kernel_rfl) ⟨_, _, h2⟩
    exact ⟨⟨la, lc, ha, hc, ⟨b, lo, hi⟩⟩, rfl, ⟨hlr, hhr, hlc, hhc⟩⟩
theorem open_OpL {a : Option Addr} {len cap : Nat} (h : DataW.Trod enc Try.prog W base spare held 23 (.slice a len cap) d p) :
    ∃ l : List OpV, len = l.length ∧ RdO W a l ∧ l.length ≤ cap := by
  have ce : Try.prog.cellsOf 50 = 3 := by kernel_rfl
  obtain ⟨fuel, hf⟩ := h
  rcases Deep.open_slice Try.underlying23 hf with ⟨hcs, _⟩ | ⟨x, l, c, m, n, D, Pl, hcs, hb, hl, hm, hmm, hx, hel⟩
  · simp [Value.cells] at hcs
    obtain ⟨rfl, rfl, rfl⟩ := hcs
    exact ⟨[], rfl, RdO.nil_ _ _, Nat.le_refl _⟩
  · simp [Value.cells] at hcs
    obtain ⟨rfl, rfl, rfl⟩ := hcs
    have hlm : len ≤ m := by rw [hmm]; split <;> omega
    have each : ∀ r, r < len → ∃ e : OpV, (∀ j u, (e.cells)[j]? = some u → W.cell? (x.add (r * 3 + j)) = some u) ∧ e.In W := by
      intro r hr
      obtain ⟨cs, h0, h1⟩ := hel r (by omega)
      rw [ce] at h0
      obtain ⟨_, hlen, hcell⟩ := World.cells?_some h0
      obtain ⟨q, rfl, hin⟩ := read_Op hlen h1
      refine ⟨q, fun j u hj => ?_, hin⟩
      have hj2 : j < 3 := (Array.getElem?_eq_some_iff.1 hj).1
      have h2 := hcell j hj2
      rw [← add_add', h2]
      simpa using hj
    obtain ⟨l, hll, hR⟩ := list_of len _ each
    have hin : ∀ e ∈ l, e.In W := fun e he => by
      obtain ⟨j, hj', rfl⟩ := List.getElem_of_mem he
      exact (hR j hj').2
    refine ⟨l, hll.symm, ⟨⟨ocs_len l, fun _ => ⟨x, rfl, fun j u hj => ?_⟩⟩, hin⟩, by omega⟩
    have hjl : j < l.length * 3 := by rw [← ocs_len l]; exact (List.getElem?_eq_some_iff.1 hj).1
    have hk : j / 3 < l.length := by omega
    have h2 : j % 3 < 3 := Nat.mod_lt _ (by omega)
    have hjj : j = j / 3 * 3 + j % 3 := by omega
    rw [hjj, ocs_at l _ hk _ h2] at hj
    rw [hjj]
    exact (hR (j / 3) hk).1 (j % 3) u hj
end

end Go.Proofs.Ytdekdblebflklaa
