
/- Deeds as arguments. -/

import Derived.Test.YtgfanklhihciaaaFields

import Derived.Test.YtgfanklhihciaaaSlices

import Derived.Test.YtgfanklhihciaaaDeed

import Derived.Deep.Slices

namespace Go.Proofs.Ytgfanklhihciaaa

open Go.RowKit

section

open Go.ChangeShapes Go.WideShapes Go.ChangeAt Go.Joins

variable {H : Type} {enc : TypeId × Value → H} {W : World} {base : Nat} {spare : Nat → Bool} {held : Bool} {d : DataW H} {p : List MemPlace}

set_option maxRecDepth 20000 in
theorem read_Deed {k : Nat} {cs : List Value} {y : DataW H × List MemPlace} (hsz : cs.length = 3) (hf : DataW.trod enc Try.prog W base spare held k 32 cs = some y) : ∃ q : DeV, cs = q.cells.toList ∧ q.In W := by
  obtain ⟨ys, n, _, _, _, hyl, hfs⟩ := DataW.trod_struct Try.underlying32 hf
  have h0 := hfs 0 _ rfl
  have h1 := hfs 1 _ rfl
  have h2 := hfs 2 _ rfl
  have hy : ys.length = 3 := hyl
  rw [List.getElem?_eq_getElem (by omega)] at h0 h1 h2
  match cs, hsz with
  | [c0, c1, c2], _ =>
    obtain ⟨x, e0, _, wx⟩ := DataW.trod_int Try.underlying3 h0
    obtain ⟨y, e1, _, wy⟩ := DataW.trod_int Try.underlying3 h1
    have f0 : [c0] = [Value.int .i64 x] := e0
    have f1 : [c1] = [Value.int .i64 y] := e1
    injection f0 with f0
    injection f1 with f1
    subst f0 f1
    obtain ⟨pa, p, pc, rfl, hr, hc⟩ := read_bytes Try.underlying30 Try.underlying5 (by kernel_rfl) ⟨_, _, h2⟩
    refine ⟨⟨pa, pc, ⟨x, y, p⟩⟩, rfl, ⟨hr, hc, ?_, ?_⟩⟩
    · simp [Lit.wf, IntKind.min, IntKind.max, IntKind.bits, IntKind.signed] at wx
      show -9223372036854775808 ≤ x ∧ x < 9223372036854775808
      omega
    · simp [Lit.wf, IntKind.min, IntKind.max, IntKind.bits, IntKind.signed] at wy
      show -9223372036854775808 ≤ y ∧ y < 9223372036854775808
      omega
theorem open_DeedL {a : Option Addr} {len cap : Nat} (h : DataW.Trod enc Try.prog W base spare held 22 (.slice a len cap) d p) :
    ∃ l : List DeV, len = l.length ∧ RdD W a l ∧ l.length ≤ cap := by
  have ce : Try.prog.cellsOf 32 = 3 := by kernel_rfl
  obtain ⟨fuel, hf⟩ := h
  rcases Deep.open_slice Try.underlying22 hf with ⟨hcs, _⟩ | ⟨x, l, c, m, n, D, Pl, hcs, hb, hl, hm, hmm, hx, hel⟩
  · simp [Value.cells] at hcs
    obtain ⟨rfl, rfl, rfl⟩ := hcs
    exact ⟨[], rfl, RdD.nil_ _ _, Nat.le_refl _⟩
  · simp [Value.cells] at hcs
    obtain ⟨rfl, rfl, rfl⟩ := hcs
    have hlm : len ≤ m := by rw [hmm]; split <;> omega
    have each : ∀ r, r < len → ∃ e : DeV, (∀ j u, (e.cells)[j]? = some u → W.cell? (x.add (r * 3 + j)) = some u) ∧ e.In W := by
      intro r hr
      obtain ⟨cs, h0, h1⟩ := hel r (by omega)
      rw [ce] at h0
      obtain ⟨_, hlen, hcell⟩ := World.cells?_some h0
      obtain ⟨q, rfl, hin⟩ := read_Deed hlen h1
      refine ⟨q, fun j u hj => ?_, hin⟩
      have hj2 : j < 3 := (Array.getElem?_eq_some_iff.1 hj).1
      have h2 := hcell j hj2
      rw [← add_add', h2]
      simpa using hj
    obtain ⟨l, hll, hR⟩ := list_of len _ each
    have hin : ∀ e ∈ l, e.In W := fun e he => by
      obtain ⟨j, hj', rfl⟩ := List.getElem_of_mem he
      exact (hR j hj').2
    refine ⟨l, hll.symm, ⟨⟨dcs_len l, fun _ => ⟨x, rfl, fun j u hj => ?_⟩⟩, hin⟩, by omega⟩
    have hjl : j < l.length * 3 := by rw [← dcs_len l]; exact (List.getElem?_eq_some_iff.1 hj).1
    have hk : j / 3 < l.length := by omega
    have h2 : j % 3 < 3 := Nat.mod_lt _ (by omega)
    have hjj : j = j / 3 * 3 + j % 3 := by omega
    rw [hjj, dcs_at l _ hk _ h2] at hj
    rw [hjj]
    exact (hR (j / 3) hk).1 (j % 3) u hj
theorem open_Deed {r : Reach} {b0 : Nat} {v : Value} (hv : Value.okWide Try.prog W r b0 32 v) (h : DataW.Trod enc Try.prog W base spare held 32 v d p) : ∃ q : DeV, v = q.val ∧ q.In W := by
  obtain ⟨cs, rfl, hsz⟩ := okWide_struct Try.underlying32 hv
  have hsz : cs.toList.length = 3 := by rw [Array.length_toList, hsz]; kernel_rfl
  obtain ⟨fuel, hf⟩ := h
  obtain ⟨q, hq, hin⟩ := read_Deed hsz (by simpa [Value.cells] using hf)
  exact ⟨q, by rw [DeV.val, Array.ext' hq], hin⟩
end

end Go.Proofs.Ytgfanklhihciaaa
