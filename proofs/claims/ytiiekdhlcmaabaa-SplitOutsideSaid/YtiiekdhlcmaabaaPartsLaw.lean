
/- Lists of parts of ranges as arguments. -/

import Derived.Test.YtiiekdhlcmaabaaEntLaw

import Derived.Test.YtiiekdhlcmaabaaParts

namespace Go.Proofs.Ytiiekdhlcmaabaa

open Go.RowKit

section

open Go.ChangeShapes Go.WideShapes Go.ChangeAt Go.Joins

variable {H : Type} {enc : TypeId × Value → H} {W : World} {base : Nat} {spare : Nat → Bool} {held : Bool} {d : DataW H} {p : List MemPlace}

theorem open_PartL {a : Option Addr} {len cap : Nat} (h : DataW.Trod enc Try.prog W base spare held 27 (.slice a len cap) d p) :
    ∃ l : List PtV, len = l.length ∧ RdP W a l ∧ l.length ≤ cap := by
  have ce : Try.prog.cellsOf 33 = 35 := by kernel_rfl
  obtain ⟨fuel, hf⟩ := h
  rcases Deep.open_slice Try.underlying27 hf with ⟨hcs, _⟩ | ⟨x, l, c, m, n, D, Pl, hcs, hb, hl, hm, hmm, hx, hel⟩
  · simp [Value.cells] at hcs
    obtain ⟨rfl, rfl, rfl⟩ := hcs
    exact ⟨[], rfl, RdP.nil_ _ _, Nat.le_refl _⟩
  · simp [Value.cells] at hcs
    obtain ⟨rfl, rfl, rfl⟩ := hcs
    have hlm : len ≤ m := by rw [hmm]; split <;> omega
    have each : ∀ r, r < len → ∃ e : PtV, (∀ j u, (e.cells)[j]? = some u → W.cell? (x.add (r * 35 + j)) = some u) ∧ e.In W := by
      intro r hr
      obtain ⟨cs, h0, h1⟩ := hel r (by omega)
      rw [ce] at h0
      obtain ⟨_, hlen, hcell⟩ := World.cells?_some h0
      obtain ⟨q, rfl, hin⟩ := read_Part hlen h1
      refine ⟨q, fun j u hj => ?_, hin⟩
      have hj2 : j < 35 := by
        have := (Array.getElem?_eq_some_iff.1 hj).1
        rwa [psize hin.sum] at this
      have h2 := hcell j hj2
      rw [← add_add', h2]
      simpa using hj
    obtain ⟨l, hll, hR⟩ := list_of len _ each
    have hin : ∀ e ∈ l, e.In W := fun e he => by
      obtain ⟨j, hj', rfl⟩ := List.getElem_of_mem he
      exact (hR j hj').2
    have hs : ∀ e ∈ l, e.cells.toList.length = 35 := fun e he => pcell_len (hin e he).sum
    refine ⟨l, hll.symm, ⟨⟨flat_len _ 35 l hs, fun _ => ⟨x, rfl, fun j u hj => ?_⟩⟩, hin⟩, by omega⟩
    have hjl : j < l.length * 35 := by rw [← flat_len (fun p : PtV => p.cells.toList) 35 l hs]; exact (List.getElem?_eq_some_iff.1 hj).1
    have hk : j / 35 < l.length := by omega
    have h2 : j % 35 < 35 := Nat.mod_lt _ (by omega)
    have hjj : j = j / 35 * 35 + j % 35 := by omega
    rw [hjj, pcs, flat_at _ 35 l hs _ hk _ h2] at hj
    rw [hjj]
    exact (hR (j / 35) hk).1 (j % 35) u (by simpa using hj)
end

end Go.Proofs.Ytiiekdhlcmaabaa
