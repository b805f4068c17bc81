
/- Lists of a file's block sums as arguments. -/

import Derived.Test.YtnagbhaknmoilaaFields

import Derived.Test.YtnagbhaknmoilaaShaArg

import Derived.Test.YtnagbhaknmoilaaSgnSig

import Derived.Deep.Slices

import Derived.Deep.SlicePairs

namespace Go.Proofs.Ytnagbhaknmoilaa

open Go.RowKit

section

open Go.ChangeShapes Go.WideShapes Go.ChangeAt Go.Joins

variable {H : Type} {enc : TypeId × Value → H} {W : World} {base : Nat} {spare : Nat → Bool} {held : Bool} {d : DataW H} {p : List MemPlace}

theorem read_arr22 {P : Program} {n k : Nat} {t e : TypeId} {cs : List Value} {y : DataW H × List MemPlace} (hu : P.underlying t = some (.array n e)) (he : P.underlying e = some (.int .u8)) (hce : P.cellsOf e = 1) (hsz : cs.length = n)
    (h : DataW.trod enc P W base spare held k t cs = some y) : ∃ l : List UInt8, cs = bvs l ∧ l.length = n := by
  obtain ⟨ys, m, _, _, _, hyl, hat⟩ := DataW.trod_array hu h
  refine ⟨cs.map byteOf, ?_, by simp [hsz]⟩
  simp only [bvs, List.map_map]
  apply List.ext_getElem (by simp)
  intro i h3 h4
  have hi : i < n := by simpa [hsz] using h3
  have h5 := hat i hi
  rw [hce, List.getElem?_eq_getElem (by omega)] at h5
  simp only [Nat.mul_one] at h5
  obtain ⟨z, e1, _, wf⟩ := DataW.trod_int he h5
  have h6 : cs[i]'h3 = .int .u8 z := by
    rw [List.drop_eq_getElem_cons h3] at e1
    simp only [List.take_succ_cons, List.take_zero, List.cons.injEq, and_true] at e1
    exact e1
  have hn := wf_u8 wf
  simp only [List.getElem_map, Function.comp_apply, h6, byteOf, bv, UInt8.toNat_ofNat', Value.int.injEq, true_and]
  omega
theorem read_Sig {k : Nat} {cs : List Value} {y : DataW H × List MemPlace} (hsz : cs.length = 33) (hf : DataW.trod enc Try.prog W base spare held k 33 cs = some y) : ∃ s : Sg, cs = s.cl ∧ s.Ok := by
  obtain ⟨ys, n, _, _, _, hyl, hfs⟩ := DataW.trod_struct Try.underlying33 hf
  have h0 := hfs 0 _ rfl
  have h1 := hfs 1 _ rfl
  have hy : ys.length = 2 := hyl
  rw [List.getElem?_eq_getElem (by omega)] at h0 h1
  match cs, hsz with
  | c0 :: rest, hsz =>
    have hr : rest.length = 32 := by simpa using hsz
    obtain ⟨x, rfl, hx⟩ := read_u32 Try.underlying29 ⟨_, _, h0⟩
    obtain ⟨s, hs, hsl⟩ := read_arr22 Try.underlying31 Try.underlying5 (by kernel_rfl) (by show (List.take 32 rest).length = 32; rw [List.length_take]; omega) h1
    have hs2 : rest = bvs s := by
      rw [← hs]
      show rest = List.take 32 rest
      rw [List.take_of_length_le (by omega)]
    subst hs2
    exact ⟨⟨x, s⟩, rfl, ⟨hx, hsl⟩⟩
theorem open_SigL {a : Option Addr} {len cap : Nat} (h : DataW.Trod enc Try.prog W base spare held 24 (.slice a len cap) d p) :
    ∃ l : List Sg, len = l.length ∧ RdG W a l ∧ l.length ≤ cap := by
  have ce : Try.prog.cellsOf 33 = 33 := by kernel_rfl
  obtain ⟨fuel, hf⟩ := h
  rcases Deep.open_slice Try.underlying24 hf with ⟨hcs, _⟩ | ⟨x, l, c, m, n, D, Pl, hcs, hb, hl, hm, hmm, hx, hel⟩
  · simp [Value.cells] at hcs
    obtain ⟨rfl, rfl, rfl⟩ := hcs
    exact ⟨[], rfl, RdG.nil_ _ _, Nat.le_refl _⟩
  · simp [Value.cells] at hcs
    obtain ⟨rfl, rfl, rfl⟩ := hcs
    have hlm : len ≤ m := by rw [hmm]; split <;> omega
    have each : ∀ r, r < len → ∃ e : Sg, (∀ j u, (e.cl)[j]? = some u → W.cell? (x.add (r * 33 + j)) = some u) ∧ e.Ok := by
      intro r hr
      obtain ⟨cs, h0, h1⟩ := hel r (by omega)
      rw [ce] at h0
      obtain ⟨_, hlen, hcell⟩ := World.cells?_some h0
      obtain ⟨q, rfl, hin⟩ := read_Sig hlen h1
      refine ⟨q, fun j u hj => ?_, hin⟩
      have hj2 : j < 33 := by
        have := (List.getElem?_eq_some_iff.1 hj).1
        rwa [Sg.cl_len hin] at this
      have h2 := hcell j hj2
      rw [← add_add', h2]
      simpa using hj
    obtain ⟨l, hll, hR⟩ := list_of len _ each
    have hin : ∀ e ∈ l, e.Ok := fun e he => by
      obtain ⟨j, hj', rfl⟩ := List.getElem_of_mem he
      exact (hR j hj').2
    have hs : ∀ e ∈ l, e.cl.length = 33 := fun e he => Sg.cl_len (hin e he)
    refine ⟨l, hll.symm, ⟨⟨flat_len _ 33 l hs, fun _ => ⟨x, rfl, fun j u hj => ?_⟩⟩, hin⟩, by omega⟩
    have hjl : j < l.length * 33 := by rw [← flat_len Sg.cl 33 l hs]; exact (List.getElem?_eq_some_iff.1 hj).1
    have hk : j / 33 < l.length := by omega
    have h2 : j % 33 < 33 := Nat.mod_lt _ (by omega)
    have hjj : j = j / 33 * 33 + j % 33 := by omega
    rw [hjj, sgs, flat_at _ 33 l hs _ hk _ h2] at hj
    rw [hjj]
    exact (hR (j / 33) hk).1 (j % 33) u hj
end

end Go.Proofs.Ytnagbhaknmoilaa
