
/- Entries and parts of ranges as arguments. -/

import Derived.Test.YtiiekdhlcmaabaaFields

import Derived.Test.YtiiekdhlcmaabaaShaArg

import Derived.Test.YtiiekdhlcmaabaaPart

import Derived.Deep.SlicePairs

namespace Go.Proofs.Ytiiekdhlcmaabaa

open Go.RowKit

section

open Go.ChangeShapes Go.WideShapes Go.ChangeAt Go.Joins

variable {H : Type} {enc : TypeId × Value → H} {W : World} {base : Nat} {spare : Nat → Bool} {held : Bool} {d : DataW H} {p : List MemPlace}

theorem open_EntryL {a : Option Addr} {len cap : Nat} (h : DataW.Trod enc Try.prog W base spare held 22 (.slice a len cap) d p) :
    ∃ l : List EnV, len = l.length ∧ RdE W a l ∧ l.length ≤ cap := by
  obtain ⟨fuel, hf⟩ := h
  rcases Deep.open_slice_pairs Try.underlying22 Try.underlying49 (by kernel_rfl) rfl rfl (by kernel_rfl) (by kernel_rfl) hf with ⟨hcs, _⟩ | ⟨x, l, c, m, n, V0, V1, D0, D1, P0, P1, hcs, hb, hl, hm, hmm, hx, hel⟩
  · simp [Value.cells] at hcs
    obtain ⟨rfl, rfl, rfl⟩ := hcs
    exact ⟨[], rfl, RdE.nil_ _ _, Nat.le_refl _⟩
  · simp [Value.cells] at hcs
    obtain ⟨rfl, rfl, rfl⟩ := hcs
    have hlm : len ≤ m := by rw [hmm]; split <;> omega
    have each : ∀ r, r < len → ∃ e : EnV, W.cell? (x.add (r * 2)) = some (.slice e.ka e.x.key.length e.kc) ∧ W.cell? (x.add (r * 2 + 1)) = some (.slice e.va e.x.val.length e.vc) ∧ e.In W := by
      intro r hr
      obtain ⟨h0, h1, t0, t1⟩ := hel r (by omega)
      obtain ⟨ka, key, kc, e0, hkr, hkc⟩ := read_bytes Try.underlying23 Try.underlying5 (by kernel_rfl) ⟨_, _, t0⟩
      obtain ⟨va, val, vc, e1, hvr, hvc⟩ := read_bytes Try.underlying23 Try.underlying5 (by kernel_rfl) ⟨_, _, t1⟩
      rw [e0] at h0
      rw [e1] at h1
      exact ⟨⟨ka, kc, va, vc, ⟨key, val⟩⟩, h0, h1, ⟨hkr, hvr, hkc, hvc⟩⟩
    obtain ⟨l, hll, hR⟩ := list_of len _ each
    refine ⟨l, hll.symm, ⟨⟨ecs_len l, fun _ => ⟨x, rfl, fun j u hj => ?_⟩⟩, fun e he => ?_⟩, by omega⟩
    · have hjl : j < l.length * 2 := by rw [← ecs_len l]; exact (List.getElem?_eq_some_iff.1 hj).1
      have hk : j / 2 < l.length := by omega
      have h2 : j % 2 < 2 := Nat.mod_lt _ (by omega)
      have hjj : j = j / 2 * 2 + j % 2 := by omega
      rw [hjj, ecs_at l _ hk _ h2] at hj
      obtain ⟨h0, h1, _⟩ := hR (j / 2) hk
      rw [hjj]
      rcases (show j % 2 = 0 ∨ j % 2 = 1 by omega) with h3 | h3
      · rw [h3] at hj ⊢
        simp [EnV.cells] at hj
        rw [← hj]; exact h0
      · rw [h3] at hj ⊢
        simp [EnV.cells] at hj
        rw [← hj]; exact h1
    · obtain ⟨j, hj', rfl⟩ := List.getElem_of_mem he
      exact (hR j hj').2.2
theorem read_arr {P : Program} {n k : Nat} {t e : TypeId} {cs : List Value} {y : DataW H × List MemPlace} (hu : P.underlying t = some (.array n e)) (he : P.underlying e = some (.int .u8)) (hce : P.cellsOf e = 1) (hsz : cs.length = n)
    (h : DataW.trod enc P W base spare held k t cs = some y) : ∃ l : List UInt8, cs = bvs l ∧ l.length = n := by
  obtain ⟨ys, m, _, _, _, hyl, hat⟩ := DataW.trod_array hu h
  refine ⟨cs.map byteOf, ?_, by simp [hsz]⟩
  simp only [bvs, List.map_map]
  apply List.ext_getElem (by simp)
  intro i h3 h4
  have hi : i < n := by simpa [hsz] using h3
  have h5 := hat i hi
  rw [hce, List.getElem?_eq_getElem (by omega)] at h5
  simp only [Nat.mul_one] at h5
  obtain ⟨z, e1, _, wf⟩ := DataW.trod_int he h5
  have h6 : cs[i]'h3 = .int .u8 z := by
    rw [List.drop_eq_getElem_cons h3] at e1
    simp only [List.take_succ_cons, List.take_zero, List.cons.injEq, and_true] at e1
    exact e1
  have hn := wf_u8 wf
  simp only [List.getElem_map, Function.comp_apply, h6, byteOf, bv, UInt8.toNat_ofNat', Value.int.injEq, true_and]
  omega
theorem read_Part {k : Nat} {cs : List Value} {y : DataW H × List MemPlace} (hsz : cs.length = 35) (hf : DataW.trod enc Try.prog W base spare held k 33 cs = some y) : ∃ q : PtV, cs = q.cells.toList ∧ q.In W := by
  obtain ⟨ys, n, _, _, _, hyl, hfs⟩ := DataW.trod_struct Try.underlying33 hf
  have h0 := hfs 0 _ rfl
  have h1 := hfs 1 _ rfl
  have h2 := hfs 2 _ rfl
  have h3 := hfs 3 _ rfl
  have hy : ys.length = 4 := hyl
  rw [List.getElem?_eq_getElem (by omega)] at h0 h1 h2 h3
  match cs, hsz with
  | c0 :: c1 :: c2 :: rest, hsz =>
    have hr : rest.length = 32 := by simpa using hsz
    obtain ⟨la, lo, lc, rfl, hlr, hlc⟩ := read_bytes Try.underlying23 Try.underlying5 (by kernel_rfl) ⟨_, _, h0⟩
    obtain ⟨ha, hi, hc, rfl, hhr, hhc⟩ := read_bytes Try.underlying23 Try.underlying5 (by kernel_rfl) ⟨_, _, h1⟩
    obtain ⟨count, rfl, hc1, hc2⟩ := read_i64 Try.underlying3 ⟨_, _, h2⟩
    obtain ⟨s, hs, hsl⟩ := read_arr Try.underlying31 Try.underlying5 (by kernel_rfl) (by show (List.take 32 rest).length = 32; rw [List.length_take]; omega) h3
    have hs2 : rest = bvs s := by
      rw [← hs]
      show rest = List.take 32 rest
      rw [List.take_of_length_le (by omega)]
    subst hs2
    refine ⟨⟨la, lc, ha, hc, ⟨lo, hi, count, s⟩⟩, ?_, ⟨hlr, hhr, hlc, hhc, hsl, hc1, hc2⟩⟩
    simp [PtV.cells]
theorem open_Part {r : Reach} {b0 : Nat} {v : Value} (hv : Value.okWide Try.prog W r b0 33 v) (h : DataW.Trod enc Try.prog W base spare held 33 v d p) : ∃ q : PtV, v = q.val ∧ q.In W := by
  obtain ⟨cs, rfl, hsz⟩ := okWide_struct Try.underlying33 hv
  have hsz : cs.toList.length = 35 := by rw [Array.length_toList, hsz]; kernel_rfl
  obtain ⟨fuel, hf⟩ := h
  obtain ⟨q, hq, hin⟩ := read_Part hsz (by simpa [Value.cells] using hf)
  exact ⟨q, by rw [PtV.val, Array.ext' hq], hin⟩
end

end Go.Proofs.Ytiiekdhlcmaabaa
