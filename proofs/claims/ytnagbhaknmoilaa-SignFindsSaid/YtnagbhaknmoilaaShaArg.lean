
/- An array of 32 bytes as an argument. -/

import Derived.Test.YtnagbhaknmoilaaVintNum

import Derived.Test.YtnagbhaknmoilaaLaw

namespace Go.Proofs.Ytnagbhaknmoilaa

open Go.ChangeShapes Go.WideShapes Go.ChangeAt Go.RowKit

def byteOf : Value → UInt8
  | .int _ n => UInt8.ofNat n.toNat
  | _ => 0
section

variable {H : Type} {enc : TypeId × Value → H} {W : World} {base : Nat} {spare : Nat → Bool} {held : Bool} {d : DataW H} {p : List MemPlace}

theorem open_Arr32 {r : Reach} {b0 : Nat} {v : Value} (hv : Value.okWide Try.prog W r b0 30 v) (h : DataW.Trod enc Try.prog W base spare held 30 v d p) : ∃ l : List UInt8, v = .agg (bvs l).toArray ∧ l.length = 32 := by
  have hu := Try.underlying30
  simp only [Value.okWide, hu] at hv
  obtain ⟨xs, rfl, h2, _⟩ := hv
  have hsz : xs.size = 32 := by rw [h2]; kernel_rfl
  obtain ⟨fuel, hf⟩ := h
  obtain ⟨ys, m, _, _, _, hyl, hat⟩ := DataW.trod_array hu hf
  have hce : Try.prog.cellsOf 5 = 1 := by kernel_rfl
  refine ⟨xs.toList.map byteOf, ?_, by simp [hsz]⟩
  congr 1
  apply Array.ext'
  simp only [bvs, List.map_map]
  apply List.ext_getElem (by simp)
  intro i h3 h4
  have hi : i < 32 := by simpa [hsz] using h3
  have h5 := hat i hi
  rw [hce, List.getElem?_eq_getElem (by omega)] at h5
  simp only [Value.cells, Nat.mul_one] at h5
  obtain ⟨n, e1, _, wf⟩ := DataW.trod_int Try.underlying5 h5
  have h6 : xs.toList[i]'h3 = .int .u8 n := by
    rw [List.drop_eq_getElem_cons h3] at e1
    simpa using e1
  have hn := wf_u8 wf
  simp only [List.getElem_map, Function.comp_apply, h6, byteOf, bv, UInt8.toNat_ofNat', Value.int.injEq, true_and]
  omega
end

end Go.Proofs.Ytnagbhaknmoilaa
