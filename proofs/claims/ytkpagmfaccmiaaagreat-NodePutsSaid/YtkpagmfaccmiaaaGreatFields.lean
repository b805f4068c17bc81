
/- Words for the last step: a struct of one-cell fields that came in, by value; a slice of such structs. -/

import Derived.Test.YtkpagmfaccmiaaaGreatLaw

import Derived.Lib.SmallJoins

import Derived.Deep.Fields

import Derived.ChangeSame

namespace Go.Proofs.YtkpagmfaccmiaaaGreat

open Go.Joins Go.ChangeShapes Go.WideShapes Go.RowKit Go.Deep Go.ChangeAt

section

variable {H : Type} {enc : TypeId × Value → H} {P : Program} {w : World} {base : Nat} {spare : Nat → Bool} {held : Bool}

/-- Each field of a struct of one-cell fields reads by itself. -/
theorem fields_read {t : TypeId} {fs : Array Field} {fuel : Nat} {cs : List Value} {x : DataW H × List MemPlace} (hs : P.underlying t = some (.struct fs)) (hone : oneCellFields P fs = true)
    (h : DataW.trod enc P w base spare held fuel t cs = some x) (j : Nat) (f : Field) (c : Value) (hj : fs[j]? = some f) (hc : cs[j]? = some c) :
    ∃ n y, DataW.trod enc P w base spare held n f.type [c] = some y := by
  obtain ⟨ys, n, _, _, _, hyl, hf⟩ := DataW.trod_struct hs h
  obtain ⟨ho, hk⟩ := hone_of hone j f hj
  have h1 := hf j f hj
  rw [ho, hk] at h1
  have hjl : j < fs.size := (Array.getElem?_eq_some_iff.1 hj).1
  obtain ⟨hcl, hce⟩ := List.getElem?_eq_some_iff.1 hc
  rw [show (cs.drop j).take 1 = [c] by rw [List.drop_eq_getElem_cons hcl, hce]; rfl] at h1
  exact ⟨n, ys[j]'(by omega), h1.trans (List.getElem?_eq_getElem (by omega))⟩
theorem open_fieldsV {r : Reach} {b0 : Nat} {t : TypeId} {fs : Array Field} {v : Value} {d : DataW H} {p : List MemPlace} (hs : P.underlying t = some (.struct fs)) (hone : oneCellFields P fs = true) (hC : P.cellsOf t = fs.size)
    (hv : Value.okWide P w r b0 t v) (h : DataW.Trod enc P w base spare held t v d p) :
    ∃ cs : List Value, v = .agg cs.toArray ∧ cs.length = fs.size ∧ ∀ (j : Nat) (f : Field) (c : Value), fs[j]? = some f → cs[j]? = some c → ∃ n y, DataW.trod enc P w base spare held n f.type [c] = some y := by
  obtain ⟨cs, rfl, hsz⟩ := okWide_struct hs hv
  obtain ⟨fuel, hf⟩ := h
  refine ⟨cs.toList, by simp, by simpa using hsz.trans hC, fun j f c hj hc => fields_read hs hone (by simpa [Value.cells] using hf) j f c hj hc⟩
theorem read_int {t : TypeId} {k : IntKind} (hu : P.underlying t = some (.int k)) {c : Value} (h : ∃ n y, DataW.trod enc P w base spare held n t [c] = some y) : ∃ x, c = .int k x ∧ (Lit.int k x).wf = true := by
  obtain ⟨n, y, h⟩ := h
  obtain ⟨x, e, _, wx⟩ := DataW.trod_int hu h
  simp at e
  exact ⟨x, e, wx⟩
theorem read_u32 {t : TypeId} (hu : P.underlying t = some (.int .u32)) {c : Value} (h : ∃ n y, DataW.trod enc P w base spare held n t [c] = some y) : ∃ x : Nat, c = .int .u32 (x : Int) ∧ x < 4294967296 := by
  obtain ⟨x, rfl, wx⟩ := read_int hu h
  simp [Lit.wf, IntKind.min, IntKind.max, IntKind.bits, IntKind.signed] at wx
  exact ⟨x.toNat, by rw [Int.toNat_of_nonneg wx.1], by omega⟩
theorem read_u64 {t : TypeId} (hu : P.underlying t = some (.int .u64)) {c : Value} (h : ∃ n y, DataW.trod enc P w base spare held n t [c] = some y) : ∃ x : Nat, c = .int .u64 (x : Int) ∧ x < 18446744073709551616 := by
  obtain ⟨x, rfl, wx⟩ := read_int hu h
  simp [Lit.wf, IntKind.min, IntKind.max, IntKind.bits, IntKind.signed] at wx
  exact ⟨x.toNat, by rw [Int.toNat_of_nonneg wx.1], by omega⟩
theorem read_i64 {t : TypeId} (hu : P.underlying t = some (.int .i64)) {c : Value} (h : ∃ n y, DataW.trod enc P w base spare held n t [c] = some y) : ∃ x : Int, c = .int .i64 x ∧ -9223372036854775808 ≤ x ∧ x ≤ 9223372036854775807 := by
  obtain ⟨x, rfl, wx⟩ := read_int hu h
  simp [Lit.wf, IntKind.min, IntKind.max, IntKind.bits, IntKind.signed] at wx
  exact ⟨x, rfl, by omega, by omega⟩
theorem read_bytes {t e : TypeId} (hu : P.underlying t = some (.slice e)) (he : P.underlying e = some (.int .u8)) (hc : P.cellsOf e = 1) {c : Value} (h : ∃ n y, DataW.trod enc P w base spare held n t [c] = some y) :
    ∃ A bs cap, c = .slice A (bs : List UInt8).length cap ∧ RdB w A bs ∧ bs.length ≤ cap := by
  obtain ⟨n, y, h⟩ := h
  have hsl : ∃ a len cap, c = .slice a len cap := by
    rcases open_ints hu he hc h with ⟨hcs, _⟩ | ⟨a, l, c, zs, hcs, _⟩
    · simp at hcs; exact ⟨_, _, _, hcs⟩
    · simp at hcs; exact ⟨_, _, _, hcs⟩
  obtain ⟨a, len, cap, rfl⟩ := hsl
  obtain ⟨bs, rfl, hr, hl⟩ := open_bytesB (enc := enc) (base := base) (spare := spare) (held := held) (d := y.1) (p := y.2) hu he hc ⟨n, by simpa [Value.cells] using h⟩
  exact ⟨a, bs, cap, rfl, hr, hl⟩
end

end Go.Proofs.YtkpagmfaccmiaaaGreat
