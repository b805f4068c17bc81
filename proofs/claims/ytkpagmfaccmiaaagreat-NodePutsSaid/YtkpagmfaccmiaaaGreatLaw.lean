
/- Words for the last step: what an argument that came in reads as. -/

import Derived.Test.YtkpagmfaccmiaaaGreatSl

import Derived.Deep.Slices

import Derived.ProofKit

import Derived.OpenShut

import Derived.ShutString

import Derived.ChangeOld

namespace Go.Proofs.YtkpagmfaccmiaaaGreat

open Go.ChangeShapes Go.WideShapes Go.ChangeAt Go.RowKit

theorem wf_u8 {n : Int} (h : (Lit.int .u8 n).wf = true) : 0 ≤ n ∧ n < 256 := by
  simp [Lit.wf, IntKind.min, IntKind.max, IntKind.bits, IntKind.signed] at h
  omega

section

variable {H : Type} {enc : TypeId × Value → H} {P : Program} {W : World} {base : Nat} {spare : Nat → Bool} {held : Bool} {t e : TypeId} {a : Option Addr} {len cap : Nat} {d : DataW H} {p : List MemPlace}

theorem open_bytesB (hu : P.underlying t = some (.slice e)) (he : P.underlying e = some (.int .u8)) (hc : P.cellsOf e = 1) (h : DataW.Trod enc P W base spare held t (.slice a len cap) d p) :
    ∃ bs : List UInt8, len = bs.length ∧ RdB W a bs ∧ bs.length ≤ cap := by
  obtain ⟨fuel, hf⟩ := h
  rcases open_ints hu he hc hf with ⟨hcs, _⟩ | ⟨x, l, c, zs, hcs, _, hl, hm, hz, _, hcell, hwz⟩
  · simp [Value.cells] at hcs
    obtain ⟨rfl, rfl, rfl⟩ := hcs
    exact ⟨[], rfl, RdB.nil_ _ _, Nat.le_refl _⟩
  · simp [Value.cells] at hcs
    obtain ⟨rfl, rfl, rfl⟩ := hcs
    have hlz : len ≤ zs.length := by rw [hz]; split <;> omega
    have hlen : ((zs.take len).map fun n => UInt8.ofNat n.toNat).length = len := by simp; omega
    refine ⟨(zs.take len).map fun n => UInt8.ofNat n.toNat, hlen.symm, ⟨by rw [bvs_len]; omega, fun _ => ⟨x, rfl, fun j u hj => ?_⟩⟩, by omega⟩
    have hj' : j < len := by
      rcases Nat.lt_or_ge j len with h' | h'
      · exact h'
      · rw [List.getElem?_eq_none (by rw [bvs_len]; omega)] at hj; cases hj
    rw [bvs_get _ _ (by omega)] at hj
    injection hj with hj
    rw [hcell j (by omega), ← hj]
    have hg : zs.getD j 0 = zs[j]'(by omega) := by simp [List.getD, List.getElem?_eq_getElem (show j < zs.length by omega)]
    have hw := wf_u8 (hwz (zs[j]'(by omega)) (List.getElem_mem _))
    rw [hg]
    simp only [bv, List.getElem_map, List.getElem_take, Option.some.injEq, Value.int.injEq, true_and]
    rw [UInt8.toNat_ofNat', Nat.mod_eq_of_lt (by omega)]
    omega

theorem list_of {α : Type} (m : Nat) (R : Nat → α → Prop) (h : ∀ r, r < m → ∃ s, R r s) : ∃ l : List α, l.length = m ∧ ∀ r (hr : r < l.length), R r l[r] := by
  induction m with
  | zero => exact ⟨[], rfl, fun r hr => absurd hr (by simp)⟩
  | succ m ih =>
    obtain ⟨l, hl, hR⟩ := ih (fun r hr => h r (by omega))
    obtain ⟨s, hs⟩ := h m (by omega)
    refine ⟨l ++ [s], by simp [hl], fun r hr => ?_⟩
    by_cases hrm : r < l.length
    · rw [List.getElem_append_left hrm]; exact hR r hrm
    · have : r = l.length := by simp at hr; omega
      subst this
      simp only [List.getElem_concat_length]
      rw [hl]; exact hs

/-- A slice of slices of bytes that came in. -/
theorem open_bytesL {q : TypeId} (hu : P.underlying t = some (.slice e)) (he : P.underlying e = some (.slice q)) (hq : P.underlying q = some (.int .u8)) (ce : P.cellsOf e = 1) (cq : P.cellsOf q = 1)
    (h : DataW.Trod enc P W base spare held t (.slice a len cap) d p) :
    ∃ l : List Sl, len = l.length ∧ RdL W a l ∧ l.length ≤ cap ∧ ∀ s ∈ l, s.bs.length ≤ s.c := by
  obtain ⟨fuel, hf⟩ := h
  rcases Deep.open_slice1 hu ce hf with ⟨hcs, _⟩ | ⟨x, l, c, m, n, V, D, Pl, hcs, hb, hl, hm, hmm, hx, hel⟩
  · simp [Value.cells] at hcs
    obtain ⟨rfl, rfl, rfl⟩ := hcs
    exact ⟨[], rfl, ⟨Rd.nil_ _ _ _, by simp⟩, Nat.le_refl _, by simp⟩
  · simp [Value.cells] at hcs
    obtain ⟨rfl, rfl, rfl⟩ := hcs
    have hlm : len ≤ m := by rw [hmm]; split <;> omega
    have each : ∀ r, r < len → ∃ s : Sl, W.cell? (x.add r) = some s.val ∧ RdB W s.a s.bs ∧ s.bs.length ≤ s.c := by
      intro r hr
      obtain ⟨hc, ht⟩ := hel r (by omega)
      have hv : ∃ a' n' c', V r = .slice a' n' c' := by
        rcases DataW.trod_slice he ht with ⟨h0, _⟩ | ⟨a', l', c', _, _, _, _, h0, _⟩
        · simp only [List.cons.injEq, and_true] at h0; exact ⟨_, _, _, h0⟩
        · simp only [List.cons.injEq, and_true] at h0; exact ⟨_, _, _, h0⟩
      obtain ⟨a', n', c', hv⟩ := hv
      rw [hv] at hc ht
      obtain ⟨bs, hn, hrd, hle⟩ := open_bytesB (enc := enc) (base := base) (spare := spare) (held := held) (d := D r) (p := Pl r) he hq cq ⟨_, by simpa [Value.cells] using ht⟩
      subst hn
      exact ⟨⟨a', bs, c'⟩, hc, hrd, hle⟩
    obtain ⟨l, hll, hR⟩ := list_of len _ each
    refine ⟨l, hll.symm, ⟨⟨by simp, fun _ => ⟨x, rfl, fun j u hj => ?_⟩⟩, fun s hs => ?_⟩, by omega, fun s hs => ?_⟩
    · rw [List.getElem?_map] at hj
      obtain ⟨s, hs, rfl⟩ := Option.map_eq_some_iff.1 hj
      obtain ⟨hj', rfl⟩ := List.getElem?_eq_some_iff.1 hs
      exact (hR j hj').1
    · obtain ⟨j, hj', rfl⟩ := List.getElem_of_mem hs
      exact (hR j hj').2.1
    · obtain ⟨j, hj', rfl⟩ := List.getElem_of_mem hs
      exact (hR j hj').2.2
end

end Go.Proofs.YtkpagmfaccmiaaaGreat
