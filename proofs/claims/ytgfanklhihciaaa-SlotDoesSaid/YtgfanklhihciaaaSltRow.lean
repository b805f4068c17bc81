
/- The document's body in memory (layer 6): its row and its list of cells while they change. -/

import Derived.Test.YtgfanklhihciaaaSltRef

import Derived.Test.YtgfanklhihciaaaSltWrite

namespace Go.Proofs.Ytgfanklhihciaaa

open Go.RowKit

/-- The row of a body and the cells of its list, whatever they hold. -/
structure MC (w : World) (g : Nat) (A : Option Addr) (c : Nat) (L : List ScV) (t : Nat) : Prop where
  row : w.heap[g]? = some (.cells #[.int .i64 (t : Int), .slice A L.length c] 50 (0, 0))
  own : Own w (g + 1) 54 2 A L.length c (scs L)
  each : ∀ e ∈ L, Own w (g + 1) 5 1 e.pa e.x.p.length e.pc (bvs e.x.p)
theorem MAt.mc {w : World} {g : Nat} {A : Option Addr} {c : Nat} {L : List ScV} {m : SBody} (h : MAt w g A c L m) : MC w g A c L m.top := ⟨h.row, h.own, h.each⟩
theorem Own.row_ge {w : World} {B s n c k : Nat} {e : TypeId} {A : Option Addr} {xs : List Value} (h : Own w B e s A n c xs) (hk : ownRow A c = some k) : B ≤ k ∧ ∃ cur, w.heap[k]? = some (.cells cur e (0, 0)) := by
  unfold ownRow at hk
  split at hk
  · cases hk
  · rename_i hc
    rcases h.mem with h0 | ⟨g', off, cur, hA, hb, hg, _⟩
    · exact absurd h0 hc
    · rw [hA] at hk
      injection hk with hk
      have : g' = k := hk
      subst this
      exact ⟨hb, cur, hg⟩
theorem grown_at (w : World) (ad : Addr) (j : Nat) (v : Value) : w.grownBy (w.setCell (ad.add j) v) (some ad.block) := ⟨rfl, rfl, rfl, by simp [World.setCell], fun i _ hn => Below.heap_setCell w (ad.add j) v i (fun e => hn (by rw [e, add_block]))⟩
section

variable {w w' : World} {g : Nat} {A : Option Addr} {c : Nat} {L : List ScV} {t : Nat}

theorem MC.at_ (h : MC w g A c L t) {k : Nat} (hk : k < L.length) : ∃ ad, A = some ad ∧ w.cell? (ad.add (k * 2)) = some (.int .i64 (L[k].x.pos : Int)) ∧ w.cell? ⟨(ad.add (k * 2)).block, (ad.add (k * 2)).off + 1, none⟩ = some (.slice L[k].pa L[k].x.p.length L[k].pc) := by
  obtain ⟨ad, e, hc⟩ := h.own.rd.2 (by intro e; have := scs_len L; rw [e] at this; simp at this; omega)
  have key : ∀ j u, (L[k].cells)[j]? = some u → w.cell? ((ad.add (k * 2)).add j) = some u := fun j u hj => by
    have hj2 : j < 2 := (Array.getElem?_eq_some_iff.1 hj).1
    rw [add_add']
    refine hc _ u ?_
    rw [scs_at L k hk j hj2]; exact hj
  exact ⟨ad, e, key 0 _ rfl, key 1 _ rfl⟩
theorem MC.top (h : MC w g A c L t) : w.cell? ⟨g, 0, none⟩ = some (.int .i64 (t : Int)) := by rw [cell_of_row w g 0 _ _ _ h.row]; rfl
theorem MC.list (h : MC w g A c L t) : w.cell? ⟨g, 1, none⟩ = some (.slice A L.length c) := by rw [cell_of_row w g 1 _ _ _ h.row]; rfl
theorem MC.frozen (h : MC w g A c L t) (j : Nat) : w.frozen? ⟨g, j, none⟩ = false := frozen_of_row w g j _ _ h.row
theorem MC.ext (h : MC w g A c L t) (hx : Ext w w') : MC w' g A c L t := ⟨(hx.block _ (lt_of_heap h.row)).trans h.row, h.own.below hx, fun e he => (h.each e he).below hx⟩
theorem Own.off {B s n c : Nat} {e : TypeId} {xs : List Value} {B' : Nat} (h : Own w B e s A n c xs) (hg : w.grownBy w' (some B')) (hB : B' < B) : Own w' B e s A n c xs := by
  refine h.kept hg fun k hk e2 => ?_
  injection e2 with e2
  have := (h.row_ge hk).1
  omega
/-- The place where the cells begin is stored. -/
theorem MC.setTop (h : MC w g A c L t) (t' : Nat) : MC (w.setCell ⟨g, 0, none⟩ (.int .i64 (t' : Int))) g A c L t' := by
  have hg := grown_cell w g 0 (.int .i64 (t' : Int))
  refine ⟨?_, h.own.off hg (by omega), fun e he => (h.each e he).off hg (by omega)⟩
  rw [heap_setCell_same w g 0 _ _ _ h.row]
  rfl
/-- Another list of cells is stored. -/
theorem MC.setList (h : MC w g A c L t) {A' : Option Addr} {c' : Nat} {L' : List ScV} (ho : Own w (g + 1) 54 2 A' L'.length c' (scs L')) (he : ∀ e ∈ L', Own w (g + 1) 5 1 e.pa e.x.p.length e.pc (bvs e.x.p)) :
    MC (w.setCell ⟨g, 1, none⟩ (.slice A' L'.length c')) g A' c' L' t := by
  have hg := grown_cell w g 1 (.slice A' L'.length c')
  refine ⟨?_, ho.off hg (by omega), fun e h => (he e h).off hg (by omega)⟩
  rw [heap_setCell_same w g 1 _ _ _ h.row]
  rfl
/-- The place of cell k is stored. -/
theorem MC.setAt (h : MC w g A c L t) {k : Nat} (hk : k < L.length) {ad : Addr} (hA : A = some ad) (v : Nat) :
    MC (w.setCell (ad.add (k * 2)) (.int .i64 (v : Int))) g A c (L.set k ⟨L[k].pa, L[k].pc, ⟨v, L[k].x.p⟩⟩) t ∧ g < ad.block ∧ w.frozen? (ad.add (k * 2)) = false := by
  subst hA
  rcases h.own.mem with h0 | ⟨gb, off, cur, hA, hb, hcur, hoff, hseg⟩
  · have := h.own.nc; omega
  · injection hA with hA
    subst hA
    have hg := grown_cell w gb (off + k * 2) (.int .i64 (v : Int))
    have hnc := h.own.nc
    have hadd : (⟨gb, off, none⟩ : Addr).add (k * 2) = ⟨gb, off + k * 2, none⟩ := by simp [Addr.add]
    rw [hadd]
    refine ⟨⟨?_, ?_, ?_⟩, by show g < gb; omega, frozen_of_row w gb (off + k * 2) _ _ hcur⟩
    · rw [List.length_set]
      exact (hg.block g (lt_of_heap h.row) (fun e => by injection e with e; omega)).trans h.row
    · rw [List.length_set]
      refine ⟨by rw [scs_len, List.length_set], hnc, h.own.cm, .inr ⟨gb, off, cur.setIfInBounds (off + k * 2) (.int .i64 (v : Int)), rfl, hb, heap_setCell_same w gb (off + k * 2) _ _ _ hcur, by rw [Array.size_setIfInBounds]; exact hoff, ?_⟩⟩
      have hsl := scs_len L
      refine List.ext_getElem? fun j => ?_
      have hseg2 : ∀ j, j < L.length * 2 → cur[off + j]? = (scs L)[j]? := fun j hj => by
        rw [← hseg, List.getElem?_take, if_pos hj, List.getElem?_drop, Array.getElem?_toList]
      by_cases hj : j < L.length * 2
      · rw [List.getElem?_take, if_pos hj, List.getElem?_drop, Array.getElem?_toList, Array.getElem?_setIfInBounds]
        have hj2 : j / 2 < L.length := by omega
        have hjd : j = j / 2 * 2 + j % 2 := by omega
        have e1 : (scs (L.set k ⟨L[k].pa, L[k].pc, ⟨v, L[k].x.p⟩⟩))[j]? = ((L.set k ⟨L[k].pa, L[k].pc, ⟨v, L[k].x.p⟩⟩)[j / 2]'(by rw [List.length_set]; exact hj2)).cells[j % 2]? := by
          conv => lhs; rw [hjd]
          exact scs_at _ _ (by rw [List.length_set]; exact hj2) _ (by omega)
        have e2 : cur[off + j]? = (L[j / 2].cells)[j % 2]? := by
          rw [hseg2 j hj]
          conv => lhs; rw [hjd]
          exact scs_at _ _ hj2 _ (by omega)
        rw [e1, List.getElem_set]
        by_cases hk2 : k = j / 2
        · subst hk2
          by_cases hr : j % 2 = 0
          · have : off + j / 2 * 2 = off + j := by omega
            have hlt : off + j < cur.size := by omega
            rw [if_pos this, if_pos (by omega), if_pos rfl, hr]
            rfl
          · have h1 : j % 2 = 1 := by omega
            rw [if_neg (by omega), if_pos rfl, e2, h1]
            rfl
        · rw [if_neg (by omega), if_neg hk2, e2]
      · rw [List.getElem?_take, if_neg hj, List.getElem?_eq_none]
        rw [scs_len, List.length_set]
        omega
    · intro e he
      have key : ∀ e' ∈ L, Own (w.setCell ⟨gb, off + k * 2, none⟩ (.int .i64 (v : Int))) (g + 1) 5 1 e'.pa e'.x.p.length e'.pc (bvs e'.x.p) := fun e' he' => by
        refine (h.each e' he').kept hg fun j hj e2 => ?_
        injection e2 with e2
        subst e2
        obtain ⟨_, cur2, h2⟩ := (h.each e' he').row_ge hj
        rw [hcur] at h2
        injection h2 with h2
        injection h2 with _ h2
        exact absurd h2 (by decide)
      rcases List.mem_or_eq_of_mem_set he with he | rfl
      · exact key e he
      · exact key L[k] (List.getElem_mem hk)
end

end Go.Proofs.Ytgfanklhihciaaa
