
/- Words for memory: lists of a file's block sums (api.Sig); a row of them that is being filled. -/

import Derived.Test.YtnagbhaknmoilaaSgnSmall

import Derived.Test.YtnagbhaknmoilaaShaObj2

import Derived.Test.YtnagbhaknmoilaaShaRefSum

namespace Go.Proofs.Ytnagbhaknmoilaa

open Go.RowKit

attribute [local go_sem] Oper.semAt_some

def Sg.cl (s : Sg) : List Value := .int .u32 (s.weak : Int) :: bvs s.strong
def Sg.cells (s : Sg) : Array Value := s.cl.toArray
structure Sg.Ok (s : Sg) : Prop where
  w : s.weak < 4294967296
  len : s.strong.length = 32
theorem Sg.cl_len {s : Sg} (h : s.Ok) : s.cl.length = 33 := by simp [Sg.cl, bvs_len, h.len]
theorem Sg.size {s : Sg} (h : s.Ok) : s.cells.size = 33 := by simp [Sg.cells, Sg.cl_len h]
theorem Sg.one (s : Sg) : s.cells.all (·.oneCell') = true := by
  rw [Array.all_eq_true_iff_forall_mem]
  intro x hx
  simp only [Sg.cells, Sg.cl, List.mem_toArray, List.mem_cons] at hx
  rcases hx with rfl | hx
  · rfl
  · exact bvs_one _ x hx
theorem Sg.info {s : Sg} (h : s.Ok) : (Try.prog.info? 33).map (·.size) = some s.cells.size := by rw [Sg.size h]; kernel_rfl
def sgs (l : List Sg) : List Value := l.flatMap Sg.cl
theorem sgs_len {l : List Sg} (h : ∀ s ∈ l, s.Ok) : (sgs l).length = l.length * 33 := flat_len _ 33 l fun s hs => Sg.cl_len (h s hs)
theorem sgs_app (l m : List Sg) : sgs (l ++ m) = sgs l ++ sgs m := by simp [sgs]
theorem sgs_one (l : List Sg) : ∀ u ∈ sgs l, u.oneCell' = true := by
  intro u hu
  obtain ⟨p, _, hp⟩ := List.mem_flatMap.1 hu
  exact (Array.all_eq_true_iff_forall_mem.1 (Sg.one p)) u (by simpa [Sg.cells] using hp)
theorem elemG : ElemT Try.prog 24 33 33 36 := ElemT.mk' Try.underlying24 (z := .agg (Array.mk (.int .u32 0 :: List.replicate 32 (.int .u8 0)))) (by kernel_rfl) (by rfl) (by decide)
structure RdG (w : World) (A : Option Addr) (l : List Sg) : Prop where
  rd : Rd w 33 A l.length (sgs l)
  ok : ∀ s ∈ l, s.Ok
theorem RdG.nil_ (w : World) (A : Option Addr) : RdG w A [] := ⟨Rd.nil_ _ _ _, by simp⟩
theorem RdG.below {w w' : World} {A : Option Addr} {l : List Sg} (h : RdG w A l) (hb : Ext w w') : RdG w' A l := ⟨h.rd.below hb, h.ok⟩
theorem RdG.at_ {w : World} {A : Option Addr} {l : List Sg} (h : RdG w A l) {k : Nat} (hk : k < l.length) : ∃ ad, A = some ad ∧ (∀ j u, (l[k].cells)[j]? = some u → w.cell? ((ad.add (k * 33)).add j) = some u) ∧ l[k].Ok := by
  have ho := h.ok _ (List.getElem_mem hk)
  obtain ⟨ad, e, hc⟩ := h.rd.2 (by intro e; have := sgs_len h.ok; rw [e] at this; simp at this; omega)
  refine ⟨ad, e, fun j u hj => ?_, ho⟩
  have hj2 : j < 33 := by
    have := (Array.getElem?_eq_some_iff.1 hj).1
    rwa [Sg.size ho] at this
  rw [add_add']
  refine hc _ u ?_
  rw [sgs, flat_at _ 33 l (fun s hs => Sg.cl_len (h.ok s hs)) k hk j hj2]
  simpa [Sg.cells] using hj
/-- A row that is being filled. -/
structure GRow (w : World) (t : TypeId) (g : Nat) (L : List Sg) : Prop where
  row : w.heap[g]? = some (.cells (sgs L).toArray t (0, 0))
  ok : ∀ s ∈ L, s.Ok
theorem GRow.size {w : World} {t : TypeId} {g : Nat} {L : List Sg} (h : GRow w t g L) : (sgs L).toArray.size = L.length * 33 := by rw [List.size_toArray, sgs_len h.ok]
theorem GRow.ext {w w' : World} {t : TypeId} {g : Nat} {L : List Sg} (h : GRow w t g L) (hb : Ext w w') : GRow w' t g L := ⟨(hb.block _ (lt_of_heap h.row)).trans h.row, h.ok⟩
theorem GRow.set_row {w : World} {t : TypeId} {g : Nat} {L : List Sg} (h : GRow w t g L) {k : Nat} (s : Sg) (hs : s.Ok) : GRow (w.setRow g (sgs (L.set k s)).toArray) t g (L.set k s) := by
  refine ⟨setRow_heap w g _ _ _ _ h.row, fun q hq => ?_⟩
  rcases List.mem_or_eq_of_mem_set hq with h1 | rfl
  · exact h.ok _ h1
  · exact hs
theorem GRow.set_cells {w : World} {t : TypeId} {g : Nat} {L : List Sg} (h : GRow w t g L) {k : Nat} (hk : k < L.length) (s : Sg) (hs : s.Ok) :
    ((sgs L).toArray.toList.take (k * 33) ++ s.cells.toList ++ (sgs L).toArray.toList.drop (k * 33 + s.cells.size)).toArray = (sgs (L.set k s)).toArray := by
  rw [Sg.size hs]
  congr 1
  exact (flat_set _ 33 L (fun s hs => Sg.cl_len (h.ok s hs)) k hk s).symm
theorem GRow.own {w : World} {g B : Nat} {L : List Sg} (h : GRow w 33 g L) (hB : B ≤ g) (hm : L.length ≤ 100000) : Own w B 33 33 (some ⟨g, 0, none⟩) L.length L.length (sgs L) := by
  refine ⟨sgs_len h.ok, Nat.le_refl _, by unfold maxLen; omega, .inr ⟨g, 0, (sgs L).toArray, rfl, hB, h.row, ?_, ?_⟩⟩
  · rw [h.size]; omega
  · rw [List.drop_zero, show (sgs L).toArray.toList = sgs L from rfl, List.take_of_length_le (by rw [sgs_len h.ok]; exact Nat.le_refl _)]
def Sg.zero : Sg := ⟨0, List.replicate 32 0⟩
theorem Sg.zero_ok : Sg.zero.Ok := ⟨by decide, by decide⟩
theorem madeG : ∀ n : Nat, madeCells Sg.zero.cells (n * 33) = (sgs (List.replicate n Sg.zero)).toArray := by
  intro n
  have hs : ∀ p ∈ List.replicate n Sg.zero, p.cl.length = 33 := fun p hp => by rw [List.eq_of_mem_replicate hp]; rfl
  have hl : (sgs (List.replicate n Sg.zero)).length = n * 33 := by rw [sgs, flat_len _ 33 _ hs, List.length_replicate]
  apply Array.ext'
  apply List.ext_getElem?
  intro i
  by_cases hi : i < n * 33
  · have hq : i / 33 < (List.replicate n Sg.zero).length := by rw [List.length_replicate]; omega
    have e2 : (sgs (List.replicate n Sg.zero))[i]? = ((List.replicate n Sg.zero)[i / 33]'hq).cl[i % 33]? := by
      conv => lhs; rw [show i = i / 33 * 33 + i % 33 by omega]
      exact flat_at _ 33 _ hs (i / 33) hq (i % 33) (Nat.mod_lt _ (by omega))
    show _ = (sgs (List.replicate n Sg.zero))[i]?
    rw [e2, List.getElem_replicate]
    have h5 : i % 33 < Sg.zero.cells.size := Nat.mod_lt _ (by decide)
    rw [List.getElem?_eq_getElem (by simpa [madeCells] using hi)]
    simp only [madeCells, Array.getElem_toList, Array.getElem_map, Array.getElem_range]
    rw [show Sg.zero.cells.size = 33 from rfl, getElem!_pos Sg.zero.cells (i % 33) h5]
    rw [show Sg.zero.cl = Sg.zero.cells.toList from rfl, List.getElem?_eq_getElem (by simpa using h5), Array.getElem_toList]
  · rw [List.getElem?_eq_none (by simp [madeCells]; omega), List.getElem?_eq_none (by show (sgs (List.replicate n Sg.zero)).length ≤ i; omega)]
theorem fold33 (a : Value) (base : Array Value) (hb : base.size = 33) (h0 : base[0]? = some a) (z : List UInt8) (hz : z.length = 32) :
    List.foldl (fun (cs : Array Value) (x : Value × Nat) => cs.setIfInBounds (1 + x.2) x.1) base ((bvs z).zipIdx) = (a :: bvs z).toArray := by
  obtain ⟨k1, k2⟩ := fold_set 1 (bvs z) 0 base
  apply Array.ext_getElem?
  intro i
  by_cases hi : i < 33
  · rw [k2 i (by omega), bvs_len, hz]
    by_cases h3 : i < 1
    · obtain rfl : i = 0 := by omega
      rw [if_neg (by omega), h0]
      simp
    · rw [if_pos (by omega)]
      obtain ⟨j, rfl⟩ : ∃ j, i = j + 1 := ⟨i - 1, by omega⟩
      simp
  · rw [Array.getElem?_eq_none (by rw [k1]; omega), Array.getElem?_eq_none (by simp [bvs_len, hz]; omega)]
end Go.Proofs.Ytnagbhaknmoilaa
