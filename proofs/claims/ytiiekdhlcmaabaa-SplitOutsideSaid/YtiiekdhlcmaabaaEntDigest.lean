
/- Contracts: entries' digest (entry.Digest, the document's). Printed by wip/tools/gen_digest17.py. -/

import Derived.Test.YtiiekdhlcmaabaaEntPut

import Derived.Test.YtiiekdhlcmaabaaShaObj

import Derived.Test.YtiiekdhlcmaabaaShaRefSum

namespace Go.Proofs.Ytiiekdhlcmaabaa

open Go.RowKit

attribute [local go_sem] Oper.semAt_some

def Ent.digest (l : List Ent) : List UInt8 := Sha.sum (Ent.putAll l)
theorem Ent.digest_len (l : List Ent) : (Ent.digest l).length = 32 := Sha.sum_len _
theorem sumInfo (z : List UInt8) (h : z.length = 32) : (Try.prog.info? 31).map (·.size) = some (bvs z).toArray.size := by rw [List.size_toArray, bvs_len, h]; kernel_rfl
theorem arrInfo (z : List UInt8) (h : z.length = 32) : (Try.prog.info? 30).map (·.size) = some (bvs z).toArray.size := by rw [List.size_toArray, bvs_len, h]; kernel_rfl
theorem sumOne (z : List UInt8) : (bvs z).toArray.all (·.oneCell') = true := by
  rw [Array.all_eq_true_iff_forall_mem]
  intro v hv
  exact bvs_one _ v (by simpa using hv)

theorem ext_rowD {w w' : World} {g : Nat} (h : Ext w w') (hg : w.heap.size ≤ g) (cs : Array Value) : Ext w (w'.setRow g cs) := ⟨h.os, h.tape, h.output, by simpa using h.size, fun i hi => (setRow_other _ _ _ _ (by omega)).trans (h.block i hi)⟩

set_option maxRecDepth 100000 in
set_option maxHeartbeats 1000000 in
theorem edigest_any (A : Option Addr) (l : List EnV) (cap : Nat) (w : World) (hl : RdE w A l) (hc : l.length ≤ 1000000) (ht : Ent.total (l.map EnV.x) ≤ 1000000) (hb : (Ent.putAll (l.map EnV.x)).length ≤ 100000) :
    Calls Try.prog 30 #[.slice A l.length cap] w fun e' w' => e' = .returned (.agg (bvs (Ent.digest (l.map EnV.x))).toArray) ∧ Below w.heap.size w w' := by
  obtain ⟨m, hm⟩ : ∃ m, m = l.map EnV.x := ⟨_, rfl⟩
  have hml : m.length = l.length := by rw [hm]; simp
  rw [← hm] at ht hb ⊢
  have HM := Lib.hid hm
  have Hml := Lib.hid hml
  have Htot := Lib.hid hb
  have Ht := Lib.hid ht
  clear hm hml hb ht
  go_enter Try.func30, Try.ntmps30
  go_wp2_with fail
  refine (hash_new _).mono ?_
  rintro e w1 ⟨g, rfl, hh, hb⟩
  obtain ⟨C0, hC0, hsz⟩ : ∃ C0, w1.heap[w.heap.size]? = some (.cells C0 31 (0, 0)) ∧ C0.size = 32 := ⟨_, (hb.block _ (by simp)).trans (heap_alloc_new w _), rfl⟩
  have hE1 : Ext w w1 := Ext.tr (Ext.alloc w _) hb
  have hB1 : w.heap.size + 1 ≤ w1.heap.size := by have := hb.size; simpa using this
  simp only [World.size_alloc] at hh
  clear hb
  go_wp2_with fail
  go_loopw [9] (fun i wr => ∃ (k : Nat) (row : Option Nat), k ≤ l.length ∧ i = .int .i64 k ∧ HashOf wr (w.heap.size + 1) g (Ent.putAll (m.take k)) row ∧ Below (w.heap.size + 1) w1 wr) (fun i _ => l.length - (intOf i).toNat)
  case atStart => exact ⟨0, none, by omega, rfl, hh, Below.refl _ _⟩
  case round =>
    obtain ⟨k, row, hk, rfl, hhk, hbw⟩ := hrel
    have hEw : Ext w wr := hE1.trans (hbw.mono (by omega))
    have hsw : w.heap.size + 1 ≤ wr.heap.size := Nat.le_trans hB1 hbw.size
    by_cases h : k < l.length
    · obtain ⟨ad, rfl, hcell, hin⟩ := (hl.below hEw).at_ h
      have hkm : k < m.length := by rw [Hml.out]; exact h
      have hx : Hid (m[k] = l[k].x) := by show _ = _; have := HM.out; subst this; simp
      have hs := Lib.hid (Ent.putAll_snoc m k hkm)
      have hle := Ent.one_total m k hkm
      rw [hx.out] at hs hle
      have hle2 := Ent.putAll_take_le m (k + 1)
      rw [hs.out, List.length_append] at hle2
      have htt := Htot.out
      have ht0 := Ht.out
      have hbnd : (Ent.putAll (m.take k)).length + l[k].x.put.length ≤ 100000 := by omega
      have hk1 : l[k].x.key.length ≤ 1000000 := by unfold Ent.size at hle; omega
      have hk2 : l[k].x.val.length ≤ 1000000 := by unfold Ent.size at hle; omega
      clear hle hle2 htt ht0
      obtain ⟨d, hd⟩ : ∃ d, d = Ent.putAll (m.take k) := ⟨_, rfl⟩
      have hd2 : Hid (Ent.putAll (m.take (k + 1)) = d ++ l[k].x.put) := by show _ = _; rw [hs.out, hd]
      rw [← hd] at hhk hbnd
      clear hs hd
      have hcx : ∀ j u, (l[k].cells)[j]? = some u → wr.cell? ((ad.add (k * 2)).add j) = some u := fun j u hj => by rw [add_add']; exact hcell j u hj
      have Hcx := Lib.hid hcx
      clear hcell hcx
      go_wp2_with (first | (have hcx := Hcx.out; refine wpList_load_cells rfl 49 (.tmp 11) rfl _ rfl l[k].cells _ hcx Try.underlying49 rfl (einfo _) ?_; clear hcx) | (refine wpList_store_row rfl 49 (.tmp 5) (.tmp 12) rfl wr.heap.size l[k].cells rfl rfl 49 _ (heap_alloc_new wr _) (einfo _) (by rfl) (eone _) ?_; rw [setRow_alloc]) | (refine wpList_load_rowG rfl 49 (.tmp 5) rfl wr.heap.size rfl 49 l[k].cells (0, 0) _ (heap_alloc_new wr _) Try.underlying49 rfl (einfo _) ?_))
      have hbx := Ext.alloc wr (.cells l[k].cells 49)
      refine (eput_any l[k] _ (hin.below hbx) hk1 hk2).mono ?_
      rintro e' w2 ⟨A2, c2, rfl, ho2, hb2⟩
      have hb3 := Ext.tr hbx hb2
      have hh2 := hhk.below hb3
      have hglt := hhk.lt
      have hbw2 := hbw.trans (hb3.mono hsw)
      have hr2 := ho2.rd'
      have hag : l[k].x.put ≠ [] → ∀ ad, A2 = some ad → ad.block ≠ g := by
        intro hne ad he
        have h0 : c2 ≠ 0 := by
          have := ho2.nc
          have : l[k].x.put.length ≠ 0 := fun e => hne (List.eq_nil_of_length_eq_zero e)
          omega
        have := (ho2.row_lt ad.block (by unfold ownRow; rw [if_neg h0, he]; rfl)).1
        have := hbx.size
        omega
      have hB2 : w.heap.size + 1 ≤ w2.heap.size := Nat.le_trans hsw hb3.size
      have hw := hash_write (w.heap.size + 1) g d row A2 l[k].x.put c2 w2 hh2 hB2 hr2 hag (by omega)
      clear hhk ho2 hb2 hbx hb3 hbw Hcx hin hh2 hr2 hag
      go_wp2_with fail
      refine hw.mono ?_
      clear hw
      rintro e3 w3 ⟨row3, rfl, hh3, _, _, hb3⟩
      rw [← hd2.out] at hh3
      go_wp2_with fail
      go_roundw
      case rel => exact ⟨k + 1, row3, by omega, by go_num, hh3, hbw2.trans hb3⟩
      case measure => simp [intOf]; omega
    · have hkl : k = l.length := by omega
      subst hkl
      rw [List.take_of_length_le (by rw [Hml.out]; omega)] at hhk
      have hg0 := (hbw.block _ (by omega)).trans hC0
      have hsum := hash_sum (w.heap.size + 1) g (Ent.putAll m) row wr hhk Htot.out
      clear hl
      go_wp2_with fail
      refine hsum.mono ?_
      rintro e3 w3 ⟨rfl, hb3⟩
      have hg3 := (hb3.block _ (lt_of_heap hg0)).trans hg0
      have hz := Ent.digest_len m
      have hE3 := Ext.tr hEw hb3
      clear hsum hhk hg0 hb3 hh
      show _
      go_wp2_with (refine wpList_store_row rfl 31 (.tmp 2) (.tmp 19) rfl w.heap.size (bvs (Ent.digest m)).toArray rfl rfl 31 _ hg3 (sumInfo _ hz) (by rw [hsz, List.size_toArray, bvs_len, hz]) (sumOne _) ?_)
      have hg4 := setRow_heap w3 w.heap.size _ (bvs (Ent.digest m)).toArray _ _ hg3
      (try simp only [Exit.inBlock, Exit.then])
      refine bodyPost_ret (results_cell_row rfl _ _ w.heap.size 31 (bvs (Ent.digest m)).toArray (0, 0) _ rfl hg4 Try.underlying31 rfl (sumInfo _ hz)) rfl ?_
      exact ⟨rfl, ext_rowD hE3 (Nat.le_refl _) _⟩

set_option maxRecDepth 100000 in
set_option maxHeartbeats 1000000 in
theorem ref_edigest (A : Option Addr) (l : List EnV) (cap : Nat) (w : World) (hl : RdE w A l) (hc : l.length ≤ 1000000) (ht : Ent.total (l.map EnV.x) ≤ 1000000) (hb : (Ent.putAll (l.map EnV.x)).length ≤ 100000) :
    Calls Try.prog 21 #[.slice A l.length cap] w fun e' w' => e' = .returned (.agg (bvs (Ent.digest (l.map EnV.x))).toArray) ∧ Below w.heap.size w w' := by
  obtain ⟨m, hm⟩ : ∃ m, m = l.map EnV.x := ⟨_, rfl⟩
  have hP := fun W (h : RdE W A l) => ref_eputall A l cap W h hc ht
  rw [← hm] at hb ⊢
  simp only [← hm] at hP
  have HP := Lib.hid hP
  clear hP hm ht hc
  go_enter Try.func21, Try.ntmps21
  go_wp2_with fail
  refine (HP.out _ (hl.below (Ext.alloc w _))).mono ?_
  rintro e w1 ⟨A1, c1, rfl, ho1, hb1⟩
  obtain ⟨C0, hC0, hsz⟩ : ∃ C0, w1.heap[w.heap.size]? = some (.cells C0 30 (0, 0)) ∧ C0.size = 32 := ⟨_, (hb1.block _ (by simp)).trans (heap_alloc_new w _), rfl⟩
  have hE1 : Ext w w1 := Ext.tr (Ext.alloc w _) hb1
  have hr1 := ho1.rd'
  clear hb1 ho1 hl
  go_wp2_with fail
  refine (ref_sum A1 (Ent.putAll m) c1 w1 hr1 hb).mono ?_
  rintro e w2 ⟨rfl, hb2⟩
  have hg3 := (hb2.block _ (lt_of_heap hC0)).trans hC0
  have hz := Ent.digest_len m
  have hE3 := Ext.tr hE1 hb2
  rw [show Sha.sum (Ent.putAll m) = Ent.digest m from rfl]
  clear hb2 hr1 hC0 hE1
  go_wp2_with (refine wpList_store_row rfl 30 (.tmp 2) (.tmp 5) rfl w.heap.size (bvs (Ent.digest m)).toArray rfl rfl 30 _ hg3 (arrInfo _ hz) (by rw [hsz, List.size_toArray, bvs_len, hz]) (sumOne _) ?_)
  have hg4 := setRow_heap w2 w.heap.size _ (bvs (Ent.digest m)).toArray _ _ hg3
  (try simp only [Exit.inBlock, Exit.then])
  refine bodyPost_ret (results_cell_row rfl _ _ w.heap.size 30 (bvs (Ent.digest m)).toArray (0, 0) _ rfl hg4 Try.underlying30 rfl (arrInfo _ hz)) rfl ?_
  exact ⟨rfl, ext_rowD hE3 (Nat.le_refl _) _⟩
end Go.Proofs.Ytiiekdhlcmaabaa
