/- Texts of the proof, laid together: WrQ WrS CrcErr WrU WrT. -/
import Derived.Test.YtjholekgdnhpkaaGreatDoorZ15
import Derived.Test.YtjholekgdnhpkaaGreatDoorZ18
import Derived.Test.YtjholekgdnhpkaaGreatDoorZ30
set_option linter.unusedVariables false
set_option linter.unusedSimpArgs false
set_option linter.unusedSectionVars false
namespace Go.Proofs.YtjholekgdnhpkaaGreatDoor
open Go.RowKit
attribute [local go_sem] Oper.semAt_some
def Wm.put (m : Wm) : List UInt8 × Nat :=
 if (((m.right = true ∧ 0 ≤ m.kind ∧ m.kind ≤ 255) ∧ Wm.known m.kind = true) ∧ m.only = m) then
  (if 8000 < (Crc.put m.laid).length then ([], 1) else (Crc.put m.laid, 0))
 else ([], 240)
def WPut (m : Wm) (w : World) (e : Ending) (w' : World) : Prop :=
 ∃ A c, e = .returned (.tuple #[.slice A m.put.1.length c, .int .i64 (m.put.2 : Int)]) ∧ Own w' w.heap.size 5 1 A m.put.1.length c (bvs m.put.1) ∧ Ext w w'
theorem WPut.no {m : Wm} {w w' : World} (h : m.put = ([], 240)) (hx : Ext w w') : WPut m w (.returned (.tuple #[.slice none 0 0, .int .i64 240])) w' := ⟨none, 0, by rw [h]; rfl, by rw [h]; exact Own.none_ _ _ _ _ _, hx⟩
theorem WmV.In.own {w : World} {M : WmV} (h : M.In w) : M.x.Own := { session := h.ok.session, seq := h.ok.seq, lsn := h.ok.lsn, sum := h.ok.sum, file := h.ok.file, sub := (fun _ hs => let ⟨v, hv, e⟩ := List.mem_map.1 hs; e ▸ ⟨(h.sr.each v hv).p.sum, (h.sr.each v hv).lsn⟩), sig := h.gr.ok }
theorem Wm.only_le (m : Wm) : m.only.subs.length ≤ m.subs.length ∧ m.only.ents.length ≤ m.ents.length ∧ m.only.sigs.length ≤ m.sigs.length := by
 have z1 : Wm.nul.subs = [] := rfl
 have z2 : Wm.nul.ents = [] := rfl
 have z3 : Wm.nul.sigs = [] := rfl
 unfold Wm.only
 repeat' split
 all_goals (simp only [z1, z2, z3, List.length_nil]; omega)
theorem Wm.fields_len {m : Wm} (h : m.Lays) (ho : ∀ s ∈ m.sigs, s.Ok) (he : Ent.total m.ents + 20 * m.ents.length ≤ 900000) (hs : m.sigs.length ≤ 60) (hf : m.sum.length = 32) (hf2 : m.file.length = 32) : m.fields.length ≤ 920000 := by
 have p1 := putBytes_len m.lo
 have p2 := putBytes_len m.hi
 have p3 := (Vint.put_len m.n.toNat).2
 have p4 := (Vint.put_len m.count.toNat).2
 have p5 := (Vint.put_len m.size.toNat).2
 have p6 := (Vint.put_len m.subs.length).2
 have p7 := Ws.layA_len h.sub
 have p8 := Wg.layL_len ho
 have p9 := Ent.putAll_len m.ents
 have q1 := h.lo
 have q2 := h.hi
 have q3 := h.subs
 have q4 := h.data
 unfold Wm.fields Wm.ends Ws.layL
 repeat' split
 all_goals first | omega | (simp only [List.length_append, fixed_len8, List.length_nil, List.length_cons]; omega)
set_option maxRecDepth 100000 in
set_option maxHeartbeats 4000000 in
theorem wput_any (M : WmV) (w : World) (hM : M.In w) (f1 : M.subs.length ≤ 100000) (f2 : M.data.length ≤ 64 → M.lo.length ≤ 24 → M.hi.length ≤ 24 → Ent.total (M.ents.map EnV.x) + 20 * M.ents.length ≤ 900000) (hfl : M.ents.length ≤ 900000) :
  Calls Tryz.prog 8 #[.agg M.cells] w (WPut M.x w) := by
 have hE : Ext w (w.alloc (.cells M.cells MT)) := Ext.alloc _ _
 have g0 := heap_alloc_new w (.cells M.cells MT)
 have hi := WmV.info hM.ok
 obtain ⟨W0, hW0⟩ : ∃ W0, W0 = w.alloc (.cells M.cells MT) := ⟨_, rfl⟩
 obtain ⟨P, hP⟩ : ∃ P, P = M.cells := ⟨_, rfl⟩
 rw [← hW0] at hE g0
 have hAR := areRight_any M W0 (hM.ext hE) (by omega) f2
 have hk : W0.cell? ⟨w.heap.size, 0, none⟩ = some (.int .i64 M.kind) := (cell_of_row _ _ 0 _ _ _ g0).trans (WmV.at0 M)
 rw [← hP] at hAR g0 hW0 hi
 obtain ⟨R, hR⟩ : ∃ R, R = M.x.right := ⟨_, rfl⟩
 rw [← hR] at hAR
 have hgen : ∀ w1, Ext W0 w1 → w1.heap[w.heap.size]? = some (.cells P MT (0, 0)) ∧ w1.cell? ⟨w.heap.size, 0, none⟩ = some (.int .i64 M.kind) ∧ Ext w w1 := fun w1 hx => ⟨(hx.block _ (lt_of_heap g0)).trans g0, hx.load hk, hE.tr hx⟩
 have HG := Lib.hid hgen
 have HAR := Lib.hid hAR
 have HM := Lib.hid hM
 have HW0 := Lib.hid hW0
 have HP := Lib.hid hP
 have HR := Lib.hid hR
 have H0 := Lib.hid g0
 clear hgen hAR hM hW0 hP hR hk hE g0
 go_enter Tryz.func8, Tryz.ntmps8
 rw [← HP.out]
 cases R with
 | false =>
  have hno : M.x.put = ([], 240) := if_neg (fun h => by rw [← HR.out] at h; exact absurd h.1.1.1 (by decide))
  go_upto_region 1 with fail
  rw [← HW0.out]
  go_wp2_with (first | (refine wpList_load_rowG (by rfl) MT (.tmp 1) rfl w.heap.size rfl MT P (0, 0) _ H0.out Tryz.underlying31 rfl hi ?_) | (go_at_call 22; refine HAR.out.mono ?_; rintro e1 w1 ⟨rfl, hx1⟩; have HX1 := Lib.hid hx1; clear hx1))
  (try simp only [Exit.inBlock, Exit.then])
  refine bodyPost_ret (results_tmp2 rfl _ _ _) rfl ?_
  exact WPut.no hno (HG.out _ HX1.out).2.2
 | true =>
  go_upto_region 1 with fail
  rw [← HW0.out]
  go_wp2_with (first | (refine wpList_load_rowG (by rfl) MT (.tmp 1) rfl w.heap.size rfl MT P (0, 0) _ H0.out Tryz.underlying31 rfl hi ?_) | (go_at_call 22; refine HAR.out.mono ?_; rintro e1 w1 ⟨rfl, hx1⟩; refine Hid.out ?_))
  obtain ⟨g1, hk1, hxw1⟩ := HG.out _ hx1
  have HXW1 := Lib.hid hxw1
  have HX1 := Lib.hid hx1
  clear hx1 hxw1 HAR
  by_cases hr0 : 0 ≤ M.kind
  ·
   by_cases hr1 : M.kind ≤ 255
   ·
    have hright : M.x.right = true := HR.out.symm
    have hright3 := (Wm.right_iff M.x).1 hright
    have f2 := f2 hright3.2.2.2.2.2.1 hright3.2.2.2.2.2.2.1 hright3.2.2.2.2.2.2.2.1
    clear hright3
    have hown := HM.out.own
    have hlays := Wm.lays hright hown (by show Ent.total (M.ents.map EnV.x) + 20 * (M.ents.map EnV.x).length ≤ 1000000; rw [List.length_map]; omega)
    have hright2 := (Wm.right_iff M.x).1 hright
    have hflen := Wm.fields_len hlays hown.sig (by show Ent.total (M.ents.map EnV.x) + 20 * (M.ents.map EnV.x).length ≤ 900000; rw [List.length_map]; omega) hright2.2.2.2.2.1 hown.sum hown.file
    have hll : M.x.laid.length ≤ 930000 := by
     show ((UInt8.ofNat M.x.kind.toNat :: (Vint.fixed M.x.session 4 ++ Vint.fixed M.x.seq 4)) ++ M.x.fields).length ≤ 930000
     simp only [List.length_append, List.length_cons, fixed_len4]; omega
    have hLA := laid_any M w1 (HM.out.ext HXW1.out) hlays hr0 hr1
    obtain ⟨kn, hkn⟩ : ∃ kn, kn = Wm.known M.kind := ⟨_, rfl⟩
    rw [← hkn, ← HP.out] at hLA
    have HLA := Lib.hid hLA
    have hnr0 : decide (M.kind < 0) = false := decide_eq_false (by omega)
    have hnr1 : decide (255 < M.kind) = false := decide_eq_false (by omega)
    have HF := Lib.hid hflen
    have HOWN := Lib.hid hown
    have HRT := Lib.hid hright
    have Hll := Lib.hid hll
    have Hkn := Lib.hid hkn
    clear hLA hflen hlays hright2 hright hown hll hkn
    have HR0 := Lib.hid hr0
    have HR1 := Lib.hid hr1
    clear hr0 hr1
    refine Lib.hid ?_
    go_upto_region 3 with fail
    go_wp2_with (first | (refine wpList_load_rowG (by rfl) MT (.tmp 1) rfl w.heap.size rfl MT P (0, 0) _ g1 Tryz.underlying31 rfl hi ?_) | (go_at_call 23; refine HLA.out.mono ?_; rintro e2 w2 ⟨A2, c2, rfl, ho2, hx2⟩; refine Hid.out ?_))
    have HX2 := Lib.hid ((HX1.out.tr hx2))
    have HO2 := Lib.hid ho2
    clear hx2 ho2 HLA g1 hk1 HXW1 HX1
    cases kn with
    | false =>
     have hno : M.x.put = ([], 240) := if_neg (fun h => by have := h.1.2; rw [show M.x.kind = M.kind from rfl, ← Hkn.out] at this; cases this)
     refine Lib.hid ?_
     go_wp2_with fail
     (try simp only [Exit.inBlock, Exit.then])
     refine bodyPost_ret (results_tmp2 rfl _ _ _) rfl ?_
     exact WPut.no hno (HG.out _ HX2.out).2.2
    | true =>
     have htk := Wm.take_laid HRT.out HOWN.out HR0.out HR1.out Hkn.out.symm
     have hRD := read_any A2 M.x.laid c2 w2 (Own.rd' HO2.out) (by have := Hll.out; omega) HO2.out.nc
     rw [htk] at hRD
     have HRD := Lib.hid hRD
     clear hRD htk
     refine Lib.hid ?_
     go_wp2_with (go_at_call 24; refine HRD.out.mono ?_; rintro e3 w3 ⟨M2, rfl, hx2, hst2, hxx3⟩; refine Hid.out ?_)
     try simp only at hx2
     have hin2 := hst2 (fun _ => False) w3 (fun _ => False.elim) (Trn.refl _ _)
     have HST2 := Lib.hid hst2
     clear hst2
     have hle := Wm.only_le M.x
     have hq1 : M2.subs.length = M.x.only.subs.length := by rw [← hx2]; show _ = (M2.subs.map WsV.x).length; rw [List.length_map]
     have hq2 : M2.ents.length = M.x.only.ents.length := by rw [← hx2]; show _ = (M2.ents.map EnV.x).length; rw [List.length_map]
     have hq3 : M2.sigs.length = M.x.only.sigs.length := by rw [← hx2]; rfl
     have hq4 : M.x.subs.length = M.subs.length := by show (M.subs.map WsV.x).length = _; rw [List.length_map]
     have hq5 : M.x.ents.length = M.ents.length := by show (M.ents.map EnV.x).length = _; rw [List.length_map]
     have hq6 : M.x.sigs.length ≤ 60 := ((Wm.right_iff M.x).1 HRT.out).2.2.2.2.1
     have HX3 := Lib.hid (HX2.out.tr hxx3)
     have hx4 := Ext.alloc w3 (.cells M2.cells MT)
     have hg4 := heap_alloc_new w3 (.cells M2.cells MT)
     have HX4 := Lib.hid (HX3.out.tr hx4)
     have hg1' := (HG.out _ HX4.out).1
     have hSA := wsame_any M2 M _ (hin2.ext hx4) (HM.out.ext (HG.out _ HX4.out).2.2) (by omega) (by omega) (by omega) (by omega) (by omega)
     rw [hx2] at hSA
     obtain ⟨sm, hsm⟩ : ∃ sm, sm = decide (M.x.only = M.x) := ⟨_, rfl⟩
     rw [← hsm, HP.out.symm] at hSA
     have HSA := Lib.hid hSA
     have hi2 := WmV.info hin2.ok
     have hs2 := WmV.size78 hin2.ok
     have HO4 := Lib.hid (HO2.out.below (hxx3.tr hx4))
     have Hsm := Lib.hid hsm
     clear hSA hle hq1 hq2 hq3 hq4 hq5 hq6 hx4 hxx3 hin2 hx2 HRD HO2 hsm
     obtain ⟨P2, hP2⟩ : ∃ P2, P2 = M2.cells := ⟨_, rfl⟩
     have hone := WmV.one M2
     rw [show M2.val = Value.agg M2.cells from rfl]
     rw [← hP2] at hg4 HX4 hg1' HSA hi2 hs2 HO4 hone ⊢
     clear hP2
     obtain ⟨W4, hW4⟩ : ∃ W4, W4 = w3.alloc (.cells P2 MT) := ⟨_, rfl⟩
     rw [← hW4] at hg4 HX4 hg1' HSA HO4
     have HW4 := Lib.hid hW4
     clear hW4
     refine Lib.hid ?_
     go_wp2_with (first | (refine wpList_run rfl _ _ (ex_allocMsg rfl) ?_) | (refine wpList_store_row rfl MT (.tmp 6) (.tmp 32) rfl w3.heap.size P2 rfl rfl MT _ (heap_alloc_new w3 _) hi2 (by rw [hs2]; rfl) hone ?_; rw [setRow_alloc, ← HW4.out]; refine Hid.out ?_))
     refine Lib.hid ?_
     go_wp2_with (first | (refine wpList_load_rowG (by rfl) MT (.tmp 6) rfl w3.heap.size rfl MT P2 (0, 0) _ hg4 Tryz.underlying31 rfl hi2 ?_) | (refine wpList_load_rowG (by rfl) MT (.tmp 1) rfl w.heap.size rfl MT P (0, 0) _ hg1' Tryz.underlying31 rfl hi ?_) | (go_at_call 12; refine HSA.out.mono ?_; rintro e5 w5 ⟨rfl, hx5⟩; refine Hid.out ?_))
     have HX5 := Lib.hid (HX4.out.tr hx5)
     have HO5 := Lib.hid (HO4.out.below hx5)
     clear hx5 HO4 HSA hg4 hg1' hi2 hs2 hone hi
     cases sm with
     | false =>
      have hno : M.x.put = ([], 240) := if_neg (fun h => absurd h.2 (of_decide_eq_false Hsm.out.symm))
      refine Lib.hid ?_
      go_wp2_with fail
      (try simp only [Exit.inBlock, Exit.then])
      refine bodyPost_ret (results_tmp2 rfl _ _ _) rfl ?_
      exact WPut.no hno (HG.out _ HX5.out).2.2
     | true =>
      have hyes : M.x.put = if 8000 < (Crc.put M.x.laid).length then ([], 1) else (Crc.put M.x.laid, 0) := if_pos ⟨⟨⟨HRT.out, HR0.out, HR1.out⟩, Hkn.out.symm⟩, of_decide_eq_true Hsm.out.symm⟩
      have hPA := put_any A2 M.x.laid c2 w5 (Own.rd' HO5.out) (by have := Hll.out; omega)
      generalize Crc.put M.x.laid = p at hyes hPA
      have HPA := Lib.hid hPA
      have HY := Lib.hid hyes
      clear hPA hyes
      refine Lib.hid ?_
      go_wp2_with (go_at_call 25; refine HPA.out.mono ?_; rintro e6 w6 ⟨A6, c6, rfl, ho6, hx6⟩; refine Hid.out ?_)
      have HX6 := Lib.hid ((HG.out _ (HX5.out.tr hx6)).2.2)
      have HO6 := Lib.hid (ho6.mono ((HG.out _ HX5.out).2.2).size)
      clear hx6 ho6 HPA HO5
      by_cases hlong : 8000 < p.length
      ·
       have hd : decide (8000 < (p.length : Int)) = true := decide_eq_true (by omega)
       have hno : M.x.put = ([], 1) := by rw [HY.out, if_pos hlong]
       have HNO := Lib.hid hno
       clear hno hlong
       refine Lib.hid ?_
       go_wp2_with fail
       (try simp only [Exit.inBlock, Exit.then])
       refine bodyPost_ret (results_tmp2 rfl _ _ _) rfl ?_
       exact ⟨none, 0, by rw [HNO.out]; rfl, by rw [HNO.out]; exact Own.none_ _ _ _ _ _, HX6.out⟩
      ·
       have hd : decide (8000 < (p.length : Int)) = false := decide_eq_false (by omega)
       have hno : M.x.put = (p, 0) := by rw [HY.out, if_neg hlong]
       have HNO := Lib.hid hno
       clear hno hlong
       refine Lib.hid ?_
       go_wp2_with fail
       (try simp only [Exit.inBlock, Exit.then])
       refine bodyPost_ret (results_tmp2 rfl _ _ _) rfl ?_
       exact ⟨A6, c6, by rw [HNO.out]; rfl, by rw [HNO.out]; exact HO6.out, HX6.out⟩
   ·
    have hr1' : 255 < M.kind := by omega
    have hno : M.x.put = ([], 240) := if_neg (fun h => hr1 h.1.1.2.2)
    refine Lib.hid ?_
    go_wp2_with fail
    (try simp only [Exit.inBlock, Exit.then])
    refine bodyPost_ret (results_tmp2 rfl _ _ _) rfl ?_
    exact WPut.no hno HXW1.out
  ·
   have hr0' : M.kind < 0 := by omega
   have hno : M.x.put = ([], 240) := if_neg (fun h => hr0 h.1.1.2.1)
   refine Lib.hid ?_
   go_wp2_with fail
   (try simp only [Exit.inBlock, Exit.then])
   refine bodyPost_ret (results_tmp2 rfl _ _ _) rfl ?_
   exact WPut.no hno HXW1.out
end Go.Proofs.YtjholekgdnhpkaaGreatDoor
namespace Go.Proofs.YtjholekgdnhpkaaGreatDoor
theorem Vint.getBytes_val (b : List UInt8) : (Vint.getBytes b).1.length ≤ (Vint.getBytes b).2.1 := by
 unfold Vint.getBytes
 split
 ·
  simp
 ·
  split
  ·
   simp
  ·
   simp only [List.length_take, List.length_drop]; omega
theorem Ent.get_size (b : List UInt8) : (Ent.get b).1.size ≤ (Ent.get b).2.1 := by
 have h1 := Vint.getBytes_val b
 have h2 := Vint.getBytes_val (b.drop (Vint.getBytes b).2.1)
 unfold Ent.get
 simp only
 split
 ·
  exact Nat.le_refl _
 ·
  split
  ·
   exact Nat.le_refl _
  ·
   split
   ·
    simp only [Ent.size]; omega
   ·
    exact Nat.le_refl _
theorem Ent.total_nil : Ent.total [] = 0 := rfl
theorem Ent.items_total : ∀ (f : Nat) (b : List UInt8), Ent.total ((Ent.items f b).map (·.1)) ≤ b.length
 | 0, b => by simp [Ent.items, Ent.total_nil]
 | f + 1, b => by
  have h1 := Ent.get_size b
  have h2 := (Ent.get_le b).1
  unfold Ent.items
  split
  ·
   simp [Ent.total_nil]
  ·
   split
   ·
    have ih := Ent.items_total f (b.drop (Ent.get b).2.1)
    rw [List.length_drop] at ih
    rw [List.map_cons, Ent.total_cons]
    simp only
    omega
   ·
    rw [List.map_cons, Ent.total_cons, List.map_nil, Ent.total_nil]
    simp only
    omega
theorem Ent.run_eq : ∀ (xs : List (Ent × Nat)) (acc L : List Ent), Ent.run acc xs = some L → L = acc ++ xs.map (·.1)
 | [], acc, L, h => by simp [Ent.run] at h; rw [h]; simp
 | x :: xs, acc, L, h => by
  unfold Ent.run at h
  split at h
  ·
   cases h
  ·
   split at h
   ·
    cases h
   ·
    have := Ent.run_eq xs _ L h
    rw [this]; simp
theorem Ent.getAll_small {d : List UInt8} {L : List Ent} (h : Ent.getAll d = some L) : Ent.total L + 20 * L.length ≤ 21 * d.length := by
 have h1 := Ent.getAll_le h
 have h2 := Ent.run_eq _ _ _ h
 rw [List.nil_append] at h2
 have h3 := Ent.items_total d.length d
 rw [← h2] at h3
 omega
theorem Rs.run_len : ∀ (n : Nat) (d : List UInt8) (b : Bool), (Rs.run n d b).1.length = n
 | 0, _, _ => rfl
 | n + 1, d, b => by
  show ((Rs.run n d b).1 ++ [_]).length = n + 1
  rw [List.length_append, Rs.run_len n d b]; rfl
theorem Rs.all_len (d : List UInt8) (b : Bool) : (Rs.all d b).1.length ≤ 60 := by
 unfold Rs.all
 split
 ·
  simp
 ·
  next h =>
  rw [Rs.run_len]
  simp only [Bool.or_eq_true, decide_eq_true_eq, not_or] at h
  omega
theorem Rt.rest_len (d : List UInt8) : (Rt.rest d).length ≤ d.length := by unfold Rt.rest; rw [List.length_drop]; omega
theorem Rc.rest_len (n : Nat) (d : List UInt8) : (Rc.rest n d).length ≤ d.length := by
 unfold Rc.rest
 split
 ·
  omega
 ·
  rw [List.length_drop]; omega
theorem Wm.take_small (b : List UInt8) : (Wm.take b).1.subs.length ≤ 60 ∧ Ent.total (Wm.take b).1.ents + 20 * (Wm.take b).1.ents.length ≤ 21 * b.length := by
 have z1 : Wm.nul.subs = [] := rfl
 have z2 : Wm.nul.ents = [] := rfl
 unfold Wm.take
 split
 ·
  exact ⟨by rw [z1]; simp, by rw [z2]; simp [Ent.total_nil]⟩
 ·
  simp only
  have hs : (Wm.head b).subs = [] := rfl
  have he : (Wm.head b).ents = [] := rfl
  have hd : (b.drop 9).length ≤ b.length := by rw [List.length_drop]; omega
  have key : ∀ d' : List UInt8, d'.length ≤ b.length → Ent.total ((Ent.getAll d').getD []) + 20 * ((Ent.getAll d').getD []).length ≤ 21 * b.length := fun d' hd' => by
   cases h : Ent.getAll d' with
   | none => simp [Ent.total_nil]
   | some L => have := Ent.getAll_small h; simp only [Option.getD_some]; omega
  have hnil : Ent.total [] + 20 * ([] : List Ent).length ≤ 21 * b.length := by simp [Ent.total_nil]
  have h0 : (Wm.head b).subs.length ≤ 60 ∧ Ent.total (Wm.head b).ents + 20 * (Wm.head b).ents.length ≤ 21 * b.length := by rw [hs, he]; exact ⟨by simp, hnil⟩
  unfold Wm.read
  split
  ·
   exact h0
  ·
   split
   ·
    exact h0
   ·
    split
    ·
     exact h0
    ·
     split
     ·
      exact ⟨Rs.all_len _ _, h0.2⟩
     ·
      split
      ·
       exact ⟨Rs.all_len _ _, h0.2⟩
      ·
       split
       ·
        have hd5 : (Rc.rest 1 (Rt.rest (Rt.rest (b.drop 9)))).length ≤ b.length := Nat.le_trans (Rc.rest_len 1 (Rt.rest (Rt.rest (b.drop 9)))) (Nat.le_trans (Rt.rest_len (Rt.rest (b.drop 9))) (Nat.le_trans (Rt.rest_len (b.drop 9)) hd))
        have hk := key _ hd5
        generalize hz : Ent.getAll (Rc.rest 1 (Rt.rest (Rt.rest (b.drop 9)))) = z at hk
        simp only [Wm.rdEnds, hz]
        exact ⟨h0.1, hk⟩
       ·
        split
        ·
         exact h0
        ·
         split
         ·
          exact h0
         ·
          exact h0
def Wm.get (b : List UInt8) : Wm × Nat :=
 if Crc.ok b = true then
  if (Wm.take (Crc.got b)).2 = true ∧ (Wm.take (Crc.got b)).1.put = (b, 0) then ((Wm.take (Crc.got b)).1, 0) else (Wm.nul, 240)
 else (Wm.nul, 240)
def WGet (r : Wm × Nat) (w : World) (e : Ending) (w' : World) : Prop := ∃ M : WmV, e = .returned (.tuple #[.agg M.cells, .int .i64 (r.2 : Int)]) ∧ M.x = r.1 ∧ M.In w' ∧ Ext w w'
end Go.Proofs.YtjholekgdnhpkaaGreatDoor
namespace Go.Proofs.YtjholekgdnhpkaaGreatDoor
theorem Crc.ok_putW (p : List UInt8) : Crc.ok (Crc.put p) = true := by
 have h : (Crc.put p).length = p.length + 4 := Crc.put_len p
 rw [Crc.ok_of (b := Crc.put p) (p := p) (by omega) (by rw [h, Nat.add_sub_cancel]; unfold Crc.put; exact List.take_left.symm)]
 exact beq_self_eq_true _
theorem Crc.got_putW (p : List UInt8) : Crc.got (Crc.put p) = p := by
 have h : (Crc.put p).length = p.length + 4 := Crc.put_len p
 unfold Crc.got
 rw [if_pos (Crc.ok_putW p), h, Nat.add_sub_cancel]
 unfold Crc.put
 exact List.take_left
theorem Wm.put_yes {m : Wm} {p : List UInt8} (h : m.put = (p, 0)) : ((m.right = true ∧ 0 ≤ m.kind ∧ m.kind ≤ 255) ∧ Wm.known m.kind = true) ∧ m.only = m ∧ p = Crc.put m.laid ∧ p.length ≤ 8000 := by
 unfold Wm.put at h
 split at h
 ·
  next hc =>
  split at h
  ·
   cases h
  ·
   next hl =>
   injection h with h1 _
   exact ⟨hc.1, hc.2, h1.symm, by rw [← h1]; omega⟩
 ·
  cases h
theorem Wm.get_put {m : Wm} (ho : m.Own) {p : List UInt8} (h : m.put = (p, 0)) : Wm.get p = (m, 0) := by
 obtain ⟨⟨⟨h1, h2, h3⟩, h4⟩, h5, h6, _⟩ := Wm.put_yes h
 have ht := Wm.take_laid h1 ho h2 h3 h4
 unfold Wm.get
 rw [h6, if_pos (Crc.ok_putW _), Crc.got_putW, ht, h5]
 rw [if_pos ⟨rfl, by rw [h, h6]⟩]
end Go.Proofs.YtjholekgdnhpkaaGreatDoor
namespace Go.Proofs.YtjholekgdnhpkaaGreatDoor
open Go.RowKit
attribute [local go_sem] Oper.semAt_some
theorem setRow_sameW {w : World} {g : Nat} {cs : Array Value} {t : TypeId} {fr : Nat × Nat} (h : w.heap[g]? = some (.cells cs t fr)) : w.setRow g cs = w := by
 have e : (w.setRow g cs).heap = w.heap := by
  apply Array.ext_getElem?
  intro i
  simp only [World.setRow, Array.getElem?_modify]
  split
  ·
   next e => subst e; rw [h]; rfl
  ·
   rfl
 calc w.setRow g cs = { w with heap := (w.setRow g cs).heap } := rfl
  _ = w := by rw [e]
set_option maxRecDepth 100000 in
set_option maxHeartbeats 4000000 in
theorem wget_any (A : Option Addr) (b : List UInt8) (cap : Nat) (w : World) (hA : RdB w A b) (hl : b.length ≤ 20000) (hc : b.length ≤ cap) :
  Calls Tryz.prog 9 #[.slice A b.length cap] w (WGet (Wm.get b) w) := by
 have hE : Ext w (w.alloc (.cells WmV.nul.cells MT (0, 0))) := Ext.alloc _ _
 have g0 := heap_alloc_new w (.cells WmV.nul.cells MT (0, 0))
 obtain ⟨W0, hW0⟩ : ∃ W0, W0 = w.alloc (.cells WmV.nul.cells MT (0, 0)) := ⟨_, rfl⟩
 rw [← hW0] at hE g0
 have hCK := check_any A b cap W0 (hA.below hE) (by omega) hc
 have hgl := Crc.got_len_le b
 obtain ⟨ck, hck⟩ : ∃ ck, ck = Crc.ok b := ⟨_, rfl⟩
 rw [← hck] at hCK
 obtain ⟨RG, hRG⟩ : ∃ RG, RG = Wm.get b := ⟨_, rfl⟩
 rw [← hRG]
 have hgen : ∀ w1, Ext W0 w1 → w1.heap[w.heap.size]? = some (.cells WmV.nul.cells MT (0, 0)) ∧ RdB w1 A b ∧ Ext w w1 := fun w1 hx => ⟨(hx.block _ (lt_of_heap g0)).trans g0, (hA.below hE).below hx, hE.tr hx⟩
 have HG := Lib.hid hgen
 have HCK := Lib.hid hCK
 have HW0 := Lib.hid hW0
 have Hck := Lib.hid hck
 have HRG := Lib.hid hRG
 have Hgl := Lib.hid hgl
 clear hgen hCK hW0 hck hRG hgl hE g0 hA
 go_enter Tryz.func9, Tryz.ntmps9
 go_wp2_with (first | (refine wpList_run rfl _ _ (ex_allocMsg rfl) ?_; rw [← HW0.out]) | (go_at_call 26; refine HCK.out.mono ?_; rintro e1 w1 ⟨A1, c1, rfl, ho1, hx1⟩; refine Hid.out ?_))
 obtain ⟨g1, rb1, xw1⟩ := HG.out w1 hx1
 have hw1lt : w.heap.size < w1.heap.size := lt_of_heap g1
 have hw0 : w.heap.size < W0.heap.size := by rw [HW0.out, World.size_alloc]; omega
 have HX1 := Lib.hid (show Ext W0 w1 from hx1)
 have HO1 := Lib.hid ho1
 have XW1 := Lib.hid xw1
 clear ho1 hx1 HCK rb1 xw1
 cases ck with
 | false =>
  have hno : RG = (Wm.nul, 240) := by rw [HRG.out]; exact if_neg (by rw [← Hck.out]; decide)
  refine Lib.hid ?_
  go_wp2_with (first | (refine wpList_run rfl _ _ (ex_buildMsg0 rfl) ?_) | (refine wpList_store_row rfl MT (.tmp 2) (.tmp 16) rfl w.heap.size WmV.nul.cells rfl rfl MT WmV.nul.cells g1 (WmV.info WmV.nul_ok) rfl (WmV.one _) ?_; rw [setRow_sameW g1]))
  (try simp only [Exit.inBlock, Exit.then])
  refine bodyPost_ret (results_row_tmpM rfl _ _ w.heap.size MT WmV.nul.cells (0, 0) _ rfl (g1) Tryz.underlying31 rfl (WmV.info WmV.nul_ok)) rfl ?_
  exact ⟨WmV.nul, by first | rfl | (rw [hno]; rfl), by first | rfl | (rw [hno]; rfl), WmV.nul_in _, XW1.out⟩
 | true =>
  have hrd := read_any A1 (Crc.got b) c1 w1 (Own.rd' HO1.out) (by have := Hgl.out; omega) HO1.out.nc
  have hsm := Wm.take_small (Crc.got b)
  have hget : RG = if (Wm.take (Crc.got b)).2 = true ∧ (Wm.take (Crc.got b)).1.put = (b, 0) then ((Wm.take (Crc.got b)).1, 0) else (Wm.nul, 240) := by rw [HRG.out]; exact if_pos Hck.out.symm
  have htl : (Wm.take (Crc.got b)).2 = true → 9 ≤ (Crc.got b).length := fun h => by
   by_cases hh : (Crc.got b).length < 9
   ·
    unfold Wm.take at h; rw [if_pos hh] at h; cases h
   ·
    omega
  generalize Wm.take (Crc.got b) = tk at hrd hsm hget htl
  obtain ⟨tm, ok⟩ := tk
  simp only at hsm hget
  have HRD := Lib.hid hrd
  have HSM := Lib.hid hsm
  have HTL := Lib.hid htl
  have HGET := Lib.hid hget
  clear hrd hsm hget g1 htl
  refine Lib.hid ?_
  go_wp2_with (go_at_call 24; refine HRD.out.mono ?_; rintro e3 w3 ⟨M2, rfl, hx2, hst2, hxx3⟩; refine Hid.out ?_)
  try simp only at hx2
  have hin2 := hst2 (fun _ => False) w3 (fun _ => False.elim) (Trn.refl _ _)
  have HST2 := Lib.hid hst2
  clear hst2
  have HX3 := Lib.hid (HX1.out.tr hxx3)
  have hx4 := Ext.alloc w3 (.cells M2.cells MT)
  have hg4 := heap_alloc_new w3 (.cells M2.cells MT)
  have HX4 := Lib.hid (HX3.out.tr hx4)
  have HX34 := Lib.hid hx4
  obtain ⟨g1, rb1, xw1⟩ := HG.out _ HX4.out
  have XW4 := Lib.hid xw1
  have RB4 := Lib.hid rb1
  have hi2 := WmV.info hin2.ok
  have hs2 := WmV.size78 hin2.ok
  have hone := WmV.one M2
  have HIN := Lib.hid (hin2.ext hx4)
  have HX2 := Lib.hid hx2
  clear hxx3 hx4 hin2 hx2 xw1 rb1
  rw [show M2.val = Value.agg M2.cells from rfl]
  obtain ⟨P2, hP2⟩ : ∃ P2, P2 = M2.cells := ⟨_, rfl⟩
  rw [← hP2] at hg4 HX4 HX34 g1 hi2 hs2 hone HIN XW4 RB4 ⊢
  obtain ⟨W4, hW4⟩ : ∃ W4, W4 = w3.alloc (.cells P2 MT) := ⟨_, rfl⟩
  rw [← hW4] at hg4 HX4 HX34 g1 HIN XW4 RB4
  have HW4 := Lib.hid hW4
  have HP2 := Lib.hid hP2
  clear hW4 hP2
  cases ok with
  | false =>
   have hno : RG = (Wm.nul, 240) := by rw [HGET.out]; exact if_neg (fun h => absurd h.1 (by decide))
   refine Lib.hid ?_
   go_wp2_with (first | (refine wpList_run rfl _ _ (ex_allocMsg rfl) ?_) | (refine wpList_store_row rfl MT (.tmp 6) (.tmp 20) rfl w3.heap.size P2 rfl rfl MT _ (heap_alloc_new w3 _) hi2 (by rw [hs2]; rfl) hone ?_; rw [setRow_alloc, ← HW4.out]) | (refine wpList_run rfl _ _ (ex_buildMsg0 rfl) ?_) | (refine wpList_store_row rfl MT (.tmp 2) (.tmp 24) rfl w.heap.size WmV.nul.cells rfl rfl MT WmV.nul.cells g1 (WmV.info WmV.nul_ok) rfl (WmV.one _) ?_; rw [setRow_sameW g1]))
   (try simp only [Exit.inBlock, Exit.then])
   refine bodyPost_ret (results_row_tmpM rfl _ _ w.heap.size MT WmV.nul.cells (0, 0) _ rfl (g1) Tryz.underlying31 rfl (WmV.info WmV.nul_ok)) rfl ?_
   exact ⟨WmV.nul, by first | rfl | (rw [hno]; rfl), by first | rfl | (rw [hno]; rfl), WmV.nul_in _, XW4.out⟩
  | true =>
   have hb1 : M2.subs.length ≤ 100000 := by
    have := HSM.out.1
    rw [← HX2.out] at this
    have e : M2.x.subs.length = M2.subs.length := by show (M2.subs.map WsV.x).length = _; rw [List.length_map]
    omega
   have hb2 : Ent.total (M2.ents.map EnV.x) + 20 * M2.ents.length ≤ 900000 := by
    have h1 := HSM.out.2
    rw [← HX2.out] at h1
    have h2 := Hgl.out
    have e : M2.x.ents.length = M2.ents.length := by show (M2.ents.map EnV.x).length = _; rw [List.length_map]
    have e2 : Ent.total M2.x.ents = Ent.total (M2.ents.map EnV.x) := rfl
    omega
   have hPU := wput_any M2 W4 HIN.out hb1 (fun _ _ _ => hb2) (by omega)
   rw [HX2.out, ← HP2.out] at hPU
   have HPU := Lib.hid hPU
   clear hPU hb1 hb2
   refine Lib.hid ?_
   go_wp2_with (first | (refine wpList_run rfl _ _ (ex_allocMsg rfl) ?_) | (refine wpList_store_row rfl MT (.tmp 6) (.tmp 20) rfl w3.heap.size P2 rfl rfl MT _ (heap_alloc_new w3 _) hi2 (by rw [hs2]; rfl) hone ?_; rw [setRow_alloc, ← HW4.out]) | (refine wpList_load_rowG (by rfl) MT (.tmp 6) rfl w3.heap.size rfl MT P2 (0, 0) _ hg4 Tryz.underlying31 rfl hi2 ?_) | (go_at_call 8; refine HPU.out.mono ?_; rintro e5 w5 ⟨A5, c5, rfl, ho5, hx5⟩; refine Hid.out ?_))
   have HX35 := Lib.hid (HX34.out.tr hx5)
   have hg5 := (hx5.block _ (lt_of_heap hg4)).trans hg4
   obtain ⟨g5, rb5, xw5⟩ := HG.out _ (HX4.out.tr hx5)
   have XW5 := Lib.hid xw5
   have RB5 := Lib.hid rb5
   have HIN5 := Lib.hid (HIN.out.ext hx5)
   have HO5 := Lib.hid ho5
   have HGET2 := Lib.hid (show RG = if True ∧ tm.put = (b, 0) then (tm, 0) else (Wm.nul, 240) by rw [HGET.out]; try simp)
   clear hx5 ho5 xw5 rb5 g1 hg4 HPU HGET
   generalize tm.put = pu at HO5 HGET2
   obtain ⟨px, er⟩ := pu
   simp only
   by_cases her : er = 0
   ·
    subst her
    have hEQ := equal_any A5 A px b c5 cap w5 (Own.rd' HO5.out) RB5.out
    obtain ⟨q, hq⟩ : ∃ q, q = (px == b) := ⟨_, rfl⟩
    rw [← hq] at hEQ
    have HEQ := Lib.hid hEQ
    have Hq := Lib.hid hq
    clear hEQ hq
    cases q with
    | false =>
     have hno : RG = (Wm.nul, 240) := by rw [HGET2.out]; exact if_neg (fun h => by have h3 : px = b := congrArg Prod.fst h.2; have h4 := Hq.out; rw [h3] at h4; simp at h4)
     refine Lib.hid ?_
     go_wp2_with (first | (go_at_call 27; refine HEQ.out.mono ?_; rintro e6 w6 ⟨rfl, rfl⟩) | (refine wpList_run rfl _ _ (ex_buildMsg0 rfl) ?_) | (refine wpList_store_row rfl MT (.tmp 2) (.tmp 38) rfl w.heap.size WmV.nul.cells rfl rfl MT WmV.nul.cells g5 (WmV.info WmV.nul_ok) rfl (WmV.one _) ?_; rw [setRow_sameW g5]))
     (try simp only [Exit.inBlock, Exit.then])
     refine bodyPost_ret (results_row_tmpM rfl _ _ w.heap.size MT WmV.nul.cells (0, 0) _ rfl (g5) Tryz.underlying31 rfl (WmV.info WmV.nul_ok)) rfl ?_
     exact ⟨WmV.nul, by first | rfl | (rw [hno]; rfl), by first | rfl | (rw [hno]; rfl), WmV.nul_in _, XW5.out⟩
    | true =>
     have hyes : RG = (tm, 0) := by rw [HGET2.out]; exact if_pos ⟨trivial, by rw [eq_of_beq Hq.out.symm]⟩
     have hst := setRow_heap w5 w.heap.size _ P2 _ _ g5
     have t6 : Trn (fun i => w.heap.size ≤ i) w5 (w5.setRow w.heap.size P2) := Trn.set _ _ _ (Nat.le_refl _)
     refine Lib.hid ?_
     go_wp2_with (first | (go_at_call 27; refine HEQ.out.mono ?_; rintro e6 w6 ⟨rfl, rfl⟩) | (refine wpList_load_rowG (by rfl) MT (.tmp 6) rfl w3.heap.size rfl MT P2 (0, 0) _ hg5 Tryz.underlying31 rfl hi2 ?_) | (refine wpList_store_row rfl MT (.tmp 2) (.tmp 39) rfl w.heap.size P2 rfl rfl MT _ g5 hi2 (by rw [hs2]; rfl) hone ?_))
     (try simp only [Exit.inBlock, Exit.then])
     refine bodyPost_ret (results_row_tmpM rfl _ _ w.heap.size MT P2 (0, 0) _ rfl hst Tryz.underlying31 rfl hi2) rfl ?_
     refine ⟨M2, by rw [hyes, HP2.out]; rfl, by rw [hyes]; exact HX2.out, ?_, XW5.out.trans (t6.below XW5.out.size (fun _ e => e))⟩
     have hx35 := HX35.out
     refine HST2.out (fun i => i = w.heap.size) _ ?_ ((Trn.ext hx35).tr (Trn.set _ _ _ rfl))
     rintro i rfl
     have h1 := XW1.out.size
     refine ⟨hw1lt, fun ad e => ?_⟩
     have hc9 := HTL.out (by trivial)
     rcases HO1.out.mem with h0 | ⟨g, off, cur, hA, hb, _⟩
     ·
      have := HO1.out.nc; omega
     ·
      rw [hA] at e
      injection e with e
      subst e
      simp only
      omega
   ·
    have hne : ((er : Int) != 0) = true := by rw [bne_iff_ne]; omega
    have hno : RG = (Wm.nul, 240) := by rw [HGET2.out]; exact if_neg (fun h => by have h2 := h.2; injection h2 with _ h3; exact her h3)
    refine Lib.hid ?_
    go_wp2_with (first | (refine wpList_run rfl _ _ (ex_buildMsg0 rfl) ?_) | (refine wpList_store_row rfl MT (.tmp 2) (.tmp 38) rfl w.heap.size WmV.nul.cells rfl rfl MT WmV.nul.cells g5 (WmV.info WmV.nul_ok) rfl (WmV.one _) ?_; rw [setRow_sameW g5]))
    (try simp only [Exit.inBlock, Exit.then])
    refine bodyPost_ret (results_row_tmpM rfl _ _ w.heap.size MT WmV.nul.cells (0, 0) _ rfl (g5) Tryz.underlying31 rfl (WmV.info WmV.nul_ok)) rfl ?_
    exact ⟨WmV.nul, by first | rfl | (rw [hno]; rfl), by first | rfl | (rw [hno]; rfl), WmV.nul_in _, XW5.out⟩
end Go.Proofs.YtjholekgdnhpkaaGreatDoor
