
/- Contracts: Table (the program's and the document's): the sums of a file's blocks. -/

import Derived.Test.YtnagbhaknmoilaaSgnSig

namespace Go.Proofs.Ytnagbhaknmoilaa

open Go.RowKit

attribute [local go_sem] Oper.semAt_some

def Sg.of (p : List UInt8) : Sg := ⟨Wk.sum p, Sha.sum p⟩
theorem Sg.of_ok (p : List UInt8) : (Sg.of p).Ok := ⟨Wk.sum_lt p, Sha.sum_len p⟩
/-- Block i of a file. -/
def Sg.blk (file : List UInt8) (i : Nat) : List UInt8 := Sg.win file (64 * i) (Sg.lenN file.length i)
theorem Sg.blk_len {file : List UInt8} {i : Nat} (h : i < Sg.blocks file.length) : (Sg.blk file i).length = Sg.lenN file.length i := by
  have h1 := Sg.block_in h
  have h2 := Sg.lenN_eq h
  exact Sg.win_len (by omega)
def Sg.table (file : List UInt8) : List Sg := (List.range (Sg.blocks file.length)).map fun i => Sg.of (Sg.blk file i)
theorem Sg.table_len (file : List UInt8) : (Sg.table file).length = Sg.blocks file.length := by simp [Sg.table]
theorem Sg.table_ok (file : List UInt8) : ∀ s ∈ Sg.table file, s.Ok := by
  intro s hs
  simp only [Sg.table, List.mem_map] at hs
  obtain ⟨i, _, rfl⟩ := hs
  exact Sg.of_ok _
theorem Sg.table_get (file : List UInt8) {i : Nat} (h : i < (Sg.table file).length) : (Sg.table file)[i] = Sg.of (Sg.blk file i) := by simp [Sg.table]
def TabPost (file : List UInt8) (w : World) (e : Ending) (w' : World) : Prop := ∃ A' c', e = .returned (.slice A' (Sg.table file).length c') ∧ Own w' w.heap.size 33 33 A' (Sg.table file).length c' (sgs (Sg.table file)) ∧ Ext w w'
set_option maxRecDepth 100000 in
set_option maxHeartbeats 1000000 in
theorem table_any (A : Option Addr) (file : List UInt8) (cap : Nat) (w : World) (hA : RdB w A file) (hc : file.length ≤ cap) (hl : file.length ≤ 100000) :
    Calls Try.prog 7 #[.slice A file.length cap] w (TabPost file w) := by
  obtain ⟨L, hL⟩ : ∃ L, L = file.length := ⟨_, rfl⟩
  obtain ⟨n, hn⟩ : ∃ n, n = Sg.blocks (L : Int) := ⟨_, rfl⟩
  have hB := blocks_any (L : Int) (by omega) (by omega) w
  rw [← hn] at hB
  have hn2 : n ≤ 2048 := by rw [hn]; exact Sg.blocks_le _
  rw [← hL] at hc hl ⊢
  have HL := Lib.hid hL
  have Hn := Lib.hid hn
  clear hL hn
  go_enter Try.func7, Try.ntmps7
  go_wp2_with (first | (go_at_call 11; refine hB.mono ?_; clear hB; rintro e1 w1 ⟨rfl, rfl⟩) | (refine wpList_mkS rfl (.tmp 10) (.tmp 10) 24 rfl elemG (.agg Sg.zero.cells) (by kernel_rfl) n .i64 .i64 rfl rfl (by omega) (by omega) (sgs (List.replicate n Sg.zero)).toArray (madeG n) ?_))
  have hG0 : GRow (w.alloc (.cells (sgs (List.replicate n Sg.zero)).toArray 33)) 33 w.heap.size (List.replicate n Sg.zero) := ⟨heap_alloc_new w _, fun p hp => by rw [List.eq_of_mem_replicate hp]; exact Sg.zero_ok⟩
  have hx0 := Ext.alloc w (.cells (sgs (List.replicate n Sg.zero)).toArray 33)
  obtain ⟨g, hg⟩ : ∃ g, g = w.heap.size := ⟨_, rfl⟩
  rw [← hg] at hG0 ⊢
  have Hg := Lib.hid hg
  have hl0 : (List.replicate n Sg.zero).length = n := List.length_replicate
  have Hl0 := Lib.hid hl0
  clear hg hl0
  go_loopw [14] (fun i wr => ∃ (j : Nat) (T : List Sg), j ≤ n ∧ i = .int .i64 j ∧ T.length = n ∧ GRow wr 33 g T ∧ (∀ r (h : r < T.length), r < j → T[r] = Sg.of (Sg.blk file r)) ∧ Ext w wr) (fun i _ => n - (intOf i).toNat)
  case atStart => exact ⟨0, _, by omega, rfl, Hl0.out, hG0, fun r h h2 => by omega, hx0⟩
  case round =>
    clear hG0 hx0
    obtain ⟨j, T, hj, rfl, hT, hG, hTr, hE⟩ := hrel
    by_cases hjn : j < n
    · have ij : (0 : Int) ≤ (j : Int) := by omega
      have ij2 : (j : Int) < (n : Int) := by omega
      have hBl := block_any (L : Int) (j : Int) (by omega) (by omega) wr
      obtain ⟨eb, b1, b2, b3, b4, b5⟩ := Sg.block_in (size := (L : Int)) (i := j) (by have := Hn.out; omega)
      rw [eb] at hBl
      obtain ⟨m, hm⟩ : ∃ m, m = Sg.lenN (L : Int) j := ⟨_, rfl⟩
      have hm2 := Sg.lenN_eq (size := (L : Int)) (i := j) (by have := Hn.out; omega)
      rw [← hm] at hm2
      rw [hm2] at hBl b1 b2 b3
      obtain ⟨at_, hat⟩ : ∃ at_, at_ = 64 * j := ⟨_, rfl⟩
      rw [show 64 * (j : Int) = (at_ : Int) by omega] at hBl b3
      unfold bl2 at hBl
      simp only at hBl
      have HT := Lib.hid hT
      have HTr := Lib.hid hTr
      have Hat := Lib.hid hat
      have Hm := Lib.hid hm
      have HG := Lib.hid hG
      have i1 : IntKind.i64.wrap ((at_ : Int) + (m : Int)) = ((at_ + m : Nat) : Int) := by rw [IntKind.wrap_i64]; omega
      have i2 : ¬ cap = at_ := by omega
      clear hT hTr hat hm hm2 eb hG
      obtain ⟨b, hb⟩ : ∃ b, b = Sg.blk file j := ⟨_, rfl⟩
      obtain ⟨A2, hA2⟩ : ∃ A2 : Option Addr, A2 = A.map (fun x => x.add at_) := ⟨_, rfl⟩
      have hbl : b.length = m := by rw [hb, Sg.blk_len (by rw [← HL.out, ← Hn.out]; exact hjn), ← HL.out, Hm.out]
      have hrd : RdB wr A2 b := by
        have h1 := (hA.below hE).cut (k := at_) (m := at_ + m) (by omega) (by have := HL.out; omega) (c := cap) (by omega)
        rw [if_neg i2] at h1
        rw [hA2, hb]
        unfold Sg.blk Sg.win
        rw [← HL.out, ← Hm.out, ← Hat.out]
        rwa [List.drop_take, Nat.add_sub_cancel_left] at h1
      have hws := wsum_any A2 b (cap - at_) wr hrd (by omega)
      rw [hbl] at hws
      have Hb := Lib.hid hb
      have HA2 := Lib.hid hA2
      have Hbl := Lib.hid hbl
      clear hb hbl
      have hsub : at_ + m - at_ = m := by omega
      go_wp2_with (first | (go_at_call 9; refine hBl.mono ?_; clear hBl; rintro e2 w2 ⟨rfl, rfl⟩) | (go_at_call 18; (try rw [← HA2.out]); refine hws.mono ?_; refine Hid.out ?_))
      rintro e3 w3 ⟨rfl, hx3⟩
      have hrd3 := hrd.below hx3
      have hsha := sha_sum (some ⟨w3.heap.size, 0, none⟩) [⟨A2, b, cap - at_⟩] 1 _ (RdL.one w3 22 A2 b (cap - at_) hrd3) (by simp) (by simp [cat]; have := Hbl.out; omega)
      rw [Hbl.out, show cat [(⟨A2, b, cap - at_⟩ : Sl)] = b by simp [cat]] at hsha
      simp only [List.length_singleton] at hsha
      have hE3 := Ext.tr hE hx3
      have HG3 := Lib.hid (HG.out.ext hx3)
      clear hws hrd hA2 hx3 HG hrd3 i2 i1 hsub
      refine Lib.hid ?_
      go_wp2_with (first | (go_at_call 19; refine hsha.mono ?_; refine Hid.out ?_))
      rintro e4 w4 ⟨rfl, hx4⟩
      have hE34 := Ext.tr (Ext.alloc w3 _) hx4
      have hE4 := Ext.tr hE3 hE34
      have hG4 := HG3.out.ext hE34
      obtain ⟨s, hs⟩ : ∃ s, s = Sg.of b := ⟨_, rfl⟩
      have hso : s.Ok := by rw [hs]; exact Sg.of_ok b
      obtain ⟨wk, hwk⟩ : ∃ wk, wk = Wk.sum b := ⟨_, rfl⟩
      obtain ⟨z, hz⟩ : ∃ z, z = Sha.sum b := ⟨_, rfl⟩
      have hcl : s.cells = (.int .u32 (wk : Int) :: bvs z).toArray := by rw [hs, hwk, hz]; rfl
      have hzl : z.length = 32 := by rw [hz]; exact Sha.sum_len b
      have hzb : (bvs z).length = 32 := by rw [bvs_len, hzl]
      have hfit : j * 33 + s.cells.size ≤ (sgs T).toArray.size := by rw [hG4.size, Sg.size hso, HT.out]; omega
      have Hcell := Lib.hid (hG4.set_cells (k := j) (by rw [HT.out]; exact hjn) s hso)
      have hG5 := hG4.set_row (k := j) s hso
      rw [← hwk, ← hz]
      have Hs := Lib.hid hs
      have Hcl := Lib.hid hcl
      have HG4 := Lib.hid hG4
      have hgw : w.heap.size ≤ g := by have := Hg.out; omega
      clear hwk hz hs hcl HG3 hE3 hE34 hx4 hE hsha hG4
      refine Lib.hid ?_
      go_wp2_with (refine wpList_store_at rfl 33 (.tmp 38) (.tmp 37) rfl _ rfl g (j * 33) (by first | rfl | simp [Addr.add]) (.agg s.cells) (by show Value.agg _ = Value.agg _; rw [Hcl.out]; exact congrArg Value.agg (fold33 _ _ (by rfl) (by rfl) z hzl)) s.cells rfl _ _ HG4.out.row (Sg.info hso) hfit (Sg.one s) _ Hcell.out ?_)
      go_roundw
      case rel => exact ⟨j + 1, T.set j s, by omega, by go_num, by rw [List.length_set]; exact HT.out, hG5, fun r h h2 => by
        rw [List.length_set] at h
        rw [List.getElem_set]
        split
        · rename_i e; subst e; rw [Hs.out, Hb.out]
        · exact HTr.out r h (by omega), ⟨hE4.os, hE4.tape, hE4.output, by simpa using hE4.size, fun i hi => (setRow_other _ _ _ _ (by omega)).trans (hE4.block i hi)⟩⟩
      case measure => simp [intOf]; omega
    · obtain rfl : j = n := by omega
      have hown := hG.own (B := w.heap.size) (by have := Hg.out; omega) (by omega)
      have hTe : T = Sg.table file := by
        refine List.ext_getElem (by rw [hT, Sg.table_len, ← HL.out, Hn.out]) fun r h1 h2 => ?_
        rw [hTr r h1 (by omega), Sg.table_get]
      rw [hTe] at hT hown
      rw [hT] at hown
      have Hown := Lib.hid hown
      have HT := Lib.hid hT
      clear hown hT hTe hTr hG
      go_wp2_with fail
      go_ret
      unfold TabPost
      rw [HT.out]
      exact ⟨_, _, rfl, Hown.out, hE⟩
theorem Sg.zinfo : (Try.prog.info? 33).bind (·.zero) = some (.agg Sg.zero.cells) := by kernel_rfl
theorem Sg.zinfo0 (w : World) : (zeroValue 33).run Try.prog w = .ok (.agg Sg.zero.cells) w := by
  have h := Sg.zinfo
  cases hq : Try.prog.info? 33 with
  | none => rw [hq] at h; cases h
  | some i =>
    rw [hq] at h
    simp only [Option.bind_some] at h
    simp [zeroValue, typeInfo, hq, h]
set_option maxRecDepth 100000 in
set_option maxHeartbeats 1000000 in
theorem ref_of (A : Option Addr) (p : List UInt8) (c : Nat) (w : World) (hA : RdB w A p) (hl : p.length ≤ 100000) :
    Calls Try.prog 20 #[.slice A p.length c] w fun e w' => e = .returned (.agg (Sg.of p).cells) ∧ Ext w w' := by
  have hz0 := Sg.zinfo0
  obtain ⟨Z, hZ⟩ : ∃ Z, Z = Sg.zero.cells := ⟨_, rfl⟩
  have hZs : Z.size = 33 := by rw [hZ]; exact Sg.size Sg.zero_ok
  rw [← hZ] at hz0
  obtain ⟨W0, hW0⟩ : ∃ W0, W0 = w.alloc (.cells Z 33) := ⟨_, rfl⟩
  have hx0 : Ext w W0 := by rw [hW0]; exact Ext.alloc w _
  have hr0 : W0.heap[w.heap.size]? = some (.cells Z 33 (0, 0)) := by rw [hW0]; exact heap_alloc_new w _
  have h1 := ref_wsum A p c W0 (hA.below hx0) (by omega)
  have h2 := ref_sum A p c W0 (hA.below hx0) hl
  obtain ⟨n, hn⟩ : ∃ n, n = p.length := ⟨_, rfl⟩
  rw [← hn] at h1 h2 ⊢
  have HZs := Lib.hid hZs
  have hZe : ¬ Z = #[] := by intro e; rw [e] at hZs; cases hZs
  have HW0 := Lib.hid hW0
  clear hZ hn hA hl
  go_enter Try.func20, Try.ntmps20
  go_wp2_with (first | (go_at_call 24; (try rw [← HW0.out]); refine h1.mono ?_; clear h1; rintro e1 w1 ⟨rfl, rfl⟩) | (go_at_call 17; (try rw [← HW0.out]); refine h2.mono ?_; refine Hid.out ?_))
  rintro e2 w2 ⟨rfl, hx2⟩
  obtain ⟨wk, hwk⟩ : ∃ wk, wk = Wk.sum p := ⟨_, rfl⟩
  obtain ⟨z, hz⟩ : ∃ z, z = Sha.sum p := ⟨_, rfl⟩
  obtain ⟨s, hs⟩ : ∃ s, s = Sg.of p := ⟨_, rfl⟩
  have hso : s.Ok := by rw [hs]; exact Sg.of_ok p
  have hcl : s.cells = (.int .u32 (wk : Int) :: bvs z).toArray := by rw [hs, hwk, hz]; rfl
  have hzl : z.length = 32 := by rw [hz]; exact Sha.sum_len p
  have hzb : (bvs z).length = 32 := by rw [bvs_len, hzl]
  have hr2 := (hx2.block _ (lt_of_heap hr0)).trans hr0
  have hE2 := Ext.tr hx0 hx2
  rw [← hwk, ← hz]
  have Hcl := Lib.hid hcl
  have Hs := Lib.hid hs
  have hr3 := setRow_heap w2 w.heap.size _ s.cells _ _ hr2
  clear hwk hz hs hcl hx2 h2 hr0 hx0
  refine Lib.hid ?_
  go_wp2_with (refine wpList_store_row rfl 33 (.tmp 2) (.tmp 7) rfl w.heap.size s.cells rfl (by show Value.agg _ = Value.agg _; rw [Hcl.out]; exact congrArg Value.agg (fold33 _ _ (by first | rfl | simp [HZs.out]) (by first | rfl | simp [HZs.out]) z hzl)) 33 _ hr2 (Sg.info hso) (by rw [HZs.out, Sg.size hso]) (Sg.one s) ?_)
  (try simp only [Exit.inBlock, Exit.then])
  refine bodyPost_ret (results_cell_row rfl _ _ w.heap.size 33 s.cells (0, 0) _ rfl hr3 Try.underlying33 rfl (Sg.info hso)) rfl ?_
  exact ⟨by rw [← Hs.out], ⟨hE2.os, hE2.tape, hE2.output, by simpa using hE2.size, fun i hi => (setRow_other _ _ _ _ (by omega)).trans (hE2.block i hi)⟩⟩
set_option maxRecDepth 100000 in
set_option maxHeartbeats 1000000 in
theorem ref_table (A : Option Addr) (file : List UInt8) (cap : Nat) (w : World) (hA : RdB w A file) (hc : file.length ≤ cap) (hl : file.length ≤ 100000) :
    Calls Try.prog 8 #[.slice A file.length cap] w (TabPost file w) := by
  obtain ⟨L, hL⟩ : ∃ L, L = file.length := ⟨_, rfl⟩
  obtain ⟨n, hn⟩ : ∃ n, n = Sg.blocks (L : Int) := ⟨_, rfl⟩
  have hB := fun w => ref_blocks (L : Int) (by omega) (by omega) w
  rw [← hn] at hB
  have hn2 : n ≤ 2048 := by rw [hn]; exact Sg.blocks_le _
  rw [← hL] at hc hl ⊢
  have HL := Lib.hid hL
  have Hn := Lib.hid hn
  clear hL hn
  obtain ⟨T, hT⟩ : ∃ T, T = Sg.table file := ⟨_, rfl⟩
  have HT := Lib.hid hT
  have HTl : Hid (T.length = n) := by show _ = _; rw [hT, Sg.table_len, ← HL.out, Hn.out]
  clear hT
  go_enter Try.func8, Try.ntmps8
  go_wp2_with fail
  go_loopw [3, 4] (fun v i wr => ∃ (j : Nat) (A' : Option Addr) (c' : Nat), j ≤ n ∧ i = .int .i64 j ∧ v = .slice A' j c' ∧ Own wr w.heap.size 33 33 A' j c' (sgs (T.take j)) ∧ Ext w wr) (fun _ i _ => n - (intOf i).toNat)
  case atStart => exact ⟨0, none, 0, by omega, rfl, rfl, Own.none_ _ _ _ _ _, Ext.refl _⟩
  case round =>
    obtain ⟨j, A1, c1, hj, rfl, rfl, ho, hE⟩ := hrel
    have hB1 := hB wr
    by_cases hjn : j < n
    · have ij : (0 : Int) ≤ (j : Int) := by omega
      have ij2 : (j : Int) < (n : Int) := by omega
      have hBl := ref_block22 (L : Int) (j : Int) (by omega) (by omega) wr
      obtain ⟨eb, b1, b2, b3, b4, b5⟩ := Sg.block_in (size := (L : Int)) (i := j) (by have := Hn.out; omega)
      rw [eb] at hBl
      obtain ⟨m, hm⟩ : ∃ m, m = Sg.lenN (L : Int) j := ⟨_, rfl⟩
      have hm2 := Sg.lenN_eq (size := (L : Int)) (i := j) (by have := Hn.out; omega)
      rw [← hm] at hm2
      rw [hm2] at hBl b1 b2 b3
      obtain ⟨at_, hat⟩ : ∃ at_, at_ = 64 * j := ⟨_, rfl⟩
      rw [show 64 * (j : Int) = (at_ : Int) by omega] at hBl b3
      unfold bl2 at hBl
      simp only at hBl
      have Hat := Lib.hid hat
      have Hm := Lib.hid hm
      have i1 : IntKind.i64.wrap ((at_ : Int) + (m : Int)) = ((at_ + m : Nat) : Int) := by rw [IntKind.wrap_i64]; omega
      have i2 : ¬ cap = at_ := by omega
      clear hat hm hm2 eb
      obtain ⟨b, hb⟩ : ∃ b, b = Sg.blk file j := ⟨_, rfl⟩
      obtain ⟨A2, hA2⟩ : ∃ A2 : Option Addr, A2 = A.map (fun x => x.add at_) := ⟨_, rfl⟩
      have hbl : b.length = m := by rw [hb, Sg.blk_len (by rw [← HL.out, ← Hn.out]; exact hjn), ← HL.out, Hm.out]
      have hrd : RdB wr A2 b := by
        have h1 := (hA.below hE).cut (k := at_) (m := at_ + m) (by omega) (by have := HL.out; omega) (c := cap) (by omega)
        rw [if_neg i2] at h1
        rw [hA2, hb]
        unfold Sg.blk Sg.win
        rw [← HL.out, ← Hm.out, ← Hat.out]
        rwa [List.drop_take, Nat.add_sub_cancel_left] at h1
      have hof := ref_of A2 b (cap - at_) wr hrd (by omega)
      rw [hbl] at hof
      obtain ⟨s, hs⟩ : ∃ s, s = Sg.of b := ⟨_, rfl⟩
      have hso : s.Ok := by rw [hs]; exact Sg.of_ok b
      have htk : sgs (T.take (j + 1)) = sgs (T.take j) ++ sgs [s] := by
        have hjT : j < T.length := by rw [HTl.out]; exact hjn
        have e : T[j] = s := by
          have h0 := HT.out
          subst h0
          rw [Sg.table_get, hs, hb]
        rw [List.take_add_one, List.getElem?_eq_getElem hjT, e, sgs_app]; rfl
      rw [← hs] at hof
      have Htk := Lib.hid htk
      have HA2 := Lib.hid hA2
      have hsub : at_ + m - at_ = m := by omega
      clear hs hb hA2 htk hbl
      go_wp2_with (first | (go_at_call 12; refine hB1.mono ?_; clear hB1; rintro e1 w1 ⟨rfl, rfl⟩) | (go_at_call 10; refine hBl.mono ?_; clear hBl; rintro e2 w2 ⟨rfl, rfl⟩) | (go_at_call 20; (try rw [← HA2.out]); refine hof.mono ?_; refine Hid.out ?_))
      rintro e3 w3 ⟨rfl, hx3⟩
      have hE3 := Ext.tr hE hx3
      have ho3 := ho.below hx3
      have hE4 : Ext w3 (w3.alloc (.cells s.cells 33)) := Ext.alloc _ _
      have hr4 : Rd (w3.alloc (.cells s.cells 33)) 33 (some ⟨w3.heap.size, 0, none⟩) 1 (sgs [s]) := by
        refine ⟨by rw [sgs_len (by intro q hq; simp at hq; rw [hq]; exact hso)]; rfl, fun _ => ⟨_, rfl, fun j u hj => ?_⟩⟩
        rw [Addr.add_lit, cell_of_row _ _ _ _ _ _ (heap_alloc_new w3 _)]
        simpa [sgs, Sg.cells] using hj
      have ho4 := ho3.below hE4
      have hs4 := hE4.size
      have hsz3 := hE3.size
      have Hso := Lib.hid (Sg.size hso)
      clear ho3 ho hx3 hE hof hrd i1 i2 hsub
      refine Lib.hid ?_
      go_wp2_with (first | (refine wpList_buildOne rfl 24 (.tmp 28) rfl elemG s.cells rfl Hso.out (by decide) ?_) | (refine wpList_app rfl (.tmp 21) (.tmp 29) 24 rfl elemG w.heap.size A1 j c1 (sgs (T.take j)) rfl (some ⟨w3.heap.size, 0, none⟩) 1 1 (sgs [s]) rfl (j + 1) rfl (sgs (T.take (j + 1))) Htk.out ho4 hr4 (sgs_one _) (by omega) (by omega) (by omega) ?_; intro A5 c5 w5 ho5 hg5 hr5; refine Hid.out ?_))
      have hE5 : Ext w w5 := (Ext.tr hE3 hE4).grown hg5 (by omega) (fun k hk => (ho4.row_lt k hk).1)
      clear ho4 hr4 hg5 hr5 hE3 hE4
      refine Lib.hid ?_
      go_wp2_with fail
      go_roundw
      case rel => exact ⟨j + 1, A5, c5, by omega, by go_num, rfl, ho5, hE5⟩
      case measure => simp [intOf]; omega
    · obtain rfl : j = n := by omega
      rw [List.take_of_length_le (by have := HTl.out; omega)] at ho
      go_wp2_with (go_at_call 12; refine hB1.mono ?_; clear hB1; rintro e1 w1 ⟨rfl, rfl⟩)
      go_ret
      unfold TabPost
      rw [← HT.out, HTl.out]
      exact ⟨_, _, rfl, ho, hE⟩
end Go.Proofs.Ytnagbhaknmoilaa
