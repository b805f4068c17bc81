/- Texts of the proof, laid together: WrB WrC WrD WrJ. -/
import Derived.Test.YtjholekgdnhpkaaGreatDoorZ7
import Derived.Test.YtjholekgdnhpkaaGreatDoorZ2
import Derived.Test.YtjholekgdnhpkaaGreatDoorZ31
import Derived.Test.YtjholekgdnhpkaaGreatDoorZ10
set_option linter.unusedVariables false
set_option linter.unusedSimpArgs false
set_option linter.unusedSectionVars false
namespace Go.Proofs.YtjholekgdnhpkaaGreatDoor
open Go.RowKit
attribute [local go_sem] Oper.semAt_some
set_option maxRecDepth 100000 in
set_option maxHeartbeats 1000000 in
theorem flag_lay_true (B g : Nat) (A : Option Addr) (c : Nat) (bs : List UInt8) (p : Addr) (w : World) (h : LayAt w B g A c bs) (hp : w.cell? p = some (.bool true)) (hb : bs.length ≤ 100000000) :
  Calls Tryz.prog 72 #[.pointer (some ⟨g, 0, none⟩), .pointer (some p)] w (Laid B g (bs ++ [1]) w) := by
 have h2 := h.cell2
 have h0 := h.cell0
 have H := Lib.hid h
 have hBw : B ≤ w.heap.size := Nat.le_of_lt (Nat.lt_of_le_of_lt h.base (lt_of_heap h.row))
 clear h
 go_enter Tryz.func72, Tryz.ntmps72
 go_wp2_with (refine wpList_app rfl (.tmp 33) (.tmp 34) 23 rfl elemB B A bs.length c (bvs bs) rfl (some ⟨w.heap.size, 0, none⟩) 1 1 (bvs [1]) rfl (bs.length + 1) rfl (bvs (bs ++ [1])) (bvs_app _ _) (H.out.own.below (Ext.alloc _ _)) (RdB.lit w 5 [1]) (bvs_one _) (by omega) (by omega) (by rw [World.size_alloc]; omega) ?_; intro A3 c3 w3 ho3 hg3 hr3; refine Hid.out ?_)
 have hH2 := H.out.ext (Ext.alloc w (.cells #[.int .u8 1] 5))
 have hrow3 := (hg3.block g (lt_of_heap hH2.row) (fun e => hH2.own.ne hH2.row (by decide) e.symm)).trans hH2.row
 obtain ⟨hL, hB⟩ := hH2.step (xs := [1]) hg3 (by rw [List.length_append]; exact ho3)
 have hBB := (Kept.ext (Ext.alloc w (.cells #[.int .u8 1] 5)) hBw).tr hB
 clear hg3 hr3 ho3 hB hH2
 refine Lib.hid ?_
 go_wp2_with (refine wpList_put1 rfl 23 (.tmp 37) (.tmp 35) rfl ⟨g, 0, none⟩ rfl g 0 rfl _ rfl [.slice A3 (bs.length + 1) c3] rfl _ _ hrow3 (by kernel_rfl) (by simp) (by simp [Value.oneCell']) #[.slice A3 (bs ++ [1]).length c3, .slice none 0 0, .bool false, .bool false] (by rw [List.length_append]; simp [put1]) ?_)
 (try simp only [Exit.inBlock, Exit.then])
 first | refine bodyPost_ret (results_none rfl _ _ _) rfl ?_ | refine bodyPost_end (results_none rfl _ _ _) rfl ?_
 exact ⟨rfl, ⟨_, _, hL⟩, hBB⟩
set_option maxRecDepth 100000 in
set_option maxHeartbeats 1000000 in
theorem flag_lay_false (B g : Nat) (A : Option Addr) (c : Nat) (bs : List UInt8) (p : Addr) (w : World) (h : LayAt w B g A c bs) (hp : w.cell? p = some (.bool false)) (hb : bs.length ≤ 100000000) :
  Calls Tryz.prog 72 #[.pointer (some ⟨g, 0, none⟩), .pointer (some p)] w (Laid B g (bs ++ [0]) w) := by
 have h2 := h.cell2
 have h0 := h.cell0
 have H := Lib.hid h
 have hBw : B ≤ w.heap.size := Nat.le_of_lt (Nat.lt_of_le_of_lt h.base (lt_of_heap h.row))
 clear h
 go_enter Tryz.func72, Tryz.ntmps72
 go_wp2_with (refine wpList_app rfl (.tmp 8) (.tmp 9) 23 rfl elemB B A bs.length c (bvs bs) rfl (some ⟨w.heap.size, 0, none⟩) 1 1 (bvs [0]) rfl (bs.length + 1) rfl (bvs (bs ++ [0])) (bvs_app _ _) (H.out.own.below (Ext.alloc _ _)) (RdB.lit w 5 [0]) (bvs_one _) (by omega) (by omega) (by rw [World.size_alloc]; omega) ?_; intro A3 c3 w3 ho3 hg3 hr3; refine Hid.out ?_)
 have hH2 := H.out.ext (Ext.alloc w (.cells #[.int .u8 0] 5))
 have hrow3 := (hg3.block g (lt_of_heap hH2.row) (fun e => hH2.own.ne hH2.row (by decide) e.symm)).trans hH2.row
 obtain ⟨hL, hB⟩ := hH2.step (xs := [0]) hg3 (by rw [List.length_append]; exact ho3)
 have hBB := (Kept.ext (Ext.alloc w (.cells #[.int .u8 0] 5)) hBw).tr hB
 clear hg3 hr3 ho3 hB hH2
 refine Lib.hid ?_
 go_wp2_with (refine wpList_put1 rfl 23 (.tmp 12) (.tmp 10) rfl ⟨g, 0, none⟩ rfl g 0 rfl _ rfl [.slice A3 (bs.length + 1) c3] rfl _ _ hrow3 (by kernel_rfl) (by simp) (by simp [Value.oneCell']) #[.slice A3 (bs ++ [0]).length c3, .slice none 0 0, .bool false, .bool false] (by rw [List.length_append]; simp [put1]) ?_)
 (try simp only [Exit.inBlock, Exit.then])
 first | refine bodyPost_ret (results_none rfl _ _ _) rfl ?_ | refine bodyPost_end (results_none rfl _ _ _) rfl ?_
 exact ⟨rfl, ⟨_, _, hL⟩, hBB⟩
def Wg.lay (s : Wg) : List UInt8 := Vint.fixed s.weak 4 ++ s.strong
def Wg.layL (l : List Wg) : List UInt8 := l.flatMap Wg.lay
theorem Wg.layL_snoc (l : List Wg) (k : Nat) (h : k < l.length) : Wg.layL (l.take (k + 1)) = Wg.layL (l.take k) ++ l[k].lay := by
 unfold Wg.layL
 rw [List.take_succ_eq_append_getElem h, List.flatMap_append]
 simp
theorem fixed_len4 (n : Nat) : (Vint.fixed n 4).length = 4 := by show (Vint.fixL n 4).length = 4; rw [Vint.fixL_len]
theorem fixed_len8 (n : Nat) : (Vint.fixed n 8).length = 8 := by show (Vint.fixL n 8).length = 8; rw [Vint.fixL_len]
theorem Wg.lay_len {s : Wg} (h : s.Ok) : s.lay.length = 36 := by unfold Wg.lay; rw [List.length_append, fixed_len4, h.len]
theorem Wg.layL_len {l : List Wg} (h : ∀ s ∈ l, s.Ok) : (Wg.layL l).length = l.length * 36 := by
 induction l with
 | nil => rfl
 | cons s l ih =>
  show (s.lay ++ Wg.layL l).length = _
  rw [List.length_append, Wg.lay_len (h s (by simp)), ih fun t ht => h t (by simp [ht]), List.length_cons, Nat.succ_mul]; omega
theorem Lay.ext {w w' : World} {B g : Nat} {bs : List UInt8} (h : Lay w B g bs) (hx : Ext w w') : Lay w' B g bs := let ⟨A, c, h⟩ := h; ⟨A, c, h.ext hx⟩
set_option maxRecDepth 100000 in
set_option maxHeartbeats 1000000 in
theorem sigs_lay (B g : Nat) (A0 : Option Addr) (c0 : Nat) (bs : List UInt8) (p : Addr) (K : Option Addr) (ck : Nat) (l : List Wg) (W0 w : World) (h : LayAt w B g A0 c0 bs) (hp : w.cell? p = some (.slice K l.length ck)) (hk : RdG W0 K l) (hx : Ext W0 w) (hB : W0.heap.size ≤ B) (hl : l.length ≤ 100000) (hb : bs.length ≤ 10000000) :
  Calls Tryz.prog 74 #[.pointer (some ⟨g, 0, none⟩), .pointer (some p)] w (Laid B g (bs ++ Wg.layL l) w) := by
 have h2 := h.cell2
 have hBw : B ≤ w.heap.size := Nat.le_of_lt (Nat.lt_of_le_of_lt h.base (lt_of_heap h.row))
 have H := Lib.hid h
 have Hp := Lib.hid hp
 clear h
 go_enter Tryz.func74, Tryz.ntmps74
 go_wp2_with fail
 go_loopw [16] (fun i wr => ∃ k : Nat, k ≤ l.length ∧ i = .int .i64 k ∧ Lay wr B g (bs ++ Wg.layL (l.take k)) ∧ Kept B g w wr) (fun i _ => l.length - (intOf i).toNat)
 case atStart => exact ⟨0, by omega, rfl, ⟨_, _, by simpa [Wg.layL] using H.out⟩, Kept.refl _ _ _⟩
 case round =>
  obtain ⟨k, hk1, rfl, hL, hBe⟩ := hrel
  by_cases h : k < l.length
  ·
   have hx1 : Ext W0 wr := hx.trans (Below.mono hBe.below hB)
   obtain ⟨ad, had, hcs, hok⟩ := (hk.below hx1).at_ h
   subst had
   obtain ⟨s, hs⟩ : ∃ s, s = l[k] := ⟨_, rfl⟩
   rw [← hs] at hcs hok
   have hsn := Wg.layL_snoc l k h
   rw [← hs] at hsn
   obtain ⟨ds, hds⟩ : ∃ ds, ds = bs ++ Wg.layL (l.take k) := ⟨_, rfl⟩
   have hdl : ds.length ≤ 14000000 := by
    have := Wg.layL_len (l := l.take k) (fun s hs => hk.ok s (List.mem_of_mem_take hs))
    rw [List.length_take] at this
    rw [hds, List.length_append]; omega
   have hdn : bs ++ Wg.layL (l.take (k + 1)) = ds ++ s.lay := by rw [hsn, hds, List.append_assoc]
   rw [← hds] at hL
   have Hdn := Lib.hid hdn
   have Hds := Lib.hid hds
   clear hs hsn hds hdn
   have HL := Lib.hid hL
   have Hcs := Lib.hid hcs
   have ik : (k : Int) < (l.length : Int) := by omega
   clear hL
   go_wp2_with (first | (refine wpList_load_cells rfl 65 (.tmp 18) rfl (ad.add (k * 33)) rfl s.cells _ hcs Tryz.underlying65 rfl (Wg.info hok) ?_) | (refine wpList_store_row rfl 65 (.tmp 5) (.tmp 19) rfl wr.heap.size s.cells rfl rfl 65 _ (heap_alloc_new wr _) (Wg.info hok) (by rw [Wg.size hok]; rfl) (Wg.one s) ?_; rw [setRow_alloc]; refine Hid.out ?_))
   have hx2 := Ext.alloc wr (.cells s.cells 65)
   have hg2 := heap_alloc_new wr (.cells s.cells 65)
   obtain ⟨W1, hW1⟩ : ∃ W1, W1 = wr.alloc (.cells s.cells 65) := ⟨_, rfl⟩
   rw [← hW1] at hx2 hg2
   have hBr : B ≤ wr.heap.size := Nat.le_trans hBw hBe.below.size
   obtain ⟨A, c, hA0⟩ := HL.out
   have hA := (hA0.ext hx2).ext (Ext.drew W1)
   have h0 := hA.cell0
   have hgd : W1.drew.heap[wr.heap.size]? = some (.cells s.cells 65 (0, 0)) := hg2
   have hwk : W1.drew.cell? ⟨wr.heap.size, 0, none⟩ = some (.int .u32 (s.weak : Int)) := cell_of_row _ _ 0 _ _ _ hgd
   have hst : RdB W1.drew (some ⟨wr.heap.size, 1, none⟩) s.strong := ⟨by rw [bvs_len]; omega, fun _ => ⟨_, rfl, fun j u hj => by
    rw [Addr.add_lit, cell_of_row _ _ _ _ _ _ hgd, Nat.add_comm]
    show (Value.int .u32 (s.weak : Int) :: bvs s.strong).toArray[j + 1]? = some u
    simpa using hj⟩⟩
   have hww : IntKind.u64.wrap (s.weak : Int) = (s.weak : Int) := by have := hok.w; simp [IntKind.wrap, IntKind.bits, IntKind.signed]; omega
   have HA := Lib.hid hA
   have HX2 := Lib.hid hx2
   have HST := Lib.hid hst
   have HOK := Lib.hid hok
   clear hA hA0 hx2 hg2 hst hcs hgd hok
   refine Lib.hid ?_
   rw [← hW1]
   clear hW1
   go_wp2_with fail
   refine rr_start (extW) [0, 1, 2, 3, 5, 7, 9, 10, 13, 14] (by kernel_rfl) ?_
   refine qAD 0 rfl ?_
   simp only [sP]
   refine qAD 1 rfl ?_
   simp only [sP]
   refine qAD 2 rfl ?_
   simp only [sP]
   refine qAD 3 rfl ?_
   simp only [sP]
   refine qS 4 rfl ⟨_, fun w' hx => by have hcx := hx.load h0; (go_simp <;> with_reducible rfl), ?_⟩
   simp only [sP]
   refine qAD 5 rfl ?_
   simp only [sP]
   refine qS 6 rfl ⟨_, fun w' hx => by have hcx := hx.load hwk; (go_simp <;> with_reducible rfl), ?_⟩
   simp only [sP]
   refine qAS 7 rfl ⟨.int .u64 (s.weak : Int), fun w' => by (go_simp <;> with_reducible rfl), ?_⟩
   simp only [sP]
   refine qAD 9 rfl ?_
   simp only [sP]
   refine qAS 10 rfl ⟨.slice (some ⟨wr.heap.size, 1, none⟩) 32 32, fun w' => by (go_simp <;> with_reducible rfl), ?_⟩
   simp only [sP]
   refine rr_call 8 (fixed_any s.weak 4 W1.drew) rfl (by kernel_rfl) (by rfl) (by go_simp) ?_
   rintro e2 w2 ⟨A2, c2, rfl, ho2, hb2⟩
   refine ⟨_, rfl, hb2, ?_⟩
   simp only [sP]

   refine rr_make 11 rfl (by kernel_rfl) (by rfl) ⟨_, _, by (go_simp <;> first | exact ⟨rfl, rfl⟩ | rfl), ?_, ?_⟩
   ·
    exact Ext.alloc _ _
   simp only [sP]
   have hs32 := HOK.out.len
   have hL3 : RdL (w2.alloc (.cells #[.slice A ds.length c, .slice A2 (Vint.fixed s.weak 4).length c2, .slice (some ⟨wr.heap.size, 1, none⟩) 32 32] 23)) (some ⟨w2.heap.size, 0, none⟩) [⟨A, ds, c⟩, ⟨A2, Vint.fixed s.weak 4, c2⟩, ⟨some ⟨wr.heap.size, 1, none⟩, s.strong, 32⟩] := by
    have := RdL.new w2 23 [⟨A, ds, c⟩, ⟨A2, Vint.fixed s.weak 4, c2⟩, ⟨some ⟨wr.heap.size, 1, none⟩, s.strong, 32⟩] (by
     intro q hq
     simp only [List.mem_cons, List.not_mem_nil, or_false] at hq
     rcases hq with rfl | rfl | rfl
     ·
      exact (HA.out.own.below hb2).rd'
     ·
      exact ho2.rd'
     ·
      exact HST.out.below hb2)
    simp only [List.map_cons, List.map_nil, Sl.val, hs32] at this
    exact this
   have hcat : cat [⟨A, ds, c⟩, ⟨A2, Vint.fixed s.weak 4, c2⟩, ⟨some ⟨wr.heap.size, 1, none⟩, s.strong, 32⟩] = ds ++ s.lay := by simp [cat, Wg.lay]
   have hcl : (ds ++ s.lay).length ≤ 100000000 := by rw [List.length_append, Wg.lay_len HOK.out]; omega
   have hcc := concat_any (some ⟨w2.heap.size, 0, none⟩) _ 3 _ hL3 (by simp) (by rw [hcat]; omega)
   rw [hcat] at hcc
   obtain ⟨d9, hd9⟩ : ∃ d9, d9 = ds ++ s.lay := ⟨_, rfl⟩
   rw [← hd9] at hcc hcl
   refine rr_call 12 hcc rfl (by kernel_rfl) (by rfl) (by go_simp) ?_
   rintro e3 w3 ⟨A3, c3, rfl, ho3, hb3⟩
   refine ⟨_, rfl, hb3, ?_⟩
   simp only [sP]
   refine qAD 13 rfl ?_
   simp only [sP]
   refine qAD 14 rfl ?_
   simp only [sP]
   have hx3 : Ext W1.drew w3 := Ext.tr hb2 (Ext.tr (Ext.alloc w2 _) hb3)
   have hH3 := HA.out.ext hx3
   obtain ⟨hL4, hB4⟩ := hH3.step (xs := s.lay) (grown_ext (Ext.refl w3) _) (by rw [← hd9]; exact ho3.mono (Nat.le_trans (Nat.le_trans hBr (Nat.le_trans HX2.out.size hb2.size)) (by simp)))
   rw [← hd9] at hL4 hB4
   refine rr_store 15 rfl (by kernel_rfl) (by kernel_rfl) (by rfl) ⟨w3.setRow g #[.slice A3 d9.length c3, .slice none 0 0, .bool false, .bool false], ex_put1 23 (.tmp 34) (.tmp 32) rfl ⟨g, 0, none⟩ rfl g 0 rfl _ rfl [.slice A3 d9.length c3] rfl _ _ hH3.row (by kernel_rfl) (by simp) (by simp [Value.oneCell']) _ (by simp [put1]), ?_⟩
   simp only [Act.put]
   refine rr_done (by kernel_rfl) ?_
   obtain ⟨W9, hW9⟩ : ∃ W9, W9 = w3.setRow g #[.slice A3 d9.length c3, .slice none 0 0, .bool false, .bool false] := ⟨_, rfl⟩
   rw [← hW9] at hL4 hB4 ⊢
   have hBB : Kept B g w W9 := hBe.tr ((Kept.ext (Ext.tr HX2.out (Ext.tr (Ext.drew W1) hx3)) hBr).tr hB4)
   clear hW9
   go_wp2_with fail
   go_roundw
   case rel => exact ⟨k + 1, by omega, by go_num, ⟨_, _, by rw [Hdn.out, ← hd9]; exact hL4⟩, hBB⟩
   case measure => simp [intOf]; omega
  ·
   obtain rfl : k = l.length := by omega
   have HL := Lib.hid hL
   clear hL
   go_wp2_with fail
   (try simp only [Exit.inBlock, Exit.then])
   first | refine bodyPost_ret (results_none rfl _ _ _) rfl ?_ | refine bodyPost_end (results_none rfl _ _ _) rfl ?_
   have := HL.out
   rw [List.take_length] at this
   exact ⟨rfl, this, hBe⟩
section
variable {B g : Nat} {bs : List UInt8} {w : World}
theorem text_L (h : Lay w B g bs) (p : Addr) (K : Option Addr) (ck : Nat) (k : List UInt8) (hp : w.cell? p = some (.slice K k.length ck)) (hk : RdB w K k) (hl : k.length ≤ 1000000) (hb : bs.length ≤ 100000000) :
  Calls Tryz.prog 67 #[.pointer (some ⟨g, 0, none⟩), .pointer (some p)] w (Laid B g (bs ++ Vint.putBytes k) w) := let ⟨A, c, h⟩ := h; text_lay B g A c bs p K ck k w h hp hk hl hb
theorem number_L (h : Lay w B g bs) (p : Addr) (n : Nat) (hp : w.cell? p = some (.int .i64 (n : Int))) (hn : n ≤ 9223372036854775807) (hb : bs.length ≤ 100000000) :
  Calls Tryz.prog 68 #[.pointer (some ⟨g, 0, none⟩), .pointer (some p)] w (Laid B g (bs ++ Vint.put n) w) := let ⟨A, c, h⟩ := h; number_lay B g A c bs p n w h hp hn hb
theorem wide_L (h : Lay w B g bs) (p : Addr) (n : Nat) (hp : w.cell? p = some (.int .u64 (n : Int))) (hb : bs.length ≤ 100000000) :
  Calls Tryz.prog 69 #[.pointer (some ⟨g, 0, none⟩), .pointer (some p)] w (Laid B g (bs ++ Vint.fixed n 8) w) := let ⟨A, c, h⟩ := h; wide_lay B g A c bs p n w h hp hb
theorem sum_L (h : Lay w B g bs) (p : Addr) (d : List UInt8) (hp : ∀ j u, (bvs d)[j]? = some u → w.cell? (p.add j) = some u) (hd : d.length = 32) (hb : bs.length ≤ 100000000) :
  Calls Tryz.prog 70 #[.pointer (some ⟨g, 0, none⟩), .pointer (some p)] w (Laid B g (bs ++ d) w) := let ⟨A, c, h⟩ := h; sum_lay B g A c bs p d w h hp hd hb
theorem flag_L (h : Lay w B g bs) (p : Addr) (b : Bool) (hp : w.cell? p = some (.bool b)) (hb : bs.length ≤ 100000000) :
  Calls Tryz.prog 72 #[.pointer (some ⟨g, 0, none⟩), .pointer (some p)] w (Laid B g (bs ++ [if b then 1 else 0]) w) := by
 obtain ⟨A, c, h⟩ := h
 cases b
 ·
  exact flag_lay_false B g A c bs p w h hp hb
 ·
  exact flag_lay_true B g A c bs p w h hp hb
theorem entries_L (h : Lay w B g bs) (p : Addr) (K : Option Addr) (ck : Nat) (l : List EnV) (hp : w.cell? p = some (.slice K l.length ck)) (hk : RdE w K l) (hl : Ent.total (l.map EnV.x) + 20 * l.length ≤ 1000000) (hb : bs.length ≤ 100000000) :
  Calls Tryz.prog 73 #[.pointer (some ⟨g, 0, none⟩), .pointer (some p)] w (Laid B g (bs ++ Ent.putAll (l.map EnV.x)) w) := let ⟨A, c, h⟩ := h; entries_lay B g A c bs p K ck l w h hp hk hl hb
theorem rest_L (h : Lay w B g bs) (p : Addr) (K : Option Addr) (ck : Nat) (d : List UInt8) (hp : w.cell? p = some (.slice K d.length ck)) (hk : RdB w K d) (hl : d.length ≤ 1000000) (hb : bs.length ≤ 100000000) :
  Calls Tryz.prog 75 #[.pointer (some ⟨g, 0, none⟩), .pointer (some p)] w (Laid B g (bs ++ d) w) := let ⟨A, c, h⟩ := h; rest_lay B g A c bs p K ck d w h hp hk hl hb
theorem sigs_L (h : Lay w B g bs) (p : Addr) (K : Option Addr) (ck : Nat) (l : List Wg) (W0 : World) (hp : w.cell? p = some (.slice K l.length ck)) (hk : RdG W0 K l) (hx : Ext W0 w) (hB : W0.heap.size ≤ B) (hl : l.length ≤ 100000) (hb : bs.length ≤ 10000000) :
  Calls Tryz.prog 74 #[.pointer (some ⟨g, 0, none⟩), .pointer (some p)] w (Laid B g (bs ++ Wg.layL l) w) := let ⟨A, c, h⟩ := h; sigs_lay B g A c bs p K ck l W0 w h hp hk hx hB hl hb
end
def Ws.lay (s : Ws) : List UInt8 := Vint.putBytes s.p.lo ++ (Vint.putBytes s.p.hi ++ (Vint.fixed s.lsn 8 ++ (Vint.put s.p.count.toNat ++ s.p.sum)))
def Ws.layA (l : List Ws) : List UInt8 := l.flatMap Ws.lay
def Ws.layL (l : List Ws) : List UInt8 := Vint.put l.length ++ Ws.layA l
structure Ws.Fits (s : Ws) : Prop where
 lo : s.p.lo.length ≤ 24
 hi : s.p.hi.length ≤ 24
 c0 : 0 ≤ s.p.count
 c1 : s.p.count ≤ 2147483647
 sum : s.p.sum.length = 32
theorem Ws.layA_snoc (l : List Ws) (k : Nat) (h : k < l.length) : Ws.layA (l.take (k + 1)) = Ws.layA (l.take k) ++ l[k].lay := by
 unfold Ws.layA
 rw [List.take_succ_eq_append_getElem h, List.flatMap_append]
 simp
theorem putBytes_len (k : List UInt8) : (Vint.putBytes k).length ≤ k.length + 10 := by have := Vint.put_len k.length; unfold Vint.putBytes; rw [List.length_append]; omega
theorem Ws.lay_len {s : Ws} (h : s.Fits) : s.lay.length ≤ 118 := by
 have h1 := putBytes_len s.p.lo
 have h2 := putBytes_len s.p.hi
 have h3 := Vint.put_len s.p.count.toNat
 have := h.lo
 have := h.hi
 have := h.sum
 unfold Ws.lay
 simp only [List.length_append, fixed_len8]
 omega
theorem Ws.layA_len {l : List Ws} (h : ∀ s ∈ l, s.Fits) : (Ws.layA l).length ≤ l.length * 118 := by
 induction l with
 | nil => exact Nat.le_refl _
 | cons s l ih =>
  show (s.lay ++ Ws.layA l).length ≤ _
  have h1 := Ws.lay_len (h s (by simp))
  have h2 := ih fun t ht => h t (by simp [ht])
  rw [List.length_append, List.length_cons, Nat.succ_mul]; omega
end Go.Proofs.YtjholekgdnhpkaaGreatDoor
namespace Go.Proofs.YtjholekgdnhpkaaGreatDoor
open Go.RowKit
attribute [local go_sem] Oper.semAt_some
set_option maxRecDepth 100000 in
set_option maxHeartbeats 1000000 in
theorem subs_lay (B g : Nat) (bs : List UInt8) (p : Addr) (K : Option Addr) (ck : Nat) (l : List WsV) (W0 w : World) (h : Lay w B g bs) (hp : W0.cell? p = some (.slice K l.length ck)) (hk : RdW W0 K l) (hx : Ext W0 w) (hB : W0.heap.size ≤ B) (hl : l.length ≤ 60) (hf : ∀ s ∈ l, s.x.Fits) (hb : bs.length ≤ 10000000) :
  Calls Tryz.prog 71 #[.pointer (some ⟨g, 0, none⟩), .pointer (some p)] w (Laid B g (bs ++ Ws.layL (l.map WsV.x)) w) := by
 have hBw : B ≤ w.heap.size := by obtain ⟨A, c, h⟩ := h; exact Nat.le_of_lt (Nat.lt_of_le_of_lt h.base (lt_of_heap h.row))
 have hpw : w.cell? p = some (.slice K l.length ck) := hx.load hp
 have hx1 := Ext.alloc w (.cells #[.int .i64 (l.length : Int)] 3)
 have hg1 := heap_alloc_new w (.cells #[.int .i64 (l.length : Int)] 3)
 have hc1 := cell_of_row _ _ 0 _ _ _ hg1
 have hN := number_L (h.ext hx1) ⟨w.heap.size, 0, none⟩ l.length hc1 (by omega) (by omega)
 have hpl := (Vint.put_len l.length).2
 obtain ⟨ds, hds⟩ : ∃ ds, ds = bs ++ Vint.put l.length := ⟨_, rfl⟩
 have hdl : ds.length ≤ 10000010 := by rw [hds, List.length_append]; omega
 have hgoal : bs ++ Ws.layL (l.map WsV.x) = ds ++ Ws.layA (l.map WsV.x) := by rw [Ws.layL, List.length_map, ← List.append_assoc, ← hds]
 rw [hgoal]
 rw [← hds] at hN
 clear hds hgoal hpl
 have HN := Lib.hid hN
 have HX1 := Lib.hid hx1
 clear hN h hx1 hg1 hc1
 go_enter Tryz.func71, Tryz.ntmps71
 go_wp2_with (go_at_call 68; refine HN.out.mono ?_; rintro e1 w1 ⟨rfl, hL1, hb1⟩; refine Hid.out ?_)
 have hbw1 : Kept B g w w1 := (Kept.ext HX1.out hBw).tr hb1
 have hxw1 : Ext W0 w1 := hx.trans (Below.mono hbw1.below hB)
 have h21 : w1.cell? ⟨g, 2, none⟩ = some (.bool false) := by obtain ⟨A, c, h⟩ := hL1; exact h.cell2
 have hp1 : w1.cell? p = some (.slice K l.length ck) := hxw1.load hp
 have HL1 := Lib.hid hL1
 have Hhp := Lib.hid hp
 clear hb1 hL1 hp hpw HN HX1
 refine Lib.hid ?_
 go_wp2_with fail
 go_loopw [36] (fun i wr => ∃ k : Nat, k ≤ l.length ∧ i = .int .i64 k ∧ Lay wr B g (ds ++ Ws.layA ((l.map WsV.x).take k)) ∧ Kept B g w wr) (fun i _ => l.length - (intOf i).toNat)
 case atStart => exact ⟨0, by omega, rfl, by simpa [Ws.layA] using HL1.out, hbw1⟩
 case round =>
  obtain ⟨k, hk1, rfl, hL, hBe⟩ := hrel
  by_cases h : k < l.length
  ·
   have hx1 : Ext W0 wr := hx.trans (Below.mono hBe.below hB)
   obtain ⟨ad, had, hcs, hin⟩ := hk.at_ h
   subst had
   obtain ⟨s, hs⟩ : ∃ s, s = l[k] := ⟨_, rfl⟩
   rw [← hs] at hcs hin
   have hfs : s.x.Fits := by rw [hs]; exact hf _ (List.getElem_mem h)
   have hsn := Ws.layA_snoc (l.map WsV.x) k (by simpa using h)
   rw [List.getElem_map, ← hs] at hsn
   obtain ⟨es, hes⟩ : ∃ es, es = ds ++ Ws.layA ((l.map WsV.x).take k) := ⟨_, rfl⟩
   have hel : es.length ≤ 11000000 := by
    have := Ws.layA_len (l := (l.map WsV.x).take k) (fun s hs => by
     obtain ⟨t, ht, rfl⟩ := List.mem_map.1 (List.mem_of_mem_take hs)
     exact hf t ht)
    rw [List.length_take, List.length_map] at this
    rw [hes, List.length_append]; omega
   have hdn : ds ++ Ws.layA ((l.map WsV.x).take (k + 1)) = es ++ s.x.lay := by rw [hsn, hes, List.append_assoc]
   rw [← hes] at hL
   have Hdn := Lib.hid hdn
   clear hs hsn hes hdn
   have ik : (k : Int) < (l.length : Int) := by omega
   have hp2 : wr.cell? p = some (.slice (some ad) l.length ck) := hx1.load Hhp.out
   obtain ⟨q, hq⟩ : ∃ q, q = ad.add (k * 36) := ⟨_, rfl⟩
   rw [← hq] at hcs
   have f1 := hfs.lo
   have f2 := hfs.hi
   have f3 := hfs.c0
   have f4 := hfs.c1
   have f5 : s.p.x.sum.length = 32 := hfs.sum
   have g1 : s.p.x.lo.length ≤ 24 := f1
   have g2 : s.p.x.hi.length ≤ 24 := f2
   have g3 : (s.p.x.count.toNat : Int) = s.p.x.count := Int.toNat_of_nonneg f3
   have g4 : s.p.x.count ≤ 2147483647 := f4
   have p1 := putBytes_len s.p.x.lo
   have p2 := putBytes_len s.p.x.hi
   have p3 := (Vint.put_len s.p.x.count.toNat).2
   have HT := Lib.hid (text_L hL q _ _ _ (hx1.load (hcs 0 _ rfl)) (hin.ext hx1).p.lr (by omega) (by omega))
   have Hq := Lib.hid hq
   rw [hq] at HT
   clear hL f1 f2 f3 f4 hfs hq
   go_wp2_with (go_at_call 67; refine HT.out.mono ?_; rintro e2 w2 ⟨rfl, hL2, hb2⟩; refine Hid.out ?_)
   have hB2 := hBe.tr hb2
   have hx2 : Ext W0 w2 := hx.trans (Below.mono hB2.below hB)
   obtain ⟨e2, he2⟩ : ∃ e2, e2 = es ++ Vint.putBytes s.p.x.lo := ⟨_, rfl⟩
   have l2 : e2.length ≤ 11000034 := by rw [he2, List.length_append]; omega
   rw [← he2] at hL2
   have HT2 := Lib.hid (text_L hL2 (q.add 1) _ _ _ (hx2.load (hcs 1 _ rfl)) (hin.ext hx2).p.hr (by omega) (by omega))
   rw [Hq.out] at HT2
   have hp3 : w2.cell? p = some (.slice (some ad) l.length ck) := hx2.load Hhp.out
   clear hL2 hb2 HT
   refine Lib.hid ?_
   go_wp2_with (go_at_call 67; refine HT2.out.mono ?_; rintro e3 w3 ⟨rfl, hL3, hb3⟩; refine Hid.out ?_)
   have hB3 := hB2.tr hb3
   have hx3 : Ext W0 w3 := hx.trans (Below.mono hB3.below hB)
   obtain ⟨e3, he3⟩ : ∃ e3, e3 = e2 ++ Vint.putBytes s.p.x.hi := ⟨_, rfl⟩
   have l3 : e3.length ≤ 11000068 := by rw [he3, List.length_append]; omega
   rw [← he3] at hL3
   have HT3 := Lib.hid (wide_L hL3 (q.add 35) s.lsn (hx3.load (hcs 35 _ (WsV.lsn_at f5))) (by omega))
   rw [Hq.out] at HT3
   clear hL3 hb3 HT2 hp3
   refine Lib.hid ?_
   go_wp2_with (go_at_call 69; refine HT3.out.mono ?_; rintro e4 w4 ⟨rfl, hL4, hb4⟩; refine Hid.out ?_)
   have hB4 := hB3.tr hb4
   have hx4 : Ext W0 w4 := hx.trans (Below.mono hB4.below hB)
   obtain ⟨e4, he4⟩ : ∃ e4, e4 = e3 ++ Vint.fixed s.lsn 8 := ⟨_, rfl⟩
   have l4 : e4.length ≤ 11000076 := by rw [he4, List.length_append, fixed_len8]; omega
   rw [← he4] at hL4
   have HT4 := Lib.hid (number_L hL4 (q.add 2) s.p.x.count.toNat (by rw [g3]; exact hx4.load (hcs 2 _ rfl)) (by omega) (by omega))
   rw [Hq.out] at HT4
   clear hL4 hb4 HT3
   refine Lib.hid ?_
   go_wp2_with (go_at_call 68; refine HT4.out.mono ?_; rintro e5 w5 ⟨rfl, hL5, hb5⟩; refine Hid.out ?_)
   have hB5 := hB4.tr hb5
   have hx5 : Ext W0 w5 := hx.trans (Below.mono hB5.below hB)
   obtain ⟨e5, he5⟩ : ∃ e5, e5 = e4 ++ Vint.put s.p.x.count.toNat := ⟨_, rfl⟩
   have l5 : e5.length ≤ 11000086 := by rw [he5, List.length_append]; omega
   rw [← he5] at hL5
   have HT5 := Lib.hid (sum_L hL5 (q.add 3) s.p.x.sum (fun j u hj => by
    rw [add_add']
    have hj2 : j < 32 := by have := (List.getElem?_eq_some_iff.1 hj).1; rwa [bvs_len, f5] at this
    refine hx5.load (hcs (3 + j) u (s.part _ _ ?_))
    rw [pc3]; simpa using hj) f5 (by omega))
   rw [Hq.out] at HT5
   clear hL5 hb5 HT4
   refine Lib.hid ?_
   go_wp2_with (go_at_call 70; refine HT5.out.mono ?_; rintro e6 w6 ⟨rfl, hL6, hb6⟩; refine Hid.out ?_)
   have hB6 := hB5.tr hb6
   have hfin : e5 ++ s.p.x.sum = es ++ s.x.lay := by rw [he5, he4, he3, he2]; simp [Ws.lay, WsV.x]
   rw [hfin, ← Hdn.out] at hL6
   have HL6 := Lib.hid hL6
   clear hL6 hb6 HT5 he2 he3 he4 he5 hfin
   refine Lib.hid ?_
   go_wp2_with fail
   go_roundw
   case rel => exact ⟨k + 1, by omega, by go_num, HL6.out, hB6⟩
   case measure => simp [intOf]; omega
  ·
   obtain rfl : k = l.length := by omega
   have HL := Lib.hid hL
   clear hL
   go_wp2_with fail
   (try simp only [Exit.inBlock, Exit.then])
   first | refine bodyPost_ret (results_none rfl _ _ _) rfl ?_ | refine bodyPost_end (results_none rfl _ _ _) rfl ?_
   have := HL.out
   rw [List.take_of_length_le (by simp)] at this
   exact ⟨rfl, this, hBe⟩
end Go.Proofs.YtjholekgdnhpkaaGreatDoor
namespace Go.Proofs.YtjholekgdnhpkaaGreatDoor
open Go.RowKit
attribute [local go_sem] Oper.semAt_some
def Wm.known (k : Int) : Bool := decide (k = 1) || decide (k = 2) || decide (k = 3) || decide (k = 4) || decide (k = 5) || decide (k = 6) || decide (k = 17) || decide (k = 18) || decide (k = 19) || decide (k = 20) || decide (k = 21) || decide (k = 22)
def Wm.ends (m : Wm) : List UInt8 := Vint.putBytes m.lo ++ Vint.putBytes m.hi
def Wm.fields (m : Wm) : List UInt8 :=
 if m.kind = 3 ∨ m.kind = 4 then m.ends else if m.kind = 5 ∨ m.kind = 6 then Vint.put m.n.toNat
 else if m.kind = 17 then Vint.fixed m.lsn 8 ++ (Vint.put m.count.toNat ++ (m.sum ++ (Vint.put m.size.toNat ++ m.file)))
 else if m.kind = 18 then Ws.layL m.subs else if m.kind = 19 then m.ends ++ Ws.layL m.subs
 else if m.kind = 20 then m.ends ++ ([if m.more then 1 else 0] ++ Ent.putAll m.ents)
 else if m.kind = 21 then Vint.put m.n.toNat ++ Wg.layL m.sigs else if m.kind = 22 then Vint.put m.n.toNat ++ m.data else []
structure Wm.Lays (m : Wm) : Prop where
 lo : m.lo.length ≤ 24
 hi : m.hi.length ≤ 24
 n0 : 0 ≤ m.n
 n1 : m.n ≤ 2147483647
 c0 : 0 ≤ m.count
 c1 : m.count ≤ 2147483647
 z0 : 0 ≤ m.size
 z1 : m.size ≤ 2147483647
 subs : m.subs.length ≤ 60
 sub : ∀ s ∈ m.subs, s.Fits
 ents : Ent.total m.ents + 20 * m.ents.length ≤ 1000000
 sigs : m.sigs.length ≤ 100000
 data : m.data.length ≤ 100000
structure MsgAt (W0 w : World) (B bm : Nat) (M : WmV) : Prop where
 row : W0.heap[bm]? = some (.cells M.cells 31 (0, 0))
 inn : M.In W0
 ext : Ext W0 w
 base : W0.heap.size ≤ B
theorem MsgAt.to {W0 w w' : World} {B bm : Nat} {M : WmV} (h : MsgAt W0 w B bm M) {g : Nat} (hb : Kept B g w w') : MsgAt W0 w' B bm M := ⟨h.row, h.inn, h.ext.trans (Below.mono hb.below h.base), h.base⟩
theorem MsgAt.cell {W0 w : World} {B bm : Nat} {M : WmV} (h : MsgAt W0 w B bm M) {k : Nat} {v : Value} (hk : M.cells[k]? = some v) : w.cell? ⟨bm, k, none⟩ = some v := h.ext.load (by rw [cell_of_row _ _ _ _ _ _ h.row]; exact hk)
theorem MsgAt.inw {W0 w : World} {B bm : Nat} {M : WmV} (h : MsgAt W0 w B bm M) : M.In w := h.inn.ext h.ext
set_option maxRecDepth 100000 in
set_option maxHeartbeats 1000000 in
theorem ends_lay (B g : Nat) (bs : List UInt8) (bm b1 b2 : Nat) (M : WmV) (W0 w : World) (h : Lay w B g bs) (hM : MsgAt W0 w B bm M) (h1 : w.heap[b1]? = some (.cells #[.pointer (some ⟨g, 0, none⟩)] 85 (0, 0))) (h2 : w.heap[b2]? = some (.cells #[.pointer (some ⟨bm, 0, none⟩)] 91 (0, 0)))
  (hb : bs.length ≤ 10000000) (hlo : M.lo.length ≤ 24) (hhi : M.hi.length ≤ 24) (hne : b1 ≠ g ∧ b2 ≠ g) :
  Calls Tryz.prog 66 #[.pointer (some ⟨b1, 0, none⟩), .pointer (some ⟨b2, 0, none⟩)] w (Laid B g (bs ++ M.x.ends) w) := by
 have hMd := hM.to (Kept.ext (g := g) (Ext.drew w) (by obtain ⟨A, c, h⟩ := h; exact h.size))
 have hBs : B ≤ w.heap.size := by obtain ⟨A, c, h⟩ := h; exact h.size
 have hT := text_L (h.ext (Ext.drew w)) ⟨bm, 3, none⟩ _ _ _ (hMd.cell (WmV.at3 M)) hMd.inw.lr (by omega) (by omega)
 have hq1 : w.drew.cell? ⟨b1, 0, none⟩ = some (.pointer (some ⟨g, 0, none⟩)) := cell_of_row w b1 0 _ _ _ h1
 have hq2 : w.drew.cell? ⟨b2, 0, none⟩ = some (.pointer (some ⟨bm, 0, none⟩)) := cell_of_row w b2 0 _ _ _ h2
 have HT := Lib.hid hT
 have HM := Lib.hid hM
 have hp1 := putBytes_len M.lo
 clear hT h hM hMd
 go_enter Tryz.func66, Tryz.ntmps66
 go_wp2_with fail
 refine rr_start (extW) [2, 3] (by kernel_rfl) ?_
 refine qS 0 rfl ⟨_, fun w' hx => by have hcx := hx.load hq1; (go_simp <;> with_reducible rfl), ?_⟩
 simp only [sP]
 refine qS 1 rfl ⟨_, fun w' hx => by have hcx := hx.load hq2; (go_simp <;> with_reducible rfl), ?_⟩
 simp only [sP]
 refine qAD 2 rfl ?_
 simp only [sP]
 refine qAD 3 rfl ?_
 simp only [sP]
 refine rr_callW 4 (HT.out) rfl (by kernel_rfl) (by kernel_rfl) (by rfl) (by go_simp) ?_
 rintro e1 w1 ⟨rfl, hL1, hb1⟩
 refine ⟨_, rfl, ?_⟩
 simp only [sP]
 refine rr_done (by kernel_rfl) ?_
 have hk1 : Kept B g w w1 := (Kept.ext (Ext.drew w) hBs).tr hb1
 have r1 := hk1.rows _ _ _ _ h1 (by decide) hne.1
 have r2 := hk1.rows _ _ _ _ h2 (by decide) hne.2
 have hM1 := HM.out.to (hk1.tr (Kept.ext (Ext.drew w1) (Nat.le_trans hBs hk1.below.size)))
 obtain ⟨es, hes⟩ : ∃ es, es = bs ++ Vint.putBytes M.lo := ⟨_, rfl⟩
 have hel : es.length ≤ 10000034 := by rw [hes, List.length_append]; omega
 rw [← hes] at hL1
 have hT2 := text_L (hL1.ext (Ext.drew w1)) ⟨bm, 4, none⟩ _ _ _ (hM1.cell (WmV.at4 M)) hM1.inw.hr (by omega) (by omega)
 have hq1 : w1.drew.cell? ⟨b1, 0, none⟩ = some (.pointer (some ⟨g, 0, none⟩)) := cell_of_row w1 b1 0 _ _ _ r1
 have hq2 : w1.drew.cell? ⟨b2, 0, none⟩ = some (.pointer (some ⟨bm, 0, none⟩)) := cell_of_row w1 b2 0 _ _ _ r2
 have HT2 := Lib.hid hT2
 clear hT2 HT hL1 hM1 hb1
 go_wp2_with fail
 refine rr_start (extW) [2, 3] (by kernel_rfl) ?_
 refine qS 0 rfl ⟨_, fun w' hx => by have hcx := hx.load hq1; (go_simp <;> with_reducible rfl), ?_⟩
 simp only [sP]
 refine qS 1 rfl ⟨_, fun w' hx => by have hcx := hx.load hq2; (go_simp <;> with_reducible rfl), ?_⟩
 simp only [sP]
 refine qAD 2 rfl ?_
 simp only [sP]
 refine qAD 3 rfl ?_
 simp only [sP]
 refine rr_callW 4 (HT2.out) rfl (by kernel_rfl) (by kernel_rfl) (by rfl) (by go_simp) ?_
 rintro e2 w2 ⟨rfl, hL2, hb2⟩
 refine ⟨_, rfl, ?_⟩
 simp only [sP]
 refine rr_done (by kernel_rfl) ?_
 go_wp2_with fail
 (try simp only [Exit.inBlock, Exit.then])
 first | refine bodyPost_ret (results_none rfl _ _ _) rfl ?_ | refine bodyPost_end (results_none rfl _ _ _) rfl ?_
 have hfin : es ++ Vint.putBytes M.hi = bs ++ M.x.ends := by rw [hes, List.append_assoc]; rfl
 rw [← hfin]
 exact ⟨rfl, hL2, (hk1.tr (Kept.ext (Ext.drew w1) (Nat.le_trans hBs hk1.below.size))).tr hb2⟩
end Go.Proofs.YtjholekgdnhpkaaGreatDoor
namespace Go.Proofs.YtjholekgdnhpkaaGreatDoor
open Go.RowKit
attribute [local go_sem] Oper.semAt_some
structure MsgR (w : World) (S : Nat → Prop) (bm : Nat) (M : WmV) : Prop where
 row : w.heap[bm]? = some (.cells M.cells 31 (0, 0))
 ok : M.Ok
 lo : Tx w S M.la M.lc M.lo
 hi : Tx w S M.ha M.hc M.hi
 sa : M.sa = none ∧ M.sc = 0 ∧ M.subs = []
 ga : M.ga = none ∧ M.gc = 0 ∧ M.sigs = []
 en : M.ents = []
 da : M.data = []
structure MsgD (w : World) (S : Nat → Prop) (bm : Nat) (M : WmV) : Prop where
 row : w.heap[bm]? = some (.cells M.cells 31 (0, 0))
 inn : ∀ w2, Trn S w w2 → M.In w2
theorem MsgR.done {w : World} {S : Nat → Prop} {bm : Nat} {M : WmV} (h : MsgR w S bm M) : MsgD w S bm M :=
 ⟨h.row, fun w2 t => ⟨h.ok, (h.lo.trn t (fun _ e => e)).rd, (h.hi.trn t (fun _ e => e)).rd, by rw [h.sa.2.2]; exact RdW.nil_ _ _, by rw [h.en]; exact RdE.nil_ _ _, by rw [h.ga.2.2]; exact RdG.nil_ _ _, by rw [h.da]; exact RdB.nil_ _ _⟩⟩
theorem MsgR.ext {w w' : World} {S : Nat → Prop} {bm : Nat} {M : WmV} (h : MsgR w S bm M) (hx : Ext w w') : MsgR w' S bm M :=
 ⟨(hx.block _ (lt_of_heap h.row)).trans h.row, h.ok, h.lo.ext hx, h.hi.ext hx, h.sa, h.ga, h.en, h.da⟩
theorem Rdr.ext {w w' : World} {S : Nat → Prop} {g : Nat} {d : List UInt8} {bad : Bool} (h : Rdr w S g d bad) (hx : Ext w w') : Rdr w' S g d bad := h.trn (T := fun _ => False) (Trn.ext hx) (fun _ => False.elim) id
def RM (S : Nat → Prop) (g bm : Nat) (x : Wm) (d : List UInt8) (bad : Bool) (w : World) (e : Ending) (w' : World) : Prop :=
 e = .returned (.tuple #[]) ∧ Trn (Two g bm) w w' ∧ Rdr w' S g d bad ∧ ∃ M', M'.x = x ∧ MsgR w' S bm M'
def RD (S : Nat → Prop) (g bm : Nat) (x : Wm) (d : List UInt8) (bad : Bool) (w : World) (e : Ending) (w' : World) : Prop :=
 e = .returned (.tuple #[]) ∧ Trn (Two g bm) w w' ∧ Rdr w' S g d bad ∧ ∃ M', M'.x = x ∧ MsgD w' S bm M'
theorem Rn.val_in (d : List UInt8) (n0 : Int) (h1 : -9223372036854775808 ≤ n0) (h2 : n0 ≤ 9223372036854775807) : -9223372036854775808 ≤ Rn.val d n0 ∧ Rn.val d n0 ≤ 9223372036854775807 := by
 unfold Rn.val
 split
 ·
  next e => simp only [Rn.ok, Bool.and_eq_true, decide_eq_true_eq] at e; omega
 ·
  exact ⟨h1, h2⟩
section
variable {w : World} {S : Nat → Prop} {g bm : Nat} {d : List UInt8} {bad : Bool} {M : WmV} (h : Rdr w S g d bad) (hM : MsgR w S bm M) (hne : bm ≠ g) (hSb : S bm)
include h hM hne hSb
theorem lo_rm : Calls Tryz.prog 67 #[.pointer (some ⟨g, 0, none⟩), .pointer (some ⟨bm, 3, none⟩)] w (RM S g bm { M.x with lo := Rt.val d } (Rt.rest d) (bad || Rt.bad d) w) := by
 obtain ⟨A, c, hA⟩ := h
 have hsz := WmV.size78 hM.ok
 refine (text_read S g A c d bad bm 3 _ _ w hA hM.row hne hSb (by omega)).mono ?_
 rintro e w' ⟨rfl, ht, hR, cs, hr, A', c', rfl, hx⟩
 have hsub := Two.sub hA.mem hSb
 rw [WmV.put3] at hr
 exact ⟨rfl, ht, hR, { M with la := A', lc := c', lo := Rt.val d }, rfl, hr, { hM.ok with lcap := hx.cap }, hx, hM.hi.trn ht hsub, hM.sa, hM.ga, hM.en, hM.da⟩
theorem hi_rm : Calls Tryz.prog 67 #[.pointer (some ⟨g, 0, none⟩), .pointer (some ⟨bm, 4, none⟩)] w (RM S g bm { M.x with hi := Rt.val d } (Rt.rest d) (bad || Rt.bad d) w) := by
 obtain ⟨A, c, hA⟩ := h
 have hsz := WmV.size78 hM.ok
 refine (text_read S g A c d bad bm 4 _ _ w hA hM.row hne hSb (by omega)).mono ?_
 rintro e w' ⟨rfl, ht, hR, cs, hr, A', c', rfl, hx⟩
 have hsub := Two.sub hA.mem hSb
 rw [WmV.put4] at hr
 exact ⟨rfl, ht, hR, { M with ha := A', hc := c', hi := Rt.val d }, rfl, hr, { hM.ok with hcap := hx.cap }, hM.lo.trn ht hsub, hx, hM.sa, hM.ga, hM.en, hM.da⟩
theorem n_rm : Calls Tryz.prog 68 #[.pointer (some ⟨g, 0, none⟩), .pointer (some ⟨bm, 5, none⟩)] w (RM S g bm { M.x with n := Rn.val d M.x.n } (Rn.rest d) (bad || !Rn.ok d) w) := by
 obtain ⟨A, c, hA⟩ := h
 have hsz := WmV.size78 hM.ok
 refine (number_read S g A c d bad bm 5 _ _ w hA hM.row hne hSb M.n (WmV.at5 M)).mono ?_
 rintro e w' ⟨rfl, ht, hR, cs, hr, rfl⟩
 have hsub := Two.sub hA.mem hSb
 rw [WmV.put5] at hr
 exact ⟨rfl, ht, hR, { M with n := Rn.val d M.n }, rfl, hr, { hM.ok with nlo := (Rn.val_in d M.n hM.ok.nlo hM.ok.nhi).1, nhi := (Rn.val_in d M.n hM.ok.nlo hM.ok.nhi).2 }, hM.lo.trn ht hsub, hM.hi.trn ht hsub, hM.sa, hM.ga, hM.en, hM.da⟩
theorem count_rm : Calls Tryz.prog 68 #[.pointer (some ⟨g, 0, none⟩), .pointer (some ⟨bm, 7, none⟩)] w (RM S g bm { M.x with count := Rn.val d M.x.count } (Rn.rest d) (bad || !Rn.ok d) w) := by
 obtain ⟨A, c, hA⟩ := h
 have hsz := WmV.size78 hM.ok
 refine (number_read S g A c d bad bm 7 _ _ w hA hM.row hne hSb M.count (WmV.at7 M)).mono ?_
 rintro e w' ⟨rfl, ht, hR, cs, hr, rfl⟩
 have hsub := Two.sub hA.mem hSb
 rw [WmV.put7] at hr
 exact ⟨rfl, ht, hR, { M with count := Rn.val d M.count }, rfl, hr, { hM.ok with clo := (Rn.val_in d M.count hM.ok.clo hM.ok.chi).1, chi := (Rn.val_in d M.count hM.ok.clo hM.ok.chi).2 }, hM.lo.trn ht hsub, hM.hi.trn ht hsub, hM.sa, hM.ga, hM.en, hM.da⟩
theorem size_rm : Calls Tryz.prog 68 #[.pointer (some ⟨g, 0, none⟩), .pointer (some ⟨bm, 40, none⟩)] w (RM S g bm { M.x with size := Rn.val d M.x.size } (Rn.rest d) (bad || !Rn.ok d) w) := by
 obtain ⟨A, c, hA⟩ := h
 have hsz := WmV.size78 hM.ok
 refine (number_read S g A c d bad bm 40 _ _ w hA hM.row hne hSb M.size (WmV.at40 hM.ok)).mono ?_
 rintro e w' ⟨rfl, ht, hR, cs, hr, rfl⟩
 have hsub := Two.sub hA.mem hSb
 rw [WmV.put40 hM.ok] at hr
 exact ⟨rfl, ht, hR, { M with size := Rn.val d M.size }, rfl, hr, { hM.ok with zlo := (Rn.val_in d M.size hM.ok.zlo hM.ok.zhi).1, zhi := (Rn.val_in d M.size hM.ok.zlo hM.ok.zhi).2 }, hM.lo.trn ht hsub, hM.hi.trn ht hsub, hM.sa, hM.ga, hM.en, hM.da⟩
theorem lsn_rm : Calls Tryz.prog 69 #[.pointer (some ⟨g, 0, none⟩), .pointer (some ⟨bm, 6, none⟩)] w (RM S g bm { M.x with lsn := Vint.number (Rc.val 8 d) } (Rc.rest 8 d) (bad || decide (d.length < 8)) w) := by
 obtain ⟨A, c, hA⟩ := h
 have hsz := WmV.size78 hM.ok
 refine (wide_read S g A c d bad bm 6 _ _ w hA hM.row hne hSb (by omega)).mono ?_
 rintro e w' ⟨rfl, ht, hR, cs, hr, rfl⟩
 have hsub := Two.sub hA.mem hSb
 rw [WmV.put6] at hr
 exact ⟨rfl, ht, hR, { M with lsn := Vint.number (Rc.val 8 d) }, rfl, hr, { hM.ok with lsn := Vint.number_lt _ }, hM.lo.trn ht hsub, hM.hi.trn ht hsub, hM.sa, hM.ga, hM.en, hM.da⟩
theorem sum_rm : Calls Tryz.prog 70 #[.pointer (some ⟨g, 0, none⟩), .pointer (some ⟨bm, 8, none⟩)] w (RM S g bm { M.x with sum := Rc.val 32 d } (Rc.rest 32 d) (bad || decide (d.length < 32)) w) := by
 obtain ⟨A, c, hA⟩ := h
 have hsz := WmV.size78 hM.ok
 refine (sum_read S g A c d bad bm 8 _ _ w hA hM.row hne hSb (by omega)).mono ?_
 rintro e w' ⟨rfl, ht, hR, cs, hr, rfl⟩
 have hsub := Two.sub hA.mem hSb
 rw [WmV.put8 hM.ok _ (Rc.len 32 d)] at hr
 exact ⟨rfl, ht, hR, { M with sum := Rc.val 32 d }, rfl, hr, { hM.ok with sum := Rc.len 32 d }, hM.lo.trn ht hsub, hM.hi.trn ht hsub, hM.sa, hM.ga, hM.en, hM.da⟩
theorem file_rm : Calls Tryz.prog 70 #[.pointer (some ⟨g, 0, none⟩), .pointer (some ⟨bm, 41, none⟩)] w (RM S g bm { M.x with file := Rc.val 32 d } (Rc.rest 32 d) (bad || decide (d.length < 32)) w) := by
 obtain ⟨A, c, hA⟩ := h
 have hsz := WmV.size78 hM.ok
 refine (sum_read S g A c d bad bm 41 _ _ w hA hM.row hne hSb (by omega)).mono ?_
 rintro e w' ⟨rfl, ht, hR, cs, hr, rfl⟩
 have hsub := Two.sub hA.mem hSb
 rw [WmV.put41 hM.ok _ (Rc.len 32 d)] at hr
 exact ⟨rfl, ht, hR, { M with file := Rc.val 32 d }, rfl, hr, { hM.ok with file := Rc.len 32 d }, hM.lo.trn ht hsub, hM.hi.trn ht hsub, hM.sa, hM.ga, hM.en, hM.da⟩
theorem more_rm : Calls Tryz.prog 72 #[.pointer (some ⟨g, 0, none⟩), .pointer (some ⟨bm, 74, none⟩)] w (RM S g bm { M.x with more := decide (Rc.val 1 d = [1]) } (Rc.rest 1 d) (bad || decide (d.length < 1)) w) := by
 obtain ⟨A, c, hA⟩ := h
 have hsz := WmV.size78 hM.ok
 refine (flag_read S g A c d bad bm 74 _ _ w hA hM.row hne hSb (by omega)).mono ?_
 rintro e w' ⟨rfl, ht, hR, cs, hr, rfl⟩
 have hsub := Two.sub hA.mem hSb
 rw [WmV.put74 hM.ok] at hr
 exact ⟨rfl, ht, hR, { M with more := decide (Rc.val 1 d = [1]) }, rfl, hr, { hM.ok with }, hM.lo.trn ht hsub, hM.hi.trn ht hsub, hM.sa, hM.ga, hM.en, hM.da⟩
theorem subs_rd : Calls Tryz.prog 71 #[.pointer (some ⟨g, 0, none⟩), .pointer (some ⟨bm, 73, none⟩)] w (RD S g bm { M.x with subs := (Rs.all d bad).1 } (Rs.all d bad).2.1 (Rs.all d bad).2.2 w) := by
 obtain ⟨A, c, hA⟩ := h
 have hsz := WmV.size78 hM.ok
 refine (subs_read S g d bad bm 73 _ _ w ⟨A, c, hA⟩ hM.row hne hSb (by rw [WmV.at73 hM.ok, hM.sa.1, hM.sa.2.1, hM.sa.2.2]; rfl)).mono ?_
 rintro e w' ⟨rfl, ht, hR, cs, hr, A', c', L, rfl, hs, hcp, hl⟩
 have hsub := Two.sub hA.mem hSb
 rw [WmV.put73 hM.ok] at hr
 rw [← hl]
 exact ⟨rfl, ht, hR, { M with sa := A', sc := c', subs := L }, rfl, hr, fun w9 t9 => ⟨{ hM.ok with scap := hcp }, ((hM.lo.trn ht hsub).trn t9 (fun _ e => e)).rd, ((hM.hi.trn ht hsub).trn t9 (fun _ e => e)).rd, hs w9 t9, by rw [hM.en]; exact RdE.nil_ _ _, by rw [hM.ga.2.2]; exact RdG.nil_ _ _, by rw [hM.da]; exact RdB.nil_ _ _⟩⟩
theorem ents_rd : Calls Tryz.prog 73 #[.pointer (some ⟨g, 0, none⟩), .pointer (some ⟨bm, 75, none⟩)] w (RD S g bm { M.x with ents := (Ent.getAll d).getD [] } [] (bad || (Ent.getAll d).isNone) w) := by
 obtain ⟨A, c, hA⟩ := h
 have hsz := WmV.size78 hM.ok
 refine (entries_read S g A c d bad bm 75 _ _ w hA hM.row hne hSb (by omega)).mono ?_
 rintro e w' ⟨rfl, ht, hR, cs, hr, A', c', L, rfl, hs, hcp, hl⟩
 have hsub := Two.sub hA.mem hSb
 rw [WmV.put75 hM.ok] at hr
 rw [← hl]
 exact ⟨rfl, ht, hR, { M with ea := A', ec := c', ents := L }, rfl, hr, fun w9 t9 => ⟨{ hM.ok with ecap := hcp }, ((hM.lo.trn ht hsub).trn t9 (fun _ e => e)).rd, ((hM.hi.trn ht hsub).trn t9 (fun _ e => e)).rd, by rw [hM.sa.2.2]; exact RdW.nil_ _ _, hs w9 t9, by rw [hM.ga.2.2]; exact RdG.nil_ _ _, by rw [hM.da]; exact RdB.nil_ _ _⟩⟩
theorem sigs_rd : Calls Tryz.prog 74 #[.pointer (some ⟨g, 0, none⟩), .pointer (some ⟨bm, 76, none⟩)] w (RD S g bm { M.x with sigs := (Rg.all d bad).1 } (Rg.all d bad).2.1 (Rg.all d bad).2.2 w) := by
 obtain ⟨A, c, hA⟩ := h
 have hsz := WmV.size78 hM.ok
 refine (sigs_read S g d bad bm 76 _ _ w ⟨A, c, hA⟩ hM.row hne hSb (by rw [WmV.at76 hM.ok, hM.ga.1, hM.ga.2.1, hM.ga.2.2]; rfl)).mono ?_
 rintro e w' ⟨rfl, ht, hR, cs, hr, A', c', rfl, hs, hcp⟩
 have hsub := Two.sub hA.mem hSb
 rw [WmV.put76 hM.ok] at hr
 exact ⟨rfl, ht, hR, { M with ga := A', gc := c', sigs := (Rg.all d bad).1 }, rfl, hr, fun w9 t9 => ⟨{ hM.ok with gcap := hcp }, ((hM.lo.trn ht hsub).trn t9 (fun _ e => e)).rd, ((hM.hi.trn ht hsub).trn t9 (fun _ e => e)).rd, by rw [hM.sa.2.2]; exact RdW.nil_ _ _, by rw [hM.en]; exact RdE.nil_ _ _, hs w9 t9, by rw [hM.da]; exact RdB.nil_ _ _⟩⟩
theorem data_rd : Calls Tryz.prog 75 #[.pointer (some ⟨g, 0, none⟩), .pointer (some ⟨bm, 77, none⟩)] w (RD S g bm { M.x with data := d } [] bad w) := by
 obtain ⟨A, c, hA⟩ := h
 have hsz := WmV.size78 hM.ok
 refine (rest_read S g A c d bad bm 77 _ _ w hA hM.row hne hSb (by omega)).mono ?_
 rintro e w' ⟨rfl, ht, hR, cs, hr, A', c', rfl, hx⟩
 have hsub := Two.sub hA.mem hSb
 rw [WmV.put77 hM.ok] at hr
 exact ⟨rfl, ht, hR, { M with da := A', dc := c', data := d }, rfl, hr, fun w9 t9 => ⟨{ hM.ok with dcap := hx.cap }, ((hM.lo.trn ht hsub).trn t9 (fun _ e => e)).rd, ((hM.hi.trn ht hsub).trn t9 (fun _ e => e)).rd, by rw [hM.sa.2.2]; exact RdW.nil_ _ _, by rw [hM.en]; exact RdE.nil_ _ _, by rw [hM.ga.2.2]; exact RdG.nil_ _ _, (hx.trn t9 (fun _ e => e)).rd⟩⟩
end
end Go.Proofs.YtjholekgdnhpkaaGreatDoor
