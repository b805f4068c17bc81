
/- Contracts: byLength, Find (the program's). -/

import Derived.Test.YtnagbhaknmoilaaSgnLook

namespace Go.Proofs.Ytnagbhaknmoilaa

open Go.RowKit

open Go.ChangeMaps

attribute [local go_sem] Oper.semAt_some

/-- The blocks of one length, among the first j. -/
def Fd.lens (size : Int) (j : Nat) (b : Int) : List Int := ((List.range j).filter fun i => decide ((Sg.lenN size i : Int) = b)).map fun (i : Nat) => (i : Int)
theorem Fd.lens_succ (size : Int) (j : Nat) (b : Int) : Fd.lens size (j + 1) b = if b = (Sg.lenN size j : Int) then Fd.lens size j b ++ [(j : Int)] else Fd.lens size j b := by
  unfold Fd.lens
  rw [List.range_succ, List.filter_append, List.map_append]
  by_cases h : b = (Sg.lenN size j : Int)
  · rw [if_pos h, List.filter_cons, if_pos (by simp [h])]; rfl
  · rw [if_neg h, List.filter_cons, if_neg (by simp; exact fun e => h e.symm)]; simp
theorem Fd.lens_mem {size : Int} {j : Nat} {b x : Int} (h : x ∈ Fd.lens size j b) : ∃ i : Nat, x = (i : Int) ∧ i < j ∧ (Sg.lenN size i : Int) = b := by
  unfold Fd.lens at h
  obtain ⟨i, hi, rfl⟩ := List.mem_map.1 h
  obtain ⟨h1, h2⟩ := List.mem_filter.1 hi
  exact ⟨i, rfl, List.mem_range.1 h1, by simpa using h2⟩
theorem Fd.lens_has {size : Int} {j i : Nat} (h : i < j) : (i : Int) ∈ Fd.lens size j (Sg.lenN size i : Int) :=
  List.mem_map.2 ⟨i, List.mem_filter.2 ⟨List.mem_range.2 h, by simp⟩, rfl⟩
theorem Fd.lens_len (size : Int) (j : Nat) (b : Int) : (Fd.lens size j b).length ≤ j := by
  unfold Fd.lens
  rw [List.length_map]
  exact Nat.le_trans (List.length_filter_le _ _) (by simp)
def Sg.place (o : List UInt8) (size : Int) (S : List Sg) (i : Nat) : Int := Sg.first (Sg.hitP o (Sg.lenN size i) S i) (o.length + 1 - Sg.lenN size i)
/-- Where the blocks stand. -/
def Sg.find (o : List UInt8) (size : Int) (S : List Sg) : List Int := (List.range S.length).map (Sg.place o size S)
/-- The answers when the blocks of fewer than m bytes were looked for. -/
def Fd.upto (o : List UInt8) (size : Int) (S : List Sg) (m : Nat) : List Int := (List.range S.length).map fun i => if Sg.lenN size i < m then Sg.place o size S i else -1
theorem Fd.upto_len (o : List UInt8) (size : Int) (S : List Sg) (m : Nat) : (Fd.upto o size S m).length = S.length := by simp [Fd.upto]
theorem Fd.upto_zero (o : List UInt8) (size : Int) (S : List Sg) : Fd.upto o size S 0 = List.replicate S.length (-1) := by
  refine List.ext_getElem (by simp [Fd.upto]) fun i h1 h2 => by simp [Fd.upto]
theorem Fd.upto_all {o : List UInt8} {size : Int} {S : List Sg} (hb : S.length = Sg.blocks size) : Fd.upto o size S 65 = Sg.find o size S := by
  refine List.ext_getElem (by simp [Fd.upto, Sg.find]) fun i h1 h2 => ?_
  simp only [Fd.upto, Sg.find, List.getElem_map, List.getElem_range]
  rw [if_pos]
  have hi : i < Sg.blocks size := by simpa [Fd.upto, hb] using h1
  have := (Sg.lenN_le hi).2
  omega
theorem Fd.upto_step {o : List UInt8} {size : Int} {S : List Sg} (n : Nat) (hb : S.length = Sg.blocks size) : Fd.ans o n S (Fd.lens size (Sg.blocks size) (n : Int)) (Fd.upto o size S n) (o.length + 1 - n) = Fd.upto o size S (n + 1) := by
  refine List.ext_getElem (by rw [Fd.ans_len, Fd.upto_len, Fd.upto_len]) fun i h1 h2 => ?_
  have hi : i < S.length := by simpa [Fd.upto_len] using h2
  simp only [Fd.ans, List.getElem_map, List.getElem_range]
  have hr : (Fd.upto o size S (n + 1))[i] = if Sg.lenN size i < n + 1 then Sg.place o size S i else -1 := by simp [Fd.upto]
  have hl : (Fd.upto o size S n).getD i 0 = if Sg.lenN size i < n then Sg.place o size S i else -1 := by simp [Fd.upto, List.getD_eq_getElem?_getD, hi]
  rw [hr, hl]
  by_cases hn : Sg.lenN size i = n
  · have hm : (i : Int) ∈ Fd.lens size (Sg.blocks size) (n : Int) := by
      have := Fd.lens_has (size := size) (j := Sg.blocks size) (i := i) (by omega)
      rwa [hn] at this
    rw [if_pos hm, if_pos (by omega)]
    unfold Sg.place
    rw [hn]
  · have hm : (i : Int) ∉ Fd.lens size (Sg.blocks size) (n : Int) := fun h => by
      obtain ⟨i', e, _, h3⟩ := Fd.lens_mem h
      have : i' = i := by omega
      subst this
      omega
    rw [if_neg hm]
    by_cases h3 : Sg.lenN size i < n
    · rw [if_pos h3, if_pos (by omega)]
    · rw [if_neg h3, if_neg (by omega)]
theorem Fd.upto_none {o : List UInt8} {size : Int} {S : List Sg} (n : Nat) (hb : S.length = Sg.blocks size) (h : Fd.lens size (Sg.blocks size) (n : Int) = []) : Fd.upto o size S n = Fd.upto o size S (n + 1) := by
  refine List.ext_getElem (by rw [Fd.upto_len, Fd.upto_len]) fun i h1 h2 => ?_
  have hi : i < S.length := by simpa [Fd.upto_len] using h2
  simp only [Fd.upto, List.getElem_map, List.getElem_range]
  have hne : Sg.lenN size i ≠ n := fun e => by
    have := Fd.lens_has (size := size) (j := Sg.blocks size) (i := i) (by omega)
    rw [e, h] at this
    simp at this
  by_cases h3 : Sg.lenN size i < n
  · rw [if_pos h3, if_pos (by omega)]
  · rw [if_neg h3, if_neg (by omega)]
theorem wf_i64n (n : Nat) (h : n < 1000000) : (Lit.int .i64 (n : Int)).wf = true := by simp [Lit.wf, IntKind.min, IntKind.max, IntKind.bits, IntKind.signed]; omega
set_option maxRecDepth 100000 in
set_option maxHeartbeats 2000000 in
theorem bylen_any (gf gO : Nat) (M : Value) (oA : Option Addr) (oC : Nat) (o : List UInt8) (sA : Option Addr) (sC : Nat) (S : List Sg) (size : Int) (w : World)
    (hF : FA w gf gO M oA oC o sA sC S (List.replicate S.length (-1))) (hol : o.length ≤ 100000) (hb : S.length = Sg.blocks size) (h1 : -9223372036854775808 ≤ size) (h2 : size ≤ 9223372036854775807) :
    Calls Try.prog 22 #[.int .i64 size, .func (.func 23) #[.pointer (some ⟨gf, 0, none⟩)] #[]] w fun e w' => e = .returned (.tuple #[]) ∧
      (∃ M', FA w' gf gO M' oA oC o sA sC S (Sg.find o size S)) ∧ Turn (fun i => i = gO ∨ i = gf) w w' := by
  have hmm := @run_makeMap Try.prog
  have hgl := lt_of_heap hF.fin
  have hgO := hF.ord
  obtain ⟨nb, hnb⟩ : ∃ nb, nb = Sg.blocks size := ⟨_, rfl⟩
  have hnb2 : nb ≤ 2048 := by rw [hnb]; exact Sg.blocks_le _
  have hblk := fun w => blocks_any size h1 h2 w
  rw [← hnb] at hb hblk
  rw [← Fd.upto_zero o size S] at hF
  obtain ⟨gm, hgm⟩ : ∃ gm, gm = w.heap.size := ⟨_, rfl⟩
  have hM1 := MG.new w .i64 (gm + 1)
  obtain ⟨w1, hw1⟩ : ∃ w1, w1 = w.alloc (.map #[] 0) := ⟨_, rfl⟩
  rw [← hw1, ← hgm] at hM1
  have hx1 : Ext w w1 := by rw [hw1]; exact Ext.alloc _ _
  have hs1 : gm + 1 ≤ w1.heap.size := by rw [hw1, hgm]; simp
  have hF1 := hF.ext hx1
  have hgfm : gf < gm := by omega
  have Hgm := Lib.hid hgm
  have Hnb := Lib.hid hnb
  have Hb := Lib.hid hb
  have Hblk := Lib.hid hblk
  have Hw1 := Lib.hid hw1
  clear hF hgm hnb hb hw1 hblk
  go_enter Try.func22, Try.ntmps22
  go_wp2_with (go_at_call 11; refine (Hblk.out _).mono ?_; rintro e1 w1 ⟨rfl, rfl⟩)
  rw [← Hgm.out, ← Hw1.out]
  clear hmm
  go_loopw [12] (fun i wr => ∃ (j : Nat) (es : Array MapEntry) (clock : Nat), j ≤ nb ∧ i = .int .i64 j ∧ MG wr gm .i64 (gm + 1) (Fd.lens size j) es clock ∧ Turn (fun i => gm ≤ i) w1 wr) (fun i _ => nb - (intOf i).toNat)
  case atStart => exact ⟨0, _, _, by omega, rfl, hM1, Turn.refl _ _⟩
  case round =>
    obtain ⟨j, es, clock, hj, rfl, hM, hT⟩ := hrel
    by_cases hjn : j < nb
    · have ij : (0 : Int) ≤ (j : Int) := by omega
      have ij2 : (j : Int) < (nb : Int) := by omega
      have hBl := block_any size (j : Int) h1 h2 wr
      obtain ⟨eb, b1, b2, b3, b4, b5⟩ := Sg.block_in (size := size) (i := j) (by have := Hnb.out; omega)
      rw [eb] at hBl
      obtain ⟨m, hm⟩ : ∃ m, m = Sg.lenN size j := ⟨_, rfl⟩
      have hm2 := Sg.lenN_eq (size := size) (i := j) (by have := Hnb.out; omega)
      rw [← hm] at hm2
      rw [hm2] at hBl b1 b2 b3
      unfold bl2 at hBl
      simp only at hBl
      have hsz3 : gm + 1 ≤ wr.heap.size := Nat.le_trans hs1 hT.size
      obtain ⟨A, c, hlook, hO, hap⟩ := hM.lookW (P := Try.prog) Try.underlying68 Try.underlying3 zeroI (m : Int) (wf_i64n m (by omega))
      have hml := Fd.lens_len size j (m : Int)
      obtain ⟨gl, hgl2⟩ : ∃ gl, gl = Fd.lens size j (m : Int) := ⟨_, rfl⟩
      rw [← hgl2] at hlook hO hml
      obtain ⟨q, hq⟩ : ∃ q, q = gl.length := ⟨_, rfl⟩
      rw [← hq] at hlook hO hml
      have hlk := hlook wr hM.row
      have hEi : Ext wr (wr.alloc (.cells #[.int .i64 (j : Int)] 3)) := Ext.alloc _ _
      have hri : Rd (wr.alloc (.cells #[.int .i64 (j : Int)] 3)) 1 (some ⟨wr.heap.size, 0, none⟩) 1 (ivs [(j : Int)]) := Rd.new wr 3 (ivs [(j : Int)])
      have Hiv := Lib.hid (ivs_app gl [(j : Int)])
      have HM := Lib.hid hM
      have Hap := Lib.hid hap
      have Hm := Lib.hid hm
      have Hq := Lib.hid hq
      have Hgl2 := Lib.hid hgl2
      have HOi := Lib.hid (hO.below hEi)
      clear hM hlook hap hm hm2 eb hq hgl2 hO
      go_wp2_with (first | (go_at_call 9; refine hBl.mono ?_; clear hBl; rintro e2 w2 ⟨rfl, rfl⟩) | (refine wpList_app rfl (.tmp 25) (.tmp 27) 35 rfl elemI (gm + 1) A q c (ivs gl) rfl (some ⟨wr.heap.size, 0, none⟩) 1 1 (ivs [(j : Int)]) rfl (q + 1) rfl (ivs (gl ++ [(j : Int)])) Hiv.out HOi.out hri (ivs_one _) (by omega) (by omega) (Nat.le_trans hsz3 hEi.size) ?_; intro A6 c6 w6 ho6 hg6 hr6; refine Hid.out ?_))
      have hput := (HM.out.ext hEi).put (P := Try.prog) (A' := A6) (c' := c6) (n := q + 1) (l := gl ++ [(j : Int)]) Try.underlying68 Try.underlying3 (m : Int) (wf_i64n m (by omega)) hg6
        (by
          cases hrr : ownRow A c with
          | none => exact ⟨#[], fun r e => by cases e⟩
          | some r =>
            obtain ⟨cur, hcur⟩ := HOi.out.row_is hrr
            exact ⟨cur, fun r' e => by injection e with e; subst e; exact hcur⟩)
        Hap.out (by rw [List.length_append, ← Hq.out]; rfl) ho6 (hr6.imp id (fun e r hr => by rw [e] at hr; injection hr with hr; omega)) (Fd.lens size (j + 1)) (fun b => by
          rw [Fd.lens_succ, ← Hm.out]
          split
          · rename_i e; rw [e, ← Hgl2.out]
          · rfl)
      obtain ⟨es7, clock7, hrun7, hM7⟩ := hput
      have hrn : ∀ k, ownRow A c = some k → gm + 1 ≤ k := fun k hk => (HOi.out.row_lt k hk).1
      have hTa : Turn (fun i => gm ≤ i) (wr.alloc (.cells #[.int .i64 (j : Int)] 3)) w6 := ⟨hg6.os, hg6.tape, hg6.output, hg6.size, fun k hk hn => hg6.block k hk (fun e => by have := hrn k e.symm; omega)⟩
      have hT7 : Turn (fun i => gm ≤ i) w1 (setBlock w6 gm (.map es7 clock7)) := ((hT.tr (Turn.ext hEi)).tr hTa).tr (Turn.grown (setBlock_grown w6 gm _) (Nat.le_refl _))
      have HM7 := Lib.hid hM7
      have HT7 := Lib.hid hT7
      clear hTa hT7 hM7 hT hg6 hr6 ho6 hri hEi HM HOi hlk Hap hrn
      refine Lib.hid ?_
      go_wp2_with fail
      go_roundw
      case rel => exact ⟨j + 1, _, _, by omega, by go_num, HM7.out, HT7.out⟩
      case measure => simp [intOf]; omega
    · obtain rfl : j = nb := by omega
      have hF0 := hF1.turn hT (fun i hi => by omega)
      have HR0 := Lib.hid hM.mr
      have hT0 : Turn (fun i => i = gO ∨ i = gf) w wr := ⟨hT.os.trans hx1.os, hT.tape.trans hx1.tape, hT.output.trans hx1.output, Nat.le_trans hx1.size hT.size, fun i hi hn => (hT.block i (Nat.lt_of_lt_of_le hi hx1.size) (by have := Hgm.out; omega)).trans (hx1.block i hi)⟩
      have HF0 := Lib.hid hF0
      clear hM hT hF1 hF0 hM1
      go_wp2_with fail
      go_loopw [30] (fun i wv => ∃ (n : Nat) (M' : Value), n ≤ 65 ∧ i = .int .i64 n ∧ FA wv gf gO M' oA oC o sA sC S (Fd.upto o size S n) ∧ MR wv gm .i64 (gm + 1) (Fd.lens size j) es clock ∧ Turn (fun i => i = gO ∨ i = gf) w wv) (fun i _ => 65 - (intOf i).toNat)
      case atStart => exact ⟨0, _, by omega, rfl, HF0.out, HR0.out, hT0⟩
      case round =>
        clear HF0 HR0 hT0
        obtain ⟨n, M', hn, rfl, hF, hR, hT⟩ := hrel
        have hjb : S.length = Sg.blocks size := by rw [Hb.out, Hnb.out]
        by_cases hn65 : n < 65
        · have iN : (0 : Int) ≤ (n : Int) := by omega
          have iN2 : (n : Int) < 65 := by omega
          obtain ⟨A, c, hlook, hRd, hBd⟩ := hR.look (P := Try.prog) Try.underlying68 Try.underlying3 (zeroI _) (n : Int) (wf_i64n n (by omega))
          have hml := Fd.lens_len size j (n : Int)
          by_cases hgl0 : Fd.lens size j (n : Int) = []
          · have hst := Fd.upto_none (o := o) (size := size) (S := S) n hjb (by rw [← Hnb.out]; exact hgl0)
            rw [hst] at hF
            rw [hgl0] at hlook
            simp only [List.length_nil] at hlook
            have HF := Lib.hid hF
            have HR := Lib.hid hR
            have HT := Lib.hid hT
            clear hst hF hR hT hgl0 hRd hBd
            go_wp2_with fail
            go_roundw
            case rel => exact ⟨n + 1, M', by omega, by go_num, HF.out, HR.out, HT.out⟩
            case measure => simp [intOf]; omega
          · have hn1 : 1 ≤ n := by
              obtain ⟨x, l, hx⟩ := List.exists_cons_of_ne_nil hgl0
              obtain ⟨i, _, h3, h4⟩ := Fd.lens_mem (x := x) (by rw [hx]; exact List.mem_cons_self)
              have := Sg.lenN_le (size := size) (i := i) (by rw [← Hnb.out]; exact h3)
              omega
            have hlk := look_any gf gO M' oA oC o sA sC S (Fd.upto o size S n) A c (Fd.lens size j (n : Int)) n _ hF hol (by rw [Hb.out]; exact hnb2) hn1 (by omega) hRd (fun hne ad hA => by have := hBd ad hA hne; omega)
              (fun x hx => by
                obtain ⟨i, e, h3, _⟩ := Fd.lens_mem hx
                have := Hb.out
                omega) (by omega) (fun i hi hm => by
                obtain ⟨i', e, _, h4⟩ := Fd.lens_mem hm
                have e2 : i' = i := by omega
                subst e2
                simp only [Fd.upto, List.getElem_map, List.getElem_range]
                rw [if_neg (by omega)])
            have hst := Fd.upto_step (o := o) (size := size) (S := S) n hjb
            rw [← Hnb.out] at hst
            rw [hst] at hlk
            obtain ⟨q, hq⟩ : ∃ q, q = (Fd.lens size j (n : Int)).length := ⟨_, rfl⟩
            rw [← hq] at hlook hlk
            have hqp : 0 < q := by rw [hq]; exact List.length_pos_iff.2 hgl0
            have hqI : 0 < (q : Int) := by omega
            have HR := Lib.hid hR
            have HT := Lib.hid hT
            have Hlk := Lib.hid hlk
            have hgmB : ∀ i, (i = gO ∨ i = gf) → i < gm + 1 := fun i hi => by omega
            clear hst hF hR hT hgl0 hRd hBd hq hlk
            go_wp2_with (go_at_call 23; refine Hlk.out.mono ?_; refine Hid.out ?_)
            rintro e4 w4 ⟨rfl, ⟨M4, hF4⟩, hT4⟩
            have HF4 := Lib.hid hF4
            have HR4 := Lib.hid (HR.out.turn hT4 (by omega) hgmB)
            have HT5 := Lib.hid (HT.out.tr hT4)
            clear hF4 hT4 HR HT Hlk
            refine Lib.hid ?_
            go_wp2_with fail
            go_roundw
            case rel => exact ⟨n + 1, M4, by omega, by go_num, HF4.out, HR4.out, HT5.out⟩
            case measure => simp [intOf]; omega
        · obtain rfl : n = 65 := by omega
          rw [Fd.upto_all hjb] at hF
          have HF := Lib.hid hF
          have HT := Lib.hid hT
          clear hF hR hT
          go_wp2_with fail
          refine bodyPost_end (results_none rfl _ _ _) rfl ?_
          exact ⟨rfl, ⟨_, HF.out⟩, HT.out⟩
theorem Rd.ltw {w : World} {s n : Nat} {A : Option Addr} {xs : List Value} (h : Rd w s A n xs) (hx : xs ≠ []) (ad : Addr) (hA : A = some ad) : ad.block < w.heap.size := by
  obtain ⟨ad', hA', hc⟩ := h.2 hx
  rw [hA] at hA'
  injection hA' with hA'
  subst hA'
  obtain ⟨x, l, e⟩ := List.exists_cons_of_ne_nil hx
  have h1 := hc 0 x (by rw [e]; rfl)
  by_cases hl : ad.block < w.heap.size
  · exact hl
  · have : w.heap[(ad.add 0).block]? = none := Array.getElem?_eq_none (by rw [add_block]; omega)
    unfold World.cell? at h1
    rw [this] at h1
    cases h1
/-- What Find answers: the places, and the error. -/
def Sg.findR (o : List UInt8) (size : Int) (S : List Sg) : List Int × Nat :=
  if 131072 < o.length ∨ size < 0 ∨ 131072 < size then ([], 2) else if S.length ≠ Sg.blocks size then ([], 220) else (Sg.find o size S, 0)
def FindPost (r : List Int × Nat) (w : World) (e : Ending) (w' : World) : Prop := ∃ A' c', e = .returned (.tuple #[.slice A' r.1.length c', .int .i64 (r.2 : Int)]) ∧ RdI w' A' r.1 ∧ Ext w w'
set_option maxRecDepth 100000 in
set_option maxHeartbeats 2000000 in
theorem find_any (oA : Option Addr) (oC : Nat) (o : List UInt8) (size : Int) (sA : Option Addr) (sC : Nat) (S : List Sg) (w : World) (ho : RdB w oA o) (hoc : o.length ≤ oC) (hol : o.length ≤ 100000) (hs : RdG w sA S) (hsc : S.length ≤ sC)
    (h1 : -9223372036854775808 ≤ size) (h2 : size ≤ 9223372036854775807) :
    Calls Try.prog 13 #[.slice oA o.length oC, .int .i64 size, .slice sA S.length sC] w (FindPost (Sg.findR o size S) w) := by
  have hb := blocks_any size h1 h2 w
  obtain ⟨nb, hnb⟩ : ∃ nb, nb = Sg.blocks size := ⟨_, rfl⟩
  have hnb2 : nb ≤ 2048 := by rw [hnb]; exact Sg.blocks_le _
  rw [← hnb] at hb
  obtain ⟨m, hm⟩ : ∃ m, m = S.length := ⟨_, rfl⟩
  obtain ⟨ol, hol0⟩ : ∃ ol, ol = o.length := ⟨_, rfl⟩
  have hi1 : (ol : Int) ≤ 131072 := by omega
  by_cases hbad : size < 0 ∨ 131072 < size
  · have hr : Sg.findR o size S = ([], 2) := by unfold Sg.findR; rw [if_pos (.inr hbad)]
    rw [hr, ← hm, ← hol0]
    clear hr hm hol0 hnb
    by_cases h3 : size < 0
    · go_enter Try.func13, Try.ntmps13
      go_wp2_with fail
      refine bodyPost_ret (results_tmp2 rfl _ _ _) rfl ?_
      exact ⟨_, _, rfl, Rd.nil_ _ _ _, Ext.refl _⟩
    · have h4 : 131072 < size := by omega
      have h5 : 0 ≤ size := by omega
      clear hbad h3
      go_enter Try.func13, Try.ntmps13
      go_wp2_with fail
      refine bodyPost_ret (results_tmp2 rfl _ _ _) rfl ?_
      exact ⟨_, _, rfl, Rd.nil_ _ _ _, Ext.refl _⟩
  · have h3 : 0 ≤ size := by omega
    have h4 : size ≤ 131072 := by omega
    by_cases hbn : S.length = Sg.blocks size
    · have hr : Sg.findR o size S = (Sg.find o size S, 0) := by unfold Sg.findR; rw [if_neg (by omega), if_neg (by simp [hbn])]
      rw [hr]
      have hfl : (Sg.find o size S).length = m := by rw [hm]; simp [Sg.find]
      have hmnb : m = nb := by rw [hm, hnb, hbn]
      have hmI : (m : Int) = (nb : Int) := by omega
      have hnew := newfinder_any oA oC o sA sC S w ho hoc hs hsc (by omega) (fun hne ad hA => ho.ltw (fun e => hne (by cases o with | nil => rfl | cons a l => simp [bvs] at e)) ad hA)
        (fun hne ad hA => hs.rd.ltw (fun e => hne (by
          have := sgs_len hs.ok
          rw [e] at this
          simp at this
          exact List.length_eq_zero_iff.1 (by omega))) ad hA)
      rw [← hm, ← hol0] at hnew
      rw [← hm, ← hol0]
      have Hm := Lib.hid hm
      have Hol := Lib.hid hol0
      have Hbn := Lib.hid hbn
      have Hfl := Lib.hid hfl
      have hne2 : (m : Int) - (nb : Int) = 0 := by omega
      obtain rfl : m = nb := hmnb
      clear hm hol0 hbn hnb hbad hr hfl hne2 hmI
      go_enter Try.func13, Try.ntmps13
      go_wp2_with (first | (go_at_call 11; refine hb.mono ?_; clear hb; rintro e1 w1 ⟨rfl, rfl⟩) | (go_at_call 21; refine hnew.mono ?_; refine Hid.out ?_))
      rintro e2 w2 ⟨rfl, hF2, hx2⟩
      have hbl := bylen_any (w.heap.size + 1) w.heap.size (.map none) oA oC o sA sC S size w2 (by rw [← Hm.out]; exact hF2) hol Hbn.out h1 h2
      have Hbl := Lib.hid hbl
      clear hbl hF2 hnew
      refine Lib.hid ?_
      go_wp2_with (first | (go_at_call 22; refine Hbl.out.mono ?_; refine Hid.out ?_))
      rintro e3 w3 ⟨rfl, ⟨M3, hF3⟩, hT3⟩
      have c_3 := hF3.c3
      rw [← Hm.out] at c_3
      have hrd := hF3.out.rd
      have hx3 : Ext w w3 := ⟨hT3.os.trans hx2.os, hT3.tape.trans hx2.tape, hT3.output.trans hx2.output, Nat.le_trans hx2.size hT3.size, fun i hi => (hT3.block i (Nat.lt_of_lt_of_le hi hx2.size) (by omega)).trans (hx2.block i hi)⟩
      have Hrd := Lib.hid hrd
      have Hx3 := Lib.hid hx3
      clear hF3 hT3 hx2 hrd hx3 Hbl
      refine Lib.hid ?_
      go_wp2_with fail
      refine bodyPost_ret (results_tmp2 rfl _ _ _) rfl ?_
      refine ⟨some ⟨w.heap.size, 0, none⟩, m, ?_, Hrd.out, Hx3.out⟩
      show _ = Ending.returned (.tuple #[.slice _ (Sg.find o size S).length m, _])
      rw [Hfl.out]
      rfl
    · have hr : Sg.findR o size S = ([], 220) := by unfold Sg.findR; rw [if_neg (by omega), if_pos hbn]
      rw [hr, ← hm, ← hol0]
      have hne : ¬ m = nb := by rw [hm, hnb]; exact hbn
      have hneI : ¬ (m : Int) = (nb : Int) := by omega
      clear hr hm hol0 hnb hbn hbad
      go_enter Try.func13, Try.ntmps13
      go_wp2_with (first | (go_at_call 11; refine hb.mono ?_; clear hb; rintro e1 w1 ⟨rfl, rfl⟩))
      refine bodyPost_ret (results_tmp2 rfl _ _ _) rfl ?_
      exact ⟨_, _, rfl, Rd.nil_ _ _ _, Ext.refl _⟩
end Go.Proofs.Ytnagbhaknmoilaa
