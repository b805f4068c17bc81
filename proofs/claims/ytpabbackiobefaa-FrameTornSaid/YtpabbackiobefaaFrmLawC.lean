
/- The walk of the law FrameTorn. Printed by wip/tools/gen_frmlawc14.py. -/

import Derived.Test.YtpabbackiobefaaFrmLawB

namespace Go.Proofs.Ytpabbackiobefaa

open Go.RowKit

attribute [local go_sem] Oper.semAt_some

def lostF (zs : List Int) (i : Nat) : Bool := zs.any fun z => z == (i : Int)
def wholeB (zs : List Int) (k : Nat) : Bool := !(List.range k).any (lostF zs)
theorem wholeB_snoc (zs : List Int) (k : Nat) : wholeB zs (k + 1) = (wholeB zs k && !lostF zs k) := by
  unfold wholeB; rw [List.range_succ, List.any_append]; simp
theorem any_take_snoc (zs : List Int) (k j : Nat) (h : j < zs.length) : ((zs.take (j + 1)).any fun z => z == (k : Int)) = (((zs.take j).any fun z => z == (k : Int)) || (zs[j] == (k : Int))) := by
  rw [List.take_succ_eq_append_getElem h, List.any_append]; simp
/-- Sectors of which some are lost. -/
structure Torn (zs : List Int) (e a : Nat) (c : List UInt8) (T : List (List UInt8)) : Prop where
  keep : ∀ i (h : i < T.length), lostF zs i = false → T[i] = Frm.sec e a c i
  lose : ∀ i (h : i < T.length), lostF zs i = true → Frm.stmpB T[i] e (a + i) = false
theorem Torn.snoc {zs : List Int} {e a : Nat} {c : List UInt8} {T : List (List UInt8)} (h : Torn zs e a c T) (s : List UInt8) (h1 : lostF zs T.length = false → s = Frm.sec e a c T.length) (h2 : lostF zs T.length = true → Frm.stmpB s e (a + T.length) = false) : Torn zs e a c (T ++ [s]) := by
  refine ⟨fun i hi hl => ?_, fun i hi hl => ?_⟩
  · rw [List.length_append, List.length_singleton] at hi
    rcases Nat.lt_or_ge i T.length with h' | h'
    · rw [List.getElem_append_left h']; exact h.keep i h' hl
    · obtain rfl : i = T.length := by omega
      rw [List.getElem_concat_length rfl]; exact h1 hl
  · rw [List.length_append, List.length_singleton] at hi
    rcases Nat.lt_or_ge i T.length with h' | h'
    · rw [List.getElem_append_left h']; exact h.lose i h' hl
    · obtain rfl : i = T.length := by omega
      rw [List.getElem_concat_length rfl]; exact h2 hl
theorem torn_scan {zs : List Int} {e : Nat} {ah ct : List UInt8} {T : List (List UInt8)} (h1 : ah.length ≤ 140000) (h2 : ct.length ≤ 140000) (hT : T.length = Frm.need ct.length) (h : Torn zs e (1 + Frm.need ah.length) ct T) :
    ∃ f, Frm.Scans (Frm.head e :: Frm.secs e 1 ah ++ T) e 1 (if wholeB zs (Frm.need ct.length) = true then [ah, ct] else [ah]) f := by
  have hsl := Frm.secs_len e 1 ah
  have hA : Frm.Stands (Frm.head e :: Frm.secs e 1 ah ++ T) e 1 ah := Frm.stands_secs h1 fun i hi => by
    rw [List.cons_append, Nat.add_comm, List.getElem?_cons_succ, List.getElem?_append_left (by rw [hsl]; exact hi)]
    simp [Frm.secs, hi]
  have hat : ∀ i (hi : i < T.length), (Frm.head e :: Frm.secs e 1 ah ++ T)[1 + Frm.need ah.length + i]? = some T[i] := fun i hi => by
    rw [List.cons_append, show 1 + Frm.need ah.length + i = (Frm.need ah.length + i) + 1 by omega, List.getElem?_cons_succ, List.getElem?_append_right (by rw [hsl]; omega), hsl, show Frm.need ah.length + i - Frm.need ah.length = i by omega, List.getElem?_eq_getElem hi]
  cases hw : wholeB zs (Frm.need ct.length) with
  | true =>
    rw [if_pos rfl]
    have hk : ∀ i, i < Frm.need ct.length → lostF zs i = false := fun i hi => by
      unfold wholeB at hw
      simp only [Bool.not_eq_true', List.any_eq_false, List.mem_range] at hw
      simpa using hw i hi
    have hC : Frm.Stands (Frm.head e :: Frm.secs e 1 ah ++ T) e (1 + Frm.need ah.length) ct := Frm.stands_secs h2 fun i hi => by
      rw [hat i (by omega), h.keep i (by omega) (hk i hi)]
    refine ⟨_, .go 1 ah _ _ hA (.go _ ct [] _ hC (.stop _ fun c => Frm.not_stands_end ?_ c))⟩
    rw [List.length_append, List.length_cons, hsl]
    omega
  | false =>
    rw [if_neg (by simp)]
    obtain ⟨i, hi, hl⟩ : ∃ i, i < Frm.need ct.length ∧ lostF zs i = true := by
      unfold wholeB at hw
      simp only [Bool.not_eq_false', List.any_eq_true, List.mem_range] at hw
      exact hw
    have hpos := Frm.need_pos ct.length
    have hns : ∀ j (hj : j < T.length), lostF zs j = true → ¬ Frm.Stmp (Frm.head e :: Frm.secs e 1 ah ++ T) e (1 + Frm.need ah.length + j) := fun j hj hlj hs => by
      obtain ⟨s, q1, q2, q3⟩ := hs
      rw [hat j hj] at q1
      injection q1 with q1
      have := h.lose j hj hlj
      rw [q1, stmp_parts.2 ⟨q2, by rw [q3]; simp⟩] at this
      cases this
    refine ⟨_, .go 1 ah [] _ hA (.stop _ fun c => Frm.torn_not (c := ct) (i := i) h2 ?_ ?_ hi (hns i (by omega) hl) c)⟩
    · rw [List.length_append, List.length_cons, hsl]; omega
    · cases h0 : lostF zs 0 with
      | false =>
        left
        have := hat 0 (by omega)
        rw [Nat.add_zero] at this
        rw [this, h.keep 0 (by omega) h0]
      | true =>
        right
        have := hns 0 (by omega) h0
        rwa [Nat.add_zero] at this

/-- A list of the call's own; what its elements hold is the call's own, or was there. -/
structure MixL (w W : World) (A : Option Addr) (G : List Sl) (c : Nat) : Prop where
  own : Own W w.heap.size 23 1 A G.length c (G.map Sl.val)
  ins : ∀ s ∈ G, OwnS w.heap.size W s ∨ RdB w s.a s.bs
  cap : ∀ s ∈ G, s.bs.length ≤ s.c
  bel : Ext w W
theorem MixL.below {w W W' : World} {A : Option Addr} {G : List Sl} {c : Nat} (h : MixL w W A G c) (hb : Ext W W') : MixL w W' A G c := ⟨h.own.below hb, fun s hs => (h.ins s hs).imp (fun h => Own.below h hb) id, h.cap, Ext.tr h.bel hb⟩
theorem MixL.rd {w W : World} {A : Option Addr} {G : List Sl} {c : Nat} (h : MixL w W A G c) : RdLc W A G := ⟨⟨h.own.rd, fun s hs => (h.ins s hs).elim (fun h => h.rd) (fun h' => h'.below h.bel)⟩, h.cap⟩
theorem MixL.app {w W W' : World} {A A' : Option Addr} {G L : List Sl} {c c' k : Nat} (h : MixL w W A G c) (hL : ∀ s ∈ L, OwnS w.heap.size W s ∨ RdB w s.a s.bs) (hc : ∀ s ∈ L, s.bs.length ≤ s.c) (hg : W.grownBy W' (ownRow A c)) (hk : k = (G ++ L).length) (ho : Own W' w.heap.size 23 1 A' k c' ((G ++ L).map Sl.val)) : MixL w W' A' (G ++ L) c' := by
  subst hk
  refine ⟨ho, fun s hs => ?_, fun s hs => ?_, below_app h.bel h.own hg h.bel.size⟩
  · have h1 : OwnS w.heap.size W s ∨ RdB w s.a s.bs := by
      rcases List.mem_append.1 hs with h' | h'
      · exact h.ins s h'
      · exact hL s h'
    refine h1.imp (fun h1 => OwnS.kept h1 hg (fun r hr => .inr (fun cur fr h9 => ?_))) id
    obtain ⟨cur', h'⟩ := own_typ h.own r hr
    rw [h'] at h9
    injection h9 with h9
    injection h9 with _ h9 _
    exact absurd h9 (by decide)
  · rcases List.mem_append.1 hs with h' | h'
    · exact h.cap s h'
    · exact hc s h'
theorem zeros_own (w W : World) (hE : Ext w W) : OwnS w.heap.size (W.alloc (.cells (Array.replicate 64 (Value.int .u8 0)) 5)) ⟨some ⟨W.heap.size, 0, none⟩, List.replicate 64 0, 64⟩ := by
  have := (mk_own W 64 (by unfold maxLen; omega)).mono hE.size
  unfold OwnS
  simpa using this

set_option maxRecDepth 100000 in
set_option maxHeartbeats 8000000 in
theorem walkFrameTorn (w : World) (a0 : Int) (w0 : (Lit.int .u64 a0).wf = true) (A : Option Addr) (ah : List UInt8) (capA : Nat) (hA : RdB w A ah) (_ : ah.length ≤ capA) (C : Option Addr) (ct : List UInt8) (capC : Nat) (hC : RdB w C ct) (_ : ct.length ≤ capC)
    (O : Option Addr) (old : List Sl) (capO : Nat) (hO : RdL w O old) (_hcO : old.length ≤ capO) (hcapO : ∀ s ∈ old, s.bs.length ≤ s.c)
    (Z : Option Addr) (zs : List Int) (capZ : Nat) (hZ : Rd w 1 Z zs.length (zs.map (Value.int .i64))) (_hcZ : zs.length ≤ capZ) (_hwZ : ∀ n ∈ zs, (Lit.int .i64 n).wf = true) :
    Calls Try.prog 6 #[.int .u64 a0, .slice A ah.length capA, .slice C ct.length capC, .slice O old.length capO, .slice Z zs.length capZ] w fun r w' => r = .returned (.bool true) ∧ Below w.heap.size w w' := by
  obtain ⟨e, rfl, he⟩ := wf_u64 w0
  have LV : ∀ W, Calls Try.prog 7 #[] W fun e w' => e = .returned (.bool true) ∧ Below W.heap.size W w' := fun W => live14 W
  by_cases h1 : 2000 < ah.length
  · have h1' : decide ((2000 : Int) < (ah.length : Int)) = true := by simp; omega
    have hv := LV w
    go_enter Try.func6, Try.ntmps6
    go_wp2_with fail
    refine hv.mono ?_
    rintro r w9 ⟨rfl, hb⟩
    go_wp2
    go_ret
    exact ⟨rfl, hb⟩
  have h1' : decide ((2000 : Int) < (ah.length : Int)) = false := by simp; omega
  by_cases h2 : 2000 < ct.length
  · have h2' : decide ((2000 : Int) < (ct.length : Int)) = true := by simp; omega
    have hv := LV w
    go_enter Try.func6, Try.ntmps6
    go_wp2_with fail
    refine hv.mono ?_
    rintro r w9 ⟨rfl, hb⟩
    go_wp2
    go_ret
    exact ⟨rfl, hb⟩
  have h2' : decide ((2000 : Int) < (ct.length : Int)) = false := by simp; omega
  go_enter Try.func6, Try.ntmps6
  go_wp2_with fail
  refine (small14 O old capO w hO).mono ?_
  rintro r w1 ⟨b, rfl, hsm, hb1⟩
  cases b with
  | false =>
    have hv := LV w1
    go_wp2_with fail
    refine hv.mono ?_
    rintro r w9 ⟨rfl, hb⟩
    go_wp2
    go_ret
    exact ⟨rfl, Ext.tr hb1 hb⟩
  | true =>
  have n1 := (hsm rfl).1
  clear hsm
  by_cases h3 : 100 < zs.length
  · have h3' : decide ((100 : Int) < (zs.length : Int)) = true := by simp; omega
    have hv := LV w1
    go_wp2_with fail
    refine hv.mono ?_
    rintro r w9 ⟨rfl, hb⟩
    go_wp2
    go_ret
    exact ⟨rfl, Ext.tr hb1 hb⟩
  have h3' : decide ((100 : Int) < (zs.length : Int)) = false := by simp; omega
  have p1 : Frm.putE 1 ah = 0 := by unfold Frm.putE; rw [if_neg (by omega), if_neg (by omega)]
  have P1 := fput_any e 1 A ah capA w1 (hA.below hb1) (by omega)
  have HP1 := Lib.hid P1
  clear P1
  go_wp2_with fail
  refine HP1.out.mono ?_
  clear HP1
  rintro r w2 hp2
  obtain ⟨La, Aa, ca, rfl, hLa, hsa, hb2⟩ := hp2.own
  rw [p1, if_pos rfl, show (1 : Int).toNat = 1 from rfl] at hsa
  rw [p1]
  have hLal : La.length = Frm.need ah.length := by have h := congrArg List.length hsa; rwa [List.length_map, Frm.secs_len] at h
  have hna := Frm.need_lt ah.length
  have hE2 := Ext.tr hb1 hb2
  have p2 : Frm.putE ((1 : Int) + (La.length : Int)) ct = 0 := by unfold Frm.putE; rw [if_neg (by omega), if_neg (by omega)]
  have P2 := fput_any e ((1 : Int) + (La.length : Int)) C ct capC w2 (hC.below hE2) (by omega)
  have HP2 := Lib.hid P2
  have hLa30 : La.length ≤ 50 := by omega
  have HLal := Lib.hid hLal
  clear P2 hp2 hLal
  go_wp2_with fail
  refine HP2.out.mono ?_
  clear HP2
  rintro r w3 hp3
  obtain ⟨Lb, Ab, cb, rfl, hLb, hsb, hb3⟩ := hp3.own
  rw [p2, if_pos rfl, show ((1 : Int) + (La.length : Int)).toNat = 1 + La.length by omega] at hsb
  rw [p2]
  have hLbl : Lb.length = Frm.need ct.length := by have h := congrArg List.length hsb; rwa [List.length_map, Frm.secs_len] at h
  have hnb := Frm.need_lt ct.length
  have hLb50 : Lb.length ≤ 50 := by omega
  have hE3 := Ext.tr hE2 hb3
  have HLbl := Lib.hid hLbl
  have Hsa := Lib.hid hsa
  have Hsb := Lib.hid hsb
  have HLb := Lib.hid hLb
  have HLa := Lib.hid (hLa.below hb3)
  clear hp3 hLbl hna hnb hsa hsb p1 p2 hLb hLa hb1 hb2 hb3 hE2
  go_wp2_with (go_at_call 13; refine (num14 _ _).mono ?_; rintro r w' ⟨rfl, rfl⟩)
  refine (head_any e w3).mono ?_
  rintro r w4 ⟨A4, c4, rfl, ho4, hb4⟩
  have hE4 := Ext.tr hE3 hb4
  obtain ⟨s0, hs0⟩ : ∃ s0 : Sl, s0 = ⟨A4, Frm.head e, c4⟩ := ⟨_, rfl⟩
  have hv0 : s0.val = .slice A4 64 c4 := by rw [hs0, Sl.val, Frm.head_len]
  have hr0 : RdB w4 s0.a s0.bs := by rw [hs0]; exact ho4.rd'
  have hc0 : s0.bs.length ≤ s0.c := by rw [hs0]; show (Frm.head e).length ≤ c4; rw [Frm.head_len]; exact ho4.nc
  have hEa := Ext.alloc w4 (.cells #[.slice A4 64 c4] 23)
  have hM0 : MixL w4 (w4.alloc (.cells #[.slice A4 64 c4] 23)) (some ⟨w4.heap.size, 0, none⟩) [s0] 1 := by
    have h := Own.new w4 23 1 #[s0.val] 1 1 (Nat.le_refl _) (by unfold maxLen; omega) (by simp)
    rw [hv0] at h
    refine ⟨?_, fun s hs => ?_, fun s hs => ?_, hEa⟩
    · simpa [hv0] using h
    · rw [List.mem_singleton] at hs; subst hs; exact .inr hr0
    · rw [List.mem_singleton] at hs; subst hs; exact hc0
  have hs0b : s0.bs = Frm.head e := by rw [hs0]
  have Hs0b := Lib.hid hs0b
  have HM0 := Lib.hid hM0
  have hLa4 := HLa.out.below hb4
  have HLa4 := Lib.hid hLa4
  have HLa5 := Lib.hid (hLa4.below hEa).rd.rd
  have Hmv : Hid (([s0] ++ La).map Sl.val = [s0].map Sl.val ++ La.map Sl.val) := List.map_append
  have hsz5 := hEa.size
  have Hown0 := Lib.hid hM0.own
  have HLb4 := Lib.hid (HLb.out.below hb4)
  clear hs0 hv0 hr0 hc0 ho4 hb4 hE3 hs0b HLa HLb hM0 hLa4 hEa
  go_wp2_with (at_builtin; refine wpList_app rfl (.tmp 68) (.tmp 69) 25 rfl elemSl w4.heap.size _ 1 1 ([s0].map Sl.val) rfl Aa La.length ca (La.map Sl.val) rfl (1 + La.length) rfl (([s0] ++ La).map Sl.val) Hmv.out Hown0.out HLa5.out (sl_one La) (by omega) (by omega) hsz5 ?_; intro A6 c6 w6 ho6 hg6 hr6; refine Hid.out ?_)
  have hM6 : MixL w4 w6 A6 ([s0] ++ La) c6 := HM0.out.app (fun s hs => .inr (HLa4.out.rd.each s hs)) (fun s hs => HLa4.out.cap s hs) hg6 (by simp; omega) ho6
  refine Lib.hid ?_
  have hG6 : ([s0] ++ La).map Sl.bs = Frm.head e :: Frm.secs e 1 ah ++ [] := by rw [List.map_append, Hsa.out]; simp [Hs0b.out]
  have hlen6 : ([s0] ++ La).length = 1 + La.length := by simp; omega
  obtain ⟨G6, hG6d⟩ : ∃ G6, G6 = [s0] ++ La := ⟨_, rfl⟩
  rw [← hG6d] at hM6 hG6 hlen6
  have HM6 := Lib.hid hM6
  have HG6 := Lib.hid hG6
  have Hlen6 := Lib.hid hlen6
  clear hM6 hG6 hlen6 hG6d ho6 hg6 hr6 hsz5
  go_wp2_with fail
  go_loopw [15, 16, 17, 18, 19, 20] (fun o wh i _ _ _ wr => ∃ (k n : Nat) (G : List Sl) (A' : Option Addr) (c' : Nat), k ≤ Lb.length ∧ i = .int .i64 (k : Int) ∧ wh = .bool (wholeB zs k) ∧ n = G.length ∧ o = .slice A' n c' ∧ n = 1 + La.length + k ∧ (∃ T, G.map Sl.bs = Frm.head e :: Frm.secs e 1 ah ++ T ∧ T.length = k ∧ Torn zs e (1 + La.length) ct T) ∧ MixL w4 wr A' G c') (fun _ _ i _ _ _ _ => Lb.length - (intOf i).toNat)
  case atStart => exact ⟨0, 1 + La.length, G6, A6, c6, by omega, rfl, rfl, Hlen6.out.symm, rfl, rfl, ⟨[], HG6.out, rfl, ⟨fun i h => absurd h (by simp), fun i h => absurd h (by simp)⟩⟩, HM6.out⟩
  case round =>
    obtain ⟨k, n, G, A', c', hk, rfl, rfl, hn, rfl, hn2, ⟨T, hGb, hTk, hT⟩, hM⟩ := hrel
    have hn3 : n ≤ 200 := by omega
    obtain ⟨wh, hwh⟩ : ∃ wh, wh = wholeB zs k := ⟨_, rfl⟩
    rw [← hwh]
    have Hwh := Lib.hid hwh
    clear hwh
    have HGb := Lib.hid hGb
    have HTk := Lib.hid hTk
    have HT := Lib.hid hT
    have Hn := Lib.hid hn
    have Hn2 := Lib.hid hn2
    have HM := Lib.hid hM
    clear hGb hTk hT hn hn2 hM
    by_cases h : k < Lb.length
    · have hkI : (k : Int) < (Lb.length : Int) := by omega
      go_wp2_with fail
      go_loopw [18, 19] (fun b jv wq => ∃ j : Nat, j ≤ zs.length ∧ jv = .int .i64 (j : Int) ∧ b = .bool ((zs.take j).any fun z => z == (k : Int)) ∧ Ext wr wq) (fun _ jv _ => zs.length - (intOf jv).toNat)
      case atStart => exact ⟨0, by omega, rfl, rfl, Ext.refl _⟩
      case round =>
        obtain ⟨j, hj, rfl, rfl, hE⟩ := hrel
        have HE := Lib.hid hE
        obtain ⟨bq, hbq⟩ : ∃ bq, bq = (zs.take j).any fun z => z == (k : Int) := ⟨_, rfl⟩
        rw [← hbq]
        by_cases hjl : j < zs.length
        · obtain ⟨zd, u, hZd, hu, hcz⟩ := (hZ.below (Ext.tr hE4 (Ext.tr HM.out.bel hE))).at_ hjl
          subst hZd
          have hu2 : u = .int .i64 zs[j] := by
            rw [List.getElem?_map, List.getElem?_eq_getElem hjl] at hu
            simpa using hu.symm
          subst hu2
          have Hsn : Hid (((zs.take (j + 1)).any fun z => z == (k : Int)) = (bq || (zs[j] == (k : Int)))) := by show _ = _; rw [any_take_snoc zs k j hjl, ← hbq]
          have jk0 : (0 : Int) ≤ (j : Int) := by omega
          have jk1 : (j : Int) < (zs.length : Int) := by omega
          obtain ⟨z, hz⟩ : ∃ z, z = zs[j] := ⟨_, rfl⟩
          rw [← hz] at hcz Hsn
          have Hjl := Lib.hid hjl
          clear hbq hu hz hE hjl
          cases bq with
          | true =>
            go_wp2
            go_roundw
            case rel => exact ⟨j + 1, by have := Hjl.out; omega, by go_num, by rw [Hsn.out]; rfl, HE.out⟩
            case measure => simp [intOf]; have := Hjl.out; omega
          | false =>
            cases hzk : (z == (k : Int)) with
            | true =>
              rw [hzk] at Hsn
              go_wp2
              go_roundw
              case rel => exact ⟨j + 1, by have := Hjl.out; omega, by go_num, by rw [Hsn.out]; rfl, HE.out⟩
              case measure => simp [intOf]; have := Hjl.out; omega
            | false =>
              rw [hzk] at Hsn
              go_wp2
              go_roundw
              case rel => exact ⟨j + 1, by have := Hjl.out; omega, by go_num, by rw [Hsn.out]; rfl, HE.out⟩
              case measure => simp [intOf]; have := Hjl.out; omega
        · have hjl2 : j = zs.length := by omega
          subst hjl2
          rw [List.take_length] at hbq
          have hlost : bq = lostF zs k := hbq
          have hM := HM.out.below hE
          have hEw := hM.bel
          have jk1 : ¬ ((zs.length : Int) < (zs.length : Int)) := by omega
          have Hk : Hid (k < Lb.length) := h
          have Hneed : Hid (k < Frm.need ct.length) := by show _ < _; rw [← HLbl.out]; exact h
          have HwS := Lib.hid (wholeB_snoc zs k)
          clear hbq HE hE HM
          cases hbv : bq with
          | false =>
            rw [hbv] at hlost
            obtain ⟨bd, hAb, hcb, hrb⟩ := (HLb4.out.below hEw).rd.at_ h
            subst hAb
            have hcapb := HLb4.out.cap Lb[k] (List.getElem_mem h)
            have hLbk : Lb[k].bs = Frm.sec e (1 + La.length) ct k := by
              have h1 : (Lb.map Sl.bs)[k]? = (Frm.secs e (1 + La.length) ct)[k]? := by rw [Hsb.out]
              rw [List.getElem?_map, List.getElem?_eq_getElem h] at h1
              simp only [Frm.secs, List.getElem?_map, List.getElem?_range Hneed.out, Option.map_some, Option.some.injEq] at h1
              exact h1
            have hrb4 := HLb4.out.rd.each Lb[k] (List.getElem_mem h)
            have kk0 : (0 : Int) ≤ (k : Int) := by omega
            have hex : ∃ y : Sl, y.bs = Frm.sec e (1 + La.length) ct k ∧ wr.cell? (bd.add k) = some (.slice y.a y.bs.length y.c) ∧ RdB w4 y.a y.bs ∧ y.bs.length ≤ y.c := ⟨Lb[k], hLbk, hcb, hrb4, hcapb⟩
            clear hLbk hcb hrb4 hcapb hrb
            obtain ⟨y, hLbk, hcb, hrb4, hcapb⟩ := hex
            have hEN := Ext.alloc (wr) (.cells #[.slice y.a y.bs.length y.c] 23)
            have hMN := hM.below hEN
            have hrdN : Rd ((wr).alloc (.cells #[.slice y.a y.bs.length y.c] 23)) 1 (some ⟨(wr).heap.size, 0, none⟩) 1 [y.val] := Rd.new (wr) 23 [y.val]
            have Hmv : Hid ((G ++ [y]).map Sl.val = G.map Sl.val ++ [y.val]) := by show _ = _; simp
            have Hone : Hid (∀ u ∈ [y.val], u.oneCell' = true) := fun u hu => by rw [List.mem_singleton.1 hu]; rfl
            have HinN : Hid (∀ s ∈ [y], OwnS w4.heap.size ((wr).alloc (.cells #[.slice y.a y.bs.length y.c] 23)) s ∨ RdB w4 s.a s.bs) := fun s hs => by rw [List.mem_singleton.1 hs]; exact .inr hrb4
            have HcpN : Hid (∀ s ∈ [y], s.bs.length ≤ s.c) := fun s hs => by rw [List.mem_singleton.1 hs]; exact hcapb
            have HTn : Hid (Torn zs e (1 + La.length) ct (T ++ [y.bs])) := HT.out.snoc y.bs (fun _ => by rw [HTk.out]; exact hLbk) (fun h9 => by rw [HTk.out, ← hlost] at h9; cases h9)
            have hszN := hMN.bel.size
            have HownN : Hid (Own ((wr).alloc (.cells #[.slice y.a y.bs.length y.c] 23)) w4.heap.size 23 1 A' n c' (G.map Sl.val)) := by show Own _ _ _ _ _ _ _ _; rw [Hn.out]; exact hMN.own
            have HMN := Lib.hid hMN
            have Hlost := Lib.hid hlost.symm
            clear hMN hEN
            clear hLbk hM hrb4 hcapb hlost
            go_wp2_with (at_builtin; refine wpList_app rfl (.tmp 94) (.tmp 99) 25 rfl elemSl w4.heap.size A' n c' (G.map Sl.val) rfl _ 1 1 [y.val] rfl (n + 1) rfl ((G ++ [y]).map Sl.val) Hmv.out HownN.out hrdN Hone.out (by omega) (by omega) hszN ?_; intro A7 c7 w7 ho7 hg7 hr7)
            go_roundw
            case rel => exact ⟨k + 1, n + 1, G ++ [y], A7, c7, by have := Hk.out; omega, by go_num, by rw [HwS.out, ← Hwh.out, Hlost.out]; simp, by rw [List.length_append, ← Hn.out]; rfl, rfl, by have := Hn2.out; omega, ⟨T ++ [y.bs], by rw [List.map_append, HGb.out]; simp, by rw [List.length_append, HTk.out]; rfl, HTn.out⟩, HMN.out.app HinN.out HcpN.out hg7 (by rw [List.length_append, ← Hn.out]; rfl) ho7⟩
            case measure => simp [intOf]; have := Hk.out; omega
          | true =>
            rw [hbv] at hlost
            have HlostX := Lib.hid hlost
            clear hlost
            have kk0 : (0 : Int) ≤ (k : Int) := by omega
            go_wp2_with (at_make; go_loud (refine wpList_mk rfl (.const (.int .i64 64)) (.const (.int .i64 64)) 23 rfl elemB (.int .u8 0) zeroB rfl 64 _ _ rfl rfl (by omega) (by omega) ?_); refine Hid.out ?_)
            obtain ⟨W7, hW7⟩ : ∃ W7, W7 = wr.alloc (.cells (Array.replicate 64 (Value.int .u8 0)) 5) := ⟨_, rfl⟩
            have hE7 : Ext wr W7 := by rw [hW7]; exact Ext.alloc wr _
            have hz7 : OwnS w4.heap.size W7 ⟨some ⟨wr.heap.size, 0, none⟩, List.replicate 64 0, 64⟩ := by rw [hW7]; exact zeros_own w4 wr hEw
            rw [← hW7]
            refine Lib.hid ?_
            have hM7 := hM.below hE7
            have hO7 := hO.below (Ext.tr hE4 (Ext.tr hEw hE7))
            have hO4 := hO.below hE4
            clear hW7 hM hE7 hbv
            by_cases hko : k < old.length
            · obtain ⟨od, hOd, hco, hro⟩ := hO7.at_ hko
              subst hOd
              have hro4 := hO4.each old[k] (List.getElem_mem hko)
              have hcpo := hcapO old[k] (List.getElem_mem hko)
              have hex : ∃ y : Sl, W7.cell? (od.add k) = some (.slice y.a y.bs.length y.c) ∧ RdB W7 y.a y.bs ∧ RdB w4 y.a y.bs ∧ y.bs.length ≤ y.c := ⟨old[k], hco, hro, hro4, hcpo⟩
              clear hco hro hro4 hcpo hO7 hO4
              obtain ⟨y, hco, hro, hrb4, hcapb⟩ := hex
              have ko1 : (k : Int) < (old.length : Int) := by omega
              by_cases h64 : y.bs.length = 64
              · have hq64 : ((y.bs.length : Int) == 64) = true := by rw [h64]; rfl
                have P := ref_stamped14 y.a y.bs y.c e n W7 he (by omega) hro hcapb
                have HP := Lib.hid P
                clear P hro h64 hz7
                go_wp2_with fail
                refine HP.out.mono ?_
                clear HP hco
                rintro r w8 ⟨rfl, hb8⟩
                have hlost := HlostX.out
                have hM8 := hM7.below hb8
                cases hst : Frm.stmpB y.bs e n with
                | true =>
                  have hv := LV w8
                  have hE8 := Ext.tr hE4 hM8.bel
                  clear hst hlost
                  go_wp2_with fail
                  refine hv.mono ?_
                  rintro r w9 ⟨rfl, hb9⟩
                  go_wp2
                  go_ret
                  exact ⟨rfl, Ext.tr hE8 hb9⟩
                | false =>
                  have hEN := Ext.alloc (w8) (.cells #[.slice y.a y.bs.length y.c] 23)
                  have hMN := hM8.below hEN
                  have hrdN : Rd ((w8).alloc (.cells #[.slice y.a y.bs.length y.c] 23)) 1 (some ⟨(w8).heap.size, 0, none⟩) 1 [y.val] := Rd.new (w8) 23 [y.val]
                  have Hmv : Hid ((G ++ [y]).map Sl.val = G.map Sl.val ++ [y.val]) := by show _ = _; simp
                  have Hone : Hid (∀ u ∈ [y.val], u.oneCell' = true) := fun u hu => by rw [List.mem_singleton.1 hu]; rfl
                  have HinN : Hid (∀ s ∈ [y], OwnS w4.heap.size ((w8).alloc (.cells #[.slice y.a y.bs.length y.c] 23)) s ∨ RdB w4 s.a s.bs) := fun s hs => by rw [List.mem_singleton.1 hs]; exact .inr hrb4
                  have HcpN : Hid (∀ s ∈ [y], s.bs.length ≤ s.c) := fun s hs => by rw [List.mem_singleton.1 hs]; exact hcapb
                  have HTn : Hid (Torn zs e (1 + La.length) ct (T ++ [y.bs])) := HT.out.snoc y.bs (fun h9 => by rw [HTk.out, ← hlost] at h9; cases h9) (fun _ => by rw [HTk.out, ← Hn2.out]; exact hst)
                  have hszN := hMN.bel.size
                  have HownN : Hid (Own ((w8).alloc (.cells #[.slice y.a y.bs.length y.c] 23)) w4.heap.size 23 1 A' n c' (G.map Sl.val)) := by show Own _ _ _ _ _ _ _ _; rw [Hn.out]; exact hMN.own
                  have HMN := Lib.hid hMN
                  have Hlost := Lib.hid hlost.symm
                  clear hMN hEN
                  clear hst hM8 hM7 hrb4 hlost
                  go_wp2_with (at_builtin; refine wpList_app rfl (.tmp 124) (.tmp 126) 25 rfl elemSl w4.heap.size A' n c' (G.map Sl.val) rfl _ 1 1 [y.val] rfl (n + 1) rfl ((G ++ [y]).map Sl.val) Hmv.out HownN.out hrdN Hone.out (by omega) (by omega) hszN ?_; intro A7 c7 w9 ho7 hg7 hr7)
                  go_roundw
                  case rel => exact ⟨k + 1, n + 1, G ++ [y], A7, c7, by have := Hk.out; omega, by go_num, by rw [HwS.out, Hlost.out]; simp, by rw [List.length_append, ← Hn.out]; rfl, rfl, by have := Hn2.out; omega, ⟨T ++ [y.bs], by rw [List.map_append, HGb.out]; simp, by rw [List.length_append, HTk.out]; rfl, HTn.out⟩, HMN.out.app HinN.out HcpN.out hg7 (by rw [List.length_append, ← Hn.out]; rfl) ho7⟩
                  case measure => simp [intOf]; have := Hk.out; omega
              · have hq64 : ((y.bs.length : Int) == 64) = false := by rw [beq_eq_false_iff_ne]; omega
                clear h64 hro hrb4 hcapb
                obtain ⟨y, hy⟩ : ∃ y : Sl, y = ⟨some ⟨wr.heap.size, 0, none⟩, List.replicate 64 0, 64⟩ := ⟨_, rfl⟩
                have hyv : y.val = .slice (some ⟨wr.heap.size, 0, none⟩) 64 64 := by rw [hy]; simp [Sl.val]
                have hcapb : y.bs.length ≤ y.c := by rw [hy]; simp
                rw [← hy] at hz7
                have hrb4 := hz7.rd
                have P := ref_stamped14 y.a y.bs y.c e n W7 he (by omega) hrb4 hcapb
                have hya : y.a = some ⟨wr.heap.size, 0, none⟩ ∧ y.bs.length = 64 ∧ y.c = 64 := by rw [hy]; simp
                rw [hya.1, hya.2.1, hya.2.2] at P
                have HP := Lib.hid P
                clear P hy hya
                go_wp2_with fail
                refine HP.out.mono ?_
                clear HP
                rintro r w8 ⟨rfl, hb8⟩
                have hlost := HlostX.out
                have hM8 := hM7.below hb8
                cases hst : Frm.stmpB y.bs e n with
                | true =>
                  have hv := LV w8
                  have hE8 := Ext.tr hE4 hM8.bel
                  clear hst hlost
                  go_wp2_with fail
                  refine hv.mono ?_
                  rintro r w9 ⟨rfl, hb9⟩
                  go_wp2
                  go_ret
                  exact ⟨rfl, Ext.tr hE8 hb9⟩
                | false =>
                  have hEN := Ext.alloc (w8) (.cells #[.slice (some ⟨wr.heap.size, 0, none⟩) 64 64] 23)
                  have hMN := hM8.below hEN
                  have hrdN : Rd ((w8).alloc (.cells #[.slice (some ⟨wr.heap.size, 0, none⟩) 64 64] 23)) 1 (some ⟨(w8).heap.size, 0, none⟩) 1 [y.val] := by rw [hyv]; exact Rd.new (w8) 23 [.slice (some ⟨wr.heap.size, 0, none⟩) 64 64]
                  have Hmv : Hid ((G ++ [y]).map Sl.val = G.map Sl.val ++ [y.val]) := by show _ = _; simp
                  have Hone : Hid (∀ u ∈ [y.val], u.oneCell' = true) := fun u hu => by rw [List.mem_singleton.1 hu]; rfl
                  have HinN : Hid (∀ s ∈ [y], OwnS w4.heap.size ((w8).alloc (.cells #[.slice (some ⟨wr.heap.size, 0, none⟩) 64 64] 23)) s ∨ RdB w4 s.a s.bs) := fun s hs => by rw [List.mem_singleton.1 hs]; exact .inl (Own.below (Own.below hz7 hb8) hEN)
                  have HcpN : Hid (∀ s ∈ [y], s.bs.length ≤ s.c) := fun s hs => by rw [List.mem_singleton.1 hs]; exact hcapb
                  have HTn : Hid (Torn zs e (1 + La.length) ct (T ++ [y.bs])) := HT.out.snoc y.bs (fun h9 => by rw [HTk.out, ← hlost] at h9; cases h9) (fun _ => by rw [HTk.out, ← Hn2.out]; exact hst)
                  have hszN := hMN.bel.size
                  have HownN : Hid (Own ((w8).alloc (.cells #[.slice (some ⟨wr.heap.size, 0, none⟩) 64 64] 23)) w4.heap.size 23 1 A' n c' (G.map Sl.val)) := by show Own _ _ _ _ _ _ _ _; rw [Hn.out]; exact hMN.own
                  have HMN := Lib.hid hMN
                  have Hlost := Lib.hid hlost.symm
                  clear hMN hEN
                  clear hst hM8 hM7 hrb4 hlost
                  go_wp2_with (at_builtin; refine wpList_app rfl (.tmp 124) (.tmp 126) 25 rfl elemSl w4.heap.size A' n c' (G.map Sl.val) rfl _ 1 1 [y.val] rfl (n + 1) rfl ((G ++ [y]).map Sl.val) Hmv.out HownN.out hrdN Hone.out (by omega) (by omega) hszN ?_; intro A7 c7 w9 ho7 hg7 hr7)
                  go_roundw
                  case rel => exact ⟨k + 1, n + 1, G ++ [y], A7, c7, by have := Hk.out; omega, by go_num, by rw [HwS.out, Hlost.out]; simp, by rw [List.length_append, ← Hn.out]; rfl, rfl, by have := Hn2.out; omega, ⟨T ++ [y.bs], by rw [List.map_append, HGb.out]; simp, by rw [List.length_append, HTk.out]; rfl, HTn.out⟩, HMN.out.app HinN.out HcpN.out hg7 (by rw [List.length_append, ← Hn.out]; rfl) ho7⟩
                  case measure => simp [intOf]; have := Hk.out; omega
            · have ko1 : ¬ ((k : Int) < (old.length : Int)) := by omega
              clear hO7 hO4
              obtain ⟨y, hy⟩ : ∃ y : Sl, y = ⟨some ⟨wr.heap.size, 0, none⟩, List.replicate 64 0, 64⟩ := ⟨_, rfl⟩
              have hyv : y.val = .slice (some ⟨wr.heap.size, 0, none⟩) 64 64 := by rw [hy]; simp [Sl.val]
              have hcapb : y.bs.length ≤ y.c := by rw [hy]; simp
              rw [← hy] at hz7
              have hrb4 := hz7.rd
              have P := ref_stamped14 y.a y.bs y.c e n W7 he (by omega) hrb4 hcapb
              have hya : y.a = some ⟨wr.heap.size, 0, none⟩ ∧ y.bs.length = 64 ∧ y.c = 64 := by rw [hy]; simp
              rw [hya.1, hya.2.1, hya.2.2] at P
              have HP := Lib.hid P
              clear P hy hya
              go_wp2_with fail
              refine HP.out.mono ?_
              clear HP
              rintro r w8 ⟨rfl, hb8⟩
              have hlost := HlostX.out
              have hM8 := hM7.below hb8
              cases hst : Frm.stmpB y.bs e n with
              | true =>
                have hv := LV w8
                have hE8 := Ext.tr hE4 hM8.bel
                clear hst hlost
                go_wp2_with fail
                refine hv.mono ?_
                rintro r w9 ⟨rfl, hb9⟩
                go_wp2
                go_ret
                exact ⟨rfl, Ext.tr hE8 hb9⟩
              | false =>
                have hEN := Ext.alloc (w8) (.cells #[.slice (some ⟨wr.heap.size, 0, none⟩) 64 64] 23)
                have hMN := hM8.below hEN
                have hrdN : Rd ((w8).alloc (.cells #[.slice (some ⟨wr.heap.size, 0, none⟩) 64 64] 23)) 1 (some ⟨(w8).heap.size, 0, none⟩) 1 [y.val] := by rw [hyv]; exact Rd.new (w8) 23 [.slice (some ⟨wr.heap.size, 0, none⟩) 64 64]
                have Hmv : Hid ((G ++ [y]).map Sl.val = G.map Sl.val ++ [y.val]) := by show _ = _; simp
                have Hone : Hid (∀ u ∈ [y.val], u.oneCell' = true) := fun u hu => by rw [List.mem_singleton.1 hu]; rfl
                have HinN : Hid (∀ s ∈ [y], OwnS w4.heap.size ((w8).alloc (.cells #[.slice (some ⟨wr.heap.size, 0, none⟩) 64 64] 23)) s ∨ RdB w4 s.a s.bs) := fun s hs => by rw [List.mem_singleton.1 hs]; exact .inl (Own.below (Own.below hz7 hb8) hEN)
                have HcpN : Hid (∀ s ∈ [y], s.bs.length ≤ s.c) := fun s hs => by rw [List.mem_singleton.1 hs]; exact hcapb
                have HTn : Hid (Torn zs e (1 + La.length) ct (T ++ [y.bs])) := HT.out.snoc y.bs (fun h9 => by rw [HTk.out, ← hlost] at h9; cases h9) (fun _ => by rw [HTk.out, ← Hn2.out]; exact hst)
                have hszN := hMN.bel.size
                have HownN : Hid (Own ((w8).alloc (.cells #[.slice (some ⟨wr.heap.size, 0, none⟩) 64 64] 23)) w4.heap.size 23 1 A' n c' (G.map Sl.val)) := by show Own _ _ _ _ _ _ _ _; rw [Hn.out]; exact hMN.own
                have HMN := Lib.hid hMN
                have Hlost := Lib.hid hlost.symm
                clear hMN hEN
                clear hst hM8 hM7 hrb4 hlost
                go_wp2_with (at_builtin; refine wpList_app rfl (.tmp 124) (.tmp 126) 25 rfl elemSl w4.heap.size A' n c' (G.map Sl.val) rfl _ 1 1 [y.val] rfl (n + 1) rfl ((G ++ [y]).map Sl.val) Hmv.out HownN.out hrdN Hone.out (by omega) (by omega) hszN ?_; intro A7 c7 w9 ho7 hg7 hr7)
                go_roundw
                case rel => exact ⟨k + 1, n + 1, G ++ [y], A7, c7, by have := Hk.out; omega, by go_num, by rw [HwS.out, Hlost.out]; simp, by rw [List.length_append, ← Hn.out]; rfl, rfl, by have := Hn2.out; omega, ⟨T ++ [y.bs], by rw [List.map_append, HGb.out]; simp, by rw [List.length_append, HTk.out]; rfl, HTn.out⟩, HMN.out.app HinN.out HcpN.out hg7 (by rw [List.length_append, ← Hn.out]; rfl) ho7⟩
                case measure => simp [intOf]; have := Hk.out; omega
    · have hkL : k = Lb.length := by omega
      have hkI : ¬ ((k : Int) < (Lb.length : Int)) := by omega
      have hM := HM.out
      have hscan : ∃ f, Frm.Scans (bsL G) e 1 (if wh = true then [ah, ct] else [ah]) f := by
        have h9 := torn_scan (zs := zs) (e := e) (ah := ah) (ct := ct) (T := T) (by omega) (by omega) (by rw [HTk.out, hkL, HLbl.out]) (by rw [← HLal.out]; exact HT.out)
        rw [← HLbl.out, ← hkL, ← Hwh.out, ← HGb.out] at h9
        exact h9
      have hep : ∃ h : 0 < G.length, Frm.epoch G[0].bs = (e, 0) := by
        have hlen : 0 < G.length := by have := Hn.out; have := Hn2.out; omega
        refine ⟨hlen, ?_⟩
        have h1 : (G.map Sl.bs)[0]? = some (Frm.head e) := by rw [HGb.out]; rfl
        rw [List.getElem?_map, List.getElem?_eq_getElem hlen] at h1
        simp only [Option.map_some, Option.some.injEq] at h1
        rw [h1]
        exact Frm.epoch_head e he
      have P6 := scan_any A' G c' wr hM.rd (by have := Hn.out; omega)
      rw [← Hn.out] at P6
      have HP6 := Lib.hid P6
      have Hscan := Lib.hid hscan
      have Hep6 := Lib.hid hep
      have hEr := Ext.tr hE4 hM.bel
      clear hscan hep P6 hM hkL
      go_wp2_with fail
      refine HP6.out.mono ?_
      clear HP6
      rintro r w7 hp7
      have hp8 : ∃ (f : Nat) (L7 : List Sl) (A7 : Option Addr) (c7 : Nat), r = .returned (.tuple #[.int .u64 (e : Int), .slice A7 L7.length c7, .int .i64 (f : Int), .int .i64 0]) ∧ L7.map Sl.bs = (if wh = true then [ah, ct] else [ah]) ∧ RdL w7 A7 L7 ∧ Ext wr w7 := by
        obtain ⟨g0, g1⟩ := Hep6.out
        obtain ⟨f, hf⟩ := Hscan.out
        rcases hp7 with ⟨h, _⟩ | ⟨e', f', L3, A3, c3, ⟨q0, q1⟩, hS3, hr, hO3, hI3, hb3⟩
        · exact absurd (by rw [g1]) (h g0)
        · rw [g1] at q1
          injection q1 with q1 _
          subst q1
          obtain ⟨z1, z2⟩ := hS3.uniq hf
          exact ⟨f', L3, A3, c3, hr, z1, ⟨hO3.rd, fun s hs => (hI3 s hs).rd⟩, hb3⟩
      obtain ⟨f7, L7, A7, c7, rfl, hLL, hR7, hb7⟩ := hp8
      have hE7 := Ext.tr hEr hb7
      have hE8 := Ext.alloc w7 (.cells #[.slice A ah.length capA] 23)
      have hE78 := Ext.tr hE7 hE8
      have hL2 : L7.length ≤ 2 := by have h9 := congrArg List.length hLL; rw [List.length_map] at h9; rw [h9]; split <;> simp
      have HLL := Lib.hid hLL
      have HR7 := Lib.hid hR7
      clear hp7 hLL hR7 hEr hb7 Hscan Hep6
      cases wh with
      | false =>
        have hw1 : RdL (w7.alloc (.cells #[.slice A ah.length capA] 23)) (some ⟨w7.heap.size, 0, none⟩) [⟨A, ah, capA⟩] := RdL.one w7 23 A ah capA (hA.below hE7)
        have P8 := ref_lists14 A7 (some ⟨w7.heap.size, 0, none⟩) L7 [⟨A, ah, capA⟩] c7 1 _ (HR7.out.below hE8) hw1 (by omega)
        have hbt : (L7.map Sl.bs == [(⟨A, ah, capA⟩ : Sl)].map Sl.bs) = true := by rw [HLL.out]; simp
        rw [hbt] at P8
        have HP8 := Lib.hid P8
        clear P8 hbt hw1 hE8
        go_wp2_with fail
        refine (num14 _ _).mono ?_
        rintro r w9 ⟨rfl, rfl⟩
        go_wp2_with fail
        refine HP8.out.mono ?_
        clear HP8
        rintro r w9 ⟨rfl, hb9⟩
        go_wp2_with fail
        refine (LV w9).mono ?_
        rintro r w10 ⟨rfl, hb10⟩
        go_wp2
        go_ret
        exact ⟨rfl, Ext.tr hE78 (Ext.tr hb9 hb10)⟩
      | true =>
        have hE9 := Ext.alloc (w7.alloc (.cells #[.slice A ah.length capA] 23)) (.cells #[.slice C ct.length capC] 23)
        have ho8 : Own (w7.alloc (.cells #[.slice A ah.length capA] 23)) w7.heap.size 23 1 (some ⟨w7.heap.size, 0, none⟩) 1 1 [.slice A ah.length capA] := by
          have := Own.new w7 23 1 #[.slice A ah.length capA] 1 1 (Nat.le_refl _) (by unfold maxLen; omega) (by simp)
          simpa using this
        have ho9 := ho8.below hE9
        have hr9 : Rd ((w7.alloc (.cells #[.slice A ah.length capA] 23)).alloc (.cells #[.slice C ct.length capC] 23)) 1 (some ⟨w7.heap.size + 1, 0, none⟩) 1 [.slice C ct.length capC] := by have h9 := Rd.new (w7.alloc (.cells #[.slice A ah.length capA] 23)) 23 [.slice C ct.length capC]; simpa using h9
        have hE789 := Ext.tr hE8 hE9
        have hs9 := hE789.size
        have hone : ∀ u ∈ [Value.slice C ct.length capC], u.oneCell' = true := fun u hu => by rw [List.mem_singleton.1 hu]; rfl
        have Hone := Lib.hid hone
        have Ho9 := Lib.hid ho9
        have Hr9 := Lib.hid hr9
        clear ho8 ho9 hr9 hone hE8 hE9
        go_wp2_with (at_builtin; go_loud (refine wpList_app rfl (.tmp 138) (.tmp 140) 25 rfl elemSl w7.heap.size _ 1 1 [.slice A ah.length capA] rfl _ 1 1 [.slice C ct.length capC] rfl 2 rfl [.slice A ah.length capA, .slice C ct.length capC] rfl Ho9.out Hr9.out Hone.out (by omega) (by omega) hs9 ?_); intro A10 c10 w10 ho10 hg10 hr10; refine Hid.out ?_)
        have hE10 : Ext w7 w10 := below_app hE789 Ho9.out hg10 hs9
        have hEw10 := Ext.tr hE7 hE10
        have hw2 : RdL w10 A10 [⟨A, ah, capA⟩, ⟨C, ct, capC⟩] := ⟨ho10.rd, fun s hs => by
          simp only [List.mem_cons, List.not_mem_nil, or_false] at hs
          rcases hs with rfl | rfl
          · exact hA.below hEw10
          · exact hC.below hEw10⟩
        have P8 := ref_lists14 A7 A10 L7 [⟨A, ah, capA⟩, ⟨C, ct, capC⟩] c7 c10 w10 (HR7.out.below hE10) hw2 (by omega)
        have hbt : (L7.map Sl.bs == [(⟨A, ah, capA⟩ : Sl), ⟨C, ct, capC⟩].map Sl.bs) = true := by rw [HLL.out]; simp
        rw [hbt] at P8
        have HP8 := Lib.hid P8
        refine Lib.hid ?_
        clear P8 hbt hw2 ho10 hg10 hr10 hE10
        go_wp2_with fail
        refine (num14 _ _).mono ?_
        rintro r w9 ⟨rfl, rfl⟩
        go_wp2_with fail
        refine HP8.out.mono ?_
        clear HP8
        rintro r w9 ⟨rfl, hb9⟩
        go_wp2_with fail
        refine (LV w9).mono ?_
        rintro r w11 ⟨rfl, hb11⟩
        go_wp2
        go_ret
        exact ⟨rfl, Ext.tr hEw10 (Ext.tr hb9 hb11)⟩
end Go.Proofs.Ytpabbackiobefaa
