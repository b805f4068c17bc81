
/- The walk of the law FrameBack. -/

import Derived.Test.YtpabbackiobefaaFrmLawA

namespace Go.Proofs.Ytpabbackiobefaa

open Go.RowKit

attribute [local go_sem] Oper.semAt_some

def sumL (cs : List (List UInt8)) : Nat := (cs.map List.length).foldl (· + ·) 0
theorem foldl_addn (l : List Nat) : ∀ n, l.foldl (· + ·) n = n + l.foldl (· + ·) 0 := by
  induction l with
  | nil => intro n; rfl
  | cons x l ih => intro n; rw [List.foldl_cons, List.foldl_cons, ih (n + x), ih (0 + x)]; omega
theorem sumL_cons (c : List UInt8) (cs : List (List UInt8)) : sumL (c :: cs) = c.length + sumL cs := by
  unfold sumL; rw [List.map_cons, List.foldl_cons, foldl_addn]; omega
theorem sumL_cat (l : List Sl) : sumL (bsL l) = (cat l).length := by
  induction l with
  | nil => rfl
  | cons s l ih =>
    show sumL (s.bs :: bsL l) = _
    rw [sumL_cons, ih]
    simp [cat]
theorem allSecs_52 (e : Nat) : ∀ (cs : List (List UInt8)) (a : Nat), 52 * (Frm.allSecs e a cs).length ≤ sumL cs + 60 * cs.length
  | [], a => by simp [Frm.allSecs]
  | c :: cs, a => by
    have h1 := allSecs_52 e cs (a + Frm.need c.length)
    have h2 := Frm.need_lt c.length
    simp only [Frm.allSecs, List.length_append, Frm.secs_len, sumL_cons, List.length_cons]
    omega
theorem allSecs_snoc (e : Nat) : ∀ (cs : List (List UInt8)) (a : Nat) (c : List UInt8), Frm.allSecs e a (cs ++ [c]) = Frm.allSecs e a cs ++ Frm.secs e (a + (Frm.allSecs e a cs).length) c
  | [], a, c => by simp [Frm.allSecs]
  | d :: cs, a, c => by
    have := allSecs_snoc e cs (a + Frm.need d.length) c
    simp only [List.cons_append, Frm.allSecs, this, List.length_append, Frm.secs_len, List.append_assoc]
    rw [show a + Frm.need d.length + (Frm.allSecs e (a + Frm.need d.length) cs).length = a + (Frm.need d.length + (Frm.allSecs e (a + Frm.need d.length) cs).length) by omega]
theorem bsL_take (l : List Sl) (k : Nat) : bsL (l.take k) = (bsL l).take k := by simp [bsL, List.map_take]
theorem bsL_snoc (l : List Sl) (k : Nat) (h : k < l.length) : bsL (l.take (k + 1)) = bsL (l.take k) ++ [l[k].bs] := by
  rw [bsL, List.take_succ_eq_append_getElem h, List.map_append]; rfl
/-- A list of the call's own, with all that its elements hold. -/
structure OwnL (B : Nat) (W : World) (A : Option Addr) (G : List Sl) (c : Nat) : Prop where
  own : Own W B 23 1 A G.length c (G.map Sl.val)
  ins : ∀ s ∈ G, OwnS B W s
theorem OwnL.below {B : Nat} {W W' : World} {A : Option Addr} {G : List Sl} {c : Nat} (h : OwnL B W A G c) (hb : Ext W W') : OwnL B W' A G c := ⟨h.own.below hb, fun s hs => Own.below (h.ins s hs) hb⟩
theorem OwnL.rd {B : Nat} {W : World} {A : Option Addr} {G : List Sl} {c : Nat} (h : OwnL B W A G c) : RdLc W A G := ⟨⟨h.own.rd, fun s hs => (h.ins s hs).rd⟩, fun s hs => Own.nc (h.ins s hs)⟩
theorem sl_one (l : List Sl) : ∀ u ∈ l.map Sl.val, u.oneCell' = true := fun u hu => by
  obtain ⟨s, _, rfl⟩ := List.mem_map.1 hu
  rfl
/-- Elements of the call's own appended. -/
theorem OwnL.app {B : Nat} {W W' : World} {A A' : Option Addr} {G L : List Sl} {c c' k : Nat} (h : OwnL B W A G c) (hL : ∀ s ∈ L, OwnS B W s) (hg : W.grownBy W' (ownRow A c)) (hk : k = (G ++ L).length) (ho : Own W' B 23 1 A' k c' ((G ++ L).map Sl.val)) : OwnL B W' A' (G ++ L) c' := by
  subst hk
  refine ⟨ho, fun s hs => ?_⟩
  have h1 : OwnS B W s := by
    rcases List.mem_append.1 hs with h' | h'
    · exact h.ins s h'
    · exact hL s h'
  refine OwnS.kept h1 hg (fun r hr => .inr (fun cur fr h9 => ?_))
  obtain ⟨cur', h'⟩ := own_typ h.own r hr
  rw [h'] at h9
  injection h9 with h9
  injection h9 with _ h9 _
  exact absurd h9 (by decide)
theorem OwnL.oneB (w : World) (B : Nat) (hB : B ≤ w.heap.size) (s : Sl) (hs : OwnS B w s) : OwnL B (w.alloc (.cells #[s.val] 23)) (some ⟨w.heap.size, 0, none⟩) [s] 1 := by
  refine ⟨?_, fun t ht => ?_⟩
  · have := (Own.new w 23 1 #[s.val] 1 1 (Nat.le_refl _) (by unfold maxLen; omega) (by simp)).mono hB
    simpa using this
  · rw [List.mem_singleton] at ht; subst ht
    exact Own.below hs (Ext.alloc w _)
theorem FPost.ownS {w : World} {e : Nat} {at_ : Int} {c : List UInt8} {r : Ending} {w' : World} (h : FPost w e at_ c r w') : ∃ (L : List Sl) (A : Option Addr) (cp : Nat), r = .returned (.tuple #[.slice A L.length cp, .int .i64 (Frm.putE at_ c : Int)]) ∧ RdLc w' A L ∧ L.map Sl.bs = (if Frm.putE at_ c = 0 then Frm.secs e at_.toNat c else []) ∧ (∀ s ∈ L, OwnS w.heap.size w' s) ∧ Below w.heap.size w w' := by
  obtain ⟨L, A, cp, h1, h2, h3, _, h5, h6⟩ := h
  exact ⟨L, A, cp, h1, h2, h3, fun s hs => (h5 s hs).own, h6⟩

set_option maxRecDepth 100000 in
set_option maxHeartbeats 4000000 in
theorem walkFrameBack (w : World) (a0 : Int) (w0 : (Lit.int .u64 a0).wf = true) (A : Option Addr) (l : List Sl) (cap : Nat) (hA : RdL w A l) (_hc : l.length ≤ cap) (hcap : ∀ s ∈ l, s.bs.length ≤ s.c)
    (R : Option Addr) (rest : List Sl) (capR : Nat) (hR : RdL w R rest) (_hcR : rest.length ≤ capR) (hcapR : ∀ s ∈ rest, s.bs.length ≤ s.c) :
    Calls Try.prog 5 #[.int .u64 a0, .slice A l.length cap, .slice R rest.length capR] w fun r w' => r = .returned (.bool true) ∧ Below w.heap.size w w' := by
  obtain ⟨e, rfl, he⟩ := wf_u64 w0
  have hl : RdLc w A l := ⟨hA, hcap⟩
  have hr : RdLc w R rest := ⟨hR, hcapR⟩
  go_enter Try.func5, Try.ntmps5
  go_wp2_with fail
  refine (small14 A l cap w hA).mono ?_
  rintro r w1 ⟨b, rfl, hsm, hb1⟩
  cases b with
  | false =>
    have hv := live14 w1
    go_wp2_with fail
    refine hv.mono ?_
    rintro r w9 ⟨rfl, hb⟩
    go_wp2
    go_ret
    exact ⟨rfl, Ext.tr hb1 hb⟩
  | true =>
  obtain ⟨n1, n2, n3⟩ := hsm rfl
  clear hsm
  go_wp2_with fail
  refine (small14 R rest capR w1 (hR.below hb1)).mono ?_
  rintro r w2 ⟨b, rfl, hsm, hb2⟩
  cases b with
  | false =>
    have hv := live14 w2
    go_wp2_with fail
    refine hv.mono ?_
    rintro r w9 ⟨rfl, hb⟩
    go_wp2
    go_ret
    exact ⟨rfl, Ext.tr hb1 (Ext.tr hb2 hb)⟩
  | true =>
  obtain ⟨n4, _, _⟩ := hsm rfl
  have hE2 := Ext.tr hb1 hb2
  clear hsm hb1 hb2
  go_wp2_with fail
  refine (head_any e w2).mono ?_
  rintro r w3 ⟨A3, c3, rfl, ho3, hb3⟩
  have hE3 := Ext.tr hE2 hb3
  obtain ⟨s0, hs0⟩ : ∃ s0 : Sl, s0 = ⟨A3, Frm.head e, c3⟩ := ⟨_, rfl⟩
  have hv0 : s0.val = .slice A3 64 c3 := by rw [hs0, Sl.val, Frm.head_len]
  have hos : OwnS w.heap.size w3 s0 := by rw [hs0]; unfold OwnS; rw [Frm.head_len]; exact ho3.mono hE2.size
  have hG0 := OwnL.oneB w3 w.heap.size hE3.size s0 hos
  rw [hv0] at hG0
  have hE4 := Ext.tr hE3 (Ext.alloc w3 (.cells #[.slice A3 64 c3] 23))
  have hs0b : s0.bs = Frm.head e := by rw [hs0]
  have Hs0b := Lib.hid hs0b
  have Hn2 : Hid (sumL (bsL l) ≤ 8000) := by show _ ≤ _; rw [sumL_cat]; exact n2
  have Hn3 := Lib.hid n3
  clear hs0 hv0 hos ho3 hb3 hE2 hE3 hs0b n2 n3
  go_wp2_with fail
  go_loopw [7, 8, 9, 10] (fun o i _ _ wr => ∃ (k : Nat) (G : List Sl) (A' : Option Addr) (c' : Nat), k ≤ l.length ∧ i = .int .i64 (k : Int) ∧ o = .slice A' G.length c' ∧ G.map Sl.bs = Frm.head e :: Frm.allSecs e 1 (bsL (l.take k)) ∧ OwnL w.heap.size wr A' G c' ∧ Ext w wr) (fun _ i _ _ _ => l.length - (intOf i).toNat)
  case atStart => exact ⟨0, [s0], _, _, by omega, rfl, rfl, by simp [Hs0b.out, Frm.allSecs, bsL], hG0, hE4⟩
  case round =>
    obtain ⟨k, G, A', c', hk, rfl, rfl, hGb, hG, hE⟩ := hrel
    have hGl : G.length = 1 + (Frm.allSecs e 1 (bsL (l.take k))).length := by
      have h := congrArg List.length hGb
      rw [List.length_map, List.length_cons] at h
      omega
    have hsum : sumL (bsL (l.take k)) ≤ 8000 := by
      have h1 := cat_take_le l k
      have h2 := Hn2.out
      rw [sumL_cat] at h2 ⊢
      omega
    have h52 := allSecs_52 e (bsL (l.take k)) 1
    have hbl : (bsL (l.take k)).length ≤ 100 := by rw [bsL_len, List.length_take]; omega
    have hG3 : 1 ≤ G.length ∧ G.length ≤ 300 := by omega
    have HGb := Lib.hid hGb
    have HGl := Lib.hid hGl
    clear hGb hGl hsum h52 hbl hG0 hE4
    by_cases h : k < l.length
    · obtain ⟨ad, hAd, hcell, hin⟩ := (hA.below hE).at_ h
      subst hAd
      have hx2 := Hn3.out l[k] (List.getElem_mem h)
      have ik : (0 : Int) ≤ (k : Int) := by omega
      have ik2 : (k : Int) < (l.length : Int) := by omega
      have P := fput_any e (G.length : Int) l[k].a l[k].bs l[k].c wr hin (by omega)
      have hp0 : Frm.putE (G.length : Int) l[k].bs = 0 := by unfold Frm.putE; rw [if_neg (by omega), if_neg (by omega)]
      have Hsn : Hid (Frm.allSecs e 1 (bsL (l.take (k + 1))) = Frm.allSecs e 1 (bsL (l.take k)) ++ Frm.secs e G.length l[k].bs) := by show _ = _; rw [bsL_snoc l k h, allSecs_snoc, HGl.out]
      have hneed : (Frm.secs e G.length l[k].bs).length ≤ 50 := by rw [Frm.secs_len]; have := Frm.need_lt l[k].bs.length; omega
      obtain ⟨x, hx⟩ : ∃ x, x = l[k] := ⟨_, rfl⟩
      rw [← hx] at P hp0 Hsn hcell hneed
      have HP := Lib.hid P
      have Hp0 := Lib.hid hp0
      have Hneed := Lib.hid hneed
      clear P hp0 hin hx2 hx hneed
      go_wp2_with fail
      refine HP.out.mono ?_
      clear HP
      rintro r w4 hp4
      obtain ⟨L4, A4, c4, rfl, hL4, hs4, hI4, hb4⟩ := hp4.ownS
      rw [Hp0.out, if_pos rfl, Int.toNat_natCast] at hs4
      rw [Hp0.out]
      have hL4l : L4.length ≤ 50 := by have h9 := congrArg List.length hs4; rw [List.length_map] at h9; rw [h9]; exact Hneed.out
      have hE4 := Ext.tr hE hb4
      have hG4 := hG.below hb4
      have hI4' : ∀ s ∈ L4, OwnS w.heap.size w4 s := fun s hs => Own.mono (hI4 s hs) hE.size
      have HI4 := Lib.hid hI4'
      have HL4 := Lib.hid hL4.rd.rd
      have Hs4 := Lib.hid hs4
      have Hmv : Hid ((G ++ L4).map Sl.val = G.map Sl.val ++ L4.map Sl.val) := List.map_append
      have HG4 := Lib.hid hG4
      clear hp4 hL4 hs4 hI4 hI4' hG hG4 hb4 hE hcell
      go_wp2_with fail
      refine (num14 _ _).mono ?_
      rintro r w9 ⟨rfl, rfl⟩
      have hsz4 := hE4.size
      go_wp2_with (at_builtin; refine wpList_app rfl (.tmp 48) (.tmp 49) 25 rfl elemSl w.heap.size A' G.length c' (G.map Sl.val) rfl A4 L4.length c4 (L4.map Sl.val) rfl (G.length + L4.length) rfl ((G ++ L4).map Sl.val) Hmv.out HG4.out.own HL4.out (sl_one L4) (by omega) (by omega) hsz4 ?_; intro A6 c6 w6 ho6 hg6 hr6)
      go_roundw
      case rel => exact ⟨k + 1, G ++ L4, A6, c6, by omega, by go_num, by rw [List.length_append], by rw [List.map_append, HGb.out, Hs4.out, Hsn.out]; simp, HG4.out.app HI4.out hg6 (List.length_append).symm ho6, below_app hE4 HG4.out.own hg6 hsz4⟩
      case measure => simp [intOf]; omega
    · obtain rfl : k = l.length := by omega
      have hkl : ¬ ((l.length : Int) < (l.length : Int)) := by omega
      have hGb := HGb.out
      rw [List.take_length] at hGb
      have HGb2 := Lib.hid hGb
      have Hend : Hid (G.length = 1 + (Frm.allSecs e 1 (bsL l)).length) := by show _ = _; rw [HGl.out, List.take_length]
      clear HGb hGb HGl
      have hfull : ∀ c, (∀ h : 0 < rest.length, Frm.stmpB rest[0].bs e G.length = false) → ¬ Frm.Stands ([Frm.head e] ++ Frm.allSecs e 1 (bsL l) ++ bsL rest) e (1 + (Frm.allSecs e 1 (bsL l)).length) c := fun c hno hS => by
        obtain ⟨s, h1, h2, h3⟩ := hS.first
        rw [List.getElem?_append_right (by simp; omega)] at h1
        simp only [List.length_append, List.length_singleton, Nat.sub_self] at h1
        rcases Nat.eq_zero_or_pos rest.length with h0 | h0
        · rw [List.eq_nil_of_length_eq_zero h0] at h1; simp [bsL] at h1
        · have h4 := hno h0
          rw [bsL, List.getElem?_map, List.getElem?_eq_getElem h0] at h1
          simp only [Option.map_some, Option.some.injEq] at h1
          rw [Hend.out, h1, stmp_parts.2 ⟨h2, by rw [h3, Nat.add_comm]; simp⟩] at h4
          cases h4
      have Hfull := Lib.hid hfull
      clear hfull
      have hG30 : G.length ≤ 300 := hG3.2
      by_cases h0 : 0 < rest.length
      · obtain ⟨rd, hrd, kc, kr⟩ := (hr.below hE).rd.at_ h0
        have hrcap := hr.cap rest[0] (List.getElem_mem h0)
        have hst := ref_stamped14 rest[0].a rest[0].bs rest[0].c e G.length wr he (by omega) kr hrcap
        have r1 : (0 : Int) < (rest.length : Int) := by omega
        obtain ⟨y, hy⟩ : ∃ y, y = rest[0] := ⟨_, rfl⟩
        rw [← hy] at kc hst
        have hrd2 := hrd
        subst hrd
        have kc0 : wr.cell? rd = some (.slice y.a y.bs.length y.c) := kc
        have Hst := Lib.hid hst
        cases hb : Frm.stmpB y.bs e G.length with
        | true =>
          rw [hb] at Hst
          clear kc kr hst hy hG
          go_wp2_with fail
          refine Hst.out.mono ?_
          rintro r w5 ⟨rfl, hb5⟩
          have hv := live14 w5
          clear kc0 Hst
          go_wp2_with fail
          refine hv.mono ?_
          rintro r w9 ⟨rfl, hb9⟩
          go_wp2
          go_ret
          exact ⟨rfl, Ext.tr hE (Ext.tr hb5 hb9)⟩
        | false =>
          rw [hb] at Hst
          have hno : ∀ h : 0 < rest.length, Frm.stmpB rest[0].bs e G.length = false := fun _ => by rw [← hy]; exact hb
          have Hno := Lib.hid hno
          have HG := Lib.hid hG
          clear kc kr hst hy hG hno hb
          go_wp2_with fail
          refine Hst.out.mono ?_
          rintro r w5 ⟨rfl, hb5⟩
          clear kc0 Hst
          have hE5 := Ext.tr hE hb5
          have HG5 := Lib.hid (HG.out.below hb5)
          have hR5 := hR.below hE5
          have HR5 := Lib.hid hR5.rd
          have Hmv : Hid ((G ++ rest).map Sl.val = G.map Sl.val ++ rest.map Sl.val) := List.map_append
          have hsz5 := hE5.size
          clear hR5
          go_wp2_with (at_builtin; refine wpList_app rfl (.tmp 66) (.tmp 67) 25 rfl elemSl w.heap.size A' G.length c' (G.map Sl.val) rfl (some rd) rest.length capR (rest.map Sl.val) rfl (G.length + rest.length) rfl ((G ++ rest).map Sl.val) Hmv.out HG5.out.own HR5.out (sl_one rest) (by omega) (by omega) hsz5 ?_; intro A6 c6 w6 ho6 hg6 hr6; refine Hid.out ?_)
          have hE6 := below_app hE5 HG5.out.own hg6 hsz5
          have hins6 : ∀ s ∈ G, OwnS w.heap.size w6 s := fun s hs => OwnS.kept (HG5.out.ins s hs) hg6 (fun r hr9 => .inr (fun cur fr h9 => by
            obtain ⟨cur', h'⟩ := own_typ HG5.out.own r hr9
            rw [h'] at h9
            injection h9 with h9
            injection h9 with _ h9 _
            exact absurd h9 (by decide)))
          have hrd6 : RdLc w6 A6 (G ++ rest) := by
            refine ⟨⟨?_, fun s hs => ?_⟩, fun s hs => ?_⟩
            · have := ho6.rd
              rwa [← List.length_append] at this
            · rcases List.mem_append.1 hs with h | h
              · exact (hins6 s h).rd
              · exact (hR.below hE6).each s h
            · rcases List.mem_append.1 hs with h | h
              · exact Own.nc (hins6 s h)
              · exact hcapR s h
          have hbs : bsL (G ++ rest) = [Frm.head e] ++ Frm.allSecs e 1 (bsL l) ++ bsL rest := by
            have h1 := HGb2.out
            unfold bsL at h1 ⊢
            rw [List.map_append, h1]
            simp
          have hscan : Frm.Scans (bsL (G ++ rest)) e 1 (bsL l) G.length := by
            rw [hbs, Hend.out]
            exact Frm.scans_all e (bsL l) [Frm.head e] (bsL rest) (fun c hc => by
              obtain ⟨s, hs, rfl⟩ := List.mem_map.1 hc
              have := Hn3.out s hs
              omega) fun c => Hfull.out c Hno.out
          have hep6 : ∃ h : 0 < (G ++ rest).length, Frm.epoch (G ++ rest)[0].bs = (e, 0) := by
            have hlen : 0 < (G ++ rest).length := by rw [List.length_append]; omega
            refine ⟨hlen, ?_⟩
            have h1 : (bsL (G ++ rest))[0]? = some (Frm.head e) := by rw [hbs]; rfl
            rw [bsL, List.getElem?_map, List.getElem?_eq_getElem hlen] at h1
            simp only [Option.map_some, Option.some.injEq] at h1
            rw [h1]
            exact Frm.epoch_head e he
          have P6 := scan_any A6 (G ++ rest) c6 w6 hrd6 (by rw [List.length_append]; omega)
          rw [List.length_append] at P6
          have HP6 := Lib.hid P6
          have Hscan := Lib.hid hscan
          have Hep6 := Lib.hid hep6
          refine Lib.hid ?_
          clear hins6 hrd6 hbs hscan hep6 P6 ho6 hg6 hr6 Hfull Hno
          go_wp2_with fail
          refine HP6.out.mono ?_
          clear HP6
          rintro r w7 hp7
          have hp8 : ∃ (L7 : List Sl) (A7 : Option Addr) (c7 : Nat), r = .returned (.tuple #[.int .u64 (e : Int), .slice A7 L7.length c7, .int .i64 (G.length : Int), .int .i64 0]) ∧ L7.map Sl.bs = bsL l ∧ RdL w7 A7 L7 ∧ Ext w6 w7 := by
            obtain ⟨g0, g1⟩ := Hep6.out
            rcases hp7 with ⟨h, _⟩ | ⟨e', f', L3, A3, c3, ⟨q0, q1⟩, hS3, hr, hO3, hI3, hb3⟩
            · exact absurd (by rw [g1]) (h g0)
            · rw [g1] at q1
              injection q1 with q1 _
              subst q1
              obtain ⟨z1, z2⟩ := hS3.uniq Hscan.out
              subst z2
              exact ⟨L3, A3, c3, hr, z1, ⟨hO3.rd, fun s hs => (hI3 s hs).rd⟩, hb3⟩
          obtain ⟨L7, A7, c7, rfl, hLL, hR7, hb7⟩ := hp8
          have hE7 := Ext.tr hE6 hb7
          have hl7 : L7.length = l.length := by have := congrArg List.length hLL; rwa [List.length_map, bsL_len] at this
          have P8 := ref_lists14 A7 A L7 l c7 cap w7 hR7 (hA.below hE7) (by omega)
          have hbt : (L7.map Sl.bs == l.map Sl.bs) = true := by rw [hLL]; simp [bsL]
          rw [hbt] at P8
          have HP8 := Lib.hid P8
          clear hp7 hLL hR7 hl7 P8 hbt hE6 hb7
          go_wp2_with fail
          refine HP8.out.mono ?_
          clear HP8
          rintro r w8 ⟨rfl, hb8⟩
          go_wp2_with fail
          refine (num14 _ _).mono ?_
          rintro r w9 ⟨rfl, rfl⟩
          go_wp2_with fail
          refine (live14 w8).mono ?_
          rintro r w10 ⟨rfl, hb10⟩
          go_wp2
          go_ret
          exact ⟨rfl, Ext.tr hE7 (Ext.tr hb8 hb10)⟩
      · have Hno : Hid (∀ h : 0 < rest.length, Frm.stmpB rest[0].bs e G.length = false) := fun h => absurd h h0
        obtain rfl : rest = [] := List.eq_nil_of_length_eq_zero (by omega)
        have hE5 := hE
        have HG5 := Lib.hid hG
        clear hG
        have hR5 := hR.below hE5
        have HR5 := Lib.hid hR5.rd
        have Hmv : Hid ((G ++ ([] : List Sl)).map Sl.val = G.map Sl.val ++ ([] : List Sl).map Sl.val) := List.map_append
        have hsz5 := hE5.size
        clear hR5
        go_wp2_with (at_builtin; refine wpList_app rfl (.tmp 66) (.tmp 67) 25 rfl elemSl w.heap.size A' G.length c' (G.map Sl.val) rfl R ([] : List Sl).length capR (([] : List Sl).map Sl.val) rfl (G.length + ([] : List Sl).length) rfl ((G ++ ([] : List Sl)).map Sl.val) Hmv.out HG5.out.own HR5.out (sl_one ([] : List Sl)) (by omega) (by omega) hsz5 ?_; intro A6 c6 w6 ho6 hg6 hr6; refine Hid.out ?_)
        have hE6 := below_app hE5 HG5.out.own hg6 hsz5
        have hins6 : ∀ s ∈ G, OwnS w.heap.size w6 s := fun s hs => OwnS.kept (HG5.out.ins s hs) hg6 (fun r hr9 => .inr (fun cur fr h9 => by
          obtain ⟨cur', h'⟩ := own_typ HG5.out.own r hr9
          rw [h'] at h9
          injection h9 with h9
          injection h9 with _ h9 _
          exact absurd h9 (by decide)))
        have hrd6 : RdLc w6 A6 (G ++ ([] : List Sl)) := by
          refine ⟨⟨?_, fun s hs => ?_⟩, fun s hs => ?_⟩
          · have := ho6.rd
            rwa [← List.length_append] at this
          · rcases List.mem_append.1 hs with h | h
            · exact (hins6 s h).rd
            · exact (hR.below hE6).each s h
          · rcases List.mem_append.1 hs with h | h
            · exact Own.nc (hins6 s h)
            · exact hcapR s h
        have hbs : bsL (G ++ ([] : List Sl)) = [Frm.head e] ++ Frm.allSecs e 1 (bsL l) ++ bsL ([] : List Sl) := by
          have h1 := HGb2.out
          unfold bsL at h1 ⊢
          rw [List.map_append, h1]
          simp
        have hscan : Frm.Scans (bsL (G ++ ([] : List Sl))) e 1 (bsL l) G.length := by
          rw [hbs, Hend.out]
          exact Frm.scans_all e (bsL l) [Frm.head e] (bsL ([] : List Sl)) (fun c hc => by
            obtain ⟨s, hs, rfl⟩ := List.mem_map.1 hc
            have := Hn3.out s hs
            omega) fun c => Hfull.out c Hno.out
        have hep6 : ∃ h : 0 < (G ++ ([] : List Sl)).length, Frm.epoch (G ++ ([] : List Sl))[0].bs = (e, 0) := by
          have hlen : 0 < (G ++ ([] : List Sl)).length := by rw [List.length_append]; omega
          refine ⟨hlen, ?_⟩
          have h1 : (bsL (G ++ ([] : List Sl)))[0]? = some (Frm.head e) := by rw [hbs]; rfl
          rw [bsL, List.getElem?_map, List.getElem?_eq_getElem hlen] at h1
          simp only [Option.map_some, Option.some.injEq] at h1
          rw [h1]
          exact Frm.epoch_head e he
        have P6 := scan_any A6 (G ++ ([] : List Sl)) c6 w6 hrd6 (by rw [List.length_append]; omega)
        rw [List.length_append] at P6
        have HP6 := Lib.hid P6
        have Hscan := Lib.hid hscan
        have Hep6 := Lib.hid hep6
        refine Lib.hid ?_
        clear hins6 hrd6 hbs hscan hep6 P6 ho6 hg6 hr6 Hfull Hno
        go_wp2_with fail
        refine HP6.out.mono ?_
        clear HP6
        rintro r w7 hp7
        have hp8 : ∃ (L7 : List Sl) (A7 : Option Addr) (c7 : Nat), r = .returned (.tuple #[.int .u64 (e : Int), .slice A7 L7.length c7, .int .i64 (G.length : Int), .int .i64 0]) ∧ L7.map Sl.bs = bsL l ∧ RdL w7 A7 L7 ∧ Ext w6 w7 := by
          obtain ⟨g0, g1⟩ := Hep6.out
          rcases hp7 with ⟨h, _⟩ | ⟨e', f', L3, A3, c3, ⟨q0, q1⟩, hS3, hr, hO3, hI3, hb3⟩
          · exact absurd (by rw [g1]) (h g0)
          · rw [g1] at q1
            injection q1 with q1 _
            subst q1
            obtain ⟨z1, z2⟩ := hS3.uniq Hscan.out
            subst z2
            exact ⟨L3, A3, c3, hr, z1, ⟨hO3.rd, fun s hs => (hI3 s hs).rd⟩, hb3⟩
        obtain ⟨L7, A7, c7, rfl, hLL, hR7, hb7⟩ := hp8
        have hE7 := Ext.tr hE6 hb7
        have hl7 : L7.length = l.length := by have := congrArg List.length hLL; rwa [List.length_map, bsL_len] at this
        have P8 := ref_lists14 A7 A L7 l c7 cap w7 hR7 (hA.below hE7) (by omega)
        have hbt : (L7.map Sl.bs == l.map Sl.bs) = true := by rw [hLL]; simp [bsL]
        rw [hbt] at P8
        have HP8 := Lib.hid P8
        clear hp7 hLL hR7 hl7 P8 hbt hE6 hb7
        go_wp2_with fail
        refine HP8.out.mono ?_
        clear HP8
        rintro r w8 ⟨rfl, hb8⟩
        go_wp2_with fail
        refine (num14 _ _).mono ?_
        rintro r w9 ⟨rfl, rfl⟩
        go_wp2_with fail
        refine (live14 w8).mono ?_
        rintro r w10 ⟨rfl, hb10⟩
        go_wp2
        go_ret
        exact ⟨rfl, Ext.tr hE7 (Ext.tr hb8 hb10)⟩
end Go.Proofs.Ytpabbackiobefaa
