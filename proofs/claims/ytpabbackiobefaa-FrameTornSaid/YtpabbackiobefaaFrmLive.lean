
/- The laws' small, num, live of layer 14. Printed by wip/tools/gen_live14.py. -/

import Derived.Test.YtpabbackiobefaaFrmRScan

namespace Go.Proofs.Ytpabbackiobefaa

open Go.RowKit

attribute [local go_sem] Oper.semAt_some

theorem num14 (v : Int) (w : World) : Calls Try.prog 13 #[.int .i64 v] w fun e w' => e = .returned (.int .i64 v) ∧ w = w' := by
  go_enter Try.func13, Try.ntmps13
  go_wp2
  go_ret
  exact ⟨rfl, rfl⟩

/-- What small says. -/
def SmallPost14 (l : List Sl) (w : World) (e : Ending) (w' : World) : Prop := ∃ b : Bool, e = .returned (.bool b) ∧ (b = true → l.length ≤ 100 ∧ (cat l).length ≤ 8000 ∧ ∀ s ∈ l, s.bs.length ≤ 2000) ∧ Below w.heap.size w w'

set_option maxRecDepth 100000 in
set_option maxHeartbeats 2000000 in
theorem small14 (A : Option Addr) (l : List Sl) (c : Nat) (w : World) (hl : RdL w A l) :
    Calls Try.prog 16 #[.slice A l.length c] w (SmallPost14 l w) := by
  go_enter Try.func16, Try.ntmps16
  go_wp2
  go_loopw [3, 4] (fun v i wr => ∃ k n : Nat, k ≤ l.length ∧ k ≤ 101 ∧ i = .int .i64 k ∧ v = .int .i64 n ∧ n = (cat (l.take k)).length ∧ n ≤ 10000 ∧ (∀ j (h : j < l.length), j < k → l[j].bs.length ≤ 2000) ∧ Ext w wr) (fun _ i _ => l.length - (intOf i).toNat)
  case atStart => exact ⟨0, 0, by omega, by omega, rfl, rfl, by simp [cat], by omega, fun j _ h => absurd h (by omega), Ext.refl _⟩
  case round =>
    obtain ⟨k, n, hk, hk61, rfl, rfl, hn, hnb, hall, hE⟩ := hrel
    have Hn := Lib.hid hn
    have Hall := Lib.hid hall
    clear hn hall
    by_cases h : k < l.length
    · by_cases h60 : k ≤ 100
      · by_cases h8 : n ≤ 8000
        · obtain ⟨ad, rfl, hcell, hin⟩ := (hl.below hE).at_ h
          have ik : (0 : Int) ≤ (k : Int) := by omega
          have ik2 : (k : Int) < (l.length : Int) := by omega
          have hs := cat_snoc l k h
          have Hs : Hid ((cat (l.take (k + 1))).length = n + l[k].bs.length) := by show _ = _; rw [hs, List.length_append, ← Hn.out]
          have Hk : Hid (k < l.length) := h
          by_cases a1 : 2000 < l[k].bs.length
          · clear hs
            go_wp2
            go_ret
            exact ⟨false, rfl, (fun h => by cases h), hE⟩
          · have Hall2 : Hid (∀ j (h : j < l.length), j < k + 1 → l[j].bs.length ≤ 2000) := fun j hj hjk => by
              rcases Nat.lt_or_ge j k with h1 | h1
              · exact Hall.out j hj h1
              · obtain rfl : j = k := by omega
                omega
            have a2 : l[k].bs.length ≤ 2000 := by omega
            clear hs
            go_wp2
            go_roundw
            case rel => exact ⟨k + 1, n + l[k].bs.length, by omega, by omega, by go_num, by go_num, Hs.out.symm, by omega, Hall2.out, hE⟩
            case measure => simp [intOf]; omega
        · have h8' : ¬ ((n : Int) ≤ 8000) := by omega
          have h6' : (k : Int) ≤ 100 := by omega
          go_wp2
          all_goals
            go_ret
            exact ⟨false, rfl, (fun h => by cases h), hE⟩
      · have h6' : ¬ ((k : Int) ≤ 100) := by omega
        have hl' : decide ((l.length : Int) ≤ 100) = false := by simp; omega
        go_wp2
        go_ret
        refine ⟨false, ?_, (fun h => by cases h), hE⟩
        rfl
    · obtain rfl : k = l.length := by omega
      have Hfin : Hid ((l.length : Int) ≤ 100 → (n : Int) ≤ 8000 → l.length ≤ 100 ∧ (cat l).length ≤ 8000 ∧ ∀ s ∈ l, s.bs.length ≤ 2000) := fun h1 h2 => by
        have h3 := Hn.out
        rw [List.take_length] at h3
        refine ⟨by omega, by omega, fun s hs => ?_⟩
        obtain ⟨j, hj, rfl⟩ := List.getElem_of_mem hs
        exact Hall.out j hj hj
      by_cases h1 : (l.length : Int) ≤ 100
      · by_cases h2 : (n : Int) ≤ 8000
        · go_wp2
          go_ret
          exact ⟨true, rfl, fun _ => Hfin.out h1 h2, hE⟩
        · go_wp2
          go_ret
          exact ⟨false, rfl, (fun h => by cases h), hE⟩
      · go_wp2
        go_ret
        exact ⟨false, rfl, (fun h => by cases h), hE⟩

/-! ### live -/

def z44 : List UInt8 := List.replicate 44 0
def z45 : List UInt8 := List.replicate 45 0
theorem z44_len : z44.length = 44 := by simp [z44]
theorem z45_len : z45.length = 45 := by simp [z45]
def liveL : List (List UInt8) := [Frm.head 5, Frm.sec 5 1 z44 0, Frm.sec 5 2 z45 0, Frm.sec 5 2 z45 1]
theorem secs44 : Frm.secs 5 1 z44 = [Frm.sec 5 1 z44 0] := by unfold Frm.secs; rw [z44_len]; rfl
theorem secs45 : Frm.secs 5 2 z45 = [Frm.sec 5 2 z45 0, Frm.sec 5 2 z45 1] := by unfold Frm.secs; rw [z45_len]; rfl
theorem live_scan1 : Frm.Scans liveL 5 1 [z44, z45] 4 := by
  have h := Frm.scans_all 5 [z44, z45] [Frm.head 5] [] (by simp [z44_len, z45_len])
  have e1 : Frm.allSecs 5 1 [z44, z45] = [Frm.sec 5 1 z44 0, Frm.sec 5 2 z45 0, Frm.sec 5 2 z45 1] := by
    simp only [Frm.allSecs, secs44, z44_len]
    rw [show 1 + Frm.need 44 = 2 from rfl, secs45]
    rfl
  simp only [e1, List.length_cons, List.length_nil] at h
  exact h fun c => Frm.not_stands_end (by simp) c
theorem live_scan2 : Frm.Scans (liveL.take 3) 5 1 [z44] 2 := by
  refine .go 1 z44 [] 2 (Frm.stands_secs (by rw [z44_len]; omega) fun i hi => ?_) ?_
  · rw [z44_len] at hi
    obtain rfl : i = 0 := by have : Frm.need 44 = 1 := rfl; omega
    rfl
  · rw [z44_len]
    refine .stop _ (Frm.torn_not (c := z45) (i := 1) (by rw [z45_len]; omega) (by decide) (.inl rfl) (by rw [z45_len]; decide) fun h => ?_)
    have := Frm.stmp_lt h
    simp [liveL, Frm.need] at this
theorem bsL_two (a b : List Sl) (h : a.map Sl.bs = b.map Sl.bs) : bsL a = bsL b := h
theorem RdLc.take {w : World} {A : Option Addr} {l : List Sl} (h : RdLc w A l) (k : Nat) (hk : k ≤ l.length) : RdLc w A (l.take k) := by
  refine ⟨⟨?_, fun s hs => h.rd.each s (List.mem_of_mem_take hs)⟩, fun s hs => h.cap s (List.mem_of_mem_take hs)⟩
  have h1 := h.rd.rd.head hk
  rw [← List.map_take] at h1
  have e : (l.take k).length = k := by rw [List.length_take]; omega
  rw [e]; exact h1

set_option maxRecDepth 100000 in
set_option maxHeartbeats 4000000 in
theorem live14 (w : World) : Calls Try.prog 7 #[] w fun e w' => e = .returned (.bool true) ∧ Below w.heap.size w w' := by
  go_enter Try.func7, Try.ntmps7
  go_wp2_with (at_make; go_loud (refine wpList_mk rfl (.const (.int .i64 44)) (.const (.int .i64 44)) 23 rfl elemB (.int .u8 0) zeroB rfl 44 _ _ rfl rfl (by omega) (by omega) ?_); refine Hid.out ?_)
  obtain ⟨W1, hW1⟩ : ∃ W1, W1 = w.alloc (.cells (Array.replicate 44 (Value.int .u8 0)) 5) := ⟨_, rfl⟩
  have hb1 : Ext w W1 := by rw [hW1]; exact Ext.alloc w _
  have hr1 : RdB W1 (some ⟨w.heap.size, 0, none⟩) z44 := by rw [hW1]; exact Own.rd' (mk_own w 44 (by unfold maxLen; omega))
  rw [← hW1]
  refine Lib.hid ?_
  have p1 := fput_any 5 1 (some ⟨w.heap.size, 0, none⟩) z44 44 W1 hr1 (by rw [z44_len]; omega)
  have e1 : Frm.putE 1 z44 = 0 := by unfold Frm.putE; rw [z44_len]; rfl
  rw [z44_len] at p1
  have P1 := Lib.hid p1
  clear hW1 p1 hr1
  go_wp2_with fail
  refine P1.out.mono ?_
  clear P1
  rintro r w2 ⟨L1, A1, c1, rfl, hL1, hs1, _, _, hb2⟩
  rw [e1] at hs1 ⊢
  rw [if_pos rfl, show (1 : Int).toNat = 1 from rfl, secs44] at hs1
  obtain ⟨s1, rfl⟩ : ∃ s, L1 = [s] := List.length_eq_one_iff.1 (by have := congrArg List.length hs1; simpa using this)
  simp only [List.map_cons, List.map_nil, List.cons.injEq, and_true] at hs1
  have hb2w := ext_trans hb1 hb2
  clear e1 hb1 hb2
  go_wp2_with (at_make; go_loud (refine wpList_mk rfl (.const (.int .i64 45)) (.const (.int .i64 45)) 23 rfl elemB (.int .u8 0) zeroB rfl 45 _ _ rfl rfl (by omega) (by omega) ?_); refine Hid.out ?_)
  obtain ⟨W3, hW3⟩ : ∃ W3, W3 = w2.alloc (.cells (Array.replicate 45 (Value.int .u8 0)) 5) := ⟨_, rfl⟩
  have hb3 : Ext w2 W3 := by rw [hW3]; exact Ext.alloc w2 _
  have hr3 : RdB W3 (some ⟨w2.heap.size, 0, none⟩) z45 := by rw [hW3]; exact Own.rd' (mk_own w2 45 (by unfold maxLen; omega))
  rw [← hW3]
  refine Lib.hid ?_
  have p1 := fput_any 5 2 (some ⟨w2.heap.size, 0, none⟩) z45 45 W3 hr3 (by rw [z45_len]; omega)
  have e1 : Frm.putE 2 z45 = 0 := by unfold Frm.putE; rw [z45_len]; rfl
  rw [z45_len] at p1
  have P1 := Lib.hid p1
  clear hW3 p1 hr3
  go_wp2_with fail
  refine P1.out.mono ?_
  clear P1
  rintro r w4 ⟨L2, A2, c2, rfl, hL2, hs2, _, _, hb4⟩
  rw [e1] at hs2 ⊢
  rw [if_pos rfl, show (2 : Int).toNat = 2 from rfl, secs45] at hs2
  obtain ⟨s2, s3, rfl⟩ : ∃ s t, L2 = [s, t] := (by
    have hln := congrArg List.length hs2
    simp only [List.length_map, List.length_cons, List.length_nil] at hln
    match L2, hln with
    | [a, b], _ => exact ⟨a, b, rfl⟩)
  simp only [List.map_cons, List.map_nil, List.cons.injEq, and_true] at hs2
  have hE24 := Ext.tr hb3 hb4
  have hb4w := ext_trans hb2w hE24
  have hL1' := hL1.below hE24
  clear e1 hb3 hb4 hL1 hE24 hb2w
  go_wp2_with (go_at_call 13; refine (num14 _ _).mono ?_; rintro r w' ⟨rfl, rfl⟩)
  obtain ⟨d1, hd1, kc1, kr1⟩ := hL1'.rd.at_ (k := 0) (by simp)
  obtain ⟨d2, hd2, kc2, kr2⟩ := hL2.rd.at_ (k := 0) (by simp)
  obtain ⟨d3, hd3, kc3, kr3⟩ := hL2.rd.at_ (k := 1) (by simp)
  subst hd1
  subst hd2
  injection hd3 with hd3
  subst hd3
  simp only [List.getElem_cons_zero, List.getElem_cons_succ] at kc1 kr1 kc2 kr2 kc3 kr3
  have k1 : (World.drew w4).cell? d1 = some (.slice s1.a s1.bs.length s1.c) := Ext.load (Ext.drew w4) kc1
  have k2 : (World.drew w4).cell? d2 = some (.slice s2.a s2.bs.length s2.c) := Ext.load (Ext.drew w4) kc2
  have k3 : (World.drew w4).cell? ⟨d2.block, d2.off + 1, none⟩ = some (.slice s3.a s3.bs.length s3.c) := Ext.load (Ext.drew w4) kc3
  have hh := head_any 5 (World.drew w4)
  have HS1 := Lib.hid hs1
  have HS2 := Lib.hid hs2
  clear kc1 kc2 kc3 hs1 hs2
  refine rg_start (by kernel_rfl) ?_
  refine rg_take 1 rfl (by kernel_rfl) (by kernel_rfl) (by kernel_rfl) (fun _ _ _ _ h => h) (by rfl) ⟨_, fun w' hx => by (go_simp <;> with_reducible rfl), ?_⟩
  simp only [Act.put, List.setIfInBounds_toArray, List.set_cons_zero, List.set_cons_succ]
  refine rg_take 2 rfl (by kernel_rfl) (by kernel_rfl) (by kernel_rfl) (fun _ _ _ _ h => h) (by rfl) ⟨_, fun w' hx => by (go_simp <;> with_reducible rfl), ?_⟩   -- t48 := indexAddr 25 t47 0:i64
  simp only [Act.put, List.setIfInBounds_toArray, List.set_cons_zero, List.set_cons_succ]
  refine rg_take 3 rfl (by kernel_rfl) (by kernel_rfl) (by kernel_rfl) (fun _ _ _ _ h => h) (by rfl) ⟨_, fun w' hx => by have hcx := hx.load k1; (go_simp <;> with_reducible rfl), ?_⟩
  simp only [Act.put, List.setIfInBounds_toArray, List.set_cons_zero, List.set_cons_succ]
  refine rg_take 4 rfl (by kernel_rfl) (by kernel_rfl) (by kernel_rfl) (fun _ _ _ _ h => h) (by rfl) ⟨_, fun w' hx => by (go_simp <;> with_reducible rfl), ?_⟩
  simp only [Act.put, List.setIfInBounds_toArray, List.set_cons_zero, List.set_cons_succ]
  refine rg_take 5 rfl (by kernel_rfl) (by kernel_rfl) (by kernel_rfl) (fun _ _ _ _ h => h) (by rfl) ⟨_, fun w' hx => by (go_simp <;> with_reducible rfl), ?_⟩   -- t51 := indexAddr 25 t50 0:i64
  simp only [Act.put, List.setIfInBounds_toArray, List.set_cons_zero, List.set_cons_succ]
  refine rg_take 6 rfl (by kernel_rfl) (by kernel_rfl) (by kernel_rfl) (fun _ _ _ _ h => h) (by rfl) ⟨_, fun w' hx => by have hcx := hx.load k2; (go_simp <;> with_reducible rfl), ?_⟩
  simp only [Act.put, List.setIfInBounds_toArray, List.set_cons_zero, List.set_cons_succ]
  refine rg_take 7 rfl (by kernel_rfl) (by kernel_rfl) (by kernel_rfl) (fun _ _ _ _ h => h) (by rfl) ⟨_, fun w' hx => by (go_simp <;> with_reducible rfl), ?_⟩
  simp only [Act.put, List.setIfInBounds_toArray, List.set_cons_zero, List.set_cons_succ]
  refine rg_take 8 rfl (by kernel_rfl) (by kernel_rfl) (by kernel_rfl) (fun _ _ _ _ h => h) (by rfl) ⟨_, fun w' hx => by (go_simp <;> with_reducible rfl), ?_⟩   -- t54 := indexAddr 25 t53 1:i64
  simp only [Act.put, List.setIfInBounds_toArray, List.set_cons_zero, List.set_cons_succ]
  refine rg_take 9 rfl (by kernel_rfl) (by kernel_rfl) (by kernel_rfl) (fun _ _ _ _ h => h) (by rfl) ⟨_, fun w' hx => by have hcx := hx.load k3; (go_simp <;> with_reducible rfl), ?_⟩
  simp only [Act.put, List.setIfInBounds_toArray, List.set_cons_zero, List.set_cons_succ]
  refine rg_call 0 hh rfl (by kernel_rfl) (by rfl) (by go_simp) ?_
  rintro r w5 ⟨A5, c5, rfl, ho5, hb5⟩
  refine ⟨_, rfl, hb5, ?_⟩
  simp only [Act.put, List.setIfInBounds_toArray, List.set_cons_zero, List.set_cons_succ]
  -- 10: t56 := buildSlice 25 4 [(0, t46), (1, t49), (2, t52), (3, t55)]
  refine rg_make 10 rfl (by kernel_rfl) (by rfl) ⟨_, _, by (go_simp <;> first | exact ⟨rfl, rfl⟩ | rfl), ?_, ?_⟩
  · exact Ext.alloc _ _
  simp only [Act.put, List.setIfInBounds_toArray, List.set_cons_zero, List.set_cons_succ]
  refine rg_take 11 rfl (by kernel_rfl) (by kernel_rfl) (by kernel_rfl) (fun _ _ _ _ h => h) (by rfl) ⟨_, fun w' hx => by (go_simp <;> with_reducible rfl), ?_⟩
  simp only [Act.put, List.setIfInBounds_toArray, List.set_cons_zero, List.set_cons_succ]
  refine rg_done (by kernel_rfl) ?_
  have hs1 := HS1.out
  have hs2 := HS2.out
  have hE5 := Ext.tr (Ext.drew w4) hb5
  have hb6 := ext_trans hb4w (Ext.tr hE5 (Ext.alloc w5 (.cells #[.slice A5 64 c5, .slice s1.a s1.bs.length s1.c, .slice s2.a s2.bs.length s2.c, .slice s3.a s3.bs.length s3.c] 23)))
  have hl5 := Frm.head_len 5
  obtain ⟨l0, hl0⟩ : ∃ l0 : List Sl, l0 = [⟨A5, Frm.head 5, c5⟩, s1, s2, s3] := ⟨_, rfl⟩
  have hb0 : bsL l0 = liveL := by rw [hl0]; simp only [bsL, List.map_cons, List.map_nil, hs1, hs2.1, hs2.2]; rfl
  have hlen : l0.length = 4 := by rw [hl0]; rfl
  have hcap : ∀ s ∈ l0, s.bs.length ≤ s.c := by
    intro s hs
    rw [hl0] at hs
    simp only [List.mem_cons, List.not_mem_nil, or_false] at hs
    rcases hs with rfl | rfl | rfl | rfl
    · show (Frm.head 5).length ≤ c5; rw [hl5]; exact ho5.nc
    · exact hL1'.cap _ (by simp)
    · exact hL2.cap _ (by simp)
    · exact hL2.cap _ (by simp)
  have hrd0 : RdLc (w5.alloc (.cells #[.slice A5 64 c5, .slice s1.a s1.bs.length s1.c, .slice s2.a s2.bs.length s2.c, .slice s3.a s3.bs.length s3.c] 23)) (some ⟨w5.heap.size, 0, none⟩) l0 := by
    refine ⟨?_, hcap⟩
    have h1 := RdL.new w5 23 l0 (fun s hs => by
      rw [hl0] at hs
      simp only [List.mem_cons, List.not_mem_nil, or_false] at hs
      rcases hs with rfl | rfl | rfl | rfl
      · exact ho5.rd'
      · exact kr1.below hE5
      · exact kr2.below hE5
      · exact kr3.below hE5)
    have h2 : (l0.map Sl.val).toArray = #[.slice A5 64 c5, .slice s1.a s1.bs.length s1.c, .slice s2.a s2.bs.length s2.c, .slice s3.a s3.bs.length s3.c] := by rw [hl0]; simp [Sl.val, hl5]
    rwa [h2] at h1
  obtain ⟨W6, hW6⟩ : ∃ W6, W6 = w5.alloc (.cells #[.slice A5 64 c5, .slice s1.a s1.bs.length s1.c, .slice s2.a s2.bs.length s2.c, .slice s3.a s3.bs.length s3.c] 23) := ⟨_, rfl⟩
  rw [← hW6] at hrd0 hb6 ⊢
  have hep0 : ∃ h : 0 < l0.length, Frm.epoch l0[0].bs = (5, 0) := ⟨by omega, by simp only [hl0, List.getElem_cons_zero]; exact Frm.epoch_head 5 (by omega)⟩
  have hl3 : (l0.take 3).length = 3 := by rw [List.length_take]; omega
  have hep3 : ∃ h : 0 < (l0.take 3).length, Frm.epoch (l0.take 3)[0].bs = (5, 0) := ⟨by omega, by simp only [hl0, List.take_succ_cons, List.getElem_cons_zero]; exact Frm.epoch_head 5 (by omega)⟩
  have hcell0 : W6.cell? ⟨w5.heap.size, 0, none⟩ = some (.slice A5 64 c5) := by
    obtain ⟨d, hd, hc, _⟩ := hrd0.rd.at_ (k := 0) (by omega)
    injection hd with hd
    subst hd
    simp only [hl0, List.getElem_cons_zero, hl5] at hc
    exact hc
  have hA5 : RdB W6 A5 (Frm.head 5) := by have := hrd0.rd.each ⟨A5, Frm.head 5, c5⟩ (by rw [hl0]; simp); exact this
  have hbs3 : bsL (l0.take 3) = liveL.take 3 := by rw [← hb0]; simp [bsL]
  have Hcap5 : Hid ((Frm.head 5).length ≤ c5) := by show _ ≤ _; rw [hl5]; exact ho5.nc
  have Hs1 := Lib.hid (scan_any (some ⟨w5.heap.size, 0, none⟩) l0 4 W6 hrd0 (by omega))
  have HW6 := Lib.hid hW6
  have Hrd0 := Lib.hid hrd0
  have Hlen := Lib.hid hlen
  have Hl3 := Lib.hid hl3
  rw [hlen] at Hs1
  have Hep0 := Lib.hid hep0
  have Hep3 := Lib.hid hep3
  have Hb0 := Lib.hid hb0
  have Hb3 := Lib.hid hbs3
  have Hl5 := Lib.hid hl5
  have HA5 := Lib.hid hA5
  have Hcell0 := Lib.hid hcell0
  clear hl0 hb0 hlen hcap hrd0 hep0 hl3 hep3 hbs3 hl5 hW6 hA5 hcell0 hE5 hb5 ho5 hb4w hs1 hs2 kr1 kr2 kr3 hL1' hL2 k1 k2 k3 hh
  go_wp2_with fail
  refine Hs1.out.mono ?_
  clear Hs1
  rintro r w7 (⟨hno, rfl, _⟩ | ⟨e7, f7, L7, A7, c7, ⟨h7, hp7⟩, hS7, rfl, hO7, _, hb7⟩)
  · obtain ⟨h0, h1⟩ := Hep0.out
    exact absurd (by rw [h1]) (hno h0)
  obtain ⟨h0, h1⟩ := Hep0.out
  rw [h1] at hp7
  injection hp7 with hp7 _
  subst hp7
  rw [Hb0.out] at hS7
  obtain ⟨hq1, hq2⟩ := hS7.uniq live_scan1
  subst hq2
  have hL7 : L7.length = 2 := by have := congrArg List.length hq1; simpa using this
  rw [hL7]
  clear hS7 hq1 hL7 hO7 h7 h0 h1
  have Hs2 := Lib.hid (scan_any (some ⟨w5.heap.size, 0, none⟩) (l0.take 3) 4 w7 ((Hrd0.out.take 3 (by rw [Hlen.out]; omega)).below hb7) (by rw [Hl3.out]; omega))
  rw [Hl3.out] at Hs2
  go_wp2_with fail
  refine Hs2.out.mono ?_
  clear Hs2
  rintro r w8 (⟨hno, rfl, _⟩ | ⟨e8, f8, L8, A8, c8, ⟨h8, hp8⟩, hS8, rfl, hO8, _, hb8⟩)
  · obtain ⟨h0, h1⟩ := Hep3.out
    exact absurd (by rw [h1]) (hno h0)
  obtain ⟨h0, h1⟩ := Hep3.out
  rw [h1] at hp8
  injection hp8 with hp8 _
  subst hp8
  rw [Hb3.out] at hS8
  obtain ⟨hq1, hq2⟩ := hS8.uniq live_scan2
  subst hq2
  have hL8 : L8.length = 1 := by have := congrArg List.length hq1; simpa using this
  rw [hL8]
  clear hS8 hq1 hL8 hO8 h8 h0 h1
  have Hs3 := Lib.hid (scan_any none [] 0 w8 ⟨⟨Rd.nil_ _ _ _, by simp⟩, by simp⟩ (by simp))
  have hE78 := Ext.tr hb7 hb8
  have hb8w := ext_trans hb6 hE78
  go_wp2_with fail
  refine Hs3.out.mono ?_
  clear Hs3
  rintro r w9 hpost
  have hpost2 : r = .returned (.tuple #[.int .u64 0, .slice none 0 0, .int .i64 0, .int .i64 140]) ∧ Below w8.heap.size w8 w9 := by
    rcases hpost with ⟨_, h, hb⟩ | ⟨_, _, _, _, _, ⟨h9, _⟩, _⟩
    · exact ⟨h, hb⟩
    · exact absurd h9 (by simp)
  obtain ⟨rfl, hb9⟩ := hpost2
  clear hpost
  have hE9 := Ext.tr hE78 hb9
  have hc9 := Ext.load hE9 Hcell0.out
  have He := Lib.hid (epoch_any A5 (Frm.head 5) c5 w9 (HA5.out.below hE9) Hcap5.out)
  rw [Hl5.out] at He
  unfold epochRes at He
  rw [Frm.epoch_head 5 (by omega)] at He
  go_wp2_with fail
  refine He.out.mono ?_
  clear He
  rintro r w10 ⟨rfl, hb10⟩
  have hfin := ext_trans hb8w (Ext.tr hb9 hb10)
  clear hc9
  go_wp2_with (go_at_call 13; refine (num14 _ _).mono ?_; rintro r w' ⟨rfl, rfl⟩)
  go_ret
  exact ⟨rfl, hfin⟩
end Go.Proofs.Ytpabbackiobefaa
