
/- The walks of the laws FramePuts and FrameScans. Printed by wip/tools/gen_frmlaws14.py. -/

import Derived.Test.YtpabbackiobefaaFrmLive

namespace Go.Proofs.Ytpabbackiobefaa

open Go.RowKit

attribute [local go_sem] Oper.semAt_some

theorem wf_u64 {n : Int} (h : (Lit.int .u64 n).wf = true) : ∃ m : Nat, n = (m : Int) ∧ m < 18446744073709551616 := by
  simp [Lit.wf, IntKind.min, IntKind.max, IntKind.bits, IntKind.signed] at h
  exact ⟨n.toNat, by omega, by omega⟩
theorem FPost.own {w : World} {e : Nat} {at_ : Int} {c : List UInt8} {r : Ending} {w' : World} (h : FPost w e at_ c r w') : ∃ (L : List Sl) (A : Option Addr) (cp : Nat), r = .returned (.tuple #[.slice A L.length cp, .int .i64 (Frm.putE at_ c : Int)]) ∧ RdLc w' A L ∧ L.map Sl.bs = (if Frm.putE at_ c = 0 then Frm.secs e at_.toNat c else []) ∧ Below w.heap.size w w' := by
  obtain ⟨L, A, cp, h1, h2, h3, _, _, h6⟩ := h
  exact ⟨L, A, cp, h1, h2, h3, h6⟩

set_option maxRecDepth 100000 in
set_option maxHeartbeats 4000000 in
theorem walkFramePuts (w : World) (a0 : Int) (w0 : (Lit.int .u64 a0).wf = true) (a1 : Int) (_w1 : (Lit.int .i64 a1).wf = true) (A : Option Addr) (bs : List UInt8) (cap : Nat) (hA : RdB w A bs) (_hc : bs.length ≤ cap) (B : Option Addr) (s : List UInt8) (capB : Nat) (hB : RdB w B s) (hcB : s.length ≤ capB) :
    Calls Try.prog 3 #[.int .u64 a0, .int .i64 a1, .slice A bs.length cap, .slice B s.length capB] w fun r w' => r = .returned (.bool true) ∧ Below w.heap.size w w' := by
  obtain ⟨e, rfl, he⟩ := wf_u64 w0
  by_cases h1 : 2000 < bs.length
  · have h1' : decide ((2000 : Int) < (bs.length : Int)) = true := by simp; omega
    have hv := live14 w
    go_enter Try.func3, Try.ntmps3
    go_wp2_with fail
    refine hv.mono ?_
    rintro r w9 ⟨rfl, hb⟩
    go_wp2
    go_ret
    exact ⟨rfl, hb⟩
  by_cases h2 : 2000 < s.length
  · have h1' : decide ((2000 : Int) < (bs.length : Int)) = false := by simp; omega
    have h2' : decide ((2000 : Int) < (s.length : Int)) = true := by simp; omega
    have hv := live14 w
    go_enter Try.func3, Try.ntmps3
    go_wp2_with fail
    refine hv.mono ?_
    rintro r w9 ⟨rfl, hb⟩
    go_wp2
    go_ret
    exact ⟨rfl, hb⟩
  have h1' : decide ((2000 : Int) < (bs.length : Int)) = false := by simp; omega
  have h2' : decide ((2000 : Int) < (s.length : Int)) = false := by simp; omega
  have hE0 := Ext.alloc w (.cells #[] 5)
  have hAr : Rd (w.alloc (.cells #[] 5)) 1 A bs.length (bvs bs) := hA.below hE0
  go_enter Try.func3, Try.ntmps3
  go_wp2_with (at_builtin; refine wpList_app rfl (.tmp 29) (.tmp 30) 23 rfl elemB w.heap.size _ 0 0 [] rfl A bs.length cap (bvs bs) rfl bs.length (by omega) (bvs bs) rfl (Own.none_ _ _ _ _ _) hAr (bvs_one _) (by omega) (by omega) hE0.size ?_; intro A2 c2 w2 ho2 hg2 hr2; refine Hid.out ?_)
  have hE2 : Ext w w2 := below_app hE0 (Own.none_ _ _ 5 1 (some ⟨w.heap.size, 0, none⟩)) hg2 hE0.size
  have hr2' : RdB w2 A2 bs := ho2.rd'
  have P3 := Lib.hid (fput_any e a1 A2 bs c2 w2 hr2' (by omega))
  refine Lib.hid ?_
  clear hAr hg2 hr2 ho2 hr2' hE0
  go_wp2_with fail
  refine P3.out.mono ?_
  clear P3
  rintro r w3 hp3
  obtain ⟨L3, A3, c3, rfl, hL3, hs3, hb3⟩ := hp3.own
  have hE3 := Ext.tr hE2 hb3
  have P4 := Lib.hid (ref_put14 e a1 A bs cap w3 he (hA.below hE3) (by omega))
  clear hp3
  go_wp2_with fail
  refine P4.out.mono ?_
  clear P4
  rintro r w4 ⟨L5, A5, c5, rfl, hs5, hO5, hI5, hb4⟩
  have hLL : (L3.map Sl.bs == L5.map Sl.bs) = true := by rw [hs3, hs5]; simp
  have hL3l : L3.length ≤ 3000 := by
    have h := congrArg List.length hs3
    rw [List.length_map] at h
    split at h
    · rw [Frm.secs_len] at h; have := Frm.need_lt bs.length; omega
    · rw [List.length_nil] at h; omega
  have hE4 := Ext.tr hE3 hb4
  have hE40 := Ext.tr hE4 (Ext.alloc w4 (.cells #[] 5))
  have hBr : Rd (w4.alloc (.cells #[] 5)) 1 B s.length (bvs s) := hB.below hE40
  have hsz40 := Ext.alloc w4 (.cells #[] 5)
  have HLL := Lib.hid hLL
  clear hs3 hs5 hLL
  go_wp2_with (at_builtin; refine wpList_app rfl (.tmp 43) (.tmp 44) 23 rfl elemB w4.heap.size _ 0 0 [] rfl B s.length capB (bvs s) rfl s.length (by omega) (bvs s) rfl (Own.none_ _ _ _ _ _) hBr (bvs_one _) (by omega) (by omega) hsz40.size ?_; intro A6 c6 w5 ho6 hg6 hr6; refine Hid.out ?_)
  have hE45 : Ext w4 w5 := below_app hsz40 (Own.none_ _ _ 5 1 (some ⟨w4.heap.size, 0, none⟩)) hg6 hsz40.size
  have hr6' : RdB w5 A6 s := ho6.rd'
  have P5 := epoch_any A6 s c6 w5 hr6' ho6.nc
  unfold epochRes at P5
  have HP5 := Lib.hid P5
  refine Lib.hid ?_
  clear hBr hg6 hr6 ho6 hr6' hsz40 hE40 P5
  go_wp2_with fail
  refine HP5.out.mono ?_
  clear HP5
  rintro r w6 ⟨rfl, hb6⟩
  have hE56 := Ext.tr hE45 hb6
  have P6 := ref_epoch14 B s capB w6 (hB.below (Ext.tr hE4 hE56)) hcB
  unfold epochRes at P6
  have HP6 := Lib.hid P6
  clear P6
  go_wp2_with fail
  refine HP6.out.mono ?_
  clear HP6
  rintro r w7 ⟨rfl, hb7⟩
  have hE57 := Ext.tr hE56 hb7
  have hE37d := Ext.tr hb4 (Ext.tr hE57 (Ext.drew w7))
  have hE7 := Ext.tr hE4 hE57
  have hLL := HLL.out
  go_wp2_with fail
  refine rg_start (by kernel_rfl) ?_
  refine rg_take 0 rfl (by kernel_rfl) (by kernel_rfl) (by kernel_rfl) (fun _ _ _ _ h => h) (by rfl) ⟨_, fun w' hx => by (go_simp <;> with_reducible rfl), ?_⟩
  simp only [Act.put, List.setIfInBounds_toArray, List.set_cons_zero, List.set_cons_succ]
  refine rg_take 1 rfl (by kernel_rfl) (by kernel_rfl) (by kernel_rfl) (fun _ _ _ _ h => h) (by rfl) ⟨_, fun w' hx => by (go_simp <;> with_reducible rfl), ?_⟩
  simp only [Act.put, List.setIfInBounds_toArray, List.set_cons_zero, List.set_cons_succ]
  have hl2 := (ref_lists14 A3 A5 L3 L5 c3 c5 (World.drew w7) (hL3.below hE37d).rd ⟨hO5.rd.below (ext_trans hE57 (Ext.drew w7)), fun s hs => (hI5 s hs).rd.below (ext_trans hE57 (Ext.drew w7))⟩ (by omega))
  rw [hLL] at hl2
  refine rg_call 2 hl2 rfl (by kernel_rfl) (by rfl) (by go_simp) ?_
  rintro r w8 ⟨rfl, hb8⟩
  refine ⟨_, rfl, hb8, ?_⟩
  simp only [Act.put, List.setIfInBounds_toArray, List.set_cons_zero, List.set_cons_succ]
  refine rg_take 3 rfl (by kernel_rfl) (by kernel_rfl) (by kernel_rfl) (fun _ _ _ _ h => h) (by rfl) ⟨_, fun w' hx => by (go_simp <;> with_reducible rfl), ?_⟩
  simp only [Act.put, List.setIfInBounds_toArray, List.set_cons_zero, List.set_cons_succ]
  refine rg_take 4 rfl (by kernel_rfl) (by kernel_rfl) (by kernel_rfl) (fun _ _ _ _ h => h) (by rfl) ⟨_, fun w' hx => by (go_simp <;> with_reducible rfl), ?_⟩
  simp only [Act.put, List.setIfInBounds_toArray, List.set_cons_zero, List.set_cons_succ]
  refine rg_take 6 rfl (by kernel_rfl) (by kernel_rfl) (by kernel_rfl) (fun _ _ _ _ h => h) (by rfl) ⟨_, fun w' hx => by (go_simp <;> with_reducible rfl), ?_⟩
  simp only [Act.put, List.setIfInBounds_toArray, List.set_cons_zero, List.set_cons_succ]
  refine rg_call 5 (num14 ((Frm.putE a1 bs : Int)) _) rfl (by kernel_rfl) (by rfl) (by go_simp) ?_
  rintro r w' ⟨rfl, rfl⟩
  refine ⟨_, rfl, Ext.refl _, ?_⟩
  simp only [Act.put, List.setIfInBounds_toArray, List.set_cons_zero, List.set_cons_succ]
  refine rg_take 7 rfl (by kernel_rfl) (by kernel_rfl) (by kernel_rfl) (fun _ _ _ _ h => h) (by rfl) ⟨.bool true, fun w' hx => by (go_simp <;> first | with_reducible rfl | simp), ?_⟩
  simp only [Act.put, List.setIfInBounds_toArray, List.set_cons_zero, List.set_cons_succ]
  refine rg_take 8 rfl (by kernel_rfl) (by kernel_rfl) (by kernel_rfl) (fun _ _ _ _ h => h) (by rfl) ⟨_, fun w' hx => by (go_simp <;> with_reducible rfl), ?_⟩
  simp only [Act.put, List.setIfInBounds_toArray, List.set_cons_zero, List.set_cons_succ]
  refine rg_take 9 rfl (by kernel_rfl) (by kernel_rfl) (by kernel_rfl) (fun _ _ _ _ h => h) (by rfl) ⟨_, fun w' hx => by (go_simp <;> with_reducible rfl), ?_⟩
  simp only [Act.put, List.setIfInBounds_toArray, List.set_cons_zero, List.set_cons_succ]
  refine rg_take 10 rfl (by kernel_rfl) (by kernel_rfl) (by kernel_rfl) (fun _ _ _ _ h => h) (by rfl) ⟨_, fun w' hx => by (go_simp <;> with_reducible rfl), ?_⟩
  simp only [Act.put, List.setIfInBounds_toArray, List.set_cons_zero, List.set_cons_succ]
  refine rg_take 13 rfl (by kernel_rfl) (by kernel_rfl) (by kernel_rfl) (fun _ _ _ _ h => h) (by rfl) ⟨_, fun w' hx => by (go_simp <;> with_reducible rfl), ?_⟩
  simp only [Act.put, List.setIfInBounds_toArray, List.set_cons_zero, List.set_cons_succ]
  refine rg_call 11 (head_any e w8) rfl (by kernel_rfl) (by rfl) (by go_simp) ?_
  rintro r w9 ⟨A9, c9, rfl, ho9, hb9⟩
  refine ⟨_, rfl, hb9, ?_⟩
  have hr9 : RdB w9 A9 (Frm.head e) := ho9.rd'
  simp only [Act.put, List.setIfInBounds_toArray, List.set_cons_zero, List.set_cons_succ]
  refine rg_take 12 rfl (by kernel_rfl) (by kernel_rfl) (by kernel_rfl) (fun _ _ _ _ h => h) (by rfl) ⟨_, fun w' hx => ex_str rfl rfl Try.underlying23 Try.underlying5 Try.underlying9 (hr9.below hx) (Frm.head_len e).symm, ?_⟩
  simp only [Act.put, List.setIfInBounds_toArray, List.set_cons_zero, List.set_cons_succ]
  refine rg_call 14 (ref_head14 e he w9) rfl (by kernel_rfl) (by rfl) (by go_simp) ?_
  rintro r w10 ⟨A10, c10, rfl, ho10, hb10⟩
  refine ⟨_, rfl, hb10, ?_⟩
  have hr10 : RdB w10 A10 (Frm.head e) := ho10.rd'
  simp only [Act.put, List.setIfInBounds_toArray, List.set_cons_zero, List.set_cons_succ]
  refine rg_take 15 rfl (by kernel_rfl) (by kernel_rfl) (by kernel_rfl) (fun _ _ _ _ h => h) (by rfl) ⟨_, fun w' hx => ex_str rfl rfl Try.underlying23 Try.underlying5 Try.underlying9 (hr10.below hx) (Frm.head_len e).symm, ?_⟩
  simp only [Act.put, List.setIfInBounds_toArray, List.set_cons_zero, List.set_cons_succ]
  refine rg_take 16 rfl (by kernel_rfl) (by kernel_rfl) (by kernel_rfl) (fun _ _ _ _ h => h) (by rfl) ⟨.bool true, fun w' hx => (by rw [ex_eqlS (p := Frm.head e) (q := Frm.head e) rfl rfl rfl]; simp), ?_⟩
  simp only [Act.put, List.setIfInBounds_toArray, List.set_cons_zero, List.set_cons_succ]
  refine rg_take 17 rfl (by kernel_rfl) (by kernel_rfl) (by kernel_rfl) (fun _ _ _ _ h => h) (by rfl) ⟨_, fun w' hx => by (go_simp <;> with_reducible rfl), ?_⟩
  simp only [Act.put, List.setIfInBounds_toArray, List.set_cons_zero, List.set_cons_succ]
  refine rg_take 18 rfl (by kernel_rfl) (by kernel_rfl) (by kernel_rfl) (fun _ _ _ _ h => h) (by rfl) ⟨_, fun w' hx => by (go_simp <;> with_reducible rfl), ?_⟩
  simp only [Act.put, List.setIfInBounds_toArray, List.set_cons_zero, List.set_cons_succ]
  refine rg_take 19 rfl (by kernel_rfl) (by kernel_rfl) (by kernel_rfl) (fun _ _ _ _ h => h) (by rfl) ⟨_, fun w' hx => by (go_simp <;> with_reducible rfl), ?_⟩
  simp only [Act.put, List.setIfInBounds_toArray, List.set_cons_zero, List.set_cons_succ]
  refine rg_take 20 rfl (by kernel_rfl) (by kernel_rfl) (by kernel_rfl) (fun _ _ _ _ h => h) (by rfl) ⟨_, fun w' hx => by (go_simp <;> with_reducible rfl), ?_⟩
  simp only [Act.put, List.setIfInBounds_toArray, List.set_cons_zero, List.set_cons_succ]
  refine rg_take 21 rfl (by kernel_rfl) (by kernel_rfl) (by kernel_rfl) (fun _ _ _ _ h => h) (by rfl) ⟨.bool true, fun w' hx => by (go_simp <;> first | with_reducible rfl | simp), ?_⟩
  simp only [Act.put, List.setIfInBounds_toArray, List.set_cons_zero, List.set_cons_succ]
  refine rg_take 22 rfl (by kernel_rfl) (by kernel_rfl) (by kernel_rfl) (fun _ _ _ _ h => h) (by rfl) ⟨_, fun w' hx => by (go_simp <;> with_reducible rfl), ?_⟩
  simp only [Act.put, List.setIfInBounds_toArray, List.set_cons_zero, List.set_cons_succ]
  refine rg_take 23 rfl (by kernel_rfl) (by kernel_rfl) (by kernel_rfl) (fun _ _ _ _ h => h) (by rfl) ⟨_, fun w' hx => by (go_simp <;> with_reducible rfl), ?_⟩
  simp only [Act.put, List.setIfInBounds_toArray, List.set_cons_zero, List.set_cons_succ]
  refine rg_take 24 rfl (by kernel_rfl) (by kernel_rfl) (by kernel_rfl) (fun _ _ _ _ h => h) (by rfl) ⟨_, fun w' hx => by (go_simp <;> with_reducible rfl), ?_⟩
  simp only [Act.put, List.setIfInBounds_toArray, List.set_cons_zero, List.set_cons_succ]
  refine rg_take 26 rfl (by kernel_rfl) (by kernel_rfl) (by kernel_rfl) (fun _ _ _ _ h => h) (by rfl) ⟨_, fun w' hx => by (go_simp <;> with_reducible rfl), ?_⟩
  simp only [Act.put, List.setIfInBounds_toArray, List.set_cons_zero, List.set_cons_succ]
  refine rg_call 25 (num14 (((Frm.epoch s).2 : Int)) _) rfl (by kernel_rfl) (by rfl) (by go_simp) ?_
  rintro r w' ⟨rfl, rfl⟩
  refine ⟨_, rfl, Ext.refl _, ?_⟩
  simp only [Act.put, List.setIfInBounds_toArray, List.set_cons_zero, List.set_cons_succ]
  refine rg_take 27 rfl (by kernel_rfl) (by kernel_rfl) (by kernel_rfl) (fun _ _ _ _ h => h) (by rfl) ⟨.bool true, fun w' hx => by (go_simp <;> first | with_reducible rfl | simp), ?_⟩
  simp only [Act.put, List.setIfInBounds_toArray, List.set_cons_zero, List.set_cons_succ]
  refine rg_take 28 rfl (by kernel_rfl) (by kernel_rfl) (by kernel_rfl) (fun _ _ _ _ h => h) (by rfl) ⟨_, fun w' hx => by (go_simp <;> with_reducible rfl), ?_⟩
  simp only [Act.put, List.setIfInBounds_toArray, List.set_cons_zero, List.set_cons_succ]
  refine rg_take 29 rfl (by kernel_rfl) (by kernel_rfl) (by kernel_rfl) (fun _ _ _ _ h => h) (by rfl) ⟨_, fun w' hx => by (go_simp <;> with_reducible rfl), ?_⟩
  simp only [Act.put, List.setIfInBounds_toArray, List.set_cons_zero, List.set_cons_succ]
  refine rg_call 30 (live14 w10) rfl (by kernel_rfl) (by rfl) (by go_simp) ?_
  rintro r w11 ⟨rfl, hb11⟩
  refine ⟨_, rfl, hb11, ?_⟩
  simp only [Act.put, List.setIfInBounds_toArray, List.set_cons_zero, List.set_cons_succ]
  refine rg_take 31 rfl (by kernel_rfl) (by kernel_rfl) (by kernel_rfl) (fun _ _ _ _ h => h) (by rfl) ⟨_, fun w' hx => by (go_simp <;> with_reducible rfl), ?_⟩
  simp only [Act.put, List.setIfInBounds_toArray, List.set_cons_zero, List.set_cons_succ]
  refine rg_take 32 rfl (by kernel_rfl) (by kernel_rfl) (by kernel_rfl) (fun _ _ _ _ h => h) (by rfl) ⟨_, fun w' hx => by (go_simp <;> with_reducible rfl), ?_⟩
  simp only [Act.put, List.setIfInBounds_toArray, List.set_cons_zero, List.set_cons_succ]
  refine rg_done (by kernel_rfl) ?_
  go_wp2
  go_ret
  exact ⟨rfl, Ext.tr hE7 (Ext.tr (Ext.drew w7) (Ext.tr hb8 (Ext.tr hb9 (Ext.tr hb10 hb11))))⟩

set_option maxRecDepth 100000 in
set_option maxHeartbeats 4000000 in
theorem walkFrameScans (w : World) (A : Option Addr) (l : List Sl) (cap : Nat) (hA : RdL w A l) (_hc : l.length ≤ cap) (hcap : ∀ s ∈ l, s.bs.length ≤ s.c) :
    Calls Try.prog 4 #[.slice A l.length cap] w fun r w' => r = .returned (.bool true) ∧ Below w.heap.size w w' := by
  have hl : RdLc w A l := ⟨hA, hcap⟩
  go_enter Try.func4, Try.ntmps4
  go_wp2_with fail
  refine (small14 A l cap w hA).mono ?_
  rintro r w1 ⟨b, rfl, hsm, hb1⟩
  cases b with
  | false =>
    have hv := live14 w1
    go_wp2_with fail
    refine hv.mono ?_
    rintro r w9 ⟨rfl, hb⟩
    go_wp2
    go_ret
    exact ⟨rfl, Ext.tr hb1 hb⟩
  | true =>
    have hll := (hsm rfl).1
    have P2 := Lib.hid (scan_any A l cap w1 (hl.below hb1) (by omega))
    clear hsm
    go_wp2_with fail
    refine P2.out.mono ?_
    clear P2
    rintro r w2 hp2
    have hb2 : Ext w1 w2 := by rcases hp2 with ⟨_, _, h⟩ | ⟨_, _, _, _, _, _, _, _, _, _, h⟩ <;> exact h
    have hE2 := Ext.tr hb1 hb2
    have P3 := ref_scan14 A l cap w2 (hl.below hE2) (by omega)
    have HP3 := Lib.hid P3
    clear P3
    rcases hp2 with ⟨hno, rfl, _⟩ | ⟨e, f, L2, A2, c2, hep, hS, rfl, hO2, hI2, _⟩
    · go_wp2_with fail
      refine HP3.out.mono ?_
      clear HP3
      rintro r w3 hp3
      have hp4 : r = .returned (.tuple #[.int .u64 0, .slice none 0 0, .int .i64 0, .int .i64 140]) ∧ Ext w2 w3 := by
        rcases hp3 with ⟨_, h, hb⟩ | ⟨e, _, _, _, _, ⟨h0, h1⟩, _⟩
        · exact ⟨h, hb⟩
        · exact absurd (by rw [h1]) (hno h0)
      obtain ⟨rfl, hb3⟩ := hp4
      have hl3 := ref_lists14 none none [] [] 0 0 w3 ⟨Rd.nil_ _ _ _, by simp⟩ ⟨Rd.nil_ _ _ _, by simp⟩ (by simp)
      have hE3 := Ext.tr hE2 hb3
      clear hp3 hno
      go_wp2_with fail
      refine hl3.mono ?_
      rintro r w4 ⟨rfl, hb4⟩
      clear hl3
      go_wp2_with fail
      refine (num14 _ _).mono ?_
      rintro r w9 ⟨rfl, rfl⟩
      go_wp2_with fail
      refine (live14 w4).mono ?_
      rintro r w5 ⟨rfl, hb5⟩
      go_wp2
      go_ret
      exact ⟨rfl, Ext.tr hE3 (Ext.tr hb4 hb5)⟩
    · go_wp2_with fail
      refine HP3.out.mono ?_
      clear HP3
      rintro r w3 hp3
      have hp4 : ∃ (L3 : List Sl) (A3 : Option Addr) (c3 : Nat), r = .returned (.tuple #[.int .u64 (e : Int), .slice A3 L3.length c3, .int .i64 (f : Int), .int .i64 0]) ∧ L2.map Sl.bs = L3.map Sl.bs ∧ RdL w3 A3 L3 ∧ Ext w2 w3 := by
        rcases hp3 with ⟨h, _⟩ | ⟨e', f', L3, A3, c3, ⟨h0, h1⟩, hS3, hr, hO3, hI3, hb3⟩
        · obtain ⟨h0, h1⟩ := hep
          exact absurd (by rw [h1]) (h h0)
        · obtain ⟨h2, h3⟩ := hep
          rw [h3] at h1
          injection h1 with h1 _
          subst h1
          obtain ⟨q1, q2⟩ := hS.uniq hS3
          subst q2
          exact ⟨L3, A3, c3, hr, q1, ⟨hO3.rd, fun s hs => (hI3 s hs).rd⟩, hb3⟩
      obtain ⟨L3, A3, c3, rfl, hLL, hR3, hb3⟩ := hp4
      have hlen : L2.length ≤ 4000 := by
        have key : ∀ {l : List (List UInt8)} {e a : Nat} {cs : List (List UInt8)} {f : Nat}, Frm.Scans l e a cs f → a ≤ l.length → a + cs.length ≤ l.length := by
          intro l e a cs f h
          induction h with
          | stop a _ => intro ha; simpa using ha
          | go a c cs f hc _ ih =>
            intro ha
            have h1 := hc.st (Frm.need c.length - 1) (by have := Frm.need_pos c.length; omega)
            have h2 := Frm.stmp_lt h1
            have h3 := Frm.need_pos c.length
            have := ih (by omega)
            simp only [List.length_cons]
            omega
        obtain ⟨h0, _⟩ := hep
        have := key hS (by rw [bsL_len]; omega)
        rw [bsL_len, List.length_map] at this
        omega
      have hl3 := ref_lists14 A2 A3 L2 L3 c2 c3 w3 ⟨hO2.rd.below hb3, fun s hs => (hI2 s hs).rd.below hb3⟩ hR3 (by omega)
      have hbt : (L2.map Sl.bs == L3.map Sl.bs) = true := by rw [hLL]; simp
      rw [hbt] at hl3
      have Hl3 := Lib.hid hl3
      have hE3 := Ext.tr hE2 hb3
      clear hp3 hep hS hO2 hI2 hl3 hbt hLL hR3 hb3 hb2 hlen
      go_wp2_with fail
      refine Hl3.out.mono ?_
      rintro r w4 ⟨rfl, hb4⟩
      clear Hl3
      go_wp2_with fail
      refine (num14 _ _).mono ?_
      rintro r w9 ⟨rfl, rfl⟩
      go_wp2_with fail
      refine (live14 w4).mono ?_
      rintro r w5 ⟨rfl, hb5⟩
      go_wp2
      go_ret
      exact ⟨rfl, Ext.tr hE3 (Ext.tr hb4 hb5)⟩
end Go.Proofs.Ytpabbackiobefaa
