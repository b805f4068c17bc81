/- The laws on numbers' bytes, without the document's answer (apart, words). Written by wip/tools/gen_laws01b.py. -/
import Derived.Test.YtajflhdaljnoaaaVintLaws
import Derived.Test.YtajflhdaljnoaaaVintPlain
import Derived.MapKept
namespace Go.Proofs.Ytajflhdaljnoaaa
open Go.RowKit
attribute [local go_sem] Oper.semAt_some

theorem str_ne {l m : List UInt8} (h : l ≠ m) : ((⟨l.toArray⟩ : ByteArray) == ⟨m.toArray⟩) = false := by
  cases e : ((⟨l.toArray⟩ : ByteArray) == ⟨m.toArray⟩) with
  | false => rfl
  | true =>
    have e2 := (Go.MapKept.bytes_beq _ _).1 e
    injection e2 with e2
    exact absurd (by simpa using congrArg Array.toList e2) h

set_option maxRecDepth 100000 in
set_option maxHeartbeats 2000000 in
theorem walkVintApart (w : World) (x : Int) (wx : (Lit.int .u64 x).wf = true) (y : Int) (wy : (Lit.int .u64 y).wf = true) :
    Calls Try.prog 9 #[.int .u64 x, .int .u64 y] w fun e w' => e = .returned (.bool true) ∧ Below w.heap.size w w' := by
  obtain ⟨a, rfl, ha⟩ := wf_u64 wx
  obtain ⟨b, rfl, hb⟩ := wf_u64 wy
  clear wx wy
  have la := Vint.put_len a
  have lb := Vint.put_len b
  have hne : a ≠ b → ∀ k, (Vint.put a).take k = Vint.put b → False := fun h k e => h (Vint.put_inj ha hb (r := (Vint.put a).drop k) (by rw [← e, List.take_append_drop]))
  have hne' : a ≠ b → ∀ k, (Vint.put b).take k = Vint.put a → False := fun h k e => h (Vint.put_inj hb ha (r := (Vint.put b).drop k) (by rw [← e, List.take_append_drop])).symm
  have Hne := Lib.hid hne
  have Hne' := Lib.hid hne'
  have Ha := Lib.hid ha
  have Hb := Lib.hid hb
  clear hne hne' ha hb
  go_enter Try.func9, Try.ntmps9
  go_wp2_with fail
  refine (vput_any a Ha.out w).mono ?_
  rintro e w1 ⟨A1, c1, rfl, ho1, hb1⟩
  go_wp2_with fail
  refine (vput_any b Hb.out w1).mono ?_
  rintro e w2 ⟨A2, c2, rfl, ho2, hb2⟩
  have hw2 := ext_trans hb1 hb2
  have ho1' := ho1.below hb2
  have hc1 := ho1.nc
  have hc2 := ho2.nc
  have Ho1 := Lib.hid ho1'
  have Ho2 := Lib.hid ho2
  clear ho1 ho2 ho1' hb1 hb2
  by_cases hab : a = b
  · subst hab
    have r1 := run_str w2 23 9 5 A1 (Vint.put a) c1 Try.underlying23 Try.underlying5 Try.underlying9 Ho1.out.rd' (Vint.put a).length rfl
    have r2 := run_str w2 23 9 5 A2 (Vint.put a) c2 Try.underlying23 Try.underlying5 Try.underlying9 Ho2.out.rd' (Vint.put a).length rfl
    generalize hp : Vint.put a = p at *
    clear hp
    go_wp2_with fail
    refine (live01 _).mono ?_
    rintro e w3 ⟨rfl, hb3⟩
    go_wp2
    go_ret
    exact ⟨rfl, ext_trans hw2 hb3⟩
  · have hq : ((a : Int) == (b : Int)) = false := by rw [beq_eq_false_iff_ne]; omega
    have hp1 := Lib.hid (Hne.out hab)
    have hp2 := Lib.hid (Hne'.out hab)
    generalize Vint.put a = p at *
    generalize Vint.put b = q at *
    clear hab
    by_cases hlt : q.length < p.length
    · have hs : RdB w2 A1 (p.take q.length) := Ho1.out.rd'.head (by omega)
      have hsl : (p.take q.length).length = q.length := by simp; omega
      go_wp2_with fail
      refine rg_start (by kernel_rfl) ?_
      refine rg_take 0 rfl (by kernel_rfl) (by kernel_rfl) (by kernel_rfl) (fun _ _ _ _ h => h) (by rfl) ⟨_, fun w' hx => by (go_simp <;> with_reducible rfl), ?_⟩
      simp only [Act.put, List.setIfInBounds_toArray, List.set_cons_zero, List.set_cons_succ]
      refine rg_take 1 rfl (by kernel_rfl) (by kernel_rfl) (by kernel_rfl) (fun _ _ _ _ h => h) (by rfl) ⟨_, fun w' hx => by (go_simp <;> with_reducible rfl), ?_⟩
      simp only [Act.put, List.setIfInBounds_toArray, List.set_cons_zero, List.set_cons_succ]
      refine rg_take 2 rfl (by kernel_rfl) (by kernel_rfl) (by kernel_rfl) (fun _ _ _ _ h => h) (by rfl) ⟨_, fun w' hx => by (go_simp <;> with_reducible rfl), ?_⟩   -- t47 := len(t46)
      simp only [Act.put, List.setIfInBounds_toArray, List.set_cons_zero, List.set_cons_succ]
      refine rg_take 3 rfl (by kernel_rfl) (by kernel_rfl) (by kernel_rfl) (fun _ _ _ _ h => h) (by rfl) ⟨.slice A1 q.length c1, fun w' hx => by (go_simp <;> omega), ?_⟩
      simp only [Act.put, List.setIfInBounds_toArray, List.set_cons_zero, List.set_cons_succ]
      refine rg_take 4 rfl (by kernel_rfl) (by kernel_rfl) (by kernel_rfl) (fun _ _ _ _ h => h) (by rfl) ⟨_, fun w' hx => ex_convert rfl rfl (run_str w' _ _ 5 A1 (p.take q.length) c1 Try.underlying23 Try.underlying5 Try.underlying9 (hs.below (ext_trans (Ext.drew w2) hx)) _ hsl.symm), ?_⟩
      simp only [Act.put, List.setIfInBounds_toArray, List.set_cons_zero, List.set_cons_succ]
      refine rg_take 5 rfl (by kernel_rfl) (by kernel_rfl) (by kernel_rfl) (fun _ _ _ _ h => h) (by rfl) ⟨_, fun w' hx => by (go_simp <;> with_reducible rfl), ?_⟩
      simp only [Act.put, List.setIfInBounds_toArray, List.set_cons_zero, List.set_cons_succ]
      refine rg_take 6 rfl (by kernel_rfl) (by kernel_rfl) (by kernel_rfl) (fun _ _ _ _ h => h) (by rfl) ⟨_, fun w' hx => ex_convert rfl rfl (run_str w' _ _ 5 A2 q c2 Try.underlying23 Try.underlying5 Try.underlying9 (Ho2.out.below (ext_trans (Ext.drew w2) hx)).rd' _ rfl), ?_⟩
      simp only [Act.put, List.setIfInBounds_toArray, List.set_cons_zero, List.set_cons_succ]
      refine rg_take 7 rfl (by kernel_rfl) (by kernel_rfl) (by kernel_rfl) (fun _ _ _ _ h => h) (by rfl) ⟨.bool true, fun w' hx => by (go_simp; exact hp1.out _), ?_⟩
      simp only [Act.put, List.setIfInBounds_toArray, List.set_cons_zero, List.set_cons_succ]
      refine rg_take 8 rfl (by kernel_rfl) (by kernel_rfl) (by kernel_rfl) (fun _ _ _ _ h => h) (by rfl) ⟨_, fun w' hx => by (go_simp <;> with_reducible rfl), ?_⟩
      simp only [Act.put, List.setIfInBounds_toArray, List.set_cons_zero, List.set_cons_succ]
      refine rg_call 9 (live01 _) rfl (by kernel_rfl) (by rfl) (by go_simp) ?_
      rintro e w3 ⟨rfl, hb3⟩
      refine ⟨_, rfl, hb3, ?_⟩
      simp only [Act.put, List.setIfInBounds_toArray, List.set_cons_zero, List.set_cons_succ]
      refine rg_take 10 rfl (by kernel_rfl) (by kernel_rfl) (by kernel_rfl) (fun _ _ _ _ h => h) (by rfl) ⟨_, fun w' hx => by (go_simp <;> with_reducible rfl), ?_⟩
      simp only [Act.put, List.setIfInBounds_toArray, List.set_cons_zero, List.set_cons_succ]
      refine rg_take 11 rfl (by kernel_rfl) (by kernel_rfl) (by kernel_rfl) (fun _ _ _ _ h => h) (by rfl) ⟨_, fun w' hx => by (go_simp <;> with_reducible rfl), ?_⟩
      simp only [Act.put, List.setIfInBounds_toArray, List.set_cons_zero, List.set_cons_succ]
      refine rg_done (by kernel_rfl) ?_
      go_wp2
      go_ret
      exact ⟨rfl, ext_trans hw2 (ext_trans (Ext.drew w2) hb3)⟩
    · have hs : RdB w2 A2 (q.take p.length) := Ho2.out.rd'.head (by omega)
      have hsl : (q.take p.length).length = p.length := by simp; omega
      go_wp2_with fail
      refine rg_start (by kernel_rfl) ?_
      refine rg_take 0 rfl (by kernel_rfl) (by kernel_rfl) (by kernel_rfl) (fun _ _ _ _ h => h) (by rfl) ⟨_, fun w' hx => by (go_simp <;> with_reducible rfl), ?_⟩
      simp only [Act.put, List.setIfInBounds_toArray, List.set_cons_zero, List.set_cons_succ]
      refine rg_take 1 rfl (by kernel_rfl) (by kernel_rfl) (by kernel_rfl) (fun _ _ _ _ h => h) (by rfl) ⟨_, fun w' hx => by (go_simp <;> with_reducible rfl), ?_⟩
      simp only [Act.put, List.setIfInBounds_toArray, List.set_cons_zero, List.set_cons_succ]
      refine rg_take 2 rfl (by kernel_rfl) (by kernel_rfl) (by kernel_rfl) (fun _ _ _ _ h => h) (by rfl) ⟨_, fun w' hx => by (go_simp <;> with_reducible rfl), ?_⟩   -- t58 := len(t57)
      simp only [Act.put, List.setIfInBounds_toArray, List.set_cons_zero, List.set_cons_succ]
      refine rg_take 3 rfl (by kernel_rfl) (by kernel_rfl) (by kernel_rfl) (fun _ _ _ _ h => h) (by rfl) ⟨.slice A2 p.length c2, fun w' hx => by (go_simp <;> omega), ?_⟩
      simp only [Act.put, List.setIfInBounds_toArray, List.set_cons_zero, List.set_cons_succ]
      refine rg_take 4 rfl (by kernel_rfl) (by kernel_rfl) (by kernel_rfl) (fun _ _ _ _ h => h) (by rfl) ⟨_, fun w' hx => ex_convert rfl rfl (run_str w' _ _ 5 A2 (q.take p.length) c2 Try.underlying23 Try.underlying5 Try.underlying9 (hs.below (ext_trans (Ext.drew w2) hx)) _ hsl.symm), ?_⟩
      simp only [Act.put, List.setIfInBounds_toArray, List.set_cons_zero, List.set_cons_succ]
      refine rg_take 5 rfl (by kernel_rfl) (by kernel_rfl) (by kernel_rfl) (fun _ _ _ _ h => h) (by rfl) ⟨_, fun w' hx => by (go_simp <;> with_reducible rfl), ?_⟩
      simp only [Act.put, List.setIfInBounds_toArray, List.set_cons_zero, List.set_cons_succ]
      refine rg_take 6 rfl (by kernel_rfl) (by kernel_rfl) (by kernel_rfl) (fun _ _ _ _ h => h) (by rfl) ⟨_, fun w' hx => ex_convert rfl rfl (run_str w' _ _ 5 A1 p c1 Try.underlying23 Try.underlying5 Try.underlying9 (Ho1.out.below (ext_trans (Ext.drew w2) hx)).rd' _ rfl), ?_⟩
      simp only [Act.put, List.setIfInBounds_toArray, List.set_cons_zero, List.set_cons_succ]
      refine rg_take 7 rfl (by kernel_rfl) (by kernel_rfl) (by kernel_rfl) (fun _ _ _ _ h => h) (by rfl) ⟨.bool true, fun w' hx => by (go_simp; exact hp2.out _), ?_⟩
      simp only [Act.put, List.setIfInBounds_toArray, List.set_cons_zero, List.set_cons_succ]
      refine rg_take 8 rfl (by kernel_rfl) (by kernel_rfl) (by kernel_rfl) (fun _ _ _ _ h => h) (by rfl) ⟨_, fun w' hx => by (go_simp <;> with_reducible rfl), ?_⟩
      simp only [Act.put, List.setIfInBounds_toArray, List.set_cons_zero, List.set_cons_succ]
      refine rg_call 9 (live01 _) rfl (by kernel_rfl) (by rfl) (by go_simp) ?_
      rintro e w3 ⟨rfl, hb3⟩
      refine ⟨_, rfl, hb3, ?_⟩
      simp only [Act.put, List.setIfInBounds_toArray, List.set_cons_zero, List.set_cons_succ]
      refine rg_take 10 rfl (by kernel_rfl) (by kernel_rfl) (by kernel_rfl) (fun _ _ _ _ h => h) (by rfl) ⟨_, fun w' hx => by (go_simp <;> with_reducible rfl), ?_⟩
      simp only [Act.put, List.setIfInBounds_toArray, List.set_cons_zero, List.set_cons_succ]
      refine rg_take 11 rfl (by kernel_rfl) (by kernel_rfl) (by kernel_rfl) (fun _ _ _ _ h => h) (by rfl) ⟨_, fun w' hx => by (go_simp <;> with_reducible rfl), ?_⟩
      simp only [Act.put, List.setIfInBounds_toArray, List.set_cons_zero, List.set_cons_succ]
      refine rg_done (by kernel_rfl) ?_
      go_wp2
      go_ret
      exact ⟨rfl, ext_trans hw2 (ext_trans (Ext.drew w2) hb3)⟩

set_option maxRecDepth 100000 in
set_option maxHeartbeats 1000000 in
theorem walkVintWords (w : World) (A : Option Addr) (p : List UInt8) (cp : Nat) (hA : RdB w A p) (_hcp : p.length ≤ cp) (B : Option Addr) (q : List UInt8) (cq : Nat) (hB : RdB w B q) (_hcq : q.length ≤ cq) (x : Int) (wx : (Lit.int .u64 x).wf = true) :
    Calls Try.prog 8 #[.slice A p.length cp, .slice B q.length cq, .int .u64 x] w fun e w' => e = .returned (.bool true) ∧ Below w.heap.size w w' := by
  obtain ⟨n, rfl, hn⟩ := wf_u64 wx
  clear wx _hcp _hcq
  have Hn := Lib.hid (Vint.number_fixed8 n hn)
  clear hn
  by_cases hl : p.length ≤ 5000
  · by_cases hm : q.length ≤ 5000
    · have hp1 : (Vint.putBytes p).length ≤ 5010 := by have := Vint.put_len p.length; simp [Vint.putBytes]; omega
      have hq1 : (Vint.putBytes q).length ≤ 5010 := by have := Vint.put_len q.length; simp [Vint.putBytes]; omega
      have hq0 : 1 ≤ (Vint.putBytes q).length := by have := Vint.put_len q.length; simp [Vint.putBytes]; omega
      have hg1 := Vint.getBytes_putBytes p (Vint.putBytes q) (by omega)
      have hg2 := Vint.getBytes_putBytes q [] (by omega)
      rw [List.append_nil] at hg2
      have Hg2 := Lib.hid hg2
      clear hg2
      have hp9 : Hid (p.length ≤ 5000) := hl
      have Hpb := Lib.hid (fun W (h : RdB W A p) => putbytes_any A p cp W h (by omega))
      have Hqb := Lib.hid (fun W (h : RdB W B q) => putbytes_any B q cq W h (by omega))
      generalize hP : Vint.putBytes p = P at *
      generalize hQ : Vint.putBytes q = Q at *
      clear hP hQ
      obtain ⟨D, hD⟩ : ∃ D, D = P ++ Q := ⟨_, rfl⟩
      have HD := Lib.hid (show bvs D = bvs P ++ bvs Q by rw [hD, bvs_app])
      have hPQ : Hid (D.length = P.length + Q.length) := by show _ = _; rw [hD, List.length_append]
      have Hdr := Lib.hid (show D.drop P.length = Q by rw [hD, List.drop_left])
      rw [← hD] at hg1
      have Hg1 := Lib.hid hg1
      clear hD hg1
      go_enter Try.func8, Try.ntmps8
      go_wp2_with fail
      refine (Hpb.out _ (hA.below (Ext.alloc w (.cells #[] 5)))).mono ?_
      rintro e w1 ⟨A1, c1, rfl, ho1, hb1⟩
      have hE1 := ext_trans (Ext.alloc w (.cells #[] 5)) hb1
      go_wp2_with (at_builtin; refine wpList_app rfl (.tmp 23) (.tmp 25) 23 rfl elemB w.heap.size _ 0 0 [] rfl A1 P.length c1 (bvs P) rfl P.length (by omega) (bvs P) rfl (Own.none_ _ _ _ _ _) ho1.rd' (bvs_one _) (by omega) (by omega) hE1.size ?_; intro A2 c2 w2 ho2 hg2 hr2)
      have hE2 := below_app hE1 (Own.none_ _ _ 5 1 (some ⟨w.heap.size, 0, none⟩)) hg2 hE1.size
      refine (Hqb.out _ (hB.below hE2)).mono ?_
      rintro e w3 ⟨A3, c3, rfl, ho3, hb3⟩
      have hE3 := ext_trans hE2 hb3
      have ho2' := ho2.below hb3
      go_wp2_with (at_builtin; refine wpList_app rfl (.tmp 26) (.tmp 28) 23 rfl elemB w.heap.size A2 P.length c2 (bvs P) rfl A3 Q.length c3 (bvs Q) rfl D.length hPQ.out (bvs D) HD.out ho2' ho3.rd' (bvs_one _) (by rw [hPQ.out]; omega) (by rw [hPQ.out]; omega) hE3.size ?_; intro A4 c4 w4 ho4 hg4 hr4)
      have hE4 := below_app hE3 ho2' hg4 hE3.size
      have hc4 := ho4.nc
      rw [hPQ.out] at hc4
      refine (getbytes_any A4 D c4 w4 ho4.rd' (by rw [hPQ.out]; omega) (by rw [hPQ.out]; exact hc4)).mono ?_
      rintro e w5 ⟨A5, c5, rfl, ho5, hb5⟩
      have hE5 := ext_trans hE4 hb5
      rw [Hg1.out] at ho5
      rw [Hg1.out]
      simp only [gotRes]
      simp only at ho5
      have hne4 : ¬ c4 = P.length := by omega
      have htl := (ho4.below hb5).rd'.tail (k := P.length) (by rw [hPQ.out]; omega) (c := c4) (by rw [hPQ.out]; exact hc4)
      rw [if_neg hne4, Hdr.out] at htl
      have hDl := hPQ.out
      clear ho1 hb1 hE1 ho2 hg2 hr2 hE2 ho3 hb3 ho2' hg4 hr4 hE3
      have Ho5 := Lib.hid ho5
      have Htl := Lib.hid htl
      clear ho5 htl
      go_wp2_with fail
      refine (num01 _ _).mono ?_
      rintro e w' ⟨rfl, rfl⟩
      go_wp2_with fail
      refine (getbytes_any _ Q (c4 - P.length) w5 Htl.out (by omega) (by omega)).mono ?_
      rintro e w6 ⟨A6, c6, rfl, ho6, hb6⟩
      have hE6 := ext_trans hE5 hb6
      rw [Hg2.out] at ho6
      rw [Hg2.out]
      simp only [gotRes]
      simp only at ho6
      have r1 := run_str w6 23 9 5 A5 p c5 Try.underlying23 Try.underlying5 Try.underlying9 (Ho5.out.below hb6).rd' p.length rfl
      have r2 := run_str w6 23 9 5 A p cp Try.underlying23 Try.underlying5 Try.underlying9 (hA.below hE6) p.length rfl
      have r3 := run_str w6 23 9 5 A6 q c6 Try.underlying23 Try.underlying5 Try.underlying9 ho6.rd' q.length rfl
      have r4 := run_str w6 23 9 5 B q cq Try.underlying23 Try.underlying5 Try.underlying9 (hB.below hE6) q.length rfl
      clear ho6
      go_wp2_with fail
      refine (num01 _ _).mono ?_
      rintro e w' ⟨rfl, rfl⟩
      go_wp2_with fail
      refine (fixed_any n 8 w6).mono ?_
      rintro e w7 ⟨A7, c7, rfl, ho7, hb7⟩
      have hf8 : Hid ((Vint.fixed n 8).length = 8) := by
        show _ = _
        have : Vint.fixed n 8 = Vint.fixL n 8 := by unfold Vint.fixed; rw [if_pos (by omega)]; rfl
        rw [this, Vint.fixL_len]
      clear r1 r2 r3 r4
      go_wp2_with fail
      refine (number_any A7 (Vint.fixed n 8) c7 w7 ho7.rd' (by rw [hf8.out]; omega)).mono ?_
      rintro e w' ⟨rfl, rfl⟩
      rw [Hn.out]
      go_wp2_with fail
      refine (live01 _).mono ?_
      rintro e w8 ⟨rfl, hb8⟩
      go_wp2
      go_ret
      exact ⟨rfl, ext_trans (ext_trans hE6 hb7) hb8⟩
    · go_enter Try.func8, Try.ntmps8
      go_wp2_with fail
      refine (live01 w).mono ?_
      rintro e w3 ⟨rfl, hb3⟩
      go_wp2
      go_ret
      exact ⟨rfl, hb3⟩
  · go_enter Try.func8, Try.ntmps8
    go_wp2_with fail
    refine (live01 w).mono ?_
    rintro e w3 ⟨rfl, hb3⟩
    go_wp2
    go_ret
    exact ⟨rfl, hb3⟩
end Go.Proofs.Ytajflhdaljnoaaa
