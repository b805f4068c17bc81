/- The law on bytes in parts: the walk returns true and changes nothing that was there. Written by wip/tools/gen_parts03.py. -/
import Derived.Test.YtgpcfhdldmkijaaShaLaws
namespace Go.Proofs.Ytgpcfhdldmkijaa
open Go.RowKit
attribute [local go_sem] Oper.semAt_some

set_option maxRecDepth 100000 in
set_option maxHeartbeats 4000000 in
theorem walkShaParts (w : World) (A : Option Addr) (l : List Sl) (cap : Nat) (hA : RdL w A l) (_hc : l.length ≤ cap) (_hg : ∀ s ∈ l, s.bs.length ≤ s.c) :
    Calls Try.prog 4 #[.slice A l.length cap] w fun e w' => e = .returned (.bool true) ∧ Below w.heap.size w w' := by
  clear _hg
  by_cases h30 : l.length ≤ 30
  · go_enter Try.func4, Try.ntmps4
    go_wp2_with fail
    refine (hash_new w).mono ?_
    rintro e w1 ⟨g, rfl, hh1, hb1⟩
    have hgB := hh1.hB
    go_wp2_with fail
    go_loopw [3, 5] (fun sl i wr => ∃ (k : Nat) (A1 : Option Addr) (c1 : Nat) (row : Option Nat), k ≤ l.length ∧ i = .int .i64 k ∧ sl = .slice A1 (cat (l.take k)).length c1 ∧ Own wr w.heap.size 5 1 A1 (cat (l.take k)).length c1 (bvs (cat (l.take k))) ∧ HashOf wr w.heap.size g (cat (l.take k)) row ∧ (∀ j, ownRow A1 c1 = some j → j ≠ g ∧ row ≠ some j) ∧ (cat (l.take k)).length ≤ 4000 ∧ Below w.heap.size w wr) (fun _ i _ => l.length - (intOf i).toNat)
    case atStart => exact ⟨0, none, 0, none, by omega, rfl, rfl, Own.none_ _ _ _ _ _, hh1, fun j hj => (by simp [ownRow] at hj), by simp [cat], hb1⟩
    case round =>
      clear hh1 hb1
      obtain ⟨k, A1, c1, row, hk, rfl, rfl, ho, hh, hne, hlen, hB⟩ := hrel
      have hsz := hB.size
      by_cases h : k < l.length
      · obtain ⟨ad, rfl, hcell0, hrd0⟩ := hA.at_ h
        have hadl := World.block_lt_of_cell? _ _ hcell0
        have hcell : wr.cell? (ad.add k) = some (.slice l[k].a l[k].bs.length l[k].c) := by rw [hB.cell hadl]; exact hcell0
        have hkI : (k : Int) < (l.length : Int) := by omega
        obtain ⟨s, hs⟩ : ∃ s, s = l[k] := ⟨_, rfl⟩
        have hsn := cat_snoc l k h
        rw [← hs] at hcell hcell0 hrd0 hsn
        obtain ⟨d, hd⟩ : ∃ d, d = cat (l.take k) := ⟨_, rfl⟩
        rw [← hd] at hsn ho hh hlen ⊢
        have Hsn := Lib.hid hsn
        clear hs hsn hd
        by_cases hbig : s.bs.length ≤ 2000 ∧ d.length ≤ 2000
        · obtain ⟨hb1, hb2⟩ := hbig
          have hrd := hrd0.below hB
          have happ := bvs_app d s.bs
          obtain ⟨D, hD⟩ : ∃ D, D = d ++ s.bs := ⟨_, rfl⟩
          rw [← hD] at happ
          have hDl : D.length = d.length + s.bs.length := by rw [hD, List.length_append]
          have HD := Lib.hid hD
          have HDl := Lib.hid hDl
          have Happ := Lib.hid happ
          clear hD hDl happ
          have hcw := fun w' (hx : Below w.heap.size w w') => (hx.cell hadl).trans hcell0
          go_wp2_with (at_builtin; refine wpList_app rfl (.tmp 31) (.tmp 35) 22 rfl elemB w.heap.size A1 d.length c1 (bvs d) rfl s.a s.bs.length s.c (bvs s.bs) rfl D.length HDl.out (bvs D) Happ.out ho hrd (bvs_one _) (by rw [HDl.out]; omega) (by rw [HDl.out]; omega) hsz ?_; intro A2 c2 w2 ho2 hg2 hr2)
          have hB2 : Below w.heap.size w w2 := below_app hB ho hg2 hsz
          have hgl := hh.lt
          have hh2 : HashOf w2 w.heap.size g d row := by
            have hK : KeptG wr w2 w2.heap.size (ownRow A1 c1) := ⟨hg2.os, hg2.tape, hg2.output, hg2.size, fun i hi _ h2 => hg2.block i hi h2⟩
            have hsg := hg2.size
            exact hh.apart hK (by omega) (fun e => (hne g e.symm).1 rfl) (fun j hj => ⟨by have := (hh.ne j hj).2.2; omega, fun e => (hne j e.symm).2 hj⟩)
          have hne2 : ∀ j, ownRow A2 c2 = some j → j ≠ g ∧ row ≠ some j := by
            intro j hj
            rcases hr2 with e | e
            · exact hne j (e ▸ hj)
            · rw [e] at hj
              cases hj
              exact ⟨by omega, fun e2 => by have := (hh.ne _ e2).2.2; omega⟩
          have hrow2 := ho2.row_lt
          have hcell2 := hcw w2.drew hB2.drew
          have hsz2 := hB2.size
          have hrd2 := hrd0.below (hB2.drew)
          have hgl2 := hh2.lt
          clear hne hr2 hg2 ho hh hB hcell hrd hsz hgl
          go_wp2_with fail
          refine rb_start w.heap.size (by kernel_rfl) ?_
          refine rb_take 0 rfl (by kernel_rfl) (by kernel_rfl) (by kernel_rfl) (fun _ _ _ _ h => h) (by rfl) ⟨_, fun w' hx => by (go_simp <;> with_reducible rfl), ?_⟩
          simp only [Act.put, List.setIfInBounds_toArray, List.set_cons_zero, List.set_cons_succ]
          refine rb_take 2 rfl (by kernel_rfl) (by kernel_rfl) (by kernel_rfl) (fun _ _ _ _ h => h) (by rfl) ⟨_, fun w' hx => by (go_simp <;> with_reducible rfl), ?_⟩
          simp only [Act.put, List.setIfInBounds_toArray, List.set_cons_zero, List.set_cons_succ]
          refine rb_take 3 rfl (by kernel_rfl) (by kernel_rfl) (by kernel_rfl) (fun _ _ _ _ h => h) (by rfl) ⟨_, fun w' hx => by (go_simp <;> with_reducible rfl), ?_⟩
          simp only [Act.put, List.setIfInBounds_toArray, List.set_cons_zero, List.set_cons_succ]
          refine rb_take 4 rfl (by kernel_rfl) (by kernel_rfl) (by kernel_rfl) (fun _ _ _ _ h => h) (by rfl) ⟨_, fun w' hx => by (go_simp <;> with_reducible rfl), ?_⟩   -- t41 := indexAddr 29 t39 t40
          simp only [Act.put, List.setIfInBounds_toArray, List.set_cons_zero, List.set_cons_succ]
          refine rb_take 5 rfl (by kernel_rfl) (by kernel_rfl) (by kernel_rfl) (fun _ _ _ _ h => h) (by rfl) ⟨_, fun w' hx => by have hcx := (hx.cell hadl).trans hcell2; (go_simp <;> with_reducible rfl), ?_⟩
          simp only [Act.put, List.setIfInBounds_toArray, List.set_cons_zero, List.set_cons_succ]
          refine rb_take 8 rfl (by kernel_rfl) (by kernel_rfl) (by kernel_rfl) (fun _ _ _ _ h => h) (by rfl) ⟨_, fun w' hx => by (go_simp <;> with_reducible rfl), ?_⟩
          simp only [Act.put, List.setIfInBounds_toArray, List.set_cons_zero, List.set_cons_succ]
          refine rb_take 9 rfl (by kernel_rfl) (by kernel_rfl) (by kernel_rfl) (fun _ _ _ _ h => h) (by rfl) ⟨_, fun w' hx => by (go_simp <;> with_reducible rfl), ?_⟩
          simp only [Act.put, List.setIfInBounds_toArray, List.set_cons_zero, List.set_cons_succ]
          refine rb_take 10 rfl (by kernel_rfl) (by kernel_rfl) (by kernel_rfl) (fun _ _ _ _ h => h) (by rfl) ⟨_, fun w' hx => by (go_simp <;> with_reducible rfl), ?_⟩   -- t47 := indexAddr 29 t45 t46
          simp only [Act.put, List.setIfInBounds_toArray, List.set_cons_zero, List.set_cons_succ]
          refine rb_take 11 rfl (by kernel_rfl) (by kernel_rfl) (by kernel_rfl) (fun _ _ _ _ h => h) (by rfl) ⟨_, fun w' hx => by have hcx := (hx.cell hadl).trans hcell2; (go_simp <;> with_reducible rfl), ?_⟩
          simp only [Act.put, List.setIfInBounds_toArray, List.set_cons_zero, List.set_cons_succ]
          refine rb_take 12 rfl (by kernel_rfl) (by kernel_rfl) (by kernel_rfl) (fun _ _ _ _ h => h) (by rfl) ⟨_, fun w' hx => by (go_simp <;> with_reducible rfl), ?_⟩   -- t49 := len(t48)
          simp only [Act.put, List.setIfInBounds_toArray, List.set_cons_zero, List.set_cons_succ]
          refine rb_make 1 rfl (by kernel_rfl) (by rfl) ⟨.slice (some ⟨w2.heap.size, 0, none⟩) 0 0, w2.drew.alloc (.cells #[] 5), by (go_simp <;> first | exact ⟨rfl, rfl⟩ | rfl), (Ext.alloc w2.drew _).mono hsz2, ?_⟩
          have hE3 : Ext w2 (w2.drew.alloc (.cells #[] 5)) := Ext.tr (Ext.drew w2) (Ext.alloc w2.drew (.cells #[] 5))
          have hB3 := hB2.trans (hE3.mono hsz2)
          have hcell3 := hcw _ hB3
          have hrd3 := hrd0.below hB3
          simp only [Act.put, List.setIfInBounds_toArray, List.set_cons_zero, List.set_cons_succ]
          refine rb_one 6 rfl (by kernel_rfl) (by rfl) (wp_app (.tmp 38) (.tmp 42) 22 rfl elemB (w2.drew.alloc (.cells #[] 5)).heap.size (some ⟨w2.heap.size, 0, none⟩) 0 0 [] rfl s.a s.bs.length s.c (bvs s.bs) rfl s.bs.length (by omega) (bvs s.bs) rfl (Own.none_ _ _ _ _ _) hrd3 (bvs_one _) (by omega) (by omega) (Nat.le_refl _) ?_)
          intro A4 c4 w4 ho4 hgr _
          have hE4 : Ext (w2.drew.alloc (.cells #[] 5)) w4 := grown_none hgr
          have hE24 := Ext.tr hE3 hE4
          have hs3 := hE3.size
          refine ⟨.inl (hE4.mono (Nat.le_trans hsz2 hs3)), ?_⟩
          simp only [Act.put, List.setIfInBounds_toArray, List.set_cons_zero, List.set_cons_succ]
          have hB4 := hB2.trans (hE24.mono hsz2)
          have hh4 := hh2.below hE24
          have ho24 := ho2.below hE24
          have hs4 := hE24.size
          have hAg4 : s.bs ≠ [] → ∀ ad, A4 = some ad → ad.block ≠ g := by
            intro hp ad e e2
            have h0 : 0 < s.bs.length := by cases hs : s.bs with | nil => exact absurd hs hp | cons _ _ => simp
            have h1 := ho4.nc
            rcases ho4.mem with h2 | ⟨g', off, cur, h3, h4, _⟩
            · omega
            · rw [h3] at e
              cases e
              have h5 : g' = g := e2
              simp only [World.size_alloc] at h4
              have h6 : w2.drew.heap.size = w2.heap.size := rfl
              omega
          refine rb_call 7 (hash_write w.heap.size g d row A4 s.bs c4 w4 hh4 hB4.size ho4.rd' hAg4 (by omega)) rfl (by kernel_rfl) (by rfl) (by go_simp) ?_
          rintro e w5 ⟨row5, rfl, hh5, hrow5, hK5, hb5⟩
          refine ⟨_, rfl, hb5, ?_⟩
          rw [← HD.out] at hh5
          have hB5 : Below w.heap.size w w5 := hB4.trans hb5
          have ho5 : Own w5 w.heap.size 5 1 A2 D.length c2 (bvs D) := by
            rcases ho24.mem with h0 | ⟨q, off, cur, f1, f2, f3, f4, f5⟩
            · exact ⟨ho24.len, ho24.nc, ho24.cm, .inl h0⟩
            · by_cases hc0 : c2 = 0
              · exact ⟨ho24.len, ho24.nc, ho24.cm, .inl hc0⟩
              · have hr : ownRow A2 c2 = some q := by rw [f1]; unfold ownRow; rw [if_neg hc0]; rfl
                obtain ⟨k1, k2⟩ := hne2 q hr
                exact ⟨ho24.len, ho24.nc, ho24.cm, .inr ⟨q, off, cur, f1, f2, (hK5.block _ (lt_of_heap f3) k1 (fun e => k2 e.symm)).trans f3, f4, f5⟩⟩
          have hne5 : ∀ j, ownRow A2 c2 = some j → j ≠ g ∧ row5 ≠ some j := fun j hj => ⟨(hne2 j hj).1, fun e => by have h7 := hrow5 j e; have h8 := (hrow2 j hj).2; omega⟩
          have hs5 := hB5.size
          simp only [Act.put, List.setIfInBounds_toArray, List.set_cons_zero, List.set_cons_succ]
          refine rb_take 13 rfl (by kernel_rfl) (by kernel_rfl) (by kernel_rfl) (fun _ _ _ _ h => h) (by rfl) ⟨.bool false, fun w' hx => by (go_simp <;> simp), ?_⟩
          simp only [Act.put, List.setIfInBounds_toArray, List.set_cons_zero, List.set_cons_succ]
          refine rb_take 14 rfl (by kernel_rfl) (by kernel_rfl) (by kernel_rfl) (fun _ _ _ _ h => h) (by rfl) ⟨_, fun w' hx => by (go_simp <;> with_reducible rfl), ?_⟩
          simp only [Act.put, List.setIfInBounds_toArray, List.set_cons_zero, List.set_cons_succ]
          refine rb_take 15 rfl (by kernel_rfl) (by kernel_rfl) (by kernel_rfl) (fun _ _ _ _ h => h) (by rfl) ⟨_, fun w' hx => by (go_simp <;> with_reducible rfl), ?_⟩
          simp only [Act.put, List.setIfInBounds_toArray, List.set_cons_zero, List.set_cons_succ]
          refine rb_take 17 rfl (by kernel_rfl) (by kernel_rfl) (by kernel_rfl) (fun _ _ _ _ h => h) (by rfl) ⟨_, fun w' hx => by (go_simp <;> with_reducible rfl), ?_⟩
          simp only [Act.put, List.setIfInBounds_toArray, List.set_cons_zero, List.set_cons_succ]
          refine rb_call 16 (hash_sum w.heap.size g D row5 w5 hh5 (by rw [HDl.out]; omega)) rfl (by kernel_rfl) (by rfl) (by go_simp) ?_
          rintro e w6 ⟨rfl, hb6⟩
          refine ⟨_, rfl, hb6.mono hs5, ?_⟩
          have ho6 := ho5.below hb6
          have hs6 := hb6.size
          simp only [Act.put, List.setIfInBounds_toArray, List.set_cons_zero, List.set_cons_succ]
          refine rb_call 18 (ref_sum A2 D c2 w6 ho6.rd' (by rw [HDl.out]; omega)) rfl (by kernel_rfl) (by rfl) (by go_simp) ?_
          rintro e w7 ⟨rfl, hb7⟩
          refine ⟨_, rfl, hb7.mono (by omega), ?_⟩
          have hE57 := Ext.tr hb6 hb7
          have heq := fun w' => run_eqTrue (Sha.sum D) (Sha.sum_len D) w'
          simp only [Act.put, List.setIfInBounds_toArray, List.set_cons_zero, List.set_cons_succ]
          refine rb_take 19 rfl (by kernel_rfl) (by kernel_rfl) (by kernel_rfl) (fun _ _ _ _ h => h) (by rfl) ⟨.bool false, fun w' hx => by go_simp, ?_⟩
          simp only [Act.put, List.setIfInBounds_toArray, List.set_cons_zero, List.set_cons_succ]
          refine rb_take 20 rfl (by kernel_rfl) (by kernel_rfl) (by kernel_rfl) (fun _ _ _ _ h => h) (by rfl) ⟨_, fun w' hx => by (go_simp <;> with_reducible rfl), ?_⟩
          simp only [Act.put, List.setIfInBounds_toArray, List.set_cons_zero, List.set_cons_succ]
          refine rb_done (by kernel_rfl) ?_
          have hh7 := hh5.below hE57
          have ho7 := ho5.below hE57
          have hB7 := hB5.trans (hE57.mono hs5)
          clear hh5 ho5 hB5 ho6 hb6 hb7
          go_wp2_with fail
          go_roundw
          case rel => exact ⟨k + 1, A2, c2, row5, by omega, by go_num, by rw [Hsn.out, ← HD.out], by rw [Hsn.out, ← HD.out]; exact ho7, by rw [Hsn.out, ← HD.out]; exact hh7, hne5, by rw [Hsn.out, ← HD.out, HDl.out]; omega, hB7⟩
          case measure => simp [intOf]; omega
        · have hl := live03 wr
          clear Hsn hh ho hne hcell0
          cases e1 : decide ((2000 : Int) < s.bs.length) <;> cases e2 : decide ((2000 : Int) < d.length)
          all_goals
            first
              | (exfalso
                 simp only [decide_eq_false_iff_not] at e1 e2
                 exact hbig ⟨by omega, by omega⟩)
              | (go_wp2_with fail
                 refine hl.mono ?_
                 rintro e w6 ⟨rfl, hb6⟩
                 go_wp2
                 go_ret
                 exact ⟨rfl, Ext.tr hB (by simpa [Ext] using hb6)⟩)
      · obtain rfl : k = l.length := by omega
        rw [List.take_length] at ho hh hlen ⊢
        have hL := hA.below hB
        go_wp2_with fail
        refine (hash_sum w.heap.size g (cat l) row wr hh (by omega)).mono ?_
        rintro e w2 ⟨rfl, hb2⟩
        have heq := fun w' => run_eqTrue (Sha.sum (cat l)) (Sha.sum_len _) w'
        go_wp2_with fail
        refine (sha_sum A l cap w2 (hL.below hb2) (by omega) (by omega)).mono ?_
        rintro e w3 ⟨rfl, hb3⟩
        go_wp2_with fail
        refine (sha_sum A l cap w3 ((hL.below hb2).below hb3) (by omega) (by omega)).mono ?_
        rintro e w4 ⟨rfl, hb4⟩
        have hE4 := Ext.tr hb2 (Ext.tr hb3 hb4)
        go_wp2_with fail
        refine (ref_sum A1 (cat l) c1 w4 (ho.below hE4).rd' (by omega)).mono ?_
        rintro e w5 ⟨rfl, hb5⟩
        go_wp2_with fail
        refine (live03 w5).mono ?_
        rintro e w6 ⟨rfl, hb6⟩
        go_wp2
        go_ret
        exact ⟨rfl, hB.trans ((Ext.tr hE4 (Ext.tr hb5 hb6)).mono hsz)⟩
  · go_enter Try.func4, Try.ntmps4
    go_wp2_with fail
    refine (live03 w).mono ?_
    rintro e w4 ⟨rfl, hb4⟩
    go_wp2
    go_ret
    exact ⟨rfl, hb4⟩
end Go.Proofs.Ytgpcfhdldmkijaa
