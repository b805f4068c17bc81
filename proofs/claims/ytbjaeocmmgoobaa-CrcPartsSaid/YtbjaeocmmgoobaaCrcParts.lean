/- The law on sums in parts: the walk returns true and changes nothing that was there. -/
import Derived.Test.YtbjaeocmmgoobaaCrcLive
import Derived.Test.YtbjaeocmmgoobaaCrcRef2
namespace Go.Proofs.Ytbjaeocmmgoobaa
open Go.RowKit

theorem RdL.some_at {w : World} {ad : Addr} {l : List Sl} (h : RdL w (some ad) l) {k : Nat} (hk : k < l.length) :
    w.cell? (ad.add k) = some (.slice l[k].a l[k].bs.length l[k].c) ∧ RdB w l[k].a l[k].bs := by
  obtain ⟨ad', e, h1, h2⟩ := h.at_ hk
  injection e with e
  subst e
  exact ⟨h1, h2⟩
theorem Crc.sum_nil : Crc.sum [] = 0 := by decide
theorem Crc.more_cat (l : List Sl) (k : Nat) (h : k < l.length) : Crc.sum (cat (l.take (k + 1))) = Crc.more (Crc.sum (cat (l.take k))) l[k].bs := by
  rw [cat_snoc l k h]
  unfold Crc.sum
  rw [Crc.more_app]
theorem cat_le (l : List Sl) (m : Nat) (h : ∀ s ∈ l, s.bs.length ≤ m) : (cat l).length ≤ l.length * m := by
  induction l with
  | nil => simp [cat]
  | cons s r ih =>
    have h1 := h s (by simp)
    have h2 := ih (fun x hx => h x (by simp [hx]))
    simp only [cat, List.flatMap_cons, List.length_append, List.length_cons] at h2 ⊢
    rw [Nat.add_mul, Nat.one_mul]
    omega

set_option maxHeartbeats 1000000 in
theorem walkCrcParts (w : World) (A : Option Addr) (l : List Sl) (cl : Nat) (hA : RdL w A l) (_hcl : l.length ≤ cl) (_hin : ∀ s ∈ l, s.bs.length ≤ s.c) (B : Option Addr) (q : List UInt8) (cq : Nat) (hB : RdB w B q) (_hcq : q.length ≤ cq) :
    Calls Try.prog 4 #[.slice A l.length cl, .slice B q.length cq] w fun e w' => e = .returned (.bool true) ∧ Below w.heap.size w w' := by
  by_cases hs : l.length ≤ 50 ∧ q.length ≤ 3000
  · obtain ⟨hl, hm⟩ := hs
    go_enter Try.func4, Try.ntmps4
    go_wp2
    go_loopw [5, 6, 7] (fun v c i wr => ∃ (k : Nat) (A' : Option Addr) (c' : Nat), k ≤ l.length ∧ i = .int .i64 k ∧ v = .slice A' (cat (l.take k)).length c' ∧ c = .int .u32 (Crc.sum (cat (l.take k)) : Nat) ∧
      Own wr w.heap.size 5 1 A' (cat (l.take k)).length c' (bvs (cat (l.take k))) ∧ Below w.heap.size w wr ∧ (cat (l.take k)).length ≤ 6000) (fun _ _ i _ => l.length - (intOf i).toNat)
    case atStart => exact ⟨0, none, 0, by omega, rfl, rfl, val_int (by rw [List.take_zero, show cat [] = [] from rfl, Crc.sum_nil]; rfl), Own.none_ _ _ _ _ _, Below.refl _ _, by simp [cat]⟩
    case round =>
      obtain ⟨k, A', c', hk, rfl, rfl, rfl, hown, hbw, hlen⟩ := hrel
      by_cases h : k < l.length
      · obtain ⟨ad, rfl, hcell, hrd⟩ := (hA.below hbw).at_ h
        have hs := Lib.hid (cat_snoc l k h)
        have hss := Lib.hid (Crc.more_cat l k h)
        have hsl := Lib.hid (Crc.sum_lt (cat (l.take k)))
        generalize cat (l.take k) = d at *
        generalize hd' : cat (l.take (k + 1)) = d' at *
        have HD := Lib.hid hd'
        clear hd'
        by_cases h1 : l[k].bs.length ≤ 3000
        · by_cases h2 : d.length ≤ 3000
          · have hlk : (d ++ l[k].bs).length = d.length + l[k].bs.length := by simp
            have Hlk := Lib.hid hlk
            clear hlk
            go_wp2_with (first
              | (at_builtin
                 refine wpList_app rfl (.tmp 35) (.tmp 39) 22 rfl elemB w.heap.size A' d.length c' (bvs d) rfl l[k].a l[k].bs.length l[k].c (bvs l[k].bs) rfl d'.length (by rw [hs.out]; exact Hlk.out) (bvs d') (by rw [hs.out]; exact bvs_app _ _) hown hrd (bvs_one _) (by rw [hs.out, Hlk.out]; omega) (by rw [hs.out, Hlk.out]; omega) hbw.size ?_
                 intro A2 c2 w2 ho2 hg2 hr2
                 have hb2 := below_app hbw hown hg2 hbw.size
                 obtain ⟨hcell2, hrd2⟩ := (hA.below hb2).some_at h
                 clear hcell hrd)
              | (go_at_call 15; refine (more_any _ _ _ _ _ hsl.out hrd2 (by omega)).mono ?_; rintro e w3 ⟨rfl, hb3⟩))
            go_roundw
            case rel => exact ⟨k + 1, A2, c2, by omega, by go_num, by rw [HD.out], by rw [HD.out, hss.out], by rw [HD.out]; exact ho2.below hb3, hb2.trans (hb3.mono hb2.size), by rw [HD.out, hs.out, Hlk.out]; omega⟩
            case measure => simp [intOf]; omega
          · go_wp2_with fail
            refine (live02 wr).mono ?_
            rintro e w3 ⟨rfl, hb3⟩
            go_wp2
            go_ret
            exact ⟨rfl, hbw.trans (hb3.mono hbw.size)⟩
        · go_wp2_with fail
          refine (live02 wr).mono ?_
          rintro e w3 ⟨rfl, hb3⟩
          go_wp2
          go_ret
          exact ⟨rfl, hbw.trans (hb3.mono hbw.size)⟩
      · obtain rfl : k = l.length := by omega
        rw [List.take_length] at hown hlen ⊢
        have hc := Lib.hid (Crc.sum_lt (cat l))
        have hrest := Lib.hid (show Crc.more (Crc.sum (cat l)) q = Crc.sum (cat l ++ q) from Crc.more_app 0 (cat l) q)
        go_wp2_with fail
        refine (sum_any A l cl wr (hA.below hbw) (by omega) (by omega)).mono ?_
        rintro e w2 ⟨rfl, hb2⟩
        go_wp2_with fail
        refine (ref_sum A' (cat l) c' w2 (hown.below hb2).rd' (by omega)).mono ?_
        rintro e w3 ⟨rfl, rfl⟩
        go_wp2_with fail
        refine (ref_sum A' (cat l) c' w2 (hown.below hb2).rd' (by omega)).mono ?_
        rintro e w3 ⟨rfl, rfl⟩
        go_wp2_with fail
        have hbw2 := hbw.trans (hb2.mono hbw.size)
        refine (more_any (Crc.sum (cat l)) B q cq w2 hc.out (hB.below hbw2) (by omega)).mono ?_
        rintro e w3 ⟨rfl, hb3⟩
        have hbw3 := hbw2.trans (hb3.mono hbw2.size)
        have hown3 := (hown.below hb2).below hb3
        rw [hrest.out]
        obtain ⟨d', hd'⟩ : ∃ d', d' = cat l ++ q := ⟨_, rfl⟩
        have hl' : d'.length = (cat l).length + q.length := by rw [hd']; simp
        rw [← hd']
        have Hd' := Lib.hid hd'
        have Hl' := Lib.hid hl'
        clear hd' hl'
        go_wp2_with (at_builtin; refine wpList_app rfl (.tmp 62) (.tmp 63) 22 rfl elemB w.heap.size A' (cat l).length c' (bvs (cat l)) rfl B q.length cq (bvs q) rfl d'.length Hl'.out (bvs d') (by rw [Hd'.out]; exact bvs_app _ _) hown3 (hB.below hbw3) (bvs_one _) (by rw [Hl'.out]; omega) (by rw [Hl'.out]; omega) hbw3.size ?_; intro A4 c4 w4 ho4 hg4 hr4)
        have hbw4 := below_app hbw3 hown3 hg4 hbw3.size
        refine (ref_sum A4 d' c4 w4 ho4.rd' (by rw [Hl'.out]; omega)).mono ?_
        rintro e w5 ⟨rfl, rfl⟩
        go_wp2_with fail
        refine (live02 w4).mono ?_
        rintro e w6 ⟨rfl, hb6⟩
        go_wp2
        go_ret
        exact ⟨rfl, hbw4.trans (hb6.mono hbw4.size)⟩
  · by_cases hl : l.length ≤ 50
    · have hm : ¬ q.length ≤ 3000 := fun h => hs ⟨hl, h⟩
      go_enter Try.func4, Try.ntmps4
      go_wp2_with fail
      refine (live02 w).mono ?_
      rintro e w3 ⟨rfl, hb3⟩
      go_wp2
      go_ret
      exact ⟨rfl, hb3⟩
    · go_enter Try.func4, Try.ntmps4
      go_wp2_with fail
      refine (live02 w).mono ?_
      rintro e w3 ⟨rfl, hb3⟩
      go_wp2
      go_ret
      exact ⟨rfl, hb3⟩
end Go.Proofs.Ytbjaeocmmgoobaa
