/- Contracts of the reference's functions for sums (scowref02): what is put, and checked. -/
import Derived.Test.YtphjbemlofdepaaCrcRef
import Derived.Test.YtphjbemlofdepaaVintNum
import Derived.Test.YtphjbemlofdepaaReg
namespace Go.Proofs.Ytphjbemlofdepaa
open Go.RowKit



theorem four_cells (n : Nat) (h : n < 4294967296) : bvs (Crc.four n) = [Value.int .u8 ((n : Int) / 16777216), .int .u8 ((n : Int) / 65536 % 256), .int .u8 ((n : Int) / 256 % 256), .int .u8 ((n : Int) % 256)] := by
  have h1 := byte_top n 16777216 (by omega)
  have h2 := byte_div n 65536
  have h3 := byte_div n 256
  have h4 := byte0 n
  simp only [Crc.four, bvs, List.map_cons, List.map_nil, bv, ← h1, ← h2, ← h3, ← h4]
  rfl

set_option maxHeartbeats 400000 in
theorem ref_put (A : Option Addr) (bs : List UInt8) (cap : Nat) (w : World) (hA : RdB w A bs) (hl : bs.length ≤ 1000000) :
    Calls Try.prog 19 #[.slice A bs.length cap] w fun e w' => ∃ A' c', e = .returned (.slice A' (Crc.put bs).length c') ∧ Own w' w.heap.size 5 1 A' (Crc.put bs).length c' (bvs (Crc.put bs)) ∧ Below w.heap.size w w' := by
  have H := Lib.hid (ref_sum A bs cap w hA (by omega))
  have hs := Crc.sum_lt bs
  have hA1 := hA.below (((Below.refl w.heap.size w).alloc (Nat.le_refl _) (.cells #[] 5)))
  go_enter Try.func19, Try.ntmps19
  go_wp2_with (first
    | (go_at_call 27; refine H.out.mono ?_; rintro e w' ⟨rfl, rfl⟩)
    | (at_builtin; refine wpList_app rfl (.tmp 6) (.tmp 7) 23 rfl elemB w.heap.size _ 0 0 [] rfl A bs.length cap (bvs bs) rfl bs.length (by omega) (bvs bs) rfl (Own.none_ _ _ _ _ _) hA1 (bvs_one _) (by omega) (by omega) (by simp) ?_; intro A1 c1 w1 ho1 hg1 hr1)
    | (at_builtin; refine wpList_app rfl (.tmp 8) (.tmp 20) 23 rfl elemB w.heap.size A1 bs.length c1 (bvs bs) rfl (some ⟨w1.heap.size, 0, none⟩) 4 4 _ rfl (Crc.put bs).length (Crc.put_len bs) (bvs (Crc.put bs)) ?hz (ho1.below ((Below.refl _ _).alloc (Nat.le_refl _) _)) (Rd.new w1 _ _) ?h1 ?hb (by rw [Crc.put_len]; omega) ?hB ?_))
  case hz => simp only [Crc.put, bvs_app, four_cells _ hs]
  case h1 => intro u hu; simp only [List.mem_cons, List.not_mem_nil, or_false] at hu; rcases hu with rfl | rfl | rfl | rfl <;> rfl
  case hb => simp only [Nat.mul_one]; rw [Crc.put_len]; omega
  case hB => have := hg1.size; simp at this ⊢; omega
  intro A2 c2 w2 ho2 hg2 hr2
  go_wp2
  go_ret
  have hb1 := below_app (((Below.refl w.heap.size w).alloc (Nat.le_refl _) (.cells #[] 5))) (Own.none_ _ _ 5 1 (some ⟨w.heap.size, 0, none⟩)) hg1 (by simp)
  exact ⟨A2, c2, rfl, ho2, below_app (hb1.alloc hb1.size _) (ho1.below ((Below.refl _ _).alloc (Nat.le_refl _) _)) hg2 (by have := hb1.size; simp; omega)⟩

set_option maxHeartbeats 400000 in
theorem ref_check (A : Option Addr) (bs : List UInt8) (cap : Nat) (w : World) (hA : RdB w A bs) (hl : bs.length ≤ 1000000) (hcap : bs.length ≤ cap) :
    Calls Try.prog 22 #[.slice A bs.length cap] w fun e w' => ∃ A' c', e = .returned (.tuple #[.slice A' (Crc.got bs).length c', .bool (Crc.ok bs)]) ∧ Own w' w.heap.size 5 1 A' (Crc.got bs).length c' (bvs (Crc.got bs)) ∧ Below w.heap.size w w' := by
  by_cases h4 : bs.length < 4
  · have h1 : Crc.ok bs = false := by unfold Crc.ok; simp; omega
    have h2 : Crc.got bs = [] := by unfold Crc.got; rw [h1]; rfl
    rw [h1, h2]
    clear h1 h2
    go_enter Try.func22, Try.ntmps22
    go_wp2
    go_ret2
    exact ⟨none, 0, rfl, Own.none_ _ _ _ _ _, Below.refl _ _⟩
  · obtain ⟨p, hp⟩ : ∃ p, p = bs.take (bs.length - 4) := ⟨_, rfl⟩
    have hA0 := hA.head (m := bs.length - 4) (by omega)
    rw [← hp] at hA0
    have hok := Crc.ok_of (b := bs) (p := p) (by omega) hp
    have hpl : p.length = bs.length - 4 := by rw [hp]; simp
    have hA1 := hA0.below (((Below.refl w.heap.size w).alloc (Nat.le_refl _) (.cells #[] 5)))
    have hcast : ((bs.length : Int) - 4) = ((p.length : Nat) : Int) := by omega
    have hple : p.length ≤ bs.length := by omega
    have Hp := Lib.hid hp
    have Hok := Lib.hid hok
    clear hp hok hpl
    go_enter Try.func22, Try.ntmps22
    go_wp2_with (at_builtin; refine wpList_app rfl (.tmp 8) (.tmp 13) 23 rfl elemB w.heap.size _ 0 0 [] rfl A p.length cap (bvs p) rfl p.length (by omega) (bvs p) rfl (Own.none_ _ _ _ _ _) hA1 (bvs_one _) (by omega) (by omega) (by simp) ?_; intro A1 c1 w1 ho1 hg1 hr1)
    have hb1 := below_app (((Below.refl w.heap.size w).alloc (Nat.le_refl _) (.cells #[] 5))) (Own.none_ _ _ 5 1 (some ⟨w.heap.size, 0, none⟩)) hg1 (by simp)
    have ho1' := ho1.below ((Below.refl w1.heap.size w1).drew)
    refine rg_start (by kernel_rfl) ?_
    refine rg_take 0 rfl (by kernel_rfl) (by kernel_rfl) (by kernel_rfl) (fun _ _ _ _ h => h) (by rfl) ⟨_, fun w' hx => by (go_simp <;> with_reducible rfl), ?_⟩
    simp only [Act.put, List.setIfInBounds_toArray, List.set_cons_zero, List.set_cons_succ]
    refine rg_take 3 rfl (by kernel_rfl) (by kernel_rfl) (by kernel_rfl) (fun _ _ _ _ h => h) (by rfl) ⟨_, fun w' hx => by (go_simp <;> with_reducible rfl), ?_⟩
    simp only [Act.put, List.setIfInBounds_toArray, List.set_cons_zero, List.set_cons_succ]
    refine rg_take 4 rfl (by kernel_rfl) (by kernel_rfl) (by kernel_rfl) (fun _ _ _ _ h => h) (by rfl) ⟨_, fun w' hx => ex_convert rfl rfl (run_str w' _ _ 5 A bs cap Try.underlying23 Try.underlying5 Try.underlying9 (hA.below (hb1.trans (Below.mono (Below.drew (Below.refl _ _) |>.trans hx) hb1.size))) _ rfl), ?_⟩
    simp only [Act.put, List.setIfInBounds_toArray, List.set_cons_zero, List.set_cons_succ]
    refine rg_call 1 (ref_put A1 p c1 w1.drew ho1'.rd' (by omega)) rfl (by kernel_rfl) (by rfl) (by go_simp) ?_
    rintro e w2 ⟨A2, c2, rfl, ho2, hb2⟩
    refine ⟨_, rfl, hb2, ?_⟩
    simp only [Act.put, List.setIfInBounds_toArray, List.set_cons_zero, List.set_cons_succ]
    refine rg_take 2 rfl (by kernel_rfl) (by kernel_rfl) (by kernel_rfl) (fun _ _ _ _ h => h) (by rfl) ⟨_, fun w' hx => ex_convert rfl rfl (run_str w' _ _ 5 A2 (Crc.put p) c2 Try.underlying23 Try.underlying5 Try.underlying9 (ho2.below hx).rd' _ rfl), ?_⟩
    simp only [Act.put, List.setIfInBounds_toArray, List.set_cons_zero, List.set_cons_succ]
    refine rg_take 5 rfl (by kernel_rfl) (by kernel_rfl) (by kernel_rfl) (fun _ _ _ _ h => h) (by rfl) ⟨_, fun w' hx => by (go_simp <;> with_reducible rfl), ?_⟩
    simp only [Act.put, List.setIfInBounds_toArray, List.set_cons_zero, List.set_cons_succ]
    refine rg_done (by kernel_rfl) ?_
    have hfin := hb1.trans (((Below.refl w1.heap.size w1).drew.trans hb2).mono hb1.size)
    have ho3 := (ho1.below ((Below.refl w1.heap.size w1).drew)).below hb2
    by_cases hv : (Crc.put p == bs) = true
    · have h1 : Crc.ok bs = true := by rw [Hok.out]; exact hv
      have H2 := Lib.hid (Crc.got_yes Hp.out h1)
      have H1 := Lib.hid h1
      have hn : (!(Crc.put p == bs)) = false := by rw [hv]; rfl
      rw [hn]
      clear h1 hn hv
      go_wp2
      go_ret2
      rw [H1.out, H2.out]
      exact ⟨A1, c1, rfl, ho3, hfin⟩
    · have hv' : (Crc.put p == bs) = false := by simpa using hv
      have h1 : Crc.ok bs = false := by rw [Hok.out]; exact hv'
      have H2 := Lib.hid (Crc.got_no h1)
      have H1 := Lib.hid h1
      have hn : (!(Crc.put p == bs)) = true := by rw [hv']; rfl
      rw [hn]
      clear h1 hv hv' hn
      go_wp2
      go_ret2
      rw [H1.out, H2.out]
      exact ⟨none, 0, rfl, Own.none_ _ _ _ _ _, hfin⟩
end Go.Proofs.Ytphjbemlofdepaa
