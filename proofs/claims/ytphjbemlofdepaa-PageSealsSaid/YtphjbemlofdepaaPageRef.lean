/- Contract of the reference's sealing (scowref05.Seal). Written by wip/tools/gen_page05.py. -/
import Derived.Test.YtphjbemlofdepaaPage
import Derived.Test.YtphjbemlofdepaaMem2
import Derived.Test.YtphjbemlofdepaaVintRefN
import Derived.Test.YtphjbemlofdepaaCrcRef2
namespace Go.Proofs.Ytphjbemlofdepaa
open Go.RowKit
attribute [local go_sem] Oper.semAt_some

/-- A page's bytes, and the error. -/
def Pg.flat (p : Pg) : List UInt8 := UInt8.ofNat p.kind.toNat :: Vint.fixed p.lsn 8 ++ p.body
def Pg.good (p : Pg) : Bool := isKind p.kind && (p.body.length == 243)
def Pg.seal_ (p : Pg) : List UInt8 × Nat := if p.good then (Crc.put p.flat, 0) else ([], 50)
theorem fixed8_len (l : Nat) : (Vint.fixed l 8).length = 8 := by
  have : Vint.fixed l 8 = Vint.fixL l 8 := by unfold Vint.fixed; rw [if_pos (by omega)]; rfl
  rw [this, Vint.fixL_len]
theorem Own.rd8 {w : World} {B e : Nat} {A : Option Addr} {c n : Nat} {d : List UInt8} (h : Own w B e 1 A n c (bvs d)) (_hd : d.length = n) : RdB w A d := h.rd'
theorem RdB.rd8 {w : World} {A : Option Addr} {n : Nat} {d : List UInt8} (h : RdB w A d) (hd : d.length = n) : Rd w 1 A n (bvs d) := hd ▸ h

set_option maxRecDepth 100000 in
set_option maxHeartbeats 2000000 in
theorem ref_seal_good (A : Option Addr) (k : Int) (l : Nat) (d : List UInt8) (c : Nat) (w : World) (hl : l < 18446744073709551616) (hA : RdB w A d) (hk : isKind k = true) (hd : d.length = 243) :
    Calls Try.prog 8 #[.agg #[.int .i64 k, .int .u64 (l : Int), .slice A d.length c]] w fun e w' => ∃ A' c', e = .returned (.tuple #[.slice A' 256 c', .int .i64 0]) ∧ Own w' w.heap.size 5 1 A' 256 c' (bvs (Crc.put (UInt8.ofNat k.toNat :: Vint.fixed l 8 ++ d))) ∧ Below w.heap.size w w' := by
  have hkr : 1 ≤ k ∧ k ≤ 5 := by unfold isKind at hk; simpa using hk
  have hf8 := fixed8_len l
  obtain ⟨W1, hW1⟩ : ∃ W1, W1 = w.alloc (.cells #[.int .i64 k, .int .u64 (l : Int), .slice A 243 c] 25) := ⟨_, rfl⟩
  have hk0 : W1.cell? ⟨w.heap.size, 0, none⟩ = some (.int .i64 k) := by rw [hW1]; exact cell_of_row _ _ 0 _ _ _ (heap_alloc_new w _)
  have hl0 : W1.cell? ⟨w.heap.size, 1, none⟩ = some (.int .u64 (l : Int)) := by rw [hW1]; exact cell_of_row _ _ 1 _ _ _ (heap_alloc_new w _)
  have hB1 : Below w.heap.size w W1 := by rw [hW1]; exact Ext.alloc w _
  have hs0 : W1.cell? ⟨w.heap.size, 2, none⟩ = some (.slice A 243 c) := by rw [hW1]; exact cell_of_row _ _ 2 _ _ _ (heap_alloc_new w _)
  have hz : bvs (UInt8.ofNat k.toNat :: Vint.fixed l 8) = [.int .u8 k] ++ bvs (Vint.fixed l 8) := by
    simp only [bvs, List.map_cons, List.singleton_append, List.cons.injEq, and_true]
    simp only [bv, UInt8.toNat_ofNat', Value.int.injEq, true_and]
    omega
  have hwk : IntKind.u8.wrap k = k := by simp [IntKind.wrap, IntKind.bits, IntKind.signed]; omega
  have hnew : ∀ W : World, Rd (W.alloc (.cells #[.int .u8 k] 5)) 1 (some ⟨W.heap.size, 0, none⟩) 1 [.int .u8 k] := fun W => Rd.new W 5 [.int .u8 k]
  obtain ⟨D, hD0⟩ : ∃ D, D = UInt8.ofNat k.toNat :: Vint.fixed l 8 ++ d := ⟨_, rfl⟩
  rw [← hD0]
  have HD := Lib.hid hD0
  clear hD0
  go_enter Try.func8, Try.ntmps8
  go_wp2_with fail
  refine (ref_kind k _).mono ?_
  rintro e w' ⟨rfl, rfl⟩
  rw [hk]
  go_wp2_with fail
  rw [← hW1]
  clear hW1
  refine rg_start (by kernel_rfl) ?_
  refine rg_take 0 rfl (by kernel_rfl) (by kernel_rfl) (by kernel_rfl) (fun _ _ _ _ h => h) (by rfl) ⟨_, fun w' hx => by (go_simp <;> with_reducible rfl), ?_⟩
  simp only [Act.put, List.setIfInBounds_toArray, List.set_cons_zero, List.set_cons_succ]
  refine rg_take 1 rfl (by kernel_rfl) (by kernel_rfl) (by kernel_rfl) (fun _ _ _ _ h => h) (by rfl) ⟨_, fun w' hx => by have hcx := hx.load hk0; (go_simp <;> with_reducible rfl), ?_⟩
  simp only [Act.put, List.setIfInBounds_toArray, List.set_cons_zero, List.set_cons_succ]
  refine rg_take 2 rfl (by kernel_rfl) (by kernel_rfl) (by kernel_rfl) (fun _ _ _ _ h => h) (by rfl) ⟨_, fun w' hx => by (go_simp <;> with_reducible rfl), ?_⟩
  simp only [Act.put, List.setIfInBounds_toArray, List.set_cons_zero, List.set_cons_succ]
  refine rg_take 4 rfl (by kernel_rfl) (by kernel_rfl) (by kernel_rfl) (fun _ _ _ _ h => h) (by rfl) ⟨_, fun w' hx => by (go_simp <;> with_reducible rfl), ?_⟩
  simp only [Act.put, List.setIfInBounds_toArray, List.set_cons_zero, List.set_cons_succ]
  refine rg_take 5 rfl (by kernel_rfl) (by kernel_rfl) (by kernel_rfl) (fun _ _ _ _ h => h) (by rfl) ⟨_, fun w' hx => by have hcx := hx.load hl0; (go_simp <;> with_reducible rfl), ?_⟩
  simp only [Act.put, List.setIfInBounds_toArray, List.set_cons_zero, List.set_cons_succ]
  refine rg_joinP (fun v u W => ∃ ad1 A2 c2, v = .slice (some ad1) 1 1 ∧ u = .slice A2 8 c2 ∧ Rd W 1 (some ad1) 1 [.int .u8 k] ∧ RdB W A2 (Vint.fixed l 8) ∧ Ext W1 W) 3 6 18 21 ?_ ?_
  · intro hrest
    simp only [Act.put, List.setIfInBounds_toArray, List.set_cons_zero, List.set_cons_succ] at hrest
    refine rg_two 3 6 (by kernel_rfl) ?_ ?_
    · refine op_make 3 rfl (by rfl) ⟨_, _, by (go_simp <;> first | exact ⟨rfl, rfl⟩ | rfl), Ext.alloc _ _, ?_⟩
      simp only [Act.put, List.setIfInBounds_toArray, List.set_cons_zero, List.set_cons_succ]
      refine rg_call 6 (ref_fixed01 l hl 8 _) rfl (by kernel_rfl) (by rfl) (by go_simp) ?_
      rintro e w2 ⟨A2, c2, rfl, ho2, hb2⟩
      rw [hf8] at ho2 ⊢
      refine ⟨_, rfl, hb2, ?_⟩
      simp only [Act.put, List.setIfInBounds_toArray, List.set_cons_zero, List.set_cons_succ]
      refine rg_cast (by kernel_rfl) (hrest _ _ _ ⟨_, A2, c2, rfl, rfl, (hnew W1.drew).below hb2, ho2.rd8 hf8, Ext.tr (Ext.drew W1) (Ext.tr (Ext.alloc W1.drew (.cells #[.int .u8 k] 5)) hb2)⟩)
    · refine op_call 6 (ref_fixed01 l hl 8 _) rfl (by rfl) (by go_simp) ?_
      rintro e w2 ⟨A2, c2, rfl, ho2, hb2⟩
      rw [hf8] at ho2 ⊢
      refine ⟨_, rfl, hb2, ?_⟩
      simp only [Act.put, List.setIfInBounds_toArray, List.set_cons_zero, List.set_cons_succ]
      refine rg_make 3 rfl (by kernel_rfl) (by rfl) ⟨_, _, by (go_simp <;> first | exact ⟨rfl, rfl⟩ | rfl), Ext.alloc _ _, ?_⟩
      simp only [Act.put, List.setIfInBounds_toArray, List.set_cons_zero, List.set_cons_succ]
      refine rg_cast (by kernel_rfl) (hrest _ _ _ ⟨_, A2, c2, rfl, rfl, hnew w2, (ho2.rd8 hf8).below (Ext.alloc _ _), Ext.tr (Ext.drew W1) (Ext.tr hb2 (Ext.alloc w2 (.cells #[.int .u8 k] 5)))⟩)
  rintro v u W ⟨ad1, A2, c2, rfl, rfl, hr1, hr2, hB⟩
  simp only [Act.put, List.setIfInBounds_toArray, List.set_cons_zero, List.set_cons_succ]
  refine rg_one 7 rfl (by kernel_rfl) (by rfl) (wp_app_grow (.tmp 18) (.tmp 21) 23 rfl elemB ad1 1 1 [.int .u8 k] rfl A2 8 c2 (bvs (Vint.fixed l 8)) rfl 9 rfl (bvs (UInt8.ofNat k.toNat :: Vint.fixed l 8)) hz hr1 (hr2.rd8 hf8) (by omega) (by omega) (by omega) (by omega) (by omega) ?_)
  intro A3 c3 w3 ho3 hb3
  refine ⟨.inl hb3, ?_⟩
  simp only [Act.put, List.setIfInBounds_toArray, List.set_cons_zero, List.set_cons_succ]
  have hE3 := Ext.tr hB hb3
  refine rg_take 8 rfl (by kernel_rfl) (by kernel_rfl) (by kernel_rfl) (fun _ _ _ _ h => h) (by rfl) ⟨_, fun w' hx => by (go_simp <;> with_reducible rfl), ?_⟩
  simp only [Act.put, List.setIfInBounds_toArray, List.set_cons_zero, List.set_cons_succ]
  refine rg_done (by kernel_rfl) ?_
  have hB3 := hB1.trans (hE3.mono hB1.size)
  have hc2 := hE3.load hs0
  have hz2 : bvs D = bvs (UInt8.ofNat k.toNat :: Vint.fixed l 8) ++ bvs d := by rw [HD.out]; exact bvs_app _ _
  have hfl : D.length = 252 := by rw [HD.out]; simp [hf8, hd]
  have Ho3 := Lib.hid (ho3.mono (base' := w.heap.size) (Nat.le_trans hB1.size hB.size))
  have HA := Lib.hid ((hA.below hB3).rd8 hd)
  have hsz := hB3.size
  have Hfl := Lib.hid hfl
  have Hz2 := Lib.hid hz2
  clear hz hnew hk0 hl0 hs0 hr1 hr2 ho3 hb3 hB hfl hz2 hd
  go_wp2_with (at_builtin; refine wpList_app rfl (.tmp 23) (.tmp 25) 23 rfl elemB w.heap.size A3 9 c3 _ rfl A 243 c (bvs d) rfl 252 rfl (bvs D) Hz2.out Ho3.out HA.out (bvs_one _) (by omega) (by omega) hsz ?_; intro A4 c4 w4 ho4 hg4 hr4)
  have hB4 := below_app hB3 Ho3.out hg4 hsz
  have h5 := ref_put A4 D c4 w4 ho4.rd' (by rw [Hfl.out]; omega)
  simp only [Crc.put_len, Hfl.out, Nat.reduceAdd] at h5
  refine h5.mono ?_
  rintro e w5 ⟨A5, c5, rfl, ho5, hb5⟩
  clear h5
  go_wp2
  go_ret2
  exact ⟨A5, c5, rfl, ho5.mono hB4.size, ext_trans hB4 hb5⟩

set_option maxRecDepth 100000 in
set_option maxHeartbeats 1000000 in
theorem ref_seal (p : Pg) (w : World) (hl : p.lsn < 18446744073709551616) (hA : RdB w p.a p.body) (hd : p.body.length ≤ 1000000) :
    Calls Try.prog 8 #[p.val] w fun e w' => ∃ A' c', e = .returned (.tuple #[.slice A' p.seal_.1.length c', .int .i64 (p.seal_.2 : Int)]) ∧ Own w' w.heap.size 5 1 A' p.seal_.1.length c' (bvs p.seal_.1) ∧ Below w.heap.size w w' := by
  obtain ⟨k, l, A, d, c⟩ := p
  simp only [Pg.val] at *
  by_cases hg : isKind k = true ∧ d.length = 243
  · have h1 : Pg.seal_ ⟨k, l, A, d, c⟩ = (Crc.put (UInt8.ofNat k.toNat :: Vint.fixed l 8 ++ d), 0) := by
      unfold Pg.seal_ Pg.good
      rw [if_pos (by simp [hg.1, hg.2])]
      rfl
    have h2 : (Crc.put (UInt8.ofNat k.toNat :: Vint.fixed l 8 ++ d)).length = 256 := by rw [Crc.put_len]; simp [fixed8_len, hg.2]
    rw [h1]
    simp only [h2]
    exact ref_seal_good A k l d c w hl hA hg.1 hg.2
  · have h1 : Hid (Pg.seal_ ⟨k, l, A, d, c⟩ = ([], 50)) := by
      show _ = _
      unfold Pg.seal_ Pg.good
      rw [if_neg (by simpa using hg)]
    have hg2 : isKind k = true → ((d.length : Int) == 243) = false := fun h => by rw [beq_eq_false_iff_ne]; intro e; exact hg ⟨h, by omega⟩
    clear hg
    cases hk : isKind k with
    | false =>
      clear hg2
      go_enter Try.func8, Try.ntmps8
      go_wp2_with fail
      refine (ref_kind k _).mono ?_
      rintro e w' ⟨rfl, rfl⟩
      rw [hk]
      go_wp2_with fail
      go_ret2
      rw [h1.out]
      exact ⟨none, 0, rfl, Own.none_ _ _ _ _ _, Ext.alloc w _⟩
    | true =>
      have hg3 := hg2 hk
      clear hg2
      go_enter Try.func8, Try.ntmps8
      go_wp2_with fail
      refine (ref_kind k _).mono ?_
      rintro e w' ⟨rfl, rfl⟩
      rw [hk]
      go_wp2_with fail
      go_ret2
      rw [h1.out]
      exact ⟨none, 0, rfl, Own.none_ _ _ _ _ _, Ext.alloc w _⟩
end Go.Proofs.Ytphjbemlofdepaa
