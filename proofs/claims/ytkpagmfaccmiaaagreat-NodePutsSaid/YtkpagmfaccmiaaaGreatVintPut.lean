
/- Contracts of a number's bytes (vint.groups, vint.Put). -/

import Derived.Test.YtkpagmfaccmiaaaGreatProg

import Derived.Test.YtkpagmfaccmiaaaGreatSeq

import Derived.Test.YtkpagmfaccmiaaaGreatReg2

import Derived.Test.YtkpagmfaccmiaaaGreatNum

import Derived.Test.YtkpagmfaccmiaaaGreatVintNum

namespace Go.Proofs.YtkpagmfaccmiaaaGreat

open Go.RowKit

attribute [local go_sem] Oper.semAt_some

def encG (x : UInt8 × Bool) : Array Value := #[.int .u8 (x.1.toNat : Int), .bool x.2]
def SameAt (g : Nat) (W W' : World) : Prop := W'.heap[g]? = W.heap[g]?

theorem grown_setCell (w : World) (p : Addr) (u : Value) : w.grownBy (w.setCell p u) (some p.block) :=
  ⟨rfl, rfl, rfl, by simp [World.setCell], fun i _ hn => Below.heap_setCell w p u i (fun e => hn (by rw [e]))⟩
theorem and127 (m : Nat) : bits .and .u8 ((m : Int) % 256) 127 = ((UInt8.ofNat (m % 128)).toNat : Int) := by
  have h1 := u8_and_nat (m % 256) 127 (by omega) (by omega)
  rw [nat_mask7] at h1
  rw [show ((m : Int) % 256) = ((m % 256 : Nat) : Int) by simp, UInt8.toNat_ofNat']
  refine h1.trans ?_
  congr 1
  omega

set_option maxRecDepth 100000 in
set_option maxHeartbeats 1000000 in
theorem groups_gives (k : Nat) (hk : 1 ≤ k) (gb : Nat) (n : Nat) (w : World) (hgb : w.heap[gb]? = some (.cells #[.int .u64 (n : Int)] 22 (0, 0))) (hn : n < 18446744073709551616) :
    GivesAll Fence.wide k Tryz.prog 102 #[.pointer (some ⟨gb, 0, none⟩)] encG (SameAt gb) (Vint.grpF 9 n) gb w := by
  intro l J W hB hJ hY h0
  have hgW : W.heap[gb]? = some (.cells #[.int .u64 (n : Int)] 22 (0, 0)) := (hB.block gb (lt_of_heap hgb)).trans hgb
  refine callsIn_of_wp Tryz.func102 rfl trivial ?_ rfl
  simp only [Tryz.ntmps102, List.size_toArray, List.length_cons, List.length_nil, Nat.reduceAdd, Nat.reduceSub, Array.replicate_succ, Array.replicate_zero, List.push_toArray, List.append_toArray, List.nil_append, List.cons_append]
  gi_wp2
  gi_loopw [3] (fun _ wr => ∃ (pre : List (UInt8 × Bool)) (f m : Nat), pre ++ Vint.grpF f m = Vint.grpF 9 n ∧ m < 128 ^ f * 2 ∧ m < 18446744073709551616 ∧ J pre wr ∧ wr.heap[gb]? = some (.cells #[.int .u64 (m : Int)] 22 (0, 0)))
    (fun _ wr => (intOf ((wr.cell? ⟨gb, 0, none⟩).getD undef)).toNat)
  case atStart => exact ⟨[], 9, n, rfl, by omega, hn, h0, hgW⟩
  case round =>
    obtain ⟨pre, f, m, hpre, hm, hm64, hJp, hg⟩ := hrel
    have hcell : wr.cell? ⟨gb, 0, none⟩ = some (.int .u64 (m : Int)) := cell_of_row wr gb 0 _ _ _ hg
    have hfr : wr.frozen? ⟨gb, 0, none⟩ = false := frozen_of_row wr gb 0 _ _ hg
    have HG0 := Lib.hid hg
    by_cases h : 128 ≤ m
    · obtain ⟨f, rfl⟩ : ∃ f', f = f' + 1 := by
        rcases f with _ | f
        · simp at hm; omega
        · exact ⟨f, rfl⟩
      have hg1 : Vint.grpF (f + 1) m = (UInt8.ofNat (m % 128), true) :: Vint.grpF f (m / 128) := by rw [Vint.grpF, if_neg (by omega)]
      rw [hg1] at hpre
      obtain ⟨fn, tmps, assign, body, hy, hR⟩ := hY pre (UInt8.ofNat (m % 128), true) wr hJp ⟨Vint.grpF f (m / 128), by rw [← hpre]; simp⟩
      have e7 : bits .and .u8 ((m : Int) % 256) 127 = ((UInt8.ofNat (m % 128)).toNat : Int) := and127 m
      simp only [encG] at hy
      generalize (UInt8.ofNat (m % 128)) = x at *
      gi_wp2
      refine hR.mono ?_
      rintro e W2 ⟨rfl, hJ2, hk2⟩
      have hg2 : W2.heap[gb]? = some (.cells #[.int .u64 (m : Int)] 22 (0, 0)) := Eq.trans hk2 hg
      have hcell2 : W2.cell? ⟨gb, 0, none⟩ = some (.int .u64 (m : Int)) := cell_of_row W2 gb 0 _ _ _ hg2
      have hfr2 : W2.frozen? ⟨gb, 0, none⟩ = false := frozen_of_row W2 gb 0 _ _ hg2
      clear hcell hfr hy
      have HG := Lib.hid hg2
      clear hg hg2 hg1
      gi_wp2
      have hg3 := heap_setCell_same W2 gb 0 _ _ (.int .u64 ((m / 128 : Nat) : Int)) HG.out
      have hm3 : ((m : Int) / 128) = ((m / 128 : Nat) : Int) := by simp
      have hlt : m / 128 < 128 ^ f * 2 := by rw [Nat.pow_succ] at hm; omega
      go_roundw
      case rel => exact ⟨pre ++ [(x, true)], f, m / 128, by rw [← hpre]; simp, hlt, by omega, hJ _ _ _ hJ2 (grown_setCell W2 ⟨gb, 0, none⟩ _) (by rw [HG.out]; rfl), by rw [hm3]; exact hg3⟩
      case measure =>
        rw [hm3, cell_of_row _ gb 0 _ _ _ hg3, cell_of_row _ gb 0 _ _ _ HG0.out]
        simp [intOf]
        omega
    · have hg1 : Vint.grpF f m = [(UInt8.ofNat m, false)] := by
        rcases f with _ | f
        · rfl
        · rw [Vint.grpF, if_pos (by omega)]
      rw [hg1] at hpre
      obtain ⟨fn, tmps, assign, body, hy, hR⟩ := hY pre (UInt8.ofNat m, false) wr hJp ⟨[], by rw [← hpre]; simp⟩
      have e7 : ((UInt8.ofNat m).toNat : Int) = (m : Int) := by rw [UInt8.toNat_ofNat', Nat.mod_eq_of_lt (by omega)]
      simp only [encG] at hy
      rw [e7] at hy
      clear e7 hg1
      gi_wp2
      refine hR.mono ?_
      rintro e W2 ⟨rfl, hJ2, hk2⟩
      gi_wp2
      go_end0
      exact ⟨⟨_, rfl⟩, by rw [hpre] at hJ2; exact hJ2⟩

theorem groups_any (n : Nat) (w : World) : Calls Tryz.prog 95 #[.int .u64 (n : Int)] w fun e w' =>
    e = .returned (.func (.func 102) #[] #[.pointer (some ⟨w.heap.size, 0, none⟩)]) ∧ w.alloc (.cells #[.int .u64 (n : Int)] 22) = w' := by
  go_enter Tryz.func95, Tryz.ntmps95
  go_wp2
  go_ret
  exact ⟨rfl, rfl⟩

/-- What has been gathered when these groups have come. -/
def gathered (pre : List (UInt8 × Bool)) : List UInt8 := pre.map Vint.outOf

def PutInv (w0 : World) (pre : List (UInt8 × Bool)) (W : World) : Prop :=
  ∃ A c, W.heap[w0.heap.size]? = some (.cells #[.slice A (gathered pre).length c] 25 (0, 0)) ∧ Own W (w0.heap.size + 2) 5 1 A (gathered pre).length c (bvs (gathered pre)) ∧ Below w0.heap.size w0 W ∧ w0.heap.size + 2 ≤ W.heap.size

theorem or128 (x : UInt8) : bits .or .u8 (x.toNat : Int) 128 = ((x ||| 128).toNat : Int) := by
  have := u8_or_nat x.toNat 128 x.toNat_lt (by omega)
  rw [UInt8.toNat_or]
  exact this

/-- A store into the variable, behind an append onto the row that it names. -/
theorem put_step {w W W2 : World} {A1 A2 : Option Addr} {n1 c1 n2 c2 B t t2 : Nat} {xs ys : List Value} {o : Obj} {v v0 : Value} (h2 : Own W B t 1 A1 n1 c1 xs) (h3 : Below w.heap.size w W) (h4 : w.heap.size + 2 ≤ W.heap.size) (hB : B = w.heap.size + 2)
    (ho2 : Own W2 B t 1 A2 n2 c2 ys) (hg2 : (W.alloc o).grownBy W2 (ownRow A1 c1)) (h12 : W2.heap[w.heap.size]? = some (.cells #[v0] t2 (0, 0))) :
    KeepsOthers W (W2.setCell ⟨w.heap.size, 0, none⟩ v) ∧ SameAt (w.heap.size + 1) W (W2.setCell ⟨w.heap.size, 0, none⟩ v) ∧ (W2.setCell ⟨w.heap.size, 0, none⟩ v).heap[w.heap.size]? = some (.cells #[v] t2 (0, 0)) ∧
      Own (W2.setCell ⟨w.heap.size, 0, none⟩ v) B t 1 A2 n2 c2 ys ∧ Below w.heap.size w (W2.setCell ⟨w.heap.size, 0, none⟩ v) ∧ w.heap.size + 2 ≤ (W2.setCell ⟨w.heap.size, 0, none⟩ v).heap.size := by
  have hs2 := hg2.size
  simp only [World.size_alloc] at hs2
  have hrow : ∀ j, ownRow A1 c1 = some j → w.heap.size + 2 ≤ j := fun j hj => by have := (h2.row_lt j hj).1; omega
  refine ⟨(KeepsOthers.alloc W o).trans ((KeepsOthers.of_grownBy hg2 ?_).trans (KeepsOthers.setCell _ _ _)), ?_, ?_, ?_, ?_, ?_⟩
  · intro j ob hj hob
    have h5 := h2.row_lt j hj
    rw [Below.heap_alloc W o j h5.2] at hob
    rcases h2.mem with h0 | ⟨g, off, cur, hA, hb, hgg, _⟩
    · simp [ownRow, h0] at hj
    · have : j = g := by
        rw [hA] at hj
        unfold ownRow at hj
        split at hj
        · cases hj
        · simpa using hj.symm
      subst this
      rw [hgg] at hob
      cases hob
      rfl
  · show _ = _
    rw [Below.heap_setCell W2 _ _ _ (by simp), hg2.block _ (by simp; omega) (fun e => by have := hrow _ e.symm; omega), Below.heap_alloc W o _ (by omega)]
  · have := heap_setCell_same W2 w.heap.size 0 _ _ v h12
    simpa using this
  · exact ho2.kept (grown_setCell W2 _ _) (fun k hk e => by injection e with e; have := (ho2.row_lt k hk).1; simp at e; omega)
  · have h6 : Below w.heap.size w (W.alloc o) := h3.alloc (by omega) o
    exact (h6.grown hg2 (by simp; omega) (fun k hk => by have := hrow k hk; omega)).setCell (Nat.le_refl _) v
  · have : (W2.setCell ⟨w.heap.size, 0, none⟩ v).heap.size = W2.heap.size := by simp [World.setCell]
    omega

set_option maxRecDepth 100000 in
set_option maxHeartbeats 1000000 in
theorem vput_any (n : Nat) (hn : n < 18446744073709551616) (w : World) :
    Calls Tryz.prog 81 #[.int .u64 (n : Int)] w fun e w' => ∃ A' c', e = .returned (.slice A' (Vint.put n).length c') ∧ Own w' w.heap.size 5 1 A' (Vint.put n).length c' (bvs (Vint.put n)) ∧ Below w.heap.size w w' := by
  refine (callsIn_wide (n := 5)).1 (callsIn_of_wp_marks Tryz.func81 rfl trivial ?_ rfl)
  simp only [Tryz.ntmps81, List.size_toArray, List.length_cons, List.length_nil, Nat.reduceAdd, Nat.reduceSub, Array.replicate_succ, Array.replicate_zero, List.push_toArray, List.append_toArray, List.nil_append, List.cons_append]
  refine wpIn_wide.2 ?_
  have Hn := Lib.hid hn
  clear hn
  go_wp2_with (go_at_call 95; refine (groups_any n _).mono ?_; rintro e w' ⟨rfl, rfl⟩)
  obtain ⟨W0, hW0⟩ : ∃ W0, (w.alloc (.cells #[.slice none 0 0] 25)).alloc (.cells #[.int .u64 (n : Int)] 22) = W0 := ⟨_, rfl⟩
  have hsz : W0.heap.size = w.heap.size + 2 := by rw [← hW0]; simp
  have hBl : W0.heap[w.heap.size]? = some (.cells #[.slice none 0 0] 25 (0, 0)) := by rw [← hW0]; exact heap_alloc2_old w _ _
  have hgb : W0.heap[w.heap.size + 1]? = some (.cells #[.int .u64 (n : Int)] 22 (0, 0)) := by rw [← hW0]; exact heap_alloc2_new w _ _
  have hb0 : Below w.heap.size w W0 := by rw [← hW0]; exact ((Below.refl _ w).alloc (Nat.le_refl _) _).alloc (by simp) _
  rw [hW0]
  clear hW0
  refine wp_range_all (n := 5) (by omega) (gf := 102) (lb := #[.pointer (some ⟨w.heap.size + 1, 0, none⟩)]) rfl (enters_fn Tryz.func102 (by kernel_rfl) rfl)
    (groups_gives 4 (by omega) (w.heap.size + 1) n W0 hgb Hn.out) (by omega) (fun h k => Eq.trans k h) ?hKb (fun _ => rfl) (PutInv w) ?hI ?hIg ?h0
    (fun x => { tmps := #[.int .u64 (n : Int), undef, .slice none 0 0, .pointer (some ⟨w.heap.size, 0, none⟩), .int .u8 (x.1.toNat : Int), .bool x.2, .int .u64 (n : Int), .func (.func 102) #[] #[.pointer (some ⟨w.heap.size + 1, 0, none⟩)], .int .u8 (x.1.toNat : Int), .bool x.2, undef, undef, undef, undef, undef, undef, undef, undef], defers := [] }) ?assign ?body ?done
  case hKb =>
    intro W l o o' hl ho hc
    exact World.putObj_heap_other (by omega)
  case hI =>
    rintro s A B row ⟨A1, c1, h1, h2, h3, h4⟩ hg hr
    refine ⟨A1, c1, (hg.block _ (lt_of_heap h1) (fun e => ?_)).trans h1, h2.kept hg (fun k hk e => ?_), h3.grown hg h3.size (fun k e => by have := (hr k e).1; omega), Nat.le_trans h4 hg.size⟩
    · have := (hr _ e.symm).1; omega
    · rcases h2.mem with h0 | ⟨g, off, cur, hA, hb, hgg, _⟩
      · simp [ownRow, h0] at hk
      · have h5 := (hr _ e.symm).2
        have : k = g := by
          rw [hA] at hk
          unfold ownRow at hk
          split at hk
          · cases hk
          · simpa using hk.symm
        subst this
        rw [hgg] at h5
        simp [Obj.isCells] at h5
  case hIg =>
    rintro s A B ⟨A1, c1, h1, h2, h3, h4⟩ hg _
    exact ⟨A1, c1, (hg.block _ (lt_of_heap h1) (fun e => by injection e with e; omega)).trans h1, h2.kept hg (fun k hk e => by injection e with e; have := (h2.row_lt k hk).1; omega), h3.grown hg h3.size (fun k e => by injection e with e; omega), Nat.le_trans h4 hg.size⟩
  case h0 => exact ⟨none, 0, hBl, Own.none_ _ _ _ _ _, hb0, by omega⟩
  case assign =>
    intro l x W K hK
    simp only [encG]
    gi_wp2
    exact hK
  case body =>
    rintro l pre ⟨x, b⟩ W ⟨A1, c1, h1, h2, h3, h4⟩ hpre
    have hcell : W.cell? ⟨w.heap.size, 0, none⟩ = some (.slice A1 (gathered pre).length c1) := cell_of_row W _ 0 _ _ _ h1
    have hfr : W.frozen? ⟨w.heap.size, 0, none⟩ = false := frozen_of_row W _ 0 _ _ h1
    have hlt := lt_of_heap h1
    have hlen : (gathered pre).length ≤ 10 := by
      have h4 := hpre.length_le
      have h5 := (Vint.grpF_len 9 n).2
      simp [gathered] at h4 ⊢
      omega
    have hsn : Hid (gathered (pre ++ [(x, b)]) = gathered pre ++ [Vint.outOf (x, b)]) := by show _ = _; simp [gathered]
    have hrow : Hid (∀ k, ownRow A1 c1 = some k → w.heap.size + 2 ≤ k ∧ k < W.heap.size) := h2.row_lt
    have H1 := Lib.hid h1
    have Hd' : Hid (∀ W', (∃ A c, W'.heap[w.heap.size]? = some (.cells #[.slice A (gathered (pre ++ [(x, b)])).length c] 25 (0, 0)) ∧ Own W' (w.heap.size + 2) 5 1 A (gathered (pre ++ [(x, b)])).length c (bvs (gathered (pre ++ [(x, b)]))) ∧ Below w.heap.size w W' ∧ w.heap.size + 2 ≤ W'.heap.size) → PutInv w (pre ++ [(x, b)]) W') := fun W' h => h
    have hown0 := fun v : UInt8 => h2.below (Ext.alloc W (.cells #[.int .u8 (v.toNat : Int)] 5))
    have Hown0 := Lib.hid hown0
    clear hown0 h1
    generalize gathered pre = d at *
    generalize gathered (pre ++ [(x, b)]) = d' at *
    -- one way of both: the byte v is laid
    have key : ∀ (v : UInt8), d' = d ++ [v] → Hid (d' = d ++ [v]) := fun _ h => h
    cases b with
    | false =>
      have hsn1 := key x hsn.out
      have hown := Hown0.out x
      dsimp only
      gi_wp2_with (gi_at_builtin; refine wpListIn_app rfl (.tmp 13) (.tmp 15) 25 rfl elemB (w.heap.size + 2) A1 d.length c1 (bvs d) rfl (some ⟨W.heap.size, 0, none⟩) 1 1 [.int .u8 (x.toNat : Int)] rfl d'.length (by rw [hsn1.out]; simp) (bvs d') (by rw [hsn1.out, bvs_app]; rfl) hown (Rd.new W 5 [.int .u8 (x.toNat : Int)]) (by simp; rfl) (by rw [hsn1.out]; simp; omega) (by rw [hsn1.out]; simp; omega) (by simp; omega) ?_; intro A2 c2 W2 ho2 hg2 hr2; have h12 : Hid (W2.heap[w.heap.size]? = some (.cells #[.slice A1 d.length c1] 25 (0, 0))) := (hg2.block _ (by simp; omega) (fun e => by have := (hrow.out _ e.symm).1; omega)).trans ((Below.heap_alloc W _ _ hlt).trans H1.out); have hcell2 := cell_of_row W2 _ 0 _ _ _ h12.out; have hfr2 := frozen_of_row W2 _ 0 _ _ h12.out)
      obtain ⟨g1, g2, g3, g4, g5, g6⟩ := put_step (v := .slice A2 d'.length c2) h2 h3 h4 rfl ho2 hg2 h12.out
      exact ⟨g1, g2, Hd'.out _ ⟨A2, c2, g3, g4, g5, g6⟩⟩
    | true =>
      have hsn1 := key (x ||| 128) hsn.out
      have hown := Hown0.out (x ||| 128)
      have ho128 := or128 x
      dsimp only
      gi_wp2_with (gi_at_builtin; refine wpListIn_app rfl (.tmp 13) (.tmp 15) 25 rfl elemB (w.heap.size + 2) A1 d.length c1 (bvs d) rfl (some ⟨W.heap.size, 0, none⟩) 1 1 [.int .u8 ((x ||| 128).toNat : Int)] rfl d'.length (by rw [hsn1.out]; simp) (bvs d') (by rw [hsn1.out, bvs_app]; rfl) hown (Rd.new W 5 [.int .u8 ((x ||| 128).toNat : Int)]) (by simp; rfl) (by rw [hsn1.out]; simp; omega) (by rw [hsn1.out]; simp; omega) (by simp; omega) ?_; intro A2 c2 W2 ho2 hg2 hr2; have h12 : Hid (W2.heap[w.heap.size]? = some (.cells #[.slice A1 d.length c1] 25 (0, 0))) := (hg2.block _ (by simp; omega) (fun e => by have := (hrow.out _ e.symm).1; omega)).trans ((Below.heap_alloc W _ _ hlt).trans H1.out); have hcell2 := cell_of_row W2 _ 0 _ _ _ h12.out; have hfr2 := frozen_of_row W2 _ 0 _ _ h12.out)
      obtain ⟨g1, g2, g3, g4, g5, g6⟩ := put_step (v := .slice A2 d'.length c2) h2 h3 h4 rfl ho2 hg2 h12.out
      exact ⟨g1, g2, Hd'.out _ ⟨A2, c2, g3, g4, g5, g6⟩⟩
  case done =>
    rintro D W ⟨A1, c1, h1, h2, h3, h4⟩ hD hK
    have hcell : W.cell? ⟨w.heap.size, 0, none⟩ = some (.slice A1 (Vint.put n).length c1) := cell_of_row W _ 0 _ _ _ h1
    dsimp only
    go_wp2
    refine ⟨by simp, .inl ⟨_, _, rfl, run_takeDeferred hK, ?_⟩⟩
    have hput : W.grownBy (W.putObj D (.deferred none)) (some D) := grownBy_putObj' W D _
    refine ⟨_, results_tmp rfl _ _ _, A1, c1, rfl, (h2.kept hput ?_).mono (by omega), h3.grown hput h3.size (fun k e => by injection e with e; omega)⟩
    intro k hk e
    injection e with e
    subst e
    rcases h2.mem with h0 | ⟨g, off, cur, hA, hb, hgg, _⟩
    · simp [ownRow, h0] at hk
    · have : k = g := by
        rw [hA] at hk
        unfold ownRow at hk
        split at hk
        · cases hk
        · simpa using hk.symm
      subst this
      rw [hgg] at hK
      cases hK
end Go.Proofs.YtkpagmfaccmiaaaGreat
