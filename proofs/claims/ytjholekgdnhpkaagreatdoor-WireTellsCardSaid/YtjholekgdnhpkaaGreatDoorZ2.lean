/- Texts of the proof, laid together: VintPut VintGet3 Slices VintRef2. -/
import Derived.Test.YtjholekgdnhpkaaGreatDoorProg
import Derived.Test.YtjholekgdnhpkaaGreatDoorZ1
import Derived.WalkSpells
set_option linter.unusedVariables false
set_option linter.unusedSimpArgs false
set_option linter.unusedSectionVars false
namespace Go.Proofs.YtjholekgdnhpkaaGreatDoor
open Go.RowKit
attribute [local go_sem] Oper.semAt_some
def encG (x : UInt8 × Bool) : Array Value := #[.int .u8 (x.1.toNat : Int), .bool x.2]
def SameAt (g : Nat) (W W' : World) : Prop := W'.heap[g]? = W.heap[g]?
theorem grown_setCell (w : World) (p : Addr) (u : Value) : w.grownBy (w.setCell p u) (some p.block) :=
 ⟨rfl, rfl, rfl, by simp [World.setCell], fun i _ hn => Below.heap_setCell w p u i (fun e => hn (by rw [e]))⟩
theorem and127 (m : Nat) : bits .and .u8 ((m : Int) % 256) 127 = ((UInt8.ofNat (m % 128)).toNat : Int) := by
 have h1 := u8_and_nat (m % 256) 127 (by omega) (by omega)
 rw [nat_mask7] at h1
 rw [show ((m : Int) % 256) = ((m % 256 : Nat) : Int) by simp, UInt8.toNat_ofNat']
 refine h1.trans ?_
 congr 1
 omega
set_option maxRecDepth 100000 in
set_option maxHeartbeats 1000000 in
theorem groups_gives (k : Nat) (hk : 1 ≤ k) (gb : Nat) (n : Nat) (w : World) (hgb : w.heap[gb]? = some (.cells #[.int .u64 (n : Int)] 24 (0, 0))) (hn : n < 18446744073709551616) :
  GivesAll Fence.wide k Tryz.prog 104 #[.pointer (some ⟨gb, 0, none⟩)] encG (SameAt gb) (Vint.grpF 9 n) gb w := by
 intro l J W hB hJ hY h0
 have hgW : W.heap[gb]? = some (.cells #[.int .u64 (n : Int)] 24 (0, 0)) := (hB.block gb (lt_of_heap hgb)).trans hgb
 refine callsIn_of_wp Tryz.func104 rfl trivial ?_ rfl
 simp only [Tryz.ntmps104, List.size_toArray, List.length_cons, List.length_nil, Nat.reduceAdd, Nat.reduceSub, Array.replicate_succ, Array.replicate_zero, List.push_toArray, List.append_toArray, List.nil_append, List.cons_append]
 gi_wp2
 gi_loopw [3] (fun _ wr => ∃ (pre : List (UInt8 × Bool)) (f m : Nat), pre ++ Vint.grpF f m = Vint.grpF 9 n ∧ m < 128 ^ f * 2 ∧ m < 18446744073709551616 ∧ J pre wr ∧ wr.heap[gb]? = some (.cells #[.int .u64 (m : Int)] 24 (0, 0)))
  (fun _ wr => (intOf ((wr.cell? ⟨gb, 0, none⟩).getD undef)).toNat)
 case atStart => exact ⟨[], 9, n, rfl, by omega, hn, h0, hgW⟩
 case round =>
  obtain ⟨pre, f, m, hpre, hm, hm64, hJp, hg⟩ := hrel
  have hcell : wr.cell? ⟨gb, 0, none⟩ = some (.int .u64 (m : Int)) := cell_of_row wr gb 0 _ _ _ hg
  have hfr : wr.frozen? ⟨gb, 0, none⟩ = false := frozen_of_row wr gb 0 _ _ hg
  have HG0 := Lib.hid hg
  by_cases h : 128 ≤ m
  ·
   obtain ⟨f, rfl⟩ : ∃ f', f = f' + 1 := by
    rcases f with _ | f
    ·
     simp at hm; omega
    ·
     exact ⟨f, rfl⟩
   have hg1 : Vint.grpF (f + 1) m = (UInt8.ofNat (m % 128), true) :: Vint.grpF f (m / 128) := by rw [Vint.grpF, if_neg (by omega)]
   rw [hg1] at hpre
   obtain ⟨fn, tmps, assign, body, hy, hR⟩ := hY pre (UInt8.ofNat (m % 128), true) wr hJp ⟨Vint.grpF f (m / 128), by rw [← hpre]; simp⟩
   have e7 : bits .and .u8 ((m : Int) % 256) 127 = ((UInt8.ofNat (m % 128)).toNat : Int) := and127 m
   simp only [encG] at hy
   generalize (UInt8.ofNat (m % 128)) = x at *
   gi_wp2
   refine hR.mono ?_
   rintro e W2 ⟨rfl, hJ2, hk2⟩
   have hg2 : W2.heap[gb]? = some (.cells #[.int .u64 (m : Int)] 24 (0, 0)) := Eq.trans hk2 hg
   have hcell2 : W2.cell? ⟨gb, 0, none⟩ = some (.int .u64 (m : Int)) := cell_of_row W2 gb 0 _ _ _ hg2
   have hfr2 : W2.frozen? ⟨gb, 0, none⟩ = false := frozen_of_row W2 gb 0 _ _ hg2
   clear hcell hfr hy
   have HG := Lib.hid hg2
   clear hg hg2 hg1
   gi_wp2
   have hg3 := heap_setCell_same W2 gb 0 _ _ (.int .u64 ((m / 128 : Nat) : Int)) HG.out
   have hm3 : ((m : Int) / 128) = ((m / 128 : Nat) : Int) := by simp
   have hlt : m / 128 < 128 ^ f * 2 := by rw [Nat.pow_succ] at hm; omega
   go_roundw
   case rel => exact ⟨pre ++ [(x, true)], f, m / 128, by rw [← hpre]; simp, hlt, by omega, hJ _ _ _ hJ2 (grown_setCell W2 ⟨gb, 0, none⟩ _) (by rw [HG.out]; rfl), by rw [hm3]; exact hg3⟩
   case measure =>
    rw [hm3, cell_of_row _ gb 0 _ _ _ hg3, cell_of_row _ gb 0 _ _ _ HG0.out]
    simp [intOf]
    omega
  ·
   have hg1 : Vint.grpF f m = [(UInt8.ofNat m, false)] := by
    rcases f with _ | f
    ·
     rfl
    ·
     rw [Vint.grpF, if_pos (by omega)]
   rw [hg1] at hpre
   obtain ⟨fn, tmps, assign, body, hy, hR⟩ := hY pre (UInt8.ofNat m, false) wr hJp ⟨[], by rw [← hpre]; simp⟩
   have e7 : ((UInt8.ofNat m).toNat : Int) = (m : Int) := by rw [UInt8.toNat_ofNat', Nat.mod_eq_of_lt (by omega)]
   simp only [encG] at hy
   rw [e7] at hy
   clear e7 hg1
   gi_wp2
   refine hR.mono ?_
   rintro e W2 ⟨rfl, hJ2, hk2⟩
   gi_wp2
   go_end0
   exact ⟨⟨_, rfl⟩, by rw [hpre] at hJ2; exact hJ2⟩
theorem groups_any (n : Nat) (w : World) : Calls Tryz.prog 99 #[.int .u64 (n : Int)] w fun e w' =>
  e = .returned (.func (.func 104) #[] #[.pointer (some ⟨w.heap.size, 0, none⟩)]) ∧ w.alloc (.cells #[.int .u64 (n : Int)] 24) = w' := by
 go_enter Tryz.func99, Tryz.ntmps99
 go_wp2
 go_ret
 exact ⟨rfl, rfl⟩
def gathered (pre : List (UInt8 × Bool)) : List UInt8 := pre.map Vint.outOf
def PutInv (w0 : World) (pre : List (UInt8 × Bool)) (W : World) : Prop :=
 ∃ A c, W.heap[w0.heap.size]? = some (.cells #[.slice A (gathered pre).length c] 23 (0, 0)) ∧ Own W (w0.heap.size + 2) 5 1 A (gathered pre).length c (bvs (gathered pre)) ∧ Below w0.heap.size w0 W ∧ w0.heap.size + 2 ≤ W.heap.size
theorem or128 (x : UInt8) : bits .or .u8 (x.toNat : Int) 128 = ((x ||| 128).toNat : Int) := by
 have := u8_or_nat x.toNat 128 x.toNat_lt (by omega)
 rw [UInt8.toNat_or]
 exact this
theorem put_step {w W W2 : World} {A1 A2 : Option Addr} {n1 c1 n2 c2 B t t2 : Nat} {xs ys : List Value} {o : Obj} {v v0 : Value} (h2 : Own W B t 1 A1 n1 c1 xs) (h3 : Below w.heap.size w W) (h4 : w.heap.size + 2 ≤ W.heap.size) (hB : B = w.heap.size + 2)
  (ho2 : Own W2 B t 1 A2 n2 c2 ys) (hg2 : (W.alloc o).grownBy W2 (ownRow A1 c1)) (h12 : W2.heap[w.heap.size]? = some (.cells #[v0] t2 (0, 0))) :
  KeepsOthers W (W2.setCell ⟨w.heap.size, 0, none⟩ v) ∧ SameAt (w.heap.size + 1) W (W2.setCell ⟨w.heap.size, 0, none⟩ v) ∧ (W2.setCell ⟨w.heap.size, 0, none⟩ v).heap[w.heap.size]? = some (.cells #[v] t2 (0, 0)) ∧
   Own (W2.setCell ⟨w.heap.size, 0, none⟩ v) B t 1 A2 n2 c2 ys ∧ Below w.heap.size w (W2.setCell ⟨w.heap.size, 0, none⟩ v) ∧ w.heap.size + 2 ≤ (W2.setCell ⟨w.heap.size, 0, none⟩ v).heap.size := by
 have hs2 := hg2.size
 simp only [World.size_alloc] at hs2
 have hrow : ∀ j, ownRow A1 c1 = some j → w.heap.size + 2 ≤ j := fun j hj => by have := (h2.row_lt j hj).1; omega
 refine ⟨(KeepsOthers.alloc W o).trans ((KeepsOthers.of_grownBy hg2 ?_).trans (KeepsOthers.setCell _ _ _)), ?_, ?_, ?_, ?_, ?_⟩
 ·
  intro j ob hj hob
  have h5 := h2.row_lt j hj
  rw [Below.heap_alloc W o j h5.2] at hob
  rcases h2.mem with h0 | ⟨g, off, cur, hA, hb, hgg, _⟩
  ·
   simp [ownRow, h0] at hj
  ·
   have : j = g := by
    rw [hA] at hj
    unfold ownRow at hj
    split at hj
    ·
     cases hj
    ·
     simpa using hj.symm
   subst this
   rw [hgg] at hob
   cases hob
   rfl
 ·
  show _ = _
  rw [Below.heap_setCell W2 _ _ _ (by simp), hg2.block _ (by simp; omega) (fun e => by have := hrow _ e.symm; omega), Below.heap_alloc W o _ (by omega)]
 ·
  have := heap_setCell_same W2 w.heap.size 0 _ _ v h12
  simpa using this
 ·
  exact ho2.kept (grown_setCell W2 _ _) (fun k hk e => by injection e with e; have := (ho2.row_lt k hk).1; simp at e; omega)
 ·
  have h6 : Below w.heap.size w (W.alloc o) := h3.alloc (by omega) o
  exact (h6.grown hg2 (by simp; omega) (fun k hk => by have := hrow k hk; omega)).setCell (Nat.le_refl _) v
 ·
  have : (W2.setCell ⟨w.heap.size, 0, none⟩ v).heap.size = W2.heap.size := by simp [World.setCell]
  omega
set_option maxRecDepth 100000 in
set_option maxHeartbeats 1000000 in
theorem vput_any (n : Nat) (hn : n < 18446744073709551616) (w : World) :
  Calls Tryz.prog 91 #[.int .u64 (n : Int)] w fun e w' => ∃ A' c', e = .returned (.slice A' (Vint.put n).length c') ∧ Own w' w.heap.size 5 1 A' (Vint.put n).length c' (bvs (Vint.put n)) ∧ Below w.heap.size w w' := by
 refine (callsIn_wide (n := 5)).1 (callsIn_of_wp_marks Tryz.func91 rfl trivial ?_ rfl)
 simp only [Tryz.ntmps91, List.size_toArray, List.length_cons, List.length_nil, Nat.reduceAdd, Nat.reduceSub, Array.replicate_succ, Array.replicate_zero, List.push_toArray, List.append_toArray, List.nil_append, List.cons_append]
 refine wpIn_wide.2 ?_
 have Hn := Lib.hid hn
 clear hn
 go_wp2_with (go_at_call 99; refine (groups_any n _).mono ?_; rintro e w' ⟨rfl, rfl⟩)
 obtain ⟨W0, hW0⟩ : ∃ W0, (w.alloc (.cells #[.slice none 0 0] 23)).alloc (.cells #[.int .u64 (n : Int)] 24) = W0 := ⟨_, rfl⟩
 have hsz : W0.heap.size = w.heap.size + 2 := by rw [← hW0]; simp
 have hBl : W0.heap[w.heap.size]? = some (.cells #[.slice none 0 0] 23 (0, 0)) := by rw [← hW0]; exact heap_alloc2_old w _ _
 have hgb : W0.heap[w.heap.size + 1]? = some (.cells #[.int .u64 (n : Int)] 24 (0, 0)) := by rw [← hW0]; exact heap_alloc2_new w _ _
 have hb0 : Below w.heap.size w W0 := by rw [← hW0]; exact ((Below.refl _ w).alloc (Nat.le_refl _) _).alloc (by simp) _
 rw [hW0]
 clear hW0
 refine wp_range_all (n := 5) (by omega) (gf := 104) (lb := #[.pointer (some ⟨w.heap.size + 1, 0, none⟩)]) rfl (enters_fn Tryz.func104 (by kernel_rfl) rfl)
  (groups_gives 4 (by omega) (w.heap.size + 1) n W0 hgb Hn.out) (by omega) (fun h k => Eq.trans k h) ?hKb (fun _ => rfl) (PutInv w) ?hI ?hIg ?h0
  (fun x => { tmps := #[.int .u64 (n : Int), undef, .slice none 0 0, .pointer (some ⟨w.heap.size, 0, none⟩), .int .u8 (x.1.toNat : Int), .bool x.2, .int .u64 (n : Int), .func (.func 104) #[] #[.pointer (some ⟨w.heap.size + 1, 0, none⟩)], .int .u8 (x.1.toNat : Int), .bool x.2, undef, undef, undef, undef, undef, undef, undef, undef], defers := [] }) ?assign ?body ?done
 case hKb =>
  intro W l o o' hl ho hc
  exact World.putObj_heap_other (by omega)
 case hI =>
  rintro s A B row ⟨A1, c1, h1, h2, h3, h4⟩ hg hr
  refine ⟨A1, c1, (hg.block _ (lt_of_heap h1) (fun e => ?_)).trans h1, h2.kept hg (fun k hk e => ?_), h3.grown hg h3.size (fun k e => by have := (hr k e).1; omega), Nat.le_trans h4 hg.size⟩
  ·
   have := (hr _ e.symm).1; omega
  ·
   rcases h2.mem with h0 | ⟨g, off, cur, hA, hb, hgg, _⟩
   ·
    simp [ownRow, h0] at hk
   ·
    have h5 := (hr _ e.symm).2
    have : k = g := by
     rw [hA] at hk
     unfold ownRow at hk
     split at hk
     ·
      cases hk
     ·
      simpa using hk.symm
    subst this
    rw [hgg] at h5
    simp [Obj.isCells] at h5
 case hIg =>
  rintro s A B ⟨A1, c1, h1, h2, h3, h4⟩ hg _
  exact ⟨A1, c1, (hg.block _ (lt_of_heap h1) (fun e => by injection e with e; omega)).trans h1, h2.kept hg (fun k hk e => by injection e with e; have := (h2.row_lt k hk).1; omega), h3.grown hg h3.size (fun k e => by injection e with e; omega), Nat.le_trans h4 hg.size⟩
 case h0 => exact ⟨none, 0, hBl, Own.none_ _ _ _ _ _, hb0, by omega⟩
 case assign =>
  intro l x W K hK
  simp only [encG]
  gi_wp2
  exact hK
 case body =>
  rintro l pre ⟨x, b⟩ W ⟨A1, c1, h1, h2, h3, h4⟩ hpre
  have hcell : W.cell? ⟨w.heap.size, 0, none⟩ = some (.slice A1 (gathered pre).length c1) := cell_of_row W _ 0 _ _ _ h1
  have hfr : W.frozen? ⟨w.heap.size, 0, none⟩ = false := frozen_of_row W _ 0 _ _ h1
  have hlt := lt_of_heap h1
  have hlen : (gathered pre).length ≤ 10 := by
   have h4 := hpre.length_le
   have h5 := (Vint.grpF_len 9 n).2
   simp [gathered] at h4 ⊢
   omega
  have hsn : Hid (gathered (pre ++ [(x, b)]) = gathered pre ++ [Vint.outOf (x, b)]) := by show _ = _; simp [gathered]
  have hrow : Hid (∀ k, ownRow A1 c1 = some k → w.heap.size + 2 ≤ k ∧ k < W.heap.size) := h2.row_lt
  have H1 := Lib.hid h1
  have Hd' : Hid (∀ W', (∃ A c, W'.heap[w.heap.size]? = some (.cells #[.slice A (gathered (pre ++ [(x, b)])).length c] 23 (0, 0)) ∧ Own W' (w.heap.size + 2) 5 1 A (gathered (pre ++ [(x, b)])).length c (bvs (gathered (pre ++ [(x, b)]))) ∧ Below w.heap.size w W' ∧ w.heap.size + 2 ≤ W'.heap.size) → PutInv w (pre ++ [(x, b)]) W') := fun W' h => h
  have hown0 := fun v : UInt8 => h2.below (Ext.alloc W (.cells #[.int .u8 (v.toNat : Int)] 5))
  have Hown0 := Lib.hid hown0
  clear hown0 h1
  generalize gathered pre = d at *
  generalize gathered (pre ++ [(x, b)]) = d' at *

  have key : ∀ (v : UInt8), d' = d ++ [v] → Hid (d' = d ++ [v]) := fun _ h => h
  cases b with
  | false =>
   have hsn1 := key x hsn.out
   have hown := Hown0.out x
   dsimp only
   gi_wp2_with (gi_at_builtin; refine wpListIn_app rfl (.tmp 13) (.tmp 15) 23 rfl elemB (w.heap.size + 2) A1 d.length c1 (bvs d) rfl (some ⟨W.heap.size, 0, none⟩) 1 1 [.int .u8 (x.toNat : Int)] rfl d'.length (by rw [hsn1.out]; simp) (bvs d') (by rw [hsn1.out, bvs_app]; rfl) hown (Rd.new W 5 [.int .u8 (x.toNat : Int)]) (by simp; rfl) (by rw [hsn1.out]; simp; omega) (by rw [hsn1.out]; simp; omega) (by simp; omega) ?_; intro A2 c2 W2 ho2 hg2 hr2; have h12 : Hid (W2.heap[w.heap.size]? = some (.cells #[.slice A1 d.length c1] 23 (0, 0))) := (hg2.block _ (by simp; omega) (fun e => by have := (hrow.out _ e.symm).1; omega)).trans ((Below.heap_alloc W _ _ hlt).trans H1.out); have hcell2 := cell_of_row W2 _ 0 _ _ _ h12.out; have hfr2 := frozen_of_row W2 _ 0 _ _ h12.out)
   obtain ⟨g1, g2, g3, g4, g5, g6⟩ := put_step (v := .slice A2 d'.length c2) h2 h3 h4 rfl ho2 hg2 h12.out
   exact ⟨g1, g2, Hd'.out _ ⟨A2, c2, g3, g4, g5, g6⟩⟩
  | true =>
   have hsn1 := key (x ||| 128) hsn.out
   have hown := Hown0.out (x ||| 128)
   have ho128 := or128 x
   dsimp only
   gi_wp2_with (gi_at_builtin; refine wpListIn_app rfl (.tmp 13) (.tmp 15) 23 rfl elemB (w.heap.size + 2) A1 d.length c1 (bvs d) rfl (some ⟨W.heap.size, 0, none⟩) 1 1 [.int .u8 ((x ||| 128).toNat : Int)] rfl d'.length (by rw [hsn1.out]; simp) (bvs d') (by rw [hsn1.out, bvs_app]; rfl) hown (Rd.new W 5 [.int .u8 ((x ||| 128).toNat : Int)]) (by simp; rfl) (by rw [hsn1.out]; simp; omega) (by rw [hsn1.out]; simp; omega) (by simp; omega) ?_; intro A2 c2 W2 ho2 hg2 hr2; have h12 : Hid (W2.heap[w.heap.size]? = some (.cells #[.slice A1 d.length c1] 23 (0, 0))) := (hg2.block _ (by simp; omega) (fun e => by have := (hrow.out _ e.symm).1; omega)).trans ((Below.heap_alloc W _ _ hlt).trans H1.out); have hcell2 := cell_of_row W2 _ 0 _ _ _ h12.out; have hfr2 := frozen_of_row W2 _ 0 _ _ h12.out)
   obtain ⟨g1, g2, g3, g4, g5, g6⟩ := put_step (v := .slice A2 d'.length c2) h2 h3 h4 rfl ho2 hg2 h12.out
   exact ⟨g1, g2, Hd'.out _ ⟨A2, c2, g3, g4, g5, g6⟩⟩
 case done =>
  rintro D W ⟨A1, c1, h1, h2, h3, h4⟩ hD hK
  have hcell : W.cell? ⟨w.heap.size, 0, none⟩ = some (.slice A1 (Vint.put n).length c1) := cell_of_row W _ 0 _ _ _ h1
  dsimp only
  go_wp2
  refine ⟨by simp, .inl ⟨_, _, rfl, run_takeDeferred hK, ?_⟩⟩
  have hput : W.grownBy (W.putObj D (.deferred none)) (some D) := grownBy_putObj' W D _
  refine ⟨_, results_tmp rfl _ _ _, A1, c1, rfl, (h2.kept hput ?_).mono (by omega), h3.grown hput h3.size (fun k e => by injection e with e; omega)⟩
  intro k hk e
  injection e with e
  subst e
  rcases h2.mem with h0 | ⟨g, off, cur, hA, hb, hgg, _⟩
  ·
   simp [ownRow, h0] at hk
  ·
   have : k = g := by
    rw [hA] at hk
    unfold ownRow at hk
    split at hk
    ·
     cases hk
    ·
     simpa using hk.symm
   subst this
   rw [hgg] at hK
   cases hK
end Go.Proofs.YtjholekgdnhpkaaGreatDoor
namespace Go.Proofs.YtjholekgdnhpkaaGreatDoor
open Go.RowKit
attribute [local go_sem] Oper.semAt_some
theorem ends_any (b : Nat) (d : Bool) (w : World) (hd : decide ((b : Int) < 128) = d) : Calls Tryz.prog 101 #[.int .u8 (b : Int)] w fun e w' => e = .returned (.bool d) ∧ w = w' := by
 subst hd
 go_enter Tryz.func101, Tryz.ntmps101
 go_wp2
 go_ret
 exact ⟨rfl, rfl⟩
set_option maxHeartbeats 400000 in
theorem index_any (A : Option Addr) (bs : List UInt8) (cap : Nat) (w : World) (hA : RdB w A bs) (hl : bs.length ≤ 140737488355328) :
  Calls Tryz.prog 100 #[.slice A bs.length cap, .func (.func 101) #[] #[]] w fun e w' =>
   e = .returned (.int .i64 (Vint.firstI bs)) ∧ w = w' := by
 go_enter Tryz.func100, Tryz.ntmps100
 go_wp2
 go_loop [8] (fun i => ∃ k : Nat, k ≤ bs.length ∧ i = .int .i64 k ∧ Hid (∀ j (h : j < bs.length), j < k → 128 ≤ bs[j].toNat)) (fun i => bs.length - (intOf i).toNat)
 case atStart => exact ⟨0, by omega, rfl, fun j _ h => by omega⟩
 case round =>
  obtain ⟨k, hk, rfl, hall⟩ := hrel
  by_cases h : k < bs.length
  ·
   obtain ⟨ad, rfl, hcell⟩ := hA.at_ h
   have hb := bs[k].toNat_lt
   by_cases h8 : bs[k].toNat < 128
   ·
    have hfin : Hid (Vint.firstI bs = k) := by
     have h9 := Vint.first_at h h8 (fun j hj => hall.out j (by omega) hj)
     show _ = _
     unfold Vint.firstI; rw [h9, if_neg (by omega)]
    have H8 := Lib.hid h8
    generalize bs[k].toNat = b at *
    have hd := Lib.hid (show decide ((b : Int) < 128) = true by simp; omega)
    clear h8
    go_wp2_with (go_at_call 101; refine (ends_any b true _ hd.out).mono ?_; rintro e w' ⟨rfl, rfl⟩)
    go_ret
    exact ⟨ret_int (by rw [hfin.out]), rfl⟩
   ·
    have hnext : Hid (∀ j (h : j < bs.length), j < k + 1 → 128 ≤ bs[j].toNat) := fun j hj hjk => by
     rcases Nat.lt_or_ge j k with h1 | h1
     ·
      exact hall.out j hj h1
     ·
      obtain rfl : j = k := by omega
      omega
    generalize bs[k].toNat = b at *
    have hd := Lib.hid (show decide ((b : Int) < 128) = false by simp; omega)
    go_wp2_with (go_at_call 101; refine (ends_any b false _ hd.out).mono ?_; rintro e w' ⟨rfl, rfl⟩)
    go_round
    case rel => exact ⟨k + 1, by omega, by go_num, hnext⟩
    case measure => simp [intOf]; omega
  ·
   obtain rfl : k = bs.length := by omega
   have hfin : Hid (Vint.firstI bs = -1) := by
    show _ = _
    unfold Vint.firstI; rw [if_pos (Vint.first_none (fun j hj => hall.out j hj hj))]
   go_wp2
   go_ret
   exact ⟨ret_int (by rw [hfin.out]), rfl⟩
def encB (x : Nat × UInt8) : Array Value := #[.int .i64 (x.1 : Int), .int .u8 (x.2.toNat : Int)]
def KeepB (gb m0 : Nat) (W W' : World) : Prop := SameAt gb W W' ∧ Below m0 W W'
set_option maxRecDepth 100000 in
set_option maxHeartbeats 1000000 in
theorem back_gives (k : Nat) (hk : 1 ≤ k) (gb : Nat) (A : Option Addr) (bs : List UInt8) (cap : Nat) (w0 w : World) (hgb : w.heap[gb]? = some (.cells #[.slice A bs.length cap] 23 (0, 0))) (hA : RdB w0 A bs) (hb0 : Below w0.heap.size w0 w) (hl : bs.length ≤ 140737488355328) :
  GivesAll Fence.wide k Tryz.prog 105 #[.pointer (some ⟨gb, 0, none⟩)] encB (KeepB gb w0.heap.size) (Vint.back bs) gb w := by
 intro l J W hB hJ hY h0
 have hgW : W.heap[gb]? = some (.cells #[.slice A bs.length cap] 23 (0, 0)) := (hB.block gb (lt_of_heap hgb)).trans hgb
 have hbW : Below w0.heap.size w0 W := hb0.trans (hB.mono hb0.size)
 have hcell0 : W.cell? ⟨gb, 0, none⟩ = some (.slice A bs.length cap) := cell_of_row W gb 0 _ _ _ hgW
 clear hB hgb
 refine callsIn_of_wp Tryz.func105 rfl trivial ?_ rfl
 simp only [Tryz.ntmps105, List.size_toArray, List.length_cons, List.length_nil, Nat.reduceAdd, Nat.reduceSub, Array.replicate_succ, Array.replicate_zero, List.push_toArray, List.append_toArray, List.nil_append, List.cons_append]
 gi_wp2
 clear hcell0
 gi_loopw [3] (fun i wr => ∃ m : Nat, m ≤ bs.length ∧ i = .int .i64 ((m : Int) - 1) ∧ J ((Vint.back bs).take (bs.length - m)) wr ∧ wr.heap[gb]? = some (.cells #[.slice A bs.length cap] 23 (0, 0)) ∧ Below w0.heap.size w0 wr)
  (fun i _ => (intOf i + 1).toNat)
 case atStart => exact ⟨bs.length, by omega, rfl, by simpa using h0, hgW, hbW⟩
 case round =>
  obtain ⟨m, hm, rfl, hJp, hg, hbw⟩ := hrel
  have hcell : wr.cell? ⟨gb, 0, none⟩ = some (.slice A bs.length cap) := cell_of_row wr gb 0 _ _ _ hg
  by_cases h : 0 < m
  ·
   obtain ⟨j, rfl⟩ : ∃ j, m = j + 1 := ⟨m - 1, by omega⟩
   have hnx := Vint.back_next bs j (by omega)
   obtain ⟨ad, rfl, hbyte⟩ := (hA.below hbw).at_ (k := j) (by omega)
   obtain ⟨fn, tmps, assign, body, hy, hR⟩ := hY _ (j, bs[j]) wr hJp ⟨(Vint.back bs).drop (bs.length - j), by rw [hnx, List.take_append_drop]⟩
   simp only [encB] at hy
   have Hnx := Lib.hid hnx
   have hj : ((j + 1 : Nat) : Int) - 1 = (j : Int) := by omega
   rw [hj]
   clear hnx
   generalize bs[j] = x at *
   gi_wp2
   refine hR.mono ?_
   rintro e W2 ⟨rfl, hJ2, hk2, hk3⟩
   rw [Hnx.out] at hJ2
   clear hcell hbyte hy
   gi_wp2
   go_roundw
   case rel => exact ⟨j, by omega, rfl, hJ2, Eq.trans hk2 hg, hbw.trans hk3⟩
   case measure => simp [intOf]
  ·
   obtain rfl : m = 0 := by omega
   gi_wp2
   go_end0
   exact ⟨⟨_, rfl⟩, by rw [Nat.sub_zero, List.take_of_length_le (by rw [Vint.back_len]; omega)] at hJp; exact hJp⟩
theorem backward_any (A : Option Addr) (n cap : Nat) (w : World) : Calls Tryz.prog 102 #[.slice A n cap] w fun e w' =>
  e = .returned (.func (.func 105) #[] #[.pointer (some ⟨w.heap.size, 0, none⟩)]) ∧ w.alloc (.cells #[.slice A n cap] 23) = w' := by
 go_enter Tryz.func102, Tryz.ntmps102
 go_wp2
 go_ret
 exact ⟨rfl, rfl⟩
end Go.Proofs.YtjholekgdnhpkaaGreatDoor
namespace Go.Proofs.YtjholekgdnhpkaaGreatDoor
open Go.RowKit
attribute [local go_sem] Oper.semAt_some
def getRes (r : Nat × Nat × Nat) : Value := .tuple #[.int .u64 (r.1 : Int), .int .i64 (r.2.1 : Int), .int .i64 (r.2.2 : Int)]
theorem firstI_none {b : List UInt8} (h : Vint.first b = b.length) : Vint.firstI b = -1 := by unfold Vint.firstI; rw [if_pos h]
theorem firstI_some {b : List UInt8} (h : Vint.first b < b.length) : Vint.firstI b = ((Vint.first b : Nat) : Int) := by unfold Vint.firstI; rw [if_neg (by omega)]
def Cut10 (bs b : List UInt8) : Prop := (bs.length ≤ 10 ∧ b = bs) ∨ (10 < bs.length ∧ b = bs.take 10)
theorem cut10 (bs : List UInt8) : Cut10 bs (bs.take 10) := by
 by_cases h : bs.length ≤ 10
 ·
  exact .inl ⟨h, List.take_of_length_le h⟩
 ·
  exact .inr ⟨by omega, rfl⟩
set_option maxHeartbeats 1000000 in
theorem get_none (A : Option Addr) (bs b : List UInt8) (cap : Nat) (w : World) (hA : RdB w A bs) (hl : bs.length ≤ cap) (hb : Cut10 bs b) (h : Vint.first b = b.length) :
  Calls Tryz.prog 92 #[.slice A bs.length cap] w fun e w' => e = .returned (getRes (0, 0, if bs.length < 10 then 10 else 11)) ∧ w = w' := by
 have hf := Lib.hid (firstI_none h)
 clear h
 rcases hb with ⟨h10, rfl⟩ | ⟨h10, rfl⟩
 ·
  have hix := Lib.hid (index_any A b cap w hA (by omega))
  by_cases h9 : b.length < 10
  ·
   rw [if_pos h9]
   go_enter Tryz.func92, Tryz.ntmps92
   go_wp2_with (go_at_call 100; refine hix.out.mono ?_; rintro e w' ⟨rfl, rfl⟩; rw [hf.out])
   go_ret3
   exact ⟨rfl, rfl⟩
  ·
   rw [if_neg h9]
   go_enter Tryz.func92, Tryz.ntmps92
   go_wp2_with (go_at_call 100; refine hix.out.mono ?_; rintro e w' ⟨rfl, rfl⟩; rw [hf.out])
   go_ret3
   exact ⟨rfl, rfl⟩
 ·
  rw [if_neg (by omega)]
  have hl10 : (bs.take 10).length = 10 := by simp; omega
  have hix := index_any A (bs.take 10) cap w (hA.head (m := 10) (by omega)) (by omega)
  rw [hl10] at hix
  have Hix := Lib.hid hix
  clear hix hl10
  go_enter Tryz.func92, Tryz.ntmps92
  go_wp2_with (go_at_call 100; refine Hix.out.mono ?_; rintro e w' ⟨rfl, rfl⟩; rw [hf.out])
  go_ret3
  exact ⟨rfl, rfl⟩
set_option maxHeartbeats 1000000 in
theorem get_wide (A : Option Addr) (bs b : List UInt8) (cap i x : Nat) (w : World) (hA : RdB w A bs) (hl : bs.length ≤ cap) (hb : Cut10 bs b) (h : Vint.first b = i) (hi : i < b.length) (hx : b[i].toNat = x) (h9 : i = 9) (h1 : 1 < x) :
  Calls Tryz.prog 92 #[.slice A bs.length cap] w fun e w' => e = .returned (getRes (0, 0, 11)) ∧ w = w' := by
 have hf := Lib.hid (firstI_some (b := b) (by omega))
 rw [h] at hf
 have hA' : RdB w A b := by
  rcases hb with ⟨_, rfl⟩ | ⟨_, rfl⟩
  ·
   exact hA
  ·
   exact hA.head (by omega)
 have hbl : b.length ≤ 10 := by
  rcases hb with ⟨h2, rfl⟩ | ⟨h2, rfl⟩
  ·
   exact h2
  ·
   simp; omega
 have hix := Lib.hid (index_any A b cap w hA' (by omega))
 obtain ⟨ad, rfl, hcell⟩ := hA'.at_ hi
 rw [hx] at hcell
 have k9 : ((i : Int) == 9) = true := by rw [beq_iff_eq]; omega
 have k0 : decide (1 < (x : Int)) = true := by simp; omega
 clear h9
 clear hA' h hx hA
 have hi' : i < bs.length := by
  rcases hb with ⟨_, rfl⟩ | ⟨_, rfl⟩
  ·
   exact hi
  ·
   omega
 rcases hb with ⟨h2, rfl⟩ | ⟨h2, rfl⟩
 ·
  go_enter Tryz.func92, Tryz.ntmps92
  go_wp2_with (go_at_call 100; refine hix.out.mono ?_; rintro e w' ⟨rfl, rfl⟩; rw [hf.out])
  go_ret3
  exact ⟨rfl, rfl⟩
 ·
  have hl10 : (bs.take 10).length = 10 := by simp; omega
  rw [hl10] at hix hi
  clear hl10
  go_enter Tryz.func92, Tryz.ntmps92
  go_wp2_with (go_at_call 100; refine hix.out.mono ?_; rintro e w' ⟨rfl, rfl⟩; rw [hf.out])
  go_ret3
  exact ⟨rfl, rfl⟩
set_option maxHeartbeats 1000000 in
theorem get_form (A : Option Addr) (bs b : List UInt8) (cap i x : Nat) (w : World) (hA : RdB w A bs) (hl : bs.length ≤ cap) (hb : Cut10 bs b) (h : Vint.first b = i) (hi : i < b.length) (hx : b[i].toNat = x) (h1 : 0 < i ∧ x = 0) :
  Calls Tryz.prog 92 #[.slice A bs.length cap] w fun e w' => e = .returned (getRes (0, 0, 12)) ∧ w = w' := by
 have hf := Lib.hid (firstI_some (b := b) (by omega))
 rw [h] at hf
 have hA' : RdB w A b := by
  rcases hb with ⟨_, rfl⟩ | ⟨_, rfl⟩
  ·
   exact hA
  ·
   exact hA.head (by omega)
 have hbl : b.length ≤ 10 := by
  rcases hb with ⟨h2, rfl⟩ | ⟨h2, rfl⟩
  ·
   exact h2
  ·
   simp; omega
 have hix := Lib.hid (index_any A b cap w hA' (by omega))
 obtain ⟨ad, rfl, hcell⟩ := hA'.at_ hi
 rw [hx] at hcell
 obtain ⟨h1, rfl⟩ := h1
 have k0 : decide (0 < (i : Int)) = true := by simp; omega
 clear hA' h hx hA
 have hi' : i < bs.length := by
  rcases hb with ⟨_, rfl⟩ | ⟨_, rfl⟩
  ·
   exact hi
  ·
   omega
 rcases hb with ⟨h2, rfl⟩ | ⟨h2, rfl⟩
 ·
  go_enter Tryz.func92, Tryz.ntmps92
  cases k9 : ((i : Int) == 9) <;> go_wp2_with (go_at_call 100; refine hix.out.mono ?_; rintro e w' ⟨rfl, rfl⟩; rw [hf.out])
  all_goals
   go_ret3
   exact ⟨rfl, rfl⟩
 ·
  have hl10 : (bs.take 10).length = 10 := by simp; omega
  rw [hl10] at hix hi
  clear hl10
  go_enter Tryz.func92, Tryz.ntmps92
  cases k9 : ((i : Int) == 9) <;> go_wp2_with (go_at_call 100; refine hix.out.mono ?_; rintro e w' ⟨rfl, rfl⟩; rw [hf.out])
  all_goals
   go_ret3
   exact ⟨rfl, rfl⟩
end Go.Proofs.YtjholekgdnhpkaaGreatDoor
namespace Go.Proofs.YtjholekgdnhpkaaGreatDoor
open Go.RowKit
attribute [local go_sem] Oper.semAt_some
theorem or7 (a c : Nat) (ha : a * 128 + c % 128 < 18446744073709551616) : bits .or .u64 ((a : Int) * 128) ((c % 128 : Nat) : Int) = ((a * 128 + c % 128 : Nat) : Int) := by
 rw [show ((a : Int) * 128) = ((a * 128 : Nat) : Int) by omega, u64_or_nat _ _ (by omega) (by omega)]
 have := nat_join 7 (a * 128) (c % 128) (by omega) (by omega)
 rw [this]
theorem and7 (c : Nat) (hc : c < 256) : bits .and .u8 (c : Int) 127 = ((c % 128 : Nat) : Int) := by
 have h1 := u8_and_nat c 127 hc (by omega)
 rw [nat_mask7] at h1
 exact h1
def GetInv (w0 : World) (g : List UInt8) (pre : List (Nat × UInt8)) (W : World) : Prop :=
 W.heap[w0.heap.size]? = some (.cells #[.int .u64 ((Vint.val (g.drop (g.length - pre.length)) : Nat) : Int)] 24 (0, 0)) ∧ Below w0.heap.size w0 W ∧ w0.heap.size + 2 ≤ W.heap.size
theorem get_hKb (w W0 : World) (hsz : W0.heap.size = w.heap.size + 2) : ∀ (W : World) (l : Nat) (o o' : Obj), W0.heap.size ≤ l → W.heap[l]? = some o → o.isCells = false → KeepB (w.heap.size + 1) w.heap.size W (W.putObj l o') := fun W l o o' hl ho _ =>
 ⟨World.putObj_heap_other (by omega), (Below.refl _ W).grown (grownBy_putObj' W l o') (by have := lt_of_heap ho; omega) (fun k e => by injection e with e; omega)⟩
theorem get_hI (w W0 : World) (g : List UInt8) (hsz : W0.heap.size = w.heap.size + 2) : ∀ s A B row, GetInv w g s A → A.grownBy B row → (∀ r, row = some r → W0.heap.size ≤ r ∧ (A.heap[r]?.map Obj.isCells) = some false) → GetInv w g s B := by
 rintro s A B row ⟨h1, h3, h4⟩ hg hr
 exact ⟨(hg.block _ (lt_of_heap h1) (fun e => by have := (hr _ e.symm).1; omega)).trans h1, h3.grown hg h3.size (fun k e => by have := (hr k e).1; omega), Nat.le_trans h4 hg.size⟩
theorem get_hIg (w : World) (g : List UInt8) : ∀ s A B, GetInv w g s A → A.grownBy B (some (w.heap.size + 1)) → (A.heap[w.heap.size + 1]?.map Obj.isCells) = some true → GetInv w g s B := by
 rintro s A B ⟨h1, h3, h4⟩ hg _
 exact ⟨(hg.block _ (lt_of_heap h1) (fun e => by injection e with e; omega)).trans h1, h3.grown hg h3.size (fun k e => by injection e with e; omega), Nat.le_trans h4 hg.size⟩
theorem get_body {w W : World} {g : List UInt8} {pre : List (Nat × UInt8)} {j : Nat} {y : UInt8} (hI : GetInv w g pre W) (hpre : (pre ++ [(j, y)]) <+: Vint.back g) (hval : Vint.val g < 18446744073709551616) :
  ∃ a : Nat, a * 128 + y.toNat % 128 < 18446744073709551616 ∧ W.heap[w.heap.size]? = some (.cells #[.int .u64 (a : Int)] 24 (0, 0)) ∧
   (∀ v, v = ((a * 128 + y.toNat % 128 : Nat) : Int) → KeepsOthers W (W.setCell ⟨w.heap.size, 0, none⟩ (.int .u64 v)) ∧ KeepB (w.heap.size + 1) w.heap.size W (W.setCell ⟨w.heap.size, 0, none⟩ (.int .u64 v)) ∧ GetInv w g (pre ++ [(j, y)]) (W.setCell ⟨w.heap.size, 0, none⟩ (.int .u64 v))) := by
 obtain ⟨h1, h3, h4⟩ := hI
 obtain ⟨hl, h5, rfl, rfl⟩ := Vint.back_pre hpre
 have h6 := Vint.val_cons_drop g (g.length - 1 - pre.length) h5
 rw [show g.length - 1 - pre.length + 1 = g.length - pre.length by omega] at h6
 refine ⟨Vint.val (g.drop (g.length - pre.length)), ?_, h1, ?_⟩
 ·
  rw [← h6]; exact Nat.lt_of_le_of_lt (Vint.val_drop_le g _) hval
 ·
  rintro v rfl
  refine ⟨KeepsOthers.setCell _ _ _, ⟨?_, (Below.refl w.heap.size W).setCell (p := ⟨w.heap.size, 0, none⟩) (Nat.le_refl _) _⟩, ?_, h3.setCell (Nat.le_refl _) _, ?_⟩
  ·
   show _ = _
   rw [Below.heap_setCell W _ _ _ (by simp)]
  ·
   rw [List.length_append, List.length_singleton, show g.length - (pre.length + 1) = g.length - 1 - pre.length by omega, h6]
   have := heap_setCell_same W w.heap.size 0 _ _ (.int .u64 ((Vint.val (g.drop (g.length - pre.length)) * 128 + g[g.length - 1 - pre.length].toNat % 128 : Nat) : Int)) h1
   simpa using this
  ·
   have : (W.setCell ⟨w.heap.size, 0, none⟩ (.int .u64 ((Vint.val (g.drop (g.length - pre.length)) * 128 + g[g.length - 1 - pre.length].toNat % 128 : Nat) : Int))).heap.size = W.heap.size := by simp [World.setCell]
   omega
set_option maxRecDepth 100000 in
set_option maxHeartbeats 2000000 in
theorem get_ok (A : Option Addr) (bs b : List UInt8) (cap i x : Nat) (w : World) (hA : RdB w A bs) (hl : bs.length ≤ cap) (hb : Cut10 bs b) (h : Vint.first b = i) (hi : i < b.length) (hx : b[i].toNat = x) (h1 : ¬ (i = 9 ∧ 1 < x)) (h2 : ¬ (0 < i ∧ x = 0)) :
  Calls Tryz.prog 92 #[.slice A bs.length cap] w fun e w' => e = .returned (getRes (Vint.val (b.take (i + 1)), i + 1, 0)) ∧ Below w.heap.size w w' := by
 have hf := Lib.hid (firstI_some (b := b) (by omega))
 rw [h] at hf
 have hA' : RdB w A b := by
  rcases hb with ⟨_, rfl⟩ | ⟨_, rfl⟩
  ·
   exact hA
  ·
   exact hA.head (by omega)
 have hbl : b.length ≤ 10 := by
  rcases hb with ⟨h2, rfl⟩ | ⟨h2, rfl⟩
  ·
   exact h2
  ·
   simp; omega
 have hix := Lib.hid (index_any A b cap w hA' (by omega))
 have hval := Lib.hid (Vint.val_take_lt b i hi hbl (by rw [hx]; exact h1))
 obtain ⟨g, hg⟩ : ∃ g, g = b.take (i + 1) := ⟨_, rfl⟩
 have hgl : g.length = i + 1 := by rw [hg, List.length_take]; omega
 have hAg : RdB w A g := by rw [hg]; exact hA'.head (by omega)
 obtain ⟨ad, rfl, hcell⟩ := hA'.at_ hi
 rw [hx] at hcell
 rw [← hg] at hval ⊢
 have Hgl := Lib.hid hgl
 have hi' : i < bs.length ∧ i + 1 ≤ cap := by
  rcases hb with ⟨_, rfl⟩ | ⟨_, rfl⟩
  ·
   exact ⟨hi, by omega⟩
  ·
   omega
 have hx256 : x < 256 := by rw [← hx]; exact b[i].toNat_lt
 clear hA' h hx hA hg hgl
 obtain ⟨m, hm⟩ : ∃ m, m = b.length := ⟨_, rfl⟩
 rw [← hm] at hix hi
 have hcut : (bs.length ≤ 10 ∧ m = bs.length) ∨ (10 < bs.length ∧ m = 10) := by
  rcases hb with ⟨h5, rfl⟩ | ⟨h5, rfl⟩
  ·
   exact .inl ⟨h5, hm⟩
  ·
   exact .inr ⟨h5, by rw [hm]; simp; omega⟩
 clear hm hb
 refine (callsIn_wide (n := 5)).1 (callsIn_of_wp_marks Tryz.func92 rfl trivial ?_ rfl)
 simp only [Tryz.ntmps92, List.size_toArray, List.length_cons, List.length_nil, Nat.reduceAdd, Nat.reduceSub, Array.replicate_succ, Array.replicate_zero, List.push_toArray, List.append_toArray, List.nil_append, List.cons_append]
 refine wpIn_wide.2 ?_
 have hd9 : ∀ d, ((i : Int) == 9) = d → (d = true → decide (1 < (x : Int)) = false) := fun d hd hdt => by
  subst hdt
  have : i = 9 := by have := beq_iff_eq.1 hd; omega
  simp only [decide_eq_false_iff_not]
  omega
 have hd0 : ∀ d, decide (0 < (i : Int)) = d → (d = true → ((x : Int) == 0) = false) := fun d hd hdt => by
  subst hdt
  have : 0 < i := by have := of_decide_eq_true hd; omega
  rw [beq_eq_false_iff_ne]
  omega
 have h90 : (((i : Int) == 9) = false ∧ decide (0 < (i : Int)) = false) ∨ (((i : Int) == 9) = false ∧ decide (0 < (i : Int)) = true) ∨ (((i : Int) == 9) = true ∧ decide (0 < (i : Int)) = true) := by
  simp only [beq_eq_false_iff_ne, beq_iff_eq, decide_eq_false_iff_not, decide_eq_true_eq]; omega
 rcases h90 with ⟨k9, k0⟩ | ⟨k9, k0⟩ | ⟨k9, k0⟩ <;> rcases hcut with ⟨h5, rfl⟩ | ⟨h5, rfl⟩
 all_goals
  have q9 := hd9 _ k9
  have q0 := hd0 _ k0
  clear hd9 hd0
  simp only [Bool.false_eq_true, false_implies, true_implies] at q9 q0
  go_wp2_with (first
   | (go_at_call 100; refine hix.out.mono ?_; rintro e w' ⟨rfl, rfl⟩; rw [hf.out])
   | (go_at_call 102; refine (backward_any _ _ _ _).mono ?_; rintro e w' ⟨rfl, rfl⟩))
  all_goals
   obtain ⟨W0, hW0⟩ : ∃ W0, (w.alloc (.cells #[.int .u64 0] 24)).alloc (.cells #[.slice (some ad) (i + 1) cap] 23) = W0 := ⟨_, rfl⟩
   have hsz : W0.heap.size = w.heap.size + 2 := by rw [← hW0]; simp
   have hBl : W0.heap[w.heap.size]? = some (.cells #[.int .u64 0] 24 (0, 0)) := by rw [← hW0]; exact heap_alloc2_old w _ _
   have hgb : W0.heap[w.heap.size + 1]? = some (.cells #[.slice (some ad) g.length cap] 23 (0, 0)) := by rw [← hW0, Hgl.out]; exact heap_alloc2_new w _ _
   have hb0 : Below w.heap.size w W0 := by rw [← hW0]; exact ((Below.refl _ w).alloc (Nat.le_refl _) _).alloc (by simp) _
   rw [hW0]
   clear hW0
   refine wp_range_all (n := 5) (by omega) (gf := 105) (lb := #[.pointer (some ⟨w.heap.size + 1, 0, none⟩)]) rfl (enters_fn Tryz.func105 (by kernel_rfl) rfl)
    (back_gives 4 (by omega) (w.heap.size + 1) (some ad) g cap w W0 hgb hAg hb0 (by have := Hgl.out; omega)) (by omega) (fun h k => ⟨Eq.trans k.1 h.1, h.2.trans (k.2.mono (Nat.le_refl _))⟩) (get_hKb w W0 hsz) (fun _ => rfl) (GetInv w g) (get_hI w W0 g hsz) (get_hIg w g) ⟨by rw [hBl]; simp [Vint.val], hb0, by omega⟩
    ?_ ?_ ?_ ?_
   rotate_left 1
   ·
    intro l x W K hK
    simp only [encB]
    gi_wp2
    exact hK
   ·
    rintro l pre ⟨j, y⟩ W hI hpre
    obtain ⟨a, ha, h1, hnew⟩ := get_body hI hpre hval.out
    have Hnew := Lib.hid hnew
    clear hnew
    have hcell : W.cell? ⟨w.heap.size, 0, none⟩ = some (.int .u64 (a : Int)) := cell_of_row W _ 0 _ _ _ h1
    have hfr : W.frozen? ⟨w.heap.size, 0, none⟩ = false := frozen_of_row W _ 0 _ _ h1
    have e1 := and7 y.toNat y.toNat_lt
    have e2 := or7 a y.toNat ha
    gi_wp2
    refine Hnew.out _ (Eq.trans ?_ e2)
    rw [Int.natCast_emod]
    rfl
   ·
    rintro D W ⟨h1, h3, h4⟩ hD hK
    rw [Vint.back_len, Nat.sub_self, List.drop_zero] at h1
    have hcell : W.cell? ⟨w.heap.size, 0, none⟩ = some (.int .u64 (Vint.val g : Int)) := cell_of_row W _ 0 _ _ _ h1
    dsimp only
    go_wp2
    refine ⟨by simp, .inl ⟨_, _, rfl, run_takeDeferred hK, ?_⟩⟩
    have hput : W.grownBy (W.putObj D (.deferred none)) (some D) := grownBy_putObj' W D _
    refine ⟨_, results_tmp3 rfl _ _ _, ?_, h3.grown hput h3.size (fun k e => by injection e with e; omega)⟩
    first | rfl | simp [getRes]
theorem get_any (A : Option Addr) (bs : List UInt8) (cap : Nat) (w : World) (hA : RdB w A bs) (hl : bs.length ≤ cap) :
  Calls Tryz.prog 92 #[.slice A bs.length cap] w fun e w' => e = .returned (getRes (Vint.get bs)) ∧ Below w.heap.size w w' := by
 have hb := cut10 bs
 have key : ∀ r : Nat × Nat × Nat, r = Vint.get bs → Calls Tryz.prog 92 #[.slice A bs.length cap] w (fun e w' => e = .returned (getRes r) ∧ w = w') → Calls Tryz.prog 92 #[.slice A bs.length cap] w fun e w' => e = .returned (getRes (Vint.get bs)) ∧ Below w.heap.size w w' := by
  rintro r rfl h
  exact h.mono (by rintro e w' ⟨rfl, rfl⟩; exact ⟨rfl, Below.refl _ _⟩)
 by_cases h0 : Vint.first (bs.take 10) = (bs.take 10).length
 ·
  refine key _ ?_ (get_none A bs _ cap w hA hl hb h0)
  unfold Vint.get
  rw [if_pos h0]
  split <;> rfl
 ·
  have hi : Vint.first (bs.take 10) < (bs.take 10).length := by have := Vint.first_le (bs.take 10); omega
  have hgd : (bs.take 10).getD (Vint.first (bs.take 10)) 0 = (bs.take 10)[Vint.first (bs.take 10)] := by
   rw [List.getD_eq_getElem?_getD, List.getElem?_eq_getElem hi]; rfl
  by_cases h1 : Vint.first (bs.take 10) = 9 ∧ 1 < ((bs.take 10)[Vint.first (bs.take 10)]).toNat
  ·
   refine key _ ?_ (get_wide A bs _ cap _ _ w hA hl hb rfl hi rfl h1.1 h1.2)
   unfold Vint.get
   simp only [hgd]
   rw [if_neg h0, if_pos h1]
  ·
   by_cases h2 : 0 < Vint.first (bs.take 10) ∧ ((bs.take 10)[Vint.first (bs.take 10)]).toNat = 0
   ·
    refine key _ ?_ (get_form A bs _ cap _ _ w hA hl hb rfl hi rfl h2)
    unfold Vint.get
    simp only [hgd]
    rw [if_neg h0, if_neg h1, if_pos h2]
   ·
    have h3 := get_ok A bs _ cap _ _ w hA hl hb rfl hi rfl h1 h2
    have h4 : Vint.get bs = (Vint.val ((bs.take 10).take (Vint.first (bs.take 10) + 1)), Vint.first (bs.take 10) + 1, 0) := by
     unfold Vint.get
     simp only [hgd]
     rw [if_neg h0, if_neg h1, if_neg h2]
    rw [h4]
    exact h3
end Go.Proofs.YtjholekgdnhpkaaGreatDoor
namespace Go.Proofs.YtjholekgdnhpkaaGreatDoor
open Go.RowKit
theorem RdB.none_nil {w : World} {bs : List UInt8} (h : RdB w none bs) : bs = [] := by
 rcases bs with _ | ⟨b, l⟩
 ·
  rfl
 ·
  obtain ⟨ad, e, _⟩ := h.2 (by simp [bvs])
  cases e
set_option maxHeartbeats 400000 in
theorem clone_any (A : Option Addr) (bs : List UInt8) (cap : Nat) (w : World) (hA : RdB w A bs) (hl : bs.length ≤ 140737488355328) :
  Calls Tryz.prog 52 #[.slice A bs.length cap] w fun e w' => ∃ A' c', e = .returned (.slice A' bs.length c') ∧ Own w' w.heap.size 5 1 A' bs.length c' (bvs bs) ∧ Below w.heap.size w w' := by
 have hnil := fun (W : World) (a : Option Addr) (n c : Nat) => Lib.run_eql_slice_nil (P := Tryz.prog) W 23 5 a n c 0 0 Tryz.underlying23
 have hA1 := hA.below (((Below.refl w.heap.size w).alloc (Nat.le_refl _) (.cells #[] 5)))
 rcases A with _ | ad
 ·
  obtain rfl := hA.none_nil
  go_enter Tryz.func52, Tryz.ntmps52
  go_wp2
  go_ret
  exact ⟨none, 0, rfl, Own.none_ _ _ _ _ _, Below.refl _ _⟩
 ·
  go_enter Tryz.func52, Tryz.ntmps52
  go_wp2_with (at_builtin; refine wpList_app rfl (.tmp 5) (.tmp 6) 23 rfl elemB w.heap.size _ 0 0 [] rfl (some ad) bs.length cap (bvs bs) rfl bs.length (by omega) (bvs bs) rfl (Own.none_ _ _ _ _ _) hA1 (bvs_one _) (by omega) (by omega) (by simp) ?_; intro A1 c1 w1 ho1 hg1 hr1)
  go_ret
  exact ⟨A1, c1, rfl, ho1, below_app (((Below.refl w.heap.size w).alloc (Nat.le_refl _) (.cells #[] 5))) (Own.none_ _ _ 5 1 (some ⟨w.heap.size, 0, none⟩)) hg1 (by simp)⟩
theorem run_app_zeros {P : Program} (w : World) (t u ty e : TypeId) {bytes : Nat} (T : ElemT P t e 1 bytes) (hu : P.underlying u = some (.int .i64)) (n : Nat) (hn : 0 < n) (h63 : n ≤ 140737488355328) (hb : n * bytes ≤ 140737488355328) :
  ∃ c' cs, n ≤ c' ∧ c' ≤ maxLen ∧ cs.size = c' ∧ (Builtin.append_ #[t, u] ty #[.slice none 0 0, .int .i64 (n : Int)]).run P w = .ok (.slice (some ⟨w.heap.size, 0, none⟩) n c') (w.drew.alloc (.cells cs e)) := by
 obtain ⟨i, z, g1, g2, g3, g4, g5⟩ := T.hi
 have hge := grownCap_ge w n 0 e
 have hcm := grownCap_le_maxLen w n 0 e (by unfold maxLen; omega)
 refine ⟨grownCap w n 0 e, Builtin.zeroCells z.cells n ++ Builtin.zeroCells z.cells (grownCap w n 0 e - n), hge, hcm, ?_, ?_⟩
 ·
  rw [Array.size_append, size_zeroCells, size_zeroCells, g5]; omega
 ·
  have hw : IntKind.i64.wrap (n : Int) = n := by rw [IntKind.wrap_i64]; omega
  have h1 : ¬ ((n : Int) < 0) := by omega
  have h2 : ¬ (281474976710656 < (n : Int) * (i.bytes : Int)) := by
   rw [g4]
   have : ((n * bytes : Nat) : Int) ≤ 140737488355328 := by omega
   rw [Int.natCast_mul] at this
   omega
  have h3 : ¬ (9223372036854775807 < (n : Int)) := by omega
  have h4 : ¬ (281474976710656 < Builtin.nextslicecap n 0 * i.bytes) := by rw [nextslicecap_zero hn, g4]; omega
  have hne : n ≠ 0 := by omega
  have hs1 : ¬ (n * i.size = 0) := by rw [g3]; omega
  simp [Builtin.append_, run_underlying T.ht, run_underlying hu, sizeOf, typeInfo, zeroValue, g1, g2, g3, hw, asInt, asIntOf, h1, h2, h3, h4, hne, Question.forced, Builtin.firstCells, newRow, grownCap, Builtin.lenOf]
theorem wpList_app_zeros {P : Program} {w : World} {ops : Array Oper} {rest : List Oper} {o : Oper} {a : Act} {Q : Exit → Act → World → Prop} (hgd : Region.wanted o (yielded ops a.tmps) = true) (s x : Operand) (t u : TypeId)
  (ho : o.op = .call { callee := .builtin .append, args := #[s, x], argTypes := #[t, u] }) {e : TypeId} {bytes : Nat} (T : ElemT P t e 1 bytes) (hu : P.underlying u = some (.int .i64)) (n : Nat) (hs : a.eval s = .slice none 0 0) (hx : a.eval x = .int .i64 (n : Int))
  (hn : 0 < n) (h63 : n ≤ 140737488355328) (hb : n * bytes ≤ 140737488355328)
  (h : ∀ c' cs, n ≤ c' → c' ≤ maxLen → cs.size = c' → wpList P ops Q rest (a.put o.dst (.slice (some ⟨w.heap.size, 0, none⟩) n c')) (w.drew.alloc (.cells cs e))) : wpList P ops Q (o :: rest) a w := by
 refine wpList_want hgd fun K hK => ?_
 obtain ⟨c', cs, h1, h2, h3, hrun⟩ := run_app_zeros (P := P) w t u o.type e T hu n hn h63 hb
 unfold Oper.wp execOp
 simp only [ho, resolve, invoke, builtin, Sem.run_bind, Sem.run_pure, Result.andThen_ok, List.map_toArray, List.map_cons, List.map_nil, hs, hx, hrun]
 exact hK _ _ (h c' cs h1 h2 h3)
set_option maxHeartbeats 400000 in
theorem grow_nil (n : Nat) (hn : n ≤ 140737488355328) (w : World) :
  Calls Tryz.prog 65 #[.slice none 0 0, .int .i64 (n : Int)] w fun e w' => ∃ A' c', e = .returned (.slice A' 0 c') ∧ Own w' w.heap.size 5 1 A' 0 c' [] ∧ Below w.heap.size w w' := by
 by_cases h0 : n = 0
 ·
  subst h0
  go_enter Tryz.func65, Tryz.ntmps65
  go_wp2
  go_ret
  exact ⟨none, 0, rfl, Own.none_ _ _ _ _ _, Below.refl _ _⟩
 ·
  have hp : 0 < n := by omega
  go_enter Tryz.func65, Tryz.ntmps65
  go_wp2_with (at_builtin; go_loud (refine wpList_app_zeros rfl (.tmp 20) (.tmp 21) 23 3 rfl elemB Tryz.underlying3 n rfl rfl hp hn (by omega) ?_); intro c1 cs1 hc1 hc2 hc3)
  go_ret
  subst hc3
  have := Own.new w.drew 5 1 cs1 0 cs1.size (Nat.zero_le _) hc2 (by omega)
  simp only [Nat.zero_mul, List.take_zero] at this
  exact ⟨_, _, rfl, this, ((Below.refl _ w).drew).alloc (Nat.le_refl _) _⟩
set_option maxHeartbeats 400000 in
theorem concat_any (A : Option Addr) (l : List Sl) (cap : Nat) (w : World) (hA : RdL w A l) (hl : l.length ≤ 1000000) (hc : (cat l).length ≤ 100000000000000) :
  Calls Tryz.prog 47 #[.slice A l.length cap] w fun e w' => ∃ A' c', e = .returned (.slice A' (cat l).length c') ∧ Own w' w.heap.size 5 1 A' (cat l).length c' (bvs (cat l)) ∧ Below w.heap.size w w' := by
 have Hc := Lib.hid hc
 clear hc
 go_enter Tryz.func47, Tryz.ntmps47
 go_wp2
 go_loop [3, 11] (fun s i => ∃ k : Nat, k ≤ l.length ∧ i = .int .i64 k ∧ s = .int .i64 ((cat (l.take k)).length : Nat)) (fun _ i => l.length - (intOf i).toNat)
 case atStart => exact ⟨0, by omega, rfl, rfl⟩
 case round =>
  obtain ⟨k, hk, rfl, rfl⟩ := hrel
  by_cases h : k < l.length
  ·
   obtain ⟨ad, rfl, hcell, hrd⟩ := hA.at_ h
   have hle := one_le_cat l k h
   have hcc := Hc.out
   have hs : Hid ((cat (l.take (k + 1))).length = (cat (l.take k)).length + l[k].bs.length) := by
    show _ = _
    rw [cat_snoc l k h, List.length_append]
   generalize (cat (l.take k)).length = d at *
   have hd1 : d + l[k].bs.length ≤ 100000000000000 := by omega
   clear hle hcc
   go_wp2
   go_round
   case rel => exact ⟨k + 1, by omega, by go_num, val_int (by rw [hs.out]; omega)⟩
   case measure => simp [intOf]; omega
  ·
   obtain rfl : k = l.length := by omega
   rw [List.take_length]
   have hcc := Hc.out
   go_wp2_with fail
   refine (grow_nil (cat l).length (by omega) w).mono ?_
   rintro e w1 ⟨A1, c1, rfl, ho1, hb1⟩
   clear hcc
   go_wp2_with fail
   go_loopw [6, 27] (fun v i wr => ∃ (k : Nat) (A' : Option Addr) (c' : Nat), k ≤ l.length ∧ i = .int .i64 k ∧ v = .slice A' (cat (l.take k)).length c' ∧ Own wr w.heap.size 5 1 A' (cat (l.take k)).length c' (bvs (cat (l.take k))) ∧ Below w.heap.size w wr) (fun _ i _ => l.length - (intOf i).toNat)
   case atStart => exact ⟨0, A1, c1, by omega, rfl, rfl, ho1, hb1⟩
   case round =>
    obtain ⟨k, A', c', hk, rfl, rfl, hown, hbw⟩ := hrel
    by_cases h : k < l.length
    ·
     obtain ⟨ad, rfl, hcell, hrd⟩ := (hA.below hbw).at_ h
     have hle := one_le_cat l k h
     have hs := Lib.hid (cat_snoc l k h)
     have hcc := Hc.out
     have hbnd : (cat (l.take k)).length + l[k].bs.length ≤ 100000000000000 := by omega
     clear hle hcc
     generalize cat (l.take k) = d at *
     go_wp2_with (at_builtin; refine wpList_app rfl (.tmp 31) (.tmp 32) 23 rfl elemB w.heap.size A' d.length c' (bvs d) rfl l[k].a l[k].bs.length l[k].c (bvs l[k].bs) rfl (d ++ l[k].bs).length (by simp) (bvs (d ++ l[k].bs)) (bvs_app _ _) hown hrd (bvs_one _) (by simp; omega) (by simp; omega) hbw.size ?_; intro A2 c2 w2 ho2 hg2 hr2)
     go_roundw
     case rel => exact ⟨k + 1, A2, c2, by omega, by go_num, by rw [hs.out, List.length_append], by rw [hs.out]; exact ho2, below_app hbw hown hg2 hbw.size⟩
     case measure => simp [intOf]; omega
    ·
     obtain rfl : k = l.length := by omega
     rw [List.take_length] at hown ⊢
     go_wp2
     go_ret
     exact ⟨A', c', rfl, hown, hbw⟩
end Go.Proofs.YtjholekgdnhpkaaGreatDoor
namespace Go.Proofs.YtjholekgdnhpkaaGreatDoor
open Go.RowKit
attribute [local go_sem] Oper.semAt_some
theorem plus128 (m : Nat) : (m : Int) % 128 + 128 = ((UInt8.ofNat (m % 128) ||| 128).toNat : Int) := by
 have h1 := or128 (UInt8.ofNat (m % 128))
 rw [← h1]
 have h2 : (UInt8.ofNat (m % 128)).toNat = m % 128 := by rw [UInt8.toNat_ofNat']; omega
 rw [h2, show (128 : Int) = ((128 : Nat) : Int) from rfl, u8_or_nat _ _ (by omega) (by omega)]
 have h3 := nat_join 7 128 (m % 128) (by omega) (by omega)
 rw [Nat.or_comm, h3]
 omega
theorem first_of (bs : List UInt8) (k : Nat) (hk : k ≤ bs.length) (h10 : k < 10) (hall : ∀ j (h : j < bs.length), j < k → 128 ≤ bs[j].toNat) :
  (k = bs.length → Vint.get bs = (0, 0, 10)) ∧ ∀ h : k < bs.length, (k = 9 → 1 < bs[k].toNat → Vint.get bs = (0, 0, 11)) ∧ (bs[k].toNat < 128 → ¬ (k = 9 ∧ 1 < bs[k].toNat) → ((0 < k ∧ bs[k].toNat = 0) → Vint.get bs = (0, 0, 12)) ∧ (¬ (0 < k ∧ bs[k].toNat = 0) → Vint.get bs = (Vint.val (bs.take (k + 1)), k + 1, 0))) := by
 refine ⟨?_, fun h => ?_⟩
 ·
  rintro rfl
  have h1 : bs.take 10 = bs := List.take_of_length_le (by omega)
  have h2 := Vint.first_none (fun j hj => hall j hj hj)
  unfold Vint.get
  rw [h1]
  simp only
  rw [if_pos h2, if_pos h10]
 ·
  have hl : k < (bs.take 10).length := by rw [List.length_take]; omega
  have hx : (bs.take 10)[k] = bs[k] := by simp
  have hf : bs[k].toNat < 128 → Vint.first (bs.take 10) = k := fun h8 => Vint.first_at hl (by rw [hx]; exact h8) (fun j hj => by rw [List.getElem_take]; exact hall j (by omega) hj)
  have hgd : (bs.take 10).getD k 0 = bs[k] := by rw [List.getD_eq_getElem?_getD, List.getElem?_eq_getElem hl, hx]; rfl
  refine ⟨?_, ?_⟩
  ·
   rintro rfl h1
   by_cases h8 : bs[9].toNat < 128
   ·
    have h2 := hf h8
    unfold Vint.get
    simp only [h2, hgd]
    rw [if_neg (by omega), if_pos ⟨trivial, h1⟩]
   ·
    have h3 : Vint.first (bs.take 10) = (bs.take 10).length := Vint.first_none (fun j hj => by
     rw [List.getElem_take]
     rw [List.length_take] at hj
     by_cases h9 : j = 9
     ·
      subst h9; omega
     ·
      exact hall j (by omega) (by omega))
    unfold Vint.get
    simp only
    rw [if_pos h3, if_neg (by omega)]
  ·
   intro h8 h9
   have h2 := hf h8
   refine ⟨fun h3 => ?_, fun h3 => ?_⟩
   ·
    unfold Vint.get
    simp only [h2, hgd]
    rw [if_neg (by omega), if_neg h9, if_pos h3]
   ·
    unfold Vint.get
    simp only [h2, hgd]
    rw [if_neg (by omega), if_neg h9, if_neg h3, List.take_take, Nat.min_eq_left (by omega)]
end Go.Proofs.YtjholekgdnhpkaaGreatDoor
namespace Go.Proofs.YtjholekgdnhpkaaGreatDoor
open Go.RowKit
attribute [local go_sem] Oper.semAt_some
def Vint.putBytes (b : List UInt8) : List UInt8 := Vint.put b.length ++ b
def Vint.getBytes (b : List UInt8) : List UInt8 × Nat × Nat :=
 if (Vint.get b).2.2 ≠ 0 then ([], 0, (Vint.get b).2.2)
 else if b.length - (Vint.get b).2.1 < (Vint.get b).1 then ([], 0, 10)
 else ((b.drop (Vint.get b).2.1).take (Vint.get b).1, (Vint.get b).2.1 + (Vint.get b).1, 0)
theorem Vint.get_le (b : List UInt8) : (Vint.get b).2.1 ≤ b.length ∧ (Vint.get b).2.1 ≤ 10 ∧ (Vint.get b).1 < 18446744073709551616 ∧ (Vint.get b).2.2 < 256 := by
 have h1 := Vint.first_le (b.take 10)
 have h2 : (b.take 10).length ≤ b.length := by simp; omega
 have h3 : (b.take 10).length ≤ 10 := by simp; omega
 unfold Vint.get
 simp only
 split
 ·
  split <;> simp
 ·
  split
  ·
   simp
  ·
   split
   ·
    simp
   ·
    rename_i h4 h5 h6
    have h7 : Vint.first (b.take 10) < (b.take 10).length := by omega
    have hgd : (b.take 10).getD (Vint.first (b.take 10)) 0 = (b.take 10)[Vint.first (b.take 10)] := by
     rw [List.getD_eq_getElem?_getD, List.getElem?_eq_getElem h7]; rfl
    rw [hgd] at h5
    exact ⟨by simp only; omega, by simp only; omega, Vint.val_take_lt _ _ h7 h3 h5, by simp⟩
set_option maxRecDepth 100000 in
theorem putbytes_any (A : Option Addr) (bs : List UInt8) (cap : Nat) (w : World) (hA : RdB w A bs) (hl : bs.length ≤ 1000000) :
  Calls Tryz.prog 89 #[.slice A bs.length cap] w fun e w' => ∃ A' c', e = .returned (.slice A' (Vint.putBytes bs).length c') ∧ Own w' w.heap.size 5 1 A' (Vint.putBytes bs).length c' (bvs (Vint.putBytes bs)) ∧ Below w.heap.size w w' := by
 go_enter Tryz.func89, Tryz.ntmps89
 go_wp2_with fail
 refine (vput_any bs.length (by omega) w).mono ?_
 rintro e w1 ⟨A1, c1, rfl, ho1, hb1⟩
 have hpl := (Vint.put_len bs.length).2
 have hA1 := hA.below hb1
 go_wp2_with fail
 have h3 := concat_any _ [⟨A1, Vint.put bs.length, c1⟩, ⟨A, bs, cap⟩] 2 _ (RdL.two w1 23 A1 A (Vint.put bs.length) bs c1 cap ho1.rd' hA1) (by simp) (by rw [cat_two]; simp; omega)
 rw [cat_two, show Vint.put bs.length ++ bs = Vint.putBytes bs from rfl] at h3
 refine h3.mono ?_
 rintro e w3 ⟨A3, c3, rfl, ho3, hb3⟩
 have hb4 := ext_trans hb1 (ext_trans (Ext.alloc w1 _) hb3)
 clear h3
 go_wp2
 go_ret
 exact ⟨A3, c3, rfl, ho3.mono (by have := hb1.size; simp; omega), hb4⟩
def gotRes (A : Option Addr) (n c : Nat) (r : List UInt8 × Nat × Nat) : Value := .tuple #[.slice A n c, .int .i64 (r.2.1 : Int), .int .i64 (r.2.2 : Int)]
set_option maxRecDepth 100000 in
set_option maxHeartbeats 800000 in
theorem getbytes_any (A : Option Addr) (bs : List UInt8) (cap : Nat) (w : World) (hA : RdB w A bs) (hl : bs.length ≤ 1000000) (hc : bs.length ≤ cap) :
  Calls Tryz.prog 90 #[.slice A bs.length cap] w fun e w' => ∃ A' c', e = .returned (gotRes A' (Vint.getBytes bs).1.length c' (Vint.getBytes bs)) ∧ Own w' w.heap.size 5 1 A' (Vint.getBytes bs).1.length c' (bvs (Vint.getBytes bs).1) ∧ Below w.heap.size w w' := by
 obtain ⟨hg1, hg2, hg3, hg4⟩ := Vint.get_le bs
 have hget := get_any A bs cap w hA hc
 have hdef : Vint.getBytes bs = if (Vint.get bs).2.2 ≠ 0 then ([], 0, (Vint.get bs).2.2) else if bs.length - (Vint.get bs).2.1 < (Vint.get bs).1 then ([], 0, 10) else ((bs.drop (Vint.get bs).2.1).take (Vint.get bs).1, (Vint.get bs).2.1 + (Vint.get bs).1, 0) := rfl
 generalize Vint.get bs = r at *
 obtain ⟨n, k, x⟩ := r
 simp only at hg1 hg2 hg3 hg4 hdef
 have Hget := Lib.hid hget
 clear hget
 by_cases hx : x = 0
 ·
  subst hx
  by_cases hn : bs.length - k < n
  ·
   have hfin := Lib.hid (hdef.trans (by rw [if_neg (by simp), if_pos hn]) : Vint.getBytes bs = ([], 0, 10))
   clear hdef
   go_enter Tryz.func90, Tryz.ntmps90
   go_wp2_with (go_at_call 92; refine Hget.out.mono ?_; rintro e w1 ⟨rfl, hb1⟩; simp only [getRes])
   go_ret3
   rw [hfin.out]
   exact ⟨none, 0, rfl, Own.none_ _ _ _ _ _, hb1⟩
  ·
   have hfin := Lib.hid (hdef.trans (by rw [if_neg (by simp), if_neg hn]) : Vint.getBytes bs = ((bs.drop k).take n, k + n, 0))
   clear hdef
   have hle : k + n ≤ bs.length := by omega
   have hcut := hA.cut (k := k) (m := k + n) (by omega) hle (c := cap) (by omega)
   have hl2 : ((bs.take (k + n)).drop k).length = n := by simp; omega
   have he : (bs.take (k + n)).drop k = (bs.drop k).take n := by rw [List.drop_take]; congr 1; omega
   rw [he] at hcut hl2
   have Hl2 := Lib.hid hl2
   have Hcut := Lib.hid hcut
   clear hcut hl2 he
   go_enter Tryz.func90, Tryz.ntmps90
   go_wp2_with (first
    | (go_at_call 92; refine Hget.out.mono ?_; rintro e w1 ⟨rfl, hb1⟩; simp only [getRes])
    | fail)
   all_goals
    have hcut1 := Hcut.out
    first | rw [if_pos ‹cap = k›] at hcut1 | rw [if_neg ‹¬ cap = k›] at hcut1
    have h5 := fun c => clone_any _ _ c w1 (hcut1.below hb1) (by rw [Hl2.out]; omega)
    simp only [Hl2.out] at h5
    refine (h5 _).mono ?_
    rintro e w2 ⟨A2, c2, rfl, ho2, hb2⟩
    clear h5 hcut1
    go_wp2
    go_ret3
    rw [hfin.out]
    simp only [Hl2.out]
    exact ⟨A2, c2, by simp [gotRes], ho2.mono hb1.size, ext_trans hb1 hb2⟩
 ·
  have hfin := Lib.hid (hdef.trans (by rw [if_pos hx]) : Vint.getBytes bs = ([], 0, x))
  have hx' : ((x : Int) == 0) = false := by rw [beq_eq_false_iff_ne]; omega
  clear hdef
  go_enter Tryz.func90, Tryz.ntmps90
  go_wp2_with (go_at_call 92; refine Hget.out.mono ?_; rintro e w1 ⟨rfl, hb1⟩; simp only [getRes])
  go_ret3
  rw [hfin.out]
  exact ⟨none, 0, rfl, Own.none_ _ _ _ _ _, hb1⟩
end Go.Proofs.YtjholekgdnhpkaaGreatDoor
