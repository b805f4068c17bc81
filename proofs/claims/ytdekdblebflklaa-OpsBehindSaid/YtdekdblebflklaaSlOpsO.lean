
/- Contracts of the library's slices.Clone, slices.Delete, slices.Insert at 23. Printed by wip/tools/gen_slops20.py. -/

import Derived.Test.YtdekdblebflklaaOpMem

import Derived.Test.YtdekdblebflklaaSlIns

import Derived.Test.YtdekdblebflklaaReg2

import Derived.WalkSpells

import Derived.Lib.Overlaps

namespace Go.Proofs.Ytdekdblebflklaa

open Go.RowKit

attribute [local go_sem] Oper.semAt_some

theorem sizeO (w : World) : (Go.sizeOf 50).run Try.prog w = .ok 3 w := by
  obtain ⟨i, z, g1, g2, g3, g4, g5⟩ := (elemO : ElemT Try.prog 23 50 3 _).hi
  simp [sizeOf, typeInfo, g1, g3]
theorem cloneO_any (A : Option Addr) (n cap : Nat) (xs : List Value) (w : World) (hA : Rd w 3 A n xs) (h1 : ∀ u ∈ xs, u.oneCell' = true) (hl : n ≤ 1000000) :
    Calls Try.prog 44 #[.slice A n cap] w fun e w' => ∃ A' c', e = .returned (.slice A' n c') ∧ Own w' w.heap.size 50 3 A' n c' xs ∧ Below w.heap.size w w' := by
  have hnil := fun (W : World) (a : Option Addr) (n c : Nat) => Lib.run_eql_slice_nil (P := Try.prog) W 23 50 a n c 0 0 Try.underlying23
  have hA1 := hA.below (((Below.refl w.heap.size w).alloc (Nat.le_refl _) (.cells #[] 50)))
  rcases A with _ | ad
  · obtain rfl : xs = [] := Classical.byContradiction fun h => by obtain ⟨ad, e, _⟩ := hA.2 h; cases e
    obtain rfl : n = 0 := by have := hA.1; simp at this; omega
    go_enter Try.func44, Try.ntmps44
    go_wp2
    go_ret
    exact ⟨none, 0, rfl, Own.none_ _ _ _ _ _, Below.refl _ _⟩
  · go_enter Try.func44, Try.ntmps44
    go_wp2_with (at_builtin; refine wpList_app rfl (.tmp 5) (.tmp 6) 23 rfl elemO w.heap.size _ 0 0 [] rfl (some ad) n cap xs rfl n (by omega) xs rfl (Own.none_ _ _ _ _ _) hA1 h1 (by omega) (by omega) (by simp) ?_; intro A1 c1 w1 ho1 hg1 hr1)
    go_ret
    exact ⟨A1, c1, rfl, ho1, below_app (((Below.refl w.heap.size w).alloc (Nat.le_refl _) (.cells #[] 50))) (Own.none_ _ _ 50 3 (some ⟨w.heap.size, 0, none⟩)) hg1 (by simp)⟩

def InsO (base : Nat) (A : Option Addr) (n c : Nat) (xs ys : List Value) (i : Nat) (w : World) (e : Ending) (w' : World) : Prop :=
  ∃ A' c', e = .returned (.slice A' (n + 1) c') ∧ Own w' base 50 3 A' (n + 1) c' (xs.take (i * 3) ++ (ys ++ xs.drop (i * 3))) ∧ w.grownBy w' (ownRow A c) ∧ (ownRow A' c' = ownRow A c ∨ ∃ g, ownRow A' c' = some g ∧ w.heap.size ≤ g)
set_option maxRecDepth 100000 in
theorem insertO_end (base : Nat) (A : Option Addr) (n c : Nat) (xs ys : List Value) (gv : Nat) (w : World) (hown : Own w base 50 3 A n c xs) (hl : n ≤ 1000000) (hbase : base ≤ w.heap.size)
    (hyl : ys.length = 3) (hy1 : ∀ u ∈ ys, u.oneCell' = true) (hgv : w.heap[gv]? = some (.cells ys.toArray 50 (0, 0))) :
    Calls Try.prog 47 #[.slice A n c, .int .i64 (n : Int), .slice (some ⟨gv, 0, none⟩) 1 1] w (InsO base A n c xs ys n w) := by
  have hnc := hown.nc
  have hcm := hown.cm
  have hxl := hown.len
  unfold maxLen at hcm
  have hrv : Rd w 3 (some ⟨gv, 0, none⟩) 1 ys := ⟨by rw [hyl], fun _ => ⟨_, rfl, fun j u hj => by rw [Addr.add_lit, cell_of_row _ _ _ _ _ _ hgv, Nat.zero_add]; simpa using hj⟩⟩
  have Hyl := Lib.hid hyl
  have Hxl := Lib.hid hxl
  have Hgv := Lib.hid hgv
  clear hyl hxl hgv
  have e1 : xs.take (n * 3) = xs := by rw [← Hxl.out, List.take_length]
  have e2 : xs.drop (n * 3) = [] := by rw [← Hxl.out, List.drop_length]
  have He1 := Lib.hid e1
  have He2 := Lib.hid e2
  clear e1 e2
  by_cases hcn : c = n
  · subst hcn
    go_enter Try.func47, Try.ntmps47
    go_wp2_with (at_builtin; refine wpList_app rfl (.tmp 23) (.tmp 24) 23 rfl elemO base A c c xs rfl (some ⟨gv, 0, none⟩) 1 1 ys rfl (c + 1) rfl (xs ++ ys) rfl hown hrv hy1 (by omega) (by omega) hbase ?_; intro A1 c1 w1 ho1 hg1 hr1)
    go_ret
    exact ⟨A1, c1, rfl, by rw [He1.out, He2.out, List.append_nil]; exact ho1, hg1, hr1.imp id fun h => ⟨_, h, Nat.le_refl _⟩⟩
  · go_enter Try.func47, Try.ntmps47
    go_wp2_with (at_builtin; refine wpList_app rfl (.tmp 23) (.tmp 24) 23 rfl elemO base A n c xs rfl (some ⟨gv, 0, none⟩) 1 1 ys rfl (n + 1) rfl (xs ++ ys) rfl hown hrv hy1 (by omega) (by omega) hbase ?_; intro A1 c1 w1 ho1 hg1 hr1)
    go_ret
    exact ⟨A1, c1, rfl, by rw [He1.out, He2.out, List.append_nil]; exact ho1, hg1, hr1.imp id fun h => ⟨_, h, Nat.le_refl _⟩⟩
set_option maxRecDepth 100000 in
theorem insertO_grow (base : Nat) (A : Option Addr) (n c : Nat) (xs ys : List Value) (i gv : Nat) (w : World) (hown : Own w base 50 3 A n c xs) (h1 : ∀ u ∈ xs, u.oneCell' = true) (hi : i < n) (hc : c < n + 1) (hl : n ≤ 1000000) (hbase : base ≤ w.heap.size)
    (hyl : ys.length = 3) (hy1 : ∀ u ∈ ys, u.oneCell' = true) (hgv : w.heap[gv]? = some (.cells ys.toArray 50 (0, 0))) :
    Calls Try.prog 47 #[.slice A n c, .int .i64 (i : Int), .slice (some ⟨gv, 0, none⟩) 1 1] w (InsO base A n c xs ys i w) := by
  have hnc := hown.nc
  have hcm := hown.cm
  have hxl := hown.len
  unfold maxLen at hcm
  obtain ⟨g, off, p, r, rfl, hbg, hp, hg, hr, hrow⟩ := hown.parts (by omega)
  obtain ⟨x1, hx1⟩ : ∃ x1, x1 = xs.take (i * 3) := ⟨_, rfl⟩
  obtain ⟨x2, hx2⟩ : ∃ x2, x2 = xs.drop (i * 3) := ⟨_, rfl⟩
  have hxy : xs = x1 ++ x2 := by rw [hx1, hx2, List.take_append_drop]
  have hl1 : x1.length = i * 3 := by rw [hx1, List.length_take]; omega
  have hl2 : x2.length = (n - i) * 3 := by rw [hx2, List.length_drop]; omega
  have h12 : ∀ u ∈ x2, u.oneCell' = true := fun u hu => h1 u (by rw [hx2] at hu; exact List.mem_of_mem_drop hu)
  have hr1 : Rd w 3 (some ⟨g, off, none⟩) i x1 := rd_parts (p := p) (r := x2 ++ r) (by rw [← List.append_assoc x1, ← hxy]; exact hg) hp hl1
  have hr2 : Rd w 3 (some ⟨g, off + i * 3, none⟩) (n - i) x2 := rd_parts (p := p ++ x1) (r := r) (by rw [List.append_assoc, ← List.append_assoc x1, ← hxy]; exact hg) (by rw [List.length_append, hp, hl1]) hl2
  have hrv : Rd w 3 (some ⟨gv, 0, none⟩) 1 ys := ⟨by rw [hyl], fun _ => ⟨_, rfl, fun j u hj => by rw [Addr.add_lit, cell_of_row _ _ _ _ _ _ hgv, Nat.zero_add]; simpa using hj⟩⟩
  unfold InsO
  rw [← hx1, ← hx2]
  have Hyl := Lib.hid hyl
  have Hl1 := Lib.hid hl1
  have Hl2 := Lib.hid hl2
  have Hrow := Lib.hid hrow
  have Hown := Lib.hid hown
  clear hx1 hx2 hxy hl1 hl2 hp hrow hxl hyl hgv hg hown
  go_enter Try.func47, Try.ntmps47
  go_wp2_with (at_builtin; refine wpList_appZG rfl (.tmp 34) (.tmp 39) 23 3 rfl elemO Try.underlying3 (.agg #[.bool false, .slice none 0 0, .slice none 0 0]) (by kernel_rfl) g off i c rfl .i64 (n + 1 - i) (Eq.trans rfl (congrArg (Value.int .i64) (by omega : (n : Int) + 1 - i = ((n + 1 - i : Nat) : Int)))) (by omega) (n + 1) (by omega) x1 hr1 (by omega) (by omega) (by omega) ?_; intro c' r' zs W1 hc1 hc2 hr3 hzl hg1 hb1; refine Hid.out ?_)
  rw [← List.take_append_drop 3 zs, List.append_assoc] at hg1
  have hz1 : (zs.take 3).length = ys.length := by rw [List.length_take, hzl, Hyl.out]; omega
  have hz2 : (zs.drop 3).length = x2.length := by rw [List.length_drop, hzl, Hl2.out]; omega
  obtain ⟨C2, hC2⟩ : ∃ C2, (x1 ++ (ys ++ (zs.drop 3 ++ r'))).toArray = C2 := ⟨_, rfl⟩
  obtain ⟨C3, hC3⟩ : ∃ C3, ((x1 ++ ys) ++ (x2 ++ r')).toArray = C3 := ⟨_, rfl⟩
  have HC2 := Lib.hid hC2
  have HC3 := Lib.hid hC3
  have Hz1 := Lib.hid hz1
  have Hz2 := Lib.hid hz2
  have Hr3 := Lib.hid hr3
  clear hzl hC2 hC3 hz1 hz2 hr3
  refine Lib.hid ?_
  go_wp2_with (refine wpList_copyS rfl (.tmp 43) (.tmp 44) 23 rfl elemO w.heap.size (i * 3) (n + 1 - i) (c' - i) rfl (some ⟨gv, 0, none⟩) 1 1 rfl 1 (Nat.min_eq_left (by omega)).symm (by omega) x1 (zs.take 3) (zs.drop 3 ++ r') ys 50 hg1 Hl1.out Hz1.out (hrv.below hb1) hy1 C2 HC2.out ?_; refine Hid.out ?_)
  have hs2 := setRow_heap W1 w.heap.size _ C2 _ _ hg1
  have hb2 : Below w.heap.size w (W1.setRow w.heap.size C2) := ⟨hb1.os, hb1.tape, hb1.output, by simpa using hb1.size, fun k hk => (setRow_other _ _ _ _ (by omega)).trans (hb1.block k hk)⟩
  have hs3 : (W1.setRow w.heap.size C2).heap[w.heap.size]? = some (.cells ((x1 ++ ys) ++ (zs.drop 3 ++ r')).toArray 50 (0, 0)) := by
    rw [hs2, ← HC2.out, List.append_assoc]
  obtain ⟨W2, hW2⟩ : ∃ W2, W2 = W1.setRow w.heap.size C2 := ⟨_, rfl⟩
  rw [← hW2] at hs3 hb2 ⊢
  clear hW2 hs2
  refine Lib.hid ?_
  go_wp2_with fail
  have Hwi := Lib.hid (show IntKind.i64.wrap ((i : Int) + 1) = (i : Int) + 1 by rw [IntKind.wrap_i64]; omega)
  have Hq1 := Lib.hid (show ¬ c' = i + 1 by omega)
  have Hq2 := Lib.hid (show ((0 : Int) ≤ (i : Int) + 1 ∧ (i : Int) + 1 ≤ (n : Int) + 1) by omega)
  have Hq4 := Lib.hid (show i ≤ n by omega)
  have Hq5 := Lib.hid (show ¬ c = i by omega)
  refine rg_start (by kernel_rfl) ?_
  refine rg_take 0 rfl (by kernel_rfl) (by kernel_rfl) (by kernel_rfl) (fun _ _ _ _ h => h) (by rfl) ⟨_, fun w' hx => by (go_simp <;> with_reducible rfl), ?_⟩
  simp only [Act.put, List.setIfInBounds_toArray, List.set_cons_zero, List.set_cons_succ]
  refine rg_take 1 rfl (by kernel_rfl) (by kernel_rfl) (by kernel_rfl) (fun _ _ _ _ h => h) (by rfl) ⟨_, fun w' hx => by (go_simp <;> with_reducible rfl), ?_⟩
  simp only [Act.put, List.setIfInBounds_toArray, List.set_cons_zero, List.set_cons_succ]
  refine rg_take 2 rfl (by kernel_rfl) (by kernel_rfl) (by kernel_rfl) (fun _ _ _ _ h => h) (by rfl) ⟨_, fun w' hx => by (go_simp <;> with_reducible rfl), ?_⟩
  simp only [Act.put, List.setIfInBounds_toArray, List.set_cons_zero, List.set_cons_succ]
  refine rg_take 3 rfl (by kernel_rfl) (by kernel_rfl) (by kernel_rfl) (fun _ _ _ _ h => h) (by rfl) ⟨.int .i64 ((i : Int) + 1), fun w' hx => by (go_simp; first | done | rw [Hwi.out]), ?_⟩
  simp only [Act.put, List.setIfInBounds_toArray, List.set_cons_zero, List.set_cons_succ]
  refine rg_take 4 rfl (by kernel_rfl) (by kernel_rfl) (by kernel_rfl) (fun _ _ _ _ h => h) (by rfl) ⟨.slice (some ⟨w.heap.size, (i + 1) * 3, none⟩) (n - i) (c' - (i + 1)), fun w' hx => by (go_simp; simp [Hq1.out, Hq2.out]; intro h9; omega), ?_⟩
  simp only [Act.put, List.setIfInBounds_toArray, List.set_cons_zero, List.set_cons_succ]
  refine rg_take 5 rfl (by kernel_rfl) (by kernel_rfl) (by kernel_rfl) (fun _ _ _ _ h => h) (by rfl) ⟨_, fun w' hx => by (go_simp <;> with_reducible rfl), ?_⟩
  simp only [Act.put, List.setIfInBounds_toArray, List.set_cons_zero, List.set_cons_succ]
  refine rg_take 6 rfl (by kernel_rfl) (by kernel_rfl) (by kernel_rfl) (fun _ _ _ _ h => h) (by rfl) ⟨_, fun w' hx => by (go_simp <;> with_reducible rfl), ?_⟩
  simp only [Act.put, List.setIfInBounds_toArray, List.set_cons_zero, List.set_cons_succ]
  refine rg_take 7 rfl (by kernel_rfl) (by kernel_rfl) (by kernel_rfl) (fun _ _ _ _ h => h) (by rfl) ⟨.slice (some ⟨g, off + i * 3, none⟩) (n - i) (c - i), fun w' hx => by (go_simp; simp [Hq4.out, Hq5.out]), ?_⟩
  simp only [Act.put, List.setIfInBounds_toArray, List.set_cons_zero, List.set_cons_succ]
  refine rg_one 8 rfl (by kernel_rfl) (by rfl) (wp_copyS (.tmp 50) (.tmp 53) 23 rfl elemO w.heap.size ((i + 1) * 3) (n - i) (c' - (i + 1)) rfl (some ⟨g, off + i * 3, none⟩) (n - i) (c - i) rfl (n - i) (Nat.min_self _).symm (by omega) (x1 ++ ys) (zs.drop 3) r' x2 50 hs3 (by rw [List.length_append, Hl1.out, Hyl.out]; omega) Hz2.out (hr2.below hb2.drew) h12 C3 HC3.out ⟨.inr (by kernel_rfl), ?_⟩)
  simp only [Act.put, List.setIfInBounds_toArray, List.set_cons_zero, List.set_cons_succ]
  refine rg_done (by kernel_rfl) ?_
  have hs4 := setRow_heap W2.drew w.heap.size _ C3 _ _ hs3
  obtain ⟨W3, hW3⟩ : ∃ W3, W3 = W2.drew.setRow w.heap.size C3 := ⟨_, rfl⟩
  have hb3 : Below w.heap.size w W3 := by rw [hW3]; exact ⟨hb2.os, hb2.tape, hb2.output, by simpa using hb2.size, fun k hk => (setRow_other _ _ _ _ (by omega)).trans (hb2.block k hk)⟩
  rw [← hW3] at hs4 ⊢
  clear hW3
  go_wp2_with fail
  go_ret
  refine ⟨some ⟨w.heap.size, 0, none⟩, c', rfl, ?_, grown_ext hb3 _, .inr ⟨w.heap.size, by unfold ownRow; rw [if_neg (by omega)]; rfl, Nat.le_refl _⟩⟩
  refine Own.of_parts (p := []) (r := r') (by rw [hs4, ← HC3.out]; simp only [List.nil_append, List.append_assoc]) hbase (by rw [List.length_append, List.length_append, Hl1.out, Hl2.out, Hyl.out]; omega) hc1 hc2 (by rw [Hr3.out]; exact Nat.le_refl _)
set_option maxRecDepth 100000 in
theorem insertO_shift (base : Nat) (A : Option Addr) (n c : Nat) (xs ys : List Value) (i gv : Nat) (w : World) (hown : Own w base 50 3 A n c xs) (h1 : ∀ u ∈ xs, u.oneCell' = true) (hi : i < n) (hc : n + 1 ≤ c) (hl : n ≤ 1000000)
    (hyl : ys.length = 3) (hy1 : ∀ u ∈ ys, u.oneCell' = true) (hgv : w.heap[gv]? = some (.cells ys.toArray 50 (0, 0))) (hne : ownRow A c ≠ some gv) :
    Calls Try.prog 47 #[.slice A n c, .int .i64 (i : Int), .slice (some ⟨gv, 0, none⟩) 1 1] w (InsO base A n c xs ys i w) := by
  have hcm := hown.cm
  have hxl := hown.len
  unfold maxLen at hcm
  obtain ⟨g, off, p, r, rfl, hbg, hp, hg, hr, hrow⟩ := hown.parts (by omega)
  rw [hrow] at hne
  obtain ⟨x1, hx1⟩ : ∃ x1, x1 = xs.take (i * 3) := ⟨_, rfl⟩
  obtain ⟨x2, hx2⟩ : ∃ x2, x2 = xs.drop (i * 3) := ⟨_, rfl⟩
  have hxy : xs = x1 ++ x2 := by rw [hx1, hx2, List.take_append_drop]
  have hl1 : x1.length = i * 3 := by rw [hx1, List.length_take]; omega
  have hl2 : x2.length = (n - i) * 3 := by rw [hx2, List.length_drop]; omega
  have hl3 : (x2.take 3).length = 3 := by rw [List.length_take]; omega
  have h12 : ∀ u ∈ x2, u.oneCell' = true := fun u hu => h1 u (by rw [hx2] at hu; exact List.mem_of_mem_drop hu)
  have hrv : Rd w 3 (some ⟨gv, 0, none⟩) 1 ys := ⟨by rw [hyl], fun _ => ⟨_, rfl, fun j u hj => by rw [Addr.add_lit, cell_of_row _ _ _ _ _ _ hgv, Nat.zero_add]; simpa using hj⟩⟩
  have hr2 : Rd w 3 (some ⟨g, off + i * 3, none⟩) (n - i) x2 := rd_parts (p := p ++ x1) (r := r) (by rw [List.append_assoc, ← List.append_assoc x1, ← hxy]; exact hg) (by rw [List.length_append, hp, hl1]) hl2
  obtain ⟨b, hb⟩ : ∃ b, b = (x2.drop 3 ++ r).take x2.length := ⟨_, rfl⟩
  obtain ⟨r2, hr3⟩ : ∃ r2, r2 = (x2.drop 3 ++ r).drop x2.length := ⟨_, rfl⟩
  have hrl : 3 ≤ r.length := by have : 1 * 3 ≤ (c - n) * 3 := Nat.mul_le_mul_right 3 (by omega); omega
  have hbl : b.length = x2.length := by rw [hb, List.length_take, List.length_append, List.length_drop]; omega
  have hr2l : (c - (n + 1)) * 3 ≤ r2.length := by rw [hr3, List.length_drop, List.length_append, List.length_drop]; omega
  have hg1 : w.heap[g]? = some (.cells ((p ++ (x1 ++ x2.take 3)) ++ (b ++ r2)).toArray 50 (0, 0)) := by
    rw [hb, hr3, List.take_append_drop, List.append_assoc, List.append_assoc x1, ← List.append_assoc (x2.take 3), List.take_append_drop, ← List.append_assoc x1, ← hxy]; exact hg
  have hov : ∀ o lb cb, (callFunc 57 #[.slice (some ⟨gv, 0, none⟩) 1 1, .slice (some ⟨g, o, none⟩) lb cb]).run Try.prog w = .ok (.value (.bool false)) w := fun o lb cb => by
    rw [run_callFunc_extern Try.func57 (by kernel_rfl) (by kernel_rfl) (by kernel_rfl) (e := Extern.SlicesOverlaps.overlaps #[23, 23] #[4]) (by kernel_rfl),
      Lib.run_overlaps_apart w 23 4 50 Try.underlying23 3 sizeO ⟨gv, 0, none⟩ ⟨g, o, none⟩ 1 1 lb cb (fun e => hne (congrArg some e.symm)) 50 50 ys.toArray.size _ (by show w.shape? gv = _; unfold World.shape?; rw [hgv]) (by show w.shape? g = _; unfold World.shape?; rw [hg1]) (by simp only [List.size_toArray, List.length_append, hl3]; omega) (frozen_of_row w gv _ _ _ hgv) (frozen_of_row w gv _ _ _ hgv)]
    rfl
  unfold InsO
  rw [← hx1, ← hx2]
  have Hyl := Lib.hid hyl
  have Hp := Lib.hid hp
  have Hl1 := Lib.hid hl1
  have Hl2 := Lib.hid hl2
  have Hl3 := Lib.hid hl3
  have Hbl := Lib.hid hbl
  have Hr2 := Lib.hid hr2l
  have Hrow := Lib.hid hrow
  have Hown := Lib.hid hown
  have Hne := Lib.hid hne
  have Hg1 := Lib.hid hg1
  obtain ⟨C1, hC1⟩ : ∃ C1, ((p ++ (x1 ++ x2.take 3)) ++ (x2 ++ r2)).toArray = C1 := ⟨_, rfl⟩
  obtain ⟨C2, hC2⟩ : ∃ C2, ((p ++ x1) ++ (ys ++ (x2 ++ r2))).toArray = C2 := ⟨_, rfl⟩
  have HC1 := Lib.hid hC1
  have HC2 := Lib.hid hC2
  have Hrv := Lib.hid hrv
  have Hgv := Lib.hid hgv
  clear hx1 hx2 hxy hl1 hl2 hl3 hp hrow hxl hyl hgv hg hown hb hr3 hbl hr2l hrl hr hne hg1 hC1 hC2 hrv
  go_enter Try.func47, Try.ntmps47
  go_wp2_with fail
  have Hwi := Lib.hid (show IntKind.i64.wrap ((i : Int) + 1) = (i : Int) + 1 by rw [IntKind.wrap_i64]; omega)
  have Hq1 := Lib.hid (show ¬ c = i + 1 by omega)
  have Hq2 := Lib.hid (show ((0 : Int) ≤ (i : Int) + 1 ∧ (i : Int) + 1 ≤ (n : Int) + 1) by omega)
  have Hq5 := Lib.hid (show ¬ c = i by omega)
  refine rg_start (by kernel_rfl) ?_
  refine rg_take 0 rfl (by kernel_rfl) (by kernel_rfl) (by kernel_rfl) (fun _ _ _ _ h => h) (by rfl) ⟨_, fun w' hx => by (go_simp <;> with_reducible rfl), ?_⟩
  simp only [Act.put, List.setIfInBounds_toArray, List.set_cons_zero, List.set_cons_succ]
  refine rg_take 1 rfl (by kernel_rfl) (by kernel_rfl) (by kernel_rfl) (fun _ _ _ _ h => h) (by rfl) ⟨_, fun w' hx => by (go_simp <;> with_reducible rfl), ?_⟩
  simp only [Act.put, List.setIfInBounds_toArray, List.set_cons_zero, List.set_cons_succ]
  refine rg_take 2 rfl (by kernel_rfl) (by kernel_rfl) (by kernel_rfl) (fun _ _ _ _ h => h) (by rfl) ⟨_, fun w' hx => by (go_simp <;> with_reducible rfl), ?_⟩
  simp only [Act.put, List.setIfInBounds_toArray, List.set_cons_zero, List.set_cons_succ]
  refine rg_take 3 rfl (by kernel_rfl) (by kernel_rfl) (by kernel_rfl) (fun _ _ _ _ h => h) (by rfl) ⟨.int .i64 ((i : Int) + 1), fun w' hx => by (go_simp; first | done | rw [Hwi.out]), ?_⟩
  simp only [Act.put, List.setIfInBounds_toArray, List.set_cons_zero, List.set_cons_succ]
  refine rg_take 4 rfl (by kernel_rfl) (by kernel_rfl) (by kernel_rfl) (fun _ _ _ _ h => h) (by rfl) ⟨.slice (some ⟨g, off + (i + 1) * 3, none⟩) (n - i) (c - (i + 1)), fun w' hx => by (go_simp; simp [Hq1.out, Hq2.out]; intro h9; omega), ?_⟩
  simp only [Act.put, List.setIfInBounds_toArray, List.set_cons_zero, List.set_cons_succ]
  refine rg_take 5 rfl (by kernel_rfl) (by kernel_rfl) (by kernel_rfl) (fun _ _ _ _ h => h) (by rfl) ⟨_, fun w' hx => by (go_simp <;> with_reducible rfl), ?_⟩
  simp only [Act.put, List.setIfInBounds_toArray, List.set_cons_zero, List.set_cons_succ]
  refine rg_take 6 rfl (by kernel_rfl) (by kernel_rfl) (by kernel_rfl) (fun _ _ _ _ h => h) (by rfl) ⟨_, fun w' hx => by (go_simp <;> with_reducible rfl), ?_⟩
  simp only [Act.put, List.setIfInBounds_toArray, List.set_cons_zero, List.set_cons_succ]
  refine rg_take 7 rfl (by kernel_rfl) (by kernel_rfl) (by kernel_rfl) (fun _ _ _ _ h => h) (by rfl) ⟨.slice (some ⟨g, off + i * 3, none⟩) (n + 1 - i) (c - i), fun w' hx => by (go_simp; simp [Hq5.out]; intro h9; omega), ?_⟩
  simp only [Act.put, List.setIfInBounds_toArray, List.set_cons_zero, List.set_cons_succ]
  refine rg_one 8 rfl (by kernel_rfl) (by rfl) (wp_copyS (.tmp 73) (.tmp 76) 23 rfl elemO g (off + (i + 1) * 3) (n - i) (c - (i + 1)) rfl (some ⟨g, off + i * 3, none⟩) (n + 1 - i) (c - i) rfl (n - i) (Nat.min_eq_right (by omega)).symm (by omega) (p ++ (x1 ++ x2.take 3)) b r2 x2 50 Hg1.out (by rw [List.length_append, List.length_append, Hp.out, Hl1.out, Hl3.out]; omega) Hbl.out (hr2.below (Ext.drew _)) h12 C1 HC1.out ⟨.inr (by kernel_rfl), ?_⟩)
  simp only [Act.put, List.setIfInBounds_toArray, List.set_cons_zero, List.set_cons_succ]
  refine rg_done (by kernel_rfl) ?_
  have hs2 := setRow_heap w.drew g _ C1 _ _ Hg1.out
  have hgr2 : w.grownBy (w.drew.setRow g C1) (some g) := ⟨rfl, rfl, rfl, by simp, fun k _ hk => setRow_other w.drew g k _ (fun e => hk (by rw [e]))⟩
  have hv2 : (w.drew.setRow g C1).heap[gv]? = some (.cells ys.toArray 50 (0, 0)) := (setRow_other _ _ _ _ (fun e => Hne.out (congrArg some e.symm))).trans Hgv.out
  obtain ⟨W2, hW2⟩ : ∃ W2, W2 = w.drew.setRow g C1 := ⟨_, rfl⟩
  rw [← hW2] at hs2 hgr2 hv2 ⊢
  clear hW2
  have hs3 : W2.heap[g]? = some (.cells ((p ++ x1) ++ (x2.take 3 ++ (x2 ++ r2))).toArray 50 (0, 0)) := by
    rw [hs2, ← HC1.out]; simp only [List.append_assoc]
  have hrv2 : Rd W2 3 (some ⟨gv, 0, none⟩) 1 ys := ⟨by rw [Hyl.out], fun _ => ⟨_, rfl, fun j u hj => by rw [Addr.add_lit, cell_of_row _ _ _ _ _ _ hv2, Nat.zero_add]; simpa using hj⟩⟩
  have Hs2 := Lib.hid hs2
  have Hv2 := Lib.hid hv2
  clear hs2 hv2
  refine Lib.hid ?_
  go_wp2_with (refine wpList_copyS rfl (.tmp 80) (.tmp 81) 23 rfl elemO g (off + i * 3) (n + 1 - i) (c - i) rfl (some ⟨gv, 0, none⟩) 1 1 rfl 1 (Nat.min_eq_left (by omega)).symm (by omega) (p ++ x1) (x2.take 3) (x2 ++ r2) ys 50 hs3 (by rw [List.length_append, Hp.out, Hl1.out]) (by rw [Hl3.out, Hyl.out]) hrv2 hy1 C2 HC2.out ?_)
  go_ret
  have hs4 := setRow_heap W2 g _ C2 _ _ hs3
  refine ⟨some ⟨g, off, none⟩, c, rfl, ?_, ?_, .inl rfl⟩
  · obtain rfl := Hp.out
    refine Own.of_parts (r := r2) (by rw [hs4, ← HC2.out]; simp only [List.append_assoc]) hbg (by rw [List.length_append, List.length_append, Hl1.out, Hl2.out, Hyl.out]; omega) hc Hown.out.cm Hr2.out
  · rw [Hrow.out]
    exact ⟨hgr2.os, hgr2.tape, hgr2.output, by simpa using hgr2.size, fun k hk hne => (setRow_other _ _ _ _ (fun e => hne (by rw [e]))).trans (hgr2.block k hk hne)⟩
theorem insertO_any (base : Nat) (A : Option Addr) (n c : Nat) (xs ys : List Value) (i gv : Nat) (w : World) (hown : Own w base 50 3 A n c xs) (h1 : ∀ u ∈ xs, u.oneCell' = true) (hi : i ≤ n) (hl : n ≤ 1000000) (hbase : base ≤ w.heap.size)
    (hyl : ys.length = 3) (hy1 : ∀ u ∈ ys, u.oneCell' = true) (hgv : w.heap[gv]? = some (.cells ys.toArray 50 (0, 0))) (hne : ownRow A c ≠ some gv) :
    Calls Try.prog 47 #[.slice A n c, .int .i64 (i : Int), .slice (some ⟨gv, 0, none⟩) 1 1] w (InsO base A n c xs ys i w) := by
  rcases Nat.lt_or_ge i n with h | h
  · rcases Nat.lt_or_ge c (n + 1) with h2 | h2
    · exact insertO_grow base A n c xs ys i gv w hown h1 h h2 hl hbase hyl hy1 hgv
    · exact insertO_shift base A n c xs ys i gv w hown h1 h h2 hl hyl hy1 hgv hne
  · obtain rfl : i = n := by omega
    exact insertO_end base A i c xs ys gv w hown hl hbase hyl hy1 hgv
end Go.Proofs.Ytdekdblebflklaa
