
/- A block taken in (sha.words.take). -/

import Derived.Test.YtnagbhaknmoilaaShaRounds

namespace Go.Proofs.Ytnagbhaknmoilaa

open Go.RowKit

attribute [local go_sem] W_xor W_and W_or W_not W_add W_add' W_shr3 W_shr10

def hashC (s : Sha.St) (r : Value) (n : Nat) : Array Value := #[wv s.a, wv s.b, wv s.c, wv s.d, wv s.e, wv s.f, wv s.g, wv s.h, r, .int .u64 (n : Int)]

set_option maxRecDepth 100000 in
set_option maxHeartbeats 2000000 in
theorem new_any (w : World) : Calls Try.prog 27 #[] w fun e w' => ∃ g, e = .returned (.pointer (some ⟨g, 0, none⟩)) ∧ w.heap.size ≤ g ∧ w'.heap[g]? = some (.cells (hashC Sha.first (.slice none 0 0) 0) 78 (0, 0)) ∧ Below w.heap.size w w' := by
  go_enter Try.func27, Try.ntmps27
  go_wp2_with fail
  refine (first_any w).mono ?_
  rintro e w1 ⟨rfl, hb1⟩
  simp only [stC, wv]
  go_wp2_with fail
  go_ret
  exact ⟨w1.heap.size, rfl, hb1.size, heap_alloc_new w1 _, ext_trans hb1 (Ext.alloc _ _)⟩

/-! take -/

theorem elemU32 : ElemT Try.prog 57 29 1 4 := ElemT.mk' (z := .int .u32 0) Try.underlying57 (by kernel_rfl) rfl (by omega)
theorem two_new (w : World) (o1 o2 : Obj) : ((w.alloc o1).alloc o2).heap[w.heap.size]? = some o1 ∧ ((w.alloc o1).alloc o2).heap[w.heap.size + 1]? = some o2 := by
  have h1 := heap_alloc_new w o1
  have h2 := heap_alloc_new (w.alloc o1) o2
  exact ⟨((Ext.alloc _ _).block _ (lt_of_heap h1)).trans h1, by simpa using h2⟩
theorem rows_cont {motive : World → Prop} (w : World) (Z1 Z2 C1 C2 : Array Value) (t : TypeId)
    (h : ∀ X : World, X.heap[w.heap.size]? = some (.cells C1 t (0, 0)) → X.heap[w.heap.size + 1]? = some (.cells C2 t (0, 0)) → Ext w X → X.heap.size = w.heap.size + 2 → motive X) :
    motive ((((w.alloc (.cells Z1 t)).alloc (.cells Z2 t)).setRow w.heap.size C1).setRow (w.heap.size + 1) C2) := by
  obtain ⟨h1, h2⟩ := two_new w (.cells Z1 t) (.cells Z2 t)
  have h3 := setRow_heap _ w.heap.size _ C1 _ _ h1
  have h4 := (setRow_other ((w.alloc (.cells Z1 t)).alloc (.cells Z2 t)) w.heap.size (w.heap.size + 1) C1 (by omega)).trans h2
  have h5 := (setRow_other (((w.alloc (.cells Z1 t)).alloc (.cells Z2 t)).setRow w.heap.size C1) (w.heap.size + 1) w.heap.size C2 (by omega)).trans h3
  have hE := Ext.tr (Ext.alloc w (.cells Z1 t)) (Ext.alloc _ (.cells Z2 t))
  refine h _ h5 (setRow_heap _ _ _ _ _ _ h4) ⟨hE.os, hE.tape, hE.output, by simpa using hE.size, fun i hi => ?_⟩ (by simp)
  rw [setRow_other _ _ _ _ (by omega), setRow_other _ _ _ _ (by omega)]
  exact hE.block i hi
theorem infoW (l : List UInt32) (h : l.length ≤ 64) : (Try.prog.info? 86).map (·.size) = some (schC l).size := by rw [schC_size _ h]; kernel_rfl
theorem sch_full (l : List UInt32) (hl : l.length = 64) (j : Nat) (h : j < 64) : (schC l)[j]? = some (.int .u32 (W (l.getD j 0))) := schC_get _ _ (by omega)

/-- The sums so far. -/
def mixL (s v : Sha.St) (i : Nat) : List UInt32 := (List.range 8).map fun j => if j < i then s.list.getD j 0 + v.list.getD j 0 else s.list.getD j 0
def mixC (s v : Sha.St) (i : Nat) (r : Value) (n : Nat) : Array Value := ((mixL s v i).map wv ++ [r, .int .u64 (n : Int)]).toArray
theorem mix0 (s v : Sha.St) (r : Value) (n : Nat) : mixC s v 0 r n = hashC s r n := rfl
theorem mix8 (s v : Sha.St) (r : Value) (n : Nat) : mixC s v 8 r n = hashC (Sha.plus s v) r n := rfl
theorem to8 {i : Nat} (h : i < 8) : i = 0 ∨ i = 1 ∨ i = 2 ∨ i = 3 ∨ i = 4 ∨ i = 5 ∨ i = 6 ∨ i = 7 := by omega
theorem mix_get (s v : Sha.St) (i : Nat) (h : i < 8) (r : Value) (n : Nat) : (mixC s v i r n)[i]? = some (.int .u32 (W (s.list.getD i 0))) := by
  rcases to8 h with rfl | rfl | rfl | rfl | rfl | rfl | rfl | rfl <;> rfl
theorem mix_set (s v : Sha.St) (i : Nat) (h : i < 8) (r : Value) (n : Nat) : (mixC s v i r n).setIfInBounds i (.int .u32 (W (s.list.getD i 0 + v.list.getD i 0))) = mixC s v (i + 1) r n := by
  rcases to8 h with rfl | rfl | rfl | rfl | rfl | rfl | rfl | rfl <;> rfl
theorem stC_get (v : Sha.St) (i : Nat) (h : i < 8) : (stC v)[i]? = some (.int .u32 (W (v.list.getD i 0))) := by
  rcases to8 h with rfl | rfl | rfl | rfl | rfl | rfl | rfl | rfl <;> rfl
theorem grownBy_cell {a w : World} {g : Nat} (h : a.grownBy w (some g)) (i : Nat) (x : Value) : a.grownBy (w.setCell ⟨g, i, none⟩ x) (some g) :=
  ⟨h.os, h.tape, h.output, by simpa using h.size, fun k hk hne => (heap_setCell_other _ _ _ _ (fun e => hne (by rw [e]))).trans (h.block k hk hne)⟩
theorem grownBy_drew {a w : World} {g : Option Nat} (h : a.grownBy w g) : a.grownBy w.drew g := ⟨h.os, h.tape, h.output, h.size, h.block⟩

/-- What the rounds keep: the block's words, the constant words, the turned state. -/
structure TakeI (w0 : World) (l : List UInt32) (B gw gk gv : Nat) (C : Array Value) (wr : World) : Prop where
  rw_ : wr.heap[gw]? = some (.cells (schC l) 86 (0, 0))
  rk : wr.heap[gk]? = some (.cells (schC Sha.k) 86 (0, 0))
  rv : wr.heap[gv]? = some (.cells C 75 (0, 0))
  bel : Below B w0 wr
theorem TakeI.drew {w0 : World} {l : List UInt32} {B gw gk gv : Nat} {C : Array Value} {wr : World} (h : TakeI w0 l B gw gk gv C wr) : TakeI w0 l B gw gk gv C wr.drew := ⟨h.rw_, h.rk, h.rv, h.bel.drew⟩
theorem TakeI.row {w0 : World} {l : List UInt32} {B gw gk gv : Nat} {C : Array Value} {wr : World} (h : TakeI w0 l B gw gk gv C wr) (h1 : gw ≠ gv) (h2 : gk ≠ gv) (h3 : B ≤ gv) (C' : Array Value) : TakeI w0 l B gw gk gv C' (wr.setRow gv C') :=
  ⟨(setRow_other _ _ _ _ h1).trans h.rw_, (setRow_other _ _ _ _ h2).trans h.rk, setRow_heap _ _ _ _ _ _ h.rv, ⟨h.bel.os, h.bel.tape, h.bel.output, by simpa using h.bel.size, fun i hi => (setRow_other _ _ _ _ (by omega)).trans (h.bel.block i hi)⟩⟩
theorem TakeI.cell {w0 : World} {l : List UInt32} {B gw gk gv : Nat} {C : Array Value} {wr : World} (h : TakeI w0 l B gw gk gv C wr) (h1 : gw ≠ gv) (h2 : gk ≠ gv) (h3 : B ≤ gv) (i : Nat) (x : Value) : TakeI w0 l B gw gk gv (C.setIfInBounds i x) (wr.setCell ⟨gv, i, none⟩ x) :=
  ⟨(heap_setCell_other _ _ _ _ h1).trans h.rw_, (heap_setCell_other _ _ _ _ h2).trans h.rk, heap_setCell_same _ _ _ _ _ _ h.rv, h.bel.setCell h3 x⟩

set_option maxRecDepth 100000 in
set_option maxHeartbeats 4000000 in
theorem take_any (g : Nat) (s : Sha.St) (r : Value) (n : Nat) (A : Option Addr) (b : List UInt8) (cap : Nat) (w : World) (hg : w.heap[g]? = some (.cells (hashC s r n) 78 (0, 0))) (hA : RdB w A b) (hl : b.length = 64) (hc : 64 ≤ cap) :
    Calls Try.prog 35 #[.pointer (some ⟨g, 0, none⟩), .slice A 64 cap] w fun e w' => e = .returned (.tuple #[]) ∧ w'.heap[g]? = some (.cells (hashC (Sha.block s b) r n) 78 (0, 0)) ∧ w.grownBy w' (some g) := by
  have hgl := lt_of_heap hg
  have hsl := Sha.sch_len b 64
  obtain ⟨l, hl0⟩ : ∃ l, l = Sha.sch b 64 := ⟨_, rfl⟩
  rw [← hl0] at hsl
  have Hl0 := Lib.hid hl0
  have Hsl := Lib.hid hsl
  go_enter Try.func35, Try.ntmps35
  go_wp2_with fail
  have h0 := sched_any A b cap w hA hl hc
  rw [← hl0] at h0
  clear hl0 hsl
  refine h0.mono ?_
  clear h0
  rintro e w1 ⟨rfl, hb1⟩
  go_wp2_with fail
  refine (rounds_any w1).mono ?_
  rintro e w2 ⟨rfl, hb2⟩
  have hb12 := ext_trans hb1 hb2
  have hg2 := (hb12.block _ hgl).trans hg
  have hi0 : w2.cell? ⟨g, 0, none⟩ = some (.int .u32 (W s.a)) := cell_of_row w2 _ 0 _ _ _ hg2
  have hi1 : w2.cell? ⟨g, 1, none⟩ = some (.int .u32 (W s.b)) := cell_of_row w2 _ 1 _ _ _ hg2
  have hi2 : w2.cell? ⟨g, 2, none⟩ = some (.int .u32 (W s.c)) := cell_of_row w2 _ 2 _ _ _ hg2
  have hi3 : w2.cell? ⟨g, 3, none⟩ = some (.int .u32 (W s.d)) := cell_of_row w2 _ 3 _ _ _ hg2
  have hi4 : w2.cell? ⟨g, 4, none⟩ = some (.int .u32 (W s.e)) := cell_of_row w2 _ 4 _ _ _ hg2
  have hi5 : w2.cell? ⟨g, 5, none⟩ = some (.int .u32 (W s.f)) := cell_of_row w2 _ 5 _ _ _ hg2
  have hi6 : w2.cell? ⟨g, 6, none⟩ = some (.int .u32 (W s.g)) := cell_of_row w2 _ 6 _ _ _ hg2
  have hi7 : w2.cell? ⟨g, 7, none⟩ = some (.int .u32 (W s.h)) := cell_of_row w2 _ 7 _ _ _ hg2
  go_wp2_with (first
    | (refine wpList_store_row rfl 86 (.tmp 4) (.tmp 17) rfl w2.heap.size (schC l) rfl rfl 86 _ (two_new w2 _ _).1 (infoW l (by rw [Hsl.out]; omega)) (by rw [schC_size _ (by rw [Hsl.out]; omega)]; rfl) (schC_one _) ?_)
    | (refine wpList_store_row rfl 86 (.tmp 5) (.tmp 18) rfl (w2.heap.size + 1) (schC Sha.k) rfl rfl 86 _ ((setRow_other _ _ _ _ (by omega)).trans (two_new w2 _ _).2) (infoW Sha.k (by decide)) (by rw [schC_size _ (by decide)]; rfl) (schC_one _) ?_; refine rows_cont (motive := fun X => wpList _ _ _ _ _ X) w2 _ _ _ _ _ (fun W3 hrw hrk hx3 hs3 => ?_); have hj0 := hx3.load hi0; have hj1 := hx3.load hi1; have hj2 := hx3.load hi2; have hj3 := hx3.load hi3; have hj4 := hx3.load hi4; have hj5 := hx3.load hi5; have hj6 := hx3.load hi6; have hj7 := hx3.load hi7))

  have hgs : ∃ W4, W4 = W3.alloc (.cells (stC s) 75) := ⟨_, rfl⟩
  obtain ⟨W4, hW4⟩ := hgs
  have hv4 : W4.heap[w2.heap.size + 2]? = some (.cells (stC s) 75 (0, 0)) := by rw [hW4, ← hs3]; exact heap_alloc_new W3 _
  have hE34 : Ext W3 W4 := by rw [hW4]; exact Ext.alloc W3 _
  have hI : TakeI w2 l w2.heap.size w2.heap.size (w2.heap.size + 1) (w2.heap.size + 2) (stC s) W4 := ⟨(hE34.block _ (lt_of_heap hrw)).trans hrw, (hE34.block _ (lt_of_heap hrk)).trans hrk, hv4, Ext.tr hx3 hE34⟩
  obtain ⟨gw, hgw⟩ : ∃ gw, gw = w2.heap.size := ⟨_, rfl⟩
  rw [show W3.alloc (.cells #[Value.int .u32 (W s.a), .int .u32 (W s.b), .int .u32 (W s.c), .int .u32 (W s.d), .int .u32 (W s.e), .int .u32 (W s.f), .int .u32 (W s.g), .int .u32 (W s.h)] 75) = W4 from hW4.symm]
  clear hW4 hv4 hE34 hrw hrk hx3 hs3 hj0 hj1 hj2 hj3 hj4 hj5 hj6 hj7 hi0 hi1 hi2 hi3 hi4 hi5 hi6 hi7
  rw [← hgw] at hI ⊢
  have hI0 : TakeI w2 l w2.heap.size gw (gw + 1) (gw + 2) (stC (Sha.rnds l s 0)) W4 := by rw [hgw] at hI ⊢; exact hI
  have Hgw := Lib.hid hgw
  clear hgw hI
  go_loopw [22] (fun i wr => ∃ t : Nat, t ≤ 64 ∧ i = .int .i64 t ∧ TakeI w2 l w2.heap.size gw (gw + 1) (gw + 2) (stC (Sha.rnds l s t)) wr) (fun i _ => 64 - (intOf i).toNat)
  case atStart => exact ⟨0, by omega, rfl, hI0⟩
  case round =>
    obtain ⟨t, ht, rfl, hI⟩ := hrel
    by_cases h64 : t < 64
    · rename_i wr
      obtain ⟨v, hv⟩ : ∃ v, v = Sha.rnds l s t := ⟨_, rfl⟩
      rw [← hv] at hI
      have hnx : Sha.rnds l s (t + 1) = Sha.rnd v (Sha.k.getD t 0) (l.getD t 0) := by rw [hv]; rfl
      have Hnx := Lib.hid hnx
      have hlt : (t : Int) < 64 := by omega
      clear hv hnx
      have hId := hI.drew
      have p0 : wr.drew.cell? ⟨gw + 2, 0, none⟩ = some (.int .u32 (W v.a)) := cell_of_row wr.drew _ 0 _ _ _ hId.rv
      have p1 : wr.drew.cell? ⟨gw + 2, 1, none⟩ = some (.int .u32 (W v.b)) := cell_of_row wr.drew _ 1 _ _ _ hId.rv
      have p2 : wr.drew.cell? ⟨gw + 2, 2, none⟩ = some (.int .u32 (W v.c)) := cell_of_row wr.drew _ 2 _ _ _ hId.rv
      have p3 : wr.drew.cell? ⟨gw + 2, 3, none⟩ = some (.int .u32 (W v.d)) := cell_of_row wr.drew _ 3 _ _ _ hId.rv
      have p4 : wr.drew.cell? ⟨gw + 2, 4, none⟩ = some (.int .u32 (W v.e)) := cell_of_row wr.drew _ 4 _ _ _ hId.rv
      have p5 : wr.drew.cell? ⟨gw + 2, 5, none⟩ = some (.int .u32 (W v.f)) := cell_of_row wr.drew _ 5 _ _ _ hId.rv
      have p6 : wr.drew.cell? ⟨gw + 2, 6, none⟩ = some (.int .u32 (W v.g)) := cell_of_row wr.drew _ 6 _ _ _ hId.rv
      have p7 : wr.drew.cell? ⟨gw + 2, 7, none⟩ = some (.int .u32 (W v.h)) := cell_of_row wr.drew _ 7 _ _ _ hId.rv
      go_wp2_with fail
      refine rg_start (by kernel_rfl) ?_
      refine rg_take 0 rfl (by kernel_rfl) (by kernel_rfl) (by kernel_rfl) (fun _ _ _ _ h => h) (by rfl) ⟨_, fun w' hx => by (go_simp <;> with_reducible rfl), ?_⟩   -- t25 := indexAddr 48 t6 0:i64
      simp only [Act.put, List.setIfInBounds_toArray, List.set_cons_zero, List.set_cons_succ]
      refine rg_take 1 rfl (by kernel_rfl) (by kernel_rfl) (by kernel_rfl) (fun _ _ _ _ h => h) (by rfl) ⟨_, fun w' hx => by have hcx := hx.load p0; (go_simp <;> with_reducible rfl), ?_⟩
      simp only [Act.put, List.setIfInBounds_toArray, List.set_cons_zero, List.set_cons_succ]
      refine rg_take 2 rfl (by kernel_rfl) (by kernel_rfl) (by kernel_rfl) (fun _ _ _ _ h => h) (by rfl) ⟨_, fun w' hx => by (go_simp <;> with_reducible rfl), ?_⟩   -- t27 := indexAddr 48 t6 4:i64
      simp only [Act.put, List.setIfInBounds_toArray, List.set_cons_zero, List.set_cons_succ]
      refine rg_take 3 rfl (by kernel_rfl) (by kernel_rfl) (by kernel_rfl) (fun _ _ _ _ h => h) (by rfl) ⟨_, fun w' hx => by have hcx := hx.load p4; (go_simp <;> with_reducible rfl), ?_⟩
      simp only [Act.put, List.setIfInBounds_toArray, List.set_cons_zero, List.set_cons_succ]
      refine rg_take 4 rfl (by kernel_rfl) (by kernel_rfl) (by kernel_rfl) (fun _ _ _ _ h => h) (by rfl) ⟨_, fun w' hx => by (go_simp <;> with_reducible rfl), ?_⟩
      simp only [Act.put, List.setIfInBounds_toArray, List.set_cons_zero, List.set_cons_succ]
      refine rg_take 5 rfl (by kernel_rfl) (by kernel_rfl) (by kernel_rfl) (fun _ _ _ _ h => h) (by rfl) ⟨_, fun w' hx => by (go_simp <;> with_reducible rfl), ?_⟩
      simp only [Act.put, List.setIfInBounds_toArray, List.set_cons_zero, List.set_cons_succ]
      refine rg_done (by kernel_rfl) ?_
      obtain ⟨W1, hW1⟩ : ∃ W1, W1 = wr.drew := ⟨_, rfl⟩
      rw [← hW1] at hId p0 p1 p2 p3 p4 p5 p6 p7 ⊢
      clear hW1 hI
      go_wp2_with fail
      refine (right_any _ 6 (by omega) (by omega) _).mono ?_
      rintro e w' ⟨rfl, rfl⟩
      go_wp2_with fail
      refine (right_any _ 11 (by omega) (by omega) _).mono ?_
      rintro e w' ⟨rfl, rfl⟩
      go_wp2_with fail
      refine (right_any _ 25 (by omega) (by omega) _).mono ?_
      rintro e w' ⟨rfl, rfl⟩
      go_wp2_with fail
      refine (right_any _ 2 (by omega) (by omega) _).mono ?_
      rintro e w' ⟨rfl, rfl⟩
      go_wp2_with fail
      refine (right_any _ 13 (by omega) (by omega) _).mono ?_
      rintro e w' ⟨rfl, rfl⟩
      go_wp2_with fail
      refine (right_any _ 22 (by omega) (by omega) _).mono ?_
      rintro e w' ⟨rfl, rfl⟩
      go_wp2_with fail
      have hJ := hId.drew
      have hX := Ext.drew W1
      have q0 := hX.load p0
      have q1 := hX.load p1
      have q2 := hX.load p2
      have q3 := hX.load p3
      have q4 := hX.load p4
      have q5 := hX.load p5
      have q6 := hX.load p6
      have q7 := hX.load p7
      have hkt : W1.drew.cell? ⟨gw + 1, t, none⟩ = some (.int .u32 (W (Sha.k.getD t 0))) := (cell_of_row W1.drew _ t _ _ _ hJ.rk).trans (sch_full Sha.k rfl t h64)
      have hwt : W1.drew.cell? ⟨gw, t, none⟩ = some (.int .u32 (W (l.getD t 0))) := (cell_of_row W1.drew _ t _ _ _ hJ.rw_).trans (sch_full l Hsl.out t h64)

      refine rg_start (by kernel_rfl) ?_
      refine rg_take 0 rfl (by kernel_rfl) (by kernel_rfl) (by kernel_rfl) (fun _ _ _ _ h => h) (by rfl) ⟨_, fun w' hx => by (go_simp <;> with_reducible rfl), ?_⟩   -- t70 := indexAddr 48 t6 7:i64
      simp only [Act.put, List.setIfInBounds_toArray, List.set_cons_zero, List.set_cons_succ]
      refine rg_take 1 rfl (by kernel_rfl) (by kernel_rfl) (by kernel_rfl) (fun _ _ _ _ h => h) (by rfl) ⟨_, fun w' hx => by have hcx := hx.load q7; (go_simp <;> with_reducible rfl), ?_⟩
      simp only [Act.put, List.setIfInBounds_toArray, List.set_cons_zero, List.set_cons_succ]
      refine rg_take 2 rfl (by kernel_rfl) (by kernel_rfl) (by kernel_rfl) (fun _ _ _ _ h => h) (by rfl) ⟨_, fun w' hx => by (go_simp <;> with_reducible rfl), ?_⟩
      simp only [Act.put, List.setIfInBounds_toArray, List.set_cons_zero, List.set_cons_succ]
      refine rg_take 3 rfl (by kernel_rfl) (by kernel_rfl) (by kernel_rfl) (fun _ _ _ _ h => h) (by rfl) ⟨_, fun w' hx => by (go_simp <;> with_reducible rfl), ?_⟩   -- t73 := binOp add 44 t71 t72 44
      simp only [Act.put, List.setIfInBounds_toArray, List.set_cons_zero, List.set_cons_succ]
      refine rg_take 4 rfl (by kernel_rfl) (by kernel_rfl) (by kernel_rfl) (fun _ _ _ _ h => h) (by rfl) ⟨_, fun w' hx => by (go_simp <;> with_reducible rfl), ?_⟩
      simp only [Act.put, List.setIfInBounds_toArray, List.set_cons_zero, List.set_cons_succ]
      refine rg_take 5 rfl (by kernel_rfl) (by kernel_rfl) (by kernel_rfl) (fun _ _ _ _ h => h) (by rfl) ⟨_, fun w' hx => by (go_simp <;> with_reducible rfl), ?_⟩   -- t75 := binOp add 44 t73 t74 44
      simp only [Act.put, List.setIfInBounds_toArray, List.set_cons_zero, List.set_cons_succ]
      refine rg_take 6 rfl (by kernel_rfl) (by kernel_rfl) (by kernel_rfl) (fun _ _ _ _ h => h) (by rfl) ⟨_, fun w' hx => by (go_simp <;> with_reducible rfl), ?_⟩
      simp only [Act.put, List.setIfInBounds_toArray, List.set_cons_zero, List.set_cons_succ]
      refine rg_take 7 rfl (by kernel_rfl) (by kernel_rfl) (by kernel_rfl) (fun _ _ _ _ h => h) (by rfl) ⟨_, fun w' hx => by (go_simp <;> with_reducible rfl), ?_⟩   -- t77 := indexAddr 67 t5 t76
      simp only [Act.put, List.setIfInBounds_toArray, List.set_cons_zero, List.set_cons_succ]
      refine rg_take 8 rfl (by kernel_rfl) (by kernel_rfl) (by kernel_rfl) (fun _ _ _ _ h => h) (by rfl) ⟨_, fun w' hx => by have hcx := hx.load hkt; (go_simp <;> with_reducible rfl), ?_⟩
      simp only [Act.put, List.setIfInBounds_toArray, List.set_cons_zero, List.set_cons_succ]
      refine rg_take 9 rfl (by kernel_rfl) (by kernel_rfl) (by kernel_rfl) (fun _ _ _ _ h => h) (by rfl) ⟨_, fun w' hx => by (go_simp <;> with_reducible rfl), ?_⟩   -- t79 := binOp add 44 t75 t78 44
      simp only [Act.put, List.setIfInBounds_toArray, List.set_cons_zero, List.set_cons_succ]
      refine rg_take 10 rfl (by kernel_rfl) (by kernel_rfl) (by kernel_rfl) (fun _ _ _ _ h => h) (by rfl) ⟨_, fun w' hx => by (go_simp <;> with_reducible rfl), ?_⟩
      simp only [Act.put, List.setIfInBounds_toArray, List.set_cons_zero, List.set_cons_succ]
      refine rg_take 11 rfl (by kernel_rfl) (by kernel_rfl) (by kernel_rfl) (fun _ _ _ _ h => h) (by rfl) ⟨_, fun w' hx => by (go_simp <;> with_reducible rfl), ?_⟩   -- t81 := indexAddr 67 t4 t80
      simp only [Act.put, List.setIfInBounds_toArray, List.set_cons_zero, List.set_cons_succ]
      refine rg_take 12 rfl (by kernel_rfl) (by kernel_rfl) (by kernel_rfl) (fun _ _ _ _ h => h) (by rfl) ⟨_, fun w' hx => by have hcx := hx.load hwt; (go_simp <;> with_reducible rfl), ?_⟩
      simp only [Act.put, List.setIfInBounds_toArray, List.set_cons_zero, List.set_cons_succ]
      refine rg_take 13 rfl (by kernel_rfl) (by kernel_rfl) (by kernel_rfl) (fun _ _ _ _ h => h) (by rfl) ⟨_, fun w' hx => by (go_simp <;> with_reducible rfl), ?_⟩   -- t83 := binOp add 44 t79 t82 44
      simp only [Act.put, List.setIfInBounds_toArray, List.set_cons_zero, List.set_cons_succ]
      refine rg_take 14 rfl (by kernel_rfl) (by kernel_rfl) (by kernel_rfl) (fun _ _ _ _ h => h) (by rfl) ⟨_, fun w' hx => by (go_simp <;> with_reducible rfl), ?_⟩
      simp only [Act.put, List.setIfInBounds_toArray, List.set_cons_zero, List.set_cons_succ]
      refine rg_done (by kernel_rfl) ?_
      obtain ⟨W2, hW2⟩ : ∃ W2, W2 = W1.drew := ⟨_, rfl⟩
      rw [← hW2] at hJ q0 q1 q2 q3 q4 q5 q6 q7 ⊢
      clear hW2 hId p0 p1 p2 p3 p4 p5 p6 p7 hkt hwt hX
      have hrv := hJ.drew.rv
      have hrd : Rd W2.drew 1 (some ⟨gw + 2, 0, none⟩) 7 ((stC v).toList.take 7) := by
        refine ⟨rfl, fun _ => ⟨_, rfl, fun j u hj => ?_⟩⟩
        have hj7 : j < 7 := by
          rcases Nat.lt_or_ge j 7 with h' | h'
          · exact h'
          · rw [List.getElem?_eq_none (by simpa [stC] using h')] at hj; cases hj
        rw [Addr.add_lit, Nat.zero_add, cell_of_row _ _ _ _ _ _ hrv, ← Array.getElem?_toList, ← hj, List.getElem?_take, if_pos hj7]
      go_wp2_with fail
      refine rg_start (by kernel_rfl) ?_
      refine rg_take 0 rfl (by kernel_rfl) (by kernel_rfl) (by kernel_rfl) (fun _ _ _ _ h => h) (by rfl) ⟨_, fun w' hx => by (go_simp <;> with_reducible rfl), ?_⟩   -- t84 := slice 48 t6 1:i64 - -
      simp only [Act.put, List.setIfInBounds_toArray, List.set_cons_zero, List.set_cons_succ]
      refine rg_take 1 rfl (by kernel_rfl) (by kernel_rfl) (by kernel_rfl) (fun _ _ _ _ h => h) (by rfl) ⟨_, fun w' hx => by (go_simp <;> with_reducible rfl), ?_⟩   -- t85 := slice 48 t6 - 7:i64 -
      simp only [Act.put, List.setIfInBounds_toArray, List.set_cons_zero, List.set_cons_succ]
      refine rg_one 2 rfl (by kernel_rfl) (by rfl) (wp_copyT (.tmp 84) (.tmp 85) 57 rfl elemU32 (gw + 2) 1 7 7 rfl (some ⟨gw + 2, 0, none⟩) 8 ((stC v).toList.take 7) rfl hrd (by omega) (stC v) 75 hrv (by show 8 ≤ 8; omega) (by intro u hu; have h9 := List.mem_of_mem_take hu; simp only [stC, List.mem_cons, List.not_mem_nil, or_false] at h9; rcases h9 with rfl | rfl | rfl | rfl | rfl | rfl | rfl | rfl <;> rfl) ⟨.inr (by kernel_rfl), ?_⟩)
      simp only [Act.put, List.setIfInBounds_toArray, List.set_cons_zero, List.set_cons_succ]
      refine rg_done (by kernel_rfl) ?_
      have hC1 : ((stC v).toList.take 1 ++ (stC v).toList.take 7 ++ (stC v).toList.drop (1 + 7)).toArray = #[wv v.a, wv v.a, wv v.b, wv v.c, wv v.d, wv v.e, wv v.f, wv v.g] := rfl
      rw [hC1]
      have hK := hJ.drew.row (by omega) (by omega) (by rw [Hgw.out]; omega) #[wv v.a, wv v.a, wv v.b, wv v.c, wv v.d, wv v.e, wv v.f, wv v.g]
      obtain ⟨W5, hW5⟩ : ∃ W5, W5 = W2.drew.setRow (gw + 2) #[wv v.a, wv v.a, wv v.b, wv v.c, wv v.d, wv v.e, wv v.f, wv v.g] := ⟨_, rfl⟩
      rw [← hW5] at hK ⊢
      clear hW5 hC1 hJ q0 q1 q2 q3 q4 q5 q6 q7 hrv hrd
      have r0 : W5.cell? ⟨gw + 2, 0, none⟩ = some (.int .u32 (W v.a)) := cell_of_row W5 _ 0 _ _ _ hK.rv
      have r4 : W5.cell? ⟨gw + 2, 4, none⟩ = some (.int .u32 (W v.d)) := cell_of_row W5 _ 4 _ _ _ hK.rv
      have f0 : W5.frozen? ⟨gw + 2, 0, none⟩ = false := frozen_of_row W5 _ _ _ _ hK.rv
      have f4 : W5.frozen? ⟨gw + 2, 4, none⟩ = false := frozen_of_row W5 _ _ _ _ hK.rv
      have hL := fun x y => (hK.cell (by omega) (by omega) (by rw [Hgw.out]; omega) 0 x).cell (by omega) (by omega) (by rw [Hgw.out]; omega) 4 y
      have HL := Lib.hid hL
      clear hL
      go_wp2_with fail
      go_roundw
      case rel => exact ⟨t + 1, by omega, by go_num, by (rw [Hnx.out]; simp only [Sha.rnd, Sha.add1, Sha.big0, Sha.maj, Sha.ch, Sha.big1, List.getD_eq_getElem?_getD]; exact HL.out _ _)⟩
      case measure => simp [intOf]; omega
    · obtain rfl : t = 64 := by omega
      rename_i wr
      obtain ⟨v, hv⟩ : ∃ v, v = Sha.rnds l s 64 := ⟨_, rfl⟩
      rw [← hv] at hI
      have hfin : Hid (Sha.plus s v = Sha.block s b) := by show _ = _; rw [hv, Hl0.out]; rfl
      have hG0 : w.grownBy wr (some g) := grown_ext (ext_trans hb12 hI.bel) (some g)
      have hg0 : wr.heap[g]? = some (.cells (mixC s v 0 r n) 78 (0, 0)) := by rw [mix0]; exact (hI.bel.block g (Nat.lt_of_lt_of_le hgl hb12.size)).trans hg2
      have hv0 := hI.rv
      have hgv : gw + 2 ≠ g := by
        have h1 := Hgw.out
        have h2 := hb12.size
        omega
      have Hgv := Lib.hid hgv
      clear hv hgv hI hI0 hg2
      go_wp2_with fail
      rw [show (((64 : Nat)) : Int) = 64 from rfl]
      go_loopw [99] (fun i wr => ∃ j : Nat, j ≤ 8 ∧ i = .int .i64 j ∧ wr.heap[g]? = some (.cells (mixC s v j r n) 78 (0, 0)) ∧ wr.heap[gw + 2]? = some (.cells (stC v) 75 (0, 0)) ∧ w.grownBy wr (some g)) (fun i _ => 8 - (intOf i).toNat)
      case atStart => exact ⟨0, by omega, rfl, hg0, hv0, hG0⟩
      case round =>
        clear hg0 hv0 hG0
        obtain ⟨j, hj, rfl, hgj, hvj, hG⟩ := hrel
        by_cases hj8 : j < 8
        · have hjl : (j : Int) < 8 := by omega
          have a1 : wr.drew.cell? ⟨g, j, none⟩ = some (.int .u32 (W (s.list.getD j 0))) := (cell_of_row wr.drew _ j _ _ _ hgj).trans (mix_get s v j hj8 r n)
          have a2 : wr.drew.cell? ⟨gw + 2, j, none⟩ = some (.int .u32 (W (v.list.getD j 0))) := (cell_of_row wr.drew _ j _ _ _ hvj).trans (stC_get v j hj8)
          have a3 : wr.drew.frozen? ⟨g, j, none⟩ = false := frozen_of_row wr.drew _ _ _ _ hgj
          have Hset := Lib.hid (mix_set s v j hj8 r n)
          go_wp2_with fail
          refine rg_start (by kernel_rfl) ?_
          refine rg_take 0 rfl (by kernel_rfl) (by kernel_rfl) (by kernel_rfl) (fun _ _ _ _ h => h) (by rfl) ⟨_, fun w' hx => by (go_simp <;> with_reducible rfl), ?_⟩
          simp only [Act.put, List.setIfInBounds_toArray, List.set_cons_zero, List.set_cons_succ]
          refine rg_take 1 rfl (by kernel_rfl) (by kernel_rfl) (by kernel_rfl) (fun _ _ _ _ h => h) (by rfl) ⟨_, fun w' hx => by (go_simp <;> with_reducible rfl), ?_⟩
          simp only [Act.put, List.setIfInBounds_toArray, List.set_cons_zero, List.set_cons_succ]
          refine rg_take 2 rfl (by kernel_rfl) (by kernel_rfl) (by kernel_rfl) (fun _ _ _ _ h => h) (by rfl) ⟨_, fun w' hx => by (go_simp <;> with_reducible rfl), ?_⟩   -- t104 := nilCheck t102
          simp only [Act.put, List.setIfInBounds_toArray, List.set_cons_zero, List.set_cons_succ]
          refine rg_take 3 rfl (by kernel_rfl) (by kernel_rfl) (by kernel_rfl) (fun _ _ _ _ h => h) (by rfl) ⟨_, fun w' hx => by (go_simp <;> with_reducible rfl), ?_⟩   -- t105 := indexAddr 48 t104 t103
          simp only [Act.put, List.setIfInBounds_toArray, List.set_cons_zero, List.set_cons_succ]
          refine rg_take 4 rfl (by kernel_rfl) (by kernel_rfl) (by kernel_rfl) (fun _ _ _ _ h => h) (by rfl) ⟨_, fun w' hx => by have hcx := hx.load a1; (go_simp <;> with_reducible rfl), ?_⟩
          simp only [Act.put, List.setIfInBounds_toArray, List.set_cons_zero, List.set_cons_succ]
          refine rg_take 5 rfl (by kernel_rfl) (by kernel_rfl) (by kernel_rfl) (fun _ _ _ _ h => h) (by rfl) ⟨_, fun w' hx => by (go_simp <;> with_reducible rfl), ?_⟩
          simp only [Act.put, List.setIfInBounds_toArray, List.set_cons_zero, List.set_cons_succ]
          refine rg_take 6 rfl (by kernel_rfl) (by kernel_rfl) (by kernel_rfl) (fun _ _ _ _ h => h) (by rfl) ⟨_, fun w' hx => by (go_simp <;> with_reducible rfl), ?_⟩   -- t108 := indexAddr 48 t6 t107
          simp only [Act.put, List.setIfInBounds_toArray, List.set_cons_zero, List.set_cons_succ]
          refine rg_take 7 rfl (by kernel_rfl) (by kernel_rfl) (by kernel_rfl) (fun _ _ _ _ h => h) (by rfl) ⟨_, fun w' hx => by have hcx := hx.load a2; (go_simp <;> with_reducible rfl), ?_⟩
          simp only [Act.put, List.setIfInBounds_toArray, List.set_cons_zero, List.set_cons_succ]
          refine rg_take 8 rfl (by kernel_rfl) (by kernel_rfl) (by kernel_rfl) (fun _ _ _ _ h => h) (by rfl) ⟨_, fun w' hx => by (go_simp <;> with_reducible rfl), ?_⟩   -- t110 := binOp add 44 t106 t109 44
          simp only [Act.put, List.setIfInBounds_toArray, List.set_cons_zero, List.set_cons_succ]
          refine rg_take 9 rfl (by kernel_rfl) (by kernel_rfl) (by kernel_rfl) (fun _ _ _ _ h => h) (by rfl) ⟨_, fun w' hx => by (go_simp <;> with_reducible rfl), ?_⟩   -- t111 := nilCheck t102
          simp only [Act.put, List.setIfInBounds_toArray, List.set_cons_zero, List.set_cons_succ]
          refine rg_take 10 rfl (by kernel_rfl) (by kernel_rfl) (by kernel_rfl) (fun _ _ _ _ h => h) (by rfl) ⟨_, fun w' hx => by (go_simp <;> with_reducible rfl), ?_⟩   -- t112 := indexAddr 48 t111 t103
          simp only [Act.put, List.setIfInBounds_toArray, List.set_cons_zero, List.set_cons_succ]
          refine rg_store 11 rfl (by kernel_rfl) (by kernel_rfl) (by rfl) ⟨wr.drew.setCell ⟨g, j, none⟩ (.int .u32 (W (s.list.getD j 0 + v.list.getD j 0))), by (go_simp <;> first | rfl | exact ⟨rfl, rfl⟩), ?_⟩
          simp only [Act.put]
          refine rg_done (by kernel_rfl) ?_
          have hn1 := heap_setCell_same wr.drew g j _ _ (.int .u32 (W (s.list.getD j 0 + v.list.getD j 0))) hgj
          rw [Hset.out] at hn1
          have hn2 : (wr.drew.setCell ⟨g, j, none⟩ (.int .u32 (W (s.list.getD j 0 + v.list.getD j 0)))).heap[gw + 2]? = some (.cells (stC v) 75 (0, 0)) := (heap_setCell_other _ _ _ _ Hgv.out).trans hvj
          have hn3 := grownBy_cell (grownBy_drew hG) j (.int .u32 (W (s.list.getD j 0 + v.list.getD j 0)))
          obtain ⟨W6, hW6⟩ : ∃ W6, W6 = wr.drew.setCell ⟨g, j, none⟩ (.int .u32 (W (s.list.getD j 0 + v.list.getD j 0))) := ⟨_, rfl⟩
          rw [← hW6] at hn1 hn2 hn3 ⊢
          clear hW6
          go_wp2_with fail
          go_roundw
          case rel => exact ⟨j + 1, by omega, by go_num, hn1, hn2, hn3⟩
          case measure => simp [intOf]; omega
        · obtain rfl : j = 8 := by omega
          rw [mix8, hfin.out] at hgj
          go_wp2_with fail
          exact bodyPost_end (results_none rfl _ _ _) rfl ⟨rfl, hgj, hG⟩
end Go.Proofs.Ytnagbhaknmoilaa
