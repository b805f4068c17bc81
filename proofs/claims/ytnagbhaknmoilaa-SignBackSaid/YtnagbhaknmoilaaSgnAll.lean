
/- Contracts: the sums of all windows (weak.windows, weak.All). Printed by wip/tools/gen_sgnall22.py. -/

import Derived.Test.YtnagbhaknmoilaaSgnWeak

import Derived.Test.YtnagbhaknmoilaaSeq3

import Derived.Test.YtnagbhaknmoilaaFlat

import Derived.Test.YtnagbhaknmoilaaRowG

namespace Go.Proofs.Ytnagbhaknmoilaa

open Go.RowKit

attribute [local go_sem] Oper.semAt_some

/-- The sums of all windows of n bytes. -/
def Sg.sums (p : List UInt8) (n : Nat) : List Nat := (List.range (p.length + 1 - n)).map fun k => Wk.sum (Sg.win p k n)
theorem Sg.sums_len (p : List UInt8) (n : Nat) : (Sg.sums p n).length = p.length + 1 - n := by simp [Sg.sums]
theorem Sg.sums_next (p : List UInt8) (n k : Nat) (h : k < p.length + 1 - n) : (Sg.sums p n).take k ++ [Wk.sum (Sg.win p k n)] = (Sg.sums p n).take (k + 1) := by
  rw [List.take_add_one, List.getElem?_eq_getElem (by rw [Sg.sums_len]; exact h)]
  simp [Sg.sums]
theorem Sg.win_step1 {p : List UInt8} {k n m : Nat} (hn : 1 ≤ n) (hm : m = n + k) (h : m < p.length) (hk : k < p.length) : ∃ mid, Sg.win p k n = p[k] :: mid ∧ Sg.win p (k + 1) n = mid ++ [p[m]] ∧ mid.length + 1 = n := by
  obtain ⟨n', rfl⟩ : ∃ n', n = n' + 1 := ⟨n - 1, by omega⟩
  obtain ⟨mid, h1, h2, h3⟩ := Sg.win_step (p := p) (k := k) (n := n') (by omega)
  refine ⟨mid, h1, ?_, by omega⟩
  rw [h2]
  congr 3
  omega
def uv (x : Nat) : Value := .int .u32 (x : Int)
def uvs (l : List Nat) : List Value := l.map uv
theorem uvs_app (l m : List Nat) : uvs (l ++ m) = uvs l ++ uvs m := by simp [uvs]
theorem uvs_len (l : List Nat) : (uvs l).length = l.length := by simp [uvs]
theorem uvs_one (l : List Nat) : ∀ u ∈ uvs l, u.oneCell' = true := by
  intro u hu
  simp only [uvs, List.mem_map] at hu
  obtain ⟨x, _, rfl⟩ := hu
  rfl
theorem elemU : ElemT Try.prog 57 29 1 4 := ElemT.mk' Try.underlying57 (z := .int .u32 0) (by kernel_rfl) (by rfl) (by decide)
/-- What the iterator turns of its own. -/
def TurnW (B : Nat) (X Y : World) : Prop := Ext X Y ∨ ∃ (g : Nat) (cur : Array Value), B ≤ g ∧ X.heap[g]? = some (.cells cur 61 (0, 0)) ∧ X.grownBy Y (some g)
/-- What a round keeps. -/
def KeepW (gp gn m0 : Nat) (X Y : World) : Prop := (∀ (g : Nat) (cur : Array Value), X.heap[g]? = some (.cells cur 61 (0, 0)) → Y.heap[g]? = X.heap[g]?) ∧ Y.heap[gp]? = X.heap[gp]? ∧ Y.heap[gn]? = X.heap[gn]? ∧ Below m0 X Y
theorem TurnW.loops {B : Nat} {X Y : World} (h : TurnW B X Y) (l : Nat) (o : Obj) (ho : X.heap[l]? = some o) (hc : o.isCells = false) : Y.heap[l]? = some o := by
  rcases h with h | ⟨g, cur, _, h1, h2⟩
  · exact (h.block l (lt_of_heap ho)).trans ho
  · refine (h2.block l (lt_of_heap ho) (fun e => ?_)).trans ho
    injection e with e
    subst e
    rw [h1] at ho
    injection ho with ho
    subst ho
    simp [Obj.isCells] at hc
theorem KeepW.tr {gp gn m0 : Nat} {X Y Z : World} (h : KeepW gp gn m0 X Y) (k : KeepW gp gn m0 Y Z) (_hm : m0 ≤ Y.heap.size) : KeepW gp gn m0 X Z :=
  ⟨fun g cur hg => by have := h.1 g cur hg; exact (k.1 g cur (this.trans hg)).trans this, k.2.1.trans h.2.1, k.2.2.1.trans h.2.2.1, h.2.2.2.trans k.2.2.2⟩
theorem wpListIn_load_rowW {F : Fence} {n : Nat} {P : Program} {ops : Array Oper} {rest : List Oper} {o : Oper} {a : Act} {w : World} {Q : Exit → Act → World → Prop} (hgd : o.guard = none) (ty : TypeId) (x : Operand) (ho : o.op = .load ty x)
    (g : Nat) (hx : a.eval x = .pointer (some ⟨g, 0, none⟩)) (t : TypeId) (cs : Array Value) (fr : Nat × Nat) (d : TypeDesc) (hg : w.heap[g]? = some (.cells cs t fr))
    (hu : P.underlying ty = some d) (hd : (match d with | .struct _ | .array _ _ => true | _ => false) = true) (hi : (P.info? ty).map (·.size) = some cs.size)
    (h : wpListIn F n P ops Q rest (a.put o.dst (.agg cs)) w) : wpListIn F n P ops Q (o :: rest) a w :=
  wpListIn_plain hgd fun K hK => by
    unfold Oper.wpIn
    refine ⟨by simp [Oper.about, ho], ?_⟩
    rw [Oper.semAt_plain F _ _ (by rw [ho]; intro c h; cases h), ex_load_row ty x ho g hx t cs fr d hg hu hd hi]
    exact hK _ _ h
theorem wpListIn_store_rowW {F : Fence} {n : Nat} {P : Program} {ops : Array Oper} {rest : List Oper} {o : Oper} {a : Act} {w : World} {Q : Exit → Act → World → Prop} (hgd : o.guard = none) (ty : TypeId) (x y : Operand) (ho : o.op = .store ty x y)
    (g : Nat) (cells : Array Value) (hx : a.eval x = .pointer (some ⟨g, 0, none⟩)) (hy : a.eval y = .agg cells)
    (t : TypeId) (old : Array Value) (hg : w.heap[g]? = some (.cells old t (0, 0))) (hi : (P.info? ty).map (·.size) = some cells.size)
    (hold : old.size = cells.size) (h1 : cells.all (·.oneCell') = true)
    (h : wpListIn F n P ops Q rest (a.put o.dst undef) (w.setRow g cells)) : wpListIn F n P ops Q (o :: rest) a w :=
  wpListIn_plain hgd fun K hK => by
    unfold Oper.wpIn
    refine ⟨by simp [Oper.about, ho], ?_⟩
    rw [Oper.semAt_plain F _ _ (by rw [ho]; intro c h; cases h), ex_store_rowS ty x y ho g hx cells hy old t hg hi hold h1]
    exact hK _ _ h
theorem Wk.sum_lo (p : List UInt8) : Wk.sum p % 65536 = Wk.a p % 65536 := by unfold Wk.sum; omega
theorem Wk.sum_hi (p : List UInt8) : Wk.sum p / 65536 = Wk.b p % 65536 := by unfold Wk.sum; omega
theorem Sg.win_zero (p : List UInt8) (n : Nat) : Sg.win p 0 n = p.take n := by simp [Sg.win]
def encU (x : Nat) : Array Value := #[.int .u32 (x : Int)]
theorem sinfo (x y : Value) : (Try.prog.info? 61).map (·.size) = some (#[x, y] : Array Value).size := by
  show _ = some 2
  kernel_rfl
set_option maxRecDepth 100000 in
set_option maxHeartbeats 1000000 in
theorem win_gives (k : Nat) (hk : 1 ≤ k) (gp gn : Nat) (A : Option Addr) (p : List UInt8) (cap n : Nat) (w0 w : World) (hgp : w.heap[gp]? = some (.cells #[.slice A p.length cap] 22 (0, 0))) (hgn : w.heap[gn]? = some (.cells #[.int .i64 (n : Int)] 3 (0, 0)))
    (hA : RdB w0 A p) (hb0 : Below w0.heap.size w0 w) (hn1 : 1 ≤ n) (hn2 : n ≤ p.length) (hl : p.length ≤ 1000000) (hc : p.length ≤ cap) :
    GivesTn Fence.wide k Try.prog 43 #[.pointer (some ⟨gp, 0, none⟩), .pointer (some ⟨gn, 0, none⟩)] encU (KeepW gp gn w0.heap.size) (Sg.sums p n) (TurnW w0.heap.size) w := by
  intro l J W hB hJ hY h0
  have hgpW : W.heap[gp]? = some (.cells #[.slice A p.length cap] 22 (0, 0)) := (hB.block gp (lt_of_heap hgp)).trans hgp
  have hgnW : W.heap[gn]? = some (.cells #[.int .i64 (n : Int)] 3 (0, 0)) := (hB.block gn (lt_of_heap hgn)).trans hgn
  have hbW : Below w0.heap.size w0 W := hb0.trans (hB.mono hb0.size)
  have hJe : ∀ s X Y, J s X → Ext X Y → J s Y := fun s X Y h1 h2 => hJ s X Y h1 (.inl h2)
  have c0 : W.cell? ⟨gp, 0, none⟩ = some (.slice A p.length cap) := cell_of_row W gp 0 _ _ _ hgpW
  have c1 : W.cell? ⟨gn, 0, none⟩ = some (.int .i64 (n : Int)) := cell_of_row W gn 0 _ _ _ hgnW
  obtain ⟨L, hL⟩ : ∃ L, L = p.length := ⟨_, rfl⟩
  have hp1 : RdB W A (p.take n) := (hA.below hbW).head hn2
  have hp1l : (p.take n).length = n := by rw [List.length_take]; omega
  rw [← hL] at c0 hgpW hn2 hl hc
  have HL := Lib.hid hL
  have Hgp := Lib.hid hgpW
  have Hgn := Lib.hid hgnW
  clear hB hgp hgn hgpW hgnW hL hb0
  refine callsIn_of_wp Try.func43 rfl trivial ?_ rfl
  simp only [Try.ntmps43, List.size_toArray, List.length_cons, List.length_nil, Nat.reduceAdd, Nat.reduceSub, Array.replicate_succ, Array.replicate_zero, List.push_toArray, List.append_toArray, List.nil_append, List.cons_append]
  have ik1 : (0 : Int) ≤ (n : Int) := by omega
  have ik2 : (n : Int) ≤ (cap : Int) := by omega
  have hws := wsum_any A (p.take n) cap W hp1 (by omega)
  rw [hp1l] at hws
  gi_wp2_with fail
  refine ⟨trivial, (callsIn_wide.2 hws).mono ?_⟩
  rintro e1 w1 ⟨rfl, hx1⟩
  obtain ⟨x, hx⟩ : ∃ x, x = Wk.a (Sg.win p 0 n) % 65536 := ⟨_, rfl⟩
  obtain ⟨y, hy⟩ : ∃ y, y = Wk.b (Sg.win p 0 n) % 65536 := ⟨_, rfl⟩
  have hof := weakof_any (Wk.sum (p.take n)) (Wk.sum_lt _) w1
  rw [Wk.sum_lo, Wk.sum_hi, ← Sg.win_zero, ← hx, ← hy] at hof
  obtain ⟨s, hs⟩ : ∃ s, s = Wk.sum (p.take n) := ⟨_, rfl⟩
  rw [Sg.win_zero, ← hs] at hof
  rw [← hs]
  have Hx := Lib.hid hx
  have Hy := Lib.hid hy
  clear hws hs hx hy hp1 hp1l
  gi_wp2_with fail
  refine ⟨trivial, (callsIn_wide.2 hof).mono ?_⟩
  clear hof
  rintro e2 w2 ⟨rfl, hx2⟩
  obtain ⟨g, hg⟩ : ∃ g, g = w2.heap.size := ⟨_, rfl⟩
  have hE2 := Ext.tr hx1 hx2
  have c2 : (w2.alloc (.cells #[.int .u16 (x : Int), .int .u16 (y : Int)] 61)).cell? ⟨gn, 0, none⟩ = some (.int .i64 (n : Int)) := (Ext.tr hE2 (Ext.alloc _ _)).load c1
  clear hx1 hx2
  gi_wp2_with (first | (refine wpListIn_store_rowW rfl 61 (.tmp 4) (.tmp 10) rfl w2.heap.size #[.int .u16 (x : Int), .int .u16 (y : Int)] rfl rfl 61 _ (heap_alloc_new w2 _) (sinfo _ _) (by rfl) (by rfl) ?_; rw [setRow_alloc]))
  have hr3 := heap_alloc_new w2 (.cells #[.int .u16 (x : Int), .int .u16 (y : Int)] 61)
  obtain ⟨w3, hw3⟩ : ∃ w3, w3 = w2.alloc (.cells #[.int .u16 (x : Int), .int .u16 (y : Int)] 61) := ⟨_, rfl⟩
  have hE3 : Ext W w3 := by rw [hw3]; exact Ext.tr hE2 (Ext.alloc _ _)
  rw [← hw3] at hr3 ⊢
  rw [← hg] at hr3 ⊢
  have hgW : W.heap.size ≤ g := by have := hE2.size; omega
  have hJ3 := hJe _ _ _ h0 hE3
  have hg0 : w0.heap.size ≤ g := by have := hbW.size; omega
  have hgp3 := (hE3.block gp (lt_of_heap Hgp.out)).trans Hgp.out
  have hgn3 := (hE3.block gn (lt_of_heap Hgn.out)).trans Hgn.out
  have hb3 : Below w0.heap.size w0 w3 := hbW.trans (hE3.mono hbW.size)
  clear hw3 hg hE2 c0 c1 c2 Hgp Hgn h0 hbW hgW hE3
  gi_loopw [5] (fun i wr => ∃ (j x y : Nat), j ≤ L - n ∧ i = .int .i64 ((n + j : Nat) : Int) ∧ x = Wk.a (Sg.win p j n) % 65536 ∧ y = Wk.b (Sg.win p j n) % 65536 ∧ J ((Sg.sums p n).take j) wr ∧ wr.heap[g]? = some (.cells #[.int .u16 (x : Int), .int .u16 (y : Int)] 61 (0, 0)) ∧ wr.heap[gp]? = some (.cells #[.slice A L cap] 22 (0, 0)) ∧ wr.heap[gn]? = some (.cells #[.int .i64 (n : Int)] 3 (0, 0)) ∧ Below w0.heap.size w0 wr) (fun i _ => L + 1 - (intOf i).toNat)
  case atStart => exact ⟨0, x, y, by omega, rfl, Hx.out, Hy.out, hJ3, hr3, hgp3, hgn3, hb3⟩
  case round =>
    clear hJ3 hr3 hgp3 hgn3 hb3 Hx Hy
    obtain ⟨j, x1, y1, hj, rfl, hx, hy, hJ0, hr, hgp, hgn, hb⟩ := hrel
    obtain ⟨m, hm⟩ : ∃ m, m = n + j := ⟨_, rfl⟩
    rw [← hm]
    have Hm := Lib.hid hm
    have hmL : m ≤ L := by omega
    clear hm
    have hw := whole_any x1 y1 (by omega) (by omega) wr
    have c0 : wr.cell? ⟨gp, 0, none⟩ = some (.slice A L cap) := cell_of_row wr gp 0 _ _ _ hgp
    have hsum : x1 + 65536 * y1 = Wk.sum (Sg.win p j n) := by unfold Wk.sum; rw [hx, hy]
    rw [hsum] at hw
    have hnx := Sg.sums_next p n j (by have := HL.out; omega)
    have hpx : (Sg.sums p n).take j ++ [Wk.sum (Sg.win p j n)] <+: Sg.sums p n := by rw [hnx]; exact List.take_prefix _ _
    obtain ⟨s1, hs1⟩ : ∃ s1, s1 = Wk.sum (Sg.win p j n) := ⟨_, rfl⟩
    rw [← hs1] at hw hnx hpx
    obtain ⟨pre, hpre⟩ : ∃ pre, pre = (Sg.sums p n).take j := ⟨_, rfl⟩
    rw [← hpre] at hJ0 hnx hpx
    have Hnx := Lib.hid hnx
    have Hx := Lib.hid hx
    have Hy := Lib.hid hy
    have Hgp := Lib.hid hgp
    have Hgn := Lib.hid hgn
    have Hr := Lib.hid hr
    clear hx hy hsum hnx hpre hs1 hgp hgn hr
    gi_wp2_with (first | (have hr9 := Hr.out; refine wpListIn_load_rowW rfl 61 (.tmp 4) rfl g rfl 61 _ (0, 0) _ hr9 Try.underlying61 rfl (sinfo _ _) ?_; clear hr9))
    refine ⟨trivial, (callsIn_wide.2 hw).mono ?_⟩
    rintro e4 w4 ⟨rfl, hx4⟩
    obtain ⟨fn, tmps, assign, body, hyy, hR⟩ := hY pre s1 w4 (hJe _ _ _ hJ0 hx4) hpx
    simp only [encU] at hyy
    have hb4 : Below w0.heap.size w0 w4 := hb.trans (hx4.mono hb.size)
    have hr4 := (hx4.block g (lt_of_heap Hr.out)).trans Hr.out
    have hgp4 := (hx4.block gp (lt_of_heap Hgp.out)).trans Hgp.out
    have hgn4 := (hx4.block gn (lt_of_heap Hgn.out)).trans Hgn.out
    have Hr4 := Lib.hid hr4
    have Hgp4 := Lib.hid hgp4
    have Hgn4 := Lib.hid hgn4
    clear hw hJ0 hx4 hr4 hgp4 hgn4 Hr Hgp Hgn hb c0 hpx
    gi_wp2_with fail
    refine hR.mono ?_
    rintro e5 w5 ⟨rfl, hJ5, hK5⟩
    rw [Hnx.out] at hJ5
    have hr5 := (hK5.1 g _ Hr4.out).trans Hr4.out
    have hgp5 := hK5.2.1.trans Hgp4.out
    have hgn5 := hK5.2.2.1.trans Hgn4.out
    have hb5 := hb4.trans hK5.2.2.2
    have c5 : w5.cell? ⟨gp, 0, none⟩ = some (.slice A L cap) := cell_of_row w5 gp 0 _ _ _ hgp5
    have Hr5 := Lib.hid hr5
    have Hgp5 := Lib.hid hgp5
    have Hgn5 := Lib.hid hgn5
    clear hyy hR hK5 hb4 Hr4 Hgp4 Hgn4 hr5 hgp5 hgn5
    by_cases hjn : m < L
    · have hjI : (m : Int) < (L : Int) := by omega
      gi_wp2_with fail
      have hjlen : j < p.length := by have := HL.out; have := Hm.out; omega
      have hmlen : m < p.length := by have := HL.out; omega
      obtain ⟨mid, hw1, hw2, hml⟩ := Sg.win_step1 (p := p) (k := j) (n := n) hn1 Hm.out hmlen hjlen
      obtain ⟨ad, hAd, b1⟩ := (hA.below (hb5.trans (Below.mono (Ext.drew w5) hb5.size))).at_ (k := j) hjlen
      obtain ⟨ad', hAd', b2⟩ := (hA.below (hb5.trans (Below.mono (Ext.drew w5) hb5.size))).at_ (k := m) hmlen
      obtain rfl : ad = ad' := by rw [hAd] at hAd'; injection hAd'
      clear hAd'
      have hra := Wk.roll_a p[j] p[m] mid
      have hrb := Wk.roll_b p[j] p[m] mid
      rw [hml] at hrb
      rw [← hw1, ← hw2] at hra hrb
      obtain ⟨u, hu⟩ : ∃ u, u = p[j] := ⟨_, rfl⟩
      obtain ⟨v, hv⟩ : ∃ v, v = p[m] := ⟨_, rfl⟩
      rw [← hu] at b1 hra hrb
      rw [← hv] at b2 hra
      have hut : u.toNat < 256 := u.toNat_lt
      have hvt : v.toNat < 256 := v.toNat_lt
      have hroll := fun w => roll_any _ _ u.toNat v.toNat n _ _ hut hvt hra hrb w
      rw [← Hx.out, ← Hy.out] at hroll
      obtain ⟨x2, hx2⟩ : ∃ x2, x2 = Wk.a (Sg.win p (j + 1) n) % 65536 := ⟨_, rfl⟩
      obtain ⟨y2, hy2⟩ : ∃ y2, y2 = Wk.b (Sg.win p (j + 1) n) % 65536 := ⟨_, rfl⟩
      rw [← hx2, ← hy2] at hroll
      have c6 : w5.drew.cell? ⟨gp, 0, none⟩ = some (.slice A L cap) := c5
      have c7 : w5.drew.cell? ⟨gn, 0, none⟩ = some (.int .i64 (n : Int)) := cell_of_row w5 gn 0 _ _ _ Hgn5.out
      have hr6 : w5.drew.heap[g]? = some (.cells #[.int .u16 (x1 : Int), .int .u16 (y1 : Int)] 61 (0, 0)) := Hr5.out
      have Hr6 := Lib.hid hr6
      have Hx2 := Lib.hid hx2
      have Hy2 := Lib.hid hy2
      have Hroll := Lib.hid hroll
      have hmn : IntKind.i64.wrap ((m : Int) - (n : Int)) = (j : Int) := by rw [IntKind.wrap_i64]; have := Hm.out; omega
      have ij1 : (0 : Int) ≤ (j : Int) := by omega
      have ij2 : (j : Int) < (L : Int) := by have := HL.out; omega
      have ij3 : (0 : Int) ≤ (m : Int) := by omega
      subst hAd
      clear hra hrb hu hv hw1 hw2 hml hx2 hy2 hr6 hroll
      refine wpIn_wide.2 ?_
      refine rg_start (by kernel_rfl) ?_
      refine rg_take 0 rfl (by kernel_rfl) (by kernel_rfl) (by kernel_rfl) (fun _ _ _ _ h => h) (by rfl) ⟨.agg #[.int .u16 (x1 : Int), .int .u16 (y1 : Int)], fun w' hx => ex_load_row 61 (.tmp 4) rfl g rfl 61 _ (0, 0) _ ((hx.block g (lt_of_heap Hr6.out)).trans Hr6.out) Try.underlying61 rfl (sinfo _ _), ?_⟩
      simp only [Act.put, List.setIfInBounds_toArray, List.set_cons_zero, List.set_cons_succ]
      refine rg_take 1 rfl (by kernel_rfl) (by kernel_rfl) (by kernel_rfl) (fun _ _ _ _ h => h) (by rfl) ⟨_, fun w' hx => by have hcx := hx.load c6; (go_simp <;> with_reducible rfl), ?_⟩
      simp only [Act.put, List.setIfInBounds_toArray, List.set_cons_zero, List.set_cons_succ]
      refine rg_take 2 rfl (by kernel_rfl) (by kernel_rfl) (by kernel_rfl) (fun _ _ _ _ h => h) (by rfl) ⟨_, fun w' hx => by (go_simp <;> with_reducible rfl), ?_⟩
      simp only [Act.put, List.setIfInBounds_toArray, List.set_cons_zero, List.set_cons_succ]
      refine rg_take 3 rfl (by kernel_rfl) (by kernel_rfl) (by kernel_rfl) (fun _ _ _ _ h => h) (by rfl) ⟨_, fun w' hx => by have hcx := hx.load c7; (go_simp <;> with_reducible rfl), ?_⟩
      simp only [Act.put, List.setIfInBounds_toArray, List.set_cons_zero, List.set_cons_succ]
      refine rg_take 4 rfl (by kernel_rfl) (by kernel_rfl) (by kernel_rfl) (fun _ _ _ _ h => h) (by rfl) ⟨.int .i64 (j : Int), fun w' hx => by (go_simp <;> first | rfl | rw [hmn]), ?_⟩
      simp only [Act.put, List.setIfInBounds_toArray, List.set_cons_zero, List.set_cons_succ]
      refine rg_take 5 rfl (by kernel_rfl) (by kernel_rfl) (by kernel_rfl) (fun _ _ _ _ h => h) (by rfl) ⟨_, fun w' hx => by (go_simp <;> with_reducible rfl), ?_⟩   -- t29 := indexAddr 22 t25 t28
      simp only [Act.put, List.setIfInBounds_toArray, List.set_cons_zero, List.set_cons_succ]
      refine rg_take 6 rfl (by kernel_rfl) (by kernel_rfl) (by kernel_rfl) (fun _ _ _ _ h => h) (by rfl) ⟨_, fun w' hx => by have hcx := hx.load b1; (go_simp <;> with_reducible rfl), ?_⟩
      simp only [Act.put, List.setIfInBounds_toArray, List.set_cons_zero, List.set_cons_succ]
      refine rg_take 7 rfl (by kernel_rfl) (by kernel_rfl) (by kernel_rfl) (fun _ _ _ _ h => h) (by rfl) ⟨_, fun w' hx => by have hcx := hx.load c6; (go_simp <;> with_reducible rfl), ?_⟩
      simp only [Act.put, List.setIfInBounds_toArray, List.set_cons_zero, List.set_cons_succ]
      refine rg_take 8 rfl (by kernel_rfl) (by kernel_rfl) (by kernel_rfl) (fun _ _ _ _ h => h) (by rfl) ⟨_, fun w' hx => by (go_simp <;> with_reducible rfl), ?_⟩
      simp only [Act.put, List.setIfInBounds_toArray, List.set_cons_zero, List.set_cons_succ]
      refine rg_take 9 rfl (by kernel_rfl) (by kernel_rfl) (by kernel_rfl) (fun _ _ _ _ h => h) (by rfl) ⟨_, fun w' hx => by (go_simp <;> with_reducible rfl), ?_⟩   -- t33 := indexAddr 22 t31 t32
      simp only [Act.put, List.setIfInBounds_toArray, List.set_cons_zero, List.set_cons_succ]
      refine rg_take 10 rfl (by kernel_rfl) (by kernel_rfl) (by kernel_rfl) (fun _ _ _ _ h => h) (by rfl) ⟨_, fun w' hx => by have hcx := hx.load b2; (go_simp <;> with_reducible rfl), ?_⟩
      simp only [Act.put, List.setIfInBounds_toArray, List.set_cons_zero, List.set_cons_succ]
      refine rg_take 11 rfl (by kernel_rfl) (by kernel_rfl) (by kernel_rfl) (fun _ _ _ _ h => h) (by rfl) ⟨_, fun w' hx => by have hcx := hx.load c7; (go_simp <;> with_reducible rfl), ?_⟩
      simp only [Act.put, List.setIfInBounds_toArray, List.set_cons_zero, List.set_cons_succ]
      refine rg_call 12 (Hroll.out _) rfl (by kernel_rfl) (by rfl) (by go_simp) ?_
      rintro e6 w6 ⟨rfl, hx6⟩
      refine ⟨_, rfl, hx6, ?_⟩
      have hg6 := (hx6.block g (lt_of_heap Hr6.out)).trans Hr6.out
      simp only [Act.put, List.setIfInBounds_toArray, List.set_cons_zero, List.set_cons_succ]
      refine rg_store 13 rfl (by kernel_rfl) (by kernel_rfl) (by rfl) ⟨_, ex_store_rowS 61 (.tmp 4) (.tmp 36) rfl g rfl #[.int .u16 (x2 : Int), .int .u16 (y2 : Int)] rfl _ _ hg6 (sinfo _ _) (by rfl) (by simp [Value.oneCell']), ?_⟩
      simp only [Act.put]
      refine rg_done (by kernel_rfl) ?_
      have hgrow : w6.grownBy (w6.setRow g #[.int .u16 (x2 : Int), .int .u16 (y2 : Int)]) (some g) := ⟨rfl, rfl, rfl, by simp, fun k _ hn => setRow_other _ _ _ _ (fun e => hn (by rw [e]))⟩
      have hr7 := setRow_heap w6 g _ #[.int .u16 (x2 : Int), .int .u16 (y2 : Int)] _ _ hg6
      obtain ⟨w7, hw7⟩ : ∃ w7, w7 = w6.setRow g #[.int .u16 (x2 : Int), .int .u16 (y2 : Int)] := ⟨_, rfl⟩
      rw [← hw7] at hgrow hr7 ⊢
      have hx56 : Ext w5 w6 := Ext.tr (Ext.drew w5) hx6
      have hJ7 := hJ _ _ _ (hJe _ _ _ hJ5 hx56) (.inr ⟨g, _, hg0, hg6, hgrow⟩)
      have hgp6 := (hx56.block gp (lt_of_heap Hgp5.out)).trans Hgp5.out
      have hgn6 := (hx56.block gn (lt_of_heap Hgn5.out)).trans Hgn5.out
      have hgp7 := (hgrow.block gp (lt_of_heap hgp6) (fun e => by injection e with e; subst e; rw [hg6] at hgp6; injection hgp6 with e1; injection e1 with _ e2; exact absurd e2 (by decide))).trans hgp6
      have hgn7 := (hgrow.block gn (lt_of_heap hgn6) (fun e => by injection e with e; subst e; rw [hg6] at hgn6; injection hgn6 with e1; injection e1 with _ e2; exact absurd e2 (by decide))).trans hgn6
      have hb6 : Below w0.heap.size w0 w6 := hb5.trans (Below.mono hx56 hb5.size)
      have hb7 : Below w0.heap.size w0 w7 := hb6.grown hgrow hb6.size (fun k e => by injection e with e; omega)
      clear hw7 hgrow hx56 hx6 hg6 hgp6 hgn6 hb6 hb5 Hr6 Hr5 Hgp5 Hgn5 c5 c6 c7 b1 b2 hJ5 Hroll
      gi_wp2_with fail
      go_roundw
      case rel => exact ⟨j + 1, x2, y2, by have := Hm.out; omega, by have := Hm.out; rw [this]; go_num, Hx2.out, Hy2.out, hJ7, hr7, hgp7, hgn7, hb7⟩
      case measure => simp [intOf]; omega
    · have hjI : ¬ (m : Int) < (L : Int) := by omega
      gi_wp2_with fail
      go_end0
      refine ⟨⟨_, rfl⟩, ?_⟩
      rw [List.take_of_length_le (by rw [Sg.sums_len]; have := HL.out; have := Hm.out; omega)] at hJ5
      exact hJ5
theorem windows_any (A : Option Addr) (L cap n : Nat) (w : World) : Calls Try.prog 39 #[.slice A L cap, .int .i64 (n : Int)] w fun e w' =>
    e = .returned (.func (.func 43) #[] #[.pointer (some ⟨w.heap.size, 0, none⟩), .pointer (some ⟨w.heap.size + 1, 0, none⟩)]) ∧ (w.alloc (.cells #[.slice A L cap] 22)).alloc (.cells #[.int .i64 (n : Int)] 3) = w' := by
  go_enter Try.func39, Try.ntmps39
  go_wp2
  go_ret
  exact ⟨rfl, rfl⟩
def AllInv (w : World) (pre : List Nat) (W : World) : Prop := ∃ A c, W.heap[w.heap.size]? = some (.cells #[.slice A pre.length c] 57 (0, 0)) ∧ Own W (w.heap.size + 3) 29 1 A pre.length c (uvs pre) ∧ Below w.heap.size w W ∧ w.heap.size + 3 ≤ W.heap.size
theorem Own.row_is {w : World} {B s n c k : Nat} {e : TypeId} {A : Option Addr} {xs : List Value} (h : Own w B e s A n c xs) (hk : ownRow A c = some k) : ∃ cur, w.heap[k]? = some (.cells cur e (0, 0)) := by
  rcases h.mem with h0 | ⟨g, off, cur, hA, hb, hgg, _⟩
  · simp [ownRow, h0] at hk
  · have : k = g := by
      rw [hA] at hk
      unfold ownRow at hk
      split at hk
      · cases hk
      · simpa using hk.symm
    subst this
    exact ⟨cur, hgg⟩
theorem all_step {w W W2 : World} {A1 A2 : Option Addr} {n1 c1 n2 c2 : Nat} {xs ys : List Value} {o : Obj} {v v0 : Value} (h1 : W.heap[w.heap.size]? = some (.cells #[v0] 57 (0, 0))) (h2 : Own W (w.heap.size + 3) 29 1 A1 n1 c1 xs) (h3 : Below w.heap.size w W) (h4 : w.heap.size + 3 ≤ W.heap.size)
    (ho2 : Own W2 (w.heap.size + 3) 29 1 A2 n2 c2 ys) (hg2 : (W.alloc o).grownBy W2 (ownRow A1 c1)) (h12 : W2.heap[w.heap.size]? = some (.cells #[v0] 57 (0, 0))) :
    KeepsOthers W (W2.setCell ⟨w.heap.size, 0, none⟩ v) ∧ KeepW (w.heap.size + 1) (w.heap.size + 1 + 1) w.heap.size W (W2.setCell ⟨w.heap.size, 0, none⟩ v) ∧ (W2.setCell ⟨w.heap.size, 0, none⟩ v).heap[w.heap.size]? = some (.cells #[v] 57 (0, 0)) ∧
      Own (W2.setCell ⟨w.heap.size, 0, none⟩ v) (w.heap.size + 3) 29 1 A2 n2 c2 ys ∧ Below w.heap.size w (W2.setCell ⟨w.heap.size, 0, none⟩ v) ∧ w.heap.size + 3 ≤ (W2.setCell ⟨w.heap.size, 0, none⟩ v).heap.size := by
  have hs2 := hg2.size
  simp only [World.size_alloc] at hs2
  have hrow : ∀ j, ownRow A1 c1 = some j → w.heap.size + 3 ≤ j := fun j hj => by have := (h2.row_lt j hj).1; omega
  have key : ∀ (g : Nat), g < W.heap.size → g ≠ w.heap.size → ownRow A1 c1 ≠ some g → (W2.setCell ⟨w.heap.size, 0, none⟩ v).heap[g]? = W.heap[g]? := fun g hg hn hr => by
    rw [Below.heap_setCell W2 _ _ _ (by simpa using hn), hg2.block _ (by simp; omega) (fun e => hr e.symm), Below.heap_alloc W o _ hg]
  have h6 : Below w.heap.size w (W.alloc o) := h3.alloc (by omega) o
  have h7 : Below w.heap.size w (W2.setCell ⟨w.heap.size, 0, none⟩ v) := (h6.grown hg2 (by simp; omega) (fun k hk => by have := hrow k hk; omega)).setCell (Nat.le_refl _) v
  have h8 : (W2.setCell ⟨w.heap.size, 0, none⟩ v).heap.size = W2.heap.size := by simp [World.setCell]
  refine ⟨(KeepsOthers.alloc W o).trans ((KeepsOthers.of_grownBy hg2 ?_).trans (KeepsOthers.setCell _ _ _)), ⟨?_, ?_, ?_, ?_⟩, ?_, ?_, h7, by omega⟩
  · intro j ob hj hob
    have h5 := h2.row_lt j hj
    rw [Below.heap_alloc W o j h5.2] at hob
    obtain ⟨cur, hcur⟩ := h2.row_is hj
    rw [hcur] at hob
    cases hob
    rfl
  · intro g cur hg
    refine key g (lt_of_heap hg) (fun e => ?_) (fun e => ?_)
    · subst e
      rw [h1] at hg
      injection hg with e1
      injection e1 with _ e2
      exact absurd e2 (by decide)
    · obtain ⟨cur2, hcur⟩ := h2.row_is e
      rw [hcur] at hg
      injection hg with e1
      injection e1 with _ e2
      exact absurd e2 (by decide)
  · exact key _ (by omega) (by omega) (fun e => by have := hrow _ e; omega)
  · exact key _ (by omega) (by omega) (fun e => by have := hrow _ e; omega)
  · refine ⟨?_, ?_, ?_, by omega, fun i hi => key i (by omega) (by omega) (fun e => by have := hrow _ e; omega)⟩
    · exact hg2.os
    · exact hg2.tape
    · exact hg2.output
  · have := heap_setCell_same W2 w.heap.size 0 _ _ v h12
    simpa using this
  · exact ho2.kept (row := some w.heap.size) ⟨rfl, rfl, rfl, by simp [World.setCell], fun i _ hn => Below.heap_setCell W2 ⟨w.heap.size, 0, none⟩ v i (fun e => hn (by rw [e]))⟩ (fun k hk e => by injection e with e; have := (ho2.row_lt k hk).1; omega)
set_option maxRecDepth 100000 in
set_option maxHeartbeats 1000000 in
theorem wall_any (A : Option Addr) (p : List UInt8) (cap n : Nat) (w : World) (hA : RdB w A p) (hc : p.length ≤ cap) (hl : p.length ≤ 1000000) (hn1 : 1 ≤ n) (hnl : n ≤ 1000000) :
    Calls Try.prog 30 #[.slice A p.length cap, .int .i64 (n : Int)] w fun e w' => ∃ A' c', e = .returned (.slice A' (Sg.sums p n).length c') ∧ Own w' w.heap.size 29 1 A' (Sg.sums p n).length c' (uvs (Sg.sums p n)) ∧ Ext w w' := by
  refine (callsIn_wide (n := 5)).1 (callsIn_of_wp_marks Try.func30 rfl trivial ?_ rfl)
  simp only [Try.ntmps30, List.size_toArray, List.length_cons, List.length_nil, Nat.reduceAdd, Nat.reduceSub, Array.replicate_succ, Array.replicate_zero, List.push_toArray, List.append_toArray, List.nil_append, List.cons_append]
  refine wpIn_wide.2 ?_
  have i1 : (1 : Int) ≤ (n : Int) := by omega
  by_cases hn2 : n ≤ p.length
  · have i2 : (n : Int) ≤ (p.length : Int) := by omega
    go_wp2_with (go_at_call 39; refine (windows_any A p.length cap n _).mono ?_; rintro e w' ⟨rfl, rfl⟩)
    obtain ⟨W0, hW0⟩ : ∃ W0, ((w.alloc (.cells #[.slice none 0 0] 57)).alloc (.cells #[.slice A p.length cap] 22)).alloc (.cells #[.int .i64 (n : Int)] 3) = W0 := ⟨_, rfl⟩
    have hsz : W0.heap.size = w.heap.size + 3 := by rw [← hW0]; simp
    have hx1 : Ext (w.alloc (.cells #[.slice none 0 0] 57)) W0 := by rw [← hW0]; exact Ext.tr (Ext.alloc _ _) (Ext.alloc _ _)
    have hx2 : Ext ((w.alloc (.cells #[.slice none 0 0] 57)).alloc (.cells #[.slice A p.length cap] 22)) W0 := by rw [← hW0]; exact Ext.alloc _ _
    have hBl : W0.heap[w.heap.size]? = some (.cells #[.slice none 0 0] 57 (0, 0)) := (hx1.block _ (by simp)).trans (heap_alloc_new w _)
    have hgp : W0.heap[w.heap.size + 1]? = some (.cells #[.slice A p.length cap] 22 (0, 0)) := by
      refine (hx2.block (w.heap.size + 1) (by simp)).trans ?_
      have := heap_alloc_new (w.alloc (.cells #[.slice none 0 0] 57)) (.cells #[.slice A p.length cap] 22)
      rwa [World.size_alloc] at this
    have hgn : W0.heap[w.heap.size + 1 + 1]? = some (.cells #[.int .i64 (n : Int)] 3 (0, 0)) := by
      rw [← hW0]
      have := heap_alloc_new ((w.alloc (.cells #[.slice none 0 0] 57)).alloc (.cells #[.slice A p.length cap] 22)) (.cells #[.int .i64 (n : Int)] 3)
      rwa [World.size_alloc, World.size_alloc] at this
    have hb0 : Ext w W0 := Ext.tr (Ext.alloc w _) hx1
    rw [hW0]
    clear hW0 hx1 hx2
    refine wp_range_tn (n := 5) (by omega) (gf := 43) (lb := #[.pointer (some ⟨w.heap.size + 1, 0, none⟩), .pointer (some ⟨w.heap.size + 1 + 1, 0, none⟩)]) rfl (enters_fn Try.func43 (by kernel_rfl) rfl)
      (win_gives 4 (by omega) (w.heap.size + 1) (w.heap.size + 1 + 1) A p cap n w W0 hgp hgn hA hb0 hn1 hn2 hl hc) (fun X Y h => TurnW.loops h) (fun {X Y Z} h k => ⟨fun g cur hg => by have := h.1 g cur hg; exact (k.1 g cur (this.trans hg)).trans this, k.2.1.trans h.2.1, k.2.2.1.trans h.2.2.1, h.2.2.2.trans k.2.2.2⟩) ?hKb (fun _ => rfl) (AllInv w) ?hI ?hIg ?h0
      (fun x => { tmps := #[.slice A p.length cap, .int .i64 (n : Int), undef, undef, .slice none 0 0, .pointer (some ⟨w.heap.size, 0, none⟩), .int .u32 (x : Int), .int .i64 (n : Int), .bool (decide ((n : Int) < 1)), .bool (decide ((n : Int) < 1)), .int .i64 (n : Int), .slice A p.length cap, .int .i64 (p.length : Int), .bool false, .bool (decide ((n : Int) < 1)), .slice A p.length cap, .int .i64 (n : Int), .func (.func 43) #[] #[.pointer (some ⟨w.heap.size + 1, 0, none⟩), .pointer (some ⟨w.heap.size + 1 + 1, 0, none⟩)], .int .u32 (x : Int), undef, undef, undef, undef, undef], defers := [] }) ?assign ?body ?done
    case hKb =>
      intro W l o o' hlw ho hco
      refine ⟨fun g cur hg => World.putObj_heap_other (fun e => ?_), World.putObj_heap_other (by omega), World.putObj_heap_other (by omega), (grownBy_putObj' W l o').block |> fun hb => ⟨(grownBy_putObj' W l o').os, (grownBy_putObj' W l o').tape, (grownBy_putObj' W l o').output, (grownBy_putObj' W l o').size, fun i hi => World.putObj_heap_other (by omega)⟩⟩
      subst e
      rw [hg] at ho
      injection ho with ho
      subst ho
      simp [Obj.isCells] at hco
    case hI =>
      rintro s X Y row ⟨A1, c1, h1, h2, h3, h4⟩ hg hr
      refine ⟨A1, c1, (hg.block _ (lt_of_heap h1) (fun e => ?_)).trans h1, h2.kept hg (fun k hk e => ?_), h3.grown hg h3.size (fun k e => by have := (hr k e).1; omega), Nat.le_trans h4 hg.size⟩
      · have := (hr _ e.symm).1; omega
      · obtain ⟨cur, hcur⟩ := h2.row_is hk
        have h5 := (hr _ e.symm).2
        rw [hcur] at h5
        simp [Obj.isCells] at h5
    case hIg =>
      rintro s X Y ⟨A1, c1, h1, h2, h3, h4⟩ (hx | ⟨g, cur, hgw, hgc, hg⟩)
      · exact ⟨A1, c1, (hx.block _ (lt_of_heap h1)).trans h1, h2.below hx, h3.trans (Below.mono hx h3.size), Nat.le_trans h4 hx.size⟩
      · refine ⟨A1, c1, (hg.block _ (lt_of_heap h1) (fun e => ?_)).trans h1, h2.kept hg (fun k hk e => ?_), h3.grown hg h3.size (fun k e => by injection e with e; omega), Nat.le_trans h4 hg.size⟩
        · injection e with e
          subst e
          rw [h1] at hgc
          injection hgc with e1
          injection e1 with _ e2
          exact absurd e2 (by decide)
        · injection e with e
          subst e
          obtain ⟨cur2, hcur⟩ := h2.row_is hk
          rw [hcur] at hgc
          injection hgc with e1
          injection e1 with _ e2
          exact absurd e2 (by decide)
    case h0 => exact ⟨none, 0, hBl, Own.none_ _ _ _ _ _, hb0, by omega⟩
    case assign =>
      intro l x W K hK
      simp only [encU]
      gi_wp2
      exact hK
    case body =>
      rintro l pre x W ⟨A1, c1, h1, h2, h3, h4⟩ hpre
      have hcell : W.cell? ⟨w.heap.size, 0, none⟩ = some (.slice A1 pre.length c1) := cell_of_row W _ 0 _ _ _ h1
      have hfr : W.frozen? ⟨w.heap.size, 0, none⟩ = false := frozen_of_row W _ 0 _ _ h1
      have hlt := lt_of_heap h1
      have hlen : pre.length ≤ 1000000 := by
        have h5 := hpre.length_le
        rw [Sg.sums_len] at h5
        simp at h5
        omega
      have hsn : Hid (uvs (pre ++ [x]) = uvs pre ++ [.int .u32 (x : Int)]) := uvs_app _ _
      have hrow : Hid (∀ k, ownRow A1 c1 = some k → w.heap.size + 3 ≤ k ∧ k < W.heap.size) := h2.row_lt
      have H1 := Lib.hid h1
      have Hd' : Hid (∀ W', (∃ A c, W'.heap[w.heap.size]? = some (.cells #[.slice A (pre.length + 1) c] 57 (0, 0)) ∧ Own W' (w.heap.size + 3) 29 1 A (pre.length + 1) c (uvs (pre ++ [x])) ∧ Below w.heap.size w W' ∧ w.heap.size + 3 ≤ W'.heap.size) → AllInv w (pre ++ [x]) W') := fun W' h => by
        unfold AllInv
        rw [List.length_append, List.length_singleton]
        exact h
      have hown := h2.below (Ext.alloc W (.cells #[.int .u32 (x : Int)] 29))
      obtain ⟨d, hd⟩ : ∃ d, d = pre.length := ⟨_, rfl⟩
      rw [← hd] at hcell hlen Hd' hown h2 H1
      clear h1 hd
      gi_wp2_with (gi_at_builtin; refine wpListIn_app rfl (.tmp 19) (.tmp 21) 57 rfl elemU (w.heap.size + 3) A1 d c1 (uvs pre) rfl (some ⟨W.heap.size, 0, none⟩) 1 1 [.int .u32 (x : Int)] rfl (d + 1) rfl (uvs (pre ++ [x])) hsn.out hown (Rd.new W 29 [.int .u32 (x : Int)]) (by simp; rfl) (by omega) (by omega) (by simp; omega) ?_; intro A2 c2 W2 ho2 hg2 hr2; have h12 : Hid (W2.heap[w.heap.size]? = some (.cells #[.slice A1 d c1] 57 (0, 0))) := (hg2.block _ (by simp; omega) (fun e => by have := (hrow.out _ e.symm).1; omega)).trans ((Below.heap_alloc W _ _ hlt).trans H1.out); have hcell2 := cell_of_row W2 _ 0 _ _ _ h12.out; have hfr2 := frozen_of_row W2 _ 0 _ _ h12.out)
      obtain ⟨g1, g2, g3, g4, g5, g6⟩ := all_step (v := .slice A2 (d + 1) c2) H1.out h2 h3 h4 ho2 hg2 h12.out
      exact ⟨g1, g2, Hd'.out _ ⟨A2, c2, g3, g4, g5, g6⟩⟩
    case done =>
      rintro D W ⟨A1, c1, h1, h2, h3, h4⟩ hD hK
      have hcell : W.cell? ⟨w.heap.size, 0, none⟩ = some (.slice A1 (Sg.sums p n).length c1) := cell_of_row W _ 0 _ _ _ h1
      dsimp only
      go_wp2
      refine ⟨by simp, .inl ⟨_, _, rfl, run_takeDeferred hK, ?_⟩⟩
      have hput : W.grownBy (W.putObj D (.deferred none)) (some D) := grownBy_putObj' W D _
      refine ⟨_, results_tmp rfl _ _ _, A1, c1, rfl, (h2.kept hput ?_).mono (by omega), h3.grown hput h3.size (fun k e => by injection e with e; omega)⟩
      intro k hk e
      injection e with e
      subst e
      obtain ⟨cur2, hcur⟩ := h2.row_is hk
      rw [hcur] at hK
      cases hK
  · have i2 : (p.length : Int) < (n : Int) := by omega
    have hz : (Sg.sums p n) = [] := List.length_eq_zero_iff.1 (by rw [Sg.sums_len]; omega)
    rw [hz]
    go_wp2_with fail
    exact ⟨_, results_tmp rfl _ _ _, none, 0, rfl, Own.none_ _ _ _ _ _, Ext.refl _⟩
end Go.Proofs.Ytnagbhaknmoilaa
