
/- Contract: ops.Get. Printed by wip/tools/gen_opget20.py. -/

import Derived.Test.YtdekdblebflklaaOpOne

import Derived.Test.YtdekdblebflklaaEntSame

namespace Go.Proofs.Ytdekdblebflklaa

open Go.RowKit

attribute [local go_sem] Oper.semAt_some

theorem Own.rowType {w : World} {B t s n c k : Nat} {A : Option Addr} {xs : List Value} (h : Own w B t s A n c xs) (hk : ownRow A c = some k) : ∃ cur, w.heap[k]? = some (.cells cur t (0, 0)) := by
  rcases h.mem with h0 | ⟨g, off, cur, hA, hb, hgg, _⟩
  · simp [ownRow, h0] at hk
  · have : k = g := by
      rw [hA] at hk
      unfold ownRow at hk
      split at hk
      · cases hk
      · simpa using hk.symm
    subst this
    exact ⟨cur, hgg⟩
theorem cmp_geO {a b : List UInt8} (h : ltB a b = false) : 0 ≤ Lib.compareBytes a b := by
  have := compare_lt a b
  rcases Int.lt_or_le (Lib.compareBytes a b) 0 with h1 | h1
  · rw [this.1 h1] at h; cases h
  · exact h1
theorem Opn.getF_nil (f : Nat) (acc : List Opn) : Opn.getF f acc [] = some acc := by cases f <;> simp [Opn.getF]
theorem Opn.getF_none {f : Nat} {acc : List Opn} {b : List UInt8} (hb : b ≠ []) (h : Opn.one b = none) : Opn.getF f acc b = none := by
  cases f with
  | zero => simp [Opn.getF, hb]
  | succ f => simp [Opn.getF, hb, h]
theorem Opn.getF_bars {f : Nat} {acc : List Opn} {b : List UInt8} {x : Opn} {n : Nat} (hb : b ≠ []) (h : Opn.one b = some (x, n)) (h2 : Opn.bars acc x = true) : Opn.getF f acc b = none := by
  cases f with
  | zero => simp [Opn.getF, hb]
  | succ f => simp [Opn.getF, hb, h, h2]
theorem Opn.getF_push {f : Nat} {acc : List Opn} {b : List UInt8} {x : Opn} {n : Nat} (hb : b ≠ []) (hf : b.length ≤ f) (h : Opn.one b = some (x, n)) (h2 : Opn.bars acc x = false) : Opn.getF f acc b = Opn.getF (f - 1) (acc ++ [x]) (b.drop n) := by
  cases f with
  | zero => have := List.length_pos_iff.2 hb; omega
  | succ f => simp [Opn.getF, hb, h, h2]
def OGetP (bs : List UInt8) (w : World) (e : Ending) (w' : World) : Prop :=
  (∃ (L : List OpV) (A : Option Addr) (c : Nat), Opn.getAll bs = some (L.map OpV.x) ∧ e = .returned (.tuple #[.slice A L.length c, .int .i64 0]) ∧ RdO w' A L ∧ L.length ≤ c ∧ L.length ≤ bs.length ∧ Below w.heap.size w w') ∨
  (Opn.getAll bs = none ∧ e = .returned (.tuple #[.slice none 0 0, .int .i64 200]) ∧ Below w.heap.size w w')
/-- What Get keeps between two rounds. -/
structure OGetI (A : Option Addr) (bs : List UInt8) (w : World) (cur : List UInt8) (A1 : Option Addr) (c1 : Nat) (L : List OpV) (A' : Option Addr) (c' f : Nat) (wr : World) : Prop where
  run : Opn.getF bs.length [] bs = Opn.getF f (L.map OpV.x) cur
  len : cur.length ≤ f
  tot : L.length + cur.length ≤ bs.length
  rd : ∀ W, RdB W A bs → RdB W A1 cur
  cap : cur.length ≤ c1
  own : Own wr w.heap.size 50 3 A' L.length c' (ocs L)
  ins : ∀ e ∈ L, e.At w.heap.size wr
  bel : Below w.heap.size w wr
/-- One operation further. -/
theorem OGetI.push {A : Option Addr} {bs : List UInt8} {w : World} {cur : List UInt8} {A1 A2 : Option Addr} {c1 c2 : Nat} {L : List OpV} {A' A4 : Option Addr} {c' c4 f n : Nat} {wr V W : World} {q : OpV}
    (h : OGetI A bs w cur A1 c1 L A' c' f wr) (hcur : cur ≠ []) (h1 : Opn.one cur = some (q.x, n)) (hb : Opn.bars (L.map OpV.x) q.x = false) (hrd : ∀ W, RdB W A1 cur → RdB W A2 (cur.drop n)) (hcap : (cur.drop n).length ≤ c2)
    (hq : q.At w.heap.size V) (hV : Ext wr V) (hg : V.grownBy W (ownRow A' c')) (ho : Own W w.heap.size 50 3 A4 (L.length + 1) c4 (ocs (L ++ [q]))) :
    OGetI A bs w (cur.drop n) A2 c2 (L ++ [q]) A4 c4 (f - 1) W := by
  have hn := (Opn.one_some h1).2.2
  have hno : ∀ r, ownRow A' c' = some r → r < w.heap.size ∨ ∀ cur fr, V.heap[r]? ≠ some (.cells cur 5 fr) := fun r hr' => .inr (fun cur fr h2 => by
    obtain ⟨cur', h3⟩ := (h.own.below hV).rowType hr'
    rw [h3] at h2
    injection h2 with h2
    injection h2 with _ h2 _
    exact absurd h2 (by decide))
  have hp := List.length_pos_iff.2 hcur
  refine ⟨?_, ?_, ?_, fun W h2 => hrd W (h.rd W h2), hcap, by rw [List.length_append]; exact ho, ?_, (h.bel.trans (hV.mono h.bel.size)).grown hg (Nat.le_trans h.bel.size hV.size) (fun k e => (h.own.row_lt k e).1)⟩
  · rw [h.run, Opn.getF_push hcur h.len h1 hb, List.map_append]; rfl
  · rw [List.length_drop]; have := h.len; omega
  · rw [List.length_drop, List.length_append]; have := h.tot; simp; omega
  · intro e he
    rcases List.mem_append.1 he with he | he
    · exact ((h.ins e he).ext hV).kept hg hno
    · simp only [List.mem_cons, List.not_mem_nil, or_false] at he
      subst he
      exact hq.kept hg hno
set_option maxRecDepth 100000 in
set_option maxHeartbeats 2000000 in
theorem oget_any (A : Option Addr) (bs : List UInt8) (c : Nat) (w : World) (hA : RdB w A bs) (hc : bs.length ≤ c) (hl : bs.length ≤ 500000) :
    Calls Try.prog 19 #[.slice A bs.length c] w (OGetP bs w) := by
  go_enter Try.func19, Try.ntmps19
  go_wp2
  go_loopw [0, 4] (fun a v wr => ∃ (cur : List UInt8) (A1 : Option Addr) (c1 : Nat) (L : List OpV) (A' : Option Addr) (c' f : Nat), a = .slice A1 cur.length c1 ∧ v = .slice A' L.length c' ∧ OGetI A bs w cur A1 c1 L A' c' f wr) (fun a _ _ => lenV a)
  case atStart => exact ⟨bs, A, c, [], none, 0, bs.length, rfl, rfl, ⟨rfl, Nat.le_refl _, by simp, fun _ h => h, hc, Own.none_ _ _ _ _ _, by simp, Below.refl _ _⟩⟩
  case round =>
    obtain ⟨cur, A1, c1, L, A', c', f, rfl, rfl, hI⟩ := hrel
    rcases cur with _ | ⟨t, r⟩
    · simp only [List.length_nil]
      go_wp2
      refine bodyPost_ret (results_tmp2 rfl _ _ _) rfl ?_
      refine .inl ⟨L, A', c', by show Opn.getF bs.length [] bs = _; rw [hI.run, Opn.getF_nil], rfl, ⟨hI.own.rd, fun e he => (hI.ins e he).i⟩, hI.own.nc, by have := hI.tot; simp at this; exact this, hI.bel⟩
    · have hRd := hI.rd _ (hA.below hI.bel)
      have hcp := hI.cap
      have htot := hI.tot
      simp only [List.length_cons] at hcp htot ⊢
      have hlr : r.length ≤ 500000 := by omega
      have HONE := one_any A1 t r c1 wr hRd hcp hlr
      have HI := Lib.hid hI
      have hnz : (0 : Int) < (r.length : Int) + 1 := by omega
      have Hh := Lib.hid hA
      clear hRd hI hA
      have HON2 : Calls Try.prog 39 #[.slice A1 (r.length + 1) c1] wr fun e w' => ∃ (z : Array Value) (A3 : Option Addr) (m c3 : Nat) (b : Bool), e = .returned (.tuple #[.agg z, .slice A3 m c3, .bool b]) ∧ Hid (z.size = 3) ∧ Hid (z.all (·.oneCell') = true) ∧ Below wr.heap.size wr w' ∧ Hid ((b = true ∧ ∃ (q : OpV) (n : Nat), z = q.cells ∧ m = ((t :: r).drop n).length ∧ Opn.one (t :: r) = some (q.x, n) ∧ q.At wr.heap.size w' ∧ (∀ W, RdB W A1 (t :: r) → RdB W A3 ((t :: r).drop n)) ∧ ((t :: r).drop n).length ≤ c3) ∨ (b = false ∧ Opn.one (t :: r) = none)) := by
        refine HONE.mono ?_
        rintro e1 w2 (⟨q, A3, c3, n, hone, rfl, hqat, hrd3, hc3, hb2⟩ | ⟨cs, A3, m, c3, hone, rfl, hcs, hcs1, hb2⟩)
        · exact ⟨q.cells, A3, _, c3, true, rfl, (show _ = _ from rfl), (show _ = _ from oone q), hb2, .inl ⟨rfl, q, n, rfl, rfl, hone, hqat, hrd3, hc3⟩⟩
        · exact ⟨cs, A3, m, c3, false, rfl, hcs, hcs1, hb2, .inr ⟨rfl, hone⟩⟩
      clear HONE
      go_wp2_with (first | (go_at_call 39; refine HON2.mono ?_; rintro e1 w2 ⟨z, A3, m, c3, b, rfl, hz, hz1, hb2, hp1⟩) | (refine wpList_store_row rfl 50 (.tmp 5) (.tmp 14) rfl w2.heap.size z rfl rfl 50 _ (heap_alloc_new w2 _) (by rw [hz.out]; kernel_rfl) (by exact hz.out.symm) hz1.out ?_; rw [setRow_alloc]; refine Hid.out ?_))
      have hEq := Ext.alloc w2 (.cells z 50)
      have gq := heap_alloc_new w2 (.cells z 50)
      obtain ⟨W1, hW1⟩ : ∃ W1, W1 = w2.alloc (.cells z 50) := ⟨_, rfl⟩
      rw [← hW1] at gq hEq ⊢
      have hxd : Ext wr W1.drew := Ext.tr (Ext.tr hb2 hEq) (Ext.drew W1)
      clear hW1
      rcases hp1.out with ⟨rfl, q, n, rfl, rfl, hone, hqat, hrd3, hc3⟩ | ⟨rfl, hone⟩
      · have Hone := Lib.hid hone
        have Hrd3 := Lib.hid hrd3
        have hq1 : q.At w.heap.size W1 := (hqat.mono HI.out.bel.size).ext hEq
        have gqd : W1.drew.heap[w2.heap.size]? = some (.cells q.cells 50 (0, 0)) := gq
        have hk1 : W1.drew.cell? ⟨w2.heap.size, 1, none⟩ = some (.slice q.ka q.x.key.length q.kc) := by rw [cell_of_row _ _ _ _ _ _ gqd]; rfl
        have Hgq := Lib.hid gqd
        obtain ⟨n3, hn3⟩ : ∃ n3, n3 = ((t :: r).drop n).length := ⟨_, rfl⟩
        rw [← hn3] at hc3 ⊢
        have Hn3 := Lib.hid hn3
        clear gqd hone hrd3 hqat gq hEq hp1 hz hz1 hn3
        refine Lib.hid ?_
        by_cases hL0 : L = []
        · subst hL0
          go_wp2_with fail
          refine rg_start (by kernel_rfl) ?_
          refine rg_take 0 rfl (by kernel_rfl) (by kernel_rfl) (by kernel_rfl) (fun _ _ _ _ h => h) (by rfl) ⟨_, fun w' hx => by (go_simp <;> with_reducible rfl), ?_⟩
          simp only [Act.put, List.setIfInBounds_toArray, List.set_cons_zero, List.set_cons_succ]
          refine rg_take 1 rfl (by kernel_rfl) (by kernel_rfl) (by kernel_rfl) (fun _ _ _ _ h => h) (by rfl) ⟨_, fun w' hx => by (go_simp <;> with_reducible rfl), ?_⟩   -- t18 := unOp not 4 t17
          simp only [Act.put, List.setIfInBounds_toArray, List.set_cons_zero, List.set_cons_succ]
          refine rg_take 2 rfl (by kernel_rfl) (by kernel_rfl) (by kernel_rfl) (fun _ _ _ _ h => h) (by rfl) ⟨_, fun w' hx => by (go_simp <;> with_reducible rfl), ?_⟩
          simp only [Act.put, List.setIfInBounds_toArray, List.set_cons_zero, List.set_cons_succ]
          refine rg_take 3 rfl (by kernel_rfl) (by kernel_rfl) (by kernel_rfl) (fun _ _ _ _ h => h) (by rfl) ⟨_, fun w' hx => by (go_simp <;> with_reducible rfl), ?_⟩
          simp only [Act.put, List.setIfInBounds_toArray, List.set_cons_zero, List.set_cons_succ]
          refine rg_take 4 rfl (by kernel_rfl) (by kernel_rfl) (by kernel_rfl) (fun _ _ _ _ h => h) (by rfl) ⟨_, fun w' hx => by (go_simp <;> with_reducible rfl), ?_⟩   -- t21 := len(t20)
          simp only [Act.put, List.setIfInBounds_toArray, List.set_cons_zero, List.set_cons_succ]
          refine rg_take 5 rfl (by kernel_rfl) (by kernel_rfl) (by kernel_rfl) (fun _ _ _ _ h => h) (by rfl) ⟨_, fun w' hx => by (go_simp <;> with_reducible rfl), ?_⟩   -- t22 := binOp gtr 3 t21 0:i64 3
          simp only [Act.put, List.setIfInBounds_toArray, List.set_cons_zero, List.set_cons_succ]
          refine rg_take 6 rfl (by kernel_rfl) (by kernel_rfl) (by kernel_rfl) (fun _ _ _ _ h => h) (by rfl) ⟨_, fun w' hx => by (go_simp <;> with_reducible rfl), ?_⟩
          simp only [Act.put, List.setIfInBounds_toArray, List.set_cons_zero, List.set_cons_succ]
          refine rg_skip 7 rfl (by kernel_rfl) (by kernel_rfl) (by kernel_rfl) (fun _ _ _ _ h => h) (by rfl) ?_
          simp only [Act.put, List.setIfInBounds_toArray, List.set_cons_zero, List.set_cons_succ]
          refine rg_skip 8 rfl (by kernel_rfl) (by kernel_rfl) (by kernel_rfl) (fun _ _ _ _ h => h) (by rfl) ?_
          simp only [Act.put, List.setIfInBounds_toArray, List.set_cons_zero, List.set_cons_succ]
          refine rg_skip 9 rfl (by kernel_rfl) (by kernel_rfl) (by kernel_rfl) (fun _ _ _ _ h => h) (by rfl) ?_
          simp only [Act.put, List.setIfInBounds_toArray, List.set_cons_zero, List.set_cons_succ]
          refine rg_skip 10 rfl (by kernel_rfl) (by kernel_rfl) (by kernel_rfl) (fun _ _ _ _ h => h) (by rfl) ?_
          simp only [Act.put, List.setIfInBounds_toArray, List.set_cons_zero, List.set_cons_succ]
          refine rg_skip 11 rfl (by kernel_rfl) (by kernel_rfl) (by kernel_rfl) (fun _ _ _ _ h => h) (by rfl) ?_
          simp only [Act.put, List.setIfInBounds_toArray, List.set_cons_zero, List.set_cons_succ]
          refine rg_skip 12 rfl (by kernel_rfl) (by kernel_rfl) (by kernel_rfl) (fun _ _ _ _ h => h) (by rfl) ?_
          simp only [Act.put, List.setIfInBounds_toArray, List.set_cons_zero, List.set_cons_succ]
          refine rg_skip 13 rfl (by kernel_rfl) (by kernel_rfl) (by kernel_rfl) (fun _ _ _ _ h => h) (by rfl) ?_
          simp only [Act.put, List.setIfInBounds_toArray, List.set_cons_zero, List.set_cons_succ]
          refine rg_skip 14 rfl (by kernel_rfl) (by kernel_rfl) (by kernel_rfl) (fun _ _ _ _ h => h) (by rfl) ?_
          simp only [Act.put, List.setIfInBounds_toArray, List.set_cons_zero, List.set_cons_succ]
          refine rg_skip 15 rfl (by kernel_rfl) (by kernel_rfl) (by kernel_rfl) (fun _ _ _ _ h => h) (by rfl) ?_
          simp only [Act.put, List.setIfInBounds_toArray, List.set_cons_zero, List.set_cons_succ]
          refine rg_skip 16 rfl (by kernel_rfl) (by kernel_rfl) (by kernel_rfl) (fun _ _ _ _ h => h) (by rfl) ?_
          simp only [Act.put, List.setIfInBounds_toArray, List.set_cons_zero, List.set_cons_succ]
          refine rg_skip 17 rfl (by kernel_rfl) (by kernel_rfl) (by kernel_rfl) (fun _ _ _ _ h => h) (by rfl) ?_
          simp only [Act.put, List.setIfInBounds_toArray, List.set_cons_zero, List.set_cons_succ]
          refine rg_take 18 rfl (by kernel_rfl) (by kernel_rfl) (by kernel_rfl) (fun _ _ _ _ h => h) (by rfl) ⟨_, fun w' hx => by (go_simp <;> with_reducible rfl), ?_⟩
          simp only [Act.put, List.setIfInBounds_toArray, List.set_cons_zero, List.set_cons_succ]
          refine rg_take 19 rfl (by kernel_rfl) (by kernel_rfl) (by kernel_rfl) (fun _ _ _ _ h => h) (by rfl) ⟨_, fun w' hx => by (go_simp <;> with_reducible rfl), ?_⟩
          simp only [Act.put, List.setIfInBounds_toArray, List.set_cons_zero, List.set_cons_succ]
          refine rg_done (by kernel_rfl) ?_
          have Hbar := Lib.hid (show Opn.bars ([].map OpV.x) q.x = false from rfl)
          obtain ⟨W5, hW5⟩ : ∃ W5, W5 = W1.drew := ⟨_, rfl⟩
          have hgq := Hgq.out
          rw [← hW5] at hxd hgq ⊢
          have hq5 : q.At w.heap.size W5 := by rw [hW5]; exact hq1.ext (Ext.drew W1)
          have hEv : Ext wr (W5.alloc (.cells q.cells 50)) := Ext.tr hxd (Ext.alloc _ _)
          have hown5 := HI.out.own.below hEv
          have hrd5 := (RdO.one W5 50 q hq5.i).rd
          have hsz5 : w.heap.size ≤ (W5.alloc (.cells q.cells 50)).heap.size := Nat.le_trans HI.out.bel.size hEv.size
          have hL5 : ([] : List OpV).length ≤ 500000 := by have := HI.out.tot; simp only [List.length_cons] at this; omega
          have Hgq5 := Lib.hid hgq
          have Hown5 := Lib.hid hown5
          have Hrd5 := Lib.hid hrd5
          have Hq5 := Lib.hid hq5
          have Hsz5 := Lib.hid hsz5
          have Hdrop := Lib.hid hc3
          clear hgq hown5 hrd5 hW5 hq5 hsz5 hc3 hcp htot
          go_wp2_with (first | (refine wpList_load_rowG (by rfl) 50 (.tmp 5) rfl w2.heap.size rfl 50 q.cells (0, 0) _ Hgq5.out Try.underlying50 rfl (oinfo _) ?_) | (refine wpList_buildOne (by rfl) 23 (.tmp 38) rfl elemO q.cells rfl rfl (by omega) ?_; at_builtin; refine wpList_app rfl (.tmp 37) (.tmp 39) 23 rfl elemO w.heap.size A' ([] : List OpV).length c' (ocs ([] : List OpV)) rfl (some ⟨W5.heap.size, 0, none⟩) 1 1 (ocs [q]) rfl (([] : List OpV).length + 1) rfl (ocs ([] ++ [q])) (ocs_app _ _) Hown5.out Hrd5.out (ocs_one_cell _) (by omega) (by omega) Hsz5.out ?_; intro D2 c4 w4 ho4 hg4 hr4))
          go_roundw
          case rel =>
            exact ⟨(t :: r).drop n, A3, c3, [] ++ [q], D2, c4, f - 1, by rw [Hn3.out], by rw [List.length_append]; rfl, HI.out.push (by simp) Hone.out Hbar.out Hrd3.out (by rw [← Hn3.out]; exact Hdrop.out) (Hq5.out.ext (Ext.alloc _ _)) hEv hg4 ho4⟩
          case measure =>
            have := (Opn.one_some Hone.out).2.2
            have h9 := Hn3.out
            simp only [lenV, List.length_drop, List.length_cons] at this h9 ⊢
            omega
        · have hk : L.length - 1 < L.length := by have := List.length_pos_iff.2 hL0; omega
          have hbars : Opn.bars (L.map OpV.x) q.x = !ltB (L[L.length - 1]).x.key q.x.key := by
            unfold Opn.bars
            rw [List.getLast?_eq_getElem?]
            simp [List.getElem?_eq_getElem hk]
          obtain ⟨k, hkl⟩ : ∃ k, L.length = k + 1 := ⟨L.length - 1, by omega⟩
          have hrd0 : RdO wr A' L := ⟨HI.out.own.rd, fun e he => (HI.out.ins e he).i⟩
          have hkk : k < L.length := by omega
          obtain ⟨ad, hA1, hcell, hin⟩ := hrd0.at_ hkk
          subst hA1
          have hLk : L[L.length - 1] = L[k] := by congr 1; omega
          rw [hLk] at hbars
          obtain ⟨y, hy⟩ : ∃ y, L[k] = y := ⟨_, rfl⟩
          rw [hy] at hbars hcell hin
          have hkc : wr.cell? ⟨(ad.add (k * 3)).block, (ad.add (k * 3)).off + 1, none⟩ = some (.slice y.ka y.x.key.length y.kc) := hcell 1 _ rfl
          have hcmp := compare_any y.ka q.ka y.x.key q.x.key y.kc q.kc W1.drew (hin.kr.below hxd) (hq1.i.kr.below (Ext.drew W1))
          have ik : (0 : Int) ≤ (k : Int) := by omega
          have ik2 : (k : Int) < (L.length : Int) := by omega
          have hw : IntKind.i64.wrap ((L.length : Int) - 1) = (k : Int) := by rw [IntKind.wrap_i64]; omega
          have hpos : decide (0 < L.length) = true := by simp; omega
          have Hkl := Lib.hid hkl
          have hkc1 := Ext.load hxd hkc
          clear hrd0 hcell hin hLk hL0 hk hkl hkc hy
          cases hlt : ltB y.x.key q.x.key with
          | false =>
            have n1 := cmp_geO hlt
            rw [hlt] at hbars
            have Hbar := Lib.hid hbars
            generalize Lib.compareBytes y.x.key q.x.key = x1 at *
            have b17 : decide (0 ≤ x1) = true := by simpa using n1
            clear hlt hbars n1
            go_wp2_with fail
            refine rg_start (by kernel_rfl) ?_
            refine rg_take 0 rfl (by kernel_rfl) (by kernel_rfl) (by kernel_rfl) (fun _ _ _ _ h => h) (by rfl) ⟨_, fun w' hx => by (go_simp <;> with_reducible rfl), ?_⟩
            simp only [Act.put, List.setIfInBounds_toArray, List.set_cons_zero, List.set_cons_succ]
            refine rg_take 1 rfl (by kernel_rfl) (by kernel_rfl) (by kernel_rfl) (fun _ _ _ _ h => h) (by rfl) ⟨_, fun w' hx => by (go_simp <;> with_reducible rfl), ?_⟩   -- t18 := unOp not 4 t17
            simp only [Act.put, List.setIfInBounds_toArray, List.set_cons_zero, List.set_cons_succ]
            refine rg_take 2 rfl (by kernel_rfl) (by kernel_rfl) (by kernel_rfl) (fun _ _ _ _ h => h) (by rfl) ⟨_, fun w' hx => by (go_simp <;> with_reducible rfl), ?_⟩
            simp only [Act.put, List.setIfInBounds_toArray, List.set_cons_zero, List.set_cons_succ]
            refine rg_take 3 rfl (by kernel_rfl) (by kernel_rfl) (by kernel_rfl) (fun _ _ _ _ h => h) (by rfl) ⟨_, fun w' hx => by (go_simp <;> with_reducible rfl), ?_⟩
            simp only [Act.put, List.setIfInBounds_toArray, List.set_cons_zero, List.set_cons_succ]
            refine rg_take 4 rfl (by kernel_rfl) (by kernel_rfl) (by kernel_rfl) (fun _ _ _ _ h => h) (by rfl) ⟨_, fun w' hx => by (go_simp <;> with_reducible rfl), ?_⟩   -- t21 := len(t20)
            simp only [Act.put, List.setIfInBounds_toArray, List.set_cons_zero, List.set_cons_succ]
            refine rg_take 5 rfl (by kernel_rfl) (by kernel_rfl) (by kernel_rfl) (fun _ _ _ _ h => h) (by rfl) ⟨.bool true, fun w' hx => by (go_simp <;> with_reducible rfl), ?_⟩
            simp only [Act.put, List.setIfInBounds_toArray, List.set_cons_zero, List.set_cons_succ]
            refine rg_take 6 rfl (by kernel_rfl) (by kernel_rfl) (by kernel_rfl) (fun _ _ _ _ h => h) (by rfl) ⟨_, fun w' hx => by (go_simp <;> with_reducible rfl), ?_⟩
            simp only [Act.put, List.setIfInBounds_toArray, List.set_cons_zero, List.set_cons_succ]
            refine rg_take 7 rfl (by kernel_rfl) (by kernel_rfl) (by kernel_rfl) (fun _ _ _ _ h => h) (by rfl) ⟨_, fun w' hx => by (go_simp <;> with_reducible rfl), ?_⟩
            simp only [Act.put, List.setIfInBounds_toArray, List.set_cons_zero, List.set_cons_succ]
            refine rg_take 8 rfl (by kernel_rfl) (by kernel_rfl) (by kernel_rfl) (fun _ _ _ _ h => h) (by rfl) ⟨_, fun w' hx => by (go_simp <;> with_reducible rfl), ?_⟩
            simp only [Act.put, List.setIfInBounds_toArray, List.set_cons_zero, List.set_cons_succ]
            refine rg_take 9 rfl (by kernel_rfl) (by kernel_rfl) (by kernel_rfl) (fun _ _ _ _ h => h) (by rfl) ⟨_, fun w' hx => by (go_simp <;> with_reducible rfl), ?_⟩   -- t26 := len(t25)
            simp only [Act.put, List.setIfInBounds_toArray, List.set_cons_zero, List.set_cons_succ]
            refine rg_take 10 rfl (by kernel_rfl) (by kernel_rfl) (by kernel_rfl) (fun _ _ _ _ h => h) (by rfl) ⟨.int .i64 (k : Int), fun w' hx => by (go_simp <;> with_reducible rfl), ?_⟩
            simp only [Act.put, List.setIfInBounds_toArray, List.set_cons_zero, List.set_cons_succ]
            refine rg_take 11 rfl (by kernel_rfl) (by kernel_rfl) (by kernel_rfl) (fun _ _ _ _ h => h) (by rfl) ⟨_, fun w' hx => by (go_simp <;> with_reducible rfl), ?_⟩   -- t28 := indexAddr 23 t24 t27
            simp only [Act.put, List.setIfInBounds_toArray, List.set_cons_zero, List.set_cons_succ]
            refine rg_take 12 rfl (by kernel_rfl) (by kernel_rfl) (by kernel_rfl) (fun _ _ _ _ h => h) (by rfl) ⟨_, fun w' hx => by (go_simp <;> with_reducible rfl), ?_⟩   -- t29 := fieldAddr 50 t28 1
            simp only [Act.put, List.setIfInBounds_toArray, List.set_cons_zero, List.set_cons_succ]
            refine rg_take 13 rfl (by kernel_rfl) (by kernel_rfl) (by kernel_rfl) (fun _ _ _ _ h => h) (by rfl) ⟨_, fun w' hx => by have hcx := hx.load hkc1; (go_simp <;> with_reducible rfl), ?_⟩
            simp only [Act.put, List.setIfInBounds_toArray, List.set_cons_zero, List.set_cons_succ]
            refine rg_take 14 rfl (by kernel_rfl) (by kernel_rfl) (by kernel_rfl) (fun _ _ _ _ h => h) (by rfl) ⟨_, fun w' hx => by (go_simp <;> with_reducible rfl), ?_⟩   -- t31 := fieldAddr 50 t5 1
            simp only [Act.put, List.setIfInBounds_toArray, List.set_cons_zero, List.set_cons_succ]
            refine rg_take 15 rfl (by kernel_rfl) (by kernel_rfl) (by kernel_rfl) (fun _ _ _ _ h => h) (by rfl) ⟨_, fun w' hx => by have hcx := hx.load hk1; (go_simp <;> with_reducible rfl), ?_⟩
            simp only [Act.put, List.setIfInBounds_toArray, List.set_cons_zero, List.set_cons_succ]
            refine rg_call 16 hcmp rfl (by kernel_rfl) (by rfl) (by go_simp) ?_
            rintro e w' ⟨rfl, rfl⟩
            refine ⟨_, rfl, Ext.refl _, ?_⟩
            simp only [Act.put, List.setIfInBounds_toArray, List.set_cons_zero, List.set_cons_succ]
            refine rg_take 17 rfl (by kernel_rfl) (by kernel_rfl) (by kernel_rfl) (fun _ _ _ _ h => h) (by rfl) ⟨.bool true, fun w' hx => by (go_simp <;> with_reducible rfl), ?_⟩
            simp only [Act.put, List.setIfInBounds_toArray, List.set_cons_zero, List.set_cons_succ]
            refine rg_take 18 rfl (by kernel_rfl) (by kernel_rfl) (by kernel_rfl) (fun _ _ _ _ h => h) (by rfl) ⟨_, fun w' hx => by (go_simp <;> with_reducible rfl), ?_⟩
            simp only [Act.put, List.setIfInBounds_toArray, List.set_cons_zero, List.set_cons_succ]
            refine rg_take 19 rfl (by kernel_rfl) (by kernel_rfl) (by kernel_rfl) (fun _ _ _ _ h => h) (by rfl) ⟨_, fun w' hx => by (go_simp <;> with_reducible rfl), ?_⟩
            simp only [Act.put, List.setIfInBounds_toArray, List.set_cons_zero, List.set_cons_succ]
            refine rg_done (by kernel_rfl) ?_
            go_wp2
            refine bodyPost_ret (results_tmp2 rfl _ _ _) rfl ?_
            refine .inr ⟨by show Opn.getF bs.length [] bs = _; rw [HI.out.run]; exact Opn.getF_bars (by simp) Hone.out Hbar.out, rfl, HI.out.bel.trans (hxd.mono HI.out.bel.size)⟩
          | true =>
            have n1 := (compare_lt y.x.key q.x.key).2 hlt
            rw [hlt] at hbars
            have Hbar := Lib.hid hbars
            generalize Lib.compareBytes y.x.key q.x.key = x1 at *
            have b17 : decide (0 ≤ x1) = false := by simp; omega
            clear hlt hbars n1
            go_wp2_with fail
            refine rg_start (by kernel_rfl) ?_
            refine rg_take 0 rfl (by kernel_rfl) (by kernel_rfl) (by kernel_rfl) (fun _ _ _ _ h => h) (by rfl) ⟨_, fun w' hx => by (go_simp <;> with_reducible rfl), ?_⟩
            simp only [Act.put, List.setIfInBounds_toArray, List.set_cons_zero, List.set_cons_succ]
            refine rg_take 1 rfl (by kernel_rfl) (by kernel_rfl) (by kernel_rfl) (fun _ _ _ _ h => h) (by rfl) ⟨_, fun w' hx => by (go_simp <;> with_reducible rfl), ?_⟩   -- t18 := unOp not 4 t17
            simp only [Act.put, List.setIfInBounds_toArray, List.set_cons_zero, List.set_cons_succ]
            refine rg_take 2 rfl (by kernel_rfl) (by kernel_rfl) (by kernel_rfl) (fun _ _ _ _ h => h) (by rfl) ⟨_, fun w' hx => by (go_simp <;> with_reducible rfl), ?_⟩
            simp only [Act.put, List.setIfInBounds_toArray, List.set_cons_zero, List.set_cons_succ]
            refine rg_take 3 rfl (by kernel_rfl) (by kernel_rfl) (by kernel_rfl) (fun _ _ _ _ h => h) (by rfl) ⟨_, fun w' hx => by (go_simp <;> with_reducible rfl), ?_⟩
            simp only [Act.put, List.setIfInBounds_toArray, List.set_cons_zero, List.set_cons_succ]
            refine rg_take 4 rfl (by kernel_rfl) (by kernel_rfl) (by kernel_rfl) (fun _ _ _ _ h => h) (by rfl) ⟨_, fun w' hx => by (go_simp <;> with_reducible rfl), ?_⟩   -- t21 := len(t20)
            simp only [Act.put, List.setIfInBounds_toArray, List.set_cons_zero, List.set_cons_succ]
            refine rg_take 5 rfl (by kernel_rfl) (by kernel_rfl) (by kernel_rfl) (fun _ _ _ _ h => h) (by rfl) ⟨.bool true, fun w' hx => by (go_simp <;> with_reducible rfl), ?_⟩
            simp only [Act.put, List.setIfInBounds_toArray, List.set_cons_zero, List.set_cons_succ]
            refine rg_take 6 rfl (by kernel_rfl) (by kernel_rfl) (by kernel_rfl) (fun _ _ _ _ h => h) (by rfl) ⟨_, fun w' hx => by (go_simp <;> with_reducible rfl), ?_⟩
            simp only [Act.put, List.setIfInBounds_toArray, List.set_cons_zero, List.set_cons_succ]
            refine rg_take 7 rfl (by kernel_rfl) (by kernel_rfl) (by kernel_rfl) (fun _ _ _ _ h => h) (by rfl) ⟨_, fun w' hx => by (go_simp <;> with_reducible rfl), ?_⟩
            simp only [Act.put, List.setIfInBounds_toArray, List.set_cons_zero, List.set_cons_succ]
            refine rg_take 8 rfl (by kernel_rfl) (by kernel_rfl) (by kernel_rfl) (fun _ _ _ _ h => h) (by rfl) ⟨_, fun w' hx => by (go_simp <;> with_reducible rfl), ?_⟩
            simp only [Act.put, List.setIfInBounds_toArray, List.set_cons_zero, List.set_cons_succ]
            refine rg_take 9 rfl (by kernel_rfl) (by kernel_rfl) (by kernel_rfl) (fun _ _ _ _ h => h) (by rfl) ⟨_, fun w' hx => by (go_simp <;> with_reducible rfl), ?_⟩   -- t26 := len(t25)
            simp only [Act.put, List.setIfInBounds_toArray, List.set_cons_zero, List.set_cons_succ]
            refine rg_take 10 rfl (by kernel_rfl) (by kernel_rfl) (by kernel_rfl) (fun _ _ _ _ h => h) (by rfl) ⟨.int .i64 (k : Int), fun w' hx => by (go_simp <;> with_reducible rfl), ?_⟩
            simp only [Act.put, List.setIfInBounds_toArray, List.set_cons_zero, List.set_cons_succ]
            refine rg_take 11 rfl (by kernel_rfl) (by kernel_rfl) (by kernel_rfl) (fun _ _ _ _ h => h) (by rfl) ⟨_, fun w' hx => by (go_simp <;> with_reducible rfl), ?_⟩   -- t28 := indexAddr 23 t24 t27
            simp only [Act.put, List.setIfInBounds_toArray, List.set_cons_zero, List.set_cons_succ]
            refine rg_take 12 rfl (by kernel_rfl) (by kernel_rfl) (by kernel_rfl) (fun _ _ _ _ h => h) (by rfl) ⟨_, fun w' hx => by (go_simp <;> with_reducible rfl), ?_⟩   -- t29 := fieldAddr 50 t28 1
            simp only [Act.put, List.setIfInBounds_toArray, List.set_cons_zero, List.set_cons_succ]
            refine rg_take 13 rfl (by kernel_rfl) (by kernel_rfl) (by kernel_rfl) (fun _ _ _ _ h => h) (by rfl) ⟨_, fun w' hx => by have hcx := hx.load hkc1; (go_simp <;> with_reducible rfl), ?_⟩
            simp only [Act.put, List.setIfInBounds_toArray, List.set_cons_zero, List.set_cons_succ]
            refine rg_take 14 rfl (by kernel_rfl) (by kernel_rfl) (by kernel_rfl) (fun _ _ _ _ h => h) (by rfl) ⟨_, fun w' hx => by (go_simp <;> with_reducible rfl), ?_⟩   -- t31 := fieldAddr 50 t5 1
            simp only [Act.put, List.setIfInBounds_toArray, List.set_cons_zero, List.set_cons_succ]
            refine rg_take 15 rfl (by kernel_rfl) (by kernel_rfl) (by kernel_rfl) (fun _ _ _ _ h => h) (by rfl) ⟨_, fun w' hx => by have hcx := hx.load hk1; (go_simp <;> with_reducible rfl), ?_⟩
            simp only [Act.put, List.setIfInBounds_toArray, List.set_cons_zero, List.set_cons_succ]
            refine rg_call 16 hcmp rfl (by kernel_rfl) (by rfl) (by go_simp) ?_
            rintro e w' ⟨rfl, rfl⟩
            refine ⟨_, rfl, Ext.refl _, ?_⟩
            simp only [Act.put, List.setIfInBounds_toArray, List.set_cons_zero, List.set_cons_succ]
            refine rg_take 17 rfl (by kernel_rfl) (by kernel_rfl) (by kernel_rfl) (fun _ _ _ _ h => h) (by rfl) ⟨.bool false, fun w' hx => by (go_simp <;> with_reducible rfl), ?_⟩
            simp only [Act.put, List.setIfInBounds_toArray, List.set_cons_zero, List.set_cons_succ]
            refine rg_take 18 rfl (by kernel_rfl) (by kernel_rfl) (by kernel_rfl) (fun _ _ _ _ h => h) (by rfl) ⟨_, fun w' hx => by (go_simp <;> with_reducible rfl), ?_⟩
            simp only [Act.put, List.setIfInBounds_toArray, List.set_cons_zero, List.set_cons_succ]
            refine rg_take 19 rfl (by kernel_rfl) (by kernel_rfl) (by kernel_rfl) (fun _ _ _ _ h => h) (by rfl) ⟨_, fun w' hx => by (go_simp <;> with_reducible rfl), ?_⟩
            simp only [Act.put, List.setIfInBounds_toArray, List.set_cons_zero, List.set_cons_succ]
            refine rg_done (by kernel_rfl) ?_
            obtain ⟨W5, hW5⟩ : ∃ W5, W5 = W1.drew := ⟨_, rfl⟩
            have hgq := Hgq.out
            rw [← hW5] at hxd hgq ⊢
            have hq5 : q.At w.heap.size W5 := by rw [hW5]; exact hq1.ext (Ext.drew W1)
            have hEv : Ext wr (W5.alloc (.cells q.cells 50)) := Ext.tr hxd (Ext.alloc _ _)
            have hown5 := HI.out.own.below hEv
            have hrd5 := (RdO.one W5 50 q hq5.i).rd
            have hsz5 : w.heap.size ≤ (W5.alloc (.cells q.cells 50)).heap.size := Nat.le_trans HI.out.bel.size hEv.size
            have hL5 : L.length ≤ 500000 := by have := HI.out.tot; simp only [List.length_cons] at this; omega
            have Hgq5 := Lib.hid hgq
            have Hown5 := Lib.hid hown5
            have Hrd5 := Lib.hid hrd5
            have Hq5 := Lib.hid hq5
            have Hsz5 := Lib.hid hsz5
            have Hdrop := Lib.hid hc3
            clear hgq hown5 hrd5 hW5 hq5 hsz5 hc3 hcp htot
            go_wp2_with (first | (refine wpList_load_rowG (by rfl) 50 (.tmp 5) rfl w2.heap.size rfl 50 q.cells (0, 0) _ Hgq5.out Try.underlying50 rfl (oinfo _) ?_) | (refine wpList_buildOne (by rfl) 23 (.tmp 38) rfl elemO q.cells rfl rfl (by omega) ?_; at_builtin; refine wpList_app rfl (.tmp 37) (.tmp 39) 23 rfl elemO w.heap.size (some ad) L.length c' (ocs L) rfl (some ⟨W5.heap.size, 0, none⟩) 1 1 (ocs [q]) rfl (L.length + 1) rfl (ocs (L ++ [q])) (ocs_app _ _) Hown5.out Hrd5.out (ocs_one_cell _) (by omega) (by omega) Hsz5.out ?_; intro D2 c4 w4 ho4 hg4 hr4))
            go_roundw
            case rel =>
              exact ⟨(t :: r).drop n, A3, c3, L ++ [q], D2, c4, f - 1, by rw [Hn3.out], by rw [List.length_append]; rfl, HI.out.push (by simp) Hone.out Hbar.out Hrd3.out (by rw [← Hn3.out]; exact Hdrop.out) (Hq5.out.ext (Ext.alloc _ _)) hEv hg4 ho4⟩
            case measure =>
              have := (Opn.one_some Hone.out).2.2
              have h9 := Hn3.out
              simp only [lenV, List.length_drop, List.length_cons] at this h9 ⊢
              omega
      · have Hone := Lib.hid hone
        clear hone hp1 hz hz1 gq hEq
        refine Lib.hid ?_
        go_wp2_with fail
        refine rg_start (by kernel_rfl) ?_
        refine rg_take 0 rfl (by kernel_rfl) (by kernel_rfl) (by kernel_rfl) (fun _ _ _ _ h => h) (by rfl) ⟨_, fun w' hx => by (go_simp <;> with_reducible rfl), ?_⟩
        simp only [Act.put, List.setIfInBounds_toArray, List.set_cons_zero, List.set_cons_succ]
        refine rg_take 1 rfl (by kernel_rfl) (by kernel_rfl) (by kernel_rfl) (fun _ _ _ _ h => h) (by rfl) ⟨_, fun w' hx => by (go_simp <;> with_reducible rfl), ?_⟩   -- t18 := unOp not 4 t17
        simp only [Act.put, List.setIfInBounds_toArray, List.set_cons_zero, List.set_cons_succ]
        refine rg_take 2 rfl (by kernel_rfl) (by kernel_rfl) (by kernel_rfl) (fun _ _ _ _ h => h) (by rfl) ⟨_, fun w' hx => by (go_simp <;> with_reducible rfl), ?_⟩
        simp only [Act.put, List.setIfInBounds_toArray, List.set_cons_zero, List.set_cons_succ]
        refine rg_skip 3 rfl (by kernel_rfl) (by kernel_rfl) (by kernel_rfl) (fun _ _ _ _ h => h) (by rfl) ?_
        simp only [Act.put, List.setIfInBounds_toArray, List.set_cons_zero, List.set_cons_succ]
        refine rg_skip 4 rfl (by kernel_rfl) (by kernel_rfl) (by kernel_rfl) (fun _ _ _ _ h => h) (by rfl) ?_
        simp only [Act.put, List.setIfInBounds_toArray, List.set_cons_zero, List.set_cons_succ]
        refine rg_skip 5 rfl (by kernel_rfl) (by kernel_rfl) (by kernel_rfl) (fun _ _ _ _ h => h) (by rfl) ?_
        simp only [Act.put, List.setIfInBounds_toArray, List.set_cons_zero, List.set_cons_succ]
        refine rg_skip 6 rfl (by kernel_rfl) (by kernel_rfl) (by kernel_rfl) (fun _ _ _ _ h => h) (by rfl) ?_
        simp only [Act.put, List.setIfInBounds_toArray, List.set_cons_zero, List.set_cons_succ]
        refine rg_skip 7 rfl (by kernel_rfl) (by kernel_rfl) (by kernel_rfl) (fun _ _ _ _ h => h) (by rfl) ?_
        simp only [Act.put, List.setIfInBounds_toArray, List.set_cons_zero, List.set_cons_succ]
        refine rg_skip 8 rfl (by kernel_rfl) (by kernel_rfl) (by kernel_rfl) (fun _ _ _ _ h => h) (by rfl) ?_
        simp only [Act.put, List.setIfInBounds_toArray, List.set_cons_zero, List.set_cons_succ]
        refine rg_skip 9 rfl (by kernel_rfl) (by kernel_rfl) (by kernel_rfl) (fun _ _ _ _ h => h) (by rfl) ?_
        simp only [Act.put, List.setIfInBounds_toArray, List.set_cons_zero, List.set_cons_succ]
        refine rg_skip 10 rfl (by kernel_rfl) (by kernel_rfl) (by kernel_rfl) (fun _ _ _ _ h => h) (by rfl) ?_
        simp only [Act.put, List.setIfInBounds_toArray, List.set_cons_zero, List.set_cons_succ]
        refine rg_skip 11 rfl (by kernel_rfl) (by kernel_rfl) (by kernel_rfl) (fun _ _ _ _ h => h) (by rfl) ?_
        simp only [Act.put, List.setIfInBounds_toArray, List.set_cons_zero, List.set_cons_succ]
        refine rg_skip 12 rfl (by kernel_rfl) (by kernel_rfl) (by kernel_rfl) (fun _ _ _ _ h => h) (by rfl) ?_
        simp only [Act.put, List.setIfInBounds_toArray, List.set_cons_zero, List.set_cons_succ]
        refine rg_skip 13 rfl (by kernel_rfl) (by kernel_rfl) (by kernel_rfl) (fun _ _ _ _ h => h) (by rfl) ?_
        simp only [Act.put, List.setIfInBounds_toArray, List.set_cons_zero, List.set_cons_succ]
        refine rg_skip 14 rfl (by kernel_rfl) (by kernel_rfl) (by kernel_rfl) (fun _ _ _ _ h => h) (by rfl) ?_
        simp only [Act.put, List.setIfInBounds_toArray, List.set_cons_zero, List.set_cons_succ]
        refine rg_skip 15 rfl (by kernel_rfl) (by kernel_rfl) (by kernel_rfl) (fun _ _ _ _ h => h) (by rfl) ?_
        simp only [Act.put, List.setIfInBounds_toArray, List.set_cons_zero, List.set_cons_succ]
        refine rg_skip 16 rfl (by kernel_rfl) (by kernel_rfl) (by kernel_rfl) (fun _ _ _ _ h => h) (by rfl) ?_
        simp only [Act.put, List.setIfInBounds_toArray, List.set_cons_zero, List.set_cons_succ]
        refine rg_skip 17 rfl (by kernel_rfl) (by kernel_rfl) (by kernel_rfl) (fun _ _ _ _ h => h) (by rfl) ?_
        simp only [Act.put, List.setIfInBounds_toArray, List.set_cons_zero, List.set_cons_succ]
        refine rg_skip 18 rfl (by kernel_rfl) (by kernel_rfl) (by kernel_rfl) (fun _ _ _ _ h => h) (by rfl) ?_
        simp only [Act.put, List.setIfInBounds_toArray, List.set_cons_zero, List.set_cons_succ]
        refine rg_take 19 rfl (by kernel_rfl) (by kernel_rfl) (by kernel_rfl) (fun _ _ _ _ h => h) (by rfl) ⟨_, fun w' hx => by (go_simp <;> with_reducible rfl), ?_⟩
        simp only [Act.put, List.setIfInBounds_toArray, List.set_cons_zero, List.set_cons_succ]
        refine rg_done (by kernel_rfl) ?_
        go_wp2
        refine bodyPost_ret (results_tmp2 rfl _ _ _) rfl ?_
        refine .inr ⟨by show Opn.getF bs.length [] bs = _; rw [HI.out.run]; exact Opn.getF_none (by simp) Hone.out, rfl, HI.out.bel.trans (hxd.mono HI.out.bel.size)⟩
end Go.Proofs.Ytdekdblebflklaa
