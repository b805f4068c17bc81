
/- Contracts: the entries of bytes, one after the other (entry.each). -/

import Derived.Test.YtgjielobfakkmaaEntGet2

import Derived.Test.YtgjielobfakkmaaSeq2

import Derived.Test.YtgjielobfakkmaaVintGet3

namespace Go.Proofs.Ytgjielobfakkmaa

open Go.RowKit

attribute [local go_sem] Oper.semAt_some

/-! ### rows, inside a fence -/

theorem wpListIn_load_row {F : Fence} {n : Nat} {P : Program} {ops : Array Oper} {rest : List Oper} {o : Oper} {a : Act} {w : World} {Q : Exit → Act → World → Prop} (hgd : o.guard = none) (ty : TypeId) (x : Operand) (ho : o.op = .load ty x)
    (g : Nat) (hx : a.eval x = .pointer (some ⟨g, 0, none⟩)) (t : TypeId) (cs : Array Value) (fr : Nat × Nat) (d : TypeDesc) (hg : w.heap[g]? = some (.cells cs t fr))
    (hu : P.underlying ty = some d) (hd : (match d with | .struct _ | .array _ _ => true | _ => false) = true) (hi : (P.info? ty).map (·.size) = some cs.size)
    (h : wpListIn F n P ops Q rest (a.put o.dst (.agg cs)) w) : wpListIn F n P ops Q (o :: rest) a w :=
  wpListIn_plain hgd fun K hK => by
    unfold Oper.wpIn
    refine ⟨by simp [Oper.about, ho], ?_⟩
    rw [Oper.semAt_plain F _ _ (by rw [ho]; intro c h; cases h), ex_load_row ty x ho g hx t cs fr d hg hu hd hi]
    exact hK _ _ h
theorem wpListIn_store_row {F : Fence} {n : Nat} {P : Program} {ops : Array Oper} {rest : List Oper} {o : Oper} {a : Act} {w : World} {Q : Exit → Act → World → Prop} (hgd : o.guard = none) (ty : TypeId) (x y : Operand) (ho : o.op = .store ty x y)
    (g : Nat) (cells : Array Value) (hx : a.eval x = .pointer (some ⟨g, 0, none⟩)) (hy : a.eval y = .agg cells)
    (t : TypeId) (old : Array Value) (hg : w.heap[g]? = some (.cells old t (0, 0))) (hi : (P.info? ty).map (·.size) = some cells.size)
    (hold : old.size = cells.size) (h1 : cells.all (·.oneCell') = true)
    (h : wpListIn F n P ops Q rest (a.put o.dst undef) (w.setRow g cells)) : wpListIn F n P ops Q (o :: rest) a w :=
  wpListIn_plain hgd fun K hK => by
    unfold Oper.wpIn
    refine ⟨by simp [Oper.about, ho], ?_⟩
    rw [Oper.semAt_plain F _ _ (by rw [ho]; intro c h; cases h)]
    have hx2 : (execOp a.eval o).run P w = .ok .skip (w.setRow g cells) := by
      unfold execOp
      simp only [ho, hx, hy, Instr.storeAt, Instr.sureAddr, Sem.run_bind, Sem.run_pure, Result.andThen_ok, run_storeVar_row w g t ty old cells hg hi hold h1]
    rw [hx2]
    exact hK _ _ h

/-- The entries of bytes, with the error that ends them. -/
def Ent.items : Nat → List UInt8 → List (Ent × Nat)
  | 0, _ => []
  | f + 1, b => if b = [] then [] else if (Ent.get b).2.2 = 0 then ((Ent.get b).1, 0) :: Ent.items f (b.drop (Ent.get b).2.1) else [((Ent.get b).1, (Ent.get b).2.2)]
theorem Ent.items_nil (f : Nat) : Ent.items f [] = [] := by cases f <;> simp [Ent.items]
def encE (B : Nat) (W : World) (x : Ent × Nat) (vs : Array Value) : Prop := ∃ u : EnV, vs = #[.agg u.cells, .int .i64 (x.2 : Int)] ∧ u.x = x.1 ∧ u.At B W
def lenOf : Option Value → Nat
  | some (.slice _ n _) => n
  | _ => 0

set_option maxRecDepth 100000 in
set_option maxHeartbeats 2000000 in
theorem each_gives (k : Nat) (_hk : 1 ≤ k) (gb : Nat) (A : Option Addr) (bs : List UInt8) (cap : Nat) (w0 w : World) (hgb : w.heap[gb]? = some (.cells #[.slice A bs.length cap] 25 (0, 0))) (hA : RdB w0 A bs) (hb0 : Below w0.heap.size w0 w) (hg0 : w0.heap.size ≤ gb) (hl : bs.length ≤ 1000000) (hc : bs.length ≤ cap) :
    GivesSome Fence.wide k Try.prog 47 #[.pointer (some ⟨gb, 0, none⟩)] (encE w.heap.size) (KeepB gb w0.heap.size) (Ent.items bs.length bs) gb w := by
  intro l J Jx W hB hJ hJx hY h0
  have hgW : W.heap[gb]? = some (.cells #[.slice A bs.length cap] 25 (0, 0)) := (hB.block gb (lt_of_heap hgb)).trans hgb
  have hbW : Below w0.heap.size w0 W := hb0.trans (hB.mono hb0.size)
  have hJb : ∀ s X Y, J s X → Ext X Y → (X.heap[gb]?.map Obj.isCells) = some true → J s Y := fun s X Y h1 h2 h3 => hJ s X Y h1 (grown_ext h2 _) h3
  clear hgb hb0
  refine callsIn_of_wp Try.func47 rfl trivial ?_ rfl
  simp only [Try.ntmps47, List.size_toArray, List.length_cons, List.length_nil, Nat.reduceAdd, Nat.reduceSub, Array.replicate_succ, Array.replicate_zero, List.push_toArray, List.append_toArray, List.nil_append, List.cons_append]
  gi_wp2
  gi_loopw [3, 4, 5] (fun _ _ _ wr => ∃ (pre : List (Ent × Nat)) (f : Nat) (rest : List UInt8) (A' : Option Addr) (cap' : Nat), pre ++ Ent.items f rest = Ent.items bs.length bs ∧ rest.length ≤ f ∧ rest.length ≤ bs.length ∧ rest.length ≤ cap' ∧ RdB w0 A' rest ∧ J pre wr ∧ w.heap.size ≤ wr.heap.size ∧ wr.heap[gb]? = some (.cells #[.slice A' rest.length cap'] 25 (0, 0)) ∧ Below w0.heap.size w0 wr)
    (fun _ _ _ wr => lenOf (wr.cell? ⟨gb, 0, none⟩))
  case atStart => exact ⟨[], bs.length, bs, A, cap, rfl, Nat.le_refl _, Nat.le_refl _, hc, hA, h0, hB.size, hgW, hbW⟩
  case round =>
    obtain ⟨pre, f, rest, A', cap', hpre, hrf, hrb, hrc, hA', hJp, hsz, hg, hbw⟩ := hrel
    have hcg : (wr.heap[gb]?.map Obj.isCells) = some true := by rw [hg]; rfl
    by_cases hr : rest = []
    · subst hr
      rw [Ent.items_nil, List.append_nil] at hpre
      subst hpre
      have hcell : wr.cell? ⟨gb, 0, none⟩ = some (.slice A' 0 cap') := cell_of_row wr gb 0 _ _ _ hg
      gi_wp2
      go_end0
      exact ⟨⟨_, rfl⟩, .inl hJp⟩
    · obtain ⟨f, rfl⟩ : ∃ f', f = f' + 1 := ⟨f - 1, by have := List.length_pos_iff.2 hr; omega⟩
      have hcell : wr.cell? ⟨gb, 0, none⟩ = some (.slice A' rest.length cap') := cell_of_row wr gb 0 _ _ _ hg
      have hpos : 0 < (rest.length : Int) := by have := List.length_pos_iff.2 hr; omega
      obtain ⟨hle, her, hok⟩ := Ent.get_le rest
      have hgot := eget_any A' rest cap' wr (hA'.below hbw) (by omega) hrc
      have hit : Ent.items (f + 1) rest = if (Ent.get rest).2.2 = 0 then ((Ent.get rest).1, 0) :: Ent.items f (rest.drop (Ent.get rest).2.1) else [((Ent.get rest).1, (Ent.get rest).2.2)] := by rw [Ent.items, if_neg hr]
      rw [hit] at hpre
      obtain ⟨x, m, er, hx⟩ : ∃ x m er, Ent.get rest = (x, m, er) := ⟨_, _, _, rfl⟩
      rw [hx] at hle her hok hgot hpre
      simp only at hle her hok hgot hpre
      have Hgot := Lib.hid hgot
      have Hcell := Lib.hid hcell
      have Hg := Lib.hid hg
      have Hok := Lib.hid hok
      clear hit hx hr hgot hg hok
      gi_wp2_with fail
      refine ⟨trivial, (callsIn_wide.2 Hgot.out).mono ?_⟩
      rintro e w1 ⟨u, rfl, hux, hat, hb1⟩
      simp only [egot]
      have hE1 := Ext.tr hb1 (Ext.alloc w1 (.cells u.cells 28))
      have hJ1 := hJb _ _ _ hJp hE1 hcg
      have hcg1 : ((w1.alloc (.cells u.cells 28)).heap[gb]?.map Obj.isCells) = some true := by rw [hE1.block gb (lt_of_heap Hg.out)]; exact hcg
      have hg1 : (w1.alloc (.cells u.cells 28)).heap[gb]? = some (.cells #[.slice A' rest.length cap'] 25 (0, 0)) := (hE1.block gb (lt_of_heap Hg.out)).trans Hg.out
      have hpx : pre ++ [(x, er)] <+: Ent.items bs.length bs := by
        rw [← hpre]
        split
        · rename_i h; subst h; exact ⟨Ent.items f (rest.drop m), by simp⟩
        · exact List.prefix_refl _
      obtain ⟨fn, tmps, assign, body, hy, hR⟩ := hY pre (x, er) _ _ hJ1 hpx ⟨u, rfl, hux, (hat.ext (Ext.alloc w1 _)).mono hsz⟩
      have hbd := hbw.trans (hE1.mono hbw.size)
      clear hb1 hJ1 hcg1 Hgot hux hat hcell hcg hJp
      simp only at hy
      gi_wp2_with (first | (refine wpListIn_store_row rfl 28 (.tmp 3) (.tmp 12) rfl w1.heap.size u.cells rfl rfl 28 _ (heap_alloc_new w1 _) (einfo u) (by rfl) (eone u) ?_; rw [setRow_alloc]) | (refine wpListIn_load_row rfl 28 (.tmp 3) rfl w1.heap.size rfl 28 u.cells (0, 0) _ (heap_alloc_new w1 _) Try.underlying28 rfl (einfo u) ?_))
      refine hR.mono ?_
      rintro e W2 (⟨rfl, hJ2, hk2, hk3⟩ | ⟨rfl, hJx2⟩)
      · rcases her with rfl | rfl
        · obtain ⟨hm0, _⟩ := Hok.out rfl
          have hg2 : W2.heap[gb]? = some (.cells #[.slice A' rest.length cap'] 25 (0, 0)) := Eq.trans hk2 hg1
          have hcell2 : W2.cell? ⟨gb, 0, none⟩ = some (.slice A' rest.length cap') := cell_of_row W2 gb 0 _ _ _ hg2
          have hfr2 : W2.frozen? ⟨gb, 0, none⟩ = false := frozen_of_row W2 gb 0 _ _ hg2
          have hbd2 := hbd.trans hk3
          have Hg2 := Lib.hid hg2
          have Hsz2 : Hid (w.heap.size ≤ W2.heap.size) := by show _ ≤ _; have h1 := hE1.size; have h2 := hk3.size; omega
          have Hdl : Hid ((rest.drop m).length = rest.length - m) := List.length_drop
          rw [if_pos rfl] at hpre
          clear hg1 hy hR hg2 hk2 hk3 hE1
          by_cases hcm : cap' = m
          · have hrm : rest.length = m := by omega
            have hdr : rest.drop m = [] := List.drop_eq_nil_of_le (by omega)
            rw [hdr] at hpre
            subst hcm
            gi_wp2
            have hg3 := heap_setCell_same W2 gb 0 _ _ (.slice A' 0 0) Hg2.out
            go_roundw
            case rel => exact ⟨pre ++ [(x, 0)], f, [], A', 0, by rw [← hpre]; simp, by simp, by simp, by simp, RdB.nil_ _ _, hJ _ _ _ hJ2 (grown_setCell W2 ⟨gb, 0, none⟩ _) (by rw [Hg2.out]; rfl), by simp [World.setCell]; have := Hsz2.out; omega, hg3, hbd2.setCell hg0 _⟩
            case measure =>
              rw [cell_of_row _ gb 0 _ _ _ hg3, Hcell.out]
              simp [lenOf]
              omega
          · have hcut := hA'.tail hle (c := cap') hrc
            rw [if_neg hcm] at hcut
            gi_wp2
            have hg3 := heap_setCell_same W2 gb 0 _ _ (.slice (A'.map (·.add m)) (rest.length - m) (cap' - m)) Hg2.out
            go_roundw
            case rel => exact ⟨pre ++ [(x, 0)], f, rest.drop m, _, cap' - m, by rw [← hpre]; simp, by rw [Hdl.out]; omega, by rw [Hdl.out]; omega, by rw [Hdl.out]; omega, hcut, hJ _ _ _ hJ2 (grown_setCell W2 ⟨gb, 0, none⟩ _) (by rw [Hg2.out]; rfl), by simp [World.setCell]; have := Hsz2.out; omega, by rw [Hdl.out]; exact hg3, hbd2.setCell hg0 _⟩
            case measure =>
              rw [cell_of_row _ gb 0 _ _ _ hg3, Hcell.out]
              simp [lenOf]
              omega
        · rw [if_neg (by decide)] at hpre
          rw [hpre] at hJ2
          gi_wp2
          (try simp only [Exit.inBlock, Exit.then])
          refine bodyPost_ret (results_none rfl _ _ _) rfl ?_
          exact ⟨⟨_, rfl⟩, .inl hJ2⟩
      · gi_wp2
        (try simp only [Exit.inBlock, Exit.then])
        refine bodyPost_ret (results_none rfl _ _ _) rfl ?_
        exact ⟨⟨_, rfl⟩, .inr ⟨_, hpx, hJx2⟩⟩
theorem each_any (A : Option Addr) (n cap : Nat) (w : World) : Calls Try.prog 34 #[.slice A n cap] w fun e w' =>
    e = .returned (.func (.func 47) #[] #[.pointer (some ⟨w.heap.size, 0, none⟩)]) ∧ w.alloc (.cells #[.slice A n cap] 25) = w' := by
  go_enter Try.func34, Try.ntmps34
  go_wp2
  go_ret
  exact ⟨rfl, rfl⟩
end Go.Proofs.Ytgjielobfakkmaa
