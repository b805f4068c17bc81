
/- Contract: ops.Apply. -/

import Derived.Test.YtdekdblebflklaaOpBin

import Derived.Test.YtdekdblebflklaaOpBinO

import Derived.Test.YtdekdblebflklaaSlOpsE

import Derived.Test.YtdekdblebflklaaFlat

namespace Go.Proofs.Ytdekdblebflklaa

open Go.RowKit

attribute [local go_sem] Oper.semAt_some

theorem posK_map {α β : Type} (f : α → β) (key : α → List UInt8) (key' : β → List UInt8) (h : ∀ a, key' (f a) = key a) (k : List UInt8) (l : List α) : posK key' k (l.map f) = posK key k l := by
  unfold posK
  rw [List.findIdx_map]
  congr 1
  funext a
  simp [h]
theorem thereK_map {α β : Type} (f : α → β) (key : α → List UInt8) (key' : β → List UInt8) (h : ∀ a, key' (f a) = key a) (k : List UInt8) (l : List α) : thereK key' k (l.map f) = thereK key k l := by
  unfold thereK
  rw [posK_map f key key' h, List.getElem?_map, Option.map_map]
  congr 2
  funext a
  simp [h]
theorem UpK.map {α β : Type} {f : α → β} {key : α → List UInt8} {key' : β → List UInt8} (h : ∀ a, key' (f a) = key a) {l : List α} : UpK key' (l.map f) ↔ UpK key l := by
  unfold UpK
  rw [List.pairwise_map]
  simp [h]
theorem there_lt {α : Type} {key : α → List UInt8} {k : List UInt8} {l : List α} (h : thereK key k l = true) : posK key k l < l.length := by
  rcases Nat.lt_or_ge (posK key k l) l.length with h1 | h1
  · exact h1
  · unfold thereK at h; rw [List.getElem?_eq_none h1] at h; simp at h
theorem delK_is {α : Type} {key : α → List UInt8} {k : List UInt8} {l : List α} : delK key k l = if thereK key k l = true then l.take (posK key k l) ++ l.drop (posK key k l + 1) else l := by
  rw [delK_pos]; unfold thereK; simp only [beq_iff_eq]
theorem putK_is {α : Type} {key : α → List UInt8} {x : α} {l : List α} : putK key x l = l.take (posK key (key x) l) ++ x :: l.drop (if thereK key (key x) l = true then posK key (key x) l + 1 else posK key (key x) l) := by
  rw [putK_pos]; unfold thereK; simp only [beq_iff_eq]
/-- The lists in memory, one operation further. -/
def stepV (L : List EnV) (x : OpV) : List EnV := if x.x.del = true then delK EnV.key x.x.key L else putK EnV.key x.env L
theorem stepV_x (L : List EnV) (x : OpV) : (stepV L x).map EnV.x = Opn.step (L.map EnV.x) x.x := by
  unfold stepV Opn.step
  have h1 := fun k => posK_map EnV.x EnV.key Ent.key (fun _ => rfl) k L
  have h2 := fun k => thereK_map EnV.x EnV.key Ent.key (fun _ => rfl) k L
  split
  · rw [delK_is, delK_is, h1, h2]
    split <;> simp
  · rw [putK_is, putK_is]
    have e1 : Ent.key x.x.ent = x.x.key := rfl
    have e2 : EnV.key x.env = x.x.key := rfl
    rw [e1, e2, h1, h2]
    split <;> simp [OpV.env]
theorem stepV_up {L : List EnV} (h : UpK EnV.key L) (x : OpV) : UpK EnV.key (stepV L x) := by
  unfold stepV
  split
  · exact h.delK
  · exact h.putK
theorem stepV_in {L : List EnV} {w : World} (h : ∀ e ∈ L, e.In w) {x : OpV} (hx : x.In w) : ∀ e ∈ stepV L x, e.In w := by
  intro e he
  unfold stepV at he
  split at he
  · exact h e (mem_delK he)
  · rcases mem_putK he with rfl | he
    · exact hx.env
    · exact h e he
theorem stepV_len (L : List EnV) (x : OpV) : (stepV L x).length ≤ L.length + 1 := by
  unfold stepV
  split
  · rw [delK_is]
    split
    · simp only [List.length_append, List.length_take, List.length_drop]; omega
    · omega
  · rw [putK_is]
    have := posK_le (key := EnV.key) (EnV.key x.env) L
    simp only [List.length_append, List.length_take, List.length_cons, List.length_drop]
    split <;> omega
theorem apply_snoc (l : List Ent) (o : List Opn) (k : Nat) (h : k < o.length) : Opn.apply l (o.take (k + 1)) = Opn.step (Opn.apply l (o.take k)) o[k] := by
  unfold Opn.apply
  rw [List.take_succ_eq_append_getElem h, List.foldl_append]
  rfl
/-! ### the walk -/

def ApplyP (l : List EnV) (o : List OpV) (w : World) (e : Ending) (w' : World) : Prop :=
  ∃ A' L c', e = .returned (.slice A' (L : List EnV).length c') ∧ L.map EnV.x = Opn.apply (l.map EnV.x) (o.map OpV.x) ∧ UpK EnV.key L ∧ L.length ≤ l.length + o.length ∧ RdE w' A' L ∧ L.length ≤ c' ∧ (∀ e ∈ L, e.In w) ∧ Below w.heap.size w w'
set_option maxRecDepth 100000 in
set_option maxHeartbeats 400000 in
theorem apply_any (A : Option Addr) (l : List EnV) (c : Nat) (B : Option Addr) (o : List OpV) (d : Nat) (w : World) (hA : RdE w A l) (hB : RdO w B o) (hu : UpK EnV.key l) (hl : l.length ≤ 100000) (ho : o.length ≤ 100000) :
    Calls Try.prog 17 #[.slice A l.length c, .slice B o.length d] w (ApplyP l o w) := by
  have Hu := Lib.hid hu
  clear hu
  go_enter Try.func17, Try.ntmps17
  go_wp2_with (go_at_call 33; refine (cloneE_any A l.length c (ecs l) _ hA.rd (ecs_one_cell l) (by omega)).mono ?_; rintro e1 w1 ⟨A1, c1, rfl, ho1, hb1⟩)
  go_loopw [0, 14] (fun v j wr => ∃ (k : Nat) (L : List EnV) (A' : Option Addr) (c' : Nat), k ≤ o.length ∧ j = .int .i64 k ∧ v = .slice A' L.length c' ∧ Hid (L.map EnV.x = Opn.apply (l.map EnV.x) ((o.map OpV.x).take k)) ∧ Hid (UpK EnV.key L) ∧ L.length ≤ l.length + k ∧ Own wr w.heap.size 48 2 A' L.length c' (ecs L) ∧ (∀ e ∈ L, e.In w) ∧ Below w.heap.size w wr) (fun _ j _ => o.length - (intOf j).toNat)
  case atStart => exact ⟨0, l, A1, c1, by omega, rfl, rfl, rfl, Hu.out, by omega, ho1, hA.each, hb1⟩
  case round =>
    obtain ⟨k, L, A', c', hk, rfl, rfl, hLx, hup, hlen, hown, hin, hbel⟩ := hrel
    by_cases h : k < o.length
    · obtain ⟨ad, rfl, hcell, hxin⟩ := (hB.below hbel).at_ h
      obtain ⟨x, hxk⟩ : ∃ x, o[k] = x := ⟨_, rfl⟩
      have hxw : x.In w := by rw [← hxk]; exact hB.each _ (List.getElem_mem h)
      rw [hxk] at hcell hxin
      have Hxk := Lib.hid hxk
      have Hxw := Lib.hid hxw
      have Hcx := Lib.hid hcell
      obtain ⟨i, hi⟩ : ∃ i, i = posK EnV.key x.x.key L := ⟨_, rfl⟩
      have gx := heap_alloc_new wr (.cells x.cells 50)
      have hbx := Ext.alloc wr (.cells x.cells 50)
      have Hc0 := Lib.hid (show (wr.alloc (.cells x.cells 50)).cell? ⟨wr.heap.size, 0, none⟩ = some (.bool x.x.del) by rw [cell_of_row _ _ _ _ _ _ gx]; rfl)
      have Hc1 := Lib.hid (show (wr.alloc (.cells x.cells 50)).cell? ⟨wr.heap.size, 1, none⟩ = some (.slice x.ka x.x.key.length x.kc) by rw [cell_of_row _ _ _ _ _ _ gx]; rfl)
      have Hc2 := Lib.hid (show (wr.alloc (.cells x.cells 50)).cell? ⟨wr.heap.size, 2, none⟩ = some (.slice x.va x.x.val.length x.vc) by rw [cell_of_row _ _ _ _ _ _ gx]; rfl)
      have hRE : RdE wr A' L := ⟨hown.rd, fun e he => (hin e he).below hbel⟩
      have HB := bsearchE_any A' L c' x.ka x.x.key x.kc (wr.alloc (.cells x.cells 50)) (hRE.below hbx) (hxin.kr.below hbx) hup.out (by omega)
      rw [← hi] at HB
      have Hown := Lib.hid hown
      have Hown3 : ∀ w2, Below (wr.alloc (.cells x.cells 50)).heap.size (wr.alloc (.cells x.cells 50)) w2 → Own (w2.alloc (.cells x.env.cells 48)) w.heap.size 48 2 A' L.length c' (ecs L) := fun w2 hb2 => (hown.below hbx).below (ext_trans hb2 (Ext.alloc w2 _))
      have Hbel3 : ∀ w2, Below (wr.alloc (.cells x.cells 50)).heap.size (wr.alloc (.cells x.cells 50)) w2 → Below w.heap.size w (w2.alloc (.cells x.env.cells 48)) := fun w2 hb2 => ext_trans (ext_trans hbel hbx) (ext_trans hb2 (Ext.alloc w2 _))
      have Hins : ∀ w2, Below (wr.alloc (.cells x.cells 50)).heap.size (wr.alloc (.cells x.cells 50)) w2 → i ≤ L.length → Calls Try.prog 37 #[.slice A' L.length c', .int .i64 (i : Int), .slice (some ⟨w2.heap.size + 1, 0, none⟩) 1 1] ((w2.alloc (.cells x.env.cells 48)).alloc (.cells x.env.cells 48)) (InsE w.heap.size A' L.length c' (ecs L) x.env.cells.toList i ((w2.alloc (.cells x.env.cells 48)).alloc (.cells x.env.cells 48))) := fun w2 hb2 hil => insertE_any w.heap.size A' L.length c' (ecs L) x.env.cells.toList i (w2.heap.size + 1) _ ((Hown3 w2 hb2).below (Ext.alloc _ _)) (ecs_one_cell L) hil (by omega) (by have := (Hbel3 w2 hb2).size; rw [World.size_alloc]; omega) rfl (by have := eone x.env; rw [Array.all_eq_true_iff_forall_mem] at this; simpa using this) (by have := heap_alloc_new (w2.alloc (.cells x.env.cells 48)) (.cells x.env.cells 48); rwa [World.size_alloc] at this) (fun e => by have := ((Hown3 w2 hb2).row_lt _ e).2; rw [World.size_alloc] at this; omega)
      have hc1 := Hc1.out
      clear hcell hxin hxw hxk gx hRE hown
      obtain ⟨dl, hdel⟩ : ∃ dl, x.x.del = dl := ⟨_, rfl⟩
      obtain ⟨th, hth⟩ : ∃ th, thereK EnV.key x.x.key L = th := ⟨_, rfl⟩
      rw [hdel] at Hc0
      rw [hth] at HB
      have Hdel := Lib.hid hdel
      have Hth := Lib.hid hth
      have Hi := Lib.hid hi
      clear hdel hth hi
      go_wp2_with (first | (have hcx := Hcx.out; refine wpList_load_cells rfl 50 (.tmp 16) rfl _ rfl x.cells _ hcx Try.underlying50 rfl (oinfo _) ?_; clear hcx) | (refine wpList_store_row rfl 50 (.tmp 6) (.tmp 17) rfl wr.heap.size x.cells rfl rfl 50 _ (heap_alloc_new wr _) (oinfo _) (by rfl) (oone _) ?_; rw [setRow_alloc]) | (go_at_call 34; refine HB.mono ?_; rintro e2 w2 ⟨rfl, hb2⟩; have c1' := Ext.load hb2 Hc1.out; have c2' := Ext.load hb2 Hc2.out) | (refine wpList_store_row rfl 48 (.tmp 9) (.tmp 29) rfl w2.heap.size x.env.cells rfl rfl 48 _ (heap_alloc_new w2 _) (einfo _) (by rfl) (eone _) ?_; rw [setRow_alloc]; refine Hid.out ?_))
      have hE3 := Ext.alloc w2 (.cells x.env.cells 48)
      have c0' := Ext.load (ext_trans hb2 hE3) Hc0.out
      cases dl <;> cases th
      · have Hdel1 := Hdel.out
        have Hil := Lib.hid (show i ≤ L.length from by rw [Hi.out]; exact posK_le _ _)
        clear Hdel1
        refine Lib.hid ?_
        go_wp2_with (first | (refine wpList_load_rowG (by rfl) 48 (.tmp 9) rfl w2.heap.size rfl 48 x.env.cells (0, 0) _ (heap_alloc_new w2 _) Try.underlying48 rfl (einfo _) ?_) | (refine wpList_buildOne (by rfl) 22 (.tmp 32) rfl elemE x.env.cells rfl rfl (by omega) ?_) | (go_at_call 37; refine (Hins w2 hb2 Hil.out).mono ?_; rintro e3 w4 ⟨A4, c4, rfl, ho4, hg4, hr4⟩))
        go_roundw
        case rel =>
          have hst : stepV L x = L.take i ++ x.env :: L.drop i := by
            unfold stepV
            rw [if_neg (by rw [Hdel.out]; decide), putK_is]
            have e2 : EnV.key x.env = x.x.key := rfl
            rw [e2, if_neg (by rw [Hth.out]; decide), ← Hi.out]
          have hln : L.length + 1 = (stepV L x).length := by rw [hst, List.length_append, List.length_cons, List.length_take, List.length_drop]; omega
          have hec : (ecs L).take (i * 2) ++ (x.env.cells.toList ++ (ecs L).drop (i * 2)) = ecs (stepV L x) := by rw [hst, ecs_take, ecs_drop, ecs_app]; rfl
          rw [hec] at ho4
          refine ⟨k + 1, stepV L x, A4, c4, by omega, by go_num, by rw [hln], (show _ = _ from by rw [apply_snoc _ _ k (by simpa using h), ← hLx.out, List.getElem_map, Hxk.out, ← stepV_x]), stepV_up hup.out x, by have := stepV_len L x; omega, by rw [← hln]; exact ho4, stepV_in hin Hxw.out, below_app ((Hbel3 w2 hb2).trans ((Ext.alloc _ _).mono (Hbel3 w2 hb2).size)) ((Hown3 w2 hb2).below (Ext.alloc _ _)) hg4 (by have := (Hbel3 w2 hb2).size; rw [World.size_alloc]; omega)⟩
        case measure => simp [intOf]; omega
      · have Hdel1 := Hdel.out
        have Hil := Lib.hid (show i < L.length from by rw [Hi.out]; exact there_lt Hth.out)
        clear Hdel1
        obtain ⟨g0, off0, hA0⟩ : ∃ g off, A' = some ⟨g, off, none⟩ := by obtain ⟨g, off, p, r, h1, _⟩ := Hown.out.parts (by have := Hil.out; have := Hown.out.nc; omega); exact ⟨g, off, h1⟩
        subst hA0
        refine Lib.hid ?_
        go_wp2_with (first | (refine wpList_load_rowG (by rfl) 48 (.tmp 9) rfl w2.heap.size rfl 48 x.env.cells (0, 0) _ (heap_alloc_new w2 _) Try.underlying48 rfl (einfo _) ?_) | (obtain ⟨g, off, cur, cur', hA, hbg, hgc, hfit, hcur, hrow, hset⟩ := (Hown3 w2 hb2).setS Hil.out x.env.cells.toList rfl; cases hA; refine wpList_store_at (by rfl) 48 (.tmp 54) (.tmp 53) rfl ⟨g0, off0 + i * 2, none⟩ rfl g0 (off0 + i * 2) rfl (.agg x.env.cells) rfl x.env.cells rfl cur 48 hgc (einfo _) hfit (eone _) cur' hcur ?_))
        go_roundw
        case rel =>
          have hst : stepV L x = L.take i ++ x.env :: L.drop (i + 1) := by
            unfold stepV
            rw [if_neg (by rw [Hdel.out]; decide), putK_is]
            have e2 : EnV.key x.env = x.x.key := rfl
            rw [e2, if_pos Hth.out, ← Hi.out]
          have hln : L.length = (stepV L x).length := by have := Hil.out; rw [hst, List.length_append, List.length_cons, List.length_take, List.length_drop]; omega
          have hec : (ecs L).take (i * 2) ++ (x.env.cells.toList ++ (ecs L).drop ((i + 1) * 2)) = ecs (stepV L x) := by rw [hst, ecs_take, ecs_drop, ecs_app]; rfl
          have ho4 := hset _ (setRow_heap _ g0 _ cur' _ _ hgc)
          rw [hec] at ho4
          have hb4 := Hbel3 w2 hb2
          refine ⟨k + 1, stepV L x, some ⟨g0, off0, none⟩, c', by omega, by go_num, by rw [hln], (show _ = _ from by rw [apply_snoc _ _ k (by simpa using h), ← hLx.out, List.getElem_map, Hxk.out, ← stepV_x]), stepV_up hup.out x, by have := stepV_len L x; omega, by rw [← hln]; exact ho4, stepV_in hin Hxw.out, ⟨hb4.os, hb4.tape, hb4.output, by simpa using hb4.size, fun q hq => (setRow_other _ _ _ _ (by omega)).trans (hb4.block q hq)⟩⟩
        case measure => simp [intOf]; omega
      · have Hdel1 := Hdel.out
        have Hil := Lib.hid (show i ≤ L.length from by rw [Hi.out]; exact posK_le _ _)
        clear Hdel1
        refine Lib.hid ?_
        go_wp2_with (fail)
        go_roundw
        case rel =>
          have hst : stepV L x = L := by unfold stepV; rw [if_pos Hdel.out, delK_is, if_neg (by rw [Hth.out]; decide)]
          refine ⟨k + 1, L, A', c', by omega, by go_num, rfl, (show _ = _ from by rw [apply_snoc _ _ k (by simpa using h), ← hLx.out, List.getElem_map, Hxk.out, ← stepV_x, hst]), hup, by omega, Hown3 w2 hb2, hin, Hbel3 w2 hb2⟩
        case measure => simp [intOf]; omega
      · have Hdel1 := Hdel.out
        have Hil := Lib.hid (show i < L.length from by rw [Hi.out]; exact there_lt Hth.out)
        clear Hdel1
        have hil2 := Hil.out
        refine Lib.hid ?_
        go_wp2_with (first | (go_at_call 36; refine (deleteE_any w.heap.size A' L.length c' (ecs L) i _ (Hown3 w2 hb2) (ecs_one_cell L) Hil.out (by omega)).mono ?_; rintro e3 w4 ⟨rfl, ho4, hg4⟩))
        go_roundw
        case rel =>
          have hst : stepV L x = L.take i ++ L.drop (i + 1) := by unfold stepV; rw [if_pos Hdel.out, delK_is, if_pos Hth.out, ← Hi.out]
          have hln : L.length - 1 = (stepV L x).length := by have := Hil.out; rw [hst, List.length_append, List.length_take, List.length_drop]; omega
          have hec : (ecs L).take (i * 2) ++ (ecs L).drop ((i + 1) * 2) = ecs (stepV L x) := by rw [hst, ecs_take, ecs_drop, ecs_app]
          rw [hec] at ho4
          have ho5 := ho4
          rw [hln] at ho5
          have hb5 := below_app (Hbel3 w2 hb2) (Hown3 w2 hb2) hg4 (Hbel3 w2 hb2).size
          refine ⟨k + 1, stepV L x, A', c', by omega, by go_num, (by rw [hln]), (show _ = _ from by rw [apply_snoc _ _ k (by simpa using h), ← hLx.out, List.getElem_map, Hxk.out, ← stepV_x]), stepV_up hup.out x, by have := stepV_len L x; omega, ho5, stepV_in hin Hxw.out, hb5⟩
        case measure => simp [intOf]; omega
    · obtain rfl : k = o.length := by omega
      go_wp2
      go_ret
      refine ⟨A', L, c', rfl, by rw [hLx.out]; simp [List.take_of_length_le], hup.out, hlen, ⟨hown.rd, fun e he => (hin e he).below hbel⟩, hown.nc, hin, hbel⟩
end Go.Proofs.Ytdekdblebflklaa
