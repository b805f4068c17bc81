
/- Contracts: scowref11.Map.Put, Delete. Printed by wip/tools/gen_opmapput20.py. -/

import Derived.Test.YtdekdblebflklaaOpMap

import Derived.Test.YtdekdblebflklaaReg3

import Derived.Test.YtdekdblebflklaaSlCut

namespace Go.Proofs.Ytdekdblebflklaa

open Go.RowKit

attribute [local go_sem] Oper.semAt_some

/-- What a map's change yields. -/
def MapTo (w : World) (g : Nat) (M : List Ent) (n : Nat) (w' : World) : Prop := ∃ (L : List EnV) (A : Option Addr) (c : Nat), L.map EnV.x = M ∧ MapAt w' g A c L ∧ L.length ≤ n ∧ w.grownBy w' (some g)
theorem MapAt.put_back {w W : World} {g : Nat} {A A2 : Option Addr} {c c2 B : Nat} {L L2 : List EnV} (h : MapAt w g A c L) (hx : Ext w W) (ho : Own W B 48 2 A2 L2.length c2 (ecs L2)) (hi : ∀ e ∈ L2, e.In W) :
    MapAt (W.setCell ⟨g, 0, none⟩ (.slice A2 L2.length c2)) g A2 c2 L2 ∧ w.grownBy (W.setCell ⟨g, 0, none⟩ (.slice A2 L2.length c2)) (some g) := by
  have hr := (h.ext hx).row
  have hg := grown_setCell W ⟨g, 0, none⟩ (.slice A2 L2.length c2)
  refine ⟨⟨?_, ?_, ho.nc⟩, grown_tr (grown_ext hx _) hg⟩
  · have := heap_setCell_same W g 0 _ _ (.slice A2 L2.length c2) hr
    simpa using this
  · exact RdE.turn ⟨ho.rd, hi⟩ hg hr
set_option maxRecDepth 100000 in
set_option maxHeartbeats 2000000 in
theorem ref_mput (g : Nat) (A : Option Addr) (c : Nat) (L : List EnV) (K : Option Addr) (key : List UInt8) (kc : Nat) (U : Option Addr) (val : List UInt8) (uc : Nat) (w : World) (hM : MapAt w g A c L) (hK : RdB w K key) (hU : RdB w U val) (hl : L.length ≤ 1000000)
    (hk : 1 ≤ key.length ∧ key.length ≤ 24) (hv : val.length ≤ 1000) :
    Calls Try.prog 31 #[.pointer (some ⟨g, 0, none⟩), .slice K key.length kc, .slice U val.length uc] w fun e w' => e = .returned (.int .i64 0) ∧ MapTo w g (putK Ent.key ⟨key, val⟩ (L.map EnV.x)) (L.length + 1) w' := by
  have HKEY := ref_key K key kc w (by omega)
  rw [show decide (1 ≤ key.length ∧ key.length ≤ 24) = true by simp; omega] at HKEY
  have HAT := ref_at g A c L K key kc w hM hK hl
  obtain ⟨i, hi⟩ : ∃ i, posK EnV.key key L = i := ⟨_, rfl⟩
  obtain ⟨th, hth⟩ : ∃ th, thereK EnV.key key L = th := ⟨_, rfl⟩
  rw [hi, hth] at HAT
  have hil : i ≤ L.length := by rw [← hi]; exact posK_le _ _
  have hil2 : th = true → i < L.length := fun h => by rw [← hi]; exact there_lt (hth.trans h)
  have Hi := Lib.hid hi
  have Hth := Lib.hid hth
  have hcap := hM.cap
  have hvn : ¬ (1000 : Int) < (val.length : Int) := by omega
  clear hi hth
  go_enter Try.func31, Try.ntmps31
  go_wp2_with (first | (go_at_call 28; refine HKEY.mono ?_; rintro e1 w1 ⟨rfl, rfl⟩) | (go_at_call 49; refine HAT.mono ?_; rintro e2 w2 ⟨rfl, hb2⟩; refine Hid.out ?_))
  have hM2 := hM.ext hb2
  have hK2 := hK.below hb2
  have hU2 := hU.below hb2
  have HM0 := Lib.hid hM
  clear hM hK hU HAT HKEY
  refine Lib.hid ?_
  go_wp2_with (first | (refine wpList_app rfl (.tmp 23) (.tmp 24) 33 rfl elemB w.heap.size _ 0 0 [] rfl K key.length kc (bvs key) rfl key.length (by omega) (bvs key) rfl (Own.none_ _ _ _ _ _) (hK2.below (Ext.alloc _ _)) (bvs_one _) (by omega) (by omega) (by rw [World.size_alloc]; exact Nat.le_succ_of_le hb2.size) ?_; intro A3 c3 w3 ho3 hg3 hr3; refine Hid.out ?_))
  have hb3 : Ext w2 w3 := Ext.tr (Ext.alloc _ _) (grown_none (by simpa [ownRow] using hg3))
  have hU3 := hU2.below hb3
  have hs3 : w.heap.size ≤ w3.heap.size := Nat.le_trans hb2.size hb3.size
  clear hg3 hr3
  refine Lib.hid ?_
  go_wp2_with (first | (refine wpList_app rfl (.tmp 26) (.tmp 27) 33 rfl elemB w.heap.size _ 0 0 [] rfl U val.length uc (bvs val) rfl val.length (by omega) (bvs val) rfl (Own.none_ _ _ _ _ _) (hU3.below (Ext.alloc _ _)) (bvs_one _) (by omega) (by omega) (by rw [World.size_alloc]; exact Nat.le_succ_of_le hs3) ?_; intro A4 c4 w4 ho4 hg4 hr4; refine Hid.out ?_))
  have hb4 : Ext w3 w4 := Ext.tr (Ext.alloc _ _) (grown_none (by simpa [ownRow] using hg4))
  obtain ⟨x, hx⟩ : ∃ x : EnV, x = ⟨A3, c3, A4, c4, ⟨key, val⟩⟩ := ⟨_, rfl⟩
  have hxin : x.In w4 := by rw [hx]; exact ⟨(ho3.below hb4).rd', ho4.rd', ho3.nc, ho4.nc⟩
  have hxc : (#[.slice A3 key.length c3, .slice A4 val.length c4] : Array Value) = x.cells := by rw [hx]; rfl
  have hxx : x.x = ⟨key, val⟩ := by rw [hx]
  have hE4 : Ext w2 w4 := Ext.tr hb3 hb4
  clear ho3 ho4 hg4 hr4 hb3 hb4 hs3 hU3 hK2 hU2 hx
  refine Lib.hid ?_
  go_wp2_with (first | (refine wpList_store_row rfl 48 (.tmp 9) (.tmp 29) rfl w4.heap.size x.cells rfl rfl 48 _ (heap_alloc_new w4 _) (einfo x) (by rfl) (eone x) ?_; rw [setRow_alloc]; refine Hid.out ?_))
  have hrowx := heap_alloc_new w4 (.cells x.cells 48)
  have hEx := Ext.alloc w4 (.cells x.cells 48)
  obtain ⟨W1, hW1⟩ : ∃ W1, W1 = w4.alloc (.cells x.cells 48) := ⟨_, rfl⟩
  rw [← hW1] at hrowx hEx ⊢
  have hE1 : Ext w2 W1 := Ext.tr hE4 hEx
  have hx1 := hxin.below hEx
  have HM1 := Lib.hid (hM2.ext hE1)
  have hMd : MapAt W1.drew g A c L := (hM2.ext hE1).ext (Ext.drew W1)
  have hxrd : W1.drew.heap[w4.heap.size]? = some (.cells x.cells 48 (0, 0)) := hrowx
  have hm := hMd.cell
  have hMh := Lib.hid hMd
  have Hx1 := Lib.hid hx1
  have HE1 := Lib.hid hE1
  have Hb2 := Lib.hid hb2
  have Hxx := Lib.hid hxx
  have hic : (i : Int) ≤ (c : Int) := by omega
  have ik : (0 : Int) ≤ (i : Int) := by omega
  clear hW1 hxc hxin hE4 hEx hrowx hMd hx1 hE1 hM2 hb2 hxx
  refine Lib.hid ?_
  go_wp2_with fail
  refine rg_start (by kernel_rfl) ?_
  refine rg_take 0 rfl (by kernel_rfl) (by kernel_rfl) (by kernel_rfl) (fun _ _ _ _ h => h) (by rfl) ⟨_, fun w' hx => by (go_simp <;> with_reducible rfl), ?_⟩
  simp only [Act.put, List.setIfInBounds_toArray, List.set_cons_zero, List.set_cons_succ]
  refine rg_take 1 rfl (by kernel_rfl) (by kernel_rfl) (by kernel_rfl) (fun _ _ _ _ h => h) (by rfl) ⟨_, fun w' hx => by (go_simp <;> with_reducible rfl), ?_⟩
  simp only [Act.put, List.setIfInBounds_toArray, List.set_cons_zero, List.set_cons_succ]
  refine rg_take 2 rfl (by kernel_rfl) (by kernel_rfl) (by kernel_rfl) (fun _ _ _ _ h => h) (by rfl) ⟨_, fun w' hx => by (go_simp <;> with_reducible rfl), ?_⟩   -- t32 := nilCheck t31
  simp only [Act.put, List.setIfInBounds_toArray, List.set_cons_zero, List.set_cons_succ]
  refine rg_take 3 rfl (by kernel_rfl) (by kernel_rfl) (by kernel_rfl) (fun _ _ _ _ h => h) (by rfl) ⟨_, fun w' hx => by (go_simp <;> with_reducible rfl), ?_⟩   -- t33 := fieldAddr 56 t32 0
  simp only [Act.put, List.setIfInBounds_toArray, List.set_cons_zero, List.set_cons_succ]
  refine rg_take 4 rfl (by kernel_rfl) (by kernel_rfl) (by kernel_rfl) (fun _ _ _ _ h => h) (by rfl) ⟨_, fun w' hx => by have hcx := hx.load hm; (go_simp <;> with_reducible rfl), ?_⟩
  simp only [Act.put, List.setIfInBounds_toArray, List.set_cons_zero, List.set_cons_succ]
  refine rg_take 5 rfl (by kernel_rfl) (by kernel_rfl) (by kernel_rfl) (fun _ _ _ _ h => h) (by rfl) ⟨_, fun w' hx => by (go_simp <;> with_reducible rfl), ?_⟩
  simp only [Act.put, List.setIfInBounds_toArray, List.set_cons_zero, List.set_cons_succ]
  refine rg_take 6 rfl (by kernel_rfl) (by kernel_rfl) (by kernel_rfl) (fun _ _ _ _ h => h) (by rfl) ⟨.slice A i c, fun w' hx => ex_sliceH (.tmp 34) (.tmp 35) 22 rfl elemE A L.length c rfl i rfl (by omega), ?_⟩
  simp only [Act.put, List.setIfInBounds_toArray, List.set_cons_zero, List.set_cons_succ]
  refine rg_take 8 rfl (by kernel_rfl) (by kernel_rfl) (by kernel_rfl) (fun _ _ _ _ h => h) (by rfl) ⟨.agg x.cells, fun w' hx => ex_load_row 48 (.tmp 9) rfl w4.heap.size rfl 48 x.cells (0, 0) _ ((hx.block _ (lt_of_heap hxrd)).trans hxrd) Try.underlying48 rfl (einfo x), ?_⟩
  simp only [Act.put, List.setIfInBounds_toArray, List.set_cons_zero, List.set_cons_succ]
  -- BRANCH: 7: t37 := append(t30, t36) | 9: t39 := buildSlice 22 1 [(0, t38)]
  refine rg_par2 7 37 (fun v W => ∃ A5 c5, v = .slice A5 i c5 ∧ Own W W1.heap.size 48 2 A5 i c5 (ecs (L.take i))) 9 39 (fun v W => ∃ g2, v = .slice (some ⟨g2, 0, none⟩) 1 1 ∧ RdE W (some ⟨g2, 0, none⟩) [x]) _ _ rfl rfl (by kernel_rfl) (fun _ _ _ ⟨A5, c5, h1, h2⟩ hx => ⟨A5, c5, h1, h2.below hx⟩) (fun _ _ _ ⟨g2, h1, h2⟩ hx => ⟨g2, h1, h2.below hx⟩) (fun _ _ => by rfl) (fun _ _ => by rfl) ?_ ?_ ?_
  · intro v u W hxW
    have hrd : Rd W 2 A i (ecs (L.take i)) := by
      have h := (hMh.out.rd.rd.headS hil).below hxW
      rwa [ecs_take] at h
    exact yld_app0 (.tmp 30) (.tmp 36) 22 rfl elemE none rfl A i c (ecs (L.take i)) rfl hrd (ecs_one_cell _) (by omega) (by omega) (fun A' c' w' x1 x2 => ⟨A', c', rfl, x1.mono hxW.size⟩)
  · intro v u W hxW
    exact yld_make ⟨_, _, ex_buildOne 22 (.tmp 38) rfl elemE x.cells rfl rfl (by decide), Ext.alloc _ _, W.heap.size, rfl, RdE.one W 48 x ((Hx1.out.below (Ext.drew W1)).below hxW)⟩
  intro v u W hxW ⟨A5, c5, hv, ho5⟩ ⟨g2, hu, hr5⟩
  subst hv hu
  simp only [Act.put, List.setIfInBounds_toArray, List.set_cons_zero, List.set_cons_succ]
  have hsW : W1.heap.size ≤ W.heap.size := hxW.size
  refine rg_last 10 rfl (by kernel_rfl) (by kernel_rfl) (by rfl) fun K hK => wp_app (.tmp 37) (.tmp 39) 22 rfl elemE W1.heap.size A5 i c5 (ecs (L.take i)) rfl (some ⟨g2, 0, none⟩) 1 1 (ecs [x]) rfl (i + 1) rfl (ecs (L.take i ++ [x])) (ecs_app _ _) ho5 hr5.rd (ecs_one_cell _) (by omega) (by omega) hsW fun A6 c6 w6 ho6 hg6 hr6 => hK _ _ ?_
  simp only [Act.put, List.setIfInBounds_toArray, List.set_cons_zero, List.set_cons_succ]
  refine rg_take 11 rfl (by kernel_rfl) (by kernel_rfl) (by kernel_rfl) (fun _ _ _ _ h => h) (by rfl) ⟨_, fun w' hx => by (go_simp <;> with_reducible rfl), ?_⟩
  simp only [Act.put, List.setIfInBounds_toArray, List.set_cons_zero, List.set_cons_succ]
  refine rg_done (by kernel_rfl) ?_
  have hE6 : Ext W1 w6 := below_app (Ext.tr (Ext.drew W1) hxW) ho5 hg6 hsW
  have hE6w : Ext w w6 := Ext.tr Hb2.out (Ext.tr HE1.out hE6)
  have hlen : (L.take i ++ [x]).length = i + 1 := by simp; omega
  have hM6 : MapAt w6 g A c L := HM1.out.ext hE6
  have hm6 := hM6.cell
  have hx6 := Hx1.out.below hE6
  have HM6 := Lib.hid hM6
  have Hlen := Lib.hid hlen
  clear hM6 hlen hxrd hm hr5 hr6 ho5 hg6
  cases th
  · have hjl : i ≤ L.length := hil
    obtain ⟨A7, hA7⟩ : ∃ A7, A7 = (if c = i then A else A.map (·.add (i * 2))) := ⟨_, rfl⟩
    obtain ⟨m7, hm7⟩ : ∃ m7, m7 = L.length - i := ⟨_, rfl⟩
    obtain ⟨L2, hL2⟩ : ∃ L2, L2 = L.take i ++ [x] ++ L.drop i := ⟨_, rfl⟩
    have hl2 : L2.length = i + 1 + m7 := by rw [hL2, List.length_append, Hlen.out, List.length_drop, hm7]
    have hrd7 : Rd w6 2 A7 m7 (ecs (L.drop i)) := by
      have h := (HM6.out.rd.tail hjl hcap).rd
      rw [← hA7, List.length_drop, ← hm7] at h
      exact h
    have hec : ecs L2 = ecs (L.take i ++ [x]) ++ ecs (L.drop i) := by rw [hL2, ecs_app]
    have hsz6 : W1.heap.size ≤ w6.heap.size := hE6.size
    have HA7 := Lib.hid hA7
    have Hm7 := Lib.hid hm7
    have HL2 := Lib.hid hL2
    have Hl2 := Lib.hid hl2
    have Hrd7 := Lib.hid hrd7
    have Hec := Lib.hid hec
    have Hfin : ∀ (A8 : Option Addr) (c8 : Nat) (w8 : World), Own w8 W1.heap.size 48 2 A8 (i + 1 + m7) c8 (ecs L2) → w6.grownBy w8 (ownRow A6 c6) → Ext w w8 ∧ w8.cell? ⟨g, 0, none⟩ = some (.slice A L.length c) ∧ w8.frozen? ⟨g, 0, none⟩ = false ∧ MapTo w g (putK Ent.key ⟨key, val⟩ (L.map EnV.x)) (L.length + 1) (w8.setCell ⟨g, 0, none⟩ (.slice A8 (i + 1 + m7) c8)) := by
      intro A8 c8 w8 ho8 hg8
      have hE8 : Ext W1 w8 := below_app hE6 ho6 hg8 hsz6
      have hEw : Ext w w8 := Ext.tr Hb2.out (Ext.tr HE1.out hE8)
      have hM8 : MapAt w8 g A c L := HM1.out.ext hE8
      refine ⟨hEw, hM8.cell, hM8.frozen, L2, A8, c8, ?_, ?_⟩
      · rw [HL2.out, putK_is]
        have e1 := posK_map EnV.x EnV.key Ent.key (fun _ => rfl) key L
        have e2 := thereK_map EnV.x EnV.key Ent.key (fun _ => rfl) key L
        have e3 : Ent.key ⟨key, val⟩ = key := rfl
        rw [e3, e1, e2, Hi.out, Hth.out]
        simp [Hxx.out]
      · rw [← Hl2.out] at ho8 ⊢
        obtain ⟨q1, q2⟩ := HM0.out.put_back hEw ho8 (fun e he => by
          rw [HL2.out] at he
          simp only [List.mem_append, List.mem_cons, List.not_mem_nil, or_false] at he
          rcases he with (he | rfl) | he
          · exact hM8.rd.each e (List.mem_of_mem_take he)
          · exact Hx1.out.below hE8
          · exact hM8.rd.each e (List.mem_of_mem_drop he))
        exact ⟨q1, by rw [Hl2.out]; have := Hm7.out; omega, q2⟩
    clear hA7 hm7 hL2 hl2 hrd7 hec
    have b6 : L.length ≤ 1000000 := hl
    go_wp2_with (first | (refine wpList_sliceL rfl (.tmp 49) (.tmp 50) 22 rfl elemE A L.length c rfl i rfl (by omega) A7 HA7.out m7 (c - i) Hm7.out rfl ?_; at_builtin; refine wpList_app rfl (.tmp 45) (.tmp 51) 22 rfl elemE W1.heap.size A6 (i + 1) c6 (ecs (L.take i ++ [x])) rfl A7 m7 _ (ecs (L.drop i)) rfl (i + 1 + m7) rfl (ecs L2) Hec.out ho6 Hrd7.out (ecs_one_cell _) (by have := Hm7.out; omega) (by have := Hm7.out; omega) hsz6 ?_; intro A8 c8 w8 ho8 hg8 hr8; obtain ⟨q0, q1, q2, q3⟩ := Hfin A8 c8 w8 ho8 hg8; clear ho8 hg8 hr8))
    go_ret
    exact ⟨rfl, q3⟩
  · have hjl : i + 1 ≤ L.length := hil2 rfl
    obtain ⟨A7, hA7⟩ : ∃ A7, A7 = (if c = i + 1 then A else A.map (·.add ((i + 1) * 2))) := ⟨_, rfl⟩
    obtain ⟨m7, hm7⟩ : ∃ m7, m7 = L.length - (i + 1) := ⟨_, rfl⟩
    obtain ⟨L2, hL2⟩ : ∃ L2, L2 = L.take i ++ [x] ++ L.drop (i + 1) := ⟨_, rfl⟩
    have hl2 : L2.length = i + 1 + m7 := by rw [hL2, List.length_append, Hlen.out, List.length_drop, hm7]
    have hrd7 : Rd w6 2 A7 m7 (ecs (L.drop (i + 1))) := by
      have h := (HM6.out.rd.tail hjl hcap).rd
      rw [← hA7, List.length_drop, ← hm7] at h
      exact h
    have hec : ecs L2 = ecs (L.take i ++ [x]) ++ ecs (L.drop (i + 1)) := by rw [hL2, ecs_app]
    have hsz6 : W1.heap.size ≤ w6.heap.size := hE6.size
    have HA7 := Lib.hid hA7
    have Hm7 := Lib.hid hm7
    have HL2 := Lib.hid hL2
    have Hl2 := Lib.hid hl2
    have Hrd7 := Lib.hid hrd7
    have Hec := Lib.hid hec
    have Hfin : ∀ (A8 : Option Addr) (c8 : Nat) (w8 : World), Own w8 W1.heap.size 48 2 A8 (i + 1 + m7) c8 (ecs L2) → w6.grownBy w8 (ownRow A6 c6) → Ext w w8 ∧ w8.cell? ⟨g, 0, none⟩ = some (.slice A L.length c) ∧ w8.frozen? ⟨g, 0, none⟩ = false ∧ MapTo w g (putK Ent.key ⟨key, val⟩ (L.map EnV.x)) (L.length + 1) (w8.setCell ⟨g, 0, none⟩ (.slice A8 (i + 1 + m7) c8)) := by
      intro A8 c8 w8 ho8 hg8
      have hE8 : Ext W1 w8 := below_app hE6 ho6 hg8 hsz6
      have hEw : Ext w w8 := Ext.tr Hb2.out (Ext.tr HE1.out hE8)
      have hM8 : MapAt w8 g A c L := HM1.out.ext hE8
      refine ⟨hEw, hM8.cell, hM8.frozen, L2, A8, c8, ?_, ?_⟩
      · rw [HL2.out, putK_is]
        have e1 := posK_map EnV.x EnV.key Ent.key (fun _ => rfl) key L
        have e2 := thereK_map EnV.x EnV.key Ent.key (fun _ => rfl) key L
        have e3 : Ent.key ⟨key, val⟩ = key := rfl
        rw [e3, e1, e2, Hi.out, Hth.out]
        simp [Hxx.out]
      · rw [← Hl2.out] at ho8 ⊢
        obtain ⟨q1, q2⟩ := HM0.out.put_back hEw ho8 (fun e he => by
          rw [HL2.out] at he
          simp only [List.mem_append, List.mem_cons, List.not_mem_nil, or_false] at he
          rcases he with (he | rfl) | he
          · exact hM8.rd.each e (List.mem_of_mem_take he)
          · exact Hx1.out.below hE8
          · exact hM8.rd.each e (List.mem_of_mem_drop he))
        exact ⟨q1, by rw [Hl2.out]; have := Hm7.out; omega, q2⟩
    clear hA7 hm7 hL2 hl2 hrd7 hec
    have b6 : L.length ≤ 1000000 := hl
    go_wp2_with (first | (refine wpList_sliceL rfl (.tmp 49) (.tmp 50) 22 rfl elemE A L.length c rfl (i + 1) rfl (by omega) A7 HA7.out m7 (c - (i + 1)) Hm7.out rfl ?_; at_builtin; refine wpList_app rfl (.tmp 45) (.tmp 51) 22 rfl elemE W1.heap.size A6 (i + 1) c6 (ecs (L.take i ++ [x])) rfl A7 m7 _ (ecs (L.drop (i + 1))) rfl (i + 1 + m7) rfl (ecs L2) Hec.out ho6 Hrd7.out (ecs_one_cell _) (by have := Hm7.out; omega) (by have := Hm7.out; omega) hsz6 ?_; intro A8 c8 w8 ho8 hg8 hr8; obtain ⟨q0, q1, q2, q3⟩ := Hfin A8 c8 w8 ho8 hg8; clear ho8 hg8 hr8))
    go_ret
    exact ⟨rfl, q3⟩
set_option maxRecDepth 100000 in
set_option maxHeartbeats 2000000 in
theorem ref_mdel (g : Nat) (A : Option Addr) (c : Nat) (L : List EnV) (K : Option Addr) (key : List UInt8) (kc : Nat) (w : World) (hM : MapAt w g A c L) (hK : RdB w K key) (hl : L.length ≤ 1000000)
    (hk : 1 ≤ key.length ∧ key.length ≤ 24) :
    Calls Try.prog 38 #[.pointer (some ⟨g, 0, none⟩), .slice K key.length kc] w fun e w' => ∃ b : Bool, e = .returned (.tuple #[.bool b, .int .i64 0]) ∧ MapTo w g (delK Ent.key key (L.map EnV.x)) L.length w' := by
  have HKEY := ref_key K key kc w (by omega)
  rw [show decide (1 ≤ key.length ∧ key.length ≤ 24) = true by simp; omega] at HKEY
  have HAT := ref_at g A c L K key kc w hM hK hl
  obtain ⟨i, hi⟩ : ∃ i, posK EnV.key key L = i := ⟨_, rfl⟩
  obtain ⟨th, hth⟩ : ∃ th, thereK EnV.key key L = th := ⟨_, rfl⟩
  rw [hi, hth] at HAT
  have hil2 : th = true → i < L.length := fun h => by rw [← hi]; exact there_lt (hth.trans h)
  have Hi := Lib.hid hi
  have Hth := Lib.hid hth
  have hcap := hM.cap
  have HM0 := Lib.hid hM
  have e1 := posK_map EnV.x EnV.key Ent.key (fun _ => rfl) key L
  have e2 := thereK_map EnV.x EnV.key Ent.key (fun _ => rfl) key L
  have He1 := Lib.hid e1
  have He2 := Lib.hid e2
  clear hi hth hM hK e1 e2
  cases th
  · go_enter Try.func38, Try.ntmps38
    go_wp2_with (first | (go_at_call 28; refine HKEY.mono ?_; rintro e1 w1 ⟨rfl, rfl⟩) | (go_at_call 49; refine HAT.mono ?_; rintro e2 w2 ⟨rfl, hb2⟩))
    refine bodyPost_ret (results_tmp2 rfl _ _ _) rfl ?_
    refine ⟨false, rfl, L, A, c, ?_, HM0.out.ext hb2, Nat.le_refl _, grown_ext hb2 _⟩
    rw [delK_is, He2.out, Hth.out]
    rfl
  · have hil := hil2 rfl
    go_enter Try.func38, Try.ntmps38
    go_wp2_with (first | (go_at_call 28; refine HKEY.mono ?_; rintro e1 w1 ⟨rfl, rfl⟩) | (go_at_call 49; refine HAT.mono ?_; rintro e2 w2 ⟨rfl, hb2⟩; refine Hid.out ?_))
    have hM2 := HM0.out.ext hb2
    have hm2 := hM2.cell
    have hrd2 : Rd w2 2 A i (ecs (L.take i)) := by
      have h := hM2.rd.rd.headS (m := i) (by omega)
      rwa [ecs_take] at h
    have Hrd2 := Lib.hid hrd2
    have HM2 := Lib.hid hM2
    have hw2 : Hid (Ext w w2) := hb2
    clear hrd2 hM2 HKEY HAT hil2 hb2
    refine Lib.hid ?_
    go_wp2_with (first | (refine wpList_sliceH rfl (.tmp 24) (.tmp 25) 22 rfl elemE A L.length c rfl i rfl (by omega) ?_; at_builtin; refine wpList_app rfl (.tmp 20) (.tmp 26) 22 rfl elemE w2.heap.size none 0 0 [] rfl A i c (ecs (L.take i)) rfl i (by omega) (ecs (L.take i)) rfl (Own.none_ _ _ _ _ _) Hrd2.out (ecs_one_cell _) (by omega) (by omega) (Nat.le_refl _) ?_; intro A6 c6 w6 ho6 hg6 hr6; refine Hid.out ?_))
    have hE6 : Ext w2 w6 := grown_none (by simpa [ownRow] using hg6)
    have hM6 := HM2.out.ext hE6
    have hm6 := hM6.cell
    have HM6 := Lib.hid hM6
    clear hM6 hg6 hr6 hm2
    obtain ⟨A7, hA7⟩ : ∃ A7, A7 = (if c = i + 1 then A else A.map (·.add ((i + 1) * 2))) := ⟨_, rfl⟩
    obtain ⟨m7, hm7⟩ : ∃ m7, m7 = L.length - (i + 1) := ⟨_, rfl⟩
    obtain ⟨L2, hL2⟩ : ∃ L2, L2 = L.take i ++ L.drop (i + 1) := ⟨_, rfl⟩
    have hl2 : L2.length = i + m7 := by rw [hL2, List.length_append, List.length_take, List.length_drop, hm7]; omega
    have hrd7 : Rd w6 2 A7 m7 (ecs (L.drop (i + 1))) := by
      have h := (HM6.out.rd.tail (k := i + 1) (by omega) hcap).rd
      rw [← hA7, List.length_drop, ← hm7] at h
      exact h
    have hec : ecs L2 = ecs (L.take i) ++ ecs (L.drop (i + 1)) := by rw [hL2, ecs_app]
    have hsz6 : w2.heap.size ≤ w6.heap.size := hE6.size
    have HA7 := Lib.hid hA7
    have Hm7 := Lib.hid hm7
    have HL2 := Lib.hid hL2
    have Hl2 := Lib.hid hl2
    have Hrd7 := Lib.hid hrd7
    have Hec := Lib.hid hec
    have Hfin : ∀ (A8 : Option Addr) (c8 : Nat) (w8 : World), Own w8 w2.heap.size 48 2 A8 (i + m7) c8 (ecs L2) → w6.grownBy w8 (ownRow A6 c6) → w8.cell? ⟨g, 0, none⟩ = some (.slice A L.length c) ∧ w8.frozen? ⟨g, 0, none⟩ = false ∧ MapTo w g (delK Ent.key key (L.map EnV.x)) L.length (w8.setCell ⟨g, 0, none⟩ (.slice A8 (i + m7) c8)) := by
      intro A8 c8 w8 ho8 hg8
      have hE8 : Ext w2 w8 := below_app hE6 ho6 hg8 hsz6
      have hEw : Ext w w8 := Ext.tr hw2.out hE8
      have hM8 : MapAt w8 g A c L := HM2.out.ext hE8
      refine ⟨hM8.cell, hM8.frozen, L2, A8, c8, ?_, ?_⟩
      · rw [HL2.out, delK_is, He1.out, He2.out, Hi.out, Hth.out]
        simp
      · rw [← Hl2.out] at ho8 ⊢
        obtain ⟨q1, q2⟩ := HM0.out.put_back hEw ho8 (fun e he => by
          rw [HL2.out] at he
          rcases List.mem_append.1 he with he | he
          · exact hM8.rd.each e (List.mem_of_mem_take he)
          · exact hM8.rd.each e (List.mem_of_mem_drop he))
        exact ⟨q1, by rw [Hl2.out]; have := Hm7.out; omega, q2⟩
    have iw : IntKind.i64.wrap ((i : Int) + 1) = ((i + 1 : Nat) : Int) := by rw [IntKind.wrap_i64]; omega
    clear hA7 hm7 hL2 hl2 hrd7 hec
    refine Lib.hid ?_
    go_wp2_with (first | (refine wpList_sliceL rfl (.tmp 33) (.tmp 35) 22 rfl elemE A L.length c rfl (i + 1) rfl (by omega) A7 HA7.out m7 (c - (i + 1)) Hm7.out rfl ?_; at_builtin; refine wpList_app rfl (.tmp 29) (.tmp 36) 22 rfl elemE w2.heap.size A6 i c6 (ecs (L.take i)) rfl A7 m7 _ (ecs (L.drop (i + 1))) rfl (i + m7) rfl (ecs L2) Hec.out ho6 Hrd7.out (ecs_one_cell _) (by have := Hm7.out; omega) (by have := Hm7.out; omega) hsz6 ?_; intro A8 c8 w8 ho8 hg8 hr8; obtain ⟨q1, q2, q3⟩ := Hfin A8 c8 w8 ho8 hg8; clear ho8 hg8 hr8))
    refine bodyPost_ret (results_tmp2 rfl _ _ _) rfl ?_
    exact ⟨true, rfl, q3⟩
end Go.Proofs.Ytdekdblebflklaa
