/- Texts of the proof, laid together: WrL. -/
import Derived.Test.YtjholekgdnhpkaaGreatDoorZ12
import Derived.Test.YtjholekgdnhpkaaGreatDoorZ1
import Derived.Test.YtjholekgdnhpkaaGreatDoorZ30
set_option linter.unusedVariables false
set_option linter.unusedSimpArgs false
set_option linter.unusedSectionVars false
namespace Go.Proofs.YtjholekgdnhpkaaGreatDoor
open Go.RowKit
attribute [local go_sem] Oper.semAt_some
theorem results_row_tmpM {P : Program} {fn : Func} {p u : Tmp} {ty : TypeId} (h : fn.results = #[.cell p ty, .tmp u]) (tmps : Array Value) (w : World) (g : Nat) (t : TypeId) (cs : Array Value) (fr : Nat × Nat) (d : TypeDesc)
  (hp : tmps.getD p undef = .pointer (some ⟨g, 0, none⟩)) (hg : w.heap[g]? = some (.cells cs t fr))
  (hu : P.underlying ty = some d) (hd : (match d with | .struct _ | .array _ _ => true | _ => false) = true) (hi : (P.info? ty).map (·.size) = some cs.size) :
  (results fn tmps).run P w = .ok (.tuple #[.agg cs, tmps.getD u undef]) w := by
 rw [results_cell_tmp h, hp]
 simp [asAddr, run_loadVar_row w g t ty cs fr d hg hu hd hi, Result.andThen]
theorem wpList_run {P : Program} {w : World} {ops : Array Oper} {rest : List Oper} {o : Oper} {a : Act} {Q : Exit → Act → World → Prop} (hgd : Region.wanted o (yielded ops a.tmps) = true) (v : Value) (w' : World)
  (hr : (execOp a.eval o).run P w = .ok (.value v) w') (h : wpList P ops Q rest (a.put o.dst v) w') : wpList P ops Q (o :: rest) a w :=
 wpList_want hgd fun K hK => by
  unfold Oper.wp
  rw [hr, Oper.upon_value]
  exact hK _ _ h
theorem ex_allocMsg {w : World} {o : Oper} {a : Act} (ho : o.op = .alloc MT) : (execOp a.eval o).run Tryz.prog w = .ok (.value (.pointer (some ⟨w.heap.size, 0, none⟩))) (w.alloc (.cells WmV.nul.cells MT (0, 0))) := by
 unfold execOp
 simp only [ho]
 kernel_rfl
theorem ex_buildMsg0 {w : World} {o : Oper} {a : Act} (ho : o.op = .build MT #[]) : (execOp a.eval o).run Tryz.prog w = .ok (.value (.agg WmV.nul.cells)) w := by
 unfold execOp
 simp only [ho]
 kernel_rfl
def WmV.only (k : Int) (s q : Nat) : WmV := { WmV.nul with kind := k, session := s, seq := q }
theorem ex_buildMsg3 {w : World} {o : Oper} {a : Act} (x y z : Operand) (ho : o.op = .build MT #[(0, x), (1, y), (2, z)]) (k : Int) (s q : Nat) (hx : a.eval x = .int .i64 k) (hy : a.eval y = .int .u32 (s : Int)) (hz : a.eval z = .int .u32 (q : Int)) :
  (execOp a.eval o).run Tryz.prog w = .ok (.value (.agg (WmV.only k s q).cells)) w := by
 unfold execOp
 simp only [ho]
 rw [show (Array.map (fun (y : Nat × Operand) => (y.1, a.eval y.2)) #[(0, x), (1, y), (2, z)]) = #[(0, Value.int .i64 k), (1, Value.int .u32 (s : Int)), (2, Value.int .u32 (q : Int))] by simp [hx, hy, hz]]
 kernel_rfl
theorem put1_whole {cur : Array Value} {cs : List Value} (h : cs.length = cur.size) : put1 cur 0 cs = cs.toArray := by
 unfold put1
 rw [List.take_zero, List.nil_append, List.drop_of_length_le (by rw [Array.length_toList]; omega), List.append_nil]
def trnW (S : Nat → Prop) : Wr := ⟨Trn S, Trn.refl S, Trn.tr⟩
theorem Trn.load {S : Nat → Prop} {w w' : World} (h : Trn S w w') {a : Addr} {v : Value} (hc : w.cell? a = some v) (hn : ¬ S a.block) : w'.cell? a = some v := by
 have h2 := h.block a.block (World.block_lt_of_cell? _ _ hc) hn
 unfold World.cell? at hc ⊢
 rw [h2]; exact hc
theorem rr_storeR {ρ : Wr} {E : List Nat} {P : Program} {ops : Array Oper} {md : Region.Mode} {Q : Exit → Act → World → Prop} (i : Nat) {oi : Oper} {fuel : Nat} {listed : Array Bool} {a : Act} {w : World} (hi0 : ops.toList[i]? = some oi)
  (hr : Region.ready md ops listed = [i]) (hw : Region.wanted oi (yielded ops a.tmps) = true)
  (h : ∃ w', (execOp a.eval oi).run P w = .ok .skip w' ∧ ρ.r w w' ∧ wpAnyQ ρ E P md ops Q fuel (listed.setIfInBounds i true) (a.put oi.dst undef) w') : wpAnyQ ρ E P md ops Q (fuel + 1) listed a w := by
 obtain ⟨w', hx, h1, h2⟩ := h
 refine rr_one i hi0 hr hw ?_
 unfold Oper.wp
 rw [hx, Oper.upon_skip]
 exact ⟨.inl h1, h2⟩
def Wm.nul : Wm := WmV.nul.x
def Wm.head (b : List UInt8) : Wm := { Wm.nul with kind := ((b.getD 0 0).toNat : Int), session := Vint.number ((b.drop 1).take 4), seq := Vint.number ((b.drop 5).take 4) }
def Wm.take (b : List UInt8) : Wm × Bool :=
 if b.length < 9 then (Wm.nul, false) else
  let r := (Wm.head b).read (b.drop 9)
  (r.1, (Wm.known (Wm.head b).kind && !r.2.2) && decide (r.2.1.length = 0))
def Took (A : Option Addr) (r : Wm × Bool) (w : World) (e : Ending) (w' : World) : Prop := ∃ M : WmV, e = .returned (.tuple #[M.val, .bool r.2]) ∧ M.x = r.1 ∧ (∀ (T : Nat → Prop) w2, (∀ i, T i → i < w.heap.size ∧ ∀ ad, A = some ad → ad.block ≠ i) → Trn T w' w2 → M.In w2) ∧ Ext w w'
set_option maxRecDepth 100000 in
set_option maxHeartbeats 2000000 in
theorem read_short (A : Option Addr) (b : List UInt8) (cap : Nat) (w : World) (hs : b.length < 9) :
  Calls Tryz.prog 24 #[.slice A b.length cap] w (Took A (WmV.nul.x, false) w) := by
 have hl : (b.length : Int) < 9 := by omega
 have hnc := WmV.size78 WmV.nul_ok
 go_enter Tryz.func24, Tryz.ntmps24
 go_wp2_with (first | (refine wpList_run rfl _ _ (ex_allocMsg rfl) ?_) | (refine wpList_run rfl _ _ (ex_buildMsg0 rfl) ?_) | (refine wpList_store_row rfl MT (.tmp 2) (.tmp 10) rfl w.heap.size WmV.nul.cells rfl rfl MT _ (heap_alloc_new w _) (WmV.info WmV.nul_ok) rfl (WmV.one _) ?_; rw [setRow_alloc]))
 (try simp only [Exit.inBlock, Exit.then])
 refine bodyPost_ret (results_row_tmpM rfl _ _ w.heap.size MT WmV.nul.cells (0, 0) _ rfl (heap_alloc_new w _) Tryz.underlying31 rfl (WmV.info WmV.nul_ok)) rfl ?_
 exact ⟨WmV.nul, rfl, rfl, fun _ _ _ _ => WmV.nul_in _, Ext.alloc _ _⟩
set_option maxRecDepth 100000 in
set_option maxHeartbeats 2000000 in
theorem read_long (ad : Addr) (b : List UInt8) (cap : Nat) (w : World) (hA : RdB w (some ad) b) (hl : b.length ≤ 1000000) (hcap : b.length ≤ cap) (hlong : 9 ≤ b.length) :
  Calls Tryz.prog 24 #[.slice (some ad) b.length cap] w (Took (some ad) (Wm.take b) w) := by
 have hl9 : ¬ (b.length : Int) < 9 := by omega
 obtain ⟨k, hk⟩ : ∃ k : Int, k = ((b.getD 0 0).toNat : Int) := ⟨_, rfl⟩
 obtain ⟨s, hs⟩ : ∃ s, s = Vint.number ((b.drop 1).take 4) := ⟨_, rfl⟩
 obtain ⟨q, hq⟩ : ∃ q, q = Vint.number ((b.drop 5).take 4) := ⟨_, rfl⟩
 have l1 : ((b.drop 1).take 4).length = 4 := by rw [List.length_take, List.length_drop]; omega
 have l2 : ((b.drop 5).take 4).length = 4 := by rw [List.length_take, List.length_drop]; omega
 have r1 : RdB w (some ⟨ad.block, ad.off + 1, none⟩) ((b.drop 1).take 4) := by
  have := (hA.tail (k := 1) (by omega) hcap).head (m := 4) (by rw [List.length_drop]; omega)
  rwa [if_neg (by omega)] at this
 have r2 : RdB w (some ⟨ad.block, ad.off + 5, none⟩) ((b.drop 5).take 4) := by
  have := (hA.tail (k := 5) (by omega) hcap).head (m := 4) (by rw [List.length_drop]; omega)
  rwa [if_neg (by omega)] at this
 have hslt : s < 4294967296 := by rw [hs]; exact number4W _ l1
 have hqlt : q < 4294967296 := by rw [hq]; exact number4W _ l2
 have hws : IntKind.u32.wrap (s : Int) = (s : Int) := by simp [IntKind.wrap, IntKind.bits, IntKind.signed]; omega
 have hwq : IntKind.u32.wrap (q : Int) = (q : Int) := by simp [IntKind.wrap, IntKind.bits, IntKind.signed]; omega
 have hn1 : ∀ W, Ext w W → ∀ c, Calls Tryz.prog 50 #[.slice (some ⟨ad.block, ad.off + 1, none⟩) 4 c] W (fun e w' => e = .returned (.int .u64 (s : Int)) ∧ W = w') := fun W hx c => by
  have := number_any _ _ c W (r1.below hx) (by omega)
  rw [l1, ← hs] at this
  exact this
 have hn2 : ∀ W, Ext w W → ∀ c, Calls Tryz.prog 50 #[.slice (some ⟨ad.block, ad.off + 5, none⟩) 4 c] W (fun e w' => e = .returned (.int .u64 (q : Int)) ∧ W = w') := fun W hx c => by
  have := number_any _ _ c W (r2.below hx) (by omega)
  rw [l2, ← hq] at this
  exact this
 have h00w : w.cell? ad = some (.int .u8 k) := by
  obtain ⟨ad', e, hc⟩ := hA.2 (by intro e; have := congrArg List.length e; rw [bvs_len] at this; exact absurd this (by simp only [List.length_nil]; omega))
  injection e with e
  subst e
  have h0 : b[0]? = some (b.getD 0 0) := by rw [List.getD_eq_getElem?_getD, List.getElem?_eq_getElem (by omega)]; rfl
  have := hc 0 (bv (b.getD 0 0)) (by unfold bvs; rw [List.getElem?_map, h0]; rfl)
  rw [hk]
  exact this
 have hk0 : 0 ≤ k := by omega
 have hk1 : k ≤ 255 := by have := (b.getD 0 0).toNat_lt; omega
 have hM0l : (WmV.only k s q).cl.length = 78 := by
  show (WmV.only k s q).cl.length = 78
  simp [WmV.cl, WmV.pre, WmV.suf, bvs_len, WmV.only, WmV.nul]
 have hb0 : 0 < b.length := by omega
 have hwk : IntKind.i64.wrap k = k := by simp [IntKind.wrap, IntKind.bits, IntKind.signed]; omega
 have hc5 : (5 : Int) ≤ (cap : Int) := by omega
 have hn1' : ¬ cap = 1 := by omega
 have hn5' : ¬ cap = 5 := by omega
 have hc9 : (9 : Int) ≤ (cap : Int) := by omega
 have hb9 : (9 : Int) ≤ (b.length : Int) := by omega
 have htk : Wm.take b = (((WmV.only k s q).x.read (b.drop 9)).1, (Wm.known k && !((WmV.only k s q).x.read (b.drop 9)).2.2) && decide (((WmV.only k s q).x.read (b.drop 9)).2.1.length = 0)) := by
  have hh : Wm.head b = (WmV.only k s q).x := by rw [hk, hs, hq]; rfl
  unfold Wm.take
  rw [if_neg (by omega), hh]
  rfl
 obtain ⟨r, hr⟩ : ∃ r, r = (WmV.only k s q).x.read (b.drop 9) := ⟨_, rfl⟩
 rw [← hr] at htk
 obtain ⟨TT, hTT⟩ : ∃ TT, TT = Wm.take b := ⟨_, rfl⟩
 rw [← hTT] at htk ⊢
 have HTT := Lib.hid htk
 have HRR := Lib.hid hr
 clear hTT hr
 have HN1 := Lib.hid (fun W (x : Ext (w.alloc (.cells WmV.nul.cells MT (0, 0))) W) => hn1 W ((Ext.alloc w _).tr x) (cap - 1))
 have HN2 := Lib.hid (fun W (x : Ext (w.alloc (.cells WmV.nul.cells MT (0, 0))) W) => hn2 W ((Ext.alloc w _).tr x) (cap - 5))
 clear hn1 hn2 r1 r2 l1 l2 htk hs hq hk
 have HAA := Lib.hid hA
 clear hA
 go_enter Tryz.func24, Tryz.ntmps24
 go_wp2_with (refine wpList_run rfl _ _ (ex_allocMsg rfl) ?_)
 have U1 := Ext.alloc w (.cells WmV.nul.cells MT (0, 0))
 have U2 := heap_alloc_new w (.cells WmV.nul.cells MT (0, 0))
 obtain ⟨W1, hW1⟩ : ∃ W1, W1 = w.alloc (.cells WmV.nul.cells MT (0, 0)) := ⟨_, rfl⟩
 rw [← hW1] at U1 U2 HN1 HN2 ⊢
 have h00 : W1.drew.cell? ad = some (.int .u8 k) := U1.load h00w
 clear h00w hW1
 refine rg_start (by kernel_rfl) ?_
 refine gD 0 rfl ?_
 simp only [sP]
 refine gD 1 rfl ?_
 simp only [sP]
 refine gS 2 rfl ⟨_, fun w' hx => by have hcx := hx.load h00; (go_simp <;> with_reducible rfl), ?_⟩
 simp only [sP]
 refine gS 3 rfl ⟨.int .i64 k, fun w' hx => by (go_simp <;> with_reducible rfl), ?_⟩
 simp only [sP]
 refine gD 4 rfl ?_
 simp only [sP]
 refine gS 5 rfl ⟨.slice (some ⟨ad.block, ad.off + 1, none⟩) 4 (cap - 1), fun w' hx => by (go_simp <;> with_reducible rfl), ?_⟩
 simp only [sP]
 refine gD 8 rfl ?_
 simp only [sP]
 refine gS 9 rfl ⟨.slice (some ⟨ad.block, ad.off + 5, none⟩) 4 (cap - 5), fun w' hx => by (go_simp <;> with_reducible rfl), ?_⟩
 simp only [sP]
 refine rg_par [(6, 17), (7, 18), (10, 21), (11, 22), (12, 23), (13, 4)] (fun i u W => (i = 6 → u = .int .u64 (s : Int)) ∧ (i = 7 → u = .int .u32 (s : Int)) ∧ (i = 10 → u = .int .u64 (q : Int)) ∧ (i = 11 → u = .int .u32 (q : Int)) ∧ (i = 12 → u = .agg (WmV.only k s q).cells) ∧ (i = 13 → ∃ g, u = .pointer (some ⟨g, 0, none⟩) ∧ W1.heap.size ≤ g ∧ W.heap[g]? = some (.cells WmV.nul.cells MT (0, 0)))) 6 (by kernel_rfl) ?_ ?_ ?_
 ·
  rintro i u W W' ⟨a6, a7, a10, a11, a12, a13⟩ hx
  exact ⟨a6, a7, a10, a11, a12, fun e => let ⟨g, x1, x2, x3⟩ := a13 e; ⟨g, x1, x2, (hx.block _ (lt_of_heap x3)).trans x3⟩⟩
 ·
  intro p hp oi ho f W hx hd
  simp only [List.mem_cons, List.not_mem_nil, or_false] at hp
  have hx1 : Ext W1 W := Ext.tr (Ext.drew W1) hx
  rcases hp with rfl | rfl | rfl | rfl | rfl | rfl
  all_goals
   simp only at ho
   have ho' := ho
   simp only [List.getElem?_toArray, List.getElem?_cons_succ, List.getElem?_cons_zero] at ho'
   injection ho' with ho'
   subst ho'
   clear ho
   refine ⟨by rfl, ?_⟩
   simp only [fillS, List.foldl_cons, List.foldl_nil, Act.put, sA, sB, sC]
  ·
   refine yld_call (by go_simp) (HN1.out W hx1) ?_
   rintro e w2 ⟨rfl, rfl⟩
   exact ⟨_, rfl, Ext.refl _, by simp⟩
  ·
   have d6 := (hd (6, 17) (by simp) (by kernel_rfl)).1 rfl
   simp only at d6
   exact yld_quiet ⟨.int .u32 (s : Int), by (simp only [d6]; go_simp <;> with_reducible rfl), by simp⟩
  ·
   refine yld_call (by go_simp) (HN2.out W hx1) ?_
   rintro e w2 ⟨rfl, rfl⟩
   exact ⟨_, rfl, Ext.refl _, by simp⟩
  ·
   have d10 := (hd (10, 21) (by simp) (by kernel_rfl)).2.2.1 rfl
   simp only at d10
   exact yld_quiet ⟨.int .u32 (q : Int), by (simp only [d10]; go_simp <;> with_reducible rfl), by simp⟩
  ·
   have d7 := (hd (7, 18) (by simp) (by kernel_rfl)).2.1 rfl
   have d11 := (hd (11, 22) (by simp) (by kernel_rfl)).2.2.2.1 rfl
   simp only at d7 d11
   exact yld_quiet ⟨.agg (WmV.only k s q).cells, ex_buildMsg3 (.tmp 14) (.tmp 18) (.tmp 22) rfl k s q rfl (by simp only [d7]; rfl) (by simp only [d11]; rfl), by simp⟩
  ·
   exact yld_make ⟨_, _, ex_allocMsg rfl, Ext.alloc _ _, by simp, by simp, by simp, by simp, by simp, fun _ => ⟨W.heap.size, rfl, hx1.size, heap_alloc_new W _⟩⟩
 intro f W hx hd
 have d6 := (hd (6, 17) (by simp)).1 rfl
 have d7 := (hd (7, 18) (by simp)).2.1 rfl
 have d10 := (hd (10, 21) (by simp)).2.2.1 rfl
 have d11 := (hd (11, 22) (by simp)).2.2.2.1 rfl
 have d12 := (hd (12, 23) (by simp)).2.2.2.2.1 rfl
 obtain ⟨bm, d13, hbge, hbr⟩ := (hd (13, 4) (by simp)).2.2.2.2.2 rfl
 simp only at d6 d7 d10 d11 d12 d13
 simp only [fillS, List.foldl_cons, List.foldl_nil, Act.put, sA, sB, sC, d6, d7, d10, d11, d12, d13]
 have hx1 : Ext W1 W := Ext.tr (Ext.drew W1) hx
 clear hd d6 d7 d10 d11 d12 d13
 refine rg_store 14 rfl (by kernel_rfl) (by kernel_rfl) (by rfl) ⟨W.setRow bm (WmV.only k s q).cells, ex_put1 MT (.tmp 4) (.tmp 23) rfl ⟨bm, 0, none⟩ rfl bm 0 rfl _ rfl (WmV.only k s q).cl rfl _ _ hbr (by rw [hM0l]; kernel_rfl) (by rw [hM0l, WmV.size78 WmV.nul_ok]; omega) (fun u hu => (Array.all_eq_true_iff_forall_mem.1 (WmV.one _)) u (by simpa [WmV.cells] using hu)) _ (put1_whole (by rw [hM0l, WmV.size78 WmV.nul_ok])), ?_⟩
 simp only [Act.put]
 refine rg_done (by kernel_rfl) ?_
 have hxw : Ext w W := U1.tr hx1
 have hbge' : w.heap.size < bm := by have := lt_of_heap U2; omega
 have hM2 := setRow_heap W bm _ (WmV.only k s q).cells _ _ hbr
 have hg2 := set_keeps (cs := (WmV.only k s q).cells) ((hx1.block _ (lt_of_heap U2)).trans U2) (by omega : w.heap.size ≠ bm)
 have hx2 : Ext w (W.setRow bm (WmV.only k s q).cells) := hxw.trans ((Trn.set (S := fun i => i = bm) W bm (WmV.only k s q).cells rfl).below hxw.size (fun i e => by omega))
 obtain ⟨W2, hW2⟩ : ∃ W2, W2 = W.setRow bm (WmV.only k s q).cells := ⟨_, rfl⟩
 rw [← hW2] at hM2 hg2 hx2 ⊢
 have hbl := lt_of_heap hM2
 clear hW2 hxw hbr hx hx1 h00 U1 U2 HN1 HN2 hbge
 obtain ⟨A9, hA9⟩ : ∃ A9, A9 = (if cap = 9 then some ad else (some ad : Option Addr).map (·.add (9 * 1))) := ⟨_, rfl⟩
 have HA9 := Lib.hid hA9
 have hl9' : (b.drop 9).length = b.length - 9 := List.length_drop
 obtain ⟨S, hS⟩ : ∃ S : Nat → Prop, S = fun i => ((i = W2.heap.size ∨ i = bm) ∨ i = w.heap.size) ∨ (i < w.heap.size ∧ ad.block ≠ i) := ⟨_, rfl⟩
 have hSS : ∀ i, S i → i ≤ W2.heap.size := by rw [hS]; rintro i (((e | e) | e) | e) <;> (have := hx2.size; omega)
 have hadl : ad.block < w.heap.size := by
  obtain ⟨ad', e, hc⟩ := HAA.out.2 (by intro e; have := congrArg List.length e; rw [bvs_len] at this; exact absurd this (by simp only [List.length_nil]; omega))
  injection e with e
  subst e
  have h0 : b[0]? = some (b.getD 0 0) := by rw [List.getD_eq_getElem?_getD, List.getElem?_eq_getElem (by omega)]; rfl
  have h9 := World.block_lt_of_cell? _ _ (hc 0 (bv (b.getD 0 0)) (by unfold bvs; rw [List.getElem?_map, h0]; rfl))
  exact h9
 have ht0 : Tx w S (some ad) cap b := ⟨HAA.out, hcap, fun _ ad' e hs => by
  injection e with e
  subst e
  rw [hS] at hs
  have := hx2.size
  rcases hs with ((e | e) | e) | e
  ·
   omega
  ·
   omega
  ·
   omega
  ·
   exact e.2 rfl⟩
 have ht9 := ht0.tail (k := 9) hlong
 rw [show (some ad : Option Addr).map (·.add 9) = (some ad : Option Addr).map (·.add (9 * 1)) from rfl, ← hA9] at ht9
 have hxc := Ext.alloc W2 (.cells #[.slice none 0 0, .slice A9 (b.length - 9) (cap - 9), .bool true, .bool false] CT)
 have hgc := heap_alloc_new W2 (.cells #[.slice none 0 0, .slice A9 (b.length - 9) (cap - 9), .bool true, .bool false] CT)
 have hRd : Rdr (W2.alloc (.cells #[.slice none 0 0, .slice A9 (b.length - 9) (cap - 9), .bool true, .bool false] CT)) S W2.heap.size (b.drop 9) false := ⟨A9, cap - 9, by rw [hl9']; exact hgc, ht9.ext (hx2.tr hxc), by rw [hS]; exact .inl (.inl (.inl rfl)), fun i hi => by have := hSS i hi; rw [World.size_alloc]; omega, by omega⟩
 have hok : (WmV.only k s q).Ok := { WmV.nul_ok with klo := by show _ ≤ k; omega, khi := by show k ≤ _; omega, session := hslt, seq := hqlt }
 have hMR : MsgR (W2.alloc (.cells #[.slice none 0 0, .slice A9 (b.length - 9) (cap - 9), .bool true, .bool false] CT)) S bm (WmV.only k s q) := ⟨(hxc.block _ hbl).trans hM2, hok, Tx.nil_ _ _ _ _, Tx.nil_ _ _ _ _, ⟨rfl, rfl, rfl⟩, ⟨rfl, rfl, rfl⟩, rfl, rfl⟩
 have hF := wfields_read S W2.heap.size bm (b.drop 9) (WmV.only k s q) _ hRd hMR (by omega) (by rw [hS]; exact .inl (.inl (.inr rfl)))
 rw [← HRR.out] at hF
 have HF := Lib.hid hF
 have hgr := (hxc.block _ (lt_of_heap hg2)).trans hg2
 have HGR := Lib.hid hgr
 have HX2 := Lib.hid (hx2.tr hxc)
 have HSS := Lib.hid hSS
 have HSg := Lib.hid hS
 have hw2 := hx2.size
 clear hF hMR hRd hgc hxc ht9 ht0 hA9 hg2 hx2 hM2 hgr hSS hS hwk hws hwq hM0l hk0 hk1 hslt hqlt
 go_wp2_with (first | (refine wpList_sliceL rfl (.tmp 24) (.const (.int .i64 9)) 23 rfl elemB (some ad) b.length cap rfl 9 rfl hlong A9 HA9.out (b.length - 9) (cap - 9) rfl rfl ?_) | (go_at_call 49; refine HF.out.mono ?_; rintro e4 w4 ⟨rfl, ht4, hR4, M4, hx4, hM4⟩; refine Hid.out ?_))
 obtain ⟨rx, rd, rb⟩ := r
 obtain ⟨A4, c4, hA4⟩ := hR4
 have hc1 : w4.drew.cell? ⟨W2.heap.size, 1, none⟩ = _ := hA4.cell1
 have hc3 : w4.drew.cell? ⟨W2.heap.size, 3, none⟩ = _ := hA4.cell3
 have hsz := HX2.out.size
 rw [World.size_alloc] at hsz
 have hgr4 : w4.heap[w.heap.size]? = _ := ht4.row HGR.out (fun e => e.elim (fun e => by omega) (fun e => by omega))
 have hm4 : w4.drew.heap[bm]? = _ := hM4.row
 have hM4l : M4.cl.length = 78 := WmV.cl_len (hM4.inn w4 (Trn.refl _ _)).ok
 have hS1 : S w.heap.size := by rw [HSg.out]; exact .inl (.inr rfl)
 have hS2 : ∀ i, (i < w.heap.size ∧ ∀ ad' : Addr, some ad = some ad' → ad'.block ≠ i) → S i := fun i hi => by rw [HSg.out]; exact .inr ⟨hi.1, hi.2 ad rfl⟩
 have hfin : ∀ W5, W5 = w4.drew.setRow w.heap.size M4.cells → W5.heap[w.heap.size]? = some (.cells M4.cells MT (0, 0)) ∧ (∀ (T : Nat → Prop) w2, (∀ i, T i → i < w.heap.size ∧ ∀ ad', some ad = some ad' → ad'.block ≠ i) → Trn T W5 w2 → M4.In w2) ∧ Ext w W5 := by
  rintro W5 rfl
  have t5 : Trn (fun i => i = w.heap.size) w4 (w4.drew.setRow w.heap.size M4.cells) := (Trn.ext (Ext.drew w4)).tr (Trn.set _ _ _ rfl)
  have tt : Trn (fun i => w.heap.size ≤ i) _ (w4.drew.setRow w.heap.size M4.cells) := (ht4.mono (T := fun i => w.heap.size ≤ i) (fun i e _ => e.elim (fun e => by omega) (fun e => by omega))).tr (t5.mono (fun i e _ => by omega))
  refine ⟨setRow_heap _ _ _ _ _ _ (show w4.drew.heap[w.heap.size]? = _ from hgr4), fun T w2 hT t => hM4.inn _ ((t5.mono (fun i e _ => e ▸ hS1)).tr (t.mono (fun i e _ => hS2 i (hT i e)))), HX2.out.trans (tt.below (by rw [World.size_alloc]; omega) (fun _ e => e))⟩
 simp only at hx4 hA4 hc1 hc3
 have HFIN := Lib.hid hfin
 have hdl := hA4.len
 have HTT2 := Lib.hid (show TT = (rx, (Wm.known k && !rb) && decide (rd.length = 0)) from HTT.out)
 have hMI := WmV.info (hM4.inn w4 (Trn.refl _ _)).ok
 have hlz : ((rd.length : Int) == 0) = decide (rd.length = 0) := by rw [Bool.eq_iff_iff]; simp
 have hgr5 : w4.drew.heap[w.heap.size]? = _ := hgr4
 clear hfin hA4 HTT HRR HF ht4 HGR HX2 HSS HSg hM4 HA9 hok
 refine Lib.hid ?_
 rw [show (WmV.only k s q).kind = k from rfl]
 obtain ⟨kn, hkn⟩ : ∃ kn, kn = Wm.known k := ⟨_, rfl⟩
 rw [← hkn] at HTT2 ⊢
 clear hkn
 cases kn with
 | false =>
  go_wp2_with fail
  refine rr_start (trnW (fun i => i = w.heap.size)) [1, 2, 3, 4, 5, 6, 7, 8, 9, 10, 11, 12, 13, 14, 15, 16, 18] (by kernel_rfl) ?_
  refine qS 0 rfl ⟨.agg M4.cells, fun w' hx => ex_load_row MT (.tmp 4) rfl bm rfl MT M4.cells (0, 0) _ (Trn.row hx hm4 (by omega)) Tryz.underlying31 rfl hMI, ?_⟩
  simp only [sP]
  refine qAD 1 rfl ?_
  simp only [sP]
  refine qAD 2 rfl ?_
  simp only [sP]
  refine qK 3 rfl ?_
  simp only [sP]
  refine qK 4 rfl ?_
  simp only [sP]
  refine qK 5 rfl ?_
  simp only [sP]
  refine qK 6 rfl ?_
  simp only [sP]
  refine qK 7 rfl ?_
  simp only [sP]
  refine qAD 8 rfl ?_
  simp only [sP]
  refine qAD 9 rfl ?_
  simp only [sP]
  refine qK 10 rfl ?_
  simp only [sP]
  refine qK 11 rfl ?_
  simp only [sP]
  refine qK 12 rfl ?_
  simp only [sP]
  refine qK 13 rfl ?_
  simp only [sP]
  refine qK 14 rfl ?_
  simp only [sP]
  refine qK 15 rfl ?_
  simp only [sP]
  refine qAD 16 rfl ?_
  simp only [sP]
  refine rr_storeR 17 rfl (by kernel_rfl) (by rfl) ⟨w4.drew.setRow w.heap.size M4.cells, ex_put1 MT (.tmp 2) (.tmp 30) rfl ⟨w.heap.size, 0, none⟩ rfl w.heap.size 0 rfl _ rfl M4.cl rfl _ _ hgr5 (by rw [hM4l]; kernel_rfl) (by rw [hM4l, WmV.size78 WmV.nul_ok]; omega) (fun u hu => (Array.all_eq_true_iff_forall_mem.1 (WmV.one _)) u (by simpa [WmV.cells] using hu)) _ (put1_whole (by rw [hM4l, WmV.size78 WmV.nul_ok])), Trn.set _ _ _ rfl, ?_⟩
  simp only [Act.put]
  refine qAD 18 rfl ?_
  simp only [sP]
  refine rr_done (by kernel_rfl) ?_
  obtain ⟨W5, hW5⟩ : ∃ W5, W5 = w4.drew.setRow w.heap.size M4.cells := ⟨_, rfl⟩
  obtain ⟨f1, f2, f3⟩ := HFIN.out W5 hW5
  rw [← hW5]
  clear hW5
  go_wp2_with fail
  (try simp only [Exit.inBlock, Exit.then])
  refine bodyPost_ret (results_row_tmpM rfl _ _ w.heap.size MT M4.cells (0, 0) _ rfl f1 Tryz.underlying31 rfl hMI) rfl ?_
  rw [HTT2.out]
  exact ⟨M4, rfl, hx4, f2, f3⟩
 | true =>
  cases rb with
  | true =>
   go_wp2_with fail
   refine rr_start (trnW (fun i => i = w.heap.size)) [1, 2, 3, 4, 5, 7, 8, 9, 10, 11, 12, 13, 14, 15, 16, 18] (by kernel_rfl) ?_
   refine qS 0 rfl ⟨.agg M4.cells, fun w' hx => ex_load_row MT (.tmp 4) rfl bm rfl MT M4.cells (0, 0) _ (Trn.row hx hm4 (by omega)) Tryz.underlying31 rfl hMI, ?_⟩
   simp only [sP]
   refine qAD 1 rfl ?_
   simp only [sP]
   refine qAD 2 rfl ?_
   simp only [sP]
   refine qAD 3 rfl ?_
   simp only [sP]
   refine qAD 4 rfl ?_
   simp only [sP]
   refine qAD 5 rfl ?_
   simp only [sP]
   refine qS 6 rfl ⟨_, fun w' hx => by have hcx := Trn.load hx hc3 (by show ¬ _ = _; simp only; omega); (go_simp <;> with_reducible rfl), ?_⟩
   simp only [sP]
   refine qAD 7 rfl ?_
   simp only [sP]
   refine qAD 8 rfl ?_
   simp only [sP]
   refine qAD 9 rfl ?_
   simp only [sP]
   refine qK 10 rfl ?_
   simp only [sP]
   refine qK 11 rfl ?_
   simp only [sP]
   refine qK 12 rfl ?_
   simp only [sP]
   refine qK 13 rfl ?_
   simp only [sP]
   refine qK 14 rfl ?_
   simp only [sP]
   refine qK 15 rfl ?_
   simp only [sP]
   refine qAD 16 rfl ?_
   simp only [sP]
   refine rr_storeR 17 rfl (by kernel_rfl) (by rfl) ⟨w4.drew.setRow w.heap.size M4.cells, ex_put1 MT (.tmp 2) (.tmp 30) rfl ⟨w.heap.size, 0, none⟩ rfl w.heap.size 0 rfl _ rfl M4.cl rfl _ _ hgr5 (by rw [hM4l]; kernel_rfl) (by rw [hM4l, WmV.size78 WmV.nul_ok]; omega) (fun u hu => (Array.all_eq_true_iff_forall_mem.1 (WmV.one _)) u (by simpa [WmV.cells] using hu)) _ (put1_whole (by rw [hM4l, WmV.size78 WmV.nul_ok])), Trn.set _ _ _ rfl, ?_⟩
   simp only [Act.put]
   refine qAD 18 rfl ?_
   simp only [sP]
   refine rr_done (by kernel_rfl) ?_
   obtain ⟨W5, hW5⟩ : ∃ W5, W5 = w4.drew.setRow w.heap.size M4.cells := ⟨_, rfl⟩
   obtain ⟨f1, f2, f3⟩ := HFIN.out W5 hW5
   rw [← hW5]
   clear hW5
   go_wp2_with fail
   (try simp only [Exit.inBlock, Exit.then])
   refine bodyPost_ret (results_row_tmpM rfl _ _ w.heap.size MT M4.cells (0, 0) _ rfl f1 Tryz.underlying31 rfl hMI) rfl ?_
   rw [HTT2.out]
   exact ⟨M4, rfl, hx4, f2, f3⟩
  | false =>
   go_wp2_with fail
   refine rr_start (trnW (fun i => i = w.heap.size)) [1, 2, 3, 4, 5, 7, 8, 9, 10, 11, 12, 14, 15, 16, 18] (by kernel_rfl) ?_
   refine qS 0 rfl ⟨.agg M4.cells, fun w' hx => ex_load_row MT (.tmp 4) rfl bm rfl MT M4.cells (0, 0) _ (Trn.row hx hm4 (by omega)) Tryz.underlying31 rfl hMI, ?_⟩
   simp only [sP]
   refine qAD 1 rfl ?_
   simp only [sP]
   refine qAD 2 rfl ?_
   simp only [sP]
   refine qAD 3 rfl ?_
   simp only [sP]
   refine qAD 4 rfl ?_
   simp only [sP]
   refine qAD 5 rfl ?_
   simp only [sP]
   refine qS 6 rfl ⟨_, fun w' hx => by have hcx := Trn.load hx hc3 (by show ¬ _ = _; simp only; omega); (go_simp <;> with_reducible rfl), ?_⟩
   simp only [sP]
   refine qAD 7 rfl ?_
   simp only [sP]
   refine qAD 8 rfl ?_
   simp only [sP]
   refine qAD 9 rfl ?_
   simp only [sP]
   refine qAD 10 rfl ?_
   simp only [sP]
   refine qAD 11 rfl ?_
   simp only [sP]
   refine qAD 12 rfl ?_
   simp only [sP]
   refine qS 13 rfl ⟨_, fun w' hx => by have hcx := Trn.load hx hc1 (by show ¬ _ = _; simp only; omega); (go_simp <;> with_reducible rfl), ?_⟩
   simp only [sP]
   refine qAD 14 rfl ?_
   simp only [sP]
   refine qAS 15 rfl ⟨.bool (decide (rd.length = 0)), fun w' => by rw [← hlz]; (go_simp <;> with_reducible rfl), ?_⟩
   simp only [sP]
   refine qAD 16 rfl ?_
   simp only [sP]
   refine rr_storeR 17 rfl (by kernel_rfl) (by rfl) ⟨w4.drew.setRow w.heap.size M4.cells, ex_put1 MT (.tmp 2) (.tmp 30) rfl ⟨w.heap.size, 0, none⟩ rfl w.heap.size 0 rfl _ rfl M4.cl rfl _ _ hgr5 (by rw [hM4l]; kernel_rfl) (by rw [hM4l, WmV.size78 WmV.nul_ok]; omega) (fun u hu => (Array.all_eq_true_iff_forall_mem.1 (WmV.one _)) u (by simpa [WmV.cells] using hu)) _ (put1_whole (by rw [hM4l, WmV.size78 WmV.nul_ok])), Trn.set _ _ _ rfl, ?_⟩
   simp only [Act.put]
   refine qAD 18 rfl ?_
   simp only [sP]
   refine rr_done (by kernel_rfl) ?_
   obtain ⟨W5, hW5⟩ : ∃ W5, W5 = w4.drew.setRow w.heap.size M4.cells := ⟨_, rfl⟩
   obtain ⟨f1, f2, f3⟩ := HFIN.out W5 hW5
   rw [← hW5]
   clear hW5
   go_wp2_with fail
   (try simp only [Exit.inBlock, Exit.then])
   refine bodyPost_ret (results_row_tmpM rfl _ _ w.heap.size MT M4.cells (0, 0) _ rfl f1 Tryz.underlying31 rfl hMI) rfl ?_
   rw [HTT2.out]
   exact ⟨M4, by simp [WmV.val], hx4, f2, f3⟩
theorem read_any (A : Option Addr) (b : List UInt8) (cap : Nat) (w : World) (hA : RdB w A b) (hl : b.length ≤ 1000000) (hcap : b.length ≤ cap) :
  Calls Tryz.prog 24 #[.slice A b.length cap] w (Took A (Wm.take b) w) := by
 by_cases hs : b.length < 9
 ·
  have e : Wm.take b = (Wm.nul, false) := by unfold Wm.take; rw [if_pos hs]
  rw [e]
  exact read_short A b cap w hs
 ·
  obtain ⟨ad, rfl, _⟩ := hA.2 (by intro e; have := congrArg List.length e; rw [bvs_len] at this; exact absurd this (by simp only [List.length_nil]; omega))
  exact read_long ad b cap w hA hl hcap (by omega)
end Go.Proofs.YtjholekgdnhpkaaGreatDoor
