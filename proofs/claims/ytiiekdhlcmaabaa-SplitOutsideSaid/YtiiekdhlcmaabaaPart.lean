
/- A part of a range in memory; contracts: what is in a range (entry.PartOf, scowref17.PartOf). -/

import Derived.Test.YtiiekdhlcmaabaaEntBetween

import Derived.Test.YtiiekdhlcmaabaaEntDigest

namespace Go.Proofs.Ytiiekdhlcmaabaa

open Go.RowKit

attribute [local go_sem] Oper.semAt_some

structure Pt where
  lo : List UInt8
  hi : List UInt8
  count : Int
  sum : List UInt8
structure PtV where
  la : Option Addr
  lc : Nat
  ha : Option Addr
  hc : Nat
  x : Pt
def PtV.cells (e : PtV) : Array Value := #[.slice e.la e.x.lo.length e.lc, .slice e.ha e.x.hi.length e.hc, .int .i64 e.x.count] ++ (bvs e.x.sum).toArray
def PtV.val (e : PtV) : Value := .agg e.cells
structure PtV.In (w : World) (e : PtV) : Prop where
  lr : RdB w e.la e.x.lo
  hr : RdB w e.ha e.x.hi
  lcap : e.x.lo.length ≤ e.lc
  hcap : e.x.hi.length ≤ e.hc
  sum : e.x.sum.length = 32
  clo : -9223372036854775808 ≤ e.x.count
  chi : e.x.count ≤ 9223372036854775807
theorem PtV.In.below {w w' : World} {e : PtV} (h : e.In w) (hb : Below w.heap.size w w') : e.In w' := ⟨h.lr.below hb, h.hr.below hb, h.lcap, h.hcap, h.sum, h.clo, h.chi⟩
theorem psize {e : PtV} (h : e.x.sum.length = 32) : e.cells.size = 35 := by simp [PtV.cells, bvs, h]
theorem pinfo {e : PtV} (h : e.x.sum.length = 32) : (Try.prog.info? 33).map (·.size) = some e.cells.size := by rw [psize h]; kernel_rfl
theorem pone (e : PtV) : e.cells.all (·.oneCell') = true := by
  rw [Array.all_eq_true_iff_forall_mem]
  intro v hv
  simp only [PtV.cells, Array.mem_append, List.mem_toArray, List.mem_cons, List.not_mem_nil, or_false] at hv
  rcases hv with (rfl | rfl | rfl) | hv
  · rfl
  · rfl
  · rfl
  · exact bvs_one _ v hv
def Ent.between (l : List Ent) (lo hi : List UInt8) : List Ent := l.filter fun e => inR e.key lo hi
theorem betV_map (l : List EnV) (lo hi : List UInt8) : (betV l lo hi).map EnV.x = Ent.between (l.map EnV.x) lo hi := by
  unfold betV Ent.between
  rw [List.filter_map]
  rfl
theorem Ent.total_filter (p : Ent → Bool) (l : List Ent) : Ent.total (l.filter p) ≤ Ent.total l := by
  induction l with
  | nil => exact Nat.le_refl _
  | cons e l ih =>
    have h := Ent.total_cons e l
    rw [List.filter_cons]
    split
    · rw [Ent.total_cons]; omega
    · omega
def Ent.partOf (l : List Ent) (lo hi : List UInt8) : Pt := ⟨lo, hi, ((Ent.between l lo hi).length : Int), Ent.digest (Ent.between l lo hi)⟩
/-- Entries of which something is asked. -/
def Fit (l : List EnV) : Prop := Ent.total (l.map EnV.x) + 20 * l.length ≤ 100000
theorem Fit.bet {l : List EnV} (h : Fit l) (lo hi : List UInt8) : Fit (betV l lo hi) := by
  unfold Fit at h ⊢
  have h1 := Ent.total_filter (fun e => inR e.key lo hi) (l.map EnV.x)
  have h2 := betV_len l lo hi
  rw [betV_map]
  unfold Ent.between
  omega
theorem Fit.total {l : List EnV} (h : Fit l) : Ent.total (l.map EnV.x) ≤ 1000000 := by unfold Fit at h; omega
theorem Fit.len {l : List EnV} (h : Fit l) : l.length ≤ 5000 := by unfold Fit at h; omega
theorem Fit.putAll {l : List EnV} (h : Fit l) : (Ent.putAll (l.map EnV.x)).length ≤ 100000 := by
  have := Ent.putAll_len (l.map EnV.x)
  unfold Fit at h
  rw [List.length_map] at this
  omega
theorem Own.rdE {w : World} {B : Nat} {t : TypeId} {A : Option Addr} {c : Nat} {l : List EnV} (h : Own w B t 2 A l.length c (ecs l)) (he : ∀ e ∈ l, e.In w) : RdE w A l := ⟨h.rd, he⟩

/-- What a struct is built of: an array's cells laid into it. -/
theorem fold_set (o : Nat) (l : List Value) : ∀ (k : Nat) (base : Array Value), (List.foldl (fun (cs : Array Value) (x : Value × Nat) => cs.setIfInBounds (o + x.2) x.1) base (l.zipIdx k)).size = base.size ∧
    ∀ i, i < base.size → (List.foldl (fun (cs : Array Value) (x : Value × Nat) => cs.setIfInBounds (o + x.2) x.1) base (l.zipIdx k))[i]? = if o + k ≤ i ∧ i < o + k + l.length then l[i - (o + k)]? else base[i]? := by
  induction l with
  | nil => intro k base; exact ⟨rfl, fun i _ => by rw [if_neg (by simp only [List.length_nil]; omega)]; rfl⟩
  | cons v l ih =>
    intro k base
    obtain ⟨h1, h2⟩ := ih (k + 1) (base.setIfInBounds (o + k) v)
    refine ⟨by rw [List.zipIdx_cons, List.foldl_cons, h1, Array.size_setIfInBounds], fun i hi => ?_⟩
    rw [List.zipIdx_cons, List.foldl_cons, h2 i (by rw [Array.size_setIfInBounds]; exact hi)]
    by_cases hk : i = o + k
    · subst hk
      rw [if_neg (by omega), if_pos ⟨by omega, by simp only [List.length_cons]; omega⟩, Nat.sub_self, Array.getElem?_setIfInBounds_self_of_lt hi]
      rfl
    · by_cases hin : o + (k + 1) ≤ i ∧ i < o + (k + 1) + l.length
      · rw [if_pos hin, if_pos ⟨by omega, by simp only [List.length_cons]; omega⟩, show i - (o + k) = (i - (o + (k + 1))) + 1 by omega]
        rfl
      · rw [if_neg hin, if_neg (by simp only [List.length_cons]; omega), Array.getElem?_setIfInBounds_ne (by omega)]
theorem fold35 (a b c : Value) (base : Array Value) (hb : base.size = 35) (h0 : base[0]? = some a) (h1 : base[1]? = some b) (h2 : base[2]? = some c) (z : List UInt8) (hz : z.length = 32) :
    List.foldl (fun (cs : Array Value) (x : Value × Nat) => cs.setIfInBounds (3 + x.2) x.1) base ((bvs z).zipIdx) = #[a, b, c] ++ (bvs z).toArray := by
  obtain ⟨k1, k2⟩ := fold_set 3 (bvs z) 0 base
  apply Array.ext_getElem?
  intro i
  by_cases hi : i < 35
  · rw [k2 i (by omega), bvs_len, hz]
    by_cases h3 : i < 3
    · rw [if_neg (by omega), Array.getElem?_append_left (by simpa using h3)]
      rcases (by omega : i = 0 ∨ i = 1 ∨ i = 2) with rfl | rfl | rfl
      · exact h0
      · exact h1
      · exact h2
    · rw [if_pos (by omega), Array.getElem?_append_right (by simp; omega)]
      simp
  · rw [Array.getElem?_eq_none (by omega), Array.getElem?_eq_none (by simp [bvs, hz]; omega)]

theorem wpList_build {P : Program} {w : World} {ops : Array Oper} {rest : List Oper} {o : Oper} {a : Act} {Q : Exit → Act → World → Prop} (hgd : Region.wanted o (yielded ops a.tmps) = true) (ty : TypeId) (ps : Array (Nat × Operand)) (ho : o.op = .build ty ps) (v : Value)
    (hr : (execOp a.eval o).run P w = .ok (.value v) w) (h : wpList P ops Q rest (a.put o.dst v) w) : wpList P ops Q (o :: rest) a w :=
  wpList_want hgd fun K hK => by
    unfold Oper.wp
    rw [hr, Oper.upon_value]
    exact hK _ _ h

set_option maxRecDepth 100000 in
set_option maxHeartbeats 1000000 in
theorem partOf_any (A : Option Addr) (l : List EnV) (cap : Nat) (L H : Option Addr) (lo hi : List UInt8) (cl ch : Nat) (w : World) (hl : RdE w A l) (hf : Fit l) (hL : RdB w L lo) (hH : RdB w H hi) (hcl : lo.length ≤ cl) (hch : hi.length ≤ ch) :
    Calls Try.prog 31 #[.slice A l.length cap, .slice L lo.length cl, .slice H hi.length ch] w fun e' w' => ∃ p : PtV, e' = .returned p.val ∧ p.x = Ent.partOf (l.map EnV.x) lo hi ∧ p.In w' ∧ Below w.heap.size w w' := by
  have hlen := hf.len
  go_enter Try.func31, Try.ntmps31
  go_wp2_with fail
  refine (between_any A l cap L H lo hi cl ch _ (hl.below (Ext.alloc w _)) (by omega) (hL.below (Ext.alloc w _)) (hH.below (Ext.alloc w _))).mono ?_
  rintro e w1 ⟨A1, c1, rfl, ho1, hb1⟩
  obtain ⟨C0, hC0, hsz⟩ : ∃ C0, w1.heap[w.heap.size]? = some (.cells C0 33 (0, 0)) ∧ C0.size = 35 := ⟨_, (hb1.block _ (by simp)).trans (heap_alloc_new w _), rfl⟩
  have hE1 : Ext w w1 := Ext.tr (Ext.alloc w _) hb1
  have hf1 := hf.bet lo hi
  have hr1 : RdE w1 A1 (betV l lo hi) := ho1.rdE fun e he => (hl.each e (betV_mem he)).below hE1
  obtain ⟨d, hd⟩ : ∃ d, d = betV l lo hi := ⟨_, rfl⟩
  have hdx : Hid (Ent.partOf (l.map EnV.x) lo hi = ⟨lo, hi, (d.length : Int), Ent.digest (d.map EnV.x)⟩) := by
    show _ = _
    unfold Ent.partOf
    rw [← betV_map, ← hd]
    simp
  rw [← hd] at hf1 hr1 ⊢
  have hdlen := hf1.len
  clear ho1 hb1 hd hf
  go_wp2_with fail
  refine (edigest_any A1 d c1 w1 hr1 (by omega) hf1.total hf1.putAll).mono ?_
  rintro e w2 ⟨rfl, hb2⟩
  have hz := Ent.digest_len (d.map EnV.x)
  obtain ⟨z, hz0⟩ : ∃ z, z = Ent.digest (d.map EnV.x) := ⟨_, rfl⟩
  rw [← hz0] at hz hdx ⊢
  have hg2 := (hb2.block _ (lt_of_heap hC0)).trans hC0
  have hE2 := Ext.tr hE1 hb2
  have hzz : (bvs z).toArray.size = 32 := by rw [List.size_toArray, bvs_len, hz]
  obtain ⟨p, hp⟩ : ∃ p : PtV, p = ⟨L, cl, H, ch, ⟨lo, hi, (d.length : Int), z⟩⟩ := ⟨_, rfl⟩
  have hps : p.x.sum.length = 32 := by rw [hp]; exact hz
  have hpc : p.cells = #[.slice L lo.length cl, .slice H hi.length ch, .int .i64 (d.length : Int)] ++ (bvs z).toArray := by rw [hp]; rfl
  have hpx : p.x = ⟨lo, hi, (d.length : Int), z⟩ := by rw [hp]
  have hpin : p.In (w2.setRow w.heap.size p.cells) := by
    have hin : ∀ cs, PtV.In (w2.setRow w.heap.size cs) ⟨L, cl, H, ch, ⟨lo, hi, (d.length : Int), z⟩⟩ := fun cs => by
      have hE := ext_rowD hE2 (Nat.le_refl _) cs
      exact ⟨hL.below hE, hH.below hE, hcl, hch, hz, by show -9223372036854775808 ≤ (d.length : Int); omega, by show (d.length : Int) ≤ 9223372036854775807; omega⟩
    have := hin p.cells
    rwa [← hp] at this
  have HPC := Lib.hid hpc
  have HPX := Lib.hid hpx
  clear hb2 hC0 hE1 hf1 hr1 hz0 hp hpc hpx hzz
  have hzb : (bvs z).length = 32 := by rw [bvs_len, hz]
  go_wp2_with (refine wpList_store_row rfl 33 (.tmp 6) (.tmp 18) rfl w.heap.size p.cells rfl (by show Value.agg _ = _; rw [HPC.out]; exact congrArg Value.agg (fold35 _ _ _ _ (by rfl) (by rfl) (by rfl) (by rfl) z hz)) 33 _ hg2 (pinfo hps) (by rw [hsz, psize hps]) (pone p) ?_)
  have hg4 := setRow_heap w2 w.heap.size _ p.cells _ _ hg2
  (try simp only [Exit.inBlock, Exit.then])
  refine bodyPost_ret (results_cell_row rfl _ _ w.heap.size 33 p.cells (0, 0) _ rfl hg4 Try.underlying33 rfl (pinfo hps)) rfl ?_
  exact ⟨p, rfl, by rw [HPX.out, hdx.out], hpin, ext_rowD hE2 (Nat.le_refl _) _⟩
end Go.Proofs.Ytiiekdhlcmaabaa
