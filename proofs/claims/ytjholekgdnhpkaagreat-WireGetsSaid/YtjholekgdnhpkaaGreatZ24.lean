/- Texts of the proof, laid together: WpC CrcRef CrcRef2. -/
import Derived.Test.YtjholekgdnhpkaaGreatZ13
import Derived.Test.YtjholekgdnhpkaaGreatZ18
import Derived.Test.YtjholekgdnhpkaaGreatZ2
import Derived.Test.YtjholekgdnhpkaaGreatZ1
import Derived.Test.YtjholekgdnhpkaaGreatProg
set_option linter.unusedVariables false
set_option linter.unusedSimpArgs false
set_option linter.unusedSectionVars false
namespace Go.Proofs.YtjholekgdnhpkaaGreat
open Go.RowKit
attribute [local go_sem] Oper.semAt_some
def belW (B : Nat) : Wr := ⟨Below B, Below.refl B, fun h k => h.trans k⟩
theorem bload {B : Nat} {w w' : World} (h : Below B w w') {a : Addr} {v : Value} (hc : w.cell? a = some v) (hb : a.block < B) : w'.cell? a = some v := by
 rw [h.cell hb]; exact hc
theorem Own.other {w : World} {B n c g : Nat} {A : Option Addr} {xs : List Value} {cs : Array Value} {t e : TypeId} {fr : Nat × Nat} (h : Own w B e 1 A n c xs) (hg : w.heap[g]? = some (.cells cs t fr)) (ht : t ≠ e) : ownRow A c ≠ some g := by
 intro e
 unfold ownRow at e
 split at e
 ·
  cases e
 ·
  next hc =>
  rcases h.mem with h0 | ⟨g', off, cur, rfl, _, hg', _⟩
  ·
   exact hc h0
  ·
   simp only [Option.map_some, Option.some.injEq] at e
   subst e
   rw [hg] at hg'
   injection hg' with h1
   injection h1 with _ h2 _
   exact ht h2
set_option maxRecDepth 100000 in
set_option maxHeartbeats 4000000 in
theorem rsum_any (B : Nat) (A : Option Addr) (d : List UInt8) (c : Nat) (s : List UInt8) (w : World) (hO : Own w B 5 1 A d.length c (bvs d)) (hs : s.length = 32) (hB : B ≤ w.heap.size) (hd : d.length ≤ 2000000) :
  Calls Tryz.prog 75 #[.slice A d.length c, .agg (bvs s).toArray] w fun e w' => ∃ A' c', e = .returned (.slice A' (d ++ s).length c') ∧ Own w' B 5 1 A' (d ++ s).length c' (bvs (d ++ s)) ∧ Below B w w' := by
 obtain ⟨W0, hW0⟩ : ∃ W0, W0 = w.alloc (.cells (bvs s).toArray 26) := ⟨_, rfl⟩
 have hx0 : Below B w W0 := by rw [hW0]; exact (Below.refl _ _).alloc hB _
 have g0 : W0.heap[w.heap.size]? = some (.cells (bvs s).toArray 26 (0, 0)) := by rw [hW0]; exact heap_alloc_new w _
 have hO0 : Own W0 B 5 1 A d.length c (bvs d) := by rw [hW0]; exact hO.below (Ext.alloc _ _)
 have HW0 := Lib.hid (show w.alloc (.cells (bvs s).toArray 26) = W0 from hW0.symm)
 have hgB : B ≤ w.heap.size := hB
 clear hW0 hO
 go_enter Tryz.func75, Tryz.ntmps75
 go_wp2_with fail
 rw [HW0.out]
 go_loopw [0, 5] (fun x i wr => ∃ (k : Nat) (A1 : Option Addr) (c1 : Nat), k ≤ 32 ∧ i = .int .i64 k ∧ x = .slice A1 (d ++ s.take k).length c1 ∧ Own wr B 5 1 A1 (d ++ s.take k).length c1 (bvs (d ++ s.take k)) ∧ Below B w wr ∧ Hid (wr.heap[w.heap.size]? = some (.cells (bvs s).toArray 26 (0, 0)))) (fun _ i _ => 32 - (intOf i).toNat)
 case atStart => exact ⟨0, A, c, by omega, rfl, by simp, by simpa using hO0, hx0, g0⟩
 case round =>
  obtain ⟨k, A1, c1, hk, rfl, rfl, ho, hb, hg⟩ := hrel
  by_cases h : k < 32
  ·
   have ik : (0 : Int) ≤ (k : Int) := by omega
   have ik2 : (k : Int) < 32 := by omega
   have hcell : wr.cell? ⟨w.heap.size, k, none⟩ = some (.int .u8 (s[k].toNat : Int)) := by
    rw [cell_of_row _ _ _ _ _ _ hg]
    simpa [bv] using bvs_get s k (by omega)
   have hne : ownRow A1 c1 ≠ some w.heap.size := ho.other hg (by decide)
   have hl : (d ++ s.take k).length = d.length + k := by rw [List.length_append, List.length_take]; omega
   have hl2 : d ++ s.take (k + 1) = (d ++ s.take k) ++ [s[k]] := by rw [List.take_add_one, List.getElem?_eq_getElem (by omega), ← List.append_assoc]; rfl
   have HL2 := Lib.hid hl2
   have Hl := Lib.hid hl
   obtain ⟨D, hD⟩ : ∃ D, D = d ++ s.take k := ⟨_, rfl⟩
   obtain ⟨x, hx⟩ : ∃ x, x = s[k] := ⟨_, rfl⟩
   rw [← hD] at ho HL2 Hl ⊢
   rw [← hx] at hcell HL2
   have hown := Lib.hid (fun o => ho.below (Ext.alloc wr o))
   have HG := Lib.hid hg.out
   have Hne := Lib.hid hne
   clear hl hl2 hD hx hg hne
   go_wp2_with (at_builtin; refine wpList_app rfl (.tmp 10) (.tmp 14) 22 rfl elemB B A1 D.length c1 (bvs D) rfl (some ⟨wr.heap.size, 0, none⟩) 1 1 [.int .u8 (x.toNat : Int)] rfl (D.length + 1) rfl (bvs (D ++ [x])) (by rw [bvs_app]; rfl) (hown.out _) (Rd.new wr 5 [.int .u8 (x.toNat : Int)]) (by simp; rfl) (by have := Hl.out; omega) (by have := Hl.out; omega) (by have := hb.size; simp; omega) ?_; intro A2 c2 W2 ho2 hg2 hr2)
   have hb2 := below_app (hb.alloc (by have := hb.size; omega) _) (hown.out _) hg2 (by have := hb.size; simp; omega)
   have hrow : W2.heap[w.heap.size]? = some (.cells (bvs s).toArray 26 (0, 0)) := (hg2.block _ (by have := lt_of_heap HG.out; simp; omega) Hne.out.symm).trans (((Ext.alloc wr _).block _ (lt_of_heap HG.out)).trans HG.out)
   go_roundw
   case rel => exact ⟨k + 1, A2, c2, by omega, by go_num, by rw [HL2.out, List.length_append]; rfl, by rw [HL2.out, List.length_append]; exact ho2, hb2, hrow⟩
   case measure => simp [intOf]; omega
  ·
   obtain rfl : k = 32 := by omega
   rw [List.take_of_length_le (by omega)] at ho ⊢
   go_wp2_with fail
   go_ret
   exact ⟨_, _, rfl, ho, hb⟩
theorem rr_appB {B : Nat} {E : List Nat} {P : Program} {ops : Array Oper} {md : Region.Mode} {Q : Exit → Act → World → Prop} (i : Nat) {oi : Oper} {fuel : Nat} {listed : Array Bool} {a : Act} {w : World} (hi0 : ops.toList[i]? = some oi)
  (hr : Region.ready md ops listed = [i]) (hw : Region.wanted oi (yielded ops a.tmps) = true) (s x : Operand) (t : TypeId) (ho : oi.op = .call { callee := .builtin .append, args := #[s, x], argTypes := #[t, t] })
  {e : TypeId} {size bytes : Nat} (T : ElemT P t e size bytes) (A : Option Addr) (n c : Nat) (xs : List Value) (hs : a.eval s = .slice A n c)
  (A2 : Option Addr) (m c2 : Nat) (ys : List Value) (hx : a.eval x = .slice A2 m c2) (k : Nat) (hk : k = n + m) (zs : List Value) (hz : zs = xs ++ ys)
  (hown : Own w B e size A n c xs) (hrd : Rd w size A2 m ys) (h1 : ∀ u ∈ ys, u.oneCell' = true)
  (hbytes : k * bytes ≤ 140737488355328) (h63 : k ≤ 140737488355328) (hbase : B ≤ w.heap.size)
  (h : ∀ A' c' w', Own w' B e size A' k c' zs → Below B w w' → wpAnyQ (belW B) E P md ops Q fuel (listed.setIfInBounds i true) (a.put oi.dst (.slice A' k c')) w') : wpAnyQ (belW B) E P md ops Q (fuel + 1) listed a w :=
 rr_one i hi0 hr hw (wp_app s x t ho T B A n c xs hs A2 m c2 ys hx k hk zs hz hown hrd h1 hbytes h63 hbase fun A' c' w' h2 h3 _ => ⟨.inl (below_app (Below.refl _ _) hown h3 hbase), h A' c' w' h2 (below_app (Below.refl _ _) hown h3 hbase)⟩)
set_option maxRecDepth 100000 in
set_option maxHeartbeats 8000000 in
theorem rsubs_any (A : Option Addr) (l : List WsV) (c : Nat) (w : World) (hl : RdW w A l) (hn : l.length ≤ 60) (hg : ∀ s ∈ l, s.x.Good) :
  Calls Tryz.prog 76 #[.slice A l.length c] w fun e w' => ∃ A' c', e = .returned (.slice A' (Ws.layL (l.map WsV.x)).length c') ∧ Own w' w.heap.size 5 1 A' (Ws.layL (l.map WsV.x)).length c' (bvs (Ws.layL (l.map WsV.x))) ∧ Below w.heap.size w w' := by
 have hlm : (l.map WsV.x).length = l.length := List.length_map _
 have hfit : ∀ s ∈ l.map WsV.x, s.Fits := fun s hs => by
  obtain ⟨v, hv, rfl⟩ := List.mem_map.1 hs
  have := hg v hv
  exact ⟨this.lo, this.hi, this.c0, this.c1, this.sum⟩
 obtain ⟨m, hm⟩ : ∃ m, m = l.map WsV.x := ⟨_, rfl⟩
 rw [← hm] at hlm hfit ⊢
 have hpl := (Vint.put_len l.length).2
 have hpc := ref_put01 l.length (by omega) w
 obtain ⟨H0, hH0⟩ : ∃ H, H = Vint.put l.length := ⟨_, rfl⟩
 have hLL : Ws.layL m = H0 ++ Ws.layA m := by rw [hH0, ← hlm]; rfl
 rw [← hH0] at hpc hpl
 rw [hLL]
 have hlen : ∀ k, k ≤ l.length → (H0 ++ Ws.layA (m.take k)).length ≤ 10000 := fun k hk => by
  have := Ws.layA_len (l := m.take k) (fun s hs => hfit s (List.mem_of_mem_take hs))
  rw [List.length_append]
  rw [List.length_take] at this
  omega
 have HLEN := Lib.hid hlen
 have HM := Lib.hid hm
 have HLM := Lib.hid hlm
 have HFIT := Lib.hid hfit
 have HL := Lib.hid hl
 have HGD := Lib.hid hg
 have HPC := Lib.hid hpc
 have hwrap : IntKind.u64.wrap (l.length : Int) = (l.length : Int) := by rw [IntKind.wrap_u64]; omega
 have HWR := Lib.hid hwrap
 clear hlen hm hlm hfit hl hg hpc hH0 hLL hpl
 go_enter Tryz.func76, Tryz.ntmps76
 go_wp2_with (go_at_call 74; refine HPC.out.mono ?_; rintro e1 w1 ⟨A0, c0, rfl, ho0, hx0⟩; refine Hid.out ?_)
 have X0 := Lib.hid hx0
 clear hx0 hwrap
 refine Lib.hid ?_
 go_wp2_with fail
 go_loopw [3, 4] (fun x i wr => ∃ (k : Nat) (A1 : Option Addr) (c1 : Nat), k ≤ l.length ∧ i = .int .i64 k ∧ x = .slice A1 (H0 ++ Ws.layA (m.take k)).length c1 ∧ Own wr w.heap.size 5 1 A1 (H0 ++ Ws.layA (m.take k)).length c1 (bvs (H0 ++ Ws.layA (m.take k))) ∧ Below w.heap.size w wr) (fun _ i _ => l.length - (intOf i).toNat)
 case atStart => exact ⟨0, A0, c0, by omega, rfl, by simp [Ws.layA], by simpa [Ws.layA] using ho0, X0.out⟩
 case round =>
  obtain ⟨k, A1, c1, hk, rfl, rfl, ho, hb⟩ := hrel
  by_cases h : k < l.length
  ·
   have hkm : k < m.length := by rw [HLM.out]; exact h
   have hmk : m[k] = l[k].x := by have := HM.out; subst this; simp
   have hsn := Ws.layA_snoc m k hkm
   have hgd := HGD.out _ (List.getElem_mem h)
   have hbn := HLEN.out k hk
   rw [hmk] at hsn
   obtain ⟨ad, rfl, hcs, hin⟩ := HL.out.at_ h
   have y0 : w.cell? (ad.add (k * 36)) = some (.slice l[k].p.la l[k].p.x.lo.length l[k].p.lc) := hcs 0 _ rfl
   have y1 : w.cell? ⟨(ad.add (k * 36)).block, (ad.add (k * 36)).off + 1, none⟩ = some (.slice l[k].p.ha l[k].p.x.hi.length l[k].p.hc) := hcs 1 _ rfl
   have y2 : w.cell? ⟨(ad.add (k * 36)).block, (ad.add (k * 36)).off + 2, none⟩ = some (.int .i64 l[k].p.x.count) := hcs 2 _ rfl
   have y3 : ∀ j u, ((bvs l[k].p.x.sum).toArray)[j]? = some u → w.cell? ((⟨(ad.add (k * 36)).block, (ad.add (k * 36)).off + 3, none⟩ : Addr).add j) = some u := fun j u hj => by
    have hj2 : j < 32 := by have := (Array.getElem?_eq_some_iff.1 hj).1; rw [List.size_toArray, bvs_len, hin.p.sum] at this; exact this
    have := hcs (3 + j) u (by
     show l[k].cl.toArray[3 + j]? = some u
     rw [List.getElem?_toArray]
     unfold WsV.cl
     rw [List.getElem?_append_right (by simp), List.getElem?_append_left (by simp [bvs_len, hin.p.sum]; omega)]
     simpa using hj)
    rw [← add_add'] at this
    exact this
   have y35 : w.cell? ⟨(ad.add (k * 36)).block, (ad.add (k * 36)).off + 35, none⟩ = some (.int .u64 (l[k].lsn : Int)) := hcs 35 _ (WsV.lsn_at hin.p.sum)
   have ik : (0 : Int) ≤ (k : Int) := by omega
   have ik2 : (k : Int) < (l.length : Int) := by omega
   obtain ⟨y, hy⟩ : ∃ y, y = l[k] := ⟨_, rfl⟩
   rw [← hy] at y0 y1 y2 y3 y35 hsn hgd hin
   obtain ⟨cn, hcn⟩ := Int.eq_ofNat_of_zero_le hgd.c0
   have hcn' : y.p.x.count = (cn : Int) := hcn
   have hcn2 : cn ≤ 2147483647 := by have := hgd.c1; rw [hcn] at this; omega
   rw [hcn'] at y2
   have hcw : IntKind.u64.wrap (cn : Int) = (cn : Int) := by rw [IntKind.wrap_u64]; omega
   have q1 := fun W (x : Below w.heap.size w W) => ref_putbytes01 y.p.la y.p.x.lo y.p.lc W (hin.p.lr.below x) (by have h1 : y.p.x.lo.length ≤ 24 := hgd.lo; omega)
   have q2 := fun W (x : Below w.heap.size w W) => ref_putbytes01 y.p.ha y.p.x.hi y.p.hc W (hin.p.hr.below x) (by have h1 : y.p.x.hi.length ≤ 24 := hgd.hi; omega)
   have q3 := fun W => ref_fixed01 y.lsn hgd.lsn 8 W
   have q4 := fun W => ref_put01 cn (by omega) W
   have b1 := putBytes_len y.p.x.lo
   have b2 := putBytes_len y.p.x.hi
   have b3 := fixed_len8 y.lsn
   have b4 := (Vint.put_len cn).2
   have hb1 : (Vint.putBytes y.p.x.lo).length ≤ 50 := by have h1 : y.p.x.lo.length ≤ 24 := hgd.lo; omega
   have hb2 : (Vint.putBytes y.p.x.hi).length ≤ 50 := by have h1 : y.p.x.hi.length ≤ 24 := hgd.hi; omega
   have hb3 : (Vint.fixed y.lsn 8).length ≤ 50 := by omega
   have hb4 : (Vint.put cn).length ≤ 50 := by omega
   have hlay : y.x.lay = Vint.putBytes y.p.x.lo ++ (Vint.putBytes y.p.x.hi ++ (Vint.fixed y.lsn 8 ++ (Vint.put cn ++ y.p.x.sum))) := by
    show Vint.putBytes y.p.x.lo ++ (Vint.putBytes y.p.x.hi ++ (Vint.fixed y.lsn 8 ++ (Vint.put y.p.x.count.toNat ++ y.p.x.sum))) = _
    rw [hcn']; rfl
   rw [hlay] at hsn
   obtain ⟨D1, hD1⟩ : ∃ D, D = Vint.putBytes y.p.x.lo := ⟨_, rfl⟩
   obtain ⟨D2, hD2⟩ : ∃ D, D = Vint.putBytes y.p.x.hi := ⟨_, rfl⟩
   obtain ⟨D3, hD3⟩ : ∃ D, D = Vint.fixed y.lsn 8 := ⟨_, rfl⟩
   obtain ⟨D4, hD4⟩ : ∃ D, D = Vint.put cn := ⟨_, rfl⟩
   obtain ⟨D5, hD5⟩ : ∃ D, D = y.p.x.sum := ⟨_, rfl⟩
   have hs5 : D5.length = 32 := by rw [hD5]; exact hin.p.sum
   rw [← hD1] at q1 hb1 hsn
   rw [← hD2] at q2 hb2 hsn
   rw [← hD3] at q3 hb3 hsn
   rw [← hD4] at q4 hb4 hsn
   rw [← hD5] at hsn y3
   obtain ⟨b, hbd⟩ : ∃ b, b = H0 ++ Ws.layA (m.take k) := ⟨_, rfl⟩
   have hnext : H0 ++ Ws.layA (m.take (k + 1)) = b ++ D1 ++ D2 ++ D3 ++ D4 ++ D5 := by rw [hsn, hbd]; simp only [List.append_assoc]
   rw [← hbd] at ho hbn ⊢
   have Q1 := Lib.hid q1
   have Q2 := Lib.hid q2
   have Q3 := Lib.hid q3
   have Q4 := Lib.hid q4
   have HB1 := Lib.hid hb1
   have HB2 := Lib.hid hb2
   have HB3 := Lib.hid hb3
   have HB4 := Lib.hid hb4
   have HBN := Lib.hid hbn
   have HNX := Lib.hid hnext
   have HS5 := Lib.hid hs5
   have HCW := Lib.hid hcw
   have HBD := Lib.hid (hb.trans ((Ext.drew wr).mono hb.size))
   clear q1 q2 q3 q4 hb1 hb2 hb3 hb4 b1 b2 b3 b4 hbn hnext hs5 hcw hy hkm hmk hsn hgd hcs hin hcn hcn' hlay hD1 hD2 hD3 hD4 hD5 hbd hb
   go_wp2_with fail
   refine rr_start (belW w.heap.size) [0, 1, 2, 4, 5, 9, 10, 12, 13, 17] (by kernel_rfl) ?_
   refine qAD 0 rfl ?_
   simp only [sP]
   refine qAD 1 rfl ?_
   simp only [sP]
   refine qAD 2 rfl ?_
   simp only [sP]
   refine qD 3 rfl ?_
   simp only [sP]
   refine qAD 4 rfl ?_
   simp only [sP]
   refine qAD 5 rfl ?_
   simp only [sP]
   refine qS 6 rfl ⟨_, fun w' hx => by have hcx := Ext.load (HBD.out.trans hx) y0; (go_simp <;> with_reducible rfl), ?_⟩
   simp only [sP]
   refine qAD 9 rfl ?_
   simp only [sP]
   refine qAD 10 rfl ?_
   simp only [sP]
   refine qD 11 rfl ?_
   simp only [sP]
   refine qAD 12 rfl ?_
   simp only [sP]
   refine qAD 13 rfl ?_
   simp only [sP]
   refine qS 14 rfl ⟨_, fun w' hx => by have hcx := Ext.load (HBD.out.trans hx) y1; (go_simp <;> with_reducible rfl), ?_⟩
   simp only [sP]
   refine rr_call 7 (Q1.out _ (HBD.out)) rfl (by kernel_rfl) (by rfl) (by go_simp) ?_
   rintro e w7 ⟨A7, c7, rfl, ho7, hx7⟩
   have HB7 := Lib.hid (HBD.out.trans (hx7.mono HBD.out.size))
   refine ⟨_, rfl, hx7.mono (HBD.out.size), ?_⟩
   simp only [sP]
   refine rr_appB 8 rfl (by kernel_rfl) (by rfl) (.tmp 15) (.tmp 22) 22 rfl elemB A1 (b.length) c1 (bvs (b)) rfl A7 (D1).length c7 (bvs (D1)) rfl (b.length + (D1).length) rfl (bvs (b ++ D1)) (bvs_app _ _) ((ho.below (Ext.drew wr)).below hx7) (ho7.rd') (bvs_one _) (by have := HBN.out; have := HB1.out; have := HB2.out; have := HB3.out; have := HB4.out; (try simp only [List.length_append]); omega) (by have := HBN.out; have := HB1.out; have := HB2.out; have := HB3.out; have := HB4.out; (try simp only [List.length_append]); omega) (HB7.out.size) (fun A8 c8 w8 ho8 hx8 => ?_)
   simp only [sP]
   have HB8 := Lib.hid (HB7.out.trans hx8)
   refine rr_call 15 (Q2.out _ (HB8.out)) rfl (by kernel_rfl) (by rfl) (by go_simp) ?_
   rintro e w15 ⟨A15, c15, rfl, ho15, hx15⟩
   have HB15 := Lib.hid (HB8.out.trans (hx15.mono HB8.out.size))
   refine ⟨_, rfl, hx15.mono (HB8.out.size), ?_⟩
   simp only [sP]
   refine rr_appB 16 rfl (by kernel_rfl) (by rfl) (.tmp 23) (.tmp 30) 22 rfl elemB A8 (b.length + D1.length) c8 (bvs (b ++ D1)) rfl A15 (D2).length c15 (bvs (D2)) rfl (b.length + D1.length + (D2).length) rfl (bvs (b ++ D1 ++ D2)) (bvs_app _ _) (ho8.below hx15) (ho15.rd') (bvs_one _) (by have := HBN.out; have := HB1.out; have := HB2.out; have := HB3.out; have := HB4.out; (try simp only [List.length_append]); omega) (by have := HBN.out; have := HB1.out; have := HB2.out; have := HB3.out; have := HB4.out; (try simp only [List.length_append]); omega) (HB15.out.size) (fun A16 c16 w16 ho16 hx16 => ?_)
   simp only [sP]
   have HB16 := Lib.hid (HB15.out.trans hx16)
   refine qAD 17 rfl ?_
   simp only [sP]
   refine rr_done (by kernel_rfl) ?_
   have HBE := Lib.hid (HB16.out.trans ((Ext.drew w16).mono HB16.out.size))
   go_wp2_with fail
   refine rr_start (belW w.heap.size) [0, 1, 2, 4, 8, 9, 11, 12, 14, 17] (by kernel_rfl) ?_
   refine qAD 0 rfl ?_
   simp only [sP]
   refine qAD 1 rfl ?_
   simp only [sP]
   refine qAD 2 rfl ?_
   simp only [sP]
   refine qD 3 rfl ?_
   simp only [sP]
   refine qAD 4 rfl ?_
   simp only [sP]
   refine qS 5 rfl ⟨_, fun w' hx => by have hcx := Ext.load (HBE.out.trans hx) y35; (go_simp <;> with_reducible rfl), ?_⟩
   simp only [sP]
   refine qAD 8 rfl ?_
   simp only [sP]
   refine qAD 9 rfl ?_
   simp only [sP]
   refine qD 10 rfl ?_
   simp only [sP]
   refine qAD 11 rfl ?_
   simp only [sP]
   refine qAD 12 rfl ?_
   simp only [sP]
   refine qS 13 rfl ⟨_, fun w' hx => by have hcx := Ext.load (HBE.out.trans hx) y2; (go_simp <;> with_reducible rfl), ?_⟩
   simp only [sP]
   refine qAS 14 rfl ⟨.int .u64 ((cn : Nat) : Int), fun w' => by have hcv := HCW.out; (go_simp <;> with_reducible rfl), ?_⟩
   simp only [sP]
   refine rr_call 6 (Q3.out _) rfl (by kernel_rfl) (by rfl) (by go_simp) ?_
   rintro e w26 ⟨A26, c26, rfl, ho26, hx26⟩
   have HB26 := Lib.hid (HBE.out.trans (hx26.mono HBE.out.size))
   refine ⟨_, rfl, hx26.mono (HBE.out.size), ?_⟩
   simp only [sP]
   refine rr_appB 7 rfl (by kernel_rfl) (by rfl) (.tmp 32) (.tmp 38) 22 rfl elemB A16 (b.length + D1.length + D2.length) c16 (bvs (b ++ D1 ++ D2)) rfl A26 (D3).length c26 (bvs (D3)) rfl (b.length + D1.length + D2.length + (D3).length) rfl (bvs (b ++ D1 ++ D2 ++ D3)) (bvs_app _ _) ((ho16.below (Ext.drew w16)).below hx26) (ho26.rd') (bvs_one _) (by have := HBN.out; have := HB1.out; have := HB2.out; have := HB3.out; have := HB4.out; (try simp only [List.length_append]); omega) (by have := HBN.out; have := HB1.out; have := HB2.out; have := HB3.out; have := HB4.out; (try simp only [List.length_append]); omega) (HB26.out.size) (fun A27 c27 w27 ho27 hx27 => ?_)
   simp only [sP]
   have HB27 := Lib.hid (HB26.out.trans hx27)
   refine rr_call 15 (Q4.out _) rfl (by kernel_rfl) (by rfl) (by go_simp) ?_
   rintro e w28 ⟨A28, c28, rfl, ho28, hx28⟩
   have HB28 := Lib.hid (HB27.out.trans (hx28.mono HB27.out.size))
   refine ⟨_, rfl, hx28.mono (HB27.out.size), ?_⟩
   simp only [sP]
   refine rr_appB 16 rfl (by kernel_rfl) (by rfl) (.tmp 39) (.tmp 47) 22 rfl elemB A27 (b.length + D1.length + D2.length + D3.length) c27 (bvs (b ++ D1 ++ D2 ++ D3)) rfl A28 (D4).length c28 (bvs (D4)) rfl (b.length + D1.length + D2.length + D3.length + (D4).length) rfl (bvs (b ++ D1 ++ D2 ++ D3 ++ D4)) (bvs_app _ _) (ho27.below hx28) (ho28.rd') (bvs_one _) (by have := HBN.out; have := HB1.out; have := HB2.out; have := HB3.out; have := HB4.out; (try simp only [List.length_append]); omega) (by have := HBN.out; have := HB1.out; have := HB2.out; have := HB3.out; have := HB4.out; (try simp only [List.length_append]); omega) (HB28.out.size) (fun A29 c29 w29 ho29 hx29 => ?_)
   simp only [sP]
   have HB29 := Lib.hid (HB28.out.trans hx29)
   refine qAD 17 rfl ?_
   simp only [sP]
   refine rr_done (by kernel_rfl) ?_
   have q5 := rsum_any w.heap.size A29 (b ++ D1 ++ D2 ++ D3 ++ D4) c29 D5 w29 (by simpa only [List.length_append] using ho29) HS5.out HB29.out.size (by have := HBN.out; have := HB1.out; have := HB2.out; have := HB3.out; have := HB4.out; simp only [List.length_append]; omega)
   simp only [List.length_append] at q5
   have Q5 := Lib.hid q5
   have Y3 := Lib.hid (fun j u hj => Ext.load HB29.out (y3 j u hj))
   have i5 : (Tryz.prog.info? 26).map (·.size) = some ((bvs D5).toArray).size := by rw [List.size_toArray, bvs_len, HS5.out]; kernel_rfl
   clear q5
   go_wp2_with (first | (refine wpList_load_cells (by rfl) 26 (.tmp 54) rfl ⟨(ad.add (k * 36)).block, (ad.add (k * 36)).off + 3, none⟩ rfl (bvs D5).toArray _ Y3.out Tryz.underlying26 rfl i5 ?_) | (go_at_call 75; refine Q5.out.mono ?_; rintro e6 w6 ⟨A6, c6, rfl, ho6, hx6⟩))
   go_roundw
   case rel => exact ⟨k + 1, A6, c6, by omega, by go_num, by rw [HNX.out]; simp only [List.length_append], by rw [HNX.out]; simpa only [List.length_append] using ho6, HB29.out.trans hx6⟩
   case measure => simp [intOf]; omega
  ·
   obtain rfl : k = l.length := by omega
   rw [List.take_of_length_le (by rw [HLM.out]; exact Nat.le_refl _)] at ho ⊢
   go_wp2_with fail
   go_ret
   exact ⟨_, _, rfl, ho, hb⟩
end Go.Proofs.YtjholekgdnhpkaaGreat
namespace Go.Proofs.YtjholekgdnhpkaaGreat
open Go.RowKit
set_option maxHeartbeats 400000 in
theorem ref_step (c b : Nat) (w : World) (hc : c < 4294967296) (hb : b < 256) :
  Calls Tryz.prog 97 #[.int .u32 (c : Int), .int .u8 (b : Int)] w fun e w' => e = .returned (.int .u32 (Crc.byte c b : Nat)) ∧ w = w' := by
 have h0 := x32 c b hc (by omega)
 have hx : c ^^^ b < 4294967296 := Crc.xor_lt hc (by omega)
 have hfin : Hid (∃ f : Nat → Nat, f 0 = c ^^^ b ∧ (∀ k, f (k + 1) = Crc.bit (f k)) ∧ (∀ k, f k < 4294967296) ∧ f 8 = Crc.byte c b) := by
  refine ⟨fun k => Nat.rec (c ^^^ b) (fun _ x => Crc.bit x) k, rfl, fun k => rfl, fun k => ?_, ?_⟩
  ·
   induction k with
   | zero => exact hx
   | succ k ih => exact Crc.bit_lt ih
  ·
   unfold Crc.byte
   rw [← Crc.four_bits, ← Crc.four_bits]
   rfl
 obtain ⟨f, f0, fs, fl, f8⟩ := hfin.out
 clear hfin
 rw [← f0] at h0
 rw [← f8]
 have Fs := Lib.hid fs
 clear fs hx f0 f8
 go_enter Tryz.func97, Tryz.ntmps97
 go_wp2
 go_loop [0, 5] (fun a i => ∃ k : Nat, k ≤ 8 ∧ i = .int .i64 k ∧ a = .int .u32 (f k : Nat)) (fun _ i => 8 - (intOf i).toNat)
 case atStart => exact ⟨0, by omega, rfl, rfl⟩
 case round =>
  obtain ⟨k, hk, rfl, rfl⟩ := hrel
  by_cases h : k < 8
  ·
   have hf := fl k
   have h1 := a32_1 (f k) hf
   have hq : f k / 2 < 4294967296 := by omega
   have h2 := x32 (f k / 2) 2197175160 hq (by omega)
   have H2 := Lib.hid h2
   clear h2 fl
   rcases Crc.mod_two (f k) with hm | hm <;> rw [hm] at h1
   ·
    have hb1 : (bits .and .u32 (f k : Int) 1 == 1) = false := by rw [h1]; decide
    have HM := Lib.hid hm
    clear h1 hm
    go_wp2
    all_goals go_round
    case rel => exact ⟨k + 1, by omega, by go_num, val_int (by rw [Fs.out k, Crc.bit, HM.out]; simp)⟩
    case measure => simp [intOf]; omega
   ·
    have hb1 : (bits .and .u32 (f k : Int) 1 == 1) = true := by rw [h1]; decide
    have HM := Lib.hid hm
    clear h1 hm
    go_wp2
    all_goals go_round
    case rel => exact ⟨k + 1, by omega, by go_num, val_int (by rw [Fs.out k, Crc.bit, HM.out]; exact H2.out)⟩
    case measure => simp [intOf]; omega
  ·
   obtain rfl : k = 8 := by omega
   go_wp2
   go_ret
   exact ⟨rfl, rfl⟩
set_option maxHeartbeats 400000 in
theorem ref_more (c : Nat) (A : Option Addr) (bs : List UInt8) (cap : Nat) (w : World) (hc : c < 4294967296) (hA : RdB w A bs) (hl : bs.length ≤ 140737488355328) :
  Calls Tryz.prog 87 #[.int .u32 (c : Int), .slice A bs.length cap] w fun e w' => e = .returned (.int .u32 (Crc.more c bs : Nat)) ∧ w = w' := by
 have h0 : bits .xor .u32 IntKind.u32.max (c : Int) = ((Crc.flip c : Nat) : Int) := not32 c hc
 have hx := Crc.flip_lt c
 unfold Crc.more
 generalize hd : Crc.flip c = d at *
 clear hd
 have Hx := Lib.hid hx
 have Hend : Hid (bits .xor .u32 IntKind.u32.max ((Crc.over d bs : Nat) : Int) = ((Crc.flip (Crc.over d bs) : Nat) : Int)) := not32 (Crc.over d bs) (Crc.over_lt hx bs)
 clear hx
 go_enter Tryz.func87, Tryz.ntmps87
 go_wp2
 go_loop [0, 5] (fun a i => ∃ k : Nat, k ≤ bs.length ∧ i = .int .i64 k ∧ a = .int .u32 (Crc.over d (bs.take k) : Nat)) (fun _ i => bs.length - (intOf i).toNat)
 case atStart => exact ⟨0, by omega, rfl, rfl⟩
 case round =>
  obtain ⟨k, hk, rfl, rfl⟩ := hrel
  by_cases h : k < bs.length
  ·
   obtain ⟨ad, rfl, hcell⟩ := hA.at_ h
   have hov := Crc.over_lt Hx.out (bs.take k)
   have hs := Lib.hid (Crc.over_snoc d bs k h)
   go_wp2_with (go_at_call 97; refine (ref_step _ _ _ hov bs[k].toNat_lt).mono ?_; rintro e w' ⟨rfl, rfl⟩)
   all_goals go_round
   case rel => exact ⟨k + 1, by omega, by go_num, val_int (by rw [hs.out])⟩
   case measure => simp [intOf]; omega
  ·
   obtain rfl : k = bs.length := by omega
   rw [List.take_length]
   have hend := Hend.out
   go_wp2
   go_ret
   exact ⟨rfl, rfl⟩
theorem ref_sum (A : Option Addr) (bs : List UInt8) (cap : Nat) (w : World) (hA : RdB w A bs) (hl : bs.length ≤ 140737488355328) :
  Calls Tryz.prog 64 #[.slice A bs.length cap] w fun e w' => e = .returned (.int .u32 (Crc.sum bs : Nat)) ∧ w = w' := by
 have H := Lib.hid (ref_more 0 A bs cap w (by omega) hA hl)
 go_enter Tryz.func64, Tryz.ntmps64
 go_wp2_with (go_at_call 87; refine H.out.mono ?_; rintro e w' ⟨rfl, rfl⟩)
 go_ret
 exact ⟨rfl, rfl⟩
end Go.Proofs.YtjholekgdnhpkaaGreat
namespace Go.Proofs.YtjholekgdnhpkaaGreat
open Go.RowKit
theorem four_cells (n : Nat) (h : n < 4294967296) : bvs (Crc.four n) = [Value.int .u8 ((n : Int) / 16777216), .int .u8 ((n : Int) / 65536 % 256), .int .u8 ((n : Int) / 256 % 256), .int .u8 ((n : Int) % 256)] := by
 have h1 := byte_top n 16777216 (by omega)
 have h2 := byte_div n 65536
 have h3 := byte_div n 256
 have h4 := byte0 n
 simp only [Crc.four, bvs, List.map_cons, List.map_nil, bv, ← h1, ← h2, ← h3, ← h4]
 rfl
set_option maxHeartbeats 400000 in
theorem ref_put (A : Option Addr) (bs : List UInt8) (cap : Nat) (w : World) (hA : RdB w A bs) (hl : bs.length ≤ 1000000) :
  Calls Tryz.prog 33 #[.slice A bs.length cap] w fun e w' => ∃ A' c', e = .returned (.slice A' (Crc.put bs).length c') ∧ Own w' w.heap.size 5 1 A' (Crc.put bs).length c' (bvs (Crc.put bs)) ∧ Below w.heap.size w w' := by
 have H := Lib.hid (ref_sum A bs cap w hA (by omega))
 have hs := Crc.sum_lt bs
 have hA1 := hA.below (((Below.refl w.heap.size w).alloc (Nat.le_refl _) (.cells #[] 5)))
 go_enter Tryz.func33, Tryz.ntmps33
 go_wp2_with (first
  | (go_at_call 64; refine H.out.mono ?_; rintro e w' ⟨rfl, rfl⟩)
  | (at_builtin; refine wpList_app rfl (.tmp 6) (.tmp 7) 22 rfl elemB w.heap.size _ 0 0 [] rfl A bs.length cap (bvs bs) rfl bs.length (by omega) (bvs bs) rfl (Own.none_ _ _ _ _ _) hA1 (bvs_one _) (by omega) (by omega) (by simp) ?_; intro A1 c1 w1 ho1 hg1 hr1)
  | (at_builtin; refine wpList_app rfl (.tmp 8) (.tmp 20) 22 rfl elemB w.heap.size A1 bs.length c1 (bvs bs) rfl (some ⟨w1.heap.size, 0, none⟩) 4 4 _ rfl (Crc.put bs).length (Crc.put_len bs) (bvs (Crc.put bs)) ?hz (ho1.below ((Below.refl _ _).alloc (Nat.le_refl _) _)) (Rd.new w1 _ _) ?h1 ?hb (by rw [Crc.put_len]; omega) ?hB ?_))
 case hz => simp only [Crc.put, bvs_app, four_cells _ hs]
 case h1 => intro u hu; simp only [List.mem_cons, List.not_mem_nil, or_false] at hu; rcases hu with rfl | rfl | rfl | rfl <;> rfl
 case hb => simp only [Nat.mul_one]; rw [Crc.put_len]; omega
 case hB => have := hg1.size; simp at this ⊢; omega
 intro A2 c2 w2 ho2 hg2 hr2
 go_wp2
 go_ret
 have hb1 := below_app (((Below.refl w.heap.size w).alloc (Nat.le_refl _) (.cells #[] 5))) (Own.none_ _ _ 5 1 (some ⟨w.heap.size, 0, none⟩)) hg1 (by simp)
 exact ⟨A2, c2, rfl, ho2, below_app (hb1.alloc hb1.size _) (ho1.below ((Below.refl _ _).alloc (Nat.le_refl _) _)) hg2 (by have := hb1.size; simp; omega)⟩
set_option maxHeartbeats 400000 in
theorem ref_check (A : Option Addr) (bs : List UInt8) (cap : Nat) (w : World) (hA : RdB w A bs) (hl : bs.length ≤ 1000000) (hcap : bs.length ≤ cap) :
  Calls Tryz.prog 15 #[.slice A bs.length cap] w fun e w' => ∃ A' c', e = .returned (.tuple #[.slice A' (Crc.got bs).length c', .bool (Crc.ok bs)]) ∧ Own w' w.heap.size 5 1 A' (Crc.got bs).length c' (bvs (Crc.got bs)) ∧ Below w.heap.size w w' := by
 by_cases h4 : bs.length < 4
 ·
  have h1 : Crc.ok bs = false := by unfold Crc.ok; simp; omega
  have h2 : Crc.got bs = [] := by unfold Crc.got; rw [h1]; rfl
  rw [h1, h2]
  clear h1 h2
  go_enter Tryz.func15, Tryz.ntmps15
  go_wp2
  go_ret2
  exact ⟨none, 0, rfl, Own.none_ _ _ _ _ _, Below.refl _ _⟩
 ·
  obtain ⟨p, hp⟩ : ∃ p, p = bs.take (bs.length - 4) := ⟨_, rfl⟩
  have hA0 := hA.head (m := bs.length - 4) (by omega)
  rw [← hp] at hA0
  have hok := Crc.ok_of (b := bs) (p := p) (by omega) hp
  have hpl : p.length = bs.length - 4 := by rw [hp]; simp
  have hA1 := hA0.below (((Below.refl w.heap.size w).alloc (Nat.le_refl _) (.cells #[] 5)))
  have hcast : ((bs.length : Int) - 4) = ((p.length : Nat) : Int) := by omega
  have hple : p.length ≤ bs.length := by omega
  have Hp := Lib.hid hp
  have Hok := Lib.hid hok
  clear hp hok hpl
  go_enter Tryz.func15, Tryz.ntmps15
  go_wp2_with (at_builtin; refine wpList_app rfl (.tmp 8) (.tmp 13) 22 rfl elemB w.heap.size _ 0 0 [] rfl A p.length cap (bvs p) rfl p.length (by omega) (bvs p) rfl (Own.none_ _ _ _ _ _) hA1 (bvs_one _) (by omega) (by omega) (by simp) ?_; intro A1 c1 w1 ho1 hg1 hr1)
  have hb1 := below_app (((Below.refl w.heap.size w).alloc (Nat.le_refl _) (.cells #[] 5))) (Own.none_ _ _ 5 1 (some ⟨w.heap.size, 0, none⟩)) hg1 (by simp)
  have ho1' := ho1.below ((Below.refl w1.heap.size w1).drew)
  refine rg_start (by kernel_rfl) ?_
  refine gD 0 rfl ?_
  simp only [sP]
  refine gD 3 rfl ?_
  simp only [sP]
  refine gS 4 rfl ⟨_, fun w' hx => ex_convert rfl rfl (run_str w' _ _ 5 A bs cap Tryz.underlying22 Tryz.underlying5 Tryz.underlying9 (hA.below (hb1.trans (Below.mono (Below.drew (Below.refl _ _) |>.trans hx) hb1.size))) _ rfl), ?_⟩
  simp only [sP]
  refine rg_call 1 (ref_put A1 p c1 w1.drew ho1'.rd' (by omega)) rfl (by kernel_rfl) (by rfl) (by go_simp) ?_
  rintro e w2 ⟨A2, c2, rfl, ho2, hb2⟩
  refine ⟨_, rfl, hb2, ?_⟩
  simp only [sP]
  refine gS 2 rfl ⟨_, fun w' hx => ex_convert rfl rfl (run_str w' _ _ 5 A2 (Crc.put p) c2 Tryz.underlying22 Tryz.underlying5 Tryz.underlying9 (ho2.below hx).rd' _ rfl), ?_⟩
  simp only [sP]
  refine gD 5 rfl ?_
  simp only [sP]
  refine rg_done (by kernel_rfl) ?_
  have hfin := hb1.trans (((Below.refl w1.heap.size w1).drew.trans hb2).mono hb1.size)
  have ho3 := (ho1.below ((Below.refl w1.heap.size w1).drew)).below hb2
  by_cases hv : (Crc.put p == bs) = true
  ·
   have h1 : Crc.ok bs = true := by rw [Hok.out]; exact hv
   have H2 := Lib.hid (Crc.got_yes Hp.out h1)
   have H1 := Lib.hid h1
   have hn : (!(Crc.put p == bs)) = false := by rw [hv]; rfl
   rw [hn]
   clear h1 hn hv
   go_wp2
   go_ret2
   rw [H1.out, H2.out]
   exact ⟨A1, c1, rfl, ho3, hfin⟩
  ·
   have hv' : (Crc.put p == bs) = false := by simpa using hv
   have h1 : Crc.ok bs = false := by rw [Hok.out]; exact hv'
   have H2 := Lib.hid (Crc.got_no h1)
   have H1 := Lib.hid h1
   have hn : (!(Crc.put p == bs)) = true := by rw [hv']; rfl
   rw [hn]
   clear h1 hv hv' hn
   go_wp2
   go_ret2
   rw [H1.out, H2.out]
   exact ⟨none, 0, rfl, Own.none_ _ _ _ _ _, hfin⟩
end Go.Proofs.YtjholekgdnhpkaaGreat
