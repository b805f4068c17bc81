/- Texts of the proof, laid together: WpD. -/
import Derived.Test.YtjholekgdnhpkaaGreatZ24
import Derived.Test.YtjholekgdnhpkaaGreatZ3
set_option linter.unusedVariables false
set_option linter.unusedSimpArgs false
set_option linter.unusedSectionVars false
namespace Go.Proofs.YtjholekgdnhpkaaGreat
open Go.RowKit
attribute [local go_sem] Oper.semAt_some
def FLaid (D : List UInt8) (w : World) (e : Ending) (w' : World) : Prop := ∃ A' c', e = .returned (.slice A' D.length c') ∧ Own w' w.heap.size 5 1 A' D.length c' (bvs D) ∧ Below w.heap.size w w'
theorem laid_end {D X : List UInt8} {w w' : World} {A : Option Addr} {n c : Nat} (hD : D = X) (hn : n = X.length) (ho : Own w' (w.heap.size + 1) 5 1 A X.length c (bvs X)) (hx : Ext w w') : FLaid D w (.returned (.slice A n c)) w' := by
 subst hD
 subst hn
 exact ⟨_, _, rfl, ho.mono (Nat.le_succ _), hx⟩
set_option maxRecDepth 100000 in
set_option maxHeartbeats 8000000 in
theorem rfields_any (M : WmV) (w : World) (hM : M.In w) (hF : M.x.Lays) (hG : ∀ s ∈ M.subs, s.x.Good) (hSg : M.sigs.length ≤ 60) (hDa : M.data.length ≤ 64) (hkn : Wm.known M.kind = true) :
  Calls Tryz.prog 42 #[.agg M.cells] w (FLaid M.x.fields w) := by
 obtain ⟨W0, hW0⟩ : ∃ W0, W0 = w.alloc (.cells M.cells MT) := ⟨_, rfl⟩
 have hx0 : Ext w W0 := by rw [hW0]; exact Ext.alloc _ _
 have g0 : W0.heap[w.heap.size]? = some (.cells M.cells MT (0, 0)) := by rw [hW0]; exact heap_alloc_new w _
 have hz0 : w.heap.size + 1 ≤ W0.heap.size := lt_of_heap g0
 have a0 : W0.cell? ⟨w.heap.size, 0, none⟩ = _ := (cell_of_row _ _ 0 _ _ _ g0).trans (WmV.at0 M)
 have a3 : W0.cell? ⟨w.heap.size, 3, none⟩ = _ := (cell_of_row _ _ 3 _ _ _ g0).trans (WmV.at3 M)
 have a4 : W0.cell? ⟨w.heap.size, 4, none⟩ = _ := (cell_of_row _ _ 4 _ _ _ g0).trans (WmV.at4 M)
 have a5 : W0.cell? ⟨w.heap.size, 5, none⟩ = _ := (cell_of_row _ _ 5 _ _ _ g0).trans (WmV.at5 M)
 have a6 : W0.cell? ⟨w.heap.size, 6, none⟩ = _ := (cell_of_row _ _ 6 _ _ _ g0).trans (WmV.at6 M)
 have a7 : W0.cell? ⟨w.heap.size, 7, none⟩ = _ := (cell_of_row _ _ 7 _ _ _ g0).trans (WmV.at7 M)
 have a40 : W0.cell? ⟨w.heap.size, 40, none⟩ = _ := (cell_of_row _ _ 40 _ _ _ g0).trans (WmV.at40 hM.ok)
 have a73 : W0.cell? ⟨w.heap.size, 73, none⟩ = _ := (cell_of_row _ _ 73 _ _ _ g0).trans (WmV.at73 hM.ok)
 have a74 : W0.cell? ⟨w.heap.size, 74, none⟩ = _ := (cell_of_row _ _ 74 _ _ _ g0).trans (WmV.at74 hM.ok)
 have a75 : W0.cell? ⟨w.heap.size, 75, none⟩ = _ := (cell_of_row _ _ 75 _ _ _ g0).trans (WmV.at75 hM.ok)
 have a76 : W0.cell? ⟨w.heap.size, 76, none⟩ = _ := (cell_of_row _ _ 76 _ _ _ g0).trans (WmV.at76 hM.ok)
 have a77 : W0.cell? ⟨w.heap.size, 77, none⟩ = _ := (cell_of_row _ _ 77 _ _ _ g0).trans (WmV.at77 hM.ok)
 have s8 : ∀ j u, ((bvs M.sum).toArray)[j]? = some u → W0.cell? ((⟨w.heap.size, 8, none⟩ : Addr).add j) = some u := fun j u hj => by
  have hj2 : j < 32 := by have := (Array.getElem?_eq_some_iff.1 hj).1; rw [List.size_toArray, bvs_len, hM.ok.sum] at this; exact this
  rw [Addr.add_lit, cell_of_row _ _ _ _ _ _ g0, WmV.at8 hM.ok j hj2]; simpa using hj
 have s41 : ∀ j u, ((bvs M.file).toArray)[j]? = some u → W0.cell? ((⟨w.heap.size, 41, none⟩ : Addr).add j) = some u := fun j u hj => by
  have hj2 : j < 32 := by have := (Array.getElem?_eq_some_iff.1 hj).1; rw [List.size_toArray, bvs_len, hM.ok.file] at this; exact this
  rw [Addr.add_lit, cell_of_row _ _ _ _ _ _ g0, WmV.at41 hM.ok j hj2]; simpa using hj
 have hxw : ∀ W, Below (w.heap.size + 1) W0 W → Ext w W := fun W h => hx0.trans (h.mono (Nat.le_succ _))
 obtain ⟨nn, hnn⟩ := Int.eq_ofNat_of_zero_le hF.n0
 obtain ⟨count, hct⟩ := Int.eq_ofNat_of_zero_le hF.c0
 obtain ⟨size, hsz⟩ := Int.eq_ofNat_of_zero_le hF.z0
 have hnn' : M.n = (nn : Int) := hnn
 have hct' : M.count = (count : Int) := hct
 have hsz' : M.size = (size : Int) := hsz
 have bn : nn ≤ 2147483647 := by have := hF.n1; rw [hnn] at this; omega
 have bc : count ≤ 2147483647 := by have := hF.c1; rw [hct] at this; omega
 have bz : size ≤ 2147483647 := by have := hF.z1; rw [hsz] at this; omega
 rw [hnn'] at a5
 rw [hct'] at a7
 rw [hsz'] at a40
 have hlM : (M.subs.map WsV.x).length = M.subs.length := List.length_map _
 have heM : (M.ents.map EnV.x).length = M.ents.length := List.length_map _
 have hlo : M.lo.length ≤ 24 := hF.lo
 have hhi : M.hi.length ≤ 24 := hF.hi
 have hsb : M.subs.length ≤ 60 := by have : (M.subs.map WsV.x).length ≤ 60 := hF.subs; omega
 have hen : Ent.total (M.ents.map EnV.x) + 20 * M.ents.length ≤ 1000000 := by have : Ent.total (M.ents.map EnV.x) + 20 * (M.ents.map EnV.x).length ≤ 1000000 := hF.ents; omega
 have q_lo := fun W (x : Below (w.heap.size + 1) W0 W) => ref_putbytes01 M.la M.lo M.lc W (hM.lr.below (hxw W x)) (by omega)
 have q_hi := fun W (x : Below (w.heap.size + 1) W0 W) => ref_putbytes01 M.ha M.hi M.hc W (hM.hr.below (hxw W x)) (by omega)
 have q_n := fun W => ref_put01 nn (by omega) W
 have q_count := fun W => ref_put01 count (by omega) W
 have q_size := fun W => ref_put01 size (by omega) W
 have q_lsn := fun W => ref_fixed01 M.lsn hM.ok.lsn 8 W
 have q_subs := fun W (x : Below (w.heap.size + 1) W0 W) => rsubs_any M.sa M.subs M.sc W (hM.sr.below (hxw W x)) hsb hG
 have q_ents := fun W (x : Below (w.heap.size + 1) W0 W) => ref_eputall M.ea M.ents M.ec W (hM.er.below (hxw W x)) (by omega) (by omega)
 have b_lo := putBytes_len M.lo
 have b_hi := putBytes_len M.hi
 have b_n := (Vint.put_len nn).2
 have b_count := (Vint.put_len count).2
 have b_size := (Vint.put_len size).2
 have b_lsn := fixed_len8 M.lsn
 have b_ents := Ent.putAll_len (M.ents.map EnV.x)
 have b_subs : (Ws.layL (M.subs.map WsV.x)).length ≤ 10000 := by
  have h1 := Ws.layA_len (l := M.subs.map WsV.x) hF.sub
  have h2 := (Vint.put_len (M.subs.map WsV.x).length).2
  unfold Ws.layL
  rw [List.length_append]
  omega
 obtain ⟨Dlo, dlo⟩ : ∃ D, Vint.putBytes M.lo = D := ⟨_, rfl⟩
 obtain ⟨Dhi, dhi⟩ : ∃ D, Vint.putBytes M.hi = D := ⟨_, rfl⟩
 obtain ⟨Dn, dn⟩ : ∃ D, Vint.put nn = D := ⟨_, rfl⟩
 obtain ⟨Dcount, dcount⟩ : ∃ D, Vint.put count = D := ⟨_, rfl⟩
 obtain ⟨Dsize, dsize⟩ : ∃ D, Vint.put size = D := ⟨_, rfl⟩
 obtain ⟨Dlsn, dlsn⟩ : ∃ D, Vint.fixed M.lsn 8 = D := ⟨_, rfl⟩
 obtain ⟨Dents, dents⟩ : ∃ D, Ent.putAll (M.ents.map EnV.x) = D := ⟨_, rfl⟩
 obtain ⟨Dsubs, dsubs⟩ : ∃ D, Ws.layL (M.subs.map WsV.x) = D := ⟨_, rfl⟩
 rw [dlo] at q_lo b_lo
 rw [dhi] at q_hi b_hi
 rw [dn] at q_n b_n
 rw [dcount] at q_count b_count
 rw [dsize] at q_size b_size
 rw [dlsn] at q_lsn b_lsn
 rw [dents] at q_ents b_ents
 rw [dsubs] at q_subs b_subs
 have D_lo := Lib.hid (show Vint.putBytes M.x.lo = Dlo from dlo)
 have D_hi := Lib.hid (show Vint.putBytes M.x.hi = Dhi from dhi)
 have D_n := Lib.hid (show Vint.put M.x.n.toNat = Dn by rw [show M.x.n = (nn : Int) from hnn']; exact dn)
 have D_count := Lib.hid (show Vint.put M.x.count.toNat = Dcount by rw [show M.x.count = (count : Int) from hct']; exact dcount)
 have D_size := Lib.hid (show Vint.put M.x.size.toNat = Dsize by rw [show M.x.size = (size : Int) from hsz']; exact dsize)
 have D_lsn := Lib.hid (show Vint.fixed M.x.lsn 8 = Dlsn from dlsn)
 have D_ents := Lib.hid (show Ent.putAll M.x.ents = Dents from dents)
 have D_subs := Lib.hid (show Ws.layL M.x.subs = Dsubs from dsubs)
 have HB_lo := Lib.hid (show Dlo.length ≤ 50 by omega)
 have HB_hi := Lib.hid (show Dhi.length ≤ 50 by omega)
 have HB_n := Lib.hid (show Dn.length ≤ 50 by omega)
 have HB_count := Lib.hid (show Dcount.length ≤ 50 by omega)
 have HB_size := Lib.hid (show Dsize.length ≤ 50 by omega)
 have HB_lsn := Lib.hid (show Dlsn.length ≤ 50 by omega)
 have HB_sum := Lib.hid (show M.sum.length ≤ 50 by rw [hM.ok.sum]; omega)
 have HB_ents := Lib.hid (show Dents.length ≤ 1100000 by omega)
 have HB_subs := Lib.hid b_subs
 have HW_n := Lib.hid (show IntKind.u64.wrap (nn : Int) = (nn : Int) by rw [IntKind.wrap_u64]; omega)
 have HW_count := Lib.hid (show IntKind.u64.wrap (count : Int) = (count : Int) by rw [IntKind.wrap_u64]; omega)
 have HW_size := Lib.hid (show IntKind.u64.wrap (size : Int) = (size : Int) by rw [IntKind.wrap_u64]; omega)
 have Q_lo := Lib.hid q_lo
 have Q_hi := Lib.hid q_hi
 have Q_n := Lib.hid q_n
 have Q_count := Lib.hid q_count
 have Q_size := Lib.hid q_size
 have Q_lsn := Lib.hid q_lsn
 have Q_subs := Lib.hid q_subs
 have Q_ents := Lib.hid q_ents
 have HM := Lib.hid hM
 have S8 := Lib.hid s8
 have S41 := Lib.hid s41
 have HXW := Lib.hid hxw
 have X0 := Lib.hid hx0
 have HSG := Lib.hid hSg
 have HDA := Lib.hid hDa
 have A76 := Lib.hid a76
 have HZ0 := Lib.hid (Below.refl (w.heap.size + 1) W0)
 have HZ1 := Lib.hid hz0
 have wr_n := HW_n.out
 obtain ⟨P, hP⟩ : ∃ P, P = M.cells := ⟨_, rfl⟩
 rw [← hP] at hW0 ⊢
 have HW0 := Lib.hid hW0
 clear hW0 hP hx0 g0 hz0 s8 s41 hxw hnn hct hsz hnn' hct' hsz' bn bc bz hlM heM hlo hhi hsb hen q_lo q_hi q_n q_count q_size q_lsn q_subs q_ents b_lo b_hi b_n b_count b_size b_lsn b_ents b_subs dlo dhi dn dcount dsize dlsn dents dsubs hM hF hG hSg hDa
 go_enter Tryz.func42, Tryz.ntmps42
 go_upto_region 1 with fail
 rw [← HW0.out]
 simp only [Wm.known, Bool.or_eq_true, decide_eq_true_eq] at hkn
 rcases hkn with ((((((((((hk | hk) | hk) | hk) | hk) | hk) | hk) | hk) | hk) | hk) | hk) | hk
 ·
  go_wp2_with fail
  go_ret
  exact laid_end (X := []) (by show Wm.fields M.x = _; unfold Wm.fields; rw [if_neg (by rw [show M.x.kind = M.kind from rfl, hk]; decide)]; rw [if_neg (by rw [show M.x.kind = M.kind from rfl, hk]; decide)]; rw [if_neg (by rw [show M.x.kind = M.kind from rfl, hk]; decide)]; rw [if_neg (by rw [show M.x.kind = M.kind from rfl, hk]; decide)]; rw [if_neg (by rw [show M.x.kind = M.kind from rfl, hk]; decide)]; rw [if_neg (by rw [show M.x.kind = M.kind from rfl, hk]; decide)]; rw [if_neg (by rw [show M.x.kind = M.kind from rfl, hk]; decide)]; rw [if_neg (by rw [show M.x.kind = M.kind from rfl, hk]; decide)]) rfl (Own.none_ _ _ _ _ _) (HXW.out _ HZ0.out)
 ·
  go_wp2_with fail
  go_ret
  exact laid_end (X := []) (by show Wm.fields M.x = _; unfold Wm.fields; rw [if_neg (by rw [show M.x.kind = M.kind from rfl, hk]; decide)]; rw [if_neg (by rw [show M.x.kind = M.kind from rfl, hk]; decide)]; rw [if_neg (by rw [show M.x.kind = M.kind from rfl, hk]; decide)]; rw [if_neg (by rw [show M.x.kind = M.kind from rfl, hk]; decide)]; rw [if_neg (by rw [show M.x.kind = M.kind from rfl, hk]; decide)]; rw [if_neg (by rw [show M.x.kind = M.kind from rfl, hk]; decide)]; rw [if_neg (by rw [show M.x.kind = M.kind from rfl, hk]; decide)]; rw [if_neg (by rw [show M.x.kind = M.kind from rfl, hk]; decide)]) rfl (Own.none_ _ _ _ _ _) (HXW.out _ HZ0.out)
 ·
  go_wp2_with fail
  have HBD := Lib.hid (HZ0.out.trans ((Ext.drew W0).mono HZ1.out))
  refine rr_start (belW (w.heap.size + 1)) [0, 3, 7] (by kernel_rfl) ?_
  refine qAD 0 rfl ?_
  simp only [sP]
  refine qS 1 rfl ⟨_, fun w' hx => by have hcx := bload (HBD.out.trans hx) a3 (Nat.lt_succ_self _); (go_simp <;> with_reducible rfl), ?_⟩
  simp only [sP]
  refine qAD 3 rfl ?_
  simp only [sP]
  refine qS 4 rfl ⟨_, fun w' hx => by have hcx := bload (HBD.out.trans hx) a4 (Nat.lt_succ_self _); (go_simp <;> with_reducible rfl), ?_⟩
  simp only [sP]
  refine rr_call 2 (Q_lo.out _ HBD.out) rfl (by kernel_rfl) (by rfl) (by go_simp) ?_
  rintro e w1 ⟨A1, c1, rfl, ho1, hx1⟩
  have HB1 := Lib.hid (HBD.out.trans (hx1.mono (Nat.le_trans HZ1.out HBD.out.size)))
  refine ⟨_, rfl, hx1.mono (Nat.le_trans HZ1.out HBD.out.size), ?_⟩
  simp only [sP]
  refine rr_call 5 (Q_hi.out _ HB1.out) rfl (by kernel_rfl) (by rfl) (by go_simp) ?_
  rintro e w2 ⟨A2, c2, rfl, ho2, hx2⟩
  have HB2 := Lib.hid (HB1.out.trans (hx2.mono (Nat.le_trans HZ1.out HB1.out.size)))
  refine ⟨_, rfl, hx2.mono (Nat.le_trans HZ1.out HB1.out.size), ?_⟩
  simp only [sP]
  refine rr_appB 6 rfl (by kernel_rfl) (by rfl) (.tmp 15) (.tmp 18) 22 rfl elemB A1 (Dlo.length) c1 (bvs (Dlo)) rfl A2 (Dhi).length c2 (bvs (Dhi)) rfl (Dlo.length + (Dhi).length) rfl (bvs (Dlo ++ Dhi)) (bvs_app _ _) ((ho1.below hx2).mono (Nat.le_trans HZ1.out HBD.out.size)) (ho2.rd') (bvs_one _) (by have := HB_lo.out; have := HB_hi.out; (try simp only [List.length_append]); omega) (by have := HB_lo.out; have := HB_hi.out; (try simp only [List.length_append]); omega) ((Nat.le_trans HZ1.out HB2.out.size)) (fun A3 c3 w3 ho3 hx3 => ?_)
  have HB3 := Lib.hid (HB2.out.trans hx3)
  simp only [sP]
  refine qAD 7 rfl ?_
  simp only [sP]
  refine rr_done (by kernel_rfl) ?_
  have a0 := bload HB3.out a0 (Nat.lt_succ_self _)
  go_wp2_with fail
  go_ret
  exact laid_end (X := Dlo ++ Dhi) (by show Wm.fields M.x = _; unfold Wm.fields; rw [if_pos (by rw [show M.x.kind = M.kind from rfl, hk] <;> decide)]; (try unfold Wm.ends); simp only [D_lo.out, D_hi.out, List.append_assoc]; try rfl) (by (try simp only [List.length_append]); try rfl) (by simpa only [List.length_append] using ho3) (HXW.out _ HB3.out)
 ·
  go_wp2_with fail
  have HBD := Lib.hid (HZ0.out.trans ((Ext.drew W0).mono HZ1.out))
  refine rr_start (belW (w.heap.size + 1)) [0, 3, 7] (by kernel_rfl) ?_
  refine qAD 0 rfl ?_
  simp only [sP]
  refine qS 1 rfl ⟨_, fun w' hx => by have hcx := bload (HBD.out.trans hx) a3 (Nat.lt_succ_self _); (go_simp <;> with_reducible rfl), ?_⟩
  simp only [sP]
  refine qAD 3 rfl ?_
  simp only [sP]
  refine qS 4 rfl ⟨_, fun w' hx => by have hcx := bload (HBD.out.trans hx) a4 (Nat.lt_succ_self _); (go_simp <;> with_reducible rfl), ?_⟩
  simp only [sP]
  refine rr_call 2 (Q_lo.out _ HBD.out) rfl (by kernel_rfl) (by rfl) (by go_simp) ?_
  rintro e w4 ⟨A4, c4, rfl, ho4, hx4⟩
  have HB4 := Lib.hid (HBD.out.trans (hx4.mono (Nat.le_trans HZ1.out HBD.out.size)))
  refine ⟨_, rfl, hx4.mono (Nat.le_trans HZ1.out HBD.out.size), ?_⟩
  simp only [sP]
  refine rr_call 5 (Q_hi.out _ HB4.out) rfl (by kernel_rfl) (by rfl) (by go_simp) ?_
  rintro e w5 ⟨A5, c5, rfl, ho5, hx5⟩
  have HB5 := Lib.hid (HB4.out.trans (hx5.mono (Nat.le_trans HZ1.out HB4.out.size)))
  refine ⟨_, rfl, hx5.mono (Nat.le_trans HZ1.out HB4.out.size), ?_⟩
  simp only [sP]
  refine rr_appB 6 rfl (by kernel_rfl) (by rfl) (.tmp 15) (.tmp 18) 22 rfl elemB A4 (Dlo.length) c4 (bvs (Dlo)) rfl A5 (Dhi).length c5 (bvs (Dhi)) rfl (Dlo.length + (Dhi).length) rfl (bvs (Dlo ++ Dhi)) (bvs_app _ _) ((ho4.below hx5).mono (Nat.le_trans HZ1.out HBD.out.size)) (ho5.rd') (bvs_one _) (by have := HB_lo.out; have := HB_hi.out; (try simp only [List.length_append]); omega) (by have := HB_lo.out; have := HB_hi.out; (try simp only [List.length_append]); omega) ((Nat.le_trans HZ1.out HB5.out.size)) (fun A6 c6 w6 ho6 hx6 => ?_)
  have HB6 := Lib.hid (HB5.out.trans hx6)
  simp only [sP]
  refine qAD 7 rfl ?_
  simp only [sP]
  refine rr_done (by kernel_rfl) ?_
  have a0 := bload HB6.out a0 (Nat.lt_succ_self _)
  go_wp2_with fail
  go_ret
  exact laid_end (X := Dlo ++ Dhi) (by show Wm.fields M.x = _; unfold Wm.fields; rw [if_pos (by rw [show M.x.kind = M.kind from rfl, hk] <;> decide)]; (try unfold Wm.ends); simp only [D_lo.out, D_hi.out, List.append_assoc]; try rfl) (by (try simp only [List.length_append]); try rfl) (by simpa only [List.length_append] using ho6) (HXW.out _ HB6.out)
 ·
  go_wp2_with (go_at_call 74; refine (Q_n.out _).mono ?_; rintro e w7 ⟨A7, c7, rfl, ho7, hx7⟩; refine Hid.out ?_)
  have HB7 := Lib.hid (HZ0.out.trans (hx7.mono HZ1.out))
  have ho7 := ho7.mono HZ1.out
  have a0 := bload HB7.out a0 (Nat.lt_succ_self _)
  have a76 := bload HB7.out a76 (Nat.lt_succ_self _)
  have a77 := bload HB7.out a77 (Nat.lt_succ_self _)
  refine Lib.hid ?_
  go_wp2_with fail
  go_ret
  exact laid_end (X := Dn) (by show Wm.fields M.x = _; unfold Wm.fields; rw [if_neg (by rw [show M.x.kind = M.kind from rfl, hk]; decide)]; rw [if_pos (by rw [show M.x.kind = M.kind from rfl, hk] <;> decide)]; (try unfold Wm.ends); simp only [D_n.out, List.append_assoc]; try rfl) (by rfl) (by simpa only [List.length_append] using ho7) (HXW.out _ HB7.out)
 ·
  go_wp2_with (go_at_call 74; refine (Q_n.out _).mono ?_; rintro e w8 ⟨A8, c8, rfl, ho8, hx8⟩; refine Hid.out ?_)
  have HB8 := Lib.hid (HZ0.out.trans (hx8.mono HZ1.out))
  have ho8 := ho8.mono HZ1.out
  have a0 := bload HB8.out a0 (Nat.lt_succ_self _)
  have a76 := bload HB8.out a76 (Nat.lt_succ_self _)
  have a77 := bload HB8.out a77 (Nat.lt_succ_self _)
  refine Lib.hid ?_
  go_wp2_with fail
  go_ret
  exact laid_end (X := Dn) (by show Wm.fields M.x = _; unfold Wm.fields; rw [if_neg (by rw [show M.x.kind = M.kind from rfl, hk]; decide)]; rw [if_pos (by rw [show M.x.kind = M.kind from rfl, hk] <;> decide)]; (try unfold Wm.ends); simp only [D_n.out, List.append_assoc]; try rfl) (by rfl) (by simpa only [List.length_append] using ho8) (HXW.out _ HB8.out)
 ·
  go_wp2_with fail
  have HBD := Lib.hid (HZ0.out.trans ((Ext.drew W0).mono HZ1.out))
  refine rr_start (belW (w.heap.size + 1)) [0, 3, 5, 8] (by kernel_rfl) ?_
  refine qAD 0 rfl ?_
  simp only [sP]
  refine qS 1 rfl ⟨_, fun w' hx => by have hcx := bload (HBD.out.trans hx) a6 (Nat.lt_succ_self _); (go_simp <;> with_reducible rfl), ?_⟩
  simp only [sP]
  refine qAD 3 rfl ?_
  simp only [sP]
  refine qS 4 rfl ⟨_, fun w' hx => by have hcx := bload (HBD.out.trans hx) a7 (Nat.lt_succ_self _); (go_simp <;> with_reducible rfl), ?_⟩
  simp only [sP]
  refine qAS 5 rfl ⟨.int .u64 ((count : Nat) : Int), fun w' => by have hcv := HW_count.out; (go_simp <;> with_reducible rfl), ?_⟩
  simp only [sP]
  refine rr_call 2 (Q_lsn.out _) rfl (by kernel_rfl) (by rfl) (by go_simp) ?_
  rintro e w9 ⟨A9, c9, rfl, ho9, hx9⟩
  have HB9 := Lib.hid (HBD.out.trans (hx9.mono (Nat.le_trans HZ1.out HBD.out.size)))
  refine ⟨_, rfl, hx9.mono (Nat.le_trans HZ1.out HBD.out.size), ?_⟩
  simp only [sP]
  refine rr_call 6 (Q_count.out _) rfl (by kernel_rfl) (by rfl) (by go_simp) ?_
  rintro e w10 ⟨A10, c10, rfl, ho10, hx10⟩
  have HB10 := Lib.hid (HB9.out.trans (hx10.mono (Nat.le_trans HZ1.out HB9.out.size)))
  refine ⟨_, rfl, hx10.mono (Nat.le_trans HZ1.out HB9.out.size), ?_⟩
  simp only [sP]
  refine rr_appB 7 rfl (by kernel_rfl) (by rfl) (.tmp 35) (.tmp 39) 22 rfl elemB A9 (Dlsn.length) c9 (bvs (Dlsn)) rfl A10 (Dcount).length c10 (bvs (Dcount)) rfl (Dlsn.length + (Dcount).length) rfl (bvs (Dlsn ++ Dcount)) (bvs_app _ _) ((ho9.below hx10).mono (Nat.le_trans HZ1.out HBD.out.size)) (ho10.rd') (bvs_one _) (by have := HB_lsn.out; have := HB_count.out; (try simp only [List.length_append]); omega) (by have := HB_lsn.out; have := HB_count.out; (try simp only [List.length_append]); omega) ((Nat.le_trans HZ1.out HB10.out.size)) (fun A11 c11 w11 ho11 hx11 => ?_)
  have HB11 := Lib.hid (HB10.out.trans hx11)
  simp only [sP]
  refine qAD 8 rfl ?_
  simp only [sP]
  refine rr_done (by kernel_rfl) ?_
  have HBE := Lib.hid (HB11.out.trans ((Ext.drew w11).mono (Nat.le_trans HZ1.out HB11.out.size)))
  go_wp2_with fail
  refine rr_start (belW (w.heap.size + 1)) [0, 1, 4, 6, 9] (by kernel_rfl) ?_
  refine qAD 0 rfl ?_
  simp only [sP]
  refine qAD 1 rfl ?_
  simp only [sP]
  refine qS 2 rfl ⟨.agg (bvs M.sum).toArray, fun w' hx => ex_load_cells 26 (.tmp 42) rfl ⟨w.heap.size, 8, none⟩ rfl (bvs M.sum).toArray _ (fun j u hj => bload (HBE.out.trans hx) (S8.out j u hj) (by rw [Addr.add_lit]; exact Nat.lt_succ_self _)) Tryz.underlying26 rfl (by rw [List.size_toArray, bvs_len, HM.out.ok.sum]; kernel_rfl), ?_⟩
  simp only [sP]
  refine qAD 4 rfl ?_
  simp only [sP]
  refine qS 5 rfl ⟨_, fun w' hx => by have hcx := bload (HBE.out.trans hx) a40 (Nat.lt_succ_self _); (go_simp <;> with_reducible rfl), ?_⟩
  simp only [sP]
  refine qAS 6 rfl ⟨.int .u64 ((size : Nat) : Int), fun w' => by have hcv := HW_size.out; (go_simp <;> with_reducible rfl), ?_⟩
  simp only [sP]
  have q8 := rsum_any (w.heap.size + 1) A11 (Dlsn ++ Dcount) c11 M.sum w11.drew (by have := ho11.below (Ext.drew w11); simpa only [List.length_append] using this) HM.out.ok.sum (Nat.le_trans HZ1.out HBE.out.size) (by have := HB_lsn.out; have := HB_count.out; (try simp only [List.length_append]); omega)
  simp only [List.length_append] at q8
  have Q8 := Lib.hid q8
  clear q8
  refine rr_call 3 Q8.out rfl (by kernel_rfl) (by rfl) (by go_simp) ?_
  rintro e w12 ⟨A12, c12, rfl, ho12, hx12⟩
  have HB12 := Lib.hid (HBE.out.trans hx12)
  refine ⟨_, rfl, hx12, ?_⟩
  simp only [sP]
  refine rr_call 7 (Q_size.out _) rfl (by kernel_rfl) (by rfl) (by go_simp) ?_
  rintro e w13 ⟨A13, c13, rfl, ho13, hx13⟩
  have HB13 := Lib.hid (HB12.out.trans (hx13.mono (Nat.le_trans HZ1.out HB12.out.size)))
  refine ⟨_, rfl, hx13.mono (Nat.le_trans HZ1.out HB12.out.size), ?_⟩
  simp only [sP]
  refine rr_appB 8 rfl (by kernel_rfl) (by rfl) (.tmp 44) (.tmp 48) 22 rfl elemB A12 (Dlsn.length + Dcount.length + M.sum.length) c12 (bvs (Dlsn ++ Dcount ++ M.sum)) rfl A13 (Dsize).length c13 (bvs (Dsize)) rfl (Dlsn.length + Dcount.length + M.sum.length + (Dsize).length) rfl (bvs (Dlsn ++ Dcount ++ M.sum ++ Dsize)) (bvs_app _ _) (ho12.below hx13) (ho13.rd') (bvs_one _) (by have := HB_lsn.out; have := HB_count.out; have := HB_size.out; have := HB_sum.out; (try simp only [List.length_append]); omega) (by have := HB_lsn.out; have := HB_count.out; have := HB_size.out; have := HB_sum.out; (try simp only [List.length_append]); omega) ((Nat.le_trans HZ1.out HB13.out.size)) (fun A14 c14 w14 ho14 hx14 => ?_)
  have HB14 := Lib.hid (HB13.out.trans hx14)
  simp only [sP]
  refine qAD 9 rfl ?_
  simp only [sP]
  refine rr_done (by kernel_rfl) ?_
  have q9 := rsum_any (w.heap.size + 1) A14 (Dlsn ++ Dcount ++ M.sum ++ Dsize) c14 M.file w14 (by simpa only [List.length_append] using ho14) HM.out.ok.file (Nat.le_trans HZ1.out HB14.out.size) (by have := HB_lsn.out; have := HB_count.out; have := HB_size.out; have := HB_sum.out; (try simp only [List.length_append]); omega)
  simp only [List.length_append] at q9
  have Q9 := Lib.hid q9
  have S41b := Lib.hid (fun j u hj => bload HB14.out (S41.out j u hj) (by rw [Addr.add_lit]; exact Nat.lt_succ_self _))
  have i41 : (Tryz.prog.info? 26).map (·.size) = some ((bvs M.file).toArray).size := by rw [List.size_toArray, bvs_len, HM.out.ok.file]; kernel_rfl
  clear q9
  go_wp2_with (first | (refine wpList_load_cells (by rfl) 26 (.tmp 51) rfl ⟨w.heap.size, 41, none⟩ rfl (bvs M.file).toArray _ S41b.out Tryz.underlying26 rfl i41 ?_) | (go_at_call 75; refine Q9.out.mono ?_; rintro e w15 ⟨A15, c15, rfl, ho15, hx15⟩))
  go_ret
  exact laid_end (X := Dlsn ++ Dcount ++ M.sum ++ Dsize ++ M.file) (by show Wm.fields M.x = _; unfold Wm.fields; rw [if_neg (by rw [show M.x.kind = M.kind from rfl, hk]; decide)]; rw [if_neg (by rw [show M.x.kind = M.kind from rfl, hk]; decide)]; rw [if_pos (by rw [show M.x.kind = M.kind from rfl, hk] <;> decide)]; (try unfold Wm.ends); simp only [D_lsn.out, D_count.out, D_size.out, List.append_assoc]; try rfl) (by first | (simp only [List.length_append]; done) | (simp only [List.length_append, List.length_singleton]; done) | rfl) (by simpa only [List.length_append] using ho15) (HXW.out _ (HB14.out.trans hx15))
 ·
  have HQS := Lib.hid (Q_subs.out _ HZ0.out)
  go_wp2_with (first | (go_at_call 76; refine HQS.out.mono ?_; rintro e w16 ⟨A16, c16, rfl, ho16, hx16⟩; refine Hid.out ?_))
  have HB16 := Lib.hid (HZ0.out.trans (hx16.mono HZ1.out))
  have hoA : Own w16 (w.heap.size + 1) 5 1 none (0) 0 (bvs (([] : List UInt8))) := Own.none_ _ _ _ _ _
  refine Lib.hid ?_
  go_wp2_with (at_builtin; refine wpList_app rfl (.tmp 57) (.tmp 60) 22 rfl elemB (w.heap.size + 1) none (0) 0 (bvs (([] : List UInt8))) rfl A16 Dsubs.length c16 (bvs Dsubs) rfl (0 + Dsubs.length) rfl (bvs (([] : List UInt8) ++ Dsubs)) (bvs_app _ _) hoA ho16.rd' (bvs_one _) (by have := HB_subs.out; (try simp only [List.length_append]); omega) (by have := HB_subs.out; (try simp only [List.length_append]); omega) (Nat.le_trans HZ1.out HB16.out.size) ?_; intro A17 c17 w17 ho17 hg17 hr17)
  have HB17 := Lib.hid (HB16.out.trans (below_app (Below.refl _ _) hoA hg17 (Nat.le_trans HZ1.out HB16.out.size)))
  go_ret
  exact laid_end (X := ([] : List UInt8) ++ Dsubs) (by show Wm.fields M.x = _; unfold Wm.fields; rw [if_neg (by rw [show M.x.kind = M.kind from rfl, hk]; decide)]; rw [if_neg (by rw [show M.x.kind = M.kind from rfl, hk]; decide)]; rw [if_neg (by rw [show M.x.kind = M.kind from rfl, hk]; decide)]; rw [if_pos (by rw [show M.x.kind = M.kind from rfl, hk] <;> decide)]; (try unfold Wm.ends); simp only [D_subs.out, List.append_assoc]; try rfl) (by first | (simp only [List.length_append]; done) | (simp; done) | rfl) (by simpa only [List.length_append, List.nil_append, List.length_nil, Nat.zero_add] using ho17) (HXW.out _ HB17.out)
 ·
  go_wp2_with fail
  have HBD := Lib.hid (HZ0.out.trans ((Ext.drew W0).mono HZ1.out))
  refine rr_start (belW (w.heap.size + 1)) [0, 3, 7] (by kernel_rfl) ?_
  refine qAD 0 rfl ?_
  simp only [sP]
  refine qS 1 rfl ⟨_, fun w' hx => by have hcx := bload (HBD.out.trans hx) a3 (Nat.lt_succ_self _); (go_simp <;> with_reducible rfl), ?_⟩
  simp only [sP]
  refine qAD 3 rfl ?_
  simp only [sP]
  refine qS 4 rfl ⟨_, fun w' hx => by have hcx := bload (HBD.out.trans hx) a4 (Nat.lt_succ_self _); (go_simp <;> with_reducible rfl), ?_⟩
  simp only [sP]
  refine rr_call 2 (Q_lo.out _ HBD.out) rfl (by kernel_rfl) (by rfl) (by go_simp) ?_
  rintro e w18 ⟨A18, c18, rfl, ho18, hx18⟩
  have HB18 := Lib.hid (HBD.out.trans (hx18.mono (Nat.le_trans HZ1.out HBD.out.size)))
  refine ⟨_, rfl, hx18.mono (Nat.le_trans HZ1.out HBD.out.size), ?_⟩
  simp only [sP]
  refine rr_call 5 (Q_hi.out _ HB18.out) rfl (by kernel_rfl) (by rfl) (by go_simp) ?_
  rintro e w19 ⟨A19, c19, rfl, ho19, hx19⟩
  have HB19 := Lib.hid (HB18.out.trans (hx19.mono (Nat.le_trans HZ1.out HB18.out.size)))
  refine ⟨_, rfl, hx19.mono (Nat.le_trans HZ1.out HB18.out.size), ?_⟩
  simp only [sP]
  refine rr_appB 6 rfl (by kernel_rfl) (by rfl) (.tmp 15) (.tmp 18) 22 rfl elemB A18 (Dlo.length) c18 (bvs (Dlo)) rfl A19 (Dhi).length c19 (bvs (Dhi)) rfl (Dlo.length + (Dhi).length) rfl (bvs (Dlo ++ Dhi)) (bvs_app _ _) ((ho18.below hx19).mono (Nat.le_trans HZ1.out HBD.out.size)) (ho19.rd') (bvs_one _) (by have := HB_lo.out; have := HB_hi.out; (try simp only [List.length_append]); omega) (by have := HB_lo.out; have := HB_hi.out; (try simp only [List.length_append]); omega) ((Nat.le_trans HZ1.out HB19.out.size)) (fun A20 c20 w20 ho20 hx20 => ?_)
  have HB20 := Lib.hid (HB19.out.trans hx20)
  simp only [sP]
  refine qAD 7 rfl ?_
  simp only [sP]
  refine rr_done (by kernel_rfl) ?_
  have a0 := bload HB20.out a0 (Nat.lt_succ_self _)
  have a73 := bload HB20.out a73 (Nat.lt_succ_self _)
  have HQS := Lib.hid (Q_subs.out _ HB20.out)
  go_wp2_with (first | (go_at_call 76; refine HQS.out.mono ?_; rintro e w21 ⟨A21, c21, rfl, ho21, hx21⟩; refine Hid.out ?_))
  have HB21 := Lib.hid (HB20.out.trans (hx21.mono (Nat.le_trans HZ1.out HB20.out.size)))
  have hoA : Own w21 (w.heap.size + 1) 5 1 A20 (Dlo.length + Dhi.length) c20 (bvs (Dlo ++ Dhi)) := ho20.below hx21
  refine Lib.hid ?_
  go_wp2_with (at_builtin; refine wpList_app rfl (.tmp 57) (.tmp 60) 22 rfl elemB (w.heap.size + 1) A20 (Dlo.length + Dhi.length) c20 (bvs (Dlo ++ Dhi)) rfl A21 Dsubs.length c21 (bvs Dsubs) rfl (Dlo.length + Dhi.length + Dsubs.length) rfl (bvs (Dlo ++ Dhi ++ Dsubs)) (bvs_app _ _) hoA ho21.rd' (bvs_one _) (by have := HB_lo.out; have := HB_hi.out; have := HB_subs.out; (try simp only [List.length_append]); omega) (by have := HB_lo.out; have := HB_hi.out; have := HB_subs.out; (try simp only [List.length_append]); omega) (Nat.le_trans HZ1.out HB21.out.size) ?_; intro A22 c22 w22 ho22 hg22 hr22)
  have HB22 := Lib.hid (HB21.out.trans (below_app (Below.refl _ _) hoA hg22 (Nat.le_trans HZ1.out HB21.out.size)))
  go_ret
  exact laid_end (X := Dlo ++ Dhi ++ Dsubs) (by show Wm.fields M.x = _; unfold Wm.fields; rw [if_neg (by rw [show M.x.kind = M.kind from rfl, hk]; decide)]; rw [if_neg (by rw [show M.x.kind = M.kind from rfl, hk]; decide)]; rw [if_neg (by rw [show M.x.kind = M.kind from rfl, hk]; decide)]; rw [if_neg (by rw [show M.x.kind = M.kind from rfl, hk]; decide)]; rw [if_pos (by rw [show M.x.kind = M.kind from rfl, hk] <;> decide)]; (try unfold Wm.ends); simp only [D_lo.out, D_hi.out, D_subs.out, List.append_assoc]; try rfl) (by first | (simp only [List.length_append]; done) | (simp; done) | rfl) (by simpa only [List.length_append, List.nil_append, List.length_nil, Nat.zero_add] using ho22) (HXW.out _ HB22.out)
 ·
  go_wp2_with fail
  have HBD := Lib.hid (HZ0.out.trans ((Ext.drew W0).mono HZ1.out))
  refine rr_start (belW (w.heap.size + 1)) [0, 3, 7] (by kernel_rfl) ?_
  refine qAD 0 rfl ?_
  simp only [sP]
  refine qS 1 rfl ⟨_, fun w' hx => by have hcx := bload (HBD.out.trans hx) a3 (Nat.lt_succ_self _); (go_simp <;> with_reducible rfl), ?_⟩
  simp only [sP]
  refine qAD 3 rfl ?_
  simp only [sP]
  refine qS 4 rfl ⟨_, fun w' hx => by have hcx := bload (HBD.out.trans hx) a4 (Nat.lt_succ_self _); (go_simp <;> with_reducible rfl), ?_⟩
  simp only [sP]
  refine rr_call 2 (Q_lo.out _ HBD.out) rfl (by kernel_rfl) (by rfl) (by go_simp) ?_
  rintro e w23 ⟨A23, c23, rfl, ho23, hx23⟩
  have HB23 := Lib.hid (HBD.out.trans (hx23.mono (Nat.le_trans HZ1.out HBD.out.size)))
  refine ⟨_, rfl, hx23.mono (Nat.le_trans HZ1.out HBD.out.size), ?_⟩
  simp only [sP]
  refine rr_call 5 (Q_hi.out _ HB23.out) rfl (by kernel_rfl) (by rfl) (by go_simp) ?_
  rintro e w24 ⟨A24, c24, rfl, ho24, hx24⟩
  have HB24 := Lib.hid (HB23.out.trans (hx24.mono (Nat.le_trans HZ1.out HB23.out.size)))
  refine ⟨_, rfl, hx24.mono (Nat.le_trans HZ1.out HB23.out.size), ?_⟩
  simp only [sP]
  refine rr_appB 6 rfl (by kernel_rfl) (by rfl) (.tmp 15) (.tmp 18) 22 rfl elemB A23 (Dlo.length) c23 (bvs (Dlo)) rfl A24 (Dhi).length c24 (bvs (Dhi)) rfl (Dlo.length + (Dhi).length) rfl (bvs (Dlo ++ Dhi)) (bvs_app _ _) ((ho23.below hx24).mono (Nat.le_trans HZ1.out HBD.out.size)) (ho24.rd') (bvs_one _) (by have := HB_lo.out; have := HB_hi.out; (try simp only [List.length_append]); omega) (by have := HB_lo.out; have := HB_hi.out; (try simp only [List.length_append]); omega) ((Nat.le_trans HZ1.out HB24.out.size)) (fun A25 c25 w25 ho25 hx25 => ?_)
  have HB25 := Lib.hid (HB24.out.trans hx25)
  simp only [sP]
  refine qAD 7 rfl ?_
  simp only [sP]
  refine rr_done (by kernel_rfl) ?_
  have a0 := bload HB25.out a0 (Nat.lt_succ_self _)
  have a74 := bload HB25.out a74 (Nat.lt_succ_self _)
  obtain ⟨mv, hmv⟩ : ∃ mv : UInt8, mv = if M.more = true then 1 else 0 := ⟨_, rfl⟩
  have D_mv := Lib.hid (show [if M.more = true then (1 : UInt8) else 0] = [mv] by rw [hmv])
  have HB_mv := Lib.hid (show [mv].length ≤ 50 by simp)
  have HMV := Lib.hid hmv
  clear hmv
  cases hmo : M.more with
  | false =>
   have hmv2 : mv = 0 := by rw [HMV.out, hmo]; rfl
   subst hmv2
   rw [hmo] at a74
   have HBD2 := Lib.hid (HB25.out.trans ((Ext.drew w25).mono (Nat.le_trans HZ1.out HB25.out.size)))
   go_wp2_with fail
   refine rr_start (belW (w.heap.size + 1)) [0, 1, 4, 8] (by kernel_rfl) ?_
   refine qAD 0 rfl ?_
   simp only [sP]
   refine qAD 1 rfl ?_
   simp only [sP]
   refine qAD 4 rfl ?_
   simp only [sP]
   refine qS 5 rfl ⟨_, fun w' hx => by have hcx := bload (HBD2.out.trans hx) a75 (Nat.lt_succ_self _); (go_simp <;> with_reducible rfl), ?_⟩
   simp only [sP]
   refine rr_make 2 rfl (by kernel_rfl) (by rfl) ⟨_, _, by (go_simp <;> first | exact ⟨rfl, rfl⟩ | rfl), (Ext.alloc _ _).mono (Nat.le_trans HZ1.out HBD2.out.size), ?_⟩
   simp only [sP]
   have HB26 := Lib.hid (HBD2.out.trans ((Ext.alloc w25.drew (.cells #[.int .u8 0] 5)).mono (Nat.le_trans HZ1.out HBD2.out.size)))
   refine rr_appB 3 rfl (by kernel_rfl) (by rfl) (.tmp 66) (.tmp 68) 22 rfl elemB A25 (Dlo.length + Dhi.length) c25 (bvs (Dlo ++ Dhi)) rfl (some ⟨w25.heap.size, 0, none⟩) ([(0 : UInt8)]).length 1 (bvs ([(0 : UInt8)])) rfl (Dlo.length + Dhi.length + ([(0 : UInt8)]).length) rfl (bvs (Dlo ++ Dhi ++ [(0 : UInt8)])) (bvs_app _ _) ((ho25.below (Ext.drew w25)).below (Ext.alloc _ _)) (Rd.new w25.drew 5 [.int .u8 0]) (bvs_one _) (by have := HB_lo.out; have := HB_hi.out; have := HB_mv.out; (try simp only [List.length_append]); omega) (by have := HB_lo.out; have := HB_hi.out; have := HB_mv.out; (try simp only [List.length_append]); omega) ((Nat.le_trans HZ1.out HB26.out.size)) (fun A27 c27 w27 ho27 hx27 => ?_)
   have HB27 := Lib.hid (HB26.out.trans hx27)
   simp only [sP]
   refine rr_call 6 (Q_ents.out _ HB27.out) rfl (by kernel_rfl) (by rfl) (by go_simp) ?_
   rintro e w28 ⟨A28, c28, rfl, ho28, hx28⟩
   have HB28 := Lib.hid (HB27.out.trans (hx28.mono (Nat.le_trans HZ1.out HB27.out.size)))
   refine ⟨_, rfl, hx28.mono (Nat.le_trans HZ1.out HB27.out.size), ?_⟩
   simp only [sP]
   refine rr_appB 7 rfl (by kernel_rfl) (by rfl) (.tmp 69) (.tmp 72) 22 rfl elemB A27 (Dlo.length + Dhi.length + [(0 : UInt8)].length) c27 (bvs (Dlo ++ Dhi ++ [(0 : UInt8)])) rfl A28 (Dents).length c28 (bvs (Dents)) rfl (Dlo.length + Dhi.length + [(0 : UInt8)].length + (Dents).length) rfl (bvs (Dlo ++ Dhi ++ [(0 : UInt8)] ++ Dents)) (bvs_app _ _) (ho27.below hx28) (ho28.rd') (bvs_one _) (by have := HB_lo.out; have := HB_hi.out; have := HB_mv.out; have := HB_ents.out; (try simp only [List.length_append]); omega) (by have := HB_lo.out; have := HB_hi.out; have := HB_mv.out; have := HB_ents.out; (try simp only [List.length_append]); omega) ((Nat.le_trans HZ1.out HB28.out.size)) (fun A29 c29 w29 ho29 hx29 => ?_)
   have HB29 := Lib.hid (HB28.out.trans hx29)
   simp only [sP]
   refine qAD 8 rfl ?_
   simp only [sP]
   refine rr_done (by kernel_rfl) ?_
   go_wp2_with fail
   go_ret
   exact laid_end (X := Dlo ++ Dhi ++ [(0 : UInt8)] ++ Dents) (by have dm := D_mv.out; show Wm.fields M.x = _; unfold Wm.fields; rw [if_neg (by rw [show M.x.kind = M.kind from rfl, hk]; decide)]; rw [if_neg (by rw [show M.x.kind = M.kind from rfl, hk]; decide)]; rw [if_neg (by rw [show M.x.kind = M.kind from rfl, hk]; decide)]; rw [if_neg (by rw [show M.x.kind = M.kind from rfl, hk]; decide)]; rw [if_neg (by rw [show M.x.kind = M.kind from rfl, hk]; decide)]; rw [if_pos (by rw [show M.x.kind = M.kind from rfl, hk] <;> decide)]; (try unfold Wm.ends); rw [show M.x.more = M.more from rfl, dm]; simp only [D_lo.out, D_hi.out, D_ents.out, List.append_assoc]; try rfl) (by first | (simp only [List.length_append]; done) | (simp only [List.length_append, List.length_singleton]; done) | rfl) (by simpa only [List.length_append] using ho29) (HXW.out _ HB29.out)
  | true =>
   have hmv2 : mv = 1 := by rw [HMV.out, hmo]; rfl
   subst hmv2
   rw [hmo] at a74
   have HBD2 := Lib.hid (HB25.out.trans ((Ext.drew w25).mono (Nat.le_trans HZ1.out HB25.out.size)))
   go_wp2_with fail
   refine rr_start (belW (w.heap.size + 1)) [0, 1, 4, 8] (by kernel_rfl) ?_
   refine qAD 0 rfl ?_
   simp only [sP]
   refine qAD 1 rfl ?_
   simp only [sP]
   refine qAD 4 rfl ?_
   simp only [sP]
   refine qS 5 rfl ⟨_, fun w' hx => by have hcx := bload (HBD2.out.trans hx) a75 (Nat.lt_succ_self _); (go_simp <;> with_reducible rfl), ?_⟩
   simp only [sP]
   refine rr_make 2 rfl (by kernel_rfl) (by rfl) ⟨_, _, by (go_simp <;> first | exact ⟨rfl, rfl⟩ | rfl), (Ext.alloc _ _).mono (Nat.le_trans HZ1.out HBD2.out.size), ?_⟩
   simp only [sP]
   have HB30 := Lib.hid (HBD2.out.trans ((Ext.alloc w25.drew (.cells #[.int .u8 1] 5)).mono (Nat.le_trans HZ1.out HBD2.out.size)))
   refine rr_appB 3 rfl (by kernel_rfl) (by rfl) (.tmp 66) (.tmp 68) 22 rfl elemB A25 (Dlo.length + Dhi.length) c25 (bvs (Dlo ++ Dhi)) rfl (some ⟨w25.heap.size, 0, none⟩) ([(1 : UInt8)]).length 1 (bvs ([(1 : UInt8)])) rfl (Dlo.length + Dhi.length + ([(1 : UInt8)]).length) rfl (bvs (Dlo ++ Dhi ++ [(1 : UInt8)])) (bvs_app _ _) ((ho25.below (Ext.drew w25)).below (Ext.alloc _ _)) (Rd.new w25.drew 5 [.int .u8 1]) (bvs_one _) (by have := HB_lo.out; have := HB_hi.out; have := HB_mv.out; (try simp only [List.length_append]); omega) (by have := HB_lo.out; have := HB_hi.out; have := HB_mv.out; (try simp only [List.length_append]); omega) ((Nat.le_trans HZ1.out HB30.out.size)) (fun A31 c31 w31 ho31 hx31 => ?_)
   have HB31 := Lib.hid (HB30.out.trans hx31)
   simp only [sP]
   refine rr_call 6 (Q_ents.out _ HB31.out) rfl (by kernel_rfl) (by rfl) (by go_simp) ?_
   rintro e w32 ⟨A32, c32, rfl, ho32, hx32⟩
   have HB32 := Lib.hid (HB31.out.trans (hx32.mono (Nat.le_trans HZ1.out HB31.out.size)))
   refine ⟨_, rfl, hx32.mono (Nat.le_trans HZ1.out HB31.out.size), ?_⟩
   simp only [sP]
   refine rr_appB 7 rfl (by kernel_rfl) (by rfl) (.tmp 69) (.tmp 72) 22 rfl elemB A31 (Dlo.length + Dhi.length + [(1 : UInt8)].length) c31 (bvs (Dlo ++ Dhi ++ [(1 : UInt8)])) rfl A32 (Dents).length c32 (bvs (Dents)) rfl (Dlo.length + Dhi.length + [(1 : UInt8)].length + (Dents).length) rfl (bvs (Dlo ++ Dhi ++ [(1 : UInt8)] ++ Dents)) (bvs_app _ _) (ho31.below hx32) (ho32.rd') (bvs_one _) (by have := HB_lo.out; have := HB_hi.out; have := HB_mv.out; have := HB_ents.out; (try simp only [List.length_append]); omega) (by have := HB_lo.out; have := HB_hi.out; have := HB_mv.out; have := HB_ents.out; (try simp only [List.length_append]); omega) ((Nat.le_trans HZ1.out HB32.out.size)) (fun A33 c33 w33 ho33 hx33 => ?_)
   have HB33 := Lib.hid (HB32.out.trans hx33)
   simp only [sP]
   refine qAD 8 rfl ?_
   simp only [sP]
   refine rr_done (by kernel_rfl) ?_
   go_wp2_with fail
   go_ret
   exact laid_end (X := Dlo ++ Dhi ++ [(1 : UInt8)] ++ Dents) (by have dm := D_mv.out; show Wm.fields M.x = _; unfold Wm.fields; rw [if_neg (by rw [show M.x.kind = M.kind from rfl, hk]; decide)]; rw [if_neg (by rw [show M.x.kind = M.kind from rfl, hk]; decide)]; rw [if_neg (by rw [show M.x.kind = M.kind from rfl, hk]; decide)]; rw [if_neg (by rw [show M.x.kind = M.kind from rfl, hk]; decide)]; rw [if_neg (by rw [show M.x.kind = M.kind from rfl, hk]; decide)]; rw [if_pos (by rw [show M.x.kind = M.kind from rfl, hk] <;> decide)]; (try unfold Wm.ends); rw [show M.x.more = M.more from rfl, dm]; simp only [D_lo.out, D_hi.out, D_ents.out, List.append_assoc]; try rfl) (by first | (simp only [List.length_append]; done) | (simp only [List.length_append, List.length_singleton]; done) | rfl) (by simpa only [List.length_append] using ho33) (HXW.out _ HB33.out)
 ·
  go_wp2_with (go_at_call 74; refine (Q_n.out _).mono ?_; rintro e w34 ⟨A34, c34, rfl, ho34, hx34⟩; refine Hid.out ?_)
  have HB34 := Lib.hid (HZ0.out.trans (hx34.mono HZ1.out))
  have ho34 := ho34.mono HZ1.out
  have a0 := bload HB34.out a0 (Nat.lt_succ_self _)
  have a76 := bload HB34.out a76 (Nat.lt_succ_self _)
  have a77 := bload HB34.out a77 (Nat.lt_succ_self _)
  refine Lib.hid ?_
  have HDN := Lib.hid (show Own w34 (w.heap.size + 1) 5 1 A34 Dn.length c34 (bvs Dn) from ho34)
  go_wp2_with fail
  go_loopw [3, 5] (fun x i wr => ∃ (k : Nat) (A1 : Option Addr) (c1 : Nat), k ≤ M.sigs.length ∧ i = .int .i64 k ∧ x = .slice A1 (Dn ++ Wg.layL (M.sigs.take k)).length c1 ∧ Own wr (w.heap.size + 1) 5 1 A1 (Dn ++ Wg.layL (M.sigs.take k)).length c1 (bvs (Dn ++ Wg.layL (M.sigs.take k))) ∧ Below (w.heap.size + 1) W0 wr) (fun _ i _ => M.sigs.length - (intOf i).toNat)
  case atStart => exact ⟨0, A34, c34, by omega, rfl, by simp [Wg.layL], by simpa [Wg.layL] using HDN.out, HB34.out⟩
  case round =>
   obtain ⟨k, A1, c1, hkk, rfl, rfl, ho, hb⟩ := hrel
   have HBr := Lib.hid hb
   have hsg : M.sigs.length ≤ 60 := HSG.out
   have a76 := bload hb A76.out (Nat.lt_succ_self _)
   by_cases h : k < M.sigs.length
   ·
    obtain ⟨ad, hga, hcs, hok⟩ := HM.out.gr.at_ h
    have hsn := Wg.layL_snoc M.sigs k h
    have hbn : (Dn ++ Wg.layL (M.sigs.take k)).length ≤ 20000 := by
     have h1 := Wg.layL_len (l := M.sigs.take k) (fun s hs => HM.out.gr.ok s (List.mem_of_mem_take hs))
     have h2 := HB_n.out
     have h3 := HSG.out
     rw [List.length_append, h1, List.length_take]; omega
    have y0 : w.cell? (ad.add (k * 33)) = some (.int .u32 (M.sigs[k].weak : Int)) := hcs 0 _ rfl
    have y1 : ∀ j u, ((bvs M.sigs[k].strong).toArray)[j]? = some u → w.cell? ((⟨(ad.add (k * 33)).block, (ad.add (k * 33)).off + 1, none⟩ : Addr).add j) = some u := fun j u hj => by
     have := hcs (1 + j) u (by
      show M.sigs[k].cl.toArray[1 + j]? = some u
      rw [List.getElem?_toArray, Nat.add_comm]
      unfold Wg.cl
      rw [List.getElem?_cons_succ]
      simpa using hj)
     rw [← add_add'] at this
     exact this
    have ik : (0 : Int) ≤ (k : Int) := by omega
    have ik2 : (k : Int) < (M.sigs.length : Int) := by omega
    obtain ⟨y, hy⟩ : ∃ y, y = M.sigs[k] := ⟨_, rfl⟩
    rw [← hy] at y0 y1 hsn hok
    have q3 := fun W => ref_fixed01 y.weak (Nat.lt_trans hok.w (by omega)) 4 W
    have b3 := fixed_len4 y.weak
    have hlay : y.lay = Vint.fixed y.weak 4 ++ y.strong := rfl
    rw [hlay] at hsn
    have hwk : IntKind.u64.wrap (y.weak : Int) = (y.weak : Int) := by have := hok.w; rw [IntKind.wrap_u64]; omega
    obtain ⟨D1, hD1⟩ : ∃ D, D = Vint.fixed y.weak 4 := ⟨_, rfl⟩
    obtain ⟨D5, hD5⟩ : ∃ D, D = y.strong := ⟨_, rfl⟩
    have hs5 : D5.length = 32 := by rw [hD5]; exact hok.len
    rw [← hD1] at q3 b3 hsn
    rw [← hD5] at hsn y1
    obtain ⟨b, hbd⟩ : ∃ b, b = Dn ++ Wg.layL (M.sigs.take k) := ⟨_, rfl⟩
    have hnext : Dn ++ Wg.layL (M.sigs.take (k + 1)) = b ++ D1 ++ D5 := by rw [hsn, hbd]; simp only [List.append_assoc]
    rw [← hbd] at ho hbn ⊢
    obtain ⟨wk, hwkd⟩ : ∃ n, n = y.weak := ⟨_, rfl⟩
    rw [← hwkd] at y0 q3 hwk
    rw [hga] at a76
    have Q3 := Lib.hid q3
    have HB_D1 := Lib.hid (show D1.length ≤ 50 by omega)
    have HB_b := Lib.hid hbn
    have HNX := Lib.hid hnext
    have HS5 := Lib.hid hs5
    have HW_wk := Lib.hid hwk
    have HBD := Lib.hid (hb.trans ((Ext.drew wr).mono (Nat.le_trans HZ1.out hb.size)))
    have Y0 := Lib.hid (Ext.load X0.out y0)
    have hadlt : (ad.add (k * 33)).block < w.heap.size + 1 := Nat.lt_succ_of_lt (World.block_lt_of_cell? _ _ y0)
    have Y1 := Lib.hid (fun j u hj => Ext.load X0.out (y1 j u hj))
    have i5 : (Tryz.prog.info? 26).map (·.size) = some ((bvs D5).toArray).size := by rw [List.size_toArray, bvs_len, hs5]; kernel_rfl
    clear q3 b3 hbn hnext hs5 hwk hy hsn hok hcs hlay hD1 hD5 hbd hb y0 y1 hwkd
    go_wp2_with fail
    have a76 := bload ((Ext.drew wr).mono (Nat.le_trans HZ1.out HBr.out.size)) a76 (Nat.lt_succ_self _)
    refine rr_start (belW (w.heap.size + 1)) [0, 1, 3, 5, 7, 10, 12, 14, 17] (by kernel_rfl) ?_
    refine qAD 0 rfl ?_
    simp only [sP]
    refine qAD 1 rfl ?_
    simp only [sP]
    refine qS 2 rfl ⟨_, fun w' hx => by have hcx := bload hx a76 (Nat.lt_succ_self _); (go_simp <;> with_reducible rfl), ?_⟩
    simp only [sP]
    refine qAD 3 rfl ?_
    simp only [sP]
    refine qD 4 rfl ?_
    simp only [sP]
    refine qAD 5 rfl ?_
    simp only [sP]
    refine qS 6 rfl ⟨_, fun w' hx => by have hcx := bload (HBD.out.trans hx) Y0.out hadlt; (go_simp <;> with_reducible rfl), ?_⟩
    simp only [sP]
    refine qAS 7 rfl ⟨.int .u64 ((wk : Nat) : Int), fun w' => by have hcv := HW_wk.out; (go_simp <;> with_reducible rfl), ?_⟩
    simp only [sP]
    refine qAD 10 rfl ?_
    simp only [sP]
    refine qS 11 rfl ⟨_, fun w' hx => by have hcx := bload hx a76 (Nat.lt_succ_self _); (go_simp <;> with_reducible rfl), ?_⟩
    simp only [sP]
    refine qAD 12 rfl ?_
    simp only [sP]
    refine qD 13 rfl ?_
    simp only [sP]
    refine qAD 14 rfl ?_
    simp only [sP]
    refine qS 15 rfl ⟨.agg (bvs D5).toArray, fun w' hx => ex_load_cells 26 (.tmp 97) rfl ⟨(ad.add (k * 33)).block, (ad.add (k * 33)).off + 1, none⟩ rfl (bvs D5).toArray _ (fun j u hj => bload (HBD.out.trans hx) (Y1.out j u hj) (by rw [Addr.add_lit]; exact hadlt)) Tryz.underlying26 rfl i5, ?_⟩
    simp only [sP]
    refine rr_call 8 (Q3.out _) rfl (by kernel_rfl) (by rfl) (by go_simp) ?_
    rintro e w35 ⟨A35, c35, rfl, ho35, hx35⟩
    have HB35 := Lib.hid (HBD.out.trans (hx35.mono (Nat.le_trans HZ1.out HBD.out.size)))
    refine ⟨_, rfl, hx35.mono (Nat.le_trans HZ1.out HBD.out.size), ?_⟩
    simp only [sP]
    refine rr_appB 9 rfl (by kernel_rfl) (by rfl) (.tmp 83) (.tmp 91) 22 rfl elemB A1 (b.length) c1 (bvs (b)) rfl A35 (D1).length c35 (bvs (D1)) rfl (b.length + (D1).length) rfl (bvs (b ++ D1)) (bvs_app _ _) ((ho.below (Ext.drew wr)).below hx35) (ho35.rd') (bvs_one _) (by have := HB_b.out; have := HB_D1.out; (try simp only [List.length_append]); omega) (by have := HB_b.out; have := HB_D1.out; (try simp only [List.length_append]); omega) ((Nat.le_trans HZ1.out HB35.out.size)) (fun A36 c36 w36 ho36 hx36 => ?_)
    have HB36 := Lib.hid (HB35.out.trans hx36)
    simp only [sP]
    have q8 := rsum_any (w.heap.size + 1) A36 (b ++ D1) c36 D5 w36 (by simpa only [List.length_append] using ho36) HS5.out (Nat.le_trans HZ1.out HB36.out.size) (by have := HB_b.out; have := HB_D1.out; (try simp only [List.length_append]); omega)
    simp only [List.length_append] at q8
    have Q8 := Lib.hid q8
    clear q8
    refine rr_call 16 Q8.out rfl (by kernel_rfl) (by rfl) (by go_simp) ?_
    rintro e w37 ⟨A37, c37, rfl, ho37, hx37⟩
    have HB37 := Lib.hid (HB36.out.trans hx37)
    refine ⟨_, rfl, hx37, ?_⟩
    simp only [sP]
    refine qAD 17 rfl ?_
    simp only [sP]
    refine rr_done (by kernel_rfl) ?_
    go_wp2_with fail
    go_roundw
    case rel => exact ⟨k + 1, A37, c37, by omega, by go_num, by rw [HNX.out]; simp only [List.length_append], by rw [HNX.out]; simpa only [List.length_append] using ho37, HB37.out⟩
    case measure => simp [intOf]; omega
   ·
    obtain rfl : k = M.sigs.length := by omega
    rw [List.take_of_length_le (Nat.le_refl _)] at ho ⊢
    go_wp2_with fail
    go_ret
    exact laid_end (X := Dn ++ Wg.layL M.sigs) (by show Wm.fields M.x = _; unfold Wm.fields; rw [if_neg (by rw [show M.x.kind = M.kind from rfl, hk]; decide)]; rw [if_neg (by rw [show M.x.kind = M.kind from rfl, hk]; decide)]; rw [if_neg (by rw [show M.x.kind = M.kind from rfl, hk]; decide)]; rw [if_neg (by rw [show M.x.kind = M.kind from rfl, hk]; decide)]; rw [if_neg (by rw [show M.x.kind = M.kind from rfl, hk]; decide)]; rw [if_neg (by rw [show M.x.kind = M.kind from rfl, hk]; decide)]; rw [if_pos (by rw [show M.x.kind = M.kind from rfl, hk] <;> decide)]; (try unfold Wm.ends); simp only [D_n.out, List.append_assoc]; try rfl) rfl ho (HXW.out _ HBr.out)
 ·
  go_wp2_with (go_at_call 74; refine (Q_n.out _).mono ?_; rintro e w38 ⟨A38, c38, rfl, ho38, hx38⟩; refine Hid.out ?_)
  have HB38 := Lib.hid (HZ0.out.trans (hx38.mono HZ1.out))
  have ho38 := ho38.mono HZ1.out
  have a0 := bload HB38.out a0 (Nat.lt_succ_self _)
  have a76 := bload HB38.out a76 (Nat.lt_succ_self _)
  have a77 := bload HB38.out a77 (Nat.lt_succ_self _)
  refine Lib.hid ?_
  have hoA : Own w38 (w.heap.size + 1) 5 1 A38 Dn.length c38 (bvs Dn) := ho38
  have hrdD := HM.out.dr.below (HXW.out _ HB38.out)
  go_wp2_with (at_builtin; refine wpList_app rfl (.tmp 102) (.tmp 104) 22 rfl elemB (w.heap.size + 1) A38 Dn.length c38 (bvs Dn) rfl M.da M.data.length M.dc (bvs M.data) rfl (Dn.length + M.data.length) rfl (bvs (Dn ++ M.data)) (bvs_app _ _) hoA hrdD (bvs_one _) (by have := HB_n.out; have := HDA.out; omega) (by have := HB_n.out; have := HDA.out; omega) (Nat.le_trans HZ1.out HB38.out.size) ?_; intro A39 c39 w39 ho39 hg39 hr39)
  have HB39 := Lib.hid (HB38.out.trans (below_app (Below.refl _ _) hoA hg39 (Nat.le_trans HZ1.out HB38.out.size)))
  go_ret
  exact laid_end (X := Dn ++ M.data) (by show Wm.fields M.x = _; unfold Wm.fields; rw [if_neg (by rw [show M.x.kind = M.kind from rfl, hk]; decide)]; rw [if_neg (by rw [show M.x.kind = M.kind from rfl, hk]; decide)]; rw [if_neg (by rw [show M.x.kind = M.kind from rfl, hk]; decide)]; rw [if_neg (by rw [show M.x.kind = M.kind from rfl, hk]; decide)]; rw [if_neg (by rw [show M.x.kind = M.kind from rfl, hk]; decide)]; rw [if_neg (by rw [show M.x.kind = M.kind from rfl, hk]; decide)]; rw [if_neg (by rw [show M.x.kind = M.kind from rfl, hk]; decide)]; rw [if_pos (by rw [show M.x.kind = M.kind from rfl, hk] <;> decide)]; (try unfold Wm.ends); simp only [D_n.out, List.append_assoc]; try rfl) (by simp only [List.length_append]) (by simpa only [List.length_append] using ho39) (HXW.out _ HB39.out)
end Go.Proofs.YtjholekgdnhpkaaGreat
