/- Texts of the proof, laid together: WpE. -/
import Derived.Test.YtjholekgdnhpkaaGreatZ25
import Derived.Test.YtjholekgdnhpkaaGreatZ28
import Derived.Test.YtjholekgdnhpkaaGreatZ24
set_option linter.unusedVariables false
set_option linter.unusedSimpArgs false
set_option linter.unusedSectionVars false
namespace Go.Proofs.YtjholekgdnhpkaaGreat
open Go.RowKit
attribute [local go_sem] Oper.semAt_some
theorem Wm.known_small {k : Int} (h : Wm.known k = true) : 0 ≤ k ∧ k ≤ 22 := by
 simp only [Wm.known, Bool.or_eq_true, decide_eq_true_eq] at h
 omega
theorem Wm.put_may {m : Wm} (h : m.may = true) : m.put = if 8000 < (Crc.put m.laid).length then ([], 1) else (Crc.put m.laid, 0) := by
 have hm := (Wm.may_iff m).1 h
 have hr : m.right = true := by
  unfold Wm.may at h
  rw [Bool.and_eq_true] at h
  exact h.2
 have hk := Wm.known_small hm.known
 exact if_pos ⟨⟨⟨hr, hk.1, by omega⟩, hm.known⟩, hm.only⟩
theorem Wm.put_maynot {m : Wm} (h : m.may = false) : m.put = ([], 240) := by
 refine if_neg fun hc => ?_
 have : m.may = true := by
  unfold Wm.may
  rw [hc.1.1.1, hc.1.2, decide_eq_true hc.2]
  rfl
 rw [h] at this
 cases this
set_option maxRecDepth 100000 in
set_option maxHeartbeats 8000000 in
theorem rput_any (M : WmV) (w : World) (hM : M.In w) (f1 : M.subs.length ≤ 100000) (f2 : M.data.length ≤ 64 → M.lo.length ≤ 24 → M.hi.length ≤ 24 → Ent.total (M.ents.map EnV.x) + 20 * M.ents.length ≤ 900000) (f3 : M.ents.length ≤ 900000) (f5 : M.sigs.length ≤ 1000000) :
  Calls Tryz.prog 18 #[.agg M.cells] w (WPut M.x w) := by
 obtain ⟨W0, hW0⟩ : ∃ W0, W0 = w.alloc (.cells M.cells MT) := ⟨_, rfl⟩
 have hx0 : Ext w W0 := by rw [hW0]; exact Ext.alloc _ _
 have g0 : W0.heap[w.heap.size]? = some (.cells M.cells MT (0, 0)) := by rw [hW0]; exact heap_alloc_new w _
 have hz0 : w.heap.size + 1 ≤ W0.heap.size := lt_of_heap g0
 have a0 : W0.cell? ⟨w.heap.size, 0, none⟩ = _ := (cell_of_row _ _ 0 _ _ _ g0).trans (WmV.at0 M)
 have a1 : W0.cell? ⟨w.heap.size, 1, none⟩ = _ := (cell_of_row _ _ 1 _ _ _ g0).trans (WmV.at1 M)
 have a2 : W0.cell? ⟨w.heap.size, 2, none⟩ = _ := (cell_of_row _ _ 2 _ _ _ g0).trans (WmV.at2 M)
 have i0 := WmV.info hM.ok
 have hmy := rmay_any M W0 (hM.ext hx0) (by omega) (by omega) f5
 have hxw : ∀ W, Below (w.heap.size + 1) W0 W → Ext w W := fun W h => hx0.trans (h.mono (Nat.le_succ _))
 obtain ⟨R, hR⟩ : ∃ R, R = Wm.may M.x := ⟨_, rfl⟩
 rw [← hR] at hmy
 have HM := Lib.hid hM
 obtain ⟨P, hP⟩ : ∃ P, P = M.cells := ⟨_, rfl⟩
 rw [← hP] at hW0 g0 hmy i0 ⊢
 have HW0 := Lib.hid hW0
 have HP := Lib.hid hP
 have HMY := Lib.hid hmy
 have HR := Lib.hid hR
 have X0 := Lib.hid hx0
 have HXW := Lib.hid hxw
 have G0 := Lib.hid g0
 have HZ1 := Lib.hid hz0
 have iP := Lib.hid i0
 clear hW0 hP hmy hR hx0 hxw hM hz0
 go_enter Tryz.func18, Tryz.ntmps18
 go_wp2_with (first | (rw [← HW0.out]; refine wpList_load_rowG (by rfl) MT (.tmp 1) rfl w.heap.size rfl MT P (0, 0) _ g0 Tryz.underlying31 rfl i0 ?_) | (go_at_call 40; refine HMY.out.mono ?_; rintro e1 w1 ⟨rfl, hx1⟩; refine Hid.out ?_))
 have X01 := Lib.hid hx1
 have HB1 := Lib.hid (show Below (w.heap.size + 1) W0 w1 from hx1.mono HZ1.out)
 clear hx1 i0
 refine Lib.hid ?_
 cases R with
 | false =>
  have hno := Wm.put_maynot HR.out.symm
  have HNO := Lib.hid hno
  clear hno
  go_wp2_with fail
  (try simp only [Exit.inBlock, Exit.then])
  refine bodyPost_ret (results_tmp2 rfl _ _ _) rfl ?_
  exact WPut.no HNO.out (HXW.out _ HB1.out)
 | true =>
  have hmay := (Wm.may_iff M.x).1 HR.out.symm
  have hput := Wm.put_may HR.out.symm
  have hk := Wm.known_small hmay.known
  obtain ⟨kk, hkk⟩ := Int.eq_ofNat_of_zero_le hk.1
  have hkk' : M.kind = (kk : Int) := hkk
  have hkk2 : kk ≤ 22 := by have := hk.2; rw [hkk] at this; omega
  obtain ⟨kv, hkv⟩ : ∃ kv, kv = UInt8.ofNat kk := ⟨_, rfl⟩
  have hri : M.x.right = true := by
   have h := HR.out.symm
   unfold Wm.may at h
   rw [Bool.and_eq_true] at h
   exact h.2
  have f2 := f2 hmay.data hmay.lo hmay.hi
  have hlM : (M.subs.map WsV.x).length = M.subs.length := List.length_map _
  have heM : (M.ents.map EnV.x).length = M.ents.length := List.length_map _
  have hlays := Wm.lays hri HM.out.own (by show Ent.total (M.ents.map EnV.x) + 20 * (M.ents.map EnV.x).length ≤ 1000000; omega)
  have hgoods := Wm.goods hri HM.out.own
  have hflen := Wm.fields_len hlays HM.out.own.sig (by show Ent.total (M.ents.map EnV.x) + 20 * (M.ents.map EnV.x).length ≤ 900000; omega) hmay.sigs HM.out.own.sum HM.out.own.file
  have q_f := fun W (x : Below (w.heap.size + 1) W0 W) => rfields_any M W (HM.out.ext (HXW.out W x)) hlays (fun s hs => hgoods _ (List.mem_map.2 ⟨s, hs, rfl⟩)) hmay.sigs hmay.data hmay.known
  unfold FLaid at q_f
  rw [← HP.out] at q_f
  have q_se := fun W => ref_fixed01 M.session (by have := HM.out.ok.session; omega) 4 W
  have q_seq := fun W => ref_fixed01 M.seq (by have := HM.out.ok.seq; omega) 4 W
  have b_se := fixed_len4 M.session
  have b_sq := fixed_len4 M.seq
  have hlaid : M.x.laid = [kv] ++ Vint.fixed M.session 4 ++ Vint.fixed M.seq 4 ++ M.x.fields := by
   show (UInt8.ofNat M.x.kind.toNat :: (Vint.fixed M.session 4 ++ Vint.fixed M.seq 4)) ++ M.x.fields = _
   rw [show M.x.kind = (kk : Int) from hkk', hkv]
   simp
  obtain ⟨Dse, dse⟩ : ∃ D, D = Vint.fixed M.session 4 := ⟨_, rfl⟩
  obtain ⟨Dsq, dsq⟩ : ∃ D, D = Vint.fixed M.seq 4 := ⟨_, rfl⟩
  obtain ⟨F, dF⟩ : ∃ D, D = M.x.fields := ⟨_, rfl⟩
  rw [← dse] at q_se b_se hlaid
  rw [← dsq] at q_seq b_sq hlaid
  rw [← dF] at q_f hlaid hflen
  have hll : M.x.laid.length = 1 + Dse.length + Dsq.length + F.length := by rw [hlaid]; simp only [List.length_append, List.length_singleton]
  have a0' := a0
  rw [hkk'] at a0
  have HW_k := Lib.hid (show IntKind.u8.wrap (kk : Int) = (kk : Int) by simp [IntKind.wrap, IntKind.bits, IntKind.signed]; omega)
  have hse := HM.out.ok.session
  have hsq := HM.out.ok.seq
  have HW_se := Lib.hid (show IntKind.u64.wrap (M.session : Int) = (M.session : Int) by rw [IntKind.wrap_u64]; omega)
  have HW_seq := Lib.hid (show IntKind.u64.wrap (M.seq : Int) = (M.seq : Int) by rw [IntKind.wrap_u64]; omega)
  have HB_se := Lib.hid (show Dse.length ≤ 50 by omega)
  have HB_sq := Lib.hid (show Dsq.length ≤ 50 by omega)
  have HB_f := Lib.hid hflen
  have HKV := Lib.hid (show [kv] = [UInt8.ofNat kk] by rw [hkv])
  have HKV2 := Lib.hid (show bvs [kv] = [Value.int .u8 ((kk : Nat) : Int)] by rw [hkv]; simp only [bvs, List.map_cons, List.map_nil, bv, UInt8.toNat_ofNat']; rw [Nat.mod_eq_of_lt (by omega)])
  have Q_f := Lib.hid q_f
  have Q_se := Lib.hid q_se
  have Q_seq := Lib.hid q_seq
  have HLL := Lib.hid hll
  have HLD := Lib.hid hlaid
  have HPUT := Lib.hid hput
  clear a0' hmay hput hk hkk hkk' hkk2 hkv hri f2 hlM heM hlays hgoods hflen q_f q_se q_seq b_se b_sq hlaid dse dsq dF hll hse hsq
  have a0 := bload HB1.out a0 (Nat.lt_succ_self _)
  have a1 := bload HB1.out a1 (Nat.lt_succ_self _)
  have HZW := Lib.hid (Nat.le_trans HZ1.out HB1.out.size)
  go_wp2_with fail
  have a0 := Ext.load (Ext.drew w1) a0
  have a1 := Ext.load (Ext.drew w1) a1
  refine rg_start (by kernel_rfl) ?_
  refine gD 0 rfl ?_
  simp only [sP]
  refine gS 1 rfl ⟨_, fun w' hx => by have hcx := hx.load a0; (go_simp <;> with_reducible rfl), ?_⟩
  simp only [sP]
  refine gS 2 rfl ⟨.int .u8 ((kk : Nat) : Int), fun w' hx => by have hcv := HW_k.out; (go_simp <;> with_reducible rfl), ?_⟩
  simp only [sP]
  refine gD 4 rfl ?_
  simp only [sP]
  refine gS 5 rfl ⟨_, fun w' hx => by have hcx := hx.load a1; (go_simp <;> with_reducible rfl), ?_⟩
  simp only [sP]
  refine gS 6 rfl ⟨.int .u64 ((M.session : Nat) : Int), fun w' hx => by have hcv := HW_se.out; (go_simp <;> with_reducible rfl), ?_⟩
  simp only [sP]
  refine rg_par2 3 11 (IsO (w.heap.size + 1) 5 [kv]) 7 15 (IsO (w.heap.size + 1) 5 Dse) _ _ rfl rfl (by kernel_rfl) (IsO.st _ _ _) (IsO.st _ _ _) (fun _ _ => by rfl) (fun _ _ => by rfl) ?_ ?_ ?_
  ·
   intro v u W hx
   simp only [sP]
   refine yld_make ⟨_, _, by (go_simp <;> first | exact ⟨rfl, rfl⟩ | rfl), Ext.alloc _ _, some ⟨W.heap.size, 0, none⟩, 1, rfl, ?_⟩
   have h9 := Own.new W 5 1 #[.int .u8 ((kk : Nat) : Int)] 1 1 (Nat.le_refl _) (by unfold maxLen; omega) (by simp)
   have h8 : (#[Value.int .u8 ((kk : Nat) : Int)].toList.take (1 * 1)) = bvs [kv] := by rw [HKV2.out]; rfl
   rw [h8] at h9
   exact h9.mono (Nat.le_trans HZW.out (Nat.le_trans (Ext.drew w1).size hx.size))
  ·
   intro v u W hx
   simp only [sP]
   refine yld_call (by go_simp) (Q_se.out W) ?_
   rintro e w2 ⟨A2, c2, rfl, ho2, hb2⟩
   exact ⟨_, rfl, hb2, A2, c2, rfl, ho2.mono (Nat.le_trans HZW.out (Nat.le_trans (Ext.drew w1).size hx.size))⟩
  rintro v u W hxW ⟨A1, c1, rfl, ho1⟩ ⟨A2, c2, rfl, ho2⟩
  simp only [sP]
  have HBW := Lib.hid (show Below (w.heap.size + 1) W0 W from HB1.out.trans (((Ext.drew w1).tr hxW).mono HZW.out))
  refine rg_last 8 rfl (by kernel_rfl) (by kernel_rfl) (by rfl) fun KK hK => wp_app (.tmp 11) (.tmp 15) 22 rfl elemB (w.heap.size + 1) A1 1 c1 (bvs [kv]) rfl A2 Dse.length c2 (bvs Dse) rfl (1 + Dse.length) rfl (bvs ([kv] ++ Dse)) (bvs_app _ _) ho1 ho2.rd' (bvs_one _) (by have := HB_se.out; omega) (by have := HB_se.out; omega) (Nat.le_trans HZ1.out HBW.out.size) (fun A3 c3 w3 ho3 hg3 hr3 => hK _ _ ?_)
  simp only [sP]
  have HB3 := Lib.hid (HBW.out.trans (below_app (Below.refl _ _) ho1 hg3 (Nat.le_trans HZ1.out HBW.out.size)))
  refine gD 9 rfl ?_
  simp only [sP]
  refine rg_done (by kernel_rfl) ?_
  have HBD := Lib.hid (HB3.out.trans ((Ext.drew w3).mono (Nat.le_trans HZ1.out HB3.out.size)))
  go_wp2_with fail
  refine rr_start (belW (w.heap.size + 1)) [0, 1, 3, 9] (by kernel_rfl) ?_
  refine qAD 0 rfl ?_
  simp only [sP]
  refine qAD 1 rfl ?_
  simp only [sP]
  refine qS 2 rfl ⟨_, fun w' hx => by have hcx := bload (HBD.out.trans hx) a2 (Nat.lt_succ_self _); (go_simp <;> with_reducible rfl), ?_⟩
  simp only [sP]
  refine qAS 3 rfl ⟨.int .u64 ((M.seq : Nat) : Int), fun w' => by have hcv := HW_seq.out; (go_simp <;> with_reducible rfl), ?_⟩
  simp only [sP]
  refine qS 6 rfl ⟨.agg P, fun w' hx => ex_load_row MT (.tmp 1) rfl w.heap.size rfl MT P (0, 0) _ (((HBD.out.trans hx).block _ (Nat.lt_succ_self _)).trans G0.out) Tryz.underlying31 rfl iP.out, ?_⟩
  simp only [sP]
  refine rr_call 4 (Q_seq.out _) rfl (by kernel_rfl) (by rfl) (by go_simp) ?_
  rintro e w40 ⟨A40, c40, rfl, ho40, hx40⟩
  have HB40 := Lib.hid (HBD.out.trans (hx40.mono (Nat.le_trans HZ1.out HBD.out.size)))
  refine ⟨_, rfl, hx40.mono (Nat.le_trans HZ1.out HBD.out.size), ?_⟩
  simp only [sP]
  refine rr_appB 5 rfl (by kernel_rfl) (by rfl) (.tmp 17) (.tmp 21) 22 rfl elemB A3 (1 + Dse.length) c3 (bvs ([kv] ++ Dse)) rfl A40 (Dsq).length c40 (bvs (Dsq)) rfl (1 + Dse.length + (Dsq).length) rfl (bvs ([kv] ++ Dse ++ Dsq)) (bvs_app _ _) ((ho3.below (Ext.drew w3)).below hx40) (ho40.rd') (bvs_one _) (by have := HB_se.out; have := HB_sq.out; (try simp only [List.length_append]); omega) (by have := HB_se.out; have := HB_sq.out; (try simp only [List.length_append]); omega) ((Nat.le_trans HZ1.out HB40.out.size)) (fun A41 c41 w41 ho41 hx41 => ?_)
  have HB41 := Lib.hid (HB40.out.trans hx41)
  simp only [sP]
  refine rr_call 7 (Q_f.out _ HB41.out) rfl (by kernel_rfl) (by rfl) (by go_simp) ?_
  rintro e w42 ⟨A42, c42, rfl, ho42, hx42⟩
  have HB42 := Lib.hid (HB41.out.trans (hx42.mono (Nat.le_trans HZ1.out HB41.out.size)))
  refine ⟨_, rfl, hx42.mono (Nat.le_trans HZ1.out HB41.out.size), ?_⟩
  simp only [sP]
  refine rr_appB 8 rfl (by kernel_rfl) (by rfl) (.tmp 22) (.tmp 24) 22 rfl elemB A41 (1 + Dse.length + Dsq.length) c41 (bvs ([kv] ++ Dse ++ Dsq)) rfl A42 (F).length c42 (bvs (F)) rfl (1 + Dse.length + Dsq.length + (F).length) rfl (bvs ([kv] ++ Dse ++ Dsq ++ F)) (bvs_app _ _) (ho41.below hx42) (ho42.rd') (bvs_one _) (by have := HB_se.out; have := HB_sq.out; have := HB_f.out; (try simp only [List.length_append]); omega) (by have := HB_se.out; have := HB_sq.out; have := HB_f.out; (try simp only [List.length_append]); omega) ((Nat.le_trans HZ1.out HB42.out.size)) (fun A43 c43 w43 ho43 hx43 => ?_)
  have HB43 := Lib.hid (HB42.out.trans hx43)
  simp only [sP]
  refine qAD 9 rfl ?_
  simp only [sP]
  refine rr_done (by kernel_rfl) ?_
  have hq := Crc.put_len M.x.laid
  by_cases hl : 8000 < 1 + Dse.length + Dsq.length + F.length + 4
  ·
   have hno : M.x.put = ([], 1) := by rw [HPUT.out, if_pos (by rw [hq, HLL.out]; omega)]
   have HNO := Lib.hid hno
   have hd : decide ((8000 : Int) < ((1 + Dse.length + Dsq.length + F.length : Nat) : Int) + 4) = true := decide_eq_true (by omega)
   have hbf := HB_f.out
   have hbs := HB_se.out
   have hbq := HB_sq.out
   clear hno hq
   go_wp2_with fail
   (try simp only [Exit.inBlock, Exit.then])
   refine bodyPost_ret (results_tmp2 rfl _ _ _) rfl ?_
   exact ⟨none, 0, by rw [HNO.out]; rfl, by rw [HNO.out]; exact Own.none_ _ _ _ _ _, HXW.out _ HB43.out⟩
  ·
   have hyes : M.x.put = (Crc.put M.x.laid, 0) := by rw [HPUT.out, if_neg (by rw [hq, HLL.out]; omega)]
   have HYES := Lib.hid hyes
   have hd : decide ((8000 : Int) < ((1 + Dse.length + Dsq.length + F.length : Nat) : Int) + 4) = false := decide_eq_false (by omega)
   have hbf := HB_f.out
   have hbs := HB_se.out
   have hbq := HB_sq.out
   have hcr := ref_put A43 M.x.laid c43 w43 (by rw [HLD.out]; have := Own.rd' ho43; simpa only [List.append_assoc] using this) (by rw [HLL.out]; omega)
   rw [HLL.out] at hcr
   have HCR := Lib.hid hcr
   clear hyes hq hcr
   go_wp2_with (go_at_call 33; refine HCR.out.mono ?_; rintro e6 w6 ⟨A6, c6, rfl, ho6, hx6⟩; refine Hid.out ?_)
   have ho6 := ho6.mono (Nat.le_trans (Nat.le_succ _) (Nat.le_trans HZ1.out HB43.out.size))
   refine Lib.hid ?_
   go_wp2_with fail
   (try simp only [Exit.inBlock, Exit.then])
   refine bodyPost_ret (results_tmp2 rfl _ _ _) rfl ?_
   exact ⟨A6, c6, by rw [HYES.out]; rfl, by rw [HYES.out]; exact ho6, (HXW.out _ HB43.out).tr hx6⟩
end Go.Proofs.YtjholekgdnhpkaaGreat
