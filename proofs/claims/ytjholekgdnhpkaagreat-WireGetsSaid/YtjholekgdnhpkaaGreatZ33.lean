/- Texts of the proof, laid together: WqC. -/
import Derived.Test.YtjholekgdnhpkaaGreatZ6
import Derived.Test.YtjholekgdnhpkaaGreatZ2
import Derived.Test.YtjholekgdnhpkaaGreatZ3
import Derived.Test.YtjholekgdnhpkaaGreatZ4
import Derived.Test.YtjholekgdnhpkaaGreatZ7
set_option linter.unusedVariables false
set_option linter.unusedSimpArgs false
set_option linter.unusedSectionVars false
namespace Go.Proofs.YtjholekgdnhpkaaGreat
open Go.RowKit
attribute [local go_sem] Oper.semAt_some
theorem ex_geqE {P : Program} {o : Oper} {a : Act} {w : World} {x y : Operand} {t u : TypeId} {p q : List UInt8} {b : Bool} (ho : o.op = .binOp .geq t x y u) (hx : a.eval x = .string ⟨p.toArray⟩) (hy : a.eval y = .string ⟨q.toArray⟩) (hb : ltB p q = b) : (execOp a.eval o).run P w = .ok (.value (.bool (!b))) w := by
 rw [← hb, ← less_ltB]
 unfold execOp
 simp only [ho, hx, hy]
 go_simp
def EGot (bs : List UInt8) (w : World) (e : Ending) (w' : World) : Prop := ∃ u : EnV, e = .returned (egot u (Ent.get bs).2.1 (Ent.get bs).2.2) ∧ u.x = (Ent.get bs).1 ∧ u.At w.heap.size w' ∧ Below w.heap.size w w'
theorem EGot.no {bs : List UInt8} {w W : World} (hg : Ent.get bs = (⟨[], []⟩, 0, 170)) (hx : Ext w W) (cs : Array Value) : EGot bs w (.returned (.tuple #[.agg #[.slice none 0 0, .slice none 0 0], .int .i64 0, .int .i64 170])) (W.setRow w.heap.size cs) := by
 unfold EGot
 rw [hg]
 exact ⟨⟨none, 0, none, 0, ⟨[], []⟩⟩, rfl, rfl, EnV.at_nil _ _ _ _ _ _, ext_rowD hx (Nat.le_refl _) _⟩
set_option maxRecDepth 100000 in
set_option maxHeartbeats 2000000 in
theorem ref_eget (A : Option Addr) (bs : List UInt8) (cap : Nat) (w : World) (hA : RdB w A bs) (hl : bs.length ≤ 1000000) (hc : bs.length ≤ cap) :
  Calls Tryz.prog 67 #[.slice A bs.length cap] w (EGot bs w) := by
 have hE0 := Ext.alloc w (.cells #[.slice none 0 0, .slice none 0 0] 47)
 have hg0 := heap_alloc_new w (.cells #[.slice none 0 0, .slice none 0 0] 47)
 have HG := Lib.hid (ref_getbytes01 A bs cap _ (hA.below hE0) hl hc)
 have HL := Lib.hid (Vint.getBytes_le bs)
 have HA := Lib.hid hA
 have HE0 := Lib.hid hE0
 have Hg0 := Lib.hid hg0
 obtain ⟨R, hR⟩ : ∃ R, R = Ent.get bs := ⟨_, rfl⟩
 have hdef : R = if (Vint.getBytes bs).2.2 ≠ 0 then (⟨[], []⟩, 0, 170) else if (Vint.getBytes (bs.drop (Vint.getBytes bs).2.1)).2.2 ≠ 0 then (⟨[], []⟩, 0, 170) else if Ent.ok ⟨(Vint.getBytes bs).1, (Vint.getBytes (bs.drop (Vint.getBytes bs).2.1)).1⟩ then (⟨(Vint.getBytes bs).1, (Vint.getBytes (bs.drop (Vint.getBytes bs).2.1)).1⟩, (Vint.getBytes bs).2.1 + (Vint.getBytes (bs.drop (Vint.getBytes bs).2.1)).2.1, 0) else (⟨[], []⟩, 0, 170) := hR
 have HD := Lib.hid hdef
 have HR := Lib.hid hR
 clear hdef hR hA hE0 hg0
 go_enter Tryz.func67, Tryz.ntmps67
 obtain ⟨r, hr⟩ : ∃ r, r = Vint.getBytes bs := ⟨_, rfl⟩
 rw [← hr] at HG HL HD
 clear hr
 obtain ⟨k, n, x⟩ := r
 go_wp2_with (go_at_call 65; refine HG.out.mono ?_; rintro e w1 ⟨A1, c1, rfl, ho1, hb1⟩; rw [show gotRes A1 k.length c1 (k, n, x) = .tuple #[.slice A1 k.length c1, .int .i64 (n : Int), .int .i64 (x : Int)] from rfl]; refine Hid.out ?_)
 have hg : w1.heap[w.heap.size]? = some (.cells #[.slice none 0 0, .slice none 0 0] 47 (0, 0)) := (hb1.block _ (lt_of_heap Hg0.out)).trans Hg0.out
 have HX1 := Lib.hid (HE0.out.tr hb1)
 have HO1 := Lib.hid ho1
 have hn : n ≤ bs.length := HL.out
 clear ho1 hb1 HG HL
 refine Lib.hid ?_
 by_cases hx : x = 0
 ·
  subst hx
  by_cases hk1 : k.length < 1
  ·
   have b1 : decide ((k.length : Int) < 1) = true := decide_eq_true (by omega)
   have hno : Ent.get bs = (⟨[], []⟩, 0, 170) := by
    rw [← HR.out, HD.out]
    simp only [ne_eq, not_true_eq_false, if_false]
    split
    ·
     rfl
    ·
     rw [if_neg]; simp [Ent.ok]; omega
   have HNO := Lib.hid hno
   clear hno
   go_wp2_with (refine wpList_store_row rfl 47 (.tmp 2) (.tmp 29) rfl w.heap.size #[.slice none 0 0, .slice none 0 0] rfl rfl _ _ hg (by kernel_rfl) rfl (by kernel_rfl) ?_)
   (try simp only [Exit.inBlock, Exit.then])
   refine bodyPost_ret (results_row_tmp2 rfl _ _ w.heap.size 47 #[.slice none 0 0, .slice none 0 0] (0, 0) _ rfl (setRow_heap _ w.heap.size _ #[.slice none 0 0, .slice none 0 0] _ _ hg) Tryz.underlying47 rfl (by kernel_rfl)) rfl ?_
   exact EGot.no (HNO.out) HX1.out _
  ·
   have b1 : decide ((k.length : Int) < 1) = false := decide_eq_false (by omega)
   by_cases hk2 : 24 < k.length
   ·
    have b2 : decide ((24 : Int) < (k.length : Int)) = true := decide_eq_true (by omega)
    have hno : Ent.get bs = (⟨[], []⟩, 0, 170) := by
     rw [← HR.out, HD.out]
     simp only [ne_eq, not_true_eq_false, if_false]
     split
     ·
      rfl
     ·
      rw [if_neg]; simp [Ent.ok]; omega
    have HNO := Lib.hid hno
    clear hno
    go_wp2_with (refine wpList_store_row rfl 47 (.tmp 2) (.tmp 29) rfl w.heap.size #[.slice none 0 0, .slice none 0 0] rfl rfl _ _ hg (by kernel_rfl) rfl (by kernel_rfl) ?_)
    (try simp only [Exit.inBlock, Exit.then])
    refine bodyPost_ret (results_row_tmp2 rfl _ _ w.heap.size 47 #[.slice none 0 0, .slice none 0 0] (0, 0) _ rfl (setRow_heap _ w.heap.size _ #[.slice none 0 0, .slice none 0 0] _ _ hg) Tryz.underlying47 rfl (by kernel_rfl)) rfl ?_
    exact EGot.no (HNO.out) HX1.out _
   ·
    have b2 : decide ((24 : Int) < (k.length : Int)) = false := decide_eq_false (by omega)
    obtain ⟨A2, hA2d⟩ : ∃ A2, A2 = (if cap = n then A else A.map (·.add (n * 1))) := ⟨_, rfl⟩
    have HA2 := Lib.hid hA2d
    have ht := HA.out.tail hn hc
    rw [show (if cap = n then A else A.map (·.add n)) = A2 by rw [hA2d, Nat.mul_one]] at ht
    have HG2 := ref_getbytes01 A2 (bs.drop n) (cap - n) w1 (ht.below HX1.out) (by rw [List.length_drop]; omega) (by rw [List.length_drop]; omega)
    rw [List.length_drop] at HG2
    have HG2 := Lib.hid HG2
    have HD2 : Hid (R = if (Vint.getBytes (bs.drop n)).2.2 ≠ 0 then (⟨[], []⟩, 0, 170) else if Ent.ok ⟨k, (Vint.getBytes (bs.drop n)).1⟩ then (⟨k, (Vint.getBytes (bs.drop n)).1⟩, n + (Vint.getBytes (bs.drop n)).2.1, 0) else (⟨[], []⟩, 0, 170)) := by
     show R = _
     rw [HD.out]
     simp only [ne_eq, not_true_eq_false, if_false]
    clear hA2d ht HD
    obtain ⟨r2, hr2⟩ : ∃ r2, r2 = Vint.getBytes (bs.drop n) := ⟨_, rfl⟩
    rw [← hr2] at HG2 HD2
    clear hr2
    obtain ⟨v, m, y⟩ := r2
    go_wp2_with (first | (refine wpList_sliceL (by rfl) (.tmp 31) (.tmp 32) 22 rfl elemB A bs.length cap rfl n rfl hn A2 HA2.out (bs.length - n) (cap - n) rfl rfl ?_) | (go_at_call 65; refine HG2.out.mono ?_; rintro e w2 ⟨A3, c3, rfl, ho3, hb3⟩; rw [show gotRes A3 v.length c3 (v, m, y) = .tuple #[.slice A3 v.length c3, .int .i64 (m : Int), .int .i64 (y : Int)] from rfl]; refine Hid.out ?_))
    have hgl := lt_of_heap hg
    have hg1w := hg
    have hg2 : w2.heap[w.heap.size]? = some (.cells #[.slice none 0 0, .slice none 0 0] 47 (0, 0)) := (hb3.block _ hgl).trans hg
    have HX2 := Lib.hid (HX1.out.tr hb3)
    have HO3 := Lib.hid ho3
    have HO1' := Lib.hid (HO1.out.below hb3)
    clear ho3 hb3 HG2 HO1 HA2 HA hg
    refine Lib.hid ?_
    by_cases hy : y = 0
    ·
     subst hy
     by_cases hv : 1000 < v.length
     ·
      have b3 : decide ((1000 : Int) < (v.length : Int)) = true := decide_eq_true (by omega)
      have hno : Ent.get bs = (⟨[], []⟩, 0, 170) := by
       rw [← HR.out, HD2.out]
       simp only [ne_eq, not_true_eq_false, if_false]
       rw [if_neg]; simp [Ent.ok]; omega
      have HNO := Lib.hid hno
      clear hno
      go_wp2_with (refine wpList_store_row rfl 47 (.tmp 2) (.tmp 45) rfl w.heap.size #[.slice none 0 0, .slice none 0 0] rfl rfl _ _ hg2 (by kernel_rfl) rfl (by kernel_rfl) ?_)
      (try simp only [Exit.inBlock, Exit.then])
      refine bodyPost_ret (results_row_tmp2 rfl _ _ w.heap.size 47 #[.slice none 0 0, .slice none 0 0] (0, 0) _ rfl (setRow_heap _ w.heap.size _ #[.slice none 0 0, .slice none 0 0] _ _ hg2) Tryz.underlying47 rfl (by kernel_rfl)) rfl ?_
      exact EGot.no (HNO.out) HX2.out _
     ·
      have b3 : decide ((1000 : Int) < (v.length : Int)) = false := decide_eq_false (by omega)
      have hyes : Ent.get bs = (⟨k, v⟩, n + m, 0) := by
       rw [← HR.out, HD2.out]
       simp only [ne_eq, not_true_eq_false, if_false]
       rw [if_pos]; simp [Ent.ok]; omega
      have HY := Lib.hid hyes
      clear hyes
      obtain ⟨E, hE⟩ : ∃ E : EnV, E = ⟨A1, c1, A3, c3, ⟨k, v⟩⟩ := ⟨_, rfl⟩
      have HEc : Hid (#[.slice A1 k.length c1, .slice A3 v.length c3] = E.cells) := by show _ = _; rw [hE]; rfl
      have HEx := Lib.hid (show E.x = ⟨k, v⟩ by rw [hE])
      have HFAR : Hid (E.At (w.heap.size + 1) w2) := by
       subst hE
       have hs1 : w.heap.size + 1 ≤ w1.heap.size := by have := lt_of_heap hg1w; omega
       have h1 := HO1'.out
       exact ⟨⟨h1.rd', HO3.out.rd', h1.nc, HO3.out.nc⟩, h1.far (by rw [World.size_alloc]; omega), HO3.out.far hs1⟩
      clear hE
      have hnm : IntKind.i64.wrap ((n : Int) + (m : Int)) = ((n + m : Nat) : Int) := by
       have h5 := (Ent.get_le bs).1
       rw [HY.out] at h5
       simp only at h5
       rw [IntKind.wrap_i64]; omega
      go_wp2_with (refine wpList_store_row rfl 47 (.tmp 2) (.tmp 48) rfl w.heap.size E.cells rfl (congrArg Value.agg HEc.out) _ _ hg2 (einfo E) (by rfl) (eone E) ?_)
      (try simp only [Exit.inBlock, Exit.then])
      refine bodyPost_ret (results_row_tmp2 rfl _ _ w.heap.size 47 E.cells (0, 0) _ rfl (setRow_heap _ w.heap.size _ E.cells _ _ hg2) Tryz.underlying47 rfl (einfo E)) rfl ?_
      unfold EGot
      rw [HY.out]
      refine ⟨E, ?_, HEx.out, ?_, ext_rowD HX2.out (Nat.le_refl _) _⟩
      ·
       show _ = Ending.returned (egot E (n + m) 0)
       unfold egot
       first | rfl | (rw [Int.natCast_add]; rfl) | trace_state
      ·
       exact (HFAR.out.kept (grown_row _ w.heap.size E.cells) (fun r e => .inl (by injection e with e; omega))).mono (by omega)
    ·
     have b3 : ((y : Int) != 0) = true := by rw [bne_iff_ne]; omega
     have hno : Ent.get bs = (⟨[], []⟩, 0, 170) := by
      rw [← HR.out, HD2.out]
      exact if_pos hy
     have HNO := Lib.hid hno
     clear hno
     go_wp2_with (refine wpList_store_row rfl 47 (.tmp 2) (.tmp 45) rfl w.heap.size #[.slice none 0 0, .slice none 0 0] rfl rfl _ _ hg2 (by kernel_rfl) rfl (by kernel_rfl) ?_)
     (try simp only [Exit.inBlock, Exit.then])
     refine bodyPost_ret (results_row_tmp2 rfl _ _ w.heap.size 47 #[.slice none 0 0, .slice none 0 0] (0, 0) _ rfl (setRow_heap _ w.heap.size _ #[.slice none 0 0, .slice none 0 0] _ _ hg2) Tryz.underlying47 rfl (by kernel_rfl)) rfl ?_
     exact EGot.no (HNO.out) HX2.out _
 ·
  have b1 : ((x : Int) != 0) = true := by rw [bne_iff_ne]; omega
  have hno : Ent.get bs = (⟨[], []⟩, 0, 170) := by
   rw [← HR.out, HD.out]
   exact if_pos hx
  have HNO := Lib.hid hno
  clear hno
  go_wp2_with (refine wpList_store_row rfl 47 (.tmp 2) (.tmp 29) rfl w.heap.size #[.slice none 0 0, .slice none 0 0] rfl rfl _ _ hg (by kernel_rfl) rfl (by kernel_rfl) ?_)
  (try simp only [Exit.inBlock, Exit.then])
  refine bodyPost_ret (results_row_tmp2 rfl _ _ w.heap.size 47 #[.slice none 0 0, .slice none 0 0] (0, 0) _ rfl (setRow_heap _ w.heap.size _ #[.slice none 0 0, .slice none 0 0] _ _ hg) Tryz.underlying47 rfl (by kernel_rfl)) rfl ?_
  exact EGot.no (HNO.out) HX1.out _
theorem Ent.items_go {d : List UInt8} (f : Nat) (hd : d ≠ []) : Ent.items (f + 1) d = if (Ent.get d).2.2 = 0 then ((Ent.get d).1, 0) :: Ent.items f (d.drop (Ent.get d).2.1) else [((Ent.get d).1, (Ent.get d).2.2)] := by
 simp only [Ent.items]
 rw [if_neg hd]
theorem Ent.bars_last (l : List Ent) (y x : Ent) : Ent.bars (l ++ [y]) x = !ltB y.key x.key := by
 unfold Ent.bars
 simp
set_option maxRecDepth 100000 in
set_option maxHeartbeats 4000000 in
theorem ref_getall (A : Option Addr) (bs : List UInt8) (cap : Nat) (w : World) (hA : RdB w A bs) (hl : bs.length ≤ 1000000) (hc : bs.length ≤ cap) :
  Calls Tryz.prog 39 #[.slice A bs.length cap] w (GaPostO bs w) := by
 have HA := Lib.hid hA
 clear hA
 go_enter Tryz.func39, Tryz.ntmps39
 go_wp2_with fail
 go_loopw [0, 4] (fun b l wr => ∃ (f : Nat) (d : List UInt8) (A1 : Option Addr) (c1 : Nat) (L : List EnV) (A2 : Option Addr) (c2 : Nat), d.length ≤ f ∧ b = .slice A1 d.length c1 ∧ l = .slice A2 L.length c2 ∧ d.length ≤ c1 ∧ d.length + L.length ≤ bs.length ∧ Hid (RdB w A1 d) ∧ Hid (Ent.getAll bs = Ent.run (L.map EnV.x) (Ent.items f d)) ∧ Hid (Own wr w.heap.size 47 2 A2 L.length c2 (ecs L) ∧ ∀ e ∈ L, e.At w.heap.size wr) ∧ Below w.heap.size w wr) (fun b _ _ => (lenOf (some b)))
 case atStart => exact ⟨bs.length, bs, A, cap, [], none, 0, Nat.le_refl _, rfl, rfl, hc, by simp, HA, Lib.hid rfl, Lib.hid ⟨Own.none_ _ _ _ _ _, by simp⟩, Below.refl _ _⟩
 case round =>
  obtain ⟨f, d, A1, c1, L, A2, c2, hf, rfl, rfl, hc1, hdl, hrd, hrun, hown, hbw⟩ := hrel
  by_cases hd : 0 < d.length
  ·
   have hdi : (0 : Int) < (d.length : Int) := by omega
   obtain ⟨f', rfl⟩ : ∃ f', f = f' + 1 := ⟨f - 1, by omega⟩
   have HG := Lib.hid (ref_eget A1 d c1 wr (hrd.out.below hbw) (by omega) hc1)
   unfold EGot at HG
   have hle := Ent.get_le d
   have hne : d ≠ [] := by rintro rfl; simp at hd
   have hit := Ent.items_go f' hne
   obtain ⟨G, hG⟩ : ∃ G, G = Ent.get d := ⟨_, rfl⟩
   rw [← hG] at HG hle hit
   clear hG
   obtain ⟨ge, n, er⟩ := G
   simp only at hle hit
   have HIT := Lib.hid hit
   obtain ⟨hn, her, hge⟩ := hle
   clear hit
   go_wp2_with (go_at_call 67; refine HG.out.mono ?_; rintro e w1 ⟨u, rfl, hux, hat, hb1⟩; simp only; rw [show egot u n er = .tuple #[.agg u.cells, .int .i64 (n : Int), .int .i64 (er : Int)] from rfl]; refine Hid.out ?_)
   try simp only at hux
   have hx1 : Ext wr w1 := hb1
   have hw1 := hx1.size
   have hgs := heap_alloc_new w1 (.cells u.cells 47)
   have hxa := Ext.alloc w1 (.cells u.cells 47)
   obtain ⟨W1, hW1⟩ : ∃ W1, W1 = w1.alloc (.cells u.cells 47) := ⟨_, rfl⟩
   rw [← hW1] at hgs hxa
   have hx2 : Ext wr W1 := hx1.tr hxa
   have hbw2 := hbw.trans (hx2.mono hbw.size)
   have Hown := Lib.hid (show Own W1 w.heap.size 47 2 A2 L.length c2 (ecs L) ∧ ∀ e ∈ L, e.At w.heap.size W1 from ⟨hown.out.1.below hx2, fun e he => (hown.out.2 e he).ext hx2⟩)
   have Hat := Lib.hid ((hat.ext hxa).mono hbw.size)
   have HW1 := Lib.hid hW1
   have Hux := Lib.hid hux
   have Hbw := Lib.hid hbw2
   have hw2 := hx2.size
   have hwr := hbw.size
   clear HG hW1 hux hat hb1 hx1 hxa hx2 hown hbw hbw2
   refine Lib.hid ?_
   go_wp2_with (refine wpList_store_row rfl 47 (.tmp 5) (.tmp 14) rfl w1.heap.size u.cells rfl rfl 47 _ (heap_alloc_new w1 _) (einfo u) (by rfl) (eone u) ?_; rw [setRow_alloc, ← HW1.out])
   have hgd : W1.drew.heap[w1.heap.size]? = some (.cells u.cells 47 (0, 0)) := hgs
   have k1 : W1.drew.cell? ⟨w1.heap.size, 0, none⟩ = some (.slice u.ka u.x.key.length u.kc) := cell_of_row W1 _ 0 _ _ _ hgs
   by_cases he0 : er = 0
   ·
    subst he0
    have hit : Ent.items (f' + 1) d = (ge, 0) :: Ent.items f' (d.drop n) := by rw [HIT.out, if_pos rfl]
    have HIT2 := Lib.hid hit
    have hn0 : 0 < n := (hge rfl).1
    clear hit hge her HIT
    by_cases hL : L = []
    ·
     have HB := Lib.hid (show Ent.bars (L.map EnV.x) ge = false by rw [hL]; rfl)
     have HL0 := Lib.hid (show L.length = 0 by rw [hL]; rfl)
     clear hL
     go_wp2_with fail
     refine rg_start (by kernel_rfl) ?_
     refine gD 0 rfl ?_
     simp only [sP]
     refine gD 1 rfl ?_
     simp only [sP]
     refine gD 2 rfl ?_
     simp only [sP]
     refine gD 3 rfl ?_
     simp only [sP]
     refine gD 4 rfl ?_
     simp only [sP]
     refine gS 5 rfl ⟨.bool false, fun w' hx => by have h0 := HL0.out; (go_simp <;> omega), ?_⟩
     simp only [sP]
     refine gD 6 rfl ?_
     simp only [sP]
     refine gK 7 rfl ?_
     simp only [sP]
     refine gK 8 rfl ?_
     simp only [sP]
     refine gK 9 rfl ?_
     simp only [sP]
     refine gK 10 rfl ?_
     simp only [sP]
     refine gK 11 rfl ?_
     simp only [sP]
     refine gK 12 rfl ?_
     simp only [sP]
     refine gK 13 rfl ?_
     simp only [sP]
     refine gK 14 rfl ?_
     simp only [sP]
     refine gK 15 rfl ?_
     simp only [sP]
     refine gK 16 rfl ?_
     simp only [sP]
     refine gK 17 rfl ?_
     simp only [sP]
     refine gK 18 rfl ?_
     simp only [sP]
     refine gD 19 rfl ?_
     simp only [sP]
     refine gD 20 rfl ?_
     simp only [sP]
     refine rg_done (by kernel_rfl) ?_
     obtain ⟨A3, hA3d⟩ : ∃ A3, A3 = (if c1 = n then A1 else A1.map (·.add (n * 1))) := ⟨_, rfl⟩
     have HA3 := Lib.hid hA3d
     have htl := hrd.out.tail hn hc1
     rw [show (if c1 = n then A1 else A1.map (·.add n)) = A3 by rw [hA3d, Nat.mul_one]] at htl
     have HTL := Lib.hid htl
     clear hA3d htl
     have hxd : Ext W1 (W1.drew.alloc (.cells u.cells 47)) := (Ext.drew W1).tr (Ext.alloc _ _)
     have hownd := Lib.hid (Hown.out.1.below hxd)
     have hrd1 := Lib.hid (Rd.row (n := 1) (s := 2) (xs := u.cells.toList) (heap_alloc_new W1.drew (.cells u.cells 47)) rfl)
     have hsz : w.heap.size ≤ (W1.drew.alloc (.cells u.cells 47)).heap.size := by have := Hbw.out.size; have := hxd.size; omega
     have HE := Lib.hid (ecs_snoc L u)
     have h1u : ∀ v ∈ u.cells.toList, v.oneCell' = true := fun v hv => (Array.all_eq_true_iff_forall_mem.1 (eone u)) v (by simpa using hv)
     have HXD := Lib.hid hxd
     clear hxd
     go_wp2_with (first | (refine wpList_load_row rfl 47 (.tmp 5) rfl w1.heap.size rfl 47 u.cells (0, 0) _ hgd Tryz.underlying47 rfl (einfo u) ?_) | (refine wpList_buildOne (by rfl) 28 (.tmp 39) rfl elemE u.cells rfl rfl (by omega) ?_; refine wpList_app (by rfl) (.tmp 38) (.tmp 40) 28 rfl elemE w.heap.size A2 L.length c2 (ecs L) rfl (some ⟨W1.drew.heap.size, 0, none⟩) 1 1 u.cells.toList rfl (L.length + 1) rfl (ecs (L ++ [u])) HE.out hownd.out hrd1.out h1u (by omega) (by omega) hsz ?_; intro A9 c9 W9 ho9 hg9 hr9; refine Hid.out ?_))
     have hno : ∀ r, ownRow A2 c2 = some r → r < w.heap.size ∨ ∀ cur fr, (W1.drew.alloc (.cells u.cells 47)).heap[r]? ≠ some (.cells cur 5 fr) := fun r e => .inr (fun cur fr h => hownd.out.ne h (by decide) e)
     have hat9 : ∀ e ∈ L ++ [u], e.At w.heap.size W9 := fun e he => by
      rcases List.mem_append.1 he with he | he
      ·
       exact ((Hown.out.2 e he).ext HXD.out).kept hg9 hno
      ·
       rw [List.mem_singleton] at he
       subst he
       exact (Hat.out.ext HXD.out).kept hg9 hno
     have hbw9 : Below w.heap.size w W9 := (Hbw.out.trans (HXD.out.mono Hbw.out.size)).grown hg9 hsz (fun r e => (hownd.out.row_lt r e).1)
     have hrun9 : Ent.getAll bs = Ent.run ((L ++ [u]).map EnV.x) (Ent.items f' (d.drop n)) := by
      rw [hrun.out, HIT2.out]
      simp only [Ent.run]
      rw [if_neg (by simp), if_neg (by rw [HB.out]; decide), List.map_append, ← Hux.out]
      rfl
     have hd9 : d.length - n = (d.drop n).length := List.length_drop.symm
     have hl9 : L.length + 1 = (L ++ [u]).length := by simp
     obtain ⟨d9, hd9d⟩ : ∃ d9, d9 = d.drop n := ⟨_, rfl⟩
     obtain ⟨L9, hL9d⟩ : ∃ L9, L9 = L ++ [u] := ⟨_, rfl⟩
     rw [← hd9d] at hrun9 HTL hd9
     rw [← hL9d] at hrun9 hat9 ho9 hl9
     have HF9 := Lib.hid (show d9.length ≤ f' ∧ d9.length ≤ c1 - n ∧ d9.length + L9.length ≤ bs.length ∧ d9.length < d.length by omega)
     rw [hl9] at ho9
     have HR9 := Lib.hid hrun9
     have HO9 := Lib.hid (show Own W9 w.heap.size 47 2 A9 L9.length c9 (ecs L9) ∧ ∀ e ∈ L9, e.At w.heap.size W9 from ⟨ho9, hat9⟩)
     have HB9 := Lib.hid hbw9
     have HD9 := Lib.hid hd9
     have HL9 := Lib.hid hl9
     clear hno hat9 hbw9 hrun9 hd9 hl9 ho9 hg9 hr9 hL9d hd9d hownd hrd1 HE HXD h1u hsz Hown Hbw hrun HIT2 HB
     refine Lib.hid ?_
     go_wp2_with (refine wpList_sliceL (by rfl) (.tmp 42) (.tmp 43) 22 rfl elemB A1 d.length c1 rfl n rfl hn A3 HA3.out (d.length - n) (c1 - n) rfl rfl ?_)
     go_roundw
     case rel => exact ⟨f', d9, A3, c1 - n, L9, A9, c9, HF9.out.1, by rw [HD9.out], by rw [HL9.out], HF9.out.2.1, HF9.out.2.2.1, HTL, HR9, HO9, HB9.out⟩
     case measure => rw [HD9.out]; exact HF9.out.2.2.2
    ·
     obtain ⟨m, hm⟩ : ∃ m, L.length = m + 1 := ⟨L.length - 1, by have := List.length_pos_iff.2 hL; omega⟩
     have hp : decide ((0 : Int) < (L.length : Int)) = true := decide_eq_true (by omega)
     have hsub : IntKind.i64.wrap ((L.length : Int) - 1) = (m : Int) := by rw [IntKind.wrap_i64]; omega
     have im : (0 : Int) ≤ (m : Int) := by omega
     have im2 : (m : Int) < (L.length : Int) := by omega
     have hmL : m < L.length := by omega
     obtain ⟨ad, hA2, hcell, hin⟩ := (show RdE W1 A2 L from ⟨Hown.out.1.rd, fun e he => (Hown.out.2 e he).i⟩).at_ hmL
     have hlast : L.map EnV.x = (L.take m).map EnV.x ++ [L[m].x] := by
      conv => lhs; rw [← List.take_append_drop m L]
      rw [List.map_append, List.drop_eq_getElem_cons hmL, List.drop_eq_nil_of_le (by omega)]
      rfl
     have k0 : W1.drew.cell? (ad.add (m * 2)) = _ := key_at hcell
     obtain ⟨y, hy⟩ : ∃ y, y = L[m] := ⟨_, rfl⟩
     rw [← hy] at k0 hin hlast
     have HY := Lib.hid hin
     have HL := Lib.hid hlast
     have Hm := Lib.hid hm
     subst hA2
     obtain ⟨q, hq⟩ : ∃ q, ltB y.x.key u.x.key = q := ⟨_, rfl⟩
     have HQ := Lib.hid hq
     clear hcell hin hlast hm hq hy
     cases q with
     | false =>
      have hno : Ent.getAll bs = none := by
       rw [hrun.out, HIT2.out, HL.out]
       simp only [Ent.run]
       rw [if_neg (by simp), if_pos (by rw [Ent.bars_last, ← Hux.out, HQ.out]; rfl)]
      have HNO := Lib.hid hno
      clear hno
      go_wp2_with fail
      refine rg_start (by kernel_rfl) ?_
      refine gD 0 rfl ?_
      simp only [sP]
      refine gD 1 rfl ?_
      simp only [sP]
      refine gD 2 rfl ?_
      simp only [sP]
      refine gD 3 rfl ?_
      simp only [sP]
      refine gD 4 rfl ?_
      simp only [sP]
      refine gS 5 rfl ⟨.bool true, fun w' hx => by (go_simp; omega), ?_⟩
      simp only [sP]
      refine gD 6 rfl ?_
      simp only [sP]
      refine gD 7 rfl ?_
      simp only [sP]
      refine gD 8 rfl ?_
      simp only [sP]
      refine gD 9 rfl ?_
      simp only [sP]
      refine gS 10 rfl ⟨.int .i64 (m : Int), fun w' hx => by (go_simp <;> with_reducible rfl), ?_⟩
      simp only [sP]
      refine gD 11 rfl ?_
      simp only [sP]
      refine gD 12 rfl ?_
      simp only [sP]
      refine gS 13 rfl ⟨_, fun w' hx => by have hcx := hx.load k0; (go_simp <;> with_reducible rfl), ?_⟩
      simp only [sP]
      refine gS 14 rfl ⟨.string ⟨(y.x.key).toArray⟩, fun w' hx => ex_str rfl rfl Tryz.underlying22 Tryz.underlying5 Tryz.underlying9 (HY.out.kr.below ((Ext.drew W1).tr hx)) rfl, ?_⟩
      simp only [sP]
      refine gD 15 rfl ?_
      simp only [sP]
      refine gS 16 rfl ⟨_, fun w' hx => by have hcx := hx.load k1; (go_simp <;> with_reducible rfl), ?_⟩
      simp only [sP]
      refine gS 17 rfl ⟨.string ⟨(u.x.key).toArray⟩, fun w' hx => ex_str rfl rfl Tryz.underlying22 Tryz.underlying5 Tryz.underlying9 (Hat.out.i.kr.below ((Ext.drew W1).tr hx)) rfl, ?_⟩
      simp only [sP]
      refine gS 18 rfl ⟨.bool true, fun w' hx => ex_geqE (b := false) rfl rfl rfl HQ.out, ?_⟩
      simp only [sP]
      refine gD 19 rfl ?_
      simp only [sP]
      refine gD 20 rfl ?_
      simp only [sP]
      refine rg_done (by kernel_rfl) ?_
      go_wp2_with fail
      (try simp only [Exit.inBlock, Exit.then])
      refine bodyPost_ret (results_tmp2 rfl _ _ _) rfl ?_
      exact .inr ⟨HNO.out, rfl, Hbw.out.trans ((Ext.drew W1).mono Hbw.out.size)⟩
     | true =>
      have HB := Lib.hid (show Ent.bars (L.map EnV.x) ge = false by rw [HL.out, Ent.bars_last, ← Hux.out, HQ.out]; rfl)
      go_wp2_with fail
      refine rg_start (by kernel_rfl) ?_
      refine gD 0 rfl ?_
      simp only [sP]
      refine gD 1 rfl ?_
      simp only [sP]
      refine gD 2 rfl ?_
      simp only [sP]
      refine gD 3 rfl ?_
      simp only [sP]
      refine gD 4 rfl ?_
      simp only [sP]
      refine gS 5 rfl ⟨.bool true, fun w' hx => by (go_simp; omega), ?_⟩
      simp only [sP]
      refine gD 6 rfl ?_
      simp only [sP]
      refine gD 7 rfl ?_
      simp only [sP]
      refine gD 8 rfl ?_
      simp only [sP]
      refine gD 9 rfl ?_
      simp only [sP]
      refine gS 10 rfl ⟨.int .i64 (m : Int), fun w' hx => by (go_simp <;> with_reducible rfl), ?_⟩
      simp only [sP]
      refine gD 11 rfl ?_
      simp only [sP]
      refine gD 12 rfl ?_
      simp only [sP]
      refine gS 13 rfl ⟨_, fun w' hx => by have hcx := hx.load k0; (go_simp <;> with_reducible rfl), ?_⟩
      simp only [sP]
      refine gS 14 rfl ⟨.string ⟨(y.x.key).toArray⟩, fun w' hx => ex_str rfl rfl Tryz.underlying22 Tryz.underlying5 Tryz.underlying9 (HY.out.kr.below ((Ext.drew W1).tr hx)) rfl, ?_⟩
      simp only [sP]
      refine gD 15 rfl ?_
      simp only [sP]
      refine gS 16 rfl ⟨_, fun w' hx => by have hcx := hx.load k1; (go_simp <;> with_reducible rfl), ?_⟩
      simp only [sP]
      refine gS 17 rfl ⟨.string ⟨(u.x.key).toArray⟩, fun w' hx => ex_str rfl rfl Tryz.underlying22 Tryz.underlying5 Tryz.underlying9 (Hat.out.i.kr.below ((Ext.drew W1).tr hx)) rfl, ?_⟩
      simp only [sP]
      refine gS 18 rfl ⟨.bool false, fun w' hx => ex_geqE (b := true) rfl rfl rfl HQ.out, ?_⟩
      simp only [sP]
      refine gD 19 rfl ?_
      simp only [sP]
      refine gD 20 rfl ?_
      simp only [sP]
      refine rg_done (by kernel_rfl) ?_
      obtain ⟨A3, hA3d⟩ : ∃ A3, A3 = (if c1 = n then A1 else A1.map (·.add (n * 1))) := ⟨_, rfl⟩
      have HA3 := Lib.hid hA3d
      have htl := hrd.out.tail hn hc1
      rw [show (if c1 = n then A1 else A1.map (·.add n)) = A3 by rw [hA3d, Nat.mul_one]] at htl
      have HTL := Lib.hid htl
      clear hA3d htl
      have hxd : Ext W1 (W1.drew.alloc (.cells u.cells 47)) := (Ext.drew W1).tr (Ext.alloc _ _)
      have hownd := Lib.hid (Hown.out.1.below hxd)
      have hrd1 := Lib.hid (Rd.row (n := 1) (s := 2) (xs := u.cells.toList) (heap_alloc_new W1.drew (.cells u.cells 47)) rfl)
      have hsz : w.heap.size ≤ (W1.drew.alloc (.cells u.cells 47)).heap.size := by have := Hbw.out.size; have := hxd.size; omega
      have HE := Lib.hid (ecs_snoc L u)
      have h1u : ∀ v ∈ u.cells.toList, v.oneCell' = true := fun v hv => (Array.all_eq_true_iff_forall_mem.1 (eone u)) v (by simpa using hv)
      have HXD := Lib.hid hxd
      clear hxd
      go_wp2_with (first | (refine wpList_load_row rfl 47 (.tmp 5) rfl w1.heap.size rfl 47 u.cells (0, 0) _ hgd Tryz.underlying47 rfl (einfo u) ?_) | (refine wpList_buildOne (by rfl) 28 (.tmp 39) rfl elemE u.cells rfl rfl (by omega) ?_; refine wpList_app (by rfl) (.tmp 38) (.tmp 40) 28 rfl elemE w.heap.size (some ad) L.length c2 (ecs L) rfl (some ⟨W1.drew.heap.size, 0, none⟩) 1 1 u.cells.toList rfl (L.length + 1) rfl (ecs (L ++ [u])) HE.out hownd.out hrd1.out h1u (by omega) (by omega) hsz ?_; intro A9 c9 W9 ho9 hg9 hr9; refine Hid.out ?_))
      have hno : ∀ r, ownRow (some ad) c2 = some r → r < w.heap.size ∨ ∀ cur fr, (W1.drew.alloc (.cells u.cells 47)).heap[r]? ≠ some (.cells cur 5 fr) := fun r e => .inr (fun cur fr h => hownd.out.ne h (by decide) e)
      have hat9 : ∀ e ∈ L ++ [u], e.At w.heap.size W9 := fun e he => by
       rcases List.mem_append.1 he with he | he
       ·
        exact ((Hown.out.2 e he).ext HXD.out).kept hg9 hno
       ·
        rw [List.mem_singleton] at he
        subst he
        exact (Hat.out.ext HXD.out).kept hg9 hno
      have hbw9 : Below w.heap.size w W9 := (Hbw.out.trans (HXD.out.mono Hbw.out.size)).grown hg9 hsz (fun r e => (hownd.out.row_lt r e).1)
      have hrun9 : Ent.getAll bs = Ent.run ((L ++ [u]).map EnV.x) (Ent.items f' (d.drop n)) := by
       rw [hrun.out, HIT2.out]
       simp only [Ent.run]
       rw [if_neg (by simp), if_neg (by rw [HB.out]; decide), List.map_append, ← Hux.out]
       rfl
      have hd9 : d.length - n = (d.drop n).length := List.length_drop.symm
      have hl9 : L.length + 1 = (L ++ [u]).length := by simp
      obtain ⟨d9, hd9d⟩ : ∃ d9, d9 = d.drop n := ⟨_, rfl⟩
      obtain ⟨L9, hL9d⟩ : ∃ L9, L9 = L ++ [u] := ⟨_, rfl⟩
      rw [← hd9d] at hrun9 HTL hd9
      rw [← hL9d] at hrun9 hat9 ho9 hl9
      have HF9 := Lib.hid (show d9.length ≤ f' ∧ d9.length ≤ c1 - n ∧ d9.length + L9.length ≤ bs.length ∧ d9.length < d.length by omega)
      rw [hl9] at ho9
      have HR9 := Lib.hid hrun9
      have HO9 := Lib.hid (show Own W9 w.heap.size 47 2 A9 L9.length c9 (ecs L9) ∧ ∀ e ∈ L9, e.At w.heap.size W9 from ⟨ho9, hat9⟩)
      have HB9 := Lib.hid hbw9
      have HD9 := Lib.hid hd9
      have HL9 := Lib.hid hl9
      clear hno hat9 hbw9 hrun9 hd9 hl9 ho9 hg9 hr9 hL9d hd9d hownd hrd1 HE HXD h1u hsz Hown Hbw hrun HIT2 HB
      refine Lib.hid ?_
      go_wp2_with (refine wpList_sliceL (by rfl) (.tmp 42) (.tmp 43) 22 rfl elemB A1 d.length c1 rfl n rfl hn A3 HA3.out (d.length - n) (c1 - n) rfl rfl ?_)
      go_roundw
      case rel => exact ⟨f', d9, A3, c1 - n, L9, A9, c9, HF9.out.1, by rw [HD9.out], by rw [HL9.out], HF9.out.2.1, HF9.out.2.2.1, HTL, HR9, HO9, HB9.out⟩
      case measure => rw [HD9.out]; exact HF9.out.2.2.2
   ·
    have b1 : ((er : Int) != 0) = true := by rw [bne_iff_ne]; omega
    have hno : Ent.getAll bs = none := by
     rw [hrun.out, HIT.out, if_neg he0]
     simp only [Ent.run]
     rw [if_pos (by simpa using he0)]
    have HNO := Lib.hid hno
    clear hno
    go_wp2_with fail
    refine rg_start (by kernel_rfl) ?_
    refine gD 0 rfl ?_
    simp only [sP]
    refine gS 1 rfl ⟨.bool true, fun w' hx => by (go_simp <;> with_reducible rfl), ?_⟩
    simp only [sP]
    refine gD 2 rfl ?_
    simp only [sP]
    refine gK 3 rfl ?_
    simp only [sP]
    refine gK 4 rfl ?_
    simp only [sP]
    refine gK 5 rfl ?_
    simp only [sP]
    refine gK 6 rfl ?_
    simp only [sP]
    refine gK 7 rfl ?_
    simp only [sP]
    refine gK 8 rfl ?_
    simp only [sP]
    refine gK 9 rfl ?_
    simp only [sP]
    refine gK 10 rfl ?_
    simp only [sP]
    refine gK 11 rfl ?_
    simp only [sP]
    refine gK 12 rfl ?_
    simp only [sP]
    refine gK 13 rfl ?_
    simp only [sP]
    refine gK 14 rfl ?_
    simp only [sP]
    refine gK 15 rfl ?_
    simp only [sP]
    refine gK 16 rfl ?_
    simp only [sP]
    refine gK 17 rfl ?_
    simp only [sP]
    refine gK 18 rfl ?_
    simp only [sP]
    refine gK 19 rfl ?_
    simp only [sP]
    refine gD 20 rfl ?_
    simp only [sP]
    refine rg_done (by kernel_rfl) ?_
    go_wp2_with fail
    (try simp only [Exit.inBlock, Exit.then])
    refine bodyPost_ret (results_tmp2 rfl _ _ _) rfl ?_
    exact .inr ⟨HNO.out, rfl, Hbw.out.trans ((Ext.drew W1).mono Hbw.out.size)⟩
  ·
   have hd0 : d = [] := by cases d with | nil => rfl | cons _ _ => simp at hd
   subst hd0
   have hfin : Ent.getAll bs = some (L.map EnV.x) := by rw [hrun.out, Ent.items_nil]; rfl
   have HF := Lib.hid hfin
   clear hfin hrun
   go_wp2_with fail
   (try simp only [Exit.inBlock, Exit.then])
   refine bodyPost_ret (results_tmp2 rfl _ _ _) rfl ?_
   exact .inl ⟨L, A2, c2, HF.out, rfl, hown.out.1, hown.out.2, hbw⟩
end Go.Proofs.YtjholekgdnhpkaaGreat
