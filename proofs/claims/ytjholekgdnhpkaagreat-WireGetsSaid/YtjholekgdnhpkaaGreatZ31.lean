/- Texts of the proof, laid together: WqA. -/
import Derived.Test.YtjholekgdnhpkaaGreatZ30
import Derived.Test.YtjholekgdnhpkaaGreatZ8
import Derived.Test.YtjholekgdnhpkaaGreatZ2
import Derived.Test.YtjholekgdnhpkaaGreatZ1
import Derived.Test.YtjholekgdnhpkaaGreatZ3
set_option linter.unusedVariables false
set_option linter.unusedSimpArgs false
set_option linter.unusedSectionVars false
namespace Go.Proofs.YtjholekgdnhpkaaGreat
open Go.RowKit
attribute [local go_sem] Oper.semAt_some
abbrev QT : TypeId := 57
structure RrAt (w : World) (S : Nat → Prop) (g : Nat) (A : Option Addr) (c : Nat) (d : List UInt8) (ok : Bool) : Prop where
 row : w.heap[g]? = some (.cells #[.slice A d.length c, .bool ok] QT (0, 0))
 tx : Tx w S A c d
 mem : S g
 lt : ∀ i, S i → i < w.heap.size
 len : d.length ≤ 1000000
def Rr (w : World) (S : Nat → Prop) (g : Nat) (d : List UInt8) (ok : Bool) : Prop := ∃ A c, RrAt w S g A c d ok
section
variable {w w' : World} {S T : Nat → Prop} {g : Nat} {A : Option Addr} {c : Nat} {d : List UInt8} {ok : Bool}
theorem RrAt.cell0 (h : RrAt w S g A c d ok) : w.cell? ⟨g, 0, none⟩ = some (.slice A d.length c) := cell_of_row w g 0 _ _ _ h.row
theorem RrAt.cell1 (h : RrAt w S g A c d ok) : w.cell? ⟨g, 1, none⟩ = some (.bool ok) := cell_of_row w g 1 _ _ _ h.row
theorem RrAt.ext (h : RrAt w S g A c d ok) (hx : Ext w w') : RrAt w' S g A c d ok := ⟨(hx.block _ (lt_of_heap h.row)).trans h.row, h.tx.ext hx, h.mem, fun i hi => Nat.lt_of_lt_of_le (h.lt i hi) hx.size, h.len⟩
theorem RrAt.set (h : RrAt w S g A c d ok) {A' : Option Addr} {c' : Nat} {d' : List UInt8} (ok' : Bool) (ht : Tx w S A' c' d') (hl : d'.length ≤ 1000000) : RrAt (w.setRow g #[.slice A' d'.length c', .bool ok']) S g A' c' d' ok' :=
 ⟨setRow_heap _ _ _ _ _ _ h.row, ht.trn (Trn.set (S := fun i => i = g) w g _ rfl) (fun i e => e ▸ h.mem), h.mem, fun i hi => Nat.lt_of_lt_of_le (h.lt i hi) (Trn.set (S := fun i => i = g) w g _ rfl).size, hl⟩
theorem Rr.trn (h : Rr w S g d ok) (t : Trn T w w') (hT : ∀ i, T i → S i) (hg : ¬ T g) : Rr w' S g d ok := by
 obtain ⟨A, c, h⟩ := h
 exact ⟨A, c, t.row h.row hg, h.tx.trn t hT, h.mem, fun i hi => Nat.lt_of_lt_of_le (h.lt i hi) t.size, h.len⟩
theorem Rr.more (h : Rr w S g d ok) (hx : Ext w w') (hS : ∀ i, T i → S i ∨ (w.heap.size ≤ i ∧ i < w'.heap.size)) (hg : T g) : Rr w' T g d ok := by
 obtain ⟨A, c, h⟩ := h
 exact ⟨A, c, (hx.block _ (lt_of_heap h.row)).trans h.row, (h.tx.more (fun i hi => (hS i hi).imp id (·.1))).ext hx, hg, fun i hi => (hS i hi).elim (fun k => Nat.lt_of_lt_of_le (h.lt i k) hx.size) (·.2), h.len⟩
theorem Rr.less (h : Rr w S g d ok) (hS : ∀ i, T i → S i) (hg : T g) : Rr w T g d ok := by
 obtain ⟨A, c, h⟩ := h
 exact ⟨A, c, h.row, h.tx.more (fun i hi => .inl (hS i hi)), hg, fun i hi => h.lt i (hS i hi), h.len⟩
end
set_option maxRecDepth 100000 in
set_option maxHeartbeats 1000000 in
theorem rbytes_any (S : Nat → Prop) (g : Nat) (A : Option Addr) (c : Nat) (d : List UInt8) (ok : Bool) (w : World) (h : RrAt w S g A c d ok) :
  Calls Tryz.prog 34 #[.pointer (some ⟨g, 0, none⟩)] w fun e w' => ∃ A' c', e = .returned (.slice A' (Vint.getBytes d).1.length c') ∧ Own w' w.heap.size 5 1 A' (Vint.getBytes d).1.length c' (bvs (Vint.getBytes d).1) ∧ Rr w' S g (d.drop (Vint.getBytes d).2.1) (ok && decide ((Vint.getBytes d).2.2 = 0)) ∧ Trn (fun i => i = g) w w' := by
 have h0 := h.cell0
 have hgl := lt_of_heap h.row
 have HG := Lib.hid (ref_getbytes01 A d c w h.tx.rd h.len h.tx.cap)
 have HL := Lib.hid (Vint.getBytes_le d)
 have H := Lib.hid h
 go_enter Tryz.func34, Tryz.ntmps34
 generalize Vint.getBytes d = r at HG HL ⊢
 obtain ⟨v, k, er⟩ := r
 have hbe : ((er : Int) == 0) = decide (er = 0) := by rw [Bool.eq_iff_iff]; simp
 clear h
 go_wp2_with (go_at_call 65; refine HG.out.mono ?_; rintro e1 w1 ⟨A1, c1, rfl, ho1, hb1⟩; rw [show gotRes A1 v.length c1 (v, k, er) = .tuple #[.slice A1 v.length c1, .int .i64 (k : Int), .int .i64 (er : Int)] from rfl]; refine Hid.out ?_)
 have hk1 := HL.out
 have hx1 : Ext w w1 := hb1
 have hA1 := H.out.ext hx1
 have h1 := hA1.cell1
 have r1 := hA1.row
 have r2 := setRow_heap w1 g _ #[.slice A d.length c, .bool (ok && decide (er = 0))] _ _ r1
 have hA2 := hA1.set (ok && decide (er = 0)) hA1.tx hA1.len
 have h0 := hA2.cell0
 have ht3 := hA2.tx.tail (k := k) (by omega)
 obtain ⟨A2, hA2d⟩ : ∃ A2, A2 = (if c = k then A else A.map (·.add k)) := ⟨_, rfl⟩
 rw [← hA2d] at ht3
 have HA2 := Lib.hid (show A2 = if c = k then A else A.map (·.add (k * 1)) by rw [Nat.mul_one]; exact hA2d)
 clear hA2d
 have hA3 := hA2.set (ok && decide (er = 0)) ht3 (by have := hA2.len; rw [List.length_drop]; omega)
 have T1 : Trn (fun i => i = g) w w1 := Trn.ext hx1
 have T2 := T1.tr (Trn.set (S := fun i => i = g) w1 g #[.slice A d.length c, .bool (ok && decide (er = 0))] rfl)
 have HA3 := Lib.hid hA3
 have HO1 := Lib.hid ho1
 obtain ⟨W2, hW2⟩ : ∃ W2, W2 = w1.setRow g #[.slice A d.length c, .bool (ok && decide (er = 0))] := ⟨_, rfl⟩
 rw [← hW2] at r2 h0 HA3 T2
 have HW2 := Lib.hid hW2
 have HT2 := Lib.hid T2
 have hkd : k ≤ d.length := by omega
 have hne := H.out.mem
 have HLT := Lib.hid H.out.lt
 clear hb1 hx1 hA1 hA2 ht3 hA3 ho1 T1 T2 hW2
 refine Lib.hid ?_
 have P1 : put1 #[Value.slice A d.length c, .bool ok] 1 [.bool (ok && decide (er = 0))] = #[.slice A d.length c, .bool (ok && decide (er = 0))] := rfl
 have i1 : (Tryz.prog.info? 4).map (·.size) = some 1 := by kernel_rfl
 have i0 : (Tryz.prog.info? 22).map (·.size) = some 1 := by kernel_rfl
 have HFIN : Hid (∀ W : World, W = W2.setRow g #[.slice A2 (d.length - k) (c - k), .bool (ok && decide (er = 0))] → ∃ A' c', (.returned (.slice A1 v.length c1) : Ending) = .returned (.slice A' v.length c') ∧ Own W w.heap.size 5 1 A' v.length c' (bvs v) ∧ Rr W S g (d.drop k) (ok && decide (er = 0)) ∧ Trn (fun i => i = g) w W) := fun W hW => by
  rw [← List.length_drop] at hW
  subst hW
  refine ⟨A1, c1, rfl, ?_, ⟨_, _, HA3.out⟩, HT2.out.tr (Trn.set _ _ _ rfl)⟩
  refine Own.trn (T := fun i => i = g) HO1.out ?_ (fun i e => e ▸ hgl)
  rw [HW2.out]
  exact (Trn.set (S := fun i => i = g) w1 g _ rfl).tr (Trn.set (S := fun i => i = g) _ g _ rfl)
 cases ok with
 | false =>
  go_wp2_with (first | (refine wpList_put1 (by rfl) 4 (.tmp 25) (.tmp 23) rfl ⟨g, 1, none⟩ rfl g 1 rfl (.bool (false && decide (er = 0))) rfl [.bool (false && decide (er = 0))] rfl _ QT r1 i1 (by simp) (by simp [Value.oneCell']) _ P1 ?_; rw [← HW2.out]) | (refine wpList_sliceL (by rfl) (.tmp 30) (.tmp 31) 22 rfl elemB A d.length c rfl k rfl hkd A2 HA2.out (d.length - k) (c - k) rfl rfl ?_) | (refine wpList_put1 (by rfl) 22 (.tmp 34) (.tmp 32) rfl ⟨g, 0, none⟩ rfl g 0 rfl (.slice A2 (d.length - k) (c - k)) rfl [.slice A2 (d.length - k) (c - k)] rfl _ QT r2 i0 (by simp) (by simp [Value.oneCell']) _ rfl ?_))
  go_ret
  exact HFIN.out _ rfl
 | true =>
  go_wp2_with (first | (refine wpList_put1 (by rfl) 4 (.tmp 25) (.tmp 23) rfl ⟨g, 1, none⟩ rfl g 1 rfl (.bool (true && decide (er = 0))) rfl [.bool (true && decide (er = 0))] rfl _ QT r1 i1 (by simp) (by simp [Value.oneCell']) _ P1 ?_; rw [← HW2.out]) | (refine wpList_sliceL (by rfl) (.tmp 30) (.tmp 31) 22 rfl elemB A d.length c rfl k rfl hkd A2 HA2.out (d.length - k) (c - k) rfl rfl ?_) | (refine wpList_put1 (by rfl) 22 (.tmp 34) (.tmp 32) rfl ⟨g, 0, none⟩ rfl g 0 rfl (.slice A2 (d.length - k) (c - k)) rfl [.slice A2 (d.length - k) (c - k)] rfl _ QT r2 i0 (by simp) (by simp [Value.oneCell']) _ rfl ?_))
  go_ret
  exact HFIN.out _ rfl
set_option maxRecDepth 100000 in
set_option maxHeartbeats 2000000 in
theorem rnum_any (S : Nat → Prop) (g : Nat) (A : Option Addr) (c : Nat) (d : List UInt8) (ok : Bool) (w : World) (h : RrAt w S g A c d ok) :
  Calls Tryz.prog 35 #[.pointer (some ⟨g, 0, none⟩)] w fun e w' => e = .returned (.int .i64 (Qn.val d (!(ok && Rn.ok d)))) ∧ Rr w' S g (Qn.rest d) (ok && Rn.ok d) ∧ Trn (fun i => i = g) w w' := by
 have h0 := h.cell0
 have h1 := h.cell1
 have r1 := h.row
 have HG := Lib.hid (ref_get01 A d c w h.tx.rd (by have := h.len; omega))
 have HL := Lib.hid (Vint.get_le d)
 have H := Lib.hid h
 have i1 : (Tryz.prog.info? 4).map (·.size) = some 1 := by kernel_rfl
 have i0 : (Tryz.prog.info? 22).map (·.size) = some 1 := by kernel_rfl
 go_enter Tryz.func35, Tryz.ntmps35
 obtain ⟨v, hv⟩ : ∃ v, v = (Vint.get d).1 := ⟨_, rfl⟩
 obtain ⟨k, hk⟩ : ∃ k, k = (Vint.get d).2.1 := ⟨_, rfl⟩
 obtain ⟨er, her⟩ : ∃ e, e = (Vint.get d).2.2 := ⟨_, rfl⟩
 have hres : getRes (Vint.get d) = .tuple #[.int .u64 (v : Int), .int .i64 (k : Int), .int .i64 (er : Int)] := by rw [hv, hk, her]; rfl
 have hok : Rn.ok d = (decide (er = 0) && decide (v ≤ 2147483647)) := by rw [hv, her]; rfl
 have hval : ∀ b, Qn.val d b = if b = true then 0 else (v : Int) := fun b => by rw [hv]; rfl
 have hrest : Qn.rest d = d.drop k := by rw [hk]; rfl
 rw [hrest, hval, hok]
 obtain ⟨bb, hbb⟩ : ∃ b, b = (ok && (decide (er = 0) && decide (v ≤ 2147483647))) := ⟨_, rfl⟩
 rw [← hbb]
 have HBB := Lib.hid hbb
 clear hbb
 rw [hres] at HG
 rw [← hk] at HL
 have hkd : k ≤ d.length := HL.out.1
 clear h hv hk her hres hok hval hrest
 go_wp2_with (go_at_call 66; refine HG.out.mono ?_; rintro e1 w1 ⟨rfl, rfl⟩; refine Hid.out ?_)
 refine Lib.hid ?_
 cases ok with
 | false =>
  obtain rfl : bb = false := HBB.out
  obtain ⟨W2, hW2⟩ : ∃ W2, W2 = w.setRow g #[.slice A d.length c, .bool false] := ⟨_, rfl⟩
  have r2 : W2.heap[g]? = some (.cells #[.slice A d.length c, .bool false] QT (0, 0)) := by rw [hW2]; exact setRow_heap w g _ _ _ _ r1
  have h02 : W2.cell? ⟨g, 0, none⟩ = some (.slice A d.length c) := cell_of_row W2 g 0 _ _ _ r2
  have hA2 : RrAt W2 S g A c d false := by rw [hW2]; exact H.out.set false H.out.tx H.out.len
  have ht3 := hA2.tx.tail (k := k) (by omega)
  obtain ⟨A2, hA2d⟩ : ∃ A2, A2 = (if c = k then A else A.map (·.add k)) := ⟨_, rfl⟩
  rw [← hA2d] at ht3
  have HA2 := Lib.hid (show A2 = if c = k then A else A.map (·.add (k * 1)) by rw [Nat.mul_one]; exact hA2d)
  obtain ⟨W3, hW3⟩ : ∃ W3, W3 = W2.setRow g #[.slice A2 (d.length - k) (c - k), .bool false] := ⟨_, rfl⟩
  have hA3 : RrAt W3 S g A2 (c - k) (d.drop k) false := by
   have h9 := hA2.set false ht3 (by have := hA2.len; rw [List.length_drop]; omega)
   rw [List.length_drop] at h9
   rw [hW3]; exact h9
  have c31 : W3.cell? ⟨g, 1, none⟩ = some (.bool false) := hA3.cell1
  have hT : Trn (fun i => i = g) w W3 := by rw [hW3, hW2]; exact (Trn.set (S := fun i => i = g) w g _ rfl).tr (Trn.set (S := fun i => i = g) _ g _ rfl)
  have HA3 := Lib.hid hA3
  have HT := Lib.hid hT
  have HW2 := Lib.hid hW2
  have HW3 := Lib.hid hW3
  clear hW2 hW3 hA3 hA2 ht3 hA2d hT
  go_wp2_with (first | (refine wpList_put1 (by rfl) 4 (.tmp 29) (.tmp 27) rfl ⟨g, 1, none⟩ rfl g 1 rfl (.bool false) rfl [.bool false] rfl _ QT r1 i1 (by simp) (by simp [Value.oneCell']) #[.slice A d.length c, .bool false] rfl ?_; rw [← HW2.out]) | (refine wpList_sliceL (by rfl) (.tmp 34) (.tmp 35) 22 rfl elemB A d.length c rfl k rfl hkd A2 HA2.out (d.length - k) (c - k) rfl rfl ?_) | (refine wpList_put1 (by rfl) 22 (.tmp 38) (.tmp 36) rfl ⟨g, 0, none⟩ rfl g 0 rfl (.slice A2 (d.length - k) (c - k)) rfl [.slice A2 (d.length - k) (c - k)] rfl _ QT r2 i0 (by simp) (by simp [Value.oneCell']) #[.slice A2 (d.length - k) (c - k), .bool false] rfl ?_; rw [← HW3.out]))
  go_ret
  exact ⟨rfl, ⟨_, _, HA3.out⟩, HT.out⟩
 | true =>
  by_cases he : er = 0
  ·
   subst he
   by_cases hv : v ≤ 2147483647
   ·
    obtain rfl : bb = true := by rw [HBB.out]; simp [hv]
    have hv2 : decide ((v : Int) < 2147483648) = true := decide_eq_true (by omega)
    have hv3 : IntKind.i64.wrap (v : Int) = (v : Int) := by rw [IntKind.wrap_i64]; omega
    obtain ⟨W2, hW2⟩ : ∃ W2, W2 = w.setRow g #[.slice A d.length c, .bool true] := ⟨_, rfl⟩
    have r2 : W2.heap[g]? = some (.cells #[.slice A d.length c, .bool true] QT (0, 0)) := by rw [hW2]; exact setRow_heap w g _ _ _ _ r1
    have h02 : W2.cell? ⟨g, 0, none⟩ = some (.slice A d.length c) := cell_of_row W2 g 0 _ _ _ r2
    have hA2 : RrAt W2 S g A c d true := by rw [hW2]; exact H.out.set true H.out.tx H.out.len
    have ht3 := hA2.tx.tail (k := k) (by omega)
    obtain ⟨A2, hA2d⟩ : ∃ A2, A2 = (if c = k then A else A.map (·.add k)) := ⟨_, rfl⟩
    rw [← hA2d] at ht3
    have HA2 := Lib.hid (show A2 = if c = k then A else A.map (·.add (k * 1)) by rw [Nat.mul_one]; exact hA2d)
    obtain ⟨W3, hW3⟩ : ∃ W3, W3 = W2.setRow g #[.slice A2 (d.length - k) (c - k), .bool true] := ⟨_, rfl⟩
    have hA3 : RrAt W3 S g A2 (c - k) (d.drop k) true := by
     have h9 := hA2.set true ht3 (by have := hA2.len; rw [List.length_drop]; omega)
     rw [List.length_drop] at h9
     rw [hW3]; exact h9
    have c31 : W3.cell? ⟨g, 1, none⟩ = some (.bool true) := hA3.cell1
    have hT : Trn (fun i => i = g) w W3 := by rw [hW3, hW2]; exact (Trn.set (S := fun i => i = g) w g _ rfl).tr (Trn.set (S := fun i => i = g) _ g _ rfl)
    have HA3 := Lib.hid hA3
    have HT := Lib.hid hT
    have HW2 := Lib.hid hW2
    have HW3 := Lib.hid hW3
    clear hW2 hW3 hA3 hA2 ht3 hA2d hT
    go_wp2_with (first | (refine wpList_put1 (by rfl) 4 (.tmp 29) (.tmp 27) rfl ⟨g, 1, none⟩ rfl g 1 rfl (.bool true) rfl [.bool true] rfl _ QT r1 i1 (by simp) (by simp [Value.oneCell']) #[.slice A d.length c, .bool true] rfl ?_; rw [← HW2.out]) | (refine wpList_sliceL (by rfl) (.tmp 34) (.tmp 35) 22 rfl elemB A d.length c rfl k rfl hkd A2 HA2.out (d.length - k) (c - k) rfl rfl ?_) | (refine wpList_put1 (by rfl) 22 (.tmp 38) (.tmp 36) rfl ⟨g, 0, none⟩ rfl g 0 rfl (.slice A2 (d.length - k) (c - k)) rfl [.slice A2 (d.length - k) (c - k)] rfl _ QT r2 i0 (by simp) (by simp [Value.oneCell']) #[.slice A2 (d.length - k) (c - k), .bool true] rfl ?_; rw [← HW3.out]))
    go_ret
    exact ⟨rfl, ⟨_, _, HA3.out⟩, HT.out⟩
   ·
    obtain rfl : bb = false := by rw [HBB.out]; simp [hv]
    have hv2 : decide ((v : Int) < 2147483648) = false := decide_eq_false (by omega)
    obtain ⟨W2, hW2⟩ : ∃ W2, W2 = w.setRow g #[.slice A d.length c, .bool false] := ⟨_, rfl⟩
    have r2 : W2.heap[g]? = some (.cells #[.slice A d.length c, .bool false] QT (0, 0)) := by rw [hW2]; exact setRow_heap w g _ _ _ _ r1
    have h02 : W2.cell? ⟨g, 0, none⟩ = some (.slice A d.length c) := cell_of_row W2 g 0 _ _ _ r2
    have hA2 : RrAt W2 S g A c d false := by rw [hW2]; exact H.out.set false H.out.tx H.out.len
    have ht3 := hA2.tx.tail (k := k) (by omega)
    obtain ⟨A2, hA2d⟩ : ∃ A2, A2 = (if c = k then A else A.map (·.add k)) := ⟨_, rfl⟩
    rw [← hA2d] at ht3
    have HA2 := Lib.hid (show A2 = if c = k then A else A.map (·.add (k * 1)) by rw [Nat.mul_one]; exact hA2d)
    obtain ⟨W3, hW3⟩ : ∃ W3, W3 = W2.setRow g #[.slice A2 (d.length - k) (c - k), .bool false] := ⟨_, rfl⟩
    have hA3 : RrAt W3 S g A2 (c - k) (d.drop k) false := by
     have h9 := hA2.set false ht3 (by have := hA2.len; rw [List.length_drop]; omega)
     rw [List.length_drop] at h9
     rw [hW3]; exact h9
    have c31 : W3.cell? ⟨g, 1, none⟩ = some (.bool false) := hA3.cell1
    have hT : Trn (fun i => i = g) w W3 := by rw [hW3, hW2]; exact (Trn.set (S := fun i => i = g) w g _ rfl).tr (Trn.set (S := fun i => i = g) _ g _ rfl)
    have HA3 := Lib.hid hA3
    have HT := Lib.hid hT
    have HW2 := Lib.hid hW2
    have HW3 := Lib.hid hW3
    clear hW2 hW3 hA3 hA2 ht3 hA2d hT
    go_wp2_with (first | (refine wpList_put1 (by rfl) 4 (.tmp 29) (.tmp 27) rfl ⟨g, 1, none⟩ rfl g 1 rfl (.bool false) rfl [.bool false] rfl _ QT r1 i1 (by simp) (by simp [Value.oneCell']) #[.slice A d.length c, .bool false] rfl ?_; rw [← HW2.out]) | (refine wpList_sliceL (by rfl) (.tmp 34) (.tmp 35) 22 rfl elemB A d.length c rfl k rfl hkd A2 HA2.out (d.length - k) (c - k) rfl rfl ?_) | (refine wpList_put1 (by rfl) 22 (.tmp 38) (.tmp 36) rfl ⟨g, 0, none⟩ rfl g 0 rfl (.slice A2 (d.length - k) (c - k)) rfl [.slice A2 (d.length - k) (c - k)] rfl _ QT r2 i0 (by simp) (by simp [Value.oneCell']) #[.slice A2 (d.length - k) (c - k), .bool false] rfl ?_; rw [← HW3.out]))
    go_ret
    exact ⟨rfl, ⟨_, _, HA3.out⟩, HT.out⟩
  ·
   obtain rfl : bb = false := by rw [HBB.out]; simp [he]
   have hv2 : ((er : Int) == 0) = false := by rw [beq_eq_false_iff_ne]; omega
   obtain ⟨W2, hW2⟩ : ∃ W2, W2 = w.setRow g #[.slice A d.length c, .bool false] := ⟨_, rfl⟩
   have r2 : W2.heap[g]? = some (.cells #[.slice A d.length c, .bool false] QT (0, 0)) := by rw [hW2]; exact setRow_heap w g _ _ _ _ r1
   have h02 : W2.cell? ⟨g, 0, none⟩ = some (.slice A d.length c) := cell_of_row W2 g 0 _ _ _ r2
   have hA2 : RrAt W2 S g A c d false := by rw [hW2]; exact H.out.set false H.out.tx H.out.len
   have ht3 := hA2.tx.tail (k := k) (by omega)
   obtain ⟨A2, hA2d⟩ : ∃ A2, A2 = (if c = k then A else A.map (·.add k)) := ⟨_, rfl⟩
   rw [← hA2d] at ht3
   have HA2 := Lib.hid (show A2 = if c = k then A else A.map (·.add (k * 1)) by rw [Nat.mul_one]; exact hA2d)
   obtain ⟨W3, hW3⟩ : ∃ W3, W3 = W2.setRow g #[.slice A2 (d.length - k) (c - k), .bool false] := ⟨_, rfl⟩
   have hA3 : RrAt W3 S g A2 (c - k) (d.drop k) false := by
    have h9 := hA2.set false ht3 (by have := hA2.len; rw [List.length_drop]; omega)
    rw [List.length_drop] at h9
    rw [hW3]; exact h9
   have c31 : W3.cell? ⟨g, 1, none⟩ = some (.bool false) := hA3.cell1
   have hT : Trn (fun i => i = g) w W3 := by rw [hW3, hW2]; exact (Trn.set (S := fun i => i = g) w g _ rfl).tr (Trn.set (S := fun i => i = g) _ g _ rfl)
   have HA3 := Lib.hid hA3
   have HT := Lib.hid hT
   have HW2 := Lib.hid hW2
   have HW3 := Lib.hid hW3
   clear hW2 hW3 hA3 hA2 ht3 hA2d hT
   go_wp2_with (first | (refine wpList_put1 (by rfl) 4 (.tmp 29) (.tmp 27) rfl ⟨g, 1, none⟩ rfl g 1 rfl (.bool false) rfl [.bool false] rfl _ QT r1 i1 (by simp) (by simp [Value.oneCell']) #[.slice A d.length c, .bool false] rfl ?_; rw [← HW2.out]) | (refine wpList_sliceL (by rfl) (.tmp 34) (.tmp 35) 22 rfl elemB A d.length c rfl k rfl hkd A2 HA2.out (d.length - k) (c - k) rfl rfl ?_) | (refine wpList_put1 (by rfl) 22 (.tmp 38) (.tmp 36) rfl ⟨g, 0, none⟩ rfl g 0 rfl (.slice A2 (d.length - k) (c - k)) rfl [.slice A2 (d.length - k) (c - k)] rfl _ QT r2 i0 (by simp) (by simp [Value.oneCell']) #[.slice A2 (d.length - k) (c - k), .bool false] rfl ?_; rw [← HW3.out]))
   go_ret
   exact ⟨rfl, ⟨_, _, HA3.out⟩, HT.out⟩
def QCut (S : Nat → Prop) (g : Nat) (n : Nat) (d : List UInt8) (ok : Bool) (w : World) (e : Ending) (w' : World) : Prop :=
 ∃ A c, e = .returned (.slice A n c) ∧ Tx w' S A c (Rc.val n d) ∧ n ≤ c ∧ Trn (fun i => i = g) w w' ∧ Rr w' S g (Rc.rest n d) (ok && !decide (d.length < n))
set_option maxRecDepth 100000 in
set_option maxHeartbeats 1000000 in
theorem rfixed_any (S : Nat → Prop) (g : Nat) (A : Option Addr) (c : Nat) (d : List UInt8) (ok : Bool) (w : World) (n : Nat) (hn : n ≤ 100) (h : RrAt w S g A c d ok) :
  Calls Tryz.prog 36 #[.pointer (some ⟨g, 0, none⟩), .int .i64 (n : Int)] w fun e w' => QCut S g n d ok w e w' := by
 have h0 := h.cell0
 have h1 := h.cell1
 have hz : (Tryz.prog.info? 5).bind (·.zero) = some (.int .u8 0) := by kernel_rfl
 have i1 : (Tryz.prog.info? 4).map (·.size) = some 1 := by kernel_rfl
 have i0 : (Tryz.prog.info? 22).map (·.size) = some 1 := by kernel_rfl
 by_cases hs : d.length < n
 ·
  have hd1 : (d.length : Int) < (n : Int) := by omega
  have hrow := h.row
  have hv : Rc.val n d = List.replicate n 0 := if_pos hs
  have hr : Rc.rest n d = d := if_pos hs
  have hb : (ok && !decide (d.length < n)) = false := by simp [hs]
  have K1 := Lib.hid (h.set false h.tx h.len)
  unfold QCut
  rw [hv, hr, hb]
  clear h hv hr hb hs
  go_enter Tryz.func36, Tryz.ntmps36
  go_wp2_with (first | (refine wpList_put1 (by rfl) 4 (.tmp 15) (.const (.bool false)) rfl ⟨g, 1, none⟩ rfl g 1 rfl (.bool false) rfl [.bool false] rfl _ QT hrow i1 (by simp) (by simp [Value.oneCell']) #[.slice A d.length c, .bool false] rfl ?_) | (refine wpList_mk (by rfl) (.tmp 16) (.tmp 16) 22 rfl elemB (.int .u8 0) hz rfl n _ _ rfl rfl (by omega) (by omega) ?_))
  go_ret
  have hx := Ext.alloc (w.setRow g #[.slice A d.length c, .bool false]) (.cells (Array.replicate n (.int .u8 0)) 5)
  refine ⟨_, _, rfl, ?_, Nat.le_refl _, (Trn.set (S := fun i => i = g) _ _ _ rfl).tr (Trn.ext hx), ⟨_, _, K1.out.ext hx⟩⟩
  have hz2 := Rd.zeros (w.setRow g #[.slice A d.length c, .bool false]) n
  refine ⟨by simpa using hz2, by simp, fun _ ad e hs => ?_⟩
  have := K1.out.lt _ hs
  injection e with e
  subst e
  simp at this
 ·
  have hd1 : ¬ (d.length : Int) < (n : Int) := by omega
  have hnd : n ≤ d.length := by omega
  have hcap := h.tx.cap
  have hrow := h.row
  have hv : Rc.val n d = d.take n := if_neg hs
  have hr : Rc.rest n d = d.drop n := if_neg hs
  have hb : (ok && !decide (d.length < n)) = ok := by simp [hs]
  obtain ⟨A3, hA3⟩ : ∃ A3, A3 = (if c = n then A else A.map (·.add (n * 1))) := ⟨_, rfl⟩
  have htd := h.tx.tail hnd
  rw [show A.map (·.add n) = A.map (·.add (n * 1)) by rw [Nat.mul_one], ← hA3] at htd
  have K1 := h.set (d' := d.drop n) (A' := A3) (c' := c - n) ok htd (by have := h.len; rw [List.length_drop]; omega)
  rw [show (d.drop n).length = d.length - n from List.length_drop] at K1
  have K1 := Lib.hid K1
  have HT := Lib.hid ((h.tx.head hnd).trn (Trn.set (S := fun i => i = g) w g #[.slice A3 (d.length - n) (c - n), .bool ok] rfl) (fun i e => e ▸ h.mem))
  have HA3 := Lib.hid hA3
  unfold QCut
  rw [hv, hr, hb]
  clear h hv hr hb hs hA3 htd
  go_enter Tryz.func36, Tryz.ntmps36
  go_wp2_with (first | (refine wpList_sliceH (by rfl) (.tmp 21) (.tmp 22) 22 rfl elemB A d.length c rfl n rfl (by omega) ?_) | (refine wpList_sliceL (by rfl) (.tmp 28) (.tmp 29) 22 rfl elemB A d.length c rfl n rfl hnd A3 HA3.out (d.length - n) (c - n) rfl rfl ?_) | (refine wpList_put1 (by rfl) 22 (.tmp 32) (.tmp 30) rfl ⟨g, 0, none⟩ rfl g 0 rfl _ rfl [.slice A3 (d.length - n) (c - n)] rfl _ QT hrow i0 (by simp) (by simp [Value.oneCell']) #[.slice A3 (d.length - n) (c - n), .bool ok] rfl ?_))
  go_ret
  refine ⟨_, _, rfl, HT.out, by omega, Trn.set (S := fun i => i = g) _ _ _ rfl, ⟨A3, c - n, K1.out⟩⟩
def ovr (v : List UInt8) (k : Nat) : Array Value := (bvs (v.take k ++ List.replicate (32 - k) 0)).toArray
theorem ovr_size {v : List UInt8} {k : Nat} (hv : v.length = 32) (hk : k ≤ 32) : (ovr v k).size = 32 := by
 unfold ovr
 simp [bvs_len]
 omega
theorem ovr_put {v : List UInt8} {k : Nat} (hv : v.length = 32) (hk : k < 32) : put1 (ovr v k) k [.int .u8 (v[k].toNat : Int)] = ovr v (k + 1) := by
 obtain ⟨a, b, hab, hl⟩ : ∃ a b, v = a ++ v[k] :: b ∧ a.length = k := ⟨v.take k, v.drop (k + 1), by rw [← List.drop_eq_getElem_cons (by omega), List.take_append_drop], by rw [List.length_take]; omega⟩
 obtain ⟨x, hx⟩ : ∃ x, x = v[k] := ⟨_, rfl⟩
 rw [← hx] at hab ⊢
 clear hx
 subst hab
 subst hl
 unfold put1 ovr
 have h1 : (a ++ x :: b).take a.length = a := by simp
 have h2 : (a ++ x :: b).take (a.length + 1) = a ++ [x] := by rw [show a ++ x :: b = (a ++ [x]) ++ b by simp]; exact List.take_left' (by simp)
 have h3 : List.replicate (32 - a.length) (0 : UInt8) = 0 :: List.replicate (32 - (a.length + 1)) 0 := by
  rw [show 32 - a.length = (32 - (a.length + 1)) + 1 by omega, List.replicate_succ]
 rw [h1, h2, h3]
 have h4 : (bvs (a ++ 0 :: List.replicate (32 - (a.length + 1)) 0)) = bvs a ++ bv 0 :: bvs (List.replicate (32 - (a.length + 1)) 0) := by rw [bvs_app]; rfl
 have h5 : (bvs (a ++ [x] ++ List.replicate (32 - (a.length + 1)) 0)) = bvs a ++ bv x :: bvs (List.replicate (32 - (a.length + 1)) 0) := by rw [bvs_app, bvs_app, List.append_assoc]; rfl
 rw [h4, h5]
 have h6 : (bvs a).length = a.length := bvs_len a
 congr 1
 simp only [List.length_cons, List.length_nil]
 rw [← h6]
 simp [bv]
def QSum (S : Nat → Prop) (g : Nat) (d : List UInt8) (ok : Bool) (w : World) (e : Ending) (w' : World) : Prop :=
 e = .returned (.agg (bvs (Rc.val 32 d)).toArray) ∧ Rr w' S g (Rc.rest 32 d) (ok && !decide (d.length < 32)) ∧ Trn (fun i => i = g) w w'
set_option maxRecDepth 100000 in
set_option maxHeartbeats 2000000 in
theorem rsumr_any (S : Nat → Prop) (g : Nat) (d : List UInt8) (ok : Bool) (w : World) (h : Rr w S g d ok) :
  Calls Tryz.prog 37 #[.pointer (some ⟨g, 0, none⟩)] w fun e w' => QSum S g d ok w e w' := by
 obtain ⟨W0, hW0⟩ : ∃ W0, W0 = (w.alloc (.cells (Array.replicate 32 (.int .u8 0)) 26)).alloc (.cells (Array.replicate 32 (.int .u8 0)) 26) := ⟨_, rfl⟩
 have hx0 : Ext w W0 := by rw [hW0]; exact (Ext.alloc _ _).tr (Ext.alloc _ _)
 have hs0 : W0.heap.size = w.heap.size + 2 := by rw [hW0]; simp
 have g2 : W0.heap[w.heap.size]? = some (.cells (Array.replicate 32 (.int .u8 0)) 26 (0, 0)) := by rw [hW0]; exact heap_alloc2_old w _ _
 have g3 : W0.heap[w.heap.size + 1]? = some (.cells (Array.replicate 32 (.int .u8 0)) 26 (0, 0)) := by rw [hW0]; exact heap_alloc2_new w _ _
 have hgl : g < w.heap.size := by obtain ⟨A, c, h⟩ := h; exact h.lt _ h.mem
 have hT0 : Rr W0 (fun i => S i ∨ (i = w.heap.size ∨ i = w.heap.size + 1)) g d ok := h.more hx0 (fun i hi => hi.imp id (fun e => by omega)) (.inl (by obtain ⟨A, c, h⟩ := h; exact h.mem))
 obtain ⟨A, c, hA⟩ := hT0
 have HC := Lib.hid (show Calls Tryz.prog 36 #[.pointer (some ⟨g, 0, none⟩), .int .i64 32] W0 _ from rfixed_any _ g A c d ok W0 32 (by omega) hA)
 have HW0 := Lib.hid (show (w.alloc (.cells #[.int .u8 0, .int .u8 0, .int .u8 0, .int .u8 0, .int .u8 0, .int .u8 0, .int .u8 0, .int .u8 0, .int .u8 0, .int .u8 0, .int .u8 0, .int .u8 0, .int .u8 0, .int .u8 0, .int .u8 0, .int .u8 0, .int .u8 0, .int .u8 0, .int .u8 0, .int .u8 0, .int .u8 0, .int .u8 0, .int .u8 0, .int .u8 0, .int .u8 0, .int .u8 0, .int .u8 0, .int .u8 0, .int .u8 0, .int .u8 0, .int .u8 0, .int .u8 0] 26)).alloc (.cells #[.int .u8 0, .int .u8 0, .int .u8 0, .int .u8 0, .int .u8 0, .int .u8 0, .int .u8 0, .int .u8 0, .int .u8 0, .int .u8 0, .int .u8 0, .int .u8 0, .int .u8 0, .int .u8 0, .int .u8 0, .int .u8 0, .int .u8 0, .int .u8 0, .int .u8 0, .int .u8 0, .int .u8 0, .int .u8 0, .int .u8 0, .int .u8 0, .int .u8 0, .int .u8 0, .int .u8 0, .int .u8 0, .int .u8 0, .int .u8 0, .int .u8 0, .int .u8 0] 26) = W0 from hW0.symm)
 have hvl := Rc.len 32 d
 unfold QSum
 unfold QCut at HC
 go_enter Tryz.func37, Tryz.ntmps37
 generalize Rc.val 32 d = v at HC hvl ⊢
 generalize Rc.rest 32 d = r at HC ⊢
 generalize (ok && !decide (d.length < 32)) = bb at HC ⊢
 have H := Lib.hid h
 clear h hA
 go_wp2_with (go_at_call 36; rw [HW0.out]; refine HC.out.mono ?_; rintro e1 w1 ⟨A1, c1, rfl, ht1, hc1, hn1, hr1⟩; refine Hid.out ?_)
 have r3 := hn1.row g3 (by omega)
 have r2 := hn1.row g2 (by omega)
 have i8 : (Tryz.prog.info? 5).map (·.size) = some 1 := by kernel_rfl
 obtain ⟨ad, rfl, -⟩ := ht1.rd.at_ (k := 0) (by omega)
 clear HC HW0 g3 g2
 refine Lib.hid ?_
 go_wp2_with fail
 go_loopw [5] (fun i wr => ∃ (k : Nat), k ≤ 32 ∧ i = .int .i64 k ∧ Hid (wr.heap[w.heap.size + 1]? = some (.cells (ovr v k) 26 (0, 0))) ∧ Trn (fun i => i = w.heap.size + 1) w1 wr) (fun i _ => 32 - (intOf i).toNat)
 case atStart => exact ⟨0, by omega, rfl, by unfold Hid; rw [r3]; rfl, Trn.refl _ _⟩
 case round =>
  obtain ⟨k, hk, rfl, hg, ht⟩ := hrel
  by_cases h : k < 32
  ·
   have ik : (0 : Int) ≤ (k : Int) := by omega
   have ik2 : (k : Int) < 32 := by omega
   obtain ⟨ad', e', hcell⟩ := (ht1.trn ht (fun i e => .inr (.inr e))).rd.at_ (k := k) (by omega)
   injection e' with e'
   subst e'
   have hrow := hg.out
   have hfit := ovr_size hvl hk
   have hput := ovr_put hvl h
   obtain ⟨x, hx⟩ : ∃ x, x = v[k] := ⟨_, rfl⟩
   rw [← hx] at hcell hput
   have HT := Lib.hid (ht.tr (Trn.set (S := fun i => i = w.heap.size + 1) wr (w.heap.size + 1) (ovr v (k + 1)) rfl))
   have HR := Lib.hid (setRow_heap wr (w.heap.size + 1) _ (ovr v (k + 1)) _ _ hrow)
   generalize ovr v k = C at hrow hfit hput
   obtain ⟨C', hC'⟩ : ∃ C', C' = ovr v (k + 1) := ⟨_, rfl⟩
   rw [← hC'] at hput HT HR
   have HC' := Lib.hid hC'
   clear hx hg hC'
   go_wp2_with (refine wpList_put1 (by rfl) 5 (.tmp 17) (.tmp 16) rfl ⟨w.heap.size + 1, k, none⟩ rfl (w.heap.size + 1) k rfl (.int .u8 (x.toNat : Int)) rfl [.int .u8 (x.toNat : Int)] rfl C 26 hrow i8 (by simp; omega) (by simp [Value.oneCell']) C' hput ?_)
   go_roundw
   case rel => exact ⟨k + 1, by omega, by go_num, by rw [← HC'.out]; exact HR, HT.out⟩
   case measure => simp [intOf]; omega
  ·
   obtain rfl : k = 32 := by omega
   have hov : ovr v 32 = (bvs v).toArray := by unfold ovr; rw [List.take_of_length_le (by omega)]; simp
   have hrow := hg.out
   rw [hov] at hrow
   have hr2 := ht.row r2 (by omega)
   have hsz : (bvs v).toArray.size = 32 := by simp [bvs_len, hvl]
   have iS : (Tryz.prog.info? 26).map (·.size) = some 32 := by kernel_rfl
   have hput : put1 (Array.replicate 32 (Value.int .u8 0)) 0 (bvs v) = (bvs v).toArray := by unfold put1; simp [bvs_len, hvl]
   have hbo := bvs_one v
   have hlv : (bvs v).length = 32 := by rw [bvs_len, hvl]
   have HT := Lib.hid ((hn1.tr (Trn.refl _ _)).tr (Trn.refl _ _))
   have HR := Lib.hid (setRow_heap wr w.heap.size _ (bvs v).toArray _ _ hr2)
   obtain ⟨C, hC⟩ : ∃ C, C = (bvs v).toArray := ⟨_, rfl⟩
   have hvC : (Value.agg C).cells = (bvs v).toArray := by rw [hC]; rfl
   rw [← hC] at hrow hsz hput HR
   generalize hZ : Array.replicate 32 (Value.int .u8 0) = Z at hr2 hput
   have hZs : Z.size = 32 := by rw [← hZ]; simp
   have HCC := Lib.hid hC
   clear hZ hC hg
   go_wp2_with (first | (refine wpList_load_row rfl 26 (.tmp 3) rfl (w.heap.size + 1) rfl 26 C (0, 0) _ hrow Tryz.underlying26 rfl (by rw [hsz]; exact iS) ?_) | (refine wpList_put1 (by rfl) 26 (.tmp 2) (.tmp 18) rfl ⟨w.heap.size, 0, none⟩ rfl w.heap.size 0 rfl (.agg C) rfl (bvs v) hvC Z _ hr2 (by rw [hlv]; exact iS) (by omega) hbo C hput ?_))
   (try simp only [Exit.inBlock, Exit.then])
   refine bodyPost_ret (v := .agg C) (results_cell_row rfl _ _ w.heap.size 26 C (0, 0) _ rfl HR.out Tryz.underlying26 rfl (by rw [hsz]; exact iS)) rfl ?_
   have hT5 : Trn (fun i => i = w.heap.size ∨ i = w.heap.size + 1) w1 (wr.setRow w.heap.size C) := (ht.mono (fun i e _ => .inr e)).tr (Trn.set _ _ _ (.inl rfl))
   refine ⟨by rw [HCC.out], (hr1.trn hT5 (fun i e => .inr e) (by omega)).less (fun i e => .inl e) (by obtain ⟨_, _, h⟩ := H.out; exact h.mem), ?_⟩
   have h6 : Trn (fun i => i = g ∨ (i = w.heap.size ∨ i = w.heap.size + 1)) W0 (wr.setRow w.heap.size C) := (hn1.mono (fun i e _ => .inl e)).tr (hT5.mono (fun i e _ => .inr e))
   exact ((Trn.ext hx0).tr h6).mono (fun i e hi => e.elim id (fun e => by omega))
end Go.Proofs.YtjholekgdnhpkaaGreat
