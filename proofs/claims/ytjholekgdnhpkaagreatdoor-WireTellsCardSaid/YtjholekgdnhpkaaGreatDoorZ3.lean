/- Texts of the proof, laid together: EntPut Compare EntIn EntBetween Mem2 ShaSched ShaRounds ShaTake Clone ShaHash Mem3 ShaOut ShaSum ShaObj ShaRefBlock ShaRefSum EntDigest StrCmp SlCut. -/
import Derived.Test.YtjholekgdnhpkaaGreatDoorProg
import Derived.Test.YtjholekgdnhpkaaGreatDoorZ1
import Derived.Test.YtjholekgdnhpkaaGreatDoorZ2
import Derived.Lib.Bytealg
import Derived.Laws.Externs
import Derived.WalkLawsBesides
import Derived.Laws.CopyRow
import Derived.Test.YtjholekgdnhpkaaGreatDoorZ30
import Derived.Laws.ResultCell
import Derived.WalkSpells
set_option linter.unusedVariables false
set_option linter.unusedSimpArgs false
set_option linter.unusedSectionVars false
namespace Go.Proofs.YtjholekgdnhpkaaGreatDoor
open Go.RowKit
attribute [local go_sem] Oper.semAt_some
theorem einfo (e : EnV) : (Tryz.prog.info? 40).map (·.size) = some e.cells.size := by
 rw [show e.cells.size = 2 from rfl]; kernel_rfl
theorem elemE : ElemT Tryz.prog 28 40 2 48 := ElemT.mk' Tryz.underlying28 (z := .agg #[.slice none 0 0, .slice none 0 0]) (by kernel_rfl) (by rfl) (by decide)
def Ent.put (e : Ent) : List UInt8 := Vint.putBytes e.key ++ Vint.putBytes e.val
def Ent.putAll (l : List Ent) : List UInt8 := l.flatMap Ent.put
theorem Ent.putAll_snoc (l : List Ent) (k : Nat) (h : k < l.length) : Ent.putAll (l.take (k + 1)) = Ent.putAll (l.take k) ++ l[k].put := by
 unfold Ent.putAll
 rw [List.take_succ_eq_append_getElem h, List.flatMap_append]
 simp
def Ent.size (e : Ent) : Nat := e.key.length + e.val.length
def Ent.total (l : List Ent) : Nat := (l.map Ent.size).foldl (· + ·) 0
theorem foldl_add (l : List Nat) : ∀ n, l.foldl (· + ·) n = n + l.foldl (· + ·) 0 := by
 induction l with
 | nil => intro n; rfl
 | cons x l ih => intro n; simp only [List.foldl_cons]; rw [ih (n + x), ih (0 + x)]; omega
theorem Ent.total_snoc (l : List Ent) (k : Nat) (h : k < l.length) : Ent.total (l.take (k + 1)) = Ent.total (l.take k) + l[k].size := by
 unfold Ent.total
 rw [List.take_succ_eq_append_getElem h, List.map_append, List.foldl_append]
 rfl
theorem Ent.total_cons (e : Ent) (l : List Ent) : Ent.total (e :: l) = e.size + Ent.total l := by
 unfold Ent.total
 simp only [List.map_cons, List.foldl_cons]
 rw [foldl_add]; omega
theorem Ent.one_total (l : List Ent) (k : Nat) (h : k < l.length) : l[k].size ≤ Ent.total l := by
 induction l generalizing k with
 | nil => simp at h
 | cons e l ih =>
  rw [Ent.total_cons]
  cases k with
  | zero => simp
  | succ k => have := ih k (by simpa using h); simp; omega
theorem Ent.put_len (e : Ent) : e.put.length ≤ e.size + 20 := by
 have h1 := (Vint.put_len e.key.length).2
 have h2 := (Vint.put_len e.val.length).2
 simp only [Ent.put, Ent.size, Vint.putBytes, List.length_append]
 omega
theorem Ent.putAll_len (l : List Ent) : (Ent.putAll l).length ≤ Ent.total l + 20 * l.length := by
 induction l with
 | nil => simp [Ent.putAll, Ent.total]
 | cons e l ih =>
  have h1 := e.put_len
  have h2 := Ent.total_cons e l
  show (e.put ++ Ent.putAll l).length ≤ _
  rw [List.length_append, h2, List.length_cons]
  omega
theorem Ent.putAll_take_le (l : List Ent) (k : Nat) : (Ent.putAll (l.take k)).length ≤ (Ent.putAll l).length := by
 conv => rhs; rw [← List.take_append_drop k l]
 unfold Ent.putAll
 rw [List.flatMap_append, List.length_append]
 omega
set_option maxRecDepth 100000 in
set_option maxHeartbeats 1000000 in
theorem eput_any (e : EnV) (w : World) (hin : e.In w) (h1 : e.x.key.length ≤ 1000000) (h2 : e.x.val.length ≤ 1000000) :
  Calls Tryz.prog 88 #[.agg e.cells] w fun e' w' => ∃ A' c', e' = .returned (.slice A' e.x.put.length c') ∧ Own w' w.heap.size 5 1 A' e.x.put.length c' (bvs e.x.put) ∧ Below w.heap.size w w' := by
 have hE0 := Ext.alloc w (.cells e.cells 40)
 have g0 := heap_alloc_new w (.cells e.cells 40)
 have hc0 : (w.alloc (.cells e.cells 40)).drew.cell? ⟨w.heap.size, 0, none⟩ = some (.slice e.ka e.x.key.length e.kc) := cell_of_row _ _ 0 _ _ _ g0
 have hc1 : (w.alloc (.cells e.cells 40)).drew.cell? ⟨w.heap.size, 1, none⟩ = some (.slice e.va e.x.val.length e.vc) := cell_of_row _ _ 1 _ _ _ g0
 have hE1 := Ext.tr hE0 (Ext.drew (w.alloc (.cells e.cells 40)))
 obtain ⟨D, hD⟩ : ∃ D, D = e.x.put := ⟨_, rfl⟩
 have HD1 : Hid (D.length = (Vint.putBytes e.x.key).length + (Vint.putBytes e.x.val).length) := by show _ = _; rw [hD]; simp [Ent.put]
 have HD2 : Hid (bvs D = bvs (Vint.putBytes e.x.key) ++ bvs (Vint.putBytes e.x.val)) := by show _ = _; rw [hD, ← bvs_app]; rfl
 have HDl : Hid (D.length ≤ 3000000) := by show _ ≤ _; rw [hD]; have := e.x.put_len; unfold Ent.size at this; omega
 rw [← hD]
 clear hD g0
 go_enter Tryz.func88, Tryz.ntmps88
 go_wp2_with fail
 refine rg_start (by kernel_rfl) ?_
 refine gD 0 rfl ?_
 simp only [sP]
 refine gS 1 rfl ⟨_, fun w' hx => by have hcx := hx.load hc0; (go_simp <;> with_reducible rfl), ?_⟩
 simp only [sP]
 refine gD 3 rfl ?_
 simp only [sP]
 refine gS 4 rfl ⟨_, fun w' hx => by have hcx := hx.load hc1; (go_simp <;> with_reducible rfl), ?_⟩
 simp only [sP]
 refine rg_call 2 (putbytes_any e.ka e.x.key e.kc _ (hin.kr.below hE1) h1) rfl (by kernel_rfl) (by rfl) (by go_simp) ?_
 rintro e2 w2 ⟨A2, c2, rfl, ho2, hb2⟩
 refine ⟨_, rfl, hb2, ?_⟩
 simp only [sP]
 refine rg_call 5 (putbytes_any e.va e.x.val e.vc _ (hin.vr.below (Ext.tr hE1 hb2)) h2) rfl (by kernel_rfl) (by rfl) (by go_simp) ?_
 rintro e3 w3 ⟨A3, c3, rfl, ho3, hb3⟩
 refine ⟨_, rfl, hb3, ?_⟩
 simp only [sP]
 have hE3 := Ext.tr hE1 (Ext.tr hb2 hb3)
 have ho23 := (ho2.below hb3).mono hE1.size
 have hr3 := ho3.rd'
 have hsz := hE3.size
 refine rg_last 6 rfl (by kernel_rfl) (by kernel_rfl) (by rfl) fun K hK => wp_app (.tmp 5) (.tmp 8) 23 rfl elemB w.heap.size A2 (Vint.putBytes e.x.key).length c2 _ rfl A3 (Vint.putBytes e.x.val).length c3 (bvs (Vint.putBytes e.x.val)) rfl D.length HD1.out (bvs D) HD2.out ho23 hr3 (bvs_one _) (by have := HDl.out; omega) (by have := HDl.out; omega) hsz fun A4 c4 w4 ho4 hg4 hr4 => hK _ _ ?_
 simp only [sP]
 refine gD 7 rfl ?_
 simp only [sP]
 refine rg_done (by kernel_rfl) ?_
 go_wp2
 go_ret
 exact ⟨A4, c4, rfl, ho4, below_app hE3 ho23 hg4 hsz⟩
set_option maxRecDepth 100000 in
set_option maxHeartbeats 1000000 in
theorem eputall_any (A : Option Addr) (l : List EnV) (cap : Nat) (w : World) (hl : RdE w A l) (hc : l.length ≤ 1000000) (ht : Ent.total (l.map EnV.x) ≤ 1000000) :
  Calls Tryz.prog 64 #[.slice A l.length cap] w fun e' w' => ∃ A' c', e' = .returned (.slice A' (Ent.putAll (l.map EnV.x)).length c') ∧ Own w' w.heap.size 5 1 A' (Ent.putAll (l.map EnV.x)).length c' (bvs (Ent.putAll (l.map EnV.x))) ∧ Below w.heap.size w w' := by
 obtain ⟨m, hm⟩ : ∃ m, m = l.map EnV.x := ⟨_, rfl⟩
 have hml : m.length = l.length := by rw [hm]; simp
 have htot := Ent.putAll_len m
 rw [← hm] at ht ⊢
 have HM := Lib.hid hm
 have Hml := Lib.hid hml
 have htot2 : (Ent.putAll m).length ≤ 30000000 := by omega
 have Htot := Lib.hid htot2
 have Ht := Lib.hid ht
 clear hm hml htot htot2 ht
 go_enter Tryz.func64, Tryz.ntmps64
 go_wp2
 go_loopw [3, 8] (fun v i wr => ∃ (k : Nat) (A' : Option Addr) (c' : Nat), k ≤ l.length ∧ i = .int .i64 k ∧ v = .slice A' (Ent.putAll (m.take k)).length c' ∧ Own wr w.heap.size 5 1 A' (Ent.putAll (m.take k)).length c' (bvs (Ent.putAll (m.take k))) ∧ Below w.heap.size w wr) (fun _ i _ => l.length - (intOf i).toNat)
 case atStart => exact ⟨0, none, 0, by omega, rfl, rfl, Own.none_ _ _ _ _ _, Below.refl _ _⟩
 case round =>
  obtain ⟨k, A', c', hk, rfl, rfl, hown, hbw⟩ := hrel
  by_cases h : k < l.length
  ·
   obtain ⟨ad, rfl, hcell, hin⟩ := (hl.below hbw).at_ h
   have hkm : k < m.length := by rw [Hml.out]; exact h
   have hx : Hid (m[k] = l[k].x) := by show _ = _; have := HM.out; subst this; simp
   have hs := Lib.hid (Ent.putAll_snoc m k hkm)
   have hle := Ent.one_total m k hkm
   rw [hx.out] at hs hle
   have hle2 := Ent.putAll_take_le m (k + 1)
   rw [hs.out, List.length_append] at hle2
   have htt := Htot.out
   have ht0 := Ht.out
   have hbnd : (Ent.putAll (m.take k)).length + l[k].x.put.length ≤ 30000000 := by omega
   have hk1 : l[k].x.key.length ≤ 1000000 := by unfold Ent.size at hle; omega
   have hk2 : l[k].x.val.length ≤ 1000000 := by unfold Ent.size at hle; omega
   clear hle hle2 htt ht0
   have hsnl : Hid ((Ent.putAll (m.take (k + 1))).length = (Ent.putAll (m.take k)).length + l[k].x.put.length) := by show _ = _; rw [hs.out, List.length_append]
   have hsnb : Hid (bvs (Ent.putAll (m.take (k + 1))) = bvs (Ent.putAll (m.take k)) ++ bvs l[k].x.put) := by show _ = _; rw [hs.out, bvs_app]
   obtain ⟨d, hd⟩ : ∃ d, d = Ent.putAll (m.take k) := ⟨_, rfl⟩
   obtain ⟨d2, hd2⟩ : ∃ d2, d2 = Ent.putAll (m.take (k + 1)) := ⟨_, rfl⟩
   rw [← hd, ← hd2] at hsnl hsnb
   rw [← hd] at hown hbnd ⊢
   clear hs hd
   have hcx : ∀ j u, (l[k].cells)[j]? = some u → wr.cell? ((ad.add (k * 2)).add j) = some u := fun j u hj => by rw [add_add']; exact hcell j u hj
   have Hcx := Lib.hid hcx
   clear hcell hcx
   go_wp2_with (first | (have hcx := Hcx.out; refine wpList_load_cells rfl 40 (.tmp 10) rfl _ rfl l[k].cells _ hcx Tryz.underlying40 rfl (einfo _) ?_; clear hcx) | (refine wpList_store_row rfl 40 (.tmp 5) (.tmp 11) rfl wr.heap.size l[k].cells rfl rfl 40 _ (heap_alloc_new wr _) (einfo _) (by rfl) (eone _) ?_; rw [setRow_alloc]) | (refine wpList_load_rowG rfl 40 (.tmp 5) rfl wr.heap.size rfl 40 l[k].cells (0, 0) _ (heap_alloc_new wr _) Tryz.underlying40 rfl (einfo _) ?_))
   have hbx : Ext wr (wr.alloc (.cells l[k].cells 40)) := Ext.alloc wr _
   refine (eput_any l[k] _ (hin.below hbx) hk1 hk2).mono ?_
   rintro e' w2 ⟨A2, c2, rfl, ho2, hb2⟩
   have hb3 := Ext.tr hbx hb2
   have hown2 := hown.below hb3
   have hbw2 := hbw.trans (hb3.mono hbw.size)
   have hr2 := ho2.rd'
   clear hown ho2 hb2 hbx hb3 hbw Hcx hin
   go_wp2_with (at_builtin; refine wpList_app rfl (.tmp 12) (.tmp 14) 23 rfl elemB w.heap.size A' d.length c' (bvs d) rfl A2 l[k].x.put.length c2 (bvs l[k].x.put) rfl d2.length hsnl.out (bvs d2) hsnb.out hown2 hr2 (bvs_one _) (by rw [hsnl.out]; omega) (by rw [hsnl.out]; omega) hbw2.size ?_; intro A4 c4 w4 ho4 hg4 hr4)
   go_roundw
   case rel => exact ⟨k + 1, A4, c4, by omega, by go_num, by rw [← hd2], by rw [← hd2]; exact ho4, below_app hbw2 hown2 hg4 hbw2.size⟩
   case measure => simp [intOf]; omega
  ·
   have hkl : k = l.length := by omega
   subst hkl
   rw [List.take_of_length_le (by rw [Hml.out]; omega)] at hown ⊢
   go_wp2
   go_ret
   exact ⟨A', c', rfl, hown, hbw⟩
end Go.Proofs.YtjholekgdnhpkaaGreatDoor
namespace Go.Proofs.YtjholekgdnhpkaaGreatDoor
open Go.RowKit
attribute [local go_sem] Oper.semAt_some
theorem run_loadBytes {P : Program} (w : World) : ∀ (bs : List UInt8) (a : Addr) (acc : ByteArray), (∀ j u, (bvs bs)[j]? = some u → w.cell? (a.add j) = some u) →
  (Extern.Bytes.loadBytes a bs.length acc).run P w = .ok ⟨acc.data ++ bs.toArray⟩ w := by
 intro bs
 induction bs with
 | nil => intro a acc _; simp [Extern.Bytes.loadBytes]
 | cons b bs ih =>
  intro a acc h
  have h0 := h 0 (bv b) (by simp [bvs])
  rw [show a.add 0 = a from rfl] at h0
  have hrest : ∀ j u, (bvs bs)[j]? = some u → w.cell? ((a.add 1).add j) = some u := fun j u hj => by
   rw [add_add', Nat.add_comm]
   exact h (j + 1) u (by simpa [bvs] using hj)
  have hl : (load a).run P w = .ok (bv b) w := by rw [run_load]; simp [h0]
  simp only [List.length_cons, Extern.Bytes.loadBytes, Sem.run_bind, hl, Result.andThen_ok, bv]
  rw [ih (a.add 1) _ hrest]
  simp [ByteArray.push]
theorem run_bytesOf {P : Program} (w : World) (A : Option Addr) (bs : List UInt8) (c : Nat) (h : RdB w A bs) : (Extern.Bytes.bytesOf (.slice A bs.length c)).run P w = .ok ⟨bs.toArray⟩ w := by
 rcases A with _ | ad
 ·
  have h0 : bs = [] := by
   rcases bs with _ | ⟨b, l⟩
   ·
    rfl
   ·
    obtain ⟨ad, e, _⟩ := h.2 (by simp [bvs])
    cases e
  subst h0
  simp [Extern.Bytes.bytesOf]
  rfl
 ·
  have hc : ∀ j u, (bvs bs)[j]? = some u → w.cell? (ad.add j) = some u := fun j u hj => by
   obtain ⟨ad', e, hc⟩ := h.2 (by intro e; rw [e] at hj; simp at hj)
   injection e with e
   subst e
   exact hc j u hj
  simp only [Extern.Bytes.bytesOf]
  rw [run_loadBytes w bs ad .empty hc]
  simp
theorem run_compareSlices {P : Program} (w : World) (A B : Option Addr) (p q : List UInt8) (c d : Nat) (hA : RdB w A p) (hB : RdB w B q) :
  (Extern.BytealgCompare.compare #[.slice A p.length c, .slice B q.length d]).run P w = .ok (.int .i64 (Lib.compareBytes p q)) w := by
 change Sem.run P (do pure (goInt (Extern.BytealgCompare.cmp (← Extern.Bytes.bytesOf (.slice A p.length c)) (← Extern.Bytes.bytesOf (.slice B q.length d))))) w = _
 simp only [Sem.run_bind, Sem.run_pure, run_bytesOf w A p c hA, run_bytesOf w B q d hB, Result.andThen_ok]
 rw [Lib.cmp_eq]
 rfl
set_option maxHeartbeats 400000 in
set_option maxRecDepth 100000 in
theorem compare_any (A B : Option Addr) (p q : List UInt8) (c d : Nat) (w : World) (hA : RdB w A p) (hB : RdB w B q) :
  Calls Tryz.prog 87 #[.slice A p.length c, .slice B q.length d] w fun e w' => e = .returned (.int .i64 (Lib.compareBytes p q)) ∧ w = w' := by
 go_enter Tryz.func87, Tryz.ntmps87
 go_wp2
 rw [run_callFunc_extern Tryz.func98 (by kernel_rfl) (by kernel_rfl) (by kernel_rfl) (e := Extern.BytealgCompare.compare) (by kernel_rfl), run_compareSlices w A B p q c d hA hB]
 simp only [Result.andThen]
 rw [Oper.upon_value]
 go_wp2
 go_ret
 exact ⟨rfl, rfl⟩
def ltB : List UInt8 → List UInt8 → Bool
 | [], [] => false
 | [], _ :: _ => true
 | _ :: _, [] => false
 | a :: p, b :: q => if a < b then true else if b < a then false else ltB p q
theorem compare_lt (a b : List UInt8) : (Lib.compareBytes a b < 0) ↔ ltB a b = true := by
 induction a generalizing b with
 | nil => cases b <;> simp [Lib.compareBytes, ltB]
 | cons x a ih =>
  cases b with
  | nil => simp [Lib.compareBytes, ltB]
  | cons y b =>
   unfold Lib.compareBytes ltB
   by_cases h1 : x < y
   ·
    simp [h1]
   ·
    by_cases h2 : y < x
    ·
     simp [h1, h2]
    ·
     simp only [if_neg h1, if_neg h2]; exact ih b
end Go.Proofs.YtjholekgdnhpkaaGreatDoor
namespace Go.Proofs.YtjholekgdnhpkaaGreatDoor
open Go.RowKit
attribute [local go_sem] Oper.semAt_some
theorem cmp_ge {a b : List UInt8} (h : ltB a b = false) : 0 ≤ Lib.compareBytes a b := by
 have := (compare_lt a b)
 rw [h] at this
 have h2 : ¬ Lib.compareBytes a b < 0 := fun h => by have := this.1 h; cases this
 omega
theorem cmp_lt {a b : List UInt8} (h : ltB a b = true) : Lib.compareBytes a b < 0 := (compare_lt a b).2 h
end Go.Proofs.YtjholekgdnhpkaaGreatDoor
namespace Go.Proofs.YtjholekgdnhpkaaGreatDoor
open Go.RowKit
attribute [local go_sem] Oper.semAt_some
theorem ecs_snoc (l : List EnV) (e : EnV) : ecs (l ++ [e]) = ecs l ++ e.cells.toList := by simp [ecs]
theorem cells_one (e : EnV) : ∀ u ∈ e.cells.toList, u.oneCell' = true := by
 intro u hu
 simp only [EnV.cells, List.mem_cons, List.not_mem_nil, or_false] at hu
 rcases hu with rfl | rfl <;> rfl
end Go.Proofs.YtjholekgdnhpkaaGreatDoor
namespace Go.Proofs.YtjholekgdnhpkaaGreatDoor
open Go.RowKit
section
variable {P : Program} {w : World} {o : Oper} {a : Act} {Q : Exit → Act → World → Prop}
theorem wp_copy {K : Act → World → Prop} (d x : Operand) (t : TypeId) (ho : o.op = .call { callee := .builtin .copy, args := #[d, x], argTypes := #[t, t] })
  {e : TypeId} {bytes : Nat} (T : ElemT P t e 1 bytes) (g f dCap : Nat) (m : Nat) (hd : a.eval d = .slice (some ⟨g, f, none⟩) m dCap) (A2 : Option Addr) (c2 : Nat) (ys : List Value) (hx : a.eval x = .slice A2 m c2)
  (hr : Rd w 1 A2 m ys) (hm : 0 < m) (cur : Array Value) (hg : w.heap[g]? = some (.cells cur e (0, 0))) (hfit : f + m ≤ cur.size) (h1 : ∀ u ∈ ys, u.oneCell' = true)
  (h : K (a.put o.dst (.int .i64 (m : Int))) (w.setRow g (cur.toList.take f ++ ys ++ cur.toList.drop (f + m)).toArray)) : o.wp P a w K Q := by
 have hl : ys.length = m := by have := hr.1; omega
 obtain ⟨ad, rfl, hcells⟩ := hr.2 (by rintro rfl; simp at hl; omega)
 have hrun := run_copy_row (P := P) w t t o.type e g f m dCap ad m c2 cur e ys T.ht T.one hg (by rw [hl]; simp) hcells (by rw [hl]; exact hfit) h1
 rw [hl] at hrun
 unfold Oper.wp execOp
 simp only [ho, resolve, invoke, builtin, Sem.run_bind, Sem.run_pure, Result.andThen_ok, List.map_toArray, List.map_cons, List.map_nil, hd, hx, hrun]
 exact h
theorem wp_copyT {K : Act → World → Prop} (d x : Operand) (t : TypeId) (ho : o.op = .call { callee := .builtin .copy, args := #[d, x], argTypes := #[t, t] })
  {e : TypeId} {bytes : Nat} (T : ElemT P t e 1 bytes) (g f dCap : Nat) (m : Nat) (hd : a.eval d = .slice (some ⟨g, f, none⟩) m dCap) (A2 : Option Addr) (c2 : Nat) (ys : List Value) (hx : a.eval x = .slice A2 m c2)
  (hr : Rd w 1 A2 m ys) (hm : 0 < m) (cur : Array Value) (rt : TypeId) (hg : w.heap[g]? = some (.cells cur rt (0, 0))) (hfit : f + m ≤ cur.size) (h1 : ∀ u ∈ ys, u.oneCell' = true)
  (h : K (a.put o.dst (.int .i64 (m : Int))) (w.setRow g (cur.toList.take f ++ ys ++ cur.toList.drop (f + m)).toArray)) : o.wp P a w K Q := by
 have hl : ys.length = m := by have := hr.1; omega
 obtain ⟨ad, rfl, hcells⟩ := hr.2 (by rintro rfl; simp at hl; omega)
 have hrun := run_copy_row (P := P) w t t o.type e g f m dCap ad m c2 cur rt ys T.ht T.one hg (by rw [hl]; simp) hcells (by rw [hl]; exact hfit) h1
 rw [hl] at hrun
 unfold Oper.wp execOp
 simp only [ho, resolve, invoke, builtin, Sem.run_bind, Sem.run_pure, Result.andThen_ok, List.map_toArray, List.map_cons, List.map_nil, hd, hx, hrun]
 exact h
end
end Go.Proofs.YtjholekgdnhpkaaGreatDoor
namespace Go.Proofs.YtjholekgdnhpkaaGreatDoor
open Go.RowKit
attribute [local go_sem] Oper.semAt_some
theorem ext_rowD {w w' : World} {g : Nat} (h : Ext w w') (hg : w.heap.size ≤ g) (cs : Array Value) : Ext w (w'.setRow g cs) := ⟨h.os, h.tape, h.output, by simpa using h.size, fun i hi => (setRow_other _ _ _ _ (by omega)).trans (h.block i hi)⟩
end Go.Proofs.YtjholekgdnhpkaaGreatDoor
namespace Go.Proofs.YtjholekgdnhpkaaGreatDoor
open Go.RowKit
section
variable {P : Program} {o : Oper} {a : Act} {w : World} {x y : Operand} {t u : TypeId} {p q : List UInt8}
theorem ex_neqS (ho : o.op = .binOp .neq t x y u) (hx : a.eval x = .string ⟨p.toArray⟩) (hy : a.eval y = .string ⟨q.toArray⟩) : (execOp a.eval o).run P w = .ok (.value (.bool (!(p == q)))) w := by
 unfold execOp
 simp only [ho, hx, hy]
 go_simp
theorem ex_eqlS (ho : o.op = .binOp .eql t x y u) (hx : a.eval x = .string ⟨p.toArray⟩) (hy : a.eval y = .string ⟨q.toArray⟩) : (execOp a.eval o).run P w = .ok (.value (.bool (p == q))) w := by
 unfold execOp
 simp only [ho, hx, hy]
 go_simp
theorem ex_str {s d e : TypeId} {A : Option Addr} {bs : List UInt8} {n c : Nat} (ho : o.op = .convert s d x) (hx : a.eval x = .slice A n c) (hs : P.underlying s = some (.slice e)) (he : P.underlying e = some (.int .u8)) (hd : P.underlying d = some .string)
  (h : RdB w A bs) (hn : n = bs.length) : (execOp a.eval o).run P w = .ok (.value (.string ⟨bs.toArray⟩)) w := ex_convert ho hx (run_str w s d e A bs c hs he hd h n hn)
end
end Go.Proofs.YtjholekgdnhpkaaGreatDoor
namespace Go.Proofs.YtjholekgdnhpkaaGreatDoor
open Go.RowKit
section
variable {P : Program} {w : World} {ops : Array Oper} {rest : List Oper} {o : Oper} {act : Act} {Q : Exit → Act → World → Prop}
theorem ex_sliceL (x lo : Operand) (t : TypeId) (ho : o.op = .slice t x (some lo) none none) {e : TypeId} {s bytes : Nat} (T : ElemT P t e s bytes) (A : Option Addr) (n c : Nat) (hx : act.eval x = .slice A n c) (k : Nat) (hlo : act.eval lo = .int .i64 (k : Int)) (hk : k ≤ n)
  (A2 : Option Addr) (hA : A2 = if c = k then A else A.map (·.add (k * s))) (m d : Nat) (hm : m = n - k) (hd : d = c - k) :
  (execOp act.eval o).run P w = .ok (.value (.slice A2 m d)) w := by
 subst hA hm hd
 obtain ⟨i, z, g1, g2, g3, g4, g5⟩ := T.hi
 have hs : Instr.sliceAt t (act.eval x) (some (act.eval lo)) none none = Instr.sliceAt t (.slice A n c) (some (.int .i64 (k : Int))) none none := by rw [hx, hlo]
 unfold execOp
 simp only [ho, Option.map_some, Option.map_none, hs]
 have h1 : (Instr.sliceAt t (.slice A n c) (some (.int .i64 (k : Int))) none none).run P w = .ok (.slice (if c = k then A else A.map (·.add (k * s))) (n - k) (c - k)) w := by
  have h0 : (Instr.sliceAt t (.slice A n c) (some (.int .i64 (k : Int))) none none).run P w = (Instr.slice t (.slice A n c) (some (.int .i64 (k : Int))) none none).run P w := by
   simp [Instr.sliceAt, run_underlying T.ht]
  rw [h0]
  simp [Instr.slice, run_underlying T.ht, Instr.sliceBounds, run_sliceBound, hk, sizeOf, typeInfo, g1, g3]
 simp [h1, Result.andThen]
theorem ex_sliceH (x hi : Operand) (t : TypeId) (ho : o.op = .slice t x none (some hi) none) {e : TypeId} {s bytes : Nat} (T : ElemT P t e s bytes) (A : Option Addr) (n c : Nat) (hx : act.eval x = .slice A n c) (k : Nat) (hlo : act.eval hi = .int .i64 (k : Int)) (hk : k ≤ c) :
  (execOp act.eval o).run P w = .ok (.value (.slice A k c)) w := by
 obtain ⟨i, z, g1, g2, g3, g4, g5⟩ := T.hi
 have hs : Instr.sliceAt t (act.eval x) none (some (act.eval hi)) none = Instr.sliceAt t (.slice A n c) none (some (.int .i64 (k : Int))) none := by rw [hx, hlo]
 unfold execOp
 simp only [ho, Option.map_some, Option.map_none, hs]
 have h1 : (Instr.sliceAt t (.slice A n c) none (some (.int .i64 (k : Int))) none).run P w = .ok (.slice A k c) w := by
  have h0 : (Instr.sliceAt t (.slice A n c) none (some (.int .i64 (k : Int))) none).run P w = (Instr.slice t (.slice A n c) none (some (.int .i64 (k : Int))) none).run P w := by
   simp [Instr.sliceAt, run_underlying T.ht]
  rw [h0]
  simp [Instr.slice, run_underlying T.ht, Instr.sliceBounds, run_sliceBound, hk, sizeOf, typeInfo, g1]
  cases A <;> simp [Addr.add]
 simp [h1, Result.andThen]
theorem wpList_sliceL (hgd : Region.wanted o (yielded ops act.tmps) = true) (x lo : Operand) (t : TypeId) (ho : o.op = .slice t x (some lo) none none) {e : TypeId} {s bytes : Nat} (T : ElemT P t e s bytes) (A : Option Addr) (n c : Nat) (hx : act.eval x = .slice A n c) (k : Nat) (hlo : act.eval lo = .int .i64 (k : Int)) (hk : k ≤ n)
  (A2 : Option Addr) (hA : A2 = if c = k then A else A.map (·.add (k * s))) (m d : Nat) (hm : m = n - k) (hd : d = c - k) (h : wpList P ops Q rest (act.put o.dst (.slice A2 m d)) w) : wpList P ops Q (o :: rest) act w :=
 wpList_want hgd fun K hK => by
  unfold Oper.wp
  rw [ex_sliceL x lo t ho T A n c hx k hlo hk A2 hA m d hm hd]
  exact hK _ _ h
theorem wpList_sliceH (hgd : Region.wanted o (yielded ops act.tmps) = true) (x hi : Operand) (t : TypeId) (ho : o.op = .slice t x none (some hi) none) {e : TypeId} {s bytes : Nat} (T : ElemT P t e s bytes) (A : Option Addr) (n c : Nat) (hx : act.eval x = .slice A n c) (k : Nat) (hlo : act.eval hi = .int .i64 (k : Int)) (hk : k ≤ c)
  (h : wpList P ops Q rest (act.put o.dst (.slice A k c)) w) : wpList P ops Q (o :: rest) act w :=
 wpList_want hgd fun K hK => by
  unfold Oper.wp
  rw [ex_sliceH x hi t ho T A n c hx k hlo hk]
  exact hK _ _ h
end
end Go.Proofs.YtjholekgdnhpkaaGreatDoor
