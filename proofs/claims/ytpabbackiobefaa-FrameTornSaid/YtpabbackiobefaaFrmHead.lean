
/- Contracts of a log's first sector and of stamps (frame.stamp, Head, Epoch, bytes.HasPrefix). -/

import Derived.Test.YtpabbackiobefaaFrmPlain

import Derived.Test.YtpabbackiobefaaSlices

import Derived.Test.YtpabbackiobefaaMem3

import Derived.Test.YtpabbackiobefaaEqual

import Derived.Test.YtpabbackiobefaaReg3

import Derived.Test.YtpabbackiobefaaConst

namespace Go.Proofs.Ytpabbackiobefaa

open Go.RowKit

attribute [local go_sem] Oper.semAt_some

theorem mk_own (w : World) (n : Nat) (hn : n ≤ maxLen) : Own (w.alloc (.cells (Array.replicate n (Value.int .u8 0)) 5)) w.heap.size 5 1 (some ⟨w.heap.size, 0, none⟩) n n (bvs (List.replicate n 0)) := by
  have := Own.new w 5 1 (Array.replicate n (Value.int .u8 0)) n n (Nat.le_refl _) hn (by simp)
  rwa [List.take_of_length_le (by simp), show (Array.replicate n (Value.int .u8 0)).toList = bvs (List.replicate n 0) by simp [bvs, bv]] at this
theorem rdb_len {w : World} {A : Option Addr} {d : List UInt8} (h : RdB w A d) {n : Nat} (hn : n = d.length) : Rd w 1 A n (bvs d) := hn ▸ h

theorem own_row {w : World} {g base : Nat} {cur : Array Value} {e : TypeId} (hg : w.heap[g]? = some (.cells cur e (0, 0))) (hb : base ≤ g) (n : Nat) (hn : cur.size = n) (hm : n ≤ maxLen) (d : List Value) (hd : cur.toList = d) : Own w base e 1 (some ⟨g, 0, none⟩) n n d :=
  ⟨by rw [← hd, Array.length_toList, hn]; omega, Nat.le_refl _, hm, .inr ⟨g, 0, cur, rfl, hb, hg, by omega, by rw [← hd, List.drop_zero, List.take_of_length_le (by rw [Array.length_toList]; omega)]⟩⟩
theorem below_row {B : Nat} {w w' : World} {g : Nat} (h : Below B w w') (hs : B ≤ w'.heap.size) (hg : B ≤ g) (cs : Array Value) : Below B w (w'.setRow g cs) :=
  h.grown (row := some g) ⟨rfl, rfl, rfl, by simp, fun k _ hn => setRow_other _ _ _ _ (fun e => hn (by rw [e]))⟩ hs (fun k e => by injection e with e; omega)

theorem wpList_copyL {P : Program} {w : World} {ops : Array Oper} {rest : List Oper} {o : Oper} {a : Act} {Q : Exit → Act → World → Prop} (hgd : Region.wanted o (yielded ops a.tmps) = true) (d x : Operand) (t : TypeId) (ho : o.op = .call { callee := .builtin .copy, args := #[d, x], argTypes := #[t, t] })
    {e : TypeId} {bytes : Nat} (T : ElemT P t e 1 bytes) (g f dLen dCap : Nat) (m : Nat) (hd : a.eval d = .slice (some ⟨g, f, none⟩) dLen dCap) (A2 : Option Addr) (c2 : Nat) (ys : List Value) (hx : a.eval x = .slice A2 m c2)
    (hr : Rd w 1 A2 m ys) (hm : 0 < m) (hmd : m ≤ dLen) (cur : Array Value) (rt : TypeId) (hg : w.heap[g]? = some (.cells cur rt (0, 0))) (hfit : f + m ≤ cur.size) (h1 : ∀ u ∈ ys, u.oneCell' = true)
    (zs : List Value) (hz : cur.toList.take f ++ ys ++ cur.toList.drop (f + m) = zs)
    (h : wpList P ops Q rest (a.put o.dst (.int .i64 (m : Int))) (w.setRow g zs.toArray)) : wpList P ops Q (o :: rest) a w :=
  wpList_want hgd fun _ hK => wp_copyL d x t ho T g f dLen dCap m hd A2 c2 ys hx hr hm hmd cur rt hg hfit h1 (by rw [hz]; exact hK _ _ h)

set_option maxRecDepth 100000 in
theorem stamp_any (e a : Nat) (w : World) (ha : a < 9223372036854775808) :
    Calls Try.prog 24 #[.int .u64 (e : Int), .int .i64 (a : Int)] w fun r w' => ∃ A' c', r = .returned (.slice A' 12 c') ∧ Own w' w.heap.size 5 1 A' 12 c' (bvs (Frm.stamp e a)) ∧ Below w.heap.size w w' := by
  have hl8 := Frm.fixed_len8 e
  have hl4 := Frm.fixed_len4 a
  have hwr : IntKind.u64.wrap (a : Int) = (a : Int) := wrap_u64 a (by omega)
  go_enter Try.func24, Try.ntmps24
  go_wp2_with fail
  have h1 := fixed_any e 8 w
  rw [hl8] at h1
  refine h1.mono ?_
  clear h1
  rintro r w1 ⟨A1, c1, rfl, ho1, hb1⟩
  go_wp2_with fail
  have h2 := fixed_any a 4 w1
  rw [hl4] at h2
  refine h2.mono ?_
  clear h2
  rintro r w2 ⟨A2, c2, rfl, ho2, hb2⟩
  have hr1 : RdB w2 A1 (Vint.fixed e 8) := (ho1.below hb2).rd'
  have hr2 : RdB w2 A2 (Vint.fixed a 4) := ho2.rd'
  go_wp2_with fail
  have h3 := concat_any _ [⟨A1, Vint.fixed e 8, c1⟩, ⟨A2, Vint.fixed a 4, c2⟩] 2 _ (RdL.two w2 23 A1 A2 _ _ c1 c2 hr1 hr2) (by simp) (by rw [cat_two]; simp; omega)
  rw [cat_two, show Vint.fixed e 8 ++ Vint.fixed a 4 = Frm.stamp e a from rfl, Frm.stamp_len] at h3
  simp only [hl8, hl4] at h3
  refine h3.mono ?_
  clear h3
  rintro r w3 ⟨A3, c3, rfl, ho3, hb3⟩
  have hb4 := ext_trans hb1 (ext_trans hb2 (ext_trans (Ext.alloc w2 _) hb3))
  clear hr1 hr2
  go_wp2
  go_ret
  exact ⟨A3, c3, rfl, ho3.mono (by have := (ext_trans hb1 hb2).size; simp; omega), hb4⟩

set_option maxRecDepth 100000 in
theorem prefix_any (A B : Option Addr) (s p : List UInt8) (c d : Nat) (w : World) (hA : RdB w A s) (hB : RdB w B p) (hc : s.length ≤ c) (hp : p.length = 12) (hs : s.length = 64) :
    Calls Try.prog 45 #[.slice A 64 c, .slice B 12 d] w fun r w' => r = .returned (.bool (s.take 12 == p)) ∧ w = w' := by
  have hT := hA.head (m := 12) (by omega)
  have he := equal_any A B (s.take 12) p c d w hT hB
  rw [hp, show (s.take 12).length = 12 by rw [List.length_take]; omega] at he
  have hcc : 12 ≤ c := by omega
  go_enter Try.func45, Try.ntmps45
  go_wp2_with fail
  refine he.mono ?_
  rintro r w' ⟨rfl, rfl⟩
  go_wp2
  go_ret
  exact ⟨rfl, rfl⟩

set_option maxRecDepth 100000 in
set_option maxHeartbeats 1000000 in
theorem head_any (e : Nat) (w : World) :
    Calls Try.prog 14 #[.int .u64 (e : Int)] w fun r w' => ∃ A' c', r = .returned (.slice A' 64 c') ∧ Own w' w.heap.size 5 1 A' 64 c' (bvs (Frm.head e)) ∧ Below w.heap.size w w' := by
  have hl8 := Frm.fixed_len8 e
  have kc := convC (P := Try.prog) Try.underlying23 Try.underlying5
  go_enter Try.func14, Try.ntmps14
  go_wp2_with (first | (at_make; go_loud (refine wpList_mk rfl (.const (.int .i64 64)) (.const (.int .i64 64)) 23 rfl elemB (.int .u8 0) zeroB rfl 64 _ _ rfl rfl (by omega) (by omega) ?_)))
  obtain ⟨W0, hW0⟩ : ∃ W0, W0 = w.alloc (.cells (Array.replicate 64 (Value.int .u8 0)) 5) := ⟨_, rfl⟩
  have hg0 : W0.heap[w.heap.size]? = some (.cells (Array.replicate 64 (Value.int .u8 0)) 5 (0, 0)) := by rw [hW0]; exact heap_alloc_new w _
  have hsz0 : W0.heap.size = w.heap.size + 1 := by rw [hW0]; simp
  have hb0 : Below w.heap.size w W0 := by rw [hW0]; exact Ext.alloc w _
  have hrm := RdB.litF W0 5 Frm.magic (8, 9)
  rw [hsz0] at hrm
  obtain ⟨W1, hW1⟩ : ∃ W1, W1 = W0.alloc (.cells (bvs Frm.magic).toArray 5 (8, 9)) := ⟨_, rfl⟩
  rw [← hW1] at hrm
  have hb1 : Ext W0 W1 := by rw [hW1]; exact Ext.alloc W0 _
  have hW1' := hW1
  simp only [bvs, bv, Frm.magic, List.map_cons, List.map_nil] at hW1'
  rw [← hW0]
  have h1 := fixed_any e 8 W1
  rw [hl8, hW1'] at h1
  refine h1.mono ?_
  clear h1
  rw [← hW1']
  clear hW1' hW1 hW0 kc
  rintro r w2 ⟨A2, c2, rfl, ho2, hb2⟩
  have hE2 := Ext.tr hb1 hb2
  have hr1 := hrm.below hb2
  have hr2 : RdB w2 A2 (Vint.fixed e 8) := ho2.rd'
  have hg2 := (hE2.block _ (lt_of_heap hg0)).trans hg0
  have hB2 := ext_trans hb0 hE2
  clear hrm hb1 ho2 hg0 hb0
  go_wp2_with fail
  have h3 := concat_any _ [⟨some ⟨w.heap.size + 1, 0, none⟩, Frm.magic, 8⟩, ⟨A2, Vint.fixed e 8, c2⟩] 2 _ (RdL.two w2 23 _ A2 _ _ 8 c2 hr1 hr2) (by simp) (by rw [cat_two]; simp [Frm.magic]; omega)
  rw [cat_two] at h3
  simp only [List.length_append, hl8, show Frm.magic.length = 8 from rfl] at h3
  refine h3.mono ?_
  clear h3
  rintro r w3 ⟨A3, c3, rfl, ho3, hb3⟩
  have hE3 := ext_trans (Ext.alloc w2 (.cells #[.slice (some ⟨w.heap.size + 1, 0, none⟩) 8 8, .slice A2 8 c2] 23)) hb3
  have hg3 := (hE3.block _ (lt_of_heap hg2)).trans hg2
  have hB3 := ext_trans hB2 hE3
  have hr3 := ho3.rd
  rw [show 8 + 8 = 16 from rfl] at hr3
  obtain ⟨d, hd⟩ : ∃ d, d = Frm.magic ++ Vint.fixed e 8 := ⟨_, rfl⟩
  rw [← hd] at hr3
  have hdl : d.length = 16 := by rw [hd]; simp [hl8, Frm.magic]
  have Hfin : Hid (((Array.replicate 64 (Value.int .u8 0)).toList.take 0 ++ bvs d ++ (Array.replicate 64 (Value.int .u8 0)).toList.drop (0 + 16)) = bvs (Frm.head e)) := by
    show _ = _
    unfold Frm.head Frm.zeros
    rw [← hd, bvs_app]
    simp [bvs, bv]
  have Hdl := Lib.hid hdl
  clear hd hdl hr1 hr2 hg2 ho3 hb3 hE2 hE3 hB2 hb2
  go_wp2_with (first | (refine wpList_copyL rfl (.tmp 5) (.tmp 11) 23 rfl elemB w.heap.size 0 64 64 16 rfl A3 c3 (bvs d) rfl hr3 (by omega) (by omega) (Array.replicate 64 (Value.int .u8 0)) 5 hg3 (by simp) (bvs_one _) (bvs (Frm.head e)) Hfin.out ?_))
  go_ret
  exact ⟨_, _, rfl, own_row (setRow_heap _ _ _ _ _ _ hg3) (Nat.le_refl _) 64 (by simp [bvs_len, Frm.head_len]) (by unfold maxLen; omega) _ (by simp), below_row hB3 hB3.size (Nat.le_refl _) _⟩
end Go.Proofs.Ytpabbackiobefaa
