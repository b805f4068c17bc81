/- Texts of the proof, laid together: WrF WrG. -/
import Derived.Test.YtjholekgdnhpkaaGreatDoorZ7
import Derived.Test.YtjholekgdnhpkaaGreatDoorZ3
import Derived.Test.YtjholekgdnhpkaaGreatDoorZ1
import Derived.Test.YtjholekgdnhpkaaGreatDoorZ2
import Derived.Test.YtjholekgdnhpkaaGreatDoorZ6
set_option linter.unusedVariables false
set_option linter.unusedSimpArgs false
set_option linter.unusedSectionVars false
namespace Go.Proofs.YtjholekgdnhpkaaGreatDoor
open Go.RowKit
attribute [local go_sem] Oper.semAt_some
def ReadTo (S : Nat → Prop) (g b off : Nat) (cur : Array Value) (t : TypeId) (Φ : World → List Value → Prop) (d : List UInt8) (bad : Bool) (w : World) (e : Ending) (w' : World) : Prop :=
 e = .returned (.tuple #[]) ∧ Trn (Two g b) w w' ∧ Rdr w' S g d bad ∧ ∃ cs, w'.heap[b]? = some (.cells (put1 cur off cs) t (0, 0)) ∧ Φ w' cs
def IsTx (S : Nat → Prop) (v : List UInt8) (w : World) (cs : List Value) : Prop := ∃ A c, cs = [.slice A v.length c] ∧ Tx w S A c v
section
variable {w : World} {S : Nat → Prop} {g : Nat} {A : Option Addr} {c : Nat} {d : List UInt8} {bad : Bool}
theorem RdrAt.cell1 (h : RdrAt w S g A c d bad) : w.cell? ⟨g, 1, none⟩ = some (.slice A d.length c) := cell_of_row w g 1 _ _ _ h.row
theorem RdrAt.cell2 (h : RdrAt w S g A c d bad) : w.cell? ⟨g, 2, none⟩ = some (.bool true) := cell_of_row w g 2 _ _ _ h.row
theorem RdrAt.cell3 (h : RdrAt w S g A c d bad) : w.cell? ⟨g, 3, none⟩ = some (.bool bad) := cell_of_row w g 3 _ _ _ h.row
theorem RdrAt.ext {w' : World} (h : RdrAt w S g A c d bad) (hx : Ext w w') : RdrAt w' S g A c d bad := ⟨(hx.block _ (lt_of_heap h.row)).trans h.row, h.tx.ext hx, h.mem, fun i hi => Nat.lt_of_lt_of_le (h.lt i hi) hx.size, h.len⟩
theorem RdrAt.set (h : RdrAt w S g A c d bad) (A' : Option Addr) (c' : Nat) (d' : List UInt8) (bad' : Bool) (ht : Tx w S A' c' d') (hl : d'.length ≤ 1000000) :
  RdrAt (w.setRow g #[.slice none 0 0, .slice A' d'.length c', .bool true, .bool bad']) S g A' c' d' bad' :=
 have ht' := Trn.set (S := S) w g #[.slice none 0 0, .slice A' d'.length c', .bool true, .bool bad'] h.mem
 ⟨setRow_heap w g _ _ _ _ h.row, ht.trn ht' (fun _ h => h), h.mem, fun i hi => Nat.lt_of_lt_of_le (h.lt i hi) ht'.size, hl⟩
end
theorem RdrAt.turn {w w' : World} {S T : Nat → Prop} {g : Nat} {A : Option Addr} {c : Nat} {d : List UInt8} {bad : Bool} (h : RdrAt w S g A c d bad) (t : Trn T w w') (hT : ∀ i, T i → S i) (hg : ¬ T g) : RdrAt w' S g A c d bad :=
 ⟨t.row h.row hg, h.tx.trn t hT, h.mem, fun i hi => Nat.lt_of_lt_of_le (h.lt i hi) t.size, h.len⟩
theorem RdrAt.two {w : World} {S : Nat → Prop} {g b : Nat} {A A' : Option Addr} {c c' : Nat} {d d' : List UInt8} {bad : Bool} (bad' : Bool) {cur : Array Value} {t : TypeId} (h : RdrAt w S g A c d bad) (hb : w.heap[b]? = some (.cells cur t (0, 0))) (hne : b ≠ g) (hSb : S b) (ht : Tx w S A' c' d') (hl : d'.length ≤ 1000000) (cs : Array Value) :
  RdrAt ((w.setRow b cs).setRow g #[.slice none 0 0, .slice A' d'.length c', .bool true, .bool bad']) S g A' c' d' bad' ∧ ((w.setRow b cs).setRow g #[.slice none 0 0, .slice A' d'.length c', .bool true, .bool bad']).heap[b]? = some (.cells cs t (0, 0)) ∧
   Trn (Two g b) w ((w.setRow b cs).setRow g #[.slice none 0 0, .slice A' d'.length c', .bool true, .bool bad']) := by
 have t1 : Trn (fun i => i = b) w (w.setRow b cs) := Trn.set w b cs rfl
 refine ⟨(h.turn t1 (fun _ e => e ▸ hSb) (fun e => hne e.symm)).set A' c' d' bad' (ht.trn t1 (fun _ e => e ▸ hSb)) hl, set_keeps (setRow_heap w b _ _ _ _ hb) hne, (t1.mono (fun _ e _ => .inr e)).tr (Trn.set _ _ _ (.inl rfl))⟩
theorem Two.sub {S : Nat → Prop} {g b : Nat} (hg : S g) (hb : S b) : ∀ i, Two g b i → S i := fun i h => h.elim (fun e => e ▸ hg) (fun e => e ▸ hb)
set_option maxRecDepth 100000 in
set_option maxHeartbeats 1000000 in
theorem text_read (S : Nat → Prop) (g : Nat) (A : Option Addr) (c : Nat) (d : List UInt8) (bad : Bool) (b off : Nat) (cur : Array Value) (t : TypeId) (w : World) (h : RdrAt w S g A c d bad) (hb : w.heap[b]? = some (.cells cur t (0, 0))) (hne : b ≠ g) (hSb : S b) (hfit : off + 1 ≤ cur.size) :
  Calls Tryz.prog 67 #[.pointer (some ⟨g, 0, none⟩), .pointer (some ⟨b, off, none⟩)] w (ReadTo S g b off cur t (IsTx S (Vint.getBytes d).1) (d.drop (Vint.getBytes d).2.1) (bad || decide ((Vint.getBytes d).2.2 ≠ 0)) w) := by
 have h2 := h.cell2
 have h1 := h.cell1
 have h3 := h.cell3
 have hgl := lt_of_heap h.row
 have hbl := lt_of_heap hb
 have HG := Lib.hid (getbytes_any A d c w h.tx.rd h.len h.tx.cap)
 have HL := Lib.hid (Vint.getBytes_le d)
 have H := Lib.hid h
 have Hb := Lib.hid hb
 go_enter Tryz.func67, Tryz.ntmps67
 generalize Vint.getBytes d = r at HG HL ⊢
 obtain ⟨v, k, er⟩ := r
 obtain ⟨bad2, hbad2⟩ : ∃ x, x = (bad || decide (er ≠ 0)) := ⟨_, rfl⟩
 rw [← hbad2]
 have HB2 := Lib.hid hbad2
 have hbe : ((er : Int) != 0) = decide (er ≠ 0) := by rw [Bool.eq_iff_iff]; simp
 clear h hb hbad2
 go_wp2_with (go_at_call 90; refine HG.out.mono ?_; rintro e1 w1 ⟨A1, c1, rfl, ho1, hb1⟩; refine Hid.out ?_)
 have hk1 := HL.out
 have hx1 : Ext w w1 := hb1
 have hA1 := H.out.ext hx1
 have h1 := hA1.cell1
 have h3 := hA1.cell3
 have hb2 := (hx1.block _ hbl).trans Hb.out
 have hrow := hA1.row
 have hT1 : Tx w1 S A1 c1 v := Tx.own ho1 H.out.lt
 have hA2 := hA1.set A c d bad2 hA1.tx hA1.len
 have ht2 : Trn (Two g b) w (w1.setRow g #[.slice none 0 0, .slice A d.length c, .bool true, .bool bad2]) := (Trn.ext hx1).tr (Trn.set _ _ _ (.inl rfl))
 have hbw2 := set_keeps (cs := #[.slice none 0 0, .slice A d.length c, .bool true, .bool bad2]) hb2 hne
 have hT2 := hT1.trn (Trn.set w1 g #[.slice none 0 0, .slice A d.length c, .bool true, .bool bad2] hA1.mem) (fun _ h => h)
 simp only [gotRes] at hk1 ⊢
 clear hb1 ho1 hb2 hx1 HG HL H Hb hT1 hA1
 have HA := Lib.hid hA2
 have HT := Lib.hid hT2
 have HBR := Lib.hid hbw2
 have HTR := Lib.hid ht2
 clear hA2 hT2 hbw2 ht2
 refine Lib.hid ?_
 go_wp2_with (refine wpList_put1 rfl 4 (.tmp 43) (.tmp 41) rfl ⟨g, 3, none⟩ rfl g 3 rfl (.bool bad2) (by show Value.bool _ = _; simp only [HB2.out, hbe, *]; simp; done) [.bool bad2] rfl _ _ hrow (by kernel_rfl) (by simp) (by simp [Value.oneCell']) #[.slice none 0 0, .slice A d.length c, .bool true, .bool bad2] rfl ?_; refine Hid.out ?_)
 all_goals
  obtain ⟨w2, hw2⟩ : ∃ w2, w2 = w1.setRow g #[.slice none 0 0, .slice A d.length c, .bool true, .bool bad2] := ⟨_, rfl⟩
  rw [← hw2] at HA HT HBR HTR ⊢
  clear hw2 h3 h1 hrow
  have h1 : w2.drew.cell? ⟨g, 1, none⟩ = _ := HA.out.cell1
  obtain ⟨A3, hA3⟩ : ∃ A3, A3 = (if c = k then A else A.map (·.add (k * 1))) := ⟨_, rfl⟩
  have HA3 := Lib.hid hA3
  clear hA3
  refine Lib.hid ?_
  go_wp2_with fail
  refine rr_start (extW) [0, 1, 2, 3, 4, 5, 7, 8, 9, 11, 12] (by kernel_rfl) ?_
  refine qAD 0 rfl ?_
  simp only [sP]
  refine qAD 1 rfl ?_
  simp only [sP]
  refine qAD 2 rfl ?_
  simp only [sP]
  refine qAD 3 rfl ?_
  simp only [sP]
  refine qAD 4 rfl ?_
  simp only [sP]
  refine qAD 5 rfl ?_
  simp only [sP]
  refine qS 6 rfl ⟨_, fun w' hx => by have hcx := hx.load h1; (go_simp <;> with_reducible rfl), ?_⟩
  simp only [sP]
  refine qAD 7 rfl ?_
  simp only [sP]
  refine qAS 8 rfl ⟨.slice A3 (d.length - k) (c - k), fun w' => ex_sliceL (.tmp 50) (.tmp 51) 23 rfl elemB A d.length c rfl k rfl hk1 A3 HA3.out _ _ rfl rfl, ?_⟩
  simp only [sP]
  refine qAD 9 rfl ?_
  simp only [sP]
  obtain ⟨W, hW⟩ : ∃ W, W = w2.drew := ⟨_, rfl⟩
  rw [← hW]
  have hAd : RdrAt W S g A c d bad2 := by rw [hW]; exact HA.out.ext (Ext.drew w2)
  have hbd : W.heap[b]? = some (.cells cur t (0, 0)) := by rw [hW]; exact HBR.out
  have htrd : Trn (Two g b) w W := by rw [hW]; exact HTR.out.tr (Trn.ext (Ext.drew w2))
  have hTd : Tx W S A1 c1 v := by rw [hW]; exact HT.out.ext (Ext.drew w2)
  refine rr_store 10 rfl (by kernel_rfl) (by kernel_rfl) (by rfl) ⟨W.setRow b (put1 cur off [.slice A1 v.length c1]), ex_put1 23 (.tmp 53) (.tmp 46) rfl ⟨b, off, none⟩ rfl b off rfl _ rfl [.slice A1 v.length c1] rfl _ _ hbd (by kernel_rfl) (by simpa using hfit) (by simp [Value.oneCell']) _ rfl, ?_⟩
  simp only [Act.put]
  refine qAD 11 rfl ?_
  simp only [sP]
  refine qAD 12 rfl ?_
  simp only [sP]
  refine rr_store 13 rfl (by kernel_rfl) (by kernel_rfl) (by rfl) ⟨(W.setRow b (put1 cur off [.slice A1 v.length c1])).setRow g #[.slice none 0 0, .slice A3 (d.length - k) (c - k), .bool true, .bool bad2], ex_put1 23 (.tmp 55) (.tmp 52) rfl ⟨g, 1, none⟩ rfl g 1 rfl _ rfl [.slice A3 (d.length - k) (c - k)] rfl _ _ (set_keeps hAd.row (Ne.symm hne)) (by kernel_rfl) (by simp) (by simp [Value.oneCell']) _ rfl, ?_⟩
  simp only [Act.put]
  have hd2 : (d.drop k).length = d.length - k := List.length_drop
  have htd := hAd.tx.tail hk1
  rw [show A.map (·.add k) = A.map (·.add (k * 1)) by rw [Nat.mul_one], ← HA3.out] at htd
  obtain ⟨k1, k2, k3⟩ := hAd.two bad2 hbd hne hSb htd (by have := hAd.len; omega) (put1 cur off [.slice A1 v.length c1])
  rw [hd2] at k1 k2 k3
  have htr5 := htrd.tr k3
  have hT5 := hTd.trn k3 (Two.sub hAd.mem hSb)
  refine rr_done (by kernel_rfl) ?_
  obtain ⟨W5, hW5⟩ : ∃ W5, W5 = (W.setRow b (put1 cur off [.slice A1 v.length c1])).setRow g #[.slice none 0 0, .slice A3 (d.length - k) (c - k), .bool true, .bool bad2] := ⟨_, rfl⟩
  rw [← hW5] at k1 k2 hT5 htr5 ⊢
  clear hW5
  go_wp2_with fail
  (try simp only [Exit.inBlock, Exit.then])
  first | refine bodyPost_ret (results_none rfl _ _ _) rfl ?_ | refine bodyPost_end (results_none rfl _ _ _) rfl ?_
  exact ⟨rfl, htr5, ⟨_, _, k1⟩, _, k2, _, _, rfl, hT5⟩
def Rn.ok (d : List UInt8) : Bool := decide ((Vint.get d).2.2 = 0) && decide ((Vint.get d).1 ≤ 2147483647)
def Rn.val (d : List UInt8) (n0 : Int) : Int := if Rn.ok d then ((Vint.get d).1 : Int) else n0
def Rn.rest (d : List UInt8) : List UInt8 := if Rn.ok d then d.drop (Vint.get d).2.1 else d
theorem put1_same {cur : Array Value} {off : Nat} {v : Value} (h : cur[off]? = some v) : put1 cur off [v] = cur := by
 have hlt := (Array.getElem?_eq_some_iff.1 h).1
 apply Array.ext_getElem?
 intro j
 rw [put1_get (by simp; omega)]
 split
 ·
  next hj =>
  obtain rfl : j = off := by simp at hj; omega
  simp [h]
 ·
  rfl
set_option maxRecDepth 100000 in
set_option maxHeartbeats 1000000 in
theorem number_read (S : Nat → Prop) (g : Nat) (A : Option Addr) (c : Nat) (d : List UInt8) (bad : Bool) (b off : Nat) (cur : Array Value) (t : TypeId) (w : World) (h : RdrAt w S g A c d bad) (hb : w.heap[b]? = some (.cells cur t (0, 0))) (hne : b ≠ g) (hSb : S b) (n0 : Int) (hcur : cur[off]? = some (.int .i64 n0)) :
  Calls Tryz.prog 68 #[.pointer (some ⟨g, 0, none⟩), .pointer (some ⟨b, off, none⟩)] w (ReadTo S g b off cur t (fun _ cs => cs = [.int .i64 (Rn.val d n0)]) (Rn.rest d) (bad || !Rn.ok d) w) := by
 have h2 := h.cell2
 have h1 := h.cell1
 have hgl := lt_of_heap h.row
 have hbl := lt_of_heap hb
 have HG := Lib.hid (get_any A d c w h.tx.rd h.tx.cap)
 have HL := Lib.hid (Vint.get_le d)
 have H := Lib.hid h
 have Hb := Lib.hid hb
 have hfit : off + 1 ≤ cur.size := (Array.getElem?_eq_some_iff.1 hcur).1
 have HC := Lib.hid hcur
 have hok : Rn.ok d = (decide ((Vint.get d).2.2 = 0) && decide ((Vint.get d).1 ≤ 2147483647)) := rfl
 have hval : Rn.val d n0 = if Rn.ok d then ((Vint.get d).1 : Int) else n0 := rfl
 have hrest : Rn.rest d = if Rn.ok d then d.drop (Vint.get d).2.1 else d := rfl
 generalize Rn.val d n0 = vv at hval ⊢
 generalize Rn.rest d = rr at hrest ⊢
 generalize Rn.ok d = ok at hok hval hrest ⊢
 go_enter Tryz.func68, Tryz.ntmps68
 generalize Vint.get d = r at HG HL hok hval hrest ⊢
 obtain ⟨v, k, er⟩ := r
 simp only at hok hval hrest
 have hnxt : ∀ w1, Ext w w1 → RdrAt w1 S g A c d bad ∧ w1.heap[b]? = some (.cells cur t (0, 0)) ∧ Trn (Two g b) w w1 := fun w1 hx => ⟨H.out.ext hx, (hx.block _ hbl).trans Hb.out, Trn.ext hx⟩
 have hbad : ∀ w1, Ext w w1 → RdrAt (w1.setRow g #[.slice none 0 0, .slice A d.length c, .bool true, .bool true]) S g A c d true ∧ (w1.setRow g #[.slice none 0 0, .slice A d.length c, .bool true, .bool true]).heap[b]? = some (.cells (put1 cur off [.int .i64 n0]) t (0, 0)) ∧ Trn (Two g b) w (w1.setRow g #[.slice none 0 0, .slice A d.length c, .bool true, .bool true]) := fun w1 hx => by
  obtain ⟨k1, k2, k3⟩ := hnxt w1 hx
  exact ⟨k1.set A c d true k1.tx k1.len, by rw [put1_same HC.out]; exact set_keeps k2 hne, k3.tr (Trn.set _ _ _ (.inl rfl))⟩
 have HN := Lib.hid hnxt
 have HBad := Lib.hid hbad
 by_cases hgood : er = 0 ∧ v ≤ 2147483647
 ·
  obtain ⟨he, hv⟩ := hgood
  subst he
  obtain rfl : ok = true := by rw [hok]; simp [hv]
  obtain rfl : vv = (v : Int) := hval
  obtain rfl : rr = d.drop k := hrest
  have hwv : IntKind.i64.wrap (v : Int) = (v : Int) := by simp [IntKind.wrap, IntKind.bits, IntKind.signed]; omega
  clear h hb hcur hnxt hbad
  try clear hok
  try clear hval
  try clear hrest
  go_wp2_with (go_at_call 92; refine HG.out.mono ?_; rintro e1 w1 ⟨rfl, hb1⟩; refine Hid.out ?_)
  have hk1 : k ≤ d.length := HL.out.1
  obtain ⟨hA1, hb2, ht2⟩ := HN.out w1 hb1
  have h1 : w1.drew.cell? ⟨g, 1, none⟩ = _ := hA1.cell1
  have HA := Lib.hid hA1
  have HBR := Lib.hid hb2
  have HTR := Lib.hid ht2
  obtain ⟨A3, hA3⟩ : ∃ A3, A3 = (if c = k then A else A.map (·.add (k * 1))) := ⟨_, rfl⟩
  have HA3 := Lib.hid hA3
  simp only [getRes]
  clear hA3 hb1 hA1 hb2 ht2 HG HL HN HBad H Hb
  refine Lib.hid ?_
  go_wp2_with fail
  refine rr_start (extW) [0, 1, 2, 3, 4, 5, 6, 8, 9, 10, 12, 13] (by kernel_rfl) ?_
  refine qAD 0 rfl ?_
  simp only [sP]
  refine qAD 1 rfl ?_
  simp only [sP]
  refine qAD 2 rfl ?_
  simp only [sP]
  refine qAS 3 rfl ⟨.int .i64 (v : Int), fun w' => by (go_simp <;> with_reducible rfl), ?_⟩
  simp only [sP]
  refine qAD 4 rfl ?_
  simp only [sP]
  refine qAD 5 rfl ?_
  simp only [sP]
  refine qAD 6 rfl ?_
  simp only [sP]
  refine qS 7 rfl ⟨_, fun w' hx => by have hcx := hx.load h1; (go_simp <;> with_reducible rfl), ?_⟩
  simp only [sP]
  refine qAD 8 rfl ?_
  simp only [sP]
  refine qAS 9 rfl ⟨.slice A3 (d.length - k) (c - k), fun w' => ex_sliceL (.tmp 50) (.tmp 51) 23 rfl elemB A d.length c rfl k rfl hk1 A3 HA3.out _ _ rfl rfl, ?_⟩
  simp only [sP]
  refine qAD 10 rfl ?_
  simp only [sP]
  obtain ⟨W, hW⟩ : ∃ W, W = w1.drew := ⟨_, rfl⟩
  rw [← hW]
  have hAd : RdrAt W S g A c d bad := by rw [hW]; exact HA.out.ext (Ext.drew w1)
  have hbd : W.heap[b]? = some (.cells cur t (0, 0)) := by rw [hW]; exact HBR.out
  have htrd : Trn (Two g b) w W := by rw [hW]; exact HTR.out.tr (Trn.ext (Ext.drew w1))
  refine rr_store 11 rfl (by kernel_rfl) (by kernel_rfl) (by rfl) ⟨W.setRow b (put1 cur off [.int .i64 (v : Int)]), ex_put1 3 (.tmp 53) (.tmp 46) rfl ⟨b, off, none⟩ rfl b off rfl _ rfl [.int .i64 (v : Int)] rfl _ _ hbd (by kernel_rfl) (by simpa using hfit) (by simp [Value.oneCell']) _ rfl, ?_⟩
  simp only [Act.put]
  refine qAD 12 rfl ?_
  simp only [sP]
  refine qAD 13 rfl ?_
  simp only [sP]
  refine rr_store 14 rfl (by kernel_rfl) (by kernel_rfl) (by rfl) ⟨(W.setRow b (put1 cur off [.int .i64 (v : Int)])).setRow g #[.slice none 0 0, .slice A3 (d.length - k) (c - k), .bool true, .bool bad], ex_put1 23 (.tmp 55) (.tmp 52) rfl ⟨g, 1, none⟩ rfl g 1 rfl _ rfl [.slice A3 (d.length - k) (c - k)] rfl _ _ (set_keeps hAd.row (Ne.symm hne)) (by kernel_rfl) (by simp) (by simp [Value.oneCell']) _ rfl, ?_⟩
  simp only [Act.put]
  have hd2 : (d.drop k).length = d.length - k := List.length_drop
  have htd := hAd.tx.tail hk1
  rw [show A.map (·.add k) = A.map (·.add (k * 1)) by rw [Nat.mul_one], ← HA3.out] at htd
  obtain ⟨k1, k2, k3⟩ := hAd.two bad hbd hne hSb htd (by have := hAd.len; omega) (put1 cur off [.int .i64 (v : Int)])
  rw [hd2] at k1 k2 k3
  have htr5 := htrd.tr k3
  refine rr_done (by kernel_rfl) ?_
  obtain ⟨W5, hW5⟩ : ∃ W5, W5 = (W.setRow b (put1 cur off [.int .i64 (v : Int)])).setRow g #[.slice none 0 0, .slice A3 (d.length - k) (c - k), .bool true, .bool bad] := ⟨_, rfl⟩
  rw [← hW5] at k1 k2 htr5 ⊢
  clear hW5
  go_wp2_with fail
  (try simp only [Exit.inBlock, Exit.then])
  first | refine bodyPost_ret (results_none rfl _ _ _) rfl ?_ | refine bodyPost_end (results_none rfl _ _ _) rfl ?_
  exact ⟨rfl, htr5, ⟨_, _, by simpa using k1⟩, _, k2, rfl⟩
 ·
  obtain rfl : ok = false := by rw [hok]; simp only [Bool.and_eq_false_iff, decide_eq_false_iff_not]; omega
  obtain rfl : vv = n0 := by rw [hval]; rfl
  obtain rfl : rr = d := by rw [hrest]; rfl
  clear h hb hcur hnxt hbad
  try clear hok
  try clear hval
  try clear hrest
  go_wp2_with (go_at_call 92; refine HG.out.mono ?_; rintro e1 w1 ⟨rfl, hb1⟩; refine Hid.out ?_)
  obtain ⟨hA1, hb2, ht2⟩ := HN.out w1 hb1
  have h1 : w1.cell? ⟨g, 1, none⟩ = _ := hA1.cell1
  have hrow := hA1.row
  obtain ⟨k1, k2, k3⟩ := HBad.out w1 hb1
  have K1 := Lib.hid k1
  have K2 := Lib.hid k2
  have K3 := Lib.hid k3
  simp only [getRes]
  clear hb1 hA1 hb2 ht2 HG HL HN HBad H Hb k1 k2 k3
  refine Lib.hid ?_
  go_wp2_with (refine wpList_put1 rfl 4 (.tmp 42) (.const (.bool true)) rfl ⟨g, 3, none⟩ rfl g 3 rfl (.bool true) rfl [.bool true] rfl _ _ hrow (by kernel_rfl) (by simp) (by simp [Value.oneCell']) #[.slice none 0 0, .slice A rr.length c, .bool true, .bool true] rfl ?_; refine Hid.out ?_)
  all_goals
   obtain ⟨W5, hW5⟩ : ∃ W5, W5 = w1.setRow g #[.slice none 0 0, .slice A rr.length c, .bool true, .bool true] := ⟨_, rfl⟩
   rw [← hW5] at K1 K2 K3 ⊢
   clear hW5
   refine Lib.hid ?_
   go_wp2_with fail
   (try simp only [Exit.inBlock, Exit.then])
   first | refine bodyPost_ret (results_none rfl _ _ _) rfl ?_ | refine bodyPost_end (results_none rfl _ _ _) rfl ?_
   exact ⟨rfl, K3.out, ⟨_, _, by simpa using K1.out⟩, _, K2.out, rfl⟩
def Rc.val (n : Nat) (d : List UInt8) : List UInt8 := if d.length < n then List.replicate n 0 else d.take n
def Rc.rest (n : Nat) (d : List UInt8) : List UInt8 := if d.length < n then d else d.drop n
theorem Rc.len (n : Nat) (d : List UInt8) : (Rc.val n d).length = n := by
 unfold Rc.val
 split
 ·
  simp
 ·
  simp; omega
def Cut (S : Nat → Prop) (g : Nat) (n : Nat) (d : List UInt8) (bad : Bool) (w : World) (e : Ending) (w' : World) : Prop :=
 ∃ A c, e = .returned (.slice A n c) ∧ RdB w' A (Rc.val n d) ∧ n ≤ c ∧ Trn (fun i => i = g) w w' ∧ Rdr w' S g (Rc.rest n d) (bad || decide (d.length < n))
theorem Rd.zeros (w : World) (n : Nat) : RdB (w.alloc (.cells (Array.replicate n (.int .u8 0)) 5)) (some ⟨w.heap.size, 0, none⟩) (List.replicate n 0) := by
 have h := RdB.lit w 5 (List.replicate n 0)
 have e : (bvs (List.replicate n 0)).toArray = Array.replicate n (.int .u8 0) := by
  unfold bvs
  rw [List.map_replicate]
  simp [bv]
 rwa [e] at h
set_option maxRecDepth 100000 in
set_option maxHeartbeats 1000000 in
theorem cut_read (S : Nat → Prop) (g : Nat) (A : Option Addr) (c : Nat) (d : List UInt8) (bad : Bool) (n : Nat) (hn : n ≤ 100) (w : World) (h : RdrAt w S g A c d bad) :
  Calls Tryz.prog 93 #[.pointer (some ⟨g, 0, none⟩), .int .i64 (n : Int)] w (Cut S g n d bad w) := by
 have h1 := h.cell1
 have hgl := lt_of_heap h.row
 have hz : (Tryz.prog.info? 5).bind (·.zero) = some (.int .u8 0) := by kernel_rfl
 by_cases hs : d.length < n
 ·
  have hd1 : (d.length : Int) < (n : Int) := by omega
  have hrow := h.row
  have hv : Rc.val n d = List.replicate n 0 := if_pos hs
  have hr : Rc.rest n d = d := if_pos hs
  have hb : (bad || decide (d.length < n)) = true := by simp [hs]
  have K1 := Lib.hid (h.set A c d true h.tx h.len)
  unfold Cut
  rw [hv, hr, hb]
  clear h hv hr hb hs
  go_enter Tryz.func93, Tryz.ntmps93
  go_wp2_with (first | (refine wpList_put1 rfl 4 (.tmp 15) (.const (.bool true)) rfl ⟨g, 3, none⟩ rfl g 3 rfl (.bool true) rfl [.bool true] rfl _ _ hrow (by kernel_rfl) (by simp) (by simp [Value.oneCell']) #[.slice none 0 0, .slice A d.length c, .bool true, .bool true] rfl ?_) | (refine wpList_mk rfl (.tmp 16) (.tmp 16) 23 rfl elemB (.int .u8 0) hz rfl n _ _ rfl rfl (by omega) (by omega) ?_))
  go_ret
  have hx := Ext.alloc (w.setRow g #[.slice none 0 0, .slice A d.length c, .bool true, .bool true]) (.cells (Array.replicate n (.int .u8 0)) 5)
  refine ⟨_, _, rfl, ?_, Nat.le_refl _, (Trn.set (S := fun i => i = g) _ _ _ rfl).tr (Trn.ext hx), ⟨_, _, K1.out.ext hx⟩⟩
  have := Rd.zeros (w.setRow g #[.slice none 0 0, .slice A d.length c, .bool true, .bool true]) n
  simpa using this
 ·
  have hd1 : ¬ (d.length : Int) < (n : Int) := by omega
  have hnd : n ≤ d.length := by omega
  have hcap := h.tx.cap
  have hrow := h.row
  have hv : Rc.val n d = d.take n := if_neg hs
  have hr : Rc.rest n d = d.drop n := if_neg hs
  have hb : (bad || decide (d.length < n)) = bad := by simp [hs]
  obtain ⟨A3, hA3⟩ : ∃ A3, A3 = (if c = n then A else A.map (·.add (n * 1))) := ⟨_, rfl⟩
  have htd := h.tx.tail hnd
  rw [show A.map (·.add n) = A.map (·.add (n * 1)) by rw [Nat.mul_one], ← hA3] at htd
  have K1 := h.set A3 (c - n) (d.drop n) bad htd (by have := h.len; rw [List.length_drop]; omega)
  rw [show (d.drop n).length = d.length - n from List.length_drop] at K1
  have K1 := Lib.hid K1
  have HT := Lib.hid ((h.tx.head hnd).trn (Trn.set w g #[.slice none 0 0, .slice A3 (d.length - n) (c - n), .bool true, .bool bad] h.mem) (fun _ h => h))
  have HA3 := Lib.hid hA3
  unfold Cut
  rw [hv, hr, hb]
  clear h hv hr hb hs hA3 htd
  go_enter Tryz.func93, Tryz.ntmps93
  go_wp2_with (first | (refine wpList_sliceH rfl (.tmp 21) (.tmp 22) 23 rfl elemB A d.length c rfl n rfl (by omega) ?_) | (refine wpList_sliceL rfl (.tmp 28) (.tmp 29) 23 rfl elemB A d.length c rfl n rfl hnd A3 HA3.out (d.length - n) (c - n) rfl rfl ?_) | (refine wpList_put1 rfl 23 (.tmp 32) (.tmp 30) rfl ⟨g, 1, none⟩ rfl g 1 rfl _ rfl [.slice A3 (d.length - n) (c - n)] rfl _ _ hrow (by kernel_rfl) (by simp) (by simp [Value.oneCell']) #[.slice none 0 0, .slice A3 (d.length - n) (c - n), .bool true, .bool bad] rfl ?_))
  go_ret
  refine ⟨_, _, rfl, HT.out.rd, by omega, Trn.set (S := fun i => i = g) _ _ _ rfl, ⟨A3, c - n, K1.out⟩⟩
end Go.Proofs.YtjholekgdnhpkaaGreatDoor
namespace Go.Proofs.YtjholekgdnhpkaaGreatDoor
open Go.RowKit
attribute [local go_sem] Oper.semAt_some
theorem Cut.two {S : Nat → Prop} {g b off : Nat} {d' : List UInt8} {bad : Bool} {cur : Array Value} {t : TypeId} {w w' : World} (hr : Rdr w' S g d' bad) (t1 : Trn (fun i => i = g) w w') (hb : w.heap[b]? = some (.cells cur t (0, 0))) (hne : b ≠ g) (hSb : S b) (cs : List Value) :
  ReadTo S g b off cur t (fun _ cs' => cs' = cs) d' bad w (.returned (.tuple #[])) (w'.setRow b (put1 cur off cs)) := by
 have hb' := t1.row hb hne
 have t2 : Trn (fun i => i = b) w' (w'.setRow b (put1 cur off cs)) := Trn.set _ _ _ rfl
 exact ⟨rfl, (t1.mono (fun _ e _ => .inl e)).tr (t2.mono (fun _ e _ => .inr e)), hr.trn t2 (fun _ e => e ▸ hSb) (fun e => hne e.symm), _, setRow_heap w' b _ _ _ _ hb', rfl⟩
set_option maxRecDepth 100000 in
set_option maxHeartbeats 1000000 in
theorem wide_read (S : Nat → Prop) (g : Nat) (A : Option Addr) (c : Nat) (d : List UInt8) (bad : Bool) (b off : Nat) (cur : Array Value) (t : TypeId) (w : World) (h : RdrAt w S g A c d bad) (hb : w.heap[b]? = some (.cells cur t (0, 0))) (hne : b ≠ g) (hSb : S b) (hfit : off + 1 ≤ cur.size) :
  Calls Tryz.prog 69 #[.pointer (some ⟨g, 0, none⟩), .pointer (some ⟨b, off, none⟩)] w (ReadTo S g b off cur t (fun _ cs => cs = [.int .u64 (Vint.number (Rc.val 8 d) : Nat)]) (Rc.rest 8 d) (bad || decide (d.length < 8)) w) := by
 have h2 := h.cell2
 have h1 := h.cell1
 have hgl := lt_of_heap h.row
 have hbl := lt_of_heap hb
 have hcut := cut_read S g A c d bad 8 (by omega) w h
 unfold Cut at hcut
 have HC := Lib.hid hcut
 clear hcut
 have Hb := Lib.hid hb
 have hl8 := Rc.len 8 d
 go_enter Tryz.func69, Tryz.ntmps69
 generalize Rc.val 8 d = x at HC hl8 ⊢
 generalize Rc.rest 8 d = y at HC ⊢
 generalize (bad || decide (d.length < 8)) = bad2 at HC ⊢
 clear h hb
 go_wp2_with (go_at_call 93; refine HC.out.mono ?_; rintro e1 w1 ⟨A1, c1, rfl, hr1, hc1, ht1, hR1⟩; refine Hid.out ?_)
 have hN := number_any A1 x c1 w1 hr1 (by omega)
 rw [hl8] at hN
 have HN := Lib.hid hN
 have hb1 := ht1.row Hb.out hne
 have hfin := Cut.two (off := off) (cur := cur) (t := t) (b := b) hR1 ht1 Hb.out hne hSb [.int .u64 (Vint.number x : Nat)]
 have HF := Lib.hid hfin
 clear hfin hN hr1 hc1 ht1 hR1 HC Hb h1 h2
 refine Lib.hid ?_
 go_wp2_with (first | (go_at_call 50; refine HN.out.mono ?_; rintro e2 w2 ⟨rfl, rfl⟩) | (refine wpList_put1 rfl 24 (.tmp 25) (.tmp 24) rfl ⟨b, off, none⟩ rfl b off rfl _ rfl [.int .u64 (Vint.number x : Nat)] rfl _ _ hb1 (by kernel_rfl) (by simpa using hfit) (by simp [Value.oneCell']) _ rfl ?_))
 (try simp only [Exit.inBlock, Exit.then])
 first | refine bodyPost_ret (results_none rfl _ _ _) rfl ?_ | refine bodyPost_end (results_none rfl _ _ _) rfl ?_
 exact HF.out
set_option maxRecDepth 100000 in
set_option maxHeartbeats 1000000 in
theorem flag_read (S : Nat → Prop) (g : Nat) (A : Option Addr) (c : Nat) (d : List UInt8) (bad : Bool) (b off : Nat) (cur : Array Value) (t : TypeId) (w : World) (h : RdrAt w S g A c d bad) (hb : w.heap[b]? = some (.cells cur t (0, 0))) (hne : b ≠ g) (hSb : S b) (hfit : off + 1 ≤ cur.size) :
  Calls Tryz.prog 72 #[.pointer (some ⟨g, 0, none⟩), .pointer (some ⟨b, off, none⟩)] w (ReadTo S g b off cur t (fun _ cs => cs = [.bool (decide (Rc.val 1 d = [1]))]) (Rc.rest 1 d) (bad || decide (d.length < 1)) w) := by
 have h2 := h.cell2
 have h1 := h.cell1
 have hgl := lt_of_heap h.row
 have hbl := lt_of_heap hb
 have hcut := cut_read S g A c d bad 1 (by omega) w h
 unfold Cut at hcut
 have HC := Lib.hid hcut
 clear hcut
 have Hb := Lib.hid hb
 have hl8 := Rc.len 1 d
 go_enter Tryz.func72, Tryz.ntmps72
 generalize Rc.val 1 d = x at HC hl8 ⊢
 generalize Rc.rest 1 d = y at HC ⊢
 generalize (bad || decide (d.length < 1)) = bad2 at HC ⊢
 obtain ⟨u, rfl⟩ : ∃ u, x = [u] := List.length_eq_one_iff.1 hl8
 clear h hb
 go_wp2_with (go_at_call 93; refine HC.out.mono ?_; rintro e1 w1 ⟨A1, c1, rfl, hr1, hc1, ht1, hR1⟩; refine Hid.out ?_)
 have hb1 := ht1.row Hb.out hne
 obtain ⟨ad, rfl, hcs⟩ := hr1.2 (by simp [bvs])
 have hu : w1.cell? (ad.add 0) = some (bv u) := hcs 0 _ rfl
 have hu : w1.cell? ad = some (.int .u8 (u.toNat : Int)) := hu
 have HB := Lib.hid (show ((u.toNat : Int) == 1) = decide (u = 1) by
  rw [Bool.eq_iff_iff]
  simp only [beq_iff_eq, decide_eq_true_eq]
  constructor
  ·
   intro e; exact UInt8.toNat_inj.1 (show u.toNat = 1 by omega)
  ·
   rintro rfl; rfl)
 have hfin := Cut.two (off := off) (cur := cur) (t := t) (b := b) hR1 ht1 Hb.out hne hSb [.bool (decide (u = 1))]
 have HF := Lib.hid hfin
 clear hfin hr1 ht1 hR1 HC Hb h1 h2 hcs
 refine Lib.hid ?_
 go_wp2_with (refine wpList_put1 rfl 4 (.tmp 24) (.tmp 23) rfl ⟨b, off, none⟩ rfl b off rfl (.bool (decide (u = 1))) (by rw [← HB.out]; rfl) [.bool (decide (u = 1))] rfl _ _ hb1 (by kernel_rfl) (by simpa using hfit) (by simp [Value.oneCell']) _ rfl ?_)
 (try simp only [Exit.inBlock, Exit.then])
 first | refine bodyPost_ret (results_none rfl _ _ _) rfl ?_ | refine bodyPost_end (results_none rfl _ _ _) rfl ?_
 have hd : decide ([u] = [(1 : UInt8)]) = decide (u = 1) := by simp
 rw [hd]
 exact HF.out
set_option maxRecDepth 100000 in
set_option maxHeartbeats 1000000 in
theorem sum_read (S : Nat → Prop) (g : Nat) (A : Option Addr) (c : Nat) (d : List UInt8) (bad : Bool) (b off : Nat) (cur : Array Value) (t : TypeId) (w : World) (h : RdrAt w S g A c d bad) (hb : w.heap[b]? = some (.cells cur t (0, 0))) (hne : b ≠ g) (hSb : S b) (hfit : off + 32 ≤ cur.size) :
  Calls Tryz.prog 70 #[.pointer (some ⟨g, 0, none⟩), .pointer (some ⟨b, off, none⟩)] w (ReadTo S g b off cur t (fun _ cs => cs = bvs (Rc.val 32 d)) (Rc.rest 32 d) (bad || decide (d.length < 32)) w) := by
 have h2 := h.cell2
 have h1 := h.cell1
 have hgl := lt_of_heap h.row
 have hbl := lt_of_heap hb
 have hcut := cut_read S g A c d bad 32 (by omega) w.drew (h.ext (Ext.drew w))
 unfold Cut at hcut
 have HC := Lib.hid hcut
 clear hcut
 have Hb := Lib.hid hb
 have hl8 := Rc.len 32 d
 go_enter Tryz.func70, Tryz.ntmps70
 generalize Rc.val 32 d = x at HC hl8 ⊢
 generalize Rc.rest 32 d = y at HC ⊢
 generalize (bad || decide (d.length < 32)) = bad2 at HC ⊢
 clear h hb
 go_wp2_with fail
 refine rr_start (extW) [0, 1, 2, 3] (by kernel_rfl) ?_
 refine qAD 0 rfl ?_
 simp only [sP]
 refine qAD 1 rfl ?_
 simp only [sP]
 refine qAS 2 rfl ⟨.slice (some ⟨b, off, none⟩) 32 32, fun w' => by (go_simp <;> with_reducible rfl), ?_⟩
 simp only [sP]
 refine qAD 3 rfl ?_
 simp only [sP]
 refine rr_callW 4 HC.out rfl (by kernel_rfl) (by kernel_rfl) (by rfl) (by go_simp) ?_
 rintro e1 w1 ⟨A1, c1, rfl, hr1, hc1, ht1, hR1⟩
 refine ⟨_, rfl, ?_⟩
 simp only [sP]
 have hb1 := ht1.row Hb.out hne
 refine rr_last 5 rfl (by kernel_rfl) (by kernel_rfl) (by rfl) fun KK hK => wp_copyT (.tmp 22) (.tmp 24) 23 rfl elemB b off 32 32 rfl A1 c1 (bvs x) rfl (by rw [← hl8]; exact hr1) (by omega) cur t hb1 hfit (bvs_one _) (hK _ _ ?_)
 simp only [sP]
 refine rr_done (by kernel_rfl) ?_
 have hfin := Cut.two (off := off) (cur := cur) (t := t) (b := b) hR1 ht1 Hb.out hne hSb (bvs x)
 have hput : (cur.toList.take off ++ bvs x ++ cur.toList.drop (off + 32)).toArray = put1 cur off (bvs x) := by unfold put1; rw [bvs_len, hl8]
 rw [hput]
 have HF := Lib.hid hfin
 clear hfin hr1 hc1 ht1 hR1 HC Hb h1 h2
 go_wp2_with fail
 (try simp only [Exit.inBlock, Exit.then])
 first | refine bodyPost_ret (results_none rfl _ _ _) rfl ?_ | refine bodyPost_end (results_none rfl _ _ _) rfl ?_
 exact ⟨rfl, (Trn.ext (Ext.drew w)).tr HF.out.2.1, HF.out.2.2⟩
set_option maxRecDepth 100000 in
set_option maxHeartbeats 1000000 in
theorem rest_read (S : Nat → Prop) (g : Nat) (A : Option Addr) (c : Nat) (d : List UInt8) (bad : Bool) (b off : Nat) (cur : Array Value) (t : TypeId) (w : World) (h : RdrAt w S g A c d bad) (hb : w.heap[b]? = some (.cells cur t (0, 0))) (hne : b ≠ g) (hSb : S b) (hfit : off + 1 ≤ cur.size) :
  Calls Tryz.prog 75 #[.pointer (some ⟨g, 0, none⟩), .pointer (some ⟨b, off, none⟩)] w (ReadTo S g b off cur t (IsTx S d) [] bad w) := by
 have h2 := h.cell2
 have h1 := h.cell1
 have hgl := lt_of_heap h.row
 have hbl := lt_of_heap hb
 have HC := Lib.hid (clone_any A d c w h.tx.rd (by have := h.len; omega))
 have Hb := Lib.hid hb
 have H := Lib.hid h
 go_enter Tryz.func75, Tryz.ntmps75
 clear h hb
 go_wp2_with (go_at_call 52; refine HC.out.mono ?_; rintro e1 w1 ⟨A1, c1, rfl, ho1, hx1⟩; refine Hid.out ?_)
 have hb1 := (hx1.block _ hbl).trans Hb.out
 have hA1 := H.out.ext hx1
 have hT1 : Tx w1 S A1 c1 d := Tx.own ho1 H.out.lt
 obtain ⟨k1, k2, k3⟩ := hA1.two (A' := none) (c' := 0) bad hb1 hne hSb (Tx.nil_ w1 S none 0) (by simp) (put1 cur off [.slice A1 d.length c1])
 have hT5 := hT1.trn k3 (Two.sub hA1.mem hSb)
 have hrow := set_keeps (cs := put1 cur off [.slice A1 d.length c1]) hA1.row (Ne.symm hne)
 have HK := Lib.hid k1
 have HK2 := Lib.hid k2
 have HK3 := Lib.hid ((Trn.ext hx1).tr k3)
 have HT := Lib.hid hT5
 clear k1 k2 k3 hT5 hT1 hA1 ho1 hx1 HC Hb h1 h2
 refine Lib.hid ?_
 go_wp2_with (first | (refine wpList_put1 rfl 23 (.tmp 27) (.tmp 26) rfl ⟨b, off, none⟩ rfl b off rfl _ rfl [.slice A1 d.length c1] rfl _ _ hb1 (by kernel_rfl) (by simpa using hfit) (by simp [Value.oneCell']) _ rfl ?_) | (refine wpList_put1 rfl 23 (.tmp 29) (.const (.slice none 0 0)) rfl ⟨g, 1, none⟩ rfl g 1 rfl _ rfl [.slice none 0 0] rfl _ _ hrow (by kernel_rfl) (by simp) (by simp [Value.oneCell']) #[.slice none 0 0, .slice none 0 0, .bool true, .bool bad] rfl ?_))
 (try simp only [Exit.inBlock, Exit.then])
 first | refine bodyPost_ret (results_none rfl _ _ _) rfl ?_ | refine bodyPost_end (results_none rfl _ _ _) rfl ?_
 exact ⟨rfl, HK3.out, ⟨_, _, HK.out⟩, _, HK2.out, _, _, rfl, HT.out⟩
def IsEn (S : Nat → Prop) (l : List Ent) (w : World) (cs : List Value) : Prop := ∃ A c L, cs = [.slice A L.length c] ∧ (∀ w2, Trn S w w2 → RdE w2 A L) ∧ L.length ≤ c ∧ L.map EnV.x = l
theorem getall_sum (A : Option Addr) (d : List UInt8) (c : Nat) (w : World) (hA : RdB w A d) (hl : d.length ≤ 1000000) (hc : d.length ≤ c) :
  Calls Tryz.prog 63 #[.slice A d.length c] w (fun e w' => ∃ A2 c2 L er, e = .returned (.tuple #[.slice A2 L.length c2, .int .i64 (er : Int)]) ∧ Ext w w' ∧ L.map EnV.x = (Ent.getAll d).getD [] ∧ ((er : Int) != 0) = (Ent.getAll d).isNone ∧ L.length ≤ c2 ∧
   ∀ (T : Nat → Prop) w2, (∀ i, T i → i < w.heap.size) → Trn T w' w2 → RdE w2 A2 L) := by
 refine (getall_own A d c w hA hl hc).mono ?_
 rintro e w' (⟨L, A2, c2, h1, rfl, h3, h4, h5⟩ | ⟨h1, rfl, h5⟩)
 ·
  exact ⟨A2, c2, L, (0 : Nat), rfl, h5, by rw [h1]; rfl, by rw [h1]; rfl, h3.nc, fun T w2 hT ht => ⟨(h3.trn ht hT).rd, fun e he => ((h4 e he).trn ht hT).i⟩⟩
 ·
  exact ⟨none, 0, [], (170 : Nat), rfl, h5, by rw [h1]; rfl, by rw [h1]; rfl, Nat.le_refl _, fun _ w2 _ _ => RdE.nil_ _ _⟩
set_option maxRecDepth 100000 in
set_option maxHeartbeats 1000000 in
theorem entries_read (S : Nat → Prop) (g : Nat) (A : Option Addr) (c : Nat) (d : List UInt8) (bad : Bool) (b off : Nat) (cur : Array Value) (t : TypeId) (w : World) (h : RdrAt w S g A c d bad) (hb : w.heap[b]? = some (.cells cur t (0, 0))) (hne : b ≠ g) (hSb : S b) (hfit : off + 1 ≤ cur.size) :
  Calls Tryz.prog 73 #[.pointer (some ⟨g, 0, none⟩), .pointer (some ⟨b, off, none⟩)] w (ReadTo S g b off cur t (IsEn S ((Ent.getAll d).getD [])) [] (bad || (Ent.getAll d).isNone) w) := by
 have h2 := h.cell2
 have h1 := h.cell1
 have hgl := lt_of_heap h.row
 have hbl := lt_of_heap hb
 have h3 := h.cell3
 have HC := Lib.hid (getall_sum A d c w h.tx.rd h.len h.tx.cap)
 have Hb := Lib.hid hb
 have H := Lib.hid h
 generalize (Ent.getAll d).getD [] = le at HC ⊢
 generalize (Ent.getAll d).isNone = bn at HC ⊢
 obtain ⟨bad2, hbad2⟩ : ∃ x, x = (bad || bn) := ⟨_, rfl⟩
 rw [← hbad2]
 have HB2 := Lib.hid hbad2
 go_enter Tryz.func73, Tryz.ntmps73
 clear h hb hbad2
 go_wp2_with (go_at_call 63; refine HC.out.mono ?_; rintro e1 w1 ⟨A1, c1, L, er, rfl, hx1, hle, hbe, hlc, hrd⟩; refine Hid.out ?_)
 have hA1 := H.out.ext hx1
 have h3 := hA1.cell3
 have hrow := hA1.row
 have hA2 := hA1.set A c d bad2 hA1.tx hA1.len
 have hb2 := set_keeps (cs := #[.slice none 0 0, .slice A d.length c, .bool true, .bool bad2]) ((hx1.block _ hbl).trans Hb.out) hne
 have ht2 : Trn (Two g b) w1 (w1.setRow g #[.slice none 0 0, .slice A d.length c, .bool true, .bool bad2]) := Trn.set _ _ _ (.inl rfl)
 have HBE := Lib.hid hbe
 have HLE := Lib.hid hle
 have HX1 := Lib.hid hx1
 have HRD := Lib.hid hrd
 have HA2 := Lib.hid hA2
 have HBB := Lib.hid hb2
 have HT2 := Lib.hid ht2
 clear hx1 hle hbe hrd hA2 hb2 ht2 hA1 HC Hb h1
 refine Lib.hid ?_
 go_wp2_with (refine wpList_put1 rfl 4 (.tmp 41) (.tmp 39) rfl ⟨g, 3, none⟩ rfl g 3 rfl (.bool bad2) (by show Value.bool _ = _; first | (simp only [HB2.out, HBE.out, *]; done) | (simp only [HB2.out, HBE.out, *]; simp; done)) [.bool bad2] rfl _ _ hrow (by kernel_rfl) (by simp) (by simp [Value.oneCell']) #[.slice none 0 0, .slice A d.length c, .bool true, .bool bad2] rfl ?_; refine Hid.out ?_)
 all_goals
  obtain ⟨w2, hw2⟩ : ∃ w2, w2 = w1.setRow g #[.slice none 0 0, .slice A d.length c, .bool true, .bool bad2] := ⟨_, rfl⟩
  rw [← hw2] at HA2 HBB HT2 ⊢
  clear hw2 h3 hrow
  have hb2 := HBB.out
  obtain ⟨k1, k2, k3⟩ := HA2.out.two (A' := none) (c' := 0) bad2 hb2 hne hSb (Tx.nil_ w2 S none 0) (by simp) (put1 cur off [.slice A1 L.length c1])
  have hrow := set_keeps (cs := put1 cur off [.slice A1 L.length c1]) HA2.out.row (Ne.symm hne)
  have HK := Lib.hid k1
  have HK2 := Lib.hid k2
  have HK3 := Lib.hid (HT2.out.tr k3)
  clear k1 k2 k3
  refine Lib.hid ?_
  go_wp2_with (first | (refine wpList_put1 rfl 28 (.tmp 45) (.tmp 44) rfl ⟨b, off, none⟩ rfl b off rfl _ rfl [.slice A1 L.length c1] rfl _ _ hb2 (by kernel_rfl) (by simpa using hfit) (by simp [Value.oneCell']) _ rfl ?_) | (refine wpList_put1 rfl 23 (.tmp 47) (.const (.slice none 0 0)) rfl ⟨g, 1, none⟩ rfl g 1 rfl _ rfl [.slice none 0 0] rfl _ _ hrow (by kernel_rfl) (by simp) (by simp [Value.oneCell']) #[.slice none 0 0, .slice none 0 0, .bool true, .bool bad2] rfl ?_))
  (try simp only [Exit.inBlock, Exit.then])
  first | refine bodyPost_ret (results_none rfl _ _ _) rfl ?_ | refine bodyPost_end (results_none rfl _ _ _) rfl ?_
  exact ⟨rfl, (Trn.ext HX1.out).tr HK3.out, ⟨_, _, HK.out⟩, _, HK2.out, _, _, L, rfl, fun w9 t9 => HRD.out S w9 H.out.lt ((HK3.out.mono (fun i hi _ => Two.sub H.out.mem hSb i hi)).tr t9), hlc, HLE.out⟩
end Go.Proofs.YtjholekgdnhpkaaGreatDoor
