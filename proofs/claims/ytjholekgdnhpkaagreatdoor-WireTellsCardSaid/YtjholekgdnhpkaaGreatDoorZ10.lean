/- Texts of the proof, laid together: WrH WrI. -/
import Derived.Test.YtjholekgdnhpkaaGreatDoorZ8
import Derived.Test.YtjholekgdnhpkaaGreatDoorZ30
set_option linter.unusedVariables false
set_option linter.unusedSimpArgs false
set_option linter.unusedSectionVars false
namespace Go.Proofs.YtjholekgdnhpkaaGreatDoor
open Go.RowKit
attribute [local go_sem] Oper.semAt_some
abbrev Rt.val (d : List UInt8) : List UInt8 := (Vint.getBytes d).1
abbrev Rt.rest (d : List UInt8) : List UInt8 := d.drop (Vint.getBytes d).2.1
abbrev Rt.bad (d : List UInt8) : Bool := decide ((Vint.getBytes d).2.2 ≠ 0)
def Rs.one (d : List UInt8) (bad : Bool) : Ws × List UInt8 × Bool :=
 let d1 := Rt.rest d; let b1 := bad || Rt.bad d
 let d2 := Rt.rest d1; let b2 := b1 || Rt.bad d1
 let d3 := Rc.rest 8 d2; let b3 := b2 || decide (d2.length < 8)
 let d4 := Rn.rest d3; let b4 := b3 || !Rn.ok d3
 (⟨⟨Rt.val d, Rt.val d1, Rn.val d3 0, Rc.val 32 d4⟩, Vint.number (Rc.val 8 d2)⟩, Rc.rest 32 d4, b4 || decide (d4.length < 32))
def Rs.run : Nat → List UInt8 → Bool → List Ws × List UInt8 × Bool
 | 0, d, bad => ([], d, bad)
 | n + 1, d, bad => let r := Rs.run n d bad; let s := Rs.one r.2.1 r.2.2; (r.1 ++ [s.1], s.2.1, s.2.2)
def Rs.all (d : List UInt8) (bad : Bool) : List Ws × List UInt8 × Bool :=
 if (bad || !Rn.ok d || decide (60 < (Vint.get d).1)) = true then ([], Rn.rest d, true) else Rs.run (Vint.get d).1 (Rn.rest d) false
structure SubW (w : World) (S : Nat → Prop) (s : WsV) : Prop where
 lo : Tx w S s.p.la s.p.lc s.p.x.lo
 hi : Tx w S s.p.ha s.p.hc s.p.x.hi
 sum : s.p.x.sum.length = 32
 c0 : 0 ≤ s.p.x.count
 c1 : s.p.x.count ≤ 2147483647
 lsn : s.lsn < 18446744073709551616
theorem SubW.trn {w w' : World} {S T : Nat → Prop} {s : WsV} (h : SubW w S s) (t : Trn T w w') (hT : ∀ i, T i → S i) : SubW w' S s := ⟨h.lo.trn t hT, h.hi.trn t hT, h.sum, h.c0, h.c1, h.lsn⟩
theorem SubW.inn {w : World} {S : Nat → Prop} {s : WsV} (h : SubW w S s) : s.In w := ⟨⟨h.lo.rd, h.hi.rd, h.lo.cap, h.hi.cap, h.sum, by have := h.c0; omega, by have := h.c1; omega⟩, h.lsn⟩
def SubR (w : World) (S : Nat → Prop) (r n k : Nat) (l : List Ws) : Prop :=
 ∃ L : List WsV, L.length = k ∧ k ≤ n ∧ L.map WsV.x = l ∧ (∀ s ∈ L, SubW w S s) ∧ w.heap[r]? = some (.cells (wcs (L ++ List.replicate (n - k) wsz)).toArray 38 (0, 0))
def IsSu (S : Nat → Prop) (l : List Ws) (w : World) (cs : List Value) : Prop := ∃ A c L, cs = [.slice A L.length c] ∧ (∀ w2, Trn S w w2 → RdW w2 A L) ∧ L.length ≤ c ∧ L.map WsV.x = l
theorem wsz_sum : wsz.p.x.sum.length = 32 := by decide
theorem mid_sums {L : List WsV} {w : World} {S : Nat → Prop} (hL : ∀ s ∈ L, SubW w S s) {x : WsV} (hx : x.p.x.sum.length = 32) (m : Nat) : ∀ s ∈ L ++ x :: List.replicate m wsz, s.p.x.sum.length = 32 := by
 intro s hs
 rcases List.mem_append.1 hs with h | h
 ·
  exact (hL s h).sum
 ·
  rcases List.mem_cons.1 h with rfl | h
  ·
   exact hx
  ·
   rw [List.eq_of_mem_replicate h]; exact wsz_sum
theorem mid_get (L : List WsV) (x : WsV) (R : List WsV) (h : L.length < (L ++ x :: R).length) : (L ++ x :: R)[L.length] = x := by simp
theorem mid_set (L : List WsV) (x y : WsV) (R : List WsV) : (L ++ x :: R).set L.length y = L ++ y :: R := by simp
section
variable {L R : List WsV} {x : WsV} (hs : ∀ s ∈ L ++ x :: R, s.p.x.sum.length = 32)
include hs
theorem mput_lo (A : Option Addr) (c : Nat) (d : List UInt8) : put1 (wcs (L ++ x :: R)).toArray (L.length * 36 + 0) [.slice A d.length c] = (wcs (L ++ ⟨{ x.p with la := A, lc := c, x := { x.p.x with lo := d } }, x.lsn⟩ :: R)).toArray := by
 have hk : L.length < (L ++ x :: R).length := by simp
 rw [wput_lo hs hk, mid_get, mid_set]
theorem mput_hi (A : Option Addr) (c : Nat) (d : List UInt8) : put1 (wcs (L ++ x :: R)).toArray (L.length * 36 + 1) [.slice A d.length c] = (wcs (L ++ ⟨{ x.p with ha := A, hc := c, x := { x.p.x with hi := d } }, x.lsn⟩ :: R)).toArray := by
 have hk : L.length < (L ++ x :: R).length := by simp
 rw [wput_hi hs hk, mid_get, mid_set]
theorem mput_count (n : Int) : put1 (wcs (L ++ x :: R)).toArray (L.length * 36 + 2) [.int .i64 n] = (wcs (L ++ ⟨{ x.p with x := { x.p.x with count := n } }, x.lsn⟩ :: R)).toArray := by
 have hk : L.length < (L ++ x :: R).length := by simp
 rw [wput_count hs hk, mid_get, mid_set]
theorem mput_sum (z : List UInt8) (hz : z.length = 32) : put1 (wcs (L ++ x :: R)).toArray (L.length * 36 + 3) (bvs z) = (wcs (L ++ ⟨{ x.p with x := { x.p.x with sum := z } }, x.lsn⟩ :: R)).toArray := by
 have hk : L.length < (L ++ x :: R).length := by simp
 rw [wput_sum hs hk z hz, mid_get, mid_set]
theorem mput_lsn (n : Nat) : put1 (wcs (L ++ x :: R)).toArray (L.length * 36 + 35) [.int .u64 (n : Int)] = (wcs (L ++ ⟨x.p, n⟩ :: R)).toArray := by
 have hk : L.length < (L ++ x :: R).length := by simp
 rw [wput_lsn hs hk, mid_get, mid_set]
theorem mid_size : (wcs (L ++ x :: R)).toArray.size = (L.length + 1 + R.length) * 36 := by
 rw [List.size_toArray, wcs_len hs]; simp; omega
theorem mid_count : (wcs (L ++ x :: R)).toArray[L.length * 36 + 2]? = some (.int .i64 x.p.x.count) := by
 have hk : L.length < (L ++ x :: R).length := by simp
 rw [List.getElem?_toArray, wcs, flat_at _ 36 _ (fun s h => WsV.cl_len (hs s h)) _ hk 2 (by omega), mid_get]
 rfl
end
theorem Rn.val_bounds (d : List UInt8) (n0 : Int) (h : 0 ≤ n0 ∧ n0 ≤ 2147483647) : 0 ≤ Rn.val d n0 ∧ Rn.val d n0 ≤ 2147483647 := by
 unfold Rn.val
 split
 ·
  next e => simp only [Rn.ok, Bool.and_eq_true, decide_eq_true_eq] at e; omega
 ·
  exact h
theorem SubR.is {w : World} {S T : Nat → Prop} {r n : Nat} {l : List Ws} (h : SubR w S r n n l) (hT : ∀ i, T i → S i) (hr : ¬ T r) : IsSu T l w [.slice (some ⟨r, 0, none⟩) n n] := by
 obtain ⟨L, h1, h2, h3, h4, h5⟩ := h
 rw [Nat.sub_self, List.replicate_zero, List.append_nil] at h5
 refine ⟨some ⟨r, 0, none⟩, n, L, by rw [h1], fun w2 t => ⟨Rd.row (t.row h5 hr) (wcs_len fun s hs => (h4 s hs).sum), fun s hs => ((h4 s hs).trn t hT).inn⟩, by omega, h3⟩
set_option maxRecDepth 100000 in
set_option maxHeartbeats 2000000 in
theorem subs_read (S : Nat → Prop) (g : Nat) (d : List UInt8) (bad : Bool) (b off : Nat) (cur : Array Value) (t : TypeId) (w : World) (h : Rdr w S g d bad) (hb : w.heap[b]? = some (.cells cur t (0, 0))) (hne : b ≠ g) (hSb : S b) (hcur : cur[off]? = some (.slice none 0 0)) :
  Calls Tryz.prog 71 #[.pointer (some ⟨g, 0, none⟩), .pointer (some ⟨b, off, none⟩)] w (ReadTo S g b off cur t (IsSu S (Rs.all d bad).1) (Rs.all d bad).2.1 (Rs.all d bad).2.2 w) := by
 have hbl := lt_of_heap hb
 have hgl : g < w.heap.size := by obtain ⟨A, c, h⟩ := h; exact lt_of_heap h.row
 have hSl : ∀ i, S i → i < w.heap.size := by obtain ⟨A, c, h⟩ := h; exact h.lt
 have hSg : S g := by obtain ⟨A, c, h⟩ := h; exact h.mem
 have hfit : off + 1 ≤ cur.size := (Array.getElem?_eq_some_iff.1 hcur).1
 have hp : w.cell? ⟨b, off, none⟩ = some (.slice none 0 0) := by rw [cell_of_row _ _ _ _ _ _ hb]; exact hcur
 have hx1 := Ext.alloc w (.cells #[.int .i64 0] 3)
 have hg1 := heap_alloc_new w (.cells #[.int .i64 0] 3)
 obtain ⟨S1, hS1⟩ : ∃ S1 : Nat → Prop, S1 = fun i => S i ∨ i = w.heap.size := ⟨_, rfl⟩
 have hR1 : Rdr (w.alloc (.cells #[.int .i64 0] 3)) S1 g d bad := h.more hx1 (by rw [hS1]; intro i hi; rcases hi with hi | hi; exact .inl hi; exact .inr ⟨by omega, by rw [World.size_alloc]; omega⟩) (by rw [hS1]; exact .inl hSg)
 have hN : Calls Tryz.prog 68 #[.pointer (some ⟨g, 0, none⟩), .pointer (some ⟨w.heap.size, 0, none⟩)] (w.alloc (.cells #[.int .i64 0] 3)) (fun e w2 => e = .returned (.tuple #[]) ∧ Rdr w2 S g (Rn.rest d) (bad || !Rn.ok d) ∧ w2.cell? ⟨w.heap.size, 0, none⟩ = some (.int .i64 (Rn.val d 0)) ∧ w2.heap[b]? = some (.cells cur t (0, 0)) ∧ Trn (fun i => Two g b i ∨ w.heap.size ≤ i) w w2) := by
  obtain ⟨A, c, hA⟩ := hR1
  refine (number_read S1 g A c d bad w.heap.size 0 _ _ _ hA hg1 (by omega) (by rw [hS1]; exact .inr rfl) 0 rfl).mono ?_
  rintro e w2 ⟨rfl, ht, hR, cs, hr, hcs⟩
  subst hcs
  refine ⟨rfl, hR.less (fun i hi => by rw [hS1]; exact .inl hi) hSg, ?_, ?_, (Trn.ext hx1).tr (ht.mono (fun i hi _ => hi.elim (fun e => .inl (.inl e)) (fun e => .inr (by omega))))⟩
  ·
   rw [cell_of_row _ _ _ _ _ _ hr]; rfl
  ·
   exact ht.row ((hx1.block _ hbl).trans hb) (fun e => e.elim (fun e => hne e) (fun e => by omega))
 obtain ⟨m, hm⟩ : ∃ m, m = (Vint.get d).1 := ⟨_, rfl⟩
 have HN := Lib.hid hN
 have Hcur := Lib.hid hcur
 obtain ⟨RA, hRA⟩ : ∃ RA, RA = Rs.all d bad := ⟨_, rfl⟩
 rw [← hRA]
 have HRA := Lib.hid hRA
 clear hN hR1 hx1 hg1 h hb hS1 hcur hRA
 go_enter Tryz.func71, Tryz.ntmps71
 go_wp2_with (go_at_call 68; refine HN.out.mono ?_; rintro e1 w2 ⟨rfl, hR2, hn2, hb2, ht2⟩; refine Hid.out ?_)
 clear HN hp
 by_cases hcond : (bad || !Rn.ok d || decide (60 < (Vint.get d).1)) = true
 ·
  have hall : RA = ([], Rn.rest d, true) := by rw [HRA.out]; unfold Rs.all; rw [if_pos hcond]
  have HALL := Lib.hid hall
  clear HRA
  have hv : Rn.ok d = true → Rn.val d 0 = (m : Int) := fun e => by unfold Rn.val; rw [if_pos e, hm]
  rw [← hm] at hcond
  clear hall hm
  obtain ⟨A2, c2, hA2⟩ := hR2
  have h2 := hA2.cell2
  have h3 := hA2.cell3
  have hrow := hA2.row
  have K1 := Lib.hid (hA2.set A2 c2 (Rn.rest d) true hA2.tx hA2.len)
  have K2 := Lib.hid (set_keeps (cs := #[.slice none 0 0, .slice A2 (Rn.rest d).length c2, .bool true, .bool true]) hb2 hne)
  have K3 := Lib.hid ((ht2.tr (Trn.set (S := fun i => Two g b i ∨ w.heap.size ≤ i) w2 g #[.slice none 0 0, .slice A2 (Rn.rest d).length c2, .bool true, .bool true] (.inl (.inl rfl)))).mono (T := Two g b) (fun i hi hl => hi.elim id (fun e => by omega)))
  have hst : ∀ (u : Bool), u = true → True := fun _ _ => trivial
  generalize Rn.rest d = rr at *
  generalize Rn.val d 0 = vv at *
  generalize Rn.ok d = ok at *
  clear hA2 hb2 ht2
  cases hbad : (bad || !ok) with
  | true =>
   rw [hbad] at h3 hrow
   refine Lib.hid ?_
   go_wp2_with (refine wpList_put1 rfl 4 (.tmp 27) (.const (.bool true)) rfl ⟨g, 3, none⟩ rfl g 3 rfl (.bool true) rfl [.bool true] rfl _ _ hrow (by kernel_rfl) (by simp) (by simp [Value.oneCell']) #[.slice none 0 0, .slice A2 rr.length c2, .bool true, .bool true] rfl ?_)
   (try simp only [Exit.inBlock, Exit.then])
   first | refine bodyPost_ret (results_none rfl _ _ _) rfl ?_ | refine bodyPost_end (results_none rfl _ _ _) rfl ?_
   rw [HALL.out]
   exact ⟨rfl, K3.out, ⟨_, _, K1.out⟩, _, by rw [show put1 cur off [Value.slice none ([] : List WsV).length 0] = cur from put1_same Hcur.out]; exact K2.out, none, 0, [], rfl, fun _ _ => RdW.nil_ _ _, Nat.le_refl _, rfl⟩
  | false =>
   rw [hbad] at h3 hrow hcond
   have hok : ok = true := by cases ok <;> simp_all
   rw [hv hok] at hn2
   have hm60 : 60 < m := by simpa using hcond
   have hm61 : (60 : Int) < (m : Int) := by omega
   clear hcond
   refine Lib.hid ?_
   go_wp2_with (refine wpList_put1 rfl 4 (.tmp 27) (.const (.bool true)) rfl ⟨g, 3, none⟩ rfl g 3 rfl (.bool true) rfl [.bool true] rfl _ _ hrow (by kernel_rfl) (by simp) (by simp [Value.oneCell']) #[.slice none 0 0, .slice A2 rr.length c2, .bool true, .bool true] rfl ?_)
   (try simp only [Exit.inBlock, Exit.then])
   first | refine bodyPost_ret (results_none rfl _ _ _) rfl ?_ | refine bodyPost_end (results_none rfl _ _ _) rfl ?_
   rw [HALL.out]
   exact ⟨rfl, K3.out, ⟨_, _, K1.out⟩, _, by rw [show put1 cur off [Value.slice none ([] : List WsV).length 0] = cur from put1_same Hcur.out]; exact K2.out, none, 0, [], rfl, fun _ _ => RdW.nil_ _ _, Nat.le_refl _, rfl⟩
 ·
  have hall : RA = Rs.run m (Rn.rest d) false := by rw [HRA.out]; unfold Rs.all; rw [if_neg hcond, hm]
  have HALL := Lib.hid hall
  clear HRA
  simp only [Bool.or_eq_true, Bool.not_eq_true', decide_eq_true_eq, not_or, Bool.not_eq_true, Bool.not_eq_false, Nat.not_lt] at hcond
  obtain ⟨⟨rfl, hok⟩, hm60⟩ := hcond
  rw [← hm] at hm60
  have hv : Rn.val d 0 = (m : Int) := by unfold Rn.val; rw [if_pos hok, hm]
  rw [hv] at hn2
  rw [hok] at hR2
  have hm61 : ¬ (60 : Int) < (m : Int) := by omega
  clear hall hm hok hv
  generalize Rn.rest d = rr at *
  obtain ⟨S2, hS2⟩ : ∃ S2 : Nat → Prop, S2 = fun i => S i ∨ i = w2.heap.size := ⟨_, rfl⟩
  have hsz2 := ht2.size
  have hS2r : S2 w2.heap.size := by rw [hS2]; exact .inr rfl
  have hS2g : S2 g := by rw [hS2]; exact .inl hSg
  have hS2S : ∀ i, S i → S2 i := by rw [hS2]; exact fun i hi => .inl hi
  have hxa := Ext.alloc w2 (.cells (wcs (List.replicate m wsz)).toArray 38)
  have hga := heap_alloc_new w2 (.cells (wcs (List.replicate m wsz)).toArray 38)
  have hba := (hxa.block _ (lt_of_heap hb2)).trans hb2
  have hRa : Rdr (w2.alloc (.cells (wcs (List.replicate m wsz)).toArray 38)) S2 g rr false := hR2.more hxa (by rw [hS2]; intro i hi; rcases hi with hi | hi; exact .inl hi; exact .inr ⟨by omega, by rw [World.size_alloc]; omega⟩) (by rw [hS2]; exact .inl hSg)
  have htb : Trn (fun i => i = b) _ ((w2.alloc (.cells (wcs (List.replicate m wsz)).toArray 38)).setRow b (put1 cur off [.slice (some ⟨w2.heap.size, 0, none⟩) m m])) := Trn.set _ _ _ rfl
  have hRb := hRa.trn htb (by rintro i rfl; rw [hS2]; exact .inl hSb) (fun e => hne e.symm)
  have hgb := set_keeps (cs := put1 cur off [.slice (some ⟨w2.heap.size, 0, none⟩) m m]) hga (by omega : w2.heap.size ≠ b)
  have hbb := setRow_heap _ b _ (put1 cur off [.slice (some ⟨w2.heap.size, 0, none⟩) m m]) _ _ hba
  have htw : Trn (fun i => Two g b i ∨ w.heap.size ≤ i) w ((w2.alloc (.cells (wcs (List.replicate m wsz)).toArray 38)).setRow b (put1 cur off [.slice (some ⟨w2.heap.size, 0, none⟩) m m])) := (ht2.tr (Trn.ext hxa)).tr (htb.mono (fun i hi _ => .inl (.inr hi)))
  have hS0 : SubR ((w2.alloc (.cells (wcs (List.replicate m wsz)).toArray 38)).setRow b (put1 cur off [.slice (some ⟨w2.heap.size, 0, none⟩) m m])) S2 w2.heap.size m 0 [] := ⟨[], rfl, by omega, rfl, by simp, by simpa using hgb⟩
  have h2 : w2.cell? ⟨g, 2, none⟩ = some (.bool true) := by obtain ⟨A, c, h⟩ := hR2; exact h.cell2
  have h3 : w2.cell? ⟨g, 3, none⟩ = some (.bool false) := by obtain ⟨A, c, h⟩ := hR2; exact h.cell3
  have HRb := Lib.hid hRb
  have Hbb := Lib.hid hbb
  have Htw := Lib.hid htw
  have HS0 := Lib.hid hS0
  clear hRb hbb htw hS0 hgb htb hRa hga hxa hR2 hb2 ht2
  refine Lib.hid ?_
  go_wp2_with (first | (refine wpList_mkS rfl (.tmp 29) (.tmp 29) 27 rfl elemW (.agg wsz.cells) (by kernel_rfl) m .i64 .i64 rfl rfl (by omega) (by omega) (wcs (List.replicate m wsz)).toArray (madeW m) ?_) | (refine wpList_put1 rfl 27 (.tmp 31) (.tmp 30) rfl ⟨b, off, none⟩ rfl b off rfl _ rfl [.slice (some ⟨w2.heap.size, 0, none⟩) m m] rfl _ _ hba (by kernel_rfl) (by simpa using hfit) (by simp [Value.oneCell']) _ rfl ?_; refine Hid.out ?_))
  obtain ⟨W3, hW3⟩ : ∃ W3, W3 = (w2.alloc (.cells (wcs (List.replicate m wsz)).toArray 38)).setRow b (put1 cur off [.slice (some ⟨w2.heap.size, 0, none⟩) m m]) := ⟨_, rfl⟩
  rw [← hW3] at HRb Hbb Htw HS0 ⊢
  clear hW3 hba h2 h3
  have hpc : W3.cell? ⟨b, off, none⟩ = some (.slice (some ⟨w2.heap.size, 0, none⟩) m m) := by rw [cell_of_row _ _ _ _ _ _ Hbb.out, put1_get (by simpa using hfit)]; simp
  refine Lib.hid ?_
  go_wp2_with fail
  go_loopw [36] (fun i wr => ∃ (k : Nat) (l : List Ws) (dd : List UInt8) (bb : Bool), k ≤ m ∧ i = .int .i64 k ∧ Rs.run k rr false = (l, dd, bb) ∧ Rdr wr S2 g dd bb ∧ SubR wr S2 w2.heap.size m k l ∧ wr.heap[b]? = some (.cells (put1 cur off [.slice (some ⟨w2.heap.size, 0, none⟩) m m]) t (0, 0)) ∧ Trn (fun i => Two g b i ∨ w.heap.size ≤ i) w wr) (fun i _ => m - (intOf i).toNat)
  case atStart => exact ⟨0, [], rr, false, by omega, rfl, rfl, HRb.out, HS0.out, Hbb.out, Htw.out⟩
  case round =>
   obtain ⟨k, l, d2, b2, hk1, rfl, hrun, hR2, hS, hbr, hT⟩ := hrel
   by_cases h : k < m
   ·
    obtain ⟨L, hL1, hL2, hL3, hL4, hL5⟩ := hS
    obtain ⟨q, hq⟩ : ∃ q, m - k = q + 1 := ⟨m - k - 1, by omega⟩
    rw [hq, List.replicate_succ] at hL5
    have hq2 : m - (k + 1) = q := by omega
    have ik : (k : Int) < (m : Int) := by omega
    have hpc : wr.cell? ⟨b, off, none⟩ = some (.slice (some ⟨w2.heap.size, 0, none⟩) m m) := by rw [cell_of_row _ _ _ _ _ _ hbr, put1_get (by simpa using hfit)]; simp
    subst hL1
    have hrg : w2.heap.size ≠ g := by omega
    have hrb : w2.heap.size ≠ b := by omega
    have hm0 := mid_sums hL4 wsz_sum q
    have HBR := Lib.hid hbr
    have HRUN := Lib.hid hrun
    clear hbr hrun
    obtain ⟨A2, c2, hA2⟩ := hR2
    have hC := text_read S2 g A2 c2 d2 b2 w2.heap.size (L.length * 36 + 0) _ _ wr hA2 hL5 hrg hS2r (by rw [mid_size hm0]; omega)
    have HC := Lib.hid hC
    clear hC
    go_wp2_with (go_at_call 67; refine HC.out.mono ?_; rintro e3 v3 ⟨rfl, ht3, hR3, cs3, hr3, hP3⟩; refine Hid.out ?_)
    obtain ⟨A3, c3, rfl, hx3⟩ := hP3
    rw [mput_lo hm0] at hr3
    have hm3 := mid_sums hL4 (x := ⟨⟨A3, c3, none, 0, ⟨Rt.val d2, [], 0, List.replicate 32 0⟩⟩, 0⟩) wsz_sum q
    have hT3 : Trn (Two g w2.heap.size) wr v3 := ht3
    have hpc : v3.cell? ⟨b, off, none⟩ = some (.slice (some ⟨w2.heap.size, 0, none⟩) m m) := by rw [cell_of_row _ _ _ _ _ _ (hT3.row HBR.out (fun e => e.elim hne (fun e => hrb e.symm))), put1_get (by simpa using hfit)]; simp
    obtain ⟨d3, hd3⟩ : ∃ d3, d3 = Rt.rest d2 := ⟨_, rfl⟩
    obtain ⟨b3, hb3⟩ : ∃ b3, b3 = (b2 || Rt.bad d2) := ⟨_, rfl⟩
    have hR3 : Rdr v3 S2 g d3 b3 := by rw [hd3, hb3]; exact hR3
    have HD3 := Lib.hid hd3
    have HBB3 := Lib.hid hb3
    clear hd3 hb3 HC hA2
    obtain ⟨A3b, c3b, hA3⟩ := hR3
    have hC := text_read S2 g A3b c3b d3 b3 w2.heap.size (L.length * 36 + 1) _ _ v3 hA3 (show v3.heap[w2.heap.size]? = some (.cells (wcs (L ++ (⟨⟨A3, c3, none, 0, ⟨Rt.val d2, [], 0, List.replicate 32 0⟩⟩, 0⟩ : WsV) :: List.replicate q wsz)).toArray 38 (0, 0)) from hr3) hrg hS2r (by rw [mid_size hm3]; omega)
    have HC := Lib.hid hC
    clear hC
    refine Lib.hid ?_
    go_wp2_with (go_at_call 67; refine HC.out.mono ?_; rintro e4 v4 ⟨rfl, ht4, hR4, cs4, hr4, hP4⟩; refine Hid.out ?_)
    obtain ⟨A4, c4, rfl, hx4⟩ := hP4
    rw [mput_hi hm3] at hr4
    have hm4 := mid_sums hL4 (x := ⟨⟨A3, c3, A4, c4, ⟨Rt.val d2, Rt.val d3, 0, List.replicate 32 0⟩⟩, 0⟩) wsz_sum q
    have hT4 : Trn (Two g w2.heap.size) wr v4 := hT3.tr ht4
    have hpc : v4.cell? ⟨b, off, none⟩ = some (.slice (some ⟨w2.heap.size, 0, none⟩) m m) := by rw [cell_of_row _ _ _ _ _ _ (hT4.row HBR.out (fun e => e.elim hne (fun e => hrb e.symm))), put1_get (by simpa using hfit)]; simp
    obtain ⟨d4, hd4⟩ : ∃ d4, d4 = Rt.rest d3 := ⟨_, rfl⟩
    obtain ⟨b4, hb4⟩ : ∃ b4, b4 = (b3 || Rt.bad d3) := ⟨_, rfl⟩
    have hR4 : Rdr v4 S2 g d4 b4 := by rw [hd4, hb4]; exact hR4
    have HD4 := Lib.hid hd4
    have HBB4 := Lib.hid hb4
    clear hd4 hb4 HC hA3
    obtain ⟨A4b, c4b, hA4⟩ := hR4
    have hC := wide_read S2 g A4b c4b d4 b4 w2.heap.size (L.length * 36 + 35) _ _ v4 hA4 (show v4.heap[w2.heap.size]? = some (.cells (wcs (L ++ (⟨⟨A3, c3, A4, c4, ⟨Rt.val d2, Rt.val d3, 0, List.replicate 32 0⟩⟩, 0⟩ : WsV) :: List.replicate q wsz)).toArray 38 (0, 0)) from hr4) hrg hS2r (by rw [mid_size hm4]; omega)
    have HC := Lib.hid hC
    clear hC
    refine Lib.hid ?_
    go_wp2_with (go_at_call 69; refine HC.out.mono ?_; rintro e5 v5 ⟨rfl, ht5, hR5, cs5, hr5, hP5⟩; refine Hid.out ?_)
    subst hP5
    rw [mput_lsn hm4] at hr5
    have hm5 := mid_sums hL4 (x := ⟨⟨A3, c3, A4, c4, ⟨Rt.val d2, Rt.val d3, 0, List.replicate 32 0⟩⟩, Vint.number (Rc.val 8 d4)⟩) wsz_sum q
    have hT5 : Trn (Two g w2.heap.size) wr v5 := hT4.tr ht5
    have hpc : v5.cell? ⟨b, off, none⟩ = some (.slice (some ⟨w2.heap.size, 0, none⟩) m m) := by rw [cell_of_row _ _ _ _ _ _ (hT5.row HBR.out (fun e => e.elim hne (fun e => hrb e.symm))), put1_get (by simpa using hfit)]; simp
    obtain ⟨d5, hd5⟩ : ∃ d5, d5 = Rc.rest 8 d4 := ⟨_, rfl⟩
    obtain ⟨b5, hb5⟩ : ∃ b5, b5 = (b4 || decide (d4.length < 8)) := ⟨_, rfl⟩
    have hR5 : Rdr v5 S2 g d5 b5 := by rw [hd5, hb5]; exact hR5
    have HD5 := Lib.hid hd5
    have HBB5 := Lib.hid hb5
    clear hd5 hb5 HC hA4
    obtain ⟨A5b, c5b, hA5⟩ := hR5
    have hC := number_read S2 g A5b c5b d5 b5 w2.heap.size (L.length * 36 + 2) _ _ v5 hA5 (show v5.heap[w2.heap.size]? = some (.cells (wcs (L ++ (⟨⟨A3, c3, A4, c4, ⟨Rt.val d2, Rt.val d3, 0, List.replicate 32 0⟩⟩, Vint.number (Rc.val 8 d4)⟩ : WsV) :: List.replicate q wsz)).toArray 38 (0, 0)) from hr5) hrg hS2r 0 (mid_count hm5)
    have HC := Lib.hid hC
    clear hC
    refine Lib.hid ?_
    go_wp2_with (go_at_call 68; refine HC.out.mono ?_; rintro e6 v6 ⟨rfl, ht6, hR6, cs6, hr6, hP6⟩; refine Hid.out ?_)
    subst hP6
    rw [mput_count hm5] at hr6
    have hm6 := mid_sums hL4 (x := ⟨⟨A3, c3, A4, c4, ⟨Rt.val d2, Rt.val d3, Rn.val d5 0, List.replicate 32 0⟩⟩, Vint.number (Rc.val 8 d4)⟩) wsz_sum q
    have hT6 : Trn (Two g w2.heap.size) wr v6 := hT5.tr ht6
    have hpc : v6.cell? ⟨b, off, none⟩ = some (.slice (some ⟨w2.heap.size, 0, none⟩) m m) := by rw [cell_of_row _ _ _ _ _ _ (hT6.row HBR.out (fun e => e.elim hne (fun e => hrb e.symm))), put1_get (by simpa using hfit)]; simp
    obtain ⟨d6, hd6⟩ : ∃ d6, d6 = Rn.rest d5 := ⟨_, rfl⟩
    obtain ⟨b6, hb6⟩ : ∃ b6, b6 = (b5 || !Rn.ok d5) := ⟨_, rfl⟩
    have hR6 : Rdr v6 S2 g d6 b6 := by rw [hd6, hb6]; exact hR6
    have HD6 := Lib.hid hd6
    have HBB6 := Lib.hid hb6
    clear hd6 hb6 HC hA5
    obtain ⟨A6b, c6b, hA6⟩ := hR6
    have hC := sum_read S2 g A6b c6b d6 b6 w2.heap.size (L.length * 36 + 3) _ _ v6 hA6 (show v6.heap[w2.heap.size]? = some (.cells (wcs (L ++ (⟨⟨A3, c3, A4, c4, ⟨Rt.val d2, Rt.val d3, Rn.val d5 0, List.replicate 32 0⟩⟩, Vint.number (Rc.val 8 d4)⟩ : WsV) :: List.replicate q wsz)).toArray 38 (0, 0)) from hr6) hrg hS2r (by rw [mid_size hm6]; omega)
    have HC := Lib.hid hC
    clear hC
    refine Lib.hid ?_
    go_wp2_with (go_at_call 70; refine HC.out.mono ?_; rintro e7 v7 ⟨rfl, ht7, hR7, cs7, hr7, hP7⟩; refine Hid.out ?_)
    subst hP7
    rw [mput_sum hm6 _ (Rc.len 32 _)] at hr7
    have hm7 := mid_sums hL4 (x := ⟨⟨A3, c3, A4, c4, ⟨Rt.val d2, Rt.val d3, Rn.val d5 0, Rc.val 32 d6⟩⟩, Vint.number (Rc.val 8 d4)⟩) (Rc.len 32 _) q
    have hT7 : Trn (Two g w2.heap.size) wr v7 := hT6.tr ht7
    have hpc : v7.cell? ⟨b, off, none⟩ = some (.slice (some ⟨w2.heap.size, 0, none⟩) m m) := by rw [cell_of_row _ _ _ _ _ _ (hT7.row HBR.out (fun e => e.elim hne (fun e => hrb e.symm))), put1_get (by simpa using hfit)]; simp
    obtain ⟨d7, hd7⟩ : ∃ d7, d7 = Rc.rest 32 d6 := ⟨_, rfl⟩
    obtain ⟨b7, hb7⟩ : ∃ b7, b7 = (b6 || decide (d6.length < 32)) := ⟨_, rfl⟩
    have hR7 : Rdr v7 S2 g d7 b7 := by rw [hd7, hb7]; exact hR7
    have HD7 := Lib.hid hd7
    have HBB7 := Lib.hid hb7
    clear hd7 hb7 HC hA6
    have hone : Rs.one d2 b2 = (WsV.x (⟨⟨A3, c3, A4, c4, ⟨Rt.val d2, Rt.val d3, Rn.val d5 0, Rc.val 32 d6⟩⟩, Vint.number (Rc.val 8 d4)⟩ : WsV), d7, b7) := by
     rw [HD7.out, HBB7.out, HBB6.out, HBB5.out, HBB4.out, HBB3.out, HD6.out, HD5.out, HD4.out, HD3.out]
     rfl
    have hrun' : Rs.run (L.length + 1) rr false = (l ++ [WsV.x (⟨⟨A3, c3, A4, c4, ⟨Rt.val d2, Rt.val d3, Rn.val d5 0, Rc.val 32 d6⟩⟩, Vint.number (Rc.val 8 d4)⟩ : WsV)], d7, b7) := by
     show ((Rs.run L.length rr false).1 ++ [(Rs.one (Rs.run L.length rr false).2.1 (Rs.run L.length rr false).2.2).1], _, _) = _
     rw [HRUN.out, hone]
    have hr7' := (show v7.heap[w2.heap.size]? = some (.cells (wcs (L ++ (⟨⟨A3, c3, A4, c4, ⟨Rt.val d2, Rt.val d3, Rn.val d5 0, Rc.val 32 d6⟩⟩, Vint.number (Rc.val 8 d4)⟩ : WsV) :: List.replicate q wsz)).toArray 38 (0, 0)) from hr7)
    have hsub := Two.sub hS2g hS2r
    have hS7 : SubR v7 S2 w2.heap.size m (L.length + 1) (l ++ [WsV.x (⟨⟨A3, c3, A4, c4, ⟨Rt.val d2, Rt.val d3, Rn.val d5 0, Rc.val 32 d6⟩⟩, Vint.number (Rc.val 8 d4)⟩ : WsV)]) := by
     refine ⟨L ++ [⟨⟨A3, c3, A4, c4, ⟨Rt.val d2, Rt.val d3, Rn.val d5 0, Rc.val 32 d6⟩⟩, Vint.number (Rc.val 8 d4)⟩], by simp, by omega, by rw [List.map_append, hL3]; rfl, ?_, by rw [hq2, List.append_assoc]; exact hr7'⟩
     intro s hs
     rcases List.mem_append.1 hs with hs | hs
     ·
      exact (hL4 s hs).trn hT7 hsub
     ·
      rw [List.mem_singleton] at hs
      subst hs
      have hb0 := Rn.val_bounds d5 0 (by omega)
      exact ⟨hx3.trn (((ht4.tr ht5).tr ht6).tr ht7) hsub, hx4.trn ((ht5.tr ht6).tr ht7) hsub, Rc.len 32 _, hb0.1, hb0.2, Vint.number_lt _⟩
    have hbr' := hT7.row HBR.out (fun e => e.elim hne (fun e => hrb e.symm))
    have hTT : Trn (fun i => Two g b i ∨ w.heap.size ≤ i) w v7 := hT.tr (hT7.mono (fun i hi _ => hi.elim (fun e => .inl (.inl e)) (fun e => .inr (by omega))))
    have H1 := Lib.hid hrun'
    have H2 := Lib.hid hS7
    have H3 := Lib.hid hbr'
    have H4 := Lib.hid hTT
    have H5 := Lib.hid hR7
    generalize l ++ [WsV.x (⟨⟨A3, c3, A4, c4, ⟨Rt.val d2, Rt.val d3, Rn.val d5 0, Rc.val 32 d6⟩⟩, Vint.number (Rc.val 8 d4)⟩ : WsV)] = l' at H1 H2
    clear hone hrun' hr7 hr7' hS7 hbr' hTT hm3 hm4 hm5 hm6 hm7 hr3 hr4 hr5 hr6 hx3 hx4 hR7 ht3 ht4 ht5 ht6 ht7 hT3 hT4 hT5 hT6 hT7 hL4 hm0
    refine Lib.hid ?_
    go_wp2_with fail
    go_roundw
    case rel => exact ⟨L.length + 1, l', d7, b7, by omega, by go_num, H1.out, H5.out, H2.out, H3.out, H4.out⟩
    case measure => simp [intOf]; omega
   ·
    obtain rfl : k = m := by omega
    have hnlt : ¬ (k : Int) < (k : Int) := by omega
    have hfin : ReadTo S g b off cur t (IsSu S RA.1) RA.2.1 RA.2.2 w (.returned (.tuple #[])) wr := by
     rw [HALL.out, hrun]
     exact ⟨rfl, hT.mono (fun i hi hl => hi.elim id (fun e => by omega)), hR2.less hS2S hSg, _, hbr, hS.is hS2S (fun e => by have := hSl _ e; omega)⟩
    have HF := Lib.hid hfin
    clear hrun hR2 hS hbr hT hfin
    go_wp2_with fail
    (try simp only [Exit.inBlock, Exit.then])
    first | refine bodyPost_ret (results_none rfl _ _ _) rfl ?_ | refine bodyPost_end (results_none rfl _ _ _) rfl ?_
    exact HF.out
end Go.Proofs.YtjholekgdnhpkaaGreatDoor
namespace Go.Proofs.YtjholekgdnhpkaaGreatDoor
open Go.RowKit
attribute [local go_sem] Oper.semAt_some
theorem ex_buildOneW {P : Program} {w : World} {o : Oper} {a : Act} (t : TypeId) (x : Operand) (ho : o.op = .buildSlice t 1 #[(0, x)])
  {e : TypeId} {size bytes : Nat} (T : ElemT P t e size bytes) (cs : Array Value) (hx : a.eval x = .agg cs) (hs : cs.size = size) (hsm : size ≤ 1000) :
  (execOp a.eval o).run P w = .ok (.value (.slice (some ⟨w.heap.size, 0, none⟩) 1 1)) (w.alloc (.cells cs e)) := by
 obtain ⟨i, z, g1, g2, g3, g4, g5⟩ := T.hi
 have hpos := T.pos
 subst g3
 have hf : Instr.fill (fun j => some (j * i.size, i.size)) ((Array.range (1 * i.size)).map (z.cells[· % z.cells.size]!)) (#[(0, x)].map fun (y : Nat × Operand) => (y.1, a.eval y.2)).toList = some cs := by
  have e1 : (#[(0, x)].map fun (y : Nat × Operand) => (y.1, a.eval y.2)).toList = [(0, Value.agg cs)] := by simp [hx]
  exact (congrArg _ e1).trans (fill_one i.size _ cs hs (by simp))
 have hr := run_buildSlice (P := P) w t e 1 _ cs i z T.ht g1 g2 (by omega) (by omega) hf
 unfold execOp
 simp only [ho, Sem.run_bind]
 rw [hr]
 rfl
def Wg.z (n : Nat) : Wg := ⟨n, List.replicate 32 0⟩
theorem ex_buildSig {w : World} {o : Oper} {a : Act} (x : Operand) (ho : o.op = .build 65 #[(0, x)]) (n : Nat) (hx : a.eval x = .int .u32 (n : Int)) :
  (execOp a.eval o).run Tryz.prog w = .ok (.value (.agg (Wg.z n).cells)) w := by
 unfold execOp
 simp only [ho]
 rw [show (Array.map (fun (y : Nat × Operand) => (y.1, a.eval y.2)) #[(0, x)]) = #[(0, Value.int .u32 (n : Int))] by simp [hx]]
 kernel_rfl
def Rg.one (d : List UInt8) (bad : Bool) : Wg × List UInt8 × Bool :=
 let d1 := Rc.rest 4 d; let b1 := bad || decide (d.length < 4)
 (⟨Vint.number (Rc.val 4 d), Rc.val 32 d1⟩, Rc.rest 32 d1, b1 || decide (d1.length < 32))
def Rg.run : Nat → List UInt8 → Bool → List Wg × List UInt8 × Bool
 | 0, d, bad => ([], d, bad)
 | f + 1, d, bad => if 0 < d.length ∧ bad = false then
   let s := Rg.one d bad; let r := Rg.run f s.2.1 s.2.2; (s.1 :: r.1, r.2)
  else ([], d, bad)
def Rg.all (d : List UInt8) (bad : Bool) : List Wg × List UInt8 × Bool := Rg.run (d.length + 1) d bad
theorem Rg.run_end (f : Nat) (d : List UInt8) (bad : Bool) (h : ¬ (0 < d.length ∧ bad = false)) : Rg.run f d bad = ([], d, bad) := by
 cases f with
 | zero => rfl
 | succ f => unfold Rg.run; rw [if_neg h]
theorem Rg.one_less (d : List UInt8) (_h : 0 < d.length) : (Rg.one d false).2.2 = true ∨ (Rg.one d false).2.1.length < d.length := by
 simp only [Rg.one, Bool.false_or]
 by_cases h4 : d.length < 4
 ·
  left; simp [h4]
 ·
  right
  have e1 : Rc.rest 4 d = d.drop 4 := if_neg h4
  rw [e1]
  unfold Rc.rest
  split
  ·
   rw [List.length_drop]; omega
  ·
   rw [List.length_drop, List.length_drop]; omega
theorem number4W (x : List UInt8) (h : x.length = 4) : Vint.number x < 4294967296 := by
 unfold Vint.number
 rw [if_pos (by omega)]
 have := Vint.numL_lt x
 rw [h] at this
 exact this
theorem Rg.one_cut (d : List UInt8) (h : (Rg.one d false).2.2 = false) : (Rg.one d false).2.1.length + 36 = d.length := by
 simp only [Rg.one, Bool.false_or, Bool.or_eq_false_iff, decide_eq_false_iff_not] at h ⊢
 have e1 : Rc.rest 4 d = d.drop 4 := if_neg h.1
 rw [e1] at h ⊢
 have e2 : Rc.rest 32 (d.drop 4) = (d.drop 4).drop 32 := if_neg h.2
 rw [e2, List.length_drop, List.length_drop]
 have := h.2
 rw [List.length_drop] at this
 omega
theorem Trn.grownO {S : Nat → Prop} {a b : World} {o : Option Nat} (h : a.grownBy b o) (hk : ∀ k, o = some k → S k) : Trn S a b := ⟨h.os, h.tape, h.output, h.size, fun i hi hn => h.block i hi (fun e => hn (hk _ e.symm))⟩
theorem Rdr.grown {a b : World} {S T : Nat → Prop} {g : Nat} {d : List UInt8} {bad : Bool} {o : Option Nat} (h : Rdr a S g d bad) (hg : a.grownBy b o) (ho : ∀ k, o = some k → S k ∧ k ≠ g) (hT : ∀ i, T i → S i ∨ (a.heap.size ≤ i ∧ i < b.heap.size)) (hTg : T g) : Rdr b T g d bad := by
 obtain ⟨A, c, h⟩ := h
 have t : Trn (fun i => o = some i) a b := Trn.grownO hg (fun _ e => e)
 have h1 : Tx a (fun i => S i ∨ T i) A c d := h.tx.more (fun i hi => hi.elim .inl (fun e => (hT i e).imp id (·.1)))
 have h2 := h1.trn t (fun i hi => .inl (ho i hi).1)
 exact ⟨A, c, t.row h.row (fun e => (ho _ e).2 rfl), h2.more (fun i hi => .inl (.inr hi)), hTg, fun i hi => (hT i hi).elim (fun e => Nat.lt_of_lt_of_le (h.lt i e) hg.size) (·.2), h.len⟩
def Rg.meas (g : Nat) (w : World) : Nat := match w.cell? ⟨g, 1, none⟩, w.cell? ⟨g, 3, none⟩ with
 | some (.slice _ n _), some (.bool false) => n + 1
 | _, _ => 0
theorem Rg.meas_of {w : World} {S : Nat → Prop} {g : Nat} {d : List UInt8} {bad : Bool} (h : Rdr w S g d bad) : Rg.meas g w = if bad = true then 0 else d.length + 1 := by
 obtain ⟨A, c, h⟩ := h
 unfold Rg.meas
 rw [h.cell1, h.cell3]
 cases bad <;> rfl
theorem put1_put1 {cur : Array Value} {off : Nat} {u v : Value} (h : off + 1 ≤ cur.size) : put1 (put1 cur off [u]) off [v] = put1 cur off [v] := by
 apply Array.ext_getElem?
 intro j
 rw [put1_get (by rw [put1_size (by simpa using h)]; simpa using h), put1_get (by simpa using h), put1_get (by simpa using h)]
 simp only [List.length_singleton]
 split
 ·
  rfl
 ·
  rfl
def IsSi (S : Nat → Prop) (l : List Wg) (w : World) (cs : List Value) : Prop := ∃ A c, cs = [.slice A l.length c] ∧ (∀ w2, Trn S w w2 → RdG w2 A l) ∧ l.length ≤ c
set_option maxRecDepth 100000 in
set_option maxHeartbeats 2000000 in
theorem sigs_read (S : Nat → Prop) (g : Nat) (d : List UInt8) (bad : Bool) (b off : Nat) (cur : Array Value) (t : TypeId) (w : World) (h : Rdr w S g d bad) (hb : w.heap[b]? = some (.cells cur t (0, 0))) (hne : b ≠ g) (hSb : S b) (hcur : cur[off]? = some (.slice none 0 0)) :
  Calls Tryz.prog 74 #[.pointer (some ⟨g, 0, none⟩), .pointer (some ⟨b, off, none⟩)] w (ReadTo S g b off cur t (IsSi S (Rg.all d bad).1) (Rg.all d bad).2.1 (Rg.all d bad).2.2 w) := by
 have hbl := lt_of_heap hb
 have hgl : g < w.heap.size := by obtain ⟨A, c, h⟩ := h; exact lt_of_heap h.row
 have hSl : ∀ i, S i → i < w.heap.size := by obtain ⟨A, c, h⟩ := h; exact h.lt
 have hSg : S g := by obtain ⟨A, c, h⟩ := h; exact h.mem
 have h2 : w.cell? ⟨g, 2, none⟩ = some (.bool true) := by obtain ⟨A, c, h⟩ := h; exact h.cell2
 have hdl : d.length ≤ 1000000 := by obtain ⟨A, c, h⟩ := h; exact h.len
 have hfit : off + 1 ≤ cur.size := (Array.getElem?_eq_some_iff.1 hcur).1
 obtain ⟨RA, hRA⟩ : ∃ RA, RA = Rg.all d bad := ⟨_, rfl⟩
 rw [← hRA]
 have HRA := Lib.hid hRA
 have H := Lib.hid h
 have Hb := Lib.hid hb
 have Hcur := Lib.hid hcur
 clear h hb hcur hRA
 go_enter Tryz.func74, Tryz.ntmps74
 go_wp2_with fail
 go_loopw [] (fun wr => ∃ (f : Nat) (l : List Wg) (d2 : List UInt8) (b2 : Bool) (A1 : Option Addr) (c1 : Nat), RA = (l ++ (Rg.run f d2 b2).1, (Rg.run f d2 b2).2) ∧ (b2 = true ∨ d2.length + 1 ≤ f) ∧ Rdr wr (fun i => S i ∨ ownRow A1 c1 = some i) g d2 b2 ∧ (Own wr w.heap.size 65 33 A1 l.length c1 (wgs l) ∧ (∀ s ∈ l, s.Ok) ∧ (b2 = false → l.length * 36 + d2.length ≤ d.length) ∧ l.length ≤ d.length) ∧ wr.heap[b]? = some (.cells (put1 cur off [.slice A1 l.length c1]) t (0, 0)) ∧ Trn (fun i => Two g b i ∨ w.heap.size ≤ i) w wr) (fun wr => Rg.meas g wr)
 case atStart => exact ⟨d.length + 1, [], d, bad, none, 0, HRA.out, .inr (Nat.le_refl _), H.out.less (by simp [ownRow]) (.inl hSg), ⟨Own.none_ _ _ _ _ _, by simp, by simp, by simp⟩, by rw [show put1 cur off [Value.slice none ([] : List Wg).length 0] = cur from put1_same Hcur.out]; exact Hb.out, Trn.refl _ _⟩
 case round =>
  obtain ⟨f, l, d2, b2, A1, c1, hrun, hf, hR, ho, hbr, hT⟩ := hrel
  obtain ⟨A2, c2, hA2⟩ := hR
  have h1 := hA2.cell1
  have h3 := hA2.cell3
  by_cases hgo : 0 < d2.length ∧ b2 = false
  ·
   obtain ⟨hd0, rfl⟩ := hgo
   obtain ⟨hown, hok, hlen, hll⟩ := ho
   have hlen := hlen rfl
   have hd1 : (0 : Int) < (d2.length : Int) := by omega
   have hRr : Rdr wr _ g d2 false := ⟨_, _, hA2⟩
   have hcut := cut_read _ g A2 c2 d2 false 4 (by omega) wr hA2
   unfold Cut at hcut
   have hc4 := Rc.len 4 d2
   have HC := Lib.hid hcut
   clear hcut
   go_wp2_with (go_at_call 93; refine HC.out.mono ?_; rintro e3 v3 ⟨A3, c3, rfl, hr3, hc3, ht3, hR3⟩; refine Hid.out ?_)
   have hN := number_any A3 _ c3 v3 hr3 (by omega)
   rw [hc4] at hN
   have HN := Lib.hid hN
   have hw4 : IntKind.u32.wrap (Vint.number (Rc.val 4 d2) : Int) = (Vint.number (Rc.val 4 d2) : Int) := by
    have := number4W _ hc4
    simp [IntKind.wrap, IntKind.bits, IntKind.signed]; omega
   clear hN HC hr3
   obtain ⟨n0, hn0⟩ : ∃ n0, n0 = Vint.number (Rc.val 4 d2) := ⟨_, rfl⟩
   rw [← hn0] at HN hw4
   have hxs := Ext.alloc v3 (.cells (Wg.z n0).cells 65)
   have hgs := heap_alloc_new v3 (.cells (Wg.z n0).cells 65)
   have hv3 := ht3.size
   have hwr := hT.size
   have hS1 : ∀ i, (S i ∨ ownRow A1 c1 = some i) → i < v3.heap.size := fun i hi => hi.elim (fun e => by have := hSl i e; omega) (fun e => by have := (hown.row_lt i e).2; omega)
   have hR4 : Rdr (v3.alloc (.cells (Wg.z n0).cells 65)) (fun i => (S i ∨ ownRow A1 c1 = some i) ∨ i = v3.heap.size) g (Rc.rest 4 d2) (false || decide (d2.length < 4)) := hR3.more hxs (fun i hi => hi.elim .inl (fun e => .inr ⟨by omega, by rw [World.size_alloc]; omega⟩)) (.inl (.inl hSg))
   obtain ⟨A4, c4, hA4⟩ := hR4
   have hzok : (Wg.z n0).Ok := ⟨by rw [hn0]; exact number4W _ hc4, by rfl⟩
   have hsum := sum_read _ g A4 c4 (Rc.rest 4 d2) (false || decide (d2.length < 4)) v3.heap.size 1 _ _ _ hA4 hgs (by omega) (.inr rfl) (by rw [Wg.size hzok]; omega)
   have HS := Lib.hid hsum
   have HOW := Lib.hid hown
   have HBR := Lib.hid hbr
   have HXS := Lib.hid hxs
   have Hn0 := Lib.hid hn0
   clear hsum hgs hA4 hown hbr hxs hA2 hR3 hn0
   refine Lib.hid ?_
   go_wp2_with (first | (go_at_call 50; refine HN.out.mono ?_; rintro e4 v4 ⟨rfl, rfl⟩) | (refine wpList_build rfl 65 _ rfl (.agg (Wg.z n0).cells) (ex_buildSig (.tmp 52) rfl n0 rfl) ?_) | (refine wpList_store_row rfl 65 (.tmp 6) (.tmp 53) rfl v3.heap.size (Wg.z n0).cells rfl rfl 65 _ (heap_alloc_new v3 _) (Wg.info hzok) (by rw [Wg.size hzok]; rfl) (Wg.one _) ?_; rw [setRow_alloc]; refine Hid.out ?_))
   refine Lib.hid ?_
   go_wp2_with (go_at_call 70; refine HS.out.mono ?_; rintro e5 v5 ⟨rfl, ht5, hR5, cs5, hr5, hP5⟩; refine Hid.out ?_)
   subst hP5
   obtain ⟨s, hs⟩ : ∃ s : Wg, s = ⟨n0, Rc.val 32 (Rc.rest 4 d2)⟩ := ⟨_, rfl⟩
   have hput : put1 (Wg.z n0).cells 1 (bvs (Rc.val 32 (Rc.rest 4 d2))) = s.cells := by
    rw [hs]
    have := put1_at [.int .u32 (n0 : Int)] (bvs (List.replicate 32 0)) (bvs (Rc.val 32 (Rc.rest 4 d2))) [] (by simp [bvs_len, Rc.len])
    simp only [List.append_nil] at this
    exact this
   rw [hput] at hr5
   have hsok : s.Ok := by rw [hs]; exact ⟨hzok.w, Rc.len 32 _⟩
   obtain ⟨d7, hd7⟩ : ∃ d7, d7 = Rc.rest 32 (Rc.rest 4 d2) := ⟨_, rfl⟩
   obtain ⟨b7, hb7⟩ : ∃ b7, b7 = ((false || decide (d2.length < 4)) || decide ((Rc.rest 4 d2).length < 32)) := ⟨_, rfl⟩
   rw [← hd7, ← hb7] at hR5
   have hone : Rg.one d2 false = (s, d7, b7) := by rw [hd7, hb7, hs, Hn0.out]; rfl
   have t0 : Trn (Two g v3.heap.size) wr v5 := ((ht3.mono (fun _ e _ => .inl e)).tr (Trn.ext HXS.out)).tr ht5
   have t1 : Trn (fun i => i = g) wr v5 := t0.mono (fun i hi hl => hi.elim id (fun e => by omega))
   obtain ⟨W, hW⟩ : ∃ W, W = v5.drew := ⟨_, rfl⟩
   have t2 : Trn (fun i => i = g) wr W := by rw [hW]; exact t1.tr (Trn.ext (Ext.drew v5))
   have hRW : Rdr W (fun i => S i ∨ ownRow A1 c1 = some i) g d7 b7 := by rw [hW]; exact (hR5.less (fun i hi => .inl hi) (.inl hSg)).trn (T := fun _ => False) (Trn.ext (Ext.drew v5)) (fun _ => False.elim) id
   have hoW : Own W w.heap.size 65 33 A1 l.length c1 (wgs l) := HOW.out.trn t2 (fun i e => by omega)
   have hbW := t2.row HBR.out hne
   have hsW : W.heap[v3.heap.size]? = some (.cells s.cells 65 (0, 0)) := by rw [hW]; exact hr5
   have hpW : W.cell? ⟨b, off, none⟩ = some (.slice A1 l.length c1) := by rw [cell_of_row _ _ _ _ _ _ hbW, put1_get (by simpa using hfit)]; simp
   have hWs : wr.heap.size ≤ W.heap.size := t2.size
   have hcsW : ∀ j u, (s.cells)[j]? = some u → W.cell? ((⟨v3.heap.size, 0, none⟩ : Addr).add j) = some u := fun j u hj => by rw [Addr.add_lit, Nat.zero_add, cell_of_row _ _ _ _ _ _ hsW]; exact hj
   have HRW := Lib.hid hRW
   have HOW2 := Lib.hid hoW
   have HBW := Lib.hid hbW
   have HT2 := Lib.hid t2
   have HWV := Lib.hid hW
   have Hone := Lib.hid hone
   have HR := Lib.hid hRr
   clear hRW hoW hbW t0 t1 t2 hsW hr5 hR5 ht5 ht3 hone hs hd7 hb7 hS1 HS HXS HOW HBR HN hput
   refine Lib.hid ?_
   go_wp2_with fail
   refine rr_start (extW) [0, 1, 2, 7] (by kernel_rfl) ?_
   rw [← HWV.out]
   refine qAD 0 rfl ?_
   simp only [sP]
   refine qAD 1 rfl ?_
   simp only [sP]
   refine qAD 2 rfl ?_
   simp only [sP]
   refine qS 3 rfl ⟨_, fun w' hx => by have hcx := hx.load hpW; (go_simp <;> with_reducible rfl), ?_⟩
   simp only [sP]
   refine qS 4 rfl ⟨.agg s.cells, fun w' hx => ex_load_cells 65 (.tmp 6) rfl ⟨v3.heap.size, 0, none⟩ rfl s.cells _ (fun j u hj => hx.load (hcsW j u hj)) Tryz.underlying65 rfl (Wg.info hsok), ?_⟩
   simp only [sP]
   refine rr_make 5 rfl (by kernel_rfl) (by rfl) ⟨_, _, ex_buildOneW 29 (.tmp 61) rfl elemWg s.cells rfl (Wg.size hsok) (by omega), Ext.alloc _ _, ?_⟩
   have hx6 := Ext.alloc W (.cells s.cells 65)
   have hr6 : Rd (W.alloc (.cells s.cells 65)) 33 (some ⟨W.heap.size, 0, none⟩) 1 (wgs [s]) := Rd.row (xs := wgs [s]) (by rw [show (wgs [s]).toArray = s.cells by simp [wgs, Wg.cells]]; exact heap_alloc_new W _) (by rw [wgs_len (by simpa using hsok)]; rfl)
   simp only [sP]
   refine rr_last 6 rfl (by kernel_rfl) (by kernel_rfl) (by rfl) fun KK hK => wp_app (.tmp 60) (.tmp 62) 29 rfl elemWg w.heap.size A1 l.length c1 (wgs l) rfl (some ⟨W.heap.size, 0, none⟩) 1 1 (wgs [s]) rfl (l.length + 1) rfl (wgs (l ++ [s])) (wgs_app _ _) (HOW2.out.trn (Trn.ext (S := fun _ => False) hx6) (fun _ => False.elim)) hr6 (wgs_one _) (by omega) (by omega) (by rw [World.size_alloc]; omega) (fun A6 c6 w7 ho7 hg7 hr7 => hK _ _ ?_)
   simp only [sP]
   refine qAD 7 rfl ?_
   simp only [sP]
   have hb7 : w7.heap[b]? = some (.cells (put1 cur off [.slice A1 l.length c1]) t (0, 0)) := (Trn.grownO (S := fun i => w.heap.size ≤ i) hg7 (fun k e => (HOW2.out.row_lt k e).1)).row ((hx6.block _ (lt_of_heap HBW.out)).trans HBW.out) (by omega)
   refine rr_store 8 rfl (by kernel_rfl) (by kernel_rfl) (by rfl) ⟨w7.setRow b (put1 cur off [.slice A6 (l.length + 1) c6]), ex_put1 29 (.tmp 64) (.tmp 63) rfl ⟨b, off, none⟩ rfl b off rfl _ rfl [.slice A6 (l.length + 1) c6] rfl _ _ hb7 (by kernel_rfl) (by rw [put1_size (by simpa using hfit)]; simpa using hfit) (by simp [Value.oneCell']) _ (put1_put1 hfit), ?_⟩
   simp only [Act.put]
   refine rr_done (by kernel_rfl) ?_
   obtain ⟨W9, hW9⟩ : ∃ W9, W9 = w7.setRow b (put1 cur off [.slice A6 (l.length + 1) c6]) := ⟨_, rfl⟩
   rw [← hW9]
   have x9 : Trn (fun i => i = b) w7 W9 := by rw [hW9]; exact Trn.set _ _ _ rfl
   have hR9 : Rdr W9 (fun i => S i ∨ ownRow A6 c6 = some i) g d7 b7 := by
    refine Rdr.trn (T := fun i => i = b) (Rdr.grown ((HRW.out).trn (T := fun _ => False) (Trn.ext hx6) (fun _ => False.elim) id) hg7 (fun k e => ⟨.inr e, ?_⟩) (fun i hi => ?_) (.inl hSg)) x9 (fun i e => .inl (e ▸ hSb)) (fun e => hne e.symm)
    ·
     have := (HOW2.out.row_lt k e).1; omega
    ·
     rcases hi with hi | hi
     ·
      exact .inl (.inl hi)
     ·
      have hl7 := (ho7.row_lt i hi).2
      rcases hr7 with e | e
      ·
       exact .inl (.inr (e ▸ hi))
      ·
       have := e.symm.trans hi
       injection this with this
       exact .inr ⟨by omega, hl7⟩
   have ho9 : Own W9 w.heap.size 65 33 A6 (l.length + 1) c6 (wgs (l ++ [s])) := ho7.trn x9 (fun i e => by omega)
   have hb9 : W9.heap[b]? = some (.cells (put1 cur off [.slice A6 (l.length + 1) c6]) t (0, 0)) := by rw [hW9]; exact setRow_heap w7 b _ _ _ _ hb7
   have hT9 : Trn (fun i => Two g b i ∨ w.heap.size ≤ i) w W9 := (((hT.tr (HT2.out.mono (fun _ e _ => .inl (.inl e)))).tr (Trn.ext hx6)).tr (Trn.grownO hg7 (fun k e => .inr (HOW2.out.row_lt k e).1))).tr (x9.mono (fun _ e _ => .inl (.inr e)))
   have hm9 := Rg.meas_of hR9
   have hmr := Rg.meas_of HR.out
   have hless := Rg.one_less d2 hd0
   have hcutl := Rg.one_cut d2
   rw [Hone.out] at hless hcutl
   simp only at hless hcutl
   obtain ⟨f', rfl⟩ : ∃ f', f = f' + 1 := ⟨f - 1, by rcases hf with e | e; cases e; omega⟩
   have hrun9 : RA = ((l ++ [s]) ++ (Rg.run f' d7 b7).1, (Rg.run f' d7 b7).2) := by
    rw [hrun]
    unfold Rg.run
    rw [if_pos ⟨hd0, rfl⟩, Hone.out]
    simp only [List.append_assoc, List.cons_append, List.nil_append]
    cases f' <;> rfl
   have hf9 : b7 = true ∨ d7.length + 1 ≤ f' := hless.imp id (fun e => by rcases hf with k | k; cases k; omega)
   have hml : Rg.meas g W9 < Rg.meas g wr := by
    have hmr' : Rg.meas g wr = d2.length + 1 := hmr
    rw [hm9, hmr']
    rcases hless with e | e
    ·
     rw [if_pos e]; omega
    ·
     split <;> omega
   have hok9 : ∀ u ∈ l ++ [s], u.Ok := by
    intro u hu
    rcases List.mem_append.1 hu with hu | hu
    ·
     exact hok u hu
    ·
     rw [List.mem_singleton] at hu; rw [hu]; exact hsok
   have hbd9 : (b7 = false → (l ++ [s]).length * 36 + d7.length ≤ d.length) ∧ (l ++ [s]).length ≤ d.length := by
    rw [List.length_append, List.length_singleton]
    exact ⟨fun e => by have := hcutl e; omega, by omega⟩
   have hll9 : (l ++ [s]).length = l.length + 1 := by simp
   rw [← hll9] at ho9 hb9
   have K1 := Lib.hid hrun9
   have K2 := Lib.hid hR9
   have K3 := Lib.hid ho9
   have K4 := Lib.hid hb9
   have K5 := Lib.hid hT9
   have K6 := Lib.hid hml
   clear hrun9 hR9 ho9 hb9 hT9 hml hm9 hmr hrun hT HRW HOW2 HBW HT2 ho7 hg7 hr7 hb7 hW9 x9 hx6 hcsW hpW HWV h1 h3
   refine Lib.hid ?_
   go_wp2_with fail
   go_roundw
   case rel => exact ⟨f', l ++ [s], d7, b7, A6, c6, K1.out, hf9, K2.out, ⟨K3.out, hok9, hbd9.1, hbd9.2⟩, K4.out, K5.out⟩
   case measure => exact K6.out
  ·
   have hfin : ReadTo S g b off cur t (IsSi S RA.1) RA.2.1 RA.2.2 w (.returned (.tuple #[])) wr := by
    rw [Rg.run_end f d2 b2 hgo, List.append_nil] at hrun
    rw [hrun]
    exact ⟨rfl, hT.mono (fun i hi hl => hi.elim id (fun e => by omega)), Rdr.less ⟨_, _, hA2⟩ (fun i hi => .inl hi) hSg, _, hbr, _, _, rfl, fun w9 t9 => ⟨(ho.1.trn t9 hSl).rd, ho.2.1⟩, ho.1.nc⟩
   have HF := Lib.hid hfin
   have hgo' : d2.length = 0 ∨ b2 = true := by
    by_cases e : d2.length = 0
    ·
     exact .inl e
    ·
     right; cases b2 with
     | true => rfl
     | false => exact absurd ⟨by omega, rfl⟩ hgo
   clear hrun ho hbr hT hfin hgo
   rcases hgo' with hz | rfl
   ·
    have hz1 : ¬ (0 : Int) < (d2.length : Int) := by omega
    go_wp2_with fail
    (try simp only [Exit.inBlock, Exit.then])
    first | refine bodyPost_ret (results_none rfl _ _ _) rfl ?_ | refine bodyPost_end (results_none rfl _ _ _) rfl ?_
    exact HF.out
   ·
    go_wp2_with fail
    all_goals
     (try simp only [Exit.inBlock, Exit.then])
     first | refine bodyPost_ret (results_none rfl _ _ _) rfl ?_ | refine bodyPost_end (results_none rfl _ _ _) rfl ?_
     exact HF.out
end Go.Proofs.YtjholekgdnhpkaaGreatDoor
