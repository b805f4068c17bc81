/- Contracts: bytes as a leaf's cell, the document's (scowref07.GetLeaf). Printed by wip/tools/gen_cellref.py. -/
import Derived.Test.YtafffpkjpghnjaaCellGetI
namespace Go.Proofs.Ytafffpkjpghnjaa
open Go.RowKit
attribute [local go_sem] Oper.semAt_some

/-- The result's block. -/
structure Uno (w w1 : World) : Prop where
  row : w1.heap[w.heap.size]? = some (.cells #[.slice none 0 0, .int .i64 0, .slice none 0 0, .int .u32 0, .int .u32 0] 25 (0, 0))
  ext : Ext w w1
theorem Uno.new (w : World) : Uno w (w.alloc (.cells #[.slice none 0 0, .int .i64 0, .slice none 0 0, .int .u32 0, .int .u32 0] 25)) := ⟨heap_alloc_new w _, Ext.alloc _ _⟩
theorem Uno.below {w w1 w2 : World} (h : Uno w w1) (hb : Ext w1 w2) : Uno w w2 := ⟨(hb.block _ (lt_of_heap h.row)).trans h.row, Ext.tr h.ext hb⟩
/-- The result's block, and the cell's own. -/
structure Duo (w w1 : World) (b : Nat) (cs : Array Value) : Prop where
  uno : Uno w w1
  row : w1.heap[b]? = some (.cells cs 25 (0, 0))
  far : w.heap.size < b
theorem Duo.new {w w1 : World} (h : Uno w w1) (cs : Array Value) : Duo w (w1.alloc (.cells cs 25)) w1.heap.size cs := ⟨h.below (Ext.alloc _ _), heap_alloc_new w1 _, lt_of_heap h.row⟩
theorem Duo.below {w w1 w2 : World} {b : Nat} {cs : Array Value} (h : Duo w w1 b cs) (hb : Ext w1 w2) : Duo w w2 b cs := ⟨h.uno.below hb, (hb.block _ (lt_of_heap h.row)).trans h.row, h.far⟩
theorem Duo.store {w w1 : World} {b : Nat} {cs : Array Value} (h : Duo w w1 b cs) (i : Nat) (v : Value) : Duo w (w1.setCell ⟨b, i, none⟩ v) b (cs.setIfInBounds i v) :=
  ⟨⟨(Below.heap_setCell w1 ⟨b, i, none⟩ v _ (by have := h.far; show w.heap.size ≠ b; omega)).trans h.uno.row, h.uno.ext.setCell (p := ⟨b, i, none⟩) (by have := h.far; show w.heap.size ≤ b; omega) v⟩, heap_setCell_same w1 b i cs _ v h.row, h.far⟩
theorem Duo.cell {w w1 : World} {b : Nat} {cs : Array Value} (h : Duo w w1 b cs) (i : Nat) : w1.cell? ⟨b, i, none⟩ = cs[i]? := cell_of_row w1 b i _ _ _ h.row
theorem Duo.free {w w1 : World} {b : Nat} {cs : Array Value} (h : Duo w w1 b cs) (i : Nat) : w1.frozen? ⟨b, i, none⟩ = false := frozen_of_row w1 b i _ _ h.row

set_option maxRecDepth 100000 in
set_option maxHeartbeats 1000000 in
theorem ref_getLeaf_nil (A : Option Addr) (bs : List UInt8) (c : Nat) (w : World) (hbs : bs.length = 0) (q : Cl × Nat) (hqv : q = (Cl.zero, 70)) :
    Calls Try.prog 12 #[.slice A bs.length c] w fun e w' => ∃ C : CellV, e = .returned (.tuple #[C.val, .int .i64 (q.2 : Int)]) ∧ C.x = q.1 ∧ C.In w' ∧ Below w.heap.size w w' := by
  have Hqv := Lib.hid hqv
  have U1 := Uno.new w
  obtain rfl := List.eq_nil_of_length_eq_zero hbs
  clear hqv hbs
  go_enter Try.func12, Try.ntmps12
  have hgz := U1.row
  go_wp2_with (refine wpList_store_row rfl 25 (.tmp 2) (.tmp 23) rfl w.heap.size #[.slice none 0 0, .int .i64 0, .slice none 0 0, .int .u32 0, .int .u32 0] rfl rfl _ _ hgz (by kernel_rfl) rfl (by kernel_rfl) ?_)
  have hgz2 := setRow_heap _ w.heap.size _ #[.slice none 0 0, .int .i64 0, .slice none 0 0, .int .u32 0, .int .u32 0] _ _ hgz
  (try simp only [Exit.inBlock, Exit.then])
  refine bodyPost_ret (results_row_tmp rfl _ _ w.heap.size 25 #[.slice none 0 0, .int .i64 0, .slice none 0 0, .int .u32 0, .int .u32 0] (0, 0) _ rfl hgz2 Try.underlying25 rfl (by kernel_rfl)) rfl ?_
  refine ⟨CellV.zero, ?_, ?_, CellV.zero_in _, ext_row U1.ext (Nat.le_refl _) _⟩
  · rw [Hqv.out]; rfl
  · rw [Hqv.out]; rfl

set_option maxRecDepth 100000 in
set_option maxHeartbeats 1000000 in
theorem ref_getLeaf_short (A : Option Addr) (bs : List UInt8) (k : UInt8) (t : List UInt8) (c : Nat) (w : World) (hA : RdB w A bs) (hbs : bs = k :: t) (hle : ¬ 1 + k.toNat ≤ bs.length) (q : Cl × Nat) (hqv : q = (Cl.zero, 70)) :
    Calls Try.prog 12 #[.slice A bs.length c] w fun e w' => ∃ C : CellV, e = .returned (.tuple #[C.val, .int .i64 (q.2 : Int)]) ∧ C.x = q.1 ∧ C.In w' ∧ Below w.heap.size w w' := by
  have Hqv := Lib.hid hqv
  have U1 := Uno.new w
  have h0 : 0 < bs.length := by rw [hbs]; simp
  have hk := k.toNat_lt
  obtain ⟨ad, rfl, hk0⟩ := hA.at_ (k := 0) h0
  have hkk : bs[0] = k := by simp [hbs]
  rw [hkk, show ad.add 0 = ad from rfl] at hk0
  have hk1 := U1.ext.load hk0
  clear hqv hbs hkk hk0
  go_enter Try.func12, Try.ntmps12
  have hgz := U1.row
  go_wp2_with (refine wpList_store_row rfl 25 (.tmp 2) (.tmp 23) rfl w.heap.size #[.slice none 0 0, .int .i64 0, .slice none 0 0, .int .u32 0, .int .u32 0] rfl rfl _ _ hgz (by kernel_rfl) rfl (by kernel_rfl) ?_)
  have hgz2 := setRow_heap _ w.heap.size _ #[.slice none 0 0, .int .i64 0, .slice none 0 0, .int .u32 0, .int .u32 0] _ _ hgz
  (try simp only [Exit.inBlock, Exit.then])
  refine bodyPost_ret (results_row_tmp rfl _ _ w.heap.size 25 #[.slice none 0 0, .int .i64 0, .slice none 0 0, .int .u32 0, .int .u32 0] (0, 0) _ rfl hgz2 Try.underlying25 rfl (by kernel_rfl)) rfl ?_
  refine ⟨CellV.zero, ?_, ?_, CellV.zero_in _, ext_row U1.ext (Nat.le_refl _) _⟩
  · rw [Hqv.out]; rfl
  · rw [Hqv.out]; rfl

set_option maxRecDepth 100000 in
set_option maxHeartbeats 1000000 in
theorem ref_getLeaf_bad1 (A : Option Addr) (bs : List UInt8) (k : UInt8) (t : List UInt8) (c : Nat) (w : World) (hA : RdB w A bs) (hc : bs.length ≤ c) (hl : bs.length ≤ 1000000) (hbs : bs = k :: t) (r : List UInt8) (hdr : t.drop k.toNat = r) (hle : 1 + k.toNat ≤ bs.length) (n x e0 : Nat) (hget : Vint.get r = (n, x, e0)) (hbad : e0 ≠ 0 ∨ 1000 < n) (hcc : c = 1 + k.toNat) (q : Cl × Nat) (hqv : q = (Cl.zero, 70)) :
    Calls Try.prog 12 #[.slice A bs.length c] w fun e w' => ∃ C : CellV, e = .returned (.tuple #[C.val, .int .i64 (q.2 : Int)]) ∧ C.x = q.1 ∧ C.In w' ∧ Below w.heap.size w w' := by
  have Hqv := Lib.hid hqv
  have U1 := Uno.new w
  have h0 : 0 < bs.length := by rw [hbs]; simp
  have hk := k.toNat_lt
  have htl : t.length + 1 = bs.length := by rw [hbs]; rfl
  have hrl : r.length = t.length - k.toNat := by rw [← hdr, List.length_drop]
  have hr := rest_rd hA hbs hdr hle hc
  obtain ⟨ad, rfl, hk0⟩ := hA.at_ (k := 0) h0
  have hkk : bs[0] = k := by simp [hbs]
  rw [hkk, show ad.add 0 = ad from rfl] at hk0
  have hk1 := U1.ext.load hk0
  have hr9 : r = [] := List.eq_nil_of_length_eq_zero (by omega)
  have hb9 : bs.length = 1 + k.toNat := by omega
  rw [if_pos hcc] at hr
  subst hr9
  subst hcc
  have hr0 : RdB (w.alloc (.cells #[.slice none 0 0, .int .i64 0, .slice none 0 0, .int .u32 0, .int .u32 0] 25)) (some ad) [] := RdB.nil_ _ _
  have H := Lib.hid (fun cp => ref_get01 (some ad) [] cp _ hr0 (Nat.zero_le _))
  have Hget := Lib.hid hget
  clear hqv hbs hkk hk0 hdr hget hrl hb9
  go_enter Try.func12, Try.ntmps12
  go_wp2_with fail
  (try rw [show bs.length - (1 + k.toNat) = 0 from by omega])
  refine (H.out _).mono ?_
  rintro e w6 ⟨rfl, rfl⟩
  rw [Hget.out]
  simp only [getRes]
  clear H hr0
  by_cases he : e0 = 0
  · subst he
    have hb1 : 1000 < (n : Int) := by omega
    have hgz := U1.row
    go_wp2_with (refine wpList_store_row rfl 25 (.tmp 2) (.tmp 43) rfl w.heap.size #[.slice none 0 0, .int .i64 0, .slice none 0 0, .int .u32 0, .int .u32 0] rfl rfl _ _ hgz (by kernel_rfl) rfl (by kernel_rfl) ?_)
    have hgz2 := setRow_heap _ w.heap.size _ #[.slice none 0 0, .int .i64 0, .slice none 0 0, .int .u32 0, .int .u32 0] _ _ hgz
    (try simp only [Exit.inBlock, Exit.then])
    refine bodyPost_ret (results_row_tmp rfl _ _ w.heap.size 25 #[.slice none 0 0, .int .i64 0, .slice none 0 0, .int .u32 0, .int .u32 0] (0, 0) _ rfl hgz2 Try.underlying25 rfl (by kernel_rfl)) rfl ?_
    refine ⟨CellV.zero, ?_, ?_, CellV.zero_in _, ext_row U1.ext (Nat.le_refl _) _⟩
    · rw [Hqv.out]; rfl
    · rw [Hqv.out]; rfl
  · have hb0 : ((e0 : Int) != 0) = true := by rw [bne_iff_ne]; omega
    have hgz := U1.row
    go_wp2_with (refine wpList_store_row rfl 25 (.tmp 2) (.tmp 43) rfl w.heap.size #[.slice none 0 0, .int .i64 0, .slice none 0 0, .int .u32 0, .int .u32 0] rfl rfl _ _ hgz (by kernel_rfl) rfl (by kernel_rfl) ?_)
    have hgz2 := setRow_heap _ w.heap.size _ #[.slice none 0 0, .int .i64 0, .slice none 0 0, .int .u32 0, .int .u32 0] _ _ hgz
    (try simp only [Exit.inBlock, Exit.then])
    refine bodyPost_ret (results_row_tmp rfl _ _ w.heap.size 25 #[.slice none 0 0, .int .i64 0, .slice none 0 0, .int .u32 0, .int .u32 0] (0, 0) _ rfl hgz2 Try.underlying25 rfl (by kernel_rfl)) rfl ?_
    refine ⟨CellV.zero, ?_, ?_, CellV.zero_in _, ext_row U1.ext (Nat.le_refl _) _⟩
    · rw [Hqv.out]; rfl
    · rw [Hqv.out]; rfl

set_option maxRecDepth 100000 in
set_option maxHeartbeats 1000000 in
theorem ref_getLeaf_bad2 (A : Option Addr) (bs : List UInt8) (k : UInt8) (t : List UInt8) (c : Nat) (w : World) (hA : RdB w A bs) (hc : bs.length ≤ c) (hl : bs.length ≤ 1000000) (hbs : bs = k :: t) (r : List UInt8) (hdr : t.drop k.toNat = r) (hle : 1 + k.toNat ≤ bs.length) (n x e0 : Nat) (hget : Vint.get r = (n, x, e0)) (hbad : e0 ≠ 0 ∨ 1000 < n) (hcc : ¬ c = 1 + k.toNat) (q : Cl × Nat) (hqv : q = (Cl.zero, 70)) :
    Calls Try.prog 12 #[.slice A bs.length c] w fun e w' => ∃ C : CellV, e = .returned (.tuple #[C.val, .int .i64 (q.2 : Int)]) ∧ C.x = q.1 ∧ C.In w' ∧ Below w.heap.size w w' := by
  have Hqv := Lib.hid hqv
  have U1 := Uno.new w
  have h0 : 0 < bs.length := by rw [hbs]; simp
  have hk := k.toNat_lt
  have htl : t.length + 1 = bs.length := by rw [hbs]; rfl
  have hrl : r.length = t.length - k.toNat := by rw [← hdr, List.length_drop]
  have hr := rest_rd hA hbs hdr hle hc
  obtain ⟨ad, rfl, hk0⟩ := hA.at_ (k := 0) h0
  have hkk : bs[0] = k := by simp [hbs]
  rw [hkk, show ad.add 0 = ad from rfl] at hk0
  have hk1 := U1.ext.load hk0
  rw [if_neg hcc] at hr
  simp only [Option.map_some] at hr
  have hr0 := hr.below U1.ext
  have H := Lib.hid (fun cp => ref_get01 _ r cp _ hr0 (by omega))
  have Hget := Lib.hid hget
  have Hrl : Hid (bs.length - (1 + k.toNat) = r.length) := by show _ = _; omega
  clear hqv hbs hkk hk0 hdr hget hrl hr
  go_enter Try.func12, Try.ntmps12
  go_wp2_with fail
  rw [show bs.length - (1 + k.toNat) = r.length from Hrl.out]
  (with_reducible refine (H.out _).mono ?_)
  rintro e w6 ⟨rfl, rfl⟩
  rw [Hget.out]
  simp only [getRes]
  clear H hr0
  by_cases he : e0 = 0
  · subst he
    have hb1 : 1000 < (n : Int) := by omega
    have hgz := U1.row
    go_wp2_with (refine wpList_store_row rfl 25 (.tmp 2) (.tmp 43) rfl w.heap.size #[.slice none 0 0, .int .i64 0, .slice none 0 0, .int .u32 0, .int .u32 0] rfl rfl _ _ hgz (by kernel_rfl) rfl (by kernel_rfl) ?_)
    have hgz2 := setRow_heap _ w.heap.size _ #[.slice none 0 0, .int .i64 0, .slice none 0 0, .int .u32 0, .int .u32 0] _ _ hgz
    (try simp only [Exit.inBlock, Exit.then])
    refine bodyPost_ret (results_row_tmp rfl _ _ w.heap.size 25 #[.slice none 0 0, .int .i64 0, .slice none 0 0, .int .u32 0, .int .u32 0] (0, 0) _ rfl hgz2 Try.underlying25 rfl (by kernel_rfl)) rfl ?_
    refine ⟨CellV.zero, ?_, ?_, CellV.zero_in _, ext_row U1.ext (Nat.le_refl _) _⟩
    · rw [Hqv.out]; rfl
    · rw [Hqv.out]; rfl
  · have hb0 : ((e0 : Int) != 0) = true := by rw [bne_iff_ne]; omega
    have hgz := U1.row
    go_wp2_with (refine wpList_store_row rfl 25 (.tmp 2) (.tmp 43) rfl w.heap.size #[.slice none 0 0, .int .i64 0, .slice none 0 0, .int .u32 0, .int .u32 0] rfl rfl _ _ hgz (by kernel_rfl) rfl (by kernel_rfl) ?_)
    have hgz2 := setRow_heap _ w.heap.size _ #[.slice none 0 0, .int .i64 0, .slice none 0 0, .int .u32 0, .int .u32 0] _ _ hgz
    (try simp only [Exit.inBlock, Exit.then])
    refine bodyPost_ret (results_row_tmp rfl _ _ w.heap.size 25 #[.slice none 0 0, .int .i64 0, .slice none 0 0, .int .u32 0, .int .u32 0] (0, 0) _ rfl hgz2 Try.underlying25 rfl (by kernel_rfl)) rfl ?_
    refine ⟨CellV.zero, ?_, ?_, CellV.zero_in _, ext_row U1.ext (Nat.le_refl _) _⟩
    · rw [Hqv.out]; rfl
    · rw [Hqv.out]; rfl

set_option maxRecDepth 100000 in
set_option maxHeartbeats 1000000 in
theorem ref_getLeaf_small10 (A : Option Addr) (bs : List UInt8) (k : UInt8) (t : List UInt8) (c : Nat) (w : World) (hA : RdB w A bs) (hc : bs.length ≤ c) (hl : bs.length ≤ 1000000) (hbs : bs = k :: t) (r : List UInt8) (hdr : t.drop k.toNat = r) (hle : 1 + k.toNat ≤ bs.length) (n x : Nat) (hget : Vint.get r = (n, x, 0)) (hn : n ≤ 1000) (h40 : n ≤ 40) (key : List UInt8) (hkey : t.take k.toNat = key) (rest : List UInt8) (hrest : r.drop x = rest) (hlf : (Cl.mk key n rest 0 0).leaf = true) (hceq : ¬ c = 1 + k.toNat + x) (q : Cl × Nat) (hqv : q = ((Cl.mk key n rest 0 0), 0)) :
    Calls Try.prog 12 #[.slice A bs.length c] w fun e w' => ∃ C : CellV, e = .returned (.tuple #[C.val, .int .i64 (q.2 : Int)]) ∧ C.x = q.1 ∧ C.In w' ∧ Below w.heap.size w w' := by
  have Hqv := Lib.hid hqv
  have U1 := Uno.new w
  have h0 : 0 < bs.length := by rw [hbs]; simp
  have hk := k.toNat_lt
  have htl : t.length + 1 = bs.length := by rw [hbs]; rfl
  have hrl : r.length = t.length - k.toNat := by rw [← hdr, List.length_drop]
  have hr := rest_rd hA hbs hdr hle hc
  obtain ⟨ad, rfl, hk0⟩ := hA.at_ (k := 0) h0
  have hkk : bs[0] = k := by simp [hbs]
  rw [hkk, show ad.add 0 = ad from rfl] at hk0
  have hk1 := U1.ext.load hk0
  have hcan := Vint.get_canon hget
  have hxl := hcan.2.2
  have hx1 := hcan.2.1
  have hkl : key.length = k.toNat := by rw [← hkey, List.length_take]; omega
  have hrl2 : rest.length = r.length - x := by rw [← hrest, List.length_drop]
  have hlo : 1 + k.toNat + x ≤ bs.length := by omega
  have hcc : ¬ c = 1 + k.toNat := by omega
  have hc1 : ¬ c = 1 := by omega
  rw [if_neg hcc] at hr
  simp only [Option.map_some] at hr
  have hr0 := hr.below U1.ext
  have H := Lib.hid (fun cp => ref_get01 _ r cp _ hr0 (by omega))
  have hky := hA.cut (k := 1) (m := 1 + k.toNat) (by omega) hle (Nat.le_trans hle hc)
  have e1 : (bs.take (1 + k.toNat)).drop 1 = key := by rw [hbs, Nat.add_comm, List.take_succ_cons, List.drop_succ_cons, List.drop_zero, hkey]
  rw [e1, if_neg hc1] at hky
  simp only [Option.map_some] at hky
  have hrs := hA.tail hlo hc
  have e2 : bs.drop (1 + k.toNat + x) = rest := by rw [← hrest, ← hdr, hbs, List.drop_drop, Nat.add_assoc, Nat.add_comm 1, List.drop_succ_cons]
  rw [e2] at hrs
  have hkyr : Rd w 1 (some (ad.add 1)) k.toNat (bvs key) := by rw [← hkl]; exact hky
  have Hrl : Hid (bs.length - (1 + k.toNat) = r.length) := by show _ = _; omega
  have Hrl2 : Hid (bs.length - (1 + k.toNat + x) = rest.length) := by show _ = _; omega
  have hwn : IntKind.i64.wrap (n : Int) = (n : Int) := by rw [IntKind.wrap_i64]; omega
  have Hkl := Lib.hid hkl
  rw [if_neg hceq] at hrs
  simp only [Option.map_some] at hrs
  have Hget := Lib.hid hget
  have Hlf := Lib.hid hlf
  clear hqv hbs hkk hk0 hdr hget hlf hrl hr hcan hkl hrest hkey hky e1 e2 hrl2
  go_enter Try.func12, Try.ntmps12
  go_wp2_with fail
  rw [show bs.length - (1 + k.toNat) = r.length from Hrl.out]
  (with_reducible refine (H.out _).mono ?_)
  rintro e w6 ⟨rfl, rfl⟩
  rw [Hget.out]
  simp only [getRes]
  clear H hr0
  obtain ⟨W1, hW1⟩ : ∃ W1, W1 = w.alloc (.cells #[.slice none 0 0, .int .i64 0, .slice none 0 0, .int .u32 0, .int .u32 0] 25) := ⟨_, rfl⟩
  rw [← hW1] at U1 hk1 ⊢
  clear hW1
  have hky1 := (hkyr.below U1.ext).below (Ext.alloc W1 (.cells #[] 5))
  go_wp2_with (first | (at_builtin; refine wpList_app rfl (.tmp 44) (.tmp 47) 22 rfl elemB W1.heap.size _ 0 0 [] rfl _ _ _ (bvs key) rfl k.toNat (by omega) (bvs key) rfl (Own.none_ _ _ _ _ _) (by first | exact hky1 | (rw [show 1 + k.toNat - 1 = k.toNat from by omega]; exact hky1)) (bvs_one _) (by omega) (by omega) (by simp) ?_; intro A3 c3 w3 ho3 hg3 hr3; have hB3 : Ext W1 w3 := below_app (Ext.alloc W1 (.cells #[] 5)) (Own.none_ _ _ 5 1 (some ⟨W1.heap.size, 0, none⟩)) hg3 (by simp); have U3 := U1.below hB3; have D3 := Duo.new U3 #[.slice A3 k.toNat c3, .int .i64 (n : Int), .slice none 0 0, .int .u32 0, .int .u32 0]; have hkb : ∀ i, ownRow A3 c3 = some i → i < w3.heap.size := (fun i hi => (ho3.row_lt i hi).2); have hk3 : ∀ i, ownRow A3 c3 = some i → w.heap.size < i := (fun i hi => by have := (ho3.row_lt i hi).1; have := lt_of_heap U1.row; omega); have hrs3 := hrs.below D3.uno.ext; have hnc3 := ho3.nc; have ho4 := ho3.below (Ext.alloc w3 (.cells #[.slice A3 k.toNat c3, .int .i64 (n : Int), .slice none 0 0, .int .u32 0, .int .u32 0] 25)); clear hg3 hr3 hB3 hky1 U1 hk1) | (at_builtin; have hrs4 := hrs3.below (Ext.alloc _ (.cells #[] 5)); refine wpList_app rfl (.tmp 60) (.tmp 61) 22 rfl elemB (w3.heap.size + 1) _ 0 0 [] rfl _ _ _ (bvs rest) rfl rest.length (by have := Hrl2.out; omega) (bvs rest) rfl (Own.none_ _ _ _ _ _) (by rw [show bs.length - (1 + k.toNat + x) = rest.length from Hrl2.out]; exact hrs4) (bvs_one _) (by have := Hrl2.out; omega) (by have := Hrl2.out; omega) (by simp) ?_; intro A5 c5 w5 ho5 hg5 hr5; have hB5 : Ext (w3.alloc (.cells #[.slice A3 k.toNat c3, .int .i64 (n : Int), .slice none 0 0, .int .u32 0, .int .u32 0] 25)) w5 := below_app (Ext.alloc _ (.cells #[] 5)) (Own.none_ _ _ 5 1 (some ⟨(w3.alloc (.cells #[.slice A3 k.toNat c3, .int .i64 (n : Int), .slice none 0 0, .int .u32 0, .int .u32 0] 25)).heap.size, 0, none⟩)) hg5 (by simp); have D5 := D3.below hB5; have ho6 := ho4.below hB5; have hcl := D5.cell 2; have hfr := D5.free 2; (simp only [List.getElem?_toArray, List.getElem?_cons_succ, List.getElem?_cons_zero] at hcl); have D6 : Duo w (w5.setCell ⟨w3.heap.size, 2, none⟩ (.slice A5 rest.length c5)) w3.heap.size #[.slice A3 k.toNat c3, .int .i64 (n : Int), .slice A5 rest.length c5, .int .u32 0, .int .u32 0] := D5.store 2 _; have hg6 := D6.row; have ho7 := ho6.setO ⟨w3.heap.size, 2, none⟩ (.slice A5 rest.length c5) (fun i hi => by have := hkb i hi; show i ≠ w3.heap.size; omega); have ho8 := ho5.setO ⟨w3.heap.size, 2, none⟩ (.slice A5 rest.length c5) (fun i hi => by have := (ho5.row_lt i hi).1; show i ≠ w3.heap.size; omega); have hvb : ∀ i, ownRow A5 c5 = some i → w3.heap.size < i := (fun i hi => by have := (ho5.row_lt i hi).1; omega); clear D5 ho6 ho5 hg5 hr5 hB5 hrs4 ho4 D3 hrs3) | (refine wpList_load_row rfl 25 (.tmp 8) rfl w3.heap.size rfl 25 #[.slice A3 k.toNat c3, .int .i64 (n : Int), .slice A5 rest.length c5, .int .u32 0, .int .u32 0] (0, 0) _ hg6 Try.underlying25 rfl (by kernel_rfl) ?_))
  have hL := fun W => ref_Leaf ⟨A3, c3, A5, c5, ⟨key, n, rest, 0, 0⟩⟩ W
  rw [Hlf.out] at hL
  simp only [CellV.val, CellV.cells, Int.natCast_zero, Hkl.out] at hL
  refine (hL _).mono ?_
  rintro e w8 ⟨rfl, hb8⟩
  have D8 := D6.below hb8
  have ho9 := ho7.below hb8
  have ho10 := ho8.below hb8
  clear hL D6 hg6 ho7 ho8 hcl hfr hb8
  have hg8 := D8.row
  have hz8 := D8.uno.row
  go_wp2_with (first | (refine wpList_load_row rfl 25 (.tmp 8) rfl w3.heap.size rfl 25 #[.slice A3 k.toNat c3, .int .i64 (n : Int), .slice A5 rest.length c5, .int .u32 0, .int .u32 0] (0, 0) _ hg8 Try.underlying25 rfl (by kernel_rfl) ?_) | (refine wpList_store_row rfl 25 (.tmp 2) (.tmp 76) rfl w.heap.size #[.slice A3 k.toNat c3, .int .i64 (n : Int), .slice A5 rest.length c5, .int .u32 0, .int .u32 0] rfl rfl _ _ hz8 (by kernel_rfl) rfl (by first | kernel_rfl | simp [Value.oneCell']) ?_))
  have hgz2 := setRow_heap w8 w.heap.size _ #[.slice A3 k.toNat c3, .int .i64 (n : Int), .slice A5 rest.length c5, .int .u32 0, .int .u32 0] _ _ hz8
  (try simp only [Exit.inBlock, Exit.then])
  refine bodyPost_ret (results_row_tmp rfl _ _ w.heap.size 25 #[.slice A3 k.toNat c3, .int .i64 (n : Int), .slice A5 rest.length c5, .int .u32 0, .int .u32 0] (0, 0) _ rfl hgz2 Try.underlying25 rfl (by kernel_rfl)) rfl ?_
  refine ⟨⟨A3, c3, A5, c5, ⟨key, n, rest, 0, 0⟩⟩, ?_, ?_, ?_, ext_row D8.uno.ext (Nat.le_refl _) _⟩
  · rw [Hqv.out]
    simp only [CellV.val, CellV.cells, Int.natCast_zero, List.length_nil, Hkl.out]
    rfl
  · rw [Hqv.out]
  · exact ⟨by show 0 < 4294967296; omega, by show 0 < 4294967296; omega, by show -9223372036854775808 ≤ (n : Int); omega, by show (n : Int) ≤ 9223372036854775807; omega, Own.rd' (ho9.setR w.heap.size #[.slice A3 k.toNat c3, .int .i64 (n : Int), .slice A5 rest.length c5, .int .u32 0, .int .u32 0] (fun i hi => by have := hk3 i hi; omega)), (ho10.setR w.heap.size #[.slice A3 k.toNat c3, .int .i64 (n : Int), .slice A5 rest.length c5, .int .u32 0, .int .u32 0] (fun i hi => by have := hvb i hi; have := D8.far; omega)).rd', by show key.length ≤ c3; rw [Hkl.out]; exact hnc3, ho10.nc⟩

set_option maxRecDepth 100000 in
set_option maxHeartbeats 1000000 in
theorem ref_getLeaf_small11 (A : Option Addr) (bs : List UInt8) (k : UInt8) (t : List UInt8) (c : Nat) (w : World) (hA : RdB w A bs) (hc : bs.length ≤ c) (hl : bs.length ≤ 1000000) (hbs : bs = k :: t) (r : List UInt8) (hdr : t.drop k.toNat = r) (hle : 1 + k.toNat ≤ bs.length) (n x : Nat) (hget : Vint.get r = (n, x, 0)) (hn : n ≤ 1000) (h40 : n ≤ 40) (key : List UInt8) (hkey : t.take k.toNat = key) (rest : List UInt8) (hrest : r.drop x = rest) (hlf : (Cl.mk key n rest 0 0).leaf = true) (hceq : c = 1 + k.toNat + x) (q : Cl × Nat) (hqv : q = ((Cl.mk key n rest 0 0), 0)) :
    Calls Try.prog 12 #[.slice A bs.length c] w fun e w' => ∃ C : CellV, e = .returned (.tuple #[C.val, .int .i64 (q.2 : Int)]) ∧ C.x = q.1 ∧ C.In w' ∧ Below w.heap.size w w' := by
  have Hqv := Lib.hid hqv
  have U1 := Uno.new w
  have h0 : 0 < bs.length := by rw [hbs]; simp
  have hk := k.toNat_lt
  have htl : t.length + 1 = bs.length := by rw [hbs]; rfl
  have hrl : r.length = t.length - k.toNat := by rw [← hdr, List.length_drop]
  have hr := rest_rd hA hbs hdr hle hc
  obtain ⟨ad, rfl, hk0⟩ := hA.at_ (k := 0) h0
  have hkk : bs[0] = k := by simp [hbs]
  rw [hkk, show ad.add 0 = ad from rfl] at hk0
  have hk1 := U1.ext.load hk0
  have hcan := Vint.get_canon hget
  have hxl := hcan.2.2
  have hx1 := hcan.2.1
  have hkl : key.length = k.toNat := by rw [← hkey, List.length_take]; omega
  have hrl2 : rest.length = r.length - x := by rw [← hrest, List.length_drop]
  have hlo : 1 + k.toNat + x ≤ bs.length := by omega
  have hcc : ¬ c = 1 + k.toNat := by omega
  have hc1 : ¬ c = 1 := by omega
  rw [if_neg hcc] at hr
  simp only [Option.map_some] at hr
  have hr0 := hr.below U1.ext
  have H := Lib.hid (fun cp => ref_get01 _ r cp _ hr0 (by omega))
  have hky := hA.cut (k := 1) (m := 1 + k.toNat) (by omega) hle (Nat.le_trans hle hc)
  have e1 : (bs.take (1 + k.toNat)).drop 1 = key := by rw [hbs, Nat.add_comm, List.take_succ_cons, List.drop_succ_cons, List.drop_zero, hkey]
  rw [e1, if_neg hc1] at hky
  simp only [Option.map_some] at hky
  have hrs := hA.tail hlo hc
  have e2 : bs.drop (1 + k.toNat + x) = rest := by rw [← hrest, ← hdr, hbs, List.drop_drop, Nat.add_assoc, Nat.add_comm 1, List.drop_succ_cons]
  rw [e2] at hrs
  have hkyr : Rd w 1 (some (ad.add 1)) k.toNat (bvs key) := by rw [← hkl]; exact hky
  have Hrl : Hid (bs.length - (1 + k.toNat) = r.length) := by show _ = _; omega
  have Hrl2 : Hid (bs.length - (1 + k.toNat + x) = rest.length) := by show _ = _; omega
  have hwn : IntKind.i64.wrap (n : Int) = (n : Int) := by rw [IntKind.wrap_i64]; omega
  have Hkl := Lib.hid hkl
  rw [if_pos hceq] at hrs
  have hrest0 : rest = [] := List.eq_nil_of_length_eq_zero (by omega)
  have Hrest0 := Lib.hid hrest0
  subst hceq
  have Hget := Lib.hid hget
  have Hlf := Lib.hid hlf
  clear hqv hbs hkk hk0 hdr hget hlf hrl hr hcan hkl hrest hkey hky e1 e2 hrl2 hrest0
  go_enter Try.func12, Try.ntmps12
  go_wp2_with fail
  rw [show bs.length - (1 + k.toNat) = r.length from Hrl.out]
  (with_reducible refine (H.out _).mono ?_)
  rintro e w6 ⟨rfl, rfl⟩
  rw [Hget.out]
  simp only [getRes]
  clear H hr0
  obtain ⟨W1, hW1⟩ : ∃ W1, W1 = w.alloc (.cells #[.slice none 0 0, .int .i64 0, .slice none 0 0, .int .u32 0, .int .u32 0] 25) := ⟨_, rfl⟩
  rw [← hW1] at U1 hk1 ⊢
  clear hW1
  have hky1 := (hkyr.below U1.ext).below (Ext.alloc W1 (.cells #[] 5))
  go_wp2_with (first | (at_builtin; refine wpList_app rfl (.tmp 44) (.tmp 47) 22 rfl elemB W1.heap.size _ 0 0 [] rfl _ _ _ (bvs key) rfl k.toNat (by omega) (bvs key) rfl (Own.none_ _ _ _ _ _) (by first | exact hky1 | (rw [show 1 + k.toNat - 1 = k.toNat from by omega]; exact hky1)) (bvs_one _) (by omega) (by omega) (by simp) ?_; intro A3 c3 w3 ho3 hg3 hr3; have hB3 : Ext W1 w3 := below_app (Ext.alloc W1 (.cells #[] 5)) (Own.none_ _ _ 5 1 (some ⟨W1.heap.size, 0, none⟩)) hg3 (by simp); have U3 := U1.below hB3; have D3 := Duo.new U3 #[.slice A3 k.toNat c3, .int .i64 (n : Int), .slice none 0 0, .int .u32 0, .int .u32 0]; have hkb : ∀ i, ownRow A3 c3 = some i → i < w3.heap.size := (fun i hi => (ho3.row_lt i hi).2); have hk3 : ∀ i, ownRow A3 c3 = some i → w.heap.size < i := (fun i hi => by have := (ho3.row_lt i hi).1; have := lt_of_heap U1.row; omega); have hrs3 := hrs.below D3.uno.ext; have hnc3 := ho3.nc; have ho4 := ho3.below (Ext.alloc w3 (.cells #[.slice A3 k.toNat c3, .int .i64 (n : Int), .slice none 0 0, .int .u32 0, .int .u32 0] 25)); clear hg3 hr3 hB3 hky1 U1 hk1) | (at_builtin; have hrs4 := hrs3.below (Ext.alloc _ (.cells #[] 5)); refine wpList_app rfl (.tmp 60) (.tmp 61) 22 rfl elemB (w3.heap.size + 1) _ 0 0 [] rfl _ _ _ (bvs rest) rfl rest.length (by have := Hrl2.out; omega) (bvs rest) rfl (Own.none_ _ _ _ _ _) (by have e := Hrest0.out; subst e; first | exact Rd.nil_ _ _ _ | (rw [show bs.length - (1 + k.toNat + x) = 0 from by omega]; exact Rd.nil_ _ _ _)) (bvs_one _) (by have := Hrl2.out; omega) (by have := Hrl2.out; omega) (by simp) ?_; intro A5 c5 w5 ho5 hg5 hr5; have hB5 : Ext (w3.alloc (.cells #[.slice A3 k.toNat c3, .int .i64 (n : Int), .slice none 0 0, .int .u32 0, .int .u32 0] 25)) w5 := below_app (Ext.alloc _ (.cells #[] 5)) (Own.none_ _ _ 5 1 (some ⟨(w3.alloc (.cells #[.slice A3 k.toNat c3, .int .i64 (n : Int), .slice none 0 0, .int .u32 0, .int .u32 0] 25)).heap.size, 0, none⟩)) hg5 (by simp); have D5 := D3.below hB5; have ho6 := ho4.below hB5; have hcl := D5.cell 2; have hfr := D5.free 2; (simp only [List.getElem?_toArray, List.getElem?_cons_succ, List.getElem?_cons_zero] at hcl); have D6 : Duo w (w5.setCell ⟨w3.heap.size, 2, none⟩ (.slice A5 rest.length c5)) w3.heap.size #[.slice A3 k.toNat c3, .int .i64 (n : Int), .slice A5 rest.length c5, .int .u32 0, .int .u32 0] := D5.store 2 _; have hg6 := D6.row; have ho7 := ho6.setO ⟨w3.heap.size, 2, none⟩ (.slice A5 rest.length c5) (fun i hi => by have := hkb i hi; show i ≠ w3.heap.size; omega); have ho8 := ho5.setO ⟨w3.heap.size, 2, none⟩ (.slice A5 rest.length c5) (fun i hi => by have := (ho5.row_lt i hi).1; show i ≠ w3.heap.size; omega); have hvb : ∀ i, ownRow A5 c5 = some i → w3.heap.size < i := (fun i hi => by have := (ho5.row_lt i hi).1; omega); clear D5 ho6 ho5 hg5 hr5 hB5 hrs4 ho4 D3 hrs3) | (refine wpList_load_row rfl 25 (.tmp 8) rfl w3.heap.size rfl 25 #[.slice A3 k.toNat c3, .int .i64 (n : Int), .slice A5 rest.length c5, .int .u32 0, .int .u32 0] (0, 0) _ hg6 Try.underlying25 rfl (by kernel_rfl) ?_))
  have hL := fun W => ref_Leaf ⟨A3, c3, A5, c5, ⟨key, n, rest, 0, 0⟩⟩ W
  rw [Hlf.out] at hL
  simp only [CellV.val, CellV.cells, Int.natCast_zero, Hkl.out] at hL
  refine (hL _).mono ?_
  rintro e w8 ⟨rfl, hb8⟩
  have D8 := D6.below hb8
  have ho9 := ho7.below hb8
  have ho10 := ho8.below hb8
  clear hL D6 hg6 ho7 ho8 hcl hfr hb8
  have hg8 := D8.row
  have hz8 := D8.uno.row
  go_wp2_with (first | (refine wpList_load_row rfl 25 (.tmp 8) rfl w3.heap.size rfl 25 #[.slice A3 k.toNat c3, .int .i64 (n : Int), .slice A5 rest.length c5, .int .u32 0, .int .u32 0] (0, 0) _ hg8 Try.underlying25 rfl (by kernel_rfl) ?_) | (refine wpList_store_row rfl 25 (.tmp 2) (.tmp 76) rfl w.heap.size #[.slice A3 k.toNat c3, .int .i64 (n : Int), .slice A5 rest.length c5, .int .u32 0, .int .u32 0] rfl rfl _ _ hz8 (by kernel_rfl) rfl (by first | kernel_rfl | simp [Value.oneCell']) ?_))
  have hgz2 := setRow_heap w8 w.heap.size _ #[.slice A3 k.toNat c3, .int .i64 (n : Int), .slice A5 rest.length c5, .int .u32 0, .int .u32 0] _ _ hz8
  (try simp only [Exit.inBlock, Exit.then])
  refine bodyPost_ret (results_row_tmp rfl _ _ w.heap.size 25 #[.slice A3 k.toNat c3, .int .i64 (n : Int), .slice A5 rest.length c5, .int .u32 0, .int .u32 0] (0, 0) _ rfl hgz2 Try.underlying25 rfl (by kernel_rfl)) rfl ?_
  refine ⟨⟨A3, c3, A5, c5, ⟨key, n, rest, 0, 0⟩⟩, ?_, ?_, ?_, ext_row D8.uno.ext (Nat.le_refl _) _⟩
  · rw [Hqv.out]
    simp only [CellV.val, CellV.cells, Int.natCast_zero, List.length_nil, Hkl.out]
    rfl
  · rw [Hqv.out]
  · exact ⟨by show 0 < 4294967296; omega, by show 0 < 4294967296; omega, by show -9223372036854775808 ≤ (n : Int); omega, by show (n : Int) ≤ 9223372036854775807; omega, Own.rd' (ho9.setR w.heap.size #[.slice A3 k.toNat c3, .int .i64 (n : Int), .slice A5 rest.length c5, .int .u32 0, .int .u32 0] (fun i hi => by have := hk3 i hi; omega)), (ho10.setR w.heap.size #[.slice A3 k.toNat c3, .int .i64 (n : Int), .slice A5 rest.length c5, .int .u32 0, .int .u32 0] (fun i hi => by have := hvb i hi; have := D8.far; omega)).rd', by show key.length ≤ c3; rw [Hkl.out]; exact hnc3, ho10.nc⟩

set_option maxRecDepth 100000 in
set_option maxHeartbeats 1000000 in
theorem ref_getLeaf_small00 (A : Option Addr) (bs : List UInt8) (k : UInt8) (t : List UInt8) (c : Nat) (w : World) (hA : RdB w A bs) (hc : bs.length ≤ c) (hl : bs.length ≤ 1000000) (hbs : bs = k :: t) (r : List UInt8) (hdr : t.drop k.toNat = r) (hle : 1 + k.toNat ≤ bs.length) (n x : Nat) (hget : Vint.get r = (n, x, 0)) (hn : n ≤ 1000) (h40 : n ≤ 40) (key : List UInt8) (hkey : t.take k.toNat = key) (rest : List UInt8) (hrest : r.drop x = rest) (hlf : (Cl.mk key n rest 0 0).leaf = false) (hceq : ¬ c = 1 + k.toNat + x) (q : Cl × Nat) (hqv : q = (Cl.zero, 70)) :
    Calls Try.prog 12 #[.slice A bs.length c] w fun e w' => ∃ C : CellV, e = .returned (.tuple #[C.val, .int .i64 (q.2 : Int)]) ∧ C.x = q.1 ∧ C.In w' ∧ Below w.heap.size w w' := by
  have Hqv := Lib.hid hqv
  have U1 := Uno.new w
  have h0 : 0 < bs.length := by rw [hbs]; simp
  have hk := k.toNat_lt
  have htl : t.length + 1 = bs.length := by rw [hbs]; rfl
  have hrl : r.length = t.length - k.toNat := by rw [← hdr, List.length_drop]
  have hr := rest_rd hA hbs hdr hle hc
  obtain ⟨ad, rfl, hk0⟩ := hA.at_ (k := 0) h0
  have hkk : bs[0] = k := by simp [hbs]
  rw [hkk, show ad.add 0 = ad from rfl] at hk0
  have hk1 := U1.ext.load hk0
  have hcan := Vint.get_canon hget
  have hxl := hcan.2.2
  have hx1 := hcan.2.1
  have hkl : key.length = k.toNat := by rw [← hkey, List.length_take]; omega
  have hrl2 : rest.length = r.length - x := by rw [← hrest, List.length_drop]
  have hlo : 1 + k.toNat + x ≤ bs.length := by omega
  have hcc : ¬ c = 1 + k.toNat := by omega
  have hc1 : ¬ c = 1 := by omega
  rw [if_neg hcc] at hr
  simp only [Option.map_some] at hr
  have hr0 := hr.below U1.ext
  have H := Lib.hid (fun cp => ref_get01 _ r cp _ hr0 (by omega))
  have hky := hA.cut (k := 1) (m := 1 + k.toNat) (by omega) hle (Nat.le_trans hle hc)
  have e1 : (bs.take (1 + k.toNat)).drop 1 = key := by rw [hbs, Nat.add_comm, List.take_succ_cons, List.drop_succ_cons, List.drop_zero, hkey]
  rw [e1, if_neg hc1] at hky
  simp only [Option.map_some] at hky
  have hrs := hA.tail hlo hc
  have e2 : bs.drop (1 + k.toNat + x) = rest := by rw [← hrest, ← hdr, hbs, List.drop_drop, Nat.add_assoc, Nat.add_comm 1, List.drop_succ_cons]
  rw [e2] at hrs
  have hkyr : Rd w 1 (some (ad.add 1)) k.toNat (bvs key) := by rw [← hkl]; exact hky
  have Hrl : Hid (bs.length - (1 + k.toNat) = r.length) := by show _ = _; omega
  have Hrl2 : Hid (bs.length - (1 + k.toNat + x) = rest.length) := by show _ = _; omega
  have hwn : IntKind.i64.wrap (n : Int) = (n : Int) := by rw [IntKind.wrap_i64]; omega
  have Hkl := Lib.hid hkl
  rw [if_neg hceq] at hrs
  simp only [Option.map_some] at hrs
  have Hget := Lib.hid hget
  have Hlf := Lib.hid hlf
  clear hqv hbs hkk hk0 hdr hget hlf hrl hr hcan hkl hrest hkey hky e1 e2 hrl2
  go_enter Try.func12, Try.ntmps12
  go_wp2_with fail
  rw [show bs.length - (1 + k.toNat) = r.length from Hrl.out]
  (with_reducible refine (H.out _).mono ?_)
  rintro e w6 ⟨rfl, rfl⟩
  rw [Hget.out]
  simp only [getRes]
  clear H hr0
  obtain ⟨W1, hW1⟩ : ∃ W1, W1 = w.alloc (.cells #[.slice none 0 0, .int .i64 0, .slice none 0 0, .int .u32 0, .int .u32 0] 25) := ⟨_, rfl⟩
  rw [← hW1] at U1 hk1 ⊢
  clear hW1
  have hky1 := (hkyr.below U1.ext).below (Ext.alloc W1 (.cells #[] 5))
  go_wp2_with (first | (at_builtin; refine wpList_app rfl (.tmp 44) (.tmp 47) 22 rfl elemB W1.heap.size _ 0 0 [] rfl _ _ _ (bvs key) rfl k.toNat (by omega) (bvs key) rfl (Own.none_ _ _ _ _ _) (by first | exact hky1 | (rw [show 1 + k.toNat - 1 = k.toNat from by omega]; exact hky1)) (bvs_one _) (by omega) (by omega) (by simp) ?_; intro A3 c3 w3 ho3 hg3 hr3; have hB3 : Ext W1 w3 := below_app (Ext.alloc W1 (.cells #[] 5)) (Own.none_ _ _ 5 1 (some ⟨W1.heap.size, 0, none⟩)) hg3 (by simp); have U3 := U1.below hB3; have D3 := Duo.new U3 #[.slice A3 k.toNat c3, .int .i64 (n : Int), .slice none 0 0, .int .u32 0, .int .u32 0]; have hkb : ∀ i, ownRow A3 c3 = some i → i < w3.heap.size := (fun i hi => (ho3.row_lt i hi).2); have hk3 : ∀ i, ownRow A3 c3 = some i → w.heap.size < i := (fun i hi => by have := (ho3.row_lt i hi).1; have := lt_of_heap U1.row; omega); have hrs3 := hrs.below D3.uno.ext; have hnc3 := ho3.nc; have ho4 := ho3.below (Ext.alloc w3 (.cells #[.slice A3 k.toNat c3, .int .i64 (n : Int), .slice none 0 0, .int .u32 0, .int .u32 0] 25)); clear hg3 hr3 hB3 hky1 U1 hk1) | (at_builtin; have hrs4 := hrs3.below (Ext.alloc _ (.cells #[] 5)); refine wpList_app rfl (.tmp 60) (.tmp 61) 22 rfl elemB (w3.heap.size + 1) _ 0 0 [] rfl _ _ _ (bvs rest) rfl rest.length (by have := Hrl2.out; omega) (bvs rest) rfl (Own.none_ _ _ _ _ _) (by rw [show bs.length - (1 + k.toNat + x) = rest.length from Hrl2.out]; exact hrs4) (bvs_one _) (by have := Hrl2.out; omega) (by have := Hrl2.out; omega) (by simp) ?_; intro A5 c5 w5 ho5 hg5 hr5; have hB5 : Ext (w3.alloc (.cells #[.slice A3 k.toNat c3, .int .i64 (n : Int), .slice none 0 0, .int .u32 0, .int .u32 0] 25)) w5 := below_app (Ext.alloc _ (.cells #[] 5)) (Own.none_ _ _ 5 1 (some ⟨(w3.alloc (.cells #[.slice A3 k.toNat c3, .int .i64 (n : Int), .slice none 0 0, .int .u32 0, .int .u32 0] 25)).heap.size, 0, none⟩)) hg5 (by simp); have D5 := D3.below hB5; have ho6 := ho4.below hB5; have hcl := D5.cell 2; have hfr := D5.free 2; (simp only [List.getElem?_toArray, List.getElem?_cons_succ, List.getElem?_cons_zero] at hcl); have D6 : Duo w (w5.setCell ⟨w3.heap.size, 2, none⟩ (.slice A5 rest.length c5)) w3.heap.size #[.slice A3 k.toNat c3, .int .i64 (n : Int), .slice A5 rest.length c5, .int .u32 0, .int .u32 0] := D5.store 2 _; have hg6 := D6.row; have ho7 := ho6.setO ⟨w3.heap.size, 2, none⟩ (.slice A5 rest.length c5) (fun i hi => by have := hkb i hi; show i ≠ w3.heap.size; omega); have ho8 := ho5.setO ⟨w3.heap.size, 2, none⟩ (.slice A5 rest.length c5) (fun i hi => by have := (ho5.row_lt i hi).1; show i ≠ w3.heap.size; omega); have hvb : ∀ i, ownRow A5 c5 = some i → w3.heap.size < i := (fun i hi => by have := (ho5.row_lt i hi).1; omega); clear D5 ho6 ho5 hg5 hr5 hB5 hrs4 ho4 D3 hrs3) | (refine wpList_load_row rfl 25 (.tmp 8) rfl w3.heap.size rfl 25 #[.slice A3 k.toNat c3, .int .i64 (n : Int), .slice A5 rest.length c5, .int .u32 0, .int .u32 0] (0, 0) _ hg6 Try.underlying25 rfl (by kernel_rfl) ?_))
  have hL := fun W => ref_Leaf ⟨A3, c3, A5, c5, ⟨key, n, rest, 0, 0⟩⟩ W
  rw [Hlf.out] at hL
  simp only [CellV.val, CellV.cells, Int.natCast_zero, Hkl.out] at hL
  refine (hL _).mono ?_
  rintro e w8 ⟨rfl, hb8⟩
  have D8 := D6.below hb8
  have ho9 := ho7.below hb8
  have ho10 := ho8.below hb8
  clear hL D6 hg6 ho7 ho8 hcl hfr hb8
  have U8 := D8.uno
  have hgz := U8.row
  go_wp2_with (refine wpList_store_row rfl 25 (.tmp 2) (.tmp 75) rfl w.heap.size #[.slice none 0 0, .int .i64 0, .slice none 0 0, .int .u32 0, .int .u32 0] rfl rfl _ _ hgz (by kernel_rfl) rfl (by kernel_rfl) ?_)
  have hgz2 := setRow_heap w8 w.heap.size _ #[.slice none 0 0, .int .i64 0, .slice none 0 0, .int .u32 0, .int .u32 0] _ _ hgz
  (try simp only [Exit.inBlock, Exit.then])
  refine bodyPost_ret (results_row_tmp rfl _ _ w.heap.size 25 #[.slice none 0 0, .int .i64 0, .slice none 0 0, .int .u32 0, .int .u32 0] (0, 0) _ rfl hgz2 Try.underlying25 rfl (by kernel_rfl)) rfl ?_
  refine ⟨CellV.zero, ?_, ?_, CellV.zero_in _, ext_row U8.ext (Nat.le_refl _) _⟩
  · rw [Hqv.out]; rfl
  · rw [Hqv.out]; rfl

set_option maxRecDepth 100000 in
set_option maxHeartbeats 1000000 in
theorem ref_getLeaf_small01 (A : Option Addr) (bs : List UInt8) (k : UInt8) (t : List UInt8) (c : Nat) (w : World) (hA : RdB w A bs) (hc : bs.length ≤ c) (hl : bs.length ≤ 1000000) (hbs : bs = k :: t) (r : List UInt8) (hdr : t.drop k.toNat = r) (hle : 1 + k.toNat ≤ bs.length) (n x : Nat) (hget : Vint.get r = (n, x, 0)) (hn : n ≤ 1000) (h40 : n ≤ 40) (key : List UInt8) (hkey : t.take k.toNat = key) (rest : List UInt8) (hrest : r.drop x = rest) (hlf : (Cl.mk key n rest 0 0).leaf = false) (hceq : c = 1 + k.toNat + x) (q : Cl × Nat) (hqv : q = (Cl.zero, 70)) :
    Calls Try.prog 12 #[.slice A bs.length c] w fun e w' => ∃ C : CellV, e = .returned (.tuple #[C.val, .int .i64 (q.2 : Int)]) ∧ C.x = q.1 ∧ C.In w' ∧ Below w.heap.size w w' := by
  have Hqv := Lib.hid hqv
  have U1 := Uno.new w
  have h0 : 0 < bs.length := by rw [hbs]; simp
  have hk := k.toNat_lt
  have htl : t.length + 1 = bs.length := by rw [hbs]; rfl
  have hrl : r.length = t.length - k.toNat := by rw [← hdr, List.length_drop]
  have hr := rest_rd hA hbs hdr hle hc
  obtain ⟨ad, rfl, hk0⟩ := hA.at_ (k := 0) h0
  have hkk : bs[0] = k := by simp [hbs]
  rw [hkk, show ad.add 0 = ad from rfl] at hk0
  have hk1 := U1.ext.load hk0
  have hcan := Vint.get_canon hget
  have hxl := hcan.2.2
  have hx1 := hcan.2.1
  have hkl : key.length = k.toNat := by rw [← hkey, List.length_take]; omega
  have hrl2 : rest.length = r.length - x := by rw [← hrest, List.length_drop]
  have hlo : 1 + k.toNat + x ≤ bs.length := by omega
  have hcc : ¬ c = 1 + k.toNat := by omega
  have hc1 : ¬ c = 1 := by omega
  rw [if_neg hcc] at hr
  simp only [Option.map_some] at hr
  have hr0 := hr.below U1.ext
  have H := Lib.hid (fun cp => ref_get01 _ r cp _ hr0 (by omega))
  have hky := hA.cut (k := 1) (m := 1 + k.toNat) (by omega) hle (Nat.le_trans hle hc)
  have e1 : (bs.take (1 + k.toNat)).drop 1 = key := by rw [hbs, Nat.add_comm, List.take_succ_cons, List.drop_succ_cons, List.drop_zero, hkey]
  rw [e1, if_neg hc1] at hky
  simp only [Option.map_some] at hky
  have hrs := hA.tail hlo hc
  have e2 : bs.drop (1 + k.toNat + x) = rest := by rw [← hrest, ← hdr, hbs, List.drop_drop, Nat.add_assoc, Nat.add_comm 1, List.drop_succ_cons]
  rw [e2] at hrs
  have hkyr : Rd w 1 (some (ad.add 1)) k.toNat (bvs key) := by rw [← hkl]; exact hky
  have Hrl : Hid (bs.length - (1 + k.toNat) = r.length) := by show _ = _; omega
  have Hrl2 : Hid (bs.length - (1 + k.toNat + x) = rest.length) := by show _ = _; omega
  have hwn : IntKind.i64.wrap (n : Int) = (n : Int) := by rw [IntKind.wrap_i64]; omega
  have Hkl := Lib.hid hkl
  rw [if_pos hceq] at hrs
  have hrest0 : rest = [] := List.eq_nil_of_length_eq_zero (by omega)
  have Hrest0 := Lib.hid hrest0
  subst hceq
  have Hget := Lib.hid hget
  have Hlf := Lib.hid hlf
  clear hqv hbs hkk hk0 hdr hget hlf hrl hr hcan hkl hrest hkey hky e1 e2 hrl2 hrest0
  go_enter Try.func12, Try.ntmps12
  go_wp2_with fail
  rw [show bs.length - (1 + k.toNat) = r.length from Hrl.out]
  (with_reducible refine (H.out _).mono ?_)
  rintro e w6 ⟨rfl, rfl⟩
  rw [Hget.out]
  simp only [getRes]
  clear H hr0
  obtain ⟨W1, hW1⟩ : ∃ W1, W1 = w.alloc (.cells #[.slice none 0 0, .int .i64 0, .slice none 0 0, .int .u32 0, .int .u32 0] 25) := ⟨_, rfl⟩
  rw [← hW1] at U1 hk1 ⊢
  clear hW1
  have hky1 := (hkyr.below U1.ext).below (Ext.alloc W1 (.cells #[] 5))
  go_wp2_with (first | (at_builtin; refine wpList_app rfl (.tmp 44) (.tmp 47) 22 rfl elemB W1.heap.size _ 0 0 [] rfl _ _ _ (bvs key) rfl k.toNat (by omega) (bvs key) rfl (Own.none_ _ _ _ _ _) (by first | exact hky1 | (rw [show 1 + k.toNat - 1 = k.toNat from by omega]; exact hky1)) (bvs_one _) (by omega) (by omega) (by simp) ?_; intro A3 c3 w3 ho3 hg3 hr3; have hB3 : Ext W1 w3 := below_app (Ext.alloc W1 (.cells #[] 5)) (Own.none_ _ _ 5 1 (some ⟨W1.heap.size, 0, none⟩)) hg3 (by simp); have U3 := U1.below hB3; have D3 := Duo.new U3 #[.slice A3 k.toNat c3, .int .i64 (n : Int), .slice none 0 0, .int .u32 0, .int .u32 0]; have hkb : ∀ i, ownRow A3 c3 = some i → i < w3.heap.size := (fun i hi => (ho3.row_lt i hi).2); have hk3 : ∀ i, ownRow A3 c3 = some i → w.heap.size < i := (fun i hi => by have := (ho3.row_lt i hi).1; have := lt_of_heap U1.row; omega); have hrs3 := hrs.below D3.uno.ext; have hnc3 := ho3.nc; have ho4 := ho3.below (Ext.alloc w3 (.cells #[.slice A3 k.toNat c3, .int .i64 (n : Int), .slice none 0 0, .int .u32 0, .int .u32 0] 25)); clear hg3 hr3 hB3 hky1 U1 hk1) | (at_builtin; have hrs4 := hrs3.below (Ext.alloc _ (.cells #[] 5)); refine wpList_app rfl (.tmp 60) (.tmp 61) 22 rfl elemB (w3.heap.size + 1) _ 0 0 [] rfl _ _ _ (bvs rest) rfl rest.length (by have := Hrl2.out; omega) (bvs rest) rfl (Own.none_ _ _ _ _ _) (by have e := Hrest0.out; subst e; first | exact Rd.nil_ _ _ _ | (rw [show bs.length - (1 + k.toNat + x) = 0 from by omega]; exact Rd.nil_ _ _ _)) (bvs_one _) (by have := Hrl2.out; omega) (by have := Hrl2.out; omega) (by simp) ?_; intro A5 c5 w5 ho5 hg5 hr5; have hB5 : Ext (w3.alloc (.cells #[.slice A3 k.toNat c3, .int .i64 (n : Int), .slice none 0 0, .int .u32 0, .int .u32 0] 25)) w5 := below_app (Ext.alloc _ (.cells #[] 5)) (Own.none_ _ _ 5 1 (some ⟨(w3.alloc (.cells #[.slice A3 k.toNat c3, .int .i64 (n : Int), .slice none 0 0, .int .u32 0, .int .u32 0] 25)).heap.size, 0, none⟩)) hg5 (by simp); have D5 := D3.below hB5; have ho6 := ho4.below hB5; have hcl := D5.cell 2; have hfr := D5.free 2; (simp only [List.getElem?_toArray, List.getElem?_cons_succ, List.getElem?_cons_zero] at hcl); have D6 : Duo w (w5.setCell ⟨w3.heap.size, 2, none⟩ (.slice A5 rest.length c5)) w3.heap.size #[.slice A3 k.toNat c3, .int .i64 (n : Int), .slice A5 rest.length c5, .int .u32 0, .int .u32 0] := D5.store 2 _; have hg6 := D6.row; have ho7 := ho6.setO ⟨w3.heap.size, 2, none⟩ (.slice A5 rest.length c5) (fun i hi => by have := hkb i hi; show i ≠ w3.heap.size; omega); have ho8 := ho5.setO ⟨w3.heap.size, 2, none⟩ (.slice A5 rest.length c5) (fun i hi => by have := (ho5.row_lt i hi).1; show i ≠ w3.heap.size; omega); have hvb : ∀ i, ownRow A5 c5 = some i → w3.heap.size < i := (fun i hi => by have := (ho5.row_lt i hi).1; omega); clear D5 ho6 ho5 hg5 hr5 hB5 hrs4 ho4 D3 hrs3) | (refine wpList_load_row rfl 25 (.tmp 8) rfl w3.heap.size rfl 25 #[.slice A3 k.toNat c3, .int .i64 (n : Int), .slice A5 rest.length c5, .int .u32 0, .int .u32 0] (0, 0) _ hg6 Try.underlying25 rfl (by kernel_rfl) ?_))
  have hL := fun W => ref_Leaf ⟨A3, c3, A5, c5, ⟨key, n, rest, 0, 0⟩⟩ W
  rw [Hlf.out] at hL
  simp only [CellV.val, CellV.cells, Int.natCast_zero, Hkl.out] at hL
  refine (hL _).mono ?_
  rintro e w8 ⟨rfl, hb8⟩
  have D8 := D6.below hb8
  have ho9 := ho7.below hb8
  have ho10 := ho8.below hb8
  clear hL D6 hg6 ho7 ho8 hcl hfr hb8
  have U8 := D8.uno
  have hgz := U8.row
  go_wp2_with (refine wpList_store_row rfl 25 (.tmp 2) (.tmp 75) rfl w.heap.size #[.slice none 0 0, .int .i64 0, .slice none 0 0, .int .u32 0, .int .u32 0] rfl rfl _ _ hgz (by kernel_rfl) rfl (by kernel_rfl) ?_)
  have hgz2 := setRow_heap w8 w.heap.size _ #[.slice none 0 0, .int .i64 0, .slice none 0 0, .int .u32 0, .int .u32 0] _ _ hgz
  (try simp only [Exit.inBlock, Exit.then])
  refine bodyPost_ret (results_row_tmp rfl _ _ w.heap.size 25 #[.slice none 0 0, .int .i64 0, .slice none 0 0, .int .u32 0, .int .u32 0] (0, 0) _ rfl hgz2 Try.underlying25 rfl (by kernel_rfl)) rfl ?_
  refine ⟨CellV.zero, ?_, ?_, CellV.zero_in _, ext_row U8.ext (Nat.le_refl _) _⟩
  · rw [Hqv.out]; rfl
  · rw [Hqv.out]; rfl

set_option maxRecDepth 100000 in
set_option maxHeartbeats 1000000 in
theorem ref_getLeaf_big10 (A : Option Addr) (bs : List UInt8) (k : UInt8) (t : List UInt8) (c : Nat) (w : World) (hA : RdB w A bs) (hc : bs.length ≤ c) (hl : bs.length ≤ 1000000) (hbs : bs = k :: t) (r : List UInt8) (hdr : t.drop k.toNat = r) (hle : 1 + k.toNat ≤ bs.length) (n x : Nat) (hget : Vint.get r = (n, x, 0)) (hn : n ≤ 1000) (h40 : ¬ n ≤ 40) (key : List UInt8) (hkey : t.take k.toNat = key) (rest : List UInt8) (hrest : r.drop x = rest) (h4 : rest.length = 4) (hlf : (Cl.mk key n [] (Vint.number rest % 4294967296) 0).leaf = true) (hceq : ¬ c = 1 + k.toNat + x) (q : Cl × Nat) (hqv : q = ((Cl.mk key n [] (Vint.number rest % 4294967296) 0), 0)) :
    Calls Try.prog 12 #[.slice A bs.length c] w fun e w' => ∃ C : CellV, e = .returned (.tuple #[C.val, .int .i64 (q.2 : Int)]) ∧ C.x = q.1 ∧ C.In w' ∧ Below w.heap.size w w' := by
  have Hqv := Lib.hid hqv
  have U1 := Uno.new w
  have h0 : 0 < bs.length := by rw [hbs]; simp
  have hk := k.toNat_lt
  have htl : t.length + 1 = bs.length := by rw [hbs]; rfl
  have hrl : r.length = t.length - k.toNat := by rw [← hdr, List.length_drop]
  have hr := rest_rd hA hbs hdr hle hc
  obtain ⟨ad, rfl, hk0⟩ := hA.at_ (k := 0) h0
  have hkk : bs[0] = k := by simp [hbs]
  rw [hkk, show ad.add 0 = ad from rfl] at hk0
  have hk1 := U1.ext.load hk0
  have hcan := Vint.get_canon hget
  have hxl := hcan.2.2
  have hx1 := hcan.2.1
  have hkl : key.length = k.toNat := by rw [← hkey, List.length_take]; omega
  have hrl2 : rest.length = r.length - x := by rw [← hrest, List.length_drop]
  have hlo : 1 + k.toNat + x ≤ bs.length := by omega
  have hcc : ¬ c = 1 + k.toNat := by omega
  have hc1 : ¬ c = 1 := by omega
  rw [if_neg hcc] at hr
  simp only [Option.map_some] at hr
  have hr0 := hr.below U1.ext
  have H := Lib.hid (fun cp => ref_get01 _ r cp _ hr0 (by omega))
  have hky := hA.cut (k := 1) (m := 1 + k.toNat) (by omega) hle (Nat.le_trans hle hc)
  have e1 : (bs.take (1 + k.toNat)).drop 1 = key := by rw [hbs, Nat.add_comm, List.take_succ_cons, List.drop_succ_cons, List.drop_zero, hkey]
  rw [e1, if_neg hc1] at hky
  simp only [Option.map_some] at hky
  have hrs := hA.tail hlo hc
  have e2 : bs.drop (1 + k.toNat + x) = rest := by rw [← hrest, ← hdr, hbs, List.drop_drop, Nat.add_assoc, Nat.add_comm 1, List.drop_succ_cons]
  rw [e2] at hrs
  have hkyr : Rd w 1 (some (ad.add 1)) k.toNat (bvs key) := by rw [← hkl]; exact hky
  have Hrl : Hid (bs.length - (1 + k.toNat) = r.length) := by show _ = _; omega
  have Hrl2 : Hid (bs.length - (1 + k.toNat + x) = rest.length) := by show _ = _; omega
  have hwn : IntKind.i64.wrap (n : Int) = (n : Int) := by rw [IntKind.wrap_i64]; omega
  have Hkl := Lib.hid hkl
  rw [if_neg hceq] at hrs
  simp only [Option.map_some] at hrs
  have Hget := Lib.hid hget
  have Hlf := Lib.hid hlf
  have h4a : bs.length ≤ 1 + k.toNat + x + 4 := by omega
  have h4b : 1 + k.toNat + x + 4 ≤ bs.length := by omega
  have Hb4 : Hid (bs.length - (1 + k.toNat + x) = 4) := by show _ = _; omega
  have hb4 : (((bs.length - (1 + k.toNat + x) : Nat) : Int) != 4) = false := by rw [Hb4.out]; rfl
  clear hqv hbs hkk hk0 hdr hget hlf hrl hr hcan hkl hrest hkey hky e1 e2 hrl2
  go_enter Try.func12, Try.ntmps12
  go_wp2_with fail
  rw [show bs.length - (1 + k.toNat) = r.length from Hrl.out]
  (with_reducible refine (H.out _).mono ?_)
  rintro e w6 ⟨rfl, rfl⟩
  rw [Hget.out]
  simp only [getRes]
  clear H hr0
  obtain ⟨W1, hW1⟩ : ∃ W1, W1 = w.alloc (.cells #[.slice none 0 0, .int .i64 0, .slice none 0 0, .int .u32 0, .int .u32 0] 25) := ⟨_, rfl⟩
  rw [← hW1] at U1 hk1 ⊢
  clear hW1
  have hky1 := (hkyr.below U1.ext).below (Ext.alloc W1 (.cells #[] 5))
  go_wp2_with (at_builtin; refine wpList_app rfl (.tmp 44) (.tmp 47) 22 rfl elemB W1.heap.size _ 0 0 [] rfl _ _ _ (bvs key) rfl k.toNat (by omega) (bvs key) rfl (Own.none_ _ _ _ _ _) (by first | exact hky1 | (rw [show 1 + k.toNat - 1 = k.toNat from by omega]; exact hky1)) (bvs_one _) (by omega) (by omega) (by simp) ?_; intro A3 c3 w3 ho3 hg3 hr3; have hB3 : Ext W1 w3 := below_app (Ext.alloc W1 (.cells #[] 5)) (Own.none_ _ _ 5 1 (some ⟨W1.heap.size, 0, none⟩)) hg3 (by simp); have U3 := U1.below hB3; have D3 := Duo.new U3 #[.slice A3 k.toNat c3, .int .i64 (n : Int), .slice none 0 0, .int .u32 0, .int .u32 0]; have hkb : ∀ i, ownRow A3 c3 = some i → i < w3.heap.size := (fun i hi => (ho3.row_lt i hi).2); have hk3 : ∀ i, ownRow A3 c3 = some i → w.heap.size < i := (fun i hi => by have := (ho3.row_lt i hi).1; have := lt_of_heap U1.row; omega); have hrs3 := hrs.below D3.uno.ext; have hnc3 := ho3.nc; have ho4 := ho3.below (Ext.alloc w3 (.cells #[.slice A3 k.toNat c3, .int .i64 (n : Int), .slice none 0 0, .int .u32 0, .int .u32 0] 25)); clear hg3 hr3 hB3 hky1 U1 hk1)
  rw [show bs.length - (1 + k.toNat + x) = rest.length from Hrl2.out]
  (with_reducible refine (ref_number01 _ rest _ _ hrs3 (by omega)).mono ?_)
  rintro e w9 ⟨rfl, rfl⟩
  have hwv : IntKind.u32.wrap (Vint.number rest : Int) = ((Vint.number rest % 4294967296 : Nat) : Int) := by simp [IntKind.wrap, IntKind.bits, IntKind.signed]
  obtain ⟨v, hv⟩ : ∃ v, v = Vint.number rest % 4294967296 := ⟨_, rfl⟩
  rw [← hv] at hwv Hlf
  (try rw [← hv] at Hqv)
  have hvl : v < 4294967296 := by rw [hv]; exact Nat.mod_lt _ (by omega)
  have D6 := Duo.new U3 #[.slice A3 k.toNat c3, .int .i64 (n : Int), .slice none 0 0, .int .u32 (v : Int), .int .u32 0]
  have ho7 := ho3.below (Ext.alloc w3 (.cells #[.slice A3 k.toNat c3, .int .i64 (n : Int), .slice none 0 0, .int .u32 (v : Int), .int .u32 0] 25))
  clear hv ho4 ho3 U3 D3 hrs3
  go_wp2_with fail
  have hL := fun W => ref_Leaf ⟨A3, c3, none, 0, ⟨key, n, [], v, 0⟩⟩ W
  rw [Hlf.out] at hL
  simp only [CellV.val, CellV.cells, Int.natCast_zero, List.length_nil, Hkl.out] at hL
  refine (hL _).mono ?_
  rintro e w8 ⟨rfl, hb8⟩
  have D8 := D6.below hb8
  have ho9 := ho7.below hb8
  clear hL D6 ho7 hb8
  have hg8 := D8.row
  have hz8 := D8.uno.row
  go_wp2_with (first | (refine wpList_load_row rfl 25 (.tmp 8) rfl w3.heap.size rfl 25 #[.slice A3 k.toNat c3, .int .i64 (n : Int), .slice none 0 0, .int .u32 (v : Int), .int .u32 0] (0, 0) _ hg8 Try.underlying25 rfl (by kernel_rfl) ?_) | (refine wpList_store_row rfl 25 (.tmp 2) (.tmp 76) rfl w.heap.size #[.slice A3 k.toNat c3, .int .i64 (n : Int), .slice none 0 0, .int .u32 (v : Int), .int .u32 0] rfl rfl _ _ hz8 (by kernel_rfl) rfl (by first | kernel_rfl | simp [Value.oneCell']) ?_))
  have hgz2 := setRow_heap w8 w.heap.size _ #[.slice A3 k.toNat c3, .int .i64 (n : Int), .slice none 0 0, .int .u32 (v : Int), .int .u32 0] _ _ hz8
  (try simp only [Exit.inBlock, Exit.then])
  refine bodyPost_ret (results_row_tmp rfl _ _ w.heap.size 25 #[.slice A3 k.toNat c3, .int .i64 (n : Int), .slice none 0 0, .int .u32 (v : Int), .int .u32 0] (0, 0) _ rfl hgz2 Try.underlying25 rfl (by kernel_rfl)) rfl ?_
  refine ⟨⟨A3, c3, none, 0, ⟨key, n, [], v, 0⟩⟩, ?_, ?_, ?_, ext_row D8.uno.ext (Nat.le_refl _) _⟩
  · rw [Hqv.out]
    simp only [CellV.val, CellV.cells, Int.natCast_zero, List.length_nil, Hkl.out]
    rfl
  · rw [Hqv.out]
  · exact ⟨hvl, by show 0 < 4294967296; omega, by show -9223372036854775808 ≤ (n : Int); omega, by show (n : Int) ≤ 9223372036854775807; omega, Own.rd' (ho9.setR w.heap.size #[.slice A3 k.toNat c3, .int .i64 (n : Int), .slice none 0 0, .int .u32 (v : Int), .int .u32 0] (fun i hi => by have := hk3 i hi; omega)), RdB.nil_ _ _, by show key.length ≤ c3; rw [Hkl.out]; exact hnc3, Nat.zero_le _⟩

set_option maxRecDepth 100000 in
set_option maxHeartbeats 1000000 in
theorem ref_getLeaf_big00 (A : Option Addr) (bs : List UInt8) (k : UInt8) (t : List UInt8) (c : Nat) (w : World) (hA : RdB w A bs) (hc : bs.length ≤ c) (hl : bs.length ≤ 1000000) (hbs : bs = k :: t) (r : List UInt8) (hdr : t.drop k.toNat = r) (hle : 1 + k.toNat ≤ bs.length) (n x : Nat) (hget : Vint.get r = (n, x, 0)) (hn : n ≤ 1000) (h40 : ¬ n ≤ 40) (key : List UInt8) (hkey : t.take k.toNat = key) (rest : List UInt8) (hrest : r.drop x = rest) (h4 : rest.length = 4) (hlf : (Cl.mk key n [] (Vint.number rest % 4294967296) 0).leaf = false) (hceq : ¬ c = 1 + k.toNat + x) (q : Cl × Nat) (hqv : q = (Cl.zero, 70)) :
    Calls Try.prog 12 #[.slice A bs.length c] w fun e w' => ∃ C : CellV, e = .returned (.tuple #[C.val, .int .i64 (q.2 : Int)]) ∧ C.x = q.1 ∧ C.In w' ∧ Below w.heap.size w w' := by
  have Hqv := Lib.hid hqv
  have U1 := Uno.new w
  have h0 : 0 < bs.length := by rw [hbs]; simp
  have hk := k.toNat_lt
  have htl : t.length + 1 = bs.length := by rw [hbs]; rfl
  have hrl : r.length = t.length - k.toNat := by rw [← hdr, List.length_drop]
  have hr := rest_rd hA hbs hdr hle hc
  obtain ⟨ad, rfl, hk0⟩ := hA.at_ (k := 0) h0
  have hkk : bs[0] = k := by simp [hbs]
  rw [hkk, show ad.add 0 = ad from rfl] at hk0
  have hk1 := U1.ext.load hk0
  have hcan := Vint.get_canon hget
  have hxl := hcan.2.2
  have hx1 := hcan.2.1
  have hkl : key.length = k.toNat := by rw [← hkey, List.length_take]; omega
  have hrl2 : rest.length = r.length - x := by rw [← hrest, List.length_drop]
  have hlo : 1 + k.toNat + x ≤ bs.length := by omega
  have hcc : ¬ c = 1 + k.toNat := by omega
  have hc1 : ¬ c = 1 := by omega
  rw [if_neg hcc] at hr
  simp only [Option.map_some] at hr
  have hr0 := hr.below U1.ext
  have H := Lib.hid (fun cp => ref_get01 _ r cp _ hr0 (by omega))
  have hky := hA.cut (k := 1) (m := 1 + k.toNat) (by omega) hle (Nat.le_trans hle hc)
  have e1 : (bs.take (1 + k.toNat)).drop 1 = key := by rw [hbs, Nat.add_comm, List.take_succ_cons, List.drop_succ_cons, List.drop_zero, hkey]
  rw [e1, if_neg hc1] at hky
  simp only [Option.map_some] at hky
  have hrs := hA.tail hlo hc
  have e2 : bs.drop (1 + k.toNat + x) = rest := by rw [← hrest, ← hdr, hbs, List.drop_drop, Nat.add_assoc, Nat.add_comm 1, List.drop_succ_cons]
  rw [e2] at hrs
  have hkyr : Rd w 1 (some (ad.add 1)) k.toNat (bvs key) := by rw [← hkl]; exact hky
  have Hrl : Hid (bs.length - (1 + k.toNat) = r.length) := by show _ = _; omega
  have Hrl2 : Hid (bs.length - (1 + k.toNat + x) = rest.length) := by show _ = _; omega
  have hwn : IntKind.i64.wrap (n : Int) = (n : Int) := by rw [IntKind.wrap_i64]; omega
  have Hkl := Lib.hid hkl
  rw [if_neg hceq] at hrs
  simp only [Option.map_some] at hrs
  have Hget := Lib.hid hget
  have Hlf := Lib.hid hlf
  have h4a : bs.length ≤ 1 + k.toNat + x + 4 := by omega
  have h4b : 1 + k.toNat + x + 4 ≤ bs.length := by omega
  have Hb4 : Hid (bs.length - (1 + k.toNat + x) = 4) := by show _ = _; omega
  have hb4 : (((bs.length - (1 + k.toNat + x) : Nat) : Int) != 4) = false := by rw [Hb4.out]; rfl
  clear hqv hbs hkk hk0 hdr hget hlf hrl hr hcan hkl hrest hkey hky e1 e2 hrl2
  go_enter Try.func12, Try.ntmps12
  go_wp2_with fail
  rw [show bs.length - (1 + k.toNat) = r.length from Hrl.out]
  (with_reducible refine (H.out _).mono ?_)
  rintro e w6 ⟨rfl, rfl⟩
  rw [Hget.out]
  simp only [getRes]
  clear H hr0
  obtain ⟨W1, hW1⟩ : ∃ W1, W1 = w.alloc (.cells #[.slice none 0 0, .int .i64 0, .slice none 0 0, .int .u32 0, .int .u32 0] 25) := ⟨_, rfl⟩
  rw [← hW1] at U1 hk1 ⊢
  clear hW1
  have hky1 := (hkyr.below U1.ext).below (Ext.alloc W1 (.cells #[] 5))
  go_wp2_with (at_builtin; refine wpList_app rfl (.tmp 44) (.tmp 47) 22 rfl elemB W1.heap.size _ 0 0 [] rfl _ _ _ (bvs key) rfl k.toNat (by omega) (bvs key) rfl (Own.none_ _ _ _ _ _) (by first | exact hky1 | (rw [show 1 + k.toNat - 1 = k.toNat from by omega]; exact hky1)) (bvs_one _) (by omega) (by omega) (by simp) ?_; intro A3 c3 w3 ho3 hg3 hr3; have hB3 : Ext W1 w3 := below_app (Ext.alloc W1 (.cells #[] 5)) (Own.none_ _ _ 5 1 (some ⟨W1.heap.size, 0, none⟩)) hg3 (by simp); have U3 := U1.below hB3; have D3 := Duo.new U3 #[.slice A3 k.toNat c3, .int .i64 (n : Int), .slice none 0 0, .int .u32 0, .int .u32 0]; have hkb : ∀ i, ownRow A3 c3 = some i → i < w3.heap.size := (fun i hi => (ho3.row_lt i hi).2); have hk3 : ∀ i, ownRow A3 c3 = some i → w.heap.size < i := (fun i hi => by have := (ho3.row_lt i hi).1; have := lt_of_heap U1.row; omega); have hrs3 := hrs.below D3.uno.ext; have hnc3 := ho3.nc; have ho4 := ho3.below (Ext.alloc w3 (.cells #[.slice A3 k.toNat c3, .int .i64 (n : Int), .slice none 0 0, .int .u32 0, .int .u32 0] 25)); clear hg3 hr3 hB3 hky1 U1 hk1)
  rw [show bs.length - (1 + k.toNat + x) = rest.length from Hrl2.out]
  (with_reducible refine (ref_number01 _ rest _ _ hrs3 (by omega)).mono ?_)
  rintro e w9 ⟨rfl, rfl⟩
  have hwv : IntKind.u32.wrap (Vint.number rest : Int) = ((Vint.number rest % 4294967296 : Nat) : Int) := by simp [IntKind.wrap, IntKind.bits, IntKind.signed]
  obtain ⟨v, hv⟩ : ∃ v, v = Vint.number rest % 4294967296 := ⟨_, rfl⟩
  rw [← hv] at hwv Hlf
  (try rw [← hv] at Hqv)
  have hvl : v < 4294967296 := by rw [hv]; exact Nat.mod_lt _ (by omega)
  have D6 := Duo.new U3 #[.slice A3 k.toNat c3, .int .i64 (n : Int), .slice none 0 0, .int .u32 (v : Int), .int .u32 0]
  have ho7 := ho3.below (Ext.alloc w3 (.cells #[.slice A3 k.toNat c3, .int .i64 (n : Int), .slice none 0 0, .int .u32 (v : Int), .int .u32 0] 25))
  clear hv ho4 ho3 U3 D3 hrs3
  go_wp2_with fail
  have hL := fun W => ref_Leaf ⟨A3, c3, none, 0, ⟨key, n, [], v, 0⟩⟩ W
  rw [Hlf.out] at hL
  simp only [CellV.val, CellV.cells, Int.natCast_zero, List.length_nil, Hkl.out] at hL
  refine (hL _).mono ?_
  rintro e w8 ⟨rfl, hb8⟩
  have D8 := D6.below hb8
  have ho9 := ho7.below hb8
  clear hL D6 ho7 hb8
  have U8 := D8.uno
  have hgz := U8.row
  go_wp2_with (refine wpList_store_row rfl 25 (.tmp 2) (.tmp 75) rfl w.heap.size #[.slice none 0 0, .int .i64 0, .slice none 0 0, .int .u32 0, .int .u32 0] rfl rfl _ _ hgz (by kernel_rfl) rfl (by kernel_rfl) ?_)
  have hgz2 := setRow_heap w8 w.heap.size _ #[.slice none 0 0, .int .i64 0, .slice none 0 0, .int .u32 0, .int .u32 0] _ _ hgz
  (try simp only [Exit.inBlock, Exit.then])
  refine bodyPost_ret (results_row_tmp rfl _ _ w.heap.size 25 #[.slice none 0 0, .int .i64 0, .slice none 0 0, .int .u32 0, .int .u32 0] (0, 0) _ rfl hgz2 Try.underlying25 rfl (by kernel_rfl)) rfl ?_
  refine ⟨CellV.zero, ?_, ?_, CellV.zero_in _, ext_row U8.ext (Nat.le_refl _) _⟩
  · rw [Hqv.out]; rfl
  · rw [Hqv.out]; rfl

set_option maxRecDepth 100000 in
set_option maxHeartbeats 1000000 in
theorem ref_getLeaf_no00 (A : Option Addr) (bs : List UInt8) (k : UInt8) (t : List UInt8) (c : Nat) (w : World) (hA : RdB w A bs) (hc : bs.length ≤ c) (hl : bs.length ≤ 1000000) (hbs : bs = k :: t) (r : List UInt8) (hdr : t.drop k.toNat = r) (hle : 1 + k.toNat ≤ bs.length) (n x : Nat) (hget : Vint.get r = (n, x, 0)) (hn : n ≤ 1000) (h40 : ¬ n ≤ 40) (key : List UInt8) (hkey : t.take k.toNat = key) (rest : List UInt8) (hrest : r.drop x = rest) (h4 : ¬ rest.length = 4) (hceq : ¬ c = 1 + k.toNat + x) (q : Cl × Nat) (hqv : q = (Cl.zero, 70)) :
    Calls Try.prog 12 #[.slice A bs.length c] w fun e w' => ∃ C : CellV, e = .returned (.tuple #[C.val, .int .i64 (q.2 : Int)]) ∧ C.x = q.1 ∧ C.In w' ∧ Below w.heap.size w w' := by
  have Hqv := Lib.hid hqv
  have U1 := Uno.new w
  have h0 : 0 < bs.length := by rw [hbs]; simp
  have hk := k.toNat_lt
  have htl : t.length + 1 = bs.length := by rw [hbs]; rfl
  have hrl : r.length = t.length - k.toNat := by rw [← hdr, List.length_drop]
  have hr := rest_rd hA hbs hdr hle hc
  obtain ⟨ad, rfl, hk0⟩ := hA.at_ (k := 0) h0
  have hkk : bs[0] = k := by simp [hbs]
  rw [hkk, show ad.add 0 = ad from rfl] at hk0
  have hk1 := U1.ext.load hk0
  have hcan := Vint.get_canon hget
  have hxl := hcan.2.2
  have hx1 := hcan.2.1
  have hkl : key.length = k.toNat := by rw [← hkey, List.length_take]; omega
  have hrl2 : rest.length = r.length - x := by rw [← hrest, List.length_drop]
  have hlo : 1 + k.toNat + x ≤ bs.length := by omega
  have hcc : ¬ c = 1 + k.toNat := by omega
  have hc1 : ¬ c = 1 := by omega
  rw [if_neg hcc] at hr
  simp only [Option.map_some] at hr
  have hr0 := hr.below U1.ext
  have H := Lib.hid (fun cp => ref_get01 _ r cp _ hr0 (by omega))
  have hky := hA.cut (k := 1) (m := 1 + k.toNat) (by omega) hle (Nat.le_trans hle hc)
  have e1 : (bs.take (1 + k.toNat)).drop 1 = key := by rw [hbs, Nat.add_comm, List.take_succ_cons, List.drop_succ_cons, List.drop_zero, hkey]
  rw [e1, if_neg hc1] at hky
  simp only [Option.map_some] at hky
  have hrs := hA.tail hlo hc
  have e2 : bs.drop (1 + k.toNat + x) = rest := by rw [← hrest, ← hdr, hbs, List.drop_drop, Nat.add_assoc, Nat.add_comm 1, List.drop_succ_cons]
  rw [e2] at hrs
  have hkyr : Rd w 1 (some (ad.add 1)) k.toNat (bvs key) := by rw [← hkl]; exact hky
  have Hrl : Hid (bs.length - (1 + k.toNat) = r.length) := by show _ = _; omega
  have Hrl2 : Hid (bs.length - (1 + k.toNat + x) = rest.length) := by show _ = _; omega
  have hwn : IntKind.i64.wrap (n : Int) = (n : Int) := by rw [IntKind.wrap_i64]; omega
  have Hkl := Lib.hid hkl
  rw [if_neg hceq] at hrs
  simp only [Option.map_some] at hrs
  have Hget := Lib.hid hget
  have hb4 : (((bs.length - (1 + k.toNat + x) : Nat) : Int) != 4) = true := by rw [bne_iff_ne]; omega
  clear hqv hbs hkk hk0 hdr hget hrl hr hcan hkl hrest hkey hky e1 e2 hrl2
  go_enter Try.func12, Try.ntmps12
  go_wp2_with fail
  rw [show bs.length - (1 + k.toNat) = r.length from Hrl.out]
  (with_reducible refine (H.out _).mono ?_)
  rintro e w6 ⟨rfl, rfl⟩
  rw [Hget.out]
  simp only [getRes]
  clear H hr0
  obtain ⟨W1, hW1⟩ : ∃ W1, W1 = w.alloc (.cells #[.slice none 0 0, .int .i64 0, .slice none 0 0, .int .u32 0, .int .u32 0] 25) := ⟨_, rfl⟩
  rw [← hW1] at U1 hk1 ⊢
  clear hW1
  have hky1 := (hkyr.below U1.ext).below (Ext.alloc W1 (.cells #[] 5))
  go_wp2_with (first | (at_builtin; refine wpList_app rfl (.tmp 44) (.tmp 47) 22 rfl elemB W1.heap.size _ 0 0 [] rfl _ _ _ (bvs key) rfl k.toNat (by omega) (bvs key) rfl (Own.none_ _ _ _ _ _) (by first | exact hky1 | (rw [show 1 + k.toNat - 1 = k.toNat from by omega]; exact hky1)) (bvs_one _) (by omega) (by omega) (by simp) ?_; intro A3 c3 w3 ho3 hg3 hr3; have hB3 : Ext W1 w3 := below_app (Ext.alloc W1 (.cells #[] 5)) (Own.none_ _ _ 5 1 (some ⟨W1.heap.size, 0, none⟩)) hg3 (by simp); have U3 := U1.below hB3; have D3 := Duo.new U3 #[.slice A3 k.toNat c3, .int .i64 (n : Int), .slice none 0 0, .int .u32 0, .int .u32 0]; have hkb : ∀ i, ownRow A3 c3 = some i → i < w3.heap.size := (fun i hi => (ho3.row_lt i hi).2); have hk3 : ∀ i, ownRow A3 c3 = some i → w.heap.size < i := (fun i hi => by have := (ho3.row_lt i hi).1; have := lt_of_heap U1.row; omega); have hrs3 := hrs.below D3.uno.ext; have hnc3 := ho3.nc; have ho4 := ho3.below (Ext.alloc w3 (.cells #[.slice A3 k.toNat c3, .int .i64 (n : Int), .slice none 0 0, .int .u32 0, .int .u32 0] 25)); clear hg3 hr3 hB3 hky1 U1 hk1; have hgz := D3.uno.row; have U9 := D3.uno) | (refine wpList_store_row rfl 25 (.tmp 2) (.tmp 67) rfl w.heap.size #[.slice none 0 0, .int .i64 0, .slice none 0 0, .int .u32 0, .int .u32 0] rfl rfl _ _ hgz (by kernel_rfl) rfl (by kernel_rfl) ?_))
  have hgz2 := setRow_heap _ w.heap.size _ #[.slice none 0 0, .int .i64 0, .slice none 0 0, .int .u32 0, .int .u32 0] _ _ hgz
  (try simp only [Exit.inBlock, Exit.then])
  refine bodyPost_ret (results_row_tmp rfl _ _ w.heap.size 25 #[.slice none 0 0, .int .i64 0, .slice none 0 0, .int .u32 0, .int .u32 0] (0, 0) _ rfl hgz2 Try.underlying25 rfl (by kernel_rfl)) rfl ?_
  refine ⟨CellV.zero, ?_, ?_, CellV.zero_in _, ext_row U9.ext (Nat.le_refl _) _⟩
  · rw [Hqv.out]; rfl
  · rw [Hqv.out]; rfl

set_option maxRecDepth 100000 in
set_option maxHeartbeats 1000000 in
theorem ref_getLeaf_no01 (A : Option Addr) (bs : List UInt8) (k : UInt8) (t : List UInt8) (c : Nat) (w : World) (hA : RdB w A bs) (hc : bs.length ≤ c) (hl : bs.length ≤ 1000000) (hbs : bs = k :: t) (r : List UInt8) (hdr : t.drop k.toNat = r) (hle : 1 + k.toNat ≤ bs.length) (n x : Nat) (hget : Vint.get r = (n, x, 0)) (hn : n ≤ 1000) (h40 : ¬ n ≤ 40) (key : List UInt8) (hkey : t.take k.toNat = key) (rest : List UInt8) (hrest : r.drop x = rest) (h4 : ¬ rest.length = 4) (hceq : c = 1 + k.toNat + x) (q : Cl × Nat) (hqv : q = (Cl.zero, 70)) :
    Calls Try.prog 12 #[.slice A bs.length c] w fun e w' => ∃ C : CellV, e = .returned (.tuple #[C.val, .int .i64 (q.2 : Int)]) ∧ C.x = q.1 ∧ C.In w' ∧ Below w.heap.size w w' := by
  have Hqv := Lib.hid hqv
  have U1 := Uno.new w
  have h0 : 0 < bs.length := by rw [hbs]; simp
  have hk := k.toNat_lt
  have htl : t.length + 1 = bs.length := by rw [hbs]; rfl
  have hrl : r.length = t.length - k.toNat := by rw [← hdr, List.length_drop]
  have hr := rest_rd hA hbs hdr hle hc
  obtain ⟨ad, rfl, hk0⟩ := hA.at_ (k := 0) h0
  have hkk : bs[0] = k := by simp [hbs]
  rw [hkk, show ad.add 0 = ad from rfl] at hk0
  have hk1 := U1.ext.load hk0
  have hcan := Vint.get_canon hget
  have hxl := hcan.2.2
  have hx1 := hcan.2.1
  have hkl : key.length = k.toNat := by rw [← hkey, List.length_take]; omega
  have hrl2 : rest.length = r.length - x := by rw [← hrest, List.length_drop]
  have hlo : 1 + k.toNat + x ≤ bs.length := by omega
  have hcc : ¬ c = 1 + k.toNat := by omega
  have hc1 : ¬ c = 1 := by omega
  rw [if_neg hcc] at hr
  simp only [Option.map_some] at hr
  have hr0 := hr.below U1.ext
  have H := Lib.hid (fun cp => ref_get01 _ r cp _ hr0 (by omega))
  have hky := hA.cut (k := 1) (m := 1 + k.toNat) (by omega) hle (Nat.le_trans hle hc)
  have e1 : (bs.take (1 + k.toNat)).drop 1 = key := by rw [hbs, Nat.add_comm, List.take_succ_cons, List.drop_succ_cons, List.drop_zero, hkey]
  rw [e1, if_neg hc1] at hky
  simp only [Option.map_some] at hky
  have hrs := hA.tail hlo hc
  have e2 : bs.drop (1 + k.toNat + x) = rest := by rw [← hrest, ← hdr, hbs, List.drop_drop, Nat.add_assoc, Nat.add_comm 1, List.drop_succ_cons]
  rw [e2] at hrs
  have hkyr : Rd w 1 (some (ad.add 1)) k.toNat (bvs key) := by rw [← hkl]; exact hky
  have Hrl : Hid (bs.length - (1 + k.toNat) = r.length) := by show _ = _; omega
  have Hrl2 : Hid (bs.length - (1 + k.toNat + x) = rest.length) := by show _ = _; omega
  have hwn : IntKind.i64.wrap (n : Int) = (n : Int) := by rw [IntKind.wrap_i64]; omega
  have Hkl := Lib.hid hkl
  rw [if_pos hceq] at hrs
  have hrest0 : rest = [] := List.eq_nil_of_length_eq_zero (by omega)
  have Hrest0 := Lib.hid hrest0
  subst hceq
  have Hget := Lib.hid hget
  have hb4 : (((bs.length - (1 + k.toNat + x) : Nat) : Int) != 4) = true := by rw [bne_iff_ne]; omega
  clear hqv hbs hkk hk0 hdr hget hrl hr hcan hkl hrest hkey hky e1 e2 hrl2 hrest0
  go_enter Try.func12, Try.ntmps12
  go_wp2_with fail
  rw [show bs.length - (1 + k.toNat) = r.length from Hrl.out]
  (with_reducible refine (H.out _).mono ?_)
  rintro e w6 ⟨rfl, rfl⟩
  rw [Hget.out]
  simp only [getRes]
  clear H hr0
  obtain ⟨W1, hW1⟩ : ∃ W1, W1 = w.alloc (.cells #[.slice none 0 0, .int .i64 0, .slice none 0 0, .int .u32 0, .int .u32 0] 25) := ⟨_, rfl⟩
  rw [← hW1] at U1 hk1 ⊢
  clear hW1
  have hky1 := (hkyr.below U1.ext).below (Ext.alloc W1 (.cells #[] 5))
  go_wp2_with (first | (at_builtin; refine wpList_app rfl (.tmp 44) (.tmp 47) 22 rfl elemB W1.heap.size _ 0 0 [] rfl _ _ _ (bvs key) rfl k.toNat (by omega) (bvs key) rfl (Own.none_ _ _ _ _ _) (by first | exact hky1 | (rw [show 1 + k.toNat - 1 = k.toNat from by omega]; exact hky1)) (bvs_one _) (by omega) (by omega) (by simp) ?_; intro A3 c3 w3 ho3 hg3 hr3; have hB3 : Ext W1 w3 := below_app (Ext.alloc W1 (.cells #[] 5)) (Own.none_ _ _ 5 1 (some ⟨W1.heap.size, 0, none⟩)) hg3 (by simp); have U3 := U1.below hB3; have D3 := Duo.new U3 #[.slice A3 k.toNat c3, .int .i64 (n : Int), .slice none 0 0, .int .u32 0, .int .u32 0]; have hkb : ∀ i, ownRow A3 c3 = some i → i < w3.heap.size := (fun i hi => (ho3.row_lt i hi).2); have hk3 : ∀ i, ownRow A3 c3 = some i → w.heap.size < i := (fun i hi => by have := (ho3.row_lt i hi).1; have := lt_of_heap U1.row; omega); have hrs3 := hrs.below D3.uno.ext; have hnc3 := ho3.nc; have ho4 := ho3.below (Ext.alloc w3 (.cells #[.slice A3 k.toNat c3, .int .i64 (n : Int), .slice none 0 0, .int .u32 0, .int .u32 0] 25)); clear hg3 hr3 hB3 hky1 U1 hk1; have hgz := D3.uno.row; have U9 := D3.uno) | (refine wpList_store_row rfl 25 (.tmp 2) (.tmp 67) rfl w.heap.size #[.slice none 0 0, .int .i64 0, .slice none 0 0, .int .u32 0, .int .u32 0] rfl rfl _ _ hgz (by kernel_rfl) rfl (by kernel_rfl) ?_))
  have hgz2 := setRow_heap _ w.heap.size _ #[.slice none 0 0, .int .i64 0, .slice none 0 0, .int .u32 0, .int .u32 0] _ _ hgz
  (try simp only [Exit.inBlock, Exit.then])
  refine bodyPost_ret (results_row_tmp rfl _ _ w.heap.size 25 #[.slice none 0 0, .int .i64 0, .slice none 0 0, .int .u32 0, .int .u32 0] (0, 0) _ rfl hgz2 Try.underlying25 rfl (by kernel_rfl)) rfl ?_
  refine ⟨CellV.zero, ?_, ?_, CellV.zero_in _, ext_row U9.ext (Nat.le_refl _) _⟩
  · rw [Hqv.out]; rfl
  · rw [Hqv.out]; rfl

theorem ref_getLeaf (A : Option Addr) (bs : List UInt8) (c : Nat) (w : World) (hA : RdB w A bs) (hc : bs.length ≤ c) (hl : bs.length ≤ 1000000) :
    Calls Try.prog 12 #[.slice A bs.length c] w fun e w' => ∃ C : CellV, e = .returned (.tuple #[C.val, .int .i64 ((Cl.refL bs).2 : Int)]) ∧ C.x = (Cl.refL bs).1 ∧ C.In w' ∧ Below w.heap.size w w' := by
  obtain ⟨q, hq⟩ : ∃ q, q = Cl.refL bs := ⟨_, rfl⟩
  rw [← hq]
  cases hbs : bs with
  | nil => exact ref_getLeaf_nil A [] c w rfl q (by rw [hq, hbs]; rfl)
  | cons k t =>
    have htl : t.length + 1 = bs.length := by rw [hbs]; rfl
    rw [← hbs]
    have hq' := hq
    rw [hbs] at hq'
    unfold Cl.refL at hq'
    simp only at hq'
    by_cases hle : 1 + k.toNat ≤ bs.length
    · rw [if_neg (by omega)] at hq'
      obtain ⟨n, x, e0, hget⟩ : ∃ n x e0, Vint.get (t.drop k.toNat) = (n, x, e0) := ⟨_, _, _, rfl⟩
      by_cases hbad : e0 ≠ 0 ∨ 1000 < n
      · have hz : q = (Cl.zero, 70) := by
          rw [hq']
          unfold Cl.candL
          simp only [hget]
          rw [if_neg (by omega)]
        by_cases hcc : c = 1 + k.toNat
        · exact ref_getLeaf_bad1 A bs k t c w hA hc hl hbs _ rfl hle n x e0 hget hbad hcc q hz
        · exact ref_getLeaf_bad2 A bs k t c w hA hc hl hbs _ rfl hle n x e0 hget hbad hcc q hz
      · have he0 : e0 = 0 := by omega
        have hn : n ≤ 1000 := by omega
        subst he0
        obtain ⟨rest, hrest⟩ : ∃ rest, rest = (t.drop k.toNat).drop x := ⟨_, rfl⟩
        have hq2 : q = if ((n : Int) ≤ 40 ∨ rest.length = 4) ∧ (Cl.mk (t.take k.toNat) n (if n ≤ 40 then rest else []) (if n ≤ 40 then 0 else Vint.number rest % 4294967296) 0).leaf = true then ((Cl.mk (t.take k.toNat) n (if n ≤ 40 then rest else []) (if n ≤ 40 then 0 else Vint.number rest % 4294967296) 0), 0) else (Cl.zero, 70) := by
          rw [hq']
          unfold Cl.candL
          simp only [hget]
          rw [if_pos ⟨trivial, hn⟩, ← hrest]
        clear hq hq'
        by_cases h40 : n ≤ 40
        · rw [if_pos h40, if_pos h40] at hq2
          cases hlf : (Cl.mk (t.take k.toNat) n rest 0 0).leaf with
          | true =>
            rw [if_pos ⟨.inl (by omega), hlf⟩] at hq2
            by_cases hceq : c = 1 + k.toNat + x
            · exact ref_getLeaf_small11 A bs k t c w hA hc hl hbs _ rfl hle n x hget hn h40 _ rfl rest hrest.symm hlf hceq q hq2
            · exact ref_getLeaf_small10 A bs k t c w hA hc hl hbs _ rfl hle n x hget hn h40 _ rfl rest hrest.symm hlf hceq q hq2
          | false =>
            rw [if_neg (by rw [hlf]; simp)] at hq2
            by_cases hceq : c = 1 + k.toNat + x
            · exact ref_getLeaf_small01 A bs k t c w hA hc hl hbs _ rfl hle n x hget hn h40 _ rfl rest hrest.symm hlf hceq q hq2
            · exact ref_getLeaf_small00 A bs k t c w hA hc hl hbs _ rfl hle n x hget hn h40 _ rfl rest hrest.symm hlf hceq q hq2
        · rw [if_neg h40, if_neg h40] at hq2
          by_cases h4 : rest.length = 4
          · have hcan := Vint.get_canon hget
            have hceq : ¬ c = 1 + k.toNat + x := by
              have : rest.length = t.length - k.toNat - x := by rw [hrest, List.length_drop, List.length_drop]
              omega
            cases hlf : (Cl.mk (t.take k.toNat) n [] (Vint.number rest % 4294967296) 0).leaf with
            | true =>
              rw [if_pos ⟨.inr h4, hlf⟩] at hq2
              exact ref_getLeaf_big10 A bs k t c w hA hc hl hbs _ rfl hle n x hget hn h40 _ rfl rest hrest.symm h4 hlf hceq q hq2
            | false =>
              rw [if_neg (by rw [hlf]; simp)] at hq2
              exact ref_getLeaf_big00 A bs k t c w hA hc hl hbs _ rfl hle n x hget hn h40 _ rfl rest hrest.symm h4 hlf hceq q hq2
          · rw [if_neg (by omega)] at hq2
            by_cases hceq : c = 1 + k.toNat + x
            · exact ref_getLeaf_no01 A bs k t c w hA hc hl hbs _ rfl hle n x hget hn h40 _ rfl rest hrest.symm h4 hceq q hq2
            · exact ref_getLeaf_no00 A bs k t c w hA hc hl hbs _ rfl hle n x hget hn h40 _ rfl rest hrest.symm h4 hceq q hq2
    · rw [if_pos (by omega)] at hq'
      exact ref_getLeaf_short A bs k t c w hA hbs hle q hq'
end Go.Proofs.Ytafffpkjpghnjaa
