/- Texts of the proof, laid together: WrE. -/
import Derived.Test.YtjholekgdnhpkaaGreatDoorZ11
set_option linter.unusedVariables false
set_option linter.unusedSimpArgs false
set_option linter.unusedSectionVars false
namespace Go.Proofs.YtjholekgdnhpkaaGreatDoor
open Go.RowKit
attribute [local go_sem] Oper.semAt_some
def LaidB (b : Bool) (B g : Nat) (bs : List UInt8) (w : World) (e : Ending) (w' : World) : Prop := e = .returned (.bool b) ∧ Lay w' B g bs ∧ Kept B g w w'
set_option maxRecDepth 100000 in
set_option maxHeartbeats 2000000 in
theorem fields_lay_1 (B g : Nat) (bs : List UInt8) (bm : Nat) (M : WmV) (W0 w : World) (h : Lay w B g bs) (hM : MsgAt W0 w B bm M) (hF : M.x.Lays) (hb : bs.length ≤ 1000) (hk : M.kind = 1) :
  Calls Tryz.prog 49 #[.pointer (some ⟨g, 0, none⟩), .pointer (some ⟨bm, 0, none⟩)] w (LaidB true B g (bs ++ M.x.fields) w) := by
 have hBs : B ≤ w.heap.size := by obtain ⟨A, c, h⟩ := h; exact h.size
 have hgl : g < w.heap.size := by obtain ⟨A, c, h⟩ := h; exact lt_of_heap h.row
 have hx0 : Ext w ((w.alloc (.cells #[.pointer (some ⟨g, 0, none⟩)] 85)).alloc (.cells #[.pointer (some ⟨bm, 0, none⟩)] 91)) := Ext.tr (Ext.alloc _ _) (Ext.alloc _ _)
 have hkind : ((w.alloc (.cells #[.pointer (some ⟨g, 0, none⟩)] 85)).alloc (.cells #[.pointer (some ⟨bm, 0, none⟩)] 91)).cell? ⟨bm, 0, none⟩ = some (.int .i64 1) := by rw [← hk]; exact hx0.load (hM.cell (WmV.at0 M))
 have r1 := (Below.heap_alloc (w.alloc (.cells #[.pointer (some ⟨g, 0, none⟩)] 85)) (.cells #[.pointer (some ⟨bm, 0, none⟩)] 91) w.heap.size (by simp)).trans (heap_alloc_new w (.cells #[.pointer (some ⟨g, 0, none⟩)] 85))
 have r2 := heap_alloc_new (w.alloc (.cells #[.pointer (some ⟨g, 0, none⟩)] 85)) (.cells #[.pointer (some ⟨bm, 0, none⟩)] 91)
 rw [World.size_alloc] at r2
 have hkx : M.x.kind = 1 := hk
 have hlo : M.lo.length ≤ 24 := hF.lo
 have hhi : M.hi.length ≤ 24 := hF.hi
 have hp1 := putBytes_len M.lo
 have hp2 := putBytes_len M.hi
 have hel : M.x.ends.length ≤ 68 := by show (Vint.putBytes M.lo ++ Vint.putBytes M.hi).length ≤ 68; rw [List.length_append]; omega
 have hnn : (M.n.toNat : Int) = M.n := Int.toNat_of_nonneg hF.n0
 have hcc : (M.count.toNat : Int) = M.count := Int.toNat_of_nonneg hF.c0
 have hzz : (M.size.toNat : Int) = M.size := Int.toNat_of_nonneg hF.z0
 have hn1 : M.n ≤ 2147483647 := hF.n1
 have hc1 : M.count ≤ 2147483647 := hF.c1
 have hz1 : M.size ≤ 2147483647 := hF.z1
 have hvn := (Vint.put_len M.n.toNat).2
 have hvc := (Vint.put_len M.count.toNat).2
 have hvz := (Vint.put_len M.size.toNat).2
 have hv8 := fixed_len8 M.lsn
 have hfl : ([if M.more then (1 : UInt8) else 0]).length = 1 := rfl
 have hsum := hM.inn.ok.sum
 have hfile := hM.inn.ok.file
 have hHL0 : Lay ((w.alloc (.cells #[.pointer (some ⟨g, 0, none⟩)] 85)).alloc (.cells #[.pointer (some ⟨bm, 0, none⟩)] 91)) B g bs := h.ext hx0
 have hM0 := hM.to (Kept.ext (g := g) hx0 hBs)
 have hK00 := Kept.ext (g := g) hx0 hBs
 go_enter Tryz.func49, Tryz.ntmps49
 go_wp2_with fail
 obtain ⟨U0, hU0⟩ : ∃ U0, U0 = ((w.alloc (.cells #[.pointer (some ⟨g, 0, none⟩)] 85)).alloc (.cells #[.pointer (some ⟨bm, 0, none⟩)] 91)) := ⟨_, rfl⟩
 rw [← hU0] at r1 r2 hHL0 hM0 hK00 ⊢
 have HL0 := Lib.hid hHL0
 have HK0 := Lib.hid (Kept.refl B g U0)
 have HM := Lib.hid hM0
 have HK00 := Lib.hid hK00
 have hs0 : B ≤ U0.heap.size := Nat.le_trans hBs (by have := hK00.below.size; rw [hU0] at this ⊢; exact this)
 clear hHL0 hM0 hM h hx0 hkind hU0 hK00
 go_ret
 have hfin : bs ++ M.x.fields = bs := by
  unfold Wm.fields
  rw [hkx]
  simp [WmV.x, Wm.ends]
  all_goals first | rfl | congr | (by_cases hm : M.more = true <;> simp [hm])
 rw [hfin]
 exact ⟨rfl, HL0.out, HK00.out.tr HK0.out⟩
set_option maxRecDepth 100000 in
set_option maxHeartbeats 2000000 in
theorem fields_lay_2 (B g : Nat) (bs : List UInt8) (bm : Nat) (M : WmV) (W0 w : World) (h : Lay w B g bs) (hM : MsgAt W0 w B bm M) (hF : M.x.Lays) (hb : bs.length ≤ 1000) (hk : M.kind = 2) :
  Calls Tryz.prog 49 #[.pointer (some ⟨g, 0, none⟩), .pointer (some ⟨bm, 0, none⟩)] w (LaidB true B g (bs ++ M.x.fields) w) := by
 have hBs : B ≤ w.heap.size := by obtain ⟨A, c, h⟩ := h; exact h.size
 have hgl : g < w.heap.size := by obtain ⟨A, c, h⟩ := h; exact lt_of_heap h.row
 have hx0 : Ext w ((w.alloc (.cells #[.pointer (some ⟨g, 0, none⟩)] 85)).alloc (.cells #[.pointer (some ⟨bm, 0, none⟩)] 91)) := Ext.tr (Ext.alloc _ _) (Ext.alloc _ _)
 have hkind : ((w.alloc (.cells #[.pointer (some ⟨g, 0, none⟩)] 85)).alloc (.cells #[.pointer (some ⟨bm, 0, none⟩)] 91)).cell? ⟨bm, 0, none⟩ = some (.int .i64 2) := by rw [← hk]; exact hx0.load (hM.cell (WmV.at0 M))
 have r1 := (Below.heap_alloc (w.alloc (.cells #[.pointer (some ⟨g, 0, none⟩)] 85)) (.cells #[.pointer (some ⟨bm, 0, none⟩)] 91) w.heap.size (by simp)).trans (heap_alloc_new w (.cells #[.pointer (some ⟨g, 0, none⟩)] 85))
 have r2 := heap_alloc_new (w.alloc (.cells #[.pointer (some ⟨g, 0, none⟩)] 85)) (.cells #[.pointer (some ⟨bm, 0, none⟩)] 91)
 rw [World.size_alloc] at r2
 have hkx : M.x.kind = 2 := hk
 have hlo : M.lo.length ≤ 24 := hF.lo
 have hhi : M.hi.length ≤ 24 := hF.hi
 have hp1 := putBytes_len M.lo
 have hp2 := putBytes_len M.hi
 have hel : M.x.ends.length ≤ 68 := by show (Vint.putBytes M.lo ++ Vint.putBytes M.hi).length ≤ 68; rw [List.length_append]; omega
 have hnn : (M.n.toNat : Int) = M.n := Int.toNat_of_nonneg hF.n0
 have hcc : (M.count.toNat : Int) = M.count := Int.toNat_of_nonneg hF.c0
 have hzz : (M.size.toNat : Int) = M.size := Int.toNat_of_nonneg hF.z0
 have hn1 : M.n ≤ 2147483647 := hF.n1
 have hc1 : M.count ≤ 2147483647 := hF.c1
 have hz1 : M.size ≤ 2147483647 := hF.z1
 have hvn := (Vint.put_len M.n.toNat).2
 have hvc := (Vint.put_len M.count.toNat).2
 have hvz := (Vint.put_len M.size.toNat).2
 have hv8 := fixed_len8 M.lsn
 have hfl : ([if M.more then (1 : UInt8) else 0]).length = 1 := rfl
 have hsum := hM.inn.ok.sum
 have hfile := hM.inn.ok.file
 have hHL0 : Lay ((w.alloc (.cells #[.pointer (some ⟨g, 0, none⟩)] 85)).alloc (.cells #[.pointer (some ⟨bm, 0, none⟩)] 91)) B g bs := h.ext hx0
 have hM0 := hM.to (Kept.ext (g := g) hx0 hBs)
 have hK00 := Kept.ext (g := g) hx0 hBs
 go_enter Tryz.func49, Tryz.ntmps49
 go_wp2_with fail
 obtain ⟨U0, hU0⟩ : ∃ U0, U0 = ((w.alloc (.cells #[.pointer (some ⟨g, 0, none⟩)] 85)).alloc (.cells #[.pointer (some ⟨bm, 0, none⟩)] 91)) := ⟨_, rfl⟩
 rw [← hU0] at r1 r2 hHL0 hM0 hK00 ⊢
 have HL0 := Lib.hid hHL0
 have HK0 := Lib.hid (Kept.refl B g U0)
 have HM := Lib.hid hM0
 have HK00 := Lib.hid hK00
 have hs0 : B ≤ U0.heap.size := Nat.le_trans hBs (by have := hK00.below.size; rw [hU0] at this ⊢; exact this)
 clear hHL0 hM0 hM h hx0 hkind hU0 hK00
 go_ret
 have hfin : bs ++ M.x.fields = bs := by
  unfold Wm.fields
  rw [hkx]
  simp [WmV.x, Wm.ends]
  all_goals first | rfl | congr | (by_cases hm : M.more = true <;> simp [hm])
 rw [hfin]
 exact ⟨rfl, HL0.out, HK00.out.tr HK0.out⟩
set_option maxRecDepth 100000 in
set_option maxHeartbeats 2000000 in
theorem fields_lay_3 (B g : Nat) (bs : List UInt8) (bm : Nat) (M : WmV) (W0 w : World) (h : Lay w B g bs) (hM : MsgAt W0 w B bm M) (hF : M.x.Lays) (hb : bs.length ≤ 1000) (hk : M.kind = 3) :
  Calls Tryz.prog 49 #[.pointer (some ⟨g, 0, none⟩), .pointer (some ⟨bm, 0, none⟩)] w (LaidB true B g (bs ++ M.x.fields) w) := by
 have hBs : B ≤ w.heap.size := by obtain ⟨A, c, h⟩ := h; exact h.size
 have hgl : g < w.heap.size := by obtain ⟨A, c, h⟩ := h; exact lt_of_heap h.row
 have hx0 : Ext w ((w.alloc (.cells #[.pointer (some ⟨g, 0, none⟩)] 85)).alloc (.cells #[.pointer (some ⟨bm, 0, none⟩)] 91)) := Ext.tr (Ext.alloc _ _) (Ext.alloc _ _)
 have hkind : ((w.alloc (.cells #[.pointer (some ⟨g, 0, none⟩)] 85)).alloc (.cells #[.pointer (some ⟨bm, 0, none⟩)] 91)).cell? ⟨bm, 0, none⟩ = some (.int .i64 3) := by rw [← hk]; exact hx0.load (hM.cell (WmV.at0 M))
 have r1 := (Below.heap_alloc (w.alloc (.cells #[.pointer (some ⟨g, 0, none⟩)] 85)) (.cells #[.pointer (some ⟨bm, 0, none⟩)] 91) w.heap.size (by simp)).trans (heap_alloc_new w (.cells #[.pointer (some ⟨g, 0, none⟩)] 85))
 have r2 := heap_alloc_new (w.alloc (.cells #[.pointer (some ⟨g, 0, none⟩)] 85)) (.cells #[.pointer (some ⟨bm, 0, none⟩)] 91)
 rw [World.size_alloc] at r2
 have hkx : M.x.kind = 3 := hk
 have hlo : M.lo.length ≤ 24 := hF.lo
 have hhi : M.hi.length ≤ 24 := hF.hi
 have hp1 := putBytes_len M.lo
 have hp2 := putBytes_len M.hi
 have hel : M.x.ends.length ≤ 68 := by show (Vint.putBytes M.lo ++ Vint.putBytes M.hi).length ≤ 68; rw [List.length_append]; omega
 have hnn : (M.n.toNat : Int) = M.n := Int.toNat_of_nonneg hF.n0
 have hcc : (M.count.toNat : Int) = M.count := Int.toNat_of_nonneg hF.c0
 have hzz : (M.size.toNat : Int) = M.size := Int.toNat_of_nonneg hF.z0
 have hn1 : M.n ≤ 2147483647 := hF.n1
 have hc1 : M.count ≤ 2147483647 := hF.c1
 have hz1 : M.size ≤ 2147483647 := hF.z1
 have hvn := (Vint.put_len M.n.toNat).2
 have hvc := (Vint.put_len M.count.toNat).2
 have hvz := (Vint.put_len M.size.toNat).2
 have hv8 := fixed_len8 M.lsn
 have hfl : ([if M.more then (1 : UInt8) else 0]).length = 1 := rfl
 have hsum := hM.inn.ok.sum
 have hfile := hM.inn.ok.file
 have hHL0 : Lay ((w.alloc (.cells #[.pointer (some ⟨g, 0, none⟩)] 85)).alloc (.cells #[.pointer (some ⟨bm, 0, none⟩)] 91)) B g bs := h.ext hx0
 have hM0 := hM.to (Kept.ext (g := g) hx0 hBs)
 have hK00 := Kept.ext (g := g) hx0 hBs
 go_enter Tryz.func49, Tryz.ntmps49
 have hT := ends_lay B g bs bm w.heap.size (w.heap.size + 1) M W0 _ hHL0 hM0 r1 r2 (by omega) hlo hhi ⟨by omega, by omega⟩
 have HT := Lib.hid hT
 clear hT
 go_wp2_with (go_at_call 66; refine HT.out.mono ?_; rintro e1 U1 ⟨rfl, hL1, hb1⟩; refine Hid.out ?_)
 clear HT
 obtain ⟨U0, hU0⟩ : ∃ U0, U0 = ((w.alloc (.cells #[.pointer (some ⟨g, 0, none⟩)] 85)).alloc (.cells #[.pointer (some ⟨bm, 0, none⟩)] 91)) := ⟨_, rfl⟩
 rw [← hU0] at r1 r2 hHL0 hM0 hK00 hb1
 have HL0 := Lib.hid hHL0
 have HK0 := Lib.hid (Kept.refl B g U0)
 have HM := Lib.hid hM0
 have HK00 := Lib.hid hK00
 have hs0 : B ≤ U0.heap.size := Nat.le_trans hBs (by have := hK00.below.size; rw [hU0] at this ⊢; exact this)
 clear hHL0 hM0 hM h hx0 hkind hU0 hK00
 refine Lib.hid ?_
 have HK1 := Lib.hid hb1
 have hs1 : B ≤ U1.heap.size := Nat.le_trans hs0 HK1.out.below.size
 obtain ⟨es1, hes1⟩ : ∃ es1, es1 = bs ++ M.x.ends := ⟨_, rfl⟩
 have hl1 : es1.length ≤ bs.length + 68 := by rw [hes1, List.length_append]; omega
 rw [← hes1] at hL1
 have HL1 := Lib.hid hL1
 clear hL1 hb1
 go_wp2_with fail
 go_ret
 have hfin : bs ++ M.x.fields = es1 := by
  unfold Wm.fields
  rw [hkx]
  simp [WmV.x, Wm.ends, hes1]
  all_goals first | rfl | congr | (by_cases hm : M.more = true <;> simp [hm])
 rw [hfin]
 exact ⟨rfl, HL1.out, HK00.out.tr HK1.out⟩
set_option maxRecDepth 100000 in
set_option maxHeartbeats 2000000 in
theorem fields_lay_4 (B g : Nat) (bs : List UInt8) (bm : Nat) (M : WmV) (W0 w : World) (h : Lay w B g bs) (hM : MsgAt W0 w B bm M) (hF : M.x.Lays) (hb : bs.length ≤ 1000) (hk : M.kind = 4) :
  Calls Tryz.prog 49 #[.pointer (some ⟨g, 0, none⟩), .pointer (some ⟨bm, 0, none⟩)] w (LaidB true B g (bs ++ M.x.fields) w) := by
 have hBs : B ≤ w.heap.size := by obtain ⟨A, c, h⟩ := h; exact h.size
 have hgl : g < w.heap.size := by obtain ⟨A, c, h⟩ := h; exact lt_of_heap h.row
 have hx0 : Ext w ((w.alloc (.cells #[.pointer (some ⟨g, 0, none⟩)] 85)).alloc (.cells #[.pointer (some ⟨bm, 0, none⟩)] 91)) := Ext.tr (Ext.alloc _ _) (Ext.alloc _ _)
 have hkind : ((w.alloc (.cells #[.pointer (some ⟨g, 0, none⟩)] 85)).alloc (.cells #[.pointer (some ⟨bm, 0, none⟩)] 91)).cell? ⟨bm, 0, none⟩ = some (.int .i64 4) := by rw [← hk]; exact hx0.load (hM.cell (WmV.at0 M))
 have r1 := (Below.heap_alloc (w.alloc (.cells #[.pointer (some ⟨g, 0, none⟩)] 85)) (.cells #[.pointer (some ⟨bm, 0, none⟩)] 91) w.heap.size (by simp)).trans (heap_alloc_new w (.cells #[.pointer (some ⟨g, 0, none⟩)] 85))
 have r2 := heap_alloc_new (w.alloc (.cells #[.pointer (some ⟨g, 0, none⟩)] 85)) (.cells #[.pointer (some ⟨bm, 0, none⟩)] 91)
 rw [World.size_alloc] at r2
 have hkx : M.x.kind = 4 := hk
 have hlo : M.lo.length ≤ 24 := hF.lo
 have hhi : M.hi.length ≤ 24 := hF.hi
 have hp1 := putBytes_len M.lo
 have hp2 := putBytes_len M.hi
 have hel : M.x.ends.length ≤ 68 := by show (Vint.putBytes M.lo ++ Vint.putBytes M.hi).length ≤ 68; rw [List.length_append]; omega
 have hnn : (M.n.toNat : Int) = M.n := Int.toNat_of_nonneg hF.n0
 have hcc : (M.count.toNat : Int) = M.count := Int.toNat_of_nonneg hF.c0
 have hzz : (M.size.toNat : Int) = M.size := Int.toNat_of_nonneg hF.z0
 have hn1 : M.n ≤ 2147483647 := hF.n1
 have hc1 : M.count ≤ 2147483647 := hF.c1
 have hz1 : M.size ≤ 2147483647 := hF.z1
 have hvn := (Vint.put_len M.n.toNat).2
 have hvc := (Vint.put_len M.count.toNat).2
 have hvz := (Vint.put_len M.size.toNat).2
 have hv8 := fixed_len8 M.lsn
 have hfl : ([if M.more then (1 : UInt8) else 0]).length = 1 := rfl
 have hsum := hM.inn.ok.sum
 have hfile := hM.inn.ok.file
 have hHL0 : Lay ((w.alloc (.cells #[.pointer (some ⟨g, 0, none⟩)] 85)).alloc (.cells #[.pointer (some ⟨bm, 0, none⟩)] 91)) B g bs := h.ext hx0
 have hM0 := hM.to (Kept.ext (g := g) hx0 hBs)
 have hK00 := Kept.ext (g := g) hx0 hBs
 go_enter Tryz.func49, Tryz.ntmps49
 have hT := ends_lay B g bs bm w.heap.size (w.heap.size + 1) M W0 _ hHL0 hM0 r1 r2 (by omega) hlo hhi ⟨by omega, by omega⟩
 have HT := Lib.hid hT
 clear hT
 go_wp2_with (go_at_call 66; refine HT.out.mono ?_; rintro e1 U1 ⟨rfl, hL1, hb1⟩; refine Hid.out ?_)
 clear HT
 obtain ⟨U0, hU0⟩ : ∃ U0, U0 = ((w.alloc (.cells #[.pointer (some ⟨g, 0, none⟩)] 85)).alloc (.cells #[.pointer (some ⟨bm, 0, none⟩)] 91)) := ⟨_, rfl⟩
 rw [← hU0] at r1 r2 hHL0 hM0 hK00 hb1
 have HL0 := Lib.hid hHL0
 have HK0 := Lib.hid (Kept.refl B g U0)
 have HM := Lib.hid hM0
 have HK00 := Lib.hid hK00
 have hs0 : B ≤ U0.heap.size := Nat.le_trans hBs (by have := hK00.below.size; rw [hU0] at this ⊢; exact this)
 clear hHL0 hM0 hM h hx0 hkind hU0 hK00
 refine Lib.hid ?_
 have HK1 := Lib.hid hb1
 have hs1 : B ≤ U1.heap.size := Nat.le_trans hs0 HK1.out.below.size
 obtain ⟨es1, hes1⟩ : ∃ es1, es1 = bs ++ M.x.ends := ⟨_, rfl⟩
 have hl1 : es1.length ≤ bs.length + 68 := by rw [hes1, List.length_append]; omega
 rw [← hes1] at hL1
 have HL1 := Lib.hid hL1
 clear hL1 hb1
 go_wp2_with fail
 go_ret
 have hfin : bs ++ M.x.fields = es1 := by
  unfold Wm.fields
  rw [hkx]
  simp [WmV.x, Wm.ends, hes1]
  all_goals first | rfl | congr | (by_cases hm : M.more = true <;> simp [hm])
 rw [hfin]
 exact ⟨rfl, HL1.out, HK00.out.tr HK1.out⟩
set_option maxRecDepth 100000 in
set_option maxHeartbeats 2000000 in
theorem fields_lay_5 (B g : Nat) (bs : List UInt8) (bm : Nat) (M : WmV) (W0 w : World) (h : Lay w B g bs) (hM : MsgAt W0 w B bm M) (hF : M.x.Lays) (hb : bs.length ≤ 1000) (hk : M.kind = 5) :
  Calls Tryz.prog 49 #[.pointer (some ⟨g, 0, none⟩), .pointer (some ⟨bm, 0, none⟩)] w (LaidB true B g (bs ++ M.x.fields) w) := by
 have hBs : B ≤ w.heap.size := by obtain ⟨A, c, h⟩ := h; exact h.size
 have hgl : g < w.heap.size := by obtain ⟨A, c, h⟩ := h; exact lt_of_heap h.row
 have hx0 : Ext w ((w.alloc (.cells #[.pointer (some ⟨g, 0, none⟩)] 85)).alloc (.cells #[.pointer (some ⟨bm, 0, none⟩)] 91)) := Ext.tr (Ext.alloc _ _) (Ext.alloc _ _)
 have hkind : ((w.alloc (.cells #[.pointer (some ⟨g, 0, none⟩)] 85)).alloc (.cells #[.pointer (some ⟨bm, 0, none⟩)] 91)).cell? ⟨bm, 0, none⟩ = some (.int .i64 5) := by rw [← hk]; exact hx0.load (hM.cell (WmV.at0 M))
 have r1 := (Below.heap_alloc (w.alloc (.cells #[.pointer (some ⟨g, 0, none⟩)] 85)) (.cells #[.pointer (some ⟨bm, 0, none⟩)] 91) w.heap.size (by simp)).trans (heap_alloc_new w (.cells #[.pointer (some ⟨g, 0, none⟩)] 85))
 have r2 := heap_alloc_new (w.alloc (.cells #[.pointer (some ⟨g, 0, none⟩)] 85)) (.cells #[.pointer (some ⟨bm, 0, none⟩)] 91)
 rw [World.size_alloc] at r2
 have hkx : M.x.kind = 5 := hk
 have hlo : M.lo.length ≤ 24 := hF.lo
 have hhi : M.hi.length ≤ 24 := hF.hi
 have hp1 := putBytes_len M.lo
 have hp2 := putBytes_len M.hi
 have hel : M.x.ends.length ≤ 68 := by show (Vint.putBytes M.lo ++ Vint.putBytes M.hi).length ≤ 68; rw [List.length_append]; omega
 have hnn : (M.n.toNat : Int) = M.n := Int.toNat_of_nonneg hF.n0
 have hcc : (M.count.toNat : Int) = M.count := Int.toNat_of_nonneg hF.c0
 have hzz : (M.size.toNat : Int) = M.size := Int.toNat_of_nonneg hF.z0
 have hn1 : M.n ≤ 2147483647 := hF.n1
 have hc1 : M.count ≤ 2147483647 := hF.c1
 have hz1 : M.size ≤ 2147483647 := hF.z1
 have hvn := (Vint.put_len M.n.toNat).2
 have hvc := (Vint.put_len M.count.toNat).2
 have hvz := (Vint.put_len M.size.toNat).2
 have hv8 := fixed_len8 M.lsn
 have hfl : ([if M.more then (1 : UInt8) else 0]).length = 1 := rfl
 have hsum := hM.inn.ok.sum
 have hfile := hM.inn.ok.file
 have hHL0 : Lay ((w.alloc (.cells #[.pointer (some ⟨g, 0, none⟩)] 85)).alloc (.cells #[.pointer (some ⟨bm, 0, none⟩)] 91)) B g bs := h.ext hx0
 have hM0 := hM.to (Kept.ext (g := g) hx0 hBs)
 have hK00 := Kept.ext (g := g) hx0 hBs
 go_enter Tryz.func49, Tryz.ntmps49
 go_wp2_with fail
 obtain ⟨U0, hU0⟩ : ∃ U0, U0 = ((w.alloc (.cells #[.pointer (some ⟨g, 0, none⟩)] 85)).alloc (.cells #[.pointer (some ⟨bm, 0, none⟩)] 91)) := ⟨_, rfl⟩
 rw [← hU0] at r1 r2 hHL0 hM0 hK00 ⊢
 have HL0 := Lib.hid hHL0
 have HK0 := Lib.hid (Kept.refl B g U0)
 have HM := Lib.hid hM0
 have HK00 := Lib.hid hK00
 have hs0 : B ≤ U0.heap.size := Nat.le_trans hBs (by have := hK00.below.size; rw [hU0] at this ⊢; exact this)
 clear hHL0 hM0 hM h hx0 hkind hU0 hK00
 have hD := HL0.out.ext (Ext.drew U0)
 have hMd := HM.out.to (HK0.out.tr (Kept.ext (Ext.drew U0) hs0))
 have hT := number_L hD ⟨bm, 5, none⟩ M.n.toNat (by rw [hnn]; exact hMd.cell (WmV.at5 M)) (by omega) (by omega)
 have HT := Lib.hid hT
 have hq1 : U0.drew.cell? ⟨w.heap.size, 0, none⟩ = some (.pointer (some ⟨g, 0, none⟩)) := cell_of_row U0 _ 0 _ _ _ (HK0.out.rows _ _ _ _ r1 (by decide) (by omega))
 have hq2 : U0.drew.cell? ⟨w.heap.size + 1, 0, none⟩ = some (.pointer (some ⟨bm, 0, none⟩)) := cell_of_row U0 _ 0 _ _ _ (HK0.out.rows _ _ _ _ r2 (by decide) (by omega))
 clear hT hD hMd
 refine rr_start (extW) [2, 3] (by kernel_rfl) ?_
 refine qS 0 rfl ⟨_, fun w' hx => by have hcx := hx.load hq1; (go_simp <;> with_reducible rfl), ?_⟩
 simp only [sP]
 refine qS 1 rfl ⟨_, fun w' hx => by have hcx := hx.load hq2; (go_simp <;> with_reducible rfl), ?_⟩
 simp only [sP]
 refine qAD 2 rfl ?_
 simp only [sP]
 refine qAD 3 rfl ?_
 simp only [sP]
 refine rr_callW 4 (HT.out) rfl (by kernel_rfl) (by kernel_rfl) (by rfl) (by go_simp) ?_
 rintro e1 U1 ⟨rfl, hL1, hb1⟩
 refine ⟨_, rfl, ?_⟩
 simp only [sP]
 refine rr_done (by kernel_rfl) ?_
 have HK1 := Lib.hid ((HK0.out.tr (Kept.ext (Ext.drew U0) hs0)).tr hb1)
 have hs1 : B ≤ U1.heap.size := Nat.le_trans hs0 HK1.out.below.size
 obtain ⟨es1, hes1⟩ : ∃ es1, es1 = bs ++ Vint.put M.n.toNat := ⟨_, rfl⟩
 have hl1 : es1.length ≤ bs.length + 10 := by rw [hes1, List.length_append]; omega
 rw [← hes1] at hL1
 have HL1 := Lib.hid hL1
 clear hL1 hb1 HT hq1 hq2
 go_wp2_with fail
 go_ret
 have hfin : bs ++ M.x.fields = es1 := by
  unfold Wm.fields
  rw [hkx]
  simp [WmV.x, Wm.ends, hes1]
  all_goals first | rfl | congr | (by_cases hm : M.more = true <;> simp [hm])
 rw [hfin]
 exact ⟨rfl, HL1.out, HK00.out.tr HK1.out⟩
set_option maxRecDepth 100000 in
set_option maxHeartbeats 2000000 in
theorem fields_lay_6 (B g : Nat) (bs : List UInt8) (bm : Nat) (M : WmV) (W0 w : World) (h : Lay w B g bs) (hM : MsgAt W0 w B bm M) (hF : M.x.Lays) (hb : bs.length ≤ 1000) (hk : M.kind = 6) :
  Calls Tryz.prog 49 #[.pointer (some ⟨g, 0, none⟩), .pointer (some ⟨bm, 0, none⟩)] w (LaidB true B g (bs ++ M.x.fields) w) := by
 have hBs : B ≤ w.heap.size := by obtain ⟨A, c, h⟩ := h; exact h.size
 have hgl : g < w.heap.size := by obtain ⟨A, c, h⟩ := h; exact lt_of_heap h.row
 have hx0 : Ext w ((w.alloc (.cells #[.pointer (some ⟨g, 0, none⟩)] 85)).alloc (.cells #[.pointer (some ⟨bm, 0, none⟩)] 91)) := Ext.tr (Ext.alloc _ _) (Ext.alloc _ _)
 have hkind : ((w.alloc (.cells #[.pointer (some ⟨g, 0, none⟩)] 85)).alloc (.cells #[.pointer (some ⟨bm, 0, none⟩)] 91)).cell? ⟨bm, 0, none⟩ = some (.int .i64 6) := by rw [← hk]; exact hx0.load (hM.cell (WmV.at0 M))
 have r1 := (Below.heap_alloc (w.alloc (.cells #[.pointer (some ⟨g, 0, none⟩)] 85)) (.cells #[.pointer (some ⟨bm, 0, none⟩)] 91) w.heap.size (by simp)).trans (heap_alloc_new w (.cells #[.pointer (some ⟨g, 0, none⟩)] 85))
 have r2 := heap_alloc_new (w.alloc (.cells #[.pointer (some ⟨g, 0, none⟩)] 85)) (.cells #[.pointer (some ⟨bm, 0, none⟩)] 91)
 rw [World.size_alloc] at r2
 have hkx : M.x.kind = 6 := hk
 have hlo : M.lo.length ≤ 24 := hF.lo
 have hhi : M.hi.length ≤ 24 := hF.hi
 have hp1 := putBytes_len M.lo
 have hp2 := putBytes_len M.hi
 have hel : M.x.ends.length ≤ 68 := by show (Vint.putBytes M.lo ++ Vint.putBytes M.hi).length ≤ 68; rw [List.length_append]; omega
 have hnn : (M.n.toNat : Int) = M.n := Int.toNat_of_nonneg hF.n0
 have hcc : (M.count.toNat : Int) = M.count := Int.toNat_of_nonneg hF.c0
 have hzz : (M.size.toNat : Int) = M.size := Int.toNat_of_nonneg hF.z0
 have hn1 : M.n ≤ 2147483647 := hF.n1
 have hc1 : M.count ≤ 2147483647 := hF.c1
 have hz1 : M.size ≤ 2147483647 := hF.z1
 have hvn := (Vint.put_len M.n.toNat).2
 have hvc := (Vint.put_len M.count.toNat).2
 have hvz := (Vint.put_len M.size.toNat).2
 have hv8 := fixed_len8 M.lsn
 have hfl : ([if M.more then (1 : UInt8) else 0]).length = 1 := rfl
 have hsum := hM.inn.ok.sum
 have hfile := hM.inn.ok.file
 have hHL0 : Lay ((w.alloc (.cells #[.pointer (some ⟨g, 0, none⟩)] 85)).alloc (.cells #[.pointer (some ⟨bm, 0, none⟩)] 91)) B g bs := h.ext hx0
 have hM0 := hM.to (Kept.ext (g := g) hx0 hBs)
 have hK00 := Kept.ext (g := g) hx0 hBs
 go_enter Tryz.func49, Tryz.ntmps49
 go_wp2_with fail
 obtain ⟨U0, hU0⟩ : ∃ U0, U0 = ((w.alloc (.cells #[.pointer (some ⟨g, 0, none⟩)] 85)).alloc (.cells #[.pointer (some ⟨bm, 0, none⟩)] 91)) := ⟨_, rfl⟩
 rw [← hU0] at r1 r2 hHL0 hM0 hK00 ⊢
 have HL0 := Lib.hid hHL0
 have HK0 := Lib.hid (Kept.refl B g U0)
 have HM := Lib.hid hM0
 have HK00 := Lib.hid hK00
 have hs0 : B ≤ U0.heap.size := Nat.le_trans hBs (by have := hK00.below.size; rw [hU0] at this ⊢; exact this)
 clear hHL0 hM0 hM h hx0 hkind hU0 hK00
 have hD := HL0.out.ext (Ext.drew U0)
 have hMd := HM.out.to (HK0.out.tr (Kept.ext (Ext.drew U0) hs0))
 have hT := number_L hD ⟨bm, 5, none⟩ M.n.toNat (by rw [hnn]; exact hMd.cell (WmV.at5 M)) (by omega) (by omega)
 have HT := Lib.hid hT
 have hq1 : U0.drew.cell? ⟨w.heap.size, 0, none⟩ = some (.pointer (some ⟨g, 0, none⟩)) := cell_of_row U0 _ 0 _ _ _ (HK0.out.rows _ _ _ _ r1 (by decide) (by omega))
 have hq2 : U0.drew.cell? ⟨w.heap.size + 1, 0, none⟩ = some (.pointer (some ⟨bm, 0, none⟩)) := cell_of_row U0 _ 0 _ _ _ (HK0.out.rows _ _ _ _ r2 (by decide) (by omega))
 clear hT hD hMd
 refine rr_start (extW) [2, 3] (by kernel_rfl) ?_
 refine qS 0 rfl ⟨_, fun w' hx => by have hcx := hx.load hq1; (go_simp <;> with_reducible rfl), ?_⟩
 simp only [sP]
 refine qS 1 rfl ⟨_, fun w' hx => by have hcx := hx.load hq2; (go_simp <;> with_reducible rfl), ?_⟩
 simp only [sP]
 refine qAD 2 rfl ?_
 simp only [sP]
 refine qAD 3 rfl ?_
 simp only [sP]
 refine rr_callW 4 (HT.out) rfl (by kernel_rfl) (by kernel_rfl) (by rfl) (by go_simp) ?_
 rintro e1 U1 ⟨rfl, hL1, hb1⟩
 refine ⟨_, rfl, ?_⟩
 simp only [sP]
 refine rr_done (by kernel_rfl) ?_
 have HK1 := Lib.hid ((HK0.out.tr (Kept.ext (Ext.drew U0) hs0)).tr hb1)
 have hs1 : B ≤ U1.heap.size := Nat.le_trans hs0 HK1.out.below.size
 obtain ⟨es1, hes1⟩ : ∃ es1, es1 = bs ++ Vint.put M.n.toNat := ⟨_, rfl⟩
 have hl1 : es1.length ≤ bs.length + 10 := by rw [hes1, List.length_append]; omega
 rw [← hes1] at hL1
 have HL1 := Lib.hid hL1
 clear hL1 hb1 HT hq1 hq2
 go_wp2_with fail
 go_ret
 have hfin : bs ++ M.x.fields = es1 := by
  unfold Wm.fields
  rw [hkx]
  simp [WmV.x, Wm.ends, hes1]
  all_goals first | rfl | congr | (by_cases hm : M.more = true <;> simp [hm])
 rw [hfin]
 exact ⟨rfl, HL1.out, HK00.out.tr HK1.out⟩
set_option maxRecDepth 100000 in
set_option maxHeartbeats 2000000 in
theorem fields_lay_17 (B g : Nat) (bs : List UInt8) (bm : Nat) (M : WmV) (W0 w : World) (h : Lay w B g bs) (hM : MsgAt W0 w B bm M) (hF : M.x.Lays) (hb : bs.length ≤ 1000) (hk : M.kind = 17) :
  Calls Tryz.prog 49 #[.pointer (some ⟨g, 0, none⟩), .pointer (some ⟨bm, 0, none⟩)] w (LaidB true B g (bs ++ M.x.fields) w) := by
 have hBs : B ≤ w.heap.size := by obtain ⟨A, c, h⟩ := h; exact h.size
 have hgl : g < w.heap.size := by obtain ⟨A, c, h⟩ := h; exact lt_of_heap h.row
 have hx0 : Ext w ((w.alloc (.cells #[.pointer (some ⟨g, 0, none⟩)] 85)).alloc (.cells #[.pointer (some ⟨bm, 0, none⟩)] 91)) := Ext.tr (Ext.alloc _ _) (Ext.alloc _ _)
 have hkind : ((w.alloc (.cells #[.pointer (some ⟨g, 0, none⟩)] 85)).alloc (.cells #[.pointer (some ⟨bm, 0, none⟩)] 91)).cell? ⟨bm, 0, none⟩ = some (.int .i64 17) := by rw [← hk]; exact hx0.load (hM.cell (WmV.at0 M))
 have r1 := (Below.heap_alloc (w.alloc (.cells #[.pointer (some ⟨g, 0, none⟩)] 85)) (.cells #[.pointer (some ⟨bm, 0, none⟩)] 91) w.heap.size (by simp)).trans (heap_alloc_new w (.cells #[.pointer (some ⟨g, 0, none⟩)] 85))
 have r2 := heap_alloc_new (w.alloc (.cells #[.pointer (some ⟨g, 0, none⟩)] 85)) (.cells #[.pointer (some ⟨bm, 0, none⟩)] 91)
 rw [World.size_alloc] at r2
 have hkx : M.x.kind = 17 := hk
 have hlo : M.lo.length ≤ 24 := hF.lo
 have hhi : M.hi.length ≤ 24 := hF.hi
 have hp1 := putBytes_len M.lo
 have hp2 := putBytes_len M.hi
 have hel : M.x.ends.length ≤ 68 := by show (Vint.putBytes M.lo ++ Vint.putBytes M.hi).length ≤ 68; rw [List.length_append]; omega
 have hnn : (M.n.toNat : Int) = M.n := Int.toNat_of_nonneg hF.n0
 have hcc : (M.count.toNat : Int) = M.count := Int.toNat_of_nonneg hF.c0
 have hzz : (M.size.toNat : Int) = M.size := Int.toNat_of_nonneg hF.z0
 have hn1 : M.n ≤ 2147483647 := hF.n1
 have hc1 : M.count ≤ 2147483647 := hF.c1
 have hz1 : M.size ≤ 2147483647 := hF.z1
 have hvn := (Vint.put_len M.n.toNat).2
 have hvc := (Vint.put_len M.count.toNat).2
 have hvz := (Vint.put_len M.size.toNat).2
 have hv8 := fixed_len8 M.lsn
 have hfl : ([if M.more then (1 : UInt8) else 0]).length = 1 := rfl
 have hsum := hM.inn.ok.sum
 have hfile := hM.inn.ok.file
 have hHL0 : Lay ((w.alloc (.cells #[.pointer (some ⟨g, 0, none⟩)] 85)).alloc (.cells #[.pointer (some ⟨bm, 0, none⟩)] 91)) B g bs := h.ext hx0
 have hM0 := hM.to (Kept.ext (g := g) hx0 hBs)
 have hK00 := Kept.ext (g := g) hx0 hBs
 go_enter Tryz.func49, Tryz.ntmps49
 go_wp2_with fail
 obtain ⟨U0, hU0⟩ : ∃ U0, U0 = ((w.alloc (.cells #[.pointer (some ⟨g, 0, none⟩)] 85)).alloc (.cells #[.pointer (some ⟨bm, 0, none⟩)] 91)) := ⟨_, rfl⟩
 rw [← hU0] at r1 r2 hHL0 hM0 hK00 ⊢
 have HL0 := Lib.hid hHL0
 have HK0 := Lib.hid (Kept.refl B g U0)
 have HM := Lib.hid hM0
 have HK00 := Lib.hid hK00
 have hs0 : B ≤ U0.heap.size := Nat.le_trans hBs (by have := hK00.below.size; rw [hU0] at this ⊢; exact this)
 clear hHL0 hM0 hM h hx0 hkind hU0 hK00
 have hD := HL0.out.ext (Ext.drew U0)
 have hMd := HM.out.to (HK0.out.tr (Kept.ext (Ext.drew U0) hs0))
 have hT := wide_L hD ⟨bm, 6, none⟩ M.lsn (hMd.cell (WmV.at6 M)) (by omega)
 have HT := Lib.hid hT
 have hq1 : U0.drew.cell? ⟨w.heap.size, 0, none⟩ = some (.pointer (some ⟨g, 0, none⟩)) := cell_of_row U0 _ 0 _ _ _ (HK0.out.rows _ _ _ _ r1 (by decide) (by omega))
 have hq2 : U0.drew.cell? ⟨w.heap.size + 1, 0, none⟩ = some (.pointer (some ⟨bm, 0, none⟩)) := cell_of_row U0 _ 0 _ _ _ (HK0.out.rows _ _ _ _ r2 (by decide) (by omega))
 clear hT hD hMd
 refine rr_start (extW) [2, 3] (by kernel_rfl) ?_
 refine qS 0 rfl ⟨_, fun w' hx => by have hcx := hx.load hq1; (go_simp <;> with_reducible rfl), ?_⟩
 simp only [sP]
 refine qS 1 rfl ⟨_, fun w' hx => by have hcx := hx.load hq2; (go_simp <;> with_reducible rfl), ?_⟩
 simp only [sP]
 refine qAD 2 rfl ?_
 simp only [sP]
 refine qAD 3 rfl ?_
 simp only [sP]
 refine rr_callW 4 (HT.out) rfl (by kernel_rfl) (by kernel_rfl) (by rfl) (by go_simp) ?_
 rintro e1 U1 ⟨rfl, hL1, hb1⟩
 refine ⟨_, rfl, ?_⟩
 simp only [sP]
 refine rr_done (by kernel_rfl) ?_
 have HK1 := Lib.hid ((HK0.out.tr (Kept.ext (Ext.drew U0) hs0)).tr hb1)
 have hs1 : B ≤ U1.heap.size := Nat.le_trans hs0 HK1.out.below.size
 obtain ⟨es1, hes1⟩ : ∃ es1, es1 = bs ++ Vint.fixed M.lsn 8 := ⟨_, rfl⟩
 have hl1 : es1.length ≤ bs.length + 8 := by rw [hes1, List.length_append]; omega
 rw [← hes1] at hL1
 have HL1 := Lib.hid hL1
 clear hL1 hb1 HT hq1 hq2
 go_wp2_with fail
 have hD := HL1.out.ext (Ext.drew U1)
 have hMd := HM.out.to (HK1.out.tr (Kept.ext (Ext.drew U1) hs1))
 have hT := number_L hD ⟨bm, 7, none⟩ M.count.toNat (by rw [hcc]; exact hMd.cell (WmV.at7 M)) (by omega) (by omega)
 have HT := Lib.hid hT
 have hq1 : U1.drew.cell? ⟨w.heap.size, 0, none⟩ = some (.pointer (some ⟨g, 0, none⟩)) := cell_of_row U1 _ 0 _ _ _ (HK1.out.rows _ _ _ _ r1 (by decide) (by omega))
 have hq2 : U1.drew.cell? ⟨w.heap.size + 1, 0, none⟩ = some (.pointer (some ⟨bm, 0, none⟩)) := cell_of_row U1 _ 0 _ _ _ (HK1.out.rows _ _ _ _ r2 (by decide) (by omega))
 clear hT hD hMd
 refine rr_start (extW) [2, 3] (by kernel_rfl) ?_
 refine qS 0 rfl ⟨_, fun w' hx => by have hcx := hx.load hq1; (go_simp <;> with_reducible rfl), ?_⟩
 simp only [sP]
 refine qS 1 rfl ⟨_, fun w' hx => by have hcx := hx.load hq2; (go_simp <;> with_reducible rfl), ?_⟩
 simp only [sP]
 refine qAD 2 rfl ?_
 simp only [sP]
 refine qAD 3 rfl ?_
 simp only [sP]
 refine rr_callW 4 (HT.out) rfl (by kernel_rfl) (by kernel_rfl) (by rfl) (by go_simp) ?_
 rintro e2 U2 ⟨rfl, hL2, hb2⟩
 refine ⟨_, rfl, ?_⟩
 simp only [sP]
 refine rr_done (by kernel_rfl) ?_
 have HK2 := Lib.hid ((HK1.out.tr (Kept.ext (Ext.drew U1) hs1)).tr hb2)
 have hs2 : B ≤ U2.heap.size := Nat.le_trans hs0 HK2.out.below.size
 obtain ⟨es2, hes2⟩ : ∃ es2, es2 = es1 ++ Vint.put M.count.toNat := ⟨_, rfl⟩
 have hl2 : es2.length ≤ es1.length + 10 := by rw [hes2, List.length_append]; omega
 rw [← hes2] at hL2
 have HL2 := Lib.hid hL2
 clear hL2 hb2 HT hq1 hq2
 go_wp2_with fail
 have hD := HL2.out.ext (Ext.drew U2)
 have hMd := HM.out.to (HK2.out.tr (Kept.ext (Ext.drew U2) hs2))
 have hT := sum_L hD ⟨bm, 8, none⟩ M.sum (fun j u hj => by
  have hj2 : j < 32 := by have := (List.getElem?_eq_some_iff.1 hj).1; rwa [bvs_len, hsum] at this
  rw [Addr.add_lit]
  exact hMd.cell (by rw [WmV.at8 HM.out.inn.ok j hj2]; exact hj)) hsum (by omega)
 have HT := Lib.hid hT
 have hq1 : U2.drew.cell? ⟨w.heap.size, 0, none⟩ = some (.pointer (some ⟨g, 0, none⟩)) := cell_of_row U2 _ 0 _ _ _ (HK2.out.rows _ _ _ _ r1 (by decide) (by omega))
 have hq2 : U2.drew.cell? ⟨w.heap.size + 1, 0, none⟩ = some (.pointer (some ⟨bm, 0, none⟩)) := cell_of_row U2 _ 0 _ _ _ (HK2.out.rows _ _ _ _ r2 (by decide) (by omega))
 clear hT hD hMd
 refine rr_start (extW) [2, 3] (by kernel_rfl) ?_
 refine qS 0 rfl ⟨_, fun w' hx => by have hcx := hx.load hq1; (go_simp <;> with_reducible rfl), ?_⟩
 simp only [sP]
 refine qS 1 rfl ⟨_, fun w' hx => by have hcx := hx.load hq2; (go_simp <;> with_reducible rfl), ?_⟩
 simp only [sP]
 refine qAD 2 rfl ?_
 simp only [sP]
 refine qAD 3 rfl ?_
 simp only [sP]
 refine rr_callW 4 (HT.out) rfl (by kernel_rfl) (by kernel_rfl) (by rfl) (by go_simp) ?_
 rintro e3 U3 ⟨rfl, hL3, hb3⟩
 refine ⟨_, rfl, ?_⟩
 simp only [sP]
 refine rr_done (by kernel_rfl) ?_
 have HK3 := Lib.hid ((HK2.out.tr (Kept.ext (Ext.drew U2) hs2)).tr hb3)
 have hs3 : B ≤ U3.heap.size := Nat.le_trans hs0 HK3.out.below.size
 obtain ⟨es3, hes3⟩ : ∃ es3, es3 = es2 ++ M.sum := ⟨_, rfl⟩
 have hl3 : es3.length ≤ es2.length + 32 := by rw [hes3, List.length_append]; omega
 rw [← hes3] at hL3
 have HL3 := Lib.hid hL3
 clear hL3 hb3 HT hq1 hq2
 go_wp2_with fail
 have hD := HL3.out.ext (Ext.drew U3)
 have hMd := HM.out.to (HK3.out.tr (Kept.ext (Ext.drew U3) hs3))
 have hT := number_L hD ⟨bm, 40, none⟩ M.size.toNat (by rw [hzz]; exact hMd.cell (WmV.at40 HM.out.inn.ok)) (by omega) (by omega)
 have HT := Lib.hid hT
 have hq1 : U3.drew.cell? ⟨w.heap.size, 0, none⟩ = some (.pointer (some ⟨g, 0, none⟩)) := cell_of_row U3 _ 0 _ _ _ (HK3.out.rows _ _ _ _ r1 (by decide) (by omega))
 have hq2 : U3.drew.cell? ⟨w.heap.size + 1, 0, none⟩ = some (.pointer (some ⟨bm, 0, none⟩)) := cell_of_row U3 _ 0 _ _ _ (HK3.out.rows _ _ _ _ r2 (by decide) (by omega))
 clear hT hD hMd
 refine rr_start (extW) [2, 3] (by kernel_rfl) ?_
 refine qS 0 rfl ⟨_, fun w' hx => by have hcx := hx.load hq1; (go_simp <;> with_reducible rfl), ?_⟩
 simp only [sP]
 refine qS 1 rfl ⟨_, fun w' hx => by have hcx := hx.load hq2; (go_simp <;> with_reducible rfl), ?_⟩
 simp only [sP]
 refine qAD 2 rfl ?_
 simp only [sP]
 refine qAD 3 rfl ?_
 simp only [sP]
 refine rr_callW 4 (HT.out) rfl (by kernel_rfl) (by kernel_rfl) (by rfl) (by go_simp) ?_
 rintro e4 U4 ⟨rfl, hL4, hb4⟩
 refine ⟨_, rfl, ?_⟩
 simp only [sP]
 refine rr_done (by kernel_rfl) ?_
 have HK4 := Lib.hid ((HK3.out.tr (Kept.ext (Ext.drew U3) hs3)).tr hb4)
 have hs4 : B ≤ U4.heap.size := Nat.le_trans hs0 HK4.out.below.size
 obtain ⟨es4, hes4⟩ : ∃ es4, es4 = es3 ++ Vint.put M.size.toNat := ⟨_, rfl⟩
 have hl4 : es4.length ≤ es3.length + 10 := by rw [hes4, List.length_append]; omega
 rw [← hes4] at hL4
 have HL4 := Lib.hid hL4
 clear hL4 hb4 HT hq1 hq2
 go_wp2_with fail
 have hD := HL4.out.ext (Ext.drew U4)
 have hMd := HM.out.to (HK4.out.tr (Kept.ext (Ext.drew U4) hs4))
 have hT := sum_L hD ⟨bm, 41, none⟩ M.file (fun j u hj => by
  have hj2 : j < 32 := by have := (List.getElem?_eq_some_iff.1 hj).1; rwa [bvs_len, hfile] at this
  rw [Addr.add_lit]
  exact hMd.cell (by rw [WmV.at41 HM.out.inn.ok j hj2]; exact hj)) hfile (by omega)
 have HT := Lib.hid hT
 have hq1 : U4.drew.cell? ⟨w.heap.size, 0, none⟩ = some (.pointer (some ⟨g, 0, none⟩)) := cell_of_row U4 _ 0 _ _ _ (HK4.out.rows _ _ _ _ r1 (by decide) (by omega))
 have hq2 : U4.drew.cell? ⟨w.heap.size + 1, 0, none⟩ = some (.pointer (some ⟨bm, 0, none⟩)) := cell_of_row U4 _ 0 _ _ _ (HK4.out.rows _ _ _ _ r2 (by decide) (by omega))
 clear hT hD hMd
 refine rr_start (extW) [2, 3] (by kernel_rfl) ?_
 refine qS 0 rfl ⟨_, fun w' hx => by have hcx := hx.load hq1; (go_simp <;> with_reducible rfl), ?_⟩
 simp only [sP]
 refine qS 1 rfl ⟨_, fun w' hx => by have hcx := hx.load hq2; (go_simp <;> with_reducible rfl), ?_⟩
 simp only [sP]
 refine qAD 2 rfl ?_
 simp only [sP]
 refine qAD 3 rfl ?_
 simp only [sP]
 refine rr_callW 4 (HT.out) rfl (by kernel_rfl) (by kernel_rfl) (by rfl) (by go_simp) ?_
 rintro e5 U5 ⟨rfl, hL5, hb5⟩
 refine ⟨_, rfl, ?_⟩
 simp only [sP]
 refine rr_done (by kernel_rfl) ?_
 have HK5 := Lib.hid ((HK4.out.tr (Kept.ext (Ext.drew U4) hs4)).tr hb5)
 have hs5 : B ≤ U5.heap.size := Nat.le_trans hs0 HK5.out.below.size
 obtain ⟨es5, hes5⟩ : ∃ es5, es5 = es4 ++ M.file := ⟨_, rfl⟩
 have hl5 : es5.length ≤ es4.length + 32 := by rw [hes5, List.length_append]; omega
 rw [← hes5] at hL5
 have HL5 := Lib.hid hL5
 clear hL5 hb5 HT hq1 hq2
 go_wp2_with fail
 go_ret
 have hfin : bs ++ M.x.fields = es5 := by
  unfold Wm.fields
  rw [hkx]
  simp [WmV.x, Wm.ends, hes5, hes4, hes3, hes2, hes1]
  all_goals first | rfl | congr | (by_cases hm : M.more = true <;> simp [hm])
 rw [hfin]
 exact ⟨rfl, HL5.out, HK00.out.tr HK5.out⟩
set_option maxRecDepth 100000 in
set_option maxHeartbeats 2000000 in
theorem fields_lay_18 (B g : Nat) (bs : List UInt8) (bm : Nat) (M : WmV) (W0 w : World) (h : Lay w B g bs) (hM : MsgAt W0 w B bm M) (hF : M.x.Lays) (hb : bs.length ≤ 1000) (hk : M.kind = 18) :
  Calls Tryz.prog 49 #[.pointer (some ⟨g, 0, none⟩), .pointer (some ⟨bm, 0, none⟩)] w (LaidB true B g (bs ++ M.x.fields) w) := by
 have hBs : B ≤ w.heap.size := by obtain ⟨A, c, h⟩ := h; exact h.size
 have hgl : g < w.heap.size := by obtain ⟨A, c, h⟩ := h; exact lt_of_heap h.row
 have hx0 : Ext w ((w.alloc (.cells #[.pointer (some ⟨g, 0, none⟩)] 85)).alloc (.cells #[.pointer (some ⟨bm, 0, none⟩)] 91)) := Ext.tr (Ext.alloc _ _) (Ext.alloc _ _)
 have hkind : ((w.alloc (.cells #[.pointer (some ⟨g, 0, none⟩)] 85)).alloc (.cells #[.pointer (some ⟨bm, 0, none⟩)] 91)).cell? ⟨bm, 0, none⟩ = some (.int .i64 18) := by rw [← hk]; exact hx0.load (hM.cell (WmV.at0 M))
 have r1 := (Below.heap_alloc (w.alloc (.cells #[.pointer (some ⟨g, 0, none⟩)] 85)) (.cells #[.pointer (some ⟨bm, 0, none⟩)] 91) w.heap.size (by simp)).trans (heap_alloc_new w (.cells #[.pointer (some ⟨g, 0, none⟩)] 85))
 have r2 := heap_alloc_new (w.alloc (.cells #[.pointer (some ⟨g, 0, none⟩)] 85)) (.cells #[.pointer (some ⟨bm, 0, none⟩)] 91)
 rw [World.size_alloc] at r2
 have hkx : M.x.kind = 18 := hk
 have hlo : M.lo.length ≤ 24 := hF.lo
 have hhi : M.hi.length ≤ 24 := hF.hi
 have hp1 := putBytes_len M.lo
 have hp2 := putBytes_len M.hi
 have hel : M.x.ends.length ≤ 68 := by show (Vint.putBytes M.lo ++ Vint.putBytes M.hi).length ≤ 68; rw [List.length_append]; omega
 have hnn : (M.n.toNat : Int) = M.n := Int.toNat_of_nonneg hF.n0
 have hcc : (M.count.toNat : Int) = M.count := Int.toNat_of_nonneg hF.c0
 have hzz : (M.size.toNat : Int) = M.size := Int.toNat_of_nonneg hF.z0
 have hn1 : M.n ≤ 2147483647 := hF.n1
 have hc1 : M.count ≤ 2147483647 := hF.c1
 have hz1 : M.size ≤ 2147483647 := hF.z1
 have hvn := (Vint.put_len M.n.toNat).2
 have hvc := (Vint.put_len M.count.toNat).2
 have hvz := (Vint.put_len M.size.toNat).2
 have hv8 := fixed_len8 M.lsn
 have hfl : ([if M.more then (1 : UInt8) else 0]).length = 1 := rfl
 have hsum := hM.inn.ok.sum
 have hfile := hM.inn.ok.file
 have hHL0 : Lay ((w.alloc (.cells #[.pointer (some ⟨g, 0, none⟩)] 85)).alloc (.cells #[.pointer (some ⟨bm, 0, none⟩)] 91)) B g bs := h.ext hx0
 have hM0 := hM.to (Kept.ext (g := g) hx0 hBs)
 have hK00 := Kept.ext (g := g) hx0 hBs
 go_enter Tryz.func49, Tryz.ntmps49
 go_wp2_with fail
 obtain ⟨U0, hU0⟩ : ∃ U0, U0 = ((w.alloc (.cells #[.pointer (some ⟨g, 0, none⟩)] 85)).alloc (.cells #[.pointer (some ⟨bm, 0, none⟩)] 91)) := ⟨_, rfl⟩
 rw [← hU0] at r1 r2 hHL0 hM0 hK00 ⊢
 have HL0 := Lib.hid hHL0
 have HK0 := Lib.hid (Kept.refl B g U0)
 have HM := Lib.hid hM0
 have HK00 := Lib.hid hK00
 have hs0 : B ≤ U0.heap.size := Nat.le_trans hBs (by have := hK00.below.size; rw [hU0] at this ⊢; exact this)
 clear hHL0 hM0 hM h hx0 hkind hU0 hK00
 have hD := HL0.out.ext (Ext.drew U0)
 have hMd := HM.out.to (HK0.out.tr (Kept.ext (Ext.drew U0) hs0))
 have hT := subs_lay B g bs ⟨bm, 73, none⟩ M.sa M.sc M.subs W0 _ hD (by rw [cell_of_row _ _ _ _ _ _ HM.out.row]; exact WmV.at73 HM.out.inn.ok) HM.out.inn.sr hMd.ext HM.out.base (by have := hF.subs; simpa [WmV.x] using this) (fun s hs => hF.sub _ (List.mem_map.2 ⟨s, hs, rfl⟩)) (by omega)
 have HT := Lib.hid hT
 have hq1 : U0.drew.cell? ⟨w.heap.size, 0, none⟩ = some (.pointer (some ⟨g, 0, none⟩)) := cell_of_row U0 _ 0 _ _ _ (HK0.out.rows _ _ _ _ r1 (by decide) (by omega))
 have hq2 : U0.drew.cell? ⟨w.heap.size + 1, 0, none⟩ = some (.pointer (some ⟨bm, 0, none⟩)) := cell_of_row U0 _ 0 _ _ _ (HK0.out.rows _ _ _ _ r2 (by decide) (by omega))
 clear hT hD hMd
 refine rr_start (extW) [2, 3] (by kernel_rfl) ?_
 refine qS 0 rfl ⟨_, fun w' hx => by have hcx := hx.load hq1; (go_simp <;> with_reducible rfl), ?_⟩
 simp only [sP]
 refine qS 1 rfl ⟨_, fun w' hx => by have hcx := hx.load hq2; (go_simp <;> with_reducible rfl), ?_⟩
 simp only [sP]
 refine qAD 2 rfl ?_
 simp only [sP]
 refine qAD 3 rfl ?_
 simp only [sP]
 refine rr_callW 4 (HT.out) rfl (by kernel_rfl) (by kernel_rfl) (by rfl) (by go_simp) ?_
 rintro e1 U1 ⟨rfl, hL1, hb1⟩
 refine ⟨_, rfl, ?_⟩
 simp only [sP]
 refine rr_done (by kernel_rfl) ?_
 have HK1 := Lib.hid ((HK0.out.tr (Kept.ext (Ext.drew U0) hs0)).tr hb1)
 have hs1 : B ≤ U1.heap.size := Nat.le_trans hs0 HK1.out.below.size
 obtain ⟨es1, hes1⟩ : ∃ es1, es1 = bs ++ Ws.layL (M.subs.map WsV.x) := ⟨_, rfl⟩
 have hl1 : es1.length ≤ bs.length + (Ws.layL (M.subs.map WsV.x)).length := by rw [hes1, List.length_append]; omega
 rw [← hes1] at hL1
 have HL1 := Lib.hid hL1
 clear hL1 hb1 HT hq1 hq2
 go_wp2_with fail
 go_ret
 have hfin : bs ++ M.x.fields = es1 := by
  unfold Wm.fields
  rw [hkx]
  simp [WmV.x, Wm.ends, hes1]
  all_goals first | rfl | congr | (by_cases hm : M.more = true <;> simp [hm])
 rw [hfin]
 exact ⟨rfl, HL1.out, HK00.out.tr HK1.out⟩
set_option maxRecDepth 100000 in
set_option maxHeartbeats 2000000 in
theorem fields_lay_19 (B g : Nat) (bs : List UInt8) (bm : Nat) (M : WmV) (W0 w : World) (h : Lay w B g bs) (hM : MsgAt W0 w B bm M) (hF : M.x.Lays) (hb : bs.length ≤ 1000) (hk : M.kind = 19) :
  Calls Tryz.prog 49 #[.pointer (some ⟨g, 0, none⟩), .pointer (some ⟨bm, 0, none⟩)] w (LaidB true B g (bs ++ M.x.fields) w) := by
 have hBs : B ≤ w.heap.size := by obtain ⟨A, c, h⟩ := h; exact h.size
 have hgl : g < w.heap.size := by obtain ⟨A, c, h⟩ := h; exact lt_of_heap h.row
 have hx0 : Ext w ((w.alloc (.cells #[.pointer (some ⟨g, 0, none⟩)] 85)).alloc (.cells #[.pointer (some ⟨bm, 0, none⟩)] 91)) := Ext.tr (Ext.alloc _ _) (Ext.alloc _ _)
 have hkind : ((w.alloc (.cells #[.pointer (some ⟨g, 0, none⟩)] 85)).alloc (.cells #[.pointer (some ⟨bm, 0, none⟩)] 91)).cell? ⟨bm, 0, none⟩ = some (.int .i64 19) := by rw [← hk]; exact hx0.load (hM.cell (WmV.at0 M))
 have r1 := (Below.heap_alloc (w.alloc (.cells #[.pointer (some ⟨g, 0, none⟩)] 85)) (.cells #[.pointer (some ⟨bm, 0, none⟩)] 91) w.heap.size (by simp)).trans (heap_alloc_new w (.cells #[.pointer (some ⟨g, 0, none⟩)] 85))
 have r2 := heap_alloc_new (w.alloc (.cells #[.pointer (some ⟨g, 0, none⟩)] 85)) (.cells #[.pointer (some ⟨bm, 0, none⟩)] 91)
 rw [World.size_alloc] at r2
 have hkx : M.x.kind = 19 := hk
 have hlo : M.lo.length ≤ 24 := hF.lo
 have hhi : M.hi.length ≤ 24 := hF.hi
 have hp1 := putBytes_len M.lo
 have hp2 := putBytes_len M.hi
 have hel : M.x.ends.length ≤ 68 := by show (Vint.putBytes M.lo ++ Vint.putBytes M.hi).length ≤ 68; rw [List.length_append]; omega
 have hnn : (M.n.toNat : Int) = M.n := Int.toNat_of_nonneg hF.n0
 have hcc : (M.count.toNat : Int) = M.count := Int.toNat_of_nonneg hF.c0
 have hzz : (M.size.toNat : Int) = M.size := Int.toNat_of_nonneg hF.z0
 have hn1 : M.n ≤ 2147483647 := hF.n1
 have hc1 : M.count ≤ 2147483647 := hF.c1
 have hz1 : M.size ≤ 2147483647 := hF.z1
 have hvn := (Vint.put_len M.n.toNat).2
 have hvc := (Vint.put_len M.count.toNat).2
 have hvz := (Vint.put_len M.size.toNat).2
 have hv8 := fixed_len8 M.lsn
 have hfl : ([if M.more then (1 : UInt8) else 0]).length = 1 := rfl
 have hsum := hM.inn.ok.sum
 have hfile := hM.inn.ok.file
 have hHL0 : Lay ((w.alloc (.cells #[.pointer (some ⟨g, 0, none⟩)] 85)).alloc (.cells #[.pointer (some ⟨bm, 0, none⟩)] 91)) B g bs := h.ext hx0
 have hM0 := hM.to (Kept.ext (g := g) hx0 hBs)
 have hK00 := Kept.ext (g := g) hx0 hBs
 go_enter Tryz.func49, Tryz.ntmps49
 have hT := ends_lay B g bs bm w.heap.size (w.heap.size + 1) M W0 _ hHL0 hM0 r1 r2 (by omega) hlo hhi ⟨by omega, by omega⟩
 have HT := Lib.hid hT
 clear hT
 go_wp2_with (go_at_call 66; refine HT.out.mono ?_; rintro e1 U1 ⟨rfl, hL1, hb1⟩; refine Hid.out ?_)
 clear HT
 obtain ⟨U0, hU0⟩ : ∃ U0, U0 = ((w.alloc (.cells #[.pointer (some ⟨g, 0, none⟩)] 85)).alloc (.cells #[.pointer (some ⟨bm, 0, none⟩)] 91)) := ⟨_, rfl⟩
 rw [← hU0] at r1 r2 hHL0 hM0 hK00 hb1
 have HL0 := Lib.hid hHL0
 have HK0 := Lib.hid (Kept.refl B g U0)
 have HM := Lib.hid hM0
 have HK00 := Lib.hid hK00
 have hs0 : B ≤ U0.heap.size := Nat.le_trans hBs (by have := hK00.below.size; rw [hU0] at this ⊢; exact this)
 clear hHL0 hM0 hM h hx0 hkind hU0 hK00
 refine Lib.hid ?_
 have HK1 := Lib.hid hb1
 have hs1 : B ≤ U1.heap.size := Nat.le_trans hs0 HK1.out.below.size
 obtain ⟨es1, hes1⟩ : ∃ es1, es1 = bs ++ M.x.ends := ⟨_, rfl⟩
 have hl1 : es1.length ≤ bs.length + 68 := by rw [hes1, List.length_append]; omega
 rw [← hes1] at hL1
 have HL1 := Lib.hid hL1
 clear hL1 hb1
 go_wp2_with fail
 have hD := HL1.out.ext (Ext.drew U1)
 have hMd := HM.out.to (HK1.out.tr (Kept.ext (Ext.drew U1) hs1))
 have hT := subs_lay B g es1 ⟨bm, 73, none⟩ M.sa M.sc M.subs W0 _ hD (by rw [cell_of_row _ _ _ _ _ _ HM.out.row]; exact WmV.at73 HM.out.inn.ok) HM.out.inn.sr hMd.ext HM.out.base (by have := hF.subs; simpa [WmV.x] using this) (fun s hs => hF.sub _ (List.mem_map.2 ⟨s, hs, rfl⟩)) (by omega)
 have HT := Lib.hid hT
 have hq1 : U1.drew.cell? ⟨w.heap.size, 0, none⟩ = some (.pointer (some ⟨g, 0, none⟩)) := cell_of_row U1 _ 0 _ _ _ (HK1.out.rows _ _ _ _ r1 (by decide) (by omega))
 have hq2 : U1.drew.cell? ⟨w.heap.size + 1, 0, none⟩ = some (.pointer (some ⟨bm, 0, none⟩)) := cell_of_row U1 _ 0 _ _ _ (HK1.out.rows _ _ _ _ r2 (by decide) (by omega))
 clear hT hD hMd
 refine rr_start (extW) [2, 3] (by kernel_rfl) ?_
 refine qS 0 rfl ⟨_, fun w' hx => by have hcx := hx.load hq1; (go_simp <;> with_reducible rfl), ?_⟩
 simp only [sP]
 refine qS 1 rfl ⟨_, fun w' hx => by have hcx := hx.load hq2; (go_simp <;> with_reducible rfl), ?_⟩
 simp only [sP]
 refine qAD 2 rfl ?_
 simp only [sP]
 refine qAD 3 rfl ?_
 simp only [sP]
 refine rr_callW 4 (HT.out) rfl (by kernel_rfl) (by kernel_rfl) (by rfl) (by go_simp) ?_
 rintro e2 U2 ⟨rfl, hL2, hb2⟩
 refine ⟨_, rfl, ?_⟩
 simp only [sP]
 refine rr_done (by kernel_rfl) ?_
 have HK2 := Lib.hid ((HK1.out.tr (Kept.ext (Ext.drew U1) hs1)).tr hb2)
 have hs2 : B ≤ U2.heap.size := Nat.le_trans hs0 HK2.out.below.size
 obtain ⟨es2, hes2⟩ : ∃ es2, es2 = es1 ++ Ws.layL (M.subs.map WsV.x) := ⟨_, rfl⟩
 have hl2 : es2.length ≤ es1.length + (Ws.layL (M.subs.map WsV.x)).length := by rw [hes2, List.length_append]; omega
 rw [← hes2] at hL2
 have HL2 := Lib.hid hL2
 clear hL2 hb2 HT hq1 hq2
 go_wp2_with fail
 go_ret
 have hfin : bs ++ M.x.fields = es2 := by
  unfold Wm.fields
  rw [hkx]
  simp [WmV.x, Wm.ends, hes2, hes1]
  all_goals first | rfl | congr | (by_cases hm : M.more = true <;> simp [hm])
 rw [hfin]
 exact ⟨rfl, HL2.out, HK00.out.tr HK2.out⟩
set_option maxRecDepth 100000 in
set_option maxHeartbeats 2000000 in
theorem fields_lay_20 (B g : Nat) (bs : List UInt8) (bm : Nat) (M : WmV) (W0 w : World) (h : Lay w B g bs) (hM : MsgAt W0 w B bm M) (hF : M.x.Lays) (hb : bs.length ≤ 1000) (hk : M.kind = 20) :
  Calls Tryz.prog 49 #[.pointer (some ⟨g, 0, none⟩), .pointer (some ⟨bm, 0, none⟩)] w (LaidB true B g (bs ++ M.x.fields) w) := by
 have hBs : B ≤ w.heap.size := by obtain ⟨A, c, h⟩ := h; exact h.size
 have hgl : g < w.heap.size := by obtain ⟨A, c, h⟩ := h; exact lt_of_heap h.row
 have hx0 : Ext w ((w.alloc (.cells #[.pointer (some ⟨g, 0, none⟩)] 85)).alloc (.cells #[.pointer (some ⟨bm, 0, none⟩)] 91)) := Ext.tr (Ext.alloc _ _) (Ext.alloc _ _)
 have hkind : ((w.alloc (.cells #[.pointer (some ⟨g, 0, none⟩)] 85)).alloc (.cells #[.pointer (some ⟨bm, 0, none⟩)] 91)).cell? ⟨bm, 0, none⟩ = some (.int .i64 20) := by rw [← hk]; exact hx0.load (hM.cell (WmV.at0 M))
 have r1 := (Below.heap_alloc (w.alloc (.cells #[.pointer (some ⟨g, 0, none⟩)] 85)) (.cells #[.pointer (some ⟨bm, 0, none⟩)] 91) w.heap.size (by simp)).trans (heap_alloc_new w (.cells #[.pointer (some ⟨g, 0, none⟩)] 85))
 have r2 := heap_alloc_new (w.alloc (.cells #[.pointer (some ⟨g, 0, none⟩)] 85)) (.cells #[.pointer (some ⟨bm, 0, none⟩)] 91)
 rw [World.size_alloc] at r2
 have hkx : M.x.kind = 20 := hk
 have hlo : M.lo.length ≤ 24 := hF.lo
 have hhi : M.hi.length ≤ 24 := hF.hi
 have hp1 := putBytes_len M.lo
 have hp2 := putBytes_len M.hi
 have hel : M.x.ends.length ≤ 68 := by show (Vint.putBytes M.lo ++ Vint.putBytes M.hi).length ≤ 68; rw [List.length_append]; omega
 have hnn : (M.n.toNat : Int) = M.n := Int.toNat_of_nonneg hF.n0
 have hcc : (M.count.toNat : Int) = M.count := Int.toNat_of_nonneg hF.c0
 have hzz : (M.size.toNat : Int) = M.size := Int.toNat_of_nonneg hF.z0
 have hn1 : M.n ≤ 2147483647 := hF.n1
 have hc1 : M.count ≤ 2147483647 := hF.c1
 have hz1 : M.size ≤ 2147483647 := hF.z1
 have hvn := (Vint.put_len M.n.toNat).2
 have hvc := (Vint.put_len M.count.toNat).2
 have hvz := (Vint.put_len M.size.toNat).2
 have hv8 := fixed_len8 M.lsn
 have hfl : ([if M.more then (1 : UInt8) else 0]).length = 1 := rfl
 have hsum := hM.inn.ok.sum
 have hfile := hM.inn.ok.file
 have hHL0 : Lay ((w.alloc (.cells #[.pointer (some ⟨g, 0, none⟩)] 85)).alloc (.cells #[.pointer (some ⟨bm, 0, none⟩)] 91)) B g bs := h.ext hx0
 have hM0 := hM.to (Kept.ext (g := g) hx0 hBs)
 have hK00 := Kept.ext (g := g) hx0 hBs
 go_enter Tryz.func49, Tryz.ntmps49
 have hT := ends_lay B g bs bm w.heap.size (w.heap.size + 1) M W0 _ hHL0 hM0 r1 r2 (by omega) hlo hhi ⟨by omega, by omega⟩
 have HT := Lib.hid hT
 clear hT
 go_wp2_with (go_at_call 66; refine HT.out.mono ?_; rintro e1 U1 ⟨rfl, hL1, hb1⟩; refine Hid.out ?_)
 clear HT
 obtain ⟨U0, hU0⟩ : ∃ U0, U0 = ((w.alloc (.cells #[.pointer (some ⟨g, 0, none⟩)] 85)).alloc (.cells #[.pointer (some ⟨bm, 0, none⟩)] 91)) := ⟨_, rfl⟩
 rw [← hU0] at r1 r2 hHL0 hM0 hK00 hb1
 have HL0 := Lib.hid hHL0
 have HK0 := Lib.hid (Kept.refl B g U0)
 have HM := Lib.hid hM0
 have HK00 := Lib.hid hK00
 have hs0 : B ≤ U0.heap.size := Nat.le_trans hBs (by have := hK00.below.size; rw [hU0] at this ⊢; exact this)
 clear hHL0 hM0 hM h hx0 hkind hU0 hK00
 refine Lib.hid ?_
 have HK1 := Lib.hid hb1
 have hs1 : B ≤ U1.heap.size := Nat.le_trans hs0 HK1.out.below.size
 obtain ⟨es1, hes1⟩ : ∃ es1, es1 = bs ++ M.x.ends := ⟨_, rfl⟩
 have hl1 : es1.length ≤ bs.length + 68 := by rw [hes1, List.length_append]; omega
 rw [← hes1] at hL1
 have HL1 := Lib.hid hL1
 clear hL1 hb1
 go_wp2_with fail
 have hD := HL1.out.ext (Ext.drew U1)
 have hMd := HM.out.to (HK1.out.tr (Kept.ext (Ext.drew U1) hs1))
 have hT := flag_L hD ⟨bm, 74, none⟩ M.more (hMd.cell (WmV.at74 HM.out.inn.ok)) (by omega)
 have HT := Lib.hid hT
 have hq1 : U1.drew.cell? ⟨w.heap.size, 0, none⟩ = some (.pointer (some ⟨g, 0, none⟩)) := cell_of_row U1 _ 0 _ _ _ (HK1.out.rows _ _ _ _ r1 (by decide) (by omega))
 have hq2 : U1.drew.cell? ⟨w.heap.size + 1, 0, none⟩ = some (.pointer (some ⟨bm, 0, none⟩)) := cell_of_row U1 _ 0 _ _ _ (HK1.out.rows _ _ _ _ r2 (by decide) (by omega))
 clear hT hD hMd
 refine rr_start (extW) [2, 3] (by kernel_rfl) ?_
 refine qS 0 rfl ⟨_, fun w' hx => by have hcx := hx.load hq1; (go_simp <;> with_reducible rfl), ?_⟩
 simp only [sP]
 refine qS 1 rfl ⟨_, fun w' hx => by have hcx := hx.load hq2; (go_simp <;> with_reducible rfl), ?_⟩
 simp only [sP]
 refine qAD 2 rfl ?_
 simp only [sP]
 refine qAD 3 rfl ?_
 simp only [sP]
 refine rr_callW 4 (HT.out) rfl (by kernel_rfl) (by kernel_rfl) (by rfl) (by go_simp) ?_
 rintro e2 U2 ⟨rfl, hL2, hb2⟩
 refine ⟨_, rfl, ?_⟩
 simp only [sP]
 refine rr_done (by kernel_rfl) ?_
 have HK2 := Lib.hid ((HK1.out.tr (Kept.ext (Ext.drew U1) hs1)).tr hb2)
 have hs2 : B ≤ U2.heap.size := Nat.le_trans hs0 HK2.out.below.size
 obtain ⟨es2, hes2⟩ : ∃ es2, es2 = es1 ++ [if M.more then 1 else 0] := ⟨_, rfl⟩
 have hl2 : es2.length ≤ es1.length + 1 := by rw [hes2, List.length_append]; omega
 rw [← hes2] at hL2
 have HL2 := Lib.hid hL2
 clear hL2 hb2 HT hq1 hq2
 go_wp2_with fail
 have hD := HL2.out.ext (Ext.drew U2)
 have hMd := HM.out.to (HK2.out.tr (Kept.ext (Ext.drew U2) hs2))
 have hT := entries_L hD ⟨bm, 75, none⟩ M.ea M.ec M.ents (hMd.cell (WmV.at75 HM.out.inn.ok)) hMd.inw.er (by have := hF.ents; simpa [WmV.x] using this) (by omega)
 have HT := Lib.hid hT
 have hq1 : U2.drew.cell? ⟨w.heap.size, 0, none⟩ = some (.pointer (some ⟨g, 0, none⟩)) := cell_of_row U2 _ 0 _ _ _ (HK2.out.rows _ _ _ _ r1 (by decide) (by omega))
 have hq2 : U2.drew.cell? ⟨w.heap.size + 1, 0, none⟩ = some (.pointer (some ⟨bm, 0, none⟩)) := cell_of_row U2 _ 0 _ _ _ (HK2.out.rows _ _ _ _ r2 (by decide) (by omega))
 clear hT hD hMd
 refine rr_start (extW) [2, 3] (by kernel_rfl) ?_
 refine qS 0 rfl ⟨_, fun w' hx => by have hcx := hx.load hq1; (go_simp <;> with_reducible rfl), ?_⟩
 simp only [sP]
 refine qS 1 rfl ⟨_, fun w' hx => by have hcx := hx.load hq2; (go_simp <;> with_reducible rfl), ?_⟩
 simp only [sP]
 refine qAD 2 rfl ?_
 simp only [sP]
 refine qAD 3 rfl ?_
 simp only [sP]
 refine rr_callW 4 (HT.out) rfl (by kernel_rfl) (by kernel_rfl) (by rfl) (by go_simp) ?_
 rintro e3 U3 ⟨rfl, hL3, hb3⟩
 refine ⟨_, rfl, ?_⟩
 simp only [sP]
 refine rr_done (by kernel_rfl) ?_
 have HK3 := Lib.hid ((HK2.out.tr (Kept.ext (Ext.drew U2) hs2)).tr hb3)
 have hs3 : B ≤ U3.heap.size := Nat.le_trans hs0 HK3.out.below.size
 obtain ⟨es3, hes3⟩ : ∃ es3, es3 = es2 ++ Ent.putAll (M.ents.map EnV.x) := ⟨_, rfl⟩
 have hl3 : es3.length ≤ es2.length + (Ent.putAll (M.ents.map EnV.x)).length := by rw [hes3, List.length_append]; omega
 rw [← hes3] at hL3
 have HL3 := Lib.hid hL3
 clear hL3 hb3 HT hq1 hq2
 go_wp2_with fail
 go_ret
 have hfin : bs ++ M.x.fields = es3 := by
  unfold Wm.fields
  rw [hkx]
  simp [WmV.x, Wm.ends, hes3, hes2, hes1]
  all_goals first | rfl | congr | (by_cases hm : M.more = true <;> simp [hm])
 rw [hfin]
 exact ⟨rfl, HL3.out, HK00.out.tr HK3.out⟩
set_option maxRecDepth 100000 in
set_option maxHeartbeats 2000000 in
theorem fields_lay_21 (B g : Nat) (bs : List UInt8) (bm : Nat) (M : WmV) (W0 w : World) (h : Lay w B g bs) (hM : MsgAt W0 w B bm M) (hF : M.x.Lays) (hb : bs.length ≤ 1000) (hk : M.kind = 21) :
  Calls Tryz.prog 49 #[.pointer (some ⟨g, 0, none⟩), .pointer (some ⟨bm, 0, none⟩)] w (LaidB true B g (bs ++ M.x.fields) w) := by
 have hBs : B ≤ w.heap.size := by obtain ⟨A, c, h⟩ := h; exact h.size
 have hgl : g < w.heap.size := by obtain ⟨A, c, h⟩ := h; exact lt_of_heap h.row
 have hx0 : Ext w ((w.alloc (.cells #[.pointer (some ⟨g, 0, none⟩)] 85)).alloc (.cells #[.pointer (some ⟨bm, 0, none⟩)] 91)) := Ext.tr (Ext.alloc _ _) (Ext.alloc _ _)
 have hkind : ((w.alloc (.cells #[.pointer (some ⟨g, 0, none⟩)] 85)).alloc (.cells #[.pointer (some ⟨bm, 0, none⟩)] 91)).cell? ⟨bm, 0, none⟩ = some (.int .i64 21) := by rw [← hk]; exact hx0.load (hM.cell (WmV.at0 M))
 have r1 := (Below.heap_alloc (w.alloc (.cells #[.pointer (some ⟨g, 0, none⟩)] 85)) (.cells #[.pointer (some ⟨bm, 0, none⟩)] 91) w.heap.size (by simp)).trans (heap_alloc_new w (.cells #[.pointer (some ⟨g, 0, none⟩)] 85))
 have r2 := heap_alloc_new (w.alloc (.cells #[.pointer (some ⟨g, 0, none⟩)] 85)) (.cells #[.pointer (some ⟨bm, 0, none⟩)] 91)
 rw [World.size_alloc] at r2
 have hkx : M.x.kind = 21 := hk
 have hlo : M.lo.length ≤ 24 := hF.lo
 have hhi : M.hi.length ≤ 24 := hF.hi
 have hp1 := putBytes_len M.lo
 have hp2 := putBytes_len M.hi
 have hel : M.x.ends.length ≤ 68 := by show (Vint.putBytes M.lo ++ Vint.putBytes M.hi).length ≤ 68; rw [List.length_append]; omega
 have hnn : (M.n.toNat : Int) = M.n := Int.toNat_of_nonneg hF.n0
 have hcc : (M.count.toNat : Int) = M.count := Int.toNat_of_nonneg hF.c0
 have hzz : (M.size.toNat : Int) = M.size := Int.toNat_of_nonneg hF.z0
 have hn1 : M.n ≤ 2147483647 := hF.n1
 have hc1 : M.count ≤ 2147483647 := hF.c1
 have hz1 : M.size ≤ 2147483647 := hF.z1
 have hvn := (Vint.put_len M.n.toNat).2
 have hvc := (Vint.put_len M.count.toNat).2
 have hvz := (Vint.put_len M.size.toNat).2
 have hv8 := fixed_len8 M.lsn
 have hfl : ([if M.more then (1 : UInt8) else 0]).length = 1 := rfl
 have hsum := hM.inn.ok.sum
 have hfile := hM.inn.ok.file
 have hHL0 : Lay ((w.alloc (.cells #[.pointer (some ⟨g, 0, none⟩)] 85)).alloc (.cells #[.pointer (some ⟨bm, 0, none⟩)] 91)) B g bs := h.ext hx0
 have hM0 := hM.to (Kept.ext (g := g) hx0 hBs)
 have hK00 := Kept.ext (g := g) hx0 hBs
 go_enter Tryz.func49, Tryz.ntmps49
 go_wp2_with fail
 obtain ⟨U0, hU0⟩ : ∃ U0, U0 = ((w.alloc (.cells #[.pointer (some ⟨g, 0, none⟩)] 85)).alloc (.cells #[.pointer (some ⟨bm, 0, none⟩)] 91)) := ⟨_, rfl⟩
 rw [← hU0] at r1 r2 hHL0 hM0 hK00 ⊢
 have HL0 := Lib.hid hHL0
 have HK0 := Lib.hid (Kept.refl B g U0)
 have HM := Lib.hid hM0
 have HK00 := Lib.hid hK00
 have hs0 : B ≤ U0.heap.size := Nat.le_trans hBs (by have := hK00.below.size; rw [hU0] at this ⊢; exact this)
 clear hHL0 hM0 hM h hx0 hkind hU0 hK00
 have hD := HL0.out.ext (Ext.drew U0)
 have hMd := HM.out.to (HK0.out.tr (Kept.ext (Ext.drew U0) hs0))
 have hT := number_L hD ⟨bm, 5, none⟩ M.n.toNat (by rw [hnn]; exact hMd.cell (WmV.at5 M)) (by omega) (by omega)
 have HT := Lib.hid hT
 have hq1 : U0.drew.cell? ⟨w.heap.size, 0, none⟩ = some (.pointer (some ⟨g, 0, none⟩)) := cell_of_row U0 _ 0 _ _ _ (HK0.out.rows _ _ _ _ r1 (by decide) (by omega))
 have hq2 : U0.drew.cell? ⟨w.heap.size + 1, 0, none⟩ = some (.pointer (some ⟨bm, 0, none⟩)) := cell_of_row U0 _ 0 _ _ _ (HK0.out.rows _ _ _ _ r2 (by decide) (by omega))
 clear hT hD hMd
 refine rr_start (extW) [2, 3] (by kernel_rfl) ?_
 refine qS 0 rfl ⟨_, fun w' hx => by have hcx := hx.load hq1; (go_simp <;> with_reducible rfl), ?_⟩
 simp only [sP]
 refine qS 1 rfl ⟨_, fun w' hx => by have hcx := hx.load hq2; (go_simp <;> with_reducible rfl), ?_⟩
 simp only [sP]
 refine qAD 2 rfl ?_
 simp only [sP]
 refine qAD 3 rfl ?_
 simp only [sP]
 refine rr_callW 4 (HT.out) rfl (by kernel_rfl) (by kernel_rfl) (by rfl) (by go_simp) ?_
 rintro e1 U1 ⟨rfl, hL1, hb1⟩
 refine ⟨_, rfl, ?_⟩
 simp only [sP]
 refine rr_done (by kernel_rfl) ?_
 have HK1 := Lib.hid ((HK0.out.tr (Kept.ext (Ext.drew U0) hs0)).tr hb1)
 have hs1 : B ≤ U1.heap.size := Nat.le_trans hs0 HK1.out.below.size
 obtain ⟨es1, hes1⟩ : ∃ es1, es1 = bs ++ Vint.put M.n.toNat := ⟨_, rfl⟩
 have hl1 : es1.length ≤ bs.length + 10 := by rw [hes1, List.length_append]; omega
 rw [← hes1] at hL1
 have HL1 := Lib.hid hL1
 clear hL1 hb1 HT hq1 hq2
 go_wp2_with fail
 have hD := HL1.out.ext (Ext.drew U1)
 have hMd := HM.out.to (HK1.out.tr (Kept.ext (Ext.drew U1) hs1))
 have hT := sigs_L hD ⟨bm, 76, none⟩ M.ga M.gc M.sigs W0 (hMd.cell (WmV.at76 HM.out.inn.ok)) HM.out.inn.gr hMd.ext HM.out.base (by exact hF.sigs) (by omega)
 have HT := Lib.hid hT
 have hq1 : U1.drew.cell? ⟨w.heap.size, 0, none⟩ = some (.pointer (some ⟨g, 0, none⟩)) := cell_of_row U1 _ 0 _ _ _ (HK1.out.rows _ _ _ _ r1 (by decide) (by omega))
 have hq2 : U1.drew.cell? ⟨w.heap.size + 1, 0, none⟩ = some (.pointer (some ⟨bm, 0, none⟩)) := cell_of_row U1 _ 0 _ _ _ (HK1.out.rows _ _ _ _ r2 (by decide) (by omega))
 clear hT hD hMd
 refine rr_start (extW) [2, 3] (by kernel_rfl) ?_
 refine qS 0 rfl ⟨_, fun w' hx => by have hcx := hx.load hq1; (go_simp <;> with_reducible rfl), ?_⟩
 simp only [sP]
 refine qS 1 rfl ⟨_, fun w' hx => by have hcx := hx.load hq2; (go_simp <;> with_reducible rfl), ?_⟩
 simp only [sP]
 refine qAD 2 rfl ?_
 simp only [sP]
 refine qAD 3 rfl ?_
 simp only [sP]
 refine rr_callW 4 (HT.out) rfl (by kernel_rfl) (by kernel_rfl) (by rfl) (by go_simp) ?_
 rintro e2 U2 ⟨rfl, hL2, hb2⟩
 refine ⟨_, rfl, ?_⟩
 simp only [sP]
 refine rr_done (by kernel_rfl) ?_
 have HK2 := Lib.hid ((HK1.out.tr (Kept.ext (Ext.drew U1) hs1)).tr hb2)
 have hs2 : B ≤ U2.heap.size := Nat.le_trans hs0 HK2.out.below.size
 obtain ⟨es2, hes2⟩ : ∃ es2, es2 = es1 ++ Wg.layL M.sigs := ⟨_, rfl⟩
 have hl2 : es2.length ≤ es1.length + (Wg.layL M.sigs).length := by rw [hes2, List.length_append]; omega
 rw [← hes2] at hL2
 have HL2 := Lib.hid hL2
 clear hL2 hb2 HT hq1 hq2
 go_wp2_with fail
 go_ret
 have hfin : bs ++ M.x.fields = es2 := by
  unfold Wm.fields
  rw [hkx]
  simp [WmV.x, Wm.ends, hes2, hes1]
  all_goals first | rfl | congr | (by_cases hm : M.more = true <;> simp [hm])
 rw [hfin]
 exact ⟨rfl, HL2.out, HK00.out.tr HK2.out⟩
set_option maxRecDepth 100000 in
set_option maxHeartbeats 2000000 in
theorem fields_lay_22 (B g : Nat) (bs : List UInt8) (bm : Nat) (M : WmV) (W0 w : World) (h : Lay w B g bs) (hM : MsgAt W0 w B bm M) (hF : M.x.Lays) (hb : bs.length ≤ 1000) (hk : M.kind = 22) :
  Calls Tryz.prog 49 #[.pointer (some ⟨g, 0, none⟩), .pointer (some ⟨bm, 0, none⟩)] w (LaidB true B g (bs ++ M.x.fields) w) := by
 have hBs : B ≤ w.heap.size := by obtain ⟨A, c, h⟩ := h; exact h.size
 have hgl : g < w.heap.size := by obtain ⟨A, c, h⟩ := h; exact lt_of_heap h.row
 have hx0 : Ext w ((w.alloc (.cells #[.pointer (some ⟨g, 0, none⟩)] 85)).alloc (.cells #[.pointer (some ⟨bm, 0, none⟩)] 91)) := Ext.tr (Ext.alloc _ _) (Ext.alloc _ _)
 have hkind : ((w.alloc (.cells #[.pointer (some ⟨g, 0, none⟩)] 85)).alloc (.cells #[.pointer (some ⟨bm, 0, none⟩)] 91)).cell? ⟨bm, 0, none⟩ = some (.int .i64 22) := by rw [← hk]; exact hx0.load (hM.cell (WmV.at0 M))
 have r1 := (Below.heap_alloc (w.alloc (.cells #[.pointer (some ⟨g, 0, none⟩)] 85)) (.cells #[.pointer (some ⟨bm, 0, none⟩)] 91) w.heap.size (by simp)).trans (heap_alloc_new w (.cells #[.pointer (some ⟨g, 0, none⟩)] 85))
 have r2 := heap_alloc_new (w.alloc (.cells #[.pointer (some ⟨g, 0, none⟩)] 85)) (.cells #[.pointer (some ⟨bm, 0, none⟩)] 91)
 rw [World.size_alloc] at r2
 have hkx : M.x.kind = 22 := hk
 have hlo : M.lo.length ≤ 24 := hF.lo
 have hhi : M.hi.length ≤ 24 := hF.hi
 have hp1 := putBytes_len M.lo
 have hp2 := putBytes_len M.hi
 have hel : M.x.ends.length ≤ 68 := by show (Vint.putBytes M.lo ++ Vint.putBytes M.hi).length ≤ 68; rw [List.length_append]; omega
 have hnn : (M.n.toNat : Int) = M.n := Int.toNat_of_nonneg hF.n0
 have hcc : (M.count.toNat : Int) = M.count := Int.toNat_of_nonneg hF.c0
 have hzz : (M.size.toNat : Int) = M.size := Int.toNat_of_nonneg hF.z0
 have hn1 : M.n ≤ 2147483647 := hF.n1
 have hc1 : M.count ≤ 2147483647 := hF.c1
 have hz1 : M.size ≤ 2147483647 := hF.z1
 have hvn := (Vint.put_len M.n.toNat).2
 have hvc := (Vint.put_len M.count.toNat).2
 have hvz := (Vint.put_len M.size.toNat).2
 have hv8 := fixed_len8 M.lsn
 have hfl : ([if M.more then (1 : UInt8) else 0]).length = 1 := rfl
 have hsum := hM.inn.ok.sum
 have hfile := hM.inn.ok.file
 have hHL0 : Lay ((w.alloc (.cells #[.pointer (some ⟨g, 0, none⟩)] 85)).alloc (.cells #[.pointer (some ⟨bm, 0, none⟩)] 91)) B g bs := h.ext hx0
 have hM0 := hM.to (Kept.ext (g := g) hx0 hBs)
 have hK00 := Kept.ext (g := g) hx0 hBs
 go_enter Tryz.func49, Tryz.ntmps49
 go_wp2_with fail
 obtain ⟨U0, hU0⟩ : ∃ U0, U0 = ((w.alloc (.cells #[.pointer (some ⟨g, 0, none⟩)] 85)).alloc (.cells #[.pointer (some ⟨bm, 0, none⟩)] 91)) := ⟨_, rfl⟩
 rw [← hU0] at r1 r2 hHL0 hM0 hK00 ⊢
 have HL0 := Lib.hid hHL0
 have HK0 := Lib.hid (Kept.refl B g U0)
 have HM := Lib.hid hM0
 have HK00 := Lib.hid hK00
 have hs0 : B ≤ U0.heap.size := Nat.le_trans hBs (by have := hK00.below.size; rw [hU0] at this ⊢; exact this)
 clear hHL0 hM0 hM h hx0 hkind hU0 hK00
 have hD := HL0.out.ext (Ext.drew U0)
 have hMd := HM.out.to (HK0.out.tr (Kept.ext (Ext.drew U0) hs0))
 have hT := number_L hD ⟨bm, 5, none⟩ M.n.toNat (by rw [hnn]; exact hMd.cell (WmV.at5 M)) (by omega) (by omega)
 have HT := Lib.hid hT
 have hq1 : U0.drew.cell? ⟨w.heap.size, 0, none⟩ = some (.pointer (some ⟨g, 0, none⟩)) := cell_of_row U0 _ 0 _ _ _ (HK0.out.rows _ _ _ _ r1 (by decide) (by omega))
 have hq2 : U0.drew.cell? ⟨w.heap.size + 1, 0, none⟩ = some (.pointer (some ⟨bm, 0, none⟩)) := cell_of_row U0 _ 0 _ _ _ (HK0.out.rows _ _ _ _ r2 (by decide) (by omega))
 clear hT hD hMd
 refine rr_start (extW) [2, 3] (by kernel_rfl) ?_
 refine qS 0 rfl ⟨_, fun w' hx => by have hcx := hx.load hq1; (go_simp <;> with_reducible rfl), ?_⟩
 simp only [sP]
 refine qS 1 rfl ⟨_, fun w' hx => by have hcx := hx.load hq2; (go_simp <;> with_reducible rfl), ?_⟩
 simp only [sP]
 refine qAD 2 rfl ?_
 simp only [sP]
 refine qAD 3 rfl ?_
 simp only [sP]
 refine rr_callW 4 (HT.out) rfl (by kernel_rfl) (by kernel_rfl) (by rfl) (by go_simp) ?_
 rintro e1 U1 ⟨rfl, hL1, hb1⟩
 refine ⟨_, rfl, ?_⟩
 simp only [sP]
 refine rr_done (by kernel_rfl) ?_
 have HK1 := Lib.hid ((HK0.out.tr (Kept.ext (Ext.drew U0) hs0)).tr hb1)
 have hs1 : B ≤ U1.heap.size := Nat.le_trans hs0 HK1.out.below.size
 obtain ⟨es1, hes1⟩ : ∃ es1, es1 = bs ++ Vint.put M.n.toNat := ⟨_, rfl⟩
 have hl1 : es1.length ≤ bs.length + 10 := by rw [hes1, List.length_append]; omega
 rw [← hes1] at hL1
 have HL1 := Lib.hid hL1
 clear hL1 hb1 HT hq1 hq2
 go_wp2_with fail
 have hD := HL1.out.ext (Ext.drew U1)
 have hMd := HM.out.to (HK1.out.tr (Kept.ext (Ext.drew U1) hs1))
 have hT := rest_L hD ⟨bm, 77, none⟩ M.da M.dc M.data (hMd.cell (WmV.at77 HM.out.inn.ok)) hMd.inw.dr (by have := hF.data; simp only [WmV.x] at this; omega) (by omega)
 have HT := Lib.hid hT
 have hq1 : U1.drew.cell? ⟨w.heap.size, 0, none⟩ = some (.pointer (some ⟨g, 0, none⟩)) := cell_of_row U1 _ 0 _ _ _ (HK1.out.rows _ _ _ _ r1 (by decide) (by omega))
 have hq2 : U1.drew.cell? ⟨w.heap.size + 1, 0, none⟩ = some (.pointer (some ⟨bm, 0, none⟩)) := cell_of_row U1 _ 0 _ _ _ (HK1.out.rows _ _ _ _ r2 (by decide) (by omega))
 clear hT hD hMd
 refine rr_start (extW) [2, 3] (by kernel_rfl) ?_
 refine qS 0 rfl ⟨_, fun w' hx => by have hcx := hx.load hq1; (go_simp <;> with_reducible rfl), ?_⟩
 simp only [sP]
 refine qS 1 rfl ⟨_, fun w' hx => by have hcx := hx.load hq2; (go_simp <;> with_reducible rfl), ?_⟩
 simp only [sP]
 refine qAD 2 rfl ?_
 simp only [sP]
 refine qAD 3 rfl ?_
 simp only [sP]
 refine rr_callW 4 (HT.out) rfl (by kernel_rfl) (by kernel_rfl) (by rfl) (by go_simp) ?_
 rintro e2 U2 ⟨rfl, hL2, hb2⟩
 refine ⟨_, rfl, ?_⟩
 simp only [sP]
 refine rr_done (by kernel_rfl) ?_
 have HK2 := Lib.hid ((HK1.out.tr (Kept.ext (Ext.drew U1) hs1)).tr hb2)
 have hs2 : B ≤ U2.heap.size := Nat.le_trans hs0 HK2.out.below.size
 obtain ⟨es2, hes2⟩ : ∃ es2, es2 = es1 ++ M.data := ⟨_, rfl⟩
 have hl2 : es2.length ≤ es1.length + M.data.length := by rw [hes2, List.length_append]; omega
 rw [← hes2] at hL2
 have HL2 := Lib.hid hL2
 clear hL2 hb2 HT hq1 hq2
 go_wp2_with fail
 go_ret
 have hfin : bs ++ M.x.fields = es2 := by
  unfold Wm.fields
  rw [hkx]
  simp [WmV.x, Wm.ends, hes2, hes1]
  all_goals first | rfl | congr | (by_cases hm : M.more = true <;> simp [hm])
 rw [hfin]
 exact ⟨rfl, HL2.out, HK00.out.tr HK2.out⟩
set_option maxRecDepth 100000 in
set_option maxHeartbeats 2000000 in
theorem fields_lay_none (B g : Nat) (bs : List UInt8) (bm : Nat) (M : WmV) (W0 w : World) (h : Lay w B g bs) (hM : MsgAt W0 w B bm M) (hk : Wm.known M.kind = false) :
  Calls Tryz.prog 49 #[.pointer (some ⟨g, 0, none⟩), .pointer (some ⟨bm, 0, none⟩)] w (LaidB false B g bs w) := by
 have hBs : B ≤ w.heap.size := by obtain ⟨A, c, h⟩ := h; exact h.size
 have hx0 : Ext w ((w.alloc (.cells #[.pointer (some ⟨g, 0, none⟩)] 85)).alloc (.cells #[.pointer (some ⟨bm, 0, none⟩)] 91)) := Ext.tr (Ext.alloc _ _) (Ext.alloc _ _)
 obtain ⟨kd, hkd⟩ : ∃ kd, kd = M.kind := ⟨_, rfl⟩
 have hkind : ((w.alloc (.cells #[.pointer (some ⟨g, 0, none⟩)] 85)).alloc (.cells #[.pointer (some ⟨bm, 0, none⟩)] 91)).cell? ⟨bm, 0, none⟩ = some (.int .i64 kd) := by rw [hkd]; exact hx0.load (hM.cell (WmV.at0 M))
 rw [← hkd] at hk
 simp only [Wm.known, Bool.or_eq_false_iff, decide_eq_false_iff_not] at hk
 obtain ⟨⟨⟨⟨⟨⟨⟨⟨⟨⟨⟨k1, k2⟩, k3⟩, k4⟩, k5⟩, k6⟩, k17⟩, k18⟩, k19⟩, k20⟩, k21⟩, k22⟩ := hk
 have hL := Lib.hid (h.ext hx0)
 have hK := Lib.hid (Kept.ext (g := g) hx0 hBs)
 clear hkd h hM hx0
 go_enter Tryz.func49, Tryz.ntmps49
 go_wp2_with fail
 go_ret
 exact ⟨rfl, hL.out, hK.out⟩
theorem Wm.fields_none {m : Wm} (h : Wm.known m.kind = false) : m.fields = [] := by
 simp only [Wm.known, Bool.or_eq_false_iff, decide_eq_false_iff_not] at h
 obtain ⟨⟨⟨⟨⟨⟨⟨⟨⟨⟨⟨k1, k2⟩, k3⟩, k4⟩, k5⟩, k6⟩, k17⟩, k18⟩, k19⟩, k20⟩, k21⟩, k22⟩ := h
 unfold Wm.fields
 rw [if_neg (fun e => e.elim k3 k4), if_neg (fun e => e.elim k5 k6), if_neg k17, if_neg k18, if_neg k19, if_neg k20, if_neg k21, if_neg k22]
theorem fields_lay (B g : Nat) (bs : List UInt8) (bm : Nat) (M : WmV) (W0 w : World) (h : Lay w B g bs) (hM : MsgAt W0 w B bm M) (hF : M.x.Lays) (hb : bs.length ≤ 1000) :
  Calls Tryz.prog 49 #[.pointer (some ⟨g, 0, none⟩), .pointer (some ⟨bm, 0, none⟩)] w (LaidB (Wm.known M.kind) B g (bs ++ M.x.fields) w) := by
 cases hk : Wm.known M.kind with
 | false =>
  rw [Wm.fields_none (m := M.x) hk, List.append_nil]
  exact fields_lay_none B g bs bm M W0 w h hM hk
 | true =>
  simp only [Wm.known, Bool.or_eq_true, decide_eq_true_eq] at hk
  rcases hk with ((((((((((k | k) | k) | k) | k) | k) | k) | k) | k) | k) | k) | k
  ·
   exact fields_lay_1 B g bs bm M W0 w h hM hF hb k
  ·
   exact fields_lay_2 B g bs bm M W0 w h hM hF hb k
  ·
   exact fields_lay_3 B g bs bm M W0 w h hM hF hb k
  ·
   exact fields_lay_4 B g bs bm M W0 w h hM hF hb k
  ·
   exact fields_lay_5 B g bs bm M W0 w h hM hF hb k
  ·
   exact fields_lay_6 B g bs bm M W0 w h hM hF hb k
  ·
   exact fields_lay_17 B g bs bm M W0 w h hM hF hb k
  ·
   exact fields_lay_18 B g bs bm M W0 w h hM hF hb k
  ·
   exact fields_lay_19 B g bs bm M W0 w h hM hF hb k
  ·
   exact fields_lay_20 B g bs bm M W0 w h hM hF hb k
  ·
   exact fields_lay_21 B g bs bm M W0 w h hM hF hb k
  ·
   exact fields_lay_22 B g bs bm M W0 w h hM hF hb k
end Go.Proofs.YtjholekgdnhpkaaGreatDoor
