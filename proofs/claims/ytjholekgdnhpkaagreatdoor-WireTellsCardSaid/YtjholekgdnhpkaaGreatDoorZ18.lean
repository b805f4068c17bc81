/- Texts of the proof, laid together: WrO VintPlain WrR CrcMath CrcProg CrcProg2 CrcProg3. -/
import Derived.Test.YtjholekgdnhpkaaGreatDoorZ17
import Derived.Test.YtjholekgdnhpkaaGreatDoorZ2
import Derived.Test.YtjholekgdnhpkaaGreatDoorZ13
import Derived.Test.YtjholekgdnhpkaaGreatDoorZ16
import Derived.Test.YtjholekgdnhpkaaGreatDoorProg
import Derived.Test.YtjholekgdnhpkaaGreatDoorZ1
set_option linter.unusedVariables false
set_option linter.unusedSimpArgs false
set_option linter.unusedSectionVars false
namespace Go.Proofs.YtjholekgdnhpkaaGreatDoor
open Go.RowKit
attribute [local go_sem] Oper.semAt_some
def Wm.laid (m : Wm) : List UInt8 := (UInt8.ofNat m.kind.toNat :: (Vint.fixed m.session 4 ++ Vint.fixed m.seq 4)) ++ m.fields
set_option maxRecDepth 100000 in
set_option maxHeartbeats 2000000 in
theorem laid_any (M : WmV) (w : World) (hM : M.In w) (hF : M.x.Lays) (hk0 : 0 ≤ M.kind) (hk1 : M.kind ≤ 255) :
  Calls Tryz.prog 23 #[.agg M.cells] w fun e w' => ∃ A c, e = .returned (.tuple #[.slice A M.x.laid.length c, .bool (Wm.known M.kind)]) ∧ Own w' w.heap.size 5 1 A M.x.laid.length c (bvs M.x.laid) ∧ Ext w w' := by
 have hE : Ext w (w.alloc (.cells M.cells 31)) := Ext.alloc _ _
 have g0 := heap_alloc_new w (.cells M.cells 31)
 obtain ⟨kd, hkd⟩ : ∃ kd, kd = M.kind := ⟨_, rfl⟩
 obtain ⟨kb, hkb'⟩ : ∃ kb, kb = UInt8.ofNat M.kind.toNat := ⟨_, rfl⟩
 have hkb : Value.int .u8 kd = bv kb := by
  rw [hkd, hkb']
  unfold bv
  have h1 : (UInt8.ofNat M.kind.toNat).toNat = M.kind.toNat := by
   rw [UInt8.toNat_ofNat']
   exact Nat.mod_eq_of_lt (by omega)
  rw [h1]
  congr 1
  omega
 obtain ⟨d1, hd1⟩ : ∃ d, d = Vint.fixed M.session 4 := ⟨_, rfl⟩
 obtain ⟨d2, hd2⟩ : ∃ d, d = Vint.fixed M.seq 4 := ⟨_, rfl⟩
 have hd1l : d1.length = 4 := by rw [hd1]; exact fixed_len4 _
 have hd2l : d2.length = 4 := by rw [hd2]; exact fixed_len4 _
 obtain ⟨d9, hd9⟩ : ∃ d9, d9 = kb :: (d1 ++ d2) := ⟨_, rfl⟩
 have hlaid : M.x.laid = d9 ++ M.x.fields := by rw [hd9, hkb', hd1, hd2]; rfl
 have hf1 : ∀ W, Calls Tryz.prog 48 #[.int .u64 (M.session : Int), .int .i64 4] W (fun e w' => ∃ A c, e = .returned (.slice A 4 c) ∧ RdB w' A d1 ∧ Ext W w') := fun W => (fixed_any M.session 4 W).mono (by
  rintro e w' ⟨A, c, rfl, ho, hb⟩
  rw [← hd1] at ho ⊢
  rw [hd1l] at ho ⊢
  exact ⟨A, c, rfl, Own.rd' ho, hb⟩)
 have hf2 : ∀ W, Calls Tryz.prog 48 #[.int .u64 (M.seq : Int), .int .i64 4] W (fun e w' => ∃ A c, e = .returned (.slice A 4 c) ∧ RdB w' A d2 ∧ Ext W w') := fun W => (fixed_any M.seq 4 W).mono (by
  rintro e w' ⟨A, c, rfl, ho, hb⟩
  rw [← hd2] at ho ⊢
  rw [hd2l] at ho ⊢
  exact ⟨A, c, rfl, Own.rd' ho, hb⟩)
 have hwk : IntKind.u8.wrap kd = kd := by rw [hkd]; simp [IntKind.wrap, IntKind.bits, IntKind.signed]; omega
 have hws : IntKind.u64.wrap (M.session : Int) = (M.session : Int) := by have := hM.ok.session; simp [IntKind.wrap, IntKind.bits, IntKind.signed]; omega
 have hwq : IntKind.u64.wrap (M.seq : Int) = (M.seq : Int) := by have := hM.ok.seq; simp [IntKind.wrap, IntKind.bits, IntKind.signed]; omega
 have k0 : (w.alloc (.cells M.cells 31)).drew.cell? ⟨w.heap.size, 0, none⟩ = some (.int .i64 kd) := by rw [hkd]; exact (cell_of_row _ _ 0 _ _ _ g0).trans (WmV.at0 M)
 have k1 : (w.alloc (.cells M.cells 31)).drew.cell? ⟨w.heap.size, 1, none⟩ = some (.int .u32 (M.session : Int)) := (cell_of_row _ _ 1 _ _ _ g0).trans (WmV.at1 M)
 have k2 : (w.alloc (.cells M.cells 31)).drew.cell? ⟨w.heap.size, 2, none⟩ = some (.int .u32 (M.seq : Int)) := (cell_of_row _ _ 2 _ _ _ g0).trans (WmV.at2 M)
 have HF1 := Lib.hid hf1
 have HF2 := Lib.hid hf2
 have Hd9 := Lib.hid hd9
 have Hlaid := Lib.hid hlaid
 have HE := Lib.hid hE
 have HG := Lib.hid g0
 have HM := Lib.hid hM
 have HF := Lib.hid hF
 clear hf1 hf2 hd9 hlaid hE g0 hM hF hd1 hd2 hkb' hkd
 obtain ⟨W1, hW1⟩ : ∃ W1, W1 = w.alloc (.cells M.cells 31) := ⟨_, rfl⟩
 obtain ⟨P, hP⟩ : ∃ P, P = M.cells := ⟨_, rfl⟩
 rw [← hW1] at HE HG k0 k1 k2
 rw [← hP] at hW1 HG ⊢
 have HW1 := Lib.hid hW1
 have HP := Lib.hid hP
 clear hW1 hP
 go_enter Tryz.func23, Tryz.ntmps23
 go_wp2_with fail
 rw [← HW1.out]
 refine rg_start (by kernel_rfl) ?_
 refine gD 0 rfl ?_
 simp only [sP]
 refine gS 1 rfl ⟨_, fun w' hx => by have hcx := hx.load k0; (go_simp <;> with_reducible rfl), ?_⟩
 simp only [sP]
 refine gS 2 rfl ⟨.int .u8 kd, fun w' hx => by (go_simp <;> with_reducible rfl), ?_⟩
 simp only [sP]
 refine gD 4 rfl ?_
 simp only [sP]
 refine gS 5 rfl ⟨_, fun w' hx => by have hcx := hx.load k1; (go_simp <;> with_reducible rfl), ?_⟩
 simp only [sP]
 refine gS 6 rfl ⟨.int .u64 (M.session : Int), fun w' hx => by (go_simp <;> with_reducible rfl), ?_⟩
 simp only [sP]
 refine gD 8 rfl ?_
 simp only [sP]
 refine gS 9 rfl ⟨_, fun w' hx => by have hcx := hx.load k2; (go_simp <;> with_reducible rfl), ?_⟩
 simp only [sP]
 refine gS 10 rfl ⟨.int .u64 (M.seq : Int), fun w' hx => by (go_simp <;> with_reducible rfl), ?_⟩
 simp only [sP]



 refine rg_par [(3, 9), (7, 13), (11, 17)] (fun i u W => (i = 3 → ∃ g, u = .slice (some ⟨g, 0, none⟩) 1 1 ∧ W.heap[g]? = some (.cells #[.int .u8 kd] 5 (0, 0))) ∧ (i = 7 → ∃ A c, u = .slice A 4 c ∧ RdB W A d1) ∧ (i = 11 → ∃ A c, u = .slice A 4 c ∧ RdB W A d2)) 3 (by kernel_rfl) ?_ ?_ ?_
 ·
  rintro i u W W' ⟨a3, a7, a11⟩ hx
  exact ⟨fun e => let ⟨g, x1, x2⟩ := a3 e; ⟨g, x1, (hx.block _ (lt_of_heap x2)).trans x2⟩, fun e => let ⟨A, c, x1, x2⟩ := a7 e; ⟨A, c, x1, x2.below hx⟩, fun e => let ⟨A, c, x1, x2⟩ := a11 e; ⟨A, c, x1, x2.below hx⟩⟩
 ·
  intro p hp oi ho f W hx hd
  simp only [List.mem_cons, List.not_mem_nil, or_false] at hp
  rcases hp with rfl | rfl | rfl
  all_goals
   simp only at ho
   have ho' := ho
   simp only [List.getElem?_toArray, List.getElem?_cons_succ, List.getElem?_cons_zero] at ho'
   injection ho' with ho'
   subst ho'
   clear ho
   refine ⟨by rfl, ?_⟩
   simp only [fillS, List.foldl_cons, List.foldl_nil, Act.put, sA, sB, sC]
  ·
   exact yld_make ⟨_, _, by (go_simp <;> first | exact ⟨rfl, rfl⟩ | rfl), Ext.alloc _ _, fun _ => ⟨W.heap.size, rfl, heap_alloc_new W _⟩, by simp, by simp⟩
  ·
   refine yld_call (by go_simp) (HF1.out W) ?_
   rintro e w2 ⟨A2, c2, rfl, ho2, hb2⟩
   exact ⟨_, rfl, hb2, by simp, fun _ => ⟨A2, c2, rfl, ho2⟩, by simp⟩
  ·
   refine yld_call (by go_simp) (HF2.out W) ?_
   rintro e w2 ⟨A2, c2, rfl, ho2, hb2⟩
   exact ⟨_, rfl, hb2, by simp, by simp, fun _ => ⟨A2, c2, rfl, ho2⟩⟩
 intro f W hx hd
 obtain ⟨g3, d3, r3⟩ := (hd (3, 9) (by simp)).1 rfl
 obtain ⟨A7, c7, d7, r7⟩ := (hd (7, 13) (by simp)).2.1 rfl
 obtain ⟨A11, c11, d11, r11⟩ := (hd (11, 17) (by simp)).2.2 rfl
 simp only at d3 d7 d11
 simp only [fillS, List.foldl_cons, List.foldl_nil, Act.put, sA, sB, sC, d3, d7, d11]
 have hx1 : Ext W1 W := Ext.tr (Ext.drew W1) hx
 have r3b : RdB W (some ⟨g3, 0, none⟩) [kb] := ⟨rfl, fun _ => ⟨_, rfl, fun j u hj => by
  rw [Addr.add_lit, Nat.zero_add, cell_of_row _ _ _ _ _ _ r3]
  cases j with
  | zero => rw [hkb]; exact hj
  | succ j => simp [bvs] at hj⟩⟩
 clear hd d3 d7 d11 r3
 have hL3 : RdL (W.alloc (.cells #[.slice (some ⟨g3, 0, none⟩) 1 1, .slice A7 4 c7, .slice A11 4 c11] 23)) (some ⟨W.heap.size, 0, none⟩) [⟨some ⟨g3, 0, none⟩, [kb], 1⟩, ⟨A7, d1, c7⟩, ⟨A11, d2, c11⟩] := by
  have := RdL.new W 23 [⟨some ⟨g3, 0, none⟩, [kb], 1⟩, ⟨A7, d1, c7⟩, ⟨A11, d2, c11⟩] (by
   intro z hz
   simp only [List.mem_cons, List.not_mem_nil, or_false] at hz
   rcases hz with rfl | rfl | rfl
   ·
    exact r3b
   ·
    exact r7
   ·
    exact r11)
  simp only [List.map_cons, List.map_nil, Sl.val, hd1l, hd2l, List.length_cons, List.length_nil, Nat.zero_add] at this
  exact this
 have hcat : cat [⟨some ⟨g3, 0, none⟩, [kb], 1⟩, ⟨A7, d1, c7⟩, ⟨A11, d2, c11⟩] = kb :: (d1 ++ d2) := by simp [cat]
 have hcc := concat_any (some ⟨W.heap.size, 0, none⟩) _ 3 _ hL3 (by simp) (by rw [hcat]; simp [hd1l, hd2l])
 rw [hcat] at hcc
 rw [← Hd9.out] at hcc
 have HCC := Lib.hid hcc
 have Hl9 := Lib.hid (show d9.length = 9 by rw [Hd9.out]; simp [hd1l, hd2l])
 clear hcc hcat hL3
 refine rg_make 12 rfl (by kernel_rfl) (by rfl) ⟨_, _, by (go_simp <;> first | exact ⟨rfl, rfl⟩ | rfl), Ext.alloc _ _, ?_⟩
 simp only [sP]
 refine rg_call 13 HCC.out rfl (by kernel_rfl) (by rfl) (by go_simp) ?_
 rintro e3 w3 ⟨A3, c3, rfl, ho3, hb3⟩
 refine ⟨_, rfl, hb3, ?_⟩
 simp only [sP]
 refine gD 14 rfl ?_
 simp only [sP]

 refine rg_make 15 rfl (by kernel_rfl) (by rfl) ⟨_, _, by (go_simp <;> first | exact ⟨rfl, rfl⟩ | rfl), ?_, ?_⟩
 ·
  exact Ext.alloc _ _
 simp only [sP]
 refine gD 16 rfl ?_
 simp only [sP]
 refine rg_done (by kernel_rfl) ?_
 have hx4 : Ext W1 (w3.alloc (.cells #[.slice A3 d9.length c3, .slice none 0 0, .bool false, .bool false] CT)) := ((hx1.tr (Ext.alloc W _)).tr hb3).tr (Ext.alloc w3 _)
 have hsz3 : W1.heap.size ≤ w3.heap.size := ((hx1.tr (Ext.alloc W _)).tr hb3).size
 have hlay : Lay (w3.alloc (.cells #[.slice A3 d9.length c3, .slice none 0 0, .bool false, .bool false] CT)) W1.heap.size w3.heap.size d9 := ⟨A3, c3, heap_alloc_new w3 _, (ho3.mono (by have := hx1.size; rw [World.size_alloc]; omega)).below (Ext.alloc w3 _), hsz3⟩
 obtain ⟨W4, hW4⟩ : ∃ W4, W4 = w3.alloc (.cells #[.slice A3 d9.length c3, .slice none 0 0, .bool false, .bool false] CT) := ⟨_, rfl⟩
 have HGM : W1.heap[w.heap.size]? = some (.cells M.cells 31 (0, 0)) := by rw [← HP.out]; exact HG.out
 rw [← hW4] at hx4 hlay ⊢
 clear hW4
 have hFL := fields_lay W1.heap.size w3.heap.size d9 w.heap.size M W1 W4 hlay ⟨HGM, HM.out.ext HE.out, hx4, Nat.le_refl _⟩ HF.out (by have := Hl9.out; omega)
 rw [← Hlaid.out] at hFL
 have HFL := Lib.hid hFL
 have HX4 := Lib.hid hx4
 clear hFL hlay hx4 ho3 hb3 hx1 HF1 HF2 HCC r3b r7 r11 hx k0 k1 k2
 go_wp2_with (go_at_call 49; refine HFL.out.mono ?_; rintro e5 w5 ⟨rfl, ⟨A5, c5, hL5⟩, hK5⟩; refine Hid.out ?_)
 have hc5 := hL5.cell0
 have HL5 := Lib.hid hL5
 have HK5 := Lib.hid hK5
 clear hL5 hK5
 refine Lib.hid ?_
 go_wp2_with fail
 (try simp only [Exit.inBlock, Exit.then])
 refine bodyPost_ret (results_tmp2 rfl _ _ _) rfl ?_
 have hs1 := HE.out.size
 exact ⟨A5, c5, rfl, HL5.out.own.mono hs1, (HE.out.tr HX4.out).trans (Below.mono HK5.out.below hs1)⟩
end Go.Proofs.YtjholekgdnhpkaaGreatDoor
namespace Go.Proofs.YtjholekgdnhpkaaGreatDoor
open Go.RowKit
theorem Vint.grp_shape (f n : Nat) (h : n < 128 ^ f * 2) : ∃ init last, (Vint.grpF f n).map Vint.outOf = init ++ [last] ∧ (∀ x ∈ init, 128 ≤ x.toNat) ∧ last.toNat < 128 ∧ (init ≠ [] → last.toNat ≠ 0) ∧ (init.length = f → last.toNat < 2) ∧ Vint.val (init ++ [last]) = n ∧ init.length ≤ f := by
 induction f generalizing n with
 | zero =>
  have h2 : n < 2 := by simpa using h
  have e : (UInt8.ofNat n).toNat = n := by rw [UInt8.toNat_ofNat']; omega
  refine ⟨[], UInt8.ofNat n, rfl, by simp, by omega, by simp, fun _ => by omega, ?_, by simp⟩
  simp only [List.nil_append, Vint.val, e]
  omega
 | succ f ih =>
  by_cases h1 : n < 128
  ·
   have e : (UInt8.ofNat n).toNat = n := by rw [UInt8.toNat_ofNat']; omega
   refine ⟨[], UInt8.ofNat n, by rw [Vint.grpF, if_pos h1]; rfl, by simp, by omega, by simp, fun h => by simp at h, ?_, by simp⟩
   simp only [List.nil_append, Vint.val, e]
   omega
  ·
   obtain ⟨init, last, e1, e2, e3, e4, e5, e6, e7⟩ := ih (n / 128) (by rw [Nat.pow_succ] at h; omega)
   have hx := plus128 n
   have hx2 : (UInt8.ofNat (n % 128) ||| 128).toNat = n % 128 + 128 := by omega
   refine ⟨(UInt8.ofNat (n % 128) ||| 128) :: init, last, ?_, ?_, e3, ?_, ?_, ?_, by simp; omega⟩
   ·
    rw [Vint.grpF, if_neg h1, List.map_cons, e1]; rfl
   ·
    intro x hx
    rcases List.mem_cons.1 hx with rfl | hx
    ·
     omega
    ·
     exact e2 x hx
   ·
    intro _
    by_cases hi : init = []
    ·
     subst hi
     simp only [List.nil_append, Vint.val] at e6
     omega
    ·
     exact e4 hi
   ·
    intro hl
    simp only [List.length_cons] at hl
    exact e5 (by omega)
   ·
    simp only [List.cons_append, Vint.val, e6, hx2]
    omega
theorem Vint.get_put (n : Nat) (hn : n < 18446744073709551616) (r : List UInt8) : Vint.get (Vint.put n ++ r) = (n, (Vint.put n).length, 0) := by
 obtain ⟨init, last, e1, e2, e3, e4, e5, e6, e7⟩ := Vint.grp_shape 9 n (by omega)
 have hp : Vint.put n = init ++ [last] := e1
 rw [hp]
 have hk : init.length < (init ++ [last] ++ r).length := by simp
 have hx : (init ++ [last] ++ r)[init.length] = last := by simp
 have h := (first_of (init ++ [last] ++ r) init.length (by omega) (by omega) (fun j hj hjk => by
  have : (init ++ [last] ++ r)[j] = init[j] := by rw [List.getElem_append_left (by simp; omega), List.getElem_append_left hjk]
  rw [this]; exact e2 _ (List.getElem_mem hjk))).2 hk
 rw [hx] at h
 have h2 := (h.2 e3 (fun h9 => by have := e5 h9.1; omega)).2 (fun h0 => e4 (by intro h; rw [h] at h0; simp at h0) h0.2)
 rw [h2]
 have h3 : (init ++ [last] ++ r).take (init.length + 1) = init ++ [last] := by
  rw [List.take_left' (by simp)]
 rw [h3, e6]
 simp
theorem Vint.getBytes_putBytes (p r : List UInt8) (hp : p.length < 18446744073709551616) : Vint.getBytes (Vint.putBytes p ++ r) = (p, (Vint.putBytes p).length, 0) := by
 unfold Vint.getBytes
 have h1 := Vint.get_put p.length hp (p ++ r)
 have h2 : Vint.putBytes p ++ r = Vint.put p.length ++ (p ++ r) := by unfold Vint.putBytes; rw [List.append_assoc]
 rw [h2, h1]
 simp only
 rw [if_neg (by simp), if_neg (by simp)]
 simp [Vint.putBytes]
theorem Vint.number_fixed8 (n : Nat) (hn : n < 18446744073709551616) : Vint.number (Vint.fixed n 8) = n := by
 have : Vint.fixed n 8 = Vint.fixL n 8 := by unfold Vint.fixed; rw [if_pos (by omega)]; rfl
 rw [this]
 simp only [Vint.number, Vint.fixL_len, Nat.le_refl, if_true]
 simp only [Vint.numL, Vint.fixL, Vint.fixB, List.range, List.range.loop, List.map_cons, List.map_nil, List.foldl_cons, List.foldl_nil, UInt8.toNat_ofNat']
 simp only [Nat.reduceSub, Nat.reducePow]
 omega
end Go.Proofs.YtjholekgdnhpkaaGreatDoor
namespace Go.Proofs.YtjholekgdnhpkaaGreatDoor
structure Wm.Own (m : Wm) : Prop where
 session : m.session < 4294967296
 seq : m.seq < 4294967296
 lsn : m.lsn < 18446744073709551616
 sum : m.sum.length = 32
 file : m.file.length = 32
 sub : ∀ s ∈ m.subs, s.p.sum.length = 32 ∧ s.lsn < 18446744073709551616
 sig : ∀ s ∈ m.sigs, s.Ok
def Wm.only (m : Wm) : Wm :=
 let x : Wm := { Wm.nul with kind := m.kind, session := m.session, seq := m.seq }
 if m.kind = 3 ∨ m.kind = 4 then { x with lo := m.lo, hi := m.hi }
 else if m.kind = 5 ∨ m.kind = 6 then { x with n := m.n }
 else if m.kind = 17 then { x with lsn := m.lsn, count := m.count, sum := m.sum, size := m.size, file := m.file }
 else if m.kind = 18 then { x with subs := m.subs }
 else if m.kind = 19 then { x with lo := m.lo, hi := m.hi, subs := m.subs }
 else if m.kind = 20 then { x with lo := m.lo, hi := m.hi, more := m.more, ents := m.ents }
 else if m.kind = 21 then { x with n := m.n, sigs := m.sigs }
 else if m.kind = 22 then { x with n := m.n, data := m.data } else x
theorem number_fix4W (n : Nat) (hn : n < 4294967296) : Vint.number (Vint.fixed n 4) = n := by
 have e : Vint.fixed n 4 = Vint.fixL n 4 := by unfold Vint.fixed; rfl
 rw [e]
 simp only [Vint.number, Vint.fixL_len]
 simp only [Vint.numL, Vint.fixL, Vint.fixB, List.range, List.range.loop, List.map_cons, List.map_nil, List.foldl_cons, List.foldl_nil, UInt8.toNat_ofNat']
 simp only [Nat.reduceSub, Nat.reducePow]
 rw [if_pos (by omega)]
 omega
theorem Rt.put (k r : List UInt8) (h : k.length ≤ 100000) : Rt.val (Vint.putBytes k ++ r) = k ∧ Rt.rest (Vint.putBytes k ++ r) = r ∧ Rt.bad (Vint.putBytes k ++ r) = false := by
 have e := Vint.getBytes_putBytes k r (by omega)
 unfold Rt.val Rt.rest Rt.bad
 rw [e]
 exact ⟨rfl, List.drop_left, rfl⟩
theorem Rn.put (n : Int) (n0 : Int) (r : List UInt8) (h0 : 0 ≤ n) (h1 : n ≤ 2147483647) : Rn.val (Vint.put n.toNat ++ r) n0 = n ∧ Rn.rest (Vint.put n.toNat ++ r) = r ∧ Rn.ok (Vint.put n.toNat ++ r) = true ∧ (Vint.get (Vint.put n.toNat ++ r)).1 = n.toNat := by
 have e := Vint.get_put n.toNat (by omega) r
 have hok : Rn.ok (Vint.put n.toNat ++ r) = true := by unfold Rn.ok; rw [e]; simp; omega
 unfold Rn.val Rn.rest
 rw [hok, e]
 refine ⟨?_, List.drop_left, rfl, rfl⟩
 show ((n.toNat : Nat) : Int) = n
 omega
theorem Rc.put (k : Nat) (s r : List UInt8) (h : s.length = k) : Rc.val k (s ++ r) = s ∧ Rc.rest k (s ++ r) = r ∧ decide ((s ++ r).length < k) = false := by
 subst h
 have hl : ¬ (s ++ r).length < s.length := by rw [List.length_append]; omega
 unfold Rc.val Rc.rest
 rw [if_neg hl, if_neg hl]
 exact ⟨List.take_left, List.drop_left, decide_eq_false hl⟩
structure Ws.Good (s : Ws) : Prop where
 lo : s.p.lo.length ≤ 24
 hi : s.p.hi.length ≤ 24
 c0 : 0 ≤ s.p.count
 c1 : s.p.count ≤ 2147483647
 sum : s.p.sum.length = 32
 lsn : s.lsn < 18446744073709551616
theorem Rs.put (s : Ws) (h : s.Good) (r : List UInt8) : Rs.one (s.lay ++ r) false = (s, r, false) := by
 have e : s.lay ++ r = Vint.putBytes s.p.lo ++ (Vint.putBytes s.p.hi ++ (Vint.fixed s.lsn 8 ++ (Vint.put s.p.count.toNat ++ (s.p.sum ++ r)))) := by simp [Ws.lay]
 have t1 := Rt.put s.p.lo (Vint.putBytes s.p.hi ++ (Vint.fixed s.lsn 8 ++ (Vint.put s.p.count.toNat ++ (s.p.sum ++ r)))) (by have := h.lo; omega)
 have t2 := Rt.put s.p.hi (Vint.fixed s.lsn 8 ++ (Vint.put s.p.count.toNat ++ (s.p.sum ++ r))) (by have := h.hi; omega)
 have t3 := Rc.put 8 (Vint.fixed s.lsn 8) (Vint.put s.p.count.toNat ++ (s.p.sum ++ r)) (fixed_len8 _)
 have t4 := Rn.put s.p.count 0 (s.p.sum ++ r) h.c0 h.c1
 have t5 := Rc.put 32 s.p.sum r h.sum
 unfold Rs.one
 rw [e]
 simp only [t1.1, t1.2.1, t1.2.2, t2.1, t2.2.1, t2.2.2, t3.1, t3.2.1, t3.2.2, t4.1, t4.2.1, t4.2.2.1, t5.1, t5.2.1, t5.2.2, Vint.number_fixed8 s.lsn h.lsn]
 rfl
theorem Rs.putN : ∀ (n : Nat) (l : List Ws) (r : List UInt8), l.length = n → (∀ s ∈ l, s.Good) → Rs.run n (Ws.layA l ++ r) false = (l, r, false)
 | 0, l, r, hl, _ => by
  obtain rfl : l = [] := List.length_eq_zero_iff.1 hl
  rfl
 | n + 1, l, r, hl, h => by
  obtain ⟨l', s, rfl⟩ : ∃ l' s, l = l' ++ [s] := ⟨l.dropLast, l.getLast (by rintro rfl; simp at hl), (List.dropLast_concat_getLast _).symm⟩
  have e : Ws.layA (l' ++ [s]) ++ r = Ws.layA l' ++ (s.lay ++ r) := by simp [Ws.layA]
  rw [e]
  have h1 := Rs.putN n l' (s.lay ++ r) (by simp at hl; omega) (fun x hx => h x (by simp [hx]))
  show (let q := Rs.run n (Ws.layA l' ++ (s.lay ++ r)) false; let z := Rs.one q.2.1 q.2.2; (q.1 ++ [z.1], z.2.1, z.2.2)) = _
  rw [h1]
  simp only [Rs.put s (h s (by simp)) r]
theorem Rs.putA (l : List Ws) (r : List UInt8) (h : ∀ s ∈ l, s.Good) : Rs.run l.length (Ws.layA l ++ r) false = (l, r, false) := Rs.putN _ l r rfl h
theorem Rs.putL (l : List Ws) (r : List UInt8) (h : ∀ s ∈ l, s.Good) (hl : l.length ≤ 60) : Rs.all (Ws.layL l ++ r) false = (l, r, false) := by
 have e : Ws.layL l ++ r = Vint.put ((l.length : Int)).toNat ++ (Ws.layA l ++ r) := by simp [Ws.layL]
 have t := Rn.put (l.length : Int) 0 (Ws.layA l ++ r) (by omega) (by omega)
 rw [e]
 unfold Rs.all
 rw [t.2.2.1, t.2.2.2, t.2.1]
 rw [if_neg (by simp; omega)]
 exact Rs.putA l r h
theorem Rg.put (s : Wg) (h : s.Ok) (r : List UInt8) : Rg.one (s.lay ++ r) false = (s, r, false) := by
 have e : s.lay ++ r = Vint.fixed s.weak 4 ++ (s.strong ++ r) := by simp [Wg.lay]
 have t1 := Rc.put 4 (Vint.fixed s.weak 4) (s.strong ++ r) (fixed_len4 _)
 have t2 := Rc.put 32 s.strong r h.len
 unfold Rg.one
 rw [e]
 simp only [t1.1, t1.2.1, t1.2.2, t2.1, t2.2.1, t2.2.2, number_fix4W s.weak h.w]
 rfl
theorem Rg.putA : ∀ (l : List Wg) (f : Nat), (∀ s ∈ l, s.Ok) → l.length ≤ f → Rg.run f (Wg.layL l) false = (l, [], false)
 | [], f, _, _ => by rw [Rg.run_end _ _ _ (by simp [Wg.layL])]; rfl
 | s :: l, f, h, hf => by
  obtain ⟨f, rfl⟩ : ∃ g, f = g + 1 := ⟨f - 1, by simp at hf; omega⟩
  have e : Wg.layL (s :: l) = s.lay ++ Wg.layL l := by simp [Wg.layL]
  have hs := h s (by simp)
  rw [e]
  unfold Rg.run
  rw [if_pos ⟨by rw [List.length_append, Wg.lay_len hs]; omega, rfl⟩, Rg.put s hs]
  simp only
  rw [Rg.putA l f (fun x hx => h x (by simp [hx])) (by simp at hf; omega)]
theorem Rg.putL (l : List Wg) (h : ∀ s ∈ l, s.Ok) : Rg.all (Wg.layL l) false = (l, [], false) := by
 refine Rg.putA l _ h ?_
 rw [Wg.layL_len h]; omega
theorem Wm.right_iff (m : Wm) : m.right = true ↔ (0 ≤ m.n ∧ m.n ≤ 131072) ∧ (0 ≤ m.size ∧ m.size ≤ 131072) ∧ (0 ≤ m.count ∧ m.count ≤ 2147483647) ∧ m.subs.length ≤ 60 ∧ m.sigs.length ≤ 60 ∧ m.data.length ≤ 64 ∧ m.lo.length ≤ 24 ∧ m.hi.length ≤ 24 ∧ m.subs.any Ws.bad = false ∧ Ent.getAll (Ent.putAll m.ents) = some m.ents := by
 unfold Wm.right Wm.isSz Wm.isCnt Ent.sent
 simp only [Bool.and_eq_true, decide_eq_true_eq, Bool.not_eq_true']
 constructor
 ·
  rintro ⟨⟨⟨⟨⟨⟨⟨h1, h2⟩, h3⟩, ⟨⟨h4, h5⟩, h6⟩⟩, h7⟩, h8⟩, h9⟩, h10⟩
  exact ⟨h1, h2, h3, h4, h5, h6, h7, h8, h9, h10⟩
 ·
  rintro ⟨h1, h2, h3, h4, h5, h6, h7, h8, h9, h10⟩
  exact ⟨⟨⟨⟨⟨⟨⟨h1, h2⟩, h3⟩, ⟨⟨h4, h5⟩, h6⟩⟩, h7⟩, h8⟩, h9⟩, h10⟩
theorem Wm.goods {m : Wm} (hr : m.right = true) (ho : m.Own) : ∀ s ∈ m.subs, s.Good := by
 intro s hs
 have h9 := ((Wm.right_iff m).1 hr).2.2.2.2.2.2.2.2.1
 rw [List.any_eq_false] at h9
 have := h9 s hs
 unfold Ws.bad Wm.isCnt at this
 simp only [Bool.not_eq_true, Bool.or_eq_false_iff, Bool.not_eq_false', Bool.and_eq_true, decide_eq_true_eq] at this
 obtain ⟨⟨h1, h2⟩, h3, h4⟩ := this
 exact ⟨h1, h2, h3, h4, (ho.sub s hs).1, (ho.sub s hs).2⟩
theorem Wm.lays {m : Wm} (hr : m.right = true) (ho : m.Own) (he : Ent.total m.ents + 20 * m.ents.length ≤ 1000000) : m.Lays := by
 obtain ⟨h1, h2, h3, h4, h5, h6, h7, h8, _, _⟩ := (Wm.right_iff m).1 hr
 have hg := Wm.goods hr ho
 exact { lo := h7, hi := h8, n0 := h1.1, n1 := by omega, c0 := h3.1, c1 := h3.2, z0 := h2.1, z1 := by omega, subs := h4, sub := fun s hs => ⟨(hg s hs).lo, (hg s hs).hi, (hg s hs).c0, (hg s hs).c1, (hg s hs).sum⟩, ents := he, sigs := by omega, data := by omega }
theorem Wm.head_laid {m : Wm} (ho : m.Own) (h0 : 0 ≤ m.kind) (h1 : m.kind ≤ 255) : Wm.head m.laid = { Wm.nul with kind := m.kind, session := m.session, seq := m.seq } ∧ m.laid.drop 9 = m.fields ∧ 9 ≤ m.laid.length := by
 have l1 := fixed_len4 m.session
 have l2 := fixed_len4 m.seq
 have e : m.laid = UInt8.ofNat m.kind.toNat :: (Vint.fixed m.session 4 ++ (Vint.fixed m.seq 4 ++ m.fields)) := by simp [Wm.laid]
 have k1 : ((m.laid.getD 0 0).toNat : Int) = m.kind := by
  rw [e]
  show ((UInt8.ofNat m.kind.toNat).toNat : Int) = _
  rw [UInt8.toNat_ofNat']
  rw [Nat.mod_eq_of_lt (by omega)]
  omega
 have k2 : (m.laid.drop 1).take 4 = Vint.fixed m.session 4 := by
  rw [e, List.drop_succ_cons, List.drop_zero]
  rw [← l1]; exact List.take_left
 have k3 : (m.laid.drop 5).take 4 = Vint.fixed m.seq 4 := by
  rw [e, List.drop_succ_cons, show 4 = (Vint.fixed m.session 4).length from l1.symm, List.drop_left, l1, show 4 = (Vint.fixed m.seq 4).length from l2.symm]
  exact List.take_left
 refine ⟨?_, ?_, ?_⟩
 ·
  unfold Wm.head
  rw [k1, k2, k3, number_fix4W _ ho.session, number_fix4W _ ho.seq]
 ·
  rw [e, List.drop_succ_cons, ← List.append_assoc, show 8 = (Vint.fixed m.session 4 ++ Vint.fixed m.seq 4).length by rw [List.length_append, l1, l2]]
  exact List.drop_left
 ·
  rw [e]; simp [l1, l2]; omega
theorem Rt.put' (k : List UInt8) (h : k.length ≤ 100000) : Rt.val (Vint.putBytes k) = k ∧ Rt.rest (Vint.putBytes k) = [] ∧ Rt.bad (Vint.putBytes k) = false := by
 have := Rt.put k [] h
 rwa [List.append_nil] at this
theorem Rn.put' (n : Int) (n0 : Int) (h0 : 0 ≤ n) (h1 : n ≤ 2147483647) : Rn.val (Vint.put n.toNat) n0 = n ∧ Rn.rest (Vint.put n.toNat) = [] ∧ Rn.ok (Vint.put n.toNat) = true := by
 have := Rn.put n n0 [] h0 h1
 rw [List.append_nil] at this
 exact ⟨this.1, this.2.1, this.2.2.1⟩
theorem Rc.put' (k : Nat) (s : List UInt8) (h : s.length = k) : Rc.val k s = s ∧ Rc.rest k s = [] ∧ decide (s.length < k) = false := by
 have := Rc.put k s [] h
 rwa [List.append_nil] at this
theorem Wm.read_laid {m : Wm} (hr : m.right = true) (ho : m.Own) (hkn : Wm.known m.kind = true) (x : Wm) (hx : x = { Wm.nul with kind := m.kind, session := m.session, seq := m.seq }) : x.read m.fields = (m.only, [], false) := by
 obtain ⟨h1, h2, h3, h4, h5, h6, h7, h8, _, h10⟩ := (Wm.right_iff m).1 hr
 have hg := Wm.goods hr ho
 have hk : x.kind = m.kind := by rw [hx]
 have e1 := fun r => Rt.put m.lo r (by omega)
 have e2 := fun r => Rt.put m.hi r (by omega)
 have e2' := Rt.put' m.hi (by omega)
 have n1 := fun r => Rn.put m.n 0 r h1.1 (by omega)
 have n1' := Rn.put' m.n 0 h1.1 (by omega)
 have hn : x.n = 0 := by rw [hx]; rfl
 have hc : x.count = 0 := by rw [hx]; rfl
 have hz : x.size = 0 := by rw [hx]; rfl
 have t1 := fun r => Rc.put 8 (Vint.fixed m.lsn 8) r (fixed_len8 _)
 have t2 := fun r => Rn.put m.count 0 r h3.1 h3.2
 have t3 := fun r => Rc.put 32 m.sum r ho.sum
 have t4 := fun r => Rn.put m.size 0 r h2.1 (by omega)
 have t5 := Rc.put' 32 m.file ho.file
 have hsub := Rs.putL m.subs [] hg h4
 rw [List.append_nil] at hsub
 have hsig := Rg.putL m.sigs ho.sig
 have f1 := fun r => Rc.put 1 [if m.more = true then 1 else 0] r rfl
 have hm : decide ([if m.more = true then (1 : UInt8) else 0] = [1]) = m.more := by cases m.more <;> decide
 simp only [Wm.known, Bool.or_eq_true, decide_eq_true_eq] at hkn
 rcases hkn with ((((((((((k | k) | k) | k) | k) | k) | k) | k) | k) | k) | k) | k
 ·
  have ef : m.fields = [] := by
   unfold Wm.fields
   rw [if_neg (by rw [k]; decide), if_neg (by rw [k]; decide), if_neg (by rw [k]; decide), if_neg (by rw [k]; decide), if_neg (by rw [k]; decide), if_neg (by rw [k]; decide), if_neg (by rw [k]; decide), if_neg (by rw [k]; decide)]
  have eo : m.only = { Wm.nul with kind := m.kind, session := m.session, seq := m.seq } := by
   unfold Wm.only
   rw [if_neg (by rw [k]; decide), if_neg (by rw [k]; decide), if_neg (by rw [k]; decide), if_neg (by rw [k]; decide), if_neg (by rw [k]; decide), if_neg (by rw [k]; decide), if_neg (by rw [k]; decide), if_neg (by rw [k]; decide)]
  rw [Wm.read_1 x _ (hk.trans k), ef, eo]
  rw [hx]
 ·
  have ef : m.fields = [] := by
   unfold Wm.fields
   rw [if_neg (by rw [k]; decide), if_neg (by rw [k]; decide), if_neg (by rw [k]; decide), if_neg (by rw [k]; decide), if_neg (by rw [k]; decide), if_neg (by rw [k]; decide), if_neg (by rw [k]; decide), if_neg (by rw [k]; decide)]
  have eo : m.only = { Wm.nul with kind := m.kind, session := m.session, seq := m.seq } := by
   unfold Wm.only
   rw [if_neg (by rw [k]; decide), if_neg (by rw [k]; decide), if_neg (by rw [k]; decide), if_neg (by rw [k]; decide), if_neg (by rw [k]; decide), if_neg (by rw [k]; decide), if_neg (by rw [k]; decide), if_neg (by rw [k]; decide)]
  rw [Wm.read_2 x _ (hk.trans k), ef, eo]
  rw [hx]
 ·
  have ef : m.fields = Vint.putBytes m.lo ++ Vint.putBytes m.hi := by
   unfold Wm.fields Wm.ends
   rw [if_pos (by rw [k]; decide)]
  have eo : m.only = { Wm.nul with kind := m.kind, session := m.session, seq := m.seq, lo := m.lo, hi := m.hi } := by
   unfold Wm.only
   rw [if_pos (by rw [k]; decide)]
  rw [Wm.read_3 x _ (hk.trans k), ef, eo]
  unfold Wm.rdEnds
  rw [(e1 _).1, (e1 _).2.1, (e1 _).2.2, e2'.1, e2'.2.1, e2'.2.2, hx]
  rfl
 ·
  have ef : m.fields = Vint.putBytes m.lo ++ Vint.putBytes m.hi := by
   unfold Wm.fields Wm.ends
   rw [if_pos (by rw [k]; decide)]
  have eo : m.only = { Wm.nul with kind := m.kind, session := m.session, seq := m.seq, lo := m.lo, hi := m.hi } := by
   unfold Wm.only
   rw [if_pos (by rw [k]; decide)]
  rw [Wm.read_4 x _ (hk.trans k), ef, eo]
  unfold Wm.rdEnds
  rw [(e1 _).1, (e1 _).2.1, (e1 _).2.2, e2'.1, e2'.2.1, e2'.2.2, hx]
  rfl
 ·
  have ef : m.fields = Vint.put m.n.toNat := by
   unfold Wm.fields Wm.ends
   rw [if_neg (by rw [k]; decide), if_pos (by rw [k]; decide)]
  have eo : m.only = { Wm.nul with kind := m.kind, session := m.session, seq := m.seq, n := m.n } := by
   unfold Wm.only
   rw [if_neg (by rw [k]; decide), if_pos (by rw [k]; decide)]
  rw [Wm.read_5 x _ (hk.trans k), ef, eo]
  rw [hn, n1'.1, n1'.2.1, n1'.2.2, hx]
  rfl
 ·
  have ef : m.fields = Vint.put m.n.toNat := by
   unfold Wm.fields Wm.ends
   rw [if_neg (by rw [k]; decide), if_pos (by rw [k]; decide)]
  have eo : m.only = { Wm.nul with kind := m.kind, session := m.session, seq := m.seq, n := m.n } := by
   unfold Wm.only
   rw [if_neg (by rw [k]; decide), if_pos (by rw [k]; decide)]
  rw [Wm.read_6 x _ (hk.trans k), ef, eo]
  rw [hn, n1'.1, n1'.2.1, n1'.2.2, hx]
  rfl
 ·
  have ef : m.fields = Vint.fixed m.lsn 8 ++ (Vint.put m.count.toNat ++ (m.sum ++ (Vint.put m.size.toNat ++ m.file))) := by
   unfold Wm.fields Wm.ends
   rw [if_neg (by rw [k]; decide), if_neg (by rw [k]; decide), if_pos k]
  have eo : m.only = { Wm.nul with kind := m.kind, session := m.session, seq := m.seq, lsn := m.lsn, count := m.count, sum := m.sum, size := m.size, file := m.file } := by
   unfold Wm.only
   rw [if_neg (by rw [k]; decide), if_neg (by rw [k]; decide), if_pos k]
  rw [Wm.read_17 x _ (hk.trans k), ef, eo]
  rw [hc, hz]
  simp only [(t1 _).1, (t1 _).2.1, (t1 _).2.2, (t2 _).1, (t2 _).2.1, (t2 _).2.2.1, (t3 _).1, (t3 _).2.1, (t3 _).2.2, (t4 _).1, (t4 _).2.1, (t4 _).2.2.1, t5.1, t5.2.1, t5.2.2, Vint.number_fixed8 _ ho.lsn]
  rw [hx]
  rfl
 ·
  have ef : m.fields = Ws.layL m.subs := by
   unfold Wm.fields Wm.ends
   rw [if_neg (by rw [k]; decide), if_neg (by rw [k]; decide), if_neg (by rw [k]; decide), if_pos k]
  have eo : m.only = { Wm.nul with kind := m.kind, session := m.session, seq := m.seq, subs := m.subs } := by
   unfold Wm.only
   rw [if_neg (by rw [k]; decide), if_neg (by rw [k]; decide), if_neg (by rw [k]; decide), if_pos k]
  rw [Wm.read_18 x _ (hk.trans k), ef, eo]
  rw [hsub, hx]
 ·
  have ef : m.fields = (Vint.putBytes m.lo ++ Vint.putBytes m.hi) ++ Ws.layL m.subs := by
   unfold Wm.fields Wm.ends
   rw [if_neg (by rw [k]; decide), if_neg (by rw [k]; decide), if_neg (by rw [k]; decide), if_neg (by rw [k]; decide), if_pos k]
  have eo : m.only = { Wm.nul with kind := m.kind, session := m.session, seq := m.seq, lo := m.lo, hi := m.hi, subs := m.subs } := by
   unfold Wm.only
   rw [if_neg (by rw [k]; decide), if_neg (by rw [k]; decide), if_neg (by rw [k]; decide), if_neg (by rw [k]; decide), if_pos k]
  rw [Wm.read_19 x _ (hk.trans k), ef, eo]
  unfold Wm.rdEnds
  simp only [List.append_assoc, (e1 _).1, (e1 _).2.1, (e1 _).2.2, (e2 _).1, (e2 _).2.1, (e2 _).2.2, Bool.or_false, hsub, hx]
 ·
  have ef : m.fields = (Vint.putBytes m.lo ++ Vint.putBytes m.hi) ++ ([if m.more then 1 else 0] ++ Ent.putAll m.ents) := by
   unfold Wm.fields Wm.ends
   rw [if_neg (by rw [k]; decide), if_neg (by rw [k]; decide), if_neg (by rw [k]; decide), if_neg (by rw [k]; decide), if_neg (by rw [k]; decide), if_pos k]
  have eo : m.only = { Wm.nul with kind := m.kind, session := m.session, seq := m.seq, lo := m.lo, hi := m.hi, more := m.more, ents := m.ents } := by
   unfold Wm.only
   rw [if_neg (by rw [k]; decide), if_neg (by rw [k]; decide), if_neg (by rw [k]; decide), if_neg (by rw [k]; decide), if_neg (by rw [k]; decide), if_pos k]
  rw [Wm.read_20 x _ (hk.trans k), ef, eo]
  unfold Wm.rdEnds
  simp only [List.append_assoc, (e1 _).1, (e1 _).2.1, (e1 _).2.2, (e2 _).1, (e2 _).2.1, (e2 _).2.2, Bool.or_false, (f1 _).1, (f1 _).2.1, (f1 _).2.2, hm, h10, hx]
  rfl
 ·
  have ef : m.fields = Vint.put m.n.toNat ++ Wg.layL m.sigs := by
   unfold Wm.fields Wm.ends
   rw [if_neg (by rw [k]; decide), if_neg (by rw [k]; decide), if_neg (by rw [k]; decide), if_neg (by rw [k]; decide), if_neg (by rw [k]; decide), if_neg (by rw [k]; decide), if_pos k]
  have eo : m.only = { Wm.nul with kind := m.kind, session := m.session, seq := m.seq, n := m.n, sigs := m.sigs } := by
   unfold Wm.only
   rw [if_neg (by rw [k]; decide), if_neg (by rw [k]; decide), if_neg (by rw [k]; decide), if_neg (by rw [k]; decide), if_neg (by rw [k]; decide), if_neg (by rw [k]; decide), if_pos k]
  rw [Wm.read_21 x _ (hk.trans k), ef, eo]
  rw [hn, (n1 _).1, (n1 _).2.1, (n1 _).2.2.1]
  simp only [Bool.not_true, Bool.or_false, hsig, hx]
 ·
  have ef : m.fields = Vint.put m.n.toNat ++ m.data := by
   unfold Wm.fields Wm.ends
   rw [if_neg (by rw [k]; decide), if_neg (by rw [k]; decide), if_neg (by rw [k]; decide), if_neg (by rw [k]; decide), if_neg (by rw [k]; decide), if_neg (by rw [k]; decide), if_neg (by rw [k]; decide), if_pos k]
  have eo : m.only = { Wm.nul with kind := m.kind, session := m.session, seq := m.seq, n := m.n, data := m.data } := by
   unfold Wm.only
   rw [if_neg (by rw [k]; decide), if_neg (by rw [k]; decide), if_neg (by rw [k]; decide), if_neg (by rw [k]; decide), if_neg (by rw [k]; decide), if_neg (by rw [k]; decide), if_neg (by rw [k]; decide), if_pos k]
  rw [Wm.read_22 x _ (hk.trans k), ef, eo]
  rw [hn, (n1 _).1, (n1 _).2.1, (n1 _).2.2.1, hx]
  rfl
theorem Wm.take_laid {m : Wm} (hr : m.right = true) (ho : m.Own) (h0 : 0 ≤ m.kind) (h1 : m.kind ≤ 255) (hk : Wm.known m.kind = true) : Wm.take m.laid = (m.only, true) := by
 obtain ⟨e1, e2, e3⟩ := Wm.head_laid ho h0 h1
 unfold Wm.take
 rw [if_neg (by omega), e1, e2]
 simp only
 rw [Wm.read_laid hr ho hk _ rfl, hk]
 rfl
end Go.Proofs.YtjholekgdnhpkaaGreatDoor
namespace Go.Proofs.YtjholekgdnhpkaaGreatDoor.Crc
def bit (c : Nat) : Nat := (c / 2) ^^^ (2197175160 * (c % 2))
def tab (i : Nat) : Nat := bit (bit (bit (bit i)))
def nib (c : Nat) : Nat := (c / 16) ^^^ tab (c % 16)
def byte (c b : Nat) : Nat := nib (nib (c ^^^ b))
def over (c : Nat) (l : List UInt8) : Nat := l.foldl (fun c b => byte c b.toNat) c
def flip (c : Nat) : Nat := 4294967295 - c
def more (c : Nat) (l : List UInt8) : Nat := flip (over (flip c) l)
def sum (l : List UInt8) : Nat := more 0 l
theorem mod_two (a : Nat) : a % 2 = 0 ∨ a % 2 = 1 := by omega
theorem xor_mod (a b : Nat) : (a ^^^ b) % 2 = (a % 2) ^^^ (b % 2) := Nat.xor_mod_two_pow (n := 1)
theorem xor_div (a b : Nat) : (a ^^^ b) / 2 = (a / 2) ^^^ (b / 2) := by
 have h : ∀ x : Nat, x / 2 = x >>> 1 := fun x => by rw [Nat.shiftRight_eq_div_pow]
 rw [h, h, h]; exact Nat.shiftRight_xor_distrib
theorem mul_bit (a b : Nat) : 2197175160 * ((a % 2) ^^^ (b % 2)) = (2197175160 * (a % 2)) ^^^ (2197175160 * (b % 2)) := by
 rcases mod_two a with h | h <;> rcases mod_two b with h' | h' <;> rw [h, h'] <;> decide
theorem xor4 (a b c d : Nat) : (a ^^^ b) ^^^ (c ^^^ d) = (a ^^^ c) ^^^ (b ^^^ d) := by
 rw [Nat.xor_assoc, Nat.xor_assoc, ← Nat.xor_assoc b c d, Nat.xor_comm b c, Nat.xor_assoc c b d]
theorem bit_xor (a b : Nat) : bit (a ^^^ b) = bit a ^^^ bit b := by
 unfold bit
 rw [xor_div, xor_mod, mul_bit, xor4]
theorem bit_even (x : Nat) : bit (2 * x) = x := by
 unfold bit
 rw [show 2 * x / 2 = x by omega, show 2 * x % 2 = 0 by omega]
 simp
theorem split16 (c : Nat) : c = (16 * (c / 16)) ^^^ (c % 16) := by
 have h := Nat.div_add_mod c 16
 have hx : (16 * (c / 16)) ^^^ (c % 16) = 16 * (c / 16) + c % 16 := by
  have := Nat.two_pow_add_eq_or_of_lt (i := 4) (b := c % 16) (by omega) (c / 16)
  have e2 : (16 * (c / 16)) &&& (c % 16) = 0 := by
   apply Nat.eq_of_testBit_eq
   intro i
   rw [Nat.testBit_and, Nat.zero_testBit]
   by_cases hi : i < 4
   ·
    rw [show 16 * (c / 16) = 2 ^ 4 * (c / 16) from rfl, Nat.testBit_two_pow_mul]
    simp; omega
   ·
    rw [Nat.testBit_lt_two_pow (x := c % 16) (by
     have : 2 ^ 4 ≤ 2 ^ i := Nat.pow_le_pow_right (by omega) (by omega)
     omega)]
    simp
  apply Nat.eq_of_testBit_eq
  intro i
  have h3 := congrArg (fun x => x.testBit i) e2
  simp only [Nat.testBit_and, Nat.zero_testBit] at h3
  rw [show 16 * (c / 16) + c % 16 = 16 * (c / 16) ||| c % 16 from this, Nat.testBit_xor, Nat.testBit_or]
  cases h4 : (16 * (c / 16)).testBit i <;> cases h5 : (c % 16).testBit i <;> simp_all
 rw [hx]; omega
theorem four_bits (c : Nat) : bit (bit (bit (bit c))) = nib c := by
 conv => lhs; rw [split16 c]
 rw [bit_xor, bit_xor, bit_xor, bit_xor]
 rw [show 16 * (c / 16) = 2 * (2 * (2 * (2 * (c / 16)))) by omega, bit_even, bit_even, bit_even, bit_even]
 rfl
theorem bit_lt {c : Nat} (h : c < 4294967296) : bit c < 4294967296 := by
 unfold bit
 refine Nat.xor_lt_two_pow (n := 32) (by omega) ?_
 rcases mod_two c with h' | h' <;> rw [h'] <;> decide
theorem tab_lt {i : Nat} (h : i < 4294967296) : tab i < 4294967296 := bit_lt (bit_lt (bit_lt (bit_lt h)))
theorem nib_lt {c : Nat} (h : c < 4294967296) : nib c < 4294967296 := by rw [← four_bits]; exact tab_lt h
theorem xor_lt {a b : Nat} (ha : a < 4294967296) (hb : b < 4294967296) : a ^^^ b < 4294967296 := Nat.xor_lt_two_pow (n := 32) ha hb
theorem byte_lt {c b : Nat} (h : c < 4294967296) (hb : b < 256) : byte c b < 4294967296 := nib_lt (nib_lt (xor_lt h (by omega)))
theorem over_lt {c : Nat} (h : c < 4294967296) (l : List UInt8) : over c l < 4294967296 := by
 induction l generalizing c with
 | nil => exact h
 | cons x xs ih => exact ih (byte_lt h x.toNat_lt)
theorem flip_lt (c : Nat) : flip c < 4294967296 := by unfold flip; omega
theorem sum_lt (l : List UInt8) : sum l < 4294967296 := flip_lt _
theorem over_app (c : Nat) (l m : List UInt8) : over c (l ++ m) = over (over c l) m := by simp [over]
theorem over_snoc (c : Nat) (l : List UInt8) (k : Nat) (h : k < l.length) : over c (l.take (k + 1)) = byte (over c (l.take k)) l[k].toNat := by
 rw [List.take_succ_eq_append_getElem h, over_app]; rfl
def four (n : Nat) : List UInt8 := [UInt8.ofNat (n / 16777216), UInt8.ofNat (n / 65536), UInt8.ofNat (n / 256), UInt8.ofNat n]
def put (l : List UInt8) : List UInt8 := l ++ four (sum l)
def ok (b : List UInt8) : Bool := decide (4 ≤ b.length) && (put (b.take (b.length - 4)) == b)
def got (b : List UInt8) : List UInt8 := if ok b then b.take (b.length - 4) else []
theorem got_len_le (b : List UInt8) : (got b).length ≤ b.length := by
 unfold got
 split
 ·
  simp
 ·
  simp
theorem ok_of {b p : List UInt8} (h : 4 ≤ b.length) (hp : p = b.take (b.length - 4)) : ok b = (put p == b) := by
 unfold ok; rw [hp]; simp [h]
theorem got_yes {b p : List UInt8} (hp : p = b.take (b.length - 4)) (h : ok b = true) : got b = p := by unfold got; rw [h, hp]; rfl
theorem got_no {b : List UInt8} (h : ok b = false) : got b = [] := by unfold got; rw [h]; rfl
theorem four_len (n : Nat) : (four n).length = 4 := rfl
theorem put_len (l : List UInt8) : (put l).length = l.length + 4 := by simp [put, four_len]
end Go.Proofs.YtjholekgdnhpkaaGreatDoor.Crc
namespace Go.Proofs.YtjholekgdnhpkaaGreatDoor
open Go.RowKit
def tabV (k : Nat) : Array Value := ((List.range 16).map fun j => Value.int .u32 ((if j < k then Crc.tab j else 0 : Nat) : Int)).toArray
theorem tabV_size (k : Nat) : (tabV k).size = 16 := by simp [tabV]
theorem tabV_get (k j : Nat) (h : j < 16) : (tabV k)[j]? = some (Value.int .u32 ((if j < k then Crc.tab j else 0 : Nat) : Int)) := by
 simp [tabV, List.getElem?_map, List.getElem?_range h]
theorem tabV_set (k : Nat) (h : k < 16) : (tabV k).setIfInBounds k (.int .u32 (Crc.tab k : Nat)) = tabV (k + 1) := by
 apply Array.ext_getElem?
 intro j
 rw [Array.getElem?_setIfInBounds]
 by_cases hj : j < 16
 ·
  rw [tabV_get _ _ hj, tabV_get _ _ hj, tabV_size]
  by_cases he : k = j
  ·
   subst he; simp [h]
  ·
   rw [if_neg he]
   by_cases h2 : j < k
   ·
    rw [if_pos h2, if_pos (by omega)]
   ·
    rw [if_neg h2, if_neg (by omega)]
 ·
  rw [if_neg (by omega), Array.getElem?_eq_none (by rw [tabV_size]; omega), Array.getElem?_eq_none (by rw [tabV_size]; omega)]
def tabAt (i : Nat) : Nat → Nat
 | 0 => i
 | j + 1 => Crc.bit (tabAt i j)
theorem tabAt_lt {i : Nat} (h : i < 16) (j : Nat) : tabAt i j < 4294967296 := by
 induction j with
 | zero => unfold tabAt; omega
 | succ j ih => exact Crc.bit_lt ih
theorem tabInfo : (Tryz.prog.info? 125).map (·.size) = some (tabV 16).size := by rw [tabV_size]; kernel_rfl
theorem tabOne : (tabV 16).all (·.oneCell') = true := by
 rw [Array.all_eq_true_iff_forall_mem]
 intro v hv
 simp only [tabV, List.mem_toArray, List.mem_map] at hv
 obtain ⟨_, _, rfl⟩ := hv
 rfl
set_option maxHeartbeats 400000 in
theorem table_of (w : World) : Calls Tryz.prog 76 #[] w fun e w' => e = .returned (.agg (tabV 16)) ∧ Below w.heap.size w w' := by
 go_enter Tryz.func76, Tryz.ntmps76
 go_wp2
 go_loopw [3] (fun i wr => ∃ k : Nat, k ≤ 16 ∧ i = .int .i64 k ∧ wr = w.alloc (.cells (tabV k) 125)) (fun i _ => 16 - (intOf i).toNat)
 case atStart => exact ⟨0, by omega, rfl, rfl⟩
 case round =>
  obtain ⟨k, hk, rfl, rfl⟩ := hrel
  by_cases h : k < 16
  ·
   go_wp2
   go_loop [2, 8] (fun c i => ∃ j : Nat, j ≤ 4 ∧ i = .int .i64 j ∧ c = .int .u32 (tabAt k j : Nat)) (fun _ i => 4 - (intOf i).toNat)
   case atStart => exact ⟨0, by omega, rfl, rfl⟩
   case round =>
    obtain ⟨j, hj, rfl, rfl⟩ := hrel
    have hf := tabAt_lt h j
    have hs : Hid (tabAt k (j + 1) = Crc.bit (tabAt k j)) := rfl
    have h1 := a32_1 (tabAt k j) hf
    have hq : tabAt k j / 2 < 4294967296 := by omega
    by_cases h4 : j < 4
    ·
     rcases Crc.mod_two (tabAt k j) with hm | hm <;> rw [hm] at h1
     ·
      have h2 := Lib.hid (x32 (tabAt k j / 2) 0 hq (by omega))
      have HM := Lib.hid hm
      clear hm
      go_wp2
      go_round
      case rel => exact ⟨j + 1, by omega, by go_num, val_int (by rw [hs.out, Crc.bit, HM.out]; exact h2.out)⟩
      case measure => simp [intOf]; omega
     ·
      have h2 := Lib.hid (x32 (tabAt k j / 2) 2197175160 hq (by omega))
      have HM := Lib.hid hm
      clear hm
      go_wp2
      go_round
      case rel => exact ⟨j + 1, by omega, by go_num, val_int (by rw [hs.out, Crc.bit, HM.out]; exact h2.out)⟩
      case measure => simp [intOf]; omega
    ·
     obtain rfl : j = 4 := by omega
     have hset := Lib.hid (tabV_set k h)
     have hcell := tabV_get k k h
     clear h1 hq hs hf
     go_wp2
     go_roundw
     case rel => exact ⟨k + 1, by omega, by go_num, by rw [← hset.out]; rfl⟩
     case measure => simp [intOf]; omega
  ·
   obtain rfl : k = 16 := by omega
   go_wp2_with (first
    | (refine wpList_load_row rfl 125 (.tmp 0) rfl w.heap.size rfl 125 (tabV 16) (0, 0) _ (heap_alloc_new w _) Tryz.underlying125 rfl tabInfo ?_)
    | (refine wpList_store_row rfl 125 (.tmp 0) (.tmp 21) rfl w.heap.size (tabV 16) rfl rfl 125 (tabV 16) (heap_alloc_new w _) tabInfo rfl tabOne ?_; rw [setRow_alloc]))
   refine bodyPost_ret (v := .agg (tabV 16)) (results_cell_row rfl _ _ w.heap.size 125 (tabV 16) (0, 0) _ rfl (heap_alloc_new w _) Tryz.underlying125 rfl tabInfo) rfl ⟨rfl, (Below.refl _ _).alloc (Nat.le_refl _) _⟩
end Go.Proofs.YtjholekgdnhpkaaGreatDoor
namespace Go.Proofs.YtjholekgdnhpkaaGreatDoor
open Go.RowKit
theorem nibI (x y : Nat) (h : x < 4294967296) (e : y = Crc.nib x) : ∃ j : Nat, j < 16 ∧ bits .and .u32 (x : Int) 15 = (j : Int) ∧ (tabV 16)[j]? = some (Value.int .u32 (Crc.tab j : Nat)) ∧ bits .xor .u32 ((x : Int) / 16) ((Crc.tab j : Nat) : Int) = (y : Int) := by
 refine ⟨x % 16, by omega, a32_15 x h, ?_, ?_⟩
 ·
  have := tabV_get 16 (x % 16) (by omega)
  rwa [if_pos (by omega)] at this
 ·
  rw [show ((x : Int) / 16) = ((x / 16 : Nat) : Int) by omega, e]
  exact x32 _ _ (by omega) (Crc.tab_lt (by omega))
set_option maxHeartbeats 400000 in
theorem over_any (c : Nat) (A : Option Addr) (bs : List UInt8) (cap : Nat) (w : World) (hc : c < 4294967296) (hA : RdB w A bs) (hl : bs.length ≤ 140737488355328) :
  Calls Tryz.prog 77 #[.agg (tabV 16), .int .u32 (c : Int), .slice A bs.length cap] w fun e w' => e = .returned (.int .u32 (Crc.over c bs : Nat)) ∧ Below w.heap.size w w' := by
 have hA1 := hA.below ((Below.refl w.heap.size w).alloc (Nat.le_refl _) (.cells (tabV 16) 125))
 have Hc := Lib.hid hc
 clear hc
 go_enter Tryz.func77, Tryz.ntmps77
 go_wp2
 go_loop [1, 11] (fun a i => ∃ k : Nat, k ≤ bs.length ∧ i = .int .i64 k ∧ a = .int .u32 (Crc.over c (bs.take k) : Nat)) (fun _ i => bs.length - (intOf i).toNat)
 case atStart => exact ⟨0, by omega, rfl, rfl⟩
 case round =>
  obtain ⟨k, hk, rfl, rfl⟩ := hrel
  by_cases h : k < bs.length
  ·
   obtain ⟨ad, rfl, hcell⟩ := hA1.at_ h
   have hov := Crc.over_lt Hc.out (bs.take k)
   have hs := Lib.hid (Crc.over_snoc c bs k h)
   generalize Crc.over c (bs.take k) = d at *
   have hb := bs[k].toNat_lt
   generalize bs[k].toNat = b at *

   obtain ⟨x1, e1⟩ : ∃ x, x = d ^^^ b := ⟨_, rfl⟩
   have E1 := Lib.hid e1
   have l1 : x1 < 4294967296 := by rw [e1]; exact Crc.xor_lt hov (by omega)
   have b1 : bits .xor .u32 (d : Int) (b : Int) = (x1 : Int) := by rw [e1]; exact x32 d b hov (by omega)
   obtain ⟨x2, e2⟩ : ∃ x, x = Crc.nib x1 := ⟨_, rfl⟩
   have E2 := Lib.hid e2
   have l2 : x2 < 4294967296 := by rw [e2]; exact Crc.nib_lt l1
   have b2 := nibI x1 x2 l1 e2
   obtain ⟨x3, e3⟩ : ∃ x, x = Crc.nib x2 := ⟨_, rfl⟩
   have E3 := Lib.hid e3
   have b3 := nibI x2 x3 l2 e3
   clear e1 e2 e3
   obtain ⟨j1, j1l, b21, b22, b23⟩ := b2
   obtain ⟨j2, j2l, b31, b32, b33⟩ := b3
   go_wp2
   go_round
   case rel => exact ⟨k + 1, by omega, by go_num, val_int (by rw [hs.out, E3.out, E2.out, E1.out]; rfl)⟩
   case measure => simp [intOf]; omega
  ·
   obtain rfl : k = bs.length := by omega
   rw [List.take_length]
   go_wp2
   go_ret
   exact ⟨rfl, (Below.refl _ _).alloc (Nat.le_refl _) _⟩
theorem over_cat (c : Nat) (l : List Sl) (k : Nat) (h : k < l.length) : Crc.over c (cat (l.take (k + 1))) = Crc.over (Crc.over c (cat (l.take k))) l[k].bs := by
 rw [cat_snoc l k h, Crc.over_app]
set_option maxHeartbeats 400000 in
theorem sum_any (A : Option Addr) (l : List Sl) (cap : Nat) (w : World) (hA : RdL w A l) (hl : l.length ≤ 1000000) (hc : (cat l).length ≤ 140737488355328) :
  Calls Tryz.prog 51 #[.slice A l.length cap] w fun e w' => e = .returned (.int .u32 (Crc.sum (cat l) : Nat)) ∧ Below w.heap.size w w' := by
 have hend : bits .xor .u32 IntKind.u32.max ((Crc.over 4294967295 (cat l) : Nat) : Int) = ((Crc.sum (cat l) : Nat) : Int) := not32 _ (Crc.over_lt (by omega) _)
 have Hc := Lib.hid hc
 clear hc
 go_enter Tryz.func51, Tryz.ntmps51
 go_wp2_with fail
 refine (table_of w).mono ?_
 rintro e w1 ⟨rfl, hb1⟩
 go_wp2_with (first
  | (refine wpList_store_row rfl 125 (.tmp 3) (.tmp 7) rfl w1.heap.size (tabV 16) rfl rfl 125 _ (heap_alloc_new w1 _) tabInfo rfl tabOne ?_; rw [setRow_alloc]))
 go_loopw [4, 10] (fun a i wr => ∃ k : Nat, k ≤ l.length ∧ i = .int .i64 k ∧ a = .int .u32 (Crc.over 4294967295 (cat (l.take k)) : Nat) ∧ Below (w1.heap.size + 1) (w1.alloc (.cells (tabV 16) 125)) wr) (fun _ i _ => l.length - (intOf i).toNat)
 case atStart => exact ⟨0, by omega, rfl, rfl, Below.refl _ _⟩
 case round =>
  obtain ⟨k, hk, rfl, rfl, hb2⟩ := hrel
  have hg : wr.heap[w1.heap.size]? = some (.cells (tabV 16) 125 (0, 0)) := (hb2.block _ (by omega)).trans (heap_alloc_new w1 _)
  have hbw : Below w.heap.size w wr := (hb1.alloc hb1.size _).trans (hb2.mono (by have := hb1.size; omega))
  have hsz := hb2.size
  simp only [World.size_alloc] at hsz
  by_cases h : k < l.length
  ·
   obtain ⟨ad, rfl, hcell, hrd⟩ := (hA.below hbw).at_ h
   have hov := Lib.hid (Crc.over_lt (c := 4294967295) (by omega) (cat (l.take k)))
   have hs := Lib.hid (over_cat 4294967295 l k h)
   have hle := one_le_cat l k h
   have hcc := Hc.out
   have hlk : l[k].bs.length ≤ 140737488355328 := by omega
   clear hle hcc
   generalize Crc.over 4294967295 (cat (l.take k)) = d at *
   go_wp2_with (first
    | (refine wpList_load_row rfl 125 (.tmp 3) rfl w1.heap.size rfl 125 (tabV 16) (0, 0) _ hg Tryz.underlying125 rfl tabInfo ?_)
    | (go_at_call 77; refine (over_any d _ _ _ _ hov.out hrd hlk).mono ?_; rintro e w3 ⟨rfl, hb3⟩))
   go_roundw
   case rel => exact ⟨k + 1, by omega, by go_num, val_int (by rw [hs.out]), hb2.trans (hb3.mono hsz)⟩
   case measure => simp [intOf]; omega
  ·
   obtain rfl : k = l.length := by omega
   rw [List.take_length]
   go_wp2
   go_ret
   exact ⟨rfl, hbw⟩
end Go.Proofs.YtjholekgdnhpkaaGreatDoor
namespace Go.Proofs.YtjholekgdnhpkaaGreatDoor
open Go.RowKit
theorem fixed4C (n : Nat) : Vint.fixed n 4 = Crc.four n := by
 have : Vint.fixed n 4 = Vint.fixL n 4 := by unfold Vint.fixed; rw [if_pos (by omega)]; rfl
 rw [this]
 simp [Vint.fixL, Vint.fixB, Crc.four, List.range, List.range.loop]
set_option maxHeartbeats 400000 in
theorem put_any (A : Option Addr) (bs : List UInt8) (cap : Nat) (w : World) (hA : RdB w A bs) (hl : bs.length ≤ 1000000) :
  Calls Tryz.prog 25 #[.slice A bs.length cap] w fun e w' => ∃ A' c', e = .returned (.slice A' (Crc.put bs).length c') ∧ Own w' w.heap.size 5 1 A' (Crc.put bs).length c' (bvs (Crc.put bs)) ∧ Below w.heap.size w w' := by
 go_enter Tryz.func25, Tryz.ntmps25
 go_wp2_with fail
 have h1 := sum_any _ [⟨A, bs, cap⟩] 1 _ (RdL.one w 23 A bs cap hA) (by simp) (by rw [cat_one]; omega)
 rw [cat_one] at h1
 refine h1.mono ?_
 rintro e w1 ⟨rfl, hb1⟩
 have hs := Crc.sum_lt bs
 have hbw := ext_trans ((Below.refl w.heap.size w).alloc (Nat.le_refl _) _) hb1
 clear h1
 go_wp2_with fail
 refine (fixed_any (Crc.sum bs) 4 w1).mono ?_
 rintro e w2 ⟨A2, c2, rfl, ho2, hb2⟩
 rw [fixed4C] at ho2
 rw [fixed4C]
 have hA2 := hA.below (ext_trans hbw hb2)
 go_wp2_with fail
 have h3 := concat_any _ [⟨A, bs, cap⟩, ⟨A2, Crc.four (Crc.sum bs), c2⟩] 2 _ (RdL.two w2 23 A A2 bs (Crc.four (Crc.sum bs)) cap c2 hA2 ho2.rd') (by simp) (by rw [cat_two]; simp [Crc.four_len]; omega)
 rw [cat_two, show bs ++ Crc.four (Crc.sum bs) = Crc.put bs from rfl] at h3
 refine h3.mono ?_
 rintro e w3 ⟨A3, c3, rfl, ho3, hb3⟩
 clear h3
 have hb4 := ext_trans (ext_trans hbw hb2) (ext_trans ((Below.refl w2.heap.size w2).alloc (Nat.le_refl _) _) hb3)
 go_wp2
 go_ret
 exact ⟨A3, c3, rfl, ho3.mono (by have := (ext_trans hbw hb2).size; simp; omega), hb4⟩
theorem number4 (b p : List UInt8) (h : 4 ≤ b.length) (hp : p = b.take (b.length - 4)) : decide (Crc.sum p = Vint.number (b.drop (b.length - 4))) = (Crc.put p == b) := by
 have hd : (b.drop (b.length - 4)).length = 4 := by simp; omega
 have hb : b = p ++ b.drop (b.length - 4) := by rw [hp, List.take_append_drop]
 have hs := Crc.sum_lt p
 generalize b.drop (b.length - 4) = d at *
 match d, hd with
 | [x0, x1, x2, x3], _ =>
  have e0 : Vint.number [x0, x1, x2, x3] = ((x0.toNat * 256 + x1.toNat) * 256 + x2.toNat) * 256 + x3.toNat := by simp [Vint.number, Vint.numL]
  rw [Bool.eq_iff_iff, beq_iff_eq, decide_eq_true_iff, e0, hb, Crc.put, List.append_cancel_left_eq, Crc.four]
  have l0 := x0.toNat_lt
  have l1 := x1.toNat_lt
  have l2 := x2.toNat_lt
  have l3 := x3.toNat_lt
  simp only [List.cons.injEq, and_true, ← UInt8.toNat_inj, UInt8.toNat_ofNat']
  omega
set_option maxHeartbeats 800000 in
theorem check_any (A : Option Addr) (bs : List UInt8) (cap : Nat) (w : World) (hA : RdB w A bs) (hl : bs.length ≤ 1000000) (hcap : bs.length ≤ cap) :
  Calls Tryz.prog 26 #[.slice A bs.length cap] w fun e w' => ∃ A' c', e = .returned (.tuple #[.slice A' (Crc.got bs).length c', .bool (Crc.ok bs)]) ∧ Own w' w.heap.size 5 1 A' (Crc.got bs).length c' (bvs (Crc.got bs)) ∧ Below w.heap.size w w' := by
 by_cases h4 : bs.length < 4
 ·
  have h1 : Crc.ok bs = false := by unfold Crc.ok; simp; omega
  have h2 : Crc.got bs = [] := by unfold Crc.got; rw [h1]; rfl
  rw [h1, h2]
  clear h1 h2
  have hneg : decide ((bs.length : Int) - 4 < 0) = true := by simp; omega
  go_enter Tryz.func26, Tryz.ntmps26
  go_wp2
  refine rg_start (by kernel_rfl) ?_
  refine gD 0 rfl ?_
  simp only [sP]
  refine gD 1 rfl ?_
  simp only [sP]
  refine gD 2 rfl ?_
  simp only [sP]
  refine gK 3 rfl ?_
  simp only [sP]
  refine gK 4 rfl ?_
  simp only [sP]
  refine gK 5 rfl ?_
  simp only [sP]
  refine gK 6 rfl ?_
  simp only [sP]
  refine gK 7 rfl ?_
  simp only [sP]
  refine gK 8 rfl ?_
  simp only [sP]
  refine gK 9 rfl ?_
  simp only [sP]
  refine gK 10 rfl ?_
  simp only [sP]
  refine gK 11 rfl ?_
  simp only [sP]
  refine gK 12 rfl ?_
  simp only [sP]
  refine gK 13 rfl ?_
  simp only [sP]
  refine gD 14 rfl ?_
  simp only [sP]
  refine rg_done (by kernel_rfl) ?_
  go_wp2
  go_ret2
  exact ⟨none, 0, rfl, Own.none_ _ _ _ _ _, (Below.refl _ _).drew⟩
 ·
  obtain ⟨p, hp⟩ : ∃ p, p = bs.take (bs.length - 4) := ⟨_, rfl⟩
  obtain ⟨d, hd⟩ : ∃ d, d = bs.drop (bs.length - 4) := ⟨_, rfl⟩
  have hA0 := hA.head (m := bs.length - 4) (by omega)
  rw [← hp] at hA0
  have hpl : p.length = bs.length - 4 := by rw [hp]; simp
  have hT := hA.tail (k := p.length) (by omega) hcap
  rw [hpl, ← hd, ← hpl] at hT
  have hok := Crc.ok_of (b := bs) (p := p) (by omega) hp
  have hnum := number4 bs p (by omega) hp
  rw [← hd] at hnum
  have hdl : d.length = 4 := by rw [hd]; simp; omega
  have hcast : ((bs.length : Int) - 4) = ((p.length : Nat) : Int) := by omega
  have hple : p.length ≤ bs.length := by omega
  have Hp := Lib.hid hp
  have Hok := Lib.hid (hok.trans hnum.symm)
  have Hdl := Lib.hid hdl
  have hneg : decide ((p.length : Int) < 0) = false := by simp
  have hsl := wrap_u64 (Crc.sum p) (Nat.lt_trans (Crc.sum_lt p) (by omega))
  have hpc : p.length ≤ cap := by omega
  have hd2 : bs.length - p.length = d.length := by omega
  have hd8 : d.length ≤ 140737488355328 := by omega
  clear hp hd hok hpl hnum hdl
  go_enter Tryz.func26, Tryz.ntmps26
  go_wp2
  refine rg_start (by kernel_rfl) ?_
  refine gD 0 rfl ?_
  simp only [sP]
  refine gD 1 rfl ?_
  simp only [sP]
  refine gD 2 rfl ?_
  simp only [sP]
  refine gD 3 rfl ?_
  simp only [sP]
  refine gD 4 rfl ?_
  simp only [sP]
  refine gD 5 rfl ?_
  simp only [sP]
  refine gD 9 rfl ?_
  simp only [sP]
  refine gD 10 rfl ?_
  simp only [sP]
  refine gD 11 rfl ?_
  simp only [sP]

  refine rg_make 6 rfl (by kernel_rfl) (by rfl) ⟨_, _, by (go_simp <;> first | exact ⟨rfl, rfl⟩ | rfl), ?_, ?_⟩
  ·
   exact Ext.alloc _ _
  simp only [sP]
  have hsum := sum_any _ [⟨A, p, cap⟩] 1 _ (RdL.one w.drew 23 A p cap hA0) (by simp) (by rw [cat_one]; omega)
  rw [cat_one] at hsum
  refine rg_call 7 hsum rfl (by kernel_rfl) (by rfl) (by go_simp) ?_
  rintro e w1 ⟨rfl, hb1⟩
  refine ⟨_, rfl, hb1, ?_⟩
  simp only [sP]
  refine gD 8 rfl ?_
  simp only [sP]
  have hb2 := (Below.refl w.heap.size w).drew.trans (ext_trans (Ext.alloc w.drew _) hb1)
  refine rg_call 12 (number_any _ d (cap - p.length) w1 (hT.below hb2) hd8) rfl (by kernel_rfl) (by rfl) (by go_simp) ?_
  rintro e w2 ⟨rfl, rfl⟩
  refine ⟨_, rfl, Ext.refl _, ?_⟩
  simp only [sP]
  refine gD 13 rfl ?_
  simp only [sP]
  refine gD 14 rfl ?_
  simp only [sP]
  refine rg_done (by kernel_rfl) ?_
  have hne : (((Crc.sum p : Nat) : Int) != ((Vint.number d : Nat) : Int)) = !decide (Crc.sum p = Vint.number d) := by
   rw [Bool.eq_iff_iff]; simp [Int.natCast_inj]
  rw [hne]
  clear hne hsl
  have hb3 := (hA0.below hb2)
  by_cases hv : Crc.sum p = Vint.number d
  ·
   have h1 : Crc.ok bs = true := by rw [Hok.out]; exact decide_eq_true hv
   have H2 := Lib.hid (Crc.got_yes Hp.out h1)
   have H1 := Lib.hid h1
   rw [decide_eq_true hv]
   clear h1 hv
   go_wp2_with (go_at_call 52; refine (clone_any A p cap w1 hb3 (by omega)).mono ?_; rintro e w3 ⟨A3, c3, rfl, ho3, hb4⟩)
   go_ret2
   rw [H1.out, H2.out]
   exact ⟨A3, c3, rfl, ho3.mono hb2.size, ext_trans hb2 hb4⟩
  ·
   have h1 : Crc.ok bs = false := by rw [Hok.out]; exact decide_eq_false hv
   have H2 := Lib.hid (Crc.got_no h1)
   have H1 := Lib.hid h1
   rw [decide_eq_false hv]
   clear h1 hv
   go_wp2
   go_ret2
   rw [H1.out, H2.out]
   exact ⟨none, 0, rfl, Own.none_ _ _ _ _ _, hb2⟩
end Go.Proofs.YtjholekgdnhpkaaGreatDoor
