/- Contract of the reference's opening (scowref05.Open). Written by wip/tools/gen_open05r.py. -/
import Derived.Test.YtphjbemlofdepaaPageOpen2
namespace Go.Proofs.Ytphjbemlofdepaa
open Go.RowKit
attribute [local go_sem] Oper.semAt_some

set_option maxRecDepth 100000 in
set_option maxHeartbeats 1000000 in
theorem ref_open_short (A : Option Addr) (b : List UInt8) (cap : Nat) (w : World) (_hA : RdB w A b) (hl : b.length ≠ 256) :
    Calls Try.prog 10 #[.slice A b.length cap] w fun e w' => e = .returned (.tuple #[Pg.zero.val, .int .i64 50]) ∧ Below w.heap.size w w' := by
  have h1 : ((b.length : Int) == 256) = false := by rw [beq_eq_false_iff_ne]; omega
  go_enter Try.func10, Try.ntmps10
  go_wp2_with fail
  (try simp only [Exit.inBlock, Exit.then])
  refine bodyPost_ret (results_row_tmp rfl _ _ w.heap.size 25 #[.int .i64 0, .int .u64 0, .slice none 0 0] (0, 0) _ rfl (heap_alloc_new w _) Try.underlying25 rfl (by kernel_rfl)) rfl ?_
  exact ⟨rfl, Ext.alloc w _⟩

set_option maxRecDepth 100000 in
set_option maxHeartbeats 1000000 in
theorem ref_open_check (A : Option Addr) (b : List UInt8) (cap : Nat) (w : World) (hA : RdB w A b) (hc : b.length ≤ cap) (hl : b.length = 256) (hok : Crc.ok b = false) :
    Calls Try.prog 10 #[.slice A b.length cap] w fun e w' => e = .returned (.tuple #[Pg.zero.val, .int .i64 51]) ∧ Below w.heap.size w w' := by
  have h1 : ((b.length : Int) == 256) = true := by rw [beq_iff_eq]; omega
  have hA1 := hA.below (Ext.alloc w (.cells #[.int .i64 0, .int .u64 0, .slice none 0 0] 25))
  have Hl := Lib.hid hl
  clear hl
  go_enter Try.func10, Try.ntmps10
  go_wp2_with fail
  refine (ref_check A b cap _ hA1 (by rw [Hl.out]; omega) hc).mono ?_
  rintro e w1 ⟨A1, c1, rfl, ho1, hb1⟩
  rw [hok]
  have hg1 : w1.heap[w.heap.size]? = some (.cells #[.int .i64 0, .int .u64 0, .slice none 0 0] 25 (0, 0)) := (hb1.block _ (by simp)).trans (heap_alloc_new w _)
  go_wp2_with (first | ((refine wpList_store_row rfl 25 (.tmp 2) (.tmp 17) rfl w.heap.size #[.int .i64 0, .int .u64 0, .slice none 0 0] rfl rfl _ _ hg1 (by kernel_rfl) rfl (by kernel_rfl) ?_)))
  have hg2 := setRow_heap w1 w.heap.size _ #[.int .i64 0, .int .u64 0, .slice none 0 0] _ _ hg1

  (try simp only [Exit.inBlock, Exit.then])
  refine bodyPost_ret (results_row_tmp rfl _ _ w.heap.size 25 #[.int .i64 0, .int .u64 0, .slice none 0 0] (0, 0) _ rfl hg2 Try.underlying25 rfl (by kernel_rfl)) rfl ?_
  have h2 := ext_trans (Ext.alloc w _) hb1
  exact ⟨rfl, ⟨h2.os, h2.tape, h2.output, by simpa using h2.size, fun i hi => (setRow_other _ _ _ _ (by omega)).trans (h2.block i hi)⟩⟩

set_option maxRecDepth 100000 in
set_option maxHeartbeats 1000000 in
theorem ref_open_kind (A : Option Addr) (b : List UInt8) (cap : Nat) (w : World) (hA : RdB w A b) (hc : b.length ≤ cap) (hl : b.length = 256) (hok : Crc.ok b = true) (k : Nat) (hk : k = (b.headD 0).toNat) (hkk : isKind k = false) :
    Calls Try.prog 10 #[.slice A b.length cap] w fun e w' => e = .returned (.tuple #[Pg.zero.val, .int .i64 50]) ∧ Below w.heap.size w w' := by
  have h1 : ((b.length : Int) == 256) = true := by rw [beq_iff_eq]; omega
  have hA1 := hA.below (Ext.alloc w (.cells #[.int .i64 0, .int .u64 0, .slice none 0 0] 25))
  have hg := Crc.got_yes (p := b.take (b.length - 4)) rfl hok
  rw [hl] at hg
  obtain ⟨p, hp⟩ : ∃ p, p = b.take 252 := ⟨_, rfl⟩
  have hpl : p.length = 252 := by rw [hp]; simp; omega
  have hp0 : ∀ h : 0 < p.length, (p[0]'h).toNat = k := fun h => by
    subst hp
    cases b with
    | nil => simp at h
    | cons x xs => simp [hk]
  have hgp : Crc.got b = p := by rw [hg, hp]
  clear hg
  have Hl := Lib.hid hl
  have Hgp := Lib.hid hgp
  have Hp := Lib.hid hp
  have Hpl := Lib.hid hpl
  have hwk : IntKind.i64.wrap (k : Int) = k := by have : k < 256 := by rw [hk]; exact (b.headD 0).toNat_lt
                                                  simp [IntKind.wrap, IntKind.bits, IntKind.signed]; omega
  clear hl hgp hp hpl hk
  go_enter Try.func10, Try.ntmps10
  go_wp2_with fail
  refine (ref_check A b cap _ hA1 (by rw [Hl.out]; omega) hc).mono ?_
  rintro e w1 ⟨A1, c1, rfl, ho1, hb1⟩
  rw [hok]
  rw [Hgp.out] at ho1
  have hgl : Hid ((Crc.got b).length = 252) := by show _ = _; rw [Hgp.out, Hpl.out]
  rw [hgl.out]
  have hr1 := ho1.rd'
  obtain ⟨ad, hA1e, hcell⟩ := hr1.at_ (k := 0) (by rw [Hpl.out]; omega)
  rw [hp0] at hcell
  have hcn : 252 ≤ c1 := by have h9 := ho1.nc; rw [Hpl.out] at h9; exact h9
  obtain ⟨g1, o1, hA2, hgw⟩ : ∃ g1 o1, A1 = some ⟨g1, o1, none⟩ ∧ w.heap.size + 1 ≤ g1 := by
    rcases ho1.mem with h0 | ⟨g, off, cur, h1, h2, _⟩
    · omega
    · exact ⟨g, off, h1, by simpa using h2⟩
  have had : ad = ⟨g1, o1, none⟩ := by rw [hA2] at hA1e; cases hA1e; rfl
  subst hA2
  subst had
  rw [Addr.add_lit, Nat.add_zero] at hcell
  clear hA1e
  have hg1 : w1.heap[w.heap.size]? = some (.cells #[.int .i64 0, .int .u64 0, .slice none 0 0] 25 (0, 0)) := (hb1.block _ (by simp)).trans (heap_alloc_new w _)
  go_wp2_with fail
  refine (ref_kind k _).mono ?_
  rintro e w' ⟨rfl, rfl⟩
  rw [hkk]
  go_wp2_with (first | ((refine wpList_store_row rfl 25 (.tmp 2) (.tmp 24) rfl w.heap.size #[.int .i64 0, .int .u64 0, .slice none 0 0] rfl rfl _ _ hg1 (by kernel_rfl) rfl (by kernel_rfl) ?_)))
  have hg2 := setRow_heap w1 w.heap.size _ #[.int .i64 0, .int .u64 0, .slice none 0 0] _ _ hg1
  (try simp only [Exit.inBlock, Exit.then])
  refine bodyPost_ret (results_row_tmp rfl _ _ w.heap.size 25 #[.int .i64 0, .int .u64 0, .slice none 0 0] (0, 0) _ rfl hg2 Try.underlying25 rfl (by kernel_rfl)) rfl ?_
  have h2 := ext_trans (Ext.alloc w _) hb1
  exact ⟨rfl, ⟨h2.os, h2.tape, h2.output, by simpa using h2.size, fun i hi => (setRow_other _ _ _ _ (by omega)).trans (h2.block i hi)⟩⟩

set_option maxRecDepth 100000 in
set_option maxHeartbeats 1000000 in
theorem ref_open_good (A : Option Addr) (b : List UInt8) (cap : Nat) (w : World) (hA : RdB w A b) (hc : b.length ≤ cap) (hl : b.length = 256) (hok : Crc.ok b = true) (k : Nat) (hk : k = (b.headD 0).toNat) (hkk : isKind k = true) :
    Calls Try.prog 10 #[.slice A b.length cap] w fun e w' => ∃ q : Pg, e = .returned (.tuple #[q.val, .int .i64 0]) ∧ q.kind = k ∧ q.lsn = Vint.number ((b.drop 1).take 8) ∧ q.body = (b.take 252).drop 9 ∧ RdB w' q.a q.body ∧ Below w.heap.size w w' := by
  have h1 : ((b.length : Int) == 256) = true := by rw [beq_iff_eq]; omega
  have hA1 := hA.below (Ext.alloc w (.cells #[.int .i64 0, .int .u64 0, .slice none 0 0] 25))
  have hg := Crc.got_yes (p := b.take (b.length - 4)) rfl hok
  rw [hl] at hg
  obtain ⟨p, hp⟩ : ∃ p, p = b.take 252 := ⟨_, rfl⟩
  have hpl : p.length = 252 := by rw [hp]; simp; omega
  have hp0 : ∀ h : 0 < p.length, (p[0]'h).toNat = k := fun h => by
    subst hp
    cases b with
    | nil => simp at h
    | cons x xs => simp [hk]
  have hgp : Crc.got b = p := by rw [hg, hp]
  clear hg
  have Hl := Lib.hid hl
  have Hgp := Lib.hid hgp
  have Hp := Lib.hid hp
  have Hpl := Lib.hid hpl
  have hwk : IntKind.i64.wrap (k : Int) = k := by have : k < 256 := by rw [hk]; exact (b.headD 0).toNat_lt
                                                  simp [IntKind.wrap, IntKind.bits, IntKind.signed]; omega
  clear hl hgp hp hpl hk
  go_enter Try.func10, Try.ntmps10
  go_wp2_with fail
  refine (ref_check A b cap _ hA1 (by rw [Hl.out]; omega) hc).mono ?_
  rintro e w1 ⟨A1, c1, rfl, ho1, hb1⟩
  rw [hok]
  rw [Hgp.out] at ho1
  have hgl : Hid ((Crc.got b).length = 252) := by show _ = _; rw [Hgp.out, Hpl.out]
  rw [hgl.out]
  have hr1 := ho1.rd'
  obtain ⟨ad, hA1e, hcell⟩ := hr1.at_ (k := 0) (by rw [Hpl.out]; omega)
  rw [hp0] at hcell
  have hcn : 252 ≤ c1 := by have h9 := ho1.nc; rw [Hpl.out] at h9; exact h9
  obtain ⟨g1, o1, hA2, hgw⟩ : ∃ g1 o1, A1 = some ⟨g1, o1, none⟩ ∧ w.heap.size + 1 ≤ g1 := by
    rcases ho1.mem with h0 | ⟨g, off, cur, h1, h2, _⟩
    · omega
    · exact ⟨g, off, h1, by simpa using h2⟩
  have had : ad = ⟨g1, o1, none⟩ := by rw [hA2] at hA1e; cases hA1e; rfl
  subst hA2
  subst had
  rw [Addr.add_lit, Nat.add_zero] at hcell
  clear hA1e
  have hg1 : w1.heap[w.heap.size]? = some (.cells #[.int .i64 0, .int .u64 0, .slice none 0 0] 25 (0, 0)) := (hb1.block _ (by simp)).trans (heap_alloc_new w _)
  go_wp2_with fail
  refine (ref_kind k _).mono ?_
  rintro e w' ⟨rfl, rfl⟩
  rw [hkk]
  go_wp2_with fail
  have hL := hr1.cut (k := 1) (m := 9) (by omega) (by rw [Hpl.out]; omega) (c := c1) (by omega)
  have hB := hr1.tail (k := 9) (by rw [Hpl.out]; omega) (c := c1) (by rw [Hpl.out]; omega)
  obtain ⟨L, hL0⟩ : ∃ L, L = (p.take 9).drop 1 := ⟨_, rfl⟩
  obtain ⟨D, hD0⟩ : ∃ D, D = p.drop 9 := ⟨_, rfl⟩
  rw [← hL0] at hL
  rw [← hD0] at hB
  have hLl : L.length = 8 := by rw [hL0]; simp [Hpl.out]
  have hDl : D.length = 243 := by rw [hD0]; simp [Hpl.out]
  have HL := Lib.hid hL0
  have HD := Lib.hid hD0
  have HDl := Lib.hid hDl
  rw [if_neg (by omega)] at hL hB
  simp only [Option.map_some, Addr.add_lit] at hL hB
  have hc9 : (9 : Int) ≤ (c1 : Int) := by omega
  have hc1n : c1 ≠ 1 := by omega
  have hc9n : c1 ≠ 9 := by omega
  have hc252 : (252 : Int) ≤ (c1 : Int) := by omega
  have hn := fun W (h : RdB W (some ⟨g1, o1 + 1, none⟩) L) => ref_number01 (some ⟨g1, o1 + 1, none⟩) L (c1 - 1) W h (by rw [hLl]; omega)
  simp only [hLl] at hn
  have Hn := Lib.hid hn
  have hext := Ext.drew w1
  have hcd := hext.load hcell
  clear hL0 hD0 hLl hDl hn
  refine rg_start (by kernel_rfl) ?_
  refine rg_take 0 rfl (by kernel_rfl) (by kernel_rfl) (by kernel_rfl) (fun _ _ _ _ h => h) (by rfl) ⟨_, fun w' hx => by (go_simp <;> with_reducible rfl), ?_⟩
  simp only [Act.put, List.setIfInBounds_toArray, List.set_cons_zero, List.set_cons_succ]
  refine rg_take 1 rfl (by kernel_rfl) (by kernel_rfl) (by kernel_rfl) (fun _ _ _ _ h => h) (by rfl) ⟨_, fun w' hx => by (go_simp <;> with_reducible rfl), ?_⟩
  simp only [Act.put, List.setIfInBounds_toArray, List.set_cons_zero, List.set_cons_succ]
  refine rg_take 2 rfl (by kernel_rfl) (by kernel_rfl) (by kernel_rfl) (fun _ _ _ _ h => h) (by rfl) ⟨_, fun w' hx => by have hcx := hx.load hcd; (go_simp <;> with_reducible rfl), ?_⟩
  simp only [Act.put, List.setIfInBounds_toArray, List.set_cons_zero, List.set_cons_succ]
  refine rg_take 3 rfl (by kernel_rfl) (by kernel_rfl) (by kernel_rfl) (fun _ _ _ _ h => h) (by rfl) ⟨_, fun w' hx => by (go_simp <;> with_reducible rfl), ?_⟩
  simp only [Act.put, List.setIfInBounds_toArray, List.set_cons_zero, List.set_cons_succ]
  refine rg_take 4 rfl (by kernel_rfl) (by kernel_rfl) (by kernel_rfl) (fun _ _ _ _ h => h) (by rfl) ⟨_, fun w' hx => by (go_simp <;> with_reducible rfl), ?_⟩
  simp only [Act.put, List.setIfInBounds_toArray, List.set_cons_zero, List.set_cons_succ]
  refine rg_take 5 rfl (by kernel_rfl) (by kernel_rfl) (by kernel_rfl) (fun _ _ _ _ h => h) (by rfl) ⟨_, fun w' hx => by (go_simp <;> with_reducible rfl), ?_⟩
  simp only [Act.put, List.setIfInBounds_toArray, List.set_cons_zero, List.set_cons_succ]
  refine rg_take 8 rfl (by kernel_rfl) (by kernel_rfl) (by kernel_rfl) (fun _ _ _ _ h => h) (by rfl) ⟨_, fun w' hx => by (go_simp <;> with_reducible rfl), ?_⟩
  simp only [Act.put, List.setIfInBounds_toArray, List.set_cons_zero, List.set_cons_succ]
  refine rg_take 9 rfl (by kernel_rfl) (by kernel_rfl) (by kernel_rfl) (fun _ _ _ _ h => h) (by rfl) ⟨_, fun w' hx => by (go_simp <;> with_reducible rfl), ?_⟩
  simp only [Act.put, List.setIfInBounds_toArray, List.set_cons_zero, List.set_cons_succ]
  refine rg_joinP (fun v u W => ∃ A3, v = .int .u64 (Vint.number L : Nat) ∧ u = .slice A3 0 0 ∧ Ext w1.drew W) 6 7 31 32 ?_ ?_
  · intro hrest
    simp only [Act.put, List.setIfInBounds_toArray, List.set_cons_zero, List.set_cons_succ] at hrest
    refine rg_two 6 7 (by kernel_rfl) ?_ ?_
    · refine op_call 6 (Hn.out _ (hL.below hext)) rfl (by rfl) (by go_simp) ?_
      rintro e w2 ⟨rfl, rfl⟩
      refine ⟨_, rfl, Ext.refl _, ?_⟩
      simp only [Act.put, List.setIfInBounds_toArray, List.set_cons_zero, List.set_cons_succ]
      refine rg_make 7 rfl (by kernel_rfl) (by rfl) ⟨_, _, by (go_simp <;> first | exact ⟨rfl, rfl⟩ | rfl), Ext.alloc _ _, ?_⟩
      simp only [Act.put, List.setIfInBounds_toArray, List.set_cons_zero, List.set_cons_succ]
      refine rg_cast (by kernel_rfl) (hrest _ _ _ ⟨_, rfl, rfl, Ext.alloc _ _⟩)
    · refine op_make 7 rfl (by rfl) ⟨_, _, by (go_simp <;> first | exact ⟨rfl, rfl⟩ | rfl), Ext.alloc _ _, ?_⟩
      simp only [Act.put, List.setIfInBounds_toArray, List.set_cons_zero, List.set_cons_succ]
      refine rg_call 6 (Hn.out _ ((hL.below hext).below (Ext.alloc _ _))) rfl (by kernel_rfl) (by rfl) (by go_simp) ?_
      rintro e w2 ⟨rfl, rfl⟩
      refine ⟨_, rfl, Ext.refl _, ?_⟩
      simp only [Act.put, List.setIfInBounds_toArray, List.set_cons_zero, List.set_cons_succ]
      refine rg_cast (by kernel_rfl) (hrest _ _ _ ⟨_, rfl, rfl, Ext.alloc _ _⟩)
  rintro v u W ⟨A3, rfl, rfl, hW⟩
  simp only [Act.put, List.setIfInBounds_toArray, List.set_cons_zero, List.set_cons_succ]
  have hX := Ext.tr hext hW
  refine rg_one 10 rfl (by kernel_rfl) (by rfl) (wp_app (.tmp 32) (.tmp 34) 23 rfl elemB W.heap.size A3 0 0 [] rfl (some ⟨g1, o1 + 9, none⟩) 243 (c1 - 9) (bvs D) rfl 243 rfl (bvs D) rfl (Own.none_ _ _ _ _ _) ((hB.below hX).rd8 HDl.out) (bvs_one _) (by omega) (by omega) (Nat.le_refl _) ?_)
  intro A4 c4 w4 ho4 hgr _
  have hE4 : Ext W w4 := grown_none hgr
  refine ⟨.inl hE4, ?_⟩
  simp only [Act.put, List.setIfInBounds_toArray, List.set_cons_zero, List.set_cons_succ]
  refine rg_take 11 rfl (by kernel_rfl) (by kernel_rfl) (by kernel_rfl) (fun _ _ _ _ h => h) (by rfl) ⟨_, fun w' hx => by (go_simp <;> with_reducible rfl), ?_⟩
  simp only [Act.put, List.setIfInBounds_toArray, List.set_cons_zero, List.set_cons_succ]
  have hX4 := Ext.tr hX hE4
  have hg3 := (hX4.block _ (lt_of_heap hg1)).trans hg1
  refine rg_last 12 rfl (by kernel_rfl) (by kernel_rfl) (by rfl) fun K hK => wp_store_row 25 (.tmp 2) (.tmp 36) rfl w.heap.size #[.int .i64 k, .int .u64 (Vint.number L : Nat), .slice A4 243 c4] rfl rfl _ _ hg3 (by kernel_rfl) rfl (by simp [Value.oneCell']) (hK _ _ ?_)
  simp only [Act.put, List.setIfInBounds_toArray, List.set_cons_zero, List.set_cons_succ]
  refine rg_take 13 rfl (by kernel_rfl) (by kernel_rfl) (by kernel_rfl) (fun _ _ _ _ h => h) (by rfl) ⟨_, fun w' hx => by (go_simp <;> with_reducible rfl), ?_⟩
  simp only [Act.put, List.setIfInBounds_toArray, List.set_cons_zero, List.set_cons_succ]
  refine rg_done (by kernel_rfl) ?_
  have hg2 := setRow_heap w4 w.heap.size _ #[.int .i64 k, .int .u64 (Vint.number L : Nat), .slice A4 243 c4] _ _ hg3
  go_wp2_with fail
  (try simp only [Exit.inBlock, Exit.then])
  refine bodyPost_ret (results_row_tmp rfl _ _ w.heap.size 25 #[.int .i64 k, .int .u64 (Vint.number L : Nat), .slice A4 243 c4] (0, 0) _ rfl hg2 Try.underlying25 rfl (by kernel_rfl)) rfl ?_
  have h2 := ext_trans (ext_trans (Ext.alloc w _) hb1) (hX4)
  refine ⟨⟨k, Vint.number L, A4, D, c4⟩, ?_, rfl, ?_, ?_, ?_, ?_⟩
  · show _ = _
    simp only [Pg.val, HDl.out]
    rfl
  · show Vint.number L = _
    rw [HL.out, Hp.out]
    congr 1
    rw [List.take_take, List.drop_take]
    rfl
  · show D = _
    rw [HD.out, Hp.out]
  · have h9 := ho4.rd8 HDl.out
    refine Rd.grown (row := some w.heap.size) h9 ⟨rfl, rfl, rfl, by simp, fun i hi hne => setRow_other _ _ _ _ (fun e => hne (by rw [e]))⟩ (fun ad h => ?_)
    have hW2 := hX.size
    have hb2 := hb1.size
    have hb3 : w.heap.size + 1 ≤ w1.heap.size := by simpa using hb2
    have h8 := ho4.mem
    have h7 := ho4.nc
    rcases h8 with h8 | ⟨g, off, cur, he, hge, _⟩
    · omega
    · rw [he] at h
      cases h
      simp only [ne_eq, Option.some.injEq]
      omega
  · exact ⟨h2.os, h2.tape, h2.output, by simpa using h2.size, fun i hi => (setRow_other _ _ _ _ (by omega)).trans (h2.block i hi)⟩
end Go.Proofs.Ytphjbemlofdepaa
