/- Contracts: bytes as an inner page's cell, the document's (scowref07.GetInner). Printed by wip/tools/gen_cellrefi.py. -/
import Derived.Test.YtafffpkjpghnjaaCellRef
import Derived.Test.YtafffpkjpghnjaaReg3
namespace Go.Proofs.Ytafffpkjpghnjaa
open Go.RowKit
attribute [local go_sem] Oper.semAt_some

theorem Own.ne_row {w : World} {base size n c : Nat} {e t : TypeId} {A : Option Addr} {xs : List Value} {b : Nat} {cs : Array Value} {fr : Nat × Nat} (h : Own w base e size A n c xs) (hb : w.heap[b]? = some (.cells cs t fr)) (hne : e ≠ t) : ∀ k, ownRow A c = some k → k ≠ b := by
  intro k hk e1
  subst e1
  unfold ownRow at hk
  rcases h.mem with h0 | ⟨g, off, cur, rfl, _, hg, _, _⟩
  · rw [if_pos h0] at hk; cases hk
  · split at hk
    · cases hk
    · simp only [Option.map_some, Option.some.injEq] at hk
      subst hk
      rw [hg] at hb
      injection hb with hb
      injection hb with _ hb
      exact hne hb
theorem Uno.setR {w w1 : World} (h : Uno w w1) (b : Nat) (cs : Array Value) (hb : w.heap.size < b) : Uno w (w1.setRow b cs) := ⟨(setRow_other _ _ _ _ (by omega)).trans h.row, ext_row h.ext (by omega) cs⟩

set_option maxRecDepth 100000 in
set_option maxHeartbeats 1000000 in
theorem ref_getInner_short (A : Option Addr) (bs : List UInt8) (c : Nat) (w : World) (h5 : bs.length < 5) (q : Cl × Nat) (hqv : q = (Cl.zero, 70)) :
    Calls Try.prog 18 #[.slice A bs.length c] w fun e w' => ∃ C : CellV, e = .returned (.tuple #[C.val, .int .i64 (q.2 : Int)]) ∧ C.x = q.1 ∧ C.In w' ∧ Below w.heap.size w w' := by
  have Hqv := Lib.hid hqv
  have U1 := Uno.new w
  clear hqv
  go_enter Try.func18, Try.ntmps18
  have hgz := U1.row
  go_wp2_with (refine wpList_store_row rfl 25 (.tmp 2) (.tmp 18) rfl w.heap.size #[.slice none 0 0, .int .i64 0, .slice none 0 0, .int .u32 0, .int .u32 0] rfl rfl _ _ hgz (by kernel_rfl) rfl (by kernel_rfl) ?_)
  have hgz2 := setRow_heap _ w.heap.size _ #[.slice none 0 0, .int .i64 0, .slice none 0 0, .int .u32 0, .int .u32 0] _ _ hgz
  (try simp only [Exit.inBlock, Exit.then])
  refine bodyPost_ret (results_row_tmp rfl _ _ w.heap.size 25 #[.slice none 0 0, .int .i64 0, .slice none 0 0, .int .u32 0, .int .u32 0] (0, 0) _ rfl hgz2 Try.underlying25 rfl (by kernel_rfl)) rfl ?_
  refine ⟨CellV.zero, ?_, ?_, CellV.zero_in _, ext_row U1.ext (Nat.le_refl _) _⟩
  · rw [Hqv.out]; rfl
  · rw [Hqv.out]; rfl

set_option maxRecDepth 100000 in
set_option maxHeartbeats 1000000 in
theorem ref_getInner_len (A : Option Addr) (bs : List UInt8) (c : Nat) (w : World) (hA : RdB w A bs) (hl : bs.length ≤ 1000000) (h5 : 5 ≤ bs.length) (k : UInt8) (hk4 : bs.getD 4 0 = k) (hne : bs.length ≠ 5 + k.toNat) (q : Cl × Nat) (hqv : q = (Cl.zero, 70)) :
    Calls Try.prog 18 #[.slice A bs.length c] w fun e w' => ∃ C : CellV, e = .returned (.tuple #[C.val, .int .i64 (q.2 : Int)]) ∧ C.x = q.1 ∧ C.In w' ∧ Below w.heap.size w w' := by
  have Hqv := Lib.hid hqv
  have U1 := Uno.new w
  obtain ⟨ad, rfl, hk0⟩ := hA.at_ (k := 4) (by omega)
  have hkk : bs[4] = k := by rw [← hk4, List.getD_eq_getElem?_getD, List.getElem?_eq_getElem (by omega)]; rfl
  rw [hkk, show ad.add 4 = ⟨ad.block, ad.off + 4, none⟩ from rfl] at hk0
  have hk := k.toNat_lt
  have hk1 := U1.ext.load hk0
  have hb : (((bs.length : Nat) : Int) != 5 + (k.toNat : Int)) = true := by rw [bne_iff_ne]; omega
  clear hqv hk4 hkk hk0 hne
  go_enter Try.func18, Try.ntmps18
  have hgz := U1.row
  go_wp2_with (refine wpList_store_row rfl 25 (.tmp 2) (.tmp 18) rfl w.heap.size #[.slice none 0 0, .int .i64 0, .slice none 0 0, .int .u32 0, .int .u32 0] rfl rfl _ _ hgz (by kernel_rfl) rfl (by kernel_rfl) ?_)
  have hgz2 := setRow_heap _ w.heap.size _ #[.slice none 0 0, .int .i64 0, .slice none 0 0, .int .u32 0, .int .u32 0] _ _ hgz
  (try simp only [Exit.inBlock, Exit.then])
  refine bodyPost_ret (results_row_tmp rfl _ _ w.heap.size 25 #[.slice none 0 0, .int .i64 0, .slice none 0 0, .int .u32 0, .int .u32 0] (0, 0) _ rfl hgz2 Try.underlying25 rfl (by kernel_rfl)) rfl ?_
  refine ⟨CellV.zero, ?_, ?_, CellV.zero_in _, ext_row U1.ext (Nat.le_refl _) _⟩
  · rw [Hqv.out]; rfl
  · rw [Hqv.out]; rfl

set_option maxRecDepth 100000 in
set_option maxHeartbeats 1000000 in
theorem ref_getInner_10 (A : Option Addr) (bs : List UInt8) (c : Nat) (w : World) (hA : RdB w A bs) (hc : bs.length ≤ c) (hl : bs.length ≤ 1000000) (h5 : 5 ≤ bs.length) (k : UInt8) (hk4 : bs.getD 4 0 = k) (hlen : bs.length = 5 + k.toNat) (q4 key : List UInt8) (hq4 : bs.take 4 = q4) (hkey : bs.drop 5 = key)
    (v : Nat) (hv : Vint.number q4 % 4294967296 = v) (hlf : (Cl.mk key 0 [] 0 v).inner = true) (hceq : ¬ c = 5) (q : Cl × Nat) (hqv : q = ((Cl.mk key 0 [] 0 v), 0)) :
    Calls Try.prog 18 #[.slice A bs.length c] w fun e w' => ∃ C : CellV, e = .returned (.tuple #[C.val, .int .i64 (q.2 : Int)]) ∧ C.x = q.1 ∧ C.In w' ∧ Below w.heap.size w w' := by
  have Hqv := Lib.hid hqv
  have U1 := Uno.new w
  obtain ⟨ad, rfl, hk0⟩ := hA.at_ (k := 4) (by omega)
  have hkk : bs[4] = k := by rw [← hk4, List.getD_eq_getElem?_getD, List.getElem?_eq_getElem (by omega)]; rfl
  rw [hkk, show ad.add 4 = ⟨ad.block, ad.off + 4, none⟩ from rfl] at hk0
  have hk := k.toNat_lt
  have hk1 := U1.ext.load hk0
  have h4 := hA.head (m := 4) (by omega)
  rw [hq4] at h4
  have hql : q4.length = 4 := by rw [← hq4, List.length_take]; omega
  have hkl : key.length = k.toNat := by rw [← hkey, List.length_drop]; omega
  have hky := hA.tail (k := 5) (by omega) hc
  rw [hkey] at hky
  have hvl : v < 4294967296 := by rw [← hv]; exact Nat.mod_lt _ (by omega)
  have hwv : IntKind.u32.wrap (Vint.number q4 : Int) = (v : Int) := by rw [← hv]; simp [IntKind.wrap, IntKind.bits, IntKind.signed]
  have hb : (((bs.length : Nat) : Int) != 5 + (k.toNat : Int)) = false := by rw [bne_eq_false_iff_eq]; omega
  have hle5 : bs.length - 5 = k.toNat := by omega
  have hlo : bs.length ≤ 5 + k.toNat := by omega
  have hlo2 : 5 + k.toNat ≤ bs.length := by omega
  have h4c : (4 : Int) ≤ (c : Int) := by omega
  have h5c : (5 : Int) ≤ (c : Int) := by omega
  have h5l : (5 : Int) ≤ (bs.length : Int) := by omega
  have hlc : (bs.length : Int) ≤ (c : Int) := by omega
  have Hle5 := Lib.hid hle5
  have Hkl := Lib.hid hkl
  have Hlf := Lib.hid hlf
  have Hql := Lib.hid hql
  rw [if_neg hceq] at hky
  simp only [Option.map_some] at hky
  rw [show ad.add 5 = ⟨ad.block, ad.off + 5, none⟩ from rfl] at hky
  have HN := Lib.hid (fun W (x : RdB W (some ad) q4) cp => ref_number01 (some ad) q4 cp W x (by omega))
  clear hqv hk4 hkk hk0 hlen hq4 hkey hv hlf hle5 hkl hql
  go_enter Try.func18, Try.ntmps18
  go_wp2_with fail
  obtain ⟨W1, hW1⟩ : ∃ W1, W1 = w.alloc (.cells #[.slice none 0 0, .int .i64 0, .slice none 0 0, .int .u32 0, .int .u32 0] 25) := ⟨_, rfl⟩
  rw [← hW1] at U1 ⊢
  clear hW1 hk1
  have h41 := h4.below U1.ext
  have hky1 := hky.below U1.ext
  refine rg_start (by kernel_rfl) ?_
  refine rg_take 0 rfl (by kernel_rfl) (by kernel_rfl) (by kernel_rfl) (fun _ _ _ _ h => h) (by rfl) ⟨_, fun w' hx => by (go_simp <;> with_reducible rfl), ?_⟩
  simp only [Act.put, List.setIfInBounds_toArray, List.set_cons_zero, List.set_cons_succ]
  refine rg_take 1 rfl (by kernel_rfl) (by kernel_rfl) (by kernel_rfl) (fun _ _ _ _ h => h) (by rfl) ⟨_, fun w' hx => by (go_simp <;> with_reducible rfl), ?_⟩
  simp only [Act.put, List.setIfInBounds_toArray, List.set_cons_zero, List.set_cons_succ]
  refine rg_take 5 rfl (by kernel_rfl) (by kernel_rfl) (by kernel_rfl) (fun _ _ _ _ h => h) (by rfl) ⟨_, fun w' hx => by (go_simp <;> with_reducible rfl), ?_⟩
  simp only [Act.put, List.setIfInBounds_toArray, List.set_cons_zero, List.set_cons_succ]
  refine rg_take 6 rfl (by kernel_rfl) (by kernel_rfl) (by kernel_rfl) (fun _ _ _ _ h => h) (by rfl) ⟨_, fun w' hx => by (go_simp <;> with_reducible rfl), ?_⟩
  simp only [Act.put, List.setIfInBounds_toArray, List.set_cons_zero, List.set_cons_succ]
  refine rg_par [(2, 21), (3, 22), (4, 23), (7, 26), (8, 27), (9, 4)] (fun i u W => (i = 2 → u = .int .u64 (Vint.number q4 : Int)) ∧ (i = 3 → u = .int .u32 (v : Int)) ∧ (i = 4 → ∃ g, u = .slice (some ⟨g, 0, none⟩) 0 0) ∧ (i = 7 → ∃ A' c', u = .slice A' k.toNat c' ∧ Own W W1.heap.size 5 1 A' k.toNat c' (bvs key)) ∧
    (i = 8 → ∃ A' c', u = .agg #[.slice A' k.toNat c', .int .i64 0, .slice none 0 0, .int .u32 0, .int .u32 (v : Int)] ∧ Own W W1.heap.size 5 1 A' k.toNat c' (bvs key)) ∧ (i = 9 → ∃ g, u = .pointer (some ⟨g, 0, none⟩) ∧ W1.heap.size ≤ g ∧ W.heap[g]? = some (.cells #[.slice none 0 0, .int .i64 0, .slice none 0 0, .int .u32 0, .int .u32 0] 25 (0, 0)))) 6 (by kernel_rfl) ?_ ?_ ?_
  · rintro i u W W' ⟨a2, a3, a4, a7, a8, a9⟩ hx
    exact ⟨a2, a3, a4, fun e => let ⟨A', c', x1, x2⟩ := a7 e; ⟨A', c', x1, x2.below hx⟩, fun e => let ⟨A', c', x1, x2⟩ := a8 e; ⟨A', c', x1, x2.below hx⟩, fun e => let ⟨g, x1, x2, x3⟩ := a9 e; ⟨g, x1, x2, (hx.block _ (lt_of_heap x3)).trans x3⟩⟩
  · intro p hp oi ho f W hx hd
    simp only [List.mem_cons, List.not_mem_nil, or_false] at hp
    have hx1 : Ext W1 W := Ext.tr (Ext.drew W1) hx
    rcases hp with rfl | rfl | rfl | rfl | rfl | rfl
    all_goals
      simp only at ho
      have ho' := ho
      simp only [List.getElem?_toArray, List.getElem?_cons_succ, List.getElem?_cons_zero] at ho'
      injection ho' with ho'
      subst ho'
      clear ho
      refine ⟨by rfl, ?_⟩
      simp only [fillS, List.foldl_cons, List.foldl_nil, Act.put, List.setIfInBounds_toArray, List.set_cons_zero, List.set_cons_succ]
    · have hn := HN.out W (h41.below hx1)
      simp only [Hql.out] at hn
      refine yld_call (by go_simp) (hn c) ?_
      rintro e w2 ⟨rfl, rfl⟩
      exact ⟨_, rfl, Ext.refl _, by simp⟩
    · have d2 := (hd (2, 21) (by simp) (by kernel_rfl)).1 rfl
      simp only at d2
      exact yld_quiet ⟨.int .u32 (v : Int), by (simp only [d2]; go_simp <;> with_reducible rfl), by simp⟩
    · exact yld_make ⟨_, _, by (go_simp <;> first | exact ⟨rfl, rfl⟩ | rfl), Ext.alloc _ _, by simp⟩
    · obtain ⟨g, d4⟩ := (hd (4, 23) (by simp) (by kernel_rfl)).2.2.1 rfl
      simp only at d4
      simp only [d4, Hle5.out]
      exact yld_app0 (.tmp 23) (.tmp 25) 22 rfl elemB _ rfl _ k.toNat _ (bvs key) rfl (by rw [← Hkl.out]; exact hky1.below hx1) (bvs_one _) (by omega) (by omega) (fun A' c' w' x1 x2 => by
        refine ⟨by simp, by simp, by simp, fun _ => ⟨A', c', rfl, x1.mono hx1.size⟩, by simp, by simp⟩)
    · have d3 := (hd (3, 22) (by simp) (by kernel_rfl)).2.1 rfl
      obtain ⟨A', c', d7, o7⟩ := (hd (7, 26) (by simp) (by kernel_rfl)).2.2.2.1 rfl
      simp only at d3 d7
      exact yld_quiet ⟨_, by (simp only [d3, d7]; go_simp <;> with_reducible rfl), by simp, by simp, by simp, by simp, fun _ => ⟨A', c', rfl, o7⟩, by simp⟩
    · exact yld_make ⟨_, _, by (go_simp <;> first | exact ⟨rfl, rfl⟩ | rfl), Ext.alloc _ _, by simp, by simp, by simp, by simp, by simp, fun _ => ⟨W.heap.size, rfl, hx1.size, heap_alloc_new W _⟩⟩
  · intro f W hx hd
    have d2 := (hd (2, 21) (by simp)).1 rfl
    have d3 := (hd (3, 22) (by simp)).2.1 rfl
    obtain ⟨g4, d4⟩ := (hd (4, 23) (by simp)).2.2.1 rfl
    obtain ⟨A7, c7, d7, o7⟩ := (hd (7, 26) (by simp)).2.2.2.1 rfl
    obtain ⟨A8, c8, d8, o8⟩ := (hd (8, 27) (by simp)).2.2.2.2.1 rfl
    obtain ⟨b, d9, hbge, hbr⟩ := (hd (9, 4) (by simp)).2.2.2.2.2 rfl
    simp only at d2 d3 d4 d7 d8 d9
    simp only [fillS, List.foldl_cons, List.foldl_nil, Act.put, List.setIfInBounds_toArray, List.set_cons_zero, List.set_cons_succ, d2, d3, d4, d7, d8, d9]
    have hx1 : Ext W1 W := Ext.tr (Ext.drew W1) hx
    have U2 := U1.below hx1
    have hwlt : w.heap.size < W1.heap.size := lt_of_heap U1.row
    clear hd d2 d3 d4 d7 d8 d9 o7 h41 hky1 HN
    have hne8 := o8.ne_row hbr (by decide)
    refine rg_last 10 rfl (by kernel_rfl) (by kernel_rfl) (by rfl) fun K hK => wp_store_row 25 (.tmp 4) (.tmp 27) rfl b _ rfl rfl 25 _ hbr (by kernel_rfl) rfl (by first | kernel_rfl | simp [Value.oneCell']) (hK _ _ ?_)
    refine rg_done (by kernel_rfl) ?_
    have D6 : Duo w (W.setRow b #[.slice A8 k.toNat c8, .int .i64 0, .slice none 0 0, .int .u32 0, .int .u32 (v : Int)]) b #[.slice A8 k.toNat c8, .int .i64 0, .slice none 0 0, .int .u32 0, .int .u32 (v : Int)] := ⟨U2.setR b _ (by omega), setRow_heap W b _ _ _ _ hbr, by omega⟩
    have ho7 := o8.setR b #[.slice A8 k.toNat c8, .int .i64 0, .slice none 0 0, .int .u32 0, .int .u32 (v : Int)] hne8
    have hk3 : ∀ i, ownRow A8 c8 = some i → w.heap.size < i := fun i hi => by have := (o8.row_lt i hi).1; omega
    have hnc3 := o8.nc
    have hg6 := D6.row
    obtain ⟨W6, hW6⟩ : ∃ W6, W6 = W.setRow b #[.slice A8 k.toNat c8, .int .i64 0, .slice none 0 0, .int .u32 0, .int .u32 (v : Int)] := ⟨_, rfl⟩
    rw [← hW6] at D6 ho7 hg6 ⊢
    clear hW6 o8 hbr hne8 hx hx1 U1 U2
    go_wp2_with (refine wpList_load_row rfl 25 (.tmp 4) rfl b rfl 25 #[.slice A8 k.toNat c8, .int .i64 0, .slice none 0 0, .int .u32 0, .int .u32 (v : Int)] (0, 0) _ hg6 Try.underlying25 rfl (by kernel_rfl) ?_)
    have hL := fun W => ref_Inner ⟨A8, c8, none, 0, ⟨key, 0, [], 0, v⟩⟩ W
    rw [Hlf.out] at hL
    simp only [CellV.val, CellV.cells, Int.natCast_zero, List.length_nil, Hkl.out] at hL
    refine (hL _).mono ?_
    rintro e w8 ⟨rfl, hb8⟩
    have D8 := D6.below hb8
    have ho9 := ho7.below hb8
    clear hL D6 hg6 ho7 hb8
    have hg8 := D8.row
    have hz8 := D8.uno.row
    go_wp2_with (first | (refine wpList_load_row rfl 25 (.tmp 4) rfl b rfl 25 #[.slice A8 k.toNat c8, .int .i64 0, .slice none 0 0, .int .u32 0, .int .u32 (v : Int)] (0, 0) _ hg8 Try.underlying25 rfl (by kernel_rfl) ?_) | (refine wpList_store_row rfl 25 (.tmp 2) (.tmp 32) rfl w.heap.size #[.slice A8 k.toNat c8, .int .i64 0, .slice none 0 0, .int .u32 0, .int .u32 (v : Int)] rfl rfl _ _ hz8 (by kernel_rfl) rfl (by first | kernel_rfl | simp [Value.oneCell']) ?_))
    have hgz2 := setRow_heap w8 w.heap.size _ #[.slice A8 k.toNat c8, .int .i64 0, .slice none 0 0, .int .u32 0, .int .u32 (v : Int)] _ _ hz8
    (try simp only [Exit.inBlock, Exit.then])
    refine bodyPost_ret (results_row_tmp rfl _ _ w.heap.size 25 #[.slice A8 k.toNat c8, .int .i64 0, .slice none 0 0, .int .u32 0, .int .u32 (v : Int)] (0, 0) _ rfl hgz2 Try.underlying25 rfl (by kernel_rfl)) rfl ?_
    refine ⟨⟨A8, c8, none, 0, ⟨key, 0, [], 0, v⟩⟩, ?_, ?_, ?_, ext_row D8.uno.ext (Nat.le_refl _) _⟩
    · rw [Hqv.out]
      simp only [CellV.val, CellV.cells, Int.natCast_zero, List.length_nil, Hkl.out]
      rfl
    · rw [Hqv.out]
    · exact ⟨by show 0 < 4294967296; omega, hvl, by show (-9223372036854775808 : Int) ≤ 0; omega, by show (0 : Int) ≤ 9223372036854775807; omega, Own.rd' (ho9.setR w.heap.size #[.slice A8 k.toNat c8, .int .i64 0, .slice none 0 0, .int .u32 0, .int .u32 (v : Int)] (fun i hi => by have := hk3 i hi; omega)), RdB.nil_ _ _, by show key.length ≤ c8; rw [Hkl.out]; exact hnc3, Nat.zero_le _⟩
set_option maxRecDepth 100000 in
set_option maxHeartbeats 1000000 in
theorem ref_getInner_11 (A : Option Addr) (bs : List UInt8) (c : Nat) (w : World) (hA : RdB w A bs) (hc : bs.length ≤ c) (hl : bs.length ≤ 1000000) (h5 : 5 ≤ bs.length) (k : UInt8) (hk4 : bs.getD 4 0 = k) (hlen : bs.length = 5 + k.toNat) (q4 key : List UInt8) (hq4 : bs.take 4 = q4) (hkey : bs.drop 5 = key)
    (v : Nat) (hv : Vint.number q4 % 4294967296 = v) (hlf : (Cl.mk key 0 [] 0 v).inner = true) (hceq : c = 5) (q : Cl × Nat) (hqv : q = ((Cl.mk key 0 [] 0 v), 0)) :
    Calls Try.prog 18 #[.slice A bs.length c] w fun e w' => ∃ C : CellV, e = .returned (.tuple #[C.val, .int .i64 (q.2 : Int)]) ∧ C.x = q.1 ∧ C.In w' ∧ Below w.heap.size w w' := by
  have Hqv := Lib.hid hqv
  have U1 := Uno.new w
  obtain ⟨ad, rfl, hk0⟩ := hA.at_ (k := 4) (by omega)
  have hkk : bs[4] = k := by rw [← hk4, List.getD_eq_getElem?_getD, List.getElem?_eq_getElem (by omega)]; rfl
  rw [hkk, show ad.add 4 = ⟨ad.block, ad.off + 4, none⟩ from rfl] at hk0
  have hk := k.toNat_lt
  have hk1 := U1.ext.load hk0
  have h4 := hA.head (m := 4) (by omega)
  rw [hq4] at h4
  have hql : q4.length = 4 := by rw [← hq4, List.length_take]; omega
  have hkl : key.length = k.toNat := by rw [← hkey, List.length_drop]; omega
  have hky := hA.tail (k := 5) (by omega) hc
  rw [hkey] at hky
  have hvl : v < 4294967296 := by rw [← hv]; exact Nat.mod_lt _ (by omega)
  have hwv : IntKind.u32.wrap (Vint.number q4 : Int) = (v : Int) := by rw [← hv]; simp [IntKind.wrap, IntKind.bits, IntKind.signed]
  have hb : (((bs.length : Nat) : Int) != 5 + (k.toNat : Int)) = false := by rw [bne_eq_false_iff_eq]; omega
  have hle5 : bs.length - 5 = k.toNat := by omega
  have hlo : bs.length ≤ 5 + k.toNat := by omega
  have hlo2 : 5 + k.toNat ≤ bs.length := by omega
  have h4c : (4 : Int) ≤ (c : Int) := by omega
  have h5c : (5 : Int) ≤ (c : Int) := by omega
  have h5l : (5 : Int) ≤ (bs.length : Int) := by omega
  have hlc : (bs.length : Int) ≤ (c : Int) := by omega
  have Hle5 := Lib.hid hle5
  have Hkl := Lib.hid hkl
  have Hlf := Lib.hid hlf
  have Hql := Lib.hid hql
  rw [if_pos hceq] at hky
  have Hz : Hid (k.toNat = 0) := by show _ = _; omega
  subst hceq
  have HN := Lib.hid (fun W (x : RdB W (some ad) q4) cp => ref_number01 (some ad) q4 cp W x (by omega))
  clear hqv hk4 hkk hk0 hlen hq4 hkey hv hlf hle5 hkl hql
  go_enter Try.func18, Try.ntmps18
  go_wp2_with fail
  obtain ⟨W1, hW1⟩ : ∃ W1, W1 = w.alloc (.cells #[.slice none 0 0, .int .i64 0, .slice none 0 0, .int .u32 0, .int .u32 0] 25) := ⟨_, rfl⟩
  rw [← hW1] at U1 ⊢
  clear hW1 hk1
  have h41 := h4.below U1.ext
  have hky1 := hky.below U1.ext
  refine rg_start (by kernel_rfl) ?_
  refine rg_take 0 rfl (by kernel_rfl) (by kernel_rfl) (by kernel_rfl) (fun _ _ _ _ h => h) (by rfl) ⟨_, fun w' hx => by (go_simp <;> with_reducible rfl), ?_⟩
  simp only [Act.put, List.setIfInBounds_toArray, List.set_cons_zero, List.set_cons_succ]
  refine rg_take 1 rfl (by kernel_rfl) (by kernel_rfl) (by kernel_rfl) (fun _ _ _ _ h => h) (by rfl) ⟨_, fun w' hx => by (go_simp <;> with_reducible rfl), ?_⟩
  simp only [Act.put, List.setIfInBounds_toArray, List.set_cons_zero, List.set_cons_succ]
  refine rg_take 5 rfl (by kernel_rfl) (by kernel_rfl) (by kernel_rfl) (fun _ _ _ _ h => h) (by rfl) ⟨_, fun w' hx => by (go_simp <;> with_reducible rfl), ?_⟩
  simp only [Act.put, List.setIfInBounds_toArray, List.set_cons_zero, List.set_cons_succ]
  refine rg_take 6 rfl (by kernel_rfl) (by kernel_rfl) (by kernel_rfl) (fun _ _ _ _ h => h) (by rfl) ⟨_, fun w' hx => by (go_simp <;> with_reducible rfl), ?_⟩
  simp only [Act.put, List.setIfInBounds_toArray, List.set_cons_zero, List.set_cons_succ]
  refine rg_par [(2, 21), (3, 22), (4, 23), (7, 26), (8, 27), (9, 4)] (fun i u W => (i = 2 → u = .int .u64 (Vint.number q4 : Int)) ∧ (i = 3 → u = .int .u32 (v : Int)) ∧ (i = 4 → ∃ g, u = .slice (some ⟨g, 0, none⟩) 0 0) ∧ (i = 7 → ∃ A' c', u = .slice A' k.toNat c' ∧ Own W W1.heap.size 5 1 A' k.toNat c' (bvs key)) ∧
    (i = 8 → ∃ A' c', u = .agg #[.slice A' k.toNat c', .int .i64 0, .slice none 0 0, .int .u32 0, .int .u32 (v : Int)] ∧ Own W W1.heap.size 5 1 A' k.toNat c' (bvs key)) ∧ (i = 9 → ∃ g, u = .pointer (some ⟨g, 0, none⟩) ∧ W1.heap.size ≤ g ∧ W.heap[g]? = some (.cells #[.slice none 0 0, .int .i64 0, .slice none 0 0, .int .u32 0, .int .u32 0] 25 (0, 0)))) 6 (by kernel_rfl) ?_ ?_ ?_
  · rintro i u W W' ⟨a2, a3, a4, a7, a8, a9⟩ hx
    exact ⟨a2, a3, a4, fun e => let ⟨A', c', x1, x2⟩ := a7 e; ⟨A', c', x1, x2.below hx⟩, fun e => let ⟨A', c', x1, x2⟩ := a8 e; ⟨A', c', x1, x2.below hx⟩, fun e => let ⟨g, x1, x2, x3⟩ := a9 e; ⟨g, x1, x2, (hx.block _ (lt_of_heap x3)).trans x3⟩⟩
  · intro p hp oi ho f W hx hd
    simp only [List.mem_cons, List.not_mem_nil, or_false] at hp
    have hx1 : Ext W1 W := Ext.tr (Ext.drew W1) hx
    rcases hp with rfl | rfl | rfl | rfl | rfl | rfl
    all_goals
      simp only at ho
      have ho' := ho
      simp only [List.getElem?_toArray, List.getElem?_cons_succ, List.getElem?_cons_zero] at ho'
      injection ho' with ho'
      subst ho'
      clear ho
      refine ⟨by rfl, ?_⟩
      simp only [fillS, List.foldl_cons, List.foldl_nil, Act.put, List.setIfInBounds_toArray, List.set_cons_zero, List.set_cons_succ]
    · have hn := HN.out W (h41.below hx1)
      simp only [Hql.out] at hn
      refine yld_call (by go_simp) (hn 5) ?_
      rintro e w2 ⟨rfl, rfl⟩
      exact ⟨_, rfl, Ext.refl _, by simp⟩
    · have d2 := (hd (2, 21) (by simp) (by kernel_rfl)).1 rfl
      simp only at d2
      exact yld_quiet ⟨.int .u32 (v : Int), by (simp only [d2]; go_simp <;> with_reducible rfl), by simp⟩
    · exact yld_make ⟨_, _, by (go_simp <;> first | exact ⟨rfl, rfl⟩ | rfl), Ext.alloc _ _, by simp⟩
    · obtain ⟨g, d4⟩ := (hd (4, 23) (by simp) (by kernel_rfl)).2.2.1 rfl
      simp only at d4
      simp only [d4]
      rw [Hz.out]
      exact yld_app0 (.tmp 23) (.tmp 25) 22 rfl elemB _ rfl _ 0 _ (bvs key) rfl (by rw [← Hz.out, ← Hkl.out]; exact hky1.below hx1) (bvs_one _) (by omega) (by omega) (fun A' c' w' x1 x2 => by
        refine ⟨by simp, by simp, by simp, fun _ => ⟨A', c', rfl, x1.mono hx1.size⟩, by simp, by simp⟩)
    · have d3 := (hd (3, 22) (by simp) (by kernel_rfl)).2.1 rfl
      obtain ⟨A', c', d7, o7⟩ := (hd (7, 26) (by simp) (by kernel_rfl)).2.2.2.1 rfl
      simp only at d3 d7
      exact yld_quiet ⟨_, by (simp only [d3, d7]; go_simp <;> with_reducible rfl), by simp, by simp, by simp, by simp, fun _ => ⟨A', c', rfl, o7⟩, by simp⟩
    · exact yld_make ⟨_, _, by (go_simp <;> first | exact ⟨rfl, rfl⟩ | rfl), Ext.alloc _ _, by simp, by simp, by simp, by simp, by simp, fun _ => ⟨W.heap.size, rfl, hx1.size, heap_alloc_new W _⟩⟩
  · intro f W hx hd
    have d2 := (hd (2, 21) (by simp)).1 rfl
    have d3 := (hd (3, 22) (by simp)).2.1 rfl
    obtain ⟨g4, d4⟩ := (hd (4, 23) (by simp)).2.2.1 rfl
    obtain ⟨A7, c7, d7, o7⟩ := (hd (7, 26) (by simp)).2.2.2.1 rfl
    obtain ⟨A8, c8, d8, o8⟩ := (hd (8, 27) (by simp)).2.2.2.2.1 rfl
    obtain ⟨b, d9, hbge, hbr⟩ := (hd (9, 4) (by simp)).2.2.2.2.2 rfl
    simp only at d2 d3 d4 d7 d8 d9
    simp only [fillS, List.foldl_cons, List.foldl_nil, Act.put, List.setIfInBounds_toArray, List.set_cons_zero, List.set_cons_succ, d2, d3, d4, d7, d8, d9]
    have hx1 : Ext W1 W := Ext.tr (Ext.drew W1) hx
    have U2 := U1.below hx1
    have hwlt : w.heap.size < W1.heap.size := lt_of_heap U1.row
    clear hd d2 d3 d4 d7 d8 d9 o7 h41 hky1 HN
    have hne8 := o8.ne_row hbr (by decide)
    refine rg_last 10 rfl (by kernel_rfl) (by kernel_rfl) (by rfl) fun K hK => wp_store_row 25 (.tmp 4) (.tmp 27) rfl b _ rfl rfl 25 _ hbr (by kernel_rfl) rfl (by first | kernel_rfl | simp [Value.oneCell']) (hK _ _ ?_)
    refine rg_done (by kernel_rfl) ?_
    have D6 : Duo w (W.setRow b #[.slice A8 k.toNat c8, .int .i64 0, .slice none 0 0, .int .u32 0, .int .u32 (v : Int)]) b #[.slice A8 k.toNat c8, .int .i64 0, .slice none 0 0, .int .u32 0, .int .u32 (v : Int)] := ⟨U2.setR b _ (by omega), setRow_heap W b _ _ _ _ hbr, by omega⟩
    have ho7 := o8.setR b #[.slice A8 k.toNat c8, .int .i64 0, .slice none 0 0, .int .u32 0, .int .u32 (v : Int)] hne8
    have hk3 : ∀ i, ownRow A8 c8 = some i → w.heap.size < i := fun i hi => by have := (o8.row_lt i hi).1; omega
    have hnc3 := o8.nc
    have hg6 := D6.row
    obtain ⟨W6, hW6⟩ : ∃ W6, W6 = W.setRow b #[.slice A8 k.toNat c8, .int .i64 0, .slice none 0 0, .int .u32 0, .int .u32 (v : Int)] := ⟨_, rfl⟩
    rw [← hW6] at D6 ho7 hg6 ⊢
    clear hW6 o8 hbr hne8 hx hx1 U1 U2
    go_wp2_with (refine wpList_load_row rfl 25 (.tmp 4) rfl b rfl 25 #[.slice A8 k.toNat c8, .int .i64 0, .slice none 0 0, .int .u32 0, .int .u32 (v : Int)] (0, 0) _ hg6 Try.underlying25 rfl (by kernel_rfl) ?_)
    have hL := fun W => ref_Inner ⟨A8, c8, none, 0, ⟨key, 0, [], 0, v⟩⟩ W
    rw [Hlf.out] at hL
    simp only [CellV.val, CellV.cells, Int.natCast_zero, List.length_nil, Hkl.out] at hL
    refine (hL _).mono ?_
    rintro e w8 ⟨rfl, hb8⟩
    have D8 := D6.below hb8
    have ho9 := ho7.below hb8
    clear hL D6 hg6 ho7 hb8
    have hg8 := D8.row
    have hz8 := D8.uno.row
    go_wp2_with (first | (refine wpList_load_row rfl 25 (.tmp 4) rfl b rfl 25 #[.slice A8 k.toNat c8, .int .i64 0, .slice none 0 0, .int .u32 0, .int .u32 (v : Int)] (0, 0) _ hg8 Try.underlying25 rfl (by kernel_rfl) ?_) | (refine wpList_store_row rfl 25 (.tmp 2) (.tmp 32) rfl w.heap.size #[.slice A8 k.toNat c8, .int .i64 0, .slice none 0 0, .int .u32 0, .int .u32 (v : Int)] rfl rfl _ _ hz8 (by kernel_rfl) rfl (by first | kernel_rfl | simp [Value.oneCell']) ?_))
    have hgz2 := setRow_heap w8 w.heap.size _ #[.slice A8 k.toNat c8, .int .i64 0, .slice none 0 0, .int .u32 0, .int .u32 (v : Int)] _ _ hz8
    (try simp only [Exit.inBlock, Exit.then])
    refine bodyPost_ret (results_row_tmp rfl _ _ w.heap.size 25 #[.slice A8 k.toNat c8, .int .i64 0, .slice none 0 0, .int .u32 0, .int .u32 (v : Int)] (0, 0) _ rfl hgz2 Try.underlying25 rfl (by kernel_rfl)) rfl ?_
    refine ⟨⟨A8, c8, none, 0, ⟨key, 0, [], 0, v⟩⟩, ?_, ?_, ?_, ext_row D8.uno.ext (Nat.le_refl _) _⟩
    · rw [Hqv.out]
      simp only [CellV.val, CellV.cells, Int.natCast_zero, List.length_nil, Hkl.out]
      rfl
    · rw [Hqv.out]
    · exact ⟨by show 0 < 4294967296; omega, hvl, by show (-9223372036854775808 : Int) ≤ 0; omega, by show (0 : Int) ≤ 9223372036854775807; omega, Own.rd' (ho9.setR w.heap.size #[.slice A8 k.toNat c8, .int .i64 0, .slice none 0 0, .int .u32 0, .int .u32 (v : Int)] (fun i hi => by have := hk3 i hi; omega)), RdB.nil_ _ _, by show key.length ≤ c8; rw [Hkl.out]; exact hnc3, Nat.zero_le _⟩
set_option maxRecDepth 100000 in
set_option maxHeartbeats 1000000 in
theorem ref_getInner_00 (A : Option Addr) (bs : List UInt8) (c : Nat) (w : World) (hA : RdB w A bs) (hc : bs.length ≤ c) (hl : bs.length ≤ 1000000) (h5 : 5 ≤ bs.length) (k : UInt8) (hk4 : bs.getD 4 0 = k) (hlen : bs.length = 5 + k.toNat) (q4 key : List UInt8) (hq4 : bs.take 4 = q4) (hkey : bs.drop 5 = key)
    (v : Nat) (hv : Vint.number q4 % 4294967296 = v) (hlf : (Cl.mk key 0 [] 0 v).inner = false) (hceq : ¬ c = 5) (q : Cl × Nat) (hqv : q = (Cl.zero, 70)) :
    Calls Try.prog 18 #[.slice A bs.length c] w fun e w' => ∃ C : CellV, e = .returned (.tuple #[C.val, .int .i64 (q.2 : Int)]) ∧ C.x = q.1 ∧ C.In w' ∧ Below w.heap.size w w' := by
  have Hqv := Lib.hid hqv
  have U1 := Uno.new w
  obtain ⟨ad, rfl, hk0⟩ := hA.at_ (k := 4) (by omega)
  have hkk : bs[4] = k := by rw [← hk4, List.getD_eq_getElem?_getD, List.getElem?_eq_getElem (by omega)]; rfl
  rw [hkk, show ad.add 4 = ⟨ad.block, ad.off + 4, none⟩ from rfl] at hk0
  have hk := k.toNat_lt
  have hk1 := U1.ext.load hk0
  have h4 := hA.head (m := 4) (by omega)
  rw [hq4] at h4
  have hql : q4.length = 4 := by rw [← hq4, List.length_take]; omega
  have hkl : key.length = k.toNat := by rw [← hkey, List.length_drop]; omega
  have hky := hA.tail (k := 5) (by omega) hc
  rw [hkey] at hky
  have hvl : v < 4294967296 := by rw [← hv]; exact Nat.mod_lt _ (by omega)
  have hwv : IntKind.u32.wrap (Vint.number q4 : Int) = (v : Int) := by rw [← hv]; simp [IntKind.wrap, IntKind.bits, IntKind.signed]
  have hb : (((bs.length : Nat) : Int) != 5 + (k.toNat : Int)) = false := by rw [bne_eq_false_iff_eq]; omega
  have hle5 : bs.length - 5 = k.toNat := by omega
  have hlo : bs.length ≤ 5 + k.toNat := by omega
  have hlo2 : 5 + k.toNat ≤ bs.length := by omega
  have h4c : (4 : Int) ≤ (c : Int) := by omega
  have h5c : (5 : Int) ≤ (c : Int) := by omega
  have h5l : (5 : Int) ≤ (bs.length : Int) := by omega
  have hlc : (bs.length : Int) ≤ (c : Int) := by omega
  have Hle5 := Lib.hid hle5
  have Hkl := Lib.hid hkl
  have Hlf := Lib.hid hlf
  have Hql := Lib.hid hql
  rw [if_neg hceq] at hky
  simp only [Option.map_some] at hky
  rw [show ad.add 5 = ⟨ad.block, ad.off + 5, none⟩ from rfl] at hky
  have HN := Lib.hid (fun W (x : RdB W (some ad) q4) cp => ref_number01 (some ad) q4 cp W x (by omega))
  clear hqv hk4 hkk hk0 hlen hq4 hkey hv hlf hle5 hkl hql
  go_enter Try.func18, Try.ntmps18
  go_wp2_with fail
  obtain ⟨W1, hW1⟩ : ∃ W1, W1 = w.alloc (.cells #[.slice none 0 0, .int .i64 0, .slice none 0 0, .int .u32 0, .int .u32 0] 25) := ⟨_, rfl⟩
  rw [← hW1] at U1 ⊢
  clear hW1 hk1
  have h41 := h4.below U1.ext
  have hky1 := hky.below U1.ext
  refine rg_start (by kernel_rfl) ?_
  refine rg_take 0 rfl (by kernel_rfl) (by kernel_rfl) (by kernel_rfl) (fun _ _ _ _ h => h) (by rfl) ⟨_, fun w' hx => by (go_simp <;> with_reducible rfl), ?_⟩
  simp only [Act.put, List.setIfInBounds_toArray, List.set_cons_zero, List.set_cons_succ]
  refine rg_take 1 rfl (by kernel_rfl) (by kernel_rfl) (by kernel_rfl) (fun _ _ _ _ h => h) (by rfl) ⟨_, fun w' hx => by (go_simp <;> with_reducible rfl), ?_⟩
  simp only [Act.put, List.setIfInBounds_toArray, List.set_cons_zero, List.set_cons_succ]
  refine rg_take 5 rfl (by kernel_rfl) (by kernel_rfl) (by kernel_rfl) (fun _ _ _ _ h => h) (by rfl) ⟨_, fun w' hx => by (go_simp <;> with_reducible rfl), ?_⟩
  simp only [Act.put, List.setIfInBounds_toArray, List.set_cons_zero, List.set_cons_succ]
  refine rg_take 6 rfl (by kernel_rfl) (by kernel_rfl) (by kernel_rfl) (fun _ _ _ _ h => h) (by rfl) ⟨_, fun w' hx => by (go_simp <;> with_reducible rfl), ?_⟩
  simp only [Act.put, List.setIfInBounds_toArray, List.set_cons_zero, List.set_cons_succ]
  refine rg_par [(2, 21), (3, 22), (4, 23), (7, 26), (8, 27), (9, 4)] (fun i u W => (i = 2 → u = .int .u64 (Vint.number q4 : Int)) ∧ (i = 3 → u = .int .u32 (v : Int)) ∧ (i = 4 → ∃ g, u = .slice (some ⟨g, 0, none⟩) 0 0) ∧ (i = 7 → ∃ A' c', u = .slice A' k.toNat c' ∧ Own W W1.heap.size 5 1 A' k.toNat c' (bvs key)) ∧
    (i = 8 → ∃ A' c', u = .agg #[.slice A' k.toNat c', .int .i64 0, .slice none 0 0, .int .u32 0, .int .u32 (v : Int)] ∧ Own W W1.heap.size 5 1 A' k.toNat c' (bvs key)) ∧ (i = 9 → ∃ g, u = .pointer (some ⟨g, 0, none⟩) ∧ W1.heap.size ≤ g ∧ W.heap[g]? = some (.cells #[.slice none 0 0, .int .i64 0, .slice none 0 0, .int .u32 0, .int .u32 0] 25 (0, 0)))) 6 (by kernel_rfl) ?_ ?_ ?_
  · rintro i u W W' ⟨a2, a3, a4, a7, a8, a9⟩ hx
    exact ⟨a2, a3, a4, fun e => let ⟨A', c', x1, x2⟩ := a7 e; ⟨A', c', x1, x2.below hx⟩, fun e => let ⟨A', c', x1, x2⟩ := a8 e; ⟨A', c', x1, x2.below hx⟩, fun e => let ⟨g, x1, x2, x3⟩ := a9 e; ⟨g, x1, x2, (hx.block _ (lt_of_heap x3)).trans x3⟩⟩
  · intro p hp oi ho f W hx hd
    simp only [List.mem_cons, List.not_mem_nil, or_false] at hp
    have hx1 : Ext W1 W := Ext.tr (Ext.drew W1) hx
    rcases hp with rfl | rfl | rfl | rfl | rfl | rfl
    all_goals
      simp only at ho
      have ho' := ho
      simp only [List.getElem?_toArray, List.getElem?_cons_succ, List.getElem?_cons_zero] at ho'
      injection ho' with ho'
      subst ho'
      clear ho
      refine ⟨by rfl, ?_⟩
      simp only [fillS, List.foldl_cons, List.foldl_nil, Act.put, List.setIfInBounds_toArray, List.set_cons_zero, List.set_cons_succ]
    · have hn := HN.out W (h41.below hx1)
      simp only [Hql.out] at hn
      refine yld_call (by go_simp) (hn c) ?_
      rintro e w2 ⟨rfl, rfl⟩
      exact ⟨_, rfl, Ext.refl _, by simp⟩
    · have d2 := (hd (2, 21) (by simp) (by kernel_rfl)).1 rfl
      simp only at d2
      exact yld_quiet ⟨.int .u32 (v : Int), by (simp only [d2]; go_simp <;> with_reducible rfl), by simp⟩
    · exact yld_make ⟨_, _, by (go_simp <;> first | exact ⟨rfl, rfl⟩ | rfl), Ext.alloc _ _, by simp⟩
    · obtain ⟨g, d4⟩ := (hd (4, 23) (by simp) (by kernel_rfl)).2.2.1 rfl
      simp only at d4
      simp only [d4, Hle5.out]
      exact yld_app0 (.tmp 23) (.tmp 25) 22 rfl elemB _ rfl _ k.toNat _ (bvs key) rfl (by rw [← Hkl.out]; exact hky1.below hx1) (bvs_one _) (by omega) (by omega) (fun A' c' w' x1 x2 => by
        refine ⟨by simp, by simp, by simp, fun _ => ⟨A', c', rfl, x1.mono hx1.size⟩, by simp, by simp⟩)
    · have d3 := (hd (3, 22) (by simp) (by kernel_rfl)).2.1 rfl
      obtain ⟨A', c', d7, o7⟩ := (hd (7, 26) (by simp) (by kernel_rfl)).2.2.2.1 rfl
      simp only at d3 d7
      exact yld_quiet ⟨_, by (simp only [d3, d7]; go_simp <;> with_reducible rfl), by simp, by simp, by simp, by simp, fun _ => ⟨A', c', rfl, o7⟩, by simp⟩
    · exact yld_make ⟨_, _, by (go_simp <;> first | exact ⟨rfl, rfl⟩ | rfl), Ext.alloc _ _, by simp, by simp, by simp, by simp, by simp, fun _ => ⟨W.heap.size, rfl, hx1.size, heap_alloc_new W _⟩⟩
  · intro f W hx hd
    have d2 := (hd (2, 21) (by simp)).1 rfl
    have d3 := (hd (3, 22) (by simp)).2.1 rfl
    obtain ⟨g4, d4⟩ := (hd (4, 23) (by simp)).2.2.1 rfl
    obtain ⟨A7, c7, d7, o7⟩ := (hd (7, 26) (by simp)).2.2.2.1 rfl
    obtain ⟨A8, c8, d8, o8⟩ := (hd (8, 27) (by simp)).2.2.2.2.1 rfl
    obtain ⟨b, d9, hbge, hbr⟩ := (hd (9, 4) (by simp)).2.2.2.2.2 rfl
    simp only at d2 d3 d4 d7 d8 d9
    simp only [fillS, List.foldl_cons, List.foldl_nil, Act.put, List.setIfInBounds_toArray, List.set_cons_zero, List.set_cons_succ, d2, d3, d4, d7, d8, d9]
    have hx1 : Ext W1 W := Ext.tr (Ext.drew W1) hx
    have U2 := U1.below hx1
    have hwlt : w.heap.size < W1.heap.size := lt_of_heap U1.row
    clear hd d2 d3 d4 d7 d8 d9 o7 h41 hky1 HN
    have hne8 := o8.ne_row hbr (by decide)
    refine rg_last 10 rfl (by kernel_rfl) (by kernel_rfl) (by rfl) fun K hK => wp_store_row 25 (.tmp 4) (.tmp 27) rfl b _ rfl rfl 25 _ hbr (by kernel_rfl) rfl (by first | kernel_rfl | simp [Value.oneCell']) (hK _ _ ?_)
    refine rg_done (by kernel_rfl) ?_
    have D6 : Duo w (W.setRow b #[.slice A8 k.toNat c8, .int .i64 0, .slice none 0 0, .int .u32 0, .int .u32 (v : Int)]) b #[.slice A8 k.toNat c8, .int .i64 0, .slice none 0 0, .int .u32 0, .int .u32 (v : Int)] := ⟨U2.setR b _ (by omega), setRow_heap W b _ _ _ _ hbr, by omega⟩
    have ho7 := o8.setR b #[.slice A8 k.toNat c8, .int .i64 0, .slice none 0 0, .int .u32 0, .int .u32 (v : Int)] hne8
    have hk3 : ∀ i, ownRow A8 c8 = some i → w.heap.size < i := fun i hi => by have := (o8.row_lt i hi).1; omega
    have hnc3 := o8.nc
    have hg6 := D6.row
    obtain ⟨W6, hW6⟩ : ∃ W6, W6 = W.setRow b #[.slice A8 k.toNat c8, .int .i64 0, .slice none 0 0, .int .u32 0, .int .u32 (v : Int)] := ⟨_, rfl⟩
    rw [← hW6] at D6 ho7 hg6 ⊢
    clear hW6 o8 hbr hne8 hx hx1 U1 U2
    go_wp2_with (refine wpList_load_row rfl 25 (.tmp 4) rfl b rfl 25 #[.slice A8 k.toNat c8, .int .i64 0, .slice none 0 0, .int .u32 0, .int .u32 (v : Int)] (0, 0) _ hg6 Try.underlying25 rfl (by kernel_rfl) ?_)
    have hL := fun W => ref_Inner ⟨A8, c8, none, 0, ⟨key, 0, [], 0, v⟩⟩ W
    rw [Hlf.out] at hL
    simp only [CellV.val, CellV.cells, Int.natCast_zero, List.length_nil, Hkl.out] at hL
    refine (hL _).mono ?_
    rintro e w8 ⟨rfl, hb8⟩
    have D8 := D6.below hb8
    have ho9 := ho7.below hb8
    clear hL D6 hg6 ho7 hb8
    have U8 := D8.uno
    have hgz := U8.row
    go_wp2_with (refine wpList_store_row rfl 25 (.tmp 2) (.tmp 31) rfl w.heap.size #[.slice none 0 0, .int .i64 0, .slice none 0 0, .int .u32 0, .int .u32 0] rfl rfl _ _ hgz (by kernel_rfl) rfl (by kernel_rfl) ?_)
    have hgz2 := setRow_heap w8 w.heap.size _ #[.slice none 0 0, .int .i64 0, .slice none 0 0, .int .u32 0, .int .u32 0] _ _ hgz
    (try simp only [Exit.inBlock, Exit.then])
    refine bodyPost_ret (results_row_tmp rfl _ _ w.heap.size 25 #[.slice none 0 0, .int .i64 0, .slice none 0 0, .int .u32 0, .int .u32 0] (0, 0) _ rfl hgz2 Try.underlying25 rfl (by kernel_rfl)) rfl ?_
    refine ⟨CellV.zero, ?_, ?_, CellV.zero_in _, ext_row U8.ext (Nat.le_refl _) _⟩
    · rw [Hqv.out]; rfl
    · rw [Hqv.out]; rfl
set_option maxRecDepth 100000 in
set_option maxHeartbeats 1000000 in
theorem ref_getInner_01 (A : Option Addr) (bs : List UInt8) (c : Nat) (w : World) (hA : RdB w A bs) (hc : bs.length ≤ c) (hl : bs.length ≤ 1000000) (h5 : 5 ≤ bs.length) (k : UInt8) (hk4 : bs.getD 4 0 = k) (hlen : bs.length = 5 + k.toNat) (q4 key : List UInt8) (hq4 : bs.take 4 = q4) (hkey : bs.drop 5 = key)
    (v : Nat) (hv : Vint.number q4 % 4294967296 = v) (hlf : (Cl.mk key 0 [] 0 v).inner = false) (hceq : c = 5) (q : Cl × Nat) (hqv : q = (Cl.zero, 70)) :
    Calls Try.prog 18 #[.slice A bs.length c] w fun e w' => ∃ C : CellV, e = .returned (.tuple #[C.val, .int .i64 (q.2 : Int)]) ∧ C.x = q.1 ∧ C.In w' ∧ Below w.heap.size w w' := by
  have Hqv := Lib.hid hqv
  have U1 := Uno.new w
  obtain ⟨ad, rfl, hk0⟩ := hA.at_ (k := 4) (by omega)
  have hkk : bs[4] = k := by rw [← hk4, List.getD_eq_getElem?_getD, List.getElem?_eq_getElem (by omega)]; rfl
  rw [hkk, show ad.add 4 = ⟨ad.block, ad.off + 4, none⟩ from rfl] at hk0
  have hk := k.toNat_lt
  have hk1 := U1.ext.load hk0
  have h4 := hA.head (m := 4) (by omega)
  rw [hq4] at h4
  have hql : q4.length = 4 := by rw [← hq4, List.length_take]; omega
  have hkl : key.length = k.toNat := by rw [← hkey, List.length_drop]; omega
  have hky := hA.tail (k := 5) (by omega) hc
  rw [hkey] at hky
  have hvl : v < 4294967296 := by rw [← hv]; exact Nat.mod_lt _ (by omega)
  have hwv : IntKind.u32.wrap (Vint.number q4 : Int) = (v : Int) := by rw [← hv]; simp [IntKind.wrap, IntKind.bits, IntKind.signed]
  have hb : (((bs.length : Nat) : Int) != 5 + (k.toNat : Int)) = false := by rw [bne_eq_false_iff_eq]; omega
  have hle5 : bs.length - 5 = k.toNat := by omega
  have hlo : bs.length ≤ 5 + k.toNat := by omega
  have hlo2 : 5 + k.toNat ≤ bs.length := by omega
  have h4c : (4 : Int) ≤ (c : Int) := by omega
  have h5c : (5 : Int) ≤ (c : Int) := by omega
  have h5l : (5 : Int) ≤ (bs.length : Int) := by omega
  have hlc : (bs.length : Int) ≤ (c : Int) := by omega
  have Hle5 := Lib.hid hle5
  have Hkl := Lib.hid hkl
  have Hlf := Lib.hid hlf
  have Hql := Lib.hid hql
  rw [if_pos hceq] at hky
  have Hz : Hid (k.toNat = 0) := by show _ = _; omega
  subst hceq
  have HN := Lib.hid (fun W (x : RdB W (some ad) q4) cp => ref_number01 (some ad) q4 cp W x (by omega))
  clear hqv hk4 hkk hk0 hlen hq4 hkey hv hlf hle5 hkl hql
  go_enter Try.func18, Try.ntmps18
  go_wp2_with fail
  obtain ⟨W1, hW1⟩ : ∃ W1, W1 = w.alloc (.cells #[.slice none 0 0, .int .i64 0, .slice none 0 0, .int .u32 0, .int .u32 0] 25) := ⟨_, rfl⟩
  rw [← hW1] at U1 ⊢
  clear hW1 hk1
  have h41 := h4.below U1.ext
  have hky1 := hky.below U1.ext
  refine rg_start (by kernel_rfl) ?_
  refine rg_take 0 rfl (by kernel_rfl) (by kernel_rfl) (by kernel_rfl) (fun _ _ _ _ h => h) (by rfl) ⟨_, fun w' hx => by (go_simp <;> with_reducible rfl), ?_⟩
  simp only [Act.put, List.setIfInBounds_toArray, List.set_cons_zero, List.set_cons_succ]
  refine rg_take 1 rfl (by kernel_rfl) (by kernel_rfl) (by kernel_rfl) (fun _ _ _ _ h => h) (by rfl) ⟨_, fun w' hx => by (go_simp <;> with_reducible rfl), ?_⟩
  simp only [Act.put, List.setIfInBounds_toArray, List.set_cons_zero, List.set_cons_succ]
  refine rg_take 5 rfl (by kernel_rfl) (by kernel_rfl) (by kernel_rfl) (fun _ _ _ _ h => h) (by rfl) ⟨_, fun w' hx => by (go_simp <;> with_reducible rfl), ?_⟩
  simp only [Act.put, List.setIfInBounds_toArray, List.set_cons_zero, List.set_cons_succ]
  refine rg_take 6 rfl (by kernel_rfl) (by kernel_rfl) (by kernel_rfl) (fun _ _ _ _ h => h) (by rfl) ⟨_, fun w' hx => by (go_simp <;> with_reducible rfl), ?_⟩
  simp only [Act.put, List.setIfInBounds_toArray, List.set_cons_zero, List.set_cons_succ]
  refine rg_par [(2, 21), (3, 22), (4, 23), (7, 26), (8, 27), (9, 4)] (fun i u W => (i = 2 → u = .int .u64 (Vint.number q4 : Int)) ∧ (i = 3 → u = .int .u32 (v : Int)) ∧ (i = 4 → ∃ g, u = .slice (some ⟨g, 0, none⟩) 0 0) ∧ (i = 7 → ∃ A' c', u = .slice A' k.toNat c' ∧ Own W W1.heap.size 5 1 A' k.toNat c' (bvs key)) ∧
    (i = 8 → ∃ A' c', u = .agg #[.slice A' k.toNat c', .int .i64 0, .slice none 0 0, .int .u32 0, .int .u32 (v : Int)] ∧ Own W W1.heap.size 5 1 A' k.toNat c' (bvs key)) ∧ (i = 9 → ∃ g, u = .pointer (some ⟨g, 0, none⟩) ∧ W1.heap.size ≤ g ∧ W.heap[g]? = some (.cells #[.slice none 0 0, .int .i64 0, .slice none 0 0, .int .u32 0, .int .u32 0] 25 (0, 0)))) 6 (by kernel_rfl) ?_ ?_ ?_
  · rintro i u W W' ⟨a2, a3, a4, a7, a8, a9⟩ hx
    exact ⟨a2, a3, a4, fun e => let ⟨A', c', x1, x2⟩ := a7 e; ⟨A', c', x1, x2.below hx⟩, fun e => let ⟨A', c', x1, x2⟩ := a8 e; ⟨A', c', x1, x2.below hx⟩, fun e => let ⟨g, x1, x2, x3⟩ := a9 e; ⟨g, x1, x2, (hx.block _ (lt_of_heap x3)).trans x3⟩⟩
  · intro p hp oi ho f W hx hd
    simp only [List.mem_cons, List.not_mem_nil, or_false] at hp
    have hx1 : Ext W1 W := Ext.tr (Ext.drew W1) hx
    rcases hp with rfl | rfl | rfl | rfl | rfl | rfl
    all_goals
      simp only at ho
      have ho' := ho
      simp only [List.getElem?_toArray, List.getElem?_cons_succ, List.getElem?_cons_zero] at ho'
      injection ho' with ho'
      subst ho'
      clear ho
      refine ⟨by rfl, ?_⟩
      simp only [fillS, List.foldl_cons, List.foldl_nil, Act.put, List.setIfInBounds_toArray, List.set_cons_zero, List.set_cons_succ]
    · have hn := HN.out W (h41.below hx1)
      simp only [Hql.out] at hn
      refine yld_call (by go_simp) (hn 5) ?_
      rintro e w2 ⟨rfl, rfl⟩
      exact ⟨_, rfl, Ext.refl _, by simp⟩
    · have d2 := (hd (2, 21) (by simp) (by kernel_rfl)).1 rfl
      simp only at d2
      exact yld_quiet ⟨.int .u32 (v : Int), by (simp only [d2]; go_simp <;> with_reducible rfl), by simp⟩
    · exact yld_make ⟨_, _, by (go_simp <;> first | exact ⟨rfl, rfl⟩ | rfl), Ext.alloc _ _, by simp⟩
    · obtain ⟨g, d4⟩ := (hd (4, 23) (by simp) (by kernel_rfl)).2.2.1 rfl
      simp only at d4
      simp only [d4]
      rw [Hz.out]
      exact yld_app0 (.tmp 23) (.tmp 25) 22 rfl elemB _ rfl _ 0 _ (bvs key) rfl (by rw [← Hz.out, ← Hkl.out]; exact hky1.below hx1) (bvs_one _) (by omega) (by omega) (fun A' c' w' x1 x2 => by
        refine ⟨by simp, by simp, by simp, fun _ => ⟨A', c', rfl, x1.mono hx1.size⟩, by simp, by simp⟩)
    · have d3 := (hd (3, 22) (by simp) (by kernel_rfl)).2.1 rfl
      obtain ⟨A', c', d7, o7⟩ := (hd (7, 26) (by simp) (by kernel_rfl)).2.2.2.1 rfl
      simp only at d3 d7
      exact yld_quiet ⟨_, by (simp only [d3, d7]; go_simp <;> with_reducible rfl), by simp, by simp, by simp, by simp, fun _ => ⟨A', c', rfl, o7⟩, by simp⟩
    · exact yld_make ⟨_, _, by (go_simp <;> first | exact ⟨rfl, rfl⟩ | rfl), Ext.alloc _ _, by simp, by simp, by simp, by simp, by simp, fun _ => ⟨W.heap.size, rfl, hx1.size, heap_alloc_new W _⟩⟩
  · intro f W hx hd
    have d2 := (hd (2, 21) (by simp)).1 rfl
    have d3 := (hd (3, 22) (by simp)).2.1 rfl
    obtain ⟨g4, d4⟩ := (hd (4, 23) (by simp)).2.2.1 rfl
    obtain ⟨A7, c7, d7, o7⟩ := (hd (7, 26) (by simp)).2.2.2.1 rfl
    obtain ⟨A8, c8, d8, o8⟩ := (hd (8, 27) (by simp)).2.2.2.2.1 rfl
    obtain ⟨b, d9, hbge, hbr⟩ := (hd (9, 4) (by simp)).2.2.2.2.2 rfl
    simp only at d2 d3 d4 d7 d8 d9
    simp only [fillS, List.foldl_cons, List.foldl_nil, Act.put, List.setIfInBounds_toArray, List.set_cons_zero, List.set_cons_succ, d2, d3, d4, d7, d8, d9]
    have hx1 : Ext W1 W := Ext.tr (Ext.drew W1) hx
    have U2 := U1.below hx1
    have hwlt : w.heap.size < W1.heap.size := lt_of_heap U1.row
    clear hd d2 d3 d4 d7 d8 d9 o7 h41 hky1 HN
    have hne8 := o8.ne_row hbr (by decide)
    refine rg_last 10 rfl (by kernel_rfl) (by kernel_rfl) (by rfl) fun K hK => wp_store_row 25 (.tmp 4) (.tmp 27) rfl b _ rfl rfl 25 _ hbr (by kernel_rfl) rfl (by first | kernel_rfl | simp [Value.oneCell']) (hK _ _ ?_)
    refine rg_done (by kernel_rfl) ?_
    have D6 : Duo w (W.setRow b #[.slice A8 k.toNat c8, .int .i64 0, .slice none 0 0, .int .u32 0, .int .u32 (v : Int)]) b #[.slice A8 k.toNat c8, .int .i64 0, .slice none 0 0, .int .u32 0, .int .u32 (v : Int)] := ⟨U2.setR b _ (by omega), setRow_heap W b _ _ _ _ hbr, by omega⟩
    have ho7 := o8.setR b #[.slice A8 k.toNat c8, .int .i64 0, .slice none 0 0, .int .u32 0, .int .u32 (v : Int)] hne8
    have hk3 : ∀ i, ownRow A8 c8 = some i → w.heap.size < i := fun i hi => by have := (o8.row_lt i hi).1; omega
    have hnc3 := o8.nc
    have hg6 := D6.row
    obtain ⟨W6, hW6⟩ : ∃ W6, W6 = W.setRow b #[.slice A8 k.toNat c8, .int .i64 0, .slice none 0 0, .int .u32 0, .int .u32 (v : Int)] := ⟨_, rfl⟩
    rw [← hW6] at D6 ho7 hg6 ⊢
    clear hW6 o8 hbr hne8 hx hx1 U1 U2
    go_wp2_with (refine wpList_load_row rfl 25 (.tmp 4) rfl b rfl 25 #[.slice A8 k.toNat c8, .int .i64 0, .slice none 0 0, .int .u32 0, .int .u32 (v : Int)] (0, 0) _ hg6 Try.underlying25 rfl (by kernel_rfl) ?_)
    have hL := fun W => ref_Inner ⟨A8, c8, none, 0, ⟨key, 0, [], 0, v⟩⟩ W
    rw [Hlf.out] at hL
    simp only [CellV.val, CellV.cells, Int.natCast_zero, List.length_nil, Hkl.out] at hL
    refine (hL _).mono ?_
    rintro e w8 ⟨rfl, hb8⟩
    have D8 := D6.below hb8
    have ho9 := ho7.below hb8
    clear hL D6 hg6 ho7 hb8
    have U8 := D8.uno
    have hgz := U8.row
    go_wp2_with (refine wpList_store_row rfl 25 (.tmp 2) (.tmp 31) rfl w.heap.size #[.slice none 0 0, .int .i64 0, .slice none 0 0, .int .u32 0, .int .u32 0] rfl rfl _ _ hgz (by kernel_rfl) rfl (by kernel_rfl) ?_)
    have hgz2 := setRow_heap w8 w.heap.size _ #[.slice none 0 0, .int .i64 0, .slice none 0 0, .int .u32 0, .int .u32 0] _ _ hgz
    (try simp only [Exit.inBlock, Exit.then])
    refine bodyPost_ret (results_row_tmp rfl _ _ w.heap.size 25 #[.slice none 0 0, .int .i64 0, .slice none 0 0, .int .u32 0, .int .u32 0] (0, 0) _ rfl hgz2 Try.underlying25 rfl (by kernel_rfl)) rfl ?_
    refine ⟨CellV.zero, ?_, ?_, CellV.zero_in _, ext_row U8.ext (Nat.le_refl _) _⟩
    · rw [Hqv.out]; rfl
    · rw [Hqv.out]; rfl
theorem ref_getInner (A : Option Addr) (bs : List UInt8) (c : Nat) (w : World) (hA : RdB w A bs) (hc : bs.length ≤ c) (hl : bs.length ≤ 1000000) :
    Calls Try.prog 18 #[.slice A bs.length c] w fun e w' => ∃ C : CellV, e = .returned (.tuple #[C.val, .int .i64 ((Cl.refI bs).2 : Int)]) ∧ C.x = (Cl.refI bs).1 ∧ C.In w' ∧ Below w.heap.size w w' := by
  obtain ⟨q, hq⟩ : ∃ q, q = Cl.refI bs := ⟨_, rfl⟩
  rw [← hq]
  unfold Cl.refI at hq
  by_cases h5 : bs.length < 5
  · rw [if_pos (.inl h5)] at hq
    exact ref_getInner_short A bs c w h5 q hq
  · by_cases hlen : bs.length = 5 + (bs.getD 4 0).toNat
    · rw [if_neg (by omega)] at hq
      have hcand : Cl.candI bs = Cl.mk (bs.drop 5) 0 [] 0 (Vint.number (bs.take 4) % 4294967296) := by
        unfold Cl.candI
        rw [if_pos (by omega), List.take_of_length_le (by rw [List.length_drop]; omega)]
      rw [hcand] at hq
      cases hlf : (Cl.mk (bs.drop 5) 0 [] 0 (Vint.number (bs.take 4) % 4294967296)).inner with
      | true =>
        rw [if_pos hlf] at hq
        by_cases hceq : c = 5
        · exact ref_getInner_11 A bs c w hA hc hl (by omega) _ rfl hlen _ _ rfl rfl _ rfl hlf hceq q hq
        · exact ref_getInner_10 A bs c w hA hc hl (by omega) _ rfl hlen _ _ rfl rfl _ rfl hlf hceq q hq
      | false =>
        rw [if_neg (by rw [hlf]; simp)] at hq
        by_cases hceq : c = 5
        · exact ref_getInner_01 A bs c w hA hc hl (by omega) _ rfl hlen _ _ rfl rfl _ rfl hlf hceq q hq
        · exact ref_getInner_00 A bs c w hA hc hl (by omega) _ rfl hlen _ _ rfl rfl _ rfl hlf hceq q hq
    · rw [if_pos (.inr hlen)] at hq
      exact ref_getInner_len A bs c w hA hl (by omega) _ rfl hlen q hq
end Go.Proofs.Ytafffpkjpghnjaa
