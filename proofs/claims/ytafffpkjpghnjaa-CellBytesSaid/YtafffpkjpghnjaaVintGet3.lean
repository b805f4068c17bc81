/- Contract of vint.Get: where there is a number. -/
import Derived.Test.YtafffpkjpghnjaaVintGet2
namespace Go.Proofs.Ytafffpkjpghnjaa
open Go.RowKit
attribute [local go_sem] Oper.semAt_some

theorem or7 (a c : Nat) (ha : a * 128 + c % 128 < 18446744073709551616) : bits .or .u64 ((a : Int) * 128) ((c % 128 : Nat) : Int) = ((a * 128 + c % 128 : Nat) : Int) := by
  rw [show ((a : Int) * 128) = ((a * 128 : Nat) : Int) by omega, u64_or_nat _ _ (by omega) (by omega)]
  have := nat_join 7 (a * 128) (c % 128) (by omega) (by omega)
  rw [this]
theorem and7 (c : Nat) (hc : c < 256) : bits .and .u8 (c : Int) 127 = ((c % 128 : Nat) : Int) := by
  have h1 := u8_and_nat c 127 hc (by omega)
  rw [nat_mask7] at h1
  exact h1

def GetInv (w0 : World) (g : List UInt8) (pre : List (Nat × UInt8)) (W : World) : Prop :=
  W.heap[w0.heap.size]? = some (.cells #[.int .u64 ((Vint.val (g.drop (g.length - pre.length)) : Nat) : Int)] 43 (0, 0)) ∧ Below w0.heap.size w0 W ∧ w0.heap.size + 2 ≤ W.heap.size

theorem get_hKb (w W0 : World) (hsz : W0.heap.size = w.heap.size + 2) : ∀ (W : World) (l : Nat) (o o' : Obj), W0.heap.size ≤ l → W.heap[l]? = some o → o.isCells = false → KeepB (w.heap.size + 1) w.heap.size W (W.putObj l o') := fun W l o o' hl ho _ =>
  ⟨World.putObj_heap_other (by omega), (Below.refl _ W).grown (grownBy_putObj' W l o') (by have := lt_of_heap ho; omega) (fun k e => by injection e with e; omega)⟩
theorem get_hI (w W0 : World) (g : List UInt8) (hsz : W0.heap.size = w.heap.size + 2) : ∀ s A B row, GetInv w g s A → A.grownBy B row → (∀ r, row = some r → W0.heap.size ≤ r ∧ (A.heap[r]?.map Obj.isCells) = some false) → GetInv w g s B := by
  rintro s A B row ⟨h1, h3, h4⟩ hg hr
  exact ⟨(hg.block _ (lt_of_heap h1) (fun e => by have := (hr _ e.symm).1; omega)).trans h1, h3.grown hg h3.size (fun k e => by have := (hr k e).1; omega), Nat.le_trans h4 hg.size⟩
theorem get_hIg (w : World) (g : List UInt8) : ∀ s A B, GetInv w g s A → A.grownBy B (some (w.heap.size + 1)) → (A.heap[w.heap.size + 1]?.map Obj.isCells) = some true → GetInv w g s B := by
  rintro s A B ⟨h1, h3, h4⟩ hg _
  exact ⟨(hg.block _ (lt_of_heap h1) (fun e => by injection e with e; omega)).trans h1, h3.grown hg h3.size (fun k e => by injection e with e; omega), Nat.le_trans h4 hg.size⟩
theorem get_body {w W : World} {g : List UInt8} {pre : List (Nat × UInt8)} {j : Nat} {y : UInt8} (hI : GetInv w g pre W) (hpre : (pre ++ [(j, y)]) <+: Vint.back g) (hval : Vint.val g < 18446744073709551616) :
    ∃ a : Nat, a * 128 + y.toNat % 128 < 18446744073709551616 ∧ W.heap[w.heap.size]? = some (.cells #[.int .u64 (a : Int)] 43 (0, 0)) ∧
      (∀ v, v = ((a * 128 + y.toNat % 128 : Nat) : Int) → KeepsOthers W (W.setCell ⟨w.heap.size, 0, none⟩ (.int .u64 v)) ∧ KeepB (w.heap.size + 1) w.heap.size W (W.setCell ⟨w.heap.size, 0, none⟩ (.int .u64 v)) ∧ GetInv w g (pre ++ [(j, y)]) (W.setCell ⟨w.heap.size, 0, none⟩ (.int .u64 v))) := by
  obtain ⟨h1, h3, h4⟩ := hI
  obtain ⟨hl, h5, rfl, rfl⟩ := Vint.back_pre hpre
  have h6 := Vint.val_cons_drop g (g.length - 1 - pre.length) h5
  rw [show g.length - 1 - pre.length + 1 = g.length - pre.length by omega] at h6
  refine ⟨Vint.val (g.drop (g.length - pre.length)), ?_, h1, ?_⟩
  · rw [← h6]; exact Nat.lt_of_le_of_lt (Vint.val_drop_le g _) hval
  · rintro v rfl
    refine ⟨KeepsOthers.setCell _ _ _, ⟨?_, (Below.refl w.heap.size W).setCell (p := ⟨w.heap.size, 0, none⟩) (Nat.le_refl _) _⟩, ?_, h3.setCell (Nat.le_refl _) _, ?_⟩
    · show _ = _
      rw [Below.heap_setCell W _ _ _ (by simp)]
    · rw [List.length_append, List.length_singleton, show g.length - (pre.length + 1) = g.length - 1 - pre.length by omega, h6]
      have := heap_setCell_same W w.heap.size 0 _ _ (.int .u64 ((Vint.val (g.drop (g.length - pre.length)) * 128 + g[g.length - 1 - pre.length].toNat % 128 : Nat) : Int)) h1
      simpa using this
    · have : (W.setCell ⟨w.heap.size, 0, none⟩ (.int .u64 ((Vint.val (g.drop (g.length - pre.length)) * 128 + g[g.length - 1 - pre.length].toNat % 128 : Nat) : Int))).heap.size = W.heap.size := by simp [World.setCell]
      omega

set_option maxRecDepth 100000 in
set_option maxHeartbeats 2000000 in
theorem get_ok (A : Option Addr) (bs b : List UInt8) (cap i x : Nat) (w : World) (hA : RdB w A bs) (hl : bs.length ≤ cap) (hb : Cut10 bs b) (h : Vint.first b = i) (hi : i < b.length) (hx : b[i].toNat = x) (h1 : ¬ (i = 9 ∧ 1 < x)) (h2 : ¬ (0 < i ∧ x = 0)) :
    Calls Try.prog 29 #[.slice A bs.length cap] w fun e w' => e = .returned (getRes (Vint.val (b.take (i + 1)), i + 1, 0)) ∧ Below w.heap.size w w' := by
  have hf := Lib.hid (firstI_some (b := b) (by omega))
  rw [h] at hf
  have hA' : RdB w A b := by
    rcases hb with ⟨_, rfl⟩ | ⟨_, rfl⟩
    · exact hA
    · exact hA.head (by omega)
  have hbl : b.length ≤ 10 := by
    rcases hb with ⟨h2, rfl⟩ | ⟨h2, rfl⟩
    · exact h2
    · simp; omega
  have hix := Lib.hid (index_any A b cap w hA' (by omega))
  have hval := Lib.hid (Vint.val_take_lt b i hi hbl (by rw [hx]; exact h1))
  obtain ⟨g, hg⟩ : ∃ g, g = b.take (i + 1) := ⟨_, rfl⟩
  have hgl : g.length = i + 1 := by rw [hg, List.length_take]; omega
  have hAg : RdB w A g := by rw [hg]; exact hA'.head (by omega)
  obtain ⟨ad, rfl, hcell⟩ := hA'.at_ hi
  rw [hx] at hcell
  rw [← hg] at hval ⊢
  have Hgl := Lib.hid hgl
  have hi' : i < bs.length ∧ i + 1 ≤ cap := by
    rcases hb with ⟨_, rfl⟩ | ⟨_, rfl⟩
    · exact ⟨hi, by omega⟩
    · omega
  have hx256 : x < 256 := by rw [← hx]; exact b[i].toNat_lt
  clear hA' h hx hA hg hgl
  obtain ⟨m, hm⟩ : ∃ m, m = b.length := ⟨_, rfl⟩
  rw [← hm] at hix hi
  have hcut : (bs.length ≤ 10 ∧ m = bs.length) ∨ (10 < bs.length ∧ m = 10) := by
    rcases hb with ⟨h5, rfl⟩ | ⟨h5, rfl⟩
    · exact .inl ⟨h5, hm⟩
    · exact .inr ⟨h5, by rw [hm]; simp; omega⟩
  clear hm hb
  refine (callsIn_wide (n := 5)).1 (callsIn_of_wp_marks Try.func29 rfl trivial ?_ rfl)
  simp only [Try.ntmps29, List.size_toArray, List.length_cons, List.length_nil, Nat.reduceAdd, Nat.reduceSub, Array.replicate_succ, Array.replicate_zero, List.push_toArray, List.append_toArray, List.nil_append, List.cons_append]
  refine wpIn_wide.2 ?_
  have hd9 : ∀ d, ((i : Int) == 9) = d → (d = true → decide (1 < (x : Int)) = false) := fun d hd hdt => by
    subst hdt
    have : i = 9 := by have := beq_iff_eq.1 hd; omega
    simp only [decide_eq_false_iff_not]
    omega
  have hd0 : ∀ d, decide (0 < (i : Int)) = d → (d = true → ((x : Int) == 0) = false) := fun d hd hdt => by
    subst hdt
    have : 0 < i := by have := of_decide_eq_true hd; omega
    rw [beq_eq_false_iff_ne]
    omega
  have h90 : (((i : Int) == 9) = false ∧ decide (0 < (i : Int)) = false) ∨ (((i : Int) == 9) = false ∧ decide (0 < (i : Int)) = true) ∨ (((i : Int) == 9) = true ∧ decide (0 < (i : Int)) = true) := by
    simp only [beq_eq_false_iff_ne, beq_iff_eq, decide_eq_false_iff_not, decide_eq_true_eq]; omega
  rcases h90 with ⟨k9, k0⟩ | ⟨k9, k0⟩ | ⟨k9, k0⟩ <;> rcases hcut with ⟨h5, rfl⟩ | ⟨h5, rfl⟩
  all_goals
    have q9 := hd9 _ k9
    have q0 := hd0 _ k0
    clear hd9 hd0
    simp only [Bool.false_eq_true, false_implies, true_implies] at q9 q0
    go_wp2_with (first
      | (go_at_call 39; refine hix.out.mono ?_; rintro e w' ⟨rfl, rfl⟩; rw [hf.out])
      | (go_at_call 41; refine (backward_any _ _ _ _).mono ?_; rintro e w' ⟨rfl, rfl⟩))
    all_goals
      obtain ⟨W0, hW0⟩ : ∃ W0, (w.alloc (.cells #[.int .u64 0] 43)).alloc (.cells #[.slice (some ad) (i + 1) cap] 22) = W0 := ⟨_, rfl⟩
      have hsz : W0.heap.size = w.heap.size + 2 := by rw [← hW0]; simp
      have hBl : W0.heap[w.heap.size]? = some (.cells #[.int .u64 0] 43 (0, 0)) := by rw [← hW0]; exact heap_alloc2_old w _ _
      have hgb : W0.heap[w.heap.size + 1]? = some (.cells #[.slice (some ad) g.length cap] 22 (0, 0)) := by rw [← hW0, Hgl.out]; exact heap_alloc2_new w _ _
      have hb0 : Below w.heap.size w W0 := by rw [← hW0]; exact ((Below.refl _ w).alloc (Nat.le_refl _) _).alloc (by simp) _
      rw [hW0]
      clear hW0
      refine wp_range_all (n := 5) (by omega) (gf := 43) (lb := #[.pointer (some ⟨w.heap.size + 1, 0, none⟩)]) rfl (enters_fn Try.func43 (by kernel_rfl) rfl)
        (back_gives 4 (by omega) (w.heap.size + 1) (some ad) g cap w W0 hgb hAg hb0 (by have := Hgl.out; omega)) (by omega) (fun h k => ⟨Eq.trans k.1 h.1, h.2.trans (k.2.mono (Nat.le_refl _))⟩) (get_hKb w W0 hsz) (fun _ => rfl) (GetInv w g) (get_hI w W0 g hsz) (get_hIg w g) ⟨by rw [hBl]; simp [Vint.val], hb0, by omega⟩
        ?_ ?_ ?_ ?_
      rotate_left 1
      · intro l x W K hK
        simp only [encB]
        gi_wp2
        exact hK
      · rintro l pre ⟨j, y⟩ W hI hpre
        obtain ⟨a, ha, h1, hnew⟩ := get_body hI hpre hval.out
        have Hnew := Lib.hid hnew
        clear hnew
        have hcell : W.cell? ⟨w.heap.size, 0, none⟩ = some (.int .u64 (a : Int)) := cell_of_row W _ 0 _ _ _ h1
        have hfr : W.frozen? ⟨w.heap.size, 0, none⟩ = false := frozen_of_row W _ 0 _ _ h1
        have e1 := and7 y.toNat y.toNat_lt
        have e2 := or7 a y.toNat ha
        gi_wp2
        refine Hnew.out _ (Eq.trans ?_ e2)
        rw [Int.natCast_emod]
        rfl
      · rintro D W ⟨h1, h3, h4⟩ hD hK
        rw [Vint.back_len, Nat.sub_self, List.drop_zero] at h1
        have hcell : W.cell? ⟨w.heap.size, 0, none⟩ = some (.int .u64 (Vint.val g : Int)) := cell_of_row W _ 0 _ _ _ h1
        dsimp only
        go_wp2
        refine ⟨by simp, .inl ⟨_, _, rfl, run_takeDeferred hK, ?_⟩⟩
        have hput : W.grownBy (W.putObj D (.deferred none)) (some D) := grownBy_putObj' W D _
        refine ⟨_, results_tmp3 rfl _ _ _, ?_, h3.grown hput h3.size (fun k e => by injection e with e; omega)⟩
        first | rfl | simp [getRes]

theorem get_any (A : Option Addr) (bs : List UInt8) (cap : Nat) (w : World) (hA : RdB w A bs) (hl : bs.length ≤ cap) :
    Calls Try.prog 29 #[.slice A bs.length cap] w fun e w' => e = .returned (getRes (Vint.get bs)) ∧ Below w.heap.size w w' := by
  have hb := cut10 bs
  have key : ∀ r : Nat × Nat × Nat, r = Vint.get bs → Calls Try.prog 29 #[.slice A bs.length cap] w (fun e w' => e = .returned (getRes r) ∧ w = w') → Calls Try.prog 29 #[.slice A bs.length cap] w fun e w' => e = .returned (getRes (Vint.get bs)) ∧ Below w.heap.size w w' := by
    rintro r rfl h
    exact h.mono (by rintro e w' ⟨rfl, rfl⟩; exact ⟨rfl, Below.refl _ _⟩)
  by_cases h0 : Vint.first (bs.take 10) = (bs.take 10).length
  · refine key _ ?_ (get_none A bs _ cap w hA hl hb h0)
    unfold Vint.get
    rw [if_pos h0]
    split <;> rfl
  · have hi : Vint.first (bs.take 10) < (bs.take 10).length := by have := Vint.first_le (bs.take 10); omega
    have hgd : (bs.take 10).getD (Vint.first (bs.take 10)) 0 = (bs.take 10)[Vint.first (bs.take 10)] := by
      rw [List.getD_eq_getElem?_getD, List.getElem?_eq_getElem hi]; rfl
    by_cases h1 : Vint.first (bs.take 10) = 9 ∧ 1 < ((bs.take 10)[Vint.first (bs.take 10)]).toNat
    · refine key _ ?_ (get_wide A bs _ cap _ _ w hA hl hb rfl hi rfl h1.1 h1.2)
      unfold Vint.get
      simp only [hgd]
      rw [if_neg h0, if_pos h1]
    · by_cases h2 : 0 < Vint.first (bs.take 10) ∧ ((bs.take 10)[Vint.first (bs.take 10)]).toNat = 0
      · refine key _ ?_ (get_form A bs _ cap _ _ w hA hl hb rfl hi rfl h2)
        unfold Vint.get
        simp only [hgd]
        rw [if_neg h0, if_neg h1, if_pos h2]
      · have h3 := get_ok A bs _ cap _ _ w hA hl hb rfl hi rfl h1 h2
        have h4 : Vint.get bs = (Vint.val ((bs.take 10).take (Vint.first (bs.take 10) + 1)), Vint.first (bs.take 10) + 1, 0) := by
          unfold Vint.get
          simp only [hgd]
          rw [if_neg h0, if_neg h1, if_neg h2]
        rw [h4]
        exact h3
end Go.Proofs.Ytafffpkjpghnjaa
