/- Contracts: numbers in so many bytes by the reference (scowref01), texts with their length (vint, scowref01). -/
import Derived.Test.YtajflhdaljnoaaaVintRef
import Derived.Test.YtajflhdaljnoaaaSlices
namespace Go.Proofs.Ytajflhdaljnoaaa
open Go.RowKit
attribute [local go_sem] Oper.semAt_some

theorem num01 (v : Int) (w : World) : Calls Try.prog 15 #[.int .i64 v] w fun e w' => e = .returned (.int .i64 v) ∧ w = w' := by
  go_enter Try.func15, Try.ntmps15
  go_wp2
  go_ret
  exact ⟨rfl, rfl⟩

set_option maxRecDepth 100000 in
set_option maxHeartbeats 800000 in
theorem ref_number01 (A : Option Addr) (bs : List UInt8) (cap : Nat) (w : World) (hA : RdB w A bs) (hl : bs.length ≤ 140737488355328) :
    Calls Try.prog 19 #[.slice A bs.length cap] w fun e w' => e = .returned (.int .u64 (Vint.number bs : Nat)) ∧ w = w' := by
  by_cases h8 : bs.length ≤ 8
  · have hfin : Hid (Vint.number bs = Vint.numL bs) := by unfold Vint.number; exact if_pos h8
    go_enter Try.func19, Try.ntmps19
    go_wp2
    go_loop [3, 4] (fun a i => ∃ k : Nat, k ≤ bs.length ∧ i = .int .i64 k ∧ a = .int .u64 (Vint.numL (bs.take k) : Nat)) (fun _ i => bs.length - (intOf i).toNat)
    case atStart => exact ⟨0, by omega, rfl, rfl⟩
    case round =>
      obtain ⟨k, hk, rfl, rfl⟩ := hrel
      by_cases h : k < bs.length
      · obtain ⟨ad, rfl, hcell⟩ := hA.at_ h
        have hb := bs[k].toNat_lt
        have hs := Lib.hid (Vint.numL_snoc bs k h)
        have hn := Vint.numL_lt7 (bs.take k) (by simp; omega)
        generalize Vint.numL (bs.take k) = d at *
        generalize bs[k].toNat = b at *
        go_wp2
        go_round
        case rel => exact ⟨k + 1, by omega, by go_num, val_int (by rw [hs.out]; omega)⟩
        case measure => simp [intOf]; omega
      · obtain rfl : k = bs.length := by omega
        rw [List.take_length]
        go_wp2
        go_ret
        exact ⟨ret_int (by rw [hfin.out]), rfl⟩
  · have hfin : Hid (Vint.number bs = 0) := by unfold Vint.number; exact if_neg h8
    go_enter Try.func19, Try.ntmps19
    go_wp2
    go_ret
    exact ⟨ret_int (by rw [hfin.out]; rfl), rfl⟩

theorem fixB_mod (n z k : Nat) (h : k < z) : Value.int .u8 (((n / 256 ^ k : Nat) : Int) % 256) = bv (Vint.fixB n z (z - 1 - k)) := by
  have h2 : z - 1 - (z - 1 - k) = k := by omega
  rw [byte0]
  unfold Vint.fixB
  rw [h2]
  rfl

set_option maxRecDepth 100000 in
set_option maxHeartbeats 800000 in
theorem ref_fixed01 (n : Nat) (hn : n < 18446744073709551616) (size : Int) (w : World) :
    Calls Try.prog 17 #[.int .u64 (n : Int), .int .i64 size] w fun e w' => ∃ A' c', e = .returned (.slice A' (Vint.fixed n size).length c') ∧ Own w' w.heap.size 5 1 A' (Vint.fixed n size).length c' (bvs (Vint.fixed n size)) ∧ Below w.heap.size w w' := by
  by_cases hs : 1 ≤ size ∧ size ≤ 8
  · obtain ⟨h1, h2⟩ := hs
    obtain ⟨z, rfl⟩ := Int.eq_ofNat_of_zero_le (show 0 ≤ size by omega)
    have hfin : Hid (Vint.fixed n (z : Int) = Vint.fixL n z) := by unfold Vint.fixed; rw [if_pos ⟨h1, h2⟩, Int.toNat_natCast]; exact rfl
    go_enter Try.func17, Try.ntmps17
    go_wp2_with (first | (at_make; go_loud (refine wpList_mk rfl (.tmp 13) (.tmp 13) 23 rfl elemB (.int .u8 0) zeroB rfl z _ _ rfl rfl (by omega) (by omega) ?_)))
    rw [← fixC_zero n z]
    go_loopw [0, 6] (fun a i wr => ∃ m : Nat, m ≤ z ∧ i = .int .i64 ((m : Int) - 1) ∧ a = .int .u64 ((n / 256 ^ (z - m) : Nat) : Int) ∧ wr = w.alloc (.cells (fixC n z (z - m)) 5)) (fun _ i _ => (intOf i + 1).toNat)
    case atStart => exact ⟨z, by omega, rfl, by simp, by simp⟩
    case round =>
      obtain ⟨m, hm, rfl, rfl, rfl⟩ := hrel
      by_cases h : 0 < m
      · obtain ⟨j, rfl⟩ : ∃ j, m = j + 1 := ⟨m - 1, by omega⟩
        have hset := Lib.hid (fixC_set n z (z - (j + 1)) (by omega))
        have hcell := fixC_get n z (z - (j + 1)) j (by omega)
        have hv := Lib.hid (fixB_mod n z (z - (j + 1)) (by omega))
        have hdiv := Lib.hid (show n / 256 ^ (z - (j + 1)) / 256 = n / 256 ^ (z - j) by rw [Nat.div_div_eq_div_mul, ← Nat.pow_succ, show (z - (j + 1)).succ = z - j by omega])
        have hle : n / 256 ^ (z - (j + 1)) < 18446744073709551616 := Nat.lt_of_le_of_lt (Nat.div_le_self _ _) hn
        have hj : ((j + 1 : Nat) : Int) - 1 = (j : Int) := by omega
        have hz1 : Hid (z - 1 - (z - (j + 1)) = j) := by show _ = _; omega
        have hz2 : Hid (z - (j + 1) + 1 = z - j) := by show _ = _; omega
        have hsz := fixC_size n z (z - (j + 1))
        rw [hj]
        generalize n / 256 ^ (z - (j + 1)) = a at *
        generalize z - (j + 1) = k at *
        clear hn
        go_wp2
        go_roundw
        case rel => exact ⟨j, by omega, rfl, val_int (by rw [← hdiv.out]; simp), by have h5 := hset.out; rw [hz1.out, hz2.out] at h5; rw [← h5, ← hz1.out, ← hv.out]⟩
        case measure => simp [intOf]
      · obtain rfl : m = 0 := by omega
        go_wp2
        go_ret
        have := Own.new w 5 1 (fixC n z z) z z (Nat.le_refl _) (by unfold maxLen; omega) (by rw [fixC_size]; omega)
        rw [Nat.mul_one, List.take_of_length_le (by simp [fixC_size]), fixC_all] at this
        rw [hfin.out, Vint.fixL_len]
        exact ⟨_, _, rfl, this, (Below.refl _ _).alloc (Nat.le_refl _) _⟩
  · have hfin : Hid (Vint.fixed n size = []) := by unfold Vint.fixed; exact if_neg hs
    by_cases h1 : size < 1
    · go_enter Try.func17, Try.ntmps17
      go_wp2
      go_ret
      rw [hfin.out]
      exact ⟨none, 0, rfl, Own.none_ _ _ _ _ _, Below.refl _ _⟩
    · have h2 : 8 < size := by omega
      go_enter Try.func17, Try.ntmps17
      go_wp2
      go_ret
      rw [hfin.out]
      exact ⟨none, 0, rfl, Own.none_ _ _ _ _ _, Below.refl _ _⟩

/-- A text's bytes behind its length; the text with which bytes begin. -/
def Vint.putBytes (b : List UInt8) : List UInt8 := Vint.put b.length ++ b
def Vint.getBytes (b : List UInt8) : List UInt8 × Nat × Nat :=
  if (Vint.get b).2.2 ≠ 0 then ([], 0, (Vint.get b).2.2)
  else if b.length - (Vint.get b).2.1 < (Vint.get b).1 then ([], 0, 10)
  else ((b.drop (Vint.get b).2.1).take (Vint.get b).1, (Vint.get b).2.1 + (Vint.get b).1, 0)
theorem Vint.get_le (b : List UInt8) : (Vint.get b).2.1 ≤ b.length ∧ (Vint.get b).2.1 ≤ 10 ∧ (Vint.get b).1 < 18446744073709551616 ∧ (Vint.get b).2.2 < 256 := by
  have h1 := Vint.first_le (b.take 10)
  have h2 : (b.take 10).length ≤ b.length := by simp; omega
  have h3 : (b.take 10).length ≤ 10 := by simp; omega
  unfold Vint.get
  simp only
  split
  · split <;> simp
  · split
    · simp
    · split
      · simp
      · rename_i h4 h5 h6
        have h7 : Vint.first (b.take 10) < (b.take 10).length := by omega
        have hgd : (b.take 10).getD (Vint.first (b.take 10)) 0 = (b.take 10)[Vint.first (b.take 10)] := by
          rw [List.getD_eq_getElem?_getD, List.getElem?_eq_getElem h7]; rfl
        rw [hgd] at h5
        exact ⟨by simp only; omega, by simp only; omega, Vint.val_take_lt _ _ h7 h3 h5, by simp⟩

set_option maxRecDepth 100000 in
theorem putbytes_any (A : Option Addr) (bs : List UInt8) (cap : Nat) (w : World) (hA : RdB w A bs) (hl : bs.length ≤ 1000000) :
    Calls Try.prog 22 #[.slice A bs.length cap] w fun e w' => ∃ A' c', e = .returned (.slice A' (Vint.putBytes bs).length c') ∧ Own w' w.heap.size 5 1 A' (Vint.putBytes bs).length c' (bvs (Vint.putBytes bs)) ∧ Below w.heap.size w w' := by
  go_enter Try.func22, Try.ntmps22
  go_wp2_with fail
  refine (vput_any bs.length (by omega) w).mono ?_
  rintro e w1 ⟨A1, c1, rfl, ho1, hb1⟩
  have hpl := (Vint.put_len bs.length).2
  have hA1 := hA.below hb1
  go_wp2_with fail
  have h3 := concat_any _ [⟨A1, Vint.put bs.length, c1⟩, ⟨A, bs, cap⟩] 2 _ (RdL.two w1 23 A1 A (Vint.put bs.length) bs c1 cap ho1.rd' hA1) (by simp) (by rw [cat_two]; simp; omega)
  rw [cat_two, show Vint.put bs.length ++ bs = Vint.putBytes bs from rfl] at h3
  refine h3.mono ?_
  rintro e w3 ⟨A3, c3, rfl, ho3, hb3⟩
  have hb4 := ext_trans hb1 (ext_trans (Ext.alloc w1 _) hb3)
  clear h3
  go_wp2
  go_ret
  exact ⟨A3, c3, rfl, ho3.mono (by have := hb1.size; simp; omega), hb4⟩

set_option maxRecDepth 100000 in
theorem ref_putbytes01 (A : Option Addr) (bs : List UInt8) (cap : Nat) (w : World) (hA : RdB w A bs) (hl : bs.length ≤ 1000000) :
    Calls Try.prog 23 #[.slice A bs.length cap] w fun e w' => ∃ A' c', e = .returned (.slice A' (Vint.putBytes bs).length c') ∧ Own w' w.heap.size 5 1 A' (Vint.putBytes bs).length c' (bvs (Vint.putBytes bs)) ∧ Below w.heap.size w w' := by
  have hpl := (Vint.put_len bs.length).2
  have hlen : Hid ((Vint.putBytes bs).length = (Vint.put bs.length).length + bs.length) := by show _ = _; unfold Vint.putBytes; simp
  go_enter Try.func23, Try.ntmps23
  go_wp2_with (first
    | (go_at_call 11; refine (ref_put01 bs.length (by omega) w).mono ?_; rintro e w1 ⟨A1, c1, rfl, ho1, hb1⟩)
    | (at_builtin; refine wpList_app rfl (.tmp 6) (.tmp 7) 23 rfl elemB w.heap.size A1 _ c1 (bvs (Vint.put bs.length)) rfl A bs.length cap (bvs bs) rfl (Vint.putBytes bs).length hlen.out (bvs (Vint.putBytes bs)) (bvs_app _ _) ho1 (hA.below hb1) (bvs_one _) (by rw [hlen.out]; omega) (by rw [hlen.out]; omega) hb1.size ?_; intro A2 c2 w2 ho2 hg2 hr2))
  have hb2 := below_app hb1 ho1 hg2 hb1.size
  go_ret
  exact ⟨A2, c2, rfl, ho2, hb2⟩

/-- The values that a text's reading gives. -/
def gotRes (A : Option Addr) (n c : Nat) (r : List UInt8 × Nat × Nat) : Value := .tuple #[.slice A n c, .int .i64 (r.2.1 : Int), .int .i64 (r.2.2 : Int)]

set_option maxRecDepth 100000 in
set_option maxHeartbeats 800000 in
theorem getbytes_any (A : Option Addr) (bs : List UInt8) (cap : Nat) (w : World) (hA : RdB w A bs) (hl : bs.length ≤ 1000000) (hc : bs.length ≤ cap) :
    Calls Try.prog 20 #[.slice A bs.length cap] w fun e w' => ∃ A' c', e = .returned (gotRes A' (Vint.getBytes bs).1.length c' (Vint.getBytes bs)) ∧ Own w' w.heap.size 5 1 A' (Vint.getBytes bs).1.length c' (bvs (Vint.getBytes bs).1) ∧ Below w.heap.size w w' := by
  obtain ⟨hg1, hg2, hg3, hg4⟩ := Vint.get_le bs
  have hget := get_any A bs cap w hA hc
  have hdef : Vint.getBytes bs = if (Vint.get bs).2.2 ≠ 0 then ([], 0, (Vint.get bs).2.2) else if bs.length - (Vint.get bs).2.1 < (Vint.get bs).1 then ([], 0, 10) else ((bs.drop (Vint.get bs).2.1).take (Vint.get bs).1, (Vint.get bs).2.1 + (Vint.get bs).1, 0) := rfl
  generalize Vint.get bs = r at *
  obtain ⟨n, k, x⟩ := r
  simp only at hg1 hg2 hg3 hg4 hdef
  have Hget := Lib.hid hget
  clear hget
  by_cases hx : x = 0
  · subst hx
    by_cases hn : bs.length - k < n
    · have hfin := Lib.hid (hdef.trans (by rw [if_neg (by simp), if_pos hn]) : Vint.getBytes bs = ([], 0, 10))
      clear hdef
      go_enter Try.func20, Try.ntmps20
      go_wp2_with (go_at_call 13; refine Hget.out.mono ?_; rintro e w1 ⟨rfl, hb1⟩; simp only [getRes])
      go_ret3
      rw [hfin.out]
      exact ⟨none, 0, rfl, Own.none_ _ _ _ _ _, hb1⟩
    · have hfin := Lib.hid (hdef.trans (by rw [if_neg (by simp), if_neg hn]) : Vint.getBytes bs = ((bs.drop k).take n, k + n, 0))
      clear hdef
      have hle : k + n ≤ bs.length := by omega
      have hcut := hA.cut (k := k) (m := k + n) (by omega) hle (c := cap) (by omega)
      have hl2 : ((bs.take (k + n)).drop k).length = n := by simp; omega
      have he : (bs.take (k + n)).drop k = (bs.drop k).take n := by rw [List.drop_take]; congr 1; omega
      rw [he] at hcut hl2
      have Hl2 := Lib.hid hl2
      have Hcut := Lib.hid hcut
      clear hcut hl2 he
      go_enter Try.func20, Try.ntmps20
      go_wp2_with (first
        | (go_at_call 13; refine Hget.out.mono ?_; rintro e w1 ⟨rfl, hb1⟩; simp only [getRes])
        | fail)
      all_goals
        have hcut1 := Hcut.out
        first | rw [if_pos ‹cap = k›] at hcut1 | rw [if_neg ‹¬ cap = k›] at hcut1
        have h5 := fun c => clone_any _ _ c w1 (hcut1.below hb1) (by rw [Hl2.out]; omega)
        simp only [Hl2.out] at h5
        refine (h5 _).mono ?_
        rintro e w2 ⟨A2, c2, rfl, ho2, hb2⟩
        clear h5 hcut1
        go_wp2
        go_ret3
        rw [hfin.out]
        simp only [Hl2.out]
        exact ⟨A2, c2, by simp [gotRes], ho2.mono hb1.size, ext_trans hb1 hb2⟩
  · have hfin := Lib.hid (hdef.trans (by rw [if_pos hx]) : Vint.getBytes bs = ([], 0, x))
    have hx' : ((x : Int) == 0) = false := by rw [beq_eq_false_iff_ne]; omega
    clear hdef
    go_enter Try.func20, Try.ntmps20
    go_wp2_with (go_at_call 13; refine Hget.out.mono ?_; rintro e w1 ⟨rfl, hb1⟩; simp only [getRes])
    go_ret3
    rw [hfin.out]
    exact ⟨none, 0, rfl, Own.none_ _ _ _ _ _, hb1⟩
set_option maxRecDepth 100000 in
set_option maxHeartbeats 800000 in
theorem ref_getbytes01 (A : Option Addr) (bs : List UInt8) (cap : Nat) (w : World) (hA : RdB w A bs) (hl : bs.length ≤ 1000000) (hc : bs.length ≤ cap) :
    Calls Try.prog 21 #[.slice A bs.length cap] w fun e w' => ∃ A' c', e = .returned (gotRes A' (Vint.getBytes bs).1.length c' (Vint.getBytes bs)) ∧ Own w' w.heap.size 5 1 A' (Vint.getBytes bs).1.length c' (bvs (Vint.getBytes bs).1) ∧ Below w.heap.size w w' := by
  obtain ⟨hg1, hg2, hg3, hg4⟩ := Vint.get_le bs
  have hget := ref_get01 A bs cap w hA (by omega)
  have hdef : Vint.getBytes bs = if (Vint.get bs).2.2 ≠ 0 then ([], 0, (Vint.get bs).2.2) else if bs.length - (Vint.get bs).2.1 < (Vint.get bs).1 then ([], 0, 10) else ((bs.drop (Vint.get bs).2.1).take (Vint.get bs).1, (Vint.get bs).2.1 + (Vint.get bs).1, 0) := rfl
  generalize Vint.get bs = r at *
  obtain ⟨n, k, x⟩ := r
  simp only at hg1 hg2 hg3 hg4 hdef
  have Hget := Lib.hid hget
  clear hget
  by_cases hx : x = 0
  · subst hx
    by_cases hn : bs.length - k < n
    · have hfin := Lib.hid (hdef.trans (by rw [if_neg (by simp), if_pos hn]) : Vint.getBytes bs = ([], 0, 10))
      clear hdef
      go_enter Try.func21, Try.ntmps21
      go_wp2_with (go_at_call 14; refine Hget.out.mono ?_; rintro e w1 ⟨rfl, rfl⟩; simp only [getRes])
      go_ret3
      rw [hfin.out]
      exact ⟨none, 0, rfl, Own.none_ _ _ _ _ _, Below.refl _ _⟩
    · have hfin := Lib.hid (hdef.trans (by rw [if_neg (by simp), if_neg hn]) : Vint.getBytes bs = ((bs.drop k).take n, k + n, 0))
      clear hdef
      have hle : k + n ≤ bs.length := by omega
      by_cases hck : cap = k
      · obtain rfl : n = 0 := by omega
        rw [List.take_zero, Nat.add_zero] at hfin
        clear hle hn
        subst hck
        go_enter Try.func21, Try.ntmps21
        go_wp2_with (first
          | (go_at_call 14; refine Hget.out.mono ?_; rintro e w1 ⟨rfl, rfl⟩; simp only [getRes])
          | (at_builtin; refine wpList_app rfl (.tmp 24) (.tmp 31) 23 rfl elemB w.heap.size _ 0 0 [] rfl _ 0 _ [] rfl 0 rfl [] rfl (Own.none_ _ _ _ _ _) (Rd.nil_ _ _ _) (by simp) (by omega) (by omega) (by simp) ?_; intro A2 c2 w2 ho2 hg2 hr2))
        all_goals
          have hb2 := below_app (((Below.refl w.heap.size w).alloc (Nat.le_refl _) (.cells #[] 5))) (Own.none_ _ _ 5 1 (some ⟨w.heap.size, 0, none⟩)) hg2 (by simp)
          go_ret3
          rw [hfin.out]
          exact ⟨A2, c2, by simp [gotRes], ho2, hb2⟩
      · have hcut := hA.cut (k := k) (m := k + n) (by omega) hle (c := cap) (by omega)
        have hl2 : ((bs.take (k + n)).drop k).length = n := by simp; omega
        have he : (bs.take (k + n)).drop k = (bs.drop k).take n := by rw [List.drop_take]; congr 1; omega
        rw [he, if_neg hck] at hcut
        rw [he] at hl2
        have Hl2 := Lib.hid hl2
        have hcut1 := hcut.below (Ext.alloc w (.cells #[] 5))
        unfold RdB at hcut1
        rw [hl2] at hcut1
        have hcut2 : Rd (w.alloc (.cells #[] 5)) 1 (A.map fun x => x.add k) (k + n - k) (bvs ((bs.drop k).take n)) := by rw [Nat.add_sub_cancel_left]; exact hcut1
        have Hcut2 := Lib.hid hcut2
        clear hcut hl2 he hcut1 hcut2
        go_enter Try.func21, Try.ntmps21
        go_wp2_with (first
          | (go_at_call 14; refine Hget.out.mono ?_; rintro e w1 ⟨rfl, rfl⟩; simp only [getRes])
          | (at_builtin; (refine wpList_app rfl (.tmp 24) (.tmp 31) 23 rfl elemB w.heap.size _ 0 0 [] rfl (A.map fun x => x.add k) (k + n - k) (cap - k) (bvs ((bs.drop k).take n)) rfl n (by omega) (bvs ((bs.drop k).take n)) rfl (Own.none_ _ _ _ _ _) Hcut2.out (bvs_one _) (by omega) (by omega) (by simp) ?_; intro A2 c2 w2 ho2 hg2 hr2)))
        have hb2 := below_app (((Below.refl w.heap.size w).alloc (Nat.le_refl _) (.cells #[] 5))) (Own.none_ _ _ 5 1 (some ⟨w.heap.size, 0, none⟩)) hg2 (by simp)
        go_ret3
        rw [hfin.out]
        simp only [Hl2.out]
        exact ⟨A2, c2, by simp [gotRes], ho2, hb2⟩
  · have hfin := Lib.hid (hdef.trans (by rw [if_pos hx]) : Vint.getBytes bs = ([], 0, x))
    have hx' : ((x : Int) == 0) = false := by rw [beq_eq_false_iff_ne]; omega
    clear hdef
    go_enter Try.func21, Try.ntmps21
    go_wp2_with (go_at_call 14; refine Hget.out.mono ?_; rintro e w1 ⟨rfl, rfl⟩; simp only [getRes])
    go_ret3
    rw [hfin.out]
    exact ⟨none, 0, rfl, Own.none_ _ _ _ _ _, Below.refl _ _⟩
end Go.Proofs.Ytajflhdaljnoaaa
