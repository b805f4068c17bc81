
/- Contract of scowref14.Put: a record's sectors. -/

import Derived.Test.YtpabbackiobefaaFrmScan

import Derived.Test.YtpabbackiobefaaCrcRef2

import Derived.Test.YtpabbackiobefaaVintRefN

namespace Go.Proofs.Ytpabbackiobefaa

open Go.RowKit

attribute [local go_sem] Oper.semAt_some

/-- What the document's Put gives. -/
def RPPost (w : World) (e : Nat) (at_ : Int) (c : List UInt8) (r : Ending) (w' : World) : Prop :=
  ∃ (L : List Sl) (A : Option Addr) (cp : Nat), r = .returned (.tuple #[.slice A L.length cp, .int .i64 (Frm.putE at_ c : Int)]) ∧ L.map Sl.bs = (if Frm.putE at_ c = 0 then Frm.secs e at_.toNat c else []) ∧ Own w' w.heap.size 23 1 A L.length cp (L.map Sl.val) ∧ (∀ s ∈ L, OwnS w.heap.size w' s) ∧ Below w.heap.size w w'
theorem RPPost.fail {w w' : World} {e : Nat} {at_ : Int} {c : List UInt8} (k : Nat) (hk : Frm.putE at_ c = k) (h0 : k ≠ 0) (hb : Below w.heap.size w w') : RPPost w e at_ c (.returned (.tuple #[.slice none 0 0, .int .i64 (k : Int)])) w' :=
  ⟨[], none, 0, by rw [hk]; rfl, by rw [hk, if_neg h0]; rfl, Own.none_ _ _ _ _ _, by simp, hb⟩

/-- The body with so many zeros behind it. -/
def zb (c : List UInt8) (k : Nat) : List UInt8 := Frm.body c ++ Frm.zeros k
theorem zb_snoc (c : List UInt8) (k : Nat) : zb c (k + 1) = zb c k ++ [0] := by
  unfold zb Frm.zeros
  rw [List.replicate_succ', List.append_assoc]
theorem zb_len (c : List UInt8) (k : Nat) : (zb c k).length = c.length + 8 + k := by
  unfold zb Frm.zeros; rw [List.length_append, Frm.body_len, List.length_replicate]
theorem zb_all (c : List UInt8) : zb c (52 * Frm.need c.length - (c.length + 8)) = Frm.padB c := rfl

set_option maxRecDepth 100000 in
set_option maxHeartbeats 4000000 in
theorem ref_put14 (e : Nat) (at_ : Int) (A : Option Addr) (c : List UInt8) (cc : Nat) (w : World) (he : e < 18446744073709551616) (hA : RdB w A c) (hl : c.length ≤ 900000) :
    Calls Try.prog 9 #[.int .u64 (e : Int), .int .i64 at_, .slice A c.length cc] w (RPPost w e at_ c) := by
  by_cases h1 : at_ < 1
  · have hp : Frm.putE at_ c = 2 := by unfold Frm.putE; rw [if_pos (.inl h1)]
    have HP := Lib.hid hp
    clear hp
    go_enter Try.func9, Try.ntmps9
    go_wp2
    go_ret2
    exact RPPost.fail 2 HP.out (by omega) (Below.refl _ _)
  by_cases h2 : 4096 < at_
  · have hp : Frm.putE at_ c = 2 := by unfold Frm.putE; rw [if_pos (.inr h2)]
    have HP := Lib.hid hp
    clear hp
    go_enter Try.func9, Try.ntmps9
    go_wp2
    go_ret2
    exact RPPost.fail 2 HP.out (by omega) (Below.refl _ _)
  by_cases h3 : 140000 < c.length
  · have hp : Frm.putE at_ c = 1 := by unfold Frm.putE; rw [if_neg (by omega), if_pos h3]
    have h3' : (140000 : Int) < (c.length : Int) := by omega
    have HP := Lib.hid hp
    clear hp
    go_enter Try.func9, Try.ntmps9
    go_wp2
    go_ret2
    exact RPPost.fail 1 HP.out (by omega) (Below.refl _ _)
  obtain ⟨a, rfl⟩ := Int.eq_ofNat_of_zero_le (show 0 ≤ at_ by omega)
  have hp : Frm.putE (a : Int) c = 0 := by unfold Frm.putE; rw [if_neg (by omega), if_neg h3]
  have HP := Lib.hid hp
  have h3' : decide ((140000 : Int) < (c.length : Int)) = false := by simp; omega
  have hl4 := Frm.fixed_len4 c.length
  have hwr : IntKind.u64.wrap (c.length : Int) = (c.length : Int) := wrap_u64 c.length (by omega)
  have hpl := Crc.put_len c
  have hbl := Frm.body_len c
  clear hp
  have q1 : ¬ ((a : Int) < 1) := h1
  have q2 : ¬ (4096 < (a : Int)) := h2
  have hc14 : c.length ≤ 140000 := by omega
  clear h1 h2 h3
  go_enter Try.func9, Try.ntmps9
  go_wp2_with fail
  have k1 := ref_fixed01 c.length (by omega) 4 w
  rw [hl4] at k1
  refine k1.mono ?_
  clear k1
  rintro r w1 ⟨A1, c1, rfl, ho1, hb1⟩
  go_wp2_with fail
  have k2 := ref_put A c cc w1 (hA.below hb1) (by omega)
  rw [hpl] at k2
  refine k2.mono ?_
  clear k2
  rintro r w2 ⟨A2, c2, rfl, ho2, hb2⟩
  have ho1' := ho1.below hb2
  have hr2 := ho2.rd
  have hB2 := hb1.trans (hb2.mono hb1.size)
  have hz : bvs (zb c 0) = bvs (Vint.fixed c.length 4) ++ bvs (Crc.put c) := by unfold zb Frm.zeros Frm.body; simp [bvs_app]
  have Hz := Lib.hid hz
  have hsz2 := hB2.size
  clear hz ho1 ho2 hb1 hb2 hbl hpl
  go_wp2_with (at_builtin; refine wpList_app rfl (.tmp 24) (.tmp 26) 23 rfl elemB w.heap.size A1 4 c1 _ rfl A2 (c.length + 4) c2 (bvs (Crc.put c)) rfl (c.length + 8) (by omega) (bvs (zb c 0)) Hz.out ho1' hr2 (bvs_one _) (by omega) (by omega) hsz2 ?_; intro A3 c3 w3 ho3 hg3 hr3; refine Hid.out ?_)
  have hB3 := below_app hB2 ho1' hg3 hsz2
  refine Lib.hid ?_
  have hK1 := Frm.need_ge c.length
  have hK2 := Frm.need_lt c.length
  have hpb := Frm.padB_len c
  obtain ⟨K, hK⟩ : ∃ K, K = Frm.need c.length := ⟨_, rfl⟩
  rw [← hK] at hK1 hK2 hpb
  have Hpb := Lib.hid hpb
  have HKz : Hid (∀ k, c.length + 8 + k = 52 * K → zb c k = Frm.padB c) := fun k hk => by rw [← zb_all, ← hK]; congr 1; omega
  have HK := Lib.hid hK
  clear hK hpb ho1' hr2 hB2 hg3 hr3 hsz2
  go_wp2_with fail
  go_loopw [8] (fun b wr => ∃ (k m : Nat) (A' : Option Addr) (c' : Nat), m = c.length + 8 + k ∧ m ≤ 52 * K ∧ b = .slice A' m c' ∧ Own wr w.heap.size 5 1 A' m c' (bvs (zb c k)) ∧ Below w.heap.size w wr) (fun b _ => 200000 - lenV b)
  case atStart => exact ⟨0, c.length + 8, A3, c3, by omega, by omega, rfl, ho3, hB3⟩
  case round =>
    obtain ⟨k, m, A', c', hm, hmK, rfl, hown, hbw⟩ := hrel
    have hm2 : m ≤ 140200 := by omega
    have Hm := Lib.hid hm
    have hsz := hbw.size
    clear ho3 hB3
    by_cases hmod : m % 52 = 0
    · have hmod' : ((m : Int) % 52 != 0) = false := by rw [bne_eq_false_iff_eq]; omega
      have hmK2 : m = 52 * K := by omega
      have hzk := HKz.out k (by omega)
      rw [hzk] at hown
      have hpr : RdB wr A' (Frm.padB c) := hown.rd'
      have HmK := Lib.hid hmK2
      have hmc := hown.nc
      obtain ⟨ad, hA', hk0⟩ := hpr.at_ (k := 0) (by rw [Hpb.out]; omega)
      clear hk0
      subst hA'
      clear hm hmK2 hown hzk
      obtain ⟨B, hB⟩ : ∃ B, B = wr.heap.size := ⟨_, rfl⟩
      have hBw : w.heap.size ≤ B := by rw [hB]; exact hbw.size
      have HB := Lib.hid hB
      clear hB
      go_wp2_with fail
      go_loopw [9, 10, 11] (fun o i _ wq => ∃ (j n : Nat) (L : List Sl) (A6 : Option Addr) (c6 : Nat), j ≤ K ∧ n = 52 * j ∧ i = .int .i64 (n : Int) ∧ o = .slice A6 L.length c6 ∧ L.length = j ∧ L.map Sl.bs = (List.range j).map (Frm.sec e a c) ∧ Own wq B 23 1 A6 L.length c6 (L.map Sl.val) ∧ (∀ s ∈ L, OwnS w.heap.size wq s) ∧ Ext wr wq) (fun _ i _ _ => 200000 - (intOf i).toNat)
      case atStart => exact ⟨0, 0, [], none, 0, by omega, rfl, rfl, rfl, rfl, rfl, Own.none_ _ _ _ _ _, by simp, Ext.refl _⟩
      case round =>
        obtain ⟨j, n, L, A6, c6, hj, hn, rfl, rfl, hLj, hLs, hLo, hLi, hE⟩ := hrel
        have hbq := hbw.trans (hE.mono hbw.size)
        by_cases hjK : j < K
        · have hnm : n + 52 ≤ m := by have := HmK.out; omega
          have hl8 := Frm.fixed_len8 e
          have hl4a := Frm.fixed_len4 (a + j)
          have hj3 : j ≤ 3000 := by omega
          have hwa : IntKind.u64.wrap ((a : Int) + (j : Int)) = ((a + j : Nat) : Int) := by rw [← Int.natCast_add]; exact wrap_u64 (a + j) (by omega)
          have hpc : RdB wr (some (ad.add n)) ((Frm.padB c).drop (52 * j) |>.take 52) := by
            have h1 := (hpr.below hE).cut (k := n) (m := n + 52) (by omega) (by rw [Hpb.out]; omega) (c := c') (by omega)
            rw [if_neg (by omega)] at h1
            have e1 : ((Frm.padB c).take (n + 52)).drop n = ((Frm.padB c).drop (52 * j)).take 52 := by rw [List.drop_take, hn, show 52 * j + 52 - 52 * j = 52 by omega]
            rw [e1] at h1
            exact h1
          obtain ⟨pc, hpcd⟩ : ∃ pc, pc = ((Frm.padB c).drop (52 * j)).take 52 := ⟨_, rfl⟩
          rw [← hpcd] at hpc
          have hpcl : pc.length = 52 := by rw [hpcd, List.length_take, List.length_drop, Hpb.out]; omega
          have hsec : Frm.sec e a c j = Frm.stamp e (a + j) ++ pc := by unfold Frm.sec; rw [hpcd]
          have Hsec := Lib.hid hsec
          have Hn := Lib.hid hn
          have HLs := Lib.hid hLs
          have HLi := Lib.hid hLi
          have Hpc := Lib.hid (rdb_len hpc hpcl.symm)
          have HE := Lib.hid hE
          have hnm2 : (n : Int) < (m : Int) := by omega
          have hnc : (n : Int) + 52 ≤ (c' : Int) := by omega
          have hnn : (n : Int) ≤ (n : Int) + 52 := by omega
          have hne : ¬ c' = n := by omega
          subst hLj
          have HjK := Lib.hid hjK
          clear hn hsec hpcd hpc hpcl hLs hLi hE hjK hpr
          go_wp2_with fail
          have k1 := ref_fixed01 e he 8 wr
          rw [hl8] at k1
          refine k1.mono ?_
          clear k1
          rintro r w4 ⟨A4, c4, rfl, ho4, hb4⟩
          go_wp2_with fail
          have k2 := ref_fixed01 (a + L.length) (by omega) 4 w4
          rw [hl4a] at k2
          refine k2.mono ?_
          clear k2
          rintro r w5 ⟨A5, c5, rfl, ho5, hb5⟩
          have ho4' := ho4.below hb5
          have hr5 := ho5.rd
          have hE5 := Ext.tr hb4 hb5
          have Hst : Hid (bvs (Frm.stamp e (a + L.length)) = bvs (Vint.fixed e 8) ++ bvs (Vint.fixed (a + L.length) 4)) := by show _ = _; rw [← bvs_app]; rfl
          have hs5 := hE5.size
          clear ho4 ho5 hb4 hb5
          go_wp2_with (at_builtin; refine wpList_app rfl (.tmp 42) (.tmp 48) 23 rfl elemB wr.heap.size A4 8 c4 _ rfl A5 4 c5 (bvs (Vint.fixed (a + L.length) 4)) rfl 12 rfl (bvs (Frm.stamp e (a + L.length))) Hst.out ho4' hr5 (bvs_one _) (by omega) (by omega) hs5 ?_; intro A7 c7 w7 ho7 hg7 hr7; refine Hid.out ?_)
          have hE7 : Ext wr w7 := below_app hE5 ho4' hg7 hs5
          have hr8 : Rd w7 1 (some (ad.add n)) (n + 52 - n) (bvs pc) := by rw [show n + 52 - n = 52 by omega]; exact Hpc.out.below hE7
          have Hs8 : Hid (bvs (Frm.sec e a c L.length) = bvs (Frm.stamp e (a + L.length)) ++ bvs pc) := by show _ = _; rw [Hsec.out, bvs_app]
          have hs7 := hE7.size
          refine Lib.hid ?_
          clear ho4' hg7 hr7 hr5 hE5 hs5
          go_wp2_with (at_builtin; go_loud (refine wpList_app rfl (.tmp 51) (.tmp 56) 23 rfl elemB wr.heap.size A7 12 c7 _ rfl (some (ad.add n)) (n + 52 - n) (c' - n) (bvs pc) rfl 64 (by omega) (bvs (Frm.sec e a c L.length)) Hs8.out ho7 hr8 (bvs_one _) (by omega) (by omega) hs7 ?_); intro A8 c8 w8 ho8 hg8 hr8; refine Hid.out ?_)
          have hE8 : Ext wr w8 := below_app hE7 ho7 hg8 hs7
          refine Lib.hid ?_
          obtain ⟨s, hs⟩ : ∃ s : Sl, s = ⟨A8, Frm.sec e a c L.length, c8⟩ := ⟨_, rfl⟩
          have hsl := Frm.sec_len e a c L.length (by have := HjK.out; rw [← HK.out]; omega)
          have hsv : s.val = .slice A8 64 c8 := by rw [hs, Sl.val, hsl]
          have hso : OwnS w.heap.size w8 s := by rw [hs]; unfold OwnS; rw [hsl]; exact ho8.mono hbq.size
          have hsb : s.bs = Frm.sec e a c L.length := by rw [hs]
          have hE9 := Ext.tr hE8 (Ext.alloc w8 (.cells #[.slice A8 64 c8] 23))
          have hown9 := hLo.below hE9
          have hbw9 := hbq.trans (hE9.mono hbq.size)
          have hrd9 : Rd (w8.alloc (.cells #[.slice A8 64 c8] 23)) 1 (some ⟨w8.heap.size, 0, none⟩) 1 [s.val] := by rw [hsv]; exact Rd.new w8 23 [.slice A8 64 c8]
          have Hmv : Hid ((L ++ [s]).map Sl.val = L.map Sl.val ++ [s.val]) := by show _ = _; simp
          have Hone : Hid (∀ u ∈ [s.val], u.oneCell' = true) := fun u hu => by rw [List.mem_singleton.1 hu, hsv]; rfl
          have Hins2 : Hid (∀ t ∈ L ++ [s], OwnS w.heap.size (w8.alloc (.cells #[.slice A8 64 c8] 23)) t) := fun t ht => by
            rcases List.mem_append.1 ht with h | h
            · exact (HLi.out t h).below hE9
            · rw [List.mem_singleton] at h; subst h; exact Own.below hso (Ext.alloc w8 _)
          have HLs2 : Hid ((L ++ [s]).map Sl.bs = (List.range (L.length + 1)).map (Frm.sec e a c)) := by show _ = _; rw [List.map_append, HLs.out, List.range_succ, List.map_append]; simp [hsb]
          have Htyp := Lib.hid (own_typ hown9)
          have Hrow := Lib.hid hown9.row_lt
          have hs9 : B ≤ (w8.alloc (.cells #[.slice A8 64 c8] 23)).heap.size := by rw [HB.out]; exact (Ext.tr HE.out hE9).size
          have HE9 := Lib.hid (Ext.tr HE.out hE9)
          have Hbw9 := Lib.hid hbw9
          clear hs hsl hsv hso hsb hLo hbq hE7 hE8 hE9 ho7 ho8 hg8 hr8 hbw9
          go_wp2_with (at_builtin; refine wpList_app rfl (.tmp 50) (.tmp 58) 25 rfl elemSl B A6 L.length c6 (L.map Sl.val) rfl _ 1 1 [s.val] rfl (L.length + 1) rfl ((L ++ [s]).map Sl.val) Hmv.out hown9 hrd9 Hone.out (by omega) (by omega) hs9 ?_; intro A10 c10 w10 ho10 hg10 hr10)
          go_roundw
          case rel => exact ⟨L.length + 1, n + 52, L ++ [s], A10, c10, by have := HjK.out; omega, by have := Hn.out; omega, by go_num, by simp, by simp, HLs2.out, by simpa using ho10, fun t ht => OwnS.kept (Hins2.out t ht) hg10 (fun r hr9 => .inr (fun cur fr h9 => by
            obtain ⟨cur', h'⟩ := Htyp.out r hr9
            rw [h'] at h9
            injection h9 with h9
            injection h9 with _ h9 _
            exact absurd h9 (by decide))), HE9.out.grown hg10 HE9.out.size (fun k9 e9 => by rw [← HB.out]; exact (Hrow.out k9 e9).1)⟩
          case measure => simp [intOf]; omega
        · have hfin : RPPost w e (a : Int) c (.returned (.tuple #[.slice A6 L.length c6, .int .i64 0])) wr := by
            refine ⟨L, A6, c6, by rw [HP.out]; rfl, ?_, hLo.mono hBw, hLi, hbq⟩
            rw [HP.out, if_pos rfl, hLs, show j = Frm.need c.length by rw [← HK.out]; omega]
            rfl
          have hnm : ¬ ((n : Int) < (m : Int)) := by have := HmK.out; omega
          have Hfin := Lib.hid hfin
          clear hfin hn hLj hLs hLo hLi hE hpr
          go_wp2
          go_ret2
          exact Hfin.out
    · have hmod' : ((m : Int) % 52 != 0) = true := by rw [bne_iff_ne]; omega
      have hown2 := hown.below (Ext.alloc wr (.cells #[.int .u8 0] 5))
      have hbw2 := hbw.trans ((Ext.alloc wr (.cells #[.int .u8 0] 5)).mono hbw.size)
      have hz0 : Rd (wr.alloc (.cells #[.int .u8 0] 5)) 1 (some ⟨wr.heap.size, 0, none⟩) 1 (bvs [0]) := Rd.new wr 5 [.int .u8 0]
      have Hzs : Hid (bvs (zb c (k + 1)) = bvs (zb c k) ++ bvs [0]) := by show _ = _; rw [zb_snoc, bvs_app]
      have hsz2 := hbw2.size
      clear hm hown hbw
      go_wp2_with (at_builtin; refine wpList_app rfl (.tmp 32) (.tmp 33) 23 rfl elemB w.heap.size A' m c' (bvs (zb c k)) rfl _ 1 1 (bvs [0]) rfl (m + 1) rfl (bvs (zb c (k + 1))) Hzs.out hown2 hz0 (bvs_one _) (by omega) (by omega) hsz2 ?_; intro A6 c6 w6 ho6 hg6 hr6)
      go_roundw
      case rel => exact ⟨k + 1, m + 1, A6, c6, by have := Hm.out; omega, by omega, rfl, ho6, below_app hbw2 hown2 hg6 hsz2⟩
      case measure => simp [lenV]; omega
end Go.Proofs.Ytpabbackiobefaa
