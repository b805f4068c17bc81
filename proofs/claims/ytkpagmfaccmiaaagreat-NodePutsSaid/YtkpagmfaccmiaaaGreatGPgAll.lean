
/- Texts laid together by wip/tools/lay2.py: CrcMath Page CrcRef CrcRef2 PageRef CrcProg CrcProg2 CrcProg3 PageProg PageOpen PageOpen2 PageOpenR CrcErr PageAny. -/

import Derived.Test.YtkpagmfaccmiaaaGreatVintNum

import Derived.Test.YtkpagmfaccmiaaaGreatReg2

import Derived.Test.YtkpagmfaccmiaaaGreatEqual

import Derived.Test.YtkpagmfaccmiaaaGreatProg

import Derived.Test.YtkpagmfaccmiaaaGreatNum

import Derived.Test.YtkpagmfaccmiaaaGreatMem2

import Derived.Test.YtkpagmfaccmiaaaGreatVintRefN

import Derived.Test.YtkpagmfaccmiaaaGreatSl

import Derived.Test.YtkpagmfaccmiaaaGreatSlices

import Derived.Laws.ResultCell

import Derived.Test.YtkpagmfaccmiaaaGreatLaw

import Derived.Lib.SmallJoins

set_option linter.unusedVariables false

/- CRC-32C as plain numbers: a bit, four bits, a byte; that four single bits are one look into the table. -/

namespace Go.Proofs.YtkpagmfaccmiaaaGreat.Crc

def bit (c : Nat) : Nat := (c / 2) ^^^ (2197175160 * (c % 2))
def tab (i : Nat) : Nat := bit (bit (bit (bit i)))
def nib (c : Nat) : Nat := (c / 16) ^^^ tab (c % 16)
def byte (c b : Nat) : Nat := nib (nib (c ^^^ b))
def over (c : Nat) (l : List UInt8) : Nat := l.foldl (fun c b => byte c b.toNat) c
def flip (c : Nat) : Nat := 4294967295 - c
def more (c : Nat) (l : List UInt8) : Nat := flip (over (flip c) l)
def sum (l : List UInt8) : Nat := more 0 l

theorem mod_two (a : Nat) : a % 2 = 0 ∨ a % 2 = 1 := by omega
theorem xor_mod (a b : Nat) : (a ^^^ b) % 2 = (a % 2) ^^^ (b % 2) := Nat.xor_mod_two_pow (n := 1)
theorem xor_div (a b : Nat) : (a ^^^ b) / 2 = (a / 2) ^^^ (b / 2) := by
  have h : ∀ x : Nat, x / 2 = x >>> 1 := fun x => by rw [Nat.shiftRight_eq_div_pow]
  rw [h, h, h]; exact Nat.shiftRight_xor_distrib
theorem xor_div16 (a b : Nat) : (a ^^^ b) / 16 = (a / 16) ^^^ (b / 16) := by
  have h : ∀ x : Nat, x / 16 = x >>> 4 := fun x => by rw [Nat.shiftRight_eq_div_pow]
  rw [h, h, h]; exact Nat.shiftRight_xor_distrib
theorem xor_mod16 (a b : Nat) : (a ^^^ b) % 16 = (a % 16) ^^^ (b % 16) := Nat.xor_mod_two_pow (n := 4)
theorem mul_bit (a b : Nat) : 2197175160 * ((a % 2) ^^^ (b % 2)) = (2197175160 * (a % 2)) ^^^ (2197175160 * (b % 2)) := by
  rcases mod_two a with h | h <;> rcases mod_two b with h' | h' <;> rw [h, h'] <;> decide
theorem xor4 (a b c d : Nat) : (a ^^^ b) ^^^ (c ^^^ d) = (a ^^^ c) ^^^ (b ^^^ d) := by
  rw [Nat.xor_assoc, Nat.xor_assoc, ← Nat.xor_assoc b c d, Nat.xor_comm b c, Nat.xor_assoc c b d]
theorem bit_xor (a b : Nat) : bit (a ^^^ b) = bit a ^^^ bit b := by
  unfold bit
  rw [xor_div, xor_mod, mul_bit, xor4]
theorem bit_even (x : Nat) : bit (2 * x) = x := by
  unfold bit
  rw [show 2 * x / 2 = x by omega, show 2 * x % 2 = 0 by omega]
  simp
theorem split16 (c : Nat) : c = (16 * (c / 16)) ^^^ (c % 16) := by
  have h := Nat.div_add_mod c 16
  have hx : (16 * (c / 16)) ^^^ (c % 16) = 16 * (c / 16) + c % 16 := by
    have := Nat.two_pow_add_eq_or_of_lt (i := 4) (b := c % 16) (by omega) (c / 16)
    have e2 : (16 * (c / 16)) &&& (c % 16) = 0 := by
      apply Nat.eq_of_testBit_eq
      intro i
      rw [Nat.testBit_and, Nat.zero_testBit]
      by_cases hi : i < 4
      · rw [show 16 * (c / 16) = 2 ^ 4 * (c / 16) from rfl, Nat.testBit_two_pow_mul]
        simp; omega
      · rw [Nat.testBit_lt_two_pow (x := c % 16) (by
          have : 2 ^ 4 ≤ 2 ^ i := Nat.pow_le_pow_right (by omega) (by omega)
          omega)]
        simp
    apply Nat.eq_of_testBit_eq
    intro i
    have h3 := congrArg (fun x => x.testBit i) e2
    simp only [Nat.testBit_and, Nat.zero_testBit] at h3
    rw [show 16 * (c / 16) + c % 16 = 16 * (c / 16) ||| c % 16 from this, Nat.testBit_xor, Nat.testBit_or]
    cases h4 : (16 * (c / 16)).testBit i <;> cases h5 : (c % 16).testBit i <;> simp_all
  rw [hx]; omega
theorem four_bits (c : Nat) : bit (bit (bit (bit c))) = nib c := by
  conv => lhs; rw [split16 c]
  rw [bit_xor, bit_xor, bit_xor, bit_xor]
  rw [show 16 * (c / 16) = 2 * (2 * (2 * (2 * (c / 16)))) by omega, bit_even, bit_even, bit_even, bit_even]
  rfl
theorem bit_lt {c : Nat} (h : c < 4294967296) : bit c < 4294967296 := by
  unfold bit
  refine Nat.xor_lt_two_pow (n := 32) (by omega) ?_
  rcases mod_two c with h' | h' <;> rw [h'] <;> decide
theorem tab_lt {i : Nat} (h : i < 4294967296) : tab i < 4294967296 := bit_lt (bit_lt (bit_lt (bit_lt h)))
theorem nib_lt {c : Nat} (h : c < 4294967296) : nib c < 4294967296 := by rw [← four_bits]; exact tab_lt h
theorem xor_lt {a b : Nat} (ha : a < 4294967296) (hb : b < 4294967296) : a ^^^ b < 4294967296 := Nat.xor_lt_two_pow (n := 32) ha hb
theorem byte_lt {c b : Nat} (h : c < 4294967296) (hb : b < 256) : byte c b < 4294967296 := nib_lt (nib_lt (xor_lt h (by omega)))
theorem over_lt {c : Nat} (h : c < 4294967296) (l : List UInt8) : over c l < 4294967296 := by
  induction l generalizing c with
  | nil => exact h
  | cons x xs ih => exact ih (byte_lt h x.toNat_lt)
theorem flip_lt (c : Nat) : flip c < 4294967296 := by unfold flip; omega
theorem flip_flip {c : Nat} (h : c < 4294967296) : flip (flip c) = c := by unfold flip; omega
theorem more_lt (c : Nat) (l : List UInt8) : more c l < 4294967296 := flip_lt _
theorem sum_lt (l : List UInt8) : sum l < 4294967296 := flip_lt _
theorem over_app (c : Nat) (l m : List UInt8) : over c (l ++ m) = over (over c l) m := by simp [over]
theorem over_snoc (c : Nat) (l : List UInt8) (k : Nat) (h : k < l.length) : over c (l.take (k + 1)) = byte (over c (l.take k)) l[k].toNat := by
  rw [List.take_succ_eq_append_getElem h, over_app]; rfl
theorem more_app (c : Nat) (l m : List UInt8) : more (more c l) m = more c (l ++ m) := by
  unfold more
  rw [flip_flip (over_lt (flip_lt _) _), ← over_app]

/-- The sum's four bytes, the highest first. -/
def four (n : Nat) : List UInt8 := [UInt8.ofNat (n / 16777216), UInt8.ofNat (n / 65536), UInt8.ofNat (n / 256), UInt8.ofNat n]
def put (l : List UInt8) : List UInt8 := l ++ four (sum l)
def ok (b : List UInt8) : Bool := decide (4 ≤ b.length) && (put (b.take (b.length - 4)) == b)
def got (b : List UInt8) : List UInt8 := if ok b then b.take (b.length - 4) else []
theorem got_len_le (b : List UInt8) : (got b).length ≤ b.length := by
  unfold got
  split
  · simp
  · simp
theorem ok_of {b p : List UInt8} (h : 4 ≤ b.length) (hp : p = b.take (b.length - 4)) : ok b = (put p == b) := by
  unfold ok; rw [hp]; simp [h]
theorem got_yes {b p : List UInt8} (hp : p = b.take (b.length - 4)) (h : ok b = true) : got b = p := by unfold got; rw [h, hp]; rfl
theorem got_no {b : List UInt8} (h : ok b = false) : got b = [] := by unfold got; rw [h]; rfl
theorem four_len (n : Nat) : (four n).length = 4 := rfl
theorem put_len (l : List UInt8) : (put l).length = l.length + 4 := by simp [put, four_len]
end Go.Proofs.YtkpagmfaccmiaaaGreat.Crc

/- Contracts of sealed pages: kinds, whether two pages are the same (page, scowref05). -/

namespace Go.Proofs.YtkpagmfaccmiaaaGreat

open Go.RowKit

attribute [local go_sem] Oper.semAt_some

/-- A page as it lies in cells. -/
structure Pg where
  kind : Int
  lsn : Nat
  a : Option Addr
  body : List UInt8
  c : Nat
def Pg.val (p : Pg) : Value := .agg #[.int .i64 p.kind, .int .u64 (p.lsn : Int), .slice p.a p.body.length p.c]
def isKind (k : Int) : Bool := decide (1 ≤ k) && decide (k ≤ 5)

theorem kind_any (k : Int) (w : World) : Calls Tryz.prog 37 #[.int .i64 k] w fun e w' => e = .returned (.bool (isKind k)) ∧ w = w' := by
  unfold isKind
  cases h : decide (1 ≤ k) <;> (
    go_enter Tryz.func37, Tryz.ntmps37
    go_wp2
    go_ret
    exact ⟨by simp, rfl⟩)
theorem ref_kind (k : Int) (w : World) : Calls Tryz.prog 48 #[.int .i64 k] w fun e w' => e = .returned (.bool (isKind k)) ∧ w = w' := by
  unfold isKind
  cases h : decide (1 ≤ k) <;> (
    go_enter Tryz.func48, Tryz.ntmps48
    go_wp2
    go_ret
    exact ⟨by simp, rfl⟩)
/-- Whether two pages are the same. -/
def Pg.same (p q : Pg) : Bool := (p.kind == q.kind) && ((p.lsn : Int) == (q.lsn : Int)) && (p.body == q.body)

end Go.Proofs.YtkpagmfaccmiaaaGreat

/- Contracts of the reference's functions for sums (scowref02). -/

namespace Go.Proofs.YtkpagmfaccmiaaaGreat

open Go.RowKit

set_option maxHeartbeats 400000 in
theorem ref_step (c b : Nat) (w : World) (hc : c < 4294967296) (hb : b < 256) :
    Calls Tryz.prog 101 #[.int .u32 (c : Int), .int .u8 (b : Int)] w fun e w' => e = .returned (.int .u32 (Crc.byte c b : Nat)) ∧ w = w' := by
  have h0 := x32 c b hc (by omega)
  have hx : c ^^^ b < 4294967296 := Crc.xor_lt hc (by omega)
  have hfin : Hid (∃ f : Nat → Nat, f 0 = c ^^^ b ∧ (∀ k, f (k + 1) = Crc.bit (f k)) ∧ (∀ k, f k < 4294967296) ∧ f 8 = Crc.byte c b) := by
    refine ⟨fun k => Nat.rec (c ^^^ b) (fun _ x => Crc.bit x) k, rfl, fun k => rfl, fun k => ?_, ?_⟩
    · induction k with
      | zero => exact hx
      | succ k ih => exact Crc.bit_lt ih
    · unfold Crc.byte
      rw [← Crc.four_bits, ← Crc.four_bits]
      rfl
  obtain ⟨f, f0, fs, fl, f8⟩ := hfin.out
  clear hfin
  rw [← f0] at h0
  rw [← f8]
  have Fs := Lib.hid fs
  clear fs hx f0 f8
  go_enter Tryz.func101, Tryz.ntmps101
  go_wp2
  go_loop [0, 5] (fun a i => ∃ k : Nat, k ≤ 8 ∧ i = .int .i64 k ∧ a = .int .u32 (f k : Nat)) (fun _ i => 8 - (intOf i).toNat)
  case atStart => exact ⟨0, by omega, rfl, rfl⟩
  case round =>
    obtain ⟨k, hk, rfl, rfl⟩ := hrel
    by_cases h : k < 8
    · have hf := fl k
      have h1 := a32_1 (f k) hf
      have hq : f k / 2 < 4294967296 := by omega
      have h2 := x32 (f k / 2) 2197175160 hq (by omega)
      have H2 := Lib.hid h2
      clear h2 fl
      rcases Crc.mod_two (f k) with hm | hm <;> rw [hm] at h1
      · have hb1 : (bits .and .u32 (f k : Int) 1 == 1) = false := by rw [h1]; decide
        have HM := Lib.hid hm
        clear h1 hm
        go_wp2
        all_goals go_round
        case rel => exact ⟨k + 1, by omega, by go_num, val_int (by rw [Fs.out k, Crc.bit, HM.out]; simp)⟩
        case measure => simp [intOf]; omega
      · have hb1 : (bits .and .u32 (f k : Int) 1 == 1) = true := by rw [h1]; decide
        have HM := Lib.hid hm
        clear h1 hm
        go_wp2
        all_goals go_round
        case rel => exact ⟨k + 1, by omega, by go_num, val_int (by rw [Fs.out k, Crc.bit, HM.out]; exact H2.out)⟩
        case measure => simp [intOf]; omega
    · obtain rfl : k = 8 := by omega
      go_wp2
      go_ret
      exact ⟨rfl, rfl⟩

set_option maxHeartbeats 400000 in
theorem ref_more (c : Nat) (A : Option Addr) (bs : List UInt8) (cap : Nat) (w : World) (hc : c < 4294967296) (hA : RdB w A bs) (hl : bs.length ≤ 140737488355328) :
    Calls Tryz.prog 93 #[.int .u32 (c : Int), .slice A bs.length cap] w fun e w' => e = .returned (.int .u32 (Crc.more c bs : Nat)) ∧ w = w' := by
  have h0 : bits .xor .u32 IntKind.u32.max (c : Int) = ((Crc.flip c : Nat) : Int) := not32 c hc
  have hx := Crc.flip_lt c
  unfold Crc.more
  generalize hd : Crc.flip c = d at *
  clear hd
  have Hx := Lib.hid hx
  have Hend : Hid (bits .xor .u32 IntKind.u32.max ((Crc.over d bs : Nat) : Int) = ((Crc.flip (Crc.over d bs) : Nat) : Int)) := not32 (Crc.over d bs) (Crc.over_lt hx bs)
  clear hx
  go_enter Tryz.func93, Tryz.ntmps93
  go_wp2
  go_loop [0, 5] (fun a i => ∃ k : Nat, k ≤ bs.length ∧ i = .int .i64 k ∧ a = .int .u32 (Crc.over d (bs.take k) : Nat)) (fun _ i => bs.length - (intOf i).toNat)
  case atStart => exact ⟨0, by omega, rfl, rfl⟩
  case round =>
    obtain ⟨k, hk, rfl, rfl⟩ := hrel
    by_cases h : k < bs.length
    · obtain ⟨ad, rfl, hcell⟩ := hA.at_ h
      have hov := Crc.over_lt Hx.out (bs.take k)
      have hs := Lib.hid (Crc.over_snoc d bs k h)
      go_wp2_with (go_at_call 101; refine (ref_step _ _ _ hov bs[k].toNat_lt).mono ?_; rintro e w' ⟨rfl, rfl⟩)
      all_goals go_round
      case rel => exact ⟨k + 1, by omega, by go_num, val_int (by rw [hs.out])⟩
      case measure => simp [intOf]; omega
    · obtain rfl : k = bs.length := by omega
      rw [List.take_length]
      have hend := Hend.out
      go_wp2
      go_ret
      exact ⟨rfl, rfl⟩

theorem ref_sum (A : Option Addr) (bs : List UInt8) (cap : Nat) (w : World) (hA : RdB w A bs) (hl : bs.length ≤ 140737488355328) :
    Calls Tryz.prog 77 #[.slice A bs.length cap] w fun e w' => e = .returned (.int .u32 (Crc.sum bs : Nat)) ∧ w = w' := by
  have H := Lib.hid (ref_more 0 A bs cap w (by omega) hA hl)
  go_enter Tryz.func77, Tryz.ntmps77
  go_wp2_with (go_at_call 93; refine H.out.mono ?_; rintro e w' ⟨rfl, rfl⟩)
  go_ret
  exact ⟨rfl, rfl⟩
end Go.Proofs.YtkpagmfaccmiaaaGreat

/- Contracts of the reference's functions for sums (scowref02): what is put, and checked. -/

namespace Go.Proofs.YtkpagmfaccmiaaaGreat

open Go.RowKit



theorem four_cells (n : Nat) (h : n < 4294967296) : bvs (Crc.four n) = [Value.int .u8 ((n : Int) / 16777216), .int .u8 ((n : Int) / 65536 % 256), .int .u8 ((n : Int) / 256 % 256), .int .u8 ((n : Int) % 256)] := by
  have h1 := byte_top n 16777216 (by omega)
  have h2 := byte_div n 65536
  have h3 := byte_div n 256
  have h4 := byte0 n
  simp only [Crc.four, bvs, List.map_cons, List.map_nil, bv, ← h1, ← h2, ← h3, ← h4]
  rfl

set_option maxHeartbeats 400000 in
theorem ref_put (A : Option Addr) (bs : List UInt8) (cap : Nat) (w : World) (hA : RdB w A bs) (hl : bs.length ≤ 1000000) :
    Calls Tryz.prog 50 #[.slice A bs.length cap] w fun e w' => ∃ A' c', e = .returned (.slice A' (Crc.put bs).length c') ∧ Own w' w.heap.size 5 1 A' (Crc.put bs).length c' (bvs (Crc.put bs)) ∧ Below w.heap.size w w' := by
  have H := Lib.hid (ref_sum A bs cap w hA (by omega))
  have hs := Crc.sum_lt bs
  have hA1 := hA.below (((Below.refl w.heap.size w).alloc (Nat.le_refl _) (.cells #[] 5)))
  go_enter Tryz.func50, Tryz.ntmps50
  go_wp2_with (first
    | (go_at_call 77; refine H.out.mono ?_; rintro e w' ⟨rfl, rfl⟩)
    | (at_builtin; refine wpList_app rfl (.tmp 6) (.tmp 7) 25 rfl elemB w.heap.size _ 0 0 [] rfl A bs.length cap (bvs bs) rfl bs.length (by omega) (bvs bs) rfl (Own.none_ _ _ _ _ _) hA1 (bvs_one _) (by omega) (by omega) (by simp) ?_; intro A1 c1 w1 ho1 hg1 hr1)
    | (at_builtin; refine wpList_app rfl (.tmp 8) (.tmp 20) 25 rfl elemB w.heap.size A1 bs.length c1 (bvs bs) rfl (some ⟨w1.heap.size, 0, none⟩) 4 4 _ rfl (Crc.put bs).length (Crc.put_len bs) (bvs (Crc.put bs)) ?hz (ho1.below ((Below.refl _ _).alloc (Nat.le_refl _) _)) (Rd.new w1 _ _) ?h1 ?hb (by rw [Crc.put_len]; omega) ?hB ?_))
  case hz => simp only [Crc.put, bvs_app, four_cells _ hs]
  case h1 => intro u hu; simp only [List.mem_cons, List.not_mem_nil, or_false] at hu; rcases hu with rfl | rfl | rfl | rfl <;> rfl
  case hb => simp only [Nat.mul_one]; rw [Crc.put_len]; omega
  case hB => have := hg1.size; simp at this ⊢; omega
  intro A2 c2 w2 ho2 hg2 hr2
  go_wp2
  go_ret
  have hb1 := below_app (((Below.refl w.heap.size w).alloc (Nat.le_refl _) (.cells #[] 5))) (Own.none_ _ _ 5 1 (some ⟨w.heap.size, 0, none⟩)) hg1 (by simp)
  exact ⟨A2, c2, rfl, ho2, below_app (hb1.alloc hb1.size _) (ho1.below ((Below.refl _ _).alloc (Nat.le_refl _) _)) hg2 (by have := hb1.size; simp; omega)⟩

end Go.Proofs.YtkpagmfaccmiaaaGreat

/- Contract of the reference's sealing (scowref05.Seal). Written by wip/tools/gen_page05.py. -/

namespace Go.Proofs.YtkpagmfaccmiaaaGreat

open Go.RowKit

attribute [local go_sem] Oper.semAt_some

/-- A page's bytes, and the error. -/
def Pg.flat (p : Pg) : List UInt8 := UInt8.ofNat p.kind.toNat :: Vint.fixed p.lsn 8 ++ p.body
def Pg.good (p : Pg) : Bool := isKind p.kind && (p.body.length == 243)
def Pg.seal_ (p : Pg) : List UInt8 × Nat := if p.good then (Crc.put p.flat, 0) else ([], 50)
theorem fixed8_len (l : Nat) : (Vint.fixed l 8).length = 8 := by
  have : Vint.fixed l 8 = Vint.fixL l 8 := by unfold Vint.fixed; rw [if_pos (by omega)]; rfl
  rw [this, Vint.fixL_len]
theorem Own.rd8 {w : World} {B e : Nat} {A : Option Addr} {c n : Nat} {d : List UInt8} (h : Own w B e 1 A n c (bvs d)) (_hd : d.length = n) : RdB w A d := h.rd'
theorem RdB.rd8 {w : World} {A : Option Addr} {n : Nat} {d : List UInt8} (h : RdB w A d) (hd : d.length = n) : Rd w 1 A n (bvs d) := hd ▸ h

set_option maxRecDepth 100000 in
set_option maxHeartbeats 2000000 in
theorem ref_seal_good (A : Option Addr) (k : Int) (l : Nat) (d : List UInt8) (c : Nat) (w : World) (hl : l < 18446744073709551616) (hA : RdB w A d) (hk : isKind k = true) (hd : d.length = 243) :
    Calls Tryz.prog 18 #[.agg #[.int .i64 k, .int .u64 (l : Int), .slice A d.length c]] w fun e w' => ∃ A' c', e = .returned (.tuple #[.slice A' 256 c', .int .i64 0]) ∧ Own w' w.heap.size 5 1 A' 256 c' (bvs (Crc.put (UInt8.ofNat k.toNat :: Vint.fixed l 8 ++ d))) ∧ Below w.heap.size w w' := by
  have hkr : 1 ≤ k ∧ k ≤ 5 := by unfold isKind at hk; simpa using hk
  have hf8 := fixed8_len l
  obtain ⟨W1, hW1⟩ : ∃ W1, W1 = w.alloc (.cells #[.int .i64 k, .int .u64 (l : Int), .slice A 243 c] 50) := ⟨_, rfl⟩
  have hk0 : W1.cell? ⟨w.heap.size, 0, none⟩ = some (.int .i64 k) := by rw [hW1]; exact cell_of_row _ _ 0 _ _ _ (heap_alloc_new w _)
  have hl0 : W1.cell? ⟨w.heap.size, 1, none⟩ = some (.int .u64 (l : Int)) := by rw [hW1]; exact cell_of_row _ _ 1 _ _ _ (heap_alloc_new w _)
  have hB1 : Below w.heap.size w W1 := by rw [hW1]; exact Ext.alloc w _
  have hs0 : W1.cell? ⟨w.heap.size, 2, none⟩ = some (.slice A 243 c) := by rw [hW1]; exact cell_of_row _ _ 2 _ _ _ (heap_alloc_new w _)
  have hz : bvs (UInt8.ofNat k.toNat :: Vint.fixed l 8) = [.int .u8 k] ++ bvs (Vint.fixed l 8) := by
    simp only [bvs, List.map_cons, List.singleton_append, List.cons.injEq, and_true]
    simp only [bv, UInt8.toNat_ofNat', Value.int.injEq, true_and]
    omega
  have hwk : IntKind.u8.wrap k = k := by simp [IntKind.wrap, IntKind.bits, IntKind.signed]; omega
  have hnew : ∀ W : World, Rd (W.alloc (.cells #[.int .u8 k] 5)) 1 (some ⟨W.heap.size, 0, none⟩) 1 [.int .u8 k] := fun W => Rd.new W 5 [.int .u8 k]
  obtain ⟨D, hD0⟩ : ∃ D, D = UInt8.ofNat k.toNat :: Vint.fixed l 8 ++ d := ⟨_, rfl⟩
  rw [← hD0]
  have HD := Lib.hid hD0
  clear hD0
  go_enter Tryz.func18, Tryz.ntmps18
  go_wp2_with fail
  refine (ref_kind k _).mono ?_
  rintro e w' ⟨rfl, rfl⟩
  rw [hk]
  go_wp2_with fail
  rw [← hW1]
  clear hW1
  refine rg_start (by kernel_rfl) ?_
  refine rg_take 0 rfl (by kernel_rfl) (by kernel_rfl) (by kernel_rfl) (fun _ _ _ _ h => h) (by rfl) ⟨_, fun w' hx => by (go_simp <;> with_reducible rfl), ?_⟩
  simp only [Act.put, List.setIfInBounds_toArray, List.set_cons_zero, List.set_cons_succ]
  refine rg_take 1 rfl (by kernel_rfl) (by kernel_rfl) (by kernel_rfl) (fun _ _ _ _ h => h) (by rfl) ⟨_, fun w' hx => by have hcx := hx.load hk0; (go_simp <;> with_reducible rfl), ?_⟩
  simp only [Act.put, List.setIfInBounds_toArray, List.set_cons_zero, List.set_cons_succ]
  refine rg_take 2 rfl (by kernel_rfl) (by kernel_rfl) (by kernel_rfl) (fun _ _ _ _ h => h) (by rfl) ⟨_, fun w' hx => by (go_simp <;> with_reducible rfl), ?_⟩
  simp only [Act.put, List.setIfInBounds_toArray, List.set_cons_zero, List.set_cons_succ]
  refine rg_take 4 rfl (by kernel_rfl) (by kernel_rfl) (by kernel_rfl) (fun _ _ _ _ h => h) (by rfl) ⟨_, fun w' hx => by (go_simp <;> with_reducible rfl), ?_⟩
  simp only [Act.put, List.setIfInBounds_toArray, List.set_cons_zero, List.set_cons_succ]
  refine rg_take 5 rfl (by kernel_rfl) (by kernel_rfl) (by kernel_rfl) (fun _ _ _ _ h => h) (by rfl) ⟨_, fun w' hx => by have hcx := hx.load hl0; (go_simp <;> with_reducible rfl), ?_⟩
  simp only [Act.put, List.setIfInBounds_toArray, List.set_cons_zero, List.set_cons_succ]
  refine rg_joinP (fun v u W => ∃ ad1 A2 c2, v = .slice (some ad1) 1 1 ∧ u = .slice A2 8 c2 ∧ Rd W 1 (some ad1) 1 [.int .u8 k] ∧ RdB W A2 (Vint.fixed l 8) ∧ Ext W1 W) 3 6 18 21 ?_ ?_
  · intro hrest
    simp only [Act.put, List.setIfInBounds_toArray, List.set_cons_zero, List.set_cons_succ] at hrest
    refine rg_two 3 6 (by kernel_rfl) ?_ ?_
    · refine op_make 3 rfl (by rfl) ⟨_, _, by (go_simp <;> first | exact ⟨rfl, rfl⟩ | rfl), Ext.alloc _ _, ?_⟩
      simp only [Act.put, List.setIfInBounds_toArray, List.set_cons_zero, List.set_cons_succ]
      refine rg_call 6 (ref_fixed01 l hl 8 _) rfl (by kernel_rfl) (by rfl) (by go_simp) ?_
      rintro e w2 ⟨A2, c2, rfl, ho2, hb2⟩
      rw [hf8] at ho2 ⊢
      refine ⟨_, rfl, hb2, ?_⟩
      simp only [Act.put, List.setIfInBounds_toArray, List.set_cons_zero, List.set_cons_succ]
      refine rg_cast (by kernel_rfl) (hrest _ _ _ ⟨_, A2, c2, rfl, rfl, (hnew W1.drew).below hb2, ho2.rd8 hf8, Ext.tr (Ext.drew W1) (Ext.tr (Ext.alloc W1.drew (.cells #[.int .u8 k] 5)) hb2)⟩)
    · refine op_call 6 (ref_fixed01 l hl 8 _) rfl (by rfl) (by go_simp) ?_
      rintro e w2 ⟨A2, c2, rfl, ho2, hb2⟩
      rw [hf8] at ho2 ⊢
      refine ⟨_, rfl, hb2, ?_⟩
      simp only [Act.put, List.setIfInBounds_toArray, List.set_cons_zero, List.set_cons_succ]
      refine rg_make 3 rfl (by kernel_rfl) (by rfl) ⟨_, _, by (go_simp <;> first | exact ⟨rfl, rfl⟩ | rfl), Ext.alloc _ _, ?_⟩
      simp only [Act.put, List.setIfInBounds_toArray, List.set_cons_zero, List.set_cons_succ]
      refine rg_cast (by kernel_rfl) (hrest _ _ _ ⟨_, A2, c2, rfl, rfl, hnew w2, (ho2.rd8 hf8).below (Ext.alloc _ _), Ext.tr (Ext.drew W1) (Ext.tr hb2 (Ext.alloc w2 (.cells #[.int .u8 k] 5)))⟩)
  rintro v u W ⟨ad1, A2, c2, rfl, rfl, hr1, hr2, hB⟩
  simp only [Act.put, List.setIfInBounds_toArray, List.set_cons_zero, List.set_cons_succ]
  refine rg_one 7 rfl (by kernel_rfl) (by rfl) (wp_app_grow (.tmp 18) (.tmp 21) 25 rfl elemB ad1 1 1 [.int .u8 k] rfl A2 8 c2 (bvs (Vint.fixed l 8)) rfl 9 rfl (bvs (UInt8.ofNat k.toNat :: Vint.fixed l 8)) hz hr1 (hr2.rd8 hf8) (by omega) (by omega) (by omega) (by omega) (by omega) ?_)
  intro A3 c3 w3 ho3 hb3
  refine ⟨.inl hb3, ?_⟩
  simp only [Act.put, List.setIfInBounds_toArray, List.set_cons_zero, List.set_cons_succ]
  have hE3 := Ext.tr hB hb3
  refine rg_take 8 rfl (by kernel_rfl) (by kernel_rfl) (by kernel_rfl) (fun _ _ _ _ h => h) (by rfl) ⟨_, fun w' hx => by (go_simp <;> with_reducible rfl), ?_⟩
  simp only [Act.put, List.setIfInBounds_toArray, List.set_cons_zero, List.set_cons_succ]
  refine rg_done (by kernel_rfl) ?_
  have hB3 := hB1.trans (hE3.mono hB1.size)
  have hc2 := hE3.load hs0
  have hz2 : bvs D = bvs (UInt8.ofNat k.toNat :: Vint.fixed l 8) ++ bvs d := by rw [HD.out]; exact bvs_app _ _
  have hfl : D.length = 252 := by rw [HD.out]; simp [hf8, hd]
  have Ho3 := Lib.hid (ho3.mono (base' := w.heap.size) (Nat.le_trans hB1.size hB.size))
  have HA := Lib.hid ((hA.below hB3).rd8 hd)
  have hsz := hB3.size
  have Hfl := Lib.hid hfl
  have Hz2 := Lib.hid hz2
  clear hz hnew hk0 hl0 hs0 hr1 hr2 ho3 hb3 hB hfl hz2 hd
  go_wp2_with (at_builtin; refine wpList_app rfl (.tmp 23) (.tmp 25) 25 rfl elemB w.heap.size A3 9 c3 _ rfl A 243 c (bvs d) rfl 252 rfl (bvs D) Hz2.out Ho3.out HA.out (bvs_one _) (by omega) (by omega) hsz ?_; intro A4 c4 w4 ho4 hg4 hr4)
  have hB4 := below_app hB3 Ho3.out hg4 hsz
  have h5 := ref_put A4 D c4 w4 ho4.rd' (by rw [Hfl.out]; omega)
  simp only [Crc.put_len, Hfl.out, Nat.reduceAdd] at h5
  refine h5.mono ?_
  rintro e w5 ⟨A5, c5, rfl, ho5, hb5⟩
  clear h5
  go_wp2
  go_ret2
  exact ⟨A5, c5, rfl, ho5.mono hB4.size, ext_trans hB4 hb5⟩

set_option maxRecDepth 100000 in
set_option maxHeartbeats 1000000 in
theorem ref_seal (p : Pg) (w : World) (hl : p.lsn < 18446744073709551616) (hA : RdB w p.a p.body) (hd : p.body.length ≤ 1000000) :
    Calls Tryz.prog 18 #[p.val] w fun e w' => ∃ A' c', e = .returned (.tuple #[.slice A' p.seal_.1.length c', .int .i64 (p.seal_.2 : Int)]) ∧ Own w' w.heap.size 5 1 A' p.seal_.1.length c' (bvs p.seal_.1) ∧ Below w.heap.size w w' := by
  obtain ⟨k, l, A, d, c⟩ := p
  simp only [Pg.val] at *
  by_cases hg : isKind k = true ∧ d.length = 243
  · have h1 : Pg.seal_ ⟨k, l, A, d, c⟩ = (Crc.put (UInt8.ofNat k.toNat :: Vint.fixed l 8 ++ d), 0) := by
      unfold Pg.seal_ Pg.good
      rw [if_pos (by simp [hg.1, hg.2])]
      rfl
    have h2 : (Crc.put (UInt8.ofNat k.toNat :: Vint.fixed l 8 ++ d)).length = 256 := by rw [Crc.put_len]; simp [fixed8_len, hg.2]
    rw [h1]
    simp only [h2]
    exact ref_seal_good A k l d c w hl hA hg.1 hg.2
  · have h1 : Hid (Pg.seal_ ⟨k, l, A, d, c⟩ = ([], 50)) := by
      show _ = _
      unfold Pg.seal_ Pg.good
      rw [if_neg (by simpa using hg)]
    have hg2 : isKind k = true → ((d.length : Int) == 243) = false := fun h => by rw [beq_eq_false_iff_ne]; intro e; exact hg ⟨h, by omega⟩
    clear hg
    cases hk : isKind k with
    | false =>
      clear hg2
      go_enter Tryz.func18, Tryz.ntmps18
      go_wp2_with fail
      refine (ref_kind k _).mono ?_
      rintro e w' ⟨rfl, rfl⟩
      rw [hk]
      go_wp2_with fail
      go_ret2
      rw [h1.out]
      exact ⟨none, 0, rfl, Own.none_ _ _ _ _ _, Ext.alloc w _⟩
    | true =>
      have hg3 := hg2 hk
      clear hg2
      go_enter Tryz.func18, Tryz.ntmps18
      go_wp2_with fail
      refine (ref_kind k _).mono ?_
      rintro e w' ⟨rfl, rfl⟩
      rw [hk]
      go_wp2_with fail
      go_ret2
      rw [h1.out]
      exact ⟨none, 0, rfl, Own.none_ _ _ _ _ _, Ext.alloc w _⟩
end Go.Proofs.YtkpagmfaccmiaaaGreat

/- Contracts of the program's functions for sums (crc): the table, bytes taken in. -/

namespace Go.Proofs.YtkpagmfaccmiaaaGreat

open Go.RowKit

def tabV (k : Nat) : Array Value := ((List.range 16).map fun j => Value.int .u32 ((if j < k then Crc.tab j else 0 : Nat) : Int)).toArray

theorem tabV_size (k : Nat) : (tabV k).size = 16 := by simp [tabV]
theorem tabV_get (k j : Nat) (h : j < 16) : (tabV k)[j]? = some (Value.int .u32 ((if j < k then Crc.tab j else 0 : Nat) : Int)) := by
  simp [tabV, List.getElem?_map, List.getElem?_range h]
theorem tabV_set (k : Nat) (h : k < 16) : (tabV k).setIfInBounds k (.int .u32 (Crc.tab k : Nat)) = tabV (k + 1) := by
  apply Array.ext_getElem?
  intro j
  rw [Array.getElem?_setIfInBounds]
  by_cases hj : j < 16
  · rw [tabV_get _ _ hj, tabV_get _ _ hj, tabV_size]
    by_cases he : k = j
    · subst he; simp [h]
    · rw [if_neg he]
      by_cases h2 : j < k
      · rw [if_pos h2, if_pos (by omega)]
      · rw [if_neg h2, if_neg (by omega)]
  · rw [if_neg (by omega), Array.getElem?_eq_none (by rw [tabV_size]; omega), Array.getElem?_eq_none (by rw [tabV_size]; omega)]

/-- j single bits of i. -/
def tabAt (i : Nat) : Nat → Nat
  | 0 => i
  | j + 1 => Crc.bit (tabAt i j)
theorem tabAt_lt {i : Nat} (h : i < 16) (j : Nat) : tabAt i j < 4294967296 := by
  induction j with
  | zero => unfold tabAt; omega
  | succ j ih => exact Crc.bit_lt ih

theorem tabInfo : (Tryz.prog.info? 118).map (·.size) = some (tabV 16).size := by rw [tabV_size]; kernel_rfl
theorem tabOne : (tabV 16).all (·.oneCell') = true := by
  rw [Array.all_eq_true_iff_forall_mem]
  intro v hv
  simp only [tabV, List.mem_toArray, List.mem_map] at hv
  obtain ⟨_, _, rfl⟩ := hv
  rfl

set_option maxHeartbeats 400000 in
theorem table_of (w : World) : Calls Tryz.prog 90 #[] w fun e w' => e = .returned (.agg (tabV 16)) ∧ Below w.heap.size w w' := by
  go_enter Tryz.func90, Tryz.ntmps90
  go_wp2
  go_loopw [3] (fun i wr => ∃ k : Nat, k ≤ 16 ∧ i = .int .i64 k ∧ wr = w.alloc (.cells (tabV k) 118)) (fun i _ => 16 - (intOf i).toNat)
  case atStart => exact ⟨0, by omega, rfl, rfl⟩
  case round =>
    obtain ⟨k, hk, rfl, rfl⟩ := hrel
    by_cases h : k < 16
    · go_wp2
      go_loop [2, 8] (fun c i => ∃ j : Nat, j ≤ 4 ∧ i = .int .i64 j ∧ c = .int .u32 (tabAt k j : Nat)) (fun _ i => 4 - (intOf i).toNat)
      case atStart => exact ⟨0, by omega, rfl, rfl⟩
      case round =>
        obtain ⟨j, hj, rfl, rfl⟩ := hrel
        have hf := tabAt_lt h j
        have hs : Hid (tabAt k (j + 1) = Crc.bit (tabAt k j)) := rfl
        have h1 := a32_1 (tabAt k j) hf
        have hq : tabAt k j / 2 < 4294967296 := by omega
        by_cases h4 : j < 4
        · rcases Crc.mod_two (tabAt k j) with hm | hm <;> rw [hm] at h1
          · have h2 := Lib.hid (x32 (tabAt k j / 2) 0 hq (by omega))
            have HM := Lib.hid hm
            clear hm
            go_wp2
            go_round
            case rel => exact ⟨j + 1, by omega, by go_num, val_int (by rw [hs.out, Crc.bit, HM.out]; exact h2.out)⟩
            case measure => simp [intOf]; omega
          · have h2 := Lib.hid (x32 (tabAt k j / 2) 2197175160 hq (by omega))
            have HM := Lib.hid hm
            clear hm
            go_wp2
            go_round
            case rel => exact ⟨j + 1, by omega, by go_num, val_int (by rw [hs.out, Crc.bit, HM.out]; exact h2.out)⟩
            case measure => simp [intOf]; omega
        · obtain rfl : j = 4 := by omega
          have hset := Lib.hid (tabV_set k h)
          have hcell := tabV_get k k h
          clear h1 hq hs hf
          go_wp2
          go_roundw
          case rel => exact ⟨k + 1, by omega, by go_num, by rw [← hset.out]; rfl⟩
          case measure => simp [intOf]; omega
    · obtain rfl : k = 16 := by omega
      go_wp2_with (first
        | (refine wpList_load_row rfl 118 (.tmp 0) rfl w.heap.size rfl 118 (tabV 16) (0, 0) _ (heap_alloc_new w _) Tryz.underlying118 rfl tabInfo ?_)
        | (refine wpList_store_row rfl 118 (.tmp 0) (.tmp 21) rfl w.heap.size (tabV 16) rfl rfl 118 (tabV 16) (heap_alloc_new w _) tabInfo rfl tabOne ?_; rw [setRow_alloc]))
      refine bodyPost_ret (v := .agg (tabV 16)) (results_cell_row rfl _ _ w.heap.size 118 (tabV 16) (0, 0) _ rfl (heap_alloc_new w _) Tryz.underlying118 rfl tabInfo) rfl ⟨rfl, (Below.refl _ _).alloc (Nat.le_refl _) _⟩
end Go.Proofs.YtkpagmfaccmiaaaGreat

/- Contracts of the program's functions for sums (crc): bytes taken in. -/

namespace Go.Proofs.YtkpagmfaccmiaaaGreat

open Go.RowKit

/-- Four bits, as the walk goes through them. -/
theorem nibI (x y : Nat) (h : x < 4294967296) (e : y = Crc.nib x) : ∃ j : Nat, j < 16 ∧ bits .and .u32 (x : Int) 15 = (j : Int) ∧ (tabV 16)[j]? = some (Value.int .u32 (Crc.tab j : Nat)) ∧ bits .xor .u32 ((x : Int) / 16) ((Crc.tab j : Nat) : Int) = (y : Int) := by
  refine ⟨x % 16, by omega, a32_15 x h, ?_, ?_⟩
  · have := tabV_get 16 (x % 16) (by omega)
    rwa [if_pos (by omega)] at this
  · rw [show ((x : Int) / 16) = ((x / 16 : Nat) : Int) by omega, e]
    exact x32 _ _ (by omega) (Crc.tab_lt (by omega))

set_option maxHeartbeats 400000 in
theorem over_any (c : Nat) (A : Option Addr) (bs : List UInt8) (cap : Nat) (w : World) (hc : c < 4294967296) (hA : RdB w A bs) (hl : bs.length ≤ 140737488355328) :
    Calls Tryz.prog 91 #[.agg (tabV 16), .int .u32 (c : Int), .slice A bs.length cap] w fun e w' => e = .returned (.int .u32 (Crc.over c bs : Nat)) ∧ Below w.heap.size w w' := by
  have hA1 := hA.below ((Below.refl w.heap.size w).alloc (Nat.le_refl _) (.cells (tabV 16) 118))
  have Hc := Lib.hid hc
  clear hc
  go_enter Tryz.func91, Tryz.ntmps91
  go_wp2
  go_loop [1, 11] (fun a i => ∃ k : Nat, k ≤ bs.length ∧ i = .int .i64 k ∧ a = .int .u32 (Crc.over c (bs.take k) : Nat)) (fun _ i => bs.length - (intOf i).toNat)
  case atStart => exact ⟨0, by omega, rfl, rfl⟩
  case round =>
    obtain ⟨k, hk, rfl, rfl⟩ := hrel
    by_cases h : k < bs.length
    · obtain ⟨ad, rfl, hcell⟩ := hA1.at_ h
      have hov := Crc.over_lt Hc.out (bs.take k)
      have hs := Lib.hid (Crc.over_snoc c bs k h)
      generalize Crc.over c (bs.take k) = d at *
      have hb := bs[k].toNat_lt
      generalize bs[k].toNat = b at *
      -- the steps, each under a name
      obtain ⟨x1, e1⟩ : ∃ x, x = d ^^^ b := ⟨_, rfl⟩
      have E1 := Lib.hid e1
      have l1 : x1 < 4294967296 := by rw [e1]; exact Crc.xor_lt hov (by omega)
      have b1 : bits .xor .u32 (d : Int) (b : Int) = (x1 : Int) := by rw [e1]; exact x32 d b hov (by omega)
      obtain ⟨x2, e2⟩ : ∃ x, x = Crc.nib x1 := ⟨_, rfl⟩
      have E2 := Lib.hid e2
      have l2 : x2 < 4294967296 := by rw [e2]; exact Crc.nib_lt l1
      have b2 := nibI x1 x2 l1 e2
      obtain ⟨x3, e3⟩ : ∃ x, x = Crc.nib x2 := ⟨_, rfl⟩
      have E3 := Lib.hid e3
      have b3 := nibI x2 x3 l2 e3
      clear e1 e2 e3
      obtain ⟨j1, j1l, b21, b22, b23⟩ := b2
      obtain ⟨j2, j2l, b31, b32, b33⟩ := b3
      go_wp2
      go_round
      case rel => exact ⟨k + 1, by omega, by go_num, val_int (by rw [hs.out, E3.out, E2.out, E1.out]; rfl)⟩
      case measure => simp [intOf]; omega
    · obtain rfl : k = bs.length := by omega
      rw [List.take_length]
      go_wp2
      go_ret
      exact ⟨rfl, (Below.refl _ _).alloc (Nat.le_refl _) _⟩

theorem over_cat (c : Nat) (l : List Sl) (k : Nat) (h : k < l.length) : Crc.over c (cat (l.take (k + 1))) = Crc.over (Crc.over c (cat (l.take k))) l[k].bs := by
  rw [cat_snoc l k h, Crc.over_app]

set_option maxHeartbeats 400000 in
theorem sum_any (A : Option Addr) (l : List Sl) (cap : Nat) (w : World) (hA : RdL w A l) (hl : l.length ≤ 1000000) (hc : (cat l).length ≤ 140737488355328) :
    Calls Tryz.prog 69 #[.slice A l.length cap] w fun e w' => e = .returned (.int .u32 (Crc.sum (cat l) : Nat)) ∧ Below w.heap.size w w' := by
  have hend : bits .xor .u32 IntKind.u32.max ((Crc.over 4294967295 (cat l) : Nat) : Int) = ((Crc.sum (cat l) : Nat) : Int) := not32 _ (Crc.over_lt (by omega) _)
  have Hc := Lib.hid hc
  clear hc
  go_enter Tryz.func69, Tryz.ntmps69
  go_wp2_with fail
  refine (table_of w).mono ?_
  rintro e w1 ⟨rfl, hb1⟩
  go_wp2_with (first
    | (refine wpList_store_row rfl 118 (.tmp 3) (.tmp 7) rfl w1.heap.size (tabV 16) rfl rfl 118 _ (heap_alloc_new w1 _) tabInfo rfl tabOne ?_; rw [setRow_alloc]))
  go_loopw [4, 10] (fun a i wr => ∃ k : Nat, k ≤ l.length ∧ i = .int .i64 k ∧ a = .int .u32 (Crc.over 4294967295 (cat (l.take k)) : Nat) ∧ Below (w1.heap.size + 1) (w1.alloc (.cells (tabV 16) 118)) wr) (fun _ i _ => l.length - (intOf i).toNat)
  case atStart => exact ⟨0, by omega, rfl, rfl, Below.refl _ _⟩
  case round =>
    obtain ⟨k, hk, rfl, rfl, hb2⟩ := hrel
    have hg : wr.heap[w1.heap.size]? = some (.cells (tabV 16) 118 (0, 0)) := (hb2.block _ (by omega)).trans (heap_alloc_new w1 _)
    have hbw : Below w.heap.size w wr := (hb1.alloc hb1.size _).trans (hb2.mono (by have := hb1.size; omega))
    have hsz := hb2.size
    simp only [World.size_alloc] at hsz
    by_cases h : k < l.length
    · obtain ⟨ad, rfl, hcell, hrd⟩ := (hA.below hbw).at_ h
      have hov := Lib.hid (Crc.over_lt (c := 4294967295) (by omega) (cat (l.take k)))
      have hs := Lib.hid (over_cat 4294967295 l k h)
      have hle := one_le_cat l k h
      have hcc := Hc.out
      have hlk : l[k].bs.length ≤ 140737488355328 := by omega
      clear hle hcc
      generalize Crc.over 4294967295 (cat (l.take k)) = d at *
      go_wp2_with (first
        | (refine wpList_load_row rfl 118 (.tmp 3) rfl w1.heap.size rfl 118 (tabV 16) (0, 0) _ hg Tryz.underlying118 rfl tabInfo ?_)
        | (go_at_call 91; refine (over_any d _ _ _ _ hov.out hrd hlk).mono ?_; rintro e w3 ⟨rfl, hb3⟩))
      go_roundw
      case rel => exact ⟨k + 1, by omega, by go_num, val_int (by rw [hs.out]), hb2.trans (hb3.mono hsz)⟩
      case measure => simp [intOf]; omega
    · obtain rfl : k = l.length := by omega
      rw [List.take_length]
      go_wp2
      go_ret
      exact ⟨rfl, hbw⟩
end Go.Proofs.YtkpagmfaccmiaaaGreat

/- Contracts of the program's functions for sums (crc): what is put, and checked. -/

namespace Go.Proofs.YtkpagmfaccmiaaaGreat

open Go.RowKit

theorem fixed4C (n : Nat) : Vint.fixed n 4 = Crc.four n := by
  have : Vint.fixed n 4 = Vint.fixL n 4 := by unfold Vint.fixed; rw [if_pos (by omega)]; rfl
  rw [this]
  simp [Vint.fixL, Vint.fixB, Crc.four, List.range, List.range.loop]

set_option maxHeartbeats 400000 in
theorem put_any (A : Option Addr) (bs : List UInt8) (cap : Nat) (w : World) (hA : RdB w A bs) (hl : bs.length ≤ 1000000) :
    Calls Tryz.prog 39 #[.slice A bs.length cap] w fun e w' => ∃ A' c', e = .returned (.slice A' (Crc.put bs).length c') ∧ Own w' w.heap.size 5 1 A' (Crc.put bs).length c' (bvs (Crc.put bs)) ∧ Below w.heap.size w w' := by
  go_enter Tryz.func39, Tryz.ntmps39
  go_wp2_with fail
  have h1 := sum_any _ [⟨A, bs, cap⟩] 1 _ (RdL.one w 25 A bs cap hA) (by simp) (by rw [cat_one]; omega)
  rw [cat_one] at h1
  refine h1.mono ?_
  rintro e w1 ⟨rfl, hb1⟩
  have hs := Crc.sum_lt bs
  have hbw := ext_trans ((Below.refl w.heap.size w).alloc (Nat.le_refl _) _) hb1
  clear h1
  go_wp2_with fail
  refine (fixed_any (Crc.sum bs) 4 w1).mono ?_
  rintro e w2 ⟨A2, c2, rfl, ho2, hb2⟩
  rw [fixed4C] at ho2
  rw [fixed4C]
  have hA2 := hA.below (ext_trans hbw hb2)
  go_wp2_with fail
  have h3 := concat_any _ [⟨A, bs, cap⟩, ⟨A2, Crc.four (Crc.sum bs), c2⟩] 2 _ (RdL.two w2 25 A A2 bs (Crc.four (Crc.sum bs)) cap c2 hA2 ho2.rd') (by simp) (by rw [cat_two]; simp [Crc.four_len]; omega)
  rw [cat_two, show bs ++ Crc.four (Crc.sum bs) = Crc.put bs from rfl] at h3
  refine h3.mono ?_
  rintro e w3 ⟨A3, c3, rfl, ho3, hb3⟩
  clear h3
  have hb4 := ext_trans (ext_trans hbw hb2) (ext_trans ((Below.refl w2.heap.size w2).alloc (Nat.le_refl _) _) hb3)
  go_wp2
  go_ret
  exact ⟨A3, c3, rfl, ho3.mono (by have := (ext_trans hbw hb2).size; simp; omega), hb4⟩

theorem number4 (b p : List UInt8) (h : 4 ≤ b.length) (hp : p = b.take (b.length - 4)) : decide (Crc.sum p = Vint.number (b.drop (b.length - 4))) = (Crc.put p == b) := by
  have hd : (b.drop (b.length - 4)).length = 4 := by simp; omega
  have hb : b = p ++ b.drop (b.length - 4) := by rw [hp, List.take_append_drop]
  have hs := Crc.sum_lt p
  generalize b.drop (b.length - 4) = d at *
  match d, hd with
  | [x0, x1, x2, x3], _ =>
    have e0 : Vint.number [x0, x1, x2, x3] = ((x0.toNat * 256 + x1.toNat) * 256 + x2.toNat) * 256 + x3.toNat := by simp [Vint.number, Vint.numL]
    rw [Bool.eq_iff_iff, beq_iff_eq, decide_eq_true_iff, e0, hb, Crc.put, List.append_cancel_left_eq, Crc.four]
    have l0 := x0.toNat_lt
    have l1 := x1.toNat_lt
    have l2 := x2.toNat_lt
    have l3 := x3.toNat_lt
    simp only [List.cons.injEq, and_true, ← UInt8.toNat_inj, UInt8.toNat_ofNat']
    omega

set_option maxHeartbeats 800000 in
theorem check_any (A : Option Addr) (bs : List UInt8) (cap : Nat) (w : World) (hA : RdB w A bs) (hl : bs.length ≤ 1000000) (hcap : bs.length ≤ cap) :
    Calls Tryz.prog 61 #[.slice A bs.length cap] w fun e w' => ∃ A' c', e = .returned (.tuple #[.slice A' (Crc.got bs).length c', .bool (Crc.ok bs)]) ∧ Own w' w.heap.size 5 1 A' (Crc.got bs).length c' (bvs (Crc.got bs)) ∧ Below w.heap.size w w' := by
  by_cases h4 : bs.length < 4
  · have h1 : Crc.ok bs = false := by unfold Crc.ok; simp; omega
    have h2 : Crc.got bs = [] := by unfold Crc.got; rw [h1]; rfl
    rw [h1, h2]
    clear h1 h2
    have hneg : decide ((bs.length : Int) - 4 < 0) = true := by simp; omega
    go_enter Tryz.func61, Tryz.ntmps61
    go_wp2
    refine rg_start (by kernel_rfl) ?_
    refine rg_take 0 rfl (by kernel_rfl) (by kernel_rfl) (by kernel_rfl) (fun _ _ _ _ h => h) (by rfl) ⟨_, fun w' hx => by (go_simp <;> with_reducible rfl), ?_⟩
    simp only [Act.put, List.setIfInBounds_toArray, List.set_cons_zero, List.set_cons_succ]
    refine rg_take 1 rfl (by kernel_rfl) (by kernel_rfl) (by kernel_rfl) (fun _ _ _ _ h => h) (by rfl) ⟨_, fun w' hx => by (go_simp <;> with_reducible rfl), ?_⟩   -- t9 := binOp lss 3 t8 0:i64 3
    simp only [Act.put, List.setIfInBounds_toArray, List.set_cons_zero, List.set_cons_succ]
    refine rg_take 2 rfl (by kernel_rfl) (by kernel_rfl) (by kernel_rfl) (fun _ _ _ _ h => h) (by rfl) ⟨_, fun w' hx => by (go_simp <;> with_reducible rfl), ?_⟩
    simp only [Act.put, List.setIfInBounds_toArray, List.set_cons_zero, List.set_cons_succ]
    refine rg_skip 3 rfl (by kernel_rfl) (by kernel_rfl) (by kernel_rfl) (fun _ _ _ _ h => h) (by rfl) ?_
    simp only [Act.put, List.setIfInBounds_toArray, List.set_cons_zero, List.set_cons_succ]
    refine rg_skip 4 rfl (by kernel_rfl) (by kernel_rfl) (by kernel_rfl) (fun _ _ _ _ h => h) (by rfl) ?_
    simp only [Act.put, List.setIfInBounds_toArray, List.set_cons_zero, List.set_cons_succ]
    refine rg_skip 5 rfl (by kernel_rfl) (by kernel_rfl) (by kernel_rfl) (fun _ _ _ _ h => h) (by rfl) ?_
    simp only [Act.put, List.setIfInBounds_toArray, List.set_cons_zero, List.set_cons_succ]
    refine rg_skip 6 rfl (by kernel_rfl) (by kernel_rfl) (by kernel_rfl) (fun _ _ _ _ h => h) (by rfl) ?_
    simp only [Act.put, List.setIfInBounds_toArray, List.set_cons_zero, List.set_cons_succ]
    refine rg_skip 7 rfl (by kernel_rfl) (by kernel_rfl) (by kernel_rfl) (fun _ _ _ _ h => h) (by rfl) ?_
    simp only [Act.put, List.setIfInBounds_toArray, List.set_cons_zero, List.set_cons_succ]
    refine rg_skip 8 rfl (by kernel_rfl) (by kernel_rfl) (by kernel_rfl) (fun _ _ _ _ h => h) (by rfl) ?_
    simp only [Act.put, List.setIfInBounds_toArray, List.set_cons_zero, List.set_cons_succ]
    refine rg_skip 9 rfl (by kernel_rfl) (by kernel_rfl) (by kernel_rfl) (fun _ _ _ _ h => h) (by rfl) ?_
    simp only [Act.put, List.setIfInBounds_toArray, List.set_cons_zero, List.set_cons_succ]
    refine rg_skip 10 rfl (by kernel_rfl) (by kernel_rfl) (by kernel_rfl) (fun _ _ _ _ h => h) (by rfl) ?_
    simp only [Act.put, List.setIfInBounds_toArray, List.set_cons_zero, List.set_cons_succ]
    refine rg_skip 11 rfl (by kernel_rfl) (by kernel_rfl) (by kernel_rfl) (fun _ _ _ _ h => h) (by rfl) ?_
    simp only [Act.put, List.setIfInBounds_toArray, List.set_cons_zero, List.set_cons_succ]
    refine rg_skip 12 rfl (by kernel_rfl) (by kernel_rfl) (by kernel_rfl) (fun _ _ _ _ h => h) (by rfl) ?_
    simp only [Act.put, List.setIfInBounds_toArray, List.set_cons_zero, List.set_cons_succ]
    refine rg_skip 13 rfl (by kernel_rfl) (by kernel_rfl) (by kernel_rfl) (fun _ _ _ _ h => h) (by rfl) ?_
    simp only [Act.put, List.setIfInBounds_toArray, List.set_cons_zero, List.set_cons_succ]
    refine rg_take 14 rfl (by kernel_rfl) (by kernel_rfl) (by kernel_rfl) (fun _ _ _ _ h => h) (by rfl) ⟨_, fun w' hx => by (go_simp <;> with_reducible rfl), ?_⟩
    simp only [Act.put, List.setIfInBounds_toArray, List.set_cons_zero, List.set_cons_succ]
    refine rg_done (by kernel_rfl) ?_
    go_wp2
    go_ret2
    exact ⟨none, 0, rfl, Own.none_ _ _ _ _ _, (Below.refl _ _).drew⟩
  · obtain ⟨p, hp⟩ : ∃ p, p = bs.take (bs.length - 4) := ⟨_, rfl⟩
    obtain ⟨d, hd⟩ : ∃ d, d = bs.drop (bs.length - 4) := ⟨_, rfl⟩
    have hA0 := hA.head (m := bs.length - 4) (by omega)
    rw [← hp] at hA0
    have hpl : p.length = bs.length - 4 := by rw [hp]; simp
    have hT := hA.tail (k := p.length) (by omega) hcap
    rw [hpl, ← hd, ← hpl] at hT
    have hok := Crc.ok_of (b := bs) (p := p) (by omega) hp
    have hnum := number4 bs p (by omega) hp
    rw [← hd] at hnum
    have hdl : d.length = 4 := by rw [hd]; simp; omega
    have hcast : ((bs.length : Int) - 4) = ((p.length : Nat) : Int) := by omega
    have hple : p.length ≤ bs.length := by omega
    have Hp := Lib.hid hp
    have Hok := Lib.hid (hok.trans hnum.symm)
    have Hdl := Lib.hid hdl
    have hneg : decide ((p.length : Int) < 0) = false := by simp
    have hsl := wrap_u64 (Crc.sum p) (Nat.lt_trans (Crc.sum_lt p) (by omega))
    have hpc : p.length ≤ cap := by omega
    have hd2 : bs.length - p.length = d.length := by omega
    have hd8 : d.length ≤ 140737488355328 := by omega
    clear hp hd hok hpl hnum hdl
    go_enter Tryz.func61, Tryz.ntmps61
    go_wp2
    refine rg_start (by kernel_rfl) ?_
    refine rg_take 0 rfl (by kernel_rfl) (by kernel_rfl) (by kernel_rfl) (fun _ _ _ _ h => h) (by rfl) ⟨_, fun w' hx => by (go_simp <;> with_reducible rfl), ?_⟩
    simp only [Act.put, List.setIfInBounds_toArray, List.set_cons_zero, List.set_cons_succ]
    refine rg_take 1 rfl (by kernel_rfl) (by kernel_rfl) (by kernel_rfl) (fun _ _ _ _ h => h) (by rfl) ⟨_, fun w' hx => by (go_simp <;> with_reducible rfl), ?_⟩   -- t9 := binOp lss 3 t8 0:i64 3
    simp only [Act.put, List.setIfInBounds_toArray, List.set_cons_zero, List.set_cons_succ]
    refine rg_take 2 rfl (by kernel_rfl) (by kernel_rfl) (by kernel_rfl) (fun _ _ _ _ h => h) (by rfl) ⟨_, fun w' hx => by (go_simp <;> with_reducible rfl), ?_⟩
    simp only [Act.put, List.setIfInBounds_toArray, List.set_cons_zero, List.set_cons_succ]
    refine rg_take 3 rfl (by kernel_rfl) (by kernel_rfl) (by kernel_rfl) (fun _ _ _ _ h => h) (by rfl) ⟨_, fun w' hx => by (go_simp <;> with_reducible rfl), ?_⟩
    simp only [Act.put, List.setIfInBounds_toArray, List.set_cons_zero, List.set_cons_succ]
    refine rg_take 4 rfl (by kernel_rfl) (by kernel_rfl) (by kernel_rfl) (fun _ _ _ _ h => h) (by rfl) ⟨_, fun w' hx => by (go_simp <;> with_reducible rfl), ?_⟩
    simp only [Act.put, List.setIfInBounds_toArray, List.set_cons_zero, List.set_cons_succ]
    refine rg_take 5 rfl (by kernel_rfl) (by kernel_rfl) (by kernel_rfl) (fun _ _ _ _ h => h) (by rfl) ⟨_, fun w' hx => by (go_simp <;> with_reducible rfl), ?_⟩   -- t13 := slice 22 t11 - t12 -
    simp only [Act.put, List.setIfInBounds_toArray, List.set_cons_zero, List.set_cons_succ]
    refine rg_take 9 rfl (by kernel_rfl) (by kernel_rfl) (by kernel_rfl) (fun _ _ _ _ h => h) (by rfl) ⟨_, fun w' hx => by (go_simp <;> with_reducible rfl), ?_⟩
    simp only [Act.put, List.setIfInBounds_toArray, List.set_cons_zero, List.set_cons_succ]
    refine rg_take 10 rfl (by kernel_rfl) (by kernel_rfl) (by kernel_rfl) (fun _ _ _ _ h => h) (by rfl) ⟨_, fun w' hx => by (go_simp <;> with_reducible rfl), ?_⟩
    simp only [Act.put, List.setIfInBounds_toArray, List.set_cons_zero, List.set_cons_succ]
    refine rg_take 11 rfl (by kernel_rfl) (by kernel_rfl) (by kernel_rfl) (fun _ _ _ _ h => h) (by rfl) ⟨_, fun w' hx => by (go_simp <;> with_reducible rfl), ?_⟩   -- t19 := slice 22 t17 t18 - -
    simp only [Act.put, List.setIfInBounds_toArray, List.set_cons_zero, List.set_cons_succ]
    -- 6: t14 := buildSlice 31 1 [(0, t13)]
    refine rg_make 6 rfl (by kernel_rfl) (by rfl) ⟨_, _, by (go_simp <;> first | exact ⟨rfl, rfl⟩ | rfl), ?_, ?_⟩
    · exact Ext.alloc _ _
    simp only [Act.put, List.setIfInBounds_toArray, List.set_cons_zero, List.set_cons_succ]
    have hsum := sum_any _ [⟨A, p, cap⟩] 1 _ (RdL.one w.drew 25 A p cap hA0) (by simp) (by rw [cat_one]; omega)
    rw [cat_one] at hsum
    refine rg_call 7 hsum rfl (by kernel_rfl) (by rfl) (by go_simp) ?_
    rintro e w1 ⟨rfl, hb1⟩
    refine ⟨_, rfl, hb1, ?_⟩
    simp only [Act.put, List.setIfInBounds_toArray, List.set_cons_zero, List.set_cons_succ]
    refine rg_take 8 rfl (by kernel_rfl) (by kernel_rfl) (by kernel_rfl) (fun _ _ _ _ h => h) (by rfl) ⟨_, fun w' hx => by (go_simp <;> with_reducible rfl), ?_⟩
    simp only [Act.put, List.setIfInBounds_toArray, List.set_cons_zero, List.set_cons_succ]
    have hb2 := (Below.refl w.heap.size w).drew.trans (ext_trans (Ext.alloc w.drew _) hb1)
    refine rg_call 12 (number_any _ d (cap - p.length) w1 (hT.below hb2) hd8) rfl (by kernel_rfl) (by rfl) (by go_simp) ?_
    rintro e w2 ⟨rfl, rfl⟩
    refine ⟨_, rfl, Ext.refl _, ?_⟩
    simp only [Act.put, List.setIfInBounds_toArray, List.set_cons_zero, List.set_cons_succ]
    refine rg_take 13 rfl (by kernel_rfl) (by kernel_rfl) (by kernel_rfl) (fun _ _ _ _ h => h) (by rfl) ⟨_, fun w' hx => by (go_simp <;> with_reducible rfl), ?_⟩   -- t21 := binOp neq 37 t16 t20 37
    simp only [Act.put, List.setIfInBounds_toArray, List.set_cons_zero, List.set_cons_succ]
    refine rg_take 14 rfl (by kernel_rfl) (by kernel_rfl) (by kernel_rfl) (fun _ _ _ _ h => h) (by rfl) ⟨_, fun w' hx => by (go_simp <;> with_reducible rfl), ?_⟩
    simp only [Act.put, List.setIfInBounds_toArray, List.set_cons_zero, List.set_cons_succ]
    refine rg_done (by kernel_rfl) ?_
    have hne : (((Crc.sum p : Nat) : Int) != ((Vint.number d : Nat) : Int)) = !decide (Crc.sum p = Vint.number d) := by
      rw [Bool.eq_iff_iff]; simp [Int.natCast_inj]
    rw [hne]
    clear hne hsl
    have hb3 := (hA0.below hb2)
    by_cases hv : Crc.sum p = Vint.number d
    · have h1 : Crc.ok bs = true := by rw [Hok.out]; exact decide_eq_true hv
      have H2 := Lib.hid (Crc.got_yes Hp.out h1)
      have H1 := Lib.hid h1
      rw [decide_eq_true hv]
      clear h1 hv
      go_wp2_with (go_at_call 64; refine (clone_any A p cap w1 hb3 (by omega)).mono ?_; rintro e w3 ⟨A3, c3, rfl, ho3, hb4⟩)
      go_ret2
      rw [H1.out, H2.out]
      exact ⟨A3, c3, rfl, ho3.mono hb2.size, ext_trans hb2 hb4⟩
    · have h1 : Crc.ok bs = false := by rw [Hok.out]; exact decide_eq_false hv
      have H2 := Lib.hid (Crc.got_no h1)
      have H1 := Lib.hid h1
      rw [decide_eq_false hv]
      clear h1 hv
      go_wp2
      go_ret2
      rw [H1.out, H2.out]
      exact ⟨none, 0, rfl, Own.none_ _ _ _ _ _, hb2⟩
end Go.Proofs.YtkpagmfaccmiaaaGreat

/- Contract of the program's sealing (page.Seal). Written by wip/tools/gen_page05b.py. UNDER WAY. -/

namespace Go.Proofs.YtkpagmfaccmiaaaGreat

open Go.RowKit

attribute [local go_sem] Oper.semAt_some

set_option maxRecDepth 100000 in
set_option maxHeartbeats 2000000 in
theorem seal_good (A : Option Addr) (k : Int) (l : Nat) (d : List UInt8) (c : Nat) (w : World) (hl : l < 18446744073709551616) (hA : RdB w A d) (hk : isKind k = true) (hd : d.length = 243) :
    Calls Tryz.prog 15 #[.agg #[.int .i64 k, .int .u64 (l : Int), .slice A d.length c]] w fun e w' => ∃ A' c', e = .returned (.tuple #[.slice A' 256 c', .int .i64 0]) ∧ Own w' w.heap.size 5 1 A' 256 c' (bvs (Crc.put (UInt8.ofNat k.toNat :: Vint.fixed l 8 ++ d))) ∧ Below w.heap.size w w' := by
  have hkr : 1 ≤ k ∧ k ≤ 5 := by unfold isKind at hk; simpa using hk
  have hf8 := fixed8_len l
  obtain ⟨W1, hW1⟩ : ∃ W1, W1 = w.alloc (.cells #[.int .i64 k, .int .u64 (l : Int), .slice A 243 c] 50) := ⟨_, rfl⟩
  have hl1 : W1.cell? ⟨w.heap.size, 1, none⟩ = some (.int .u64 (l : Int)) := by rw [hW1]; exact cell_of_row _ _ 1 _ _ _ (heap_alloc_new w _)
  have hs1 : W1.cell? ⟨w.heap.size, 2, none⟩ = some (.slice A 243 c) := by rw [hW1]; exact cell_of_row _ _ 2 _ _ _ (heap_alloc_new w _)
  have hB1 : Below w.heap.size w W1 := by rw [hW1]; exact Ext.alloc w _
  have hwk : IntKind.u8.wrap k = k := by simp [IntKind.wrap, IntKind.bits, IntKind.signed]; omega
  obtain ⟨D, hD0⟩ : ∃ D, D = UInt8.ofNat k.toNat :: Vint.fixed l 8 ++ d := ⟨_, rfl⟩
  rw [← hD0]
  have HD := Lib.hid hD0
  have HW1 := Lib.hid hW1
  clear hD0
  go_enter Tryz.func15, Tryz.ntmps15
  go_wp2_with fail
  refine (kind_any k _).mono ?_
  rintro e w' ⟨rfl, rfl⟩
  rw [hk]
  go_wp2_with (first | (at_make; go_loud (refine wpList_mk rfl (.const (.int .i64 252)) (.const (.int .i64 252)) 25 rfl elemB (.int .u8 0) zeroB rfl 252 _ _ rfl rfl (by omega) (by omega) ?_)))
  obtain ⟨C1, hC1⟩ : ∃ C1, C1 = (Array.replicate 252 (Value.int .u8 0)).setIfInBounds 0 (Value.int .u8 k) := ⟨_, rfl⟩
  rw [← hC1]
  have hC1s : C1.size = 252 := by rw [hC1]; simp
  have hC1l : C1.toList = Value.int .u8 k :: List.replicate 251 (Value.int .u8 0) := by rw [hC1]; simp [Array.toList_setIfInBounds, List.replicate_succ]
  obtain ⟨W2, hW2⟩ : ∃ W2, W2 = W1.alloc (.cells C1 5) := ⟨_, rfl⟩
  have hsz1 : W1.heap.size = w.heap.size + 1 := by rw [HW1.out]; simp
  have hg1 : W2.heap[w.heap.size + 1]? = some (.cells C1 5 (0, 0)) := by rw [hW2, ← hsz1]; exact heap_alloc_new W1 _
  have hX2 : Ext W1 W2 := by rw [hW2]; exact Ext.alloc W1 _
  have hl2 := hX2.load hl1
  have hs2 := hX2.load hs1
  have hB2 : Below w.heap.size w W2 := hB1.trans (hX2.mono hB1.size)
  have hd0 := Lib.hid hd
  rw [← HW1.out, ← hW2]
  clear hC1 hW2 hW1 hl1 hs1 hd

  refine rg_start (by kernel_rfl) ?_
  refine rg_take 0 rfl (by kernel_rfl) (by kernel_rfl) (by kernel_rfl) (fun _ _ _ _ h => h) (by rfl) ⟨_, fun w' hx => by (go_simp <;> with_reducible rfl), ?_⟩
  simp only [Act.put, List.setIfInBounds_toArray, List.set_cons_zero, List.set_cons_succ]
  refine rg_take 1 rfl (by kernel_rfl) (by kernel_rfl) (by kernel_rfl) (fun _ _ _ _ h => h) (by rfl) ⟨_, fun w' hx => by (go_simp <;> with_reducible rfl), ?_⟩
  simp only [Act.put, List.setIfInBounds_toArray, List.set_cons_zero, List.set_cons_succ]
  refine rg_take 2 rfl (by kernel_rfl) (by kernel_rfl) (by kernel_rfl) (fun _ _ _ _ h => h) (by rfl) ⟨_, fun w' hx => by (go_simp <;> with_reducible rfl), ?_⟩
  simp only [Act.put, List.setIfInBounds_toArray, List.set_cons_zero, List.set_cons_succ]
  refine rg_take 3 rfl (by kernel_rfl) (by kernel_rfl) (by kernel_rfl) (fun _ _ _ _ h => h) (by rfl) ⟨_, fun w' hx => by have hcx := hx.load hl2; (go_simp <;> with_reducible rfl), ?_⟩
  simp only [Act.put, List.setIfInBounds_toArray, List.set_cons_zero, List.set_cons_succ]
  refine rg_call 4 (fixed_any l 8 _) rfl (by kernel_rfl) (by rfl) (by go_simp) ?_
  rintro e w2 ⟨A2, c2, rfl, ho2, hb2⟩
  rw [hf8] at ho2 ⊢
  refine ⟨_, rfl, hb2, ?_⟩
  simp only [Act.put, List.setIfInBounds_toArray, List.set_cons_zero, List.set_cons_succ]
  have hE2 := Ext.tr (Ext.drew W2) hb2
  have hg2 := (hE2.block _ (lt_of_heap hg1)).trans hg1
  have hr2 := (ho2.rd8 hf8).rd8 hf8
  refine rg_one 5 rfl (by kernel_rfl) (by rfl) (wp_copy (.tmp 22) (.tmp 25) 25 rfl elemB (w.heap.size + 1) 1 251 8 rfl A2 c2 (bvs (Vint.fixed l 8)) rfl hr2 (by omega) C1 hg2 (by rw [hC1s]; omega) (bvs_one _) ⟨.inr (by kernel_rfl), ?_⟩)
  simp only [Act.put, List.setIfInBounds_toArray, List.set_cons_zero, List.set_cons_succ]
  refine rg_done (by kernel_rfl) ?_
  obtain ⟨C2, hC2⟩ : ∃ C2, C2 = (C1.toList.take 1 ++ bvs (Vint.fixed l 8) ++ C1.toList.drop (1 + 8)).toArray := ⟨_, rfl⟩
  have hC2l : C2.toList = (Value.int .u8 k :: bvs (Vint.fixed l 8)) ++ List.replicate 243 (Value.int .u8 0) := by rw [hC2, hC1l]; simp
  have hC2s : C2.size = 252 := by rw [← Array.length_toList, hC2l]; simp [bvs_len, hf8]
  obtain ⟨W3, hW3⟩ : ∃ W3, W3 = w2.setRow (w.heap.size + 1) C2 := ⟨_, rfl⟩
  have hg3 : W3.heap[w.heap.size + 1]? = some (.cells C2 5 (0, 0)) := by rw [hW3]; exact setRow_heap _ _ _ _ _ _ hg2
  have hs3 : W3.cell? ⟨w.heap.size, 2, none⟩ = some (.slice A 243 c) := by rw [hW3, cell_setRow_other _ _ _ _ (by simp)]; exact hE2.load hs2
  have hB3 : Below w.heap.size w W3 := by
    have h1 := hB2.trans (hE2.mono hB2.size)
    rw [hW3]
    exact ⟨h1.os, h1.tape, h1.output, by simpa using h1.size, fun i hi => (setRow_other _ _ _ _ (by omega)).trans (h1.block i hi)⟩
  rw [← hC2, ← hW3]
  clear hC2 hW3 hg1 hl2 hs2 hr2 ho2 hg2 hE2 hb2 hC1s hC1l
  go_wp2_with fail

  refine rg_start (by kernel_rfl) ?_
  refine rg_take 0 rfl (by kernel_rfl) (by kernel_rfl) (by kernel_rfl) (fun _ _ _ _ h => h) (by rfl) ⟨_, fun w' hx => by (go_simp <;> with_reducible rfl), ?_⟩
  simp only [Act.put, List.setIfInBounds_toArray, List.set_cons_zero, List.set_cons_succ]
  refine rg_take 1 rfl (by kernel_rfl) (by kernel_rfl) (by kernel_rfl) (fun _ _ _ _ h => h) (by rfl) ⟨_, fun w' hx => by (go_simp <;> with_reducible rfl), ?_⟩
  simp only [Act.put, List.setIfInBounds_toArray, List.set_cons_zero, List.set_cons_succ]
  refine rg_take 2 rfl (by kernel_rfl) (by kernel_rfl) (by kernel_rfl) (fun _ _ _ _ h => h) (by rfl) ⟨_, fun w' hx => by (go_simp <;> with_reducible rfl), ?_⟩
  simp only [Act.put, List.setIfInBounds_toArray, List.set_cons_zero, List.set_cons_succ]
  refine rg_take 3 rfl (by kernel_rfl) (by kernel_rfl) (by kernel_rfl) (fun _ _ _ _ h => h) (by rfl) ⟨_, fun w' hx => by have hcx := hx.load hs3; (go_simp <;> with_reducible rfl), ?_⟩
  simp only [Act.put, List.setIfInBounds_toArray, List.set_cons_zero, List.set_cons_succ]
  refine rg_one 4 rfl (by kernel_rfl) (by rfl) (wp_copy (.tmp 28) (.tmp 30) 25 rfl elemB (w.heap.size + 1) 9 243 243 rfl A c (bvs d) rfl (((hA.below hB3).below (Ext.drew _)).rd8 hd0.out) (by omega) C2 hg3 (by rw [hC2s]; omega) (bvs_one _) ⟨.inr (by kernel_rfl), ?_⟩)
  simp only [Act.put, List.setIfInBounds_toArray, List.set_cons_zero, List.set_cons_succ]
  refine rg_done (by kernel_rfl) ?_
  obtain ⟨C3, hC3⟩ : ∃ C3, C3 = (C2.toList.take 9 ++ bvs d ++ C2.toList.drop (9 + 243)).toArray := ⟨_, rfl⟩
  have hb9 : (Value.int .u8 k :: bvs (Vint.fixed l 8)).length = 9 := by simp [bvs_len, hf8]
  have hkb : Value.int .u8 k = bv (UInt8.ofNat k.toNat) := by
    simp only [bv, UInt8.toNat_ofNat', Value.int.injEq, true_and]
    omega
  have hC3l : C3.toList = bvs D := by
    rw [hC3, hC2l, HD.out, List.take_left' hb9, List.drop_of_length_le (by rw [List.length_append, hb9, List.length_replicate]; omega), List.append_nil, hkb]
    simp [bvs]
  have hDl : D.length = 252 := by rw [HD.out]; simp [hf8, hd0.out]
  obtain ⟨W4, hW4⟩ : ∃ W4, W4 = W3.drew.setRow (w.heap.size + 1) C3 := ⟨_, rfl⟩
  have hg4 : W4.heap[w.heap.size + 1]? = some (.cells C3 5 (0, 0)) := by rw [hW4]; exact setRow_heap _ _ _ _ _ _ hg3
  have hB4 : Below w.heap.size w W4 := by
    have h1 := hB3.trans ((Ext.drew W3).mono hB3.size)
    rw [hW4]
    exact ⟨h1.os, h1.tape, h1.output, by simpa using h1.size, fun i hi => (setRow_other _ _ _ _ (by omega)).trans (h1.block i hi)⟩
  have hR : RdB W4 (some ⟨w.heap.size + 1, 0, none⟩) D := ⟨by rw [bvs_len]; omega, fun _ => ⟨_, rfl, fun j u hj => by
    have h1 := cell_of_row W4 (w.heap.size + 1) j _ _ _ hg4
    rw [← Array.getElem?_toList, hC3l, hj] at h1
    rw [Addr.add_lit, Nat.zero_add]
    exact h1⟩⟩
  have h5 := put_any (some ⟨w.heap.size + 1, 0, none⟩) D 252 W4 hR (by omega)
  simp only [Crc.put_len, hDl, Nat.reduceAdd] at h5
  have H5 := Lib.hid h5
  rw [← hC3, ← hW4]
  clear hC3 hW4 hg3 hg4 hC3l hC2l hC2s h5 hDl hR hs3
  go_wp2_with fail
  refine H5.out.mono ?_
  rintro e w5 ⟨A5, c5, rfl, ho5, hb5⟩
  go_wp2
  go_ret2
  exact ⟨A5, c5, rfl, ho5.mono hB4.size, ext_trans hB4 hb5⟩

set_option maxRecDepth 100000 in
set_option maxHeartbeats 1000000 in
theorem seal_any (p : Pg) (w : World) (hl : p.lsn < 18446744073709551616) (hA : RdB w p.a p.body) (hd : p.body.length ≤ 1000000) :
    Calls Tryz.prog 15 #[p.val] w fun e w' => ∃ A' c', e = .returned (.tuple #[.slice A' p.seal_.1.length c', .int .i64 (p.seal_.2 : Int)]) ∧ Own w' w.heap.size 5 1 A' p.seal_.1.length c' (bvs p.seal_.1) ∧ Below w.heap.size w w' := by
  obtain ⟨k, l, A, d, c⟩ := p
  simp only [Pg.val] at *
  by_cases hg : isKind k = true ∧ d.length = 243
  · have h1 : Pg.seal_ ⟨k, l, A, d, c⟩ = (Crc.put (UInt8.ofNat k.toNat :: Vint.fixed l 8 ++ d), 0) := by
      unfold Pg.seal_ Pg.good
      rw [if_pos (by simp [hg.1, hg.2])]
      rfl
    have h2 : (Crc.put (UInt8.ofNat k.toNat :: Vint.fixed l 8 ++ d)).length = 256 := by rw [Crc.put_len]; simp [fixed8_len, hg.2]
    rw [h1]
    simp only [h2]
    exact seal_good A k l d c w hl hA hg.1 hg.2
  · have h1 : Hid (Pg.seal_ ⟨k, l, A, d, c⟩ = ([], 50)) := by
      show _ = _
      unfold Pg.seal_ Pg.good
      rw [if_neg (by simpa using hg)]
    have hg2 : isKind k = true → ((d.length : Int) == 243) = false := fun h => by rw [beq_eq_false_iff_ne]; intro e; exact hg ⟨h, by omega⟩
    clear hg
    cases hk : isKind k with
    | false =>
      clear hg2
      go_enter Tryz.func15, Tryz.ntmps15
      go_wp2_with fail
      refine (kind_any k _).mono ?_
      rintro e w' ⟨rfl, rfl⟩
      rw [hk]
      go_wp2_with fail
      go_ret2
      rw [h1.out]
      exact ⟨none, 0, rfl, Own.none_ _ _ _ _ _, Ext.alloc w _⟩
    | true =>
      have hg3 := hg2 hk
      clear hg2
      go_enter Tryz.func15, Tryz.ntmps15
      go_wp2_with fail
      refine (kind_any k _).mono ?_
      rintro e w' ⟨rfl, rfl⟩
      rw [hk]
      go_wp2_with fail
      go_ret2
      rw [h1.out]
      exact ⟨none, 0, rfl, Own.none_ _ _ _ _ _, Ext.alloc w _⟩
end Go.Proofs.YtkpagmfaccmiaaaGreat

/- Contracts of opening (page.Open, scowref05.Open). UNDER WAY. -/

namespace Go.Proofs.YtkpagmfaccmiaaaGreat

open Go.RowKit

attribute [local go_sem] Oper.semAt_some

theorem results_row_tmpQ {P : Program} {fn : Func} {p u : Tmp} {ty : TypeId} (h : fn.results = #[.cell p ty, .tmp u]) (tmps : Array Value) (w : World) (g : Nat) (t : TypeId) (cs : Array Value) (fr : Nat × Nat) (d : TypeDesc)
    (hp : tmps.getD p undef = .pointer (some ⟨g, 0, none⟩)) (hg : w.heap[g]? = some (.cells cs t fr))
    (hu : P.underlying ty = some d) (hd : (match d with | .struct _ | .array _ _ => true | _ => false) = true) (hi : (P.info? ty).map (·.size) = some cs.size) :
    (results fn tmps).run P w = .ok (.tuple #[.agg cs, tmps.getD u undef]) w := by
  rw [results_cell_tmp h, hp]
  simp [asAddr, run_loadVar_row w g t ty cs fr d hg hu hd hi, Result.andThen]

def Pg.zero : Pg := ⟨0, 0, none, [], 0⟩
theorem Pg.zero_val : Pg.zero.val = .agg #[.int .i64 0, .int .u64 0, .slice none 0 0] := rfl

set_option maxRecDepth 100000 in
set_option maxHeartbeats 1000000 in
theorem open_short (A : Option Addr) (b : List UInt8) (cap : Nat) (w : World) (_hA : RdB w A b) (hl : b.length ≠ 256) :
    Calls Tryz.prog 23 #[.slice A b.length cap] w fun e w' => e = .returned (.tuple #[Pg.zero.val, .int .i64 50]) ∧ Below w.heap.size w w' := by
  have h1 : ((b.length : Int) == 256) = false := by rw [beq_eq_false_iff_ne]; omega
  go_enter Tryz.func23, Tryz.ntmps23
  go_wp2_with fail
  (try simp only [Exit.inBlock, Exit.then])
  refine bodyPost_ret (results_row_tmpQ rfl _ _ w.heap.size 50 #[.int .i64 0, .int .u64 0, .slice none 0 0] (0, 0) _ rfl (heap_alloc_new w _) Tryz.underlying50 rfl (by kernel_rfl)) rfl ?_
  exact ⟨rfl, Ext.alloc w _⟩

set_option maxRecDepth 100000 in
set_option maxHeartbeats 1000000 in
theorem open_check (A : Option Addr) (b : List UInt8) (cap : Nat) (w : World) (hA : RdB w A b) (hc : b.length ≤ cap) (hl : b.length = 256) (hok : Crc.ok b = false) :
    Calls Tryz.prog 23 #[.slice A b.length cap] w fun e w' => e = .returned (.tuple #[Pg.zero.val, .int .i64 51]) ∧ Below w.heap.size w w' := by
  have h1 : ((b.length : Int) == 256) = true := by rw [beq_iff_eq]; omega
  have hA1 := hA.below (Ext.alloc w (.cells #[.int .i64 0, .int .u64 0, .slice none 0 0] 50))
  have Hl := Lib.hid hl
  clear hl
  go_enter Tryz.func23, Tryz.ntmps23
  go_wp2_with fail
  refine (check_any A b cap _ hA1 (by rw [Hl.out]; omega) hc).mono ?_
  rintro e w1 ⟨A1, c1, rfl, ho1, hb1⟩
  rw [hok]
  have hg1 : w1.heap[w.heap.size]? = some (.cells #[.int .i64 0, .int .u64 0, .slice none 0 0] 50 (0, 0)) := (hb1.block _ (by simp)).trans (heap_alloc_new w _)
  go_wp2_with (first | ((refine wpList_store_row rfl 50 (.tmp 2) (.tmp 17) rfl w.heap.size #[.int .i64 0, .int .u64 0, .slice none 0 0] rfl rfl _ _ hg1 (by kernel_rfl) rfl (by kernel_rfl) ?_)))
  have hg2 := setRow_heap w1 w.heap.size _ #[.int .i64 0, .int .u64 0, .slice none 0 0] _ _ hg1

  (try simp only [Exit.inBlock, Exit.then])
  refine bodyPost_ret (results_row_tmpQ rfl _ _ w.heap.size 50 #[.int .i64 0, .int .u64 0, .slice none 0 0] (0, 0) _ rfl hg2 Tryz.underlying50 rfl (by kernel_rfl)) rfl ?_
  have h2 := ext_trans (Ext.alloc w _) hb1
  exact ⟨rfl, ⟨h2.os, h2.tape, h2.output, by simpa using h2.size, fun i hi => (setRow_other _ _ _ _ (by omega)).trans (h2.block i hi)⟩⟩
end Go.Proofs.YtkpagmfaccmiaaaGreat

/- Contract of opening (page.Open), the check held. Written by wip/tools/gen_open05.py. -/

namespace Go.Proofs.YtkpagmfaccmiaaaGreat

open Go.RowKit

attribute [local go_sem] Oper.semAt_some

set_option maxRecDepth 100000 in
set_option maxHeartbeats 1000000 in
theorem open_kind (A : Option Addr) (b : List UInt8) (cap : Nat) (w : World) (hA : RdB w A b) (hc : b.length ≤ cap) (hl : b.length = 256) (hok : Crc.ok b = true) (k : Nat) (hk : k = (b.headD 0).toNat) (hkk : isKind k = false) :
    Calls Tryz.prog 23 #[.slice A b.length cap] w fun e w' => e = .returned (.tuple #[Pg.zero.val, .int .i64 50]) ∧ Below w.heap.size w w' := by
  have h1 : ((b.length : Int) == 256) = true := by rw [beq_iff_eq]; omega
  have hA1 := hA.below (Ext.alloc w (.cells #[.int .i64 0, .int .u64 0, .slice none 0 0] 50))
  have hg := Crc.got_yes (p := b.take (b.length - 4)) rfl hok
  rw [hl] at hg
  obtain ⟨p, hp⟩ : ∃ p, p = b.take 252 := ⟨_, rfl⟩
  have hpl : p.length = 252 := by rw [hp]; simp; omega
  have hp0 : ∀ h : 0 < p.length, (p[0]'h).toNat = k := fun h => by
    subst hp
    cases b with
    | nil => simp at h
    | cons x xs => simp [hk]
  have hgp : Crc.got b = p := by rw [hg, hp]
  clear hg
  have Hl := Lib.hid hl
  have Hgp := Lib.hid hgp
  have Hp := Lib.hid hp
  have Hpl := Lib.hid hpl
  have hwk : IntKind.i64.wrap (k : Int) = k := by have : k < 256 := by rw [hk]; exact (b.headD 0).toNat_lt
                                                  simp [IntKind.wrap, IntKind.bits, IntKind.signed]; omega
  clear hl hgp hp hpl hk
  go_enter Tryz.func23, Tryz.ntmps23
  go_wp2_with fail
  refine (check_any A b cap _ hA1 (by rw [Hl.out]; omega) hc).mono ?_
  rintro e w1 ⟨A1, c1, rfl, ho1, hb1⟩
  rw [hok]
  rw [Hgp.out] at ho1
  have hgl : Hid ((Crc.got b).length = 252) := by show _ = _; rw [Hgp.out, Hpl.out]
  rw [hgl.out]
  have hr1 := ho1.rd'
  obtain ⟨ad, hA1e, hcell⟩ := hr1.at_ (k := 0) (by rw [Hpl.out]; omega)
  rw [hp0] at hcell
  have hcn : 252 ≤ c1 := by have h9 := ho1.nc; rw [Hpl.out] at h9; exact h9
  obtain ⟨g1, o1, hA2, hgw⟩ : ∃ g1 o1, A1 = some ⟨g1, o1, none⟩ ∧ w.heap.size + 1 ≤ g1 := by
    rcases ho1.mem with h0 | ⟨g, off, cur, h1, h2, _⟩
    · omega
    · exact ⟨g, off, h1, by simpa using h2⟩
  have had : ad = ⟨g1, o1, none⟩ := by rw [hA2] at hA1e; cases hA1e; rfl
  subst hA2
  subst had
  rw [Addr.add_lit, Nat.add_zero] at hcell
  clear hA1e
  have hg1 : w1.heap[w.heap.size]? = some (.cells #[.int .i64 0, .int .u64 0, .slice none 0 0] 50 (0, 0)) := (hb1.block _ (by simp)).trans (heap_alloc_new w _)
  go_wp2_with fail
  refine (kind_any k _).mono ?_
  rintro e w' ⟨rfl, rfl⟩
  rw [hkk]
  go_wp2_with (first | ((refine wpList_store_row rfl 50 (.tmp 2) (.tmp 24) rfl w.heap.size #[.int .i64 0, .int .u64 0, .slice none 0 0] rfl rfl _ _ hg1 (by kernel_rfl) rfl (by kernel_rfl) ?_)))
  have hg2 := setRow_heap w1 w.heap.size _ #[.int .i64 0, .int .u64 0, .slice none 0 0] _ _ hg1
  (try simp only [Exit.inBlock, Exit.then])
  refine bodyPost_ret (results_row_tmpQ rfl _ _ w.heap.size 50 #[.int .i64 0, .int .u64 0, .slice none 0 0] (0, 0) _ rfl hg2 Tryz.underlying50 rfl (by kernel_rfl)) rfl ?_
  have h2 := ext_trans (Ext.alloc w _) hb1
  exact ⟨rfl, ⟨h2.os, h2.tape, h2.output, by simpa using h2.size, fun i hi => (setRow_other _ _ _ _ (by omega)).trans (h2.block i hi)⟩⟩

set_option maxRecDepth 100000 in
set_option maxHeartbeats 1000000 in
theorem open_good2 (A : Option Addr) (b : List UInt8) (cap : Nat) (w : World) (hA : RdB w A b) (hc : b.length ≤ cap) (hl : b.length = 256) (hok : Crc.ok b = true) (k : Nat) (hk : k = (b.headD 0).toNat) (hkk : isKind k = true) :
    Calls Tryz.prog 23 #[.slice A b.length cap] w fun e w' => ∃ q : Pg, e = .returned (.tuple #[q.val, .int .i64 0]) ∧ q.kind = k ∧ q.lsn = Vint.number ((b.drop 1).take 8) ∧ q.body = (b.take 252).drop 9 ∧ RdB w' q.a q.body ∧ (q.c = 243 ∧ ∃ g o, q.a = some ⟨g, o, none⟩) ∧ Below w.heap.size w w' := by
  have h1 : ((b.length : Int) == 256) = true := by rw [beq_iff_eq]; omega
  have hA1 := hA.below (Ext.alloc w (.cells #[.int .i64 0, .int .u64 0, .slice none 0 0] 50))
  have hg := Crc.got_yes (p := b.take (b.length - 4)) rfl hok
  rw [hl] at hg
  obtain ⟨p, hp⟩ : ∃ p, p = b.take 252 := ⟨_, rfl⟩
  have hpl : p.length = 252 := by rw [hp]; simp; omega
  have hp0 : ∀ h : 0 < p.length, (p[0]'h).toNat = k := fun h => by
    subst hp
    cases b with
    | nil => simp at h
    | cons x xs => simp [hk]
  have hgp : Crc.got b = p := by rw [hg, hp]
  clear hg
  have Hl := Lib.hid hl
  have Hgp := Lib.hid hgp
  have Hp := Lib.hid hp
  have Hpl := Lib.hid hpl
  have hwk : IntKind.i64.wrap (k : Int) = k := by have : k < 256 := by rw [hk]; exact (b.headD 0).toNat_lt
                                                  simp [IntKind.wrap, IntKind.bits, IntKind.signed]; omega
  clear hl hgp hp hpl hk
  go_enter Tryz.func23, Tryz.ntmps23
  go_wp2_with fail
  refine (check_any A b cap _ hA1 (by rw [Hl.out]; omega) hc).mono ?_
  rintro e w1 ⟨A1, c1, rfl, ho1, hb1⟩
  rw [hok]
  rw [Hgp.out] at ho1
  have hgl : Hid ((Crc.got b).length = 252) := by show _ = _; rw [Hgp.out, Hpl.out]
  rw [hgl.out]
  have hr1 := ho1.rd'
  obtain ⟨ad, hA1e, hcell⟩ := hr1.at_ (k := 0) (by rw [Hpl.out]; omega)
  rw [hp0] at hcell
  have hcn : 252 ≤ c1 := by have h9 := ho1.nc; rw [Hpl.out] at h9; exact h9
  obtain ⟨g1, o1, hA2, hgw⟩ : ∃ g1 o1, A1 = some ⟨g1, o1, none⟩ ∧ w.heap.size + 1 ≤ g1 := by
    rcases ho1.mem with h0 | ⟨g, off, cur, h1, h2, _⟩
    · omega
    · exact ⟨g, off, h1, by simpa using h2⟩
  have had : ad = ⟨g1, o1, none⟩ := by rw [hA2] at hA1e; cases hA1e; rfl
  subst hA2
  subst had
  rw [Addr.add_lit, Nat.add_zero] at hcell
  clear hA1e
  have hg1 : w1.heap[w.heap.size]? = some (.cells #[.int .i64 0, .int .u64 0, .slice none 0 0] 50 (0, 0)) := (hb1.block _ (by simp)).trans (heap_alloc_new w _)
  go_wp2_with fail
  refine (kind_any k _).mono ?_
  rintro e w' ⟨rfl, rfl⟩
  rw [hkk]
  go_wp2_with fail
  have hL := hr1.cut (k := 1) (m := 9) (by omega) (by rw [Hpl.out]; omega) (c := 9) (by omega)
  have hB := hr1.cut (k := 9) (m := 252) (by omega) (by rw [Hpl.out]; omega) (c := 252) (by omega)
  obtain ⟨L, hL0⟩ : ∃ L, L = (p.take 9).drop 1 := ⟨_, rfl⟩
  obtain ⟨D, hD0⟩ : ∃ D, D = (p.take 252).drop 9 := ⟨_, rfl⟩
  rw [← hL0] at hL
  rw [← hD0] at hB
  have hLl : L.length = 8 := by rw [hL0]; simp [Hpl.out]
  have hDl : D.length = 243 := by rw [hD0]; simp [Hpl.out]
  have HL := Lib.hid hL0
  have HD := Lib.hid hD0
  have HDl := Lib.hid hDl
  simp only [show ¬ (9 : Nat) = 1 by omega, show ¬ (252 : Nat) = 9 by omega, if_false, Option.map_some, Addr.add_lit] at hL hB
  have hc9 : (9 : Int) ≤ (c1 : Int) := by omega
  have hc252 : (252 : Int) ≤ (c1 : Int) := by omega
  have hn := fun W (h : RdB W (some ⟨g1, o1 + 1, none⟩) L) => number_any (some ⟨g1, o1 + 1, none⟩) L 8 W h (by rw [hLl]; omega)
  simp only [hLl] at hn
  have Hn := Lib.hid hn
  have hext := Ext.drew w1
  have hcd := hext.load hcell
  clear hL0 hD0 hLl hDl hn
  refine rg_start (by kernel_rfl) ?_
  refine rg_take 0 rfl (by kernel_rfl) (by kernel_rfl) (by kernel_rfl) (fun _ _ _ _ h => h) (by rfl) ⟨_, fun w' hx => by (go_simp <;> with_reducible rfl), ?_⟩
  simp only [Act.put, List.setIfInBounds_toArray, List.set_cons_zero, List.set_cons_succ]
  refine rg_take 1 rfl (by kernel_rfl) (by kernel_rfl) (by kernel_rfl) (fun _ _ _ _ h => h) (by rfl) ⟨_, fun w' hx => by (go_simp <;> with_reducible rfl), ?_⟩
  simp only [Act.put, List.setIfInBounds_toArray, List.set_cons_zero, List.set_cons_succ]
  refine rg_take 2 rfl (by kernel_rfl) (by kernel_rfl) (by kernel_rfl) (fun _ _ _ _ h => h) (by rfl) ⟨_, fun w' hx => by have hcx := hx.load hcd; (go_simp <;> with_reducible rfl), ?_⟩
  simp only [Act.put, List.setIfInBounds_toArray, List.set_cons_zero, List.set_cons_succ]
  refine rg_take 3 rfl (by kernel_rfl) (by kernel_rfl) (by kernel_rfl) (fun _ _ _ _ h => h) (by rfl) ⟨_, fun w' hx => by (go_simp <;> with_reducible rfl), ?_⟩
  simp only [Act.put, List.setIfInBounds_toArray, List.set_cons_zero, List.set_cons_succ]
  refine rg_take 4 rfl (by kernel_rfl) (by kernel_rfl) (by kernel_rfl) (fun _ _ _ _ h => h) (by rfl) ⟨_, fun w' hx => by (go_simp <;> with_reducible rfl), ?_⟩
  simp only [Act.put, List.setIfInBounds_toArray, List.set_cons_zero, List.set_cons_succ]
  refine rg_take 5 rfl (by kernel_rfl) (by kernel_rfl) (by kernel_rfl) (fun _ _ _ _ h => h) (by rfl) ⟨_, fun w' hx => by (go_simp <;> with_reducible rfl), ?_⟩
  simp only [Act.put, List.setIfInBounds_toArray, List.set_cons_zero, List.set_cons_succ]
  refine rg_take 7 rfl (by kernel_rfl) (by kernel_rfl) (by kernel_rfl) (fun _ _ _ _ h => h) (by rfl) ⟨_, fun w' hx => by (go_simp <;> with_reducible rfl), ?_⟩
  simp only [Act.put, List.setIfInBounds_toArray, List.set_cons_zero, List.set_cons_succ]
  refine rg_take 8 rfl (by kernel_rfl) (by kernel_rfl) (by kernel_rfl) (fun _ _ _ _ h => h) (by rfl) ⟨_, fun w' hx => by (go_simp <;> with_reducible rfl), ?_⟩
  simp only [Act.put, List.setIfInBounds_toArray, List.set_cons_zero, List.set_cons_succ]
  refine rg_call 6 (Hn.out _ (hL.below hext)) rfl (by kernel_rfl) (by rfl) (by go_simp) ?_
  rintro e w2 ⟨rfl, rfl⟩
  refine ⟨_, rfl, Ext.refl _, ?_⟩
  simp only [Act.put, List.setIfInBounds_toArray, List.set_cons_zero, List.set_cons_succ]
  refine rg_take 9 rfl (by kernel_rfl) (by kernel_rfl) (by kernel_rfl) (fun _ _ _ _ h => h) (by rfl) ⟨_, fun w' hx => by (go_simp <;> with_reducible rfl), ?_⟩
  simp only [Act.put, List.setIfInBounds_toArray, List.set_cons_zero, List.set_cons_succ]
  refine rg_last 10 rfl (by kernel_rfl) (by kernel_rfl) (by rfl) fun K hK => wp_store_row 50 (.tmp 2) (.tmp 34) rfl w.heap.size #[.int .i64 k, .int .u64 (Vint.number L : Nat), .slice (some ⟨g1, o1 + 9, none⟩) 243 243] rfl rfl _ _ ((hext.block _ (lt_of_heap hg1)).trans hg1) (by kernel_rfl) rfl (by simp [Value.oneCell']) (hK _ _ ?_)
  simp only [Act.put, List.setIfInBounds_toArray, List.set_cons_zero, List.set_cons_succ]
  refine rg_take 11 rfl (by kernel_rfl) (by kernel_rfl) (by kernel_rfl) (fun _ _ _ _ h => h) (by rfl) ⟨_, fun w' hx => by (go_simp <;> with_reducible rfl), ?_⟩
  simp only [Act.put, List.setIfInBounds_toArray, List.set_cons_zero, List.set_cons_succ]
  refine rg_done (by kernel_rfl) ?_
  have hg2 := setRow_heap w1.drew w.heap.size _ #[.int .i64 k, .int .u64 (Vint.number L : Nat), .slice (some ⟨g1, o1 + 9, none⟩) 243 243] _ _ ((hext.block _ (lt_of_heap hg1)).trans hg1)
  go_wp2_with fail
  (try simp only [Exit.inBlock, Exit.then])
  refine bodyPost_ret (results_row_tmpQ rfl _ _ w.heap.size 50 #[.int .i64 k, .int .u64 (Vint.number L : Nat), .slice (some ⟨g1, o1 + 9, none⟩) 243 243] (0, 0) _ rfl hg2 Tryz.underlying50 rfl (by kernel_rfl)) rfl ?_
  have h2 := (ext_trans (Ext.alloc w _) hb1).drew
  refine ⟨⟨k, Vint.number L, some ⟨g1, o1 + 9, none⟩, D, 243⟩, ?_, rfl, ?_, ?_, ?_, ⟨rfl, _, _, rfl⟩, ?_⟩
  · show _ = _
    simp only [Pg.val, HDl.out]
    rfl
  · show Vint.number L = _
    rw [HL.out, Hp.out]
    congr 1
    rw [List.take_take, List.drop_take]
    rfl
  · show D = _
    rw [HD.out, Hp.out, List.take_take, Nat.min_self]
  · exact Rd.grown (row := some w.heap.size) hB ⟨rfl, rfl, rfl, by simp, fun i hi hne => setRow_other _ _ _ _ (fun e => hne (by rw [e]))⟩ (fun ad h => by cases h; simp only [ne_eq, Option.some.injEq]; omega)
  · exact ⟨h2.os, h2.tape, h2.output, by simpa using h2.size, fun i hi => (setRow_other _ _ _ _ (by omega)).trans (h2.block i hi)⟩
theorem open_good (A : Option Addr) (b : List UInt8) (cap : Nat) (w : World) (hA : RdB w A b) (hc : b.length ≤ cap) (hl : b.length = 256) (hok : Crc.ok b = true) (k : Nat) (hk : k = (b.headD 0).toNat) (hkk : isKind k = true) :
    Calls Tryz.prog 23 #[.slice A b.length cap] w fun e w' => ∃ q : Pg, e = .returned (.tuple #[q.val, .int .i64 0]) ∧ q.kind = k ∧ q.lsn = Vint.number ((b.drop 1).take 8) ∧ q.body = (b.take 252).drop 9 ∧ RdB w' q.a q.body ∧ Below w.heap.size w w' :=
  (open_good2 A b cap w hA hc hl hok k hk hkk).mono fun _ _ ⟨q, h0, h1, h2, h3, h4, _, h5⟩ => ⟨q, h0, h1, h2, h3, h4, h5⟩
end Go.Proofs.YtkpagmfaccmiaaaGreat

/- Contract of the reference's opening (scowref05.Open). Written by wip/tools/gen_open05r.py. -/

namespace Go.Proofs.YtkpagmfaccmiaaaGreat

open Go.RowKit

attribute [local go_sem] Oper.semAt_some
end Go.Proofs.YtkpagmfaccmiaaaGreat

/- Why a sum tells what is turned within 32 neighbouring bits: bytes as one number, a sum as that number shifted through the register; the shift loses nothing of 32 bits. -/

namespace Go.Proofs.YtkpagmfaccmiaaaGreat.Crc

def iter (f : Nat → Nat) : Nat → Nat → Nat
  | 0, c => c
  | k + 1, c => iter f k (f c)
theorem iter_add (f : Nat → Nat) (a b c : Nat) : iter f (a + b) c = iter f b (iter f a c) := by
  induction a generalizing c with
  | zero => rw [Nat.zero_add]; rfl
  | succ a ih => rw [show a + 1 + b = (a + b) + 1 by omega]; exact ih (f c)
theorem iter_xor (k a b : Nat) : iter bit k (a ^^^ b) = iter bit k a ^^^ iter bit k b := by
  induction k generalizing a b with
  | zero => rfl
  | succ k ih => show iter bit k (bit (a ^^^ b)) = _; rw [bit_xor, ih]; rfl
theorem iter_shift (k s m : Nat) : iter bit (s + k) (2 ^ s * m) = iter bit k m := by
  induction s generalizing m with
  | zero => rw [Nat.zero_add, Nat.pow_zero, Nat.one_mul]
  | succ s ih =>
    rw [show s + 1 + k = (s + k) + 1 by omega]
    show iter bit (s + k) (bit (2 ^ (s + 1) * m)) = _
    rw [Nat.pow_succ, Nat.mul_comm (2 ^ s) 2, Nat.mul_assoc, bit_even]
    exact ih m
theorem bit_ne {c : Nat} (h : c < 4294967296) (h0 : c ≠ 0) : bit c ≠ 0 := by
  intro e
  unfold bit at e
  have e2 : c / 2 = 2197175160 * (c % 2) := by
    have e3 := congrArg (c / 2 ^^^ ·) e
    simp only [← Nat.xor_assoc, Nat.xor_self, Nat.zero_xor, Nat.xor_zero] at e3
    exact e3.symm
  rcases mod_two c with h1 | h1 <;> rw [h1] at e2 <;> omega
theorem iter_ne (k : Nat) {c : Nat} (h : c < 4294967296) (h0 : c ≠ 0) : iter bit k c ≠ 0 := by
  induction k generalizing c with
  | zero => exact h0
  | succ k ih => exact ih (bit_lt h) (bit_ne h h0)

/-- Bytes as one number, the first the lowest. -/
def le : List UInt8 → Nat
  | [] => 0
  | b :: t => b.toNat ^^^ (256 * le t)
theorem mul_xor (s a b : Nat) : 2 ^ s * (a ^^^ b) = 2 ^ s * a ^^^ 2 ^ s * b := by
  have h : ∀ x : Nat, 2 ^ s * x = x <<< s := fun x => by rw [Nat.shiftLeft_eq, Nat.mul_comm]
  rw [h, h, h]; exact Nat.shiftLeft_xor_distrib
theorem byte_iter (c b : Nat) : byte c b = iter bit 8 (c ^^^ b) := by
  unfold byte
  rw [← four_bits, ← four_bits]
  rfl
theorem over_le (l : List UInt8) : ∀ c : Nat, over c l = iter bit (8 * l.length) (c ^^^ le l) := by
  induction l with
  | nil => intro c; simp [over, le, iter]
  | cons b t ih =>
    intro c
    show over (byte c b.toNat) t = _
    rw [ih, byte_iter, List.length_cons, show 8 * (t.length + 1) = 8 + 8 * t.length by omega, iter_add]
    congr 1
    have h := iter_shift 0 8 (le t)
    rw [show iter bit 0 (le t) = le t from rfl, Nat.add_zero] at h
    rw [← h, ← iter_xor]
    congr 1
    show (c ^^^ b.toNat) ^^^ 2 ^ 8 * le t = c ^^^ (b.toNat ^^^ 256 * le t)
    rw [Nat.xor_assoc]
theorem le_set (l : List UInt8) (i : Nat) (h : i < l.length) (x : UInt8) : le (l.set i (l[i] ^^^ x)) = le l ^^^ (2 ^ (8 * i) * x.toNat) := by
  induction l generalizing i with
  | nil => simp at h
  | cons b t ih =>
    cases i with
    | zero =>
      simp only [List.set_cons_zero, List.getElem_cons_zero, le, UInt8.toNat_xor, Nat.mul_zero, Nat.pow_zero, Nat.one_mul]
      rw [Nat.xor_assoc, Nat.xor_comm x.toNat, ← Nat.xor_assoc]
    | succ i =>
      simp only [List.length_cons, Nat.add_lt_add_iff_right] at h
      simp only [List.set_cons_succ, List.getElem_cons_succ, le]
      rw [ih i h, show 256 * (le t ^^^ 2 ^ (8 * i) * x.toNat) = 2 ^ 8 * (le t ^^^ 2 ^ (8 * i) * x.toNat) from rfl, mul_xor, ← Nat.mul_assoc, ← Nat.pow_add, show 8 + 8 * i = 8 * (i + 1) by omega, Nat.xor_assoc]
theorem sum_eq {l m : List UInt8} (hl : l.length = m.length) (h : sum l = sum m) : iter bit (8 * l.length) (le l ^^^ le m) = 0 := by
  unfold sum more flip at h
  have h1 := over_lt (c := 4294967295 - 0) (by omega) l
  have h2 := over_lt (c := 4294967295 - 0) (by omega) m
  have h3 : over (4294967295 - 0) l = over (4294967295 - 0) m := by omega
  rw [over_le, over_le, ← hl, iter_xor, iter_xor] at h3
  rw [iter_xor]
  have h4 : ∀ a b c : Nat, a ^^^ b = a ^^^ c → b ^^^ c = 0 := by
    intro a b c h
    have := congrArg (a ^^^ ·) h
    simp only [← Nat.xor_assoc, Nat.xor_self, Nat.zero_xor] at this
    rw [this, Nat.xor_self]
  exact h4 _ _ _ h3
/-- Bits turned that all lie within 32 neighbouring ones: another sum. -/
theorem burst_ne {p q : List UInt8} (hl : q.length = p.length) (s m : Nat) (hs : s ≤ 8 * p.length) (hm : m < 4294967296) (h0 : m ≠ 0) (hq : le q = le p ^^^ 2 ^ s * m) : sum q ≠ sum p := by
  intro h
  have h1 := sum_eq hl h
  have h2 : le q ^^^ le p = 2 ^ s * m := by rw [hq, Nat.xor_comm (le p), Nat.xor_assoc, Nat.xor_self, Nat.xor_zero]
  rw [h2, hl, show 8 * p.length = s + (8 * p.length - s) by omega, iter_shift] at h1
  exact iter_ne _ hm h0 h1
theorem four_inj {a b : Nat} (ha : a < 4294967296) (hb : b < 4294967296) (h : four a = four b) : a = b := by
  simp only [four, List.cons.injEq, and_true, ← UInt8.toNat_inj, UInt8.toNat_ofNat'] at h
  omega
/-- Other bytes of another sum ahead of the old sum: not taken. -/
theorem not_ok {p q : List UInt8} (_hl : q.length = p.length) (h : sum q ≠ sum p) : ok (q ++ four (sum p)) = false := by
  rw [ok_of (p := q) (by simp [four_len]) (by simp [four_len])]
  rw [beq_eq_false_iff_ne]
  intro e
  unfold put at e
  exact h (four_inj (sum_lt _) (sum_lt _) (List.append_cancel_left e))
theorem byte_not_ok (p : List UInt8) (i : Nat) (hi : i < (put p).length) (x : UInt8) (hx : x ≠ 0) : ok ((put p).set i ((put p)[i] ^^^ x)) = false := by
  have hx' : x.toNat ≠ 0 := fun h => hx (by rw [← UInt8.toNat_inj]; simpa using h)
  by_cases h : i < p.length
  · have e1 : (put p)[i] = p[i] := by unfold put; exact List.getElem_append_left h
    have e2 : (put p).set i ((put p)[i] ^^^ x) = p.set i (p[i] ^^^ x) ++ four (sum p) := by rw [e1]; unfold put; exact List.set_append_left _ _ h
    rw [e2]
    refine not_ok (by simp) (burst_ne (by simp) (8 * i) x.toNat (by omega) (by have := x.toNat_lt; omega) hx' (le_set p i h x))
  · have hl := put_len p
    have e3 : ((put p).set i ((put p)[i] ^^^ x)).take p.length = p := by
      rw [List.take_set_of_le (by omega)]
      unfold put
      exact List.take_left
    rw [ok_of (p := p) (by rw [List.length_set]; omega) (by rw [List.length_set, hl, Nat.add_sub_cancel, e3]), beq_eq_false_iff_ne]
    intro e
    have e4 := congrArg (fun l => l[i]?) e
    simp only [List.getElem?_set, hi, if_true, List.getElem?_eq_getElem hi, Option.some.injEq] at e4
    have e5 := congrArg (fun y => (put p)[i] ^^^ y) e4
    simp only [UInt8.xor_self, ← UInt8.xor_assoc, UInt8.zero_xor] at e5
    exact hx e5.symm
end Go.Proofs.YtkpagmfaccmiaaaGreat.Crc

/- Opening in one contract each (page.Open, scowref05.Open), and plain facts on sealed pages. -/

namespace Go.Proofs.YtkpagmfaccmiaaaGreat

open Go.RowKit

/-- What opening says of bytes: the error, and the page's parts. -/
def Pg.err (b : List UInt8) : Nat := if b.length = 256 then (if Crc.ok b then (if isKind (b.headD 0).toNat then 0 else 50) else 51) else 50
def Pg.parts (b : List UInt8) : Int × Nat × List UInt8 := if Pg.err b = 0 then (((b.headD 0).toNat : Int), Vint.number ((b.drop 1).take 8), (b.take 252).drop 9) else (0, 0, [])
def Pg.is (q : Pg) (x : Int × Nat × List UInt8) : Prop := q.kind = x.1 ∧ q.lsn = x.2.1 ∧ q.body = x.2.2

theorem Pg.zero_is : Pg.zero.is (0, 0, []) := ⟨rfl, rfl, rfl⟩
theorem Pg.zero_rd (w : World) : RdB w Pg.zero.a Pg.zero.body := RdB.nil_ _ _

theorem open_any (A : Option Addr) (b : List UInt8) (cap : Nat) (w : World) (hA : RdB w A b) (hc : b.length ≤ cap) :
    Calls Tryz.prog 23 #[.slice A b.length cap] w fun e w' => ∃ q : Pg, e = .returned (.tuple #[q.val, .int .i64 (Pg.err b : Nat)]) ∧ q.is (Pg.parts b) ∧ RdB w' q.a q.body ∧ Below w.heap.size w w' := by
  unfold Pg.parts Pg.err
  by_cases hl : b.length = 256
  · rw [if_pos hl]
    cases hok : Crc.ok b with
    | false =>
      refine (open_check A b cap w hA hc hl hok).mono ?_
      rintro e w' ⟨rfl, h⟩
      exact ⟨Pg.zero, rfl, Pg.zero_is, Pg.zero_rd _, h⟩
    | true =>
      cases hk : isKind ((b.headD 0).toNat : Int) with
      | false =>
        refine (open_kind A b cap w hA hc hl hok _ rfl hk).mono ?_
        rintro e w' ⟨rfl, h⟩
        exact ⟨Pg.zero, rfl, Pg.zero_is, Pg.zero_rd _, h⟩
      | true =>
        refine (open_good A b cap w hA hc hl hok _ rfl hk).mono ?_
        rintro e w' ⟨q, rfl, h1, h2, h3, h4, h5⟩
        exact ⟨q, rfl, ⟨h1, h2, h3⟩, h4, h5⟩
  · rw [if_neg hl]
    refine (open_short A b cap w hA hl).mono ?_
    rintro e w' ⟨rfl, h⟩
    exact ⟨Pg.zero, rfl, Pg.zero_is, Pg.zero_rd _, h⟩

/-- As open_any; and where the body's bytes lie. -/
theorem open_any2 (A : Option Addr) (b : List UInt8) (cap : Nat) (w : World) (hA : RdB w A b) (hc : b.length ≤ cap) :
    Calls Tryz.prog 23 #[.slice A b.length cap] w fun e w' => ∃ q : Pg, e = .returned (.tuple #[q.val, .int .i64 (Pg.err b : Nat)]) ∧ q.is (Pg.parts b) ∧ RdB w' q.a q.body ∧ (Pg.err b = 0 → q.c = 243 ∧ ∃ g o, q.a = some ⟨g, o, none⟩) ∧ Below w.heap.size w w' := by
  by_cases h0 : Pg.err b = 0
  · have h9 := h0
    unfold Pg.err at h0
    by_cases hl : b.length = 256
    · rw [if_pos hl] at h0
      by_cases hok : Crc.ok b = true
      · rw [if_pos hok] at h0
        by_cases hk : isKind ((b.headD 0).toNat : Int) = true
        · refine (open_good2 A b cap w hA hc hl hok _ rfl hk).mono ?_
          rintro e w' ⟨q, rfl, h1, h2, h3, h4, h5, h6⟩
          refine ⟨q, by rw [h9]; rfl, ?_, h4, fun _ => h5, h6⟩
          unfold Pg.parts
          rw [if_pos h9]
          exact ⟨h1, h2, h3⟩
        · rw [if_neg hk] at h0; cases h0
      · rw [if_neg hok] at h0; cases h0
    · rw [if_neg hl] at h0; cases h0
  · exact (open_any A b cap w hA hc).mono fun _ _ ⟨q, h1, h2, h3, h4⟩ => ⟨q, h1, h2, h3, fun e => absurd e h0, h4⟩

/-! ### plain -/

theorem number_fixed8 (n : Nat) (hn : n < 18446744073709551616) : Vint.number (Vint.fixed n 8) = n := by
  have : Vint.fixed n 8 = Vint.fixL n 8 := by unfold Vint.fixed; rw [if_pos (by omega)]; rfl
  rw [this]
  simp only [Vint.number, Vint.fixL_len, Nat.le_refl, if_true]
  simp only [Vint.numL, Vint.fixL, Vint.fixB, List.range, List.range.loop, List.map_cons, List.map_nil, List.foldl_cons, List.foldl_nil, UInt8.toNat_ofNat']
  simp only [Nat.reduceSub, Nat.reducePow]
  omega
theorem Crc.ok_put (p : List UInt8) : Crc.ok (Crc.put p) = true := by
  have hl := Crc.put_len p
  rw [Crc.ok_of (p := p) (by omega) (by rw [hl]; simp [Crc.put])]
  simp

theorem Pg.good_of {p : Pg} (h : p.seal_.2 = 0) : isKind p.kind = true ∧ p.body.length = 243 ∧ p.seal_.1 = Crc.put p.flat := by
  unfold Pg.seal_ at h ⊢
  cases hg : p.good with
  | false => rw [hg] at h; simp at h
  | true =>
    unfold Pg.good at hg
    simp only [Bool.and_eq_true, beq_iff_eq] at hg
    exact ⟨hg.1, hg.2, by simp⟩
theorem Pg.bad_of {p : Pg} (h : p.seal_.2 ≠ 0) : p.seal_ = ([], 50) := by
  unfold Pg.seal_ at h ⊢
  cases hg : p.good with
  | true => rw [hg] at h; simp at h
  | false => rfl
theorem Pg.seal_len {p : Pg} (h : p.seal_.2 = 0) : p.seal_.1.length = 256 := by
  obtain ⟨_, h2, h3⟩ := Pg.good_of h
  rw [h3, Crc.put_len]
  simp [Pg.flat, fixed8_len, h2]
theorem Pg.there {p : Pg} (hl : p.lsn < 18446744073709551616) (h : p.seal_.2 = 0) : Pg.err p.seal_.1 = 0 ∧ Pg.parts p.seal_.1 = (p.kind, p.lsn, p.body) := by
  obtain ⟨h1, h2, h3⟩ := Pg.good_of h
  have h4 := Pg.seal_len h
  have hk : 1 ≤ p.kind ∧ p.kind ≤ 5 := by unfold isKind at h1; simpa using h1
  have h5 : ((p.seal_.1.headD 0).toNat : Int) = p.kind := by
    rw [h3]
    simp only [Crc.put, Pg.flat, List.cons_append, List.headD_cons, UInt8.toNat_ofNat']
    omega
  have he : Pg.err p.seal_.1 = 0 := by
    unfold Pg.err
    rw [if_pos h4, h5, h1, h3, Crc.ok_put]
    rfl
  refine ⟨he, ?_⟩
  have hf := fixed8_len p.lsn
  unfold Pg.parts
  rw [if_pos he, h5, h3]
  have e1 : ((Crc.put p.flat).drop 1).take 8 = Vint.fixed p.lsn 8 := by
    simp only [Crc.put, Pg.flat, List.cons_append, List.drop_succ_cons, List.drop_zero, List.append_assoc]
    rw [List.take_left' hf]
  have e2 : ((Crc.put p.flat).take 252).drop 9 = p.body := by
    have : (Crc.put p.flat).take 252 = p.flat := by
      rw [Crc.put, List.take_left']
      simp [Pg.flat, hf, h2]
    rw [this]
    simp only [Pg.flat, List.cons_append, List.drop_succ_cons]
    rw [List.drop_left' hf]
  rw [e1, e2, number_fixed8 _ hl]
theorem Pg.same_is {p q : Pg} (h : q.is (p.kind, p.lsn, p.body)) : p.same q = true := by
  obtain ⟨h1, h2, h3⟩ := h
  unfold Pg.same
  rw [h1, h2, h3]
  simp
theorem Pg.same_two {p q : Pg} {x : Int × Nat × List UInt8} (h : p.is x) (k : q.is x) : p.same q = true := by
  obtain ⟨h1, h2, h3⟩ := h
  obtain ⟨k1, k2, k3⟩ := k
  unfold Pg.same
  rw [h1, h2, h3, k1, k2, k3]
  simp
/-- Unlike pages are unlike bytes. -/
theorem Pg.inj {p q : Pg} (hp : p.lsn < 18446744073709551616) (hq : q.lsn < 18446744073709551616) (h : p.seal_.2 = 0) (k : q.seal_.2 = 0) : (p.seal_.1 == q.seal_.1) = p.same q := by
  rw [Bool.eq_iff_iff, beq_iff_eq]
  constructor
  · intro e
    have h1 := (Pg.there hp h).2
    have h2 := (Pg.there hq k).2
    rw [e, h2] at h1
    exact Pg.same_is (p := p) (q := q) (by simp only [Prod.mk.injEq] at h1; exact h1)
  · intro e
    unfold Pg.same at e
    simp only [Bool.and_eq_true, beq_iff_eq, Int.natCast_inj] at e
    obtain ⟨⟨e1, e2⟩, e3⟩ := e
    rw [(Pg.good_of h).2.2, (Pg.good_of k).2.2]
    unfold Pg.flat
    rw [e1, e2, e3]
theorem Pg.turned {p : Pg} (h : p.seal_.2 = 0) (i : Nat) (hi : i < p.seal_.1.length) (x : UInt8) (hx : x ≠ 0) : Pg.err (p.seal_.1.set i (p.seal_.1[i] ^^^ x)) = 51 := by
  have h4 := Pg.seal_len h
  have h3 := (Pg.good_of h).2.2
  unfold Pg.err
  rw [if_pos (by rw [List.length_set]; exact h4)]
  have : Crc.ok (p.seal_.1.set i (p.seal_.1[i] ^^^ x)) = false := by
    have h5 := Crc.byte_not_ok p.flat i (by rw [← h3]; exact hi) x hx
    simp only [h3]
    exact h5
  rw [this]
  rfl

/-! ### a page as an argument -/

structure Pg.In (W : World) (p : Pg) : Prop where
  lsn : p.lsn < 18446744073709551616
  rd : RdB W p.a p.body
  cap : p.body.length ≤ p.c

section

open Go.ChangeShapes Go.WideShapes Go.ChangeAt Go.Joins

variable {H : Type} {enc : TypeId × Value → H} {W : World} {base : Nat} {spare : Nat → Bool} {held : Bool} {d : DataW H} {p : List MemPlace}

set_option maxRecDepth 100000 in
theorem open_Page {r : Reach} {b0 : Nat} {v : Value} (hv : Value.okWide Tryz.prog W r b0 50 v) (h : DataW.Trod enc Tryz.prog W base spare held 50 v d p) : ∃ q : Pg, v = q.val ∧ q.In W := by
  obtain ⟨c0, c1, c2, y0, y1, y2, m, rfl, rfl, rfl, hy0, hy1, hy2⟩ := open_agg3 Tryz.underlying50 (by kernel_rfl) (by kernel_rfl) hv h
  obtain ⟨x, e0, _, wx⟩ := DataW.trod_int Tryz.underlying3 hy0
  obtain ⟨y, e1, _, wy⟩ := DataW.trod_int Tryz.underlying22 hy1
  simp at e0 e1
  subst e0 e1
  have hsl : ∃ a len cap, c2 = .slice a len cap := by
    rcases open_ints Tryz.underlying25 Tryz.underlying5 (by kernel_rfl) hy2 with ⟨hcs, _⟩ | ⟨a, l, c, zs, hcs, _⟩
    · simp at hcs; exact ⟨_, _, _, hcs⟩
    · simp at hcs; exact ⟨_, _, _, hcs⟩
  obtain ⟨a, len, cap, rfl⟩ := hsl
  obtain ⟨bs, rfl, hr, hc⟩ := open_bytesB Tryz.underlying25 Tryz.underlying5 (by kernel_rfl) (h := ⟨m, by simpa [Value.cells] using hy2⟩)
  have hy : 0 ≤ y ∧ y < 18446744073709551616 := by
    simp [Lit.wf, IntKind.min, IntKind.max, IntKind.bits, IntKind.signed] at wy
    omega
  refine ⟨⟨x, y.toNat, a, bs, cap⟩, ?_, by show y.toNat < _; omega, hr, hc⟩
  simp only [Pg.val]
  rw [Int.toNat_of_nonneg hy.1]
end

end Go.Proofs.YtkpagmfaccmiaaaGreat
