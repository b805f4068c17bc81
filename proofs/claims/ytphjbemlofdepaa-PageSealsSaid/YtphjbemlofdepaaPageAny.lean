/- Opening in one contract each (page.Open, scowref05.Open), and plain facts on sealed pages. -/
import Derived.Test.YtphjbemlofdepaaPageOpenR
import Derived.Test.YtphjbemlofdepaaPageProg
import Derived.Test.YtphjbemlofdepaaCrcErr
import Derived.Test.YtphjbemlofdepaaLaw
import Derived.Lib.SmallJoins
namespace Go.Proofs.Ytphjbemlofdepaa
open Go.RowKit

/-- What opening says of bytes: the error, and the page's parts. -/
def Pg.err (b : List UInt8) : Nat := if b.length = 256 then (if Crc.ok b then (if isKind (b.headD 0).toNat then 0 else 50) else 51) else 50
def Pg.parts (b : List UInt8) : Int × Nat × List UInt8 := if Pg.err b = 0 then (((b.headD 0).toNat : Int), Vint.number ((b.drop 1).take 8), (b.take 252).drop 9) else (0, 0, [])
def Pg.is (q : Pg) (x : Int × Nat × List UInt8) : Prop := q.kind = x.1 ∧ q.lsn = x.2.1 ∧ q.body = x.2.2

theorem Pg.zero_is : Pg.zero.is (0, 0, []) := ⟨rfl, rfl, rfl⟩
theorem Pg.zero_rd (w : World) : RdB w Pg.zero.a Pg.zero.body := RdB.nil_ _ _

theorem open_any (A : Option Addr) (b : List UInt8) (cap : Nat) (w : World) (hA : RdB w A b) (hc : b.length ≤ cap) :
    Calls Try.prog 9 #[.slice A b.length cap] w fun e w' => ∃ q : Pg, e = .returned (.tuple #[q.val, .int .i64 (Pg.err b : Nat)]) ∧ q.is (Pg.parts b) ∧ RdB w' q.a q.body ∧ Below w.heap.size w w' := by
  unfold Pg.parts Pg.err
  by_cases hl : b.length = 256
  · rw [if_pos hl]
    cases hok : Crc.ok b with
    | false =>
      refine (open_check A b cap w hA hc hl hok).mono ?_
      rintro e w' ⟨rfl, h⟩
      exact ⟨Pg.zero, rfl, Pg.zero_is, Pg.zero_rd _, h⟩
    | true =>
      cases hk : isKind ((b.headD 0).toNat : Int) with
      | false =>
        refine (open_kind A b cap w hA hc hl hok _ rfl hk).mono ?_
        rintro e w' ⟨rfl, h⟩
        exact ⟨Pg.zero, rfl, Pg.zero_is, Pg.zero_rd _, h⟩
      | true =>
        refine (open_good A b cap w hA hc hl hok _ rfl hk).mono ?_
        rintro e w' ⟨q, rfl, h1, h2, h3, h4, h5⟩
        exact ⟨q, rfl, ⟨h1, h2, h3⟩, h4, h5⟩
  · rw [if_neg hl]
    refine (open_short A b cap w hA hl).mono ?_
    rintro e w' ⟨rfl, h⟩
    exact ⟨Pg.zero, rfl, Pg.zero_is, Pg.zero_rd _, h⟩

theorem ref_open (A : Option Addr) (b : List UInt8) (cap : Nat) (w : World) (hA : RdB w A b) (hc : b.length ≤ cap) :
    Calls Try.prog 10 #[.slice A b.length cap] w fun e w' => ∃ q : Pg, e = .returned (.tuple #[q.val, .int .i64 (Pg.err b : Nat)]) ∧ q.is (Pg.parts b) ∧ RdB w' q.a q.body ∧ Below w.heap.size w w' := by
  unfold Pg.parts Pg.err
  by_cases hl : b.length = 256
  · rw [if_pos hl]
    cases hok : Crc.ok b with
    | false =>
      refine (ref_open_check A b cap w hA hc hl hok).mono ?_
      rintro e w' ⟨rfl, h⟩
      exact ⟨Pg.zero, rfl, Pg.zero_is, Pg.zero_rd _, h⟩
    | true =>
      cases hk : isKind ((b.headD 0).toNat : Int) with
      | false =>
        refine (ref_open_kind A b cap w hA hc hl hok _ rfl hk).mono ?_
        rintro e w' ⟨rfl, h⟩
        exact ⟨Pg.zero, rfl, Pg.zero_is, Pg.zero_rd _, h⟩
      | true =>
        refine (ref_open_good A b cap w hA hc hl hok _ rfl hk).mono ?_
        rintro e w' ⟨q, rfl, h1, h2, h3, h4, h5⟩
        exact ⟨q, rfl, ⟨h1, h2, h3⟩, h4, h5⟩
  · rw [if_neg hl]
    refine (ref_open_short A b cap w hA hl).mono ?_
    rintro e w' ⟨rfl, h⟩
    exact ⟨Pg.zero, rfl, Pg.zero_is, Pg.zero_rd _, h⟩

/-! ### plain -/
theorem number_fixed8 (n : Nat) (hn : n < 18446744073709551616) : Vint.number (Vint.fixed n 8) = n := by
  have : Vint.fixed n 8 = Vint.fixL n 8 := by unfold Vint.fixed; rw [if_pos (by omega)]; rfl
  rw [this]
  simp only [Vint.number, Vint.fixL_len, Nat.le_refl, if_true]
  simp only [Vint.numL, Vint.fixL, Vint.fixB, List.range, List.range.loop, List.map_cons, List.map_nil, List.foldl_cons, List.foldl_nil, UInt8.toNat_ofNat']
  simp only [Nat.reduceSub, Nat.reducePow]
  omega
theorem Crc.ok_put (p : List UInt8) : Crc.ok (Crc.put p) = true := by
  have hl := Crc.put_len p
  rw [Crc.ok_of (p := p) (by omega) (by rw [hl]; simp [Crc.put])]
  simp

theorem Pg.good_of {p : Pg} (h : p.seal_.2 = 0) : isKind p.kind = true ∧ p.body.length = 243 ∧ p.seal_.1 = Crc.put p.flat := by
  unfold Pg.seal_ at h ⊢
  cases hg : p.good with
  | false => rw [hg] at h; simp at h
  | true =>
    unfold Pg.good at hg
    simp only [Bool.and_eq_true, beq_iff_eq] at hg
    exact ⟨hg.1, hg.2, by simp⟩
theorem Pg.bad_of {p : Pg} (h : p.seal_.2 ≠ 0) : p.seal_ = ([], 50) := by
  unfold Pg.seal_ at h ⊢
  cases hg : p.good with
  | true => rw [hg] at h; simp at h
  | false => rfl
theorem Pg.seal_len {p : Pg} (h : p.seal_.2 = 0) : p.seal_.1.length = 256 := by
  obtain ⟨_, h2, h3⟩ := Pg.good_of h
  rw [h3, Crc.put_len]
  simp [Pg.flat, fixed8_len, h2]
theorem Pg.there {p : Pg} (hl : p.lsn < 18446744073709551616) (h : p.seal_.2 = 0) : Pg.err p.seal_.1 = 0 ∧ Pg.parts p.seal_.1 = (p.kind, p.lsn, p.body) := by
  obtain ⟨h1, h2, h3⟩ := Pg.good_of h
  have h4 := Pg.seal_len h
  have hk : 1 ≤ p.kind ∧ p.kind ≤ 5 := by unfold isKind at h1; simpa using h1
  have h5 : ((p.seal_.1.headD 0).toNat : Int) = p.kind := by
    rw [h3]
    simp only [Crc.put, Pg.flat, List.cons_append, List.headD_cons, UInt8.toNat_ofNat']
    omega
  have he : Pg.err p.seal_.1 = 0 := by
    unfold Pg.err
    rw [if_pos h4, h5, h1, h3, Crc.ok_put]
    rfl
  refine ⟨he, ?_⟩
  have hf := fixed8_len p.lsn
  unfold Pg.parts
  rw [if_pos he, h5, h3]
  have e1 : ((Crc.put p.flat).drop 1).take 8 = Vint.fixed p.lsn 8 := by
    simp only [Crc.put, Pg.flat, List.cons_append, List.drop_succ_cons, List.drop_zero, List.append_assoc]
    rw [List.take_left' hf]
  have e2 : ((Crc.put p.flat).take 252).drop 9 = p.body := by
    have : (Crc.put p.flat).take 252 = p.flat := by
      rw [Crc.put, List.take_left']
      simp [Pg.flat, hf, h2]
    rw [this]
    simp only [Pg.flat, List.cons_append, List.drop_succ_cons]
    rw [List.drop_left' hf]
  rw [e1, e2, number_fixed8 _ hl]
theorem Pg.same_is {p q : Pg} (h : q.is (p.kind, p.lsn, p.body)) : p.same q = true := by
  obtain ⟨h1, h2, h3⟩ := h
  unfold Pg.same
  rw [h1, h2, h3]
  simp
theorem Pg.same_two {p q : Pg} {x : Int × Nat × List UInt8} (h : p.is x) (k : q.is x) : p.same q = true := by
  obtain ⟨h1, h2, h3⟩ := h
  obtain ⟨k1, k2, k3⟩ := k
  unfold Pg.same
  rw [h1, h2, h3, k1, k2, k3]
  simp
/-- Unlike pages are unlike bytes. -/
theorem Pg.inj {p q : Pg} (hp : p.lsn < 18446744073709551616) (hq : q.lsn < 18446744073709551616) (h : p.seal_.2 = 0) (k : q.seal_.2 = 0) : (p.seal_.1 == q.seal_.1) = p.same q := by
  rw [Bool.eq_iff_iff, beq_iff_eq]
  constructor
  · intro e
    have h1 := (Pg.there hp h).2
    have h2 := (Pg.there hq k).2
    rw [e, h2] at h1
    exact Pg.same_is (p := p) (q := q) (by simp only [Prod.mk.injEq] at h1; exact h1)
  · intro e
    unfold Pg.same at e
    simp only [Bool.and_eq_true, beq_iff_eq, Int.natCast_inj] at e
    obtain ⟨⟨e1, e2⟩, e3⟩ := e
    rw [(Pg.good_of h).2.2, (Pg.good_of k).2.2]
    unfold Pg.flat
    rw [e1, e2, e3]
theorem Pg.turned {p : Pg} (h : p.seal_.2 = 0) (i : Nat) (hi : i < p.seal_.1.length) (x : UInt8) (hx : x ≠ 0) : Pg.err (p.seal_.1.set i (p.seal_.1[i] ^^^ x)) = 51 := by
  have h4 := Pg.seal_len h
  have h3 := (Pg.good_of h).2.2
  unfold Pg.err
  rw [if_pos (by rw [List.length_set]; exact h4)]
  have : Crc.ok (p.seal_.1.set i (p.seal_.1[i] ^^^ x)) = false := by
    have h5 := Crc.byte_not_ok p.flat i (by rw [← h3]; exact hi) x hx
    simp only [h3]
    exact h5
  rw [this]
  rfl

/-! ### a page as an argument -/
structure Pg.In (W : World) (p : Pg) : Prop where
  lsn : p.lsn < 18446744073709551616
  rd : RdB W p.a p.body
  cap : p.body.length ≤ p.c

section
open Go.ChangeShapes Go.WideShapes Go.ChangeAt Go.Joins
variable {H : Type} {enc : TypeId × Value → H} {W : World} {base : Nat} {spare : Nat → Bool} {held : Bool} {d : DataW H} {p : List MemPlace}
theorem open_Page {r : Reach} {b0 : Nat} {v : Value} (hv : Value.okWide Try.prog W r b0 25 v) (h : DataW.Trod enc Try.prog W base spare held 25 v d p) : ∃ q : Pg, v = q.val ∧ q.In W := by
  obtain ⟨c0, c1, c2, y0, y1, y2, m, rfl, rfl, rfl, hy0, hy1, hy2⟩ := open_agg3 Try.underlying25 (by kernel_rfl) (by kernel_rfl) hv h
  obtain ⟨x, e0, _, wx⟩ := DataW.trod_int Try.underlying3 hy0
  obtain ⟨y, e1, _, wy⟩ := DataW.trod_int Try.underlying22 hy1
  simp at e0 e1
  subst e0 e1
  have hsl : ∃ a len cap, c2 = .slice a len cap := by
    rcases open_ints Try.underlying23 Try.underlying5 (by kernel_rfl) hy2 with ⟨hcs, _⟩ | ⟨a, l, c, zs, hcs, _⟩
    · simp at hcs; exact ⟨_, _, _, hcs⟩
    · simp at hcs; exact ⟨_, _, _, hcs⟩
  obtain ⟨a, len, cap, rfl⟩ := hsl
  obtain ⟨bs, rfl, hr, hc⟩ := open_bytesB Try.underlying23 Try.underlying5 (by kernel_rfl) (h := ⟨m, by simpa [Value.cells] using hy2⟩)
  have hy : 0 ≤ y ∧ y < 18446744073709551616 := by
    simp [Lit.wf, IntKind.min, IntKind.max, IntKind.bits, IntKind.signed] at wy
    omega
  refine ⟨⟨x, y.toNat, a, bs, cap⟩, ?_, by show y.toNat < _; omega, hr, hc⟩
  simp only [Pg.val]
  rw [Int.toNat_of_nonneg hy.1]
end
end Go.Proofs.Ytphjbemlofdepaa
