
/- Plain words for a log: its sectors, its records, and what stands there. -/

import Derived.Test.YtpabbackiobefaaVintMath

import Derived.Test.YtpabbackiobefaaCrcMath

namespace Go.Proofs.Ytpabbackiobefaa

/-! ### a log's sectors -/

namespace Frm

def magic : List UInt8 := [83, 67, 79, 87, 76, 79, 71, 49]
def zeros (n : Nat) : List UInt8 := List.replicate n 0
def head (e : Nat) : List UInt8 := magic ++ Vint.fixed e 8 ++ zeros 48
def stamp (e at_ : Nat) : List UInt8 := Vint.fixed e 8 ++ Vint.fixed at_ 4
/-- A log's epoch, and the error, from its first sector. -/
def epoch (s : List UInt8) : Nat × Nat := if s.length = 64 ∧ s = head (Vint.number ((s.take 16).drop 8)) then (Vint.number ((s.take 16).drop 8), 0) else (0, 140)
def body (c : List UInt8) : List UInt8 := Vint.fixed c.length 4 ++ Crc.put c
/-- How many sectors so many bytes of content need. -/
def need (n : Nat) : Nat := (n + 59) / 52
def padB (c : List UInt8) : List UInt8 := body c ++ zeros (52 * need c.length - (c.length + 8))
/-- Sector i of a record. -/
def sec (e at_ : Nat) (c : List UInt8) (i : Nat) : List UInt8 := stamp e (at_ + i) ++ ((padB c).drop (52 * i)).take 52
def secs (e at_ : Nat) (c : List UInt8) : List (List UInt8) := (List.range (need c.length)).map (sec e at_ c)

theorem fixedL (n : Nat) (z : Nat) (h : 1 ≤ z ∧ z ≤ 8) : Vint.fixed n (z : Int) = Vint.fixL n z := by
  unfold Vint.fixed
  rw [if_pos (by omega), Int.toNat_natCast]
theorem fixed_len8 (n : Nat) : (Vint.fixed n 8).length = 8 := by rw [show (8 : Int) = ((8 : Nat) : Int) from rfl, fixedL n 8 (by omega), Vint.fixL_len]
theorem fixed_len4 (n : Nat) : (Vint.fixed n 4).length = 4 := by rw [show (4 : Int) = ((4 : Nat) : Int) from rfl, fixedL n 4 (by omega), Vint.fixL_len]
theorem number_fix4 (n : Nat) (hn : n < 4294967296) : Vint.number (Vint.fixed n 4) = n := by
  rw [show (4 : Int) = ((4 : Nat) : Int) from rfl, fixedL n 4 (by omega)]
  simp only [Vint.number, Vint.fixL_len]
  simp only [Vint.numL, Vint.fixL, Vint.fixB, List.range, List.range.loop, List.map_cons, List.map_nil, List.foldl_cons, List.foldl_nil, UInt8.toNat_ofNat']
  simp only [Nat.reduceSub, Nat.reducePow]
  rw [if_pos (by omega)]
  omega
theorem number_fix8 (n : Nat) (hn : n < 18446744073709551616) : Vint.number (Vint.fixed n 8) = n := by
  rw [show (8 : Int) = ((8 : Nat) : Int) from rfl, fixedL n 8 (by omega)]
  simp only [Vint.number, Vint.fixL_len]
  simp only [Vint.numL, Vint.fixL, Vint.fixB, List.range, List.range.loop, List.map_cons, List.map_nil, List.foldl_cons, List.foldl_nil, UInt8.toNat_ofNat']
  simp only [Nat.reduceSub, Nat.reducePow]
  rw [if_pos (by omega)]
  omega
theorem stamp_len (e a : Nat) : (stamp e a).length = 12 := by simp [stamp, fixed_len8, fixed_len4]
theorem head_len (e : Nat) : (head e).length = 64 := by simp [head, magic, zeros, fixed_len8]
theorem head_cut (e : Nat) : ((head e).take 16).drop 8 = Vint.fixed e 8 := by
  unfold head
  rw [List.append_assoc, List.take_append, List.drop_append]
  have h8 : magic.length = 8 := rfl
  have hz : (magic.take 16).drop 8 = [] := rfl
  rw [hz, h8, List.nil_append, List.length_take, h8]
  rw [List.take_append, fixed_len8, List.take_of_length_le (by rw [fixed_len8]; omega)]
  simp
theorem epoch_head (e : Nat) (he : e < 18446744073709551616) : epoch (head e) = (e, 0) := by
  unfold epoch
  rw [head_cut, number_fix8 e he, if_pos ⟨head_len e, rfl⟩]
theorem body_len (c : List UInt8) : (body c).length = c.length + 8 := by simp [body, fixed_len4, Crc.put_len]; omega
theorem need_pos (n : Nat) : 1 ≤ need n := by unfold need; omega
theorem need_ge (n : Nat) : n + 8 ≤ 52 * need n := by unfold need; omega
theorem need_lt (n : Nat) : 52 * need n < n + 8 + 52 := by unfold need; omega
theorem padB_len (c : List UInt8) : (padB c).length = 52 * need c.length := by
  have := need_ge c.length
  simp [padB, body_len, zeros]
  omega
theorem sec_len (e a : Nat) (c : List UInt8) (i : Nat) (h : i < need c.length) : (sec e a c i).length = 64 := by
  simp only [sec, List.length_append, stamp_len, List.length_take, List.length_drop, padB_len]
  omega
theorem sec_take (e a : Nat) (c : List UInt8) (i : Nat) : (sec e a c i).take 12 = stamp e (a + i) := by
  unfold sec; rw [List.take_append_of_le_length (by rw [stamp_len]; omega), List.take_of_length_le (by rw [stamp_len]; omega)]
theorem sec_drop (e a : Nat) (c : List UInt8) (i : Nat) : (sec e a c i).drop 12 = ((padB c).drop (52 * i)).take 52 := by
  unfold sec; rw [List.drop_append_of_le_length (by rw [stamp_len]; omega), List.drop_of_length_le (by rw [stamp_len]; omega), List.nil_append]
theorem secs_len (e a : Nat) (c : List UInt8) : (secs e a c).length = need c.length := by simp [secs]

/-- The sector at a place is there, and stamped. -/
def Stmp (l : List (List UInt8)) (e i : Nat) : Prop := ∃ s, l[i]? = some s ∧ s.length = 64 ∧ s.take 12 = stamp e i
def stmpB (s : List UInt8) (e i : Nat) : Bool := (s.length == 64) && (s.take 12 == stamp e i)
theorem stmp_iff (l : List (List UInt8)) (e i : Nat) (h : i < l.length) : Stmp l e i ↔ stmpB l[i] e i = true := by
  unfold Stmp stmpB
  rw [Bool.and_eq_true, beq_iff_eq, beq_iff_eq]
  constructor
  · rintro ⟨s, h1, h2, h3⟩
    rw [List.getElem?_eq_getElem h] at h1
    injection h1 with h1
    subst h1
    exact ⟨h2, h3⟩
  · rintro ⟨h2, h3⟩
    exact ⟨l[i], List.getElem?_eq_getElem h, h2, h3⟩
theorem stmp_lt {l : List (List UInt8)} {e i : Nat} (h : Stmp l e i) : i < l.length := by
  obtain ⟨s, h1, _⟩ := h
  exact (List.getElem?_eq_some_iff.1 h1).1
/-- The pieces of k sectors. -/
def pays (l : List (List UInt8)) (at_ k : Nat) : List UInt8 := ((l.drop at_).take k).flatMap (·.drop 12)
theorem pays_zero (l : List (List UInt8)) (a : Nat) : pays l a 0 = [] := by simp [pays]
theorem pays_snoc (l : List (List UInt8)) (a k : Nat) (h : a + k < l.length) : pays l a (k + 1) = pays l a k ++ (l[a + k]).drop 12 := by
  unfold pays
  have h1 : k < (l.drop a).length := by rw [List.length_drop]; omega
  rw [List.take_succ_eq_append_getElem h1, List.flatMap_append]
  simp
theorem pays_len (l : List (List UInt8)) (a e : Nat) : ∀ k, (∀ i < k, Stmp l e (a + i)) → (pays l a k).length = 52 * k
  | 0, _ => by simp [pays]
  | k + 1, h => by
    have h0 := h k (by omega)
    have hlt := stmp_lt h0
    obtain ⟨s, h1, h2, h3⟩ := h0
    rw [List.getElem?_eq_getElem hlt] at h1
    injection h1 with h1
    rw [pays_snoc l a k hlt, List.length_append, pays_len l a e k (fun i hi => h i (by omega)), h1, List.length_drop, h2]
    omega
theorem pays_piece (l : List (List UInt8)) (a e : Nat) : ∀ k, (∀ i < k, Stmp l e (a + i)) → ∀ i, i < k → ∀ h : a + i < l.length, ((pays l a k).drop (52 * i)).take 52 = (l[a + i]).drop 12
  | 0, _, i, hi, _ => absurd hi (by omega)
  | k + 1, hs, i, hi, h => by
    have hk := pays_len l a e k (fun j hj => hs j (by omega))
    have hlt := stmp_lt (hs k (by omega))
    have hlen : ((l[a + i]).drop 12).length = 52 := by
      obtain ⟨s, h1, h2, _⟩ := hs i hi
      rw [List.getElem?_eq_getElem h] at h1
      injection h1 with h1
      rw [h1, List.length_drop, h2]
    rw [pays_snoc l a k hlt]
    by_cases hik : i = k
    · subst hik
      rw [List.drop_append_of_le_length (by omega), List.drop_of_length_le (by omega), List.nil_append, List.take_of_length_le (by omega)]
    · have ih := pays_piece l a e k (fun j hj => hs j (by omega)) i (by omega) h
      rw [← ih, List.drop_append_of_le_length (by omega), List.take_append_of_le_length]
      rw [List.length_drop]
      omega

/-- The record of some content stands at a place. -/
structure Stands (l : List (List UInt8)) (e at_ : Nat) (c : List UInt8) : Prop where
  len : c.length ≤ 140000
  st : ∀ i < need c.length, Stmp l e (at_ + i)
  pay : pays l at_ (need c.length) = padB c
theorem pays_take (l : List (List UInt8)) (a e : Nat) (k j : Nat) (hs : ∀ i < k, Stmp l e (a + i)) (hj : j ≤ k) : (pays l a k).take (52 * j) = pays l a j := by
  induction k with
  | zero => obtain rfl : j = 0 := by omega
            simp [pays]
  | succ k ih =>
    by_cases hjk : j = k + 1
    · subst hjk
      rw [List.take_of_length_le (by rw [pays_len l a e _ hs]; omega)]
    · rw [pays_snoc l a k (stmp_lt (hs k (by omega))), List.take_append_of_le_length (by rw [pays_len l a e k (fun i hi => hs i (by omega))]; omega)]
      exact ih (fun i hi => hs i (by omega)) (by omega)
theorem pays_one {l : List (List UInt8)} {a : Nat} (h : a < l.length) : pays l a 1 = (l[a]).drop 12 := by
  have := pays_snoc l a 0 (by omega)
  rw [this, pays_zero, List.nil_append]
  rfl
theorem padB_take4 (c : List UInt8) : (padB c).take 4 = Vint.fixed c.length 4 := by
  unfold padB body
  rw [List.append_assoc, List.take_append_of_le_length (by rw [fixed_len4]; omega), List.take_of_length_le (by rw [fixed_len4]; omega)]
/-- Its first piece tells the content's length. -/
theorem Stands.num {l : List (List UInt8)} {e a : Nat} {c : List UInt8} (h : Stands l e a c) (ha : a < l.length) : Vint.number (((l[a]).drop 12).take 4) = c.length := by
  have h1 := pays_take l a e _ 1 h.st (need_pos _)
  rw [h.pay, pays_one ha] at h1
  rw [← h1, List.take_take, show min 4 (52 * 1) = 4 by omega, padB_take4, number_fix4 _ (by have := h.len; omega)]
theorem Stands.first {l : List (List UInt8)} {e a : Nat} {c : List UInt8} (h : Stands l e a c) : Stmp l e a := by simpa using h.st 0 (need_pos _)
theorem padB_crc (c : List UInt8) : ((padB c).take (c.length + 8)).drop 4 = Crc.put c ∧ (padB c).drop (c.length + 8) = zeros (52 * need c.length - (c.length + 8)) := by
  have hb := body_len c
  constructor
  · unfold padB
    rw [List.take_append_of_le_length (by omega), List.take_of_length_le (by omega)]
    unfold body
    rw [List.drop_append_of_le_length (by rw [fixed_len4]; omega), List.drop_of_length_le (by rw [fixed_len4]; omega), List.nil_append]
  · unfold padB
    rw [List.drop_append_of_le_length (by omega), List.drop_of_length_le (by omega), List.nil_append]
theorem fix4_four (x : List UInt8) (hx : x.length = 4) : Vint.fixed (Vint.number x) 4 = x := by
  match x, hx with
  | [x0, x1, x2, x3], _ =>
    have e0 : Vint.number [x0, x1, x2, x3] = ((x0.toNat * 256 + x1.toNat) * 256 + x2.toNat) * 256 + x3.toNat := by simp [Vint.number, Vint.numL]
    rw [e0, show (4 : Int) = ((4 : Nat) : Int) from rfl, fixedL _ 4 (by omega)]
    have l0 := x0.toNat_lt
    have l1 := x1.toNat_lt
    have l2 := x2.toNat_lt
    have l3 := x3.toNat_lt
    simp only [Vint.fixL, Vint.fixB, List.range, List.range.loop, List.map_cons, List.map_nil, List.cons.injEq, and_true, ← UInt8.toNat_inj, UInt8.toNat_ofNat', Nat.reduceSub, Nat.reducePow]
    omega
/-- When all the sectors are stamped: a record stands there just if the sum is right, and all behind it is 0. -/
theorem stands_of {l : List (List UInt8)} {e a n : Nat} (hs : ∀ i < need n, Stmp l e (a + i)) (hn : n ≤ 140000) (b : List UInt8) (hb : b = pays l a (need n)) (h4 : Vint.number (b.take 4) = n)
    (hok : Crc.ok ((b.take (n + 8)).drop 4) = true) (hz : ∀ x ∈ b.drop (n + 8), x = 0) : Stands l e a (Crc.got ((b.take (n + 8)).drop 4)) ∧ (Crc.got ((b.take (n + 8)).drop 4)).length = n := by
  have hbl : b.length = 52 * need n := by rw [hb]; exact pays_len l a e _ hs
  have hge := need_ge n
  obtain ⟨d, hd⟩ : ∃ d, d = (b.take (n + 8)).drop 4 := ⟨_, rfl⟩
  have hdl : d.length = n + 4 := by rw [hd, List.length_drop, List.length_take]; omega
  rw [← hd] at hok ⊢
  have hg : Crc.got d = d.take (d.length - 4) := by unfold Crc.got; rw [hok]; rfl
  have hgl : (Crc.got d).length = n := by rw [hg, List.length_take]; omega
  have hput : Crc.put (Crc.got d) = d := by
    rw [Crc.ok_of (b := d) (p := Crc.got d) (by omega) hg] at hok
    exact eq_of_beq hok
  have hpad : b = padB (Crc.got d) := by
    unfold padB body
    rw [hgl, hput, ← h4, fix4_four _ (by rw [List.length_take]; omega), h4]
    have e1 : b.drop (n + 8) = zeros (52 * need n - (n + 8)) := by
      unfold zeros
      rw [List.eq_replicate_iff]
      exact ⟨by rw [List.length_drop]; omega, hz⟩
    rw [← e1, hd]
    have e2 : b.take 4 = (b.take (n + 8)).take 4 := by rw [List.take_take, Nat.min_eq_left (by omega)]
    rw [e2, List.take_append_drop, List.take_append_drop]
  refine ⟨⟨by omega, by rw [hgl]; exact hs, by rw [hgl, ← hb]; exact hpad⟩, hgl⟩
theorem stands_not {l : List (List UInt8)} {e a n : Nat} (ha : a < l.length) (b : List UInt8) (hb : b = pays l a (need n)) (h4 : Vint.number (((l[a]).drop 12).take 4) = n)
    (hno : ¬ (Crc.ok ((b.take (n + 8)).drop 4) = true ∧ ∀ x ∈ b.drop (n + 8), x = 0)) (c : List UInt8) : ¬ Stands l e a c := by
  intro h
  have hl := h.num ha
  rw [h4] at hl
  have h5 := h.pay
  rw [← hl, ← hb] at h5
  apply hno
  have h6 := padB_crc c
  rw [← h5, ← hl] at h6
  rw [h6.1, h6.2]
  refine ⟨?_, fun x hx => (List.mem_replicate.1 hx).2⟩
  have hpl := Crc.put_len c
  rw [Crc.ok_of (p := c) (by omega) (by rw [hpl]; simp [Crc.put])]
  simp
/-- What a record's sectors are makes it stand there, and what stands there is its sectors. -/
theorem stands_secs {l : List (List UInt8)} {e a : Nat} {c : List UInt8} (hc : c.length ≤ 140000) (h : ∀ i < need c.length, l[a + i]? = some (sec e a c i)) : Stands l e a c := by
  have hst : ∀ i < need c.length, Stmp l e (a + i) := fun i hi => ⟨_, h i hi, sec_len e a c i hi, sec_take e a c i⟩
  refine ⟨hc, hst, ?_⟩
  have key : ∀ k, k ≤ need c.length → pays l a k = (padB c).take (52 * k) := by
    intro k
    induction k with
    | zero => intro _; simp [pays]
    | succ k ih =>
      intro hk
      have h1 := h k (by omega)
      have hlt := (List.getElem?_eq_some_iff.1 h1).1
      rw [List.getElem?_eq_getElem hlt] at h1
      injection h1 with h1
      rw [pays_snoc l a k hlt, ih (by omega), h1, sec_drop, show 52 * (k + 1) = 52 * k + 52 by omega, List.take_add]
  rw [key _ (Nat.le_refl _), List.take_of_length_le (by rw [padB_len]; omega)]
theorem Stands.secs {l : List (List UInt8)} {e a : Nat} {c : List UInt8} (h : Stands l e a c) : ∀ i < need c.length, l[a + i]? = some (sec e a c i) := by
  intro i hi
  have h0 := h.st i hi
  have hlt := stmp_lt h0
  obtain ⟨s, h1, h2, h3⟩ := h0
  rw [h1]
  rw [List.getElem?_eq_getElem hlt] at h1
  injection h1 with h1
  have h4 := pays_piece l a e _ h.st i hi hlt
  rw [h.pay, h1] at h4
  unfold sec
  rw [h4, ← h3, List.take_append_drop]
theorem Stands.uniq {l : List (List UInt8)} {e a : Nat} {c d : List UInt8} (h : Stands l e a c) (k : Stands l e a d) : c = d := by
  have ha := stmp_lt h.first
  have e1 := h.num ha
  rw [k.num ha] at e1
  have h1 := h.pay
  have h2 := k.pay
  rw [e1] at h2
  rw [h2] at h1
  have h3 := (padB_crc c).1
  have h4 := (padB_crc d).1
  rw [e1, h1, h3] at h4
  unfold Crc.put at h4
  exact (List.append_inj h4 e1.symm).1

/-- The records from a place on, and where they end. -/
inductive Scans (l : List (List UInt8)) (e : Nat) : Nat → List (List UInt8) → Nat → Prop
  | stop (a : Nat) : (∀ c, ¬ Stands l e a c) → Scans l e a [] a
  | go (a : Nat) (c : List UInt8) (cs : List (List UInt8)) (f : Nat) : Stands l e a c → Scans l e (a + need c.length) cs f → Scans l e a (c :: cs) f
theorem Scans.uniq {l : List (List UInt8)} {e : Nat} {a : Nat} {cs : List (List UInt8)} {f : Nat} (h : Scans l e a cs f) : ∀ {ds : List (List UInt8)} {g : Nat}, Scans l e a ds g → cs = ds ∧ f = g := by
  induction h with
  | stop a hn =>
    intro ds g k
    cases k with
    | stop _ _ => exact ⟨rfl, rfl⟩
    | go _ c _ _ hc _ => exact absurd hc (hn c)
  | go a c cs f hc _ ih =>
    intro ds g k
    cases k with
    | stop _ hn => exact absurd hc (hn c)
    | go _ d ds _ hd hr =>
      have := hc.uniq hd
      subst this
      obtain ⟨h1, h2⟩ := ih hr
      exact ⟨by rw [h1], h2⟩

/-! ### records one behind the other -/

def allSecs (e : Nat) : Nat → List (List UInt8) → List (List UInt8)
  | _, [] => []
  | a, c :: cs => secs e a c ++ allSecs e (a + need c.length) cs
theorem scans_all (e : Nat) : ∀ (cs : List (List UInt8)) (pre rest : List (List UInt8)), (∀ c ∈ cs, c.length ≤ 140000) →
    (∀ c, ¬ Stands (pre ++ allSecs e pre.length cs ++ rest) e (pre.length + (allSecs e pre.length cs).length) c) →
    Scans (pre ++ allSecs e pre.length cs ++ rest) e pre.length cs (pre.length + (allSecs e pre.length cs).length)
  | [], pre, rest, _, hno => by
    simp only [allSecs, List.length_nil, Nat.add_zero, List.append_nil] at hno ⊢
    exact .stop _ hno
  | c :: cs, pre, rest, hl, hno => by
    have hpl : (pre ++ secs e pre.length c).length = pre.length + need c.length := by rw [List.length_append, secs_len]
    have ih := scans_all e cs (pre ++ secs e pre.length c) rest (fun d hd => hl d (by simp [hd]))
    rw [hpl] at ih
    have e1 : pre ++ allSecs e pre.length (c :: cs) ++ rest = pre ++ secs e pre.length c ++ allSecs e (pre.length + need c.length) cs ++ rest := by simp [allSecs]
    have e2 : pre.length + (allSecs e pre.length (c :: cs)).length = pre.length + need c.length + (allSecs e (pre.length + need c.length) cs).length := by simp [allSecs, secs_len]; omega
    rw [e1, e2] at hno ⊢
    refine .go _ c cs _ ?_ (ih hno)
    refine stands_secs (hl c (by simp)) fun i hi => ?_
    rw [List.append_assoc, List.append_assoc, List.getElem?_append_right (by omega), show pre.length + i - pre.length = i by omega, List.getElem?_append_left (by rw [secs_len]; exact hi)]
    simp [secs, hi]
theorem not_stands_end {l : List (List UInt8)} {e a : Nat} (h : l.length ≤ a) (c : List UInt8) : ¬ Stands l e a c := fun hs => by
  have := stmp_lt hs.first
  omega
/-- A record of which a sector is lost: none stands there. -/
theorem torn_not {l : List (List UInt8)} {e a : Nat} {c : List UInt8} (hc : c.length ≤ 140000) (ha : a < l.length) (h0 : l[a]? = some (sec e a c 0) ∨ ¬ Stmp l e a) {i : Nat} (hi : i < need c.length) (hno : ¬ Stmp l e (a + i)) (d : List UInt8) : ¬ Stands l e a d := by
  intro h
  rcases h0 with h0 | h0
  · have h1 := h.num ha
    rw [List.getElem?_eq_getElem ha] at h0
    injection h0 with h0
    rw [h0, sec_drop, Nat.mul_zero, List.drop_zero, List.take_take, Nat.min_eq_left (by omega), padB_take4, number_fix4 _ (by omega)] at h1
    rw [h1] at hi
    exact hno (h.st i hi)
  · exact h0 h.first
end Frm

end Go.Proofs.Ytpabbackiobefaa
