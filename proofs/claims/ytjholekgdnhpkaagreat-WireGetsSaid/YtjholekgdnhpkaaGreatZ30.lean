/- Texts of the proof, laid together: WqP. -/
import Derived.Test.YtjholekgdnhpkaaGreatZ18
set_option linter.unusedVariables false
set_option linter.unusedSimpArgs false
set_option linter.unusedSectionVars false
namespace Go.Proofs.YtjholekgdnhpkaaGreat
def Qn.rest (d : List UInt8) : List UInt8 := d.drop (Vint.get d).2.1
def Qn.val (d : List UInt8) (bad : Bool) : Int := if bad = true then 0 else ((Vint.get d).1 : Int)
theorem Qn.rest_eq {d : List UInt8} (h : Rn.ok d = true) : Qn.rest d = Rn.rest d := by unfold Qn.rest Rn.rest; rw [if_pos h]
theorem Qn.val_eq {d : List UInt8} (n0 : Int) (h : Rn.ok d = true) : Qn.val d false = Rn.val d n0 := by unfold Qn.val Rn.val; rw [if_pos h]; rfl
def Qs.one (d : List UInt8) (bad : Bool) : Ws × List UInt8 × Bool :=
 let d1 := Rt.rest d; let b1 := bad || Rt.bad d
 let d2 := Rt.rest d1; let b2 := b1 || Rt.bad d1
 let d3 := Rc.rest 8 d2; let b3 := b2 || decide (d2.length < 8)
 let d4 := Qn.rest d3; let b4 := b3 || !Rn.ok d3
 (⟨⟨Rt.val d, Rt.val d1, Qn.val d3 b4, Rc.val 32 d4⟩, Vint.number (Rc.val 8 d2)⟩, Rc.rest 32 d4, b4 || decide (d4.length < 32))
def Qs.run : Nat → List UInt8 → Bool → List Ws × List UInt8 × Bool
 | 0, d, bad => ([], d, bad)
 | n + 1, d, bad => if bad = true then ([], d, bad) else let s := Qs.one d bad; let r := Qs.run n s.2.1 s.2.2; (s.1 :: r.1, r.2)
def Qs.all (d : List UInt8) (bad : Bool) : List Ws × List UInt8 × Bool :=
 Qs.run (min (Qn.val d (bad || !Rn.ok d)).toNat 60) (Qn.rest d) (bad || !Rn.ok d)
theorem Qs.agree {d : List UInt8} {bad : Bool} (h : (Rs.one d bad).2.2 = false) : Qs.one d bad = Rs.one d bad := by
 unfold Rs.one at h
 simp only [Bool.or_eq_false_iff, Bool.not_eq_false'] at h
 obtain ⟨⟨⟨⟨⟨h1, h2⟩, h3⟩, h4⟩, h5⟩, h6⟩ := h
 unfold Qs.one Rs.one
 simp only [h1, h2, h3, h4, h5, Qn.rest_eq h5, Bool.or_false, Bool.not_true, Qn.val_eq 0 h5]
theorem Rs.one_true (d : List UInt8) : (Rs.one d true).2.2 = true := by
 unfold Rs.one
 simp only [Bool.true_or]
section
attribute [local irreducible] Rs.one Qs.one
theorem Rs.run_cons (n : Nat) (d : List UInt8) (bad : Bool) : Rs.run (n + 1) d bad = ((Rs.one d bad).1 :: (Rs.run n (Rs.one d bad).2.1 (Rs.one d bad).2.2).1, (Rs.run n (Rs.one d bad).2.1 (Rs.one d bad).2.2).2) := by
 induction n with
 | zero => rfl
 | succ n ih =>
  have e1 : Rs.run (n + 1 + 1) d bad = ((Rs.run (n + 1) d bad).1 ++ [(Rs.one (Rs.run (n + 1) d bad).2.1 (Rs.run (n + 1) d bad).2.2).1], (Rs.one (Rs.run (n + 1) d bad).2.1 (Rs.run (n + 1) d bad).2.2).2) := rfl
  rw [e1, ih]
  rfl
theorem Rs.run_true : ∀ (n : Nat) (d : List UInt8), (Rs.run n d true).2.2 = true
 | 0, _ => rfl
 | n + 1, d => by
  rw [Rs.run_cons]
  have h := Rs.one_true d
  simp only
  rw [h]
  exact Rs.run_true n _
theorem Qs.run_agree : ∀ (n : Nat) (d : List UInt8), (Rs.run n d false).2.2 = false → Qs.run n d false = Rs.run n d false
 | 0, _, _ => rfl
 | n + 1, d, h => by
  rw [Rs.run_cons] at h ⊢
  simp only at h
  have hs : (Rs.one d false).2.2 = false := by
   cases hc : (Rs.one d false).2.2 with
   | false => rfl
   | true => rw [hc, Rs.run_true] at h; cases h
  rw [hs] at h ⊢
  unfold Qs.run
  rw [if_neg (by decide), Qs.agree hs]
  simp only
  rw [hs, Qs.run_agree n _ h]
end
theorem Qs.all_agree {d : List UInt8} {bad : Bool} (h : (Rs.all d bad).2.2 = false) : Qs.all d bad = Rs.all d bad := by
 unfold Rs.all at h ⊢
 split at h
 ·
  cases h
 ·
  next hc =>
  rw [if_neg hc]
  simp only [Bool.or_eq_true, Bool.not_eq_true', decide_eq_true_eq, not_or, Bool.not_eq_true, Bool.not_eq_false] at hc
  obtain ⟨⟨h1, h2⟩, h3⟩ := hc
  unfold Qs.all
  rw [h1, h2]
  simp only [Bool.not_true, Bool.or_false]
  have hv : (Qn.val d false).toNat = (Vint.get d).1 := by unfold Qn.val; simp
  rw [hv, Nat.min_eq_left (by omega), Qn.rest_eq h2]
  exact Qs.run_agree _ _ h
def Wm.qread (m : Wm) (d : List UInt8) : Wm × List UInt8 × Bool :=
 if m.kind = 3 ∨ m.kind = 4 then m.rdEnds d false
 else if m.kind = 5 ∨ m.kind = 6 then ({ m with n := Qn.val d (!Rn.ok d) }, Qn.rest d, !Rn.ok d)
 else if m.kind = 17 then
  let d1 := Rc.rest 8 d; let b1 := decide (d.length < 8)
  let d2 := Qn.rest d1; let b2 := b1 || !Rn.ok d1
  let d3 := Rc.rest 32 d2; let b3 := b2 || decide (d2.length < 32)
  let d4 := Qn.rest d3; let b4 := b3 || !Rn.ok d3
  ({ m with lsn := Vint.number (Rc.val 8 d), count := Qn.val d1 b2, sum := Rc.val 32 d2, size := Qn.val d3 b4, file := Rc.val 32 d4 }, Rc.rest 32 d4, b4 || decide (d4.length < 32))
 else if m.kind = 18 then ({ m with subs := (Qs.all d false).1 }, (Qs.all d false).2)
 else if m.kind = 19 then let e := m.rdEnds d false; ({ e.1 with subs := (Qs.all e.2.1 e.2.2).1 }, (Qs.all e.2.1 e.2.2).2)
 else if m.kind = 20 then let e := m.rdEnds d false; ({ e.1 with more := decide (Rc.val 1 e.2.1 = [1]), ents := (Ent.getAll (Rc.rest 1 e.2.1)).getD [] }, [], (e.2.2 || decide (e.2.1.length < 1)) || (Ent.getAll (Rc.rest 1 e.2.1)).isNone)
 else if m.kind = 21 then let r := Rg.all (Qn.rest d) (!Rn.ok d); ({ m with n := Qn.val d (!Rn.ok d), sigs := r.1 }, r.2)
 else if m.kind = 22 then ({ m with n := Qn.val d (!Rn.ok d), data := Qn.rest d }, [], !Rn.ok d)
 else (m, d, false)
theorem Wm.qread_agree (m : Wm) (d : List UInt8) (h : (m.read d).2.2 = false) : (m.qread d).1 = (m.read d).1 ∧ (m.qread d).2.2 = false := by
 unfold Wm.qread
 split
 ·
  next k => unfold Wm.read at h ⊢; rw [if_pos k] at h ⊢; exact ⟨rfl, h⟩
 ·
  next k1 =>
  split
  ·
   next k =>
   unfold Wm.read at h ⊢
   rw [if_neg k1, if_pos k] at h ⊢
   simp only [Bool.false_or, Bool.not_eq_false'] at h
   simp only [h, Bool.not_true, Qn.val_eq m.n h]
   exact ⟨trivial, trivial⟩
  ·
   next k2 =>
   split
   ·
    next k =>
    unfold Wm.read at h ⊢
    rw [if_neg k1, if_neg k2, if_pos k] at h ⊢
    unfold Wm.rd17 at h ⊢
    simp only [Bool.or_eq_false_iff, Bool.not_eq_false', Bool.false_or] at h
    obtain ⟨⟨⟨⟨h1, h2⟩, h3⟩, h4⟩, h5⟩ := h
    simp only [h1, h2, Qn.rest_eq h2, h3, h4, Qn.rest_eq h4, h5, Bool.not_true, Bool.or_false, Qn.val_eq m.count h2, Qn.val_eq m.size h4]
    exact ⟨trivial, trivial⟩
   ·
    next k3 =>
    split
    ·
     next k =>
     unfold Wm.read at h ⊢
     rw [if_neg k1, if_neg k2, if_neg k3, if_pos k] at h ⊢
     rw [Qs.all_agree h]
     exact ⟨rfl, h⟩
    ·
     next k4 =>
     split
     ·
      next k =>
      unfold Wm.read at h ⊢
      rw [if_neg k1, if_neg k2, if_neg k3, if_neg k4, if_pos k] at h ⊢
      simp only at h ⊢
      rw [Qs.all_agree h]
      exact ⟨rfl, h⟩
     ·
      next k5 =>
      split
      ·
       next k =>
       unfold Wm.read at h ⊢
       rw [if_neg k1, if_neg k2, if_neg k3, if_neg k4, if_neg k5, if_pos k] at h ⊢
       exact ⟨rfl, h⟩
      ·
       next k6 =>
       split
       ·
        next k =>
        unfold Wm.read at h ⊢
        rw [if_neg k1, if_neg k2, if_neg k3, if_neg k4, if_neg k5, if_neg k6, if_pos k] at h ⊢
        simp only [Bool.false_or] at h ⊢
        have hn : Rn.ok d = true := by
         cases hc : Rn.ok d with
         | true => rfl
         | false =>
          rw [hc] at h
          unfold Rg.all at h
          rw [Rg.run_end _ _ _ (by simp)] at h
          cases h
        rw [hn] at h ⊢
        rw [Qn.rest_eq hn]
        simp only [Bool.not_true] at h ⊢
        rw [Qn.val_eq m.n hn]
        exact ⟨rfl, h⟩
       ·
        next k7 =>
        split
        ·
         next k =>
         unfold Wm.read at h ⊢
         rw [if_neg k1, if_neg k2, if_neg k3, if_neg k4, if_neg k5, if_neg k6, if_neg k7, if_pos k] at h ⊢
         simp only [Bool.false_or, Bool.not_eq_false'] at h
         simp only [h, Bool.not_true, Qn.val_eq m.n h, Qn.rest_eq h]
         exact ⟨trivial, trivial⟩
        ·
         next k8 =>
         unfold Wm.read
         rw [if_neg k1, if_neg k2, if_neg k3, if_neg k4, if_neg k5, if_neg k6, if_neg k7, if_neg k8]
         exact ⟨rfl, rfl⟩
end Go.Proofs.YtjholekgdnhpkaaGreat
