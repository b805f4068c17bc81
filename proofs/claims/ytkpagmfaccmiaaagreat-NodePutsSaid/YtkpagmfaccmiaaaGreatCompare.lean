
/- Contract: bytes.Compare; the order of texts. -/

import Derived.Test.YtkpagmfaccmiaaaGreatProg

import Derived.Test.YtkpagmfaccmiaaaGreatMem

import Derived.Lib.Bytealg

import Derived.Laws.Externs

namespace Go.Proofs.YtkpagmfaccmiaaaGreat

open Go.RowKit

attribute [local go_sem] Oper.semAt_some

theorem run_loadBytes {P : Program} (w : World) : ∀ (bs : List UInt8) (a : Addr) (acc : ByteArray), (∀ j u, (bvs bs)[j]? = some u → w.cell? (a.add j) = some u) →
    (Extern.Bytes.loadBytes a bs.length acc).run P w = .ok ⟨acc.data ++ bs.toArray⟩ w := by
  intro bs
  induction bs with
  | nil => intro a acc _; simp [Extern.Bytes.loadBytes]
  | cons b bs ih =>
    intro a acc h
    have h0 := h 0 (bv b) (by simp [bvs])
    rw [show a.add 0 = a from rfl] at h0
    have hrest : ∀ j u, (bvs bs)[j]? = some u → w.cell? ((a.add 1).add j) = some u := fun j u hj => by
      rw [add_add', Nat.add_comm]
      exact h (j + 1) u (by simpa [bvs] using hj)
    have hl : (load a).run P w = .ok (bv b) w := by rw [run_load]; simp [h0]
    simp only [List.length_cons, Extern.Bytes.loadBytes, Sem.run_bind, hl, Result.andThen_ok, bv]
    rw [ih (a.add 1) _ hrest]
    simp [ByteArray.push]
theorem run_bytesOf {P : Program} (w : World) (A : Option Addr) (bs : List UInt8) (c : Nat) (h : RdB w A bs) : (Extern.Bytes.bytesOf (.slice A bs.length c)).run P w = .ok ⟨bs.toArray⟩ w := by
  rcases A with _ | ad
  · have h0 : bs = [] := by
      rcases bs with _ | ⟨b, l⟩
      · rfl
      · obtain ⟨ad, e, _⟩ := h.2 (by simp [bvs])
        cases e
    subst h0
    simp [Extern.Bytes.bytesOf]
    rfl
  · have hc : ∀ j u, (bvs bs)[j]? = some u → w.cell? (ad.add j) = some u := fun j u hj => by
      obtain ⟨ad', e, hc⟩ := h.2 (by intro e; rw [e] at hj; simp at hj)
      injection e with e
      subst e
      exact hc j u hj
    simp only [Extern.Bytes.bytesOf]
    rw [run_loadBytes w bs ad .empty hc]
    simp
theorem run_compareSlices {P : Program} (w : World) (A B : Option Addr) (p q : List UInt8) (c d : Nat) (hA : RdB w A p) (hB : RdB w B q) :
    (Extern.BytealgCompare.compare #[.slice A p.length c, .slice B q.length d]).run P w = .ok (.int .i64 (Lib.compareBytes p q)) w := by
  change Sem.run P (do pure (goInt (Extern.BytealgCompare.cmp (← Extern.Bytes.bytesOf (.slice A p.length c)) (← Extern.Bytes.bytesOf (.slice B q.length d))))) w = _
  simp only [Sem.run_bind, Sem.run_pure, run_bytesOf w A p c hA, run_bytesOf w B q d hB, Result.andThen_ok]
  rw [Lib.cmp_eq]
  rfl
set_option maxHeartbeats 400000 in
set_option maxRecDepth 100000 in
theorem compare_any (A B : Option Addr) (p q : List UInt8) (c d : Nat) (w : World) (hA : RdB w A p) (hB : RdB w B q) :
    Calls Tryz.prog 67 #[.slice A p.length c, .slice B q.length d] w fun e w' => e = .returned (.int .i64 (Lib.compareBytes p q)) ∧ w = w' := by
  go_enter Tryz.func67, Tryz.ntmps67
  go_wp2
  rw [run_callFunc_extern Tryz.func88 (by kernel_rfl) (by kernel_rfl) (by kernel_rfl) (e := Extern.BytealgCompare.compare) (by kernel_rfl), run_compareSlices w A B p q c d hA hB]
  simp only [Result.andThen]
  rw [Oper.upon_value]
  go_wp2
  go_ret
  exact ⟨rfl, rfl⟩
/-! ### the order -/

/-- Is a text ahead of another one? -/
def ltB : List UInt8 → List UInt8 → Bool
  | [], [] => false
  | [], _ :: _ => true
  | _ :: _, [] => false
  | a :: p, b :: q => if a < b then true else if b < a then false else ltB p q
theorem compare_lt (a b : List UInt8) : (Lib.compareBytes a b < 0) ↔ ltB a b = true := by
  induction a generalizing b with
  | nil => cases b <;> simp [Lib.compareBytes, ltB]
  | cons x a ih =>
    cases b with
    | nil => simp [Lib.compareBytes, ltB]
    | cons y b =>
      unfold Lib.compareBytes ltB
      by_cases h1 : x < y
      · simp [h1]
      · by_cases h2 : y < x
        · simp [h1, h2]
        · simp only [if_neg h1, if_neg h2]; exact ih b
theorem compare_zero (a b : List UInt8) : Lib.compareBytes a b = 0 ↔ a = b := by
  induction a generalizing b with
  | nil => cases b <;> simp [Lib.compareBytes]
  | cons x a ih =>
    cases b with
    | nil => simp [Lib.compareBytes]
    | cons y b =>
      unfold Lib.compareBytes
      by_cases h1 : x < y
      · rw [if_pos h1]
        refine ⟨fun h => by simp at h, fun h => ?_⟩
        injection h with h _
        rw [h] at h1; exact absurd h1 (UInt8.lt_irrefl y)
      · by_cases h2 : y < x
        · rw [if_neg h1, if_pos h2]
          refine ⟨fun h => by simp at h, fun h => ?_⟩
          injection h with h _
          rw [h] at h2; exact absurd h2 (UInt8.lt_irrefl y)
        · rw [if_neg h1, if_neg h2, ih b]
          have : x = y := UInt8.le_antisymm (UInt8.not_lt.1 h2) (UInt8.not_lt.1 h1)
          simp [this]
theorem compare_swap (a b : List UInt8) : Lib.compareBytes b a = - Lib.compareBytes a b := by
  induction a generalizing b with
  | nil => cases b <;> simp [Lib.compareBytes]
  | cons x a ih =>
    cases b with
    | nil => simp [Lib.compareBytes]
    | cons y b =>
      unfold Lib.compareBytes
      by_cases h1 : x < y
      · have h2 : ¬ y < x := fun h => UInt8.lt_irrefl _ (UInt8.lt_trans h1 h)
        simp [h1, h2]
      · by_cases h2 : y < x
        · simp [h1, h2]
        · simp only [if_neg h1, if_neg h2]; exact ih b
theorem compare_one (a b : List UInt8) : Lib.compareBytes a b = -1 ∨ Lib.compareBytes a b = 0 ∨ Lib.compareBytes a b = 1 := by
  induction a generalizing b with
  | nil => cases b <;> simp [Lib.compareBytes]
  | cons x a ih =>
    cases b with
    | nil => simp [Lib.compareBytes]
    | cons y b =>
      unfold Lib.compareBytes
      by_cases h1 : x < y
      · simp [h1]
      · by_cases h2 : y < x
        · simp [h1, h2]
        · simp only [if_neg h1, if_neg h2]; exact ih b
theorem ltB_irrefl (a : List UInt8) : ltB a a = false := by
  cases h : ltB a a with
  | false => rfl
  | true => have := (compare_lt a a).2 h; rw [(compare_zero a a).2 rfl] at this; omega
theorem ltB_asymm {a b : List UInt8} (h : ltB a b = true) : ltB b a = false := by
  cases h2 : ltB b a with
  | false => rfl
  | true =>
    have h3 := (compare_lt a b).2 h
    have h4 := (compare_lt b a).2 h2
    rw [compare_swap a b] at h4
    omega
theorem ltB_tri (a b : List UInt8) : ltB a b = true ∨ a = b ∨ ltB b a = true := by
  rcases compare_one a b with h | h | h
  · exact .inl ((compare_lt a b).1 (by omega))
  · exact .inr (.inl ((compare_zero a b).1 h))
  · exact .inr (.inr ((compare_lt b a).1 (by rw [compare_swap a b]; omega)))
theorem ltB_trans : ∀ {a b c : List UInt8}, ltB a b = true → ltB b c = true → ltB a c = true
  | [], [], c, h, _ => by simp [ltB] at h
  | [], _ :: _, [], _, h => by simp [ltB] at h
  | [], _ :: _, _ :: _, _, _ => rfl
  | _ :: _, [], _, h, _ => by simp [ltB] at h
  | _ :: _, _ :: _, [], _, h => by simp [ltB] at h
  | x :: a, y :: b, z :: c, h1, h2 => by
    unfold ltB at h1 h2 ⊢
    by_cases e1 : x < y
    · by_cases e2 : y < z
      · rw [if_pos (UInt8.lt_trans e1 e2)]
      · rw [if_neg e2] at h2
        by_cases e3 : z < y
        · rw [if_pos e3] at h2; cases h2
        · have : y = z := UInt8.le_antisymm (UInt8.not_lt.1 e3) (UInt8.not_lt.1 e2)
          rw [← this, if_pos e1]
    · rw [if_neg e1] at h1
      by_cases e4 : y < x
      · rw [if_pos e4] at h1; cases h1
      · have e5 : x = y := UInt8.le_antisymm (UInt8.not_lt.1 e4) (UInt8.not_lt.1 e1)
        rw [if_neg e4] at h1
        subst e5
        by_cases e2 : x < z
        · rw [if_pos e2]
        · rw [if_neg e2] at h2 ⊢
          by_cases e3 : z < x
          · rw [if_pos e3] at h2; cases h2
          · rw [if_neg e3] at h2 ⊢
            exact ltB_trans h1 h2
end Go.Proofs.YtkpagmfaccmiaaaGreat
