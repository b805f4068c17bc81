
/- A range over a function whose iterator gives a known list, some rounds of which may leave by a return; and a region that draws its order inside a round. -/

import Derived.Test.YtnagbhaknmoilaaSeq

import Derived.Test.YtnagbhaknmoilaaReg2

import Derived.OrdersIn

namespace Go.Proofs.Ytnagbhaknmoilaa

open Go.RowKit

/-! ### a drawn region inside a round -/

theorem wpAny_in {P : Program} {md : Region.Mode} {ops : Array Oper} {Q : Exit → Act → World → Prop} (l n : Nat) (hd : ∀ (i : Nat) (o : Oper), ops[i]? = some o → ∀ c, o.op ≠ .defer c) (hQ : ¬ LetsOut Q) :
    ∀ (fuel : Nat) (listed : Array Bool) (a : Act) (w : World), wpAny P md ops Q fuel listed a w → wpAnyIn (Fence.wide.inRound l) n P md ops Q fuel listed a w
  | 0, _, _, _, h => h
  | fuel + 1, listed, a, w, h => by
    refine ⟨h.1, fun i hi => ?_⟩
    have h2 := h.2 i hi
    unfold wpOp at h2
    unfold wpOpIn
    cases ho : ops[i]? with
    | none => rw [ho] at h2; exact wpAny_in l n hd hQ fuel _ _ _ h2
    | some o =>
      rw [ho] at h2
      simp only at h2 ⊢
      split
      · rename_i hw
        rw [if_pos hw] at h2
        rcases h2 with h2 | ⟨_, h2⟩
        · unfold Oper.wp at h2
          unfold Oper.wpIn
          refine ⟨fun _ _ => trivial, ?_⟩
          rw [show (Fence.wide.inRound l).round = some l from rfl, Oper.semAt_some l _ _ (hd i o ho)]
          generalize (execOp a.eval o).run P w = r at *
          cases r with
          | ok x w' =>
            cases x <;> simp only [Oper.upon] at h2 <;> simp only [Oper.uponIn]
            case value => exact wpAny_in l n hd hQ fuel _ _ _ h2
            case skip => exact wpAny_in l n hd hQ fuel _ _ _ h2
            case defer => exact wpAny_in l n hd hQ fuel _ _ _ h2
            case enter f args =>
              refine ⟨fun h => by simp [Fence.wide] at h, CallsIn.inRound l (callsIn_wide.2 (h2.mono fun e w'' he => ?_))⟩
              cases e with
              | returned v => exact wpAny_in l n hd hQ fuel _ _ _ he
              | panicked c => exact he
              | outgrown => exact he
            case row row args =>
              refine ⟨fun h => by simp [Fence.wide] at h, fun c cs _ => ?_⟩
              obtain ⟨v, w'', hr, hs⟩ := h2 c cs
              exact ⟨v, w'', wpAny_in l n hd hQ fuel _ _ _ hr, stepsIn_wide.2 hs⟩
          | halt x w' => cases x <;> simp only [Oper.upon] at h2 <;> simp only [Oper.uponIn]; exact h2
        · exact absurd h2 hQ
      · rename_i hw
        rw [if_neg hw] at h2
        exact ⟨fun _ _ => trivial, wpAny_in l n hd hQ fuel _ _ _ h2⟩

theorem rg_startIn {P : Program} {ops : Array Oper} {Q : Exit → Act → World → Prop} (l n : Nat) {id : Nat} {a : Act} {w : World} (hm : P.follows .mixedOrders = true) (hd : (ops.all fun o => match o.op with | .defer _ => false | _ => true) = true) (hQ : ¬ LetsOut Q)
    (h : wpAnyR P .any ops Q ops.size (Array.replicate ops.size false) a w.drew) : (Code.region id ops true).wpIn (Fence.wide.inRound l) n P Q a w := by
  refine wpIn_region_any hm (wpAny_in l n (fun i o hi c e => ?_) hQ _ _ _ _ (wpAny_of_R _ _ _ _ h))
  have h1 := (Array.all_eq_true.1 hd) i (Array.getElem?_eq_some_iff.1 hi).1
  rw [(Array.getElem?_eq_some_iff.1 hi).2, e] at h1
  cases h1

/-! ### an iterator, of which a round may leave -/

/-- The iterator gives just the list xs, unless it is told to stop. -/
def GivesSome {α : Type} (F : Fence) (n : Nat) (P : Program) (gf : Nat) (lb : Array Value) (encs : World → α → Array Value → Prop) (Kp : World → World → Prop) (xs : List α) (gb : Nat) (w : World) : Prop :=
  ∀ (l : Nat) (J Jx : List α → World → Prop) (W : World), Below w.heap.size w W → (∀ s A B, J s A → A.grownBy B (some gb) → (A.heap[gb]?.map Obj.isCells) = some true → J s B) → (∀ s A B, Jx s A → A.grownBy B (some gb) → (A.heap[gb]?.map Obj.isCells) = some true → Jx s B) →
    (∀ pre x vs W1, J pre W1 → (pre ++ [x]) <+: xs → encs W1 x vs → YieldAt F (n - 1) P l vs W1 fun e W' => (e = .returned (.bool true) ∧ J (pre ++ [x]) W' ∧ Kp W1 W') ∨ (e = .returned (.bool false) ∧ Jx (pre ++ [x]) W')) →
    J [] W →
    CallsIn F n P gf (#[.func (.yield l) #[] #[]] ++ lb) W fun e W' => (∃ v, e = .returned v) ∧ (J xs W' ∨ ∃ pre, pre <+: xs ∧ Jx pre W')

/-- How the body of a round is left: it goes on, or it returns. -/
def goesOrLeaves {α : Type} (Kp : World → World → Prop) (I Ix : List α → World → Prop) (xs : List α) (W : World) : Exit → Act → World → Prop
  | .normal, _, W' => KeepsOthers W W' ∧ Kp W W' ∧ I xs W'
  | .ret, _, W' => KeepsOthers W W' ∧ Ix xs W'
  | _, _, _ => False

theorem wp_range_some {P : Program} {α : Type} {g : Operand} {ps : Array Tmp} {assign body : Code} {Q : Exit → Act → World → Prop} {a : Act} {w : World} {n : Nat} (hn : 1 ≤ n)
    {gf : Nat} {lb : Array Value} (hg : a.eval g = .func (.func gf) #[] lb) (eg : ∀ args w, (callFunc gf args).run P w = .ok (.enter gf args) w)
    {encs : World → α → Array Value → Prop} {Kp : World → World → Prop} {xs : List α} {gb : Nat} (hseq : GivesSome Fence.wide (n - 1) P gf lb encs Kp xs gb w)
    (hgb : gb < w.heap.size) (hKt : ∀ {A B C : World}, Kp A B → Kp B C → Kp A C) (hKb : ∀ (W : World) (l : Nat) (o o' : Obj), w.heap.size ≤ l → W.heap[l]? = some o → o.isCells = false → Kp W (W.putObj l o')) (hps : ∀ W x vs, encs W x vs → vs.size = ps.size)
    (I Ix : List α → World → Prop) (Mid : α → Act → World → Prop) (hI : ∀ s A B row, I s A → A.grownBy B row → (∀ r, row = some r → w.heap.size ≤ r ∧ (A.heap[r]?.map Obj.isCells) = some false) → I s B)
    (hIx : ∀ s A B row, Ix s A → A.grownBy B row → (∀ r, row = some r → w.heap.size ≤ r ∧ (A.heap[r]?.map Obj.isCells) = some false) → Ix s B)
    (hMid : ∀ x a' A l o o', Mid x a' A → w.heap.size ≤ l → A.heap[l]? = some o → o.isCells = false → Mid x a' (A.putObj l o'))
    (hIg : ∀ s A B, I s A → A.grownBy B (some gb) → (A.heap[gb]?.map Obj.isCells) = some true → I s B) (hIxg : ∀ s A B, Ix s A → A.grownBy B (some gb) → (A.heap[gb]?.map Obj.isCells) = some true → Ix s B) (h0 : I [] w)
    (hassign : ∀ (l : Nat) (pre : List α) (x : α) (vs : Array Value) (W : World) (K : Act → World → Prop), I pre W → encs W x vs → (∀ a' W', KeepsOthers W W' → Kp W W' → I pre W' → Mid x a' W' → K a' W') →
      assign.wpIn (Fence.wide.inRound l) (n - 1 - 1) P (Exit.then K (fun _ _ _ => False)) { tmps := (ps.zip vs).foldl (fun t (p, v) => t.setIfInBounds p v) a.tmps, defers := [] } W)
    (hbody : ∀ (l : Nat) (pre : List α) (x : α) (a' : Act) (W : World), I pre W → (pre ++ [x]) <+: xs → Mid x a' W → body.wpIn (Fence.wide.inRound l) (n - 1 - 1) P (goesOrLeaves Kp I Ix (pre ++ [x]) W) a' W)
    (hdone : ∀ (D : Nat) (W : World), I xs W → w.heap.size ≤ D → W.heap[D]? = some (.deferred (some [])) → Q .normal { a with defers := { target := .collected D, args := #[] } :: a.defers } W)
    (hstop : ∀ (D : Nat) (pre : List α) (W : World), pre <+: xs → Ix pre W → w.heap.size ≤ D → W.heap[D]? = some (.deferred (some [])) → Q .ret { a with defers := { target := .collected D, args := #[] } :: a.defers } W) :
    (Code.rangeFunc g ps assign body).wp P Q a w := by
  refine (wpIn_wide (n := n)).1 (wpIn_rangeFunc ?_)
  intro fn hfn
  obtain ⟨rec, hrec⟩ : ∃ rec : LoopState → Option Code → Loop, rec = fun st pe => { state := st, pending := pe, fn, tmps := a.tmps, params := ps, assign, body, defers := w.heap.size } := ⟨_, rfl⟩
  obtain ⟨W1, hW1⟩ : ∃ W1, (w.alloc (.deferred (some []))).alloc (.loop (rec .ready none)) = W1 := ⟨_, rfl⟩
  have hL1 : W1.heap[w.heap.size + 1]? = some (.loop (rec .ready none)) := by
    rw [← hW1]; have := World.alloc_heap_new (w.alloc (.deferred (some []))) (.loop (rec .ready none)); rwa [World.size_alloc] at this
  have hK1 : W1.heap[w.heap.size]? = some (.deferred (some [])) := by
    rw [← hW1]; exact (Below.heap_alloc _ _ _ (by simp)).trans (World.alloc_heap_new w _)
  have hIalloc : ∀ s (A : World) (o : Obj), I s A → I s (A.alloc o) := fun s A o h => hI s A _ none h (World.grownBy_alloc A o none) (fun r e => by cases e)
  have hIput : ∀ s (A : World) (l : Nat) (o o' : Obj), I s A → w.heap.size ≤ l → A.heap[l]? = some o → o.isCells = false → I s (A.putObj l o') := fun s A l o o' h hl ho hc =>
    hI s A _ (some l) h (grownBy_putObj' A l o') (fun r e => by cases e; exact ⟨hl, by rw [ho]; simp [hc]⟩)
  have hIxput : ∀ s (A : World) (l : Nat) (o o' : Obj), Ix s A → w.heap.size ≤ l → A.heap[l]? = some o → o.isCells = false → Ix s (A.putObj l o') := fun s A l o o' h hl ho hc =>
    hIx s A _ (some l) h (grownBy_putObj' A l o') (fun r e => by cases e; exact ⟨hl, by rw [ho]; simp [hc]⟩)
  have hI1 : I [] W1 := by rw [← hW1]; exact hIalloc _ _ _ (hIalloc _ _ _ h0)
  have hb1 : Below w.heap.size w W1 := by
    rw [← hW1]; exact ((Below.refl _ w).alloc (Nat.le_refl _) _).alloc (by simp) _
  refine ⟨w.heap.size + 1, [{ target := .collected w.heap.size, args := #[] }], W1, { target := .fn (.func gf) lb, args := #[.func (.yield (w.heap.size + 1)) #[] #[]] }, W1, gf,
    #[.func (.yield (w.heap.size + 1)) #[] #[]] ++ lb, W1, ?_, ?_, ?_, ?_, fun _ => hn, ?_⟩
  · rw [← hW1, hrec]; exact run_enterLoop_outer _ _ _ _ _
  · simp only [resolve, hg]
    simp [go_sem]
  · intro f' hf'; trivial
  · simp [invoke, go_sem, eg]
  · refine (hseq (w.heap.size + 1)
      (fun pre W => I pre W ∧ W.heap[w.heap.size + 1]? = some (.loop (rec .ready none)) ∧ W.heap[w.heap.size]? = some (.deferred (some [])))
      (fun pre W => Ix pre W ∧ W.heap[w.heap.size + 1]? = some (.loop (rec .done (some .ret))) ∧ W.heap[w.heap.size]? = some (.deferred (some [])))
      W1 hb1
      (fun s A B hs hg' hc => ⟨hIg s A B hs.1 hg' hc, (hg'.block _ (Array.getElem?_eq_some_iff.1 hs.2.1).1 (by intro e; injection e with e; omega)).trans hs.2.1, (hg'.block _ (Array.getElem?_eq_some_iff.1 hs.2.2).1 (by intro e; injection e with e; omega)).trans hs.2.2⟩)
      (fun s A B hs hg' hc => ⟨hIxg s A B hs.1 hg' hc, (hg'.block _ (Array.getElem?_eq_some_iff.1 hs.2.1).1 (by intro e; injection e with e; omega)).trans hs.2.1, (hg'.block _ (Array.getElem?_eq_some_iff.1 hs.2.2).1 (by intro e; injection e with e; omega)).trans hs.2.2⟩)
      ?_ ⟨hI1, hL1, hK1⟩).mono ?_
    · rintro pre x vs W ⟨hi, hl, hk⟩ hpre hev
      have hy := run_yield (P := P) (args := vs) hl (by rw [hrec]; exact hps _ _ _ hev)
      rw [hrec] at hy
      refine ⟨fn, _, assign, body, hy, roundIn_of_wpIn hfn (hassign _ pre x vs W _ hi hev ?_)⟩
      intro a2 W0 hko0 hkp0 hi0 hmid0
      have hl0 := hko0.same _ _ hl rfl
      have hk0 := hko0.same _ _ hk rfl
      have hlt : w.heap.size + 1 < W0.heap.size := (Array.getElem?_eq_some_iff.1 hl0).1
      refine ⟨_, run_beginRound hl0 (by rw [hrec]), ?_⟩
      have hl2 : (W0.putObj (w.heap.size + 1) (.loop { rec .ready none with state := .busy })).heap[w.heap.size + 1]? = some (.loop { rec .ready none with state := .busy }) := World.putObj_heap_same hlt
      have hk2 : (W0.putObj (w.heap.size + 1) (.loop { rec .ready none with state := .busy })).heap[w.heap.size]? = some (.deferred (some [])) := (World.putObj_heap_other (by omega)).trans hk0
      have hw2 : Kp W (W0.putObj (w.heap.size + 1) (.loop { rec .ready none with state := .busy })) := hKt hkp0 (hKb _ _ _ _ (by omega) hl0 rfl)
      refine wpIn_mono (hbody _ pre x _ _ (hIput _ _ _ _ _ hi0 (by omega) hl0 rfl) hpre (hMid _ _ _ _ _ _ hmid0 (by omega) hl0 rfl)) ?_
      rintro e a3 W3 hp
      cases e with
      | normal =>
        obtain ⟨hk3, hkp3, hi3⟩ := hp
        have hl3 := hk3.same _ _ hl2 rfl
        have hr := run_endRound (P := P) none hl3
        rw [hrec] at hr hl3
        have hl4 : (W3.putObj (w.heap.size + 1) (.loop (rec .ready none))).heap[w.heap.size + 1]? = some (.loop (rec .ready none)) := World.putObj_heap_same (Array.getElem?_eq_some_iff.1 hl3).1
        have hk4 : (W3.putObj (w.heap.size + 1) (.loop (rec .ready none))).heap[w.heap.size]? = some (.deferred (some [])) := (World.putObj_heap_other (by omega)).trans (hk3.same _ _ hk2 rfl)
        rw [hrec] at hl4 hk4
        refine ⟨_, _, hr, .inl ⟨rfl, ⟨hIput _ _ _ _ _ hi3 (by omega) hl3 rfl, ?_, ?_⟩, hKt (hKt hw2 hkp3) (hKb _ _ _ _ (by omega) hl3 rfl)⟩⟩
        · rw [hrec]; exact hl4
        · exact hk4
      | ret =>
        obtain ⟨hk3, hi3⟩ := hp
        have hl3 := hk3.same _ _ hl2 rfl
        have hr := run_endRound (P := P) (some .ret) hl3
        rw [hrec] at hr hl3
        have hl4 : (W3.putObj (w.heap.size + 1) (.loop (rec .done (some .ret)))).heap[w.heap.size + 1]? = some (.loop (rec .done (some .ret))) := World.putObj_heap_same (Array.getElem?_eq_some_iff.1 hl3).1
        have hk4 : (W3.putObj (w.heap.size + 1) (.loop (rec .done (some .ret)))).heap[w.heap.size]? = some (.deferred (some [])) := (World.putObj_heap_other (by omega)).trans (hk3.same _ _ hk2 rfl)
        rw [hrec] at hl4 hk4
        refine ⟨_, _, hr, .inr ⟨rfl, hIxput _ _ _ _ _ hi3 (by omega) hl3 rfl, ?_, ?_⟩⟩
        · rw [hrec]; exact hl4
        · exact hk4
      | exit id => exact hp.elim
      | goto t => exact hp.elim
      | panic ch => exact hp.elim
      | outgrown => exact hp.elim
    · rintro e W2 ⟨⟨v, rfl⟩, (⟨hi, hl, hk⟩ | ⟨pre, hpre, hi, hl, hk⟩)⟩
      · refine ⟨none, _, by have := run_endLoop (P := P) hl (by rw [hrec]; simp); rw [hrec] at this; exact this, hdone _ _ (hIput _ _ _ _ _ hi (by omega) hl rfl) (Nat.le_refl _) ((World.putObj_heap_other (by omega)).trans hk)⟩
      · refine ⟨some .ret, _, by have := run_endLoop (P := P) hl (by rw [hrec]; simp); rw [hrec] at this; exact this, wpIn_ret (hstop _ pre _ hpre (hIxput _ _ _ _ _ hi (by omega) hl rfl) (Nat.le_refl _) ((World.putObj_heap_other (by omega)).trans hk))⟩
end Go.Proofs.Ytnagbhaknmoilaa
