
/- Contract: the entries of bytes (entry.GetAll). -/

import Derived.Test.YtgjielobfakkmaaEntEach

import Derived.Test.YtgjielobfakkmaaEntBetween

import Derived.Test.YtgjielobfakkmaaEntSame

import Derived.Test.YtgjielobfakkmaaReg2

namespace Go.Proofs.Ytgjielobfakkmaa

open Go.RowKit

attribute [local go_sem] Oper.semAt_some

/-- An entry bars the way: it does not come behind the last one. -/
def Ent.bars (acc : List Ent) (x : Ent) : Bool := match acc.getLast? with | none => false | some y => !ltB y.key x.key
def Ent.run : List Ent → List (Ent × Nat) → Option (List Ent)
  | acc, [] => some acc
  | acc, x :: xs => if x.2 ≠ 0 then none else if Ent.bars acc x.1 then none else Ent.run (acc ++ [x.1]) xs
def Ent.getAll (bs : List UInt8) : Option (List Ent) := Ent.run [] (Ent.items bs.length bs)
theorem Ent.run_app : ∀ (p q : List (Ent × Nat)) (acc : List Ent), Ent.run acc (p ++ q) = (Ent.run acc p).bind fun a => Ent.run a q
  | [], q, acc => rfl
  | x :: p, q, acc => by
    simp only [List.cons_append, Ent.run]
    split
    · rfl
    · split
      · rfl
      · exact Ent.run_app p q _
theorem Ent.run_len : ∀ (p : List (Ent × Nat)) (acc r : List Ent), Ent.run acc p = some r → r.length = acc.length + p.length
  | [], acc, r, h => by simp [Ent.run] at h; subst h; simp
  | x :: p, acc, r, h => by
    simp only [Ent.run] at h
    split at h
    · cases h
    · split at h
      · cases h
      · have := Ent.run_len p _ r h
        simp at this ⊢
        omega
theorem Ent.items_len : ∀ (f : Nat) (b : List UInt8), (Ent.items f b).length ≤ f
  | 0, _ => by simp [Ent.items]
  | f + 1, b => by
    simp only [Ent.items]
    split
    · simp
    · split
      · simp; exact Ent.items_len f _
      · simp
theorem Ent.run_stop {p xs : List (Ent × Nat)} (h : p <+: xs) (hr : Ent.run [] p = none) : Ent.run [] xs = none := by
  obtain ⟨q, rfl⟩ := h
  rw [Ent.run_app, hr]; rfl

/-- What GetAll keeps between two rounds. -/
structure GaI (w0 : World) (pre : List (Ent × Nat)) (W : World) (L : List EnV) (A : Option Addr) (c : Nat) : Prop where
  run : Ent.run [] pre = some (L.map EnV.x)
  r2 : W.heap[w0.heap.size]? = some (.cells #[.slice none 0 0] 22 (0, 0))
  r3 : W.heap[w0.heap.size + 1]? = some (.cells #[.int .i64 0] 42 (0, 0))
  v : W.heap[w0.heap.size + 2]? = some (.cells #[.slice A L.length c] 22 (0, 0))
  own : Own W (w0.heap.size + 4) 28 2 A L.length c (ecs L)
  ins : ∀ e ∈ L, e.At (w0.heap.size + 4) W
  bel : Below w0.heap.size w0 W
  size : w0.heap.size + 4 ≤ W.heap.size
def GaInv (w0 : World) (pre : List (Ent × Nat)) (W : World) : Prop := ∃ L A c, GaI w0 pre W L A c
structure GaX (w0 : World) (pre : List (Ent × Nat)) (W : World) : Prop where
  run : Ent.run [] pre = none
  r2 : W.heap[w0.heap.size]? = some (.cells #[.slice none 0 0] 22 (0, 0))
  r3 : W.heap[w0.heap.size + 1]? = some (.cells #[.int .i64 170] 42 (0, 0))
  bel : Below w0.heap.size w0 W
  size : w0.heap.size + 4 ≤ W.heap.size
/-- A list of entries of its own stays where another block turns. -/
theorem list_kept {W W' : World} {B r : Nat} {L : List EnV} {A : Option Addr} {c : Nat} (h : Own W B 28 2 A L.length c (ecs L)) (hi : ∀ e ∈ L, e.At B W) (hg : W.grownBy W' (some r)) (hr : r < B ∨ (W.heap[r]?.map Obj.isCells) = some false) :
    Own W' B 28 2 A L.length c (ecs L) ∧ ∀ e ∈ L, e.At B W' := by
  refine ⟨h.kept hg ?_, fun e he => (hi e he).kept hg (fun r' e' => by injection e' with e'; subst e'; exact hr.imp id (fun h1 cur fr h2 => by rw [h2] at h1; simp [Obj.isCells] at h1))⟩
  intro k hk e
  injection e with e
  subst e
  have h1 := (h.row_lt k hk).1
  rcases hr with hr | hr
  · omega
  · rcases h.mem with h0 | ⟨g, off, cur, hA, hb, hgg, _⟩
    · simp [ownRow, h0] at hk
    · have : k = g := by
        rw [hA] at hk
        unfold ownRow at hk
        split at hk
        · cases hk
        · simpa using hk.symm
      subst this
      rw [hgg] at hr
      simp [Obj.isCells] at hr
theorem GaI.kept {w0 W W' : World} {pre : List (Ent × Nat)} {L : List EnV} {A : Option Addr} {c r : Nat} (h : GaI w0 pre W L A c) (hg : W.grownBy W' (some r)) (hr : r = w0.heap.size + 3 ∨ (w0.heap.size + 4 ≤ r ∧ (W.heap[r]?.map Obj.isCells) = some false)) : GaI w0 pre W' L A c := by
  have hne : ∀ j, j < 3 → some (w0.heap.size + j) ≠ some r := fun j hj e => by injection e with e; omega
  obtain ⟨h1, h2⟩ := list_kept h.own h.ins hg (hr.imp (fun h => by omega) (fun h => h.2))
  exact ⟨h.run, (hg.block _ (lt_of_heap h.r2) (hne 0 (by omega))).trans h.r2, (hg.block _ (lt_of_heap h.r3) (hne 1 (by omega))).trans h.r3, (hg.block _ (lt_of_heap h.v) (hne 2 (by omega))).trans h.v, h1, h2, h.bel.grown hg h.bel.size (fun k e => by injection e with e; omega), Nat.le_trans h.size hg.size⟩
theorem GaI.kept0 {w0 W W' : World} {pre : List (Ent × Nat)} {L : List EnV} {A : Option Addr} {c : Nat} (h : GaI w0 pre W L A c) (hg : W.grownBy W' none) : GaI w0 pre W' L A c := by
  have hb : Below W.heap.size W W' := ⟨hg.os, hg.tape, hg.output, hg.size, fun k hk => hg.block k hk (by simp)⟩
  exact ⟨h.run, (hb.block _ (lt_of_heap h.r2)).trans h.r2, (hb.block _ (lt_of_heap h.r3)).trans h.r3, (hb.block _ (lt_of_heap h.v)).trans h.v, h.own.below hb, fun e he => (h.ins e he).ext hb, h.bel.trans (hb.mono h.bel.size), Nat.le_trans h.size hb.size⟩
theorem GaX.kept {w0 W W' : World} {pre : List (Ent × Nat)} {row : Option Nat} (h : GaX w0 pre W) (hg : W.grownBy W' row) (hr : ∀ r, row = some r → w0.heap.size + 3 ≤ r) : GaX w0 pre W' := by
  have hne : ∀ j, j < 3 → some (w0.heap.size + j) ≠ row := fun j hj e => by have := hr _ e.symm; omega
  have h1 := lt_of_heap h.r2
  have h2 := lt_of_heap h.r3
  exact ⟨h.run, (hg.block _ h1 (hne 0 (by omega))).trans h.r2, (hg.block _ h2 (hne 1 (by omega))).trans h.r3, h.bel.grown hg h.bel.size (fun k e => by have := hr _ e; omega), Nat.le_trans h.size hg.size⟩
/-- A round's variables. -/
def GaMid (w0 : World) (tm : Nat → EnV → Nat → Array Value) (x : Ent × Nat) (a : Act) (W : World) : Prop :=
  ∃ (g : Nat) (u : EnV), a = { tmps := tm g u x.2, defers := [] } ∧ u.x = x.1 ∧ u.At (w0.heap.size + 4) W ∧ W.heap[g]? = some (.cells u.cells 28 (0, 0)) ∧ w0.heap.size + 4 ≤ g
theorem GaMid.kept {w0 W : World} {tm : Nat → EnV → Nat → Array Value} {x : Ent × Nat} {a : Act} (h : GaMid w0 tm x a W) {l : Nat} {o o' : Obj} (hl : w0.heap.size + 4 ≤ l) (ho : W.heap[l]? = some o) (hc : o.isCells = false) : GaMid w0 tm x a (W.putObj l o') := by
  obtain ⟨g, u, h1, h2, h3, h5, h6⟩ := h
  have hg := grownBy_putObj' W l o'
  refine ⟨g, u, h1, h2, h3.kept hg (fun r e => by injection e with e; subst e; exact .inr (fun cur fr h7 => by rw [ho] at h7; cases h7; simp [Obj.isCells] at hc)), (hg.block _ (lt_of_heap h5) (fun e => ?_)).trans h5, h6⟩
  injection e with e
  subst e
  rw [h5] at ho
  cases ho
  simp [Obj.isCells] at hc
theorem run_loadVar_one {P : Program} (w : World) (a : Addr) (ty : TypeId) (v : Value) (d : TypeDesc) (hu : P.underlying ty = some d) (hd : (match d with | .struct _ | .array _ _ => false | _ => true) = true) (hc : w.cell? a = some v) : (loadVar ty a).run P w = .ok v w := by
  have hagg : (isAgg ty).run P w = .ok false w := by
    unfold isAgg
    rw [Sem.run_bind, run_underlying hu w]
    cases d <;> simp_all
  simp [loadVar, Sem.run_bind, hagg, run_load, hc]
theorem results_cells2 {P : Program} {fn : Func} {p q : Tmp} {t u : TypeId} (h : fn.results = #[.cell p t, .cell q u]) (tmps : Array Value) (w : World) (a b : Addr) (x y : Value) (d1 d2 : TypeDesc)
    (hp : tmps.getD p undef = .pointer (some a)) (hq : tmps.getD q undef = .pointer (some b)) (ht : P.underlying t = some d1) (hd1 : (match d1 with | .struct _ | .array _ _ => false | _ => true) = true) (hu : P.underlying u = some d2) (hd2 : (match d2 with | .struct _ | .array _ _ => false | _ => true) = true)
    (hx : w.cell? a = some x) (hy : w.cell? b = some y) : (results fn tmps).run P w = .ok (.tuple #[x, y]) w := by
  have h2 : (results fn tmps).run P w = ((asAddr (tmps.getD p undef)).run P w).andThen fun a w₁ => ((loadVar t a).run P w₁).andThen fun x w₂ => ((asAddr (tmps.getD q undef)).run P w₂).andThen fun b w₃ => ((loadVar u b).run P w₃).andThen fun y w₄ => .ok (.tuple #[x, y]) w₄ := by
    simp only [results, h]
    simp [Sem.run_bind, Result.andThen]
  rw [h2, hp, hq]
  simp [asAddr, run_loadVar_one w a t x d1 ht hd1 hx, run_loadVar_one w b u y d2 hu hd2 hy, Result.andThen]
def GaPost (bs : List UInt8) (w : World) (e : Ending) (w' : World) : Prop :=
  (∃ L A c, Ent.getAll bs = some (L.map EnV.x) ∧ e = .returned (.tuple #[.slice A L.length c, .int .i64 0]) ∧ RdE w' A L ∧ L.length ≤ c ∧ Below w.heap.size w w') ∨
  (Ent.getAll bs = none ∧ e = .returned (.tuple #[.slice none 0 0, .int .i64 170]) ∧ Below w.heap.size w w')
theorem heap4 (w W : World) (a b c d : Obj) (h : (((w.alloc a).alloc b).alloc c).alloc d = W) : W.heap.size = w.heap.size + 4 ∧ W.heap[w.heap.size]? = some a ∧ W.heap[w.heap.size + 1]? = some b ∧ W.heap[w.heap.size + 2]? = some c ∧ W.heap[w.heap.size + 3]? = some d ∧ Below w.heap.size w W := by
  subst h
  have e0 : ((w.alloc a).alloc b).heap.size = w.heap.size + 2 := by simp
  have e1 : (((w.alloc a).alloc b).alloc c).heap.size = w.heap.size + 3 := by simp
  have k2 := World.alloc_heap_new ((w.alloc a).alloc b) c
  have k3 := World.alloc_heap_new (((w.alloc a).alloc b).alloc c) d
  have k1 := World.alloc_heap_new (w.alloc a) b
  have k0 := World.alloc_heap_new w a
  rw [World.size_alloc] at k1
  rw [e0] at k2
  rw [e1] at k3
  refine ⟨by simp, ?_, ?_, ?_, k3, (((((Below.refl _ w).alloc (Nat.le_refl _) a).alloc (by simp) b).alloc (by simp; omega) c).alloc (by simp; omega) d)⟩
  · exact (Below.heap_alloc _ _ _ (by rw [e1]; omega)).trans ((Below.heap_alloc _ _ _ (by rw [e0]; omega)).trans ((Below.heap_alloc _ _ _ (by simp)).trans k0))
  · exact (Below.heap_alloc _ _ _ (by rw [e1]; omega)).trans ((Below.heap_alloc _ _ _ (by rw [e0]; omega)).trans k1)
  · exact (Below.heap_alloc _ _ _ (by rw [e1]; omega)).trans k2

/-- The round leaves. -/
theorem ga_leave {w W V : World} {pre p : List (Ent × Nat)} {L : List EnV} {A : Option Addr} {c : Nat} (hI : GaI w pre W L A c) (hE : Ext W V) (hr : Ent.run [] p = none) :
    KeepsOthers W ((V.setCell ⟨w.heap.size, 0, none⟩ (.slice none 0 0)).setCell ⟨w.heap.size + 1, 0, none⟩ (.int .i64 170)) ∧ GaX w p ((V.setCell ⟨w.heap.size, 0, none⟩ (.slice none 0 0)).setCell ⟨w.heap.size + 1, 0, none⟩ (.int .i64 170)) := by
  refine ⟨((KeepsOthers.of_grownBy (grown_ext hE none) (fun j o e => by cases e)).trans (KeepsOthers.setCell _ _ _)).trans (KeepsOthers.setCell _ _ _), hr, ?_, ?_, ?_, ?_⟩
  · have h2 := (hE.block _ (lt_of_heap hI.r2)).trans hI.r2
    have := heap_setCell_same V w.heap.size 0 _ _ (.slice none 0 0) h2
    rw [Below.heap_setCell _ _ _ _ (by simp)]
    simpa using this
  · have h3 := (hE.block _ (lt_of_heap hI.r3)).trans hI.r3
    have h4 : (V.setCell ⟨w.heap.size, 0, none⟩ (.slice none 0 0)).heap[w.heap.size + 1]? = some (.cells #[.int .i64 0] 42 (0, 0)) := (Below.heap_setCell V _ _ _ (by simp)).trans h3
    have := heap_setCell_same _ (w.heap.size + 1) 0 _ _ (.int .i64 170) h4
    simpa using this
  · exact ((hI.bel.trans (hE.mono hI.bel.size)).setCell (Nat.le_refl _) _).setCell (by simp) _
  · have := hI.size
    have := hE.size
    simp [World.setCell]
    omega
theorem ga_cells {w W V : World} {pre : List (Ent × Nat)} {L : List EnV} {A : Option Addr} {c : Nat} (hI : GaI w pre W L A c) (hE : Ext W V) :
    V.cell? ⟨w.heap.size, 0, none⟩ = some (.slice none 0 0) ∧ V.frozen? ⟨w.heap.size, 0, none⟩ = false ∧ (V.setCell ⟨w.heap.size, 0, none⟩ (.slice none 0 0)).cell? ⟨w.heap.size + 1, 0, none⟩ = some (.int .i64 0) ∧ (V.setCell ⟨w.heap.size, 0, none⟩ (.slice none 0 0)).frozen? ⟨w.heap.size + 1, 0, none⟩ = false := by
  have h2 := (hE.block _ (lt_of_heap hI.r2)).trans hI.r2
  have h3 := (hE.block _ (lt_of_heap hI.r3)).trans hI.r3
  have h4 : (V.setCell ⟨w.heap.size, 0, none⟩ (.slice none 0 0)).heap[w.heap.size + 1]? = some (.cells #[.int .i64 0] 42 (0, 0)) := (Below.heap_setCell V _ _ _ (by simp)).trans h3
  exact ⟨cell_of_row _ _ 0 _ _ _ h2, frozen_of_row _ _ 0 _ _ h2, cell_of_row _ _ 0 _ _ _ h4, frozen_of_row _ _ 0 _ _ h4⟩
/-- The round takes the entry. -/
theorem ga_push {w W V V3 : World} {pre p : List (Ent × Nat)} {L : List EnV} {A A4 : Option Addr} {c c4 : Nat} {u : EnV} (hI : GaI w pre W L A c) (hE : Ext W V) (hat : u.At (w.heap.size + 4) W) (hg : V.grownBy V3 (ownRow A c)) (ho : Own V3 (w.heap.size + 4) 28 2 A4 (L.length + 1) c4 (ecs (L ++ [u]))) (hr : Ent.run [] p = some ((L ++ [u]).map EnV.x)) :
    KeepsOthers W (V3.setCell ⟨w.heap.size + 2, 0, none⟩ (.slice A4 (L.length + 1) c4)) ∧ KeepB (w.heap.size + 3) w.heap.size W (V3.setCell ⟨w.heap.size + 2, 0, none⟩ (.slice A4 (L.length + 1) c4)) ∧ GaInv w p (V3.setCell ⟨w.heap.size + 2, 0, none⟩ (.slice A4 (L.length + 1) c4)) := by
  have hrow : ∀ k, ownRow A c = some k → w.heap.size + 4 ≤ k ∧ k < W.heap.size := hI.own.row_lt
  have htyp : ∀ k, ownRow A c = some k → ∃ cur, W.heap[k]? = some (.cells cur 28 (0, 0)) := by
    intro k hk
    rcases hI.own.mem with h0 | ⟨g, off, cur, hA, hb, hgg, _⟩
    · simp [ownRow, h0] at hk
    · have : k = g := by
        rw [hA] at hk
        unfold ownRow at hk
        split at hk
        · cases hk
        · simpa using hk.symm
      subst this
      exact ⟨cur, hgg⟩
  have hs1 := hE.size
  have hs2 := hg.size
  have hs0 := hI.size
  have htypV : ∀ k, ownRow A c = some k → ∃ cur, V.heap[k]? = some (.cells cur 28 (0, 0)) := fun k hk => let ⟨cur, h⟩ := htyp k hk; ⟨cur, (hE.block _ (hrow k hk).2).trans h⟩
  have hno : ∀ r, ownRow A c = some r → r < w.heap.size + 4 ∨ ∀ cur fr, V.heap[r]? ≠ some (.cells cur 5 fr) := fun r hr' => .inr (fun cur fr h => by
    obtain ⟨cur', h'⟩ := htypV r hr'
    rw [h'] at h
    injection h with h
    injection h with _ h _
    exact absurd h (by decide))
  have hb : ∀ j, j < 4 → j ≠ 2 → (V3.setCell ⟨w.heap.size + 2, 0, none⟩ (.slice A4 (L.length + 1) c4)).heap[w.heap.size + j]? = W.heap[w.heap.size + j]? := fun j hj h2 => by
    rw [Below.heap_setCell _ _ _ _ (by simp; omega), hg.block _ (by omega) (fun e => by have := (hrow _ e.symm).1; omega), hE.block _ (by omega)]
  have h2 : V3.heap[w.heap.size + 2]? = some (.cells #[.slice A L.length c] 22 (0, 0)) := (hg.block _ (by omega) (fun e => by have := (hrow _ e.symm).1; omega)).trans ((hE.block _ (by omega)).trans hI.v)
  have hst := grown_setCell V3 ⟨w.heap.size + 2, 0, none⟩ (.slice A4 (L.length + 1) c4)
  have hbel : Below w.heap.size W (V3.setCell ⟨w.heap.size + 2, 0, none⟩ (.slice A4 (L.length + 1) c4)) := ((hE.mono (by omega)).grown hg (by omega) (fun k e => by have := (hrow k e).1; omega)).setCell (by simp) _
  refine ⟨((KeepsOthers.of_grownBy (grown_ext hE none) (fun j o e => by cases e)).trans (KeepsOthers.of_grownBy hg (fun j o e h => by obtain ⟨cur, h'⟩ := htypV j e; rw [h'] at h; cases h; rfl))).trans (KeepsOthers.setCell _ _ _), ⟨hb 3 (by omega) (by omega), hbel⟩, L ++ [u], A4, c4, ?_⟩
  refine ⟨hr, (hb 0 (by omega) (by omega)).trans hI.r2, (hb 1 (by omega) (by omega)).trans hI.r3, ?_, ?_, ?_, hI.bel.trans hbel, ?_⟩
  · have := heap_setCell_same V3 (w.heap.size + 2) 0 _ _ (.slice A4 (L.length + 1) c4) h2
    simpa using this
  · have := ho.kept hst (fun k hk e => by injection e with e; have := (ho.row_lt k hk).1; simp at e; omega)
    simpa using this
  · intro e he
    have h1 : e.At (w.heap.size + 4) W := by
      rcases List.mem_append.1 he with h | h
      · exact hI.ins e h
      · rw [List.mem_singleton] at h; subst h; exact hat
    exact ((h1.ext hE).kept hg hno).kept hst (fun r e => .inl (by injection e with e; simp at e; omega))
  · simp [World.setCell]; omega

set_option maxRecDepth 100000 in
set_option maxHeartbeats 2000000 in
theorem getall_any (A : Option Addr) (bs : List UInt8) (cap : Nat) (w : World) (hA : RdB w A bs) (hl : bs.length ≤ 1000000) (hc : bs.length ≤ cap) :
    Calls Try.prog 22 #[.slice A bs.length cap] w (GaPost bs w) := by
  refine (callsIn_wide (n := 5)).1 (callsIn_of_wp_marks Try.func22 rfl trivial ?_ rfl)
  simp only [Try.ntmps22, List.size_toArray, List.length_cons, List.length_nil, Nat.reduceAdd, Nat.reduceSub, Array.replicate_succ, Array.replicate_zero, List.push_toArray, List.append_toArray, List.nil_append, List.cons_append]
  refine wpIn_wide.2 ?_
  go_wp2_with (go_at_call 34; refine (each_any _ _ _ _).mono ?_; rintro e w' ⟨rfl, rfl⟩)
  obtain ⟨W0, hW0⟩ : ∃ W0, (((w.alloc (.cells #[.slice none 0 0] 22)).alloc (.cells #[.int .i64 0] 42)).alloc (.cells #[.slice none 0 0] 22)).alloc (.cells #[.slice A bs.length cap] 25) = W0 := ⟨_, rfl⟩
  obtain ⟨hsz, hr2, hr3, hrv, hgb, hb0⟩ := heap4 w W0 _ _ _ _ hW0
  rw [hW0]
  clear hW0
  have hGI : GaInv w [] W0 := ⟨[], none, 0, rfl, hr2, hr3, hrv, Own.none_ _ _ _ _ _, by simp, hb0, by omega⟩
  refine wp_range_some (n := 5) (by omega) (gf := 47) (lb := #[.pointer (some ⟨w.heap.size + 3, 0, none⟩)]) rfl (enters_fn Try.func47 (by kernel_rfl) rfl)
    (each_gives 4 (by omega) (w.heap.size + 3) A bs cap w W0 hgb hA hb0 (by omega) hl hc) (by omega) (fun h k => ⟨Eq.trans k.1 h.1, h.2.trans k.2⟩) ?hKb (fun W x vs h => by obtain ⟨u, rfl, _⟩ := h; rfl) (GaInv w) (GaX w)
    (GaMid w fun g u er => #[.slice A bs.length cap, undef, .pointer (some ⟨w.heap.size, 0, none⟩), .pointer (some ⟨w.heap.size + 1, 0, none⟩), .pointer (some ⟨w.heap.size + 2, 0, none⟩), .pointer (some ⟨g, 0, none⟩), .int .i64 (er : Int), .slice A bs.length cap, .func (.func 47) #[] #[.pointer (some ⟨w.heap.size + 3, 0, none⟩)], .agg u.cells, .int .i64 (er : Int), undef, undef, undef, undef, undef, undef, undef, undef, undef, undef, undef, undef, undef, undef, undef, undef, undef, undef, undef, undef, undef, undef, undef, undef, undef])
    ?hI ?hIx ?hMid ?hIg ?hIxg hGI ?assign ?body ?done ?stop
  case hKb =>
    intro W l o o' hl ho hc
    exact ⟨World.putObj_heap_other (by omega), (Below.refl _ _).grown (grownBy_putObj' W l o') (by have := lt_of_heap ho; omega) (fun k e => by injection e with e; omega)⟩
  case hI =>
    rintro s X Y row ⟨L, A1, c1, h⟩ hg hr
    cases row with
    | none => exact ⟨L, A1, c1, h.kept0 hg⟩
    | some r => obtain ⟨h1, h2⟩ := hr r rfl; exact ⟨L, A1, c1, h.kept hg (.inr ⟨by omega, h2⟩)⟩
  case hIx =>
    rintro s X Y row h hg hr
    exact h.kept hg (fun r e => by have := (hr r e).1; omega)
  case hMid => exact fun x a' X l o o' h hl ho hc => h.kept (by omega) ho hc
  case hIg =>
    rintro s X Y ⟨L, A1, c1, h⟩ hg _
    exact ⟨L, A1, c1, h.kept hg (.inl rfl)⟩
  case hIxg =>
    rintro s X Y h hg _
    exact h.kept hg (fun r e => by injection e with e; omega)
  case assign =>
    rintro l pre x vs W K ⟨L, A1, c1, h⟩ ⟨u, rfl, hux, hat⟩ hK
    gi_wp2_with (refine wpListIn_store_row rfl 28 (.tmp 5) (.tmp 9) rfl W.heap.size u.cells rfl rfl 28 _ (heap_alloc_new W _) (einfo u) (by rfl) (eone u) ?_; rw [setRow_alloc])
    exact hK _ _ (KeepsOthers.alloc W _) ⟨Below.heap_alloc W _ _ (by have := h.size; omega), (Below.refl _ _).alloc (by have := h.size; omega) _⟩ ⟨L, A1, c1, h.kept0 (World.grownBy_alloc W _ none)⟩ ⟨W.heap.size, u, rfl, hux, (hat.ext (Ext.alloc W _)).mono (by omega), heap_alloc_new W _, by have := h.size; omega⟩
  case body =>
    rintro l pre ⟨y, er⟩ a' W ⟨L, A1, c1, hI⟩ hpre ⟨g, u, rfl, hux, hat, hgr, hgs⟩
    have hcv : W.drew.cell? ⟨w.heap.size + 2, 0, none⟩ = some (.slice A1 L.length c1) := cell_of_row W _ 0 _ _ _ hI.v
    have hcu : W.drew.cell? ⟨g, 0, none⟩ = some (.slice u.ka u.x.key.length u.kc) := cell_of_row W _ 0 _ _ _ hgr
    have hrun1 : Ent.run [] (pre ++ [(y, er)]) = if er ≠ 0 then none else if Ent.bars (L.map EnV.x) y then none else some (L.map EnV.x ++ [y]) := by rw [Ent.run_app, hI.run]; rfl
    have hLlen : L.length ≤ 1000000 := by
      have h1 := Ent.run_len _ _ _ hI.run
      have h2 := hpre.length_le
      have h3 := Ent.items_len bs.length bs
      simp at h1 h2
      omega
    have hEd := Ext.drew W
    have HI := Lib.hid hI
    have Hgr := Lib.hid hgr
    simp only at hux
    subst hux
    dsimp only
    clear hgr hpre hI
    by_cases her : er = 0
    · subst her
      rw [if_neg (by simp)] at hrun1
      by_cases hL0 : L = []
      · subst hL0
        have hrun2 : Ent.run [] (pre ++ [(u.x, 0)]) = some (([] ++ [u]).map EnV.x) := hrun1
        clear hrun1
        gi_wp2_with fail
        refine rg_startIn l _ (by kernel_rfl) (by kernel_rfl) (by rintro ⟨a, w, h⟩; exact h) ?_
        refine rg_take 0 rfl (by kernel_rfl) (by kernel_rfl) (by kernel_rfl) (fun _ _ _ _ h => h) (by rfl) ⟨_, fun w' hx => by (go_simp <;> with_reducible rfl), ?_⟩
        simp only [Act.put, List.setIfInBounds_toArray, List.set_cons_zero, List.set_cons_succ]
        refine rg_take 1 rfl (by kernel_rfl) (by kernel_rfl) (by kernel_rfl) (fun _ _ _ _ h => h) (by rfl) ⟨_, fun w' hx => by (go_simp <;> with_reducible rfl), ?_⟩   -- t12 := binOp neq 42 t11 0:i64 42
        simp only [Act.put, List.setIfInBounds_toArray, List.set_cons_zero, List.set_cons_succ]
        refine rg_take 2 rfl (by kernel_rfl) (by kernel_rfl) (by kernel_rfl) (fun _ _ _ _ h => h) (by rfl) ⟨_, fun w' hx => by (go_simp <;> with_reducible rfl), ?_⟩
        simp only [Act.put, List.setIfInBounds_toArray, List.set_cons_zero, List.set_cons_succ]
        refine rg_take 3 rfl (by kernel_rfl) (by kernel_rfl) (by kernel_rfl) (fun _ _ _ _ h => h) (by rfl) ⟨_, fun w' hx => by have hcx := hx.load hcv; (go_simp <;> with_reducible rfl), ?_⟩
        simp only [Act.put, List.setIfInBounds_toArray, List.set_cons_zero, List.set_cons_succ]
        refine rg_take 4 rfl (by kernel_rfl) (by kernel_rfl) (by kernel_rfl) (fun _ _ _ _ h => h) (by rfl) ⟨_, fun w' hx => by (go_simp <;> with_reducible rfl), ?_⟩   -- t15 := len(t14)
        simp only [Act.put, List.setIfInBounds_toArray, List.set_cons_zero, List.set_cons_succ]
        refine rg_take 5 rfl (by kernel_rfl) (by kernel_rfl) (by kernel_rfl) (fun _ _ _ _ h => h) (by rfl) ⟨_, fun w' hx => by (go_simp <;> with_reducible rfl), ?_⟩   -- t16 := binOp gtr 3 t15 0:i64 3
        simp only [Act.put, List.setIfInBounds_toArray, List.set_cons_zero, List.set_cons_succ]
        refine rg_take 6 rfl (by kernel_rfl) (by kernel_rfl) (by kernel_rfl) (fun _ _ _ _ h => h) (by rfl) ⟨_, fun w' hx => by (go_simp <;> with_reducible rfl), ?_⟩
        simp only [Act.put, List.setIfInBounds_toArray, List.set_cons_zero, List.set_cons_succ]
        refine rg_skip 7 rfl (by kernel_rfl) (by kernel_rfl) (by kernel_rfl) (fun _ _ _ _ h => h) (by rfl) ?_
        simp only [Act.put, List.setIfInBounds_toArray, List.set_cons_zero, List.set_cons_succ]
        refine rg_skip 8 rfl (by kernel_rfl) (by kernel_rfl) (by kernel_rfl) (fun _ _ _ _ h => h) (by rfl) ?_
        simp only [Act.put, List.setIfInBounds_toArray, List.set_cons_zero, List.set_cons_succ]
        refine rg_skip 9 rfl (by kernel_rfl) (by kernel_rfl) (by kernel_rfl) (fun _ _ _ _ h => h) (by rfl) ?_
        simp only [Act.put, List.setIfInBounds_toArray, List.set_cons_zero, List.set_cons_succ]
        refine rg_skip 10 rfl (by kernel_rfl) (by kernel_rfl) (by kernel_rfl) (fun _ _ _ _ h => h) (by rfl) ?_
        simp only [Act.put, List.setIfInBounds_toArray, List.set_cons_zero, List.set_cons_succ]
        refine rg_skip 11 rfl (by kernel_rfl) (by kernel_rfl) (by kernel_rfl) (fun _ _ _ _ h => h) (by rfl) ?_
        simp only [Act.put, List.setIfInBounds_toArray, List.set_cons_zero, List.set_cons_succ]
        refine rg_skip 12 rfl (by kernel_rfl) (by kernel_rfl) (by kernel_rfl) (fun _ _ _ _ h => h) (by rfl) ?_
        simp only [Act.put, List.setIfInBounds_toArray, List.set_cons_zero, List.set_cons_succ]
        refine rg_skip 13 rfl (by kernel_rfl) (by kernel_rfl) (by kernel_rfl) (fun _ _ _ _ h => h) (by rfl) ?_
        simp only [Act.put, List.setIfInBounds_toArray, List.set_cons_zero, List.set_cons_succ]
        refine rg_skip 14 rfl (by kernel_rfl) (by kernel_rfl) (by kernel_rfl) (fun _ _ _ _ h => h) (by rfl) ?_
        simp only [Act.put, List.setIfInBounds_toArray, List.set_cons_zero, List.set_cons_succ]
        refine rg_skip 15 rfl (by kernel_rfl) (by kernel_rfl) (by kernel_rfl) (fun _ _ _ _ h => h) (by rfl) ?_
        simp only [Act.put, List.setIfInBounds_toArray, List.set_cons_zero, List.set_cons_succ]
        refine rg_skip 16 rfl (by kernel_rfl) (by kernel_rfl) (by kernel_rfl) (fun _ _ _ _ h => h) (by rfl) ?_
        simp only [Act.put, List.setIfInBounds_toArray, List.set_cons_zero, List.set_cons_succ]
        refine rg_skip 17 rfl (by kernel_rfl) (by kernel_rfl) (by kernel_rfl) (fun _ _ _ _ h => h) (by rfl) ?_
        simp only [Act.put, List.setIfInBounds_toArray, List.set_cons_zero, List.set_cons_succ]
        refine rg_take 18 rfl (by kernel_rfl) (by kernel_rfl) (by kernel_rfl) (fun _ _ _ _ h => h) (by rfl) ⟨_, fun w' hx => by (go_simp <;> with_reducible rfl), ?_⟩
        simp only [Act.put, List.setIfInBounds_toArray, List.set_cons_zero, List.set_cons_succ]
        refine rg_take 19 rfl (by kernel_rfl) (by kernel_rfl) (by kernel_rfl) (fun _ _ _ _ h => h) (by rfl) ⟨_, fun w' hx => by (go_simp <;> with_reducible rfl), ?_⟩
        simp only [Act.put, List.setIfInBounds_toArray, List.set_cons_zero, List.set_cons_succ]
        refine rg_done (by kernel_rfl) ?_
        have hEv := Ext.tr hEd (Ext.alloc W.drew (.cells u.cells 28))
        have hown2 := HI.out.own.below hEv
        have hrd : Rd (W.drew.alloc (.cells u.cells 28)) 2 (some ⟨W.drew.heap.size, 0, none⟩) 1 u.cells.toList := by
          have h1 := (RdE.one W.drew 28 u (hat.i.below hEd)).rd
          simpa [ecs] using h1
        have hcv2 : W.cell? ⟨w.heap.size + 2, 0, none⟩ = some (.slice A1 ([] : List EnV).length c1) := cell_of_row W _ 0 _ _ _ HI.out.v
        have hcsz : u.cells.size = 2 := rfl
        have hgd : W.drew.heap[g]? = some (.cells u.cells 28 (0, 0)) := Hgr.out
        have hVs := hEv.size
        have hWs := HI.out.size
        have hv3 : ∀ V3 : World, (W.drew.alloc (.cells u.cells 28)).grownBy V3 (ownRow A1 c1) → V3.cell? ⟨w.heap.size + 2, 0, none⟩ = some (.slice A1 ([] : List EnV).length c1) ∧ V3.frozen? ⟨w.heap.size + 2, 0, none⟩ = false := fun V3 hg => by
          have h1 : V3.heap[w.heap.size + 2]? = some (.cells #[.slice A1 ([] : List EnV).length c1] 22 (0, 0)) := (hg.block _ (by omega) (fun e => by have := (HI.out.own.row_lt _ e.symm).1; omega)).trans ((hEv.block _ (by omega)).trans HI.out.v)
          exact ⟨cell_of_row _ _ 0 _ _ _ h1, frozen_of_row _ _ 0 _ _ h1⟩
        have Hv3 := Lib.hid hv3
        have hlen1 : ([] ++ [u]).length = ([] : List EnV).length + 1 := by simp
        have Hlen1 := Lib.hid hlen1
        have hec : ecs ([] ++ [u]) = ecs ([] : List EnV) ++ u.cells.toList := ecs_snoc [] u
        have Hec := Lib.hid hec
        obtain ⟨d2, hd2⟩ : ∃ d2, d2 = [] ++ [u] := ⟨_, rfl⟩
        rw [← hd2] at Hlen1 Hec hrun2
        clear hv3 hlen1 hec
        gi_wp2_with (first | (refine wpListIn_load_row rfl 28 (.tmp 5) rfl g rfl 28 u.cells (0, 0) _ hgd Try.underlying28 rfl (einfo u) ?_) | (gi_at_builtin; refine wpListIn_app rfl (.tmp 31) (.tmp 33) 22 rfl elemE (w.heap.size + 4) A1 ([] : List EnV).length c1 (ecs ([] : List EnV)) rfl _ 1 1 u.cells.toList rfl (([] : List EnV).length + 1) rfl (ecs d2) Hec.out hown2 hrd (cells_one _) (by omega) (by omega) (Nat.le_trans HI.out.size hEv.size) ?_; intro A4 c4 V3 ho4 hg4 hr4; (have hh := Hv3.out V3 hg4; have hh1 := hh.1; have hh2 := hh.2; clear hh)))
        rw [hd2] at ho4 hrun2
        exact ga_push HI.out hEv hat hg4 ho4 hrun2
      · have hk : L.length - 1 < L.length := by have := List.length_pos_iff.2 hL0; omega
        have hbars : Ent.bars (L.map EnV.x) u.x = !ltB (L[L.length - 1]).x.key u.x.key := by
          unfold Ent.bars
          rw [List.getLast?_eq_getElem?]
          simp [List.getElem?_eq_getElem hk]
        rw [hbars] at hrun1
        clear hbars
        obtain ⟨k, hkl⟩ : ∃ k, L.length = k + 1 := ⟨L.length - 1, by omega⟩
        have hrd0 : RdE W A1 L := ⟨HI.out.own.rd, fun e he => (HI.out.ins e he).i⟩
        have hkk : k < L.length := by omega
        obtain ⟨ad, hA1, hcell, hin⟩ := hrd0.at_ hkk
        subst hA1
        have hkc : W.drew.cell? _ = _ := key_at hcell
        have hLk : L[L.length - 1] = L[k] := by congr 1; omega
        rw [hLk] at hrun1
        have hcmp := compare_any L[k].ka u.ka L[k].x.key u.x.key L[k].kc u.kc W.drew (hin.kr.below hEd) (hat.i.kr.below hEd)
        have ik : (0 : Int) ≤ (k : Int) := by omega
        have ik2 : (k : Int) < (L.length : Int) := by omega
        have hw : IntKind.i64.wrap ((L.length : Int) - 1) = (k : Int) := by rw [IntKind.wrap_i64]; omega
        have hpos : decide (0 < L.length) = true := by simp; omega
        have Hkl := Lib.hid hkl
        clear hrd0 hcell hin hLk hL0 hk hkl
        cases hlt : ltB L[k].x.key u.x.key with
        | false =>
          have n1 := cmp_ge hlt
          rw [hlt] at hrun1
          rw [if_pos (by rfl)] at hrun1
          have Hrun1 := Lib.hid hrun1
          generalize Lib.compareBytes L[k].x.key u.x.key = x1 at *
          have b17 : decide (0 ≤ x1) = true := by simpa using n1
          clear hlt hrun1
          gi_wp2_with fail
          refine rg_startIn l _ (by kernel_rfl) (by kernel_rfl) (by rintro ⟨a, w, h⟩; exact h) ?_
          refine rg_take 0 rfl (by kernel_rfl) (by kernel_rfl) (by kernel_rfl) (fun _ _ _ _ h => h) (by rfl) ⟨_, fun w' hx => by (go_simp <;> with_reducible rfl), ?_⟩
          simp only [Act.put, List.setIfInBounds_toArray, List.set_cons_zero, List.set_cons_succ]
          refine rg_take 1 rfl (by kernel_rfl) (by kernel_rfl) (by kernel_rfl) (fun _ _ _ _ h => h) (by rfl) ⟨_, fun w' hx => by (go_simp <;> with_reducible rfl), ?_⟩   -- t12 := binOp neq 42 t11 0:i64 42
          simp only [Act.put, List.setIfInBounds_toArray, List.set_cons_zero, List.set_cons_succ]
          refine rg_take 2 rfl (by kernel_rfl) (by kernel_rfl) (by kernel_rfl) (fun _ _ _ _ h => h) (by rfl) ⟨_, fun w' hx => by (go_simp <;> with_reducible rfl), ?_⟩
          simp only [Act.put, List.setIfInBounds_toArray, List.set_cons_zero, List.set_cons_succ]
          refine rg_take 3 rfl (by kernel_rfl) (by kernel_rfl) (by kernel_rfl) (fun _ _ _ _ h => h) (by rfl) ⟨_, fun w' hx => by have hcx := hx.load hcv; (go_simp <;> with_reducible rfl), ?_⟩
          simp only [Act.put, List.setIfInBounds_toArray, List.set_cons_zero, List.set_cons_succ]
          refine rg_take 4 rfl (by kernel_rfl) (by kernel_rfl) (by kernel_rfl) (fun _ _ _ _ h => h) (by rfl) ⟨_, fun w' hx => by (go_simp <;> with_reducible rfl), ?_⟩   -- t15 := len(t14)
          simp only [Act.put, List.setIfInBounds_toArray, List.set_cons_zero, List.set_cons_succ]
          refine rg_take 5 rfl (by kernel_rfl) (by kernel_rfl) (by kernel_rfl) (fun _ _ _ _ h => h) (by rfl) ⟨.bool true, fun w' hx => by (go_simp <;> with_reducible rfl), ?_⟩
          simp only [Act.put, List.setIfInBounds_toArray, List.set_cons_zero, List.set_cons_succ]
          refine rg_take 6 rfl (by kernel_rfl) (by kernel_rfl) (by kernel_rfl) (fun _ _ _ _ h => h) (by rfl) ⟨_, fun w' hx => by (go_simp <;> with_reducible rfl), ?_⟩
          simp only [Act.put, List.setIfInBounds_toArray, List.set_cons_zero, List.set_cons_succ]
          refine rg_take 7 rfl (by kernel_rfl) (by kernel_rfl) (by kernel_rfl) (fun _ _ _ _ h => h) (by rfl) ⟨_, fun w' hx => by have hcx := hx.load hcv; (go_simp <;> with_reducible rfl), ?_⟩
          simp only [Act.put, List.setIfInBounds_toArray, List.set_cons_zero, List.set_cons_succ]
          refine rg_take 8 rfl (by kernel_rfl) (by kernel_rfl) (by kernel_rfl) (fun _ _ _ _ h => h) (by rfl) ⟨_, fun w' hx => by have hcx := hx.load hcv; (go_simp <;> with_reducible rfl), ?_⟩
          simp only [Act.put, List.setIfInBounds_toArray, List.set_cons_zero, List.set_cons_succ]
          refine rg_take 9 rfl (by kernel_rfl) (by kernel_rfl) (by kernel_rfl) (fun _ _ _ _ h => h) (by rfl) ⟨_, fun w' hx => by (go_simp <;> with_reducible rfl), ?_⟩   -- t20 := len(t19)
          simp only [Act.put, List.setIfInBounds_toArray, List.set_cons_zero, List.set_cons_succ]
          refine rg_take 10 rfl (by kernel_rfl) (by kernel_rfl) (by kernel_rfl) (fun _ _ _ _ h => h) (by rfl) ⟨.int .i64 (k : Int), fun w' hx => by (go_simp <;> with_reducible rfl), ?_⟩
          simp only [Act.put, List.setIfInBounds_toArray, List.set_cons_zero, List.set_cons_succ]
          refine rg_take 11 rfl (by kernel_rfl) (by kernel_rfl) (by kernel_rfl) (fun _ _ _ _ h => h) (by rfl) ⟨_, fun w' hx => by (go_simp <;> with_reducible rfl), ?_⟩   -- t22 := indexAddr 22 t18 t21
          simp only [Act.put, List.setIfInBounds_toArray, List.set_cons_zero, List.set_cons_succ]
          refine rg_take 12 rfl (by kernel_rfl) (by kernel_rfl) (by kernel_rfl) (fun _ _ _ _ h => h) (by rfl) ⟨_, fun w' hx => by (go_simp <;> with_reducible rfl), ?_⟩   -- t23 := fieldAddr 28 t22 0
          simp only [Act.put, List.setIfInBounds_toArray, List.set_cons_zero, List.set_cons_succ]
          refine rg_take 13 rfl (by kernel_rfl) (by kernel_rfl) (by kernel_rfl) (fun _ _ _ _ h => h) (by rfl) ⟨_, fun w' hx => by have hcx := hx.load hkc; (go_simp <;> with_reducible rfl), ?_⟩
          simp only [Act.put, List.setIfInBounds_toArray, List.set_cons_zero, List.set_cons_succ]
          refine rg_take 14 rfl (by kernel_rfl) (by kernel_rfl) (by kernel_rfl) (fun _ _ _ _ h => h) (by rfl) ⟨_, fun w' hx => by (go_simp <;> with_reducible rfl), ?_⟩   -- t25 := fieldAddr 28 t5 0
          simp only [Act.put, List.setIfInBounds_toArray, List.set_cons_zero, List.set_cons_succ]
          refine rg_take 15 rfl (by kernel_rfl) (by kernel_rfl) (by kernel_rfl) (fun _ _ _ _ h => h) (by rfl) ⟨_, fun w' hx => by have hcx := hx.load hcu; (go_simp <;> with_reducible rfl), ?_⟩
          simp only [Act.put, List.setIfInBounds_toArray, List.set_cons_zero, List.set_cons_succ]
          -- 16: t27 := bytes.Compare#35(t24, t26)
          refine rg_call 16 hcmp rfl (by kernel_rfl) (by rfl) (by go_simp) ?_
          rintro e w' ⟨rfl, rfl⟩
          refine ⟨_, rfl, Ext.refl _, ?_⟩
          simp only [Act.put, List.setIfInBounds_toArray, List.set_cons_zero, List.set_cons_succ]
          refine rg_take 17 rfl (by kernel_rfl) (by kernel_rfl) (by kernel_rfl) (fun _ _ _ _ h => h) (by rfl) ⟨.bool true, fun w' hx => by (go_simp <;> with_reducible rfl), ?_⟩
          simp only [Act.put, List.setIfInBounds_toArray, List.set_cons_zero, List.set_cons_succ]
          refine rg_take 18 rfl (by kernel_rfl) (by kernel_rfl) (by kernel_rfl) (fun _ _ _ _ h => h) (by rfl) ⟨_, fun w' hx => by (go_simp <;> with_reducible rfl), ?_⟩
          simp only [Act.put, List.setIfInBounds_toArray, List.set_cons_zero, List.set_cons_succ]
          refine rg_take 19 rfl (by kernel_rfl) (by kernel_rfl) (by kernel_rfl) (fun _ _ _ _ h => h) (by rfl) ⟨_, fun w' hx => by (go_simp <;> with_reducible rfl), ?_⟩
          simp only [Act.put, List.setIfInBounds_toArray, List.set_cons_zero, List.set_cons_succ]
          refine rg_done (by kernel_rfl) ?_
          obtain ⟨d1, d2, d3, d4⟩ := ga_cells HI.out (Ext.refl W)
          gi_wp2
          exact ga_leave HI.out hEd Hrun1.out
        | true =>
          have n1 := cmp_lt hlt
          rw [hlt] at hrun1
          rw [if_neg (by simp)] at hrun1
          have hrun2 : Ent.run [] (pre ++ [(u.x, 0)]) = some ((L ++ [u]).map EnV.x) := by rw [hrun1]; simp
          have Hrun2 := Lib.hid hrun2
          generalize Lib.compareBytes L[k].x.key u.x.key = x1 at *
          have b17 : decide (0 ≤ x1) = false := by simp; omega
          clear hlt hrun1 hrun2
          gi_wp2_with fail
          refine rg_startIn l _ (by kernel_rfl) (by kernel_rfl) (by rintro ⟨a, w, h⟩; exact h) ?_
          refine rg_take 0 rfl (by kernel_rfl) (by kernel_rfl) (by kernel_rfl) (fun _ _ _ _ h => h) (by rfl) ⟨_, fun w' hx => by (go_simp <;> with_reducible rfl), ?_⟩
          simp only [Act.put, List.setIfInBounds_toArray, List.set_cons_zero, List.set_cons_succ]
          refine rg_take 1 rfl (by kernel_rfl) (by kernel_rfl) (by kernel_rfl) (fun _ _ _ _ h => h) (by rfl) ⟨_, fun w' hx => by (go_simp <;> with_reducible rfl), ?_⟩   -- t12 := binOp neq 42 t11 0:i64 42
          simp only [Act.put, List.setIfInBounds_toArray, List.set_cons_zero, List.set_cons_succ]
          refine rg_take 2 rfl (by kernel_rfl) (by kernel_rfl) (by kernel_rfl) (fun _ _ _ _ h => h) (by rfl) ⟨_, fun w' hx => by (go_simp <;> with_reducible rfl), ?_⟩
          simp only [Act.put, List.setIfInBounds_toArray, List.set_cons_zero, List.set_cons_succ]
          refine rg_take 3 rfl (by kernel_rfl) (by kernel_rfl) (by kernel_rfl) (fun _ _ _ _ h => h) (by rfl) ⟨_, fun w' hx => by have hcx := hx.load hcv; (go_simp <;> with_reducible rfl), ?_⟩
          simp only [Act.put, List.setIfInBounds_toArray, List.set_cons_zero, List.set_cons_succ]
          refine rg_take 4 rfl (by kernel_rfl) (by kernel_rfl) (by kernel_rfl) (fun _ _ _ _ h => h) (by rfl) ⟨_, fun w' hx => by (go_simp <;> with_reducible rfl), ?_⟩   -- t15 := len(t14)
          simp only [Act.put, List.setIfInBounds_toArray, List.set_cons_zero, List.set_cons_succ]
          refine rg_take 5 rfl (by kernel_rfl) (by kernel_rfl) (by kernel_rfl) (fun _ _ _ _ h => h) (by rfl) ⟨.bool true, fun w' hx => by (go_simp <;> with_reducible rfl), ?_⟩
          simp only [Act.put, List.setIfInBounds_toArray, List.set_cons_zero, List.set_cons_succ]
          refine rg_take 6 rfl (by kernel_rfl) (by kernel_rfl) (by kernel_rfl) (fun _ _ _ _ h => h) (by rfl) ⟨_, fun w' hx => by (go_simp <;> with_reducible rfl), ?_⟩
          simp only [Act.put, List.setIfInBounds_toArray, List.set_cons_zero, List.set_cons_succ]
          refine rg_take 7 rfl (by kernel_rfl) (by kernel_rfl) (by kernel_rfl) (fun _ _ _ _ h => h) (by rfl) ⟨_, fun w' hx => by have hcx := hx.load hcv; (go_simp <;> with_reducible rfl), ?_⟩
          simp only [Act.put, List.setIfInBounds_toArray, List.set_cons_zero, List.set_cons_succ]
          refine rg_take 8 rfl (by kernel_rfl) (by kernel_rfl) (by kernel_rfl) (fun _ _ _ _ h => h) (by rfl) ⟨_, fun w' hx => by have hcx := hx.load hcv; (go_simp <;> with_reducible rfl), ?_⟩
          simp only [Act.put, List.setIfInBounds_toArray, List.set_cons_zero, List.set_cons_succ]
          refine rg_take 9 rfl (by kernel_rfl) (by kernel_rfl) (by kernel_rfl) (fun _ _ _ _ h => h) (by rfl) ⟨_, fun w' hx => by (go_simp <;> with_reducible rfl), ?_⟩   -- t20 := len(t19)
          simp only [Act.put, List.setIfInBounds_toArray, List.set_cons_zero, List.set_cons_succ]
          refine rg_take 10 rfl (by kernel_rfl) (by kernel_rfl) (by kernel_rfl) (fun _ _ _ _ h => h) (by rfl) ⟨.int .i64 (k : Int), fun w' hx => by (go_simp <;> with_reducible rfl), ?_⟩
          simp only [Act.put, List.setIfInBounds_toArray, List.set_cons_zero, List.set_cons_succ]
          refine rg_take 11 rfl (by kernel_rfl) (by kernel_rfl) (by kernel_rfl) (fun _ _ _ _ h => h) (by rfl) ⟨_, fun w' hx => by (go_simp <;> with_reducible rfl), ?_⟩   -- t22 := indexAddr 22 t18 t21
          simp only [Act.put, List.setIfInBounds_toArray, List.set_cons_zero, List.set_cons_succ]
          refine rg_take 12 rfl (by kernel_rfl) (by kernel_rfl) (by kernel_rfl) (fun _ _ _ _ h => h) (by rfl) ⟨_, fun w' hx => by (go_simp <;> with_reducible rfl), ?_⟩   -- t23 := fieldAddr 28 t22 0
          simp only [Act.put, List.setIfInBounds_toArray, List.set_cons_zero, List.set_cons_succ]
          refine rg_take 13 rfl (by kernel_rfl) (by kernel_rfl) (by kernel_rfl) (fun _ _ _ _ h => h) (by rfl) ⟨_, fun w' hx => by have hcx := hx.load hkc; (go_simp <;> with_reducible rfl), ?_⟩
          simp only [Act.put, List.setIfInBounds_toArray, List.set_cons_zero, List.set_cons_succ]
          refine rg_take 14 rfl (by kernel_rfl) (by kernel_rfl) (by kernel_rfl) (fun _ _ _ _ h => h) (by rfl) ⟨_, fun w' hx => by (go_simp <;> with_reducible rfl), ?_⟩   -- t25 := fieldAddr 28 t5 0
          simp only [Act.put, List.setIfInBounds_toArray, List.set_cons_zero, List.set_cons_succ]
          refine rg_take 15 rfl (by kernel_rfl) (by kernel_rfl) (by kernel_rfl) (fun _ _ _ _ h => h) (by rfl) ⟨_, fun w' hx => by have hcx := hx.load hcu; (go_simp <;> with_reducible rfl), ?_⟩
          simp only [Act.put, List.setIfInBounds_toArray, List.set_cons_zero, List.set_cons_succ]
          -- 16: t27 := bytes.Compare#35(t24, t26)
          refine rg_call 16 hcmp rfl (by kernel_rfl) (by rfl) (by go_simp) ?_
          rintro e w' ⟨rfl, rfl⟩
          refine ⟨_, rfl, Ext.refl _, ?_⟩
          simp only [Act.put, List.setIfInBounds_toArray, List.set_cons_zero, List.set_cons_succ]
          refine rg_take 17 rfl (by kernel_rfl) (by kernel_rfl) (by kernel_rfl) (fun _ _ _ _ h => h) (by rfl) ⟨.bool false, fun w' hx => by (go_simp <;> with_reducible rfl), ?_⟩
          simp only [Act.put, List.setIfInBounds_toArray, List.set_cons_zero, List.set_cons_succ]
          refine rg_take 18 rfl (by kernel_rfl) (by kernel_rfl) (by kernel_rfl) (fun _ _ _ _ h => h) (by rfl) ⟨_, fun w' hx => by (go_simp <;> with_reducible rfl), ?_⟩
          simp only [Act.put, List.setIfInBounds_toArray, List.set_cons_zero, List.set_cons_succ]
          refine rg_take 19 rfl (by kernel_rfl) (by kernel_rfl) (by kernel_rfl) (fun _ _ _ _ h => h) (by rfl) ⟨_, fun w' hx => by (go_simp <;> with_reducible rfl), ?_⟩
          simp only [Act.put, List.setIfInBounds_toArray, List.set_cons_zero, List.set_cons_succ]
          refine rg_done (by kernel_rfl) ?_
          have hrun2 := Hrun2.out
          have hEv := Ext.tr hEd (Ext.alloc W.drew (.cells u.cells 28))
          have hown2 := HI.out.own.below hEv
          have hrd : Rd (W.drew.alloc (.cells u.cells 28)) 2 (some ⟨W.drew.heap.size, 0, none⟩) 1 u.cells.toList := by
            have h1 := (RdE.one W.drew 28 u (hat.i.below hEd)).rd
            simpa [ecs] using h1
          have hcv2 : W.cell? ⟨w.heap.size + 2, 0, none⟩ = some (.slice (some ad) L.length c1) := cell_of_row W _ 0 _ _ _ HI.out.v
          have hcsz : u.cells.size = 2 := rfl
          have hgd : W.drew.heap[g]? = some (.cells u.cells 28 (0, 0)) := Hgr.out
          have hVs := hEv.size
          have hWs := HI.out.size
          have hv3 : ∀ V3 : World, (W.drew.alloc (.cells u.cells 28)).grownBy V3 (ownRow (some ad) c1) → V3.cell? ⟨w.heap.size + 2, 0, none⟩ = some (.slice (some ad) L.length c1) ∧ V3.frozen? ⟨w.heap.size + 2, 0, none⟩ = false := fun V3 hg => by
            have h1 : V3.heap[w.heap.size + 2]? = some (.cells #[.slice (some ad) L.length c1] 22 (0, 0)) := (hg.block _ (by omega) (fun e => by have := (HI.out.own.row_lt _ e.symm).1; omega)).trans ((hEv.block _ (by omega)).trans HI.out.v)
            exact ⟨cell_of_row _ _ 0 _ _ _ h1, frozen_of_row _ _ 0 _ _ h1⟩
          have Hv3 := Lib.hid hv3
          have hlen1 : (L ++ [u]).length = L.length + 1 := by simp
          have Hlen1 := Lib.hid hlen1
          have hec : ecs (L ++ [u]) = ecs L ++ u.cells.toList := ecs_snoc L u
          have Hec := Lib.hid hec
          obtain ⟨d2, hd2⟩ : ∃ d2, d2 = L ++ [u] := ⟨_, rfl⟩
          rw [← hd2] at Hlen1 Hec hrun2
          clear hv3 hlen1 hec
          gi_wp2_with (first | (refine wpListIn_load_row rfl 28 (.tmp 5) rfl g rfl 28 u.cells (0, 0) _ hgd Try.underlying28 rfl (einfo u) ?_) | (gi_at_builtin; refine wpListIn_app rfl (.tmp 31) (.tmp 33) 22 rfl elemE (w.heap.size + 4) (some ad) L.length c1 (ecs L) rfl _ 1 1 u.cells.toList rfl (L.length + 1) rfl (ecs d2) Hec.out hown2 hrd (cells_one _) (by omega) (by omega) (Nat.le_trans HI.out.size hEv.size) ?_; intro A4 c4 V3 ho4 hg4 hr4; (have hh := Hv3.out V3 hg4; have hh1 := hh.1; have hh2 := hh.2; clear hh)))
          rw [hd2] at ho4 hrun2
          exact ga_push HI.out hEv hat hg4 ho4 hrun2
    · have hb1 : ((er : Int) != 0) = true := by rw [bne_iff_ne]; omega
      rw [if_pos her] at hrun1
      gi_wp2_with fail
      refine rg_startIn l _ (by kernel_rfl) (by kernel_rfl) (by rintro ⟨a, w, h⟩; exact h) ?_
      refine rg_take 0 rfl (by kernel_rfl) (by kernel_rfl) (by kernel_rfl) (fun _ _ _ _ h => h) (by rfl) ⟨_, fun w' hx => by (go_simp <;> with_reducible rfl), ?_⟩
      simp only [Act.put, List.setIfInBounds_toArray, List.set_cons_zero, List.set_cons_succ]
      refine rg_take 1 rfl (by kernel_rfl) (by kernel_rfl) (by kernel_rfl) (fun _ _ _ _ h => h) (by rfl) ⟨_, fun w' hx => by (go_simp <;> with_reducible rfl), ?_⟩
      simp only [Act.put, List.setIfInBounds_toArray, List.set_cons_zero, List.set_cons_succ]
      refine rg_take 2 rfl (by kernel_rfl) (by kernel_rfl) (by kernel_rfl) (fun _ _ _ _ h => h) (by rfl) ⟨_, fun w' hx => by (go_simp <;> with_reducible rfl), ?_⟩
      simp only [Act.put, List.setIfInBounds_toArray, List.set_cons_zero, List.set_cons_succ]
      refine rg_skip 3 rfl (by kernel_rfl) (by kernel_rfl) (by kernel_rfl) (fun _ _ _ _ h => h) (by rfl) ?_
      simp only [Act.put, List.setIfInBounds_toArray, List.set_cons_zero, List.set_cons_succ]
      refine rg_skip 4 rfl (by kernel_rfl) (by kernel_rfl) (by kernel_rfl) (fun _ _ _ _ h => h) (by rfl) ?_
      simp only [Act.put, List.setIfInBounds_toArray, List.set_cons_zero, List.set_cons_succ]
      refine rg_skip 5 rfl (by kernel_rfl) (by kernel_rfl) (by kernel_rfl) (fun _ _ _ _ h => h) (by rfl) ?_
      simp only [Act.put, List.setIfInBounds_toArray, List.set_cons_zero, List.set_cons_succ]
      refine rg_skip 6 rfl (by kernel_rfl) (by kernel_rfl) (by kernel_rfl) (fun _ _ _ _ h => h) (by rfl) ?_
      simp only [Act.put, List.setIfInBounds_toArray, List.set_cons_zero, List.set_cons_succ]
      refine rg_skip 7 rfl (by kernel_rfl) (by kernel_rfl) (by kernel_rfl) (fun _ _ _ _ h => h) (by rfl) ?_
      simp only [Act.put, List.setIfInBounds_toArray, List.set_cons_zero, List.set_cons_succ]
      refine rg_skip 8 rfl (by kernel_rfl) (by kernel_rfl) (by kernel_rfl) (fun _ _ _ _ h => h) (by rfl) ?_
      simp only [Act.put, List.setIfInBounds_toArray, List.set_cons_zero, List.set_cons_succ]
      refine rg_skip 9 rfl (by kernel_rfl) (by kernel_rfl) (by kernel_rfl) (fun _ _ _ _ h => h) (by rfl) ?_
      simp only [Act.put, List.setIfInBounds_toArray, List.set_cons_zero, List.set_cons_succ]
      refine rg_skip 10 rfl (by kernel_rfl) (by kernel_rfl) (by kernel_rfl) (fun _ _ _ _ h => h) (by rfl) ?_
      simp only [Act.put, List.setIfInBounds_toArray, List.set_cons_zero, List.set_cons_succ]
      refine rg_skip 11 rfl (by kernel_rfl) (by kernel_rfl) (by kernel_rfl) (fun _ _ _ _ h => h) (by rfl) ?_
      simp only [Act.put, List.setIfInBounds_toArray, List.set_cons_zero, List.set_cons_succ]
      refine rg_skip 12 rfl (by kernel_rfl) (by kernel_rfl) (by kernel_rfl) (fun _ _ _ _ h => h) (by rfl) ?_
      simp only [Act.put, List.setIfInBounds_toArray, List.set_cons_zero, List.set_cons_succ]
      refine rg_skip 13 rfl (by kernel_rfl) (by kernel_rfl) (by kernel_rfl) (fun _ _ _ _ h => h) (by rfl) ?_
      simp only [Act.put, List.setIfInBounds_toArray, List.set_cons_zero, List.set_cons_succ]
      refine rg_skip 14 rfl (by kernel_rfl) (by kernel_rfl) (by kernel_rfl) (fun _ _ _ _ h => h) (by rfl) ?_
      simp only [Act.put, List.setIfInBounds_toArray, List.set_cons_zero, List.set_cons_succ]
      refine rg_skip 15 rfl (by kernel_rfl) (by kernel_rfl) (by kernel_rfl) (fun _ _ _ _ h => h) (by rfl) ?_
      simp only [Act.put, List.setIfInBounds_toArray, List.set_cons_zero, List.set_cons_succ]
      refine rg_skip 16 rfl (by kernel_rfl) (by kernel_rfl) (by kernel_rfl) (fun _ _ _ _ h => h) (by rfl) ?_
      simp only [Act.put, List.setIfInBounds_toArray, List.set_cons_zero, List.set_cons_succ]
      refine rg_skip 17 rfl (by kernel_rfl) (by kernel_rfl) (by kernel_rfl) (fun _ _ _ _ h => h) (by rfl) ?_
      simp only [Act.put, List.setIfInBounds_toArray, List.set_cons_zero, List.set_cons_succ]
      refine rg_skip 18 rfl (by kernel_rfl) (by kernel_rfl) (by kernel_rfl) (fun _ _ _ _ h => h) (by rfl) ?_
      simp only [Act.put, List.setIfInBounds_toArray, List.set_cons_zero, List.set_cons_succ]
      refine rg_take 19 rfl (by kernel_rfl) (by kernel_rfl) (by kernel_rfl) (fun _ _ _ _ h => h) (by rfl) ⟨_, fun w' hx => by (go_simp <;> with_reducible rfl), ?_⟩
      simp only [Act.put, List.setIfInBounds_toArray, List.set_cons_zero, List.set_cons_succ]
      refine rg_done (by kernel_rfl) ?_
      obtain ⟨d1, d2, d3, d4⟩ := ga_cells HI.out (Ext.refl W)
      gi_wp2
      exact ga_leave HI.out hEd hrun1
  case done =>
    rintro D W ⟨L, A1, c1, h⟩ hD hK
    have hcell : W.cell? ⟨w.heap.size + 2, 0, none⟩ = some (.slice A1 L.length c1) := cell_of_row W _ 0 _ _ _ h.v
    have c2 : W.cell? ⟨w.heap.size, 0, none⟩ = some (.slice none 0 0) := cell_of_row W _ 0 _ _ _ h.r2
    have f2 : W.frozen? ⟨w.heap.size, 0, none⟩ = false := frozen_of_row W _ 0 _ _ h.r2
    have h3 : (W.setCell ⟨w.heap.size, 0, none⟩ (.slice A1 L.length c1)).heap[w.heap.size + 1]? = some (.cells #[.int .i64 0] 42 (0, 0)) := (Below.heap_setCell W _ _ _ (by simp)).trans h.r3
    have c3 := cell_of_row _ _ 0 _ _ _ h3
    have f3 := frozen_of_row _ _ 0 _ _ h3
    have g2 := heap_setCell_same W w.heap.size 0 _ _ (.slice A1 L.length c1) h.r2
    have g3 := heap_setCell_same _ (w.heap.size + 1) 0 _ _ (.int .i64 0) h3
    have hrun := h.run
    have Hg2 := Lib.hid g2
    have Hg3 := Lib.hid g3
    have Hrun := Lib.hid hrun
    have HI := Lib.hid h
    clear g2 g3 hrun h h3
    dsimp only
    go_wp2
    refine ⟨by simp, .inl ⟨_, _, rfl, run_takeDeferred ?_, ?_⟩⟩
    · exact (Below.heap_setCell _ _ _ _ (by simp; omega)).trans ((Below.heap_setCell _ _ _ _ (by simp; omega)).trans hK)
    obtain ⟨W1, hW1⟩ : ∃ W1, W.setCell ⟨w.heap.size, 0, none⟩ (.slice A1 L.length c1) = W1 := ⟨_, rfl⟩
    obtain ⟨W2, hW2⟩ : ∃ W2, W1.setCell ⟨w.heap.size + 1, 0, none⟩ (.int .i64 0) = W2 := ⟨_, rfl⟩
    have p1 : W.grownBy W1 (some w.heap.size) := by rw [← hW1]; exact grown_setCell W ⟨w.heap.size, 0, none⟩ _
    have p2 : W1.grownBy W2 (some (w.heap.size + 1)) := by rw [← hW2]; exact grown_setCell W1 ⟨w.heap.size + 1, 0, none⟩ _
    have hK2 : W2.heap[D]? = some (.deferred (some [])) := (p2.block _ (by have := p1.size; have := lt_of_heap hK; omega) (fun e => by injection e with e; omega)).trans ((p1.block _ (lt_of_heap hK) (fun e => by injection e with e; omega)).trans hK)
    rw [hW1, hW2]
    rw [hW1] at Hg2 Hg3
    rw [hW2] at Hg3
    have q1 := list_kept HI.out.own HI.out.ins p1 (.inl (by omega))
    have q2 := list_kept q1.1 q1.2 p2 (.inl (by omega))
    have hput : W2.grownBy (W2.putObj D (.deferred none)) (some D) := grownBy_putObj' W2 D _
    have q3 := list_kept q2.1 q2.2 hput (.inr (by rw [hK2]; rfl))
    have b3 : Below w.heap.size w (W2.putObj D (.deferred none)) := ((HI.out.bel.grown p1 HI.out.bel.size (fun k e => by injection e with e; omega)).grown p2 (by have := HI.out.bel.size; have := p1.size; omega) (fun k e => by injection e with e; omega)).grown hput (by have := HI.out.bel.size; have := p1.size; have := p2.size; omega) (fun k e => by injection e with e; omega)
    have r2' := (hput.block _ (lt_of_heap ((p2.block _ (lt_of_heap Hg2.out) (fun e => by injection e with e; omega)).trans Hg2.out)) (fun e => by injection e with e; omega)).trans ((p2.block _ (lt_of_heap Hg2.out) (fun e => by injection e with e; omega)).trans Hg2.out)
    have r3' := (hput.block _ (lt_of_heap Hg3.out) (fun e => by injection e with e; omega)).trans Hg3.out
    refine ⟨_, results_cells2 rfl _ _ ⟨w.heap.size, 0, none⟩ ⟨w.heap.size + 1, 0, none⟩ _ _ _ _ rfl rfl Try.underlying22 rfl Try.underlying42 rfl (cell_of_row _ _ 0 _ _ _ r2') (cell_of_row _ _ 0 _ _ _ r3'), .inl ⟨L, A1, c1, Hrun.out, rfl, ⟨q3.1.rd, fun e he => (q3.2 e he).i⟩, q3.1.nc, b3⟩⟩
  case stop =>
    rintro D pre W hpre h hD hK
    have c2 : W.cell? ⟨w.heap.size, 0, none⟩ = some (.slice none 0 0) := cell_of_row W _ 0 _ _ _ h.r2
    have c3 : W.cell? ⟨w.heap.size + 1, 0, none⟩ = some (.int .i64 170) := cell_of_row W _ 0 _ _ _ h.r3
    have hput : W.grownBy (W.putObj D (.deferred none)) (some D) := grownBy_putObj' W D _
    have h' := h.kept hput (fun r e => by injection e with e; omega)
    (try simp only [Exit.inBlock, Exit.then])
    refine ⟨by simp, .inl ⟨_, _, rfl, run_takeDeferred hK, ?_⟩⟩
    refine ⟨_, results_cells2 rfl _ _ ⟨w.heap.size, 0, none⟩ ⟨w.heap.size + 1, 0, none⟩ _ _ _ _ rfl rfl Try.underlying22 rfl Try.underlying42 rfl (cell_of_row _ _ 0 _ _ _ h'.r2) (cell_of_row _ _ 0 _ _ _ h'.r3), .inr ⟨Ent.run_stop hpre h'.run, rfl, h'.bel⟩⟩
end Go.Proofs.Ytgjielobfakkmaa
