
/- Contract of frame.Put: a record's sectors. -/

import Derived.Test.YtpabbackiobefaaFrmChunk

import Derived.Test.YtpabbackiobefaaCrcProg3

namespace Go.Proofs.Ytpabbackiobefaa

open Go.RowKit

attribute [local go_sem] Oper.semAt_some

section

variable {F : Fence} {n : Nat} {P : Program} {w : World} {ops : Array Oper} {rest : List Oper} {o : Oper} {a : Act} {Q : Exit → Act → World → Prop}

theorem wpListIn_mk (hgd : o.guard = none) (l c : Operand) (t : TypeId) (ho : o.op = .makeSlice t l c) {e : TypeId} {bytes : Nat} (T : ElemT P t e 1 bytes) (z : Value) (hz : (P.info? e).bind (·.zero) = some z) (hz1 : z.cells = #[z])
    (m : Nat) (kl kc : IntKind) (hl : a.eval l = .int kl (m : Int)) (hc : a.eval c = .int kc (m : Int)) (hn : bytes * m ≤ 140737488355328) (h63 : m ≤ 140737488355328)
    (h : wpListIn F n P ops Q rest (a.put o.dst (.slice (some ⟨w.heap.size, 0, none⟩) m m)) (w.alloc (.cells (Array.replicate m z) e))) : wpListIn F n P ops Q (o :: rest) a w := by
  refine wpListIn_plain hgd fun K hK => ?_
  obtain ⟨i, z', g1, g2, g3, g4, g5⟩ := T.hi
  obtain rfl : z' = z := by rw [g1] at hz; simpa [g2] using hz
  have hb : (i.bytes : Int) * (m : Int) ≤ 281474976710656 := by
    rw [g4]
    have : ((bytes * m : Nat) : Int) ≤ 140737488355328 := by omega
    rw [Int.natCast_mul] at this
    omega
  have hr := run_make (P := P) w t e i z' T.ht g1 g2 kl kc m m (by omega) (by omega) hb (by omega)
  rw [g3, Int.toNat_natCast, Nat.mul_one, made_one _ _ hz1] at hr
  unfold Oper.wpIn
  refine ⟨?_, ?_⟩
  · simp [Oper.about, ho]
  · rw [Oper.semAt_plain F _ _ (by rw [ho]; intro c hc'; cases hc')]
    simp [execOp, ho, hl, hc, hr, Result.andThen]
    exact hK _ _ h
theorem wpListIn_copyL (hgd : o.guard = none) (d x : Operand) (t : TypeId) (ho : o.op = .call { callee := .builtin .copy, args := #[d, x], argTypes := #[t, t] })
    {e : TypeId} {bytes : Nat} (T : ElemT P t e 1 bytes) (g f dLen dCap : Nat) (m : Nat) (hd : a.eval d = .slice (some ⟨g, f, none⟩) dLen dCap) (A2 : Option Addr) (c2 : Nat) (ys : List Value) (hx : a.eval x = .slice A2 m c2)
    (hr : Rd w 1 A2 m ys) (hm : 0 < m) (hmd : m ≤ dLen) (cur : Array Value) (rt : TypeId) (hg : w.heap[g]? = some (.cells cur rt (0, 0))) (hfit : f + m ≤ cur.size) (h1 : ∀ u ∈ ys, u.oneCell' = true)
    (zs : List Value) (hz : cur.toList.take f ++ ys ++ cur.toList.drop (f + m) = zs)
    (h : wpListIn F n P ops Q rest (a.put o.dst (.int .i64 (m : Int))) (w.setRow g zs.toArray)) : wpListIn F n P ops Q (o :: rest) a w := by
  refine wpListIn_plain hgd fun K hK => ?_
  have hl : ys.length = m := by have := hr.1; omega
  obtain ⟨ad, rfl, hcells⟩ := hr.2 (by rintro rfl; simp at hl; omega)
  have hrun := run_copy_row (P := P) w t t o.type e g f dLen dCap ad m c2 cur rt ys T.ht T.one hg (by rw [hl]; exact (Nat.min_eq_left hmd).symm) hcells (by rw [hl]; exact hfit) h1
  rw [hl, hz] at hrun
  unfold Oper.wpIn
  refine ⟨?_, ?_⟩
  · simp [Oper.about, ho, resolve, Target.leads, Sem.run_pure]
  · rw [Oper.semAt_plain F _ _ (by rw [ho]; intro c hc'; cases hc')]
    simp [execOp, ho, resolve, invoke, builtin, hd, hx, hrun, Result.andThen]
    exact hK _ _ h
end

theorem grownSet (w : World) (p : Addr) (u : Value) : w.grownBy (w.setCell p u) (some p.block) :=
  ⟨rfl, rfl, rfl, by simp [World.setCell], fun i _ hn => Below.heap_setCell w p u i (fun e => hn (by rw [e]))⟩
theorem elemSl : ElemT Try.prog 25 23 1 24 := ElemT.mk' (z := .slice none 0 0) Try.underlying25 (by kernel_rfl) rfl (by omega)
/-- A sector of the call's own. -/
def SecAt (B : Nat) (W : World) (s : Sl) : Prop := ∃ g, s.a = some ⟨g, 0, none⟩ ∧ B ≤ g ∧ s.c = 64 ∧ s.bs.length = 64 ∧ W.heap[g]? = some (.cells (bvs s.bs).toArray 5 (0, 0))
theorem SecAt.rd {B : Nat} {W : World} {s : Sl} (h : SecAt B W s) : RdB W s.a s.bs := by
  obtain ⟨g, h1, _, _, _, h5⟩ := h
  rw [h1]
  exact ⟨by rw [bvs_len]; omega, fun _ => ⟨_, rfl, fun j u hj => by rw [Addr.add_lit, cell_of_row _ _ _ _ _ _ h5]; simpa using hj⟩⟩
theorem SecAt.kept {B : Nat} {W W' : World} {s : Sl} {row : Option Nat} (h : SecAt B W s) (hg : W.grownBy W' row) (hr : ∀ r, row = some r → r < B ∨ ∀ cur fr, W.heap[r]? ≠ some (.cells cur 5 fr)) : SecAt B W' s := by
  obtain ⟨g, h1, h2, h3, h4, h5⟩ := h
  refine ⟨g, h1, h2, h3, h4, (hg.block _ (lt_of_heap h5) (fun e => ?_)).trans h5⟩
  rcases hr g e.symm with h6 | h6
  · omega
  · exact h6 _ _ h5
theorem SecAt.ext {B : Nat} {W W' : World} {s : Sl} (h : SecAt B W s) (hE : Ext W W') : SecAt B W' s := h.kept (grown_ext hE none) (fun r e => by cases e)

structure FpI (W9 : World) (e a : Nat) (c : List UInt8) (n : Nat) (W : World) (L : List Sl) (A : Option Addr) (cp : Nat) : Prop where
  nl : L.length = n
  sec : L.map Sl.bs = (List.range n).map (Frm.sec e a c)
  v : W.heap[W9.heap.size]? = some (.cells #[.slice A L.length cp] 25 (0, 0))
  own : Own W (W9.heap.size + 3) 23 1 A L.length cp (L.map Sl.val)
  ins : ∀ s ∈ L, SecAt (W9.heap.size + 3) W s
  bel : Below W9.heap.size W9 W
  size : W9.heap.size + 3 ≤ W.heap.size
def FpInv (W9 : World) (e a : Nat) (c : List UInt8) (pre : List Sl) (W : World) : Prop := ∃ L A cp, FpI W9 e a c pre.length W L A cp
theorem own_typ {W : World} {B : Nat} {t : TypeId} {z : Nat} {A : Option Addr} {n c : Nat} {xs : List Value} (h : Own W B t z A n c xs) : ∀ k, ownRow A c = some k → ∃ cur, W.heap[k]? = some (.cells cur t (0, 0)) := by
  intro k hk
  rcases h.mem with h0 | ⟨g, off, cur, hA, hb, hgg, _⟩
  · simp [ownRow, h0] at hk
  · have : k = g := by
      rw [hA] at hk
      unfold ownRow at hk
      split at hk
      · cases hk
      · simpa using hk.symm
    subst this
    exact ⟨cur, hgg⟩
theorem FpI.kept {W9 : World} {e a : Nat} {c : List UInt8} {n : Nat} {W W' : World} {L : List Sl} {A : Option Addr} {cp : Nat} {row : Option Nat} (h : FpI W9 e a c n W L A cp) (hg : W.grownBy W' row) (hr : ∀ r, row = some r → r = W9.heap.size + 1 ∨ (W9.heap.size + 3 ≤ r ∧ (W.heap[r]?.map Obj.isCells) = some false)) : FpI W9 e a c n W' L A cp := by
  have hno : ∀ k t cur fr, W.heap[k]? = some (.cells cur t fr) → W9.heap.size + 1 ≠ k → some k ≠ row := fun k t cur fr hk hne e => by
    rcases hr k e.symm with h1 | ⟨_, h1⟩
    · omega
    · rw [hk] at h1; simp [Obj.isCells] at h1
  refine ⟨h.nl, h.sec, (hg.block _ (lt_of_heap h.v) (hno _ _ _ _ h.v (by omega))).trans h.v, h.own.kept hg (fun k hk => ?_), fun s hs => (h.ins s hs).kept hg (fun r e => ?_), h.bel.grown hg h.bel.size (fun k e => by rcases hr k e with h1 | ⟨h1, _⟩ <;> omega), Nat.le_trans h.size hg.size⟩
  · obtain ⟨cur, hc⟩ := own_typ h.own k hk
    have := (h.own.row_lt k hk).1
    exact hno _ _ _ _ hc (by omega)
  · rcases hr r e with h1 | ⟨_, h1⟩
    · exact .inl (by omega)
    · exact .inr (fun cur fr h2 => by rw [h2] at h1; simp [Obj.isCells] at h1)
/-- The round lays one more sector. -/
theorem fp_push {W9 W V V3 : World} {e a : Nat} {c : List UInt8} {n : Nat} {L : List Sl} {A A4 : Option Addr} {cp c4 : Nat} {s : Sl} (hI : FpI W9 e a c n W L A cp) (hE : Ext W V) (hs : SecAt (W9.heap.size + 3) V s) (hsb : s.bs = Frm.sec e a c n)
    (hg : V.grownBy V3 (ownRow A cp)) (ho : Own V3 (W9.heap.size + 3) 23 1 A4 (L.length + 1) c4 ((L ++ [s]).map Sl.val)) :
    KeepsOthers W (V3.setCell ⟨W9.heap.size, 0, none⟩ (.slice A4 (L.length + 1) c4)) ∧ KeepC (W9.heap.size + 1) W9.heap.size W (V3.setCell ⟨W9.heap.size, 0, none⟩ (.slice A4 (L.length + 1) c4)) ∧ FpI W9 e a c (n + 1) (V3.setCell ⟨W9.heap.size, 0, none⟩ (.slice A4 (L.length + 1) c4)) (L ++ [s]) A4 c4 := by
  have hrow : ∀ k, ownRow A cp = some k → W9.heap.size + 3 ≤ k ∧ k < W.heap.size := hI.own.row_lt
  have hs1 := hE.size
  have hs2 := hg.size
  have hs0 := hI.size
  have htypV : ∀ k, ownRow A cp = some k → ∃ cur, V.heap[k]? = some (.cells cur 23 (0, 0)) := fun k hk => let ⟨cur, h⟩ := own_typ hI.own k hk; ⟨cur, (hE.block _ (hrow k hk).2).trans h⟩
  have hno : ∀ r, ownRow A cp = some r → r < W9.heap.size + 3 ∨ ∀ cur fr, V.heap[r]? ≠ some (.cells cur 5 fr) := fun r hr' => .inr (fun cur fr h => by
    obtain ⟨cur', h'⟩ := htypV r hr'
    rw [h'] at h
    injection h with h
    injection h with _ h _
    exact absurd h (by decide))
  have hb : ∀ j, j < 3 → j ≠ 0 → (V3.setCell ⟨W9.heap.size, 0, none⟩ (.slice A4 (L.length + 1) c4)).heap[W9.heap.size + j]? = W.heap[W9.heap.size + j]? := fun j hj h2 => by
    rw [Below.heap_setCell _ _ _ _ (by simp; omega), hg.block _ (by omega) (fun e => by have := (hrow _ e.symm).1; omega), hE.block _ (by omega)]
  have h2 : V3.heap[W9.heap.size]? = some (.cells #[.slice A L.length cp] 25 (0, 0)) := (hg.block _ (by omega) (fun e => by have := (hrow _ e.symm).1; omega)).trans ((hE.block _ (by omega)).trans hI.v)
  have hst := grownSet V3 ⟨W9.heap.size, 0, none⟩ (.slice A4 (L.length + 1) c4)
  have hbel : Below W9.heap.size W (V3.setCell ⟨W9.heap.size, 0, none⟩ (.slice A4 (L.length + 1) c4)) := ((hE.mono (by omega)).grown hg (by omega) (fun k e => by have := (hrow k e).1; omega)).setCell (by simp) _
  refine ⟨((KeepsOthers.of_grownBy (grown_ext hE none) (fun j o e => by cases e)).trans (KeepsOthers.of_grownBy hg (fun j o e h => by obtain ⟨cur, h'⟩ := htypV j e; rw [h'] at h; cases h; rfl))).trans (KeepsOthers.setCell _ _ _), ⟨hb 1 (by omega) (by omega), hb 2 (by omega) (by omega), hbel⟩, ?_⟩
  refine ⟨by rw [List.length_append, hI.nl]; rfl, ?_, ?_, ?_, ?_, hI.bel.trans hbel, ?_⟩
  · rw [List.map_append, hI.sec, List.range_succ, List.map_append]
    simp [hsb]
  · have := heap_setCell_same V3 (W9.heap.size) 0 _ _ (.slice A4 (L.length + 1) c4) h2
    simpa using this
  · have := ho.kept hst (fun k hk e => by injection e with e; have := (ho.row_lt k hk).1; simp at e; omega)
    simpa using this
  · intro x hx
    have h1 : SecAt (W9.heap.size + 3) V x := by
      rcases List.mem_append.1 hx with h | h
      · exact (hI.ins x h).ext hE
      · rw [List.mem_singleton] at h; subst h; exact hs
    exact (h1.kept hg hno).kept hst (fun r e => .inl (by injection e with e; simp at e; omega))
  · simp [World.setCell]; omega

theorem Frm.pad_piece (c : List UInt8) (j : Nat) (h : j < Frm.need c.length) : ((Frm.padB c).drop (52 * j)).take 52 = ((Frm.body c).drop (52 * j)).take 52 ++ Frm.zeros (52 - (((Frm.body c).drop (52 * j)).take 52).length) := by
  have hb := Frm.body_len c
  have h1 := Frm.need_ge c.length
  have h2 := Frm.need_lt c.length
  unfold Frm.padB
  rw [List.drop_append_of_le_length (by omega), List.take_append]
  congr 1
  unfold Frm.zeros
  rw [List.take_replicate, List.length_take, List.length_drop, hb]
  congr 1
  have : j = Frm.need c.length - 1 ∨ j < Frm.need c.length - 1 := by omega
  rcases this with h3 | h3 <;> omega
theorem Frm.chunks_need (c : List UInt8) : chunksN (Frm.body c) = Frm.need c.length := by unfold chunksN Frm.need; rw [Frm.body_len]
theorem chunk_pre {ad : Addr} {b : List UInt8} {pre : List Sl} {x : Sl} (h : (pre ++ [x]) <+: chunksV ad b) : pre.length < chunksN b ∧ x = chunkV ad b pre.length := by
  have h1 := h.length_le
  rw [chunksV_len, List.length_append, List.length_singleton] at h1
  refine ⟨by omega, ?_⟩
  have h3 := h.getElem (i := pre.length) (by simp)
  simp only [List.getElem_concat_length] at h3
  rw [h3]
  simp [chunksV]

theorem chunkF_any (A : Option Addr) (n cap : Nat) (w : World) : Calls Try.prog 23 #[.slice A n cap, .int .i64 52] w fun e w' =>
    e = .returned (.func (.func 34) #[] #[.pointer (some ⟨w.heap.size, 0, none⟩), .pointer (some ⟨w.heap.size + 1, 0, none⟩)]) ∧ (w.alloc (.cells #[.slice A n cap] 23)).alloc (.cells #[.int .i64 52] 3) = w' := by
  go_enter Try.func23, Try.ntmps23
  go_wp2
  go_ret
  exact ⟨rfl, rfl⟩

/-- A list of slices that are as long as their room. -/
structure RdLc (w : World) (A : Option Addr) (l : List Sl) : Prop where
  rd : RdL w A l
  cap : ∀ s ∈ l, s.bs.length ≤ s.c
theorem RdLc.below {w w' : World} {A : Option Addr} {l : List Sl} (h : RdLc w A l) (hb : Below w.heap.size w w') : RdLc w' A l := ⟨h.rd.below hb, h.cap⟩
/-- What Put gives: the error, the sectors. -/
def Frm.putE (at_ : Int) (c : List UInt8) : Nat := if at_ < 1 ∨ 4096 < at_ then 2 else if 140000 < c.length then 1 else 0
def FPost (w : World) (e : Nat) (at_ : Int) (c : List UInt8) (r : Ending) (w' : World) : Prop :=
  ∃ L A cp, r = .returned (.tuple #[.slice A L.length cp, .int .i64 (Frm.putE at_ c : Int)]) ∧ RdLc w' A L ∧ L.map Sl.bs = (if Frm.putE at_ c = 0 then Frm.secs e at_.toNat c else []) ∧ Own w' w.heap.size 23 1 A L.length cp (L.map Sl.val) ∧ (∀ s ∈ L, SecAt w.heap.size w' s) ∧ Below w.heap.size w w'
theorem FPost.fail {w w' : World} {e : Nat} {at_ : Int} {c : List UInt8} (k : Nat) (hk : Frm.putE at_ c = k) (h0 : k ≠ 0) (hb : Below w.heap.size w w') : FPost w e at_ c (.returned (.tuple #[.slice none 0 0, .int .i64 (k : Int)])) w' :=
  ⟨[], none, 0, by rw [hk]; rfl, ⟨⟨Rd.nil_ _ _ _, by simp⟩, by simp⟩, by rw [hk, if_neg h0]; rfl, Own.none_ _ _ _ _ _, by simp, hb⟩

set_option maxRecDepth 100000 in
set_option maxHeartbeats 2000000 in
theorem fput_any (e : Nat) (at_ : Int) (A : Option Addr) (c : List UInt8) (cc : Nat) (w : World) (hA : RdB w A c) (hl : c.length ≤ 900000) :
    Calls Try.prog 8 #[.int .u64 (e : Int), .int .i64 at_, .slice A c.length cc] w (FPost w e at_ c) := by
  by_cases h1 : at_ < 1
  · have hp : Frm.putE at_ c = 2 := by unfold Frm.putE; rw [if_pos (.inl h1)]
    have hE : Ext w ((w.alloc (.cells #[.int .u64 (e : Int)] 22)).alloc (.cells #[.int .i64 at_] 3)) := Ext.tr (Ext.alloc w _) (Ext.alloc _ _)
    have HP := Lib.hid hp
    clear hp
    go_enter Try.func8, Try.ntmps8
    go_wp2
    go_ret2
    exact FPost.fail 2 HP.out (by omega) hE
  by_cases h2 : 4096 < at_
  · have hp : Frm.putE at_ c = 2 := by unfold Frm.putE; rw [if_pos (.inr h2)]
    have hE : Ext w ((w.alloc (.cells #[.int .u64 (e : Int)] 22)).alloc (.cells #[.int .i64 at_] 3)) := Ext.tr (Ext.alloc w _) (Ext.alloc _ _)
    have HP := Lib.hid hp
    clear hp
    go_enter Try.func8, Try.ntmps8
    go_wp2
    go_ret2
    exact FPost.fail 2 HP.out (by omega) hE
  by_cases h3 : 140000 < c.length
  · have hp : Frm.putE at_ c = 1 := by unfold Frm.putE; rw [if_neg (by omega), if_pos h3]
    have hE : Ext w ((w.alloc (.cells #[.int .u64 (e : Int)] 22)).alloc (.cells #[.int .i64 at_] 3)) := Ext.tr (Ext.alloc w _) (Ext.alloc _ _)
    have h3' : (140000 : Int) < (c.length : Int) := by omega
    have HP := Lib.hid hp
    clear hp
    go_enter Try.func8, Try.ntmps8
    go_wp2
    go_ret2
    exact FPost.fail 1 HP.out (by omega) hE
  obtain ⟨a, rfl⟩ := Int.eq_ofNat_of_zero_le (show 0 ≤ at_ by omega)
  have hp : Frm.putE (a : Int) c = 0 := by unfold Frm.putE; rw [if_neg (by omega), if_neg h3]
  have HP := Lib.hid hp
  have h3' : (c.length : Int) ≤ 140000 := by omega
  have hl4 := Frm.fixed_len4 c.length
  have hwr : IntKind.u64.wrap (c.length : Int) = (c.length : Int) := wrap_u64 c.length (by omega)
  have hpl := Crc.put_len c
  have hbl := Frm.body_len c
  clear hp
  have q1 : ¬ ((a : Int) < 1) := h1
  have q2 : ¬ (4096 < (a : Int)) := h2
  clear h1 h2 h3
  refine (callsIn_wide (n := 5)).1 (callsIn_of_wp_marks Try.func8 rfl trivial ?_ rfl)
  simp only [Try.ntmps8, List.size_toArray, List.length_cons, List.length_nil, Nat.reduceAdd, Nat.reduceSub, Array.replicate_succ, Array.replicate_zero, List.push_toArray, List.append_toArray, List.nil_append, List.cons_append]
  refine wpIn_wide.2 ?_
  go_wp2_with fail
  obtain ⟨W1, hW1⟩ : ∃ W1, W1 = (w.alloc (.cells #[.int .u64 (e : Int)] 22)).alloc (.cells #[.int .i64 (a : Int)] 3) := ⟨_, rfl⟩
  have hb1 : Ext w W1 := by rw [hW1]; exact Ext.tr (Ext.alloc w _) (Ext.alloc _ _)
  have hce : W1.heap[w.heap.size]? = some (.cells #[.int .u64 (e : Int)] 22 (0, 0)) := by rw [hW1]; exact heap_alloc2_old w _ _
  have hca : W1.heap[w.heap.size + 1]? = some (.cells #[.int .i64 (a : Int)] 3 (0, 0)) := by rw [hW1]; exact heap_alloc2_new w _ _
  rw [← hW1]
  clear hW1
  have k1 := fixed_any c.length 4 W1
  rw [hl4] at k1
  refine k1.mono ?_
  clear k1
  rintro r w1 ⟨A1, c1, rfl, ho1, hb2⟩
  go_wp2_with fail
  refine (put_any A c cc w1 ((hA.below hb1).below hb2) (by omega)).mono ?_
  rintro r w2 ⟨A2, c2, rfl, ho2, hb3⟩
  have hr1 : RdB w2 A1 (Vint.fixed c.length 4) := (ho1.below hb3).rd'
  have hr2 : RdB w2 A2 (Crc.put c) := ho2.rd'
  go_wp2_with fail
  have k3 := concat_any _ [⟨A1, Vint.fixed c.length 4, c1⟩, ⟨A2, Crc.put c, c2⟩] 2 _ (RdL.two w2 23 A1 A2 _ _ c1 c2 hr1 hr2) (by simp) (by rw [cat_two, List.length_append]; omega)
  rw [cat_two, show Vint.fixed c.length 4 ++ Crc.put c = Frm.body c from rfl] at k3
  simp only [hl4, hpl] at k3
  refine k3.mono ?_
  clear k3
  rintro r w3 ⟨A3, c3, rfl, ho3, hb4⟩
  have hE13 : Ext W1 w3 := ext_trans hb2 (ext_trans hb3 (ext_trans (Ext.alloc w2 _) hb4))
  have hE3 := ext_trans hb1 hE13
  have hce3 := (hE13.block _ (lt_of_heap hce)).trans hce
  have hca3 := (hE13.block _ (lt_of_heap hca)).trans hca
  have hrb : RdB w3 A3 (Frm.body c) := ho3.rd'
  have hbc := ho3.nc
  obtain ⟨ad, hA3, hk0⟩ := hrb.at_ (k := 0) (by omega)
  clear hk0
  subst hA3
  obtain ⟨b, hb⟩ : ∃ b, b = Frm.body c := ⟨_, rfl⟩
  rw [← hb] at hrb hbl hbc
  have Hb := Lib.hid hb
  have Hbl := Lib.hid hbl
  rw [← hb]
  clear hbl ho1 ho2 ho3 hr1 hr2 hb hb1 hb2 hb3 hb4 hE13 hce hca
  go_wp2_with (go_at_call 23; refine (chunkF_any _ _ _ _).mono ?_; rintro e' w' ⟨rfl, rfl⟩)
  obtain ⟨W0, hW0⟩ : ∃ W0, ((w3.alloc (.cells #[.slice none 0 0] 25)).alloc (.cells #[.slice (some ad) b.length c3] 23)).alloc (.cells #[.int .i64 52] 3) = W0 := ⟨_, rfl⟩
  have hsz : W0.heap.size = w3.heap.size + 3 := by rw [← hW0]; simp
  have hE0 : Ext w3 W0 := by rw [← hW0]; exact Ext.tr (Ext.tr (Ext.alloc w3 _) (Ext.alloc _ _)) (Ext.alloc _ _)
  have hv0 : W0.heap[w3.heap.size]? = some (.cells #[.slice none 0 0] 25 (0, 0)) := by
    rw [← hW0, (Ext.alloc _ _).block _ (by simp <;> omega)]
    exact heap_alloc2_old w3 _ _
  have hgb : W0.heap[w3.heap.size + 1]? = some (.cells #[.slice (some ad) b.length c3] 23 (0, 0)) := by
    rw [← hW0, (Ext.alloc _ _).block _ (by simp <;> omega)]
    exact heap_alloc2_new w3 _ _
  have hgb2 : W0.heap[w3.heap.size + 2]? = some (.cells #[.int .i64 52] 3 (0, 0)) := by
    rw [← hW0]
    have := heap_alloc_new ((w3.alloc (.cells #[.slice none 0 0] 25)).alloc (.cells #[.slice (some ad) b.length c3] 23)) (.cells #[.int .i64 52] 3)
    simpa using this
  have hI0 : FpInv w3 e a c [] W0 := ⟨[], none, 0, rfl, rfl, hv0, Own.none_ _ _ _ _ _, by simp, hE0, by omega⟩
  rw [hW0]
  clear hW0
  refine wp_range_all (n := 5) (by omega) (gf := 34) (lb := #[.pointer (some ⟨w3.heap.size + 1, 0, none⟩), .pointer (some ⟨w3.heap.size + 2, 0, none⟩)]) rfl (enters_fn Try.func34 (by kernel_rfl) rfl)
    (chunk_gives 4 (by omega) (w3.heap.size + 1) ad b c3 w3 W0 hgb hgb2 hE0 (by have := Hbl.out; omega) hbc) (by omega) (fun h k => ⟨Eq.trans k.1 h.1, Eq.trans k.2.1 h.2.1, h.2.2.trans k.2.2⟩) ?hKb (fun _ => rfl) (FpInv w3 e a c) ?hI ?hIg hI0 ?a1 ?assign ?body ?done
  case hKb =>
    intro W l o o' hl ho hc
    exact ⟨World.putObj_heap_other (by omega), World.putObj_heap_other (by omega), (Below.refl _ _).grown (grownBy_putObj' W l o') (by have := lt_of_heap ho; omega) (fun k e => by injection e with e; omega)⟩
  case hI =>
    rintro s X Y row ⟨L, A4, c4, h⟩ hg hr
    exact ⟨L, A4, c4, h.kept hg (fun r e => .inr ⟨by have := (hr r e).1; omega, (hr r e).2⟩)⟩
  case hIg =>
    rintro s X Y ⟨L, A4, c4, h⟩ hg _
    exact ⟨L, A4, c4, h.kept hg (fun r e => .inl (by injection e with e; exact e.symm))⟩
  case assign =>
    intro l x W K hK
    simp only [encS, Sl.val]
    gi_wp2
    exact hK
  case body =>
    rintro l pre x W ⟨L, A4, c4, hI⟩ hpre
    obtain ⟨hj, hxe⟩ := chunk_pre hpre
    have hjn : pre.length < Frm.need c.length := by rw [Hb.out, Frm.chunks_need] at hj; exact hj
    have hxb : x.bs = (b.drop (52 * pre.length)).take 52 := by rw [hxe]; rfl
    have hxl : 0 < x.bs.length ∧ x.bs.length ≤ 52 := by
      rw [hxb, List.length_take, List.length_drop]
      unfold chunksN at hj
      omega
    have hxr : RdB w3 x.a x.bs := by
      have k1 := hrb.cut (k := 52 * pre.length) (m := min b.length (52 * pre.length + 52)) (by unfold chunksN at hj; omega) (by omega) (c := c3) (by omega)
      rw [if_neg (by unfold chunksN at hj; omega)] at k1
      rw [hxe]
      have e1 : (b.drop (52 * pre.length)).take 52 = (b.take (min b.length (52 * pre.length + 52))).drop (52 * pre.length) := by
        rw [List.drop_take, List.take_eq_take_iff]
        simp only [List.length_drop]
        omega
      show RdB w3 (some (ad.add (52 * pre.length))) ((b.drop (52 * pre.length)).take 52)
      rw [e1]
      exact k1
    obtain ⟨n, hn⟩ : ∃ n, n = pre.length := ⟨_, rfl⟩
    rw [← hn] at hI hjn hxb
    have hLn := hI.nl
    have hn3 : n ≤ 3000 := by have := Frm.need_lt c.length; omega
    have hfin : Frm.sec e a c n = Frm.stamp e (a + n) ++ (x.bs ++ Frm.zeros (52 - x.bs.length)) := by
      unfold Frm.sec
      rw [Frm.pad_piece c n hjn, ← Hb.out, ← hxb]
    have Hfin := Lib.hid hfin
    have Hinv : Hid (∀ V L' A' c', FpI w3 e a c (n + 1) V L' A' c' → FpInv w3 e a c (pre ++ [x]) V) := fun V L' A' c' h => ⟨L', A', c', by rw [List.length_append, List.length_singleton, ← hn]; exact h⟩
    have HI := Lib.hid hI
    clear hxe hxb hj hfin hpre hn hI
    subst hLn
    gi_wp2_with (refine wpListIn_mk rfl (.const (.int .i64 64)) (.const (.int .i64 64)) 23 rfl elemB (.int .u8 0) zeroB rfl 64 _ _ rfl rfl (by omega) (by omega) ?_; refine Hid.out ?_)
    obtain ⟨V1, hV1⟩ : ∃ V1, V1 = W.alloc (.cells (Array.replicate 64 (Value.int .u8 0)) 5) := ⟨_, rfl⟩
    have hE1 : Ext W V1 := by rw [hV1]; exact Ext.alloc W _
    have hg1 : V1.heap[W.heap.size]? = some (.cells (Array.replicate 64 (Value.int .u8 0)) 5 (0, 0)) := by rw [hV1]; exact heap_alloc_new W _
    have hb1 := HI.out.bel.trans (hE1.mono HI.out.bel.size)
    have hq1 : V1.cell? ⟨w.heap.size, 0, none⟩ = some (.int .u64 (e : Int)) := cell_of_row _ _ 0 _ _ _ ((hb1.block _ (lt_of_heap hce3)).trans hce3)
    have hq2 : V1.cell? ⟨w.heap.size + 1, 0, none⟩ = some (.int .i64 (a : Int)) := cell_of_row _ _ 0 _ _ _ ((hb1.block _ (lt_of_heap hca3)).trans hca3)
    have hq3 : V1.cell? ⟨w3.heap.size, 0, none⟩ = some (.slice A4 L.length c4) := cell_of_row _ _ 0 _ _ _ ((hE1.block _ (lt_of_heap HI.out.v)).trans HI.out.v)
    rw [← hV1]
    refine Lib.hid ?_
    clear hV1
    have k1 := stamp_any e (a + L.length) V1 (by omega)
    rw [Int.natCast_add] at k1
    gi_wp2_with fail
    refine ⟨trivial, (CallsIn.inRound l (callsIn_wide.2 k1)).mono ?_⟩
    clear k1
    rintro r V2 ⟨A5, c5, rfl, ho5, hb5⟩
    have hg2 := (hb5.block _ (lt_of_heap hg1)).trans hg1
    have hr5 := ho5.rd
    obtain ⟨st, hst⟩ : ∃ st, st = Frm.stamp e (a + L.length) := ⟨_, rfl⟩
    have hstl : st.length = 12 := by rw [hst, Frm.stamp_len]
    rw [← hst] at hr5
    have Hz1 : Hid ((Array.replicate 64 (Value.int .u8 0)).toList.take 0 ++ bvs st ++ (Array.replicate 64 (Value.int .u8 0)).toList.drop (0 + 12) = bvs (st ++ Frm.zeros 52)) := by
      show _ = _
      rw [bvs_app]
      simp [bvs, bv, Frm.zeros]
    have Hst := Lib.hid hst
    have Hstl := Lib.hid hstl
    have hE2 := Ext.tr hE1 hb5
    clear ho5 hst hstl hg1 hE1 hb1 hq1 hq2 hq3
    gi_wp2_with (refine wpListIn_copyL rfl (.tmp 35) (.tmp 41) 23 rfl elemB W.heap.size 0 64 64 12 rfl A5 c5 (bvs st) rfl hr5 (by omega) (by omega) (Array.replicate 64 (Value.int .u8 0)) 5 hg2 (by simp) (bvs_one _) (bvs (st ++ Frm.zeros 52)) Hz1.out ?_; refine Hid.out ?_)
    obtain ⟨V3, hV3⟩ : ∃ V3, V3 = V2.setRow W.heap.size (bvs (st ++ Frm.zeros 52)).toArray := ⟨_, rfl⟩
    have hg3 : V3.heap[W.heap.size]? = some (.cells (bvs (st ++ Frm.zeros 52)).toArray 5 (0, 0)) := by rw [hV3]; exact setRow_heap _ _ _ _ _ _ hg2
    have hE3' : Ext W V3 := by rw [hV3]; exact below_row hE2 hE2.size (Nat.le_refl _) _
    have hr6 := (hxr.below (HI.out.bel.trans (hE3'.mono HI.out.bel.size)))
    rw [← hV3]
    refine Lib.hid ?_
    have Hz2 : Hid ((bvs (st ++ Frm.zeros 52)).toArray.toList.take 12 ++ bvs x.bs ++ (bvs (st ++ Frm.zeros 52)).toArray.toList.drop (12 + x.bs.length) = bvs (Frm.sec e a c L.length)) := by
      show _ = _
      have h1 := Hstl.out
      rw [Hfin.out, ← Hst.out, bvs_app, bvs_app, bvs_app]
      have e1 : (bvs st).length = 12 := by rw [bvs_len, h1]
      rw [List.take_append_of_le_length (by omega), List.take_of_length_le (by omega), List.drop_append, List.drop_of_length_le (by omega), e1]
      rw [List.append_assoc]
      congr 2
      simp only [List.nil_append, bvs, Frm.zeros, List.map_replicate, List.drop_replicate]
      congr 1
      omega
    have hcx : (12 : Int) ≤ 64 := by omega
    clear hV3 hg2 hr5 hE2 hb5
    gi_wp2_with (refine wpListIn_copyL rfl (.tmp 44) (.tmp 45) 23 rfl elemB W.heap.size 12 52 52 x.bs.length rfl x.a x.c (bvs x.bs) rfl hr6 hxl.1 hxl.2 _ 5 hg3 (by simp [bvs_len, Frm.zeros, Hstl.out]; omega) (bvs_one _) (bvs (Frm.sec e a c L.length)) Hz2.out ?_; refine Hid.out ?_)
    obtain ⟨V4, hV4⟩ : ∃ V4, V4 = V3.setRow W.heap.size (bvs (Frm.sec e a c L.length)).toArray := ⟨_, rfl⟩
    have hg4 : V4.heap[W.heap.size]? = some (.cells (bvs (Frm.sec e a c L.length)).toArray 5 (0, 0)) := by rw [hV4]; exact setRow_heap _ _ _ _ _ _ hg3
    have hE4 : Ext W V4 := by rw [hV4]; exact below_row hE3' hE3'.size (Nat.le_refl _) _
    have hq4 : V4.cell? ⟨w3.heap.size, 0, none⟩ = some (.slice A4 L.length c4) := cell_of_row _ _ 0 _ _ _ ((hE4.block _ (lt_of_heap HI.out.v)).trans HI.out.v)
    rw [← hV4]
    refine Lib.hid ?_
    obtain ⟨s, hs⟩ : ∃ s : Sl, s = ⟨some ⟨W.heap.size, 0, none⟩, Frm.sec e a c L.length, 64⟩ := ⟨_, rfl⟩
    have hsl := Frm.sec_len e a c L.length hjn
    have hsv : s.val = .slice (some ⟨W.heap.size, 0, none⟩) 64 64 := by rw [hs, Sl.val, hsl]
    have Hsec : Hid (SecAt (w3.heap.size + 3) (V4.alloc (.cells #[.slice (some ⟨W.heap.size, 0, none⟩) 64 64] 23)) s ∧ s.bs = Frm.sec e a c L.length) := by
      refine ⟨⟨W.heap.size, by rw [hs], HI.out.size, by rw [hs], by rw [hs]; exact hsl, ?_⟩, by rw [hs]⟩
      rw [hs]
      exact ((Ext.alloc V4 _).block _ (lt_of_heap hg4)).trans hg4
    have hE5 := Ext.tr hE4 (Ext.alloc V4 (.cells #[.slice (some ⟨W.heap.size, 0, none⟩) 64 64] 23))
    have hown5 := HI.out.own.below hE5
    have hrd5 : Rd (V4.alloc (.cells #[.slice (some ⟨W.heap.size, 0, none⟩) 64 64] 23)) 1 (some ⟨V4.heap.size, 0, none⟩) 1 [s.val] := by rw [hsv]; exact Rd.new V4 23 [.slice (some ⟨W.heap.size, 0, none⟩) 64 64]
    have hmv : (L ++ [s]).map Sl.val = L.map Sl.val ++ [s.val] := by simp
    have Hmv := Lib.hid hmv
    have hone : ∀ u ∈ [s.val], u.oneCell' = true := fun u hu => by rw [List.mem_singleton.1 hu, hsv]; rfl
    have Hone := Lib.hid hone
    have h5s := hE5.size
    have hWs := HI.out.size
    have hv3 : ∀ V6 : World, (V4.alloc (.cells #[.slice (some ⟨W.heap.size, 0, none⟩) 64 64] 23)).grownBy V6 (ownRow A4 c4) → V6.cell? ⟨w3.heap.size, 0, none⟩ = some (.slice A4 L.length c4) ∧ V6.frozen? ⟨w3.heap.size, 0, none⟩ = false := fun V6 hg => by
      have h1 : V6.heap[w3.heap.size]? = some (.cells #[.slice A4 L.length c4] 25 (0, 0)) := (hg.block _ (by omega) (fun e => by have := (HI.out.own.row_lt _ e.symm).1; omega)).trans ((hE5.block _ (by omega)).trans HI.out.v)
      exact ⟨cell_of_row _ _ 0 _ _ _ h1, frozen_of_row _ _ 0 _ _ h1⟩
    have Hv3 := Lib.hid hv3
    clear hV4 hg3 hE3' hr6 hg4 hE4 hs hsl hsv hmv hone hv3 hxr hxl
    gi_wp2_with (gi_at_builtin; refine wpListIn_app rfl (.tmp 47) (.tmp 49) 25 rfl elemSl (w3.heap.size + 3) A4 L.length c4 (L.map Sl.val) rfl _ 1 1 [s.val] rfl (L.length + 1) rfl ((L ++ [s]).map Sl.val) Hmv.out hown5 hrd5 Hone.out (by omega) (by omega) (Nat.le_trans hWs h5s) ?_; intro A6 c6 V6 ho6 hg6 hr6; (have hh := Hv3.out V6 hg6; have hh1 := hh.1; have hh2 := hh.2; clear hh))
    obtain ⟨z1, z2, z3⟩ := fp_push HI.out hE5 Hsec.out.1 Hsec.out.2 hg6 ho6
    exact ⟨z1, z2, Hinv.out _ _ _ _ z3⟩
  case done =>
    rintro D W ⟨L, A4, c4, hI⟩ hD hK
    have hcell : W.cell? ⟨w3.heap.size, 0, none⟩ = some (.slice A4 L.length c4) := cell_of_row _ _ 0 _ _ _ hI.v
    have hput : W.grownBy (W.putObj D (.deferred none)) (some D) := grownBy_putObj' W D _
    have hI2 := hI.kept hput (fun r er => .inr (by injection er with er; subst er; exact ⟨by omega, by rw [hK]; rfl⟩))
    have hfin : FPost w e (a : Int) c (.returned (.tuple #[.slice A4 L.length c4, .int .i64 0])) (W.putObj D (.deferred none)) := by
      refine ⟨L, A4, c4, by rw [HP.out]; rfl, ⟨⟨?_, fun s hs => (hI2.ins s hs).rd⟩, fun s hs => ?_⟩, ?_, hI2.own.mono (by have := hE3.size; omega), fun s hs => ?_, hE3.trans (hI2.bel.mono hE3.size)⟩
      · exact hI2.own.rd
      · obtain ⟨g, _, _, h3, h4, _⟩ := hI2.ins s hs
        omega
      · rw [HP.out, if_pos rfl, hI2.sec, chunksV_len, Hb.out, Frm.chunks_need]
        rfl
      · obtain ⟨g, h1, h2, h3, h4, h5⟩ := hI2.ins s hs
        exact ⟨g, h1, by have := hE3.size; omega, h3, h4, h5⟩
    have Hfin := Lib.hid hfin
    clear hfin hI2 hput hI
    dsimp only
    go_wp2
    refine ⟨by simp, .inl ⟨_, _, rfl, run_takeDeferred hK, ?_⟩⟩
    refine ⟨_, results_tmp2 rfl _ _ _, ?_⟩
    exact Hfin.out
end Go.Proofs.Ytpabbackiobefaa
