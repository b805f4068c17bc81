/- Texts of the proof, laid together: WqD. -/
import Derived.Test.YtjholekgdnhpkaaGreatZ32
import Derived.Test.YtjholekgdnhpkaaGreatZ33
import Derived.Test.YtjholekgdnhpkaaGreatZ30
import Derived.Test.YtjholekgdnhpkaaGreatZ13
set_option linter.unusedVariables false
set_option linter.unusedSimpArgs false
set_option linter.unusedSectionVars false
set_option linter.unusedSimpArgs false
namespace Go.Proofs.YtjholekgdnhpkaaGreat
open Go.RowKit
attribute [local go_sem] Oper.semAt_some
def Tri (S : Nat → Prop) (g bm : Nat) : Nat → Prop := fun i => i = g ∨ i = bm ∨ i = bm + 1 ∨ S i
theorem MsgR.trn {w w' : World} {S T : Nat → Prop} {bm : Nat} {M : WmV} (h : MsgR w S bm M) (t : Trn T w w') (hT : ∀ i, T i → S i) (hn : ¬ T bm) : MsgR w' S bm M :=
 ⟨t.row h.row hn, h.ok, h.lo.trn t hT, h.hi.trn t hT, h.sa, h.ga, h.en, h.da⟩
structure QSt (S : Nat → Prop) (w : World) (g bm : Nat) (U : World) (M : WmV) (d : List UInt8) (b : Bool) : Prop where
 gl : g < bm
 rr : Rr U (Tri S g bm) g d b
 msg : MsgR U (Tri S g bm) bm M
 res : U.heap[bm + 1]? = some (.cells WmV.nul.cells MT (0, 0))
 trn : Trn (fun i => i = g ∨ bm ≤ i) w U
section
variable {S : Nat → Prop} {w : World} {g bm : Nat} {U V : World} {M : WmV} {d d' : List UInt8} {b b' : Bool}
theorem QSt.call (h : QSt S w g bm U M d b) (hR : Rr V (Tri S g bm) g d' b') (hT : Trn (fun i => i = g) U V) : QSt S w g bm V M d' b' :=
 ⟨h.gl, hR, h.msg.trn hT (fun i e => .inl e) (fun e => by have := h.gl; omega), hT.row h.res (fun e => by have := h.gl; omega), h.trn.tr (hT.mono (fun i e _ => .inl e))⟩
theorem QSt.ext (h : QSt S w g bm U M d b) (hx : Ext U V) : QSt S w g bm V M d b :=
 h.call (h.rr.trn (T := fun _ => False) (Trn.ext hx) (fun _ => False.elim) id) (Trn.ext hx)
theorem QSt.kind (h : QSt S w g bm U M d b) : U.cell? ⟨bm, 0, none⟩ = some (.int .i64 M.kind) := (cell_of_row _ _ _ _ _ _ h.msg.row).trans (WmV.at0 M)
theorem QSt.lt (h : QSt S w g bm U M d b) : ∀ i, Tri S g bm i → i < U.heap.size := by obtain ⟨A, c, k⟩ := h.rr; exact k.lt
theorem QSt.set (h : QSt S w g bm V M d b) (M' : WmV) (ok : M'.Ok) (lo : Tx V (Tri S g bm) M'.la M'.lc M'.lo) (hi : Tx V (Tri S g bm) M'.ha M'.hc M'.hi) (sa : M'.sa = none ∧ M'.sc = 0 ∧ M'.subs = []) (ga : M'.ga = none ∧ M'.gc = 0 ∧ M'.sigs = []) (en : M'.ents = []) (da : M'.data = []) : QSt S w g bm (V.setRow bm M'.cells) M' d b := by
 have t : Trn (fun i => i = bm) V (V.setRow bm M'.cells) := Trn.set _ _ _ rfl
 have hs : ∀ i, i = bm → Tri S g bm i := fun i e => .inr (.inl e)
 exact ⟨h.gl, h.rr.trn t hs (fun e => by have := h.gl; omega), ⟨setRow_heap _ _ _ _ _ _ h.msg.row, ok, lo.trn t hs, hi.trn t hs, sa, ga, en, da⟩, t.row h.res (by omega), h.trn.tr (t.mono (fun i e _ => .inr (by omega)))⟩
end
structure QDn (S : Nat → Prop) (w : World) (g bm : Nat) (U : World) (M : WmV) (b : Bool) : Prop where
 gl : g < bm
 okc : U.cell? ⟨g, 1, none⟩ = some (.bool b)
 row : U.heap[bm]? = some (.cells M.cells MT (0, 0))
 inn : ∀ w2, Trn (Tri S g bm) U w2 → M.In w2
 res : U.heap[bm + 1]? = some (.cells WmV.nul.cells MT (0, 0))
 trn : Trn (fun i => i = g ∨ bm ≤ i) w U
def RGot (S : Nat → Prop) (g : Nat) (r : Wm × List UInt8 × Bool) (w : World) (e : Ending) (w' : World) : Prop :=
 ∃ M : WmV, e = .returned (.agg M.cells) ∧ M.x = r.1 ∧ (∀ w2, Trn S w' w2 → M.In w2) ∧ w'.cell? ⟨g, 1, none⟩ = some (.bool (!r.2.2)) ∧ Trn (fun i => i = g) w w'
section
variable {S : Nat → Prop} {w : World} {g bm : Nat} {U V : World} {M : WmV} {d d' : List UInt8} {b b' : Bool}
theorem Rr.cell1 {S : Nat → Prop} (h : Rr U S g d b) : U.cell? ⟨g, 1, none⟩ = some (.bool b) := by obtain ⟨A, c, k⟩ := h; exact k.cell1
theorem QSt.done (h : QSt S w g bm U M d b) : QDn S w g bm U M b := ⟨h.gl, h.rr.cell1, h.msg.row, h.msg.done.inn, h.res, h.trn⟩
theorem QDn.fin (h : QDn S w g w.heap.size U M b) {r : Wm × List UInt8 × Bool} (hx : M.x = r.1) (hb : b = !r.2.2) : RGot S g r w (.returned (.agg M.cells)) (U.setRow (w.heap.size + 1) M.cells) := by
 have t : Trn (fun i => i = w.heap.size + 1) U (U.setRow (w.heap.size + 1) M.cells) := Trn.set _ _ _ rfl
 refine ⟨M, rfl, hx, fun w2 t2 => h.inn _ ((t.mono (fun i e _ => .inr (.inr (.inl e)))).tr (t2.mono (fun i e _ => .inr (.inr (.inr e))))), ?_, (h.trn.tr (t.mono (fun i e _ => .inr (by omega)))).mono (fun i e hi => e.elim id (fun e => by omega))⟩
 rw [← hb]
 exact t.load h.okc (by have := h.gl; show ¬ g = w.heap.size + 1; omega)
theorem QSt.put (h : QSt S w g bm V M d b) (M' : WmV) (hin : ∀ w2, Trn (Tri S g bm) V w2 → M'.In w2) : QDn S w g bm (V.setRow bm M'.cells) M' b := by
 have t : Trn (fun i => i = bm) V (V.setRow bm M'.cells) := Trn.set _ _ _ rfl
 have hs : ∀ i, i = bm → Tri S g bm i := fun i e => .inr (.inl e)
 exact ⟨h.gl, t.load h.rr.cell1 (by have := h.gl; show ¬ g = bm; omega), setRow_heap _ _ _ _ _ _ h.msg.row, fun w2 t2 => hin w2 ((t.mono (fun i e _ => hs i e)).tr t2), t.row h.res (by omega), h.trn.tr (t.mono (fun i e _ => .inr (by omega)))⟩
theorem QSt.subs (h : QSt S w g bm V M d b) (A : Option Addr) (c : Nat) (L : List WsV) (hs : ∀ s ∈ L, SubW V (Tri S g bm) s) {B : Nat} (ho : Own V B 45 36 A L.length c (wcs L)) (hB : ∀ i, Tri S g bm i → i < B) : QDn S w g bm (V.setRow bm { M with sa := A, sc := c, subs := L }.cells) { M with sa := A, sc := c, subs := L } b :=
 h.put { M with sa := A, sc := c, subs := L } fun w9 t9 => ⟨{ h.msg.ok with scap := ho.nc }, (h.msg.lo.trn t9 (fun _ e => e)).rd, (h.msg.hi.trn t9 (fun _ e => e)).rd, ⟨(ho.trn t9 hB).rd, fun s hs' => ((hs s hs').trn t9 (fun _ e => e)).inn⟩, by rw [h.msg.en]; exact RdE.nil_ _ _, by rw [h.msg.ga.2.2]; exact RdG.nil_ _ _, by rw [h.msg.da]; exact RdB.nil_ _ _⟩
theorem QSt.ents (h : QSt S w g bm V M d b) (A : Option Addr) (c : Nat) (L : List EnV) {B : Nat} (ho : Own V B 47 2 A L.length c (ecs L)) (hs : ∀ e ∈ L, e.At B V) (hB : ∀ i, Tri S g bm i → i < B) : QDn S w g bm (V.setRow bm { M with ea := A, ec := c, ents := L }.cells) { M with ea := A, ec := c, ents := L } b :=
 h.put { M with ea := A, ec := c, ents := L } fun w9 t9 => ⟨{ h.msg.ok with ecap := ho.nc }, (h.msg.lo.trn t9 (fun _ e => e)).rd, (h.msg.hi.trn t9 (fun _ e => e)).rd, by rw [h.msg.sa.2.2]; exact RdW.nil_ _ _, ⟨(ho.trn t9 hB).rd, fun e he => ((hs e he).trn t9 hB).i⟩, by rw [h.msg.ga.2.2]; exact RdG.nil_ _ _, by rw [h.msg.da]; exact RdB.nil_ _ _⟩
theorem QSt.data (h : QSt S w g bm V M d b) (A : Option Addr) (c : Nat) (x : List UInt8) (hx : Tx V (Tri S g bm) A c x) : QDn S w g bm (V.setRow bm { M with da := A, dc := c, data := x }.cells) { M with da := A, dc := c, data := x } b :=
 h.put { M with da := A, dc := c, data := x } fun w9 t9 => ⟨{ h.msg.ok with dcap := hx.cap }, (h.msg.lo.trn t9 (fun _ e => e)).rd, (h.msg.hi.trn t9 (fun _ e => e)).rd, by rw [h.msg.sa.2.2]; exact RdW.nil_ _ _, by rw [h.msg.en]; exact RdE.nil_ _ _, by rw [h.msg.ga.2.2]; exact RdG.nil_ _ _, (hx.trn t9 (fun _ e => e)).rd⟩
theorem QDn.setg (h : QDn S w g bm U M b) (cs : Array Value) {x : Value} {t : TypeId} (hr : U.heap[g]? = some (.cells #[x, .bool b] t (0, 0))) (y : Value) (hcs : cs = #[y, .bool b]) : QDn S w g bm (U.setRow g cs) M b := by
 subst hcs
 have t : Trn (fun i => i = g) U (U.setRow g #[y, .bool b]) := Trn.set _ _ _ rfl
 have := h.gl
 exact ⟨h.gl, cell_of_row _ g 1 _ _ _ (setRow_heap U g _ #[y, .bool b] _ _ hr), t.row h.row (by omega), fun w2 t2 => h.inn w2 ((t.mono (fun i e _ => .inl e)).tr t2), t.row h.res (by omega), h.trn.tr (t.mono (fun i e _ => .inl e))⟩
end
theorem ex_buildSigV {w : World} {o : Oper} {a : Act} (x y : Operand) (ho : o.op = .build 65 #[(0, x), (1, y)]) (n : Nat) (v : List UInt8) (hv : v.length = 32) (hx : a.eval x = .int .u32 (n : Int)) (hy : a.eval y = .agg (bvs v).toArray) :
  (execOp a.eval o).run Tryz.prog w = .ok (.value (.agg (⟨n, v⟩ : Wg).cells)) w := by
 obtain ⟨b0, b1, b2, b3, b4, b5, b6, b7, b8, b9, b10, b11, b12, b13, b14, b15, b16, b17, b18, b19, b20, b21, b22, b23, b24, b25, b26, b27, b28, b29, b30, b31, rfl⟩ : ∃ b0 b1 b2 b3 b4 b5 b6 b7 b8 b9 b10 b11 b12 b13 b14 b15 b16 b17 b18 b19 b20 b21 b22 b23 b24 b25 b26 b27 b28 b29 b30 b31, v = [b0, b1, b2, b3, b4, b5, b6, b7, b8, b9, b10, b11, b12, b13, b14, b15, b16, b17, b18, b19, b20, b21, b22, b23, b24, b25, b26, b27, b28, b29, b30, b31] := by
  match v, hv with
  | [b0, b1, b2, b3, b4, b5, b6, b7, b8, b9, b10, b11, b12, b13, b14, b15, b16, b17, b18, b19, b20, b21, b22, b23, b24, b25, b26, b27, b28, b29, b30, b31], _ => exact ⟨b0, b1, b2, b3, b4, b5, b6, b7, b8, b9, b10, b11, b12, b13, b14, b15, b16, b17, b18, b19, b20, b21, b22, b23, b24, b25, b26, b27, b28, b29, b30, b31, rfl⟩
 unfold execOp
 simp only [ho]
 rw [show (Array.map (fun (y : Nat × Operand) => (y.1, a.eval y.2)) #[(0, x), (1, y)]) = #[(0, Value.int .u32 (n : Int)), (1, Value.agg (bvs [b0, b1, b2, b3, b4, b5, b6, b7, b8, b9, b10, b11, b12, b13, b14, b15, b16, b17, b18, b19, b20, b21, b22, b23, b24, b25, b26, b27, b28, b29, b30, b31]).toArray)] by simp [hx, hy]]
 kernel_rfl
theorem GaPostO.all {bs : List UInt8} {w w' : World} {e : Ending} (h : GaPostO bs w e w') : ∃ (L : List EnV) (A : Option Addr) (c er : Nat), e = .returned (.tuple #[.slice A L.length c, .int .i64 (er : Int)]) ∧ (Ent.getAll bs).getD [] = L.map EnV.x ∧ ((er : Int) == 0) = !(Ent.getAll bs).isNone ∧ Own w' w.heap.size 47 2 A L.length c (ecs L) ∧ (∀ e ∈ L, e.At w.heap.size w') ∧ Ext w w' := by
 rcases h with ⟨L, A, c, h1, rfl, h3, h4, h5⟩ | ⟨h1, rfl, h3⟩
 ·
  exact ⟨L, A, c, 0, rfl, by rw [h1]; rfl, by rw [h1]; rfl, h3, h4, h5⟩
 ·
  exact ⟨[], none, 0, 170, rfl, by rw [h1]; rfl, by rw [h1]; rfl, Own.none_ _ _ _ _ _, by simp, h3⟩
theorem QSt.setb {S : Nat → Prop} {w : World} {g bm : Nat} {U : World} {M : WmV} {d : List UInt8} {b : Bool} (h : QSt S w g bm U M d b) {A : Option Addr} {c : Nat} (hA : RrAt U (Tri S g bm) g A c d b) (b' : Bool) : QSt S w g bm (U.setRow g #[.slice A d.length c, .bool b']) M d b' :=
 h.call ⟨A, c, hA.set b' hA.tx hA.len⟩ (Trn.set _ _ _ rfl)
def Qg.meas (g : Nat) (w : World) : Nat := match w.cell? ⟨g, 0, none⟩, w.cell? ⟨g, 1, none⟩ with
 | some (.slice _ n _), some (.bool true) => n + 1
 | _, _ => 0
theorem Qg.meas_of {w : World} {S : Nat → Prop} {g : Nat} {A : Option Addr} {c : Nat} {d : List UInt8} {ok : Bool} (h : RrAt w S g A c d ok) : Qg.meas g w = if ok = true then d.length + 1 else 0 := by
 unfold Qg.meas
 rw [h.cell0, h.cell1]
 cases ok <;> rfl
theorem Rr.grown {a b : World} {S T : Nat → Prop} {g : Nat} {d : List UInt8} {ok : Bool} {o : Option Nat} (h : Rr a S g d ok) (hg : a.grownBy b o) (ho : ∀ k, o = some k → S k ∧ k ≠ g) (hT : ∀ i, T i → S i ∨ (a.heap.size ≤ i ∧ i < b.heap.size)) (hTg : T g) : Rr b T g d ok := by
 obtain ⟨A, c, h⟩ := h
 have t : Trn (fun i => o = some i) a b := Trn.grownO hg (fun _ e => e)
 have h1 : Tx a (fun i => S i ∨ T i) A c d := h.tx.more (fun i hi => hi.elim .inl (fun e => (hT i e).imp id (·.1)))
 have h2 := h1.trn t (fun i hi => .inl (ho i hi).1)
 exact ⟨A, c, t.row h.row (fun e => (ho _ e).2 rfl), h2.more (fun i hi => .inl (.inr hi)), hTg, fun i hi => (hT i hi).elim (fun e => Nat.lt_of_lt_of_le (h.lt i e) hg.size) (·.2), h.len⟩
theorem MsgR.more {w : World} {S T : Nat → Prop} {bm : Nat} {M : WmV} (h : MsgR w S bm M) (hS : ∀ i, T i → S i ∨ w.heap.size ≤ i) : MsgR w T bm M := ⟨h.row, h.ok, h.lo.more hS, h.hi.more hS, h.sa, h.ga, h.en, h.da⟩
structure QLp (S : Nat → Prop) (w : World) (g bm B : Nat) (U : World) (N : WmV) (l : List Wg) (A : Option Addr) (c : Nat) (d : List UInt8) (ok : Bool) : Prop where
 gl : g < bm
 bB : bm + 1 < B
 sB : ∀ i, S i → i < B
 bU : B ≤ U.heap.size
 rr : Rr U (fun i => Tri S g bm i ∨ ownRow A c = some i) g d ok
 own : Own U B 65 33 A l.length c (wgs l)
 oks : ∀ s ∈ l, s.Ok
 row : U.heap[bm]? = some (.cells { N with ga := A, gc := c, sigs := l }.cells MT (0, 0))
 inn : ∀ w2, Trn (fun i => Tri S g bm i ∨ B ≤ i) U w2 → N.In w2
 res : U.heap[bm + 1]? = some (.cells WmV.nul.cells MT (0, 0))
 trn : Trn (fun i => i = g ∨ bm ≤ i) w U
theorem QSt.loop {S : Nat → Prop} {w : World} {g bm : Nat} {U : World} {M : WmV} {d : List UInt8} {b : Bool} (h : QSt S w g bm U M d b) : QLp S w g bm U.heap.size U M [] none 0 d b := by
 have hlt := h.lt (bm + 1) (.inr (.inr (.inl rfl)))
 refine ⟨h.gl, hlt, fun i hi => h.lt i (.inr (.inr (.inr hi))), Nat.le_refl _, h.rr.less (fun i hi => hi.elim id (fun e => by simp [ownRow] at e)) (.inl (.inl rfl)), Own.none_ _ _ _ _ _, by simp, ?_, fun w2 t => ((h.msg.more (T := fun i => Tri S g bm i ∨ U.heap.size ≤ i) (fun i hi => hi)).done).inn w2 t, h.res, h.trn⟩
 have e : ({ M with ga := none, gc := 0, sigs := [] } : WmV) = M := by
  obtain ⟨h1, h2, h3⟩ := h.msg.ga
  cases M
  simp only at h1 h2 h3
  subst h1 h2 h3
  rfl
 rw [e]
 exact h.msg.row
theorem QLp.done {S : Nat → Prop} {w : World} {g bm B : Nat} {U : World} {N : WmV} {l : List Wg} {A : Option Addr} {c : Nat} {d : List UInt8} {ok : Bool} (h : QLp S w g bm B U N l A c d ok) : QDn S w g bm U { N with ga := A, gc := c, sigs := l } ok := by
 refine ⟨h.gl, h.rr.cell1, h.row, fun w2 t => ?_, h.res, h.trn⟩
 have hN := h.inn w2 (t.mono (fun i e _ => .inl e))
 have hB : ∀ i, Tri S g bm i → i < B := fun i e => by have := h.gl; have := h.bB; rcases e with e | e | e | e; omega; omega; omega; exact h.sB i e
 exact ⟨{ hN.ok with gcap := h.own.nc }, hN.lr, hN.hr, hN.sr, hN.er, ⟨(h.own.trn t hB).rd, h.oks⟩, hN.dr⟩
theorem Rt.eqs (d : List UInt8) (b : Bool) : Rt.val d = (Vint.getBytes d).1 ∧ Rt.rest d = d.drop (Vint.getBytes d).2.1 ∧ (!(b && decide ((Vint.getBytes d).2.2 = 0))) = (!b || Rt.bad d) := by
 refine ⟨rfl, rfl, ?_⟩
 cases b <;> simp [Rt.bad]
theorem Wm.qread_3 (m : Wm) (d : List UInt8) (h : m.kind = 3 ∨ m.kind = 4) : m.qread d = m.rdEnds d false := by
 unfold Wm.qread
 rw [if_pos h]
theorem Wm.qread_5 (m : Wm) (d : List UInt8) (h : m.kind = 5 ∨ m.kind = 6) : m.qread d = ({ m with n := Qn.val d (!Rn.ok d) }, Qn.rest d, !Rn.ok d) := by
 unfold Wm.qread
 rw [if_neg (by omega), if_pos h]
theorem Wm.qread_17 (m : Wm) (d : List UInt8) (h : m.kind = 17) : m.qread d = ({ m with lsn := Vint.number (Rc.val 8 d), count := Qn.val (Rc.rest 8 d) (decide (d.length < 8) || !Rn.ok (Rc.rest 8 d)), sum := Rc.val 32 (Qn.rest (Rc.rest 8 d)), size := Qn.val (Rc.rest 32 (Qn.rest (Rc.rest 8 d))) (((decide (d.length < 8) || !Rn.ok (Rc.rest 8 d)) || decide ((Qn.rest (Rc.rest 8 d)).length < 32)) || !Rn.ok (Rc.rest 32 (Qn.rest (Rc.rest 8 d)))), file := Rc.val 32 (Qn.rest (Rc.rest 32 (Qn.rest (Rc.rest 8 d)))) }, Rc.rest 32 (Qn.rest (Rc.rest 32 (Qn.rest (Rc.rest 8 d)))), (((decide (d.length < 8) || !Rn.ok (Rc.rest 8 d)) || decide ((Qn.rest (Rc.rest 8 d)).length < 32)) || !Rn.ok (Rc.rest 32 (Qn.rest (Rc.rest 8 d)))) || decide ((Qn.rest (Rc.rest 32 (Qn.rest (Rc.rest 8 d)))).length < 32)) := by
 unfold Wm.qread
 rw [if_neg (by rw [h]; decide), if_neg (by rw [h]; decide), if_pos h]
 try rfl
theorem Wm.qread_18 (m : Wm) (d : List UInt8) (h : m.kind = 18) : m.qread d = ({ m with subs := (Qs.all d false).1 }, (Qs.all d false).2) := by
 unfold Wm.qread
 rw [if_neg (by rw [h]; decide), if_neg (by rw [h]; decide), if_neg (by rw [h]; decide), if_pos h]
 try rfl
theorem Wm.qread_19 (m : Wm) (d : List UInt8) (h : m.kind = 19) : m.qread d = ({ (m.rdEnds d false).1 with subs := (Qs.all (m.rdEnds d false).2.1 (m.rdEnds d false).2.2).1 }, (Qs.all (m.rdEnds d false).2.1 (m.rdEnds d false).2.2).2) := by
 unfold Wm.qread
 rw [if_neg (by rw [h]; decide), if_neg (by rw [h]; decide), if_neg (by rw [h]; decide), if_neg (by rw [h]; decide), if_pos h]
 try rfl
theorem Wm.qread_20 (m : Wm) (d : List UInt8) (h : m.kind = 20) : m.qread d = ({ (m.rdEnds d false).1 with more := decide (Rc.val 1 (m.rdEnds d false).2.1 = [1]), ents := (Ent.getAll (Rc.rest 1 (m.rdEnds d false).2.1)).getD [] }, [], ((m.rdEnds d false).2.2 || decide ((m.rdEnds d false).2.1.length < 1)) || (Ent.getAll (Rc.rest 1 (m.rdEnds d false).2.1)).isNone) := by
 unfold Wm.qread
 rw [if_neg (by rw [h]; decide), if_neg (by rw [h]; decide), if_neg (by rw [h]; decide), if_neg (by rw [h]; decide), if_neg (by rw [h]; decide), if_pos h]
 try rfl
theorem Wm.qread_21 (m : Wm) (d : List UInt8) (h : m.kind = 21) : m.qread d = ({ m with n := Qn.val d (!Rn.ok d), sigs := (Rg.all (Qn.rest d) (!Rn.ok d)).1 }, (Rg.all (Qn.rest d) (!Rn.ok d)).2) := by
 unfold Wm.qread
 rw [if_neg (by rw [h]; decide), if_neg (by rw [h]; decide), if_neg (by rw [h]; decide), if_neg (by rw [h]; decide), if_neg (by rw [h]; decide), if_neg (by rw [h]; decide), if_pos h]
 try rfl
theorem Wm.qread_22 (m : Wm) (d : List UInt8) (h : m.kind = 22) : m.qread d = ({ m with n := Qn.val d (!Rn.ok d), data := Qn.rest d }, [], !Rn.ok d) := by
 unfold Wm.qread
 rw [if_neg (by rw [h]; decide), if_neg (by rw [h]; decide), if_neg (by rw [h]; decide), if_neg (by rw [h]; decide), if_neg (by rw [h]; decide), if_neg (by rw [h]; decide), if_neg (by rw [h]; decide), if_pos h]
 try rfl
theorem Wm.qread_none (m : Wm) (d : List UInt8) (h : ¬ m.kind = 3 ∧ ¬ m.kind = 4 ∧ ¬ m.kind = 5 ∧ ¬ m.kind = 6 ∧ ¬ m.kind = 17 ∧ ¬ m.kind = 18 ∧ ¬ m.kind = 19 ∧ ¬ m.kind = 20 ∧ ¬ m.kind = 21 ∧ ¬ m.kind = 22) : m.qread d = (m, d, false) := by
 obtain ⟨k3, k4, k5, k6, k17, k18, k19, k20, k21, k22⟩ := h
 unfold Wm.qread
 rw [if_neg (fun e => e.elim k3 k4), if_neg (fun e => e.elim k5 k6), if_neg k17, if_neg k18, if_neg k19, if_neg k20, if_neg k21, if_neg k22]
set_option maxRecDepth 100000 in
set_option maxHeartbeats 4000000 in
theorem rread_3 (S : Nat → Prop) (g : Nat) (d0 : List UInt8) (M0 : WmV) (w : World) (h : Rr w (fun i => i = g ∨ S i) g d0 true) (hM : ∀ W S bm, W.heap[bm]? = some (.cells M0.cells MT (0, 0)) → MsgR W S bm M0) (hk : M0.kind = 3 ∨ M0.kind = 4) :
  Calls Tryz.prog 16 #[.pointer (some ⟨g, 0, none⟩), .agg M0.cells] w (RGot S g (M0.x.qread d0) w) := by
 obtain ⟨U0, hU0⟩ : ∃ U0, U0 = (w.alloc (.cells M0.cells MT)).alloc (.cells WmV.nul.cells MT (0, 0)) := ⟨_, rfl⟩
 have hgl : g < w.heap.size := by obtain ⟨A, c, h⟩ := h; exact h.lt _ (.inl rfl)
 have hx0 : Ext w U0 := by rw [hU0]; exact (Ext.alloc _ _).tr (Ext.alloc _ _)
 have r0 : U0.heap[w.heap.size]? = some (.cells M0.cells MT (0, 0)) := by rw [hU0]; exact heap_alloc2_old w _ _
 have r1 : U0.heap[w.heap.size + 1]? = some (.cells WmV.nul.cells MT (0, 0)) := by rw [hU0]; exact heap_alloc2_new w _ _
 have hs0 := lt_of_heap r1
 obtain ⟨b0, hb0⟩ : ∃ b0, b0 = true := ⟨_, rfl⟩
 have st0 : QSt S w g w.heap.size U0 M0 d0 b0 := ⟨hgl, by rw [hb0]; exact h.more hx0 (fun i hi => hi.elim (fun e => .inl (.inl e)) (fun e => e.elim (fun e => .inr (by omega)) (fun e => e.elim (fun e => .inr (by omega)) (fun e => .inl (.inr e))))) (.inl rfl), hM U0 _ _ r0, r1, Trn.ext hx0⟩
 have HB0 := Lib.hid (show (!b0) = false by rw [hb0]; rfl)
 have HQ := Lib.hid (show M0.x.qread d0 = _ from Wm.qread_3 M0.x d0 hk)
 have hk0 := st0.kind
 have ST0 := Lib.hid st0
 have HU0 := Lib.hid hU0
 obtain ⟨P, hP⟩ : ∃ P, P = M0.cells := ⟨_, rfl⟩
 rw [← hP] at HU0 ⊢
 clear hP hU0 hx0 r0 r1 hs0 st0 h hM hb0
 rcases hk with hk | hk
 all_goals
  have HKK := Lib.hid hk
  rw [HKK.out] at hk0
  clear hk
  go_enter Tryz.func16, Tryz.ntmps16
  obtain ⟨a', c', hA'⟩ := ST0.out.rr
  have HC := Lib.hid (rbytes_any _ g a' c' _ _ U0 hA')
  clear hA'
  go_wp2_with (first | (refine wpList_run rfl _ _ (ex_allocMsg rfl) ?_; rw [← HU0.out]) | (go_at_call 34; refine HC.out.mono ?_; rintro e Vx ⟨ax, cx, rfl, hox, hRx, hTx⟩; refine Hid.out ?_))
  have stV := ST0.out.call hRx hTx
  obtain ⟨dm, hdx⟩ : ∃ x, x = Rt.rest d0 := ⟨_, rfl⟩
  obtain ⟨bm, hbx⟩ : ∃ x, x = (b0 && decide ((Vint.getBytes d0).2.2 = 0)) := ⟨_, rfl⟩
  rw [show d0.drop (Vint.getBytes d0).2.1 = Rt.rest d0 from rfl, ← hdx, ← hbx] at stV
  rw [show (Vint.getBytes d0).1 = Rt.val d0 from rfl] at hox ⊢
  have HBx := Lib.hid (show (!bm) = ((!b0) || Rt.bad d0) by rw [hbx]; exact (Rt.eqs d0 b0).2.2)
  have Hdx := Lib.hid hdx
  clear HC hRx hdx hbx
  have STx := Lib.hid stV
  have hlt := ST0.out.lt
  have txx := Tx.own hox hlt
  clear hox stV hlt hTx
  refine Lib.hid ?_
  obtain ⟨a', c', hA'⟩ := STx.out.rr
  have HC := Lib.hid (rbytes_any _ g a' c' _ _ Vx hA')
  clear hA'
  go_wp2_with (first | (go_at_call 34; refine HC.out.mono ?_; rintro e Vy ⟨ay, cy, rfl, hoy, hRy, hTy⟩; refine Hid.out ?_))
  have stV := STx.out.call hRy hTy
  obtain ⟨d1, hdy⟩ : ∃ x, x = Rt.rest dm := ⟨_, rfl⟩
  obtain ⟨b1, hby⟩ : ∃ x, x = (bm && decide ((Vint.getBytes dm).2.2 = 0)) := ⟨_, rfl⟩
  rw [show dm.drop (Vint.getBytes dm).2.1 = Rt.rest dm from rfl, ← hdy, ← hby] at stV
  rw [show (Vint.getBytes dm).1 = Rt.val dm from rfl] at hoy ⊢
  have HBy := Lib.hid (show (!b1) = ((!bm) || Rt.bad dm) by rw [hby]; exact (Rt.eqs dm bm).2.2)
  have Hdy := Lib.hid hdy
  clear HC hRy hdy hby
  have txy := Tx.own hoy STx.out.lt
  have txx := txx.trn hTy (fun i e => .inl e)
  clear hoy hTy STx
  have st1 := stV.set { M0 with la := ax, lc := cx, lo := Rt.val d0 } { stV.msg.ok with lcap := txx.cap } txx stV.msg.hi stV.msg.sa stV.msg.ga stV.msg.en stV.msg.da
  have tU : Trn (fun i => i = w.heap.size) Vy (Vy.setRow w.heap.size ({ M0 with la := ax, lc := cx, lo := Rt.val d0 } : WmV).cells) := Trn.set _ _ _ rfl
  have txy' := txy.trn tU (fun i e => .inr (.inl e))
  have st2 := st1.set { M0 with la := ax, lc := cx, lo := Rt.val d0, ha := ay, hc := cy, hi := Rt.val dm } { st1.msg.ok with hcap := txy.cap } st1.msg.lo txy' stV.msg.sa stV.msg.ga stV.msg.en stV.msg.da
  have hp1 : put1 M0.cells 3 [.slice ax (Rt.val d0).length cx] = ({ M0 with la := ax, lc := cx, lo := Rt.val d0 } : WmV).cells := WmV.put3 M0 _ _ _
  have hp2 : put1 ({ M0 with la := ax, lc := cx, lo := Rt.val d0 } : WmV).cells 4 [.slice ay (Rt.val dm).length cy] = ({ M0 with la := ax, lc := cx, lo := Rt.val d0, ha := ay, hc := cy, hi := Rt.val dm } : WmV).cells := WmV.put4 ({ M0 with la := ax, lc := cx, lo := Rt.val d0 } : WmV) _ _ _
  have row0 := stV.msg.row
  have row1 := st1.msg.row
  have fit0 := WmV.size78 stV.msg.ok
  have fit1 := WmV.size78 st1.msg.ok
  obtain ⟨M1, hM1⟩ : ∃ M1, M1 = ({ M0 with la := ax, lc := cx, lo := Rt.val d0, ha := ay, hc := cy, hi := Rt.val dm } : WmV) := ⟨_, rfl⟩
  rw [← hM1] at st2 hp2
  have HM1 := Lib.hid hM1
  have HKK := Lib.hid ((show M1.kind = M0.kind by rw [hM1]).trans HKK.out)
  generalize ({ M0 with la := ax, lc := cx, lo := Rt.val d0 } : WmV).cells = Y1 at row1 fit1 hp1 hp2 st2
  obtain ⟨U1, hU1⟩ : ∃ U, U = (Vy.setRow w.heap.size Y1).setRow w.heap.size M1.cells := ⟨_, rfl⟩
  rw [← hU1] at st2
  have ST1 := Lib.hid st2
  clear hk0
  have hk0 := st2.kind
  rw [HKK.out] at hk0
  generalize M0.cells = Y0 at row0 hp1 fit0
  generalize M1.cells = Y2 at hU1 hp2
  have HU1 := Lib.hid hU1
  have i1 : (Tryz.prog.info? 22).map (·.size) = some 1 := by kernel_rfl
  clear hU1 hM1 st2 st1 stV txy txy' tU txx
  refine Lib.hid ?_
  go_wp2_with (first | (refine wpList_put1 (by rfl) 22 (.tmp 19) (.tmp 16) rfl ⟨w.heap.size, 3, none⟩ rfl w.heap.size 3 rfl _ rfl [.slice ax (Rt.val d0).length cx] rfl Y0 _ row0 i1 (by rw [fit0]; simp) (by simp [Value.oneCell']) Y1 hp1 ?_) | (refine wpList_put1 (by rfl) 22 (.tmp 20) (.tmp 18) rfl ⟨w.heap.size, 4, none⟩ rfl w.heap.size 4 rfl _ rfl [.slice ay (Rt.val dm).length cy] rfl Y1 _ row1 i1 (by rw [fit1]; simp) (by simp [Value.oneCell']) Y2 hp2 ?_; rw [← HU1.out]; refine Hid.out ?_))
  clear row0 row1 fit0 fit1 hp1 hp2 i1 HU1
  refine Lib.hid ?_
  have hdn := ST1.out.done
  have hfin := hdn.fin (r := M0.x.qread d0) (by rw [HQ.out] <;> first | (simp only [WmV.x, Wm.rdEnds, HM1.out, Hdy.out, HBy.out, Hdx.out, HBx.out, HB0.out, Bool.false_or]; done) | fail) (by rw [HQ.out, ← Bool.not_not b1] <;> congr 1 <;> first | (simp only [Wm.rdEnds, Hdy.out, HBy.out, Hdx.out, HBx.out, HB0.out, Bool.false_or]; done) | fail)
  have rowF := hdn.row
  have resF := hdn.res
  have hokF := (hdn.inn _ (Trn.refl _ _)).ok
  have infF := WmV.info hokF
  have szF : WmV.nul.cells.size = M1.cells.size := by rw [WmV.size78 hokF]; rfl
  have oneF := WmV.one M1
  have HFIN := Lib.hid hfin
  clear hfin hdn hokF
  generalize M1.cells = Y at rowF resF infF szF oneF HFIN
  have stF := setRow_heap U1 (w.heap.size + 1) _ Y _ _ resF
  go_wp2_with (first | (refine wpList_load_rowG (by rfl) MT (.tmp 3) rfl w.heap.size rfl MT Y (0, 0) _ rowF Tryz.underlying31 rfl infF ?_) | (refine wpList_store_row rfl MT (.tmp 4) (.tmp 124) rfl (w.heap.size + 1) Y rfl rfl MT _ resF infF szF oneF ?_))
  (try simp only [Exit.inBlock, Exit.then])
  refine bodyPost_ret (results_cell_row rfl _ _ (w.heap.size + 1) MT Y (0, 0) _ rfl stF Tryz.underlying31 rfl infF) rfl ?_
  exact HFIN.out
set_option maxRecDepth 100000 in
set_option maxHeartbeats 4000000 in
theorem rread_5 (S : Nat → Prop) (g : Nat) (d0 : List UInt8) (M0 : WmV) (w : World) (h : Rr w (fun i => i = g ∨ S i) g d0 true) (hM : ∀ W S bm, W.heap[bm]? = some (.cells M0.cells MT (0, 0)) → MsgR W S bm M0) (hk : M0.kind = 5 ∨ M0.kind = 6) :
  Calls Tryz.prog 16 #[.pointer (some ⟨g, 0, none⟩), .agg M0.cells] w (RGot S g (M0.x.qread d0) w) := by
 obtain ⟨U0, hU0⟩ : ∃ U0, U0 = (w.alloc (.cells M0.cells MT)).alloc (.cells WmV.nul.cells MT (0, 0)) := ⟨_, rfl⟩
 have hgl : g < w.heap.size := by obtain ⟨A, c, h⟩ := h; exact h.lt _ (.inl rfl)
 have hx0 : Ext w U0 := by rw [hU0]; exact (Ext.alloc _ _).tr (Ext.alloc _ _)
 have r0 : U0.heap[w.heap.size]? = some (.cells M0.cells MT (0, 0)) := by rw [hU0]; exact heap_alloc2_old w _ _
 have r1 : U0.heap[w.heap.size + 1]? = some (.cells WmV.nul.cells MT (0, 0)) := by rw [hU0]; exact heap_alloc2_new w _ _
 have hs0 := lt_of_heap r1
 obtain ⟨b0, hb0⟩ : ∃ b0, b0 = true := ⟨_, rfl⟩
 have st0 : QSt S w g w.heap.size U0 M0 d0 b0 := ⟨hgl, by rw [hb0]; exact h.more hx0 (fun i hi => hi.elim (fun e => .inl (.inl e)) (fun e => e.elim (fun e => .inr (by omega)) (fun e => e.elim (fun e => .inr (by omega)) (fun e => .inl (.inr e))))) (.inl rfl), hM U0 _ _ r0, r1, Trn.ext hx0⟩
 have HB0 := Lib.hid (show (!b0) = false by rw [hb0]; rfl)
 have HQ := Lib.hid (show M0.x.qread d0 = _ from Wm.qread_5 M0.x d0 hk)
 have hk0 := st0.kind
 have ST0 := Lib.hid st0
 have HU0 := Lib.hid hU0
 obtain ⟨P, hP⟩ : ∃ P, P = M0.cells := ⟨_, rfl⟩
 rw [← hP] at HU0 ⊢
 clear hP hU0 hx0 r0 r1 hs0 st0 h hM hb0
 rcases hk with hk | hk
 all_goals
  have HKK := Lib.hid hk
  rw [HKK.out] at hk0
  clear hk
  go_enter Tryz.func16, Tryz.ntmps16
  obtain ⟨a', c', hA'⟩ := ST0.out.rr
  have hHC := rnum_any _ g a' c' _ _ U0 hA'
  clear hA'
  obtain ⟨v1, hv1⟩ : ∃ x, x = Qn.val d0 (!(b0 && Rn.ok d0)) := ⟨_, rfl⟩
  obtain ⟨d1, hd1⟩ : ∃ x, x = Qn.rest d0 := ⟨_, rfl⟩
  obtain ⟨b1, hb1⟩ : ∃ x, x = (b0 && Rn.ok d0) := ⟨_, rfl⟩
  rw [← hv1, ← hd1, ← hb1] at hHC
  have HB1 := Lib.hid (show (!b1) = ((!b0) || !Rn.ok d0) by rw [hb1, Bool.not_and])
  have hlo : 0 ≤ v1 := by rw [hv1]; exact Qn.val_ge _ _
  have hhi : v1 ≤ 2147483647 := by rw [hv1]; exact Qn.val_le _ _ (by cases b0 <;> simp)
  have Hd1 := Lib.hid hd1
  have Hv1 := Lib.hid (show v1 = Qn.val d0 (!b1) by rw [hv1, hb1])
  have HC := Lib.hid hHC
  clear hd1 hb1 hv1 hHC
  go_wp2_with (first | (refine wpList_run rfl _ _ (ex_allocMsg rfl) ?_; rw [← HU0.out]) | (go_at_call 35; refine HC.out.mono ?_; rintro e V1 ⟨rfl, hRv, hTv⟩; refine Hid.out ?_))
  have stV := ST0.out.call hRv hTv
  clear HC hRv hTv
  have st1 := stV.set ({ M0 with n := v1 } : WmV) { stV.msg.ok with nlo := Int.le_trans (by decide) hlo, nhi := Int.le_trans hhi (by decide) } stV.msg.lo stV.msg.hi stV.msg.sa stV.msg.ga stV.msg.en stV.msg.da
  obtain ⟨M1, hM1⟩ : ∃ M', M' = ({ M0 with n := v1 } : WmV) := ⟨_, rfl⟩
  have hput : put1 M0.cells 5 [.int .i64 v1] = M1.cells := by rw [hM1]; exact WmV.put5 M0 _
  rw [← hM1] at st1
  obtain ⟨U1, hU1⟩ : ∃ U, U = V1.setRow w.heap.size M1.cells := ⟨_, rfl⟩
  rw [← hU1] at st1
  have row := stV.msg.row
  have hfit := WmV.size78 stV.msg.ok
  have HKK := Lib.hid ((show M1.kind = M0.kind by rw [hM1]).trans HKK.out)
  clear hk0
  have hk0 := st1.kind
  rw [HKK.out] at hk0
  have HM1 := Lib.hid hM1
  have ST1 := Lib.hid st1
  clear hM1 st1 stV ST0
  generalize M0.cells = Y at row hfit hput
  generalize M1.cells = Z at hput hU1
  have HU1 := Lib.hid hU1
  clear hU1
  refine Lib.hid ?_
  go_wp2_with (first | (refine wpList_put1 (by rfl) 3 (.tmp 28) (.tmp 27) rfl ⟨w.heap.size, 5, none⟩ rfl w.heap.size 5 rfl _ rfl [.int .i64 v1] rfl Y _ row (show (Tryz.prog.info? 3).map (·.size) = some 1 by kernel_rfl) (by rw [hfit]; simp) (by simp [Value.oneCell']) Z hput ?_; rw [← HU1.out]; refine Hid.out ?_))
  clear row hfit hput HU1
  refine Lib.hid ?_
  have hdn := ST1.out.done
  have hfin := hdn.fin (r := M0.x.qread d0) (by rw [HQ.out] <;> first | (simp only [WmV.x, Wm.rdEnds, HM1.out, Hv1.out, Hd1.out, HB1.out, HB0.out, Bool.false_or]; done) | fail) (by rw [HQ.out, ← Bool.not_not b1] <;> congr 1 <;> first | (simp only [Wm.rdEnds, Hv1.out, Hd1.out, HB1.out, HB0.out, Bool.false_or]; done) | fail)
  have rowF := hdn.row
  have resF := hdn.res
  have hokF := (hdn.inn _ (Trn.refl _ _)).ok
  have infF := WmV.info hokF
  have szF : WmV.nul.cells.size = M1.cells.size := by rw [WmV.size78 hokF]; rfl
  have oneF := WmV.one M1
  have HFIN := Lib.hid hfin
  clear hfin hdn hokF
  generalize M1.cells = Y at rowF resF infF szF oneF HFIN
  have stF := setRow_heap U1 (w.heap.size + 1) _ Y _ _ resF
  go_wp2_with (first | (refine wpList_load_rowG (by rfl) MT (.tmp 3) rfl w.heap.size rfl MT Y (0, 0) _ rowF Tryz.underlying31 rfl infF ?_) | (refine wpList_store_row rfl MT (.tmp 4) (.tmp 124) rfl (w.heap.size + 1) Y rfl rfl MT _ resF infF szF oneF ?_))
  (try simp only [Exit.inBlock, Exit.then])
  refine bodyPost_ret (results_cell_row rfl _ _ (w.heap.size + 1) MT Y (0, 0) _ rfl stF Tryz.underlying31 rfl infF) rfl ?_
  exact HFIN.out
set_option maxRecDepth 100000 in
set_option maxHeartbeats 4000000 in
theorem rread_17 (S : Nat → Prop) (g : Nat) (d0 : List UInt8) (M0 : WmV) (w : World) (h : Rr w (fun i => i = g ∨ S i) g d0 true) (hM : ∀ W S bm, W.heap[bm]? = some (.cells M0.cells MT (0, 0)) → MsgR W S bm M0) (hk : M0.kind = 17) :
  Calls Tryz.prog 16 #[.pointer (some ⟨g, 0, none⟩), .agg M0.cells] w (RGot S g (M0.x.qread d0) w) := by
 obtain ⟨U0, hU0⟩ : ∃ U0, U0 = (w.alloc (.cells M0.cells MT)).alloc (.cells WmV.nul.cells MT (0, 0)) := ⟨_, rfl⟩
 have hgl : g < w.heap.size := by obtain ⟨A, c, h⟩ := h; exact h.lt _ (.inl rfl)
 have hx0 : Ext w U0 := by rw [hU0]; exact (Ext.alloc _ _).tr (Ext.alloc _ _)
 have r0 : U0.heap[w.heap.size]? = some (.cells M0.cells MT (0, 0)) := by rw [hU0]; exact heap_alloc2_old w _ _
 have r1 : U0.heap[w.heap.size + 1]? = some (.cells WmV.nul.cells MT (0, 0)) := by rw [hU0]; exact heap_alloc2_new w _ _
 have hs0 := lt_of_heap r1
 obtain ⟨b0, hb0⟩ : ∃ b0, b0 = true := ⟨_, rfl⟩
 have st0 : QSt S w g w.heap.size U0 M0 d0 b0 := ⟨hgl, by rw [hb0]; exact h.more hx0 (fun i hi => hi.elim (fun e => .inl (.inl e)) (fun e => e.elim (fun e => .inr (by omega)) (fun e => e.elim (fun e => .inr (by omega)) (fun e => .inl (.inr e))))) (.inl rfl), hM U0 _ _ r0, r1, Trn.ext hx0⟩
 have HB0 := Lib.hid (show (!b0) = false by rw [hb0]; rfl)
 have HQ := Lib.hid (show M0.x.qread d0 = _ from Wm.qread_17 M0.x d0 hk)
 have HKK := Lib.hid hk
 have hk0 := st0.kind
 rw [HKK.out] at hk0
 have ST0 := Lib.hid st0
 have HU0 := Lib.hid hU0
 obtain ⟨P, hP⟩ : ∃ P, P = M0.cells := ⟨_, rfl⟩
 rw [← hP] at HU0 ⊢
 clear hP hU0 hx0 r0 r1 hs0 st0 h hM hb0 hk
 go_enter Tryz.func16, Tryz.ntmps16
 obtain ⟨a', c', hA'⟩ := ST0.out.rr
 have HC := Lib.hid (rfixed_any _ g a' c' _ _ U0 8 (by omega) hA')
 unfold QCut at HC
 clear hA'
 go_wp2_with (first | (refine wpList_run rfl _ _ (ex_allocMsg rfl) ?_; rw [← HU0.out]) | (go_at_call 36; refine HC.out.mono ?_; rintro e V1 ⟨ax, cx, rfl, txv, hcx, hTv, hRv⟩; refine Hid.out ?_))
 have stV := ST0.out.call hRv hTv
 obtain ⟨d1, hd1⟩ : ∃ x, x = Rc.rest 8 d0 := ⟨_, rfl⟩
 obtain ⟨b1, hb1⟩ : ∃ x, x = (b0 && !decide (d0.length < 8)) := ⟨_, rfl⟩
 rw [← hd1, ← hb1] at stV
 have HB1 := Lib.hid (show (!b1) = ((!b0) || decide (d0.length < 8)) by rw [hb1, Bool.not_and, Bool.not_not])
 have hvl := Rc.len 8 d0
 have Hd1 := Lib.hid hd1
 clear HC hRv hTv hd1 hb1
 obtain ⟨n1, hn1⟩ : ∃ n, n = Vint.number (Rc.val 8 d0) := ⟨_, rfl⟩
 have hN := ref_number01 ax (Rc.val 8 d0) cx V1 txv.rd (by rw [hvl]; omega)
 rw [hvl, ← hn1] at hN
 have HN := Lib.hid hN
 have hnl : n1 < 18446744073709551616 := by rw [hn1]; exact Vint.number_lt _
 have Hv1 := Lib.hid hn1
 clear hN hn1 txv hvl
 have st1 := stV.set ({ M0 with lsn := n1 } : WmV) { stV.msg.ok with lsn := hnl } stV.msg.lo stV.msg.hi stV.msg.sa stV.msg.ga stV.msg.en stV.msg.da
 obtain ⟨M1, hM1⟩ : ∃ M', M' = ({ M0 with lsn := n1 } : WmV) := ⟨_, rfl⟩
 have hput : put1 M0.cells 6 [.int .u64 ((n1 : Nat) : Int)] = M1.cells := by rw [hM1]; exact WmV.put6 M0 _
 rw [← hM1] at st1
 obtain ⟨U1, hU1⟩ : ∃ U, U = V1.setRow w.heap.size M1.cells := ⟨_, rfl⟩
 rw [← hU1] at st1
 have row := stV.msg.row
 have hfit := WmV.size78 stV.msg.ok
 have HKK := Lib.hid ((show M1.kind = M0.kind by rw [hM1]).trans HKK.out)
 clear hk0
 have hk0 := st1.kind
 rw [HKK.out] at hk0
 have HM1 := Lib.hid hM1
 have ST1 := Lib.hid st1
 clear hM1 st1 stV ST0
 generalize M0.cells = Y at row hfit hput
 generalize M1.cells = Z at hput hU1
 have HU1 := Lib.hid hU1
 clear hU1
 refine Lib.hid ?_
 go_wp2_with (first | (go_at_call 17; refine HN.out.mono ?_; rintro e8 w8 ⟨rfl, rfl⟩) | (refine wpList_put1 (by rfl) 24 (.tmp 36) (.tmp 35) rfl ⟨w.heap.size, 6, none⟩ rfl w.heap.size 6 rfl _ rfl [.int .u64 ((n1 : Nat) : Int)] rfl Y _ row (show (Tryz.prog.info? 24).map (·.size) = some 1 by kernel_rfl) (by rw [hfit]; simp) (by simp [Value.oneCell']) Z hput ?_; rw [← HU1.out]; refine Hid.out ?_))
 clear row hfit hput HU1
 refine Lib.hid ?_
 obtain ⟨a', c', hA'⟩ := ST1.out.rr
 have hHC := rnum_any _ g a' c' _ _ U1 hA'
 clear hA'
 obtain ⟨v2, hv2⟩ : ∃ x, x = Qn.val d1 (!(b1 && Rn.ok d1)) := ⟨_, rfl⟩
 obtain ⟨d2, hd2⟩ : ∃ x, x = Qn.rest d1 := ⟨_, rfl⟩
 obtain ⟨b2, hb2⟩ : ∃ x, x = (b1 && Rn.ok d1) := ⟨_, rfl⟩
 rw [← hv2, ← hd2, ← hb2] at hHC
 have HB2 := Lib.hid (show (!b2) = ((!b1) || !Rn.ok d1) by rw [hb2, Bool.not_and])
 have hlo : 0 ≤ v2 := by rw [hv2]; exact Qn.val_ge _ _
 have hhi : v2 ≤ 2147483647 := by rw [hv2]; exact Qn.val_le _ _ (by cases b1 <;> simp)
 have Hd2 := Lib.hid hd2
 have Hv2 := Lib.hid (show v2 = Qn.val d1 (!b2) by rw [hv2, hb2])
 have HC := Lib.hid hHC
 clear hd2 hb2 hv2 hHC
 go_wp2_with (first | (go_at_call 35; refine HC.out.mono ?_; rintro e V2 ⟨rfl, hRv, hTv⟩; refine Hid.out ?_))
 have stV := ST1.out.call hRv hTv
 clear HC hRv hTv
 have st2 := stV.set ({ M1 with count := v2 } : WmV) { stV.msg.ok with clo := Int.le_trans (by decide) hlo, chi := Int.le_trans hhi (by decide) } stV.msg.lo stV.msg.hi stV.msg.sa stV.msg.ga stV.msg.en stV.msg.da
 obtain ⟨M2, hM2⟩ : ∃ M', M' = ({ M1 with count := v2 } : WmV) := ⟨_, rfl⟩
 have hput : put1 M1.cells 7 [.int .i64 v2] = M2.cells := by rw [hM2]; exact WmV.put7 M1 _
 rw [← hM2] at st2
 obtain ⟨U2, hU2⟩ : ∃ U, U = V2.setRow w.heap.size M2.cells := ⟨_, rfl⟩
 rw [← hU2] at st2
 have row := stV.msg.row
 have hfit := WmV.size78 stV.msg.ok
 have HKK := Lib.hid ((show M2.kind = M1.kind by rw [hM2]).trans HKK.out)
 clear hk0
 have hk0 := st2.kind
 rw [HKK.out] at hk0
 have HM2 := Lib.hid hM2
 have ST2 := Lib.hid st2
 clear hM2 st2 stV ST1
 generalize M1.cells = Y at row hfit hput
 generalize M2.cells = Z at hput hU2
 have HU2 := Lib.hid hU2
 clear hU2
 refine Lib.hid ?_
 go_wp2_with (first | (refine wpList_put1 (by rfl) 3 (.tmp 39) (.tmp 38) rfl ⟨w.heap.size, 7, none⟩ rfl w.heap.size 7 rfl _ rfl [.int .i64 v2] rfl Y _ row (show (Tryz.prog.info? 3).map (·.size) = some 1 by kernel_rfl) (by rw [hfit]; simp) (by simp [Value.oneCell']) Z hput ?_; rw [← HU2.out]; refine Hid.out ?_))
 clear row hfit hput HU2
 refine Lib.hid ?_
 have HC := Lib.hid (rsumr_any _ g _ _ U2 ST2.out.rr)
 unfold QSum at HC
 go_wp2_with (first | (go_at_call 37; refine HC.out.mono ?_; rintro e V3 ⟨rfl, hRv, hTv⟩; refine Hid.out ?_))
 have stV := ST2.out.call hRv hTv
 obtain ⟨d3, hd3⟩ : ∃ x, x = Rc.rest 32 d2 := ⟨_, rfl⟩
 obtain ⟨b3, hb3⟩ : ∃ x, x = (b2 && !decide (d2.length < 32)) := ⟨_, rfl⟩
 rw [← hd3, ← hb3] at stV
 have HB3 := Lib.hid (show (!b3) = ((!b2) || decide (d2.length < 32)) by rw [hb3, Bool.not_and, Bool.not_not])
 obtain ⟨v3, hv3⟩ : ∃ x, x = Rc.val 32 d2 := ⟨_, rfl⟩
 have hvl : v3.length = 32 := by rw [hv3]; exact Rc.len 32 _
 rw [← hv3]
 have Hd3 := Lib.hid hd3
 have Hv3 := Lib.hid hv3
 clear HC hRv hTv hd3 hb3 hv3
 have iS : (Tryz.prog.info? 26).map (·.size) = some (bvs v3).length := by rw [bvs_len, hvl]; kernel_rfl
 have st3 := stV.set ({ M2 with sum := v3 } : WmV) { stV.msg.ok with sum := hvl } stV.msg.lo stV.msg.hi stV.msg.sa stV.msg.ga stV.msg.en stV.msg.da
 obtain ⟨M3, hM3⟩ : ∃ M', M' = ({ M2 with sum := v3 } : WmV) := ⟨_, rfl⟩
 have hput : put1 M2.cells 8 (bvs v3) = M3.cells := by rw [hM3]; exact WmV.put8 stV.msg.ok _ hvl
 rw [← hM3] at st3
 obtain ⟨U3, hU3⟩ : ∃ U, U = V3.setRow w.heap.size M3.cells := ⟨_, rfl⟩
 rw [← hU3] at st3
 have row := stV.msg.row
 have hfit := WmV.size78 stV.msg.ok
 have HKK := Lib.hid ((show M3.kind = M2.kind by rw [hM3]).trans HKK.out)
 clear hk0
 have hk0 := st3.kind
 rw [HKK.out] at hk0
 have HM3 := Lib.hid hM3
 have ST3 := Lib.hid st3
 clear hM3 st3 stV ST2
 generalize M2.cells = Y at row hfit hput
 generalize M3.cells = Z at hput hU3
 have HU3 := Lib.hid hU3
 clear hU3
 refine Lib.hid ?_
 go_wp2_with (first | (refine wpList_put1 (by rfl) 26 (.tmp 42) (.tmp 41) rfl ⟨w.heap.size, 8, none⟩ rfl w.heap.size 8 rfl (.agg (bvs v3).toArray) rfl (bvs v3) rfl Y _ row iS (by rw [hfit, bvs_len, hvl]; omega) (bvs_one _) Z hput ?_; rw [← HU3.out]; refine Hid.out ?_))
 clear row hfit hput HU3
 refine Lib.hid ?_
 obtain ⟨a', c', hA'⟩ := ST3.out.rr
 have hHC := rnum_any _ g a' c' _ _ U3 hA'
 clear hA'
 obtain ⟨v4, hv4⟩ : ∃ x, x = Qn.val d3 (!(b3 && Rn.ok d3)) := ⟨_, rfl⟩
 obtain ⟨d4, hd4⟩ : ∃ x, x = Qn.rest d3 := ⟨_, rfl⟩
 obtain ⟨b4, hb4⟩ : ∃ x, x = (b3 && Rn.ok d3) := ⟨_, rfl⟩
 rw [← hv4, ← hd4, ← hb4] at hHC
 have HB4 := Lib.hid (show (!b4) = ((!b3) || !Rn.ok d3) by rw [hb4, Bool.not_and])
 have hlo : 0 ≤ v4 := by rw [hv4]; exact Qn.val_ge _ _
 have hhi : v4 ≤ 2147483647 := by rw [hv4]; exact Qn.val_le _ _ (by cases b3 <;> simp)
 have Hd4 := Lib.hid hd4
 have Hv4 := Lib.hid (show v4 = Qn.val d3 (!b4) by rw [hv4, hb4])
 have HC := Lib.hid hHC
 clear hd4 hb4 hv4 hHC
 go_wp2_with (first | (go_at_call 35; refine HC.out.mono ?_; rintro e V4 ⟨rfl, hRv, hTv⟩; refine Hid.out ?_))
 have stV := ST3.out.call hRv hTv
 clear HC hRv hTv
 have st4 := stV.set ({ M3 with size := v4 } : WmV) { stV.msg.ok with zlo := Int.le_trans (by decide) hlo, zhi := Int.le_trans hhi (by decide) } stV.msg.lo stV.msg.hi stV.msg.sa stV.msg.ga stV.msg.en stV.msg.da
 obtain ⟨M4, hM4⟩ : ∃ M', M' = ({ M3 with size := v4 } : WmV) := ⟨_, rfl⟩
 have hput : put1 M3.cells 40 [.int .i64 v4] = M4.cells := by rw [hM4]; exact WmV.put40 stV.msg.ok _
 rw [← hM4] at st4
 obtain ⟨U4, hU4⟩ : ∃ U, U = V4.setRow w.heap.size M4.cells := ⟨_, rfl⟩
 rw [← hU4] at st4
 have row := stV.msg.row
 have hfit := WmV.size78 stV.msg.ok
 have HKK := Lib.hid ((show M4.kind = M3.kind by rw [hM4]).trans HKK.out)
 clear hk0
 have hk0 := st4.kind
 rw [HKK.out] at hk0
 have HM4 := Lib.hid hM4
 have ST4 := Lib.hid st4
 clear hM4 st4 stV ST3
 generalize M3.cells = Y at row hfit hput
 generalize M4.cells = Z at hput hU4
 have HU4 := Lib.hid hU4
 clear hU4
 refine Lib.hid ?_
 go_wp2_with (first | (refine wpList_put1 (by rfl) 3 (.tmp 45) (.tmp 44) rfl ⟨w.heap.size, 40, none⟩ rfl w.heap.size 40 rfl _ rfl [.int .i64 v4] rfl Y _ row (show (Tryz.prog.info? 3).map (·.size) = some 1 by kernel_rfl) (by rw [hfit]; simp) (by simp [Value.oneCell']) Z hput ?_; rw [← HU4.out]; refine Hid.out ?_))
 clear row hfit hput HU4
 refine Lib.hid ?_
 have HC := Lib.hid (rsumr_any _ g _ _ U4 ST4.out.rr)
 unfold QSum at HC
 go_wp2_with (first | (go_at_call 37; refine HC.out.mono ?_; rintro e V5 ⟨rfl, hRv, hTv⟩; refine Hid.out ?_))
 have stV := ST4.out.call hRv hTv
 obtain ⟨d5, hd5⟩ : ∃ x, x = Rc.rest 32 d4 := ⟨_, rfl⟩
 obtain ⟨b5, hb5⟩ : ∃ x, x = (b4 && !decide (d4.length < 32)) := ⟨_, rfl⟩
 rw [← hd5, ← hb5] at stV
 have HB5 := Lib.hid (show (!b5) = ((!b4) || decide (d4.length < 32)) by rw [hb5, Bool.not_and, Bool.not_not])
 obtain ⟨v5, hv5⟩ : ∃ x, x = Rc.val 32 d4 := ⟨_, rfl⟩
 have hvl : v5.length = 32 := by rw [hv5]; exact Rc.len 32 _
 rw [← hv5]
 have Hd5 := Lib.hid hd5
 have Hv5 := Lib.hid hv5
 clear HC hRv hTv hd5 hb5 hv5
 have iS : (Tryz.prog.info? 26).map (·.size) = some (bvs v5).length := by rw [bvs_len, hvl]; kernel_rfl
 have st5 := stV.set ({ M4 with file := v5 } : WmV) { stV.msg.ok with file := hvl } stV.msg.lo stV.msg.hi stV.msg.sa stV.msg.ga stV.msg.en stV.msg.da
 obtain ⟨M5, hM5⟩ : ∃ M', M' = ({ M4 with file := v5 } : WmV) := ⟨_, rfl⟩
 have hput : put1 M4.cells 41 (bvs v5) = M5.cells := by rw [hM5]; exact WmV.put41 stV.msg.ok _ hvl
 rw [← hM5] at st5
 obtain ⟨U5, hU5⟩ : ∃ U, U = V5.setRow w.heap.size M5.cells := ⟨_, rfl⟩
 rw [← hU5] at st5
 have row := stV.msg.row
 have hfit := WmV.size78 stV.msg.ok
 have HKK := Lib.hid ((show M5.kind = M4.kind by rw [hM5]).trans HKK.out)
 clear hk0
 have hk0 := st5.kind
 rw [HKK.out] at hk0
 have HM5 := Lib.hid hM5
 have ST5 := Lib.hid st5
 clear hM5 st5 stV ST4
 generalize M4.cells = Y at row hfit hput
 generalize M5.cells = Z at hput hU5
 have HU5 := Lib.hid hU5
 clear hU5
 refine Lib.hid ?_
 go_wp2_with (first | (refine wpList_put1 (by rfl) 26 (.tmp 48) (.tmp 47) rfl ⟨w.heap.size, 41, none⟩ rfl w.heap.size 41 rfl (.agg (bvs v5).toArray) rfl (bvs v5) rfl Y _ row iS (by rw [hfit, bvs_len, hvl]; omega) (bvs_one _) Z hput ?_; rw [← HU5.out]; refine Hid.out ?_))
 clear row hfit hput HU5
 refine Lib.hid ?_
 have hdn := ST5.out.done
 have hfin := hdn.fin (r := M0.x.qread d0) (by rw [HQ.out] <;> first | (simp only [WmV.x, Wm.rdEnds, HM5.out, Hv5.out, Hd5.out, HB5.out, HM4.out, Hv4.out, Hd4.out, HB4.out, HM3.out, Hv3.out, Hd3.out, HB3.out, HM2.out, Hv2.out, Hd2.out, HB2.out, HM1.out, Hv1.out, Hd1.out, HB1.out, HB0.out, Bool.false_or]; done) | fail) (by rw [HQ.out, ← Bool.not_not b5] <;> congr 1 <;> first | (simp only [Wm.rdEnds, Hv5.out, Hd5.out, HB5.out, Hv4.out, Hd4.out, HB4.out, Hv3.out, Hd3.out, HB3.out, Hv2.out, Hd2.out, HB2.out, Hv1.out, Hd1.out, HB1.out, HB0.out, Bool.false_or]; done) | fail)
 have rowF := hdn.row
 have resF := hdn.res
 have hokF := (hdn.inn _ (Trn.refl _ _)).ok
 have infF := WmV.info hokF
 have szF : WmV.nul.cells.size = M5.cells.size := by rw [WmV.size78 hokF]; rfl
 have oneF := WmV.one M5
 have HFIN := Lib.hid hfin
 clear hfin hdn hokF
 generalize M5.cells = Y at rowF resF infF szF oneF HFIN
 have stF := setRow_heap U5 (w.heap.size + 1) _ Y _ _ resF
 go_wp2_with (first | (refine wpList_load_rowG (by rfl) MT (.tmp 3) rfl w.heap.size rfl MT Y (0, 0) _ rowF Tryz.underlying31 rfl infF ?_) | (refine wpList_store_row rfl MT (.tmp 4) (.tmp 124) rfl (w.heap.size + 1) Y rfl rfl MT _ resF infF szF oneF ?_))
 (try simp only [Exit.inBlock, Exit.then])
 refine bodyPost_ret (results_cell_row rfl _ _ (w.heap.size + 1) MT Y (0, 0) _ rfl stF Tryz.underlying31 rfl infF) rfl ?_
 exact HFIN.out
set_option maxRecDepth 100000 in
set_option maxHeartbeats 4000000 in
theorem rread_18 (S : Nat → Prop) (g : Nat) (d0 : List UInt8) (M0 : WmV) (w : World) (h : Rr w (fun i => i = g ∨ S i) g d0 true) (hM : ∀ W S bm, W.heap[bm]? = some (.cells M0.cells MT (0, 0)) → MsgR W S bm M0) (hk : M0.kind = 18) :
  Calls Tryz.prog 16 #[.pointer (some ⟨g, 0, none⟩), .agg M0.cells] w (RGot S g (M0.x.qread d0) w) := by
 obtain ⟨U0, hU0⟩ : ∃ U0, U0 = (w.alloc (.cells M0.cells MT)).alloc (.cells WmV.nul.cells MT (0, 0)) := ⟨_, rfl⟩
 have hgl : g < w.heap.size := by obtain ⟨A, c, h⟩ := h; exact h.lt _ (.inl rfl)
 have hx0 : Ext w U0 := by rw [hU0]; exact (Ext.alloc _ _).tr (Ext.alloc _ _)
 have r0 : U0.heap[w.heap.size]? = some (.cells M0.cells MT (0, 0)) := by rw [hU0]; exact heap_alloc2_old w _ _
 have r1 : U0.heap[w.heap.size + 1]? = some (.cells WmV.nul.cells MT (0, 0)) := by rw [hU0]; exact heap_alloc2_new w _ _
 have hs0 := lt_of_heap r1
 obtain ⟨b0, hb0⟩ : ∃ b0, b0 = true := ⟨_, rfl⟩
 have st0 : QSt S w g w.heap.size U0 M0 d0 b0 := ⟨hgl, by rw [hb0]; exact h.more hx0 (fun i hi => hi.elim (fun e => .inl (.inl e)) (fun e => e.elim (fun e => .inr (by omega)) (fun e => e.elim (fun e => .inr (by omega)) (fun e => .inl (.inr e))))) (.inl rfl), hM U0 _ _ r0, r1, Trn.ext hx0⟩
 have HB0 := Lib.hid (show (!b0) = false by rw [hb0]; rfl)
 have HQ := Lib.hid (show M0.x.qread d0 = _ from Wm.qread_18 M0.x d0 hk)
 have HKK := Lib.hid hk
 have hk0 := st0.kind
 rw [HKK.out] at hk0
 have ST0 := Lib.hid st0
 have HU0 := Lib.hid hU0
 obtain ⟨P, hP⟩ : ∃ P, P = M0.cells := ⟨_, rfl⟩
 rw [← hP] at HU0 ⊢
 clear hP hU0 hx0 r0 r1 hs0 st0 h hM hb0 hk
 go_enter Tryz.func16, Tryz.ntmps16
 have hHC := rsubsr_any _ g d0 b0 U0 ST0.out.rr
 unfold QSubs at hHC
 obtain ⟨b1, hb1⟩ : ∃ x, x = !(Qs.all d0 (!b0)).2.2 := ⟨_, rfl⟩
 rw [← hb1] at hHC
 have HB1 := Lib.hid (show (!b1) = (Qs.all d0 (!b0)).2.2 by rw [hb1, Bool.not_not])
 have HC := Lib.hid hHC
 clear hb1 hHC
 go_wp2_with (first | (refine wpList_run rfl _ _ (ex_allocMsg rfl) ?_; rw [← HU0.out]) | (go_at_call 38; refine HC.out.mono ?_; rintro e V1 ⟨av, cv, L, rfl, hsv, hov, hmv, hRv, hTv⟩; refine Hid.out ?_))
 have stV := ST0.out.call hRv hTv
 have Hv1 := Lib.hid hmv
 have hlt := ST0.out.lt
 clear HC hRv hTv hmv
 have st1 := stV.subs av cv L hsv hov hlt
 obtain ⟨M1, hM1⟩ : ∃ M', M' = ({ M0 with sa := av, sc := cv, subs := L } : WmV) := ⟨_, rfl⟩
 have hput : put1 M0.cells 73 [.slice av L.length cv] = M1.cells := by rw [hM1]; exact WmV.put73 stV.msg.ok _ _ _
 rw [← hM1] at st1
 obtain ⟨U1, hU1⟩ : ∃ U, U = V1.setRow w.heap.size M1.cells := ⟨_, rfl⟩
 rw [← hU1] at st1
 have row := stV.msg.row
 have hfit := WmV.size78 stV.msg.ok
 skip
 have HM1 := Lib.hid hM1
 have ST1 := Lib.hid st1
 clear hM1 st1 stV ST0
 generalize M0.cells = Y at row hfit hput
 generalize M1.cells = Z at hput hU1
 have HU1 := Lib.hid hU1
 clear hU1
 refine Lib.hid ?_
 go_wp2_with (first | (refine wpList_put1 (by rfl) 27 (.tmp 54) (.tmp 53) rfl ⟨w.heap.size, 73, none⟩ rfl w.heap.size 73 rfl _ rfl [.slice av L.length cv] rfl Y _ row (show (Tryz.prog.info? 27).map (·.size) = some 1 by kernel_rfl) (by rw [hfit]; simp) (by simp [Value.oneCell']) Z hput ?_; rw [← HU1.out]; refine Hid.out ?_))
 clear row hfit hput HU1
 refine Lib.hid ?_
 have hdn := ST1.out
 have hfin := hdn.fin (r := M0.x.qread d0) (by rw [HQ.out] <;> first | (simp only [WmV.x, Wm.rdEnds, HM1.out, HB1.out, Hv1.out, HB0.out, Bool.false_or]; done) | fail) (by rw [HQ.out, ← Bool.not_not b1] <;> congr 1 <;> first | (simp only [Wm.rdEnds, HB1.out, Hv1.out, HB0.out, Bool.false_or]; done) | fail)
 have rowF := hdn.row
 have resF := hdn.res
 have hokF := (hdn.inn _ (Trn.refl _ _)).ok
 have infF := WmV.info hokF
 have szF : WmV.nul.cells.size = M1.cells.size := by rw [WmV.size78 hokF]; rfl
 have oneF := WmV.one M1
 have HFIN := Lib.hid hfin
 clear hfin hdn hokF
 generalize M1.cells = Y at rowF resF infF szF oneF HFIN
 have stF := setRow_heap U1 (w.heap.size + 1) _ Y _ _ resF
 go_wp2_with (first | (refine wpList_load_rowG (by rfl) MT (.tmp 3) rfl w.heap.size rfl MT Y (0, 0) _ rowF Tryz.underlying31 rfl infF ?_) | (refine wpList_store_row rfl MT (.tmp 4) (.tmp 124) rfl (w.heap.size + 1) Y rfl rfl MT _ resF infF szF oneF ?_))
 (try simp only [Exit.inBlock, Exit.then])
 refine bodyPost_ret (results_cell_row rfl _ _ (w.heap.size + 1) MT Y (0, 0) _ rfl stF Tryz.underlying31 rfl infF) rfl ?_
 exact HFIN.out
set_option maxRecDepth 100000 in
set_option maxHeartbeats 4000000 in
theorem rread_19 (S : Nat → Prop) (g : Nat) (d0 : List UInt8) (M0 : WmV) (w : World) (h : Rr w (fun i => i = g ∨ S i) g d0 true) (hM : ∀ W S bm, W.heap[bm]? = some (.cells M0.cells MT (0, 0)) → MsgR W S bm M0) (hk : M0.kind = 19) :
  Calls Tryz.prog 16 #[.pointer (some ⟨g, 0, none⟩), .agg M0.cells] w (RGot S g (M0.x.qread d0) w) := by
 obtain ⟨U0, hU0⟩ : ∃ U0, U0 = (w.alloc (.cells M0.cells MT)).alloc (.cells WmV.nul.cells MT (0, 0)) := ⟨_, rfl⟩
 have hgl : g < w.heap.size := by obtain ⟨A, c, h⟩ := h; exact h.lt _ (.inl rfl)
 have hx0 : Ext w U0 := by rw [hU0]; exact (Ext.alloc _ _).tr (Ext.alloc _ _)
 have r0 : U0.heap[w.heap.size]? = some (.cells M0.cells MT (0, 0)) := by rw [hU0]; exact heap_alloc2_old w _ _
 have r1 : U0.heap[w.heap.size + 1]? = some (.cells WmV.nul.cells MT (0, 0)) := by rw [hU0]; exact heap_alloc2_new w _ _
 have hs0 := lt_of_heap r1
 obtain ⟨b0, hb0⟩ : ∃ b0, b0 = true := ⟨_, rfl⟩
 have st0 : QSt S w g w.heap.size U0 M0 d0 b0 := ⟨hgl, by rw [hb0]; exact h.more hx0 (fun i hi => hi.elim (fun e => .inl (.inl e)) (fun e => e.elim (fun e => .inr (by omega)) (fun e => e.elim (fun e => .inr (by omega)) (fun e => .inl (.inr e))))) (.inl rfl), hM U0 _ _ r0, r1, Trn.ext hx0⟩
 have HB0 := Lib.hid (show (!b0) = false by rw [hb0]; rfl)
 have HQ := Lib.hid (show M0.x.qread d0 = _ from Wm.qread_19 M0.x d0 hk)
 have HKK := Lib.hid hk
 have hk0 := st0.kind
 rw [HKK.out] at hk0
 have ST0 := Lib.hid st0
 have HU0 := Lib.hid hU0
 obtain ⟨P, hP⟩ : ∃ P, P = M0.cells := ⟨_, rfl⟩
 rw [← hP] at HU0 ⊢
 clear hP hU0 hx0 r0 r1 hs0 st0 h hM hb0 hk
 go_enter Tryz.func16, Tryz.ntmps16
 obtain ⟨a', c', hA'⟩ := ST0.out.rr
 have HC := Lib.hid (rbytes_any _ g a' c' _ _ U0 hA')
 clear hA'
 go_wp2_with (first | (refine wpList_run rfl _ _ (ex_allocMsg rfl) ?_; rw [← HU0.out]) | (go_at_call 34; refine HC.out.mono ?_; rintro e Vx ⟨ax, cx, rfl, hox, hRx, hTx⟩; refine Hid.out ?_))
 have stV := ST0.out.call hRx hTx
 obtain ⟨dm, hdx⟩ : ∃ x, x = Rt.rest d0 := ⟨_, rfl⟩
 obtain ⟨bm, hbx⟩ : ∃ x, x = (b0 && decide ((Vint.getBytes d0).2.2 = 0)) := ⟨_, rfl⟩
 rw [show d0.drop (Vint.getBytes d0).2.1 = Rt.rest d0 from rfl, ← hdx, ← hbx] at stV
 rw [show (Vint.getBytes d0).1 = Rt.val d0 from rfl] at hox ⊢
 have HBx := Lib.hid (show (!bm) = ((!b0) || Rt.bad d0) by rw [hbx]; exact (Rt.eqs d0 b0).2.2)
 have Hdx := Lib.hid hdx
 clear HC hRx hdx hbx
 have STx := Lib.hid stV
 have hlt := ST0.out.lt
 have txx := Tx.own hox hlt
 clear hox stV hlt hTx
 refine Lib.hid ?_
 obtain ⟨a', c', hA'⟩ := STx.out.rr
 have HC := Lib.hid (rbytes_any _ g a' c' _ _ Vx hA')
 clear hA'
 go_wp2_with (first | (go_at_call 34; refine HC.out.mono ?_; rintro e Vy ⟨ay, cy, rfl, hoy, hRy, hTy⟩; refine Hid.out ?_))
 have stV := STx.out.call hRy hTy
 obtain ⟨d1, hdy⟩ : ∃ x, x = Rt.rest dm := ⟨_, rfl⟩
 obtain ⟨b1, hby⟩ : ∃ x, x = (bm && decide ((Vint.getBytes dm).2.2 = 0)) := ⟨_, rfl⟩
 rw [show dm.drop (Vint.getBytes dm).2.1 = Rt.rest dm from rfl, ← hdy, ← hby] at stV
 rw [show (Vint.getBytes dm).1 = Rt.val dm from rfl] at hoy ⊢
 have HBy := Lib.hid (show (!b1) = ((!bm) || Rt.bad dm) by rw [hby]; exact (Rt.eqs dm bm).2.2)
 have Hdy := Lib.hid hdy
 clear HC hRy hdy hby
 have txy := Tx.own hoy STx.out.lt
 have txx := txx.trn hTy (fun i e => .inl e)
 clear hoy hTy STx
 have st1 := stV.set { M0 with la := ax, lc := cx, lo := Rt.val d0 } { stV.msg.ok with lcap := txx.cap } txx stV.msg.hi stV.msg.sa stV.msg.ga stV.msg.en stV.msg.da
 have tU : Trn (fun i => i = w.heap.size) Vy (Vy.setRow w.heap.size ({ M0 with la := ax, lc := cx, lo := Rt.val d0 } : WmV).cells) := Trn.set _ _ _ rfl
 have txy' := txy.trn tU (fun i e => .inr (.inl e))
 have st2 := st1.set { M0 with la := ax, lc := cx, lo := Rt.val d0, ha := ay, hc := cy, hi := Rt.val dm } { st1.msg.ok with hcap := txy.cap } st1.msg.lo txy' stV.msg.sa stV.msg.ga stV.msg.en stV.msg.da
 have hp1 : put1 M0.cells 3 [.slice ax (Rt.val d0).length cx] = ({ M0 with la := ax, lc := cx, lo := Rt.val d0 } : WmV).cells := WmV.put3 M0 _ _ _
 have hp2 : put1 ({ M0 with la := ax, lc := cx, lo := Rt.val d0 } : WmV).cells 4 [.slice ay (Rt.val dm).length cy] = ({ M0 with la := ax, lc := cx, lo := Rt.val d0, ha := ay, hc := cy, hi := Rt.val dm } : WmV).cells := WmV.put4 ({ M0 with la := ax, lc := cx, lo := Rt.val d0 } : WmV) _ _ _
 have row0 := stV.msg.row
 have row1 := st1.msg.row
 have fit0 := WmV.size78 stV.msg.ok
 have fit1 := WmV.size78 st1.msg.ok
 obtain ⟨M1, hM1⟩ : ∃ M1, M1 = ({ M0 with la := ax, lc := cx, lo := Rt.val d0, ha := ay, hc := cy, hi := Rt.val dm } : WmV) := ⟨_, rfl⟩
 rw [← hM1] at st2 hp2
 have HM1 := Lib.hid hM1
 have HKK := Lib.hid ((show M1.kind = M0.kind by rw [hM1]).trans HKK.out)
 generalize ({ M0 with la := ax, lc := cx, lo := Rt.val d0 } : WmV).cells = Y1 at row1 fit1 hp1 hp2 st2
 obtain ⟨U1, hU1⟩ : ∃ U, U = (Vy.setRow w.heap.size Y1).setRow w.heap.size M1.cells := ⟨_, rfl⟩
 rw [← hU1] at st2
 have ST1 := Lib.hid st2
 clear hk0
 have hk0 := st2.kind
 rw [HKK.out] at hk0
 generalize M0.cells = Y0 at row0 hp1 fit0
 generalize M1.cells = Y2 at hU1 hp2
 have HU1 := Lib.hid hU1
 have i1 : (Tryz.prog.info? 22).map (·.size) = some 1 := by kernel_rfl
 clear hU1 hM1 st2 st1 stV txy txy' tU txx
 refine Lib.hid ?_
 go_wp2_with (first | (refine wpList_put1 (by rfl) 22 (.tmp 19) (.tmp 16) rfl ⟨w.heap.size, 3, none⟩ rfl w.heap.size 3 rfl _ rfl [.slice ax (Rt.val d0).length cx] rfl Y0 _ row0 i1 (by rw [fit0]; simp) (by simp [Value.oneCell']) Y1 hp1 ?_) | (refine wpList_put1 (by rfl) 22 (.tmp 20) (.tmp 18) rfl ⟨w.heap.size, 4, none⟩ rfl w.heap.size 4 rfl _ rfl [.slice ay (Rt.val dm).length cy] rfl Y1 _ row1 i1 (by rw [fit1]; simp) (by simp [Value.oneCell']) Y2 hp2 ?_; rw [← HU1.out]; refine Hid.out ?_))
 clear row0 row1 fit0 fit1 hp1 hp2 i1 HU1
 refine Lib.hid ?_
 have hHC := rsubsr_any _ g d1 b1 U1 ST1.out.rr
 unfold QSubs at hHC
 obtain ⟨b2, hb2⟩ : ∃ x, x = !(Qs.all d1 (!b1)).2.2 := ⟨_, rfl⟩
 rw [← hb2] at hHC
 have HB2 := Lib.hid (show (!b2) = (Qs.all d1 (!b1)).2.2 by rw [hb2, Bool.not_not])
 have HC := Lib.hid hHC
 clear hb2 hHC
 go_wp2_with (first | (go_at_call 38; refine HC.out.mono ?_; rintro e V2 ⟨av, cv, L, rfl, hsv, hov, hmv, hRv, hTv⟩; refine Hid.out ?_))
 have stV := ST1.out.call hRv hTv
 have Hv2 := Lib.hid hmv
 have hlt := ST1.out.lt
 clear HC hRv hTv hmv
 have st2 := stV.subs av cv L hsv hov hlt
 obtain ⟨M2, hM2⟩ : ∃ M', M' = ({ M1 with sa := av, sc := cv, subs := L } : WmV) := ⟨_, rfl⟩
 have hput : put1 M1.cells 73 [.slice av L.length cv] = M2.cells := by rw [hM2]; exact WmV.put73 stV.msg.ok _ _ _
 rw [← hM2] at st2
 obtain ⟨U2, hU2⟩ : ∃ U, U = V2.setRow w.heap.size M2.cells := ⟨_, rfl⟩
 rw [← hU2] at st2
 have row := stV.msg.row
 have hfit := WmV.size78 stV.msg.ok
 skip
 have HM2 := Lib.hid hM2
 have ST2 := Lib.hid st2
 clear hM2 st2 stV ST1
 generalize M1.cells = Y at row hfit hput
 generalize M2.cells = Z at hput hU2
 have HU2 := Lib.hid hU2
 clear hU2
 refine Lib.hid ?_
 go_wp2_with (first | (refine wpList_put1 (by rfl) 27 (.tmp 54) (.tmp 53) rfl ⟨w.heap.size, 73, none⟩ rfl w.heap.size 73 rfl _ rfl [.slice av L.length cv] rfl Y _ row (show (Tryz.prog.info? 27).map (·.size) = some 1 by kernel_rfl) (by rw [hfit]; simp) (by simp [Value.oneCell']) Z hput ?_; rw [← HU2.out]; refine Hid.out ?_))
 clear row hfit hput HU2
 refine Lib.hid ?_
 have hdn := ST2.out
 have hfin := hdn.fin (r := M0.x.qread d0) (by rw [HQ.out] <;> first | (simp only [WmV.x, Wm.rdEnds, HM2.out, HB2.out, Hv2.out, HM1.out, Hdy.out, HBy.out, Hdx.out, HBx.out, HB0.out, Bool.false_or]; done) | fail) (by rw [HQ.out, ← Bool.not_not b2] <;> congr 1 <;> first | (simp only [Wm.rdEnds, HB2.out, Hv2.out, Hdy.out, HBy.out, Hdx.out, HBx.out, HB0.out, Bool.false_or]; done) | fail)
 have rowF := hdn.row
 have resF := hdn.res
 have hokF := (hdn.inn _ (Trn.refl _ _)).ok
 have infF := WmV.info hokF
 have szF : WmV.nul.cells.size = M2.cells.size := by rw [WmV.size78 hokF]; rfl
 have oneF := WmV.one M2
 have HFIN := Lib.hid hfin
 clear hfin hdn hokF
 generalize M2.cells = Y at rowF resF infF szF oneF HFIN
 have stF := setRow_heap U2 (w.heap.size + 1) _ Y _ _ resF
 go_wp2_with (first | (refine wpList_load_rowG (by rfl) MT (.tmp 3) rfl w.heap.size rfl MT Y (0, 0) _ rowF Tryz.underlying31 rfl infF ?_) | (refine wpList_store_row rfl MT (.tmp 4) (.tmp 124) rfl (w.heap.size + 1) Y rfl rfl MT _ resF infF szF oneF ?_))
 (try simp only [Exit.inBlock, Exit.then])
 refine bodyPost_ret (results_cell_row rfl _ _ (w.heap.size + 1) MT Y (0, 0) _ rfl stF Tryz.underlying31 rfl infF) rfl ?_
 exact HFIN.out
set_option maxRecDepth 100000 in
set_option maxHeartbeats 4000000 in
theorem rread_20 (S : Nat → Prop) (g : Nat) (d0 : List UInt8) (M0 : WmV) (w : World) (h : Rr w (fun i => i = g ∨ S i) g d0 true) (hM : ∀ W S bm, W.heap[bm]? = some (.cells M0.cells MT (0, 0)) → MsgR W S bm M0) (hk : M0.kind = 20) :
  Calls Tryz.prog 16 #[.pointer (some ⟨g, 0, none⟩), .agg M0.cells] w (RGot S g (M0.x.qread d0) w) := by
 obtain ⟨U0, hU0⟩ : ∃ U0, U0 = (w.alloc (.cells M0.cells MT)).alloc (.cells WmV.nul.cells MT (0, 0)) := ⟨_, rfl⟩
 have hgl : g < w.heap.size := by obtain ⟨A, c, h⟩ := h; exact h.lt _ (.inl rfl)
 have hx0 : Ext w U0 := by rw [hU0]; exact (Ext.alloc _ _).tr (Ext.alloc _ _)
 have r0 : U0.heap[w.heap.size]? = some (.cells M0.cells MT (0, 0)) := by rw [hU0]; exact heap_alloc2_old w _ _
 have r1 : U0.heap[w.heap.size + 1]? = some (.cells WmV.nul.cells MT (0, 0)) := by rw [hU0]; exact heap_alloc2_new w _ _
 have hs0 := lt_of_heap r1
 obtain ⟨b0, hb0⟩ : ∃ b0, b0 = true := ⟨_, rfl⟩
 have st0 : QSt S w g w.heap.size U0 M0 d0 b0 := ⟨hgl, by rw [hb0]; exact h.more hx0 (fun i hi => hi.elim (fun e => .inl (.inl e)) (fun e => e.elim (fun e => .inr (by omega)) (fun e => e.elim (fun e => .inr (by omega)) (fun e => .inl (.inr e))))) (.inl rfl), hM U0 _ _ r0, r1, Trn.ext hx0⟩
 have HB0 := Lib.hid (show (!b0) = false by rw [hb0]; rfl)
 have HQ := Lib.hid (show M0.x.qread d0 = _ from Wm.qread_20 M0.x d0 hk)
 have HKK := Lib.hid hk
 have hk0 := st0.kind
 rw [HKK.out] at hk0
 have ST0 := Lib.hid st0
 have HU0 := Lib.hid hU0
 obtain ⟨P, hP⟩ : ∃ P, P = M0.cells := ⟨_, rfl⟩
 rw [← hP] at HU0 ⊢
 clear hP hU0 hx0 r0 r1 hs0 st0 h hM hb0 hk
 go_enter Tryz.func16, Tryz.ntmps16
 obtain ⟨a', c', hA'⟩ := ST0.out.rr
 have HC := Lib.hid (rbytes_any _ g a' c' _ _ U0 hA')
 clear hA'
 go_wp2_with (first | (refine wpList_run rfl _ _ (ex_allocMsg rfl) ?_; rw [← HU0.out]) | (go_at_call 34; refine HC.out.mono ?_; rintro e Vx ⟨ax, cx, rfl, hox, hRx, hTx⟩; refine Hid.out ?_))
 have stV := ST0.out.call hRx hTx
 obtain ⟨dm, hdx⟩ : ∃ x, x = Rt.rest d0 := ⟨_, rfl⟩
 obtain ⟨bm, hbx⟩ : ∃ x, x = (b0 && decide ((Vint.getBytes d0).2.2 = 0)) := ⟨_, rfl⟩
 rw [show d0.drop (Vint.getBytes d0).2.1 = Rt.rest d0 from rfl, ← hdx, ← hbx] at stV
 rw [show (Vint.getBytes d0).1 = Rt.val d0 from rfl] at hox ⊢
 have HBx := Lib.hid (show (!bm) = ((!b0) || Rt.bad d0) by rw [hbx]; exact (Rt.eqs d0 b0).2.2)
 have Hdx := Lib.hid hdx
 clear HC hRx hdx hbx
 have STx := Lib.hid stV
 have hlt := ST0.out.lt
 have txx := Tx.own hox hlt
 clear hox stV hlt hTx
 refine Lib.hid ?_
 obtain ⟨a', c', hA'⟩ := STx.out.rr
 have HC := Lib.hid (rbytes_any _ g a' c' _ _ Vx hA')
 clear hA'
 go_wp2_with (first | (go_at_call 34; refine HC.out.mono ?_; rintro e Vy ⟨ay, cy, rfl, hoy, hRy, hTy⟩; refine Hid.out ?_))
 have stV := STx.out.call hRy hTy
 obtain ⟨d1, hdy⟩ : ∃ x, x = Rt.rest dm := ⟨_, rfl⟩
 obtain ⟨b1, hby⟩ : ∃ x, x = (bm && decide ((Vint.getBytes dm).2.2 = 0)) := ⟨_, rfl⟩
 rw [show dm.drop (Vint.getBytes dm).2.1 = Rt.rest dm from rfl, ← hdy, ← hby] at stV
 rw [show (Vint.getBytes dm).1 = Rt.val dm from rfl] at hoy ⊢
 have HBy := Lib.hid (show (!b1) = ((!bm) || Rt.bad dm) by rw [hby]; exact (Rt.eqs dm bm).2.2)
 have Hdy := Lib.hid hdy
 clear HC hRy hdy hby
 have txy := Tx.own hoy STx.out.lt
 have txx := txx.trn hTy (fun i e => .inl e)
 clear hoy hTy STx
 have st1 := stV.set { M0 with la := ax, lc := cx, lo := Rt.val d0 } { stV.msg.ok with lcap := txx.cap } txx stV.msg.hi stV.msg.sa stV.msg.ga stV.msg.en stV.msg.da
 have tU : Trn (fun i => i = w.heap.size) Vy (Vy.setRow w.heap.size ({ M0 with la := ax, lc := cx, lo := Rt.val d0 } : WmV).cells) := Trn.set _ _ _ rfl
 have txy' := txy.trn tU (fun i e => .inr (.inl e))
 have st2 := st1.set { M0 with la := ax, lc := cx, lo := Rt.val d0, ha := ay, hc := cy, hi := Rt.val dm } { st1.msg.ok with hcap := txy.cap } st1.msg.lo txy' stV.msg.sa stV.msg.ga stV.msg.en stV.msg.da
 have hp1 : put1 M0.cells 3 [.slice ax (Rt.val d0).length cx] = ({ M0 with la := ax, lc := cx, lo := Rt.val d0 } : WmV).cells := WmV.put3 M0 _ _ _
 have hp2 : put1 ({ M0 with la := ax, lc := cx, lo := Rt.val d0 } : WmV).cells 4 [.slice ay (Rt.val dm).length cy] = ({ M0 with la := ax, lc := cx, lo := Rt.val d0, ha := ay, hc := cy, hi := Rt.val dm } : WmV).cells := WmV.put4 ({ M0 with la := ax, lc := cx, lo := Rt.val d0 } : WmV) _ _ _
 have row0 := stV.msg.row
 have row1 := st1.msg.row
 have fit0 := WmV.size78 stV.msg.ok
 have fit1 := WmV.size78 st1.msg.ok
 obtain ⟨M1, hM1⟩ : ∃ M1, M1 = ({ M0 with la := ax, lc := cx, lo := Rt.val d0, ha := ay, hc := cy, hi := Rt.val dm } : WmV) := ⟨_, rfl⟩
 rw [← hM1] at st2 hp2
 have HM1 := Lib.hid hM1
 have HKK := Lib.hid ((show M1.kind = M0.kind by rw [hM1]).trans HKK.out)
 generalize ({ M0 with la := ax, lc := cx, lo := Rt.val d0 } : WmV).cells = Y1 at row1 fit1 hp1 hp2 st2
 obtain ⟨U1, hU1⟩ : ∃ U, U = (Vy.setRow w.heap.size Y1).setRow w.heap.size M1.cells := ⟨_, rfl⟩
 rw [← hU1] at st2
 have ST1 := Lib.hid st2
 clear hk0
 have hk0 := st2.kind
 rw [HKK.out] at hk0
 generalize M0.cells = Y0 at row0 hp1 fit0
 generalize M1.cells = Y2 at hU1 hp2
 have HU1 := Lib.hid hU1
 have i1 : (Tryz.prog.info? 22).map (·.size) = some 1 := by kernel_rfl
 clear hU1 hM1 st2 st1 stV txy txy' tU txx
 refine Lib.hid ?_
 go_wp2_with (first | (refine wpList_put1 (by rfl) 22 (.tmp 19) (.tmp 16) rfl ⟨w.heap.size, 3, none⟩ rfl w.heap.size 3 rfl _ rfl [.slice ax (Rt.val d0).length cx] rfl Y0 _ row0 i1 (by rw [fit0]; simp) (by simp [Value.oneCell']) Y1 hp1 ?_) | (refine wpList_put1 (by rfl) 22 (.tmp 20) (.tmp 18) rfl ⟨w.heap.size, 4, none⟩ rfl w.heap.size 4 rfl _ rfl [.slice ay (Rt.val dm).length cy] rfl Y1 _ row1 i1 (by rw [fit1]; simp) (by simp [Value.oneCell']) Y2 hp2 ?_; rw [← HU1.out]; refine Hid.out ?_))
 clear row0 row1 fit0 fit1 hp1 hp2 i1 HU1
 refine Lib.hid ?_
 obtain ⟨a', c', hA'⟩ := ST1.out.rr
 have HC := Lib.hid (rfixed_any _ g a' c' _ _ U1 1 (by omega) hA')
 unfold QCut at HC
 clear hA'
 go_wp2_with (first | (go_at_call 36; refine HC.out.mono ?_; rintro e V2 ⟨ax, cx, rfl, txv, hcx, hTv, hRv⟩; refine Hid.out ?_))
 have stV := ST1.out.call hRv hTv
 obtain ⟨d2, hd2⟩ : ∃ x, x = Rc.rest 1 d1 := ⟨_, rfl⟩
 obtain ⟨b2, hb2⟩ : ∃ x, x = (b1 && !decide (d1.length < 1)) := ⟨_, rfl⟩
 rw [← hd2, ← hb2] at stV
 have HB2 := Lib.hid (show (!b2) = ((!b1) || decide (d1.length < 1)) by rw [hb2, Bool.not_and, Bool.not_not])
 have hvl := Rc.len 1 d1
 have Hd2 := Lib.hid hd2
 clear HC hRv hTv hd2 hb2
 obtain ⟨adx, rfl, hcx1⟩ := txv.rd.at_ (k := 0) (by omega)
 rw [show adx.add 0 = adx from rfl] at hcx1
 obtain ⟨xb, hxb⟩ : ∃ xb, xb = (Rc.val 1 d1)[0] := ⟨_, rfl⟩
 rw [← hxb] at hcx1
 obtain ⟨v2, hv2⟩ : ∃ x, x = decide (Rc.val 1 d1 = [1]) := ⟨_, rfl⟩
 have hxm : ((xb.toNat : Int) == 1) = v2 := by
  obtain ⟨y, hy⟩ : ∃ y, Rc.val 1 d1 = [y] := by
   cases hz : Rc.val 1 d1 with
   | nil => rw [hz] at hvl; simp at hvl
   | cons y l => rw [hz] at hvl; simp at hvl; subst hvl; exact ⟨y, rfl⟩
  have e1 : xb = y := by rw [hxb]; simp [hy]
  rw [hv2, hy, e1, Bool.eq_iff_iff]
  simp only [beq_iff_eq, decide_eq_true_eq, List.cons.injEq, and_true]
  constructor
  ·
   intro h; exact UInt8.toNat_inj.1 (by have e9 : (1 : UInt8).toNat = 1 := rfl; omega)
  ·
   rintro rfl; rfl
 have Hv2 := Lib.hid hv2
 clear hxb hv2 txv hvl
 have st2 := stV.set ({ M1 with more := v2 } : WmV) { stV.msg.ok with  } stV.msg.lo stV.msg.hi stV.msg.sa stV.msg.ga stV.msg.en stV.msg.da
 obtain ⟨M2, hM2⟩ : ∃ M', M' = ({ M1 with more := v2 } : WmV) := ⟨_, rfl⟩
 have hput : put1 M1.cells 74 [.bool v2] = M2.cells := by rw [hM2]; exact WmV.put74 stV.msg.ok _
 rw [← hM2] at st2
 obtain ⟨U2, hU2⟩ : ∃ U, U = V2.setRow w.heap.size M2.cells := ⟨_, rfl⟩
 rw [← hU2] at st2
 have row := stV.msg.row
 have hfit := WmV.size78 stV.msg.ok
 have HKK := Lib.hid ((show M2.kind = M1.kind by rw [hM2]).trans HKK.out)
 clear hk0
 have hk0 := st2.kind
 rw [HKK.out] at hk0
 have HM2 := Lib.hid hM2
 have ST2 := Lib.hid st2
 clear hM2 st2 stV ST1
 generalize M1.cells = Y at row hfit hput
 generalize M2.cells = Z at hput hU2
 have HU2 := Lib.hid hU2
 clear hU2
 refine Lib.hid ?_
 go_wp2_with (first | (refine wpList_put1 (by rfl) 4 (.tmp 62) (.tmp 61) rfl ⟨w.heap.size, 74, none⟩ rfl w.heap.size 74 rfl (.bool v2) rfl [.bool v2] rfl Y _ row (show (Tryz.prog.info? 4).map (·.size) = some 1 by kernel_rfl) (by rw [hfit]; simp) (by simp [Value.oneCell']) Z hput ?_; rw [← HU2.out]; refine Hid.out ?_))
 clear row hfit hput HU2
 refine Lib.hid ?_
 clear hxm hcx1
 obtain ⟨a', c', hA'⟩ := ST2.out.rr
 have hq0 := hA'.cell0
 have hlt := ST2.out.lt
 have HC := Lib.hid ((ref_getall a' d2 c' U2 hA'.tx.rd hA'.len hA'.tx.cap).mono fun _ _ h => h.all)
 clear hA'
 go_wp2_with (first | (go_at_call 39; refine HC.out.mono ?_; rintro e Ve ⟨Le, ae, ce, er, rfl, hve, hze, hoe, hae, hxe⟩; refine Hid.out ?_))
 clear hq0 HC
 have stx := ST2.out.ext hxe
 obtain ⟨a4, c4, hA4⟩ := stx.rr
 have hq1 := hA4.cell1
 have rg4 := hA4.row
 obtain ⟨b3, hb3⟩ : ∃ b3, b3 = (b2 && !(Ent.getAll d2).isNone) := ⟨_, rfl⟩
 have HB3 := Lib.hid (show (!b3) = ((!b2) || (Ent.getAll d2).isNone) by rw [hb3, Bool.not_and, Bool.not_not])
 have sty := stx.setb hA4 b3
 obtain ⟨Vy, hVy⟩ : ∃ V, V = Ve.setRow g #[.slice a4 d2.length c4, .bool b3] := ⟨_, rfl⟩
 rw [← hVy] at sty
 have ty : Trn (fun i => i = g) Ve Vy := by rw [hVy]; exact Trn.set _ _ _ rfl
 have tg : ∀ i, i = g → i < U2.heap.size := fun i e => hlt i (.inl e)
 have st3 := sty.ents ae ce Le (hoe.trn ty tg) (fun e he => (hae e he).trn ty tg) hlt
 obtain ⟨M3, hM3⟩ : ∃ M', M' = ({ M2 with ea := ae, ec := ce, ents := Le } : WmV) := ⟨_, rfl⟩
 have hput : put1 M2.cells 75 [.slice ae Le.length ce] = M3.cells := by rw [hM3]; exact WmV.put75 sty.msg.ok _ _ _
 rw [← hM3] at st3
 obtain ⟨Vz, hVz⟩ : ∃ U, U = Vy.setRow w.heap.size M3.cells := ⟨_, rfl⟩
 rw [← hVz] at st3
 have row := sty.msg.row
 have hfit := WmV.size78 sty.msg.ok
 have rgy : Vy.heap[g]? = some (.cells #[.slice a4 d2.length c4, .bool b3] QT (0, 0)) := by rw [hVy]; exact setRow_heap _ _ _ _ _ _ rg4
 have rgz : Vz.heap[g]? = some (.cells #[.slice a4 d2.length c4, .bool b3] QT (0, 0)) := by rw [hVz]; exact set_keeps rgy (by omega)
 have stw := st3.setg #[.slice none 0 0, .bool b3] rgz _ rfl
 obtain ⟨U3, hU3⟩ : ∃ U, U = Vz.setRow g #[.slice none 0 0, .bool b3] := ⟨_, rfl⟩
 rw [← hU3] at stw
 have HM3 := Lib.hid hM3
 have ST3 := Lib.hid stw
 have Hv3 := Lib.hid hve.symm
 have ib : (Tryz.prog.info? 4).map (·.size) = some 1 := by kernel_rfl
 have ie : (Tryz.prog.info? 28).map (·.size) = some 1 := by kernel_rfl
 have i8 : (Tryz.prog.info? 22).map (·.size) = some 1 := by kernel_rfl
 clear hM3 stw st3 sty stx hA4 ty tg hoe hae hxe rgy hve ST2 hlt
 generalize M2.cells = Y at row hfit hput
 generalize M3.cells = Z at hput hVz
 have HVy := Lib.hid hVy
 have HVz := Lib.hid hVz
 have HU3 := Lib.hid hU3
 clear hVy hVz hU3
 refine Lib.hid ?_
 by_cases hb2 : b2 = true
 ·
  rw [hb2] at hq1 rg4
  obtain ⟨eo, heo⟩ : ∃ eo, eo = !(Ent.getAll d2).isNone := ⟨_, rfl⟩
  rw [← heo] at hze
  have hb3v : b3 = eo := by rw [hb3, hb2, heo]; rfl
  clear heo hb3 hb2
  go_wp2_with (first | (refine wpList_put1 (by rfl) 4 (.tmp 81) (.tmp 79) rfl ⟨g, 1, none⟩ rfl g 1 rfl (.bool eo) rfl [.bool eo] rfl _ QT rg4 ib (by simp) (by simp [Value.oneCell']) #[.slice a4 d2.length c4, .bool b3] (by rw [hb3v]; rfl) ?_; rw [← HVy.out]) | (refine wpList_put1 (by rfl) 28 (.tmp 83) (.tmp 82) rfl ⟨w.heap.size, 75, none⟩ rfl w.heap.size 75 rfl (.slice ae Le.length ce) rfl [.slice ae Le.length ce] rfl Y _ row ie (by rw [hfit]; simp) (by simp [Value.oneCell']) Z hput ?_; rw [← HVz.out]) | (refine wpList_put1 (by rfl) 22 (.tmp 86) _ rfl ⟨g, 0, none⟩ rfl g 0 rfl (.slice none 0 0) rfl [.slice none 0 0] rfl _ QT rgz i8 (by simp) (by simp [Value.oneCell']) #[.slice none 0 0, .bool b3] rfl ?_; rw [← HU3.out]; refine Hid.out ?_))
  clear row hfit hput HU3 HVz HVy rgz rg4 hq1
  refine Lib.hid ?_
  have hdn := ST3.out
  have hfin := hdn.fin (r := M0.x.qread d0) (by rw [HQ.out] <;> first | (simp only [WmV.x, Wm.rdEnds, HM3.out, Hv3.out, HB3.out, HM2.out, Hv2.out, Hd2.out, HB2.out, HM1.out, Hdy.out, HBy.out, Hdx.out, HBx.out, HB0.out, Bool.false_or]; done) | fail) (by rw [HQ.out, ← Bool.not_not b3] <;> congr 1 <;> first | (simp only [Wm.rdEnds, Hv3.out, HB3.out, Hv2.out, Hd2.out, HB2.out, Hdy.out, HBy.out, Hdx.out, HBx.out, HB0.out, Bool.false_or]; done) | fail)
  have rowF := hdn.row
  have resF := hdn.res
  have hokF := (hdn.inn _ (Trn.refl _ _)).ok
  have infF := WmV.info hokF
  have szF : WmV.nul.cells.size = M3.cells.size := by rw [WmV.size78 hokF]; rfl
  have oneF := WmV.one M3
  have HFIN := Lib.hid hfin
  clear hfin hdn hokF
  generalize M3.cells = Y at rowF resF infF szF oneF HFIN
  have stF := setRow_heap U3 (w.heap.size + 1) _ Y _ _ resF
  go_wp2_with (first | (refine wpList_load_rowG (by rfl) MT (.tmp 3) rfl w.heap.size rfl MT Y (0, 0) _ rowF Tryz.underlying31 rfl infF ?_) | (refine wpList_store_row rfl MT (.tmp 4) (.tmp 124) rfl (w.heap.size + 1) Y rfl rfl MT _ resF infF szF oneF ?_))
  (try simp only [Exit.inBlock, Exit.then])
  refine bodyPost_ret (results_cell_row rfl _ _ (w.heap.size + 1) MT Y (0, 0) _ rfl stF Tryz.underlying31 rfl infF) rfl ?_
  exact HFIN.out
 ·
  rw [Bool.not_eq_true] at hb2
  rw [hb2] at hq1 rg4
  have hb3v : b3 = false := by rw [hb3, hb2]; rfl
  clear hb3 hb2
  go_wp2_with (first | (refine wpList_put1 (by rfl) 4 (.tmp 81) (.tmp 79) rfl ⟨g, 1, none⟩ rfl g 1 rfl (.bool false) rfl [.bool false] rfl _ QT rg4 ib (by simp) (by simp [Value.oneCell']) #[.slice a4 d2.length c4, .bool b3] (by rw [hb3v]; rfl) ?_; rw [← HVy.out]) | (refine wpList_put1 (by rfl) 28 (.tmp 83) (.tmp 82) rfl ⟨w.heap.size, 75, none⟩ rfl w.heap.size 75 rfl (.slice ae Le.length ce) rfl [.slice ae Le.length ce] rfl Y _ row ie (by rw [hfit]; simp) (by simp [Value.oneCell']) Z hput ?_; rw [← HVz.out]) | (refine wpList_put1 (by rfl) 22 (.tmp 86) _ rfl ⟨g, 0, none⟩ rfl g 0 rfl (.slice none 0 0) rfl [.slice none 0 0] rfl _ QT rgz i8 (by simp) (by simp [Value.oneCell']) #[.slice none 0 0, .bool b3] rfl ?_; rw [← HU3.out]; refine Hid.out ?_))
  clear row hfit hput HU3 HVz HVy rgz rg4 hq1
  refine Lib.hid ?_
  have hdn := ST3.out
  have hfin := hdn.fin (r := M0.x.qread d0) (by rw [HQ.out] <;> first | (simp only [WmV.x, Wm.rdEnds, HM3.out, Hv3.out, HB3.out, HM2.out, Hv2.out, Hd2.out, HB2.out, HM1.out, Hdy.out, HBy.out, Hdx.out, HBx.out, HB0.out, Bool.false_or]; done) | fail) (by rw [HQ.out, ← Bool.not_not b3] <;> congr 1 <;> first | (simp only [Wm.rdEnds, Hv3.out, HB3.out, Hv2.out, Hd2.out, HB2.out, Hdy.out, HBy.out, Hdx.out, HBx.out, HB0.out, Bool.false_or]; done) | fail)
  have rowF := hdn.row
  have resF := hdn.res
  have hokF := (hdn.inn _ (Trn.refl _ _)).ok
  have infF := WmV.info hokF
  have szF : WmV.nul.cells.size = M3.cells.size := by rw [WmV.size78 hokF]; rfl
  have oneF := WmV.one M3
  have HFIN := Lib.hid hfin
  clear hfin hdn hokF
  generalize M3.cells = Y at rowF resF infF szF oneF HFIN
  have stF := setRow_heap U3 (w.heap.size + 1) _ Y _ _ resF
  go_wp2_with (first | (refine wpList_load_rowG (by rfl) MT (.tmp 3) rfl w.heap.size rfl MT Y (0, 0) _ rowF Tryz.underlying31 rfl infF ?_) | (refine wpList_store_row rfl MT (.tmp 4) (.tmp 124) rfl (w.heap.size + 1) Y rfl rfl MT _ resF infF szF oneF ?_))
  (try simp only [Exit.inBlock, Exit.then])
  refine bodyPost_ret (results_cell_row rfl _ _ (w.heap.size + 1) MT Y (0, 0) _ rfl stF Tryz.underlying31 rfl infF) rfl ?_
  exact HFIN.out
set_option maxRecDepth 100000 in
set_option maxHeartbeats 4000000 in
theorem rread_21 (S : Nat → Prop) (g : Nat) (d0 : List UInt8) (M0 : WmV) (w : World) (h : Rr w (fun i => i = g ∨ S i) g d0 true) (hM : ∀ W S bm, W.heap[bm]? = some (.cells M0.cells MT (0, 0)) → MsgR W S bm M0) (hk : M0.kind = 21) :
  Calls Tryz.prog 16 #[.pointer (some ⟨g, 0, none⟩), .agg M0.cells] w (RGot S g (M0.x.qread d0) w) := by
 obtain ⟨U0, hU0⟩ : ∃ U0, U0 = (w.alloc (.cells M0.cells MT)).alloc (.cells WmV.nul.cells MT (0, 0)) := ⟨_, rfl⟩
 have hgl : g < w.heap.size := by obtain ⟨A, c, h⟩ := h; exact h.lt _ (.inl rfl)
 have hx0 : Ext w U0 := by rw [hU0]; exact (Ext.alloc _ _).tr (Ext.alloc _ _)
 have r0 : U0.heap[w.heap.size]? = some (.cells M0.cells MT (0, 0)) := by rw [hU0]; exact heap_alloc2_old w _ _
 have r1 : U0.heap[w.heap.size + 1]? = some (.cells WmV.nul.cells MT (0, 0)) := by rw [hU0]; exact heap_alloc2_new w _ _
 have hs0 := lt_of_heap r1
 obtain ⟨b0, hb0⟩ : ∃ b0, b0 = true := ⟨_, rfl⟩
 have st0 : QSt S w g w.heap.size U0 M0 d0 b0 := ⟨hgl, by rw [hb0]; exact h.more hx0 (fun i hi => hi.elim (fun e => .inl (.inl e)) (fun e => e.elim (fun e => .inr (by omega)) (fun e => e.elim (fun e => .inr (by omega)) (fun e => .inl (.inr e))))) (.inl rfl), hM U0 _ _ r0, r1, Trn.ext hx0⟩
 have HB0 := Lib.hid (show (!b0) = false by rw [hb0]; rfl)
 have HQ := Lib.hid (show M0.x.qread d0 = _ from Wm.qread_21 M0.x d0 hk)
 have HKK := Lib.hid hk
 have hk0 := st0.kind
 rw [HKK.out] at hk0
 have ST0 := Lib.hid st0
 have HU0 := Lib.hid hU0
 obtain ⟨P, hP⟩ : ∃ P, P = M0.cells := ⟨_, rfl⟩
 rw [← hP] at HU0 ⊢
 clear hP hU0 hx0 r0 r1 hs0 st0 h hM hb0 hk
 go_enter Tryz.func16, Tryz.ntmps16
 obtain ⟨a', c', hA'⟩ := ST0.out.rr
 have hHC := rnum_any _ g a' c' _ _ U0 hA'
 clear hA'
 obtain ⟨v1, hv1⟩ : ∃ x, x = Qn.val d0 (!(b0 && Rn.ok d0)) := ⟨_, rfl⟩
 obtain ⟨d1, hd1⟩ : ∃ x, x = Qn.rest d0 := ⟨_, rfl⟩
 obtain ⟨b1, hb1⟩ : ∃ x, x = (b0 && Rn.ok d0) := ⟨_, rfl⟩
 rw [← hv1, ← hd1, ← hb1] at hHC
 have HB1 := Lib.hid (show (!b1) = ((!b0) || !Rn.ok d0) by rw [hb1, Bool.not_and])
 have hlo : 0 ≤ v1 := by rw [hv1]; exact Qn.val_ge _ _
 have hhi : v1 ≤ 2147483647 := by rw [hv1]; exact Qn.val_le _ _ (by cases b0 <;> simp)
 have Hd1 := Lib.hid hd1
 have Hv1 := Lib.hid (show v1 = Qn.val d0 (!b1) by rw [hv1, hb1])
 have HC := Lib.hid hHC
 clear hd1 hb1 hv1 hHC
 go_wp2_with (first | (refine wpList_run rfl _ _ (ex_allocMsg rfl) ?_; rw [← HU0.out]) | (go_at_call 35; refine HC.out.mono ?_; rintro e V1 ⟨rfl, hRv, hTv⟩; refine Hid.out ?_))
 have stV := ST0.out.call hRv hTv
 clear HC hRv hTv
 have st1 := stV.set ({ M0 with n := v1 } : WmV) { stV.msg.ok with nlo := Int.le_trans (by decide) hlo, nhi := Int.le_trans hhi (by decide) } stV.msg.lo stV.msg.hi stV.msg.sa stV.msg.ga stV.msg.en stV.msg.da
 obtain ⟨M1, hM1⟩ : ∃ M', M' = ({ M0 with n := v1 } : WmV) := ⟨_, rfl⟩
 have hput : put1 M0.cells 5 [.int .i64 v1] = M1.cells := by rw [hM1]; exact WmV.put5 M0 _
 rw [← hM1] at st1
 obtain ⟨U1, hU1⟩ : ∃ U, U = V1.setRow w.heap.size M1.cells := ⟨_, rfl⟩
 rw [← hU1] at st1
 have row := stV.msg.row
 have hfit := WmV.size78 stV.msg.ok
 have HKK := Lib.hid ((show M1.kind = M0.kind by rw [hM1]).trans HKK.out)
 clear hk0
 have hk0 := st1.kind
 rw [HKK.out] at hk0
 have HM1 := Lib.hid hM1
 have ST1 := Lib.hid st1
 clear hM1 st1 stV ST0
 generalize M0.cells = Y at row hfit hput
 generalize M1.cells = Z at hput hU1
 have HU1 := Lib.hid hU1
 clear hU1
 refine Lib.hid ?_
 go_wp2_with (first | (refine wpList_put1 (by rfl) 3 (.tmp 28) (.tmp 27) rfl ⟨w.heap.size, 5, none⟩ rfl w.heap.size 5 rfl _ rfl [.int .i64 v1] rfl Y _ row (show (Tryz.prog.info? 3).map (·.size) = some 1 by kernel_rfl) (by rw [hfit]; simp) (by simp [Value.oneCell']) Z hput ?_; rw [← HU1.out]; refine Hid.out ?_))
 clear row hfit hput HU1
 refine Lib.hid ?_
 have hlen1 : d1.length ≤ 1000000 := by obtain ⟨_, _, k⟩ := ST1.out.rr; exact k.len
 have hbl := ST1.out.lt (w.heap.size + 1) (.inr (.inr (.inl rfl)))
 obtain ⟨RA, hRA⟩ : ∃ RA, RA = Rg.all d1 (!b1) := ⟨_, rfl⟩
 obtain ⟨B, hB⟩ : ∃ B, B = U1.heap.size := ⟨_, rfl⟩
 have lp0 := ST1.out.loop
 rw [← hB] at lp0 hbl
 have HRA := Lib.hid hRA
 have HL0 := Lib.hid lp0
 clear hRA lp0 hB ST1
 go_wp2_with fail
 go_loopw [] (fun wr => ∃ (f : Nat) (l : List Wg) (d2 : List UInt8) (ok2 : Bool) (A1 : Option Addr) (c1 : Nat), Hid (RA = (l ++ (Rg.run f d2 (!ok2)).1, (Rg.run f d2 (!ok2)).2)) ∧ Hid (ok2 = false ∨ d2.length + 1 ≤ f) ∧ Hid (QLp S w g w.heap.size B wr M1 l A1 c1 d2 ok2) ∧ l.length ≤ d1.length ∧ Hid (ok2 = true → l.length * 36 + d2.length ≤ d1.length)) (fun wr => Qg.meas g wr)
 case atStart => exact ⟨d1.length + 1, [], d1, b1, none, 0, HRA, Lib.hid (.inr (Nat.le_refl _)), HL0, by simp, Lib.hid (by simp)⟩
 case round =>
  obtain ⟨f, l, d2, ok2, A1, c1, hrun, hf, hq, hll, hlen⟩ := hrel
  obtain ⟨a2, c2, hA2⟩ := hq.out.rr
  have h0 := hA2.cell0
  have h1 := hA2.cell1
  by_cases hgo : 0 < d2.length ∧ ok2 = true
  ·
   obtain ⟨hd0, rfl⟩ := hgo
   have hdi : (0 : Int) < (d2.length : Int) := by omega
   have hlen' := hlen.out rfl
   have HC := Lib.hid (rfixed_any _ g a2 c2 d2 true wr 4 (by omega) hA2)
   unfold QCut at HC
   have HM := Lib.hid (Qg.meas_of hA2)
   clear hA2
   go_wp2_with (go_at_call 36; refine HC.out.mono ?_; rintro e3 v3 ⟨ax, cx, rfl, txv, hcx, ht3, hR3⟩; refine Hid.out ?_)
   have hvl := Rc.len 4 d2
   obtain ⟨n0, hn0⟩ : ∃ n0, n0 = Vint.number (Rc.val 4 d2) := ⟨_, rfl⟩
   have hnlt : n0 < 4294967296 := by rw [hn0]; exact number4W _ hvl
   have hN := ref_number01 ax (Rc.val 4 d2) cx v3 txv.rd (by rw [hvl]; omega)
   rw [hvl, ← hn0] at hN
   have HN := Lib.hid hN
   have hw4 : IntKind.u32.wrap (n0 : Int) = (n0 : Int) := by simp [IntKind.wrap, IntKind.bits, IntKind.signed]; omega
   obtain ⟨W, hW⟩ : ∃ W, W = v3.drew := ⟨_, rfl⟩
   have hxW : Ext v3 W := by rw [hW]; exact Ext.drew v3
   have tW : Trn (fun i => i = g) wr W := ht3.tr (Trn.ext hxW)
   obtain ⟨d3, hd3⟩ : ∃ d3, d3 = Rc.rest 4 d2 := ⟨_, rfl⟩
   obtain ⟨ok3, hok3⟩ : ∃ ok3, ok3 = (true && !decide (d2.length < 4)) := ⟨_, rfl⟩
   rw [← hd3, ← hok3] at hR3
   have hRW := hR3.trn (T := fun _ => False) (Trn.ext hxW) (fun _ => False.elim) id
   have HS := Lib.hid (rsumr_any _ g d3 ok3 W hRW)
   unfold QSum at HS
   have hv32 := Rc.len 32 d3
   obtain ⟨vs, hvs⟩ : ∃ vs, vs = Rc.val 32 d3 := ⟨_, rfl⟩
   obtain ⟨d7, hd7⟩ : ∃ d7, d7 = Rc.rest 32 d3 := ⟨_, rfl⟩
   obtain ⟨ok7, hok7⟩ : ∃ ok7, ok7 = (ok3 && !decide (d3.length < 32)) := ⟨_, rfl⟩
   rw [← hvs] at hv32 HS
   rw [← hd7, ← hok7] at HS
   obtain ⟨s, hs⟩ : ∃ s : Wg, s = ⟨n0, vs⟩ := ⟨_, rfl⟩
   have hsok : s.Ok := by rw [hs]; exact ⟨hnlt, hv32⟩
   have hone : Rg.one d2 false = (s, d7, !ok7) := by
    rw [hs, hok7, hok3, hn0, hvs, hd7, hd3]
    simp [Rg.one]
   have Hone := Lib.hid hone
   have Hs := Lib.hid (show (Value.agg (⟨n0, vs⟩ : Wg).cells) = Value.agg s.cells by rw [hs])
   have hokM := (hq.out.done.inn _ (Trn.refl _ _)).ok
   have hrowW := tW.row hq.out.row (by have := hq.out.gl; omega)
   have hpW : W.cell? ⟨w.heap.size, 76, none⟩ = some (.slice A1 l.length c1) := (cell_of_row _ _ _ _ _ _ hrowW).trans (WmV.at76 hokM)
   have HoW := Lib.hid (hq.out.own.trn tW (fun i e => by omega))
   have HW := Lib.hid hW
   have TW := Lib.hid tW
   have hBU := hq.out.bU
   have hWs := tW.size
   clear hW hs hone hok7 hd7 hvs hok3 hd3 hN hn0 HC hR3 hRW ht3 hxW tW txv
   refine Lib.hid ?_
   go_wp2_with (go_at_call 17; refine HN.out.mono ?_; rintro e4 v4 ⟨rfl, rfl⟩)
   refine rr_start (trnW (fun i => i = g)) [0, 2, 3, 8] (by kernel_rfl) ?_
   rw [← HW.out]
   refine qAD 0 rfl ?_
   simp only [sP]
   refine qS 1 rfl ⟨_, fun w' hx => by have hcx := Trn.load hx hpW (by show ¬ w.heap.size = g; have := hq.out.gl; omega); (go_simp <;> with_reducible rfl), ?_⟩
   simp only [sP]
   refine qAD 2 rfl ?_
   simp only [sP]
   refine qAD 3 rfl ?_
   simp only [sP]
   refine rr_call 4 HS.out rfl (by kernel_rfl) (by rfl) (by go_simp) ?_
   rintro e5 v5 ⟨rfl, hR5, ht5⟩
   refine ⟨_, rfl, ht5, ?_⟩
   simp only [sP]
   refine qS 5 rfl ⟨.agg s.cells, fun w' hx => (ex_buildSigV (.tmp 107) (.tmp 109) rfl n0 vs hv32 rfl rfl).trans (by rw [Hs.out]), ?_⟩
   simp only [sP]
   refine rr_make 6 rfl (by kernel_rfl) (by rfl) ⟨_, _, ex_buildOneW 29 (.tmp 110) rfl elemWg s.cells rfl (Wg.size hsok) (by omega), Trn.ext (Ext.alloc _ _), ?_⟩
   have hr6 : Rd (v5.alloc (.cells s.cells 65)) 33 (some ⟨v5.heap.size, 0, none⟩) 1 (wgs [s]) := Rd.row (xs := wgs [s]) (by rw [show (wgs [s]).toArray = s.cells by simp [wgs, Wg.cells]]; exact heap_alloc_new v5 _) (by rw [wgs_len (by simpa using hsok)]; rfl)
   simp only [sP]
   have hs5 := ht5.size
   refine rr_last 7 rfl (by kernel_rfl) (by kernel_rfl) (by rfl) fun KK hK => wp_app (.tmp 106) (.tmp 111) 29 rfl elemWg B A1 l.length c1 (wgs l) rfl (some ⟨v5.heap.size, 0, none⟩) 1 1 (wgs [s]) rfl (l.length + 1) rfl (wgs (l ++ [s])) (wgs_app _ _) ((HoW.out.trn ht5 (fun i e => by have := hq.out.gl; omega)).trn (Trn.ext (S := fun _ => False) (Ext.alloc _ _)) (fun _ => False.elim)) hr6 (wgs_one _) (by omega) (by omega) (by rw [World.size_alloc]; omega) (fun A6 c6 w7 ho7 hg7 hr7 => hK _ _ ?_)
   simp only [sP]
   have hrow7 := (Trn.grownO (S := fun i => B ≤ i) hg7 (fun k e => (HoW.out.row_lt k e).1)).row ((Ext.alloc v5 (.cells s.cells 65)).block _ (lt_of_heap (ht5.row hrowW (by have := hq.out.gl; omega))) |>.trans (ht5.row hrowW (by have := hq.out.gl; omega))) (by have := hq.out.bB; omega)
   have hput : put1 ({ M1 with ga := A1, gc := c1, sigs := l } : WmV).cells 76 [.slice A6 (l.length + 1) c6] = ({ M1 with ga := A6, gc := c6, sigs := l ++ [s] } : WmV).cells := by have := WmV.put76 hokM A6 c6 (l ++ [s]); rw [List.length_append] at this; exact this
   have hfit := WmV.size78 hokM
   refine qAD 8 rfl ?_
   simp only [sP]
   refine rr_store 9 rfl (by kernel_rfl) (by kernel_rfl) (by rfl) ⟨w7.setRow w.heap.size ({ M1 with ga := A6, gc := c6, sigs := l ++ [s] } : WmV).cells, ex_put1 29 (.tmp 113) (.tmp 112) rfl ⟨w.heap.size, 76, none⟩ rfl w.heap.size 76 rfl (.slice A6 (l.length + 1) c6) rfl [.slice A6 (l.length + 1) c6] rfl _ _ hrow7 (by kernel_rfl) (by rw [hfit]; simp) (by simp [Value.oneCell']) _ hput, ?_⟩
   simp only [Act.put]
   refine rr_done (by kernel_rfl) ?_
   have hx6 : Ext v5 (v5.alloc (.cells s.cells 65)) := Ext.alloc _ _
   obtain ⟨W9, hW9⟩ : ∃ W9, W9 = w7.setRow w.heap.size ({ M1 with ga := A6, gc := c6, sigs := l ++ [s] } : WmV).cells := ⟨_, rfl⟩
   rw [← hW9]
   have x9 : Trn (fun i => i = w.heap.size) w7 W9 := by rw [hW9]; exact Trn.set _ _ _ rfl
   have hgl' := hq.out.gl
   have ho9 : Own W9 B 65 33 A6 (l ++ [s]).length c6 (wgs (l ++ [s])) := by rw [List.length_append]; exact ho7.trn x9 (fun i e => by omega)
   have tg7 : Trn (fun i => i = g ∨ i = w.heap.size ∨ B ≤ i) wr w7 := (((TW.out.tr ht5).tr (Trn.ext hx6)).mono (fun i e _ => .inl e)).tr (Trn.grownO hg7 (fun k e => .inr (.inr (HoW.out.row_lt k e).1)))
   have tQ : Trn (fun i => i = g ∨ i = w.heap.size ∨ B ≤ i) wr W9 := tg7.tr (x9.mono (fun i e _ => .inr (.inl e)))
   have hok9 : ∀ u ∈ l ++ [s], u.Ok := by
    intro u hu
    rcases List.mem_append.1 hu with hu | hu
    ·
     exact hq.out.oks u hu
    ·
     rw [List.mem_singleton] at hu; rw [hu]; exact hsok
   have hrow9 : W9.heap[w.heap.size]? = some (.cells ({ M1 with ga := A6, gc := c6, sigs := l ++ [s] } : WmV).cells MT (0, 0)) := by rw [hW9]; exact setRow_heap _ _ _ _ _ _ hrow7
   have hR9 : Rr W9 (fun i => Tri S g w.heap.size i ∨ ownRow A6 c6 = some i) g d7 ok7 := by
    refine Rr.trn (T := fun i => i = w.heap.size) (Rr.grown (hR5.trn (T := fun _ => False) (Trn.ext hx6) (fun _ => False.elim) id) hg7 (fun k e => ⟨.inr e, ?_⟩) (fun i hi => ?_) (.inl (.inl rfl))) x9 (fun i e => .inl (.inr (.inl e))) (fun e => by omega)
    ·
     have := (HoW.out.row_lt k e).1; omega
    ·
     rcases hi with hi | hi
     ·
      exact .inl (.inl hi)
     ·
      have hl7 := (ho7.row_lt i hi).2
      rcases hr7 with e | e
      ·
       exact .inl (.inr (e ▸ hi))
      ·
       have := e.symm.trans hi
       injection this with this
       exact .inr ⟨by omega, hl7⟩
   obtain ⟨a9, c9, hA9⟩ := hR9
   have hm9 := Qg.meas_of hA9
   have hq9 : QLp S w g w.heap.size B W9 M1 (l ++ [s]) A6 c6 d7 ok7 := ⟨hgl', hq.out.bB, hq.out.sB, Nat.le_trans hBU tQ.size, ⟨a9, c9, hA9⟩, ho9, hok9, hrow9, fun w2 t => hq.out.inn w2 ((tQ.mono (fun i e _ => e.elim (fun e => .inl (.inl e)) (fun e => e.elim (fun e => .inl (.inr (.inl e))) .inr))).tr t), tQ.row hq.out.res (by have := hq.out.bB; omega), hq.out.trn.tr (tQ.mono (fun i e _ => e.elim .inl (fun e => .inr (by have := hq.out.bB; omega))))⟩
   have hless := Rg.one_less d2 hd0
   have hcutl := Rg.one_cut d2
   rw [Hone.out] at hless hcutl
   simp only at hless hcutl
   have hmr : Qg.meas g wr = d2.length + 1 := HM.out
   have hml : Qg.meas g W9 < Qg.meas g wr := by
    rw [hm9, hmr]
    rcases hless with e | e
    ·
     rw [if_neg (by intro k; rw [k] at e; cases e)]; omega
    ·
     split <;> omega
   obtain ⟨f', rfl⟩ : ∃ f', f = f' + 1 := ⟨f - 1, by rcases hf.out with e | e; cases e; omega⟩
   have hrun9 : RA = ((l ++ [s]) ++ (Rg.run f' d7 (!ok7)).1, (Rg.run f' d7 (!ok7)).2) := by
    rw [hrun.out]
    rw [show (!true) = false from rfl]
    unfold Rg.run
    rw [if_pos ⟨hd0, rfl⟩, Hone.out]
    simp only [List.append_assoc, List.cons_append, List.nil_append]
    cases f' <;> rfl
   have hf9 : ok7 = false ∨ d7.length + 1 ≤ f' := hless.imp (fun e => by simpa using e) (fun e => by rcases hf.out with k | k; cases k; omega)
   have hl9 : (l ++ [s]).length ≤ d1.length ∧ (ok7 = true → (l ++ [s]).length * 36 + d7.length ≤ d1.length) := by
    rw [List.length_append, List.length_singleton]
    refine ⟨by omega, fun e => ?_⟩
    have := hcutl (by rw [e]; rfl)
    omega
   have HR9 := Lib.hid hrun9
   have HF9 := Lib.hid hf9
   have HQ9 := Lib.hid hq9
   have HL9 := Lib.hid hl9
   have HML := Lib.hid hml
   clear hrun9 hf9 hq9 hl9 hml hm9 hmr hless hcutl hA9 hrow9 hok9 tQ tg7 ho9 x9 hW9 ho7 hg7 hr7 hrow7
   refine Lib.hid ?_
   go_wp2_with fail
   go_roundw
   case rel => exact ⟨f', l ++ [s], d7, ok7, A6, c6, HR9, HF9, HQ9, HL9.out.1, Lib.hid HL9.out.2⟩
   case measure => exact HML.out
  ·
   have hend : RA = (l, d2, !ok2) := by rw [hrun.out, Rg.run_end _ _ _ (by simpa using hgo)]; simp
   have HBL := Lib.hid (show (!ok2) = (Rg.all d1 (!b1)).2.2 by rw [← HRA.out, hend])
   have Hl := Lib.hid (show l = (Rg.all d1 (!b1)).1 by rw [← HRA.out, hend])
   have hdq := hq.out.done
   obtain ⟨M2, hM2⟩ : ∃ M2, M2 = ({ M1 with ga := A1, gc := c1, sigs := l } : WmV) := ⟨_, rfl⟩
   rw [← hM2] at hdq
   have HM2 := Lib.hid hM2
   have HDQ := Lib.hid hdq
   clear hend hdq hM2 hq hrun hf hA2
   by_cases hz : 0 < d2.length
   ·
    have hok2 : ok2 = false := by cases ok2 with | false => rfl | true => exact absurd ⟨hz, rfl⟩ hgo
    rw [hok2] at h1
    have hdi : (0 : Int) < (d2.length : Int) := by omega
    clear hgo hok2
    have hdn := HDQ.out
    have hfin := hdn.fin (r := M0.x.qread d0) (by rw [HQ.out] <;> first | (simp only [WmV.x, Wm.rdEnds, HM2.out, Hl.out, HM1.out, Hv1.out, Hd1.out, HB1.out, HB0.out, Bool.false_or]; done) | fail) (by rw [HQ.out, ← Bool.not_not ok2] <;> congr 1 <;> first | (simp only [HBL.out, Hd1.out, HB1.out, HB0.out, Bool.false_or]; done) | fail)
    have rowF := hdn.row
    have resF := hdn.res
    have hokF := (hdn.inn _ (Trn.refl _ _)).ok
    have infF := WmV.info hokF
    have szF : WmV.nul.cells.size = M2.cells.size := by rw [WmV.size78 hokF]; rfl
    have oneF := WmV.one M2
    have HFIN := Lib.hid hfin
    clear hfin hdn hokF
    generalize M2.cells = Y at rowF resF infF szF oneF HFIN
    have stF := setRow_heap wr (w.heap.size + 1) _ Y _ _ resF
    go_wp2_with (first | (refine wpList_load_rowG (by rfl) MT (.tmp 3) rfl w.heap.size rfl MT Y (0, 0) _ rowF Tryz.underlying31 rfl infF ?_) | (refine wpList_store_row rfl MT (.tmp 4) (.tmp 124) rfl (w.heap.size + 1) Y rfl rfl MT _ resF infF szF oneF ?_))
    (try simp only [Exit.inBlock, Exit.then])
    refine bodyPost_ret (results_cell_row rfl _ _ (w.heap.size + 1) MT Y (0, 0) _ rfl stF Tryz.underlying31 rfl infF) rfl ?_
    exact HFIN.out
   ·
    have hdi : ¬ (0 : Int) < (d2.length : Int) := by omega
    clear hgo
    have hdn := HDQ.out
    have hfin := hdn.fin (r := M0.x.qread d0) (by rw [HQ.out] <;> first | (simp only [WmV.x, Wm.rdEnds, HM2.out, Hl.out, HM1.out, Hv1.out, Hd1.out, HB1.out, HB0.out, Bool.false_or]; done) | fail) (by rw [HQ.out, ← Bool.not_not ok2] <;> congr 1 <;> first | (simp only [HBL.out, Hd1.out, HB1.out, HB0.out, Bool.false_or]; done) | fail)
    have rowF := hdn.row
    have resF := hdn.res
    have hokF := (hdn.inn _ (Trn.refl _ _)).ok
    have infF := WmV.info hokF
    have szF : WmV.nul.cells.size = M2.cells.size := by rw [WmV.size78 hokF]; rfl
    have oneF := WmV.one M2
    have HFIN := Lib.hid hfin
    clear hfin hdn hokF
    generalize M2.cells = Y at rowF resF infF szF oneF HFIN
    have stF := setRow_heap wr (w.heap.size + 1) _ Y _ _ resF
    go_wp2_with (first | (refine wpList_load_rowG (by rfl) MT (.tmp 3) rfl w.heap.size rfl MT Y (0, 0) _ rowF Tryz.underlying31 rfl infF ?_) | (refine wpList_store_row rfl MT (.tmp 4) (.tmp 124) rfl (w.heap.size + 1) Y rfl rfl MT _ resF infF szF oneF ?_))
    (try simp only [Exit.inBlock, Exit.then])
    refine bodyPost_ret (results_cell_row rfl _ _ (w.heap.size + 1) MT Y (0, 0) _ rfl stF Tryz.underlying31 rfl infF) rfl ?_
    exact HFIN.out
set_option maxRecDepth 100000 in
set_option maxHeartbeats 4000000 in
theorem rread_22 (S : Nat → Prop) (g : Nat) (d0 : List UInt8) (M0 : WmV) (w : World) (h : Rr w (fun i => i = g ∨ S i) g d0 true) (hM : ∀ W S bm, W.heap[bm]? = some (.cells M0.cells MT (0, 0)) → MsgR W S bm M0) (hk : M0.kind = 22) :
  Calls Tryz.prog 16 #[.pointer (some ⟨g, 0, none⟩), .agg M0.cells] w (RGot S g (M0.x.qread d0) w) := by
 obtain ⟨U0, hU0⟩ : ∃ U0, U0 = (w.alloc (.cells M0.cells MT)).alloc (.cells WmV.nul.cells MT (0, 0)) := ⟨_, rfl⟩
 have hgl : g < w.heap.size := by obtain ⟨A, c, h⟩ := h; exact h.lt _ (.inl rfl)
 have hx0 : Ext w U0 := by rw [hU0]; exact (Ext.alloc _ _).tr (Ext.alloc _ _)
 have r0 : U0.heap[w.heap.size]? = some (.cells M0.cells MT (0, 0)) := by rw [hU0]; exact heap_alloc2_old w _ _
 have r1 : U0.heap[w.heap.size + 1]? = some (.cells WmV.nul.cells MT (0, 0)) := by rw [hU0]; exact heap_alloc2_new w _ _
 have hs0 := lt_of_heap r1
 obtain ⟨b0, hb0⟩ : ∃ b0, b0 = true := ⟨_, rfl⟩
 have st0 : QSt S w g w.heap.size U0 M0 d0 b0 := ⟨hgl, by rw [hb0]; exact h.more hx0 (fun i hi => hi.elim (fun e => .inl (.inl e)) (fun e => e.elim (fun e => .inr (by omega)) (fun e => e.elim (fun e => .inr (by omega)) (fun e => .inl (.inr e))))) (.inl rfl), hM U0 _ _ r0, r1, Trn.ext hx0⟩
 have HB0 := Lib.hid (show (!b0) = false by rw [hb0]; rfl)
 have HQ := Lib.hid (show M0.x.qread d0 = _ from Wm.qread_22 M0.x d0 hk)
 have HKK := Lib.hid hk
 have hk0 := st0.kind
 rw [HKK.out] at hk0
 have ST0 := Lib.hid st0
 have HU0 := Lib.hid hU0
 obtain ⟨P, hP⟩ : ∃ P, P = M0.cells := ⟨_, rfl⟩
 rw [← hP] at HU0 ⊢
 clear hP hU0 hx0 r0 r1 hs0 st0 h hM hb0 hk
 go_enter Tryz.func16, Tryz.ntmps16
 obtain ⟨a', c', hA'⟩ := ST0.out.rr
 have hHC := rnum_any _ g a' c' _ _ U0 hA'
 clear hA'
 obtain ⟨v1, hv1⟩ : ∃ x, x = Qn.val d0 (!(b0 && Rn.ok d0)) := ⟨_, rfl⟩
 obtain ⟨d1, hd1⟩ : ∃ x, x = Qn.rest d0 := ⟨_, rfl⟩
 obtain ⟨b1, hb1⟩ : ∃ x, x = (b0 && Rn.ok d0) := ⟨_, rfl⟩
 rw [← hv1, ← hd1, ← hb1] at hHC
 have HB1 := Lib.hid (show (!b1) = ((!b0) || !Rn.ok d0) by rw [hb1, Bool.not_and])
 have hlo : 0 ≤ v1 := by rw [hv1]; exact Qn.val_ge _ _
 have hhi : v1 ≤ 2147483647 := by rw [hv1]; exact Qn.val_le _ _ (by cases b0 <;> simp)
 have Hd1 := Lib.hid hd1
 have Hv1 := Lib.hid (show v1 = Qn.val d0 (!b1) by rw [hv1, hb1])
 have HC := Lib.hid hHC
 clear hd1 hb1 hv1 hHC
 go_wp2_with (first | (refine wpList_run rfl _ _ (ex_allocMsg rfl) ?_; rw [← HU0.out]) | (go_at_call 35; refine HC.out.mono ?_; rintro e V1 ⟨rfl, hRv, hTv⟩; refine Hid.out ?_))
 have stV := ST0.out.call hRv hTv
 clear HC hRv hTv
 have st1 := stV.set ({ M0 with n := v1 } : WmV) { stV.msg.ok with nlo := Int.le_trans (by decide) hlo, nhi := Int.le_trans hhi (by decide) } stV.msg.lo stV.msg.hi stV.msg.sa stV.msg.ga stV.msg.en stV.msg.da
 obtain ⟨M1, hM1⟩ : ∃ M', M' = ({ M0 with n := v1 } : WmV) := ⟨_, rfl⟩
 have hput : put1 M0.cells 5 [.int .i64 v1] = M1.cells := by rw [hM1]; exact WmV.put5 M0 _
 rw [← hM1] at st1
 obtain ⟨U1, hU1⟩ : ∃ U, U = V1.setRow w.heap.size M1.cells := ⟨_, rfl⟩
 rw [← hU1] at st1
 have row := stV.msg.row
 have hfit := WmV.size78 stV.msg.ok
 have HKK := Lib.hid ((show M1.kind = M0.kind by rw [hM1]).trans HKK.out)
 clear hk0
 have hk0 := st1.kind
 rw [HKK.out] at hk0
 have HM1 := Lib.hid hM1
 have ST1 := Lib.hid st1
 clear hM1 st1 stV ST0
 generalize M0.cells = Y at row hfit hput
 generalize M1.cells = Z at hput hU1
 have HU1 := Lib.hid hU1
 clear hU1
 refine Lib.hid ?_
 go_wp2_with (first | (refine wpList_put1 (by rfl) 3 (.tmp 28) (.tmp 27) rfl ⟨w.heap.size, 5, none⟩ rfl w.heap.size 5 rfl _ rfl [.int .i64 v1] rfl Y _ row (show (Tryz.prog.info? 3).map (·.size) = some 1 by kernel_rfl) (by rw [hfit]; simp) (by simp [Value.oneCell']) Z hput ?_; rw [← HU1.out]; refine Hid.out ?_))
 clear row hfit hput HU1
 refine Lib.hid ?_
 obtain ⟨a', c', hA'⟩ := ST1.out.rr
 have r1 := hA'.row
 have hq0 := hA'.cell0
 have st2 := ST1.out.data a' c' d1 hA'.tx
 have stV := ST1.out
 obtain ⟨M2, hM2⟩ : ∃ M', M' = ({ M1 with da := a', dc := c', data := d1 } : WmV) := ⟨_, rfl⟩
 have hput : put1 M1.cells 77 [.slice a' d1.length c'] = M2.cells := by rw [hM2]; exact WmV.put77 stV.msg.ok _ _ _
 rw [← hM2] at st2
 obtain ⟨Ux, hUx⟩ : ∃ U, U = U1.setRow w.heap.size M2.cells := ⟨_, rfl⟩
 rw [← hUx] at st2
 have r1x : Ux.heap[g]? = some (.cells #[.slice a' d1.length c', .bool b1] QT (0, 0)) := by rw [hUx]; exact set_keeps r1 (by omega)
 have stx := st2.setg #[.slice none 0 0, .bool b1] r1x _ rfl
 obtain ⟨U2, hU2⟩ : ∃ U, U = Ux.setRow g #[.slice none 0 0, .bool b1] := ⟨_, rfl⟩
 rw [← hU2] at stx
 have row := stV.msg.row
 have hfit := WmV.size78 stV.msg.ok
 have HM2 := Lib.hid hM2
 have ST2 := Lib.hid stx
 clear hM2 stx st2 stV ST1 hA' r1
 generalize M1.cells = Y at row hfit hput
 generalize M2.cells = Z at hput hUx
 have HU2 := Lib.hid hU2
 have HUx := Lib.hid hUx
 have i1 : (Tryz.prog.info? 22).map (·.size) = some 1 := by kernel_rfl
 clear hU2 hUx
 go_wp2_with (first | (refine wpList_put1 (by rfl) 22 (.tmp 120) (.tmp 119) rfl ⟨w.heap.size, 77, none⟩ rfl w.heap.size 77 rfl (.slice a' d1.length c') rfl [.slice a' d1.length c'] rfl Y _ row i1 (by rw [hfit]; simp) (by simp [Value.oneCell']) Z hput ?_; rw [← HUx.out]) | (refine wpList_put1 (by rfl) 22 (.tmp 123) _ rfl ⟨g, 0, none⟩ rfl g 0 rfl (.slice none 0 0) rfl [.slice none 0 0] rfl _ QT r1x i1 (by simp) (by simp [Value.oneCell']) #[.slice none 0 0, .bool b1] rfl ?_; rw [← HU2.out]; refine Hid.out ?_))
 clear row hfit hput HU2 HUx r1x
 refine Lib.hid ?_
 have HB2 := Lib.hid (show (!b1) = (!b1) from rfl)
 have hdn := ST2.out
 have hfin := hdn.fin (r := M0.x.qread d0) (by rw [HQ.out] <;> first | (simp only [WmV.x, Wm.rdEnds, HM2.out, HM1.out, Hv1.out, Hd1.out, HB1.out, HB0.out, Bool.false_or]; done) | fail) (by rw [HQ.out, ← Bool.not_not b1] <;> congr 1 <;> first | (simp only [Wm.rdEnds, Hv1.out, Hd1.out, HB1.out, HB0.out, Bool.false_or]; done) | fail)
 have rowF := hdn.row
 have resF := hdn.res
 have hokF := (hdn.inn _ (Trn.refl _ _)).ok
 have infF := WmV.info hokF
 have szF : WmV.nul.cells.size = M2.cells.size := by rw [WmV.size78 hokF]; rfl
 have oneF := WmV.one M2
 have HFIN := Lib.hid hfin
 clear hfin hdn hokF
 generalize M2.cells = Y at rowF resF infF szF oneF HFIN
 have stF := setRow_heap U2 (w.heap.size + 1) _ Y _ _ resF
 go_wp2_with (first | (refine wpList_load_rowG (by rfl) MT (.tmp 3) rfl w.heap.size rfl MT Y (0, 0) _ rowF Tryz.underlying31 rfl infF ?_) | (refine wpList_store_row rfl MT (.tmp 4) (.tmp 124) rfl (w.heap.size + 1) Y rfl rfl MT _ resF infF szF oneF ?_))
 (try simp only [Exit.inBlock, Exit.then])
 refine bodyPost_ret (results_cell_row rfl _ _ (w.heap.size + 1) MT Y (0, 0) _ rfl stF Tryz.underlying31 rfl infF) rfl ?_
 exact HFIN.out
set_option maxRecDepth 100000 in
set_option maxHeartbeats 4000000 in
theorem rread_none (S : Nat → Prop) (g : Nat) (d0 : List UInt8) (M0 : WmV) (w : World) (h : Rr w (fun i => i = g ∨ S i) g d0 true) (hM : ∀ W S bm, W.heap[bm]? = some (.cells M0.cells MT (0, 0)) → MsgR W S bm M0) (hk : ¬ M0.kind = 3 ∧ ¬ M0.kind = 4 ∧ ¬ M0.kind = 5 ∧ ¬ M0.kind = 6 ∧ ¬ M0.kind = 17 ∧ ¬ M0.kind = 18 ∧ ¬ M0.kind = 19 ∧ ¬ M0.kind = 20 ∧ ¬ M0.kind = 21 ∧ ¬ M0.kind = 22) :
  Calls Tryz.prog 16 #[.pointer (some ⟨g, 0, none⟩), .agg M0.cells] w (RGot S g (M0.x.qread d0) w) := by
 obtain ⟨U0, hU0⟩ : ∃ U0, U0 = (w.alloc (.cells M0.cells MT)).alloc (.cells WmV.nul.cells MT (0, 0)) := ⟨_, rfl⟩
 have hgl : g < w.heap.size := by obtain ⟨A, c, h⟩ := h; exact h.lt _ (.inl rfl)
 have hx0 : Ext w U0 := by rw [hU0]; exact (Ext.alloc _ _).tr (Ext.alloc _ _)
 have r0 : U0.heap[w.heap.size]? = some (.cells M0.cells MT (0, 0)) := by rw [hU0]; exact heap_alloc2_old w _ _
 have r1 : U0.heap[w.heap.size + 1]? = some (.cells WmV.nul.cells MT (0, 0)) := by rw [hU0]; exact heap_alloc2_new w _ _
 have hs0 := lt_of_heap r1
 obtain ⟨b0, hb0⟩ : ∃ b0, b0 = true := ⟨_, rfl⟩
 have st0 : QSt S w g w.heap.size U0 M0 d0 b0 := ⟨hgl, by rw [hb0]; exact h.more hx0 (fun i hi => hi.elim (fun e => .inl (.inl e)) (fun e => e.elim (fun e => .inr (by omega)) (fun e => e.elim (fun e => .inr (by omega)) (fun e => .inl (.inr e))))) (.inl rfl), hM U0 _ _ r0, r1, Trn.ext hx0⟩
 have HB0 := Lib.hid (show (!b0) = false by rw [hb0]; rfl)
 have HQ := Lib.hid (show M0.x.qread d0 = _ from Wm.qread_none M0.x d0 hk)
 have HKK := Lib.hid (show M0.kind = M0.kind from rfl)
 have hk0 := st0.kind
 rw [HKK.out] at hk0
 have ST0 := Lib.hid st0
 have HU0 := Lib.hid hU0
 obtain ⟨P, hP⟩ : ∃ P, P = M0.cells := ⟨_, rfl⟩
 rw [← hP] at HU0 ⊢
 clear hP hU0 hx0 r0 r1 hs0 st0 h hM hb0
 obtain ⟨kd, hkd⟩ : ∃ kd, kd = M0.kind := ⟨_, rfl⟩
 rw [← hkd] at hk hk0
 obtain ⟨k3, k4, k5, k6, k17, k18, k19, k20, k21, k22⟩ := hk
 clear hkd
 go_enter Tryz.func16, Tryz.ntmps16
 have hdn := ST0.out.done
 have hfin := hdn.fin (r := M0.x.qread d0) (by rw [HQ.out] <;> first | (simp only [WmV.x, Wm.rdEnds, HB0.out, Bool.false_or]; done) | fail) (by rw [HQ.out, ← Bool.not_not b0] <;> congr 1 <;> first | (simp only [Wm.rdEnds, HB0.out, Bool.false_or]; done) | fail)
 have rowF := hdn.row
 have resF := hdn.res
 have hokF := (hdn.inn _ (Trn.refl _ _)).ok
 have infF := WmV.info hokF
 have szF : WmV.nul.cells.size = M0.cells.size := by rw [WmV.size78 hokF]; rfl
 have oneF := WmV.one M0
 have HFIN := Lib.hid hfin
 clear hfin hdn hokF
 generalize M0.cells = Y at rowF resF infF szF oneF HFIN
 have stF := setRow_heap U0 (w.heap.size + 1) _ Y _ _ resF
 go_wp2_with (first | (refine wpList_run rfl _ _ (ex_allocMsg rfl) ?_; rw [← HU0.out]) | (refine wpList_load_rowG (by rfl) MT (.tmp 3) rfl w.heap.size rfl MT Y (0, 0) _ rowF Tryz.underlying31 rfl infF ?_) | (refine wpList_store_row rfl MT (.tmp 4) (.tmp 124) rfl (w.heap.size + 1) Y rfl rfl MT _ resF infF szF oneF ?_))
 (try simp only [Exit.inBlock, Exit.then])
 refine bodyPost_ret (results_cell_row rfl _ _ (w.heap.size + 1) MT Y (0, 0) _ rfl stF Tryz.underlying31 rfl infF) rfl ?_
 exact HFIN.out
theorem rread_any (S : Nat → Prop) (g : Nat) (d : List UInt8) (M : WmV) (w : World) (h : Rr w (fun i => i = g ∨ S i) g d true) (hM : ∀ W S bm, W.heap[bm]? = some (.cells M.cells MT (0, 0)) → MsgR W S bm M) :
  Calls Tryz.prog 16 #[.pointer (some ⟨g, 0, none⟩), .agg M.cells] w (RGot S g (M.x.qread d) w) := by
 by_cases k3 : M.kind = 3 ∨ M.kind = 4
 ·
  exact rread_3 S g d M w h hM k3
 by_cases k5 : M.kind = 5 ∨ M.kind = 6
 ·
  exact rread_5 S g d M w h hM k5
 by_cases k17 : M.kind = 17
 ·
  exact rread_17 S g d M w h hM k17
 by_cases k18 : M.kind = 18
 ·
  exact rread_18 S g d M w h hM k18
 by_cases k19 : M.kind = 19
 ·
  exact rread_19 S g d M w h hM k19
 by_cases k20 : M.kind = 20
 ·
  exact rread_20 S g d M w h hM k20
 by_cases k21 : M.kind = 21
 ·
  exact rread_21 S g d M w h hM k21
 by_cases k22 : M.kind = 22
 ·
  exact rread_22 S g d M w h hM k22
 exact rread_none S g d M w h hM ⟨fun e => k3 (.inl e), fun e => k3 (.inr e), fun e => k5 (.inl e), fun e => k5 (.inr e), k17, k18, k19, k20, k21, k22⟩
end Go.Proofs.YtjholekgdnhpkaaGreat
