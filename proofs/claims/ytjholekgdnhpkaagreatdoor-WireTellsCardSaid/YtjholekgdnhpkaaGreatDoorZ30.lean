/- Texts of the proof, laid together: ShaWord Part Equal ArrEq Parts WrMem Reg5 Reg8 Reg9 Pre. -/
import Derived.Test.YtjholekgdnhpkaaGreatDoorZ1
import Derived.Laws.BitsAllLaws
import Derived.Deep.Draws
import Derived.Deep.RegionHeld
import Derived.Laws.CopyRow
import Derived.Laws.Externs
import Derived.Laws.ResultCell
import Derived.Laws.Rows
import Derived.Lib.Bytealg
import Derived.Lib.Hide
import Derived.LoopIn
import Derived.LoopNIn
import Derived.OrdersHeld
import Derived.OwnWalkIn
import Derived.RangeFuncBound
import Derived.RangeFuncCalls
import Derived.RangeFuncLeaves
import Derived.RangeFuncNested
import Derived.TacticsInMore
import Derived.WalkKit
import Derived.WalkLawsBesides
import Derived.WalkSpells
import Derived.MapKept
import Derived.Laws.StructEq
import Derived.Great.BuildSlice
import Derived.OrdersIn
set_option linter.unusedVariables false
set_option linter.unusedSimpArgs false
set_option linter.unusedSectionVars false
namespace Go.Proofs.YtjholekgdnhpkaaGreatDoor
open Go.RowKit
def W (x : UInt32) : Int := (x.toNat : Int)
namespace Sha
end Sha
end Go.Proofs.YtjholekgdnhpkaaGreatDoor
namespace Go.Proofs.YtjholekgdnhpkaaGreatDoor
open Go.RowKit
end Go.Proofs.YtjholekgdnhpkaaGreatDoor
namespace Go.Proofs.YtjholekgdnhpkaaGreatDoor
open Go.RowKit
attribute [local go_sem] Oper.semAt_some
structure Pt where
 lo : List UInt8
 hi : List UInt8
 count : Int
 sum : List UInt8
structure PtV where
 la : Option Addr
 lc : Nat
 ha : Option Addr
 hc : Nat
 x : Pt
def PtV.cells (e : PtV) : Array Value := #[.slice e.la e.x.lo.length e.lc, .slice e.ha e.x.hi.length e.hc, .int .i64 e.x.count] ++ (bvs e.x.sum).toArray
def PtV.val (e : PtV) : Value := .agg e.cells
structure PtV.In (w : World) (e : PtV) : Prop where
 lr : RdB w e.la e.x.lo
 hr : RdB w e.ha e.x.hi
 lcap : e.x.lo.length ≤ e.lc
 hcap : e.x.hi.length ≤ e.hc
 sum : e.x.sum.length = 32
 clo : -9223372036854775808 ≤ e.x.count
 chi : e.x.count ≤ 9223372036854775807
theorem PtV.In.below {w w' : World} {e : PtV} (h : e.In w) (hb : Below w.heap.size w w') : e.In w' := ⟨h.lr.below hb, h.hr.below hb, h.lcap, h.hcap, h.sum, h.clo, h.chi⟩
theorem psize {e : PtV} (h : e.x.sum.length = 32) : e.cells.size = 35 := by simp [PtV.cells, bvs, h]
theorem pinfo {e : PtV} (h : e.x.sum.length = 32) : (Tryz.prog.info? 36).map (·.size) = some e.cells.size := by rw [psize h]; kernel_rfl
theorem fold_set (o : Nat) (l : List Value) : ∀ (k : Nat) (base : Array Value), (List.foldl (fun (cs : Array Value) (x : Value × Nat) => cs.setIfInBounds (o + x.2) x.1) base (l.zipIdx k)).size = base.size ∧
  ∀ i, i < base.size → (List.foldl (fun (cs : Array Value) (x : Value × Nat) => cs.setIfInBounds (o + x.2) x.1) base (l.zipIdx k))[i]? = if o + k ≤ i ∧ i < o + k + l.length then l[i - (o + k)]? else base[i]? := by
 induction l with
 | nil => intro k base; exact ⟨rfl, fun i _ => by rw [if_neg (by simp only [List.length_nil]; omega)]; rfl⟩
 | cons v l ih =>
  intro k base
  obtain ⟨h1, h2⟩ := ih (k + 1) (base.setIfInBounds (o + k) v)
  refine ⟨by rw [List.zipIdx_cons, List.foldl_cons, h1, Array.size_setIfInBounds], fun i hi => ?_⟩
  rw [List.zipIdx_cons, List.foldl_cons, h2 i (by rw [Array.size_setIfInBounds]; exact hi)]
  by_cases hk : i = o + k
  ·
   subst hk
   rw [if_neg (by omega), if_pos ⟨by omega, by simp only [List.length_cons]; omega⟩, Nat.sub_self, Array.getElem?_setIfInBounds_self_of_lt hi]
   rfl
  ·
   by_cases hin : o + (k + 1) ≤ i ∧ i < o + (k + 1) + l.length
   ·
    rw [if_pos hin, if_pos ⟨by omega, by simp only [List.length_cons]; omega⟩, show i - (o + k) = (i - (o + (k + 1))) + 1 by omega]
    rfl
   ·
    rw [if_neg hin, if_neg (by simp only [List.length_cons]; omega), Array.getElem?_setIfInBounds_ne (by omega)]
theorem wpList_build {P : Program} {w : World} {ops : Array Oper} {rest : List Oper} {o : Oper} {a : Act} {Q : Exit → Act → World → Prop} (hgd : Region.wanted o (yielded ops a.tmps) = true) (ty : TypeId) (ps : Array (Nat × Operand)) (ho : o.op = .build ty ps) (v : Value)
  (hr : (execOp a.eval o).run P w = .ok (.value v) w) (h : wpList P ops Q rest (a.put o.dst v) w) : wpList P ops Q (o :: rest) a w :=
 wpList_want hgd fun K hK => by
  unfold Oper.wp
  rw [hr, Oper.upon_value]
  exact hK _ _ h
end Go.Proofs.YtjholekgdnhpkaaGreatDoor
namespace Go.Proofs.YtjholekgdnhpkaaGreatDoor
open Go.RowKit
theorem bytes_eq (l m : List UInt8) : ((⟨l.toArray⟩ : ByteArray) == ⟨m.toArray⟩) = (l == m) := by
 rw [Bool.eq_iff_iff, Go.MapKept.bytes_beq, beq_iff_eq]
 constructor
 ·
  intro e
  injection e with e
  simpa using congrArg Array.toList e
 ·
  rintro rfl; rfl
set_option maxRecDepth 100000 in
set_option maxHeartbeats 1000000 in
theorem equal_any (A B : Option Addr) (p q : List UInt8) (c d : Nat) (w : World) (hA : RdB w A p) (hB : RdB w B q) :
  Calls Tryz.prog 27 #[.slice A p.length c, .slice B q.length d] w fun e w' => e = .returned (.bool (p == q)) ∧ w = w' := by
 have r1 := run_str w 23 9 5 A p c Tryz.underlying23 Tryz.underlying5 Tryz.underlying9 hA p.length rfl
 have r2 := run_str w 23 9 5 B q d Tryz.underlying23 Tryz.underlying5 Tryz.underlying9 hB q.length rfl
 have Heq := Lib.hid (bytes_eq p q)
 go_enter Tryz.func27, Tryz.ntmps27
 go_wp2
 go_ret
 exact ⟨by rw [← Heq.out]; rfl, rfl⟩
end Go.Proofs.YtjholekgdnhpkaaGreatDoor
namespace Go.Proofs.YtjholekgdnhpkaaGreatDoor
open Go.RowKit
theorem bvs_getA (l : List UInt8) (k : Nat) (h : k < l.length) : (bvs l).toArray[k]? = some (.int .u8 ((l.getD k 0).toNat : Int)) := by
 rw [List.getElem?_toArray, bvs_get l k h]
 simp [bv, List.getElem?_eq_getElem h]
section
variable (x y : List UInt8) (w : World)
theorem run_part (x : List UInt8) (i : Nat) (h : i < x.length) (w : World) : (part 5 (bvs x).toArray (i * 1)).run Tryz.prog w = .ok (.int .u8 ((x.getD i 0).toNat : Int)) w := by
 have hc := bvs_getA x i h
 rw [Nat.mul_one]
 unfold part
 go_simp
theorem run_eqb (d : Nat) (a b : UInt8) (w : World) : (Op.equalIn (d + 1) 5 (.int .u8 (a.toNat : Int)) (.int .u8 (b.toNat : Int))).run Tryz.prog w = .ok (a == b) w := by
 rw [run_equalIn_int w d 5 .u8 .u8 _ _ Tryz.underlying5]
 congr 1
 rw [Bool.eq_iff_iff, beq_iff_eq, beq_iff_eq, Int.natCast_inj, UInt8.toNat_inj]
theorem run_eqArr (d : Nat) (t : TypeId) (ht : Tryz.prog.underlying t = some (.array 32 5)) (hx : x.length = 32) (hy : y.length = 32) :
  (Op.equalIn (d + 2) t (.agg (bvs x).toArray) (.agg (bvs y).toArray)).run Tryz.prog w = .ok (x == y) w := by
 have hsz : ∀ w', (sizeOf 5).run Tryz.prog w' = .ok 1 w' := fun w' => by go_simp
 have hall : (x == y) = (List.range' 0 32).all fun i => x.getD i 0 == y.getD i 0 := by
  rw [Bool.eq_iff_iff, beq_iff_eq, List.all_eq_true]
  constructor
  ·
   rintro rfl i _
   simp
  ·
   intro h
   apply List.ext_getElem (by omega)
   intro i h1 h2
   have h3 := h i (by simp [List.mem_range']; omega)
   simpa [List.getElem?_eq_getElem h1, List.getElem?_eq_getElem h2] using h3
 rw [hall]
 unfold Op.equalIn
 simp only [Sem.run_bind, run_underlying ht, Result.andThen_ok, hsz]
 simp only [Std.Legacy.Range.forIn_eq_forIn_range', Std.Legacy.Range.size, Nat.sub_zero, Nat.add_sub_cancel, Nat.div_one]
 have hm : ∀ i ∈ List.range' 0 32, i < 32 := by intro i hi; simp [List.mem_range'] at hi; omega
 generalize List.range' 0 32 = L at hm
 clear hall
 induction L with
 | nil => simp
 | cons i L ih =>
  have hi := hm i (List.mem_cons_self ..)
  have h1 := run_part x i (by omega) w
  have h2 := run_part y i (by omega) w
  have h3 := run_eqb d (x.getD i 0) (y.getD i 0) w
  have h4 := ih (fun j hj => hm j (List.mem_cons_of_mem _ hj))
  simp only [List.forIn_cons, Sem.run_bind, h1, h2, h3, Result.andThen_ok, List.all_cons]
  cases hb : (x.getD i 0 == y.getD i 0) with
  | false => simp
  | true =>
   simp only [Bool.not_true, Bool.false_eq_true, if_false, Sem.run_pure, Result.andThen_ok, Bool.true_and]
   exact h4
theorem run_eqSum (hx : x.length = 32) (hy : y.length = 32) : (binOp .eql 26 (.agg (bvs x).toArray) (.agg (bvs y).toArray)).run Tryz.prog w = .ok (.bool (x == y)) w := by
 rw [run_eql_struct, show (10000 : Nat) = 9998 + 2 from rfl, run_eqArr x y w 9998 _ Tryz.underlying26 hx hy]
 rfl
end
end Go.Proofs.YtjholekgdnhpkaaGreatDoor
namespace Go.Proofs.YtjholekgdnhpkaaGreatDoor
open Go.RowKit
theorem flat_len {α : Type} (f : α → List Value) (s : Nat) (l : List α) (hs : ∀ x ∈ l, (f x).length = s) : (l.flatMap f).length = l.length * s := by
 induction l with
 | nil => simp
 | cons x l ih =>
  rw [List.flatMap_cons, List.length_append, hs x (by simp), ih fun y hy => hs y (by simp [hy]), List.length_cons, Nat.succ_mul]
  omega
theorem flat_at {α : Type} (f : α → List Value) (s : Nat) (l : List α) (hs : ∀ x ∈ l, (f x).length = s) (k : Nat) (h : k < l.length) (j : Nat) (hj : j < s) : (l.flatMap f)[k * s + j]? = (f l[k])[j]? := by
 induction l generalizing k with
 | nil => simp at h
 | cons x l ih =>
  have hx := hs x (by simp)
  rw [List.flatMap_cons]
  cases k with
  | zero => rw [Nat.zero_mul, Nat.zero_add, List.getElem?_append_left (by omega)]; rfl
  | succ k =>
   rw [List.getElem?_append_right (by rw [hx, Nat.succ_mul]; omega), hx, show (k + 1) * s + j - s = k * s + j by rw [Nat.succ_mul]; omega]
   exact ih (fun y hy => hs y (by simp [hy])) k (by simpa using h)
theorem flat_take {α : Type} (f : α → List Value) (s : Nat) (l : List α) (hs : ∀ x ∈ l, (f x).length = s) (k : Nat) : (l.flatMap f).take (k * s) = (l.take k).flatMap f := by
 induction l generalizing k with
 | nil => simp
 | cons x l ih =>
  have hx := hs x (by simp)
  cases k with
  | zero => simp
  | succ k =>
   rw [List.flatMap_cons, List.take_succ_cons, List.flatMap_cons, List.take_append, hx, List.take_of_length_le (by rw [hx, Nat.succ_mul]; omega), show (k + 1) * s - s = k * s by rw [Nat.succ_mul]; omega, ih fun y hy => hs y (by simp [hy])]
theorem flat_drop {α : Type} (f : α → List Value) (s : Nat) (l : List α) (hs : ∀ x ∈ l, (f x).length = s) (k : Nat) : (l.flatMap f).drop (k * s) = (l.drop k).flatMap f := by
 induction l generalizing k with
 | nil => simp
 | cons x l ih =>
  have hx := hs x (by simp)
  cases k with
  | zero => simp
  | succ k =>
   rw [List.flatMap_cons, List.drop_succ_cons, List.drop_append, hx, List.drop_of_length_le (by rw [hx, Nat.succ_mul]; omega), List.nil_append, show (k + 1) * s - s = k * s by rw [Nat.succ_mul]; omega, ih fun y hy => hs y (by simp [hy])]
theorem flat_set {α : Type} (f : α → List Value) (s : Nat) (l : List α) (hs : ∀ x ∈ l, (f x).length = s) (k : Nat) (hk : k < l.length) (y : α) :
  (l.set k y).flatMap f = (l.flatMap f).take (k * s) ++ f y ++ (l.flatMap f).drop (k * s + s) := by
 rw [show k * s + s = (k + 1) * s by rw [Nat.succ_mul], flat_take f s l hs, flat_drop f s l hs, List.set_eq_take_append_cons_drop, if_pos hk, List.flatMap_append, List.flatMap_cons, List.append_assoc]
def ptz : PtV := ⟨none, 0, none, 0, ⟨[], [], 0, List.replicate 32 0⟩⟩
section
variable {P : Program} {w : World} {ops : Array Oper} {rest : List Oper} {o : Oper} {a : Act} {Q : Exit → Act → World → Prop}
theorem wpList_mkS (hgd : Region.wanted o (yielded ops a.tmps) = true) (l c : Operand) (t : TypeId) (ho : o.op = .makeSlice t l c) {e : TypeId} {size bytes : Nat} (T : ElemT P t e size bytes) (z : Value) (hz : (P.info? e).bind (·.zero) = some z)
  (n : Nat) (kl kc : IntKind) (hl : a.eval l = .int kl (n : Int)) (hc : a.eval c = .int kc (n : Int)) (hn : bytes * n ≤ 140737488355328) (h63 : n ≤ 140737488355328) (C : Array Value) (hC : madeCells z.cells (n * size) = C)
  (h : wpList P ops Q rest (a.put o.dst (.slice (some ⟨w.heap.size, 0, none⟩) n n)) (w.alloc (.cells C e))) : wpList P ops Q (o :: rest) a w := by
 refine wpList_want hgd fun K hK => ?_
 obtain ⟨i, z', g1, g2, g3, g4, g5⟩ := T.hi
 obtain rfl : z' = z := by rw [g1] at hz; simpa [g2] using hz
 have hb : (i.bytes : Int) * (n : Int) ≤ 281474976710656 := by
  rw [g4]
  have : ((bytes * n : Nat) : Int) ≤ 140737488355328 := by omega
  rw [Int.natCast_mul] at this
  omega
 have hr := run_make (P := P) w t e i z' T.ht g1 g2 kl kc n n (by omega) (by omega) hb (by omega)
 rw [g3, Int.toNat_natCast, hC] at hr
 unfold Oper.wp
 simp [execOp, ho, hl, hc, hr, Result.andThen]
 exact hK _ _ h
end
theorem fold_full (cs base : Array Value) (s : Nat) (h : base.size = cs.size) : cs.zipIdx.foldl (fun (a : Array Value) (x : Value × Nat) => a.setIfInBounds (0 * s + x.2) x.1) base = cs := by
 rw [← Array.foldl_toList, Array.toList_zipIdx]
 obtain ⟨k1, k2⟩ := fold_set (0 * s) cs.toList 0 base
 apply Array.ext_getElem?
 intro i
 by_cases hi : i < base.size
 ·
  rw [k2 i hi, if_pos (by simp; omega)]
  simp
 ·
  rw [Array.getElem?_eq_none (by rw [k1]; omega), Array.getElem?_eq_none (by omega)]
theorem fill_one (s : Nat) (base cs : Array Value) (h1 : cs.size = s) (h2 : base.size = s) : Instr.fill (fun i => some (i * s, s)) base [(0, Value.agg cs)] = some cs := by
 have hc : (Value.agg cs).cells = cs := rfl
 have hb : (decide ((Value.agg cs).cells.size ≠ s) || decide (0 * s + (Value.agg cs).cells.size > base.size)) = false := by rw [hc]; simp [h1, h2]
 unfold Instr.fill
 simp only
 rw [hb]
 simp only [Bool.false_eq_true, if_false, hc]
 unfold Instr.fill
 congr 1
 exact fold_full cs base s (by omega)
end Go.Proofs.YtjholekgdnhpkaaGreatDoor
namespace Go.Proofs.YtjholekgdnhpkaaGreatDoor
open Go.RowKit
attribute [local go_sem] Oper.semAt_some
structure Ws where
 p : Pt
 lsn : Nat
structure Wg where
 weak : Nat
 strong : List UInt8
structure Wm where
 kind : Int
 session : Nat
 seq : Nat
 lo : List UInt8
 hi : List UInt8
 n : Int
 lsn : Nat
 count : Int
 sum : List UInt8
 size : Int
 file : List UInt8
 subs : List Ws
 more : Bool
 ents : List Ent
 sigs : List Wg
 data : List UInt8
deriving instance DecidableEq for Ent
deriving instance DecidableEq for Pt
deriving instance DecidableEq for Ws
deriving instance DecidableEq for Wg
deriving instance DecidableEq for Wm
def put1 (cur : Array Value) (off : Nat) (cs : List Value) : Array Value := (cur.toList.take off ++ cs ++ cur.toList.drop (off + cs.length)).toArray
theorem put1_at (A cs0 cs B : List Value) (h : cs0.length = cs.length) : put1 (A ++ (cs0 ++ B)).toArray A.length cs = (A ++ (cs ++ B)).toArray := by
 unfold put1
 congr 1
 show (A ++ (cs0 ++ B)).take A.length ++ cs ++ (A ++ (cs0 ++ B)).drop (A.length + cs.length) = _
 rw [List.take_left, List.drop_append, List.drop_of_length_le (by omega), show A.length + cs.length - A.length = cs0.length by omega, List.drop_left, List.nil_append, List.append_assoc]
theorem put1_size {cur : Array Value} {off : Nat} {cs : List Value} (h : off + cs.length ≤ cur.size) : (put1 cur off cs).size = cur.size := by
 unfold put1
 simp only [List.size_toArray, List.length_append, List.length_take, List.length_drop, Array.length_toList]
 omega
theorem put1_get {cur : Array Value} {off : Nat} {cs : List Value} (h : off + cs.length ≤ cur.size) (j : Nat) : (put1 cur off cs)[j]? = if off ≤ j ∧ j < off + cs.length then cs[j - off]? else cur[j]? := by
 unfold put1
 have h1 : (cur.toList.take off).length = off := by rw [List.length_take, Array.length_toList]; omega
 rw [List.getElem?_toArray, List.append_assoc, List.getElem?_append, h1]
 by_cases hj : j < off
 ·
  rw [if_pos hj, if_neg (by omega), List.getElem?_take, if_pos hj, Array.getElem?_toList]
 ·
  rw [if_neg hj, List.getElem?_append]
  by_cases h2 : j - off < cs.length
  ·
   rw [if_pos h2, if_pos (by omega)]
  ·
   rw [if_neg h2, if_neg (by omega), List.getElem?_drop, show off + cs.length + (j - off - cs.length) = j by omega, Array.getElem?_toList]
theorem put1_all {cur : Array Value} {off : Nat} {cs : List Value} (h1 : cur.all (·.oneCell') = true) (h2 : ∀ u ∈ cs, u.oneCell' = true) : (put1 cur off cs).all (·.oneCell') = true := by
 rw [Array.all_eq_true_iff_forall_mem] at h1 ⊢
 intro x hx
 simp only [put1, List.mem_toArray, List.mem_append] at hx
 rcases hx with (hx | hx) | hx
 ·
  exact h1 x (by simpa using List.mem_of_mem_take hx)
 ·
  exact h2 x hx
 ·
  exact h1 x (by simpa using List.mem_of_mem_drop hx)
theorem flat_put {α : Type} (f : α → List Value) (s : Nat) (l : List α) (hs : ∀ x ∈ l, (f x).length = s) (k : Nat) (hk : k < l.length) (y : α) (j : Nat) (cs : List Value) (hj : j + cs.length ≤ s)
  (hy : (put1 (f l[k]).toArray j cs).toList = f y) : put1 (l.flatMap f).toArray (k * s + j) cs = ((l.set k y).flatMap f).toArray := by
 have hk1 := hs _ (List.getElem_mem hk)
 rw [flat_set f s l hs k hk y, ← hy]
 unfold put1
 congr 1
 show (l.flatMap f).take (k * s + j) ++ cs ++ (l.flatMap f).drop (k * s + j + cs.length) = (l.flatMap f).take (k * s) ++ ((f l[k]).take j ++ cs ++ (f l[k]).drop (j + cs.length)) ++ (l.flatMap f).drop (k * s + s)
 have e1 : (l.flatMap f).drop (k * s) = f l[k] ++ (l.flatMap f).drop (k * s + s) := by
  rw [flat_drop f s l hs, show k * s + s = (k + 1) * s by rw [Nat.succ_mul], flat_drop f s l hs, List.drop_eq_getElem_cons hk, List.flatMap_cons]
 have e2 : (l.flatMap f).take (k * s + j) = (l.flatMap f).take (k * s) ++ (f l[k]).take j := by
  rw [List.take_add, e1, List.take_append, show j - (f l[k]).length = 0 by omega, List.take_zero, List.append_nil]
 have e3 : (l.flatMap f).drop (k * s + j + cs.length) = (f l[k]).drop (j + cs.length) ++ (l.flatMap f).drop (k * s + s) := by
  rw [show k * s + j + cs.length = k * s + (j + cs.length) by omega, ← List.drop_drop, e1, List.drop_append, show j + cs.length - (f l[k]).length = 0 by omega, List.drop_zero]
 rw [e2, e3]
 simp only [List.append_assoc]
structure WsV where
 p : PtV
 lsn : Nat
namespace WsV
def x (s : WsV) : Ws := ⟨s.p.x, s.lsn⟩
def cl (s : WsV) : List Value := [.slice s.p.la s.p.x.lo.length s.p.lc, .slice s.p.ha s.p.x.hi.length s.p.hc, .int .i64 s.p.x.count] ++ (bvs s.p.x.sum ++ [.int .u64 (s.lsn : Int)])
def cells (s : WsV) : Array Value := s.cl.toArray
structure In (w : World) (s : WsV) : Prop where
 p : s.p.In w
 lsn : s.lsn < 18446744073709551616
theorem In.ext {w w' : World} {s : WsV} (h : s.In w) (hb : Ext w w') : s.In w' := ⟨h.p.below hb, h.lsn⟩
theorem cl_len {s : WsV} (h : s.p.x.sum.length = 32) : s.cl.length = 36 := by simp [cl, bvs_len, h]
theorem size {s : WsV} (h : s.p.x.sum.length = 32) : s.cells.size = 36 := by simp [cells, cl_len h]
theorem one (s : WsV) : s.cells.all (·.oneCell') = true := by
 rw [Array.all_eq_true_iff_forall_mem]
 intro x hx
 simp only [cells, cl, List.mem_toArray, List.mem_append, List.mem_cons, List.not_mem_nil, or_false] at hx
 rcases hx with (rfl | rfl | rfl) | hx | rfl
 ·
  rfl
 ·
  rfl
 ·
  rfl
 ·
  exact bvs_one _ x hx
 ·
  rfl
theorem info {s : WsV} (h : s.p.x.sum.length = 32) : (Tryz.prog.info? 38).map (·.size) = some s.cells.size := by rw [size h]; kernel_rfl
theorem part (s : WsV) (j : Nat) (u : Value) (h : s.p.cells[j]? = some u) : s.cells[j]? = some u := by
 have hlt : j < s.p.cells.toList.length := by simpa using (Array.getElem?_eq_some_iff.1 h).1
 have e : s.cl = s.p.cells.toList ++ [.int .u64 (s.lsn : Int)] := by simp [cl, PtV.cells]
 rw [cells, e, List.getElem?_toArray, List.getElem?_append_left hlt]
 simpa using h
theorem lsn_at {s : WsV} (h : s.p.x.sum.length = 32) : s.cells[35]? = some (.int .u64 (s.lsn : Int)) := by
 rw [cells, List.getElem?_toArray]
 unfold cl
 rw [List.getElem?_append_right (by simp), List.getElem?_append_right (by simp [bvs_len, h])]
 simp [bvs_len, h]
end WsV
def wcs (l : List WsV) : List Value := l.flatMap WsV.cl
theorem wcs_len {l : List WsV} (h : ∀ s ∈ l, s.p.x.sum.length = 32) : (wcs l).length = l.length * 36 := flat_len _ 36 l fun s hs => WsV.cl_len (h s hs)
theorem elemW : ElemT Tryz.prog 27 38 36 96 := ElemT.mk' Tryz.underlying27 (z := .agg (Array.mk (.slice none 0 0 :: .slice none 0 0 :: .int .i64 0 :: (List.replicate 32 (.int .u8 0) ++ [.int .u64 0])))) (by kernel_rfl) (by rfl) (by decide)
structure RdW (w : World) (A : Option Addr) (l : List WsV) : Prop where
 rd : Rd w 36 A l.length (wcs l)
 each : ∀ s ∈ l, s.In w
section
variable {w w' : World} {A : Option Addr} {l : List WsV}
theorem RdW.nil_ (w : World) (A : Option Addr) : RdW w A [] := ⟨Rd.nil_ _ _ _, by simp⟩
theorem RdW.below (h : RdW w A l) (hb : Ext w w') : RdW w' A l := ⟨h.rd.below hb, fun e he => (h.each e he).ext hb⟩
theorem RdW.sums (h : RdW w A l) : ∀ s ∈ l, s.p.x.sum.length = 32 := fun s hs => (h.each s hs).p.sum
theorem RdW.at_ (h : RdW w A l) {k : Nat} (hk : k < l.length) : ∃ ad, A = some ad ∧ (∀ j u, (l[k].cells)[j]? = some u → w.cell? ((ad.add (k * 36)).add j) = some u) ∧ l[k].In w := by
 have ho := h.each _ (List.getElem_mem hk)
 obtain ⟨ad, e, hc⟩ := h.rd.2 (by intro e; have := wcs_len h.sums; rw [e] at this; simp at this; omega)
 refine ⟨ad, e, fun j u hj => ?_, ho⟩
 have hj2 : j < 36 := by
  have := (Array.getElem?_eq_some_iff.1 hj).1
  rwa [WsV.size ho.p.sum] at this
 rw [add_add']
 refine hc _ u ?_
 rw [wcs, flat_at _ 36 l (fun s hs => WsV.cl_len (h.sums s hs)) k hk j hj2]
 simpa [WsV.cells] using hj
end
def wsz : WsV := ⟨ptz, 0⟩
theorem madeW : ∀ n : Nat, madeCells wsz.cells (n * 36) = (wcs (List.replicate n wsz)).toArray := by
 intro n
 have hs : ∀ p ∈ List.replicate n wsz, p.cl.length = 36 := fun p hp => by rw [List.eq_of_mem_replicate hp]; rfl
 have hl : (wcs (List.replicate n wsz)).length = n * 36 := by rw [wcs, flat_len _ 36 _ hs, List.length_replicate]
 apply Array.ext'
 apply List.ext_getElem?
 intro i
 by_cases hi : i < n * 36
 ·
  have hq : i / 36 < (List.replicate n wsz).length := by rw [List.length_replicate]; omega
  have e2 : (wcs (List.replicate n wsz))[i]? = ((List.replicate n wsz)[i / 36]'hq).cl[i % 36]? := by
   conv => lhs; rw [show i = i / 36 * 36 + i % 36 by omega]
   exact flat_at _ 36 _ hs (i / 36) hq (i % 36) (Nat.mod_lt _ (by omega))
  show _ = (wcs (List.replicate n wsz))[i]?
  rw [e2, List.getElem_replicate]
  have h5 : i % 36 < wsz.cells.size := Nat.mod_lt _ (by decide)
  rw [List.getElem?_eq_getElem (by simpa [madeCells] using hi)]
  simp only [madeCells, Array.getElem_toList, Array.getElem_map, Array.getElem_range]
  rw [show wsz.cells.size = 36 from rfl, getElem!_pos wsz.cells (i % 36) h5]
  rw [show wsz.cl = wsz.cells.toList from rfl, List.getElem?_eq_getElem (by simpa using h5), Array.getElem_toList]
 ·
  rw [List.getElem?_eq_none (by simp [madeCells]; omega), List.getElem?_eq_none (by show (wcs (List.replicate n wsz)).length ≤ i; omega)]
theorem wput_lo {L : List WsV} (hs : ∀ s ∈ L, s.p.x.sum.length = 32) {k : Nat} (hk : k < L.length) (A : Option Addr) (c : Nat) (d : List UInt8) :
  put1 (wcs L).toArray (k * 36 + 0) [.slice A d.length c] = (wcs (L.set k ⟨{ L[k].p with la := A, lc := c, x := { L[k].p.x with lo := d } }, L[k].lsn⟩)).toArray :=
 flat_put WsV.cl 36 L (fun s h => WsV.cl_len (hs s h)) k hk _ 0 _ (by simp) (by simp [put1, WsV.cl])
theorem wput_hi {L : List WsV} (hs : ∀ s ∈ L, s.p.x.sum.length = 32) {k : Nat} (hk : k < L.length) (A : Option Addr) (c : Nat) (d : List UInt8) :
  put1 (wcs L).toArray (k * 36 + 1) [.slice A d.length c] = (wcs (L.set k ⟨{ L[k].p with ha := A, hc := c, x := { L[k].p.x with hi := d } }, L[k].lsn⟩)).toArray :=
 flat_put WsV.cl 36 L (fun s h => WsV.cl_len (hs s h)) k hk _ 1 _ (by simp) (by simp [put1, WsV.cl])
theorem wput_count {L : List WsV} (hs : ∀ s ∈ L, s.p.x.sum.length = 32) {k : Nat} (hk : k < L.length) (n : Int) :
  put1 (wcs L).toArray (k * 36 + 2) [.int .i64 n] = (wcs (L.set k ⟨{ L[k].p with x := { L[k].p.x with count := n } }, L[k].lsn⟩)).toArray :=
 flat_put WsV.cl 36 L (fun s h => WsV.cl_len (hs s h)) k hk _ 2 _ (by simp) (by simp [put1, WsV.cl])
theorem wput_sum {L : List WsV} (hs : ∀ s ∈ L, s.p.x.sum.length = 32) {k : Nat} (hk : k < L.length) (z : List UInt8) (hz : z.length = 32) :
  put1 (wcs L).toArray (k * 36 + 3) (bvs z) = (wcs (L.set k ⟨{ L[k].p with x := { L[k].p.x with sum := z } }, L[k].lsn⟩)).toArray :=
 flat_put WsV.cl 36 L (fun s h => WsV.cl_len (hs s h)) k hk _ 3 _ (by simp [bvs_len, hz]) (by
  have := put1_at [.slice L[k].p.la L[k].p.x.lo.length L[k].p.lc, .slice L[k].p.ha L[k].p.x.hi.length L[k].p.hc, .int .i64 L[k].p.x.count] (bvs L[k].p.x.sum) (bvs z) [.int .u64 (L[k].lsn : Int)] (by simp [bvs_len, hz, hs _ (List.getElem_mem hk)])
  exact congrArg Array.toList this)
theorem wput_lsn {L : List WsV} (hs : ∀ s ∈ L, s.p.x.sum.length = 32) {k : Nat} (hk : k < L.length) (n : Nat) :
  put1 (wcs L).toArray (k * 36 + 35) [.int .u64 (n : Int)] = (wcs (L.set k ⟨L[k].p, n⟩)).toArray :=
 flat_put WsV.cl 36 L (fun s h => WsV.cl_len (hs s h)) k hk _ 35 _ (by simp) (by
  have h32 := hs _ (List.getElem_mem hk)
  have := put1_at ([.slice L[k].p.la L[k].p.x.lo.length L[k].p.lc, .slice L[k].p.ha L[k].p.x.hi.length L[k].p.hc, .int .i64 L[k].p.x.count] ++ bvs L[k].p.x.sum) [.int .u64 (L[k].lsn : Int)] [.int .u64 (n : Int)] [] rfl
  simp only [List.length_append, List.length_cons, List.length_nil, bvs_len, h32, List.append_nil] at this
  exact congrArg Array.toList this)
namespace Wg
def cl (s : Wg) : List Value := .int .u32 (s.weak : Int) :: bvs s.strong
def cells (s : Wg) : Array Value := s.cl.toArray
structure Ok (s : Wg) : Prop where
 w : s.weak < 4294967296
 len : s.strong.length = 32
theorem cl_len {s : Wg} (h : s.Ok) : s.cl.length = 33 := by simp [cl, bvs_len, h.len]
theorem size {s : Wg} (h : s.Ok) : s.cells.size = 33 := by simp [cells, cl_len h]
theorem one (s : Wg) : s.cells.all (·.oneCell') = true := by
 rw [Array.all_eq_true_iff_forall_mem]
 intro x hx
 simp only [cells, cl, List.mem_toArray, List.mem_cons] at hx
 rcases hx with rfl | hx
 ·
  rfl
 ·
  exact bvs_one _ x hx
theorem info {s : Wg} (h : s.Ok) : (Tryz.prog.info? 65).map (·.size) = some s.cells.size := by rw [size h]; kernel_rfl
end Wg
def wgs (l : List Wg) : List Value := l.flatMap Wg.cl
theorem wgs_len {l : List Wg} (h : ∀ s ∈ l, s.Ok) : (wgs l).length = l.length * 33 := flat_len _ 33 l fun s hs => Wg.cl_len (h s hs)
theorem wgs_app (l m : List Wg) : wgs (l ++ m) = wgs l ++ wgs m := by simp [wgs]
theorem wgs_one (l : List Wg) : ∀ u ∈ wgs l, u.oneCell' = true := by
 intro u hu
 obtain ⟨p, _, hp⟩ := List.mem_flatMap.1 hu
 exact (Array.all_eq_true_iff_forall_mem.1 (Wg.one p)) u (by simpa [Wg.cells] using hp)
theorem elemWg : ElemT Tryz.prog 29 65 33 36 := ElemT.mk' Tryz.underlying29 (z := .agg (Array.mk (.int .u32 0 :: List.replicate 32 (.int .u8 0)))) (by kernel_rfl) (by rfl) (by decide)
structure RdG (w : World) (A : Option Addr) (l : List Wg) : Prop where
 rd : Rd w 33 A l.length (wgs l)
 ok : ∀ s ∈ l, s.Ok
theorem RdG.nil_ (w : World) (A : Option Addr) : RdG w A [] := ⟨Rd.nil_ _ _ _, by simp⟩
theorem RdG.below {w w' : World} {A : Option Addr} {l : List Wg} (h : RdG w A l) (hb : Ext w w') : RdG w' A l := ⟨h.rd.below hb, h.ok⟩
theorem RdG.at_ {w : World} {A : Option Addr} {l : List Wg} (h : RdG w A l) {k : Nat} (hk : k < l.length) : ∃ ad, A = some ad ∧ (∀ j u, (l[k].cells)[j]? = some u → w.cell? ((ad.add (k * 33)).add j) = some u) ∧ l[k].Ok := by
 have ho := h.ok _ (List.getElem_mem hk)
 obtain ⟨ad, e, hc⟩ := h.rd.2 (by intro e; have := wgs_len h.ok; rw [e] at this; simp at this; omega)
 refine ⟨ad, e, fun j u hj => ?_, ho⟩
 have hj2 : j < 33 := by
  have := (Array.getElem?_eq_some_iff.1 hj).1
  rwa [Wg.size ho] at this
 rw [add_add']
 refine hc _ u ?_
 rw [wgs, flat_at _ 33 l (fun s hs => Wg.cl_len (h.ok s hs)) k hk j hj2]
 simpa [Wg.cells] using hj
structure WmV where
 kind : Int
 session : Nat
 seq : Nat
 la : Option Addr
 lc : Nat
 lo : List UInt8
 ha : Option Addr
 hc : Nat
 hi : List UInt8
 n : Int
 lsn : Nat
 count : Int
 sum : List UInt8
 size : Int
 file : List UInt8
 sa : Option Addr
 sc : Nat
 subs : List WsV
 more : Bool
 ea : Option Addr
 ec : Nat
 ents : List EnV
 ga : Option Addr
 gc : Nat
 sigs : List Wg
 da : Option Addr
 dc : Nat
 data : List UInt8
namespace WmV
def x (m : WmV) : Wm := ⟨m.kind, m.session, m.seq, m.lo, m.hi, m.n, m.lsn, m.count, m.sum, m.size, m.file, m.subs.map WsV.x, m.more, m.ents.map EnV.x, m.sigs, m.data⟩
abbrev pre (m : WmV) : List Value := [.int .i64 m.kind, .int .u32 (m.session : Int), .int .u32 (m.seq : Int), .slice m.la m.lo.length m.lc, .slice m.ha m.hi.length m.hc, .int .i64 m.n, .int .u64 (m.lsn : Int), .int .i64 m.count]
abbrev suf (m : WmV) : List Value := [.slice m.sa m.subs.length m.sc, .bool m.more, .slice m.ea m.ents.length m.ec, .slice m.ga m.sigs.length m.gc, .slice m.da m.data.length m.dc]
def cl (m : WmV) : List Value := m.pre ++ (bvs m.sum ++ ([.int .i64 m.size] ++ (bvs m.file ++ m.suf)))
def cells (m : WmV) : Array Value := m.cl.toArray
def val (m : WmV) : Value := .agg m.cells
def nul : WmV := ⟨0, 0, 0, none, 0, [], none, 0, [], 0, 0, 0, List.replicate 32 0, 0, List.replicate 32 0, none, 0, [], false, none, 0, [], none, 0, [], none, 0, []⟩
structure Ok (m : WmV) : Prop where
 klo : -9223372036854775808 ≤ m.kind
 khi : m.kind ≤ 9223372036854775807
 session : m.session < 4294967296
 seq : m.seq < 4294967296
 nlo : -9223372036854775808 ≤ m.n
 nhi : m.n ≤ 9223372036854775807
 lsn : m.lsn < 18446744073709551616
 clo : -9223372036854775808 ≤ m.count
 chi : m.count ≤ 9223372036854775807
 sum : m.sum.length = 32
 zlo : -9223372036854775808 ≤ m.size
 zhi : m.size ≤ 9223372036854775807
 file : m.file.length = 32
 lcap : m.lo.length ≤ m.lc
 hcap : m.hi.length ≤ m.hc
 scap : m.subs.length ≤ m.sc
 ecap : m.ents.length ≤ m.ec
 gcap : m.sigs.length ≤ m.gc
 dcap : m.data.length ≤ m.dc
structure In (w : World) (m : WmV) : Prop where
 ok : m.Ok
 lr : RdB w m.la m.lo
 hr : RdB w m.ha m.hi
 sr : RdW w m.sa m.subs
 er : RdE w m.ea m.ents
 gr : RdG w m.ga m.sigs
 dr : RdB w m.da m.data
theorem In.ext {w w' : World} {m : WmV} (h : m.In w) (hb : Ext w w') : m.In w' := ⟨h.ok, h.lr.below hb, h.hr.below hb, h.sr.below hb, h.er.below hb, h.gr.below hb, h.dr.below hb⟩
theorem nul_ok : nul.Ok := by constructor <;> decide
theorem nul_in (w : World) : nul.In w := ⟨nul_ok, RdB.nil_ _ _, RdB.nil_ _ _, RdW.nil_ _ _, RdE.nil_ _ _, RdG.nil_ _ _, RdB.nil_ _ _⟩
theorem cl_len {m : WmV} (h : m.Ok) : m.cl.length = 78 := by simp [cl, pre, suf, bvs_len, h.sum, h.file]
theorem size78 {m : WmV} (h : m.Ok) : m.cells.size = 78 := by simp [cells, cl_len h]
theorem one (m : WmV) : m.cells.all (·.oneCell') = true := by
 rw [Array.all_eq_true_iff_forall_mem]
 intro x hx
 simp only [cells, cl, pre, suf, List.mem_toArray, List.mem_append, List.mem_cons, List.not_mem_nil, or_false] at hx
 rcases hx with (rfl | rfl | rfl | rfl | rfl | rfl | rfl | rfl) | hx | rfl | hx | (rfl | rfl | rfl | rfl | rfl)
 all_goals first | rfl | exact bvs_one _ x hx
theorem info {m : WmV} (h : m.Ok) : (Tryz.prog.info? 31).map (·.size) = some m.cells.size := by rw [size78 h]; kernel_rfl
section
variable (m : WmV)
theorem at0 : m.cells[0]? = some (.int .i64 m.kind) := rfl
theorem at1 : m.cells[1]? = some (.int .u32 (m.session : Int)) := rfl
theorem at2 : m.cells[2]? = some (.int .u32 (m.seq : Int)) := rfl
theorem at3 : m.cells[3]? = some (.slice m.la m.lo.length m.lc) := rfl
theorem at4 : m.cells[4]? = some (.slice m.ha m.hi.length m.hc) := rfl
theorem at5 : m.cells[5]? = some (.int .i64 m.n) := rfl
theorem at6 : m.cells[6]? = some (.int .u64 (m.lsn : Int)) := rfl
theorem at7 : m.cells[7]? = some (.int .i64 m.count) := rfl
end
theorem get_at (A : List Value) (v : Value) (B : List Value) : (A ++ v :: B)[A.length]? = some v := by simp
section
variable {m : WmV} (h : m.Ok)
include h
theorem at8 (j : Nat) (hj : j < 32) : m.cells[8 + j]? = (bvs m.sum)[j]? := by
 rw [cells, cl, List.getElem?_toArray, List.getElem?_append_right (by simp), List.getElem?_append_left (by simp [bvs_len, h.sum, hj])]
 simp
theorem at40 : m.cells[40]? = some (.int .i64 m.size) := by
 have := get_at (m.pre ++ bvs m.sum) (.int .i64 m.size) (bvs m.file ++ m.suf)
 simp only [List.length_append, List.length_cons, List.length_nil, bvs_len, h.sum, List.append_assoc] at this
 rw [cells, List.getElem?_toArray]; exact this
theorem at41 (j : Nat) (hj : j < 32) : m.cells[41 + j]? = (bvs m.file)[j]? := by
 rw [cells, cl, List.getElem?_toArray, List.getElem?_append_right (by simp; omega), List.getElem?_append_right (by simp [bvs_len, h.sum]; omega), List.getElem?_append_right (by simp [bvs_len, h.sum]; omega), List.getElem?_append_left (by simp [bvs_len, h.sum, h.file]; omega)]
 congr 1
 simp [bvs_len, h.sum]; omega
theorem atL (k : Nat) (hk : k < 5) : m.cells[73 + k]? = m.suf[k]? := by
 rw [cells, cl, List.getElem?_toArray, List.getElem?_append_right (by simp; omega), List.getElem?_append_right (by simp [bvs_len, h.sum]; omega), List.getElem?_append_right (by simp [bvs_len, h.sum]; omega), List.getElem?_append_right (by simp [bvs_len, h.sum, h.file]; omega)]
 congr 1
 simp [bvs_len, h.sum, h.file]; omega
theorem at73 : m.cells[73]? = some (.slice m.sa m.subs.length m.sc) := atL h 0 (by omega)
theorem at74 : m.cells[74]? = some (.bool m.more) := atL h 1 (by omega)
theorem at75 : m.cells[75]? = some (.slice m.ea m.ents.length m.ec) := atL h 2 (by omega)
theorem at76 : m.cells[76]? = some (.slice m.ga m.sigs.length m.gc) := atL h 3 (by omega)
theorem at77 : m.cells[77]? = some (.slice m.da m.data.length m.dc) := atL h 4 (by omega)
end
section
variable (m : WmV)
theorem put3 (A : Option Addr) (c : Nat) (d : List UInt8) : put1 m.cells 3 [.slice A d.length c] = { m with la := A, lc := c, lo := d }.cells := rfl
theorem put4 (A : Option Addr) (c : Nat) (d : List UInt8) : put1 m.cells 4 [.slice A d.length c] = { m with ha := A, hc := c, hi := d }.cells := rfl
theorem put5 (n : Int) : put1 m.cells 5 [.int .i64 n] = { m with n := n }.cells := rfl
theorem put6 (n : Nat) : put1 m.cells 6 [.int .u64 (n : Int)] = { m with lsn := n }.cells := rfl
theorem put7 (n : Int) : put1 m.cells 7 [.int .i64 n] = { m with count := n }.cells := rfl
end
section
variable {m : WmV} (h : m.Ok)
include h
theorem put8 (z : List UInt8) (hz : z.length = 32) : put1 m.cells 8 (bvs z) = { m with sum := z }.cells :=
 put1_at m.pre (bvs m.sum) (bvs z) _ (by simp [bvs_len, h.sum, hz])
theorem put_mid (cs : List Value) (k : Nat) (A B : List Value) (u : List Value) (he : m.cl = A ++ (u ++ B)) (hk : A.length = k) (hu : u.length = cs.length) : put1 m.cells k cs = (A ++ (cs ++ B)).toArray := by
 subst hk
 unfold cells
 rw [he]
 exact put1_at A u cs B hu
theorem put40 (n : Int) : put1 m.cells 40 [.int .i64 n] = { m with size := n }.cells := by
 rw [put_mid h [.int .i64 n] 40 (m.pre ++ bvs m.sum) (bvs m.file ++ m.suf) [Value.int .i64 m.size] (by simp [cl]) (by simp [bvs_len, h.sum]) rfl]
 simp [cells, cl]
theorem put41 (z : List UInt8) (hz : z.length = 32) : put1 m.cells 41 (bvs z) = { m with file := z }.cells := by
 rw [put_mid h (bvs z) 41 (m.pre ++ (bvs m.sum ++ [Value.int .i64 m.size])) m.suf (bvs m.file) (by simp [cl]) (by simp [bvs_len, h.sum]) (by simp [bvs_len, h.file, hz])]
 simp [cells, cl]
theorem putL (k : Nat) (u v : Value) (A B : List Value) (he : m.suf = A ++ ([u] ++ B)) (hk : 73 + A.length = k) :
  put1 m.cells k [v] = (m.pre ++ (bvs m.sum ++ ([Value.int .i64 m.size] ++ (bvs m.file ++ (A ++ ([v] ++ B)))))).toArray := by
 rw [put_mid h [v] k (m.pre ++ (bvs m.sum ++ ([Value.int .i64 m.size] ++ (bvs m.file ++ A)))) B [u] (by rw [cl, he]; simp) (by simp [bvs_len, h.sum, h.file]; omega) rfl]
 simp
theorem put73 (A : Option Addr) (c : Nat) (d : List WsV) : put1 m.cells 73 [.slice A d.length c] = { m with sa := A, sc := c, subs := d }.cells := putL h 73 _ _ [] _ rfl rfl
theorem put74 (b : Bool) : put1 m.cells 74 [.bool b] = { m with more := b }.cells := putL h 74 _ _ [_] _ rfl rfl
theorem put75 (A : Option Addr) (c : Nat) (d : List EnV) : put1 m.cells 75 [.slice A d.length c] = { m with ea := A, ec := c, ents := d }.cells := putL h 75 _ _ [_, _] _ rfl rfl
theorem put76 (A : Option Addr) (c : Nat) (d : List Wg) : put1 m.cells 76 [.slice A d.length c] = { m with ga := A, gc := c, sigs := d }.cells := putL h 76 _ _ [_, _, _] _ rfl rfl
theorem put77 (A : Option Addr) (c : Nat) (d : List UInt8) : put1 m.cells 77 [.slice A d.length c] = { m with da := A, dc := c, data := d }.cells := putL h 77 _ _ [_, _, _, _] _ rfl rfl
end
end WmV
end Go.Proofs.YtjholekgdnhpkaaGreatDoor
namespace Go.Proofs.YtjholekgdnhpkaaGreatDoor
open Go.RowKit
def waitsE (E : List Nat) (md : Region.Mode) (ops : Array Oper) (listed : Array Bool) (i : Nat) : Bool :=
 (List.range ops.size).all fun k => !listed.getD k false || (reach md ops ops.size i k || E.contains k)
section
variable {E : List Nat} {P : Program} {ops : Array Oper} {md : Region.Mode} {Q : Exit → Act → World → Prop}
theorem waitsE_less {listed : Array Bool} {i j : Nat} (h : waitsE E md ops (listed.setIfInBounds i true) j = true) : waitsE E md ops listed j = true := by
 unfold waitsE at h ⊢
 rw [List.all_eq_true] at h ⊢
 intro k hk
 have h1 := h k hk
 cases hl : listed.getD k false with
 | false => simp
 | true => rw [getD_set_true hl] at h1; exact h1
end
end Go.Proofs.YtjholekgdnhpkaaGreatDoor
namespace Go.Proofs.YtjholekgdnhpkaaGreatDoor
open Go.RowKit
structure Wr where
 r : World → World → Prop
 refl : ∀ w, r w w
 tr : ∀ {a b c}, r a b → r b c → r a c
section
variable {ρ : Wr} {P : Program} {ops : Array Oper} {md : Region.Mode} {Q : Exit → Act → World → Prop}
def wpAnyK (ρ : Wr) (P : Program) (md : Region.Mode) (ops : Array Oper) (Q : Exit → Act → World → Prop) : Nat → Array Bool → Act → World → Prop
 | 0, listed, a, w => Region.ready md ops listed = [] ∧ Q .normal a w
 | fuel + 1, listed, a, w =>
  (Region.ready md ops listed = [] → Q .normal a w) ∧
  ∀ i ∈ Region.ready md ops listed, wpOp P ops Q i (fun a' w' => (ρ.r w w' ∨ waits md ops listed i = true) ∧ wpAnyK ρ P md ops Q fuel (listed.setIfInBounds i true) a' w') a w
theorem wpAny_of_K : ∀ (fuel : Nat) (listed : Array Bool) (a : Act) (w : World), wpAnyK ρ P md ops Q fuel listed a w → wpAny P md ops Q fuel listed a w
 | 0, _, _, _, h => h
 | fuel + 1, _, _, _, h => ⟨h.1, fun i hi => wpOp_mono (fun a' w' h' => wpAny_of_K fuel _ a' w' h'.2) (h.2 i hi)⟩
theorem yields_keep {o : Oper} {v : Value} {a : Act} {w w' : World} (h : YieldsIf P ops (ρ.r w) o v a) (hx : ρ.r w w') : YieldsIf P ops (ρ.r w') o v a :=
 h.imp (fun ⟨h1, h2⟩ => ⟨h1, fun w'' h3 => h2 w'' (ρ.tr hx h3)⟩) id
theorem wpAnyK_first {i : Nat} {oi : Oper} {v : Value} (hi : ops[i]? = some oi) (hsel : ∀ (j : Nat) (o : Oper) cs b, ops[j]? = some o → o.op ≠ .select cs b)
  (hQ : ∀ c a w, Q (.panic c) (a.put oi.dst v) w → Q (.panic c) a w) :
  ∀ (fuel : Nat) (listed : Array Bool) (a : Act) (w : World), Closed md ops listed →
   (∀ j oj, ops[j]? = some oj → j ≠ i → listed.getD j true = false → (∀ e ∈ oj.after, Region.binds md e = true → e.on ≠ i) → oi.apart ops oj = true) →
   i ∈ Region.ready md ops listed → YieldsIf P ops (ρ.r w) oi v a →
   wpAnyK ρ P md ops Q fuel (listed.setIfInBounds i true) (a.put oi.dst v) w → wpAnyK ρ P md ops Q (fuel + 1) listed a w := by
 intro fuel
 induction fuel with
 | zero =>
  intro listed a w _ _ hr hy H
  refine ⟨fun h => (by rw [h] at hr; cases hr), fun j hj => ?_⟩
  by_cases hji : j = i
  ·
   subst hji; exact hy.wpOp hi (ρ.refl w) ⟨.inl (ρ.refl w), H⟩
  ·
   have := ready_mono hj hji
   rw [H.1] at this
   cases this
 | succ fuel ih =>
  intro listed a w hcl hfree hr hy H
  refine ⟨fun h => (by rw [h] at hr; cases hr), fun j hj => ?_⟩
  by_cases hji : j = i
  ·
   subst hji; exact hy.wpOp hi (ρ.refl w) ⟨.inl (ρ.refl w), H⟩
  ·
   have h1 := H.2 j (ready_mono hj hji)
   obtain ⟨hjun, oj, hoj, hall⟩ := mem_ready.1 hj
   have hiun := (mem_ready.1 hr).1
   have hilt : i < listed.size := by
    rcases Nat.lt_or_ge i listed.size with h' | h'
    ·
     exact h'
    ·
     simp [Array.getElem?_eq_none h'] at hiun
   have hnot : ∀ e ∈ oj.after, Region.binds md e = true → e.on ≠ i := fun e he hb heq => by
    have h1 := hall e he hb
    rw [heq] at h1
    simp [hilt] at hiun h1
    rw [hiun] at h1; cases h1
   have hnow : waits md ops (listed.setIfInBounds i true) j ≠ true := fun hw => by
    have h3 := waits_listed (k := i) hcl hoj hall hw (Array.getElem?_eq_some_iff.1 hi).1 (by simp [hilt])
    simp [hilt] at hiun h3
    rw [hiun] at h3; cases h3
   have h2 := wpOp_putIf hoj (hfree j oj hoj hji hjun hnot) (fun cs b => hsel i oi cs b hi) (fun cs b => hsel j oj cs b hoj) hQ hy h1
   have hfree' : ∀ k ok, ops[k]? = some ok → k ≠ i → (listed.setIfInBounds j true).getD k true = false →
     (∀ e ∈ ok.after, Region.binds md e = true → e.on ≠ i) → oi.apart ops ok = true := fun k ok hk hki hun hno => by
    refine hfree k ok hk hki ?_ hno
    by_cases hjk : j = k
    ·
     subst hjk; exact hjun
    ·
     rw [getD_set_ne true hjk] at hun; exact hun
   refine wpOp_mono (fun a' w' h3 => ?_) h2
   have hx : ρ.r w w' := h3.2.1.resolve_right hnow
   refine ⟨.inl hx, ih (listed.setIfInBounds j true) a' w' (closed_set hcl hj) hfree' (ready_mono hr (Ne.symm hji)) (yields_keep h3.1 hx) ?_⟩
   rw [Array.setIfInBounds_comm _ _ hji]
   exact h3.2.2
theorem rk_start (ρ : Wr) {id : Nat} {a : Act} {w : World} (hm : P.follows .mixedOrders = true)
  (h : wpAnyK ρ P .any ops Q ops.size (Array.replicate ops.size false) a w.drew) : (Code.region id ops true).wp P Q a w := wp_region_any hm (wpAny_of_K _ _ _ _ h)
theorem rk_take (i : Nat) {oi : Oper} {fuel : Nat} {listed : Array Bool} {a : Act} {w : World} (hi0 : ops.toList[i]? = some oi)
  (hs : Region.noSelect ops = true) (hf : (closedB md ops listed && Region.free md ops listed i) = true) (hr : (Region.ready md ops listed).contains i = true)
  (hQ : ∀ c a v w, Q (.panic c) (a.put oi.dst v) w → Q (.panic c) a w) (hw : Region.wanted oi (yielded ops a.tmps) = true)
  (h : ∃ v, (∀ w', ρ.r w w' → (execOp a.eval oi).run P w' = .ok (.value v) w') ∧ wpAnyK ρ P md ops Q fuel (listed.setIfInBounds i true) (a.put oi.dst v) w) : wpAnyK ρ P md ops Q (fuel + 1) listed a w := by
 have hi : ops[i]? = some oi := by rw [← hi0]; simp
 obtain ⟨v, hv, h⟩ := h
 exact wpAnyK_first hi (Region.noSelect_spec hs) (fun c a w => hQ c a v w) fuel listed a w (closed_of (Bool.and_eq_true _ _ ▸ hf).1) (Region.free_spec hi (Bool.and_eq_true _ _ ▸ hf).2) (by simpa using hr) (.inl ⟨hw, hv⟩) h
theorem rk_one (i : Nat) {oi : Oper} {fuel : Nat} {listed : Array Bool} {a : Act} {w : World} (hi0 : ops.toList[i]? = some oi)
  (hr : Region.ready md ops listed = [i]) (hw : Region.wanted oi (yielded ops a.tmps) = true)
  (h : oi.wp P a w (fun a' w' => (ρ.r w w' ∨ waits md ops listed i = true) ∧ wpAnyK ρ P md ops Q fuel (listed.setIfInBounds i true) a' w') Q) : wpAnyK ρ P md ops Q (fuel + 1) listed a w := by
 have hi : ops[i]? = some oi := by rw [← hi0]; simp
 refine ⟨fun h0 => absurd (hr ▸ h0) (by simp), fun j hj => ?_⟩
 rw [hr] at hj
 obtain rfl : j = i := by simpa using hj
 unfold wpOp
 rw [hi]
 show if _ then _ else _
 rw [if_pos hw]
 exact .inl h
theorem rk_call (i : Nat) {oi : Oper} {fuel : Nat} {listed : Array Bool} {a : Act} {w : World} {f : FuncId} {args : Array Value} {R : Ending → World → Prop} (hc : Calls P f args w R) (hi0 : ops.toList[i]? = some oi)
  (hr : Region.ready md ops listed = [i]) (hw : Region.wanted oi (yielded ops a.tmps) = true)
  (hx : (execOp a.eval oi).run P w = .ok (.enter f args) w)
  (h : ∀ e w', R e w' → ∃ v, e = .returned v ∧ ρ.r w w' ∧ wpAnyK ρ P md ops Q fuel (listed.setIfInBounds i true) (a.put oi.dst v) w') : wpAnyK ρ P md ops Q (fuel + 1) listed a w := by
 refine rk_one i hi0 hr hw ?_
 unfold Oper.wp
 rw [hx, Oper.upon_enter]
 refine hc.mono fun e w' hR => ?_
 obtain ⟨v, rfl, h1, h2⟩ := h e w' hR
 exact ⟨.inl h1, h2⟩
theorem rk_make (i : Nat) {oi : Oper} {fuel : Nat} {listed : Array Bool} {a : Act} {w : World} (hi0 : ops.toList[i]? = some oi)
  (hr : Region.ready md ops listed = [i]) (hw : Region.wanted oi (yielded ops a.tmps) = true)
  (h : ∃ v w', (execOp a.eval oi).run P w = .ok (.value v) w' ∧ ρ.r w w' ∧ wpAnyK ρ P md ops Q fuel (listed.setIfInBounds i true) (a.put oi.dst v) w') : wpAnyK ρ P md ops Q (fuel + 1) listed a w := by
 obtain ⟨v, w', hx, h1, h2⟩ := h
 refine rk_one i hi0 hr hw ?_
 unfold Oper.wp
 rw [hx, Oper.upon_value]
 exact ⟨.inl h1, h2⟩
theorem rk_done {fuel : Nat} {listed : Array Bool} {a : Act} {w : World} (hr : Region.ready md ops listed = []) (h : Q .normal a w) : wpAnyK ρ P md ops Q fuel listed a w := by
 cases fuel with
 | zero => exact ⟨hr, h⟩
 | succ n => exact ⟨fun _ => h, by rw [hr]; simp⟩
end
structure Keep (B : Nat) (w w' : World) : Prop where
 below : Below B w w'
 row : ∀ (i : Nat) (cs : Array Value) (t : TypeId) (fr : Nat × Nat), w.heap[i]? = some (Obj.cells cs t fr) → ∃ fr', w'.heap[i]? = some (Obj.cells cs t fr')
theorem Keep.refl (B : Nat) (w : World) : Keep B w w := ⟨Below.refl B w, fun _ _ _ fr h => ⟨fr, h⟩⟩
theorem Keep.tr {B : Nat} {a b c : World} (h : Keep B a b) (k : Keep B b c) : Keep B a c := ⟨h.below.trans k.below, fun i _ _ fr e => by
 obtain ⟨fr', e'⟩ := h.row i _ _ fr e
 exact k.row i _ _ fr' e'⟩
theorem Keep.ext {B : Nat} {a b : World} (h : Ext a b) (hB : B ≤ a.heap.size) : Keep B a b := ⟨h.mono hB, fun i _ _ fr e => ⟨fr, (h.block i (lt_of_heap e)).trans e⟩⟩
def keepW (B : Nat) : Wr := ⟨Keep B, Keep.refl B, Keep.tr⟩
theorem Keep.cell {B : Nat} {w w' : World} (h : Keep B w w') {a : Addr} {v : Value} (hc : w.cell? a = some v) : w'.cell? a = some v := by
 unfold World.cell? at hc ⊢
 split at hc
 ·
  rename_i cs t fr hb
  obtain ⟨fr', e⟩ := h.row _ _ _ _ hb
  rw [e]
  exact hc
 ·
  cases hc
theorem Keep.rd {B size n : Nat} {w w' : World} {A : Option Addr} {xs : List Value} (h : Keep B w w') (hr : Rd w size A n xs) : Rd w' size A n xs := ⟨hr.1, fun hx => by
 obtain ⟨ad, e, hc⟩ := hr.2 hx
 exact ⟨ad, e, fun j u hj => h.cell (hc j u hj)⟩⟩
theorem Keep.rdB {B : Nat} {w w' : World} {A : Option Addr} {bs : List UInt8} (h : Keep B w w') (hr : RdB w A bs) : RdB w' A bs := Keep.rd h hr
theorem run_convMark {P : Program} {t e : TypeId} (ht : P.underlying t = some (.slice e)) (he : P.underlying e = some (.int .u8)) (B : Nat) (w : World) (g n c : Nat) (C : Array Value) (fr : Nat × Nat) (hg : w.heap[g]? = some (.cells C e fr)) (hB : B ≤ g) :
  ∃ w', (convert t t (.slice (some ⟨g, 0, none⟩) n c)).run P w = .ok (.slice (some ⟨g, 0, none⟩) n c) w' ∧ Keep B w w' := by
 have hsh : w.shape? g = some (e, C.size) := by unfold World.shape?; rw [hg]
 refine ⟨_, by simp [convert, run_underlying ht, run_underlying he, markStringish, hsh]; rfl, ?_⟩
 unfold World.freeze
 rw [if_neg (by decide)]
 refine ⟨⟨rfl, rfl, rfl, by simp, fun i hi => ?_⟩, fun i cs t' fr' h => ?_⟩
 ·
  simp only [Array.getElem?_modify]
  rw [if_neg (by omega)]
 ·
  simp only [Array.getElem?_modify]
  by_cases hi : g = i
  ·
   subst hi
   rw [if_pos rfl, h]
   exact ⟨_, rfl⟩
  ·
   rw [if_neg hi]
   exact ⟨fr', h⟩
theorem ex_convK {P : Program} {o : Oper} {a : Act} {w w1 : World} {s d : TypeId} {x : Operand} {v v' : Value} (ho : o.op = .convert s d x) (hx : a.eval x = v) (hr : (convert s d v).run P w = .ok v' w1) : (execOp a.eval o).run P w = .ok (.value v') w1 := by
 unfold execOp
 simp only [ho, hx, Sem.run_bind, hr, Result.andThen_ok, Sem.run_pure]
end Go.Proofs.YtjholekgdnhpkaaGreatDoor
namespace Go.Proofs.YtjholekgdnhpkaaGreatDoor
open Go.RowKit
section
variable {ρ : Wr} {E : List Nat} {P : Program} {ops : Array Oper} {md : Region.Mode} {Q : Exit → Act → World → Prop}
def wpAnyQ (ρ : Wr) (E : List Nat) (P : Program) (md : Region.Mode) (ops : Array Oper) (Q : Exit → Act → World → Prop) : Nat → Array Bool → Act → World → Prop
 | 0, listed, a, w => Region.ready md ops listed = [] ∧ Q .normal a w
 | fuel + 1, listed, a, w =>
  (Region.ready md ops listed = [] → Q .normal a w) ∧
  ∀ i ∈ Region.ready md ops listed, wpOp P ops Q i (fun a' w' => (ρ.r w w' ∨ waitsE E md ops listed i = true) ∧ wpAnyQ ρ E P md ops Q fuel (listed.setIfInBounds i true) a' w') a w
theorem wpAny_of_Q : ∀ (fuel : Nat) (listed : Array Bool) (a : Act) (w : World), wpAnyQ ρ E P md ops Q fuel listed a w → wpAny P md ops Q fuel listed a w
 | 0, _, _, _, h => h
 | fuel + 1, _, _, _, h => ⟨h.1, fun i hi => wpOp_mono (fun a' w' h' => wpAny_of_Q fuel _ a' w' h'.2) (h.2 i hi)⟩
theorem wpAnyQ_first {i : Nat} {oi : Oper} {v : Value} (hE : E.contains i = false) (hi : ops[i]? = some oi) (hsel : ∀ (j : Nat) (o : Oper) cs b, ops[j]? = some o → o.op ≠ .select cs b)
  (hQ : ∀ c a w, Q (.panic c) (a.put oi.dst v) w → Q (.panic c) a w) :
  ∀ (fuel : Nat) (listed : Array Bool) (a : Act) (w : World), Closed md ops listed →
   (∀ j oj, ops[j]? = some oj → j ≠ i → listed.getD j true = false → (∀ e ∈ oj.after, Region.binds md e = true → e.on ≠ i) → oi.apart ops oj = true) →
   i ∈ Region.ready md ops listed → YieldsIf P ops (ρ.r w) oi v a →
   wpAnyQ ρ E P md ops Q fuel (listed.setIfInBounds i true) (a.put oi.dst v) w → wpAnyQ ρ E P md ops Q (fuel + 1) listed a w := by
 intro fuel
 induction fuel with
 | zero =>
  intro listed a w _ _ hr hy H
  refine ⟨fun h => (by rw [h] at hr; cases hr), fun j hj => ?_⟩
  by_cases hji : j = i
  ·
   subst hji; exact hy.wpOp hi (ρ.refl w) ⟨.inl (ρ.refl w), H⟩
  ·
   have := ready_mono hj hji
   rw [H.1] at this
   cases this
 | succ fuel ih =>
  intro listed a w hcl hfree hr hy H
  refine ⟨fun h => (by rw [h] at hr; cases hr), fun j hj => ?_⟩
  by_cases hji : j = i
  ·
   subst hji; exact hy.wpOp hi (ρ.refl w) ⟨.inl (ρ.refl w), H⟩
  ·
   have h1 := H.2 j (ready_mono hj hji)
   obtain ⟨hjun, oj, hoj, hall⟩ := mem_ready.1 hj
   have hiun := (mem_ready.1 hr).1
   have hilt : i < listed.size := by
    rcases Nat.lt_or_ge i listed.size with h' | h'
    ·
     exact h'
    ·
     simp [Array.getElem?_eq_none h'] at hiun
   have hnot : ∀ e ∈ oj.after, Region.binds md e = true → e.on ≠ i := fun e he hb heq => by
    have h1 := hall e he hb
    rw [heq] at h1
    simp [hilt] at hiun h1
    rw [hiun] at h1; cases h1
   have hnow : waitsE E md ops (listed.setIfInBounds i true) j = true → False := fun hw => by
    unfold waitsE at hw
    have h1 := (List.all_eq_true.1 hw) i (List.mem_range.2 (Array.getElem?_eq_some_iff.1 hi).1)
    have hset : (listed.setIfInBounds i true).getD i false = true := by simp [hilt]
    rw [hset] at h1
    simp only [Bool.not_true, Bool.false_or, Bool.or_eq_true] at h1
    rcases h1 with h1 | h1
    ·
     have h3 := reach_listed hcl _ j oj i hoj hall h1
     simp [hilt] at hiun h3
     rw [hiun] at h3; cases h3
    ·
     rw [hE] at h1; cases h1
   have h2 := wpOp_putIf hoj (hfree j oj hoj hji hjun hnot) (fun cs b => hsel i oi cs b hi) (fun cs b => hsel j oj cs b hoj) hQ hy h1
   have hfree' : ∀ k ok, ops[k]? = some ok → k ≠ i → (listed.setIfInBounds j true).getD k true = false →
     (∀ e ∈ ok.after, Region.binds md e = true → e.on ≠ i) → oi.apart ops ok = true := fun k ok hk hki hun hno => by
    refine hfree k ok hk hki ?_ hno
    by_cases hjk : j = k
    ·
     subst hjk; exact hjun
    ·
     rw [getD_set_ne true hjk] at hun; exact hun
   refine wpOp_mono (fun a' w' h3 => ?_) h2
   have hrest : wpAnyQ ρ E P md ops Q fuel ((listed.setIfInBounds j true).setIfInBounds i true) (a'.put oi.dst v) w' := by
    rw [Array.setIfInBounds_comm _ _ hji]
    exact h3.2.2
   rcases h3.2.1 with hx | hw
   ·
    exact ⟨.inl hx, ih (listed.setIfInBounds j true) a' w' (closed_set hcl hj) hfree' (ready_mono hr (Ne.symm hji)) (yields_keep h3.1 hx) hrest⟩
   ·
    exact (hnow hw).elim
theorem wpAnyQ_firstA {i : Nat} {oi : Oper} {v : Value} (hi : ops[i]? = some oi) (hsel : ∀ (j : Nat) (o : Oper) cs b, ops[j]? = some o → o.op ≠ .select cs b)
  (hQ : ∀ c a w, Q (.panic c) (a.put oi.dst v) w → Q (.panic c) a w) :
  ∀ (fuel : Nat) (listed : Array Bool) (a : Act) (w : World), Closed md ops listed →
   (∀ j oj, ops[j]? = some oj → j ≠ i → listed.getD j true = false → (∀ e ∈ oj.after, Region.binds md e = true → e.on ≠ i) → oi.apart ops oj = true) →
   i ∈ Region.ready md ops listed → YieldsIf P ops (fun _ => True) oi v a →
   wpAnyQ ρ E P md ops Q fuel (listed.setIfInBounds i true) (a.put oi.dst v) w → wpAnyQ ρ E P md ops Q (fuel + 1) listed a w := by
 intro fuel
 induction fuel with
 | zero =>
  intro listed a w _ _ hr hy H
  refine ⟨fun h => (by rw [h] at hr; cases hr), fun j hj => ?_⟩
  by_cases hji : j = i
  ·
   subst hji; exact hy.wpOp hi trivial ⟨.inl (ρ.refl w), H⟩
  ·
   have := ready_mono hj hji
   rw [H.1] at this
   cases this
 | succ fuel ih =>
  intro listed a w hcl hfree hr hy H
  refine ⟨fun h => (by rw [h] at hr; cases hr), fun j hj => ?_⟩
  by_cases hji : j = i
  ·
   subst hji; exact hy.wpOp hi trivial ⟨.inl (ρ.refl w), H⟩
  ·
   have h1 := H.2 j (ready_mono hj hji)
   obtain ⟨hjun, oj, hoj, hall⟩ := mem_ready.1 hj
   have hiun := (mem_ready.1 hr).1
   have hilt : i < listed.size := by
    rcases Nat.lt_or_ge i listed.size with h' | h'
    ·
     exact h'
    ·
     simp [Array.getElem?_eq_none h'] at hiun
   have hnot : ∀ e ∈ oj.after, Region.binds md e = true → e.on ≠ i := fun e he hb heq => by
    have h1 := hall e he hb
    rw [heq] at h1
    simp [hilt] at hiun h1
    rw [hiun] at h1; cases h1
   have h2 := wpOp_putIf hoj (hfree j oj hoj hji hjun hnot) (fun cs b => hsel i oi cs b hi) (fun cs b => hsel j oj cs b hoj) hQ hy h1
   have hfree' : ∀ k ok, ops[k]? = some ok → k ≠ i → (listed.setIfInBounds j true).getD k true = false →
     (∀ e ∈ ok.after, Region.binds md e = true → e.on ≠ i) → oi.apart ops ok = true := fun k ok hk hki hun hno => by
    refine hfree k ok hk hki ?_ hno
    by_cases hjk : j = k
    ·
     subst hjk; exact hjun
    ·
     rw [getD_set_ne true hjk] at hun; exact hun
   refine wpOp_mono (fun a' w' h3 => ?_) h2
   have hrest : wpAnyQ ρ E P md ops Q fuel ((listed.setIfInBounds j true).setIfInBounds i true) (a'.put oi.dst v) w' := by
    rw [Array.setIfInBounds_comm _ _ hji]
    exact h3.2.2
   rcases h3.2.1 with hx | hw
   ·
    exact ⟨.inl hx, ih (listed.setIfInBounds j true) a' w' (closed_set hcl hj) hfree' (ready_mono hr (Ne.symm hji)) h3.1 hrest⟩
   ·
    exact ⟨.inr (waitsE_less hw), ih (listed.setIfInBounds j true) a' w' (closed_set hcl hj) hfree' (ready_mono hr (Ne.symm hji)) h3.1 hrest⟩
theorem rr_start (ρ : Wr) (E : List Nat) {id : Nat} {a : Act} {w : World} (hm : P.follows .mixedOrders = true)
  (h : wpAnyQ ρ E P .any ops Q ops.size (Array.replicate ops.size false) a w.drew) : (Code.region id ops true).wp P Q a w := wp_region_any hm (wpAny_of_Q _ _ _ _ h)
theorem rr_take (i : Nat) (hE : E.contains i = false) {oi : Oper} {fuel : Nat} {listed : Array Bool} {a : Act} {w : World} (hi0 : ops.toList[i]? = some oi)
  (hs : Region.noSelect ops = true) (hf : (closedB md ops listed && Region.free md ops listed i) = true) (hr : (Region.ready md ops listed).contains i = true)
  (hQ : ∀ c a v w, Q (.panic c) (a.put oi.dst v) w → Q (.panic c) a w) (hw : Region.wanted oi (yielded ops a.tmps) = true)
  (h : ∃ v, (∀ w', ρ.r w w' → (execOp a.eval oi).run P w' = .ok (.value v) w') ∧ wpAnyQ ρ E P md ops Q fuel (listed.setIfInBounds i true) (a.put oi.dst v) w) : wpAnyQ ρ E P md ops Q (fuel + 1) listed a w := by
 have hi : ops[i]? = some oi := by rw [← hi0]; simp
 obtain ⟨v, hv, h⟩ := h
 exact wpAnyQ_first hE hi (Region.noSelect_spec hs) (fun c a w => hQ c a v w) fuel listed a w (closed_of (Bool.and_eq_true _ _ ▸ hf).1) (Region.free_spec hi (Bool.and_eq_true _ _ ▸ hf).2) (by simpa using hr) (.inl ⟨hw, hv⟩) h
theorem rr_takeA (i : Nat) {oi : Oper} {fuel : Nat} {listed : Array Bool} {a : Act} {w : World} (hi0 : ops.toList[i]? = some oi)
  (hs : Region.noSelect ops = true) (hf : (closedB md ops listed && Region.free md ops listed i) = true) (hr : (Region.ready md ops listed).contains i = true)
  (hQ : ∀ c a v w, Q (.panic c) (a.put oi.dst v) w → Q (.panic c) a w) (hw : Region.wanted oi (yielded ops a.tmps) = true)
  (h : ∃ v, (∀ w', (execOp a.eval oi).run P w' = .ok (.value v) w') ∧ wpAnyQ ρ E P md ops Q fuel (listed.setIfInBounds i true) (a.put oi.dst v) w) : wpAnyQ ρ E P md ops Q (fuel + 1) listed a w := by
 have hi : ops[i]? = some oi := by rw [← hi0]; simp
 obtain ⟨v, hv, h⟩ := h
 exact wpAnyQ_firstA hi (Region.noSelect_spec hs) (fun c a w => hQ c a v w) fuel listed a w (closed_of (Bool.and_eq_true _ _ ▸ hf).1) (Region.free_spec hi (Bool.and_eq_true _ _ ▸ hf).2) (by simpa using hr) (.inl ⟨hw, fun w' _ => hv w'⟩) h
theorem rr_skip (i : Nat) {oi : Oper} {fuel : Nat} {listed : Array Bool} {a : Act} {w : World} (hi0 : ops.toList[i]? = some oi)
  (hs : Region.noSelect ops = true) (hf : (closedB md ops listed && Region.free md ops listed i) = true) (hr : (Region.ready md ops listed).contains i = true)
  (hQ : ∀ c a v w, Q (.panic c) (a.put oi.dst v) w → Q (.panic c) a w) (hw : Region.wanted oi (yielded ops a.tmps) = false)
  (h : wpAnyQ ρ E P md ops Q fuel (listed.setIfInBounds i true) (a.put oi.dst undef) w) : wpAnyQ ρ E P md ops Q (fuel + 1) listed a w := by
 have hi : ops[i]? = some oi := by rw [← hi0]; simp
 exact wpAnyQ_firstA hi (Region.noSelect_spec hs) (fun c a w => hQ c a _ w) fuel listed a w (closed_of (Bool.and_eq_true _ _ ▸ hf).1) (Region.free_spec hi (Bool.and_eq_true _ _ ▸ hf).2) (by simpa using hr) (.inr ⟨hw, rfl⟩) h
theorem qS (i : Nat) {oi : Oper} {fuel : Nat} {listed : Array Bool} {a : Act} {w : World} (hi0 : ops.toList[i]? = some oi)
    (h : ∃ v, (∀ w', ρ.r w w' → (execOp a.eval oi).run P w' = .ok (.value v) w') ∧ wpAnyQ ρ E P md ops Q fuel (listed.setIfInBounds i true) (a.put oi.dst v) w)
    (hs : Region.noSelect ops = true := by kernel_rfl) (hf : (closedB md ops listed && Region.free md ops listed i) = true := by kernel_rfl) (hr : (Region.ready md ops listed).contains i = true := by kernel_rfl)
    (hQ : ∀ c a v w, Q (.panic c) (a.put oi.dst v) w → Q (.panic c) a w := by exact fun _ _ _ _ h => h) (hw : Region.wanted oi (yielded ops a.tmps) = true := by rfl) (hE : E.contains i = false := by rfl) : wpAnyQ ρ E P md ops Q (fuel + 1) listed a w := rr_take i hE hi0 hs hf hr hQ hw h
theorem qD (i : Nat) {oi : Oper} {fuel : Nat} {listed : Array Bool} {a : Act} {w : World} {v : Value} (hi0 : ops.toList[i]? = some oi) (h : wpAnyQ ρ E P md ops Q fuel (listed.setIfInBounds i true) (a.put oi.dst v) w)
    (hv : ∀ w', ρ.r w w' → (execOp a.eval oi).run P w' = .ok (.value v) w' := by intros; (go_simp <;> with_reducible rfl))
    (hs : Region.noSelect ops = true := by kernel_rfl) (hf : (closedB md ops listed && Region.free md ops listed i) = true := by kernel_rfl) (hr : (Region.ready md ops listed).contains i = true := by kernel_rfl)
    (hQ : ∀ c a v w, Q (.panic c) (a.put oi.dst v) w → Q (.panic c) a w := by exact fun _ _ _ _ h => h) (hw : Region.wanted oi (yielded ops a.tmps) = true := by rfl) (hE : E.contains i = false := by rfl) : wpAnyQ ρ E P md ops Q (fuel + 1) listed a w := rr_take i hE hi0 hs hf hr hQ hw ⟨v, hv, h⟩
theorem qAS (i : Nat) {oi : Oper} {fuel : Nat} {listed : Array Bool} {a : Act} {w : World} (hi0 : ops.toList[i]? = some oi)
    (h : ∃ v, (∀ w', (execOp a.eval oi).run P w' = .ok (.value v) w') ∧ wpAnyQ ρ E P md ops Q fuel (listed.setIfInBounds i true) (a.put oi.dst v) w)
    (hs : Region.noSelect ops = true := by kernel_rfl) (hf : (closedB md ops listed && Region.free md ops listed i) = true := by kernel_rfl) (hr : (Region.ready md ops listed).contains i = true := by kernel_rfl)
    (hQ : ∀ c a v w, Q (.panic c) (a.put oi.dst v) w → Q (.panic c) a w := by exact fun _ _ _ _ h => h) (hw : Region.wanted oi (yielded ops a.tmps) = true := by rfl) : wpAnyQ ρ E P md ops Q (fuel + 1) listed a w := rr_takeA i hi0 hs hf hr hQ hw h
theorem qAD (i : Nat) {oi : Oper} {fuel : Nat} {listed : Array Bool} {a : Act} {w : World} {v : Value} (hi0 : ops.toList[i]? = some oi) (h : wpAnyQ ρ E P md ops Q fuel (listed.setIfInBounds i true) (a.put oi.dst v) w)
    (hv : ∀ w', (execOp a.eval oi).run P w' = .ok (.value v) w' := by intros; (go_simp <;> with_reducible rfl))
    (hs : Region.noSelect ops = true := by kernel_rfl) (hf : (closedB md ops listed && Region.free md ops listed i) = true := by kernel_rfl) (hr : (Region.ready md ops listed).contains i = true := by kernel_rfl)
    (hQ : ∀ c a v w, Q (.panic c) (a.put oi.dst v) w → Q (.panic c) a w := by exact fun _ _ _ _ h => h) (hw : Region.wanted oi (yielded ops a.tmps) = true := by rfl) : wpAnyQ ρ E P md ops Q (fuel + 1) listed a w := rr_takeA i hi0 hs hf hr hQ hw ⟨v, hv, h⟩
theorem qK (i : Nat) {oi : Oper} {fuel : Nat} {listed : Array Bool} {a : Act} {w : World} (hi0 : ops.toList[i]? = some oi) (h : wpAnyQ ρ E P md ops Q fuel (listed.setIfInBounds i true) (a.put oi.dst undef) w)
    (hs : Region.noSelect ops = true := by kernel_rfl) (hf : (closedB md ops listed && Region.free md ops listed i) = true := by kernel_rfl) (hr : (Region.ready md ops listed).contains i = true := by kernel_rfl)
    (hQ : ∀ c a v w, Q (.panic c) (a.put oi.dst v) w → Q (.panic c) a w := by exact fun _ _ _ _ h => h) (hw : Region.wanted oi (yielded ops a.tmps) = false := by rfl) : wpAnyQ ρ E P md ops Q (fuel + 1) listed a w := rr_skip i hi0 hs hf hr hQ hw h
theorem rr_one (i : Nat) {oi : Oper} {fuel : Nat} {listed : Array Bool} {a : Act} {w : World} (hi0 : ops.toList[i]? = some oi)
  (hr : Region.ready md ops listed = [i]) (hw : Region.wanted oi (yielded ops a.tmps) = true)
  (h : oi.wp P a w (fun a' w' => (ρ.r w w' ∨ waitsE E md ops listed i = true) ∧ wpAnyQ ρ E P md ops Q fuel (listed.setIfInBounds i true) a' w') Q) : wpAnyQ ρ E P md ops Q (fuel + 1) listed a w := by
 have hi : ops[i]? = some oi := by rw [← hi0]; simp
 refine ⟨fun h0 => absurd (hr ▸ h0) (by simp), fun j hj => ?_⟩
 rw [hr] at hj
 obtain rfl : j = i := by simpa using hj
 unfold wpOp
 rw [hi]
 show if _ then _ else _
 rw [if_pos hw]
 exact .inl h
theorem rr_call (i : Nat) {oi : Oper} {fuel : Nat} {listed : Array Bool} {a : Act} {w : World} {f : FuncId} {args : Array Value} {R : Ending → World → Prop} (hc : Calls P f args w R) (hi0 : ops.toList[i]? = some oi)
  (hr : Region.ready md ops listed = [i]) (hw : Region.wanted oi (yielded ops a.tmps) = true)
  (hx : (execOp a.eval oi).run P w = .ok (.enter f args) w)
  (h : ∀ e w', R e w' → ∃ v, e = .returned v ∧ ρ.r w w' ∧ wpAnyQ ρ E P md ops Q fuel (listed.setIfInBounds i true) (a.put oi.dst v) w') : wpAnyQ ρ E P md ops Q (fuel + 1) listed a w := by
 refine rr_one i hi0 hr hw ?_
 unfold Oper.wp
 rw [hx, Oper.upon_enter]
 refine hc.mono fun e w' hR => ?_
 obtain ⟨v, rfl, h1, h2⟩ := h e w' hR
 exact ⟨.inl h1, h2⟩
theorem rr_make (i : Nat) {oi : Oper} {fuel : Nat} {listed : Array Bool} {a : Act} {w : World} (hi0 : ops.toList[i]? = some oi)
  (hr : Region.ready md ops listed = [i]) (hw : Region.wanted oi (yielded ops a.tmps) = true)
  (h : ∃ v w', (execOp a.eval oi).run P w = .ok (.value v) w' ∧ ρ.r w w' ∧ wpAnyQ ρ E P md ops Q fuel (listed.setIfInBounds i true) (a.put oi.dst v) w') : wpAnyQ ρ E P md ops Q (fuel + 1) listed a w := by
 obtain ⟨v, w', hx, h1, h2⟩ := h
 refine rr_one i hi0 hr hw ?_
 unfold Oper.wp
 rw [hx, Oper.upon_value]
 exact ⟨.inl h1, h2⟩
theorem rr_last (i : Nat) {oi : Oper} {fuel : Nat} {listed : Array Bool} {a : Act} {w : World} (hi0 : ops.toList[i]? = some oi)
  (hr : Region.ready md ops listed = [i]) (hwt : waitsE E md ops listed i = true) (hw : Region.wanted oi (yielded ops a.tmps) = true)
  (h : ∀ K : Act → World → Prop, (∀ a' w', wpAnyQ ρ E P md ops Q fuel (listed.setIfInBounds i true) a' w' → K a' w') → oi.wp P a w K Q) : wpAnyQ ρ E P md ops Q (fuel + 1) listed a w :=
 rr_one i hi0 hr hw (h _ fun _ _ h1 => ⟨.inr hwt, h1⟩)
theorem rr_store (i : Nat) {oi : Oper} {fuel : Nat} {listed : Array Bool} {a : Act} {w : World} (hi0 : ops.toList[i]? = some oi)
  (hr : Region.ready md ops listed = [i]) (hwt : waitsE E md ops listed i = true) (hw : Region.wanted oi (yielded ops a.tmps) = true)
  (h : ∃ w', (execOp a.eval oi).run P w = .ok .skip w' ∧ wpAnyQ ρ E P md ops Q fuel (listed.setIfInBounds i true) (a.put oi.dst undef) w') : wpAnyQ ρ E P md ops Q (fuel + 1) listed a w := by
 obtain ⟨w', hx, h2⟩ := h
 refine rr_one i hi0 hr hw ?_
 unfold Oper.wp
 rw [hx, Oper.upon_skip]
 exact ⟨.inr hwt, h2⟩
theorem rr_done {fuel : Nat} {listed : Array Bool} {a : Act} {w : World} (hr : Region.ready md ops listed = []) (h : Q .normal a w) : wpAnyQ ρ E P md ops Q fuel listed a w := by
 cases fuel with
 | zero => exact ⟨hr, h⟩
 | succ n => exact ⟨fun _ => h, by rw [hr]; simp⟩
theorem rr_callW (i : Nat) {oi : Oper} {fuel : Nat} {listed : Array Bool} {a : Act} {w : World} {f : FuncId} {args : Array Value} {R : Ending → World → Prop} (hc : Calls P f args w R) (hi0 : ops.toList[i]? = some oi)
  (hr : Region.ready md ops listed = [i]) (hwt : waitsE E md ops listed i = true) (hw : Region.wanted oi (yielded ops a.tmps) = true)
  (hx : (execOp a.eval oi).run P w = .ok (.enter f args) w)
  (h : ∀ e w', R e w' → ∃ v, e = .returned v ∧ wpAnyQ ρ E P md ops Q fuel (listed.setIfInBounds i true) (a.put oi.dst v) w') : wpAnyQ ρ E P md ops Q (fuel + 1) listed a w := by
 refine rr_one i hi0 hr hw ?_
 unfold Oper.wp
 rw [hx, Oper.upon_enter]
 refine hc.mono fun e w' hR => ?_
 obtain ⟨v, rfl, h2⟩ := h e w' hR
 exact ⟨.inr hwt, h2⟩
end
end Go.Proofs.YtjholekgdnhpkaaGreatDoor
namespace Go.Proofs.YtjholekgdnhpkaaGreatDoor
open Go.RowKit
def extW : Wr := ⟨Ext, Ext.refl, Ext.tr⟩
abbrev MT : TypeId := 31
end Go.Proofs.YtjholekgdnhpkaaGreatDoor
