/- Contracts of sealed pages: kinds, whether two pages are the same (page, scowref05). -/
import Derived.Test.YtphjbemlofdepaaVintNum
import Derived.Test.YtphjbemlofdepaaReg2
import Derived.MapKept
namespace Go.Proofs.Ytphjbemlofdepaa
open Go.RowKit
attribute [local go_sem] Oper.semAt_some

/-- A page as it lies in cells. -/
structure Pg where
  kind : Int
  lsn : Nat
  a : Option Addr
  body : List UInt8
  c : Nat
def Pg.val (p : Pg) : Value := .agg #[.int .i64 p.kind, .int .u64 (p.lsn : Int), .slice p.a p.body.length p.c]
def isKind (k : Int) : Bool := decide (1 ≤ k) && decide (k ≤ 5)

theorem kind_any (k : Int) (w : World) : Calls Try.prog 14 #[.int .i64 k] w fun e w' => e = .returned (.bool (isKind k)) ∧ w = w' := by
  unfold isKind
  cases h : decide (1 ≤ k) <;> (
    go_enter Try.func14, Try.ntmps14
    go_wp2
    go_ret
    exact ⟨by simp, rfl⟩)
theorem ref_kind (k : Int) (w : World) : Calls Try.prog 17 #[.int .i64 k] w fun e w' => e = .returned (.bool (isKind k)) ∧ w = w' := by
  unfold isKind
  cases h : decide (1 ≤ k) <;> (
    go_enter Try.func17, Try.ntmps17
    go_wp2
    go_ret
    exact ⟨by simp, rfl⟩)
theorem num05 (v : Int) (w : World) : Calls Try.prog 11 #[.int .i64 v] w fun e w' => e = .returned (.int .i64 v) ∧ w = w' := by
  go_enter Try.func11, Try.ntmps11
  go_wp2
  go_ret
  exact ⟨rfl, rfl⟩

theorem bytes_eq (l m : List UInt8) : ((⟨l.toArray⟩ : ByteArray) == ⟨m.toArray⟩) = (l == m) := by
  rw [Bool.eq_iff_iff, Go.MapKept.bytes_beq, beq_iff_eq]
  constructor
  · intro e
    injection e with e
    simpa using congrArg Array.toList e
  · rintro rfl; rfl

/-- Whether two pages are the same. -/
def Pg.same (p q : Pg) : Bool := (p.kind == q.kind) && ((p.lsn : Int) == (q.lsn : Int)) && (p.body == q.body)

set_option maxRecDepth 100000 in
set_option maxHeartbeats 1000000 in
theorem equal_any (A B : Option Addr) (p q : List UInt8) (c d : Nat) (w : World) (hA : RdB w A p) (hB : RdB w B q) :
    Calls Try.prog 24 #[.slice A p.length c, .slice B q.length d] w fun e w' => e = .returned (.bool (p == q)) ∧ w = w' := by
  have r1 := run_str w 23 9 5 A p c Try.underlying23 Try.underlying5 Try.underlying9 hA p.length rfl
  have r2 := run_str w 23 9 5 B q d Try.underlying23 Try.underlying5 Try.underlying9 hB q.length rfl
  have Heq := Lib.hid (bytes_eq p q)
  go_enter Try.func24, Try.ntmps24
  go_wp2
  go_ret
  exact ⟨by rw [← Heq.out]; rfl, rfl⟩

set_option maxRecDepth 100000 in
set_option maxHeartbeats 1000000 in
theorem same_any (p q : Pg) (w : World) (hA : RdB w p.a p.body) (hB : RdB w q.a q.body) :
    Calls Try.prog 13 #[p.val, q.val] w fun e w' => e = .returned (.bool (p.same q)) ∧ Below w.heap.size w w' := by
  obtain ⟨k, l, A, b, c⟩ := p
  obtain ⟨k2, l2, A2, b2, c2⟩ := q
  simp only [Pg.val, Pg.same] at *
  have He := Lib.hid (fun W (h1 : RdB W A b) (h2 : RdB W A2 b2) => equal_any A A2 b b2 c c2 W h1 h2)
  cases h1 : (k == k2) <;> cases h2 : ((l : Int) == (l2 : Int))
  all_goals
    go_enter Try.func13, Try.ntmps13
    go_wp2_with fail
    have hE := Ext.tr (Ext.alloc w (.cells #[.int .i64 k, .int .u64 (l : Int), .slice A b.length c] 25)) (Ext.alloc _ (.cells #[.int .i64 k2, .int .u64 (l2 : Int), .slice A2 b2.length c2] 25))
    first
      | (refine (He.out _ (hA.below hE) (hB.below hE)).mono ?_
         rintro e w' ⟨rfl, rfl⟩
         go_wp2
         go_ret
         exact ⟨by simp, hE⟩)
      | (go_ret
         exact ⟨by simp, hE⟩)

set_option maxRecDepth 100000 in
set_option maxHeartbeats 1000000 in
theorem ref_same (p q : Pg) (w : World) (hA : RdB w p.a p.body) (hB : RdB w q.a q.body) :
    Calls Try.prog 12 #[p.val, q.val] w fun e w' => e = .returned (.bool (p.same q)) ∧ Below w.heap.size w w' := by
  obtain ⟨k, l, A, b, c⟩ := p
  obtain ⟨k2, l2, A2, b2, c2⟩ := q
  simp only [Pg.val, Pg.same] at *
  have hE := Ext.tr (Ext.alloc w (.cells #[.int .i64 k, .int .u64 (l : Int), .slice A b.length c] 25)) (Ext.alloc _ (.cells #[.int .i64 k2, .int .u64 (l2 : Int), .slice A2 b2.length c2] 25))
  have r1 := run_str _ 23 9 5 A b c Try.underlying23 Try.underlying5 Try.underlying9 (hA.below hE) b.length rfl
  have r2 := run_str _ 23 9 5 A2 b2 c2 Try.underlying23 Try.underlying5 Try.underlying9 (hB.below hE) b2.length rfl
  have HE := Lib.hid hE
  clear hE
  cases h1 : (k == k2) <;> cases h2 : ((l : Int) == (l2 : Int))
  all_goals
    go_enter Try.func12, Try.ntmps12
    go_wp2_with fail
    go_ret
    exact ⟨by simp, HE.out⟩
end Go.Proofs.Ytphjbemlofdepaa
