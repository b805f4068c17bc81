
/- Contracts: an entry's bytes, entries' bytes (entry.Put, PutAll, the document's). Printed by wip/tools/gen_ent17.py. -/

import Derived.Test.YtdekdblebflklaaProg

import Derived.Test.YtdekdblebflklaaEnt

import Derived.Test.YtdekdblebflklaaReg3

import Derived.Test.YtdekdblebflklaaVintRef2

namespace Go.Proofs.Ytdekdblebflklaa

open Go.RowKit

attribute [local go_sem] Oper.semAt_some

theorem einfo (e : EnV) : (Try.prog.info? 48).map (·.size) = some e.cells.size := by
  rw [show e.cells.size = 2 from rfl]; kernel_rfl
theorem elemE : ElemT Try.prog 22 48 2 48 := ElemT.mk' Try.underlying22 (z := .agg #[.slice none 0 0, .slice none 0 0]) (by kernel_rfl) (by rfl) (by decide)
def Ent.put (e : Ent) : List UInt8 := Vint.putBytes e.key ++ Vint.putBytes e.val
def Ent.putAll (l : List Ent) : List UInt8 := l.flatMap Ent.put
theorem Ent.putAll_snoc (l : List Ent) (k : Nat) (h : k < l.length) : Ent.putAll (l.take (k + 1)) = Ent.putAll (l.take k) ++ l[k].put := by
  unfold Ent.putAll
  rw [List.take_succ_eq_append_getElem h, List.flatMap_append]
  simp
def Ent.size (e : Ent) : Nat := e.key.length + e.val.length
def Ent.total (l : List Ent) : Nat := (l.map Ent.size).foldl (· + ·) 0
theorem foldl_add (l : List Nat) : ∀ n, l.foldl (· + ·) n = n + l.foldl (· + ·) 0 := by
  induction l with
  | nil => intro n; rfl
  | cons x l ih => intro n; simp only [List.foldl_cons]; rw [ih (n + x), ih (0 + x)]; omega
theorem Ent.total_snoc (l : List Ent) (k : Nat) (h : k < l.length) : Ent.total (l.take (k + 1)) = Ent.total (l.take k) + l[k].size := by
  unfold Ent.total
  rw [List.take_succ_eq_append_getElem h, List.map_append, List.foldl_append]
  rfl
theorem Ent.total_cons (e : Ent) (l : List Ent) : Ent.total (e :: l) = e.size + Ent.total l := by
  unfold Ent.total
  simp only [List.map_cons, List.foldl_cons]
  rw [foldl_add]; omega
theorem Ent.one_total (l : List Ent) (k : Nat) (h : k < l.length) : l[k].size ≤ Ent.total l := by
  induction l generalizing k with
  | nil => simp at h
  | cons e l ih =>
    rw [Ent.total_cons]
    cases k with
    | zero => simp
    | succ k => have := ih k (by simpa using h); simp; omega
theorem Ent.put_len (e : Ent) : e.put.length ≤ e.size + 20 := by
  have h1 := (Vint.put_len e.key.length).2
  have h2 := (Vint.put_len e.val.length).2
  simp only [Ent.put, Ent.size, Vint.putBytes, List.length_append]
  omega
theorem Ent.putAll_len (l : List Ent) : (Ent.putAll l).length ≤ Ent.total l + 20 * l.length := by
  induction l with
  | nil => simp [Ent.putAll, Ent.total]
  | cons e l ih =>
    have h1 := e.put_len
    have h2 := Ent.total_cons e l
    show (e.put ++ Ent.putAll l).length ≤ _
    rw [List.length_append, h2, List.length_cons]
    omega
theorem Ent.putAll_take_le (l : List Ent) (k : Nat) : (Ent.putAll (l.take k)).length ≤ (Ent.putAll l).length := by
  conv => rhs; rw [← List.take_append_drop k l]
  unfold Ent.putAll
  rw [List.flatMap_append, List.length_append]
  omega

end Go.Proofs.Ytdekdblebflklaa
