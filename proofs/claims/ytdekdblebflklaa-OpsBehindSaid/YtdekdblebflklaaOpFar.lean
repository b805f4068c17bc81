
/- Words: where bytes lie that were read (FarB, EnV.At), results out of a row (the general part of XEntGet2). -/

import Derived.Test.YtdekdblebflklaaVintRef2

import Derived.Test.YtdekdblebflklaaEntPut

import Derived.Laws.ResultCell

namespace Go.Proofs.Ytdekdblebflklaa

open Go.RowKit

attribute [local go_sem] Oper.semAt_some

theorem results_row_tmp2 {P : Program} {fn : Func} {p u v : Tmp} {ty : TypeId} (h : fn.results = #[.cell p ty, .tmp u, .tmp v]) (tmps : Array Value) (w : World) (g : Nat) (t : TypeId) (cs : Array Value) (fr : Nat × Nat) (d : TypeDesc)
    (hp : tmps.getD p undef = .pointer (some ⟨g, 0, none⟩)) (hg : w.heap[g]? = some (.cells cs t fr))
    (hu : P.underlying ty = some d) (hd : (match d with | .struct _ | .array _ _ => true | _ => false) = true) (hi : (P.info? ty).map (·.size) = some cs.size) :
    (results fn tmps).run P w = .ok (.tuple #[.agg cs, tmps.getD u undef, tmps.getD v undef]) w := by
  have h2 : (results fn tmps).run P w = ((asAddr (tmps.getD p undef)).run P w).andThen fun a w₁ => ((loadVar ty a).run P w₁).andThen fun x w₂ => .ok (.tuple #[x, tmps.getD u undef, tmps.getD v undef]) w₂ := by
    simp only [results, h]
    simp [Sem.run_bind, Result.andThen]
  rw [h2, hp]
  simp [asAddr, run_loadVar_row w g t ty cs fr d hg hu hd hi, Result.andThen]

theorem Vint.getBytes_le (b : List UInt8) : (Vint.getBytes b).2.1 ≤ b.length := by
  have h := Vint.get_le b
  unfold Vint.getBytes
  split
  · simp
  · split
    · simp
    · simp only; omega
theorem getb (A : Option Addr) (bs : List UInt8) (cap : Nat) (w : World) (hA : RdB w A bs) (hl : bs.length ≤ 1000000) (hc : bs.length ≤ cap) {k : List UInt8} {n x : Nat} (h : Vint.getBytes bs = (k, n, x)) :
    Calls Try.prog 52 #[.slice A bs.length cap] w fun e w' => ∃ A' c', e = .returned (.tuple #[.slice A' k.length c', .int .i64 (n : Int), .int .i64 (x : Int)]) ∧ RdB w' A' k ∧ k.length ≤ c' ∧ Own w' w.heap.size 5 1 A' k.length c' (bvs k) ∧ Below w.heap.size w w' := by
  refine (getbytes_any A bs cap w hA hl hc).mono ?_
  rintro e w' ⟨A', c', rfl, ho, hb⟩
  rw [h] at ho ⊢
  exact ⟨A', c', rfl, ho.rd', ho.nc, ho, hb⟩
theorem own_setRow {w : World} {B t n c g : Nat} {A : Option Addr} {xs : List Value} (h : Own w B t 1 A n c xs) (hg : g < B) (cs : Array Value) : Own (w.setRow g cs) B t 1 A n c xs :=
  h.kept (row := some g) ⟨rfl, rfl, rfl, by simp, fun k _ hn => setRow_other _ _ _ _ (fun e => hn (by rw [e]))⟩ (fun k hk e => by injection e with e; have := (h.row_lt k hk).1; omega)
/-- Where bytes lie: at or above B, in a row of bytes. -/
def FarB (B : Nat) (W : World) (A : Option Addr) (d : List UInt8) : Prop := d ≠ [] → ∃ ad cur fr, A = some ad ∧ B ≤ ad.block ∧ W.heap[ad.block]? = some (.cells cur 5 fr)
theorem Own.far {w : World} {B n c : Nat} {A : Option Addr} {d : List UInt8} (h : Own w B 5 1 A n c (bvs d)) {B' : Nat} (hB : B' ≤ B) : FarB B' w A d := by
  intro hd
  rcases h.mem with h0 | ⟨g, off, cur, hA, hb, hg, _⟩
  · exfalso
    have h1 := h.len
    have h2 := h.nc
    rw [bvs_len] at h1
    have := List.length_pos_iff.2 hd
    omega
  · exact ⟨_, cur, (0, 0), hA, by show _ ≤ g; omega, hg⟩
theorem FarB.kept {W W' : World} {A : Option Addr} {d : List UInt8} {B : Nat} {row : Option Nat} (hf : FarB B W A d) (hg : W.grownBy W' row) (hr : ∀ r, row = some r → r < B ∨ ∀ cur fr, W.heap[r]? ≠ some (.cells cur 5 fr)) : FarB B W' A d := by
  intro hd
  obtain ⟨ad, cur, fr, hA, hb, hh⟩ := hf hd
  refine ⟨ad, cur, fr, hA, hb, (hg.block _ (lt_of_heap hh) (fun e => ?_)).trans hh⟩
  rcases hr _ e.symm with h | h
  · omega
  · exact h _ _ hh
/-- Bytes stay where another block turns. -/
theorem RdB.kept {W W' : World} {A : Option Addr} {d : List UInt8} {B : Nat} {row : Option Nat} (h : RdB W A d) (hf : FarB B W A d) (hg : W.grownBy W' row) (hr : ∀ r, row = some r → r < B ∨ ∀ cur fr, W.heap[r]? ≠ some (.cells cur 5 fr)) : RdB W' A d := by
  refine ⟨h.1, fun hx => ?_⟩
  obtain ⟨ad, hA, hc⟩ := h.2 hx
  have hd : d ≠ [] := by intro e; subst e; exact hx rfl
  obtain ⟨ad', cur, fr, hA', hb, hh⟩ := hf hd
  rw [hA] at hA'
  injection hA' with hA'
  subst hA'
  refine ⟨ad, hA, fun j u hj => ?_⟩
  have h1 := hc j u hj
  have hblk : (ad.add j).block = ad.block := by unfold Addr.add; split <;> rfl
  have h2 : W'.heap[(ad.add j).block]? = W.heap[(ad.add j).block]? := by
    rw [hblk]
    refine hg.block _ (lt_of_heap hh) (fun e => ?_)
    rcases hr _ e.symm with h | h
    · omega
    · exact h _ _ hh
  unfold World.cell? at h1 ⊢
  rw [h2]
  exact h1
/-- An entry in memory, and where its bytes lie. -/
structure EnV.At (B : Nat) (W : World) (e : EnV) : Prop where
  i : e.In W
  k : FarB B W e.ka e.x.key
  v : FarB B W e.va e.x.val
theorem EnV.at_nil (B : Nat) (W : World) (a : Option Addr) (b : Nat) (c : Option Addr) (d : Nat) : EnV.At B W ⟨a, b, c, d, ⟨[], []⟩⟩ := ⟨⟨RdB.nil_ _ _, RdB.nil_ _ _, Nat.zero_le _, Nat.zero_le _⟩, fun h => absurd rfl h, fun h => absurd rfl h⟩
theorem EnV.At.kept {W W' : World} {e : EnV} {B : Nat} {row : Option Nat} (h : e.At B W) (hg : W.grownBy W' row) (hr : ∀ r, row = some r → r < B ∨ ∀ cur fr, W.heap[r]? ≠ some (.cells cur 5 fr)) : e.At B W' :=
  ⟨⟨h.i.kr.kept h.k hg hr, h.i.vr.kept h.v hg hr, h.i.kcap, h.i.vcap⟩, h.k.kept hg hr, h.v.kept hg hr⟩
theorem EnV.At.ext {W W' : World} {e : EnV} {B : Nat} (h : e.At B W) (hE : Ext W W') : e.At B W' := h.kept (grown_ext hE none) (fun r e => by cases e)
theorem FarB.mono {B B' : Nat} {W : World} {A : Option Addr} {d : List UInt8} (h : FarB B W A d) (hB : B' ≤ B) : FarB B' W A d := fun hd => let ⟨ad, c, f, h1, h2, h3⟩ := h hd; ⟨ad, c, f, h1, by omega, h3⟩
theorem EnV.At.mono {B B' : Nat} {W : World} {e : EnV} (h : e.At B W) (hB : B' ≤ B) : e.At B' W := ⟨h.i, h.k.mono hB, h.v.mono hB⟩
theorem grown_row (w : World) (g : Nat) (cs : Array Value) : w.grownBy (w.setRow g cs) (some g) := ⟨rfl, rfl, rfl, by simp, fun k _ hn => setRow_other _ _ _ _ (fun e => hn (by rw [e]))⟩
end Go.Proofs.Ytdekdblebflklaa
