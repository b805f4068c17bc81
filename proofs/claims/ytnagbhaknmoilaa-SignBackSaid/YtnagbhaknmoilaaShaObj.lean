
/- The program's digests, with the bytes that came in told apart from the blocks (sha.New, Write, Sum, sha.Sum). -/

import Derived.Test.YtnagbhaknmoilaaShaSum

namespace Go.Proofs.Ytnagbhaknmoilaa

open Go.RowKit

/-- A Hash of the bytes d at block g; it and the row of its rest lie from block B on. -/
structure HashOf (w : World) (B g : Nat) (d : List UInt8) (row : Option Nat) : Prop where
  ex : ∃ A c, w.heap[g]? = some (.cells (hashC (Sha.words d) (.slice A (Sha.rest d).length c) d.length) 78 (0, 0)) ∧ Own w B 5 1 A (Sha.rest d).length c (bvs (Sha.rest d)) ∧ ownRow A c = row
  hB : B ≤ g
  ne : ∀ k, row = some k → k ≠ g ∧ B ≤ k ∧ k < w.heap.size

theorem RdB.block_lt {w : World} {A : Option Addr} {p : List UInt8} (h : RdB w A p) (hp : p ≠ []) : ∀ ad, A = some ad → ad.block < w.heap.size := by
  intro ad e
  obtain ⟨ad', h1, h2⟩ := h.at_ (k := 0) (by cases p with | nil => exact absurd rfl hp | cons _ _ => simp)
  rw [e] at h1
  cases h1
  have h3 := World.block_lt_of_cell? _ _ h2
  rwa [add_block] at h3
theorem HashOf.lt {w : World} {B g : Nat} {d : List UInt8} {row : Option Nat} (h : HashOf w B g d row) : g < w.heap.size := by
  obtain ⟨A, c, h1, _⟩ := h.ex
  exact lt_of_heap h1
theorem HashOf.below {w w' : World} {B g : Nat} {d : List UInt8} {row : Option Nat} (h : HashOf w B g d row) (hb : Below w.heap.size w w') : HashOf w' B g d row := by
  obtain ⟨A, c, h1, h2, h3⟩ := h.ex
  exact ⟨⟨A, c, (hb.block _ (lt_of_heap h1)).trans h1, h2.below hb, h3⟩, h.hB, fun k hk => ⟨(h.ne k hk).1, (h.ne k hk).2.1, Nat.lt_of_lt_of_le (h.ne k hk).2.2 hb.size⟩⟩
/-- Another Hash is written. -/
theorem HashOf.apart {w w' : World} {B g g2 : Nat} {d : List UInt8} {row row2 : Option Nat} (h : HashOf w B g d row) (hK : KeptG w w' g2 row2) (h1 : g ≠ g2) (h2 : some g ≠ row2) (h3 : ∀ k, row = some k → k ≠ g2 ∧ some k ≠ row2) : HashOf w' B g d row := by
  obtain ⟨A, c, e1, e2, e3⟩ := h.ex
  refine ⟨⟨A, c, (hK.block _ (lt_of_heap e1) h1 h2).trans e1, ?_, e3⟩, h.hB, fun k hk => ⟨(h.ne k hk).1, (h.ne k hk).2.1, Nat.lt_of_lt_of_le (h.ne k hk).2.2 hK.size⟩⟩
  rcases e2.mem with h0 | ⟨q, off, cur, f1, f2, f3, f4, f5⟩
  · exact ⟨e2.len, e2.nc, e2.cm, .inl h0⟩
  · by_cases hc0 : c = 0
    · exact ⟨e2.len, e2.nc, e2.cm, .inl hc0⟩
    · have hr : row = some q := by rw [← e3, f1]; unfold ownRow; rw [if_neg hc0]; rfl
      obtain ⟨k1, k2⟩ := h3 q hr
      exact ⟨e2.len, e2.nc, e2.cm, .inr ⟨q, off, cur, f1, f2, (hK.block _ (lt_of_heap f3) k1 k2).trans f3, f4, f5⟩⟩

theorem hash_new (w : World) : Calls Try.prog 27 #[] w fun e w' => ∃ g, e = .returned (.pointer (some ⟨g, 0, none⟩)) ∧ HashOf w' w.heap.size g [] none ∧ Below w.heap.size w w' := by
  refine (new_any w).mono ?_
  rintro e w' ⟨g, rfl, hg, hh, hb⟩
  exact ⟨g, rfl, ⟨⟨none, 0, hh, Own.none_ _ _ _ _ _, rfl⟩, hg, fun k hk => by cases hk⟩, hb⟩

theorem hash_write (B g : Nat) (d : List UInt8) (row : Option Nat) (A : Option Addr) (p : List UInt8) (cap : Nat) (w : World) (hh : HashOf w B g d row) (hBw : B ≤ w.heap.size) (hA : RdB w A p) (hAg : p ≠ [] → ∀ ad, A = some ad → ad.block ≠ g)
    (hl : d.length + p.length ≤ 100000) :
    Calls Try.prog 28 #[.pointer (some ⟨g, 0, none⟩), .slice A p.length cap] w fun e w' => ∃ row', e = .returned (.int .i64 (p.length : Int)) ∧ HashOf w' B g (d ++ p) row' ∧ (∀ k, row' = some k → w.heap.size ≤ k) ∧ KeptG w w' g row ∧ Below B w w' := by
  obtain ⟨R, c, h1, h2, h3⟩ := hh.ex
  have hrl := Sha.rest_len d
  refine (write_any g (Sha.words d) (Sha.rest d) R c d.length B A p cap w h1 h2 hBw (fun k hk => (hh.ne k (h3 ▸ hk)).1) hA hAg (by omega) (by omega)).mono ?_
  rintro e w' ⟨A', c', rfl, g1, g2, g3⟩
  rw [h3] at g3
  have hgl := hh.lt
  rw [← Sha.words_app, ← Sha.rest_app, ← List.length_append] at g1
  rw [← Sha.rest_app] at g2
  refine ⟨ownRow A' c', rfl, ⟨⟨A', c', g1, g2.mono hBw, rfl⟩, hh.hB, fun k hk => ?_⟩, fun k hk => (g2.row_lt k hk).1, g3, g3.below hBw hh.hB (fun k hk => (hh.ne k hk).2.1)⟩
  have h4 := g2.row_lt k hk
  exact ⟨by omega, by omega, h4.2⟩

theorem sum_is (d : List UInt8) : Sha.out (Sha.run (Sha.words d) (Sha.rest d ++ tl (Sha.rest d).length d.length) ((Sha.rest d ++ tl (Sha.rest d).length d.length).length / 64)) = Sha.sum d := by
  have h1 : tl (Sha.rest d).length d.length = Sha.tail d.length := by
    unfold tl Sha.tail
    have : Sha.padn (Sha.rest d).length = Sha.padn d.length := by rw [Sha.rest_len]; unfold Sha.padn; omega
    rw [this]
  rw [h1, ← Sha.words_app]
  rfl
theorem hash_sum (B g : Nat) (d : List UInt8) (row : Option Nat) (w : World) (hh : HashOf w B g d row) (hl : d.length ≤ 100000) :
    Calls Try.prog 29 #[.pointer (some ⟨g, 0, none⟩)] w fun e w' => e = .returned (.agg (bvs (Sha.sum d)).toArray) ∧ Below w.heap.size w w' := by
  obtain ⟨R, c, h1, h2, h3⟩ := hh.ex
  have hrl := Sha.rest_len d
  refine (sum_raw g (Sha.words d) (Sha.rest d) R c d.length w h1 h2.rd' (by omega) (by omega)).mono ?_
  rintro e w' ⟨rfl, hb⟩
  rw [sum_is]
  exact ⟨rfl, hb⟩

end Go.Proofs.Ytnagbhaknmoilaa
