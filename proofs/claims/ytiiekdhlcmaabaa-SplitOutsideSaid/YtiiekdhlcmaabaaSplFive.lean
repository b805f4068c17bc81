
/- Contract: five entries (the laws' five); what live asks of them, plain. -/

import Derived.Test.YtiiekdhlcmaabaaSplDiffer

import Derived.Test.YtiiekdhlcmaabaaSplCover

import Derived.Lib.SlBytesConst

namespace Go.Proofs.Ytiiekdhlcmaabaa

open Go.RowKit

attribute [local go_sem] Oper.semAt_some

theorem conv_const5 {P : Program} {t e : TypeId} (ht : P.underlying t = some (.slice e)) (he : P.underlying e = some (.int .u8)) (w : World) (C : Array Value) (n c b : Nat) (hb : b = w.heap.size) :
    (convert t t (.slice (some ⟨b, 0, none⟩) n c)).run P (w.alloc (.cells C e)) = .ok (.slice (some ⟨b, 0, none⟩) n c) (w.alloc (.cells C e (C.size, C.size + 1))) := by
  subst hb
  exact Lib.run_convert_bytes_const w t e C n c ht he
def l5 : List Ent := [⟨[97], []⟩, ⟨[98], []⟩, ⟨[99], []⟩, ⟨[100], []⟩, ⟨[101], []⟩]
def p5 : List Pt := [⟨[], [99], 2, Ent.digest [⟨[97], []⟩, ⟨[98], []⟩]⟩, ⟨[99], [], 3, Ent.digest [⟨[99], []⟩, ⟨[100], []⟩, ⟨[101], []⟩]⟩]
theorem l5_split : Spl.split l5 [] [] 2 = p5 := rfl
theorem p5_cov : Spl.Cov [] [] p5 := by
  refine ⟨by decide, rfl, rfl, fun k hk => ?_⟩
  have h2 : k = 0 ∨ k = 1 := by have : p5.length = 2 := rfl; omega
  rcases h2 with rfl | rfl
  · exact ⟨fun _ => by show [99] ≠ ([] : List UInt8); simp, fun _ => rfl, fun _ => rfl⟩
  · exact ⟨fun h => absurd h (by decide), fun h => absurd rfl h, fun h => absurd h (by decide)⟩
theorem l5_differ : Spl.differ (l5.drop 1) p5 = [0] := by
  have d0 : Spl.diffs (l5.drop 1) ⟨[], [99], 2, Ent.digest [⟨[97], []⟩, ⟨[98], []⟩]⟩ = true := rfl
  have d1 : Spl.diffs (l5.drop 1) ⟨[99], [], 3, Ent.digest [⟨[99], []⟩, ⟨[100], []⟩, ⟨[101], []⟩]⟩ = false := by
    unfold Spl.diffs
    rw [show (Ent.partOf (l5.drop 1) [99] []).sum = Ent.digest [⟨[99], []⟩, ⟨[100], []⟩, ⟨[101], []⟩] from rfl, show (Ent.partOf (l5.drop 1) [99] []).count = 3 from rfl]
    simp
  have e0 := Spl.differ_snoc (l5.drop 1) p5 0 (by decide)
  have e1 := Spl.differ_snoc (l5.drop 1) p5 1 (by decide)
  rw [show p5[0]'(by decide) = ⟨[], [99], 2, Ent.digest [⟨[97], []⟩, ⟨[98], []⟩]⟩ from rfl, d0] at e0
  rw [show p5[1]'(by decide) = ⟨[99], [], 3, Ent.digest [⟨[99], []⟩, ⟨[100], []⟩, ⟨[101], []⟩]⟩ from rfl, d1] at e1
  show Spl.differK (l5.drop 1) p5 (1 + 1) = [0]
  rw [e1, show (1 : Nat) = 0 + 1 from rfl, e0]
  rfl

set_option maxRecDepth 100000 in
set_option maxHeartbeats 2000000 in
theorem five18 (w : World) : Calls Try.prog 27 #[] w fun e w' => ∃ A L, e = .returned (.slice A 5 5) ∧ L.map EnV.x = l5 ∧ RdE w' A L ∧ Below w.heap.size w w' := by
  have kc := conv_const5 (P := Try.prog) Try.underlying23 Try.underlying5
  go_enter Try.func27, Try.ntmps27
  go_wp2_with fail
  go_ret
  have e0 := Ext.alloc w (.cells #[.int .u8 97] 5 (1, 2))
  have r0 := RdB.litF w 5 [97] (1, 2)
  obtain ⟨w1, hw1⟩ : ∃ w1, w1 = w.alloc (.cells #[.int .u8 97] 5 (1, 2)) := ⟨_, rfl⟩
  have s1 : w1.heap.size = w.heap.size + 1 := by rw [hw1, World.size_alloc]
  rw [← hw1] at e0
  have r0' : RdB w1 (some ⟨w.heap.size, 0, none⟩) [97] := by rw [hw1]; exact r0
  rw [← hw1]
  have e1 := Ext.alloc w1 (.cells #[.int .u8 98] 5 (1, 2))
  have r1 := RdB.litF w1 5 [98] (1, 2)
  obtain ⟨w2, hw2⟩ : ∃ w2, w2 = w1.alloc (.cells #[.int .u8 98] 5 (1, 2)) := ⟨_, rfl⟩
  have s2 : w2.heap.size = w.heap.size + 1 + 1 := by rw [hw2, World.size_alloc, s1]
  rw [← hw2] at e1
  have r1' : RdB w2 (some ⟨w1.heap.size, 0, none⟩) [98] := by rw [hw2]; exact r1
  rw [← hw2]
  have e2 := Ext.alloc w2 (.cells #[.int .u8 99] 5 (1, 2))
  have r2 := RdB.litF w2 5 [99] (1, 2)
  obtain ⟨w3, hw3⟩ : ∃ w3, w3 = w2.alloc (.cells #[.int .u8 99] 5 (1, 2)) := ⟨_, rfl⟩
  have s3 : w3.heap.size = w.heap.size + 1 + 1 + 1 := by rw [hw3, World.size_alloc, s2]
  rw [← hw3] at e2
  have r2' : RdB w3 (some ⟨w2.heap.size, 0, none⟩) [99] := by rw [hw3]; exact r2
  rw [← hw3]
  have e3 := Ext.alloc w3 (.cells #[.int .u8 100] 5 (1, 2))
  have r3 := RdB.litF w3 5 [100] (1, 2)
  obtain ⟨w4, hw4⟩ : ∃ w4, w4 = w3.alloc (.cells #[.int .u8 100] 5 (1, 2)) := ⟨_, rfl⟩
  have s4 : w4.heap.size = w.heap.size + 1 + 1 + 1 + 1 := by rw [hw4, World.size_alloc, s3]
  rw [← hw4] at e3
  have r3' : RdB w4 (some ⟨w3.heap.size, 0, none⟩) [100] := by rw [hw4]; exact r3
  rw [← hw4]
  have e4 := Ext.alloc w4 (.cells #[.int .u8 101] 5 (1, 2))
  have r4 := RdB.litF w4 5 [101] (1, 2)
  obtain ⟨w5, hw5⟩ : ∃ w5, w5 = w4.alloc (.cells #[.int .u8 101] 5 (1, 2)) := ⟨_, rfl⟩
  have s5 : w5.heap.size = w.heap.size + 1 + 1 + 1 + 1 + 1 := by rw [hw5, World.size_alloc, s4]
  rw [← hw5] at e4
  have r4' : RdB w5 (some ⟨w4.heap.size, 0, none⟩) [101] := by rw [hw5]; exact r4
  rw [← hw5]
  rw [s1] at r1'
  rw [s2] at r2'
  rw [s3] at r3'
  rw [s4] at r4'
  have hx := Ext.alloc w5 (.cells #[.slice (some ⟨w.heap.size, 0, none⟩) 1 1, .slice none 0 0, .slice (some ⟨w.heap.size + 1, 0, none⟩) 1 1, .slice none 0 0, .slice (some ⟨w.heap.size + 1 + 1, 0, none⟩) 1 1, .slice none 0 0, .slice (some ⟨w.heap.size + 1 + 1 + 1, 0, none⟩) 1 1, .slice none 0 0, .slice (some ⟨w.heap.size + 1 + 1 + 1 + 1, 0, none⟩) 1 1, .slice none 0 0] 49)
  have g := heap_alloc_new w5 (.cells #[.slice (some ⟨w.heap.size, 0, none⟩) 1 1, .slice none 0 0, .slice (some ⟨w.heap.size + 1, 0, none⟩) 1 1, .slice none 0 0, .slice (some ⟨w.heap.size + 1 + 1, 0, none⟩) 1 1, .slice none 0 0, .slice (some ⟨w.heap.size + 1 + 1 + 1, 0, none⟩) 1 1, .slice none 0 0, .slice (some ⟨w.heap.size + 1 + 1 + 1 + 1, 0, none⟩) 1 1, .slice none 0 0] 49)
  rw [s5] at g
  have n0 := (((((r0'.below e1).below e2).below e3).below e4).below hx)
  have n1 := ((((r1'.below e2).below e3).below e4).below hx)
  have n2 := (((r2'.below e3).below e4).below hx)
  have n3 := ((r3'.below e4).below hx)
  have n4 := r4'.below hx
  refine ⟨some ⟨w.heap.size + 1 + 1 + 1 + 1 + 1, 0, none⟩, [⟨some ⟨w.heap.size, 0, none⟩, 1, none, 0, ⟨[97], []⟩⟩, ⟨some ⟨w.heap.size + 1, 0, none⟩, 1, none, 0, ⟨[98], []⟩⟩, ⟨some ⟨w.heap.size + 1 + 1, 0, none⟩, 1, none, 0, ⟨[99], []⟩⟩, ⟨some ⟨w.heap.size + 1 + 1 + 1, 0, none⟩, 1, none, 0, ⟨[100], []⟩⟩, ⟨some ⟨w.heap.size + 1 + 1 + 1 + 1, 0, none⟩, 1, none, 0, ⟨[101], []⟩⟩], rfl, rfl, ⟨⟨rfl, fun _ => ⟨_, rfl, fun j u hj => ?_⟩⟩, ?_⟩, Ext.tr e0 (Ext.tr e1 (Ext.tr e2 (Ext.tr e3 (Ext.tr e4 hx))))⟩
  · rw [Addr.add_lit, cell_of_row _ _ _ _ _ _ g]
    simpa [ecs, EnV.cells] using hj
  · intro e he
    simp only [List.mem_cons, List.not_mem_nil, or_false] at he
    rcases he with rfl | rfl | rfl | rfl | rfl
    · exact ⟨n0, RdB.nil_ _ _, Nat.le_refl _, Nat.le_refl _⟩
    · exact ⟨n1, RdB.nil_ _ _, Nat.le_refl _, Nat.le_refl _⟩
    · exact ⟨n2, RdB.nil_ _ _, Nat.le_refl _, Nat.le_refl _⟩
    · exact ⟨n3, RdB.nil_ _ _, Nat.le_refl _, Nat.le_refl _⟩
    · exact ⟨n4, RdB.nil_ _ _, Nat.le_refl _, Nat.le_refl _⟩
end Go.Proofs.Ytiiekdhlcmaabaa
