/- Texts of the proof, laid together: EntSame EntGetAll. -/
import Derived.Test.YtjholekgdnhpkaaGreatDoorZ3
import Derived.Test.YtjholekgdnhpkaaGreatDoorZ5
import Derived.Test.YtjholekgdnhpkaaGreatDoorZ1
set_option linter.unusedVariables false
set_option linter.unusedSimpArgs false
set_option linter.unusedSectionVars false
namespace Go.Proofs.YtjholekgdnhpkaaGreatDoor
open Go.RowKit
attribute [local go_sem] Oper.semAt_some
def Ent.sameL : List Ent → List Ent → Bool
 | [], [] => true
 | a :: l, b :: m => (a.key == b.key) && (a.val == b.val) && Ent.sameL l m
 | _, _ => false
theorem Ent.sameL_iff : ∀ (l m : List Ent), Ent.sameL l m = true ↔ l = m
 | [], [] => by simp [Ent.sameL]
 | [], _ :: _ => by simp [Ent.sameL]
 | _ :: _, [] => by simp [Ent.sameL]
 | ⟨k, v⟩ :: l, ⟨k2, v2⟩ :: m => by
  simp only [Ent.sameL, Bool.and_eq_true, beq_iff_eq, Ent.sameL_iff l m, List.cons.injEq, Ent.mk.injEq]
theorem Ent.sameL_refl (l : List Ent) : Ent.sameL l l = true := (Ent.sameL_iff l l).2 rfl
theorem Ent.sameL_ne {l m : List Ent} (h : l ≠ m) : Ent.sameL l m = false := by
 cases hs : Ent.sameL l m with
 | false => rfl
 | true => exact absurd ((Ent.sameL_iff l m).1 hs) h
theorem key_at {w : World} {l : List EnV} {k : Nat} {h : k < l.length} {ad : Addr} (hc : ∀ j u, (l[k].cells)[j]? = some u → w.cell? (ad.add (k * 2 + j)) = some u) : w.cell? (ad.add (k * 2)) = some (.slice l[k].ka l[k].x.key.length l[k].kc) := hc 0 _ rfl
theorem val_at {w : World} {l : List EnV} {k : Nat} {h : k < l.length} {ad : Addr} (hc : ∀ j u, (l[k].cells)[j]? = some u → w.cell? (ad.add (k * 2 + j)) = some u) : w.cell? ⟨(ad.add (k * 2)).block, (ad.add (k * 2)).off + 1, none⟩ = some (.slice l[k].va l[k].x.val.length l[k].vc) := by
 have := hc 1 _ rfl
 rw [← add_add'] at this
 exact this
set_option maxRecDepth 100000 in
set_option maxHeartbeats 2000000 in
theorem ref_same17 (A B : Option Addr) (l m : List EnV) (c d : Nat) (w : World) (hl : RdE w A l) (hm : RdE w B m) (hc : l.length ≤ 1000000) :
  Calls Tryz.prog 28 #[.slice A l.length c, .slice B m.length d] w fun e' w' => e' = .returned (.bool (Ent.sameL (l.map EnV.x) (m.map EnV.x))) ∧ Below w.heap.size w w' := by
 by_cases hlen : l.length = m.length
 ·
  have hne : ((l.length : Int) != (m.length : Int)) = false := by rw [bne_eq_false_iff_eq]; omega
  have hfalse : ∀ k (h : k < l.length) (h2 : k < m.length), l[k].x ≠ m[k].x → Ent.sameL (l.map EnV.x) (m.map EnV.x) = false := fun k h h2 hx => Ent.sameL_ne fun e => hx (by
   have h1 : (l.map EnV.x)[k]? = (m.map EnV.x)[k]? := by rw [e]
   rw [List.getElem?_map, List.getElem?_map, List.getElem?_eq_getElem h, List.getElem?_eq_getElem h2] at h1
   simpa using h1)
  have htrue : (∀ k (h : k < l.length) (h2 : k < m.length), l[k].x = m[k].x) → Ent.sameL (l.map EnV.x) (m.map EnV.x) = true := fun hx => (Ent.sameL_iff _ _).2 (by
   apply List.ext_getElem (by simp [hlen])
   intro k h1 h2
   simpa using hx k (by simpa using h1) (by simpa using h2))
  have HFalse := Lib.hid hfalse
  have HTrue := Lib.hid htrue
  have hm1 : m.length ≤ l.length := by omega
  have hm2 : l.length ≤ m.length := by omega
  have Hlen := Lib.hid hlen
  clear hfalse htrue hlen
  go_enter Tryz.func28, Tryz.ntmps28
  go_wp2
  go_loopw [5] (fun i wr => ∃ k : Nat, k ≤ l.length ∧ i = .int .i64 k ∧ (∀ j (h : j < l.length) (h2 : j < m.length), j < k → l[j].x = m[j].x) ∧ Below w.heap.size w wr) (fun i _ => l.length - (intOf i).toNat)
  case atStart => exact ⟨0, by omega, rfl, fun j _ _ h => absurd h (by omega), Below.refl _ _⟩
  case round =>
   obtain ⟨k, hk, rfl, hpre, hbw⟩ := hrel
   have Hpre := Lib.hid hpre
   clear hpre
   by_cases h : k < l.length
   ·
    have hm3 : k < m.length := by omega
    obtain ⟨ad, rfl, hcell, hin⟩ := (hl.below hbw).at_ h
    obtain ⟨ad2, rfl, hcell2, hin2⟩ := (hm.below hbw).at_ hm3
    have k1 : wr.drew.cell? _ = _ := key_at hcell
    have k2 : wr.drew.cell? _ = _ := key_at hcell2
    have v1 : wr.drew.cell? _ = _ := val_at hcell
    have v2 : wr.drew.cell? _ = _ := val_at hcell2
    have hf := HFalse.out k h hm3
    have HF := Lib.hid hf
    have ik : (0 : Int) ≤ (k : Int) := by omega
    have ik2 : (k : Int) < (l.length : Int) := by omega
    have ik3 : (k : Int) < (m.length : Int) := by omega
    clear hcell hcell2 hf
    have hbd := hbw.trans ((Ext.drew wr).mono hbw.size)
    by_cases hkk : l[k].x.key = m[k].x.key
    ·
     by_cases hvv : l[k].x.val = m[k].x.val
     ·
      have hx : l[k].x = m[k].x := by
       cases e1 : l[k].x; cases e2 : m[k].x
       rw [e1, e2] at hkk hvv
       simp only at hkk hvv
       rw [hkk, hvv]
      have Hx := Lib.hid hx
      have HKK := Lib.hid hkk
      have HVV := Lib.hid hvv
      clear hx hkk hvv
      go_wp2_with fail
      refine rg_start (by kernel_rfl) ?_
      refine gD 0 rfl ?_
      simp only [sP]
      refine gD 1 rfl ?_
      simp only [sP]
      refine gD 2 rfl ?_
      simp only [sP]
      refine gD 3 rfl ?_
      simp only [sP]
      refine gS 4 rfl ⟨_, fun w' hx => by have hcx := hx.load k1; (go_simp <;> with_reducible rfl), ?_⟩
      simp only [sP]
      refine gS 5 rfl ⟨.string ⟨(l[k].x.key).toArray⟩, fun w' hx => ex_convert rfl rfl (run_str w' 23 9 5 l[k].ka l[k].x.key l[k].kc Tryz.underlying23 Tryz.underlying5 Tryz.underlying9 (hin.kr.below (Ext.tr (Ext.drew wr) hx)) (l[k].x.key).length rfl), ?_⟩
      simp only [sP]
      refine gD 6 rfl ?_
      simp only [sP]
      refine gD 7 rfl ?_
      simp only [sP]
      refine gD 8 rfl ?_
      simp only [sP]
      refine gD 9 rfl ?_
      simp only [sP]
      refine gS 10 rfl ⟨_, fun w' hx => by have hcx := hx.load k2; (go_simp <;> with_reducible rfl), ?_⟩
      simp only [sP]
      refine gS 11 rfl ⟨.string ⟨(m[k].x.key).toArray⟩, fun w' hx => ex_convert rfl rfl (run_str w' 23 9 5 m[k].ka m[k].x.key m[k].kc Tryz.underlying23 Tryz.underlying5 Tryz.underlying9 (hin2.kr.below (Ext.tr (Ext.drew wr) hx)) (m[k].x.key).length rfl), ?_⟩
      simp only [sP]
      refine gS 12 rfl ⟨.bool false, fun w' hx => by (have hq := HKK.out; go_simp <;> with_reducible rfl), ?_⟩
      simp only [sP]
      refine gD 13 rfl ?_
      simp only [sP]
      refine gD 14 rfl ?_
      simp only [sP]
      refine gD 15 rfl ?_
      simp only [sP]
      refine gD 16 rfl ?_
      simp only [sP]
      refine gD 17 rfl ?_
      simp only [sP]
      refine gS 18 rfl ⟨_, fun w' hx => by have hcx := hx.load v1; (go_simp <;> with_reducible rfl), ?_⟩
      simp only [sP]
      refine gS 19 rfl ⟨.string ⟨(l[k].x.val).toArray⟩, fun w' hx => ex_convert rfl rfl (run_str w' 23 9 5 l[k].va l[k].x.val l[k].vc Tryz.underlying23 Tryz.underlying5 Tryz.underlying9 (hin.vr.below (Ext.tr (Ext.drew wr) hx)) (l[k].x.val).length rfl), ?_⟩
      simp only [sP]
      refine gD 20 rfl ?_
      simp only [sP]
      refine gD 21 rfl ?_
      simp only [sP]
      refine gD 22 rfl ?_
      simp only [sP]
      refine gD 23 rfl ?_
      simp only [sP]
      refine gS 24 rfl ⟨_, fun w' hx => by have hcx := hx.load v2; (go_simp <;> with_reducible rfl), ?_⟩
      simp only [sP]
      refine gS 25 rfl ⟨.string ⟨(m[k].x.val).toArray⟩, fun w' hx => ex_convert rfl rfl (run_str w' 23 9 5 m[k].va m[k].x.val m[k].vc Tryz.underlying23 Tryz.underlying5 Tryz.underlying9 (hin2.vr.below (Ext.tr (Ext.drew wr) hx)) (m[k].x.val).length rfl), ?_⟩
      simp only [sP]
      refine gS 26 rfl ⟨.bool false, fun w' hx => by (have hq := HVV.out; go_simp <;> with_reducible rfl), ?_⟩
      simp only [sP]
      refine gD 27 rfl ?_
      simp only [sP]
      refine rg_done (by kernel_rfl) ?_
      go_wp2
      go_roundw
      case rel => exact ⟨k + 1, by omega, by go_num, fun j h1 h2 hj => by
       by_cases hjk : j = k
       ·
        subst hjk; exact Hx.out
       ·
        exact Hpre.out j h1 h2 (by omega), hbd⟩
      case measure => simp [intOf]; omega
     ·
      have hvf := HF.out (fun e => hvv (by rw [e]))
      have HV := Lib.hid hvf
      have HKK := Lib.hid hkk
      clear HF hvf hkk
      go_wp2_with fail
      refine rg_start (by kernel_rfl) ?_
      refine gD 0 rfl ?_
      simp only [sP]
      refine gD 1 rfl ?_
      simp only [sP]
      refine gD 2 rfl ?_
      simp only [sP]
      refine gD 3 rfl ?_
      simp only [sP]
      refine gS 4 rfl ⟨_, fun w' hx => by have hcx := hx.load k1; (go_simp <;> with_reducible rfl), ?_⟩
      simp only [sP]
      refine gS 5 rfl ⟨.string ⟨(l[k].x.key).toArray⟩, fun w' hx => ex_convert rfl rfl (run_str w' 23 9 5 l[k].ka l[k].x.key l[k].kc Tryz.underlying23 Tryz.underlying5 Tryz.underlying9 (hin.kr.below (Ext.tr (Ext.drew wr) hx)) (l[k].x.key).length rfl), ?_⟩
      simp only [sP]
      refine gD 6 rfl ?_
      simp only [sP]
      refine gD 7 rfl ?_
      simp only [sP]
      refine gD 8 rfl ?_
      simp only [sP]
      refine gD 9 rfl ?_
      simp only [sP]
      refine gS 10 rfl ⟨_, fun w' hx => by have hcx := hx.load k2; (go_simp <;> with_reducible rfl), ?_⟩
      simp only [sP]
      refine gS 11 rfl ⟨.string ⟨(m[k].x.key).toArray⟩, fun w' hx => ex_convert rfl rfl (run_str w' 23 9 5 m[k].ka m[k].x.key m[k].kc Tryz.underlying23 Tryz.underlying5 Tryz.underlying9 (hin2.kr.below (Ext.tr (Ext.drew wr) hx)) (m[k].x.key).length rfl), ?_⟩
      simp only [sP]
      refine gS 12 rfl ⟨.bool false, fun w' hx => by (have hq := HKK.out; go_simp <;> with_reducible rfl), ?_⟩
      simp only [sP]
      refine gD 13 rfl ?_
      simp only [sP]
      refine gD 14 rfl ?_
      simp only [sP]
      refine gD 15 rfl ?_
      simp only [sP]
      refine gD 16 rfl ?_
      simp only [sP]
      refine gD 17 rfl ?_
      simp only [sP]
      refine gS 18 rfl ⟨_, fun w' hx => by have hcx := hx.load v1; (go_simp <;> with_reducible rfl), ?_⟩
      simp only [sP]
      refine gS 19 rfl ⟨.string ⟨(l[k].x.val).toArray⟩, fun w' hx => ex_convert rfl rfl (run_str w' 23 9 5 l[k].va l[k].x.val l[k].vc Tryz.underlying23 Tryz.underlying5 Tryz.underlying9 (hin.vr.below (Ext.tr (Ext.drew wr) hx)) (l[k].x.val).length rfl), ?_⟩
      simp only [sP]
      refine gD 20 rfl ?_
      simp only [sP]
      refine gD 21 rfl ?_
      simp only [sP]
      refine gD 22 rfl ?_
      simp only [sP]
      refine gD 23 rfl ?_
      simp only [sP]
      refine gS 24 rfl ⟨_, fun w' hx => by have hcx := hx.load v2; (go_simp <;> with_reducible rfl), ?_⟩
      simp only [sP]
      refine gS 25 rfl ⟨.string ⟨(m[k].x.val).toArray⟩, fun w' hx => ex_convert rfl rfl (run_str w' 23 9 5 m[k].va m[k].x.val m[k].vc Tryz.underlying23 Tryz.underlying5 Tryz.underlying9 (hin2.vr.below (Ext.tr (Ext.drew wr) hx)) (m[k].x.val).length rfl), ?_⟩
      simp only [sP]
      refine gS 26 rfl ⟨.bool true, fun w' hx => by (go_simp <;> with_reducible rfl), ?_⟩
      simp only [sP]
      refine gD 27 rfl ?_
      simp only [sP]
      refine rg_done (by kernel_rfl) ?_
      go_wp2
      go_ret
      exact ⟨by rw [HV.out]; rfl, hbd⟩
    ·
     have hvf := HF.out (fun e => hkk (by rw [e]))
     have HV := Lib.hid hvf
     clear HF hvf
     go_wp2_with fail
     refine rg_start (by kernel_rfl) ?_
     refine gD 0 rfl ?_
     simp only [sP]
     refine gD 1 rfl ?_
     simp only [sP]
     refine gD 2 rfl ?_
     simp only [sP]
     refine gD 3 rfl ?_
     simp only [sP]
     refine gS 4 rfl ⟨_, fun w' hx => by have hcx := hx.load k1; (go_simp <;> with_reducible rfl), ?_⟩
     simp only [sP]
     refine gS 5 rfl ⟨.string ⟨(l[k].x.key).toArray⟩, fun w' hx => ex_convert rfl rfl (run_str w' 23 9 5 l[k].ka l[k].x.key l[k].kc Tryz.underlying23 Tryz.underlying5 Tryz.underlying9 (hin.kr.below (Ext.tr (Ext.drew wr) hx)) (l[k].x.key).length rfl), ?_⟩
     simp only [sP]
     refine gD 6 rfl ?_
     simp only [sP]
     refine gD 7 rfl ?_
     simp only [sP]
     refine gD 8 rfl ?_
     simp only [sP]
     refine gD 9 rfl ?_
     simp only [sP]
     refine gS 10 rfl ⟨_, fun w' hx => by have hcx := hx.load k2; (go_simp <;> with_reducible rfl), ?_⟩
     simp only [sP]
     refine gS 11 rfl ⟨.string ⟨(m[k].x.key).toArray⟩, fun w' hx => ex_convert rfl rfl (run_str w' 23 9 5 m[k].ka m[k].x.key m[k].kc Tryz.underlying23 Tryz.underlying5 Tryz.underlying9 (hin2.kr.below (Ext.tr (Ext.drew wr) hx)) (m[k].x.key).length rfl), ?_⟩
     simp only [sP]
     refine gS 12 rfl ⟨.bool true, fun w' hx => by (go_simp <;> with_reducible rfl), ?_⟩
     simp only [sP]
     refine gD 13 rfl ?_
     simp only [sP]
     refine gK 14 rfl ?_
     simp only [sP]
     refine gK 15 rfl ?_
     simp only [sP]
     refine gK 16 rfl ?_
     simp only [sP]
     refine gK 17 rfl ?_
     simp only [sP]
     refine gK 18 rfl ?_
     simp only [sP]
     refine gK 19 rfl ?_
     simp only [sP]
     refine gK 20 rfl ?_
     simp only [sP]
     refine gK 21 rfl ?_
     simp only [sP]
     refine gK 22 rfl ?_
     simp only [sP]
     refine gK 23 rfl ?_
     simp only [sP]
     refine gK 24 rfl ?_
     simp only [sP]
     refine gK 25 rfl ?_
     simp only [sP]
     refine gK 26 rfl ?_
     simp only [sP]
     refine gD 27 rfl ?_
     simp only [sP]
     refine rg_done (by kernel_rfl) ?_
     go_wp2
     go_ret
     exact ⟨by rw [HV.out]; rfl, hbd⟩
   ·
    have ht := HTrue.out fun j h1 h2 => Hpre.out j h1 h2 (by omega)
    have HT := Lib.hid ht
    clear ht
    go_wp2
    go_ret
    exact ⟨by rw [HT.out]; rfl, hbw⟩
 ·
  have hne : ((l.length : Int) != (m.length : Int)) = true := by rw [bne_iff_ne]; omega
  have hf : Ent.sameL (l.map EnV.x) (m.map EnV.x) = false := Ent.sameL_ne fun e => hlen (by have := congrArg List.length e; simpa using this)
  have HF := Lib.hid hf
  clear hf hlen
  go_enter Tryz.func28, Tryz.ntmps28
  go_wp2
  go_ret
  exact ⟨by rw [HF.out]; rfl, Below.refl _ _⟩
end Go.Proofs.YtjholekgdnhpkaaGreatDoor
namespace Go.Proofs.YtjholekgdnhpkaaGreatDoor
open Go.RowKit
attribute [local go_sem] Oper.semAt_some
def Ent.bars (acc : List Ent) (x : Ent) : Bool := match acc.getLast? with | none => false | some y => !ltB y.key x.key
def Ent.run : List Ent → List (Ent × Nat) → Option (List Ent)
 | acc, [] => some acc
 | acc, x :: xs => if x.2 ≠ 0 then none else if Ent.bars acc x.1 then none else Ent.run (acc ++ [x.1]) xs
def Ent.getAll (bs : List UInt8) : Option (List Ent) := Ent.run [] (Ent.items bs.length bs)
theorem Ent.run_app : ∀ (p q : List (Ent × Nat)) (acc : List Ent), Ent.run acc (p ++ q) = (Ent.run acc p).bind fun a => Ent.run a q
 | [], q, acc => rfl
 | x :: p, q, acc => by
  simp only [List.cons_append, Ent.run]
  split
  ·
   rfl
  ·
   split
   ·
    rfl
   ·
    exact Ent.run_app p q _
theorem Ent.run_len : ∀ (p : List (Ent × Nat)) (acc r : List Ent), Ent.run acc p = some r → r.length = acc.length + p.length
 | [], acc, r, h => by simp [Ent.run] at h; subst h; simp
 | x :: p, acc, r, h => by
  simp only [Ent.run] at h
  split at h
  ·
   cases h
  ·
   split at h
   ·
    cases h
   ·
    have := Ent.run_len p _ r h
    simp at this ⊢
    omega
theorem Ent.items_len : ∀ (f : Nat) (b : List UInt8), (Ent.items f b).length ≤ f
 | 0, _ => by simp [Ent.items]
 | f + 1, b => by
  simp only [Ent.items]
  split
  ·
   simp
  ·
   split
   ·
    simp; exact Ent.items_len f _
   ·
    simp
theorem Ent.run_stop {p xs : List (Ent × Nat)} (h : p <+: xs) (hr : Ent.run [] p = none) : Ent.run [] xs = none := by
 obtain ⟨q, rfl⟩ := h
 rw [Ent.run_app, hr]; rfl
structure GaI (w0 : World) (pre : List (Ent × Nat)) (W : World) (L : List EnV) (A : Option Addr) (c : Nat) : Prop where
 run : Ent.run [] pre = some (L.map EnV.x)
 r2 : W.heap[w0.heap.size]? = some (.cells #[.slice none 0 0] 28 (0, 0))
 r3 : W.heap[w0.heap.size + 1]? = some (.cells #[.int .i64 0] 41 (0, 0))
 v : W.heap[w0.heap.size + 2]? = some (.cells #[.slice A L.length c] 28 (0, 0))
 own : Own W (w0.heap.size + 4) 40 2 A L.length c (ecs L)
 ins : ∀ e ∈ L, e.At (w0.heap.size + 4) W
 bel : Below w0.heap.size w0 W
 size : w0.heap.size + 4 ≤ W.heap.size
def GaInv (w0 : World) (pre : List (Ent × Nat)) (W : World) : Prop := ∃ L A c, GaI w0 pre W L A c
structure GaX (w0 : World) (pre : List (Ent × Nat)) (W : World) : Prop where
 run : Ent.run [] pre = none
 r2 : W.heap[w0.heap.size]? = some (.cells #[.slice none 0 0] 28 (0, 0))
 r3 : W.heap[w0.heap.size + 1]? = some (.cells #[.int .i64 170] 41 (0, 0))
 bel : Below w0.heap.size w0 W
 size : w0.heap.size + 4 ≤ W.heap.size
theorem list_kept {W W' : World} {B r : Nat} {L : List EnV} {A : Option Addr} {c : Nat} (h : Own W B 40 2 A L.length c (ecs L)) (hi : ∀ e ∈ L, e.At B W) (hg : W.grownBy W' (some r)) (hr : r < B ∨ (W.heap[r]?.map Obj.isCells) = some false) :
  Own W' B 40 2 A L.length c (ecs L) ∧ ∀ e ∈ L, e.At B W' := by
 refine ⟨h.kept hg ?_, fun e he => (hi e he).kept hg (fun r' e' => by injection e' with e'; subst e'; exact hr.imp id (fun h1 cur fr h2 => by rw [h2] at h1; simp [Obj.isCells] at h1))⟩
 intro k hk e
 injection e with e
 subst e
 have h1 := (h.row_lt k hk).1
 rcases hr with hr | hr
 ·
  omega
 ·
  rcases h.mem with h0 | ⟨g, off, cur, hA, hb, hgg, _⟩
  ·
   simp [ownRow, h0] at hk
  ·
   have : k = g := by
    rw [hA] at hk
    unfold ownRow at hk
    split at hk
    ·
     cases hk
    ·
     simpa using hk.symm
   subst this
   rw [hgg] at hr
   simp [Obj.isCells] at hr
theorem GaI.kept {w0 W W' : World} {pre : List (Ent × Nat)} {L : List EnV} {A : Option Addr} {c r : Nat} (h : GaI w0 pre W L A c) (hg : W.grownBy W' (some r)) (hr : r = w0.heap.size + 3 ∨ (w0.heap.size + 4 ≤ r ∧ (W.heap[r]?.map Obj.isCells) = some false)) : GaI w0 pre W' L A c := by
 have hne : ∀ j, j < 3 → some (w0.heap.size + j) ≠ some r := fun j hj e => by injection e with e; omega
 obtain ⟨h1, h2⟩ := list_kept h.own h.ins hg (hr.imp (fun h => by omega) (fun h => h.2))
 exact ⟨h.run, (hg.block _ (lt_of_heap h.r2) (hne 0 (by omega))).trans h.r2, (hg.block _ (lt_of_heap h.r3) (hne 1 (by omega))).trans h.r3, (hg.block _ (lt_of_heap h.v) (hne 2 (by omega))).trans h.v, h1, h2, h.bel.grown hg h.bel.size (fun k e => by injection e with e; omega), Nat.le_trans h.size hg.size⟩
theorem GaI.kept0 {w0 W W' : World} {pre : List (Ent × Nat)} {L : List EnV} {A : Option Addr} {c : Nat} (h : GaI w0 pre W L A c) (hg : W.grownBy W' none) : GaI w0 pre W' L A c := by
 have hb : Below W.heap.size W W' := ⟨hg.os, hg.tape, hg.output, hg.size, fun k hk => hg.block k hk (by simp)⟩
 exact ⟨h.run, (hb.block _ (lt_of_heap h.r2)).trans h.r2, (hb.block _ (lt_of_heap h.r3)).trans h.r3, (hb.block _ (lt_of_heap h.v)).trans h.v, h.own.below hb, fun e he => (h.ins e he).ext hb, h.bel.trans (hb.mono h.bel.size), Nat.le_trans h.size hb.size⟩
theorem GaX.kept {w0 W W' : World} {pre : List (Ent × Nat)} {row : Option Nat} (h : GaX w0 pre W) (hg : W.grownBy W' row) (hr : ∀ r, row = some r → w0.heap.size + 3 ≤ r) : GaX w0 pre W' := by
 have hne : ∀ j, j < 3 → some (w0.heap.size + j) ≠ row := fun j hj e => by have := hr _ e.symm; omega
 have h1 := lt_of_heap h.r2
 have h2 := lt_of_heap h.r3
 exact ⟨h.run, (hg.block _ h1 (hne 0 (by omega))).trans h.r2, (hg.block _ h2 (hne 1 (by omega))).trans h.r3, h.bel.grown hg h.bel.size (fun k e => by have := hr _ e; omega), Nat.le_trans h.size hg.size⟩
def GaMid (w0 : World) (tm : Nat → EnV → Nat → Array Value) (x : Ent × Nat) (a : Act) (W : World) : Prop :=
 ∃ (g : Nat) (u : EnV), a = { tmps := tm g u x.2, defers := [] } ∧ u.x = x.1 ∧ u.At (w0.heap.size + 4) W ∧ W.heap[g]? = some (.cells u.cells 40 (0, 0)) ∧ w0.heap.size + 4 ≤ g
theorem GaMid.kept {w0 W : World} {tm : Nat → EnV → Nat → Array Value} {x : Ent × Nat} {a : Act} (h : GaMid w0 tm x a W) {l : Nat} {o o' : Obj} (hl : w0.heap.size + 4 ≤ l) (ho : W.heap[l]? = some o) (hc : o.isCells = false) : GaMid w0 tm x a (W.putObj l o') := by
 obtain ⟨g, u, h1, h2, h3, h5, h6⟩ := h
 have hg := grownBy_putObj' W l o'
 refine ⟨g, u, h1, h2, h3.kept hg (fun r e => by injection e with e; subst e; exact .inr (fun cur fr h7 => by rw [ho] at h7; cases h7; simp [Obj.isCells] at hc)), (hg.block _ (lt_of_heap h5) (fun e => ?_)).trans h5, h6⟩
 injection e with e
 subst e
 rw [h5] at ho
 cases ho
 simp [Obj.isCells] at hc
theorem run_loadVar_one {P : Program} (w : World) (a : Addr) (ty : TypeId) (v : Value) (d : TypeDesc) (hu : P.underlying ty = some d) (hd : (match d with | .struct _ | .array _ _ => false | _ => true) = true) (hc : w.cell? a = some v) : (loadVar ty a).run P w = .ok v w := by
 have hagg : (isAgg ty).run P w = .ok false w := by
  unfold isAgg
  rw [Sem.run_bind, run_underlying hu w]
  cases d <;> simp_all
 simp [loadVar, Sem.run_bind, hagg, run_load, hc]
theorem results_cells2 {P : Program} {fn : Func} {p q : Tmp} {t u : TypeId} (h : fn.results = #[.cell p t, .cell q u]) (tmps : Array Value) (w : World) (a b : Addr) (x y : Value) (d1 d2 : TypeDesc)
  (hp : tmps.getD p undef = .pointer (some a)) (hq : tmps.getD q undef = .pointer (some b)) (ht : P.underlying t = some d1) (hd1 : (match d1 with | .struct _ | .array _ _ => false | _ => true) = true) (hu : P.underlying u = some d2) (hd2 : (match d2 with | .struct _ | .array _ _ => false | _ => true) = true)
  (hx : w.cell? a = some x) (hy : w.cell? b = some y) : (results fn tmps).run P w = .ok (.tuple #[x, y]) w := by
 have h2 : (results fn tmps).run P w = ((asAddr (tmps.getD p undef)).run P w).andThen fun a w₁ => ((loadVar t a).run P w₁).andThen fun x w₂ => ((asAddr (tmps.getD q undef)).run P w₂).andThen fun b w₃ => ((loadVar u b).run P w₃).andThen fun y w₄ => .ok (.tuple #[x, y]) w₄ := by
  simp only [results, h]
  simp [Sem.run_bind, Result.andThen]
 rw [h2, hp, hq]
 simp [asAddr, run_loadVar_one w a t x d1 ht hd1 hx, run_loadVar_one w b u y d2 hu hd2 hy, Result.andThen]
def GaPost (bs : List UInt8) (w : World) (e : Ending) (w' : World) : Prop :=
 (∃ L A c, Ent.getAll bs = some (L.map EnV.x) ∧ e = .returned (.tuple #[.slice A L.length c, .int .i64 0]) ∧ RdE w' A L ∧ L.length ≤ c ∧ Below w.heap.size w w') ∨
 (Ent.getAll bs = none ∧ e = .returned (.tuple #[.slice none 0 0, .int .i64 170]) ∧ Below w.heap.size w w')
def GaPostO (bs : List UInt8) (w : World) (e : Ending) (w' : World) : Prop :=
 (∃ L A c, Ent.getAll bs = some (L.map EnV.x) ∧ e = .returned (.tuple #[.slice A L.length c, .int .i64 0]) ∧ Own w' w.heap.size 40 2 A L.length c (ecs L) ∧ (∀ e ∈ L, e.At w.heap.size w') ∧ Below w.heap.size w w') ∨
 (Ent.getAll bs = none ∧ e = .returned (.tuple #[.slice none 0 0, .int .i64 170]) ∧ Below w.heap.size w w')
theorem GaPostO.post {bs : List UInt8} {w w' : World} {e : Ending} (h : GaPostO bs w e w') : GaPost bs w e w' := by
 rcases h with ⟨L, A, c, h1, h2, h3, h4, h5⟩ | h
 ·
  exact .inl ⟨L, A, c, h1, h2, ⟨h3.rd, fun e he => (h4 e he).i⟩, h3.nc, h5⟩
 ·
  exact .inr h
theorem heap4 (w W : World) (a b c d : Obj) (h : (((w.alloc a).alloc b).alloc c).alloc d = W) : W.heap.size = w.heap.size + 4 ∧ W.heap[w.heap.size]? = some a ∧ W.heap[w.heap.size + 1]? = some b ∧ W.heap[w.heap.size + 2]? = some c ∧ W.heap[w.heap.size + 3]? = some d ∧ Below w.heap.size w W := by
 subst h
 have e0 : ((w.alloc a).alloc b).heap.size = w.heap.size + 2 := by simp
 have e1 : (((w.alloc a).alloc b).alloc c).heap.size = w.heap.size + 3 := by simp
 have k2 := World.alloc_heap_new ((w.alloc a).alloc b) c
 have k3 := World.alloc_heap_new (((w.alloc a).alloc b).alloc c) d
 have k1 := World.alloc_heap_new (w.alloc a) b
 have k0 := World.alloc_heap_new w a
 rw [World.size_alloc] at k1
 rw [e0] at k2
 rw [e1] at k3
 refine ⟨by simp, ?_, ?_, ?_, k3, (((((Below.refl _ w).alloc (Nat.le_refl _) a).alloc (by simp) b).alloc (by simp; omega) c).alloc (by simp; omega) d)⟩
 ·
  exact (Below.heap_alloc _ _ _ (by rw [e1]; omega)).trans ((Below.heap_alloc _ _ _ (by rw [e0]; omega)).trans ((Below.heap_alloc _ _ _ (by simp)).trans k0))
 ·
  exact (Below.heap_alloc _ _ _ (by rw [e1]; omega)).trans ((Below.heap_alloc _ _ _ (by rw [e0]; omega)).trans k1)
 ·
  exact (Below.heap_alloc _ _ _ (by rw [e1]; omega)).trans k2
theorem ga_leave {w W V : World} {pre p : List (Ent × Nat)} {L : List EnV} {A : Option Addr} {c : Nat} (hI : GaI w pre W L A c) (hE : Ext W V) (hr : Ent.run [] p = none) :
  KeepsOthers W ((V.setCell ⟨w.heap.size, 0, none⟩ (.slice none 0 0)).setCell ⟨w.heap.size + 1, 0, none⟩ (.int .i64 170)) ∧ GaX w p ((V.setCell ⟨w.heap.size, 0, none⟩ (.slice none 0 0)).setCell ⟨w.heap.size + 1, 0, none⟩ (.int .i64 170)) := by
 refine ⟨((KeepsOthers.of_grownBy (grown_ext hE none) (fun j o e => by cases e)).trans (KeepsOthers.setCell _ _ _)).trans (KeepsOthers.setCell _ _ _), hr, ?_, ?_, ?_, ?_⟩
 ·
  have h2 := (hE.block _ (lt_of_heap hI.r2)).trans hI.r2
  have := heap_setCell_same V w.heap.size 0 _ _ (.slice none 0 0) h2
  rw [Below.heap_setCell _ _ _ _ (by simp)]
  simpa using this
 ·
  have h3 := (hE.block _ (lt_of_heap hI.r3)).trans hI.r3
  have h4 : (V.setCell ⟨w.heap.size, 0, none⟩ (.slice none 0 0)).heap[w.heap.size + 1]? = some (.cells #[.int .i64 0] 41 (0, 0)) := (Below.heap_setCell V _ _ _ (by simp)).trans h3
  have := heap_setCell_same _ (w.heap.size + 1) 0 _ _ (.int .i64 170) h4
  simpa using this
 ·
  exact ((hI.bel.trans (hE.mono hI.bel.size)).setCell (Nat.le_refl _) _).setCell (by simp) _
 ·
  have := hI.size
  have := hE.size
  simp [World.setCell]
  omega
theorem ga_cells {w W V : World} {pre : List (Ent × Nat)} {L : List EnV} {A : Option Addr} {c : Nat} (hI : GaI w pre W L A c) (hE : Ext W V) :
  V.cell? ⟨w.heap.size, 0, none⟩ = some (.slice none 0 0) ∧ V.frozen? ⟨w.heap.size, 0, none⟩ = false ∧ (V.setCell ⟨w.heap.size, 0, none⟩ (.slice none 0 0)).cell? ⟨w.heap.size + 1, 0, none⟩ = some (.int .i64 0) ∧ (V.setCell ⟨w.heap.size, 0, none⟩ (.slice none 0 0)).frozen? ⟨w.heap.size + 1, 0, none⟩ = false := by
 have h2 := (hE.block _ (lt_of_heap hI.r2)).trans hI.r2
 have h3 := (hE.block _ (lt_of_heap hI.r3)).trans hI.r3
 have h4 : (V.setCell ⟨w.heap.size, 0, none⟩ (.slice none 0 0)).heap[w.heap.size + 1]? = some (.cells #[.int .i64 0] 41 (0, 0)) := (Below.heap_setCell V _ _ _ (by simp)).trans h3
 exact ⟨cell_of_row _ _ 0 _ _ _ h2, frozen_of_row _ _ 0 _ _ h2, cell_of_row _ _ 0 _ _ _ h4, frozen_of_row _ _ 0 _ _ h4⟩
theorem ga_push {w W V V3 : World} {pre p : List (Ent × Nat)} {L : List EnV} {A A4 : Option Addr} {c c4 : Nat} {u : EnV} (hI : GaI w pre W L A c) (hE : Ext W V) (hat : u.At (w.heap.size + 4) W) (hg : V.grownBy V3 (ownRow A c)) (ho : Own V3 (w.heap.size + 4) 40 2 A4 (L.length + 1) c4 (ecs (L ++ [u]))) (hr : Ent.run [] p = some ((L ++ [u]).map EnV.x)) :
  KeepsOthers W (V3.setCell ⟨w.heap.size + 2, 0, none⟩ (.slice A4 (L.length + 1) c4)) ∧ KeepB (w.heap.size + 3) w.heap.size W (V3.setCell ⟨w.heap.size + 2, 0, none⟩ (.slice A4 (L.length + 1) c4)) ∧ GaInv w p (V3.setCell ⟨w.heap.size + 2, 0, none⟩ (.slice A4 (L.length + 1) c4)) := by
 have hrow : ∀ k, ownRow A c = some k → w.heap.size + 4 ≤ k ∧ k < W.heap.size := hI.own.row_lt
 have htyp : ∀ k, ownRow A c = some k → ∃ cur, W.heap[k]? = some (.cells cur 40 (0, 0)) := by
  intro k hk
  rcases hI.own.mem with h0 | ⟨g, off, cur, hA, hb, hgg, _⟩
  ·
   simp [ownRow, h0] at hk
  ·
   have : k = g := by
    rw [hA] at hk
    unfold ownRow at hk
    split at hk
    ·
     cases hk
    ·
     simpa using hk.symm
   subst this
   exact ⟨cur, hgg⟩
 have hs1 := hE.size
 have hs2 := hg.size
 have hs0 := hI.size
 have htypV : ∀ k, ownRow A c = some k → ∃ cur, V.heap[k]? = some (.cells cur 40 (0, 0)) := fun k hk => let ⟨cur, h⟩ := htyp k hk; ⟨cur, (hE.block _ (hrow k hk).2).trans h⟩
 have hno : ∀ r, ownRow A c = some r → r < w.heap.size + 4 ∨ ∀ cur fr, V.heap[r]? ≠ some (.cells cur 5 fr) := fun r hr' => .inr (fun cur fr h => by
  obtain ⟨cur', h'⟩ := htypV r hr'
  rw [h'] at h
  injection h with h
  injection h with _ h _
  exact absurd h (by decide))
 have hb : ∀ j, j < 4 → j ≠ 2 → (V3.setCell ⟨w.heap.size + 2, 0, none⟩ (.slice A4 (L.length + 1) c4)).heap[w.heap.size + j]? = W.heap[w.heap.size + j]? := fun j hj h2 => by
  rw [Below.heap_setCell _ _ _ _ (by simp; omega), hg.block _ (by omega) (fun e => by have := (hrow _ e.symm).1; omega), hE.block _ (by omega)]
 have h2 : V3.heap[w.heap.size + 2]? = some (.cells #[.slice A L.length c] 28 (0, 0)) := (hg.block _ (by omega) (fun e => by have := (hrow _ e.symm).1; omega)).trans ((hE.block _ (by omega)).trans hI.v)
 have hst := grown_setCell V3 ⟨w.heap.size + 2, 0, none⟩ (.slice A4 (L.length + 1) c4)
 have hbel : Below w.heap.size W (V3.setCell ⟨w.heap.size + 2, 0, none⟩ (.slice A4 (L.length + 1) c4)) := ((hE.mono (by omega)).grown hg (by omega) (fun k e => by have := (hrow k e).1; omega)).setCell (by simp) _
 refine ⟨((KeepsOthers.of_grownBy (grown_ext hE none) (fun j o e => by cases e)).trans (KeepsOthers.of_grownBy hg (fun j o e h => by obtain ⟨cur, h'⟩ := htypV j e; rw [h'] at h; cases h; rfl))).trans (KeepsOthers.setCell _ _ _), ⟨hb 3 (by omega) (by omega), hbel⟩, L ++ [u], A4, c4, ?_⟩
 refine ⟨hr, (hb 0 (by omega) (by omega)).trans hI.r2, (hb 1 (by omega) (by omega)).trans hI.r3, ?_, ?_, ?_, hI.bel.trans hbel, ?_⟩
 ·
  have := heap_setCell_same V3 (w.heap.size + 2) 0 _ _ (.slice A4 (L.length + 1) c4) h2
  simpa using this
 ·
  have := ho.kept hst (fun k hk e => by injection e with e; have := (ho.row_lt k hk).1; simp at e; omega)
  simpa using this
 ·
  intro e he
  have h1 : e.At (w.heap.size + 4) W := by
   rcases List.mem_append.1 he with h | h
   ·
    exact hI.ins e h
   ·
    rw [List.mem_singleton] at h; subst h; exact hat
  exact ((h1.ext hE).kept hg hno).kept hst (fun r e => .inl (by injection e with e; simp at e; omega))
 ·
  simp [World.setCell]; omega
set_option maxRecDepth 100000 in
set_option maxHeartbeats 2000000 in
theorem getall_own (A : Option Addr) (bs : List UInt8) (cap : Nat) (w : World) (hA : RdB w A bs) (hl : bs.length ≤ 1000000) (hc : bs.length ≤ cap) :
  Calls Tryz.prog 63 #[.slice A bs.length cap] w (GaPostO bs w) := by
 refine (callsIn_wide (n := 5)).1 (callsIn_of_wp_marks Tryz.func63 rfl trivial ?_ rfl)
 simp only [Tryz.ntmps63, List.size_toArray, List.length_cons, List.length_nil, Nat.reduceAdd, Nat.reduceSub, Array.replicate_succ, Array.replicate_zero, List.push_toArray, List.append_toArray, List.nil_append, List.cons_append]
 refine wpIn_wide.2 ?_
 go_wp2_with (go_at_call 86; refine (each_any _ _ _ _).mono ?_; rintro e w' ⟨rfl, rfl⟩)
 obtain ⟨W0, hW0⟩ : ∃ W0, (((w.alloc (.cells #[.slice none 0 0] 28)).alloc (.cells #[.int .i64 0] 41)).alloc (.cells #[.slice none 0 0] 28)).alloc (.cells #[.slice A bs.length cap] 23) = W0 := ⟨_, rfl⟩
 obtain ⟨hsz, hr2, hr3, hrv, hgb, hb0⟩ := heap4 w W0 _ _ _ _ hW0
 rw [hW0]
 clear hW0
 have hGI : GaInv w [] W0 := ⟨[], none, 0, rfl, hr2, hr3, hrv, Own.none_ _ _ _ _ _, by simp, hb0, by omega⟩
 refine wp_range_some (n := 5) (by omega) (gf := 96) (lb := #[.pointer (some ⟨w.heap.size + 3, 0, none⟩)]) rfl (enters_fn Tryz.func96 (by kernel_rfl) rfl)
  (each_gives 4 (by omega) (w.heap.size + 3) A bs cap w W0 hgb hA hb0 (by omega) hl hc) (by omega) (fun h k => ⟨Eq.trans k.1 h.1, h.2.trans k.2⟩) ?hKb (fun W x vs h => by obtain ⟨u, rfl, _⟩ := h; rfl) (GaInv w) (GaX w)
  (GaMid w fun g u er => #[.slice A bs.length cap, undef, .pointer (some ⟨w.heap.size, 0, none⟩), .pointer (some ⟨w.heap.size + 1, 0, none⟩), .pointer (some ⟨w.heap.size + 2, 0, none⟩), .pointer (some ⟨g, 0, none⟩), .int .i64 (er : Int), .slice A bs.length cap, .func (.func 96) #[] #[.pointer (some ⟨w.heap.size + 3, 0, none⟩)], .agg u.cells, .int .i64 (er : Int), undef, undef, undef, undef, undef, undef, undef, undef, undef, undef, undef, undef, undef, undef, undef, undef, undef, undef, undef, undef, undef, undef, undef, undef, undef])
  ?hI ?hIx ?hMid ?hIg ?hIxg hGI ?assign ?body ?done ?stop
 case hKb =>
  intro W l o o' hl ho hc
  exact ⟨World.putObj_heap_other (by omega), (Below.refl _ _).grown (grownBy_putObj' W l o') (by have := lt_of_heap ho; omega) (fun k e => by injection e with e; omega)⟩
 case hI =>
  rintro s X Y row ⟨L, A1, c1, h⟩ hg hr
  cases row with
  | none => exact ⟨L, A1, c1, h.kept0 hg⟩
  | some r => obtain ⟨h1, h2⟩ := hr r rfl; exact ⟨L, A1, c1, h.kept hg (.inr ⟨by omega, h2⟩)⟩
 case hIx =>
  rintro s X Y row h hg hr
  exact h.kept hg (fun r e => by have := (hr r e).1; omega)
 case hMid => exact fun x a' X l o o' h hl ho hc => h.kept (by omega) ho hc
 case hIg =>
  rintro s X Y ⟨L, A1, c1, h⟩ hg _
  exact ⟨L, A1, c1, h.kept hg (.inl rfl)⟩
 case hIxg =>
  rintro s X Y h hg _
  exact h.kept hg (fun r e => by injection e with e; omega)
 case assign =>
  rintro l pre x vs W K ⟨L, A1, c1, h⟩ ⟨u, rfl, hux, hat⟩ hK
  gi_wp2_with (refine wpListIn_store_row rfl 40 (.tmp 5) (.tmp 9) rfl W.heap.size u.cells rfl rfl 40 _ (heap_alloc_new W _) (einfo u) (by rfl) (eone u) ?_; rw [setRow_alloc])
  exact hK _ _ (KeepsOthers.alloc W _) ⟨Below.heap_alloc W _ _ (by have := h.size; omega), (Below.refl _ _).alloc (by have := h.size; omega) _⟩ ⟨L, A1, c1, h.kept0 (World.grownBy_alloc W _ none)⟩ ⟨W.heap.size, u, rfl, hux, (hat.ext (Ext.alloc W _)).mono (by omega), heap_alloc_new W _, by have := h.size; omega⟩
 case body =>
  rintro l pre ⟨y, er⟩ a' W ⟨L, A1, c1, hI⟩ hpre ⟨g, u, rfl, hux, hat, hgr, hgs⟩
  have hcv : W.drew.cell? ⟨w.heap.size + 2, 0, none⟩ = some (.slice A1 L.length c1) := cell_of_row W _ 0 _ _ _ hI.v
  have hcu : W.drew.cell? ⟨g, 0, none⟩ = some (.slice u.ka u.x.key.length u.kc) := cell_of_row W _ 0 _ _ _ hgr
  have hrun1 : Ent.run [] (pre ++ [(y, er)]) = if er ≠ 0 then none else if Ent.bars (L.map EnV.x) y then none else some (L.map EnV.x ++ [y]) := by rw [Ent.run_app, hI.run]; rfl
  have hLlen : L.length ≤ 1000000 := by
   have h1 := Ent.run_len _ _ _ hI.run
   have h2 := hpre.length_le
   have h3 := Ent.items_len bs.length bs
   simp at h1 h2
   omega
  have hEd := Ext.drew W
  have HI := Lib.hid hI
  have Hgr := Lib.hid hgr
  simp only at hux
  subst hux
  dsimp only
  clear hgr hpre hI
  by_cases her : er = 0
  ·
   subst her
   rw [if_neg (by simp)] at hrun1
   by_cases hL0 : L = []
   ·
    subst hL0
    have hrun2 : Ent.run [] (pre ++ [(u.x, 0)]) = some (([] ++ [u]).map EnV.x) := hrun1
    clear hrun1
    gi_wp2_with fail
    refine rg_startIn l _ (by kernel_rfl) (by kernel_rfl) (by rintro ⟨a, w, h⟩; exact h) ?_
    refine gD 0 rfl ?_
    simp only [sP]
    refine gD 1 rfl ?_
    simp only [sP]
    refine gD 2 rfl ?_
    simp only [sP]
    refine gS 3 rfl ⟨_, fun w' hx => by have hcx := hx.load hcv; (go_simp <;> with_reducible rfl), ?_⟩
    simp only [sP]
    refine gD 4 rfl ?_
    simp only [sP]
    refine gD 5 rfl ?_
    simp only [sP]
    refine gD 6 rfl ?_
    simp only [sP]
    refine gK 7 rfl ?_
    simp only [sP]
    refine gK 8 rfl ?_
    simp only [sP]
    refine gK 9 rfl ?_
    simp only [sP]
    refine gK 10 rfl ?_
    simp only [sP]
    refine gK 11 rfl ?_
    simp only [sP]
    refine gK 12 rfl ?_
    simp only [sP]
    refine gK 13 rfl ?_
    simp only [sP]
    refine gK 14 rfl ?_
    simp only [sP]
    refine gK 15 rfl ?_
    simp only [sP]
    refine gK 16 rfl ?_
    simp only [sP]
    refine gK 17 rfl ?_
    simp only [sP]
    refine gD 18 rfl ?_
    simp only [sP]
    refine gD 19 rfl ?_
    simp only [sP]
    refine rg_done (by kernel_rfl) ?_
    have hEv := Ext.tr hEd (Ext.alloc W.drew (.cells u.cells 40))
    have hown2 := HI.out.own.below hEv
    have hrd : Rd (W.drew.alloc (.cells u.cells 40)) 2 (some ⟨W.drew.heap.size, 0, none⟩) 1 u.cells.toList := by
     have h1 := (RdE.one W.drew 40 u (hat.i.below hEd)).rd
     simpa [ecs] using h1
    have hcv2 : W.cell? ⟨w.heap.size + 2, 0, none⟩ = some (.slice A1 ([] : List EnV).length c1) := cell_of_row W _ 0 _ _ _ HI.out.v
    have hcsz : u.cells.size = 2 := rfl
    have hgd : W.drew.heap[g]? = some (.cells u.cells 40 (0, 0)) := Hgr.out
    have hVs := hEv.size
    have hWs := HI.out.size
    have hv3 : ∀ V3 : World, (W.drew.alloc (.cells u.cells 40)).grownBy V3 (ownRow A1 c1) → V3.cell? ⟨w.heap.size + 2, 0, none⟩ = some (.slice A1 ([] : List EnV).length c1) ∧ V3.frozen? ⟨w.heap.size + 2, 0, none⟩ = false := fun V3 hg => by
     have h1 : V3.heap[w.heap.size + 2]? = some (.cells #[.slice A1 ([] : List EnV).length c1] 28 (0, 0)) := (hg.block _ (by omega) (fun e => by have := (HI.out.own.row_lt _ e.symm).1; omega)).trans ((hEv.block _ (by omega)).trans HI.out.v)
     exact ⟨cell_of_row _ _ 0 _ _ _ h1, frozen_of_row _ _ 0 _ _ h1⟩
    have Hv3 := Lib.hid hv3
    have hlen1 : ([] ++ [u]).length = ([] : List EnV).length + 1 := by simp
    have Hlen1 := Lib.hid hlen1
    have hec : ecs ([] ++ [u]) = ecs ([] : List EnV) ++ u.cells.toList := ecs_snoc [] u
    have Hec := Lib.hid hec
    obtain ⟨d2, hd2⟩ : ∃ d2, d2 = [] ++ [u] := ⟨_, rfl⟩
    rw [← hd2] at Hlen1 Hec hrun2
    clear hv3 hlen1 hec
    gi_wp2_with (first | (refine wpListIn_load_row rfl 40 (.tmp 5) rfl g rfl 40 u.cells (0, 0) _ hgd Tryz.underlying40 rfl (einfo u) ?_) | (gi_at_builtin; refine wpListIn_app rfl (.tmp 31) (.tmp 33) 28 rfl elemE (w.heap.size + 4) A1 ([] : List EnV).length c1 (ecs ([] : List EnV)) rfl _ 1 1 u.cells.toList rfl (([] : List EnV).length + 1) rfl (ecs d2) Hec.out hown2 hrd (cells_one _) (by omega) (by omega) (Nat.le_trans HI.out.size hEv.size) ?_; intro A4 c4 V3 ho4 hg4 hr4; (have hh := Hv3.out V3 hg4; have hh1 := hh.1; have hh2 := hh.2; clear hh)))
    rw [hd2] at ho4 hrun2
    exact ga_push HI.out hEv hat hg4 ho4 hrun2
   ·
    have hk : L.length - 1 < L.length := by have := List.length_pos_iff.2 hL0; omega
    have hbars : Ent.bars (L.map EnV.x) u.x = !ltB (L[L.length - 1]).x.key u.x.key := by
     unfold Ent.bars
     rw [List.getLast?_eq_getElem?]
     simp [List.getElem?_eq_getElem hk]
    rw [hbars] at hrun1
    clear hbars
    obtain ⟨k, hkl⟩ : ∃ k, L.length = k + 1 := ⟨L.length - 1, by omega⟩
    have hrd0 : RdE W A1 L := ⟨HI.out.own.rd, fun e he => (HI.out.ins e he).i⟩
    have hkk : k < L.length := by omega
    obtain ⟨ad, hA1, hcell, hin⟩ := hrd0.at_ hkk
    subst hA1
    have hkc : W.drew.cell? _ = _ := key_at hcell
    have hLk : L[L.length - 1] = L[k] := by congr 1; omega
    rw [hLk] at hrun1
    have hcmp := compare_any L[k].ka u.ka L[k].x.key u.x.key L[k].kc u.kc W.drew (hin.kr.below hEd) (hat.i.kr.below hEd)
    have ik : (0 : Int) ≤ (k : Int) := by omega
    have ik2 : (k : Int) < (L.length : Int) := by omega
    have hw : IntKind.i64.wrap ((L.length : Int) - 1) = (k : Int) := by rw [IntKind.wrap_i64]; omega
    have hpos : decide (0 < L.length) = true := by simp; omega
    have Hkl := Lib.hid hkl
    clear hrd0 hcell hin hLk hL0 hk hkl
    cases hlt : ltB L[k].x.key u.x.key with
    | false =>
     have n1 := cmp_ge hlt
     rw [hlt] at hrun1
     rw [if_pos (by rfl)] at hrun1
     have Hrun1 := Lib.hid hrun1
     generalize Lib.compareBytes L[k].x.key u.x.key = x1 at *
     have b17 : decide (0 ≤ x1) = true := by simpa using n1
     clear hlt hrun1
     gi_wp2_with fail
     refine rg_startIn l _ (by kernel_rfl) (by kernel_rfl) (by rintro ⟨a, w, h⟩; exact h) ?_
     refine gD 0 rfl ?_
     simp only [sP]
     refine gD 1 rfl ?_
     simp only [sP]
     refine gD 2 rfl ?_
     simp only [sP]
     refine gS 3 rfl ⟨_, fun w' hx => by have hcx := hx.load hcv; (go_simp <;> with_reducible rfl), ?_⟩
     simp only [sP]
     refine gD 4 rfl ?_
     simp only [sP]
     refine gS 5 rfl ⟨.bool true, fun w' hx => by (go_simp <;> with_reducible rfl), ?_⟩
     simp only [sP]
     refine gD 6 rfl ?_
     simp only [sP]
     refine gS 7 rfl ⟨_, fun w' hx => by have hcx := hx.load hcv; (go_simp <;> with_reducible rfl), ?_⟩
     simp only [sP]
     refine gS 8 rfl ⟨_, fun w' hx => by have hcx := hx.load hcv; (go_simp <;> with_reducible rfl), ?_⟩
     simp only [sP]
     refine gD 9 rfl ?_
     simp only [sP]
     refine gS 10 rfl ⟨.int .i64 (k : Int), fun w' hx => by (go_simp <;> with_reducible rfl), ?_⟩
     simp only [sP]
     refine gD 11 rfl ?_
     simp only [sP]
     refine gD 12 rfl ?_
     simp only [sP]
     refine gS 13 rfl ⟨_, fun w' hx => by have hcx := hx.load hkc; (go_simp <;> with_reducible rfl), ?_⟩
     simp only [sP]
     refine gD 14 rfl ?_
     simp only [sP]
     refine gS 15 rfl ⟨_, fun w' hx => by have hcx := hx.load hcu; (go_simp <;> with_reducible rfl), ?_⟩
     simp only [sP]

     refine rg_call 16 hcmp rfl (by kernel_rfl) (by rfl) (by go_simp) ?_
     rintro e w' ⟨rfl, rfl⟩
     refine ⟨_, rfl, Ext.refl _, ?_⟩
     simp only [sP]
     refine gS 17 rfl ⟨.bool true, fun w' hx => by (go_simp <;> with_reducible rfl), ?_⟩
     simp only [sP]
     refine gD 18 rfl ?_
     simp only [sP]
     refine gD 19 rfl ?_
     simp only [sP]
     refine rg_done (by kernel_rfl) ?_
     obtain ⟨d1, d2, d3, d4⟩ := ga_cells HI.out (Ext.refl W)
     gi_wp2
     exact ga_leave HI.out hEd Hrun1.out
    | true =>
     have n1 := cmp_lt hlt
     rw [hlt] at hrun1
     rw [if_neg (by simp)] at hrun1
     have hrun2 : Ent.run [] (pre ++ [(u.x, 0)]) = some ((L ++ [u]).map EnV.x) := by rw [hrun1]; simp
     have Hrun2 := Lib.hid hrun2
     generalize Lib.compareBytes L[k].x.key u.x.key = x1 at *
     have b17 : decide (0 ≤ x1) = false := by simp; omega
     clear hlt hrun1 hrun2
     gi_wp2_with fail
     refine rg_startIn l _ (by kernel_rfl) (by kernel_rfl) (by rintro ⟨a, w, h⟩; exact h) ?_
     refine gD 0 rfl ?_
     simp only [sP]
     refine gD 1 rfl ?_
     simp only [sP]
     refine gD 2 rfl ?_
     simp only [sP]
     refine gS 3 rfl ⟨_, fun w' hx => by have hcx := hx.load hcv; (go_simp <;> with_reducible rfl), ?_⟩
     simp only [sP]
     refine gD 4 rfl ?_
     simp only [sP]
     refine gS 5 rfl ⟨.bool true, fun w' hx => by (go_simp <;> with_reducible rfl), ?_⟩
     simp only [sP]
     refine gD 6 rfl ?_
     simp only [sP]
     refine gS 7 rfl ⟨_, fun w' hx => by have hcx := hx.load hcv; (go_simp <;> with_reducible rfl), ?_⟩
     simp only [sP]
     refine gS 8 rfl ⟨_, fun w' hx => by have hcx := hx.load hcv; (go_simp <;> with_reducible rfl), ?_⟩
     simp only [sP]
     refine gD 9 rfl ?_
     simp only [sP]
     refine gS 10 rfl ⟨.int .i64 (k : Int), fun w' hx => by (go_simp <;> with_reducible rfl), ?_⟩
     simp only [sP]
     refine gD 11 rfl ?_
     simp only [sP]
     refine gD 12 rfl ?_
     simp only [sP]
     refine gS 13 rfl ⟨_, fun w' hx => by have hcx := hx.load hkc; (go_simp <;> with_reducible rfl), ?_⟩
     simp only [sP]
     refine gD 14 rfl ?_
     simp only [sP]
     refine gS 15 rfl ⟨_, fun w' hx => by have hcx := hx.load hcu; (go_simp <;> with_reducible rfl), ?_⟩
     simp only [sP]

     refine rg_call 16 hcmp rfl (by kernel_rfl) (by rfl) (by go_simp) ?_
     rintro e w' ⟨rfl, rfl⟩
     refine ⟨_, rfl, Ext.refl _, ?_⟩
     simp only [sP]
     refine gS 17 rfl ⟨.bool false, fun w' hx => by (go_simp <;> with_reducible rfl), ?_⟩
     simp only [sP]
     refine gD 18 rfl ?_
     simp only [sP]
     refine gD 19 rfl ?_
     simp only [sP]
     refine rg_done (by kernel_rfl) ?_
     have hrun2 := Hrun2.out
     have hEv := Ext.tr hEd (Ext.alloc W.drew (.cells u.cells 40))
     have hown2 := HI.out.own.below hEv
     have hrd : Rd (W.drew.alloc (.cells u.cells 40)) 2 (some ⟨W.drew.heap.size, 0, none⟩) 1 u.cells.toList := by
      have h1 := (RdE.one W.drew 40 u (hat.i.below hEd)).rd
      simpa [ecs] using h1
     have hcv2 : W.cell? ⟨w.heap.size + 2, 0, none⟩ = some (.slice (some ad) L.length c1) := cell_of_row W _ 0 _ _ _ HI.out.v
     have hcsz : u.cells.size = 2 := rfl
     have hgd : W.drew.heap[g]? = some (.cells u.cells 40 (0, 0)) := Hgr.out
     have hVs := hEv.size
     have hWs := HI.out.size
     have hv3 : ∀ V3 : World, (W.drew.alloc (.cells u.cells 40)).grownBy V3 (ownRow (some ad) c1) → V3.cell? ⟨w.heap.size + 2, 0, none⟩ = some (.slice (some ad) L.length c1) ∧ V3.frozen? ⟨w.heap.size + 2, 0, none⟩ = false := fun V3 hg => by
      have h1 : V3.heap[w.heap.size + 2]? = some (.cells #[.slice (some ad) L.length c1] 28 (0, 0)) := (hg.block _ (by omega) (fun e => by have := (HI.out.own.row_lt _ e.symm).1; omega)).trans ((hEv.block _ (by omega)).trans HI.out.v)
      exact ⟨cell_of_row _ _ 0 _ _ _ h1, frozen_of_row _ _ 0 _ _ h1⟩
     have Hv3 := Lib.hid hv3
     have hlen1 : (L ++ [u]).length = L.length + 1 := by simp
     have Hlen1 := Lib.hid hlen1
     have hec : ecs (L ++ [u]) = ecs L ++ u.cells.toList := ecs_snoc L u
     have Hec := Lib.hid hec
     obtain ⟨d2, hd2⟩ : ∃ d2, d2 = L ++ [u] := ⟨_, rfl⟩
     rw [← hd2] at Hlen1 Hec hrun2
     clear hv3 hlen1 hec
     gi_wp2_with (first | (refine wpListIn_load_row rfl 40 (.tmp 5) rfl g rfl 40 u.cells (0, 0) _ hgd Tryz.underlying40 rfl (einfo u) ?_) | (gi_at_builtin; refine wpListIn_app rfl (.tmp 31) (.tmp 33) 28 rfl elemE (w.heap.size + 4) (some ad) L.length c1 (ecs L) rfl _ 1 1 u.cells.toList rfl (L.length + 1) rfl (ecs d2) Hec.out hown2 hrd (cells_one _) (by omega) (by omega) (Nat.le_trans HI.out.size hEv.size) ?_; intro A4 c4 V3 ho4 hg4 hr4; (have hh := Hv3.out V3 hg4; have hh1 := hh.1; have hh2 := hh.2; clear hh)))
     rw [hd2] at ho4 hrun2
     exact ga_push HI.out hEv hat hg4 ho4 hrun2
  ·
   have hb1 : ((er : Int) != 0) = true := by rw [bne_iff_ne]; omega
   rw [if_pos her] at hrun1
   gi_wp2_with fail
   refine rg_startIn l _ (by kernel_rfl) (by kernel_rfl) (by rintro ⟨a, w, h⟩; exact h) ?_
   refine gD 0 rfl ?_
   simp only [sP]
   refine gD 1 rfl ?_
   simp only [sP]
   refine gD 2 rfl ?_
   simp only [sP]
   refine gK 3 rfl ?_
   simp only [sP]
   refine gK 4 rfl ?_
   simp only [sP]
   refine gK 5 rfl ?_
   simp only [sP]
   refine gK 6 rfl ?_
   simp only [sP]
   refine gK 7 rfl ?_
   simp only [sP]
   refine gK 8 rfl ?_
   simp only [sP]
   refine gK 9 rfl ?_
   simp only [sP]
   refine gK 10 rfl ?_
   simp only [sP]
   refine gK 11 rfl ?_
   simp only [sP]
   refine gK 12 rfl ?_
   simp only [sP]
   refine gK 13 rfl ?_
   simp only [sP]
   refine gK 14 rfl ?_
   simp only [sP]
   refine gK 15 rfl ?_
   simp only [sP]
   refine gK 16 rfl ?_
   simp only [sP]
   refine gK 17 rfl ?_
   simp only [sP]
   refine gK 18 rfl ?_
   simp only [sP]
   refine gD 19 rfl ?_
   simp only [sP]
   refine rg_done (by kernel_rfl) ?_
   obtain ⟨d1, d2, d3, d4⟩ := ga_cells HI.out (Ext.refl W)
   gi_wp2
   exact ga_leave HI.out hEd hrun1
 case done =>
  rintro D W ⟨L, A1, c1, h⟩ hD hK
  have hcell : W.cell? ⟨w.heap.size + 2, 0, none⟩ = some (.slice A1 L.length c1) := cell_of_row W _ 0 _ _ _ h.v
  have c2 : W.cell? ⟨w.heap.size, 0, none⟩ = some (.slice none 0 0) := cell_of_row W _ 0 _ _ _ h.r2
  have f2 : W.frozen? ⟨w.heap.size, 0, none⟩ = false := frozen_of_row W _ 0 _ _ h.r2
  have h3 : (W.setCell ⟨w.heap.size, 0, none⟩ (.slice A1 L.length c1)).heap[w.heap.size + 1]? = some (.cells #[.int .i64 0] 41 (0, 0)) := (Below.heap_setCell W _ _ _ (by simp)).trans h.r3
  have c3 := cell_of_row _ _ 0 _ _ _ h3
  have f3 := frozen_of_row _ _ 0 _ _ h3
  have g2 := heap_setCell_same W w.heap.size 0 _ _ (.slice A1 L.length c1) h.r2
  have g3 := heap_setCell_same _ (w.heap.size + 1) 0 _ _ (.int .i64 0) h3
  have hrun := h.run
  have Hg2 := Lib.hid g2
  have Hg3 := Lib.hid g3
  have Hrun := Lib.hid hrun
  have HI := Lib.hid h
  clear g2 g3 hrun h h3
  dsimp only
  go_wp2
  refine ⟨by simp, .inl ⟨_, _, rfl, run_takeDeferred ?_, ?_⟩⟩
  ·
   exact (Below.heap_setCell _ _ _ _ (by simp; omega)).trans ((Below.heap_setCell _ _ _ _ (by simp; omega)).trans hK)
  obtain ⟨W1, hW1⟩ : ∃ W1, W.setCell ⟨w.heap.size, 0, none⟩ (.slice A1 L.length c1) = W1 := ⟨_, rfl⟩
  obtain ⟨W2, hW2⟩ : ∃ W2, W1.setCell ⟨w.heap.size + 1, 0, none⟩ (.int .i64 0) = W2 := ⟨_, rfl⟩
  have p1 : W.grownBy W1 (some w.heap.size) := by rw [← hW1]; exact grown_setCell W ⟨w.heap.size, 0, none⟩ _
  have p2 : W1.grownBy W2 (some (w.heap.size + 1)) := by rw [← hW2]; exact grown_setCell W1 ⟨w.heap.size + 1, 0, none⟩ _
  have hK2 : W2.heap[D]? = some (.deferred (some [])) := (p2.block _ (by have := p1.size; have := lt_of_heap hK; omega) (fun e => by injection e with e; omega)).trans ((p1.block _ (lt_of_heap hK) (fun e => by injection e with e; omega)).trans hK)
  rw [hW1, hW2]
  rw [hW1] at Hg2 Hg3
  rw [hW2] at Hg3
  have q1 := list_kept HI.out.own HI.out.ins p1 (.inl (by omega))
  have q2 := list_kept q1.1 q1.2 p2 (.inl (by omega))
  have hput : W2.grownBy (W2.putObj D (.deferred none)) (some D) := grownBy_putObj' W2 D _
  have q3 := list_kept q2.1 q2.2 hput (.inr (by rw [hK2]; rfl))
  have b3 : Below w.heap.size w (W2.putObj D (.deferred none)) := ((HI.out.bel.grown p1 HI.out.bel.size (fun k e => by injection e with e; omega)).grown p2 (by have := HI.out.bel.size; have := p1.size; omega) (fun k e => by injection e with e; omega)).grown hput (by have := HI.out.bel.size; have := p1.size; have := p2.size; omega) (fun k e => by injection e with e; omega)
  have r2' := (hput.block _ (lt_of_heap ((p2.block _ (lt_of_heap Hg2.out) (fun e => by injection e with e; omega)).trans Hg2.out)) (fun e => by injection e with e; omega)).trans ((p2.block _ (lt_of_heap Hg2.out) (fun e => by injection e with e; omega)).trans Hg2.out)
  have r3' := (hput.block _ (lt_of_heap Hg3.out) (fun e => by injection e with e; omega)).trans Hg3.out
  refine ⟨_, results_cells2 rfl _ _ ⟨w.heap.size, 0, none⟩ ⟨w.heap.size + 1, 0, none⟩ _ _ _ _ rfl rfl Tryz.underlying28 rfl Tryz.underlying41 rfl (cell_of_row _ _ 0 _ _ _ r2') (cell_of_row _ _ 0 _ _ _ r3'), .inl ⟨L, A1, c1, Hrun.out, rfl, q3.1.mono (by omega), fun e he => (q3.2 e he).mono (by omega), b3⟩⟩
 case stop =>
  rintro D pre W hpre h hD hK
  have c2 : W.cell? ⟨w.heap.size, 0, none⟩ = some (.slice none 0 0) := cell_of_row W _ 0 _ _ _ h.r2
  have c3 : W.cell? ⟨w.heap.size + 1, 0, none⟩ = some (.int .i64 170) := cell_of_row W _ 0 _ _ _ h.r3
  have hput : W.grownBy (W.putObj D (.deferred none)) (some D) := grownBy_putObj' W D _
  have h' := h.kept hput (fun r e => by injection e with e; omega)
  (try simp only [Exit.inBlock, Exit.then])
  refine ⟨by simp, .inl ⟨_, _, rfl, run_takeDeferred hK, ?_⟩⟩
  refine ⟨_, results_cells2 rfl _ _ ⟨w.heap.size, 0, none⟩ ⟨w.heap.size + 1, 0, none⟩ _ _ _ _ rfl rfl Tryz.underlying28 rfl Tryz.underlying41 rfl (cell_of_row _ _ 0 _ _ _ h'.r2) (cell_of_row _ _ 0 _ _ _ h'.r3), .inr ⟨Ent.run_stop hpre h'.run, rfl, h'.bel⟩⟩
theorem getall_any (A : Option Addr) (bs : List UInt8) (cap : Nat) (w : World) (hA : RdB w A bs) (hl : bs.length ≤ 1000000) (hc : bs.length ≤ cap) :
  Calls Tryz.prog 63 #[.slice A bs.length cap] w (GaPost bs w) := (getall_own A bs cap w hA hl hc).mono fun _ _ h => h.post
end Go.Proofs.YtjholekgdnhpkaaGreatDoor
