
/- Texts laid together by wip/tools/lay.py: OpRDiff OpMerge OpRMerge OpLawD. -/

import Derived.Test.YtdekdblebflklaaOpRApply

import Derived.Test.YtdekdblebflklaaOpApply

import Derived.Test.YtdekdblebflklaaSlOpsO

import Derived.Test.YtdekdblebflklaaOpDiff

import Derived.Test.YtdekdblebflklaaOpSame

import Derived.Test.YtdekdblebflklaaOpLive

import Derived.Test.YtdekdblebflklaaOpRight

/- Contract: scowref20.Diff. Printed by wip/tools/gen_oprdiff20.py. -/

namespace Go.Proofs.Ytdekdblebflklaa

open Go.RowKit

attribute [local go_sem] Oper.semAt_some

theorem look_map {α β : Type} (f : α → β) (key : α → List UInt8) (key' : β → List UInt8) (h : ∀ a, key' (f a) = key a) (k : List UInt8) : ∀ l : List α, look key' (l.map f) k = (look key l k).map f
  | [] => rfl
  | a :: l => by
    rw [List.map_cons, look_cons, look_cons, look_map f key key' h k l, h a]
    split <;> rfl
/-- What find tells. -/
def FindP (L : List EnV) (key : List UInt8) (w : World) (e : Ending) (w' : World) : Prop :=
  ∃ (b : Bool) (va : Option Addr) (v : List UInt8) (vc : Nat), e = .returned (.tuple #[.slice va v.length vc, .bool b]) ∧ Ext w w' ∧ (∀ W, (∀ y ∈ L, y.In W) → RdB W va v) ∧ v.length ≤ vc ∧ Hid ((b = true ∧ look Ent.key (L.map EnV.x) key = some ⟨key, v⟩) ∨ (b = false ∧ look Ent.key (L.map EnV.x) key = none))
theorem find_any (A : Option Addr) (L : List EnV) (c : Nat) (K : Option Addr) (key : List UInt8) (kc : Nat) (w : World) (hA : RdE w A L) (hK : RdB w K key) (hl : L.length ≤ 1000000) :
    Calls Try.prog 32 #[.slice A L.length c, .slice K key.length kc] w (FindP L key w) := by
  refine (ref_find A L c K key kc w hA hK hl).mono ?_
  have hm := look_map EnV.x EnV.key Ent.key (fun _ => rfl) key L
  rintro e w' (⟨y, hy, hk, hlk, rfl, hb⟩ | ⟨hlk, rfl, hb⟩)
  · exact ⟨true, y.va, y.x.val, y.vc, rfl, hb, fun W h => (h y hy).vr, (hA.each y hy).vcap, .inl ⟨rfl, by rw [hm, hlk, ← hk]; rfl⟩⟩
  · exact ⟨false, none, [], 0, rfl, hb, fun W _ => RdB.nil_ _ _, Nat.le_refl _, .inr ⟨rfl, by rw [hm, hlk]; rfl⟩⟩
/-- What Diff keeps while it gathers keys. -/
structure RDiI (es : List Ent) (w0 : World) (g : Nat) (M : List EnV) (A1 : Option Addr) (c1 : Nat) (wr : World) : Prop where
  eq : M.map EnV.x = es.foldl (fun m e => putK Ent.key ⟨e.key, []⟩ m) []
  len : M.length ≤ es.length
  map : MapAt wr g A1 c1 M
  grown : w0.grownBy wr (some g)
theorem RDiI.next {es : List Ent} {w0 : World} {g : Nat} {M : List EnV} {A1 : Option Addr} {c1 : Nat} {wr w2 : World} (h : RDiI es w0 g M A1 c1 wr) (y : Ent) (ht : MapTo wr g (putK Ent.key ⟨y.key, []⟩ (M.map EnV.x)) (M.length + 1) w2) : ∃ (M2 : List EnV) (A2 : Option Addr) (c2 : Nat), RDiI (es ++ [y]) w0 g M2 A2 c2 w2 := by
  obtain ⟨L2, A2, c2, h1, h2, h3, h4⟩ := ht
  refine ⟨L2, A2, c2, ?_, by have := h.len; rw [List.length_append]; simp; omega, h2, grown_tr h.grown h4⟩
  rw [h1, List.foldl_append, ← h.eq]
  rfl
theorem take_snoc {α : Type} (l : List α) (k : Nat) (h : k < l.length) : l.take (k + 1) = l.take k ++ [l[k]] := List.take_succ_eq_append_getElem h
theorem keysOf_mem {h w : List Ent} {k : List UInt8} (hm : (look Ent.key (Opn.keysOf h w) k).isSome = true) : (look Ent.key h k).isSome = true ∨ (look Ent.key w k).isSome = true := by
  have h2 := (Opn.fold_keys (h ++ w) [] List.Pairwise.nil).2 k
  unfold Opn.keysOf at hm
  rw [hm, look_app, look_nil] at h2
  cases hh : look Ent.key h k with
  | some a => exact .inl rfl
  | none => rw [hh] at h2; right; simpa using h2.symm
def RDiffP (h l : List EnV) (w : World) (e : Ending) (w' : World) : Prop :=
  ∃ A' D c', e = .returned (.slice A' (D : List OpV).length c') ∧ D.map OpV.x = Opn.diff (h.map EnV.x) (l.map EnV.x) ∧ RdO w' A' D ∧ D.length ≤ c' ∧ D.length ≤ h.length + l.length ∧ Below w.heap.size w w'
set_option maxRecDepth 100000 in
set_option maxHeartbeats 2000000 in
theorem ref_odiff (A : Option Addr) (h : List EnV) (ca : Nat) (B : Option Addr) (l : List EnV) (cb : Nat) (w : World) (hA : RdE w A h) (hB : RdE w B l) (hh : h.length ≤ 100000) (hl : l.length ≤ 100000) (hr1 : Rise (h.map EnV.x)) (hr2 : Rise (l.map EnV.x)) :
    Calls Try.prog 15 #[.slice A h.length ca, .slice B l.length cb] w (RDiffP h l w) := by
  obtain ⟨w0, hw0⟩ : ∃ w0, w0 = w.alloc (.cells #[.slice none 0 0] 56) := ⟨_, rfl⟩
  have hrow0 : w0.heap[w.heap.size]? = some (.cells #[.slice none 0 0] 56 (0, 0)) := by rw [hw0]; exact heap_alloc_new w _
  have hE0 : Ext w w0 := by rw [hw0]; exact Ext.alloc _ _
  have HA0 := Lib.hid (hA.below hE0)
  have HB0 := Lib.hid (hB.below hE0)
  have Hok1 : Hid (∀ k (hk : k < h.length), 1 ≤ h[k].x.key.length ∧ h[k].x.key.length ≤ 24) := fun k hk => by
    have h1 := hr1.ok k (by simpa using hk)
    simp only [List.getElem_map] at h1
    exact ⟨h1.1, h1.2.1⟩
  have Hok2 : Hid (∀ k (hk : k < l.length), 1 ≤ l[k].x.key.length ∧ l[k].x.key.length ≤ 24) := fun k hk => by
    have h1 := hr2.ok k (by simpa using hk)
    simp only [List.getElem_map] at h1
    exact ⟨h1.1, h1.2.1⟩
  have Hup1 : Hid (UpK Ent.key (h.map EnV.x)) := UpK.of_up hr1.up
  have Hup2 : Hid (UpK Ent.key (l.map EnV.x)) := UpK.of_up hr2.up
  have Hrow0 := Lib.hid hrow0
  have HE0 := Lib.hid hE0
  have HS : Hid (RDiI [] w0 w.heap.size [] none 0 w0) := ⟨rfl, Nat.le_refl _, ⟨hrow0, RdE.nil_ _ _, Nat.le_refl _⟩, ⟨rfl, rfl, rfl, Nat.le_refl _, fun _ _ _ => rfl⟩⟩
  clear hrow0 hE0 hA hB hr1 hr2
  go_enter Try.func15, Try.ntmps15
  go_wp2
  rw [← hw0]
  clear hw0
  go_loopw [6] (fun i wr => ∃ (k : Nat), k ≤ h.length ∧ i = .int .i64 k ∧ ∃ (M : List EnV) (A1 : Option Addr) (c1 : Nat), RDiI ((h.map EnV.x).take k) w0 w.heap.size M A1 c1 wr) (fun i _ => h.length - (intOf i).toNat)
  case atStart => exact ⟨0, by omega, rfl, [], none, 0, HS.out⟩
  case round =>
    obtain ⟨k, hk, rfl, M, A1, c1, hI⟩ := hrel
    by_cases hkl : k < h.length
    · obtain ⟨ad, rfl, hcell, hyi⟩ := (HA0.out.turn hI.grown Hrow0.out).at_ hkl
      have y1 : wr.cell? _ = _ := keyAt hcell
      have hko := Hok1.out k hkl
      obtain ⟨y, hy⟩ : ∃ y, h[k] = y := ⟨_, rfl⟩
      rw [hy] at y1 hyi hko
      have Hy := Lib.hid hy
      have ik : (0 : Int) ≤ (k : Int) := by omega
      have ik2 : (k : Int) < (h.length : Int) := by omega
      have hMl : M.length ≤ 1000000 := by have := hI.len; simp at this; omega
      have HP := ref_mput w.heap.size A1 c1 M y.ka y.x.key y.kc none [] 0 wr hI.map hyi.kr (RdB.nil_ _ _) hMl hko (by simp)
      have HI := Lib.hid hI
      clear hI hyi hcell hy
      go_wp2_with (go_at_call 31; refine HP.mono ?_; rintro e2 w2 ⟨rfl, hto⟩)
      go_roundw
      case rel =>
        obtain ⟨M2, A2, c2, h2⟩ := HI.out.next y.x hto
        refine ⟨k + 1, by omega, by go_num, M2, A2, c2, ?_⟩
        rw [take_snoc _ _ (by simpa using hkl)]
        simpa [Hy.out] using h2
      case measure => simp [intOf]; omega
    · obtain rfl : k = h.length := by omega
      rw [List.take_of_length_le (by simp)] at hI
      have HS2 := Lib.hid hI
      clear hI HS
      go_wp2
      go_loopw [7] (fun i wr => ∃ (k : Nat), k ≤ l.length ∧ i = .int .i64 k ∧ ∃ (M : List EnV) (A1 : Option Addr) (c1 : Nat), RDiI (h.map EnV.x ++ (l.map EnV.x).take k) w0 w.heap.size M A1 c1 wr) (fun i _ => l.length - (intOf i).toNat)
      case atStart => exact ⟨0, by omega, rfl, M, A1, c1, by simpa using HS2.out⟩
      case round =>
        clear HS2
        obtain ⟨k, hk, rfl, M, A1, c1, hI⟩ := hrel
        by_cases hkl : k < l.length
        · obtain ⟨ad, rfl, hcell, hyi⟩ := (HB0.out.turn hI.grown Hrow0.out).at_ hkl
          have y1 : wr.cell? _ = _ := keyAt hcell
          have hko := Hok2.out k hkl
          obtain ⟨y, hy⟩ : ∃ y, l[k] = y := ⟨_, rfl⟩
          rw [hy] at y1 hyi hko
          have Hy := Lib.hid hy
          have ik : (0 : Int) ≤ (k : Int) := by omega
          have ik2 : (k : Int) < (l.length : Int) := by omega
          have hMl : M.length ≤ 1000000 := by have := hI.len; simp at this; omega
          have HP := ref_mput w.heap.size A1 c1 M y.ka y.x.key y.kc none [] 0 wr hI.map hyi.kr (RdB.nil_ _ _) hMl hko (by simp)
          have HI := Lib.hid hI
          clear hI hyi hcell hy
          go_wp2_with (go_at_call 31; refine HP.mono ?_; rintro e2 w2 ⟨rfl, hto⟩)
          go_roundw
          case rel =>
            obtain ⟨M2, A2, c2, h2⟩ := HI.out.next y.x hto
            refine ⟨k + 1, by omega, by go_num, M2, A2, c2, ?_⟩
            rw [take_snoc _ _ (by simpa using hkl), ← List.append_assoc]
            simpa [Hy.out] using h2
          case measure => simp [intOf]; omega
        · obtain rfl : k = l.length := by omega
          rw [List.take_of_length_le (by simp)] at hI
          have hMl : M.length ≤ h.length + l.length := by have := hI.len; simp at this; exact this
          obtain ⟨w3, hw3⟩ : ∃ w3, wr = w3 := ⟨_, rfl⟩
          rw [hw3] at hI ⊢
          clear hw3
          have HA3 := Lib.hid (HA0.out.turn hI.grown Hrow0.out)
          have HB3 := Lib.hid (HB0.out.turn hI.grown Hrow0.out)
          have HM3 := Lib.hid hI.map
          have Hb3 : Hid (Below w.heap.size w w3) := Below.grown HE0.out hI.grown HE0.out.size (fun k e => by injection e with e; omega)
          have Heq : Hid (M.map EnV.x = Opn.keysOf (h.map EnV.x) (l.map EnV.x)) := hI.eq
          have Hup3 : Hid (UpK Ent.key (M.map EnV.x)) := by
            show UpK Ent.key (M.map EnV.x)
            rw [Heq.out]
            exact (Opn.fold_keys _ [] List.Pairwise.nil).1
          clear hI
          go_wp2
          go_loopw [8, 9] (fun v i wr => ∃ (k : Nat) (D : List OpV) (D1 : Option Addr) (c3 : Nat), k ≤ M.length ∧ i = .int .i64 k ∧ v = .slice D1 D.length c3 ∧ Hid (D.map OpV.x = ((M.map EnV.x).take k).filterMap (fun e => Opn.ref (h.map EnV.x) (l.map EnV.x) e.key)) ∧ D.length ≤ k ∧ Own wr w3.heap.size 50 3 D1 D.length c3 (ocs D) ∧ (∀ e ∈ D, e.In w3) ∧ Ext w3 wr) (fun _ i _ => M.length - (intOf i).toNat)
          case atStart => exact ⟨0, [], none, 0, by omega, rfl, rfl, rfl, by simp, Own.none_ _ _ _ _ _, by simp, Ext.refl _⟩
          case round =>
            obtain ⟨k, D, D1, c3, hk, rfl, rfl, hD, hDk, hown, hin, hbel⟩ := hrel
            have hm3 := (HM3.out.ext hbel).cell
            by_cases hkM : k < M.length
            · obtain ⟨ad, rfl, hcell, hyi0⟩ := HM3.out.rd.at_ hkM
              have y1' : w3.cell? _ = _ := keyAt hcell
              have y1 : wr.cell? _ = _ := Ext.load hbel y1'
              have hmem : M[k].x ∈ M.map EnV.x := List.mem_map.2 ⟨_, List.getElem_mem hkM, rfl⟩
              have hkey := keysOf_mem (h := h.map EnV.x) (w := l.map EnV.x) (k := M[k].x.key) (by rw [← Heq.out]; have := look_mem Hup3.out hmem; unfold Ent.key at this ⊢; rw [this]; rfl)
              have hsn := take_snoc (M.map EnV.x) k (by simpa using hkM)
              rw [List.getElem_map] at hsn
              obtain ⟨y, hy⟩ : ∃ y, M[k] = y := ⟨_, rfl⟩
              rw [hy] at y1 hyi0 hkey hsn
              have ik : (0 : Int) ≤ (k : Int) := by omega
              have ik2 : (k : Int) < (M.length : Int) := by omega
              have hyk : ∀ W, Ext w3 W → RdB W y.ka y.x.key := fun W hW => hyi0.kr.below hW
              have HF1 := find_any A h ca y.ka y.x.key y.kc wr (HA3.out.below hbel) (hyk wr hbel) (by omega)
              have HF2 : ∀ W, Ext wr W → Calls Try.prog 32 #[.slice B l.length cb, .slice y.ka y.x.key.length y.kc] W (FindP l y.x.key W) := fun W hW => find_any B l cb y.ka y.x.key y.kc W (HB3.out.below (Ext.tr hbel hW)) (hyk W (Ext.tr hbel hW)) (by omega)
              have Hkey := Lib.hid hkey
              have Hyi := Lib.hid hyi0
              have HD : Hid (∀ o, Opn.ref (h.map EnV.x) (l.map EnV.x) y.x.key = some o → (D.map OpV.x) ++ [o] = ((M.map EnV.x).take (k + 1)).filterMap (fun e => Opn.ref (h.map EnV.x) (l.map EnV.x) e.key)) := by
                show ∀ o, Opn.ref (h.map EnV.x) (l.map EnV.x) y.x.key = some o → (D.map OpV.x) ++ [o] = _
                intro o ho
                rw [hsn, List.filterMap_append, hD.out]
                simp [ho]
              have HD0 : Hid (Opn.ref (h.map EnV.x) (l.map EnV.x) y.x.key = none → (D.map OpV.x) = ((M.map EnV.x).take (k + 1)).filterMap (fun e => Opn.ref (h.map EnV.x) (l.map EnV.x) e.key)) := by
                show Opn.ref (h.map EnV.x) (l.map EnV.x) y.x.key = none → (D.map OpV.x) = _
                intro ho
                rw [hsn, List.filterMap_append, hD.out]
                simp [ho]
              have Hin := Lib.hid hin
              have hown2 : ∀ W, Ext wr W → Own W w3.heap.size 50 3 D1 D.length c3 (ocs D) := fun W hW => hown.below hW
              have Hown2 := Lib.hid hown2
              have Hbel := Lib.hid hbel
              have HPUSH : Hid (∀ (q : OpV) (W w4 : World) (D2 : Option Addr) (c4 : Nat), Ext wr W → q.In w3 → Opn.ref (h.map EnV.x) (l.map EnV.x) y.x.key = some q.x → Own w4 w3.heap.size 50 3 D2 (D.length + 1) c4 (ocs (D ++ [q])) → (W.alloc (.cells q.cells 50)).grownBy w4 (ownRow D1 c3) → ∃ (D' : List OpV), D.length + 1 = D'.length ∧ Hid (D'.map OpV.x = ((M.map EnV.x).take (k + 1)).filterMap (fun e => Opn.ref (h.map EnV.x) (l.map EnV.x) e.key)) ∧ D'.length ≤ k + 1 ∧ Own w4 w3.heap.size 50 3 D2 (D.length + 1) c4 (ocs D') ∧ (∀ e ∈ D', e.In w3) ∧ Ext w3 w4) := by
                show ∀ (q : OpV) (W w4 : World) (D2 : Option Addr) (c4 : Nat), _
                intro q W w4 D2 c4 hW hq hr ho hg
                refine ⟨D ++ [q], by simp, ?_, by simp; omega, ho, ?_, ?_⟩
                · show _ = _
                  rw [List.map_append]
                  exact HD.out q.x hr
                · intro e he
                  rcases List.mem_append.1 he with he | he
                  · exact hin e he
                  · simp only [List.mem_cons, List.not_mem_nil, or_false] at he
                    subst he; exact hq
                · have hWx : Ext wr (W.alloc (.cells q.cells 50)) := Ext.tr hW (Ext.alloc _ _)
                  have hW3 : Ext w3 (W.alloc (.cells q.cells 50)) := Ext.tr hbel hWx
                  exact below_app hW3 (hown.below hWx) hg hW3.size
              have hkb : D.length ≤ 1000000 := by omega
              clear hcell hy hsn hmem hkey hyi0 y1' hown hin hown2 hbel
              go_wp2_with fail
              refine HF1.mono ?_
              rintro e5 w5 ⟨b1, va1, v1, vc1, rfl, hx5, hv1, hc1, hf1⟩
              go_wp2_with fail
              refine (HF2 w5 hx5).mono ?_
              rintro e6 w6 ⟨b2, va2, v2, vc2, rfl, hx6, hv2, hc2, hf2⟩
              have hx56 : Ext wr w6 := Ext.tr hx5 hx6
              clear HF1 HF2
              cases b2
              · have hlk2 : look Ent.key (l.map EnV.x) y.x.key = none := by
                  rcases hf2.out with ⟨h1, _⟩ | ⟨_, h1⟩
                  · cases h1
                  · exact h1
                have href : Opn.ref (h.map EnV.x) (l.map EnV.x) y.x.key = some ⟨true, y.x.key, []⟩ := by
                  unfold Opn.ref
                  rw [hlk2]
                  rcases Hkey.out with h1 | h1
                  · cases hlk : look Ent.key (h.map EnV.x) y.x.key with
                    | none => rw [hlk] at h1; cases h1
                    | some a => have := (look_key hlk).1; simp [Opn.should, Opn.gone]; exact this
                  · rw [hlk2] at h1; cases h1
                have Href := Lib.hid href
                clear href hlk2 hf1 hf2 hv1 hv2
                obtain ⟨q, hq⟩ : ∃ q : OpV, q = ⟨y.ka, y.kc, none, 0, ⟨true, y.x.key, []⟩⟩ := ⟨_, rfl⟩
                have hqc : (#[.bool true, .slice y.ka y.x.key.length y.kc, .slice none 0 0] : Array Value) = q.cells := by rw [hq]; rfl
                have hqi : q.In w3 := by rw [hq]; exact ⟨Hyi.out.kr, RdB.nil_ _ _, Hyi.out.kcap, Nat.zero_le _⟩
                have hqx : q.x = ⟨true, y.x.key, []⟩ := by rw [hq]
                have Hqx := Lib.hid hqx
                clear hq hqx
                go_wp2_with (refine wpList_buildOne (by rfl) 23 (.tmp 76) rfl elemO q.cells rfl rfl (by omega) ?_; at_builtin; refine wpList_app rfl (.tmp 74) (.tmp 77) 23 rfl elemO w3.heap.size D1 D.length c3 (ocs D) rfl (some ⟨w6.heap.size, 0, none⟩) 1 1 (ocs [q]) rfl (D.length + 1) rfl (ocs (D ++ [q])) (ocs_app _ _) (Hown2.out _ (Ext.tr hx56 (Ext.alloc _ _))) (RdO.one w6 50 q (hqi.below (Ext.tr Hbel.out hx56))).rd (ocs_one_cell _) (by omega) (by omega) (by rw [World.size_alloc]; exact Nat.le_succ_of_le (Ext.tr Hbel.out hx56).size) ?_; intro D2 c4 w4 ho4 hg4 hr4)
                go_roundw
                case rel =>
                  obtain ⟨D', p1, p2, p3, p4, p5, p6⟩ := HPUSH.out q w6 w4 D2 c4 hx56 hqi (by rw [Href.out, Hqx.out]) ho4 hg4
                  exact ⟨k + 1, D', D2, c4, by omega, by go_num, by rw [p1], p2, p3, by rw [← p1]; exact p4, p5, p6⟩
                case measure => simp [intOf]; omega
              · have hlk2 : look Ent.key (l.map EnV.x) y.x.key = some ⟨y.x.key, v2⟩ := by
                  rcases hf2.out with ⟨_, h1⟩ | ⟨h1, _⟩
                  · exact h1
                  · cases h1
                have hrv2 : ∀ W, Ext w3 W → RdB W va2 v2 := fun W hW => hv2 W (fun y hy => (HB3.out.each y hy).below hW)
                obtain ⟨q, hq⟩ : ∃ q : OpV, q = ⟨y.ka, y.kc, va2, vc2, ⟨false, y.x.key, v2⟩⟩ := ⟨_, rfl⟩
                have hqc : (#[.bool false, .slice y.ka y.x.key.length y.kc, .slice va2 v2.length vc2] : Array Value) = q.cells := by rw [hq]; rfl
                have hqi : q.In w3 := by rw [hq]; exact ⟨Hyi.out.kr, hrv2 w3 (Ext.refl _), Hyi.out.kcap, hc2⟩
                have hqx : q.x = ⟨false, y.x.key, v2⟩ := by rw [hq]
                have Hqx := Lib.hid hqx
                have Hlk2 := Lib.hid hlk2
                clear hq hqx hlk2 hf2
                cases b1
                · have hlk1 : look Ent.key (h.map EnV.x) y.x.key = none := by
                    rcases hf1.out with ⟨h1, _⟩ | ⟨_, h1⟩
                    · cases h1
                    · exact h1
                  have Href : Hid (Opn.ref (h.map EnV.x) (l.map EnV.x) y.x.key = some ⟨false, y.x.key, v2⟩) := by
                    show _ = _
                    unfold Opn.ref
                    rw [hlk1, Hlk2.out]
                    rfl
                  clear hlk1 hf1 hv1
                  go_wp2_with (refine wpList_buildOne (by rfl) 23 (.tmp 91) rfl elemO q.cells rfl rfl (by omega) ?_; at_builtin; refine wpList_app rfl (.tmp 88) (.tmp 92) 23 rfl elemO w3.heap.size D1 D.length c3 (ocs D) rfl (some ⟨w6.heap.size, 0, none⟩) 1 1 (ocs [q]) rfl (D.length + 1) rfl (ocs (D ++ [q])) (ocs_app _ _) (Hown2.out _ (Ext.tr hx56 (Ext.alloc _ _))) (RdO.one w6 50 q (hqi.below (Ext.tr Hbel.out hx56))).rd (ocs_one_cell _) (by omega) (by omega) (by rw [World.size_alloc]; exact Nat.le_succ_of_le (Ext.tr Hbel.out hx56).size) ?_; intro D2 c4 w4 ho4 hg4 hr4)
                  go_roundw
                  case rel =>
                    obtain ⟨D', p1, p2, p3, p4, p5, p6⟩ := HPUSH.out q w6 w4 D2 c4 hx56 hqi (by rw [Href.out, Hqx.out]) ho4 hg4
                    exact ⟨k + 1, D', D2, c4, by omega, by go_num, by rw [p1], p2, p3, by rw [← p1]; exact p4, p5, p6⟩
                  case measure => simp [intOf]; omega
                · have hlk1 : look Ent.key (h.map EnV.x) y.x.key = some ⟨y.x.key, v1⟩ := by
                    rcases hf1.out with ⟨_, h1⟩ | ⟨h1, _⟩
                    · exact h1
                    · cases h1
                  have hrv1 : RdB w6 va1 v1 := hv1 w6 (fun y hy => (HA3.out.each y hy).below (Ext.tr Hbel.out hx56))
                  have z1 := run_str _ 33 9 5 va1 v1 vc1 Try.underlying33 Try.underlying5 Try.underlying9 hrv1 v1.length rfl
                  have z2 := run_str _ 33 9 5 va2 v2 vc2 Try.underlying33 Try.underlying5 Try.underlying9 (hrv2 w6 (Ext.tr Hbel.out hx56)) v2.length rfl
                  by_cases he : v1 = v2
                  · have Href : Hid (Opn.ref (h.map EnV.x) (l.map EnV.x) y.x.key = none) := by
                      show _ = _
                      unfold Opn.ref
                      rw [hlk1, Hlk2.out]
                      simp [Opn.should, he]
                    clear hlk1 hf1 hv1
                    subst he
                    go_wp2
                    go_roundw
                    case rel => exact ⟨k + 1, D, D1, c3, by omega, by go_num, rfl, HD0.out Href.out, by omega, Hown2.out w6 hx56, Hin.out, Ext.tr Hbel.out hx56⟩
                    case measure => simp [intOf]; omega
                  · have Href : Hid (Opn.ref (h.map EnV.x) (l.map EnV.x) y.x.key = some ⟨false, y.x.key, v2⟩) := by
                      show _ = _
                      unfold Opn.ref
                      rw [hlk1, Hlk2.out]
                      simp [Opn.should, he, Opn.put]
                    have he2 : (v1 == v2) = false := by simp [he]
                    clear hlk1 hf1 hv1
                    go_wp2_with (refine wpList_buildOne (by rfl) 23 (.tmp 91) rfl elemO q.cells rfl rfl (by omega) ?_; at_builtin; refine wpList_app rfl (.tmp 88) (.tmp 92) 23 rfl elemO w3.heap.size D1 D.length c3 (ocs D) rfl (some ⟨w6.heap.size, 0, none⟩) 1 1 (ocs [q]) rfl (D.length + 1) rfl (ocs (D ++ [q])) (ocs_app _ _) (Hown2.out _ (Ext.tr hx56 (Ext.alloc _ _))) (RdO.one w6 50 q (hqi.below (Ext.tr Hbel.out hx56))).rd (ocs_one_cell _) (by omega) (by omega) (by rw [World.size_alloc]; exact Nat.le_succ_of_le (Ext.tr Hbel.out hx56).size) ?_; intro D2 c4 w4 ho4 hg4 hr4)
                    go_roundw
                    case rel =>
                      obtain ⟨D', p1, p2, p3, p4, p5, p6⟩ := HPUSH.out q w6 w4 D2 c4 hx56 hqi (by rw [Href.out, Hqx.out]) ho4 hg4
                      exact ⟨k + 1, D', D2, c4, by omega, by go_num, by rw [p1], p2, p3, by rw [← p1]; exact p4, p5, p6⟩
                    case measure => simp [intOf]; omega
            · obtain rfl : k = M.length := by omega
              go_wp2
              go_ret
              refine ⟨D1, D, c3, rfl, ?_, ⟨hown.rd, fun e he => (hin e he).below hbel⟩, hown.nc, by omega, Hb3.out.trans (hbel.mono Hb3.out.size)⟩
              rw [hD.out, List.take_of_length_le (by simp), Heq.out]
              exact Opn.ref_diff Hup1.out Hup2.out
end Go.Proofs.Ytdekdblebflklaa

/- Contract: ops.Merge. Printed by wip/tools/gen_opmerge20.py. -/

namespace Go.Proofs.Ytdekdblebflklaa

open Go.RowKit

attribute [local go_sem] Oper.semAt_some

/-- The list in memory, one operation further. -/
def mergeV (L : List OpV) (x : OpV) : List OpV := if thereK OpV.key x.x.key L = true then L else putK OpV.key x L
theorem mergeV_x (L : List OpV) (x : OpV) (h : UpK OpV.key L) : (mergeV L x).map OpV.x = Opn.mergeIn (L.map OpV.x) x.x := by
  unfold mergeV Opn.mergeIn
  have h1 := posK_map OpV.x OpV.key Opn.key (fun _ => rfl) x.x.key L
  have h2 := thereK_map OpV.x OpV.key Opn.key (fun _ => rfl) x.x.key L
  have h3 : (look Opn.key (L.map OpV.x) x.x.key).isSome = true ↔ thereK Opn.key x.x.key (L.map OpV.x) = true := by
    rw [look_pos ((UpK.map (f := OpV.x) (key := OpV.key) (key' := Opn.key) (fun _ => rfl)).2 h)]; unfold thereK; simp
  by_cases ht : thereK OpV.key x.x.key L = true
  · rw [if_pos ht, if_pos (h3.2 (h2.trans ht))]
  · rw [if_neg ht, if_neg (fun h => ht (h2.symm.trans (h3.1 h))), putK_is, putK_is]
    have e1 : OpV.key x = x.x.key := rfl
    rw [e1, if_neg ht, show Opn.key x.x = x.x.key from rfl, h1, if_neg (fun h => ht (h2.symm.trans h))]
    simp
theorem mergeV_up {L : List OpV} (h : UpK OpV.key L) (x : OpV) : UpK OpV.key (mergeV L x) := by
  unfold mergeV
  split
  · exact h
  · exact h.putK
theorem mergeV_in {L : List OpV} {w : World} (h : ∀ e ∈ L, e.In w) {x : OpV} (hx : x.In w) : ∀ e ∈ mergeV L x, e.In w := by
  intro e he
  unfold mergeV at he
  split at he
  · exact h e he
  · rcases mem_putK he with rfl | he
    · exact hx
    · exact h e he
def MergeP (a b : List OpV) (w : World) (e : Ending) (w' : World) : Prop :=
  ∃ A' L c', e = .returned (.slice A' (L : List OpV).length c') ∧ L.map OpV.x = (a.map OpV.x).foldl Opn.mergeIn (b.map OpV.x) ∧ UpK OpV.key L ∧ L.length ≤ a.length + b.length ∧ RdO w' A' L ∧ L.length ≤ c' ∧ (∀ e ∈ L, e.In w) ∧ Below w.heap.size w w'
set_option maxRecDepth 100000 in
set_option maxHeartbeats 1000000 in
theorem merge_any (A : Option Addr) (a : List OpV) (c : Nat) (B : Option Addr) (b : List OpV) (d : Nat) (w : World) (hA : RdO w A a) (hB : RdO w B b) (hu : UpK OpV.key b) (hl : a.length ≤ 100000) (ho : b.length ≤ 100000) :
    Calls Try.prog 24 #[.slice A a.length c, .slice B b.length d] w (MergeP a b w) := by
  have Hu := Lib.hid hu
  clear hu
  go_enter Try.func24, Try.ntmps24
  go_wp2_with (go_at_call 44; refine (cloneO_any B b.length d (ocs b) _ hB.rd (ocs_one_cell b) (by omega)).mono ?_; rintro e1 w1 ⟨A1, c1, rfl, ho1, hb1⟩)
  go_loopw [5, 14] (fun v j wr => ∃ (k : Nat) (L : List OpV) (A' : Option Addr) (c' : Nat), k ≤ a.length ∧ j = .int .i64 k ∧ v = .slice A' L.length c' ∧ Hid (L.map OpV.x = ((a.map OpV.x).take k).foldl Opn.mergeIn (b.map OpV.x)) ∧ Hid (UpK OpV.key L) ∧ L.length ≤ b.length + k ∧ Own wr w.heap.size 50 3 A' L.length c' (ocs L) ∧ (∀ e ∈ L, e.In w) ∧ Below w.heap.size w wr) (fun _ j _ => a.length - (intOf j).toNat)
  case atStart => exact ⟨0, b, A1, c1, by omega, rfl, rfl, rfl, Hu.out, by omega, ho1, hB.each, hb1⟩
  case round =>
    obtain ⟨k, L, A', c', hk, rfl, rfl, hLx, hup, hlen, hown, hin, hbel⟩ := hrel
    by_cases h : k < a.length
    · obtain ⟨ad, rfl, hcell, hxin⟩ := (hA.below hbel).at_ h
      obtain ⟨x, hxk⟩ : ∃ x, a[k] = x := ⟨_, rfl⟩
      have hxw : x.In w := by rw [← hxk]; exact hA.each _ (List.getElem_mem h)
      rw [hxk] at hcell hxin
      have Hxk := Lib.hid hxk
      have Hxw := Lib.hid hxw
      have Hcx := Lib.hid hcell
      obtain ⟨i, hi⟩ : ∃ i, i = posK OpV.key x.x.key L := ⟨_, rfl⟩
      have gx := heap_alloc_new wr (.cells x.cells 50)
      have hbx := Ext.alloc wr (.cells x.cells 50)
      have hRO : RdO wr A' L := ⟨hown.rd, fun e he => (hin e he).below hbel⟩
      have HB := bsearchO_any A' L c' x (wr.alloc (.cells x.cells 50)) (hRO.below hbx) (hxin.below hbx) hup.out (by omega)
      rw [← hi] at HB
      have Hgx := Lib.hid gx
      have Hown2 : ∀ w2, Below (wr.alloc (.cells x.cells 50)).heap.size (wr.alloc (.cells x.cells 50)) w2 → Own w2 w.heap.size 50 3 A' L.length c' (ocs L) := fun w2 hb2 => (hown.below hbx).below hb2
      have Hbel2 : ∀ w2, Below (wr.alloc (.cells x.cells 50)).heap.size (wr.alloc (.cells x.cells 50)) w2 → Below w.heap.size w w2 := fun w2 hb2 => ext_trans (ext_trans hbel hbx) hb2
      have Hins : ∀ w2, Below (wr.alloc (.cells x.cells 50)).heap.size (wr.alloc (.cells x.cells 50)) w2 → i ≤ L.length → Calls Try.prog 47 #[.slice A' L.length c', .int .i64 (i : Int), .slice (some ⟨w2.heap.size, 0, none⟩) 1 1] (w2.alloc (.cells x.cells 50)) (InsO w.heap.size A' L.length c' (ocs L) x.cells.toList i (w2.alloc (.cells x.cells 50))) := fun w2 hb2 hil => insertO_any w.heap.size A' L.length c' (ocs L) x.cells.toList i w2.heap.size _ ((Hown2 w2 hb2).below (Ext.alloc _ _)) (ocs_one_cell L) hil (by omega) (by have := (Hbel2 w2 hb2).size; rw [World.size_alloc]; omega) rfl (by have := oone x; rw [Array.all_eq_true_iff_forall_mem] at this; simpa using this) (by have := heap_alloc_new w2 (.cells x.cells 50); simpa using this) (fun e => by have := ((Hown2 w2 hb2).row_lt _ e).2; omega)
      clear hcell hxin hxw hxk gx hRO
      obtain ⟨th, hth⟩ : ∃ th, thereK OpV.key x.x.key L = th := ⟨_, rfl⟩
      rw [hth] at HB
      have Hth := Lib.hid hth
      have Hi := Lib.hid hi
      clear hth hi
      cases th
      · have Hil := Lib.hid (show i ≤ L.length from by rw [Hi.out]; exact posK_le _ _)
        go_wp2_with (first | (have hcx := Hcx.out; refine wpList_load_cells rfl 50 (.tmp 16) rfl _ rfl x.cells _ hcx Try.underlying50 rfl (oinfo _) ?_; clear hcx) | (refine wpList_store_row rfl 50 (.tmp 7) (.tmp 17) rfl wr.heap.size x.cells rfl rfl 50 _ (heap_alloc_new wr _) (oinfo _) (by rfl) (oone _) ?_; rw [setRow_alloc]) | (refine wpList_load_rowG (by rfl) 50 (.tmp 7) rfl wr.heap.size rfl 50 x.cells (0, 0) _ Hgx.out Try.underlying50 rfl (oinfo _) ?_) | (go_at_call 45; refine HB.mono ?_; rintro e2 w2 ⟨rfl, hb2⟩; have hgx2 := (hb2.block _ (lt_of_heap Hgx.out)).trans Hgx.out) | (refine wpList_load_rowG (by rfl) 50 (.tmp 7) rfl wr.heap.size rfl 50 x.cells (0, 0) _ hgx2 Try.underlying50 rfl (oinfo _) ?_) | (refine wpList_buildOne (by rfl) 23 (.tmp 28) rfl elemO x.cells rfl rfl (by omega) ?_) | (go_at_call 47; refine (Hins w2 hb2 Hil.out).mono ?_; rintro e3 w4 ⟨A4, c4, rfl, ho4, hg4, hr4⟩))
        go_roundw
        case rel =>
          have hst : mergeV L x = L.take i ++ x :: L.drop i := by
            unfold mergeV
            rw [if_neg (by rw [Hth.out]; decide), putK_is]
            have e2 : OpV.key x = x.x.key := rfl
            rw [e2, if_neg (by rw [Hth.out]; decide), ← Hi.out]
          have hln : L.length + 1 = (mergeV L x).length := by rw [hst, List.length_append, List.length_cons, List.length_take, List.length_drop]; omega
          have hec : (ocs L).take (i * 3) ++ (x.cells.toList ++ (ocs L).drop (i * 3)) = ocs (mergeV L x) := by rw [hst, ocs_take, ocs_drop, ocs_app]; rfl
          rw [hec] at ho4
          have hst2 : (mergeV L x).map OpV.x = ((a.map OpV.x).take (k + 1)).foldl Opn.mergeIn (b.map OpV.x) := by
            rw [List.take_succ_eq_append_getElem (by simpa using h), List.foldl_append, ← hLx.out, mergeV_x L x hup.out]; simp [Hxk.out]
          refine ⟨k + 1, mergeV L x, A4, c4, by omega, by go_num, by rw [hln], hst2, mergeV_up hup.out x, by omega, by rw [← hln]; exact ho4, mergeV_in hin Hxw.out, below_app ((Hbel2 w2 hb2).trans ((Ext.alloc _ _).mono (Hbel2 w2 hb2).size)) ((Hown2 w2 hb2).below (Ext.alloc _ _)) hg4 (by have := (Hbel2 w2 hb2).size; rw [World.size_alloc]; omega)⟩
        case measure => simp [intOf]; omega
      · go_wp2_with (first | (have hcx := Hcx.out; refine wpList_load_cells rfl 50 (.tmp 16) rfl _ rfl x.cells _ hcx Try.underlying50 rfl (oinfo _) ?_; clear hcx) | (refine wpList_store_row rfl 50 (.tmp 7) (.tmp 17) rfl wr.heap.size x.cells rfl rfl 50 _ (heap_alloc_new wr _) (oinfo _) (by rfl) (oone _) ?_; rw [setRow_alloc]) | (refine wpList_load_rowG (by rfl) 50 (.tmp 7) rfl wr.heap.size rfl 50 x.cells (0, 0) _ Hgx.out Try.underlying50 rfl (oinfo _) ?_) | (go_at_call 45; refine HB.mono ?_; rintro e2 w2 ⟨rfl, hb2⟩; have hgx2 := (hb2.block _ (lt_of_heap Hgx.out)).trans Hgx.out) | (refine wpList_load_rowG (by rfl) 50 (.tmp 7) rfl wr.heap.size rfl 50 x.cells (0, 0) _ hgx2 Try.underlying50 rfl (oinfo _) ?_))
        go_roundw
        case rel =>
          have hst : mergeV L x = L := by unfold mergeV; rw [if_pos Hth.out]
          have hst2 : L.map OpV.x = ((a.map OpV.x).take (k + 1)).foldl Opn.mergeIn (b.map OpV.x) := by
            rw [List.take_succ_eq_append_getElem (by simpa using h), List.foldl_append, ← hLx.out]
            have := mergeV_x L x hup.out
            rw [hst] at this
            simpa [Hxk.out] using this
          refine ⟨k + 1, L, A', c', by omega, by go_num, rfl, hst2, hup, by omega, Hown2 w2 hb2, hin, Hbel2 w2 hb2⟩
        case measure => simp [intOf]; omega
    · obtain rfl : k = a.length := by omega
      go_wp2
      go_ret
      refine ⟨A', L, c', rfl, by rw [hLx.out]; simp [List.take_of_length_le], hup.out, by omega, ⟨hown.rd, fun e he => (hin e he).below hbel⟩, hown.nc, hin, hbel⟩
end Go.Proofs.Ytdekdblebflklaa

/- Contract: scowref20.Merge. Printed by wip/tools/gen_oprmerge20.py. -/

namespace Go.Proofs.Ytdekdblebflklaa

open Go.RowKit

attribute [local go_sem] Oper.semAt_some

theorem RdO.head {w : World} {A : Option Addr} {e : OpV} {l : List OpV} (h : RdO w A (e :: l)) : ∃ ad, A = some ad ∧ (∀ j u, (e.cells)[j]? = some u → w.cell? (ad.add j) = some u) ∧ OAt w ad e ∧ e.In w := by
  obtain ⟨ad, hA, hc, hi⟩ := h.at_ (k := 0) (by simp)
  have hc' : ∀ j u, (e.cells)[j]? = some u → w.cell? (ad.add j) = some u := hc
  exact ⟨ad, hA, hc', ⟨hc' 0 _ rfl, hc' 1 _ rfl, hc' 2 _ rfl⟩, hi⟩
def RMergeP (a b : List OpV) (w : World) (e : Ending) (w' : World) : Prop :=
  ∃ A' D c', e = .returned (.slice A' (D : List OpV).length c') ∧ D.map OpV.x = Opn.merge (a.map OpV.x) (b.map OpV.x) ∧ RdO w' A' D ∧ D.length ≤ c' ∧ D.length ≤ a.length + b.length ∧ Below w.heap.size w w'
/-- What Merge keeps between two rounds. -/
structure RMeI (a b : List OpV) (w : World) (H L D : List OpV) (A1 B1 D1 : Option Addr) (c1 c2 c3 : Nat) (wr : World) : Prop where
  eq : Opn.merge (a.map OpV.x) (b.map OpV.x) = D.map OpV.x ++ Opn.merge (H.map OpV.x) (L.map OpV.x)
  h1 : H.length ≤ c1
  h2 : L.length ≤ c2
  len : D.length + H.length + L.length ≤ a.length + b.length
  ra : RdO w A1 H
  rb : RdO w B1 L
  own : Own wr w.heap.size 50 3 D1 D.length c3 (ocs D)
  ins : ∀ e ∈ D, e.In w
  bel : Below w.heap.size w wr
theorem RMeI.push {a b : List OpV} {w : World} {H L D H' L' : List OpV} {A1 B1 D1 A2 B2 D2 : Option Addr} {c1 c2 c3 k1 k2 k3 : Nat} {wr W V : World} {q : OpV} (h : RMeI a b w H L D A1 B1 D1 c1 c2 c3 wr)
    (he : Opn.merge (H.map OpV.x) (L.map OpV.x) = q.x :: Opn.merge (H'.map OpV.x) (L'.map OpV.x)) (hl : 1 + H'.length + L'.length ≤ H.length + L.length) (hq : q.In w) (h1 : H'.length ≤ k1) (h2 : L'.length ≤ k2) (ra : RdO w A2 H') (rb : RdO w B2 L')
    (hW : Ext wr W) (ho : Own V w.heap.size 50 3 D2 (D.length + 1) k3 (ocs (D ++ [q]))) (hg : (W.alloc (.cells q.cells 50)).grownBy V (ownRow D1 c3)) : RMeI a b w H' L' (D ++ [q]) A2 B2 D2 k1 k2 k3 V := by
  have hWx : Ext wr (W.alloc (.cells q.cells 50)) := Ext.tr hW (Ext.alloc _ _)
  refine ⟨?_, h1, h2, ?_, ra, rb, by rw [List.length_append]; exact ho, ?_, below_app (h.bel.trans (hWx.mono h.bel.size)) (h.own.below hWx) hg (Nat.le_trans h.bel.size hWx.size)⟩
  · rw [h.eq, he]; simp
  · have := h.len; simp; omega
  · intro e he
    rcases List.mem_append.1 he with he | he
    · exact h.ins e he
    · simp only [List.mem_cons, List.not_mem_nil, or_false] at he
      subst he; exact hq
set_option maxRecDepth 100000 in
set_option maxHeartbeats 2000000 in
theorem ref_merge (A : Option Addr) (a : List OpV) (ca : Nat) (B : Option Addr) (b : List OpV) (cb : Nat) (w : World) (hA : RdO w A a) (hB : RdO w B b) (hca : a.length ≤ ca) (hcb : b.length ≤ cb) (hh : a.length ≤ 100000) (hl : b.length ≤ 100000) :
    Calls Try.prog 25 #[.slice A a.length ca, .slice B b.length cb] w (RMergeP a b w) := by
  go_enter Try.func25, Try.ntmps25
  go_wp2
  go_loopw [0, 1, 5] (fun x y d wr => ∃ (H L D : List OpV) (A1 B1 D1 : Option Addr) (c1 c2 c3 : Nat), x = .slice A1 H.length c1 ∧ y = .slice B1 L.length c2 ∧ d = .slice D1 D.length c3 ∧ RMeI a b w H L D A1 B1 D1 c1 c2 c3 wr) (fun x y _ _ => lenV x + lenV y)
  case atStart => exact ⟨a, b, [], A, B, none, ca, cb, 0, rfl, rfl, rfl, ⟨rfl, hca, hcb, by simp, hA, hB, Own.none_ _ _ _ _ _, by simp, Below.refl _ _⟩⟩
  case round =>
    obtain ⟨H, L, D, A1, B1, D1, c1, c2, c3, rfl, rfl, rfl, hI⟩ := hrel
    have HI := Lib.hid hI
    have hdb : D.length ≤ 1000000 := by have := hI.len; omega
    rcases H with _ | ⟨x, H⟩
    · rcases L with _ | ⟨y, L⟩
      · clear hI
        simp only [List.length_nil]
        go_wp2
        go_ret
        refine ⟨D1, D, c3, rfl, by rw [HI.out.eq]; simp [Opn.merge], ⟨HI.out.own.rd, fun e he => (HI.out.ins e he).below HI.out.bel⟩, HI.out.own.nc, by have := HI.out.len; simp at this; exact this, HI.out.bel⟩
      · obtain ⟨bd, rfl, hyc, hy, hyi⟩ := (hI.rb.below hI.bel).head
        have hLt := hI.rb.tail (k := 1) (by simp) (c := c2) hI.h2
        have hyw := hI.rb.each y (by simp)
        have h2 := hI.h2
        simp only [List.length_nil, List.length_cons] at h2 ⊢
        have Hyc := Lib.hid hyc
        have HLt := Lib.hid hLt
        have he : Hid (Opn.merge [] (y.x :: L.map OpV.x) = y.x :: Opn.merge [] (L.map OpV.x)) := by show _ = _; simp [Opn.merge]
        have hnz : (0 : Int) < (L.length : Int) + 1 := by omega
        have hW : Ext wr wr.drew := Ext.drew wr
        clear hyc hLt hI hy
        go_wp2_with fail
        refine rg_start (by kernel_rfl) ?_
        refine rg_take 0 rfl (by kernel_rfl) (by kernel_rfl) (by kernel_rfl) (fun _ _ _ _ h => h) (by rfl) ⟨_, fun w' hx => by (go_simp <;> with_reducible rfl), ?_⟩
        simp only [Act.put, List.setIfInBounds_toArray, List.set_cons_zero, List.set_cons_succ]
        refine rg_take 1 rfl (by kernel_rfl) (by kernel_rfl) (by kernel_rfl) (fun _ _ _ _ h => h) (by rfl) ⟨_, fun w' hx => by (go_simp <;> with_reducible rfl), ?_⟩   -- t26 := len(t25)
        simp only [Act.put, List.setIfInBounds_toArray, List.set_cons_zero, List.set_cons_succ]
        refine rg_take 2 rfl (by kernel_rfl) (by kernel_rfl) (by kernel_rfl) (fun _ _ _ _ h => h) (by rfl) ⟨.bool true, fun w' hx => by (go_simp <;> with_reducible rfl), ?_⟩
        simp only [Act.put, List.setIfInBounds_toArray, List.set_cons_zero, List.set_cons_succ]
        refine rg_take 3 rfl (by kernel_rfl) (by kernel_rfl) (by kernel_rfl) (fun _ _ _ _ h => h) (by rfl) ⟨_, fun w' hx => by (go_simp <;> with_reducible rfl), ?_⟩
        simp only [Act.put, List.setIfInBounds_toArray, List.set_cons_zero, List.set_cons_succ]
        refine rg_skip 4 rfl (by kernel_rfl) (by kernel_rfl) (by kernel_rfl) (fun _ _ _ _ h => h) (by rfl) ?_
        simp only [Act.put, List.setIfInBounds_toArray, List.set_cons_zero, List.set_cons_succ]
        refine rg_skip 5 rfl (by kernel_rfl) (by kernel_rfl) (by kernel_rfl) (fun _ _ _ _ h => h) (by rfl) ?_
        simp only [Act.put, List.setIfInBounds_toArray, List.set_cons_zero, List.set_cons_succ]
        refine rg_skip 6 rfl (by kernel_rfl) (by kernel_rfl) (by kernel_rfl) (fun _ _ _ _ h => h) (by rfl) ?_
        simp only [Act.put, List.setIfInBounds_toArray, List.set_cons_zero, List.set_cons_succ]
        refine rg_skip 7 rfl (by kernel_rfl) (by kernel_rfl) (by kernel_rfl) (fun _ _ _ _ h => h) (by rfl) ?_
        simp only [Act.put, List.setIfInBounds_toArray, List.set_cons_zero, List.set_cons_succ]
        refine rg_skip 8 rfl (by kernel_rfl) (by kernel_rfl) (by kernel_rfl) (fun _ _ _ _ h => h) (by rfl) ?_
        simp only [Act.put, List.setIfInBounds_toArray, List.set_cons_zero, List.set_cons_succ]
        refine rg_skip 9 rfl (by kernel_rfl) (by kernel_rfl) (by kernel_rfl) (fun _ _ _ _ h => h) (by rfl) ?_
        simp only [Act.put, List.setIfInBounds_toArray, List.set_cons_zero, List.set_cons_succ]
        refine rg_skip 10 rfl (by kernel_rfl) (by kernel_rfl) (by kernel_rfl) (fun _ _ _ _ h => h) (by rfl) ?_
        simp only [Act.put, List.setIfInBounds_toArray, List.set_cons_zero, List.set_cons_succ]
        refine rg_skip 11 rfl (by kernel_rfl) (by kernel_rfl) (by kernel_rfl) (fun _ _ _ _ h => h) (by rfl) ?_
        simp only [Act.put, List.setIfInBounds_toArray, List.set_cons_zero, List.set_cons_succ]
        refine rg_skip 12 rfl (by kernel_rfl) (by kernel_rfl) (by kernel_rfl) (fun _ _ _ _ h => h) (by rfl) ?_
        simp only [Act.put, List.setIfInBounds_toArray, List.set_cons_zero, List.set_cons_succ]
        refine rg_skip 13 rfl (by kernel_rfl) (by kernel_rfl) (by kernel_rfl) (fun _ _ _ _ h => h) (by rfl) ?_
        simp only [Act.put, List.setIfInBounds_toArray, List.set_cons_zero, List.set_cons_succ]
        refine rg_skip 14 rfl (by kernel_rfl) (by kernel_rfl) (by kernel_rfl) (fun _ _ _ _ h => h) (by rfl) ?_
        simp only [Act.put, List.setIfInBounds_toArray, List.set_cons_zero, List.set_cons_succ]
        refine rg_skip 15 rfl (by kernel_rfl) (by kernel_rfl) (by kernel_rfl) (fun _ _ _ _ h => h) (by rfl) ?_
        simp only [Act.put, List.setIfInBounds_toArray, List.set_cons_zero, List.set_cons_succ]
        refine rg_skip 16 rfl (by kernel_rfl) (by kernel_rfl) (by kernel_rfl) (fun _ _ _ _ h => h) (by rfl) ?_
        simp only [Act.put, List.setIfInBounds_toArray, List.set_cons_zero, List.set_cons_succ]
        refine rg_skip 17 rfl (by kernel_rfl) (by kernel_rfl) (by kernel_rfl) (fun _ _ _ _ h => h) (by rfl) ?_
        simp only [Act.put, List.setIfInBounds_toArray, List.set_cons_zero, List.set_cons_succ]
        refine rg_skip 18 rfl (by kernel_rfl) (by kernel_rfl) (by kernel_rfl) (fun _ _ _ _ h => h) (by rfl) ?_
        simp only [Act.put, List.setIfInBounds_toArray, List.set_cons_zero, List.set_cons_succ]
        refine rg_skip 19 rfl (by kernel_rfl) (by kernel_rfl) (by kernel_rfl) (fun _ _ _ _ h => h) (by rfl) ?_
        simp only [Act.put, List.setIfInBounds_toArray, List.set_cons_zero, List.set_cons_succ]
        refine rg_take 20 rfl (by kernel_rfl) (by kernel_rfl) (by kernel_rfl) (fun _ _ _ _ h => h) (by rfl) ⟨_, fun w' hx => by (go_simp <;> with_reducible rfl), ?_⟩
        simp only [Act.put, List.setIfInBounds_toArray, List.set_cons_zero, List.set_cons_succ]
        refine rg_take 21 rfl (by kernel_rfl) (by kernel_rfl) (by kernel_rfl) (fun _ _ _ _ h => h) (by rfl) ⟨_, fun w' hx => by (go_simp <;> with_reducible rfl), ?_⟩
        simp only [Act.put, List.setIfInBounds_toArray, List.set_cons_zero, List.set_cons_succ]
        refine rg_done (by kernel_rfl) ?_
        go_wp2_with (first | (have hcx := fun j u h => Ext.load hW (Hyc.out j u h); refine wpList_load_cells (by rfl) 50 (.tmp 48) rfl _ rfl y.cells _ hcx Try.underlying50 rfl (oinfo _) ?_; clear hcx) | (refine wpList_buildOne (by rfl) 23 (.tmp 49) rfl elemO y.cells rfl rfl (by omega) ?_; at_builtin; refine wpList_app rfl (.tmp 46) (.tmp 50) 23 rfl elemO w.heap.size D1 D.length c3 (ocs D) rfl _ 1 1 (ocs [y]) rfl (D.length + 1) rfl (ocs (D ++ [y])) (ocs_app _ _) (HI.out.own.below (Ext.tr hW (Ext.alloc _ _))) (RdO.one _ 50 y (hyw.below (HI.out.bel.trans (hW.mono HI.out.bel.size)))).rd (ocs_one_cell _) (by omega) (by omega) (by rw [World.size_alloc]; exact Nat.le_succ_of_le (Nat.le_trans HI.out.bel.size hW.size)) ?_; intro D2 c4 w4 ho4 hg4 hr4))
        go_roundw
        case rel => exact ⟨[], L, D ++ [y], A1, _, D2, c1, c2 - 1, c4, rfl, rfl, by rw [List.length_append]; rfl, HI.out.push he.out (by simp; omega) hyw (Nat.zero_le _) (by omega) HI.out.ra HLt.out hW ho4 hg4⟩
        case measure => simp [lenV]
    · rcases L with _ | ⟨y, L⟩
      · obtain ⟨ad, rfl, hxc, hx, hxi⟩ := (hI.ra.below hI.bel).head
        have hHt := hI.ra.tail (k := 1) (by simp) (c := c1) hI.h1
        have hxw := hI.ra.each x (by simp)
        have h1 := hI.h1
        simp only [List.length_nil, List.length_cons] at h1 ⊢
        have Hxc := Lib.hid hxc
        have HHt := Lib.hid hHt
        have he : Hid (Opn.merge (x.x :: H.map OpV.x) [] = x.x :: Opn.merge (H.map OpV.x) []) := by show _ = _; simp [Opn.merge]
        have hnz : (0 : Int) < (H.length : Int) + 1 := by omega
        have hnz1 : ¬ ((H.length : Int) + 1 = 0) := by omega
        have hnzb : ((H.length : Int) + 1 == 0) = false := by rw [beq_eq_false_iff_ne]; omega
        have hW : Ext wr wr.drew.drew := Ext.tr (Ext.drew wr) (Ext.drew _)
        clear hxc hHt hI hx
        go_wp2_with fail
        refine rg_start (by kernel_rfl) ?_
        refine rg_take 0 rfl (by kernel_rfl) (by kernel_rfl) (by kernel_rfl) (fun _ _ _ _ h => h) (by rfl) ⟨_, fun w' hx => by (go_simp <;> with_reducible rfl), ?_⟩
        simp only [Act.put, List.setIfInBounds_toArray, List.set_cons_zero, List.set_cons_succ]
        refine rg_take 1 rfl (by kernel_rfl) (by kernel_rfl) (by kernel_rfl) (fun _ _ _ _ h => h) (by rfl) ⟨_, fun w' hx => by (go_simp <;> with_reducible rfl), ?_⟩   -- t26 := len(t25)
        simp only [Act.put, List.setIfInBounds_toArray, List.set_cons_zero, List.set_cons_succ]
        refine rg_take 2 rfl (by kernel_rfl) (by kernel_rfl) (by kernel_rfl) (fun _ _ _ _ h => h) (by rfl) ⟨.bool false, fun w' hx => by (go_simp <;> with_reducible rfl), ?_⟩
        simp only [Act.put, List.setIfInBounds_toArray, List.set_cons_zero, List.set_cons_succ]
        refine rg_take 3 rfl (by kernel_rfl) (by kernel_rfl) (by kernel_rfl) (fun _ _ _ _ h => h) (by rfl) ⟨_, fun w' hx => by (go_simp <;> with_reducible rfl), ?_⟩
        simp only [Act.put, List.setIfInBounds_toArray, List.set_cons_zero, List.set_cons_succ]
        refine rg_take 4 rfl (by kernel_rfl) (by kernel_rfl) (by kernel_rfl) (fun _ _ _ _ h => h) (by rfl) ⟨_, fun w' hx => by (go_simp <;> with_reducible rfl), ?_⟩
        simp only [Act.put, List.setIfInBounds_toArray, List.set_cons_zero, List.set_cons_succ]
        refine rg_take 5 rfl (by kernel_rfl) (by kernel_rfl) (by kernel_rfl) (fun _ _ _ _ h => h) (by rfl) ⟨_, fun w' hx => by (go_simp <;> with_reducible rfl), ?_⟩   -- t30 := len(t29)
        simp only [Act.put, List.setIfInBounds_toArray, List.set_cons_zero, List.set_cons_succ]
        refine rg_take 6 rfl (by kernel_rfl) (by kernel_rfl) (by kernel_rfl) (fun _ _ _ _ h => h) (by rfl) ⟨.bool false, fun w' hx => by (go_simp <;> with_reducible rfl), ?_⟩
        simp only [Act.put, List.setIfInBounds_toArray, List.set_cons_zero, List.set_cons_succ]
        refine rg_take 7 rfl (by kernel_rfl) (by kernel_rfl) (by kernel_rfl) (fun _ _ _ _ h => h) (by rfl) ⟨_, fun w' hx => by (go_simp <;> with_reducible rfl), ?_⟩
        simp only [Act.put, List.setIfInBounds_toArray, List.set_cons_zero, List.set_cons_succ]
        refine rg_skip 8 rfl (by kernel_rfl) (by kernel_rfl) (by kernel_rfl) (fun _ _ _ _ h => h) (by rfl) ?_
        simp only [Act.put, List.setIfInBounds_toArray, List.set_cons_zero, List.set_cons_succ]
        refine rg_skip 9 rfl (by kernel_rfl) (by kernel_rfl) (by kernel_rfl) (fun _ _ _ _ h => h) (by rfl) ?_
        simp only [Act.put, List.setIfInBounds_toArray, List.set_cons_zero, List.set_cons_succ]
        refine rg_skip 10 rfl (by kernel_rfl) (by kernel_rfl) (by kernel_rfl) (fun _ _ _ _ h => h) (by rfl) ?_
        simp only [Act.put, List.setIfInBounds_toArray, List.set_cons_zero, List.set_cons_succ]
        refine rg_skip 11 rfl (by kernel_rfl) (by kernel_rfl) (by kernel_rfl) (fun _ _ _ _ h => h) (by rfl) ?_
        simp only [Act.put, List.setIfInBounds_toArray, List.set_cons_zero, List.set_cons_succ]
        refine rg_skip 12 rfl (by kernel_rfl) (by kernel_rfl) (by kernel_rfl) (fun _ _ _ _ h => h) (by rfl) ?_
        simp only [Act.put, List.setIfInBounds_toArray, List.set_cons_zero, List.set_cons_succ]
        refine rg_skip 13 rfl (by kernel_rfl) (by kernel_rfl) (by kernel_rfl) (fun _ _ _ _ h => h) (by rfl) ?_
        simp only [Act.put, List.setIfInBounds_toArray, List.set_cons_zero, List.set_cons_succ]
        refine rg_skip 14 rfl (by kernel_rfl) (by kernel_rfl) (by kernel_rfl) (fun _ _ _ _ h => h) (by rfl) ?_
        simp only [Act.put, List.setIfInBounds_toArray, List.set_cons_zero, List.set_cons_succ]
        refine rg_skip 15 rfl (by kernel_rfl) (by kernel_rfl) (by kernel_rfl) (fun _ _ _ _ h => h) (by rfl) ?_
        simp only [Act.put, List.setIfInBounds_toArray, List.set_cons_zero, List.set_cons_succ]
        refine rg_skip 16 rfl (by kernel_rfl) (by kernel_rfl) (by kernel_rfl) (fun _ _ _ _ h => h) (by rfl) ?_
        simp only [Act.put, List.setIfInBounds_toArray, List.set_cons_zero, List.set_cons_succ]
        refine rg_skip 17 rfl (by kernel_rfl) (by kernel_rfl) (by kernel_rfl) (fun _ _ _ _ h => h) (by rfl) ?_
        simp only [Act.put, List.setIfInBounds_toArray, List.set_cons_zero, List.set_cons_succ]
        refine rg_skip 18 rfl (by kernel_rfl) (by kernel_rfl) (by kernel_rfl) (fun _ _ _ _ h => h) (by rfl) ?_
        simp only [Act.put, List.setIfInBounds_toArray, List.set_cons_zero, List.set_cons_succ]
        refine rg_take 19 rfl (by kernel_rfl) (by kernel_rfl) (by kernel_rfl) (fun _ _ _ _ h => h) (by rfl) ⟨_, fun w' hx => by (go_simp <;> with_reducible rfl), ?_⟩
        simp only [Act.put, List.setIfInBounds_toArray, List.set_cons_zero, List.set_cons_succ]
        refine rg_take 20 rfl (by kernel_rfl) (by kernel_rfl) (by kernel_rfl) (fun _ _ _ _ h => h) (by rfl) ⟨_, fun w' hx => by (go_simp <;> with_reducible rfl), ?_⟩
        simp only [Act.put, List.setIfInBounds_toArray, List.set_cons_zero, List.set_cons_succ]
        refine rg_take 21 rfl (by kernel_rfl) (by kernel_rfl) (by kernel_rfl) (fun _ _ _ _ h => h) (by rfl) ⟨_, fun w' hx => by (go_simp <;> with_reducible rfl), ?_⟩
        simp only [Act.put, List.setIfInBounds_toArray, List.set_cons_zero, List.set_cons_succ]
        refine rg_done (by kernel_rfl) ?_
        go_wp2_with fail
        refine rg_start (by kernel_rfl) ?_
        refine rg_take 0 rfl (by kernel_rfl) (by kernel_rfl) (by kernel_rfl) (fun _ _ _ _ h => h) (by rfl) ⟨_, fun w' hx => by (go_simp <;> with_reducible rfl), ?_⟩
        simp only [Act.put, List.setIfInBounds_toArray, List.set_cons_zero, List.set_cons_succ]
        refine rg_take 1 rfl (by kernel_rfl) (by kernel_rfl) (by kernel_rfl) (fun _ _ _ _ h => h) (by rfl) ⟨_, fun w' hx => by (go_simp <;> with_reducible rfl), ?_⟩   -- t56 := len(t55)
        simp only [Act.put, List.setIfInBounds_toArray, List.set_cons_zero, List.set_cons_succ]
        refine rg_take 2 rfl (by kernel_rfl) (by kernel_rfl) (by kernel_rfl) (fun _ _ _ _ h => h) (by rfl) ⟨.bool true, fun w' hx => by (go_simp <;> with_reducible rfl), ?_⟩
        simp only [Act.put, List.setIfInBounds_toArray, List.set_cons_zero, List.set_cons_succ]
        refine rg_take 3 rfl (by kernel_rfl) (by kernel_rfl) (by kernel_rfl) (fun _ _ _ _ h => h) (by rfl) ⟨_, fun w' hx => by (go_simp <;> with_reducible rfl), ?_⟩
        simp only [Act.put, List.setIfInBounds_toArray, List.set_cons_zero, List.set_cons_succ]
        refine rg_skip 4 rfl (by kernel_rfl) (by kernel_rfl) (by kernel_rfl) (fun _ _ _ _ h => h) (by rfl) ?_
        simp only [Act.put, List.setIfInBounds_toArray, List.set_cons_zero, List.set_cons_succ]
        refine rg_skip 5 rfl (by kernel_rfl) (by kernel_rfl) (by kernel_rfl) (fun _ _ _ _ h => h) (by rfl) ?_
        simp only [Act.put, List.setIfInBounds_toArray, List.set_cons_zero, List.set_cons_succ]
        refine rg_skip 6 rfl (by kernel_rfl) (by kernel_rfl) (by kernel_rfl) (fun _ _ _ _ h => h) (by rfl) ?_
        simp only [Act.put, List.setIfInBounds_toArray, List.set_cons_zero, List.set_cons_succ]
        refine rg_skip 7 rfl (by kernel_rfl) (by kernel_rfl) (by kernel_rfl) (fun _ _ _ _ h => h) (by rfl) ?_
        simp only [Act.put, List.setIfInBounds_toArray, List.set_cons_zero, List.set_cons_succ]
        refine rg_skip 8 rfl (by kernel_rfl) (by kernel_rfl) (by kernel_rfl) (fun _ _ _ _ h => h) (by rfl) ?_
        simp only [Act.put, List.setIfInBounds_toArray, List.set_cons_zero, List.set_cons_succ]
        refine rg_skip 9 rfl (by kernel_rfl) (by kernel_rfl) (by kernel_rfl) (fun _ _ _ _ h => h) (by rfl) ?_
        simp only [Act.put, List.setIfInBounds_toArray, List.set_cons_zero, List.set_cons_succ]
        refine rg_skip 10 rfl (by kernel_rfl) (by kernel_rfl) (by kernel_rfl) (fun _ _ _ _ h => h) (by rfl) ?_
        simp only [Act.put, List.setIfInBounds_toArray, List.set_cons_zero, List.set_cons_succ]
        refine rg_skip 11 rfl (by kernel_rfl) (by kernel_rfl) (by kernel_rfl) (fun _ _ _ _ h => h) (by rfl) ?_
        simp only [Act.put, List.setIfInBounds_toArray, List.set_cons_zero, List.set_cons_succ]
        refine rg_skip 12 rfl (by kernel_rfl) (by kernel_rfl) (by kernel_rfl) (fun _ _ _ _ h => h) (by rfl) ?_
        simp only [Act.put, List.setIfInBounds_toArray, List.set_cons_zero, List.set_cons_succ]
        refine rg_skip 13 rfl (by kernel_rfl) (by kernel_rfl) (by kernel_rfl) (fun _ _ _ _ h => h) (by rfl) ?_
        simp only [Act.put, List.setIfInBounds_toArray, List.set_cons_zero, List.set_cons_succ]
        refine rg_skip 14 rfl (by kernel_rfl) (by kernel_rfl) (by kernel_rfl) (fun _ _ _ _ h => h) (by rfl) ?_
        simp only [Act.put, List.setIfInBounds_toArray, List.set_cons_zero, List.set_cons_succ]
        refine rg_take 15 rfl (by kernel_rfl) (by kernel_rfl) (by kernel_rfl) (fun _ _ _ _ h => h) (by rfl) ⟨_, fun w' hx => by (go_simp <;> with_reducible rfl), ?_⟩
        simp only [Act.put, List.setIfInBounds_toArray, List.set_cons_zero, List.set_cons_succ]
        refine rg_take 16 rfl (by kernel_rfl) (by kernel_rfl) (by kernel_rfl) (fun _ _ _ _ h => h) (by rfl) ⟨_, fun w' hx => by (go_simp <;> with_reducible rfl), ?_⟩
        simp only [Act.put, List.setIfInBounds_toArray, List.set_cons_zero, List.set_cons_succ]
        refine rg_done (by kernel_rfl) ?_
        go_wp2_with (first | (have hcx := fun j u h => Ext.load hW (Hxc.out j u h); refine wpList_load_cells (by rfl) 50 (.tmp 73) rfl _ rfl x.cells _ hcx Try.underlying50 rfl (oinfo _) ?_; clear hcx) | (refine wpList_buildOne (by rfl) 23 (.tmp 74) rfl elemO x.cells rfl rfl (by omega) ?_; at_builtin; refine wpList_app rfl (.tmp 71) (.tmp 75) 23 rfl elemO w.heap.size D1 D.length c3 (ocs D) rfl _ 1 1 (ocs [x]) rfl (D.length + 1) rfl (ocs (D ++ [x])) (ocs_app _ _) (HI.out.own.below (Ext.tr hW (Ext.alloc _ _))) (RdO.one _ 50 x (hxw.below (HI.out.bel.trans (hW.mono HI.out.bel.size)))).rd (ocs_one_cell _) (by omega) (by omega) (by rw [World.size_alloc]; exact Nat.le_succ_of_le (Nat.le_trans HI.out.bel.size hW.size)) ?_; intro D2 c4 w4 ho4 hg4 hr4))
        go_roundw
        case rel => exact ⟨H, [], D ++ [x], _, B1, D2, c1 - 1, c2, c4, rfl, rfl, by rw [List.length_append]; rfl, HI.out.push he.out (by simp; omega) hxw (by omega) (Nat.zero_le _) HHt.out HI.out.rb hW ho4 hg4⟩
        case measure => simp [lenV]
      · obtain ⟨ad, rfl, hxc, hx, hxi⟩ := (hI.ra.below hI.bel).head
        obtain ⟨bd, rfl, hyc, hy, hyi⟩ := (hI.rb.below hI.bel).head
        have hHt := hI.ra.tail (k := 1) (by simp) (c := c1) hI.h1
        have hLt := hI.rb.tail (k := 1) (by simp) (c := c2) hI.h2
        have hxw := hI.ra.each x (by simp)
        have hyw := hI.rb.each y (by simp)
        have h1 := hI.h1
        have h2 := hI.h2
        simp only [List.length_cons] at h1 h2 ⊢
        have Hxc := Lib.hid hxc
        have Hyc := Lib.hid hyc
        have HHt := Lib.hid hHt
        have HLt := Lib.hid hLt
        have hxd := (hx.ext (Ext.drew wr)).c1
        have hyd := (hy.ext (Ext.drew wr)).c1
        have hxd2 := ((hx.ext (Ext.drew wr)).ext (Ext.drew wr.drew)).c1
        have hyd2 := ((hy.ext (Ext.drew wr)).ext (Ext.drew wr.drew)).c1
        have hxk := hxi.kr
        have hyk := hyi.kr
        have he : Hid (Opn.merge (x.x :: H.map OpV.x) (y.x :: L.map OpV.x) = if ltB y.x.key x.x.key = true then y.x :: Opn.merge (x.x :: H.map OpV.x) (L.map OpV.x) else if ltB x.x.key y.x.key = true then x.x :: Opn.merge (H.map OpV.x) (y.x :: L.map OpV.x) else y.x :: Opn.merge (H.map OpV.x) (L.map OpV.x)) := by show _ = _; rw [Opn.merge]
        have hnz : (0 : Int) < (H.length : Int) + 1 := by omega
        have hnz1 : ¬ ((H.length : Int) + 1 = 0) := by omega
        have hnzb : ((H.length : Int) + 1 == 0) = false := by rw [beq_eq_false_iff_ne]; omega
        have hnz2 : (0 : Int) < (L.length : Int) + 1 := by omega
        have hnz3 : ¬ ((L.length : Int) + 1 = 0) := by omega
        have hnzb2 : ((L.length : Int) + 1 == 0) = false := by rw [beq_eq_false_iff_ne]; omega
        have hge1 : (1 : Int) ≤ (H.length : Int) + 1 := by omega
        have hge2 : (1 : Int) ≤ (L.length : Int) + 1 := by omega
        have hRa := Lib.hid HI.out.ra
        have hRb := Lib.hid HI.out.rb
        clear hxc hyc hHt hLt hI hx hy hxi hyi
        cases hlt : ltB y.x.key x.x.key with
        | true =>
          have he2 : Hid (Opn.merge (x.x :: H.map OpV.x) (y.x :: L.map OpV.x) = y.x :: Opn.merge (x.x :: H.map OpV.x) (L.map OpV.x)) := by show _ = _; rw [he.out, if_pos hlt]
          have hW : Ext wr wr.drew := Ext.drew wr
          clear he
          go_wp2_with fail
          refine rg_start (by kernel_rfl) ?_
          refine rg_take 0 rfl (by kernel_rfl) (by kernel_rfl) (by kernel_rfl) (fun _ _ _ _ h => h) (by rfl) ⟨_, fun w' hx => by (go_simp <;> with_reducible rfl), ?_⟩
          simp only [Act.put, List.setIfInBounds_toArray, List.set_cons_zero, List.set_cons_succ]
          refine rg_take 1 rfl (by kernel_rfl) (by kernel_rfl) (by kernel_rfl) (fun _ _ _ _ h => h) (by rfl) ⟨_, fun w' hx => by (go_simp <;> with_reducible rfl), ?_⟩   -- t26 := len(t25)
          simp only [Act.put, List.setIfInBounds_toArray, List.set_cons_zero, List.set_cons_succ]
          refine rg_take 2 rfl (by kernel_rfl) (by kernel_rfl) (by kernel_rfl) (fun _ _ _ _ h => h) (by rfl) ⟨.bool false, fun w' hx => by (go_simp <;> with_reducible rfl), ?_⟩
          simp only [Act.put, List.setIfInBounds_toArray, List.set_cons_zero, List.set_cons_succ]
          refine rg_take 3 rfl (by kernel_rfl) (by kernel_rfl) (by kernel_rfl) (fun _ _ _ _ h => h) (by rfl) ⟨_, fun w' hx => by (go_simp <;> with_reducible rfl), ?_⟩
          simp only [Act.put, List.setIfInBounds_toArray, List.set_cons_zero, List.set_cons_succ]
          refine rg_take 4 rfl (by kernel_rfl) (by kernel_rfl) (by kernel_rfl) (fun _ _ _ _ h => h) (by rfl) ⟨_, fun w' hx => by (go_simp <;> with_reducible rfl), ?_⟩
          simp only [Act.put, List.setIfInBounds_toArray, List.set_cons_zero, List.set_cons_succ]
          refine rg_take 5 rfl (by kernel_rfl) (by kernel_rfl) (by kernel_rfl) (fun _ _ _ _ h => h) (by rfl) ⟨_, fun w' hx => by (go_simp <;> with_reducible rfl), ?_⟩   -- t30 := len(t29)
          simp only [Act.put, List.setIfInBounds_toArray, List.set_cons_zero, List.set_cons_succ]
          refine rg_take 6 rfl (by kernel_rfl) (by kernel_rfl) (by kernel_rfl) (fun _ _ _ _ h => h) (by rfl) ⟨.bool true, fun w' hx => by (go_simp <;> with_reducible rfl), ?_⟩
          simp only [Act.put, List.setIfInBounds_toArray, List.set_cons_zero, List.set_cons_succ]
          refine rg_take 7 rfl (by kernel_rfl) (by kernel_rfl) (by kernel_rfl) (fun _ _ _ _ h => h) (by rfl) ⟨_, fun w' hx => by (go_simp <;> with_reducible rfl), ?_⟩
          simp only [Act.put, List.setIfInBounds_toArray, List.set_cons_zero, List.set_cons_succ]
          refine rg_take 8 rfl (by kernel_rfl) (by kernel_rfl) (by kernel_rfl) (fun _ _ _ _ h => h) (by rfl) ⟨_, fun w' hx => by (go_simp <;> with_reducible rfl), ?_⟩
          simp only [Act.put, List.setIfInBounds_toArray, List.set_cons_zero, List.set_cons_succ]
          refine rg_take 9 rfl (by kernel_rfl) (by kernel_rfl) (by kernel_rfl) (fun _ _ _ _ h => h) (by rfl) ⟨_, fun w' hx => by (go_simp <;> with_reducible rfl), ?_⟩   -- t34 := indexAddr 23 t33 0:i64
          simp only [Act.put, List.setIfInBounds_toArray, List.set_cons_zero, List.set_cons_succ]
          refine rg_take 10 rfl (by kernel_rfl) (by kernel_rfl) (by kernel_rfl) (fun _ _ _ _ h => h) (by rfl) ⟨_, fun w' hx => by (go_simp <;> with_reducible rfl), ?_⟩   -- t35 := fieldAddr 50 t34 1
          simp only [Act.put, List.setIfInBounds_toArray, List.set_cons_zero, List.set_cons_succ]
          refine rg_take 11 rfl (by kernel_rfl) (by kernel_rfl) (by kernel_rfl) (fun _ _ _ _ h => h) (by rfl) ⟨_, fun w' hx => by have hcx := hx.load hyd; (go_simp <;> with_reducible rfl), ?_⟩
          simp only [Act.put, List.setIfInBounds_toArray, List.set_cons_zero, List.set_cons_succ]
          refine rg_take 12 rfl (by kernel_rfl) (by kernel_rfl) (by kernel_rfl) (fun _ _ _ _ h => h) (by rfl) ⟨.string ⟨(y.x.key).toArray⟩, fun w' hx => ex_str rfl rfl Try.underlying33 Try.underlying5 Try.underlying9 (hyk.below (Ext.tr (Ext.drew wr) hx)) rfl, ?_⟩
          simp only [Act.put, List.setIfInBounds_toArray, List.set_cons_zero, List.set_cons_succ]
          refine rg_take 13 rfl (by kernel_rfl) (by kernel_rfl) (by kernel_rfl) (fun _ _ _ _ h => h) (by rfl) ⟨_, fun w' hx => by (go_simp <;> with_reducible rfl), ?_⟩
          simp only [Act.put, List.setIfInBounds_toArray, List.set_cons_zero, List.set_cons_succ]
          refine rg_take 14 rfl (by kernel_rfl) (by kernel_rfl) (by kernel_rfl) (fun _ _ _ _ h => h) (by rfl) ⟨_, fun w' hx => by (go_simp <;> with_reducible rfl), ?_⟩   -- t39 := indexAddr 23 t38 0:i64
          simp only [Act.put, List.setIfInBounds_toArray, List.set_cons_zero, List.set_cons_succ]
          refine rg_take 15 rfl (by kernel_rfl) (by kernel_rfl) (by kernel_rfl) (fun _ _ _ _ h => h) (by rfl) ⟨_, fun w' hx => by (go_simp <;> with_reducible rfl), ?_⟩   -- t40 := fieldAddr 50 t39 1
          simp only [Act.put, List.setIfInBounds_toArray, List.set_cons_zero, List.set_cons_succ]
          refine rg_take 16 rfl (by kernel_rfl) (by kernel_rfl) (by kernel_rfl) (fun _ _ _ _ h => h) (by rfl) ⟨_, fun w' hx => by have hcx := hx.load hxd; (go_simp <;> with_reducible rfl), ?_⟩
          simp only [Act.put, List.setIfInBounds_toArray, List.set_cons_zero, List.set_cons_succ]
          refine rg_take 17 rfl (by kernel_rfl) (by kernel_rfl) (by kernel_rfl) (fun _ _ _ _ h => h) (by rfl) ⟨.string ⟨(x.x.key).toArray⟩, fun w' hx => ex_str rfl rfl Try.underlying33 Try.underlying5 Try.underlying9 (hxk.below (Ext.tr (Ext.drew wr) hx)) rfl, ?_⟩
          simp only [Act.put, List.setIfInBounds_toArray, List.set_cons_zero, List.set_cons_succ]
          refine rg_take 18 rfl (by kernel_rfl) (by kernel_rfl) (by kernel_rfl) (fun _ _ _ _ h => h) (by rfl) ⟨.bool (ltB y.x.key x.x.key), fun w' hx => ex_lssS rfl rfl rfl, ?_⟩
          simp only [Act.put, List.setIfInBounds_toArray, List.set_cons_zero, List.set_cons_succ]
          refine rg_take 19 rfl (by kernel_rfl) (by kernel_rfl) (by kernel_rfl) (fun _ _ _ _ h => h) (by rfl) ⟨_, fun w' hx => by (go_simp <;> with_reducible rfl), ?_⟩
          simp only [Act.put, List.setIfInBounds_toArray, List.set_cons_zero, List.set_cons_succ]
          refine rg_take 20 rfl (by kernel_rfl) (by kernel_rfl) (by kernel_rfl) (fun _ _ _ _ h => h) (by rfl) ⟨_, fun w' hx => by (go_simp <;> with_reducible rfl), ?_⟩
          simp only [Act.put, List.setIfInBounds_toArray, List.set_cons_zero, List.set_cons_succ]
          refine rg_take 21 rfl (by kernel_rfl) (by kernel_rfl) (by kernel_rfl) (fun _ _ _ _ h => h) (by rfl) ⟨_, fun w' hx => by (go_simp <;> with_reducible rfl), ?_⟩
          simp only [Act.put, List.setIfInBounds_toArray, List.set_cons_zero, List.set_cons_succ]
          refine rg_done (by kernel_rfl) ?_
          rw [hlt]
          clear hlt
          go_wp2_with (first | (have hcx := fun j u h => Ext.load hW (Hyc.out j u h); refine wpList_load_cells (by rfl) 50 (.tmp 48) rfl _ rfl y.cells _ hcx Try.underlying50 rfl (oinfo _) ?_; clear hcx) | (refine wpList_buildOne (by rfl) 23 (.tmp 49) rfl elemO y.cells rfl rfl (by omega) ?_; at_builtin; refine wpList_app rfl (.tmp 46) (.tmp 50) 23 rfl elemO w.heap.size D1 D.length c3 (ocs D) rfl _ 1 1 (ocs [y]) rfl (D.length + 1) rfl (ocs (D ++ [y])) (ocs_app _ _) (HI.out.own.below (Ext.tr hW (Ext.alloc _ _))) (RdO.one _ 50 y (hyw.below (HI.out.bel.trans (hW.mono HI.out.bel.size)))).rd (ocs_one_cell _) (by omega) (by omega) (by rw [World.size_alloc]; exact Nat.le_succ_of_le (Nat.le_trans HI.out.bel.size hW.size)) ?_; intro D2 c4 w4 ho4 hg4 hr4))
          go_roundw
          case rel => exact ⟨x :: H, L, D ++ [y], some ad, _, D2, c1, c2 - 1, c4, rfl, rfl, by rw [List.length_append]; rfl, HI.out.push he2.out (by simp; omega) hyw (by simpa using h1) (by omega) hRa.out HLt.out hW ho4 hg4⟩
          case measure => simp [lenV]
        | false =>
          cases hlt2 : ltB x.x.key y.x.key with
          | true =>
            have he2 : Hid (Opn.merge (x.x :: H.map OpV.x) (y.x :: L.map OpV.x) = x.x :: Opn.merge (H.map OpV.x) (y.x :: L.map OpV.x)) := by show _ = _; rw [he.out, if_neg (by rw [hlt]; decide), if_pos hlt2]
            have hW : Ext wr wr.drew.drew := Ext.tr (Ext.drew wr) (Ext.drew _)
            clear he
            go_wp2_with fail
            refine rg_start (by kernel_rfl) ?_
            refine rg_take 0 rfl (by kernel_rfl) (by kernel_rfl) (by kernel_rfl) (fun _ _ _ _ h => h) (by rfl) ⟨_, fun w' hx => by (go_simp <;> with_reducible rfl), ?_⟩
            simp only [Act.put, List.setIfInBounds_toArray, List.set_cons_zero, List.set_cons_succ]
            refine rg_take 1 rfl (by kernel_rfl) (by kernel_rfl) (by kernel_rfl) (fun _ _ _ _ h => h) (by rfl) ⟨_, fun w' hx => by (go_simp <;> with_reducible rfl), ?_⟩   -- t26 := len(t25)
            simp only [Act.put, List.setIfInBounds_toArray, List.set_cons_zero, List.set_cons_succ]
            refine rg_take 2 rfl (by kernel_rfl) (by kernel_rfl) (by kernel_rfl) (fun _ _ _ _ h => h) (by rfl) ⟨.bool false, fun w' hx => by (go_simp <;> with_reducible rfl), ?_⟩
            simp only [Act.put, List.setIfInBounds_toArray, List.set_cons_zero, List.set_cons_succ]
            refine rg_take 3 rfl (by kernel_rfl) (by kernel_rfl) (by kernel_rfl) (fun _ _ _ _ h => h) (by rfl) ⟨_, fun w' hx => by (go_simp <;> with_reducible rfl), ?_⟩
            simp only [Act.put, List.setIfInBounds_toArray, List.set_cons_zero, List.set_cons_succ]
            refine rg_take 4 rfl (by kernel_rfl) (by kernel_rfl) (by kernel_rfl) (fun _ _ _ _ h => h) (by rfl) ⟨_, fun w' hx => by (go_simp <;> with_reducible rfl), ?_⟩
            simp only [Act.put, List.setIfInBounds_toArray, List.set_cons_zero, List.set_cons_succ]
            refine rg_take 5 rfl (by kernel_rfl) (by kernel_rfl) (by kernel_rfl) (fun _ _ _ _ h => h) (by rfl) ⟨_, fun w' hx => by (go_simp <;> with_reducible rfl), ?_⟩   -- t30 := len(t29)
            simp only [Act.put, List.setIfInBounds_toArray, List.set_cons_zero, List.set_cons_succ]
            refine rg_take 6 rfl (by kernel_rfl) (by kernel_rfl) (by kernel_rfl) (fun _ _ _ _ h => h) (by rfl) ⟨.bool true, fun w' hx => by (go_simp <;> with_reducible rfl), ?_⟩
            simp only [Act.put, List.setIfInBounds_toArray, List.set_cons_zero, List.set_cons_succ]
            refine rg_take 7 rfl (by kernel_rfl) (by kernel_rfl) (by kernel_rfl) (fun _ _ _ _ h => h) (by rfl) ⟨_, fun w' hx => by (go_simp <;> with_reducible rfl), ?_⟩
            simp only [Act.put, List.setIfInBounds_toArray, List.set_cons_zero, List.set_cons_succ]
            refine rg_take 8 rfl (by kernel_rfl) (by kernel_rfl) (by kernel_rfl) (fun _ _ _ _ h => h) (by rfl) ⟨_, fun w' hx => by (go_simp <;> with_reducible rfl), ?_⟩
            simp only [Act.put, List.setIfInBounds_toArray, List.set_cons_zero, List.set_cons_succ]
            refine rg_take 9 rfl (by kernel_rfl) (by kernel_rfl) (by kernel_rfl) (fun _ _ _ _ h => h) (by rfl) ⟨_, fun w' hx => by (go_simp <;> with_reducible rfl), ?_⟩   -- t34 := indexAddr 23 t33 0:i64
            simp only [Act.put, List.setIfInBounds_toArray, List.set_cons_zero, List.set_cons_succ]
            refine rg_take 10 rfl (by kernel_rfl) (by kernel_rfl) (by kernel_rfl) (fun _ _ _ _ h => h) (by rfl) ⟨_, fun w' hx => by (go_simp <;> with_reducible rfl), ?_⟩   -- t35 := fieldAddr 50 t34 1
            simp only [Act.put, List.setIfInBounds_toArray, List.set_cons_zero, List.set_cons_succ]
            refine rg_take 11 rfl (by kernel_rfl) (by kernel_rfl) (by kernel_rfl) (fun _ _ _ _ h => h) (by rfl) ⟨_, fun w' hx => by have hcx := hx.load hyd; (go_simp <;> with_reducible rfl), ?_⟩
            simp only [Act.put, List.setIfInBounds_toArray, List.set_cons_zero, List.set_cons_succ]
            refine rg_take 12 rfl (by kernel_rfl) (by kernel_rfl) (by kernel_rfl) (fun _ _ _ _ h => h) (by rfl) ⟨.string ⟨(y.x.key).toArray⟩, fun w' hx => ex_str rfl rfl Try.underlying33 Try.underlying5 Try.underlying9 (hyk.below (Ext.tr (Ext.drew wr) hx)) rfl, ?_⟩
            simp only [Act.put, List.setIfInBounds_toArray, List.set_cons_zero, List.set_cons_succ]
            refine rg_take 13 rfl (by kernel_rfl) (by kernel_rfl) (by kernel_rfl) (fun _ _ _ _ h => h) (by rfl) ⟨_, fun w' hx => by (go_simp <;> with_reducible rfl), ?_⟩
            simp only [Act.put, List.setIfInBounds_toArray, List.set_cons_zero, List.set_cons_succ]
            refine rg_take 14 rfl (by kernel_rfl) (by kernel_rfl) (by kernel_rfl) (fun _ _ _ _ h => h) (by rfl) ⟨_, fun w' hx => by (go_simp <;> with_reducible rfl), ?_⟩   -- t39 := indexAddr 23 t38 0:i64
            simp only [Act.put, List.setIfInBounds_toArray, List.set_cons_zero, List.set_cons_succ]
            refine rg_take 15 rfl (by kernel_rfl) (by kernel_rfl) (by kernel_rfl) (fun _ _ _ _ h => h) (by rfl) ⟨_, fun w' hx => by (go_simp <;> with_reducible rfl), ?_⟩   -- t40 := fieldAddr 50 t39 1
            simp only [Act.put, List.setIfInBounds_toArray, List.set_cons_zero, List.set_cons_succ]
            refine rg_take 16 rfl (by kernel_rfl) (by kernel_rfl) (by kernel_rfl) (fun _ _ _ _ h => h) (by rfl) ⟨_, fun w' hx => by have hcx := hx.load hxd; (go_simp <;> with_reducible rfl), ?_⟩
            simp only [Act.put, List.setIfInBounds_toArray, List.set_cons_zero, List.set_cons_succ]
            refine rg_take 17 rfl (by kernel_rfl) (by kernel_rfl) (by kernel_rfl) (fun _ _ _ _ h => h) (by rfl) ⟨.string ⟨(x.x.key).toArray⟩, fun w' hx => ex_str rfl rfl Try.underlying33 Try.underlying5 Try.underlying9 (hxk.below (Ext.tr (Ext.drew wr) hx)) rfl, ?_⟩
            simp only [Act.put, List.setIfInBounds_toArray, List.set_cons_zero, List.set_cons_succ]
            refine rg_take 18 rfl (by kernel_rfl) (by kernel_rfl) (by kernel_rfl) (fun _ _ _ _ h => h) (by rfl) ⟨.bool (ltB y.x.key x.x.key), fun w' hx => ex_lssS rfl rfl rfl, ?_⟩
            simp only [Act.put, List.setIfInBounds_toArray, List.set_cons_zero, List.set_cons_succ]
            refine rg_take 19 rfl (by kernel_rfl) (by kernel_rfl) (by kernel_rfl) (fun _ _ _ _ h => h) (by rfl) ⟨_, fun w' hx => by (go_simp <;> with_reducible rfl), ?_⟩
            simp only [Act.put, List.setIfInBounds_toArray, List.set_cons_zero, List.set_cons_succ]
            refine rg_take 20 rfl (by kernel_rfl) (by kernel_rfl) (by kernel_rfl) (fun _ _ _ _ h => h) (by rfl) ⟨_, fun w' hx => by (go_simp <;> with_reducible rfl), ?_⟩
            simp only [Act.put, List.setIfInBounds_toArray, List.set_cons_zero, List.set_cons_succ]
            refine rg_take 21 rfl (by kernel_rfl) (by kernel_rfl) (by kernel_rfl) (fun _ _ _ _ h => h) (by rfl) ⟨_, fun w' hx => by (go_simp <;> with_reducible rfl), ?_⟩
            simp only [Act.put, List.setIfInBounds_toArray, List.set_cons_zero, List.set_cons_succ]
            refine rg_done (by kernel_rfl) ?_
            rw [hlt]
            clear hlt
            go_wp2_with fail
            refine rg_start (by kernel_rfl) ?_
            refine rg_take 0 rfl (by kernel_rfl) (by kernel_rfl) (by kernel_rfl) (fun _ _ _ _ h => h) (by rfl) ⟨_, fun w' hx => by (go_simp <;> with_reducible rfl), ?_⟩
            simp only [Act.put, List.setIfInBounds_toArray, List.set_cons_zero, List.set_cons_succ]
            refine rg_take 1 rfl (by kernel_rfl) (by kernel_rfl) (by kernel_rfl) (fun _ _ _ _ h => h) (by rfl) ⟨_, fun w' hx => by (go_simp <;> with_reducible rfl), ?_⟩   -- t56 := len(t55)
            simp only [Act.put, List.setIfInBounds_toArray, List.set_cons_zero, List.set_cons_succ]
            refine rg_take 2 rfl (by kernel_rfl) (by kernel_rfl) (by kernel_rfl) (fun _ _ _ _ h => h) (by rfl) ⟨.bool false, fun w' hx => by (go_simp <;> with_reducible rfl), ?_⟩
            simp only [Act.put, List.setIfInBounds_toArray, List.set_cons_zero, List.set_cons_succ]
            refine rg_take 3 rfl (by kernel_rfl) (by kernel_rfl) (by kernel_rfl) (fun _ _ _ _ h => h) (by rfl) ⟨_, fun w' hx => by (go_simp <;> with_reducible rfl), ?_⟩
            simp only [Act.put, List.setIfInBounds_toArray, List.set_cons_zero, List.set_cons_succ]
            refine rg_take 4 rfl (by kernel_rfl) (by kernel_rfl) (by kernel_rfl) (fun _ _ _ _ h => h) (by rfl) ⟨_, fun w' hx => by (go_simp <;> with_reducible rfl), ?_⟩
            simp only [Act.put, List.setIfInBounds_toArray, List.set_cons_zero, List.set_cons_succ]
            refine rg_take 5 rfl (by kernel_rfl) (by kernel_rfl) (by kernel_rfl) (fun _ _ _ _ h => h) (by rfl) ⟨_, fun w' hx => by (go_simp <;> with_reducible rfl), ?_⟩   -- t60 := indexAddr 23 t59 0:i64
            simp only [Act.put, List.setIfInBounds_toArray, List.set_cons_zero, List.set_cons_succ]
            refine rg_take 6 rfl (by kernel_rfl) (by kernel_rfl) (by kernel_rfl) (fun _ _ _ _ h => h) (by rfl) ⟨_, fun w' hx => by (go_simp <;> with_reducible rfl), ?_⟩   -- t61 := fieldAddr 50 t60 1
            simp only [Act.put, List.setIfInBounds_toArray, List.set_cons_zero, List.set_cons_succ]
            refine rg_take 7 rfl (by kernel_rfl) (by kernel_rfl) (by kernel_rfl) (fun _ _ _ _ h => h) (by rfl) ⟨_, fun w' hx => by have hcx := hx.load hxd2; (go_simp <;> with_reducible rfl), ?_⟩
            simp only [Act.put, List.setIfInBounds_toArray, List.set_cons_zero, List.set_cons_succ]
            refine rg_take 8 rfl (by kernel_rfl) (by kernel_rfl) (by kernel_rfl) (fun _ _ _ _ h => h) (by rfl) ⟨.string ⟨(x.x.key).toArray⟩, fun w' hx => ex_str rfl rfl Try.underlying33 Try.underlying5 Try.underlying9 (hxk.below (Ext.tr (Ext.tr (Ext.drew wr) (Ext.drew wr.drew)) hx)) rfl, ?_⟩
            simp only [Act.put, List.setIfInBounds_toArray, List.set_cons_zero, List.set_cons_succ]
            refine rg_take 9 rfl (by kernel_rfl) (by kernel_rfl) (by kernel_rfl) (fun _ _ _ _ h => h) (by rfl) ⟨_, fun w' hx => by (go_simp <;> with_reducible rfl), ?_⟩
            simp only [Act.put, List.setIfInBounds_toArray, List.set_cons_zero, List.set_cons_succ]
            refine rg_take 10 rfl (by kernel_rfl) (by kernel_rfl) (by kernel_rfl) (fun _ _ _ _ h => h) (by rfl) ⟨_, fun w' hx => by (go_simp <;> with_reducible rfl), ?_⟩   -- t65 := indexAddr 23 t64 0:i64
            simp only [Act.put, List.setIfInBounds_toArray, List.set_cons_zero, List.set_cons_succ]
            refine rg_take 11 rfl (by kernel_rfl) (by kernel_rfl) (by kernel_rfl) (fun _ _ _ _ h => h) (by rfl) ⟨_, fun w' hx => by (go_simp <;> with_reducible rfl), ?_⟩   -- t66 := fieldAddr 50 t65 1
            simp only [Act.put, List.setIfInBounds_toArray, List.set_cons_zero, List.set_cons_succ]
            refine rg_take 12 rfl (by kernel_rfl) (by kernel_rfl) (by kernel_rfl) (fun _ _ _ _ h => h) (by rfl) ⟨_, fun w' hx => by have hcx := hx.load hyd2; (go_simp <;> with_reducible rfl), ?_⟩
            simp only [Act.put, List.setIfInBounds_toArray, List.set_cons_zero, List.set_cons_succ]
            refine rg_take 13 rfl (by kernel_rfl) (by kernel_rfl) (by kernel_rfl) (fun _ _ _ _ h => h) (by rfl) ⟨.string ⟨(y.x.key).toArray⟩, fun w' hx => ex_str rfl rfl Try.underlying33 Try.underlying5 Try.underlying9 (hyk.below (Ext.tr (Ext.tr (Ext.drew wr) (Ext.drew wr.drew)) hx)) rfl, ?_⟩
            simp only [Act.put, List.setIfInBounds_toArray, List.set_cons_zero, List.set_cons_succ]
            refine rg_take 14 rfl (by kernel_rfl) (by kernel_rfl) (by kernel_rfl) (fun _ _ _ _ h => h) (by rfl) ⟨.bool (ltB x.x.key y.x.key), fun w' hx => ex_lssS rfl rfl rfl, ?_⟩
            simp only [Act.put, List.setIfInBounds_toArray, List.set_cons_zero, List.set_cons_succ]
            refine rg_take 15 rfl (by kernel_rfl) (by kernel_rfl) (by kernel_rfl) (fun _ _ _ _ h => h) (by rfl) ⟨_, fun w' hx => by (go_simp <;> with_reducible rfl), ?_⟩
            simp only [Act.put, List.setIfInBounds_toArray, List.set_cons_zero, List.set_cons_succ]
            refine rg_take 16 rfl (by kernel_rfl) (by kernel_rfl) (by kernel_rfl) (fun _ _ _ _ h => h) (by rfl) ⟨_, fun w' hx => by (go_simp <;> with_reducible rfl), ?_⟩
            simp only [Act.put, List.setIfInBounds_toArray, List.set_cons_zero, List.set_cons_succ]
            refine rg_done (by kernel_rfl) ?_
            rw [hlt2]
            clear hlt2
            go_wp2_with (first | (have hcx := fun j u h => Ext.load hW (Hxc.out j u h); refine wpList_load_cells (by rfl) 50 (.tmp 73) rfl _ rfl x.cells _ hcx Try.underlying50 rfl (oinfo _) ?_; clear hcx) | (refine wpList_buildOne (by rfl) 23 (.tmp 74) rfl elemO x.cells rfl rfl (by omega) ?_; at_builtin; refine wpList_app rfl (.tmp 71) (.tmp 75) 23 rfl elemO w.heap.size D1 D.length c3 (ocs D) rfl _ 1 1 (ocs [x]) rfl (D.length + 1) rfl (ocs (D ++ [x])) (ocs_app _ _) (HI.out.own.below (Ext.tr hW (Ext.alloc _ _))) (RdO.one _ 50 x (hxw.below (HI.out.bel.trans (hW.mono HI.out.bel.size)))).rd (ocs_one_cell _) (by omega) (by omega) (by rw [World.size_alloc]; exact Nat.le_succ_of_le (Nat.le_trans HI.out.bel.size hW.size)) ?_; intro D2 c4 w4 ho4 hg4 hr4))
            go_roundw
            case rel => exact ⟨H, y :: L, D ++ [x], _, some bd, D2, c1 - 1, c2, c4, rfl, rfl, by rw [List.length_append]; rfl, HI.out.push he2.out (by simp; omega) hxw (by omega) (by simpa using h2) HHt.out hRb.out hW ho4 hg4⟩
            case measure => simp [lenV]
          | false =>
            have he2 : Hid (Opn.merge (x.x :: H.map OpV.x) (y.x :: L.map OpV.x) = y.x :: Opn.merge (H.map OpV.x) (L.map OpV.x)) := by show _ = _; rw [he.out, if_neg (by rw [hlt]; decide), if_neg (by rw [hlt2]; decide)]
            have hW : Ext wr wr.drew.drew := Ext.tr (Ext.drew wr) (Ext.drew _)
            clear he
            go_wp2_with fail
            refine rg_start (by kernel_rfl) ?_
            refine rg_take 0 rfl (by kernel_rfl) (by kernel_rfl) (by kernel_rfl) (fun _ _ _ _ h => h) (by rfl) ⟨_, fun w' hx => by (go_simp <;> with_reducible rfl), ?_⟩
            simp only [Act.put, List.setIfInBounds_toArray, List.set_cons_zero, List.set_cons_succ]
            refine rg_take 1 rfl (by kernel_rfl) (by kernel_rfl) (by kernel_rfl) (fun _ _ _ _ h => h) (by rfl) ⟨_, fun w' hx => by (go_simp <;> with_reducible rfl), ?_⟩   -- t26 := len(t25)
            simp only [Act.put, List.setIfInBounds_toArray, List.set_cons_zero, List.set_cons_succ]
            refine rg_take 2 rfl (by kernel_rfl) (by kernel_rfl) (by kernel_rfl) (fun _ _ _ _ h => h) (by rfl) ⟨.bool false, fun w' hx => by (go_simp <;> with_reducible rfl), ?_⟩
            simp only [Act.put, List.setIfInBounds_toArray, List.set_cons_zero, List.set_cons_succ]
            refine rg_take 3 rfl (by kernel_rfl) (by kernel_rfl) (by kernel_rfl) (fun _ _ _ _ h => h) (by rfl) ⟨_, fun w' hx => by (go_simp <;> with_reducible rfl), ?_⟩
            simp only [Act.put, List.setIfInBounds_toArray, List.set_cons_zero, List.set_cons_succ]
            refine rg_take 4 rfl (by kernel_rfl) (by kernel_rfl) (by kernel_rfl) (fun _ _ _ _ h => h) (by rfl) ⟨_, fun w' hx => by (go_simp <;> with_reducible rfl), ?_⟩
            simp only [Act.put, List.setIfInBounds_toArray, List.set_cons_zero, List.set_cons_succ]
            refine rg_take 5 rfl (by kernel_rfl) (by kernel_rfl) (by kernel_rfl) (fun _ _ _ _ h => h) (by rfl) ⟨_, fun w' hx => by (go_simp <;> with_reducible rfl), ?_⟩   -- t30 := len(t29)
            simp only [Act.put, List.setIfInBounds_toArray, List.set_cons_zero, List.set_cons_succ]
            refine rg_take 6 rfl (by kernel_rfl) (by kernel_rfl) (by kernel_rfl) (fun _ _ _ _ h => h) (by rfl) ⟨.bool true, fun w' hx => by (go_simp <;> with_reducible rfl), ?_⟩
            simp only [Act.put, List.setIfInBounds_toArray, List.set_cons_zero, List.set_cons_succ]
            refine rg_take 7 rfl (by kernel_rfl) (by kernel_rfl) (by kernel_rfl) (fun _ _ _ _ h => h) (by rfl) ⟨_, fun w' hx => by (go_simp <;> with_reducible rfl), ?_⟩
            simp only [Act.put, List.setIfInBounds_toArray, List.set_cons_zero, List.set_cons_succ]
            refine rg_take 8 rfl (by kernel_rfl) (by kernel_rfl) (by kernel_rfl) (fun _ _ _ _ h => h) (by rfl) ⟨_, fun w' hx => by (go_simp <;> with_reducible rfl), ?_⟩
            simp only [Act.put, List.setIfInBounds_toArray, List.set_cons_zero, List.set_cons_succ]
            refine rg_take 9 rfl (by kernel_rfl) (by kernel_rfl) (by kernel_rfl) (fun _ _ _ _ h => h) (by rfl) ⟨_, fun w' hx => by (go_simp <;> with_reducible rfl), ?_⟩   -- t34 := indexAddr 23 t33 0:i64
            simp only [Act.put, List.setIfInBounds_toArray, List.set_cons_zero, List.set_cons_succ]
            refine rg_take 10 rfl (by kernel_rfl) (by kernel_rfl) (by kernel_rfl) (fun _ _ _ _ h => h) (by rfl) ⟨_, fun w' hx => by (go_simp <;> with_reducible rfl), ?_⟩   -- t35 := fieldAddr 50 t34 1
            simp only [Act.put, List.setIfInBounds_toArray, List.set_cons_zero, List.set_cons_succ]
            refine rg_take 11 rfl (by kernel_rfl) (by kernel_rfl) (by kernel_rfl) (fun _ _ _ _ h => h) (by rfl) ⟨_, fun w' hx => by have hcx := hx.load hyd; (go_simp <;> with_reducible rfl), ?_⟩
            simp only [Act.put, List.setIfInBounds_toArray, List.set_cons_zero, List.set_cons_succ]
            refine rg_take 12 rfl (by kernel_rfl) (by kernel_rfl) (by kernel_rfl) (fun _ _ _ _ h => h) (by rfl) ⟨.string ⟨(y.x.key).toArray⟩, fun w' hx => ex_str rfl rfl Try.underlying33 Try.underlying5 Try.underlying9 (hyk.below (Ext.tr (Ext.drew wr) hx)) rfl, ?_⟩
            simp only [Act.put, List.setIfInBounds_toArray, List.set_cons_zero, List.set_cons_succ]
            refine rg_take 13 rfl (by kernel_rfl) (by kernel_rfl) (by kernel_rfl) (fun _ _ _ _ h => h) (by rfl) ⟨_, fun w' hx => by (go_simp <;> with_reducible rfl), ?_⟩
            simp only [Act.put, List.setIfInBounds_toArray, List.set_cons_zero, List.set_cons_succ]
            refine rg_take 14 rfl (by kernel_rfl) (by kernel_rfl) (by kernel_rfl) (fun _ _ _ _ h => h) (by rfl) ⟨_, fun w' hx => by (go_simp <;> with_reducible rfl), ?_⟩   -- t39 := indexAddr 23 t38 0:i64
            simp only [Act.put, List.setIfInBounds_toArray, List.set_cons_zero, List.set_cons_succ]
            refine rg_take 15 rfl (by kernel_rfl) (by kernel_rfl) (by kernel_rfl) (fun _ _ _ _ h => h) (by rfl) ⟨_, fun w' hx => by (go_simp <;> with_reducible rfl), ?_⟩   -- t40 := fieldAddr 50 t39 1
            simp only [Act.put, List.setIfInBounds_toArray, List.set_cons_zero, List.set_cons_succ]
            refine rg_take 16 rfl (by kernel_rfl) (by kernel_rfl) (by kernel_rfl) (fun _ _ _ _ h => h) (by rfl) ⟨_, fun w' hx => by have hcx := hx.load hxd; (go_simp <;> with_reducible rfl), ?_⟩
            simp only [Act.put, List.setIfInBounds_toArray, List.set_cons_zero, List.set_cons_succ]
            refine rg_take 17 rfl (by kernel_rfl) (by kernel_rfl) (by kernel_rfl) (fun _ _ _ _ h => h) (by rfl) ⟨.string ⟨(x.x.key).toArray⟩, fun w' hx => ex_str rfl rfl Try.underlying33 Try.underlying5 Try.underlying9 (hxk.below (Ext.tr (Ext.drew wr) hx)) rfl, ?_⟩
            simp only [Act.put, List.setIfInBounds_toArray, List.set_cons_zero, List.set_cons_succ]
            refine rg_take 18 rfl (by kernel_rfl) (by kernel_rfl) (by kernel_rfl) (fun _ _ _ _ h => h) (by rfl) ⟨.bool (ltB y.x.key x.x.key), fun w' hx => ex_lssS rfl rfl rfl, ?_⟩
            simp only [Act.put, List.setIfInBounds_toArray, List.set_cons_zero, List.set_cons_succ]
            refine rg_take 19 rfl (by kernel_rfl) (by kernel_rfl) (by kernel_rfl) (fun _ _ _ _ h => h) (by rfl) ⟨_, fun w' hx => by (go_simp <;> with_reducible rfl), ?_⟩
            simp only [Act.put, List.setIfInBounds_toArray, List.set_cons_zero, List.set_cons_succ]
            refine rg_take 20 rfl (by kernel_rfl) (by kernel_rfl) (by kernel_rfl) (fun _ _ _ _ h => h) (by rfl) ⟨_, fun w' hx => by (go_simp <;> with_reducible rfl), ?_⟩
            simp only [Act.put, List.setIfInBounds_toArray, List.set_cons_zero, List.set_cons_succ]
            refine rg_take 21 rfl (by kernel_rfl) (by kernel_rfl) (by kernel_rfl) (fun _ _ _ _ h => h) (by rfl) ⟨_, fun w' hx => by (go_simp <;> with_reducible rfl), ?_⟩
            simp only [Act.put, List.setIfInBounds_toArray, List.set_cons_zero, List.set_cons_succ]
            refine rg_done (by kernel_rfl) ?_
            rw [hlt]
            clear hlt
            go_wp2_with fail
            refine rg_start (by kernel_rfl) ?_
            refine rg_take 0 rfl (by kernel_rfl) (by kernel_rfl) (by kernel_rfl) (fun _ _ _ _ h => h) (by rfl) ⟨_, fun w' hx => by (go_simp <;> with_reducible rfl), ?_⟩
            simp only [Act.put, List.setIfInBounds_toArray, List.set_cons_zero, List.set_cons_succ]
            refine rg_take 1 rfl (by kernel_rfl) (by kernel_rfl) (by kernel_rfl) (fun _ _ _ _ h => h) (by rfl) ⟨_, fun w' hx => by (go_simp <;> with_reducible rfl), ?_⟩   -- t56 := len(t55)
            simp only [Act.put, List.setIfInBounds_toArray, List.set_cons_zero, List.set_cons_succ]
            refine rg_take 2 rfl (by kernel_rfl) (by kernel_rfl) (by kernel_rfl) (fun _ _ _ _ h => h) (by rfl) ⟨.bool false, fun w' hx => by (go_simp <;> with_reducible rfl), ?_⟩
            simp only [Act.put, List.setIfInBounds_toArray, List.set_cons_zero, List.set_cons_succ]
            refine rg_take 3 rfl (by kernel_rfl) (by kernel_rfl) (by kernel_rfl) (fun _ _ _ _ h => h) (by rfl) ⟨_, fun w' hx => by (go_simp <;> with_reducible rfl), ?_⟩
            simp only [Act.put, List.setIfInBounds_toArray, List.set_cons_zero, List.set_cons_succ]
            refine rg_take 4 rfl (by kernel_rfl) (by kernel_rfl) (by kernel_rfl) (fun _ _ _ _ h => h) (by rfl) ⟨_, fun w' hx => by (go_simp <;> with_reducible rfl), ?_⟩
            simp only [Act.put, List.setIfInBounds_toArray, List.set_cons_zero, List.set_cons_succ]
            refine rg_take 5 rfl (by kernel_rfl) (by kernel_rfl) (by kernel_rfl) (fun _ _ _ _ h => h) (by rfl) ⟨_, fun w' hx => by (go_simp <;> with_reducible rfl), ?_⟩   -- t60 := indexAddr 23 t59 0:i64
            simp only [Act.put, List.setIfInBounds_toArray, List.set_cons_zero, List.set_cons_succ]
            refine rg_take 6 rfl (by kernel_rfl) (by kernel_rfl) (by kernel_rfl) (fun _ _ _ _ h => h) (by rfl) ⟨_, fun w' hx => by (go_simp <;> with_reducible rfl), ?_⟩   -- t61 := fieldAddr 50 t60 1
            simp only [Act.put, List.setIfInBounds_toArray, List.set_cons_zero, List.set_cons_succ]
            refine rg_take 7 rfl (by kernel_rfl) (by kernel_rfl) (by kernel_rfl) (fun _ _ _ _ h => h) (by rfl) ⟨_, fun w' hx => by have hcx := hx.load hxd2; (go_simp <;> with_reducible rfl), ?_⟩
            simp only [Act.put, List.setIfInBounds_toArray, List.set_cons_zero, List.set_cons_succ]
            refine rg_take 8 rfl (by kernel_rfl) (by kernel_rfl) (by kernel_rfl) (fun _ _ _ _ h => h) (by rfl) ⟨.string ⟨(x.x.key).toArray⟩, fun w' hx => ex_str rfl rfl Try.underlying33 Try.underlying5 Try.underlying9 (hxk.below (Ext.tr (Ext.tr (Ext.drew wr) (Ext.drew wr.drew)) hx)) rfl, ?_⟩
            simp only [Act.put, List.setIfInBounds_toArray, List.set_cons_zero, List.set_cons_succ]
            refine rg_take 9 rfl (by kernel_rfl) (by kernel_rfl) (by kernel_rfl) (fun _ _ _ _ h => h) (by rfl) ⟨_, fun w' hx => by (go_simp <;> with_reducible rfl), ?_⟩
            simp only [Act.put, List.setIfInBounds_toArray, List.set_cons_zero, List.set_cons_succ]
            refine rg_take 10 rfl (by kernel_rfl) (by kernel_rfl) (by kernel_rfl) (fun _ _ _ _ h => h) (by rfl) ⟨_, fun w' hx => by (go_simp <;> with_reducible rfl), ?_⟩   -- t65 := indexAddr 23 t64 0:i64
            simp only [Act.put, List.setIfInBounds_toArray, List.set_cons_zero, List.set_cons_succ]
            refine rg_take 11 rfl (by kernel_rfl) (by kernel_rfl) (by kernel_rfl) (fun _ _ _ _ h => h) (by rfl) ⟨_, fun w' hx => by (go_simp <;> with_reducible rfl), ?_⟩   -- t66 := fieldAddr 50 t65 1
            simp only [Act.put, List.setIfInBounds_toArray, List.set_cons_zero, List.set_cons_succ]
            refine rg_take 12 rfl (by kernel_rfl) (by kernel_rfl) (by kernel_rfl) (fun _ _ _ _ h => h) (by rfl) ⟨_, fun w' hx => by have hcx := hx.load hyd2; (go_simp <;> with_reducible rfl), ?_⟩
            simp only [Act.put, List.setIfInBounds_toArray, List.set_cons_zero, List.set_cons_succ]
            refine rg_take 13 rfl (by kernel_rfl) (by kernel_rfl) (by kernel_rfl) (fun _ _ _ _ h => h) (by rfl) ⟨.string ⟨(y.x.key).toArray⟩, fun w' hx => ex_str rfl rfl Try.underlying33 Try.underlying5 Try.underlying9 (hyk.below (Ext.tr (Ext.tr (Ext.drew wr) (Ext.drew wr.drew)) hx)) rfl, ?_⟩
            simp only [Act.put, List.setIfInBounds_toArray, List.set_cons_zero, List.set_cons_succ]
            refine rg_take 14 rfl (by kernel_rfl) (by kernel_rfl) (by kernel_rfl) (fun _ _ _ _ h => h) (by rfl) ⟨.bool (ltB x.x.key y.x.key), fun w' hx => ex_lssS rfl rfl rfl, ?_⟩
            simp only [Act.put, List.setIfInBounds_toArray, List.set_cons_zero, List.set_cons_succ]
            refine rg_take 15 rfl (by kernel_rfl) (by kernel_rfl) (by kernel_rfl) (fun _ _ _ _ h => h) (by rfl) ⟨_, fun w' hx => by (go_simp <;> with_reducible rfl), ?_⟩
            simp only [Act.put, List.setIfInBounds_toArray, List.set_cons_zero, List.set_cons_succ]
            refine rg_take 16 rfl (by kernel_rfl) (by kernel_rfl) (by kernel_rfl) (fun _ _ _ _ h => h) (by rfl) ⟨_, fun w' hx => by (go_simp <;> with_reducible rfl), ?_⟩
            simp only [Act.put, List.setIfInBounds_toArray, List.set_cons_zero, List.set_cons_succ]
            refine rg_done (by kernel_rfl) ?_
            rw [hlt2]
            clear hlt2
            go_wp2_with (first | (have hcx := fun j u h => Ext.load hW (Hyc.out j u h); refine wpList_load_cells (by rfl) 50 (.tmp 16) rfl _ rfl y.cells _ hcx Try.underlying50 rfl (oinfo _) ?_; clear hcx) | (refine wpList_buildOne (by rfl) 23 (.tmp 17) rfl elemO y.cells rfl rfl (by omega) ?_; at_builtin; refine wpList_app rfl (.tmp 14) (.tmp 18) 23 rfl elemO w.heap.size D1 D.length c3 (ocs D) rfl _ 1 1 (ocs [y]) rfl (D.length + 1) rfl (ocs (D ++ [y])) (ocs_app _ _) (HI.out.own.below (Ext.tr hW (Ext.alloc _ _))) (RdO.one _ 50 y (hyw.below (HI.out.bel.trans (hW.mono HI.out.bel.size)))).rd (ocs_one_cell _) (by omega) (by omega) (by rw [World.size_alloc]; exact Nat.le_succ_of_le (Nat.le_trans HI.out.bel.size hW.size)) ?_; intro D2 c4 w4 ho4 hg4 hr4; refine Hid.out ?_))
            refine Lib.hid ?_
            go_wp2_with fail
            refine rg_start (by kernel_rfl) ?_
            refine rg_take 0 rfl (by kernel_rfl) (by kernel_rfl) (by kernel_rfl) (fun _ _ _ _ h => h) (by rfl) ⟨_, fun w' hx => by (go_simp <;> with_reducible rfl), ?_⟩
            simp only [Act.put, List.setIfInBounds_toArray, List.set_cons_zero, List.set_cons_succ]
            refine rg_take 1 rfl (by kernel_rfl) (by kernel_rfl) (by kernel_rfl) (fun _ _ _ _ h => h) (by rfl) ⟨_, fun w' hx => by (go_simp <;> with_reducible rfl), ?_⟩   -- t21 := slice 23 t20 1:i64 - -
            simp only [Act.put, List.setIfInBounds_toArray, List.set_cons_zero, List.set_cons_succ]
            refine rg_take 2 rfl (by kernel_rfl) (by kernel_rfl) (by kernel_rfl) (fun _ _ _ _ h => h) (by rfl) ⟨_, fun w' hx => by (go_simp <;> with_reducible rfl), ?_⟩
            simp only [Act.put, List.setIfInBounds_toArray, List.set_cons_zero, List.set_cons_succ]
            refine rg_take 3 rfl (by kernel_rfl) (by kernel_rfl) (by kernel_rfl) (fun _ _ _ _ h => h) (by rfl) ⟨_, fun w' hx => by (go_simp <;> with_reducible rfl), ?_⟩   -- t23 := slice 23 t22 1:i64 - -
            simp only [Act.put, List.setIfInBounds_toArray, List.set_cons_zero, List.set_cons_succ]
            refine rg_take 4 rfl (by kernel_rfl) (by kernel_rfl) (by kernel_rfl) (fun _ _ _ _ h => h) (by rfl) ⟨_, fun w' hx => by (go_simp <;> with_reducible rfl), ?_⟩
            simp only [Act.put, List.setIfInBounds_toArray, List.set_cons_zero, List.set_cons_succ]
            refine rg_take 5 rfl (by kernel_rfl) (by kernel_rfl) (by kernel_rfl) (fun _ _ _ _ h => h) (by rfl) ⟨_, fun w' hx => by (go_simp <;> with_reducible rfl), ?_⟩
            simp only [Act.put, List.setIfInBounds_toArray, List.set_cons_zero, List.set_cons_succ]
            refine rg_done (by kernel_rfl) ?_
            go_wp2_with fail
            go_roundw
            case rel => exact ⟨H, L, D ++ [y], _, _, D2, c1 - 1, c2 - 1, c4, rfl, rfl, by rw [List.length_append]; rfl, HI.out.push he2.out (by simp; omega) hyw (by omega) (by omega) HHt.out HLt.out hW (ho4.below (Ext.drew w4)) (grown_tr hg4 (grown_ext (Ext.drew w4) _))⟩
            case measure => simp [lenV]; omega
end Go.Proofs.Ytdekdblebflklaa

/- Walks of laws of layer 20: OpsMerged, OpsBehind. Printed by wip/tools/gen_oplaws20.py. -/

namespace Go.Proofs.Ytdekdblebflklaa

open Go.RowKit

attribute [local go_sem] Oper.semAt_some

theorem apply_ok : ∀ (o : List Opn) (l : List Ent), (∀ e ∈ l, 1 ≤ e.key.length ∧ e.key.length ≤ 24 ∧ e.val.length ≤ 1000) → (∀ x ∈ o, x.Ok) → ∀ e ∈ Opn.apply l o, 1 ≤ e.key.length ∧ e.key.length ≤ 24 ∧ e.val.length ≤ 1000
  | [], l, hl, _ => hl
  | x :: o, l, hl, ho => by
    have h1 : Opn.apply l (x :: o) = Opn.apply (Opn.step l x) o := rfl
    rw [h1]
    refine apply_ok o _ ?_ (fun y hy => ho y (by simp [hy]))
    have hx := ho x (by simp)
    intro e he
    unfold Opn.step at he
    split at he
    · exact hl e (mem_delK he)
    · rcases mem_putK he with rfl | he
      · exact ⟨hx.key.1, hx.key.2, hx.val⟩
      · exact hl e he
theorem rise_apply {l : List Ent} {o : List Opn} (hl : Rise l) (ho : Opn.Right o) : Rise (Opn.apply l o) := by
  have hu := Opn.apply_up (UpK.of_up hl.up) o
  refine ⟨fun k h => apply_ok o l (fun e he => ?_) ho.ok _ (List.getElem_mem h), fun k h => (List.pairwise_iff_getElem.1 hu) k (k + 1) (by omega) h (by omega)⟩
  obtain ⟨j, hj, rfl⟩ := List.getElem_of_mem he
  exact hl.ok j hj
theorem Opn.Right.upV {o : List OpV} (h : Opn.Right (o.map OpV.x)) : UpK OpV.key o := (UpK.map (f := OpV.x) (key := OpV.key) (key' := Opn.key) (fun _ => rfl)).1 h.up
set_option maxRecDepth 100000 in
set_option maxHeartbeats 4000000 in
theorem walkOpsMerged (w : World) (A : Option Addr) (h : List EnV) (k : Nat) (hA : RdE w A h) (_ck : h.length ≤ k) (C : Option Addr) (a : List OpV) (n : Nat) (hC : RdO w C a) (_cn : a.length ≤ n) (G : Option Addr) (b : List OpV) (m : Nat) (hG : RdO w G b) (_cm : b.length ≤ m) :
    Calls Try.prog 7 #[.slice A h.length k, .slice C a.length n, .slice G b.length m] w fun e w' => e = .returned (.bool true) ∧ Below w.heap.size w w' := by
  go_enter Try.func7, Try.ntmps7
  go_wp2_with fail
  refine (fit20 A h k _ (hA.below (Ext.refl w))).mono ?_
  rintro e1 w1 ⟨b1, rfl, hf1, hb1⟩
  have hE1 : Ext w w1 := Ext.tr (Ext.refl w) hb1
  rcases b1 with _ | _
  · go_wp2_with fail
    refine (live20 _).mono ?_
    rintro e2 w2 ⟨rfl, hb2⟩
    go_wp2_with fail
    go_ret
    exact ⟨rfl, Ext.tr hE1 hb2⟩
  have fit_h : FitE h := hf1 rfl
  clear hf1
  have Fit_h := Lib.hid fit_h
  have fl_h := fit_h.1
  have Up_h := Lib.hid fit_h.2.upK
  clear fit_h
  go_wp2_with fail
  refine (small20 C a n _ (hC.below hE1)).mono ?_
  rintro e2 w2 ⟨b2, rfl, hf2, hb2⟩
  have hE2 : Ext w w2 := Ext.tr hE1 hb2
  rcases b2 with _ | _
  · go_wp2_with fail
    refine (live20 _).mono ?_
    rintro e3 w3 ⟨rfl, hb3⟩
    go_wp2_with fail
    go_ret
    exact ⟨rfl, Ext.tr hE2 hb3⟩
  have sm_a : SmallO a := hf2 rfl
  clear hf2
  have Sm_a := Lib.hid sm_a
  have sl_a := sm_a.1
  go_wp2_with fail
  refine (small20 G b m _ (hG.below hE2)).mono ?_
  rintro e3 w3 ⟨b3, rfl, hf3, hb3⟩
  have hE3 : Ext w w3 := Ext.tr hE2 hb3
  rcases b3 with _ | _
  · go_wp2_with fail
    refine (live20 _).mono ?_
    rintro e4 w4 ⟨rfl, hb4⟩
    go_wp2_with fail
    go_ret
    exact ⟨rfl, Ext.tr hE3 hb4⟩
  have sm_b : SmallO b := hf3 rfl
  clear hf3
  have Sm_b := Lib.hid sm_b
  have sl_b := sm_b.1
  go_wp2_with fail
  refine (ref_right C a n _ (hC.below hE3) (by omega) (fun e he => by have := (Sm_a.out.2 e he).1; omega)).mono ?_
  rintro e4 w4 ⟨b4, rfl, hf4, hb4⟩
  have hE4 : Ext w w4 := Ext.tr hE3 hb4
  rcases b4 with _ | _
  · go_wp2_with fail
    refine (live20 _).mono ?_
    rintro e5 w5 ⟨rfl, hb5⟩
    go_wp2_with fail
    go_ret
    exact ⟨rfl, Ext.tr hE4 hb5⟩
  have Rt_a := Lib.hid (hf4.1 rfl)
  clear hf4
  go_wp2_with fail
  refine (ref_right G b m _ (hG.below hE4) (by omega) (fun e he => by have := (Sm_b.out.2 e he).1; omega)).mono ?_
  rintro e5 w5 ⟨b5, rfl, hf5, hb5⟩
  have hE5 : Ext w w5 := Ext.tr hE4 hb5
  rcases b5 with _ | _
  · go_wp2_with fail
    refine (live20 _).mono ?_
    rintro e6 w6 ⟨rfl, hb6⟩
    go_wp2_with fail
    go_ret
    exact ⟨rfl, Ext.tr hE5 hb6⟩
  have Rt_b := Lib.hid (hf5.1 rfl)
  clear hf5
  have hcx6 := (hC.below hE5).rd.below (Ext.alloc w5 (.cells #[] 50))
  go_wp2_with (refine wpList_app (by rfl) (.tmp 31) (.tmp 32) 23 rfl elemO w5.heap.size _ 0 0 [] rfl C a.length n (ocs a) rfl a.length (by omega) (ocs a) rfl (Own.none_ _ _ _ _ _) hcx6 (ocs_one_cell _) (by omega) (by omega) (by rw [World.size_alloc]; omega) ?_; intro A6 c6 w6 ho6 hg6 hr6; refine Hid.out ?_)
  have hb6 : Ext w5 w6 := Ext.tr (Ext.alloc _ _) (grown_none (by simpa [ownRow] using hg6))
  have hE6 : Ext w w6 := Ext.tr hE5 hb6
  have HCa : Hid (RdO w6 A6 a) := ⟨ho6.rd, fun e he => (hC.each e he).below hE6⟩
  clear ho6 hg6 hr6 hcx6
  refine Lib.hid ?_
  have hcx7 := (hG.below hE6).rd.below (Ext.alloc w6 (.cells #[] 50))
  go_wp2_with (refine wpList_app (by rfl) (.tmp 34) (.tmp 35) 23 rfl elemO w6.heap.size _ 0 0 [] rfl G b.length m (ocs b) rfl b.length (by omega) (ocs b) rfl (Own.none_ _ _ _ _ _) hcx7 (ocs_one_cell _) (by omega) (by omega) (by rw [World.size_alloc]; omega) ?_; intro A7 c7 w7 ho7 hg7 hr7; refine Hid.out ?_)
  have hb7 : Ext w6 w7 := Ext.tr (Ext.alloc _ _) (grown_none (by simpa [ownRow] using hg7))
  have hE7 : Ext w w7 := Ext.tr hE6 hb7
  have HGb : Hid (RdO w7 A7 b) := ⟨ho7.rd, fun e he => (hG.each e he).below hE7⟩
  clear ho7 hg7 hr7 hcx7
  refine Lib.hid ?_
  go_wp2_with fail
  refine (merge_any A6 a c6 A7 b c7 _ (HCa.out.below hb7) HGb.out Rt_b.out.upV (by omega) (by omega)).mono ?_
  rintro e8 w8 ⟨A11, L11, c11, rfl, hx11, _, hl11, hr11, _, _, hb8⟩
  have hE8 : Ext w w8 := Ext.tr hE7 hb8
  rw [Opn.fold_merge _ _ Rt_a.out.up Rt_b.out.up] at hx11
  go_wp2_with fail
  refine (ref_merge C a n G b m _ (hC.below hE8) (hG.below hE8) _cn _cm (by omega) (by omega)).mono ?_
  rintro e9 w9 ⟨A12, D12, c12, rfl, hx12, hr12, _, hl12, hb9⟩
  have hE9 : Ext w w9 := Ext.tr hE8 hb9
  have hsame := ref_osame A11 A12 L11 D12 c11 c12 _ (hr11.below hb9) hr12 (by omega)
  rw [hx11, hx12, decide_eq_true (rfl : Opn.merge (a.map OpV.x) (b.map OpV.x) = _)] at hsame
  clear hx11 hx12 hr11 hr12
  go_wp2_with fail
  refine (hsame).mono ?_
  rintro e10 w10 ⟨rfl, hb10⟩
  have hE10 : Ext w w10 := Ext.tr hE9 hb10
  clear hsame
  go_wp2_with fail
  refine (undo_any A h k C a n _ (hA.below hE10) (hC.below hE10) Up_h.out _ck (by omega) (by omega)).mono ?_
  rintro e11 w11 ⟨A13, D13, c13, rfl, hx13, hr13, _, hl13, hb11⟩
  have hE11 : Ext w w11 := Ext.tr hE10 hb11
  have Hr13 := Lib.hid hr13
  have Hx13 := Lib.hid hx13
  clear hr13 hx13
  go_wp2_with fail
  refine (ref_apply A h k C a n _ (hA.below hE11) (hC.below hE11) _ck (by omega) (by omega) Rt_a.out).mono ?_
  rintro e12 w12 ⟨L14, A14, c14, rfl, hx14, hr14, _, hl14, hb12⟩
  have hE12 : Ext w w12 := Ext.tr hE11 hb12
  have Hr14 := Lib.hid hr14
  have Hx14 := Lib.hid hx14
  clear hr14 hx14
  go_wp2_with fail
  refine (ref_odiff A14 L14 c14 A h k _ Hr14.out (hA.below hE12) (by omega) (by omega) (by rw [Hx14.out]; exact rise_apply Fit_h.out.2 Rt_a.out) Fit_h.out.2).mono ?_
  rintro e13 w13 ⟨A15, D15, c15, rfl, hx15, hr15, _, hl15, hb13⟩
  have hE13 : Ext w w13 := Ext.tr hE12 hb13
  rw [Hx14.out] at hx15
  have hsame := ref_osame A13 A15 D13 D15 c13 c15 _ (Hr13.out.below (Ext.tr hb12 hb13)) hr15 (by omega)
  rw [Hx13.out, hx15, decide_eq_true (rfl : Opn.diff (Opn.apply (h.map EnV.x) (a.map OpV.x)) (h.map EnV.x) = _)] at hsame
  clear hx15 hr15
  go_wp2_with fail
  refine (hsame).mono ?_
  rintro e14 w14 ⟨rfl, hb14⟩
  have hE14 : Ext w w14 := Ext.tr hE13 hb14
  clear hsame
  go_wp2_with fail
  refine (live20 _).mono ?_
  rintro e15 w15 ⟨rfl, hb15⟩
  have hE15 : Ext w w15 := Ext.tr hE14 hb15
  go_wp2_with fail
  go_ret
  exact ⟨rfl, hE15⟩
set_option maxRecDepth 100000 in
set_option maxHeartbeats 4000000 in
theorem walkOpsBehind (w : World) (A : Option Addr) (h : List EnV) (k : Nat) (hA : RdE w A h) (_ck : h.length ≤ k) (C : Option Addr) (a : List OpV) (n : Nat) (hC : RdO w C a) (_cn : a.length ≤ n) (G : Option Addr) (b : List OpV) (m : Nat) (hG : RdO w G b) (_cm : b.length ≤ m) :
    Calls Try.prog 8 #[.slice A h.length k, .slice C a.length n, .slice G b.length m] w fun e w' => e = .returned (.bool true) ∧ Below w.heap.size w w' := by
  go_enter Try.func8, Try.ntmps8
  go_wp2_with fail
  refine (fit20 A h k _ (hA.below (Ext.refl w))).mono ?_
  rintro e1 w1 ⟨b1, rfl, hf1, hb1⟩
  have hE1 : Ext w w1 := Ext.tr (Ext.refl w) hb1
  rcases b1 with _ | _
  · go_wp2_with fail
    refine (live20 _).mono ?_
    rintro e2 w2 ⟨rfl, hb2⟩
    go_wp2_with fail
    go_ret
    exact ⟨rfl, Ext.tr hE1 hb2⟩
  have fit_h : FitE h := hf1 rfl
  clear hf1
  have Fit_h := Lib.hid fit_h
  have fl_h := fit_h.1
  have Up_h := Lib.hid fit_h.2.upK
  clear fit_h
  go_wp2_with fail
  refine (small20 C a n _ (hC.below hE1)).mono ?_
  rintro e2 w2 ⟨b2, rfl, hf2, hb2⟩
  have hE2 : Ext w w2 := Ext.tr hE1 hb2
  rcases b2 with _ | _
  · go_wp2_with fail
    refine (live20 _).mono ?_
    rintro e3 w3 ⟨rfl, hb3⟩
    go_wp2_with fail
    go_ret
    exact ⟨rfl, Ext.tr hE2 hb3⟩
  have sm_a : SmallO a := hf2 rfl
  clear hf2
  have Sm_a := Lib.hid sm_a
  have sl_a := sm_a.1
  go_wp2_with fail
  refine (small20 G b m _ (hG.below hE2)).mono ?_
  rintro e3 w3 ⟨b3, rfl, hf3, hb3⟩
  have hE3 : Ext w w3 := Ext.tr hE2 hb3
  rcases b3 with _ | _
  · go_wp2_with fail
    refine (live20 _).mono ?_
    rintro e4 w4 ⟨rfl, hb4⟩
    go_wp2_with fail
    go_ret
    exact ⟨rfl, Ext.tr hE3 hb4⟩
  have sm_b : SmallO b := hf3 rfl
  clear hf3
  have Sm_b := Lib.hid sm_b
  have sl_b := sm_b.1
  go_wp2_with fail
  refine (ref_right C a n _ (hC.below hE3) (by omega) (fun e he => by have := (Sm_a.out.2 e he).1; omega)).mono ?_
  rintro e4 w4 ⟨b4, rfl, hf4, hb4⟩
  have hE4 : Ext w w4 := Ext.tr hE3 hb4
  rcases b4 with _ | _
  · go_wp2_with fail
    refine (live20 _).mono ?_
    rintro e5 w5 ⟨rfl, hb5⟩
    go_wp2_with fail
    go_ret
    exact ⟨rfl, Ext.tr hE4 hb5⟩
  have Rt_a := Lib.hid (hf4.1 rfl)
  clear hf4
  go_wp2_with fail
  refine (ref_right G b m _ (hG.below hE4) (by omega) (fun e he => by have := (Sm_b.out.2 e he).1; omega)).mono ?_
  rintro e5 w5 ⟨b5, rfl, hf5, hb5⟩
  have hE5 : Ext w w5 := Ext.tr hE4 hb5
  rcases b5 with _ | _
  · go_wp2_with fail
    refine (live20 _).mono ?_
    rintro e6 w6 ⟨rfl, hb6⟩
    go_wp2_with fail
    go_ret
    exact ⟨rfl, Ext.tr hE5 hb6⟩
  have Rt_b := Lib.hid (hf5.1 rfl)
  clear hf5
  have hup : Hid (UpK Ent.key (h.map EnV.x)) := UpK.of_up Fit_h.out.2.up
  go_wp2_with fail
  refine (apply_any A h k C a n _ (hA.below hE5) (hC.below hE5) Up_h.out (by omega) (by omega)).mono ?_
  rintro e6 w6 ⟨A11, L11, c11, rfl, hx11, hu11, hl11, hr11, _, _, hb6⟩
  have hE6 : Ext w w6 := Ext.tr hE5 hb6
  go_wp2_with fail
  refine (apply_any A11 L11 c11 G b m _ hr11 (hG.below hE6) hu11 (by omega) (by omega)).mono ?_
  rintro e7 w7 ⟨A12, L12, c12, rfl, hx12, _, hl12, hr12, _, _, hb7⟩
  have hE7 : Ext w w7 := Ext.tr hE6 hb7
  rw [hx11, Opn.behind hup.out Rt_a.out.up Rt_b.out.up] at hx12
  have Hx12 := Lib.hid hx12
  have Hr12 := Lib.hid hr12
  clear hx11 hx12 hr11 hr12
  go_wp2_with fail
  refine (merge_any C a n G b m _ (hC.below hE7) (hG.below hE7) Rt_b.out.upV (by omega) (by omega)).mono ?_
  rintro e8 w8 ⟨A13, L13, c13, rfl, hx13, _, hl13, hr13, _, _, hb8⟩
  have hE8 : Ext w w8 := Ext.tr hE7 hb8
  rw [Opn.fold_merge _ _ Rt_a.out.up Rt_b.out.up] at hx13
  go_wp2_with fail
  refine (apply_any A h k A13 L13 c13 _ (hA.below hE8) hr13 Up_h.out (by omega) (by omega)).mono ?_
  rintro e9 w9 ⟨A14, L14, c14, rfl, hx14, _, hl14, hr14, _, _, hb9⟩
  have hE9 : Ext w w9 := Ext.tr hE8 hb9
  rw [hx13] at hx14
  have Hx14 := Lib.hid hx14
  have Hr14 := Lib.hid hr14
  clear hx13 hx14 hr13 hr14
  go_wp2_with fail
  refine (apply_any A h k C a n _ (hA.below hE9) (hC.below hE9) Up_h.out (by omega) (by omega)).mono ?_
  rintro e10 w10 ⟨A15, L15, c15, rfl, hx15, hu15, hl15, hr15, hc15, _, hb10⟩
  have hE10 : Ext w w10 := Ext.tr hE9 hb10
  have Hx15 := Lib.hid hx15
  have Hr15 := Lib.hid hr15
  have Hu15 := Lib.hid hu15
  clear hx15 hr15 hu15
  go_wp2_with fail
  refine (undo_any A h k C a n _ (hA.below hE10) (hC.below hE10) Up_h.out _ck (by omega) (by omega)).mono ?_
  rintro e11 w11 ⟨A16, D16, c16, rfl, hx16, hr16, _, hl16, hb11⟩
  have hE11 : Ext w w11 := Ext.tr hE10 hb11
  go_wp2_with fail
  refine (apply_any A15 L15 c15 A16 D16 c16 _ (Hr15.out.below hb11) hr16 Hu15.out (by omega) (by omega)).mono ?_
  rintro e12 w12 ⟨A17, L17, c17, rfl, hx17, _, hl17, hr17, _, _, hb12⟩
  have hE12 : Ext w w12 := Ext.tr hE11 hb12
  rw [hx16, Hx15.out, Opn.apply_diff (Opn.apply_up hup.out _) hup.out] at hx17
  have Hx17 := Lib.hid hx17
  have Hr17 := Lib.hid hr17
  clear hx16 hr16 hx17 hr17
  have hsame := ref_same17 A12 A14 L12 L14 c12 c14 w12 (Hr12.out.below (Ext.tr hb8 (Ext.tr hb9 (Ext.tr hb10 (Ext.tr hb11 (hb12)))))) (Hr14.out.below (Ext.tr hb10 (Ext.tr hb11 (hb12)))) (by omega)
  rw [Hx12.out, Hx14.out, Ent.sameL_refl] at hsame
  go_wp2_with fail
  refine (hsame).mono ?_
  rintro e13 w13 ⟨rfl, hb13⟩
  have hE13 : Ext w w13 := Ext.tr hE12 hb13
  clear hsame
  have hsame := ref_same17 A17 A L17 h c17 k w13 (Hr17.out.below hb13) (hA.below hE13) (by omega)
  rw [Hx17.out, Ent.sameL_refl] at hsame
  go_wp2_with fail
  refine (hsame).mono ?_
  rintro e14 w14 ⟨rfl, hb14⟩
  have hE14 : Ext w w14 := Ext.tr hE13 hb14
  clear hsame
  go_wp2_with fail
  refine (live20 _).mono ?_
  rintro e15 w15 ⟨rfl, hb15⟩
  have hE15 : Ext w w15 := Ext.tr hE14 hb15
  go_wp2_with fail
  go_ret
  exact ⟨rfl, hE15⟩
end Go.Proofs.Ytdekdblebflklaa
