
/- Contract: scowref20.Diff. Printed by wip/tools/gen_oprdiff20.py. -/

import Derived.Test.YtdekdblebflklaaOpRApply

namespace Go.Proofs.Ytdekdblebflklaa

open Go.RowKit

attribute [local go_sem] Oper.semAt_some

theorem look_map {α β : Type} (f : α → β) (key : α → List UInt8) (key' : β → List UInt8) (h : ∀ a, key' (f a) = key a) (k : List UInt8) : ∀ l : List α, look key' (l.map f) k = (look key l k).map f
  | [] => rfl
  | a :: l => by
    rw [List.map_cons, look_cons, look_cons, look_map f key key' h k l, h a]
    split <;> rfl
/-- What find tells. -/
def FindP (L : List EnV) (key : List UInt8) (w : World) (e : Ending) (w' : World) : Prop :=
  ∃ (b : Bool) (va : Option Addr) (v : List UInt8) (vc : Nat), e = .returned (.tuple #[.slice va v.length vc, .bool b]) ∧ Ext w w' ∧ (∀ W, (∀ y ∈ L, y.In W) → RdB W va v) ∧ v.length ≤ vc ∧ Hid ((b = true ∧ look Ent.key (L.map EnV.x) key = some ⟨key, v⟩) ∨ (b = false ∧ look Ent.key (L.map EnV.x) key = none))
theorem find_any (A : Option Addr) (L : List EnV) (c : Nat) (K : Option Addr) (key : List UInt8) (kc : Nat) (w : World) (hA : RdE w A L) (hK : RdB w K key) (hl : L.length ≤ 1000000) :
    Calls Try.prog 32 #[.slice A L.length c, .slice K key.length kc] w (FindP L key w) := by
  refine (ref_find A L c K key kc w hA hK hl).mono ?_
  have hm := look_map EnV.x EnV.key Ent.key (fun _ => rfl) key L
  rintro e w' (⟨y, hy, hk, hlk, rfl, hb⟩ | ⟨hlk, rfl, hb⟩)
  · exact ⟨true, y.va, y.x.val, y.vc, rfl, hb, fun W h => (h y hy).vr, (hA.each y hy).vcap, .inl ⟨rfl, by rw [hm, hlk, ← hk]; rfl⟩⟩
  · exact ⟨false, none, [], 0, rfl, hb, fun W _ => RdB.nil_ _ _, Nat.le_refl _, .inr ⟨rfl, by rw [hm, hlk]; rfl⟩⟩
/-- What Diff keeps while it gathers keys. -/
structure RDiI (es : List Ent) (w0 : World) (g : Nat) (M : List EnV) (A1 : Option Addr) (c1 : Nat) (wr : World) : Prop where
  eq : M.map EnV.x = es.foldl (fun m e => putK Ent.key ⟨e.key, []⟩ m) []
  len : M.length ≤ es.length
  map : MapAt wr g A1 c1 M
  grown : w0.grownBy wr (some g)
theorem RDiI.next {es : List Ent} {w0 : World} {g : Nat} {M : List EnV} {A1 : Option Addr} {c1 : Nat} {wr w2 : World} (h : RDiI es w0 g M A1 c1 wr) (y : Ent) (ht : MapTo wr g (putK Ent.key ⟨y.key, []⟩ (M.map EnV.x)) (M.length + 1) w2) : ∃ (M2 : List EnV) (A2 : Option Addr) (c2 : Nat), RDiI (es ++ [y]) w0 g M2 A2 c2 w2 := by
  obtain ⟨L2, A2, c2, h1, h2, h3, h4⟩ := ht
  refine ⟨L2, A2, c2, ?_, by have := h.len; rw [List.length_append]; simp; omega, h2, grown_tr h.grown h4⟩
  rw [h1, List.foldl_append, ← h.eq]
  rfl
theorem take_snoc {α : Type} (l : List α) (k : Nat) (h : k < l.length) : l.take (k + 1) = l.take k ++ [l[k]] := List.take_succ_eq_append_getElem h
theorem keysOf_mem {h w : List Ent} {k : List UInt8} (hm : (look Ent.key (Opn.keysOf h w) k).isSome = true) : (look Ent.key h k).isSome = true ∨ (look Ent.key w k).isSome = true := by
  have h2 := (Opn.fold_keys (h ++ w) [] List.Pairwise.nil).2 k
  unfold Opn.keysOf at hm
  rw [hm, look_app, look_nil] at h2
  cases hh : look Ent.key h k with
  | some a => exact .inl rfl
  | none => rw [hh] at h2; right; simpa using h2.symm
def RDiffP (h l : List EnV) (w : World) (e : Ending) (w' : World) : Prop :=
  ∃ A' D c', e = .returned (.slice A' (D : List OpV).length c') ∧ D.map OpV.x = Opn.diff (h.map EnV.x) (l.map EnV.x) ∧ RdO w' A' D ∧ D.length ≤ c' ∧ D.length ≤ h.length + l.length ∧ Below w.heap.size w w'
set_option maxRecDepth 100000 in
set_option maxHeartbeats 2000000 in
theorem ref_odiff (A : Option Addr) (h : List EnV) (ca : Nat) (B : Option Addr) (l : List EnV) (cb : Nat) (w : World) (hA : RdE w A h) (hB : RdE w B l) (hh : h.length ≤ 100000) (hl : l.length ≤ 100000) (hr1 : Rise (h.map EnV.x)) (hr2 : Rise (l.map EnV.x)) :
    Calls Try.prog 15 #[.slice A h.length ca, .slice B l.length cb] w (RDiffP h l w) := by
  obtain ⟨w0, hw0⟩ : ∃ w0, w0 = w.alloc (.cells #[.slice none 0 0] 56) := ⟨_, rfl⟩
  have hrow0 : w0.heap[w.heap.size]? = some (.cells #[.slice none 0 0] 56 (0, 0)) := by rw [hw0]; exact heap_alloc_new w _
  have hE0 : Ext w w0 := by rw [hw0]; exact Ext.alloc _ _
  have HA0 := Lib.hid (hA.below hE0)
  have HB0 := Lib.hid (hB.below hE0)
  have Hok1 : Hid (∀ k (hk : k < h.length), 1 ≤ h[k].x.key.length ∧ h[k].x.key.length ≤ 24) := fun k hk => by
    have h1 := hr1.ok k (by simpa using hk)
    simp only [List.getElem_map] at h1
    exact ⟨h1.1, h1.2.1⟩
  have Hok2 : Hid (∀ k (hk : k < l.length), 1 ≤ l[k].x.key.length ∧ l[k].x.key.length ≤ 24) := fun k hk => by
    have h1 := hr2.ok k (by simpa using hk)
    simp only [List.getElem_map] at h1
    exact ⟨h1.1, h1.2.1⟩
  have Hup1 : Hid (UpK Ent.key (h.map EnV.x)) := UpK.of_up hr1.up
  have Hup2 : Hid (UpK Ent.key (l.map EnV.x)) := UpK.of_up hr2.up
  have Hrow0 := Lib.hid hrow0
  have HE0 := Lib.hid hE0
  have HS : Hid (RDiI [] w0 w.heap.size [] none 0 w0) := ⟨rfl, Nat.le_refl _, ⟨hrow0, RdE.nil_ _ _, Nat.le_refl _⟩, ⟨rfl, rfl, rfl, Nat.le_refl _, fun _ _ _ => rfl⟩⟩
  clear hrow0 hE0 hA hB hr1 hr2
  go_enter Try.func15, Try.ntmps15
  go_wp2
  rw [← hw0]
  clear hw0
  go_loopw [6] (fun i wr => ∃ (k : Nat), k ≤ h.length ∧ i = .int .i64 k ∧ ∃ (M : List EnV) (A1 : Option Addr) (c1 : Nat), RDiI ((h.map EnV.x).take k) w0 w.heap.size M A1 c1 wr) (fun i _ => h.length - (intOf i).toNat)
  case atStart => exact ⟨0, by omega, rfl, [], none, 0, HS.out⟩
  case round =>
    obtain ⟨k, hk, rfl, M, A1, c1, hI⟩ := hrel
    by_cases hkl : k < h.length
    · obtain ⟨ad, rfl, hcell, hyi⟩ := (HA0.out.turn hI.grown Hrow0.out).at_ hkl
      have y1 : wr.cell? _ = _ := keyAt hcell
      have hko := Hok1.out k hkl
      obtain ⟨y, hy⟩ : ∃ y, h[k] = y := ⟨_, rfl⟩
      rw [hy] at y1 hyi hko
      have Hy := Lib.hid hy
      have ik : (0 : Int) ≤ (k : Int) := by omega
      have ik2 : (k : Int) < (h.length : Int) := by omega
      have hMl : M.length ≤ 1000000 := by have := hI.len; simp at this; omega
      have HP := ref_mput w.heap.size A1 c1 M y.ka y.x.key y.kc none [] 0 wr hI.map hyi.kr (RdB.nil_ _ _) hMl hko (by simp)
      have HI := Lib.hid hI
      clear hI hyi hcell hy
      go_wp2_with (go_at_call 31; refine HP.mono ?_; rintro e2 w2 ⟨rfl, hto⟩)
      go_roundw
      case rel =>
        obtain ⟨M2, A2, c2, h2⟩ := HI.out.next y.x hto
        refine ⟨k + 1, by omega, by go_num, M2, A2, c2, ?_⟩
        rw [take_snoc _ _ (by simpa using hkl)]
        simpa [Hy.out] using h2
      case measure => simp [intOf]; omega
    · obtain rfl : k = h.length := by omega
      rw [List.take_of_length_le (by simp)] at hI
      have HS2 := Lib.hid hI
      clear hI HS
      go_wp2
      go_loopw [7] (fun i wr => ∃ (k : Nat), k ≤ l.length ∧ i = .int .i64 k ∧ ∃ (M : List EnV) (A1 : Option Addr) (c1 : Nat), RDiI (h.map EnV.x ++ (l.map EnV.x).take k) w0 w.heap.size M A1 c1 wr) (fun i _ => l.length - (intOf i).toNat)
      case atStart => exact ⟨0, by omega, rfl, M, A1, c1, by simpa using HS2.out⟩
      case round =>
        clear HS2
        obtain ⟨k, hk, rfl, M, A1, c1, hI⟩ := hrel
        by_cases hkl : k < l.length
        · obtain ⟨ad, rfl, hcell, hyi⟩ := (HB0.out.turn hI.grown Hrow0.out).at_ hkl
          have y1 : wr.cell? _ = _ := keyAt hcell
          have hko := Hok2.out k hkl
          obtain ⟨y, hy⟩ : ∃ y, l[k] = y := ⟨_, rfl⟩
          rw [hy] at y1 hyi hko
          have Hy := Lib.hid hy
          have ik : (0 : Int) ≤ (k : Int) := by omega
          have ik2 : (k : Int) < (l.length : Int) := by omega
          have hMl : M.length ≤ 1000000 := by have := hI.len; simp at this; omega
          have HP := ref_mput w.heap.size A1 c1 M y.ka y.x.key y.kc none [] 0 wr hI.map hyi.kr (RdB.nil_ _ _) hMl hko (by simp)
          have HI := Lib.hid hI
          clear hI hyi hcell hy
          go_wp2_with (go_at_call 31; refine HP.mono ?_; rintro e2 w2 ⟨rfl, hto⟩)
          go_roundw
          case rel =>
            obtain ⟨M2, A2, c2, h2⟩ := HI.out.next y.x hto
            refine ⟨k + 1, by omega, by go_num, M2, A2, c2, ?_⟩
            rw [take_snoc _ _ (by simpa using hkl), ← List.append_assoc]
            simpa [Hy.out] using h2
          case measure => simp [intOf]; omega
        · obtain rfl : k = l.length := by omega
          rw [List.take_of_length_le (by simp)] at hI
          have hMl : M.length ≤ h.length + l.length := by have := hI.len; simp at this; exact this
          obtain ⟨w3, hw3⟩ : ∃ w3, wr = w3 := ⟨_, rfl⟩
          rw [hw3] at hI ⊢
          clear hw3
          have HA3 := Lib.hid (HA0.out.turn hI.grown Hrow0.out)
          have HB3 := Lib.hid (HB0.out.turn hI.grown Hrow0.out)
          have HM3 := Lib.hid hI.map
          have Hb3 : Hid (Below w.heap.size w w3) := Below.grown HE0.out hI.grown HE0.out.size (fun k e => by injection e with e; omega)
          have Heq : Hid (M.map EnV.x = Opn.keysOf (h.map EnV.x) (l.map EnV.x)) := hI.eq
          have Hup3 : Hid (UpK Ent.key (M.map EnV.x)) := by
            show UpK Ent.key (M.map EnV.x)
            rw [Heq.out]
            exact (Opn.fold_keys _ [] List.Pairwise.nil).1
          clear hI
          go_wp2
          go_loopw [8, 9] (fun v i wr => ∃ (k : Nat) (D : List OpV) (D1 : Option Addr) (c3 : Nat), k ≤ M.length ∧ i = .int .i64 k ∧ v = .slice D1 D.length c3 ∧ Hid (D.map OpV.x = ((M.map EnV.x).take k).filterMap (fun e => Opn.ref (h.map EnV.x) (l.map EnV.x) e.key)) ∧ D.length ≤ k ∧ Own wr w3.heap.size 50 3 D1 D.length c3 (ocs D) ∧ (∀ e ∈ D, e.In w3) ∧ Ext w3 wr) (fun _ i _ => M.length - (intOf i).toNat)
          case atStart => exact ⟨0, [], none, 0, by omega, rfl, rfl, rfl, by simp, Own.none_ _ _ _ _ _, by simp, Ext.refl _⟩
          case round =>
            obtain ⟨k, D, D1, c3, hk, rfl, rfl, hD, hDk, hown, hin, hbel⟩ := hrel
            have hm3 := (HM3.out.ext hbel).cell
            by_cases hkM : k < M.length
            · obtain ⟨ad, rfl, hcell, hyi0⟩ := HM3.out.rd.at_ hkM
              have y1' : w3.cell? _ = _ := keyAt hcell
              have y1 : wr.cell? _ = _ := Ext.load hbel y1'
              have hmem : M[k].x ∈ M.map EnV.x := List.mem_map.2 ⟨_, List.getElem_mem hkM, rfl⟩
              have hkey := keysOf_mem (h := h.map EnV.x) (w := l.map EnV.x) (k := M[k].x.key) (by rw [← Heq.out]; have := look_mem Hup3.out hmem; unfold Ent.key at this ⊢; rw [this]; rfl)
              have hsn := take_snoc (M.map EnV.x) k (by simpa using hkM)
              rw [List.getElem_map] at hsn
              obtain ⟨y, hy⟩ : ∃ y, M[k] = y := ⟨_, rfl⟩
              rw [hy] at y1 hyi0 hkey hsn
              have ik : (0 : Int) ≤ (k : Int) := by omega
              have ik2 : (k : Int) < (M.length : Int) := by omega
              have hyk : ∀ W, Ext w3 W → RdB W y.ka y.x.key := fun W hW => hyi0.kr.below hW
              have HF1 := find_any A h ca y.ka y.x.key y.kc wr (HA3.out.below hbel) (hyk wr hbel) (by omega)
              have HF2 : ∀ W, Ext wr W → Calls Try.prog 32 #[.slice B l.length cb, .slice y.ka y.x.key.length y.kc] W (FindP l y.x.key W) := fun W hW => find_any B l cb y.ka y.x.key y.kc W (HB3.out.below (Ext.tr hbel hW)) (hyk W (Ext.tr hbel hW)) (by omega)
              have Hkey := Lib.hid hkey
              have Hyi := Lib.hid hyi0
              have HD : Hid (∀ o, Opn.ref (h.map EnV.x) (l.map EnV.x) y.x.key = some o → (D.map OpV.x) ++ [o] = ((M.map EnV.x).take (k + 1)).filterMap (fun e => Opn.ref (h.map EnV.x) (l.map EnV.x) e.key)) := by
                show ∀ o, Opn.ref (h.map EnV.x) (l.map EnV.x) y.x.key = some o → (D.map OpV.x) ++ [o] = _
                intro o ho
                rw [hsn, List.filterMap_append, hD.out]
                simp [ho]
              have HD0 : Hid (Opn.ref (h.map EnV.x) (l.map EnV.x) y.x.key = none → (D.map OpV.x) = ((M.map EnV.x).take (k + 1)).filterMap (fun e => Opn.ref (h.map EnV.x) (l.map EnV.x) e.key)) := by
                show Opn.ref (h.map EnV.x) (l.map EnV.x) y.x.key = none → (D.map OpV.x) = _
                intro ho
                rw [hsn, List.filterMap_append, hD.out]
                simp [ho]
              have Hin := Lib.hid hin
              have hown2 : ∀ W, Ext wr W → Own W w3.heap.size 50 3 D1 D.length c3 (ocs D) := fun W hW => hown.below hW
              have Hown2 := Lib.hid hown2
              have Hbel := Lib.hid hbel
              have HPUSH : Hid (∀ (q : OpV) (W w4 : World) (D2 : Option Addr) (c4 : Nat), Ext wr W → q.In w3 → Opn.ref (h.map EnV.x) (l.map EnV.x) y.x.key = some q.x → Own w4 w3.heap.size 50 3 D2 (D.length + 1) c4 (ocs (D ++ [q])) → (W.alloc (.cells q.cells 50)).grownBy w4 (ownRow D1 c3) → ∃ (D' : List OpV), D.length + 1 = D'.length ∧ Hid (D'.map OpV.x = ((M.map EnV.x).take (k + 1)).filterMap (fun e => Opn.ref (h.map EnV.x) (l.map EnV.x) e.key)) ∧ D'.length ≤ k + 1 ∧ Own w4 w3.heap.size 50 3 D2 (D.length + 1) c4 (ocs D') ∧ (∀ e ∈ D', e.In w3) ∧ Ext w3 w4) := by
                show ∀ (q : OpV) (W w4 : World) (D2 : Option Addr) (c4 : Nat), _
                intro q W w4 D2 c4 hW hq hr ho hg
                refine ⟨D ++ [q], by simp, ?_, by simp; omega, ho, ?_, ?_⟩
                · show _ = _
                  rw [List.map_append]
                  exact HD.out q.x hr
                · intro e he
                  rcases List.mem_append.1 he with he | he
                  · exact hin e he
                  · simp only [List.mem_cons, List.not_mem_nil, or_false] at he
                    subst he; exact hq
                · have hWx : Ext wr (W.alloc (.cells q.cells 50)) := Ext.tr hW (Ext.alloc _ _)
                  have hW3 : Ext w3 (W.alloc (.cells q.cells 50)) := Ext.tr hbel hWx
                  exact below_app hW3 (hown.below hWx) hg hW3.size
              have hkb : D.length ≤ 1000000 := by omega
              clear hcell hy hsn hmem hkey hyi0 y1' hown hin hown2 hbel
              go_wp2_with fail
              refine HF1.mono ?_
              rintro e5 w5 ⟨b1, va1, v1, vc1, rfl, hx5, hv1, hc1, hf1⟩
              go_wp2_with fail
              refine (HF2 w5 hx5).mono ?_
              rintro e6 w6 ⟨b2, va2, v2, vc2, rfl, hx6, hv2, hc2, hf2⟩
              have hx56 : Ext wr w6 := Ext.tr hx5 hx6
              clear HF1 HF2
              cases b2
              · have hlk2 : look Ent.key (l.map EnV.x) y.x.key = none := by
                  rcases hf2.out with ⟨h1, _⟩ | ⟨_, h1⟩
                  · cases h1
                  · exact h1
                have href : Opn.ref (h.map EnV.x) (l.map EnV.x) y.x.key = some ⟨true, y.x.key, []⟩ := by
                  unfold Opn.ref
                  rw [hlk2]
                  rcases Hkey.out with h1 | h1
                  · cases hlk : look Ent.key (h.map EnV.x) y.x.key with
                    | none => rw [hlk] at h1; cases h1
                    | some a => have := (look_key hlk).1; simp [Opn.should, Opn.gone]; exact this
                  · rw [hlk2] at h1; cases h1
                have Href := Lib.hid href
                clear href hlk2 hf1 hf2 hv1 hv2
                obtain ⟨q, hq⟩ : ∃ q : OpV, q = ⟨y.ka, y.kc, none, 0, ⟨true, y.x.key, []⟩⟩ := ⟨_, rfl⟩
                have hqc : (#[.bool true, .slice y.ka y.x.key.length y.kc, .slice none 0 0] : Array Value) = q.cells := by rw [hq]; rfl
                have hqi : q.In w3 := by rw [hq]; exact ⟨Hyi.out.kr, RdB.nil_ _ _, Hyi.out.kcap, Nat.zero_le _⟩
                have hqx : q.x = ⟨true, y.x.key, []⟩ := by rw [hq]
                have Hqx := Lib.hid hqx
                clear hq hqx
                go_wp2_with (refine wpList_buildOne (by rfl) 23 (.tmp 76) rfl elemO q.cells rfl rfl (by omega) ?_; at_builtin; refine wpList_app rfl (.tmp 74) (.tmp 77) 23 rfl elemO w3.heap.size D1 D.length c3 (ocs D) rfl (some ⟨w6.heap.size, 0, none⟩) 1 1 (ocs [q]) rfl (D.length + 1) rfl (ocs (D ++ [q])) (ocs_app _ _) (Hown2.out _ (Ext.tr hx56 (Ext.alloc _ _))) (RdO.one w6 50 q (hqi.below (Ext.tr Hbel.out hx56))).rd (ocs_one_cell _) (by omega) (by omega) (by rw [World.size_alloc]; exact Nat.le_succ_of_le (Ext.tr Hbel.out hx56).size) ?_; intro D2 c4 w4 ho4 hg4 hr4)
                go_roundw
                case rel =>
                  obtain ⟨D', p1, p2, p3, p4, p5, p6⟩ := HPUSH.out q w6 w4 D2 c4 hx56 hqi (by rw [Href.out, Hqx.out]) ho4 hg4
                  exact ⟨k + 1, D', D2, c4, by omega, by go_num, by rw [p1], p2, p3, by rw [← p1]; exact p4, p5, p6⟩
                case measure => simp [intOf]; omega
              · have hlk2 : look Ent.key (l.map EnV.x) y.x.key = some ⟨y.x.key, v2⟩ := by
                  rcases hf2.out with ⟨_, h1⟩ | ⟨h1, _⟩
                  · exact h1
                  · cases h1
                have hrv2 : ∀ W, Ext w3 W → RdB W va2 v2 := fun W hW => hv2 W (fun y hy => (HB3.out.each y hy).below hW)
                obtain ⟨q, hq⟩ : ∃ q : OpV, q = ⟨y.ka, y.kc, va2, vc2, ⟨false, y.x.key, v2⟩⟩ := ⟨_, rfl⟩
                have hqc : (#[.bool false, .slice y.ka y.x.key.length y.kc, .slice va2 v2.length vc2] : Array Value) = q.cells := by rw [hq]; rfl
                have hqi : q.In w3 := by rw [hq]; exact ⟨Hyi.out.kr, hrv2 w3 (Ext.refl _), Hyi.out.kcap, hc2⟩
                have hqx : q.x = ⟨false, y.x.key, v2⟩ := by rw [hq]
                have Hqx := Lib.hid hqx
                have Hlk2 := Lib.hid hlk2
                clear hq hqx hlk2 hf2
                cases b1
                · have hlk1 : look Ent.key (h.map EnV.x) y.x.key = none := by
                    rcases hf1.out with ⟨h1, _⟩ | ⟨_, h1⟩
                    · cases h1
                    · exact h1
                  have Href : Hid (Opn.ref (h.map EnV.x) (l.map EnV.x) y.x.key = some ⟨false, y.x.key, v2⟩) := by
                    show _ = _
                    unfold Opn.ref
                    rw [hlk1, Hlk2.out]
                    rfl
                  clear hlk1 hf1 hv1
                  go_wp2_with (refine wpList_buildOne (by rfl) 23 (.tmp 91) rfl elemO q.cells rfl rfl (by omega) ?_; at_builtin; refine wpList_app rfl (.tmp 88) (.tmp 92) 23 rfl elemO w3.heap.size D1 D.length c3 (ocs D) rfl (some ⟨w6.heap.size, 0, none⟩) 1 1 (ocs [q]) rfl (D.length + 1) rfl (ocs (D ++ [q])) (ocs_app _ _) (Hown2.out _ (Ext.tr hx56 (Ext.alloc _ _))) (RdO.one w6 50 q (hqi.below (Ext.tr Hbel.out hx56))).rd (ocs_one_cell _) (by omega) (by omega) (by rw [World.size_alloc]; exact Nat.le_succ_of_le (Ext.tr Hbel.out hx56).size) ?_; intro D2 c4 w4 ho4 hg4 hr4)
                  go_roundw
                  case rel =>
                    obtain ⟨D', p1, p2, p3, p4, p5, p6⟩ := HPUSH.out q w6 w4 D2 c4 hx56 hqi (by rw [Href.out, Hqx.out]) ho4 hg4
                    exact ⟨k + 1, D', D2, c4, by omega, by go_num, by rw [p1], p2, p3, by rw [← p1]; exact p4, p5, p6⟩
                  case measure => simp [intOf]; omega
                · have hlk1 : look Ent.key (h.map EnV.x) y.x.key = some ⟨y.x.key, v1⟩ := by
                    rcases hf1.out with ⟨_, h1⟩ | ⟨h1, _⟩
                    · exact h1
                    · cases h1
                  have hrv1 : RdB w6 va1 v1 := hv1 w6 (fun y hy => (HA3.out.each y hy).below (Ext.tr Hbel.out hx56))
                  have z1 := run_str _ 33 9 5 va1 v1 vc1 Try.underlying33 Try.underlying5 Try.underlying9 hrv1 v1.length rfl
                  have z2 := run_str _ 33 9 5 va2 v2 vc2 Try.underlying33 Try.underlying5 Try.underlying9 (hrv2 w6 (Ext.tr Hbel.out hx56)) v2.length rfl
                  by_cases he : v1 = v2
                  · have Href : Hid (Opn.ref (h.map EnV.x) (l.map EnV.x) y.x.key = none) := by
                      show _ = _
                      unfold Opn.ref
                      rw [hlk1, Hlk2.out]
                      simp [Opn.should, he]
                    clear hlk1 hf1 hv1
                    subst he
                    go_wp2
                    go_roundw
                    case rel => exact ⟨k + 1, D, D1, c3, by omega, by go_num, rfl, HD0.out Href.out, by omega, Hown2.out w6 hx56, Hin.out, Ext.tr Hbel.out hx56⟩
                    case measure => simp [intOf]; omega
                  · have Href : Hid (Opn.ref (h.map EnV.x) (l.map EnV.x) y.x.key = some ⟨false, y.x.key, v2⟩) := by
                      show _ = _
                      unfold Opn.ref
                      rw [hlk1, Hlk2.out]
                      simp [Opn.should, he, Opn.put]
                    have he2 : (v1 == v2) = false := by simp [he]
                    clear hlk1 hf1 hv1
                    go_wp2_with (refine wpList_buildOne (by rfl) 23 (.tmp 91) rfl elemO q.cells rfl rfl (by omega) ?_; at_builtin; refine wpList_app rfl (.tmp 88) (.tmp 92) 23 rfl elemO w3.heap.size D1 D.length c3 (ocs D) rfl (some ⟨w6.heap.size, 0, none⟩) 1 1 (ocs [q]) rfl (D.length + 1) rfl (ocs (D ++ [q])) (ocs_app _ _) (Hown2.out _ (Ext.tr hx56 (Ext.alloc _ _))) (RdO.one w6 50 q (hqi.below (Ext.tr Hbel.out hx56))).rd (ocs_one_cell _) (by omega) (by omega) (by rw [World.size_alloc]; exact Nat.le_succ_of_le (Ext.tr Hbel.out hx56).size) ?_; intro D2 c4 w4 ho4 hg4 hr4)
                    go_roundw
                    case rel =>
                      obtain ⟨D', p1, p2, p3, p4, p5, p6⟩ := HPUSH.out q w6 w4 D2 c4 hx56 hqi (by rw [Href.out, Hqx.out]) ho4 hg4
                      exact ⟨k + 1, D', D2, c4, by omega, by go_num, by rw [p1], p2, p3, by rw [← p1]; exact p4, p5, p6⟩
                    case measure => simp [intOf]; omega
            · obtain rfl : k = M.length := by omega
              go_wp2
              go_ret
              refine ⟨D1, D, c3, rfl, ?_, ⟨hown.rd, fun e he => (hin e he).below hbel⟩, hown.nc, by omega, Hb3.out.trans (hbel.mono Hb3.out.size)⟩
              rw [hD.out, List.take_of_length_le (by simp), Heq.out]
              exact Opn.ref_diff Hup1.out Hup2.out
end Go.Proofs.Ytdekdblebflklaa
