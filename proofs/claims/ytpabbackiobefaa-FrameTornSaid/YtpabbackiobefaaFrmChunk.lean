
/- A range over slices.Chunk: the pieces of bytes. -/

import Derived.Test.YtpabbackiobefaaFrmHead

import Derived.Test.YtpabbackiobefaaSeq2

namespace Go.Proofs.Ytpabbackiobefaa

open Go.RowKit

def chunkV (ad : Addr) (b : List UInt8) (j : Nat) : Sl := ⟨some (ad.add (52 * j)), (b.drop (52 * j)).take 52, ((b.drop (52 * j)).take 52).length⟩
def chunksN (b : List UInt8) : Nat := (b.length + 51) / 52
def chunksV (ad : Addr) (b : List UInt8) : List Sl := (List.range (chunksN b)).map (chunkV ad b)
theorem chunksV_len (ad : Addr) (b : List UInt8) : (chunksV ad b).length = chunksN b := by simp [chunksV]
theorem chunksV_next (ad : Addr) (b : List UInt8) (j : Nat) (h : j < chunksN b) : (chunksV ad b).take j ++ [chunkV ad b j] = (chunksV ad b).take (j + 1) := by
  have h1 : j < (chunksV ad b).length := by rw [chunksV_len]; exact h
  rw [List.take_succ_eq_append_getElem h1]
  simp [chunksV]
def encS (s : Sl) : Array Value := #[s.val]
def KeepC (gb m0 : Nat) (W W' : World) : Prop := W'.heap[gb]? = W.heap[gb]? ∧ W'.heap[gb + 1]? = W.heap[gb + 1]? ∧ Below m0 W W'

set_option maxRecDepth 100000 in
set_option maxHeartbeats 1000000 in
theorem chunk_gives (k : Nat) (hk : 1 ≤ k) (gb : Nat) (ad : Addr) (b : List UInt8) (cap : Nat) (w0 w : World) (hgb : w.heap[gb]? = some (.cells #[.slice (some ad) b.length cap] 23 (0, 0))) (hgb2 : w.heap[gb + 1]? = some (.cells #[.int .i64 52] 3 (0, 0)))
    (hb0 : Below w0.heap.size w0 w) (hl : b.length ≤ 1000000) (hc : b.length ≤ cap) :
    GivesAll Fence.wide k Try.prog 34 #[.pointer (some ⟨gb, 0, none⟩), .pointer (some ⟨gb + 1, 0, none⟩)] encS (KeepC gb w0.heap.size) (chunksV ad b) gb w := by
  intro l J W hB hJ hY h0
  have hgW : W.heap[gb]? = some (.cells #[.slice (some ad) b.length cap] 23 (0, 0)) := (hB.block gb (lt_of_heap hgb)).trans hgb
  have hgW2 : W.heap[gb + 1]? = some (.cells #[.int .i64 52] 3 (0, 0)) := (hB.block _ (lt_of_heap hgb2)).trans hgb2
  have hbW : Below w0.heap.size w0 W := hb0.trans (hB.mono hb0.size)
  clear hB hgb hgb2
  refine callsIn_of_wp Try.func34 rfl trivial ?_ rfl
  simp only [Try.ntmps34, List.size_toArray, List.length_cons, List.length_nil, Nat.reduceAdd, Nat.reduceSub, Array.replicate_succ, Array.replicate_zero, List.push_toArray, List.append_toArray, List.nil_append, List.cons_append]
  gi_wp2
  gi_loopw [4, 5] (fun i _ wr => ∃ j : Nat, j ≤ chunksN b ∧ i = .int .i64 ((52 * j : Nat) : Int) ∧ J ((chunksV ad b).take j) wr ∧ wr.heap[gb]? = some (.cells #[.slice (some ad) b.length cap] 23 (0, 0)) ∧ wr.heap[gb + 1]? = some (.cells #[.int .i64 52] 3 (0, 0)) ∧ Below w0.heap.size w0 wr)
    (fun i _ _ => b.length + 100 - (intOf i).toNat)
  case atStart => exact ⟨0, by omega, rfl, by simpa using h0, hgW, hgW2, hbW⟩
  case round =>
    obtain ⟨j, hj, rfl, hJp, hg, hg2, hbw⟩ := hrel
    have hcell : wr.cell? ⟨gb, 0, none⟩ = some (.slice (some ad) b.length cap) := cell_of_row wr gb 0 _ _ _ hg
    have hcell2 : wr.cell? ⟨gb + 1, 0, none⟩ = some (.int .i64 52) := cell_of_row wr (gb + 1) 0 _ _ _ hg2
    by_cases h : j < chunksN b
    · have hlt : 52 * j < b.length := by unfold chunksN at h; omega
      have hnx := chunksV_next ad b j h
      have hJd : J ((chunksV ad b).take j) wr.drew := hJ _ _ _ hJp (grown_ext (Ext.drew wr) _) (by rw [hg]; rfl)
      obtain ⟨fn, tmps, assign, body, hy, hR⟩ := hY _ (chunkV ad b j) wr.drew hJd ⟨(chunksV ad b).drop (j + 1), by rw [hnx, List.take_append_drop]⟩
      have hcl : ((b.drop (52 * j)).take 52).length = min 52 (b.length - 52 * j) := by rw [List.length_take, List.length_drop]
      simp only [encS, chunkV, Sl.val, hcl] at hy
      obtain ⟨i, hi⟩ : ∃ i, i = 52 * j := ⟨_, rfl⟩
      rw [← hi] at hlt hy ⊢
      have Hi := Lib.hid hi
      have Hnx := Lib.hid hnx
      have il : (i : Int) < (b.length : Int) := by omega
      have il2 : i ≤ b.length := by omega
      have hci : ¬ cap = i := by omega
      have ilc : (i : Int) ≤ (cap : Int) := by omega
      have hk1 := Ext.load (Ext.drew wr) hcell
      have hk2 := Ext.load (Ext.drew wr) hcell2
      obtain ⟨e, he⟩ : ∃ e, e = min 52 (b.length - i) := ⟨_, rfl⟩
      rw [← he] at hy
      have Hmin : Hid ((if ((b.length - i : Nat) : Int) < 52 then ((b.length - i : Nat) : Int) else 52) = (e : Int)) := by show _ = _; split <;> omega
      have hep : 0 < e := by omega
      have hei : i + e ≤ b.length := by omega
      have hie : (i : Int) ≤ (i : Int) + (e : Int) := by omega
      have hec : (i : Int) + (e : Int) ≤ (cap : Int) := by omega
      have hne : ¬ i + e = i := by omega
      clear he
      clear hnx hcl hi
      gi_wp2
      refine wpIn_wide.2 ?_
      refine rg_start (by kernel_rfl) ?_
      refine rg_take 0 rfl (by kernel_rfl) (by kernel_rfl) (by kernel_rfl) (fun _ _ _ _ h => h) (by rfl) ⟨_, fun w' hx => by have hcx := hx.load hk2; (go_simp <;> with_reducible rfl), ?_⟩
      simp only [Act.put, List.setIfInBounds_toArray, List.set_cons_zero, List.set_cons_succ]
      refine rg_take 1 rfl (by kernel_rfl) (by kernel_rfl) (by kernel_rfl) (fun _ _ _ _ h => h) (by rfl) ⟨_, fun w' hx => by have hcx := hx.load hk1; (go_simp <;> with_reducible rfl), ?_⟩
      simp only [Act.put, List.setIfInBounds_toArray, List.set_cons_zero, List.set_cons_succ]
      refine rg_take 2 rfl (by kernel_rfl) (by kernel_rfl) (by kernel_rfl) (fun _ _ _ _ h => h) (by rfl) ⟨_, fun w' hx => by (go_simp <;> with_reducible rfl), ?_⟩
      simp only [Act.put, List.setIfInBounds_toArray, List.set_cons_zero, List.set_cons_succ]
      refine rg_take 3 rfl (by kernel_rfl) (by kernel_rfl) (by kernel_rfl) (fun _ _ _ _ h => h) (by rfl) ⟨_, fun w' hx => by (go_simp <;> with_reducible rfl), ?_⟩   -- t16 := slice 23 t14 t15 - -
      simp only [Act.put, List.setIfInBounds_toArray, List.set_cons_zero, List.set_cons_succ]
      refine rg_take 4 rfl (by kernel_rfl) (by kernel_rfl) (by kernel_rfl) (fun _ _ _ _ h => h) (by rfl) ⟨_, fun w' hx => by (go_simp <;> with_reducible rfl), ?_⟩   -- t17 := len(t16)
      simp only [Act.put, List.setIfInBounds_toArray, List.set_cons_zero, List.set_cons_succ]
      refine rg_take 5 rfl (by kernel_rfl) (by kernel_rfl) (by kernel_rfl) (fun _ _ _ _ h => h) (by rfl) ⟨.int .i64 (e : Int), fun w' hx => by (go_simp; try exact Hmin.out), ?_⟩
      simp only [Act.put, List.setIfInBounds_toArray, List.set_cons_zero, List.set_cons_succ]
      refine rg_take 6 rfl (by kernel_rfl) (by kernel_rfl) (by kernel_rfl) (fun _ _ _ _ h => h) (by rfl) ⟨_, fun w' hx => by (go_simp <;> with_reducible rfl), ?_⟩
      simp only [Act.put, List.setIfInBounds_toArray, List.set_cons_zero, List.set_cons_succ]
      refine rg_done (by kernel_rfl) ?_
      gi_wp2

      refine hR.mono ?_
      rintro r W2 ⟨rfl, hJ2, hk2, hk3, hk4⟩
      rw [Hnx.out] at hJ2
      have hg2' : W2.heap[gb + 1]? = some (.cells #[.int .i64 52] 3 (0, 0)) := Eq.trans hk3 hg2
      have hcW : W2.cell? ⟨gb + 1, 0, none⟩ = some (.int .i64 52) := cell_of_row W2 (gb + 1) 0 _ _ _ hg2'
      clear hcell hcell2 hy
      gi_wp2
      go_roundw
      case rel => exact ⟨j + 1, by omega, by have := Hi.out; go_num, hJ2, Eq.trans hk2 hg, Eq.trans hk3 hg2, hbw.drew.trans hk4⟩
      case measure => simp [intOf]; omega
    · have hjK : j = chunksN b := by omega
      have hle : b.length ≤ 52 * j := by rw [hjK]; unfold chunksN; omega
      have hil : ¬ (((52 * j : Nat) : Int) < (b.length : Int)) := by omega
      subst hjK
      rw [List.take_of_length_le (by rw [chunksV_len]; exact Nat.le_refl _)] at hJp
      obtain ⟨i, hi⟩ : ∃ i, i = 52 * chunksN b := ⟨_, rfl⟩
      rw [← hi] at hil ⊢
      clear hi
      gi_wp2
      go_end0
      exact ⟨⟨_, rfl⟩, hJp⟩
end Go.Proofs.Ytpabbackiobefaa
