/- Texts of the proof, laid together: TlU TlS Builder TlH TlT. -/
import Derived.Test.YtjholekgdnhpkaaGreatDoorShelf
import Derived.Shelf.Strconv.Itoa3
import Derived.Test.YtjholekgdnhpkaaGreatDoorZ1
import Derived.Test.YtjholekgdnhpkaaGreatDoorZ3
import Derived.Lib.Builder
import Derived.Lib.UnsafeStr
import Derived.Lib.AppendStr
import Derived.Lib.Strings
import Derived.Laws.Externs
import Derived.Test.YtjholekgdnhpkaaGreatDoorZ30
set_option linter.unusedVariables false
set_option linter.unusedSimpArgs false
set_option linter.unusedSectionVars false
namespace Go.Proofs.YtjholekgdnhpkaaGreatDoor
open Go.RowKit Go.Sort Go.Lib
theorem fmtU_in (u : Nat) (hu64 : u < 18446744073709551616) (w : World) (htab : Lib.TabIs Tryz.prog w "internal/strconv.uint64pow10" .u64 Lib.pow10Tab) :
  Calls Tryz.prog 35 #[.int .u64 (u : Int), .int .i64 10] w fun e w' => e = .returned (.string ⟨(Lib.decDigits u).toArray⟩) ∧ ∃ k os, w' = grow (w.drewN k) os := by
 by_cases hs : u < 100
 ·
  have hs1 : (u : Int) < 100 := by omega
  go_enter Tryz.func35, Tryz.ntmps35
  go_wp2_with (go_at_call 54; refine (Tryz.internal_strconv_small u hs _).mono ?_; rintro e w' ⟨rfl, rfl⟩)
  go_ret
  exact ⟨rfl, 0, #[], by simp [World.drewN_zero]⟩
 ·
  have hs1 : ¬ (u : Int) < 100 := by omega
  have hu1 : 1 ≤ u := by omega
  have hnd20 : Lib.nDigits u ≤ 20 := by have := Lib.numDigits_eq u hu1 hu64; split at this <;> omega
  have hal : Tryz.prog.arrayLen 94 = 24 := by kernel_rfl
  have hsl1 : ∀ W, (Instr.sliceAt 94 (.pointer (some ⟨w.heap.size, 0, none⟩)) none (some (.int .i64 (Lib.nDigits u : Int))) none).run Tryz.prog W = .ok (.slice (some ⟨w.heap.size, 0, none⟩) (Lib.nDigits u) 24) W := fun W => by
   rw [run_sliceAt_array_h W 94 ⟨w.heap.size, 0, none⟩ (by kernel_rfl) .i64 (Lib.nDigits u : Int) (by omega) (by rw [hal]; omega)]
   go_simp
  have hH0 : Holds (fun (b : UInt8) => Value.int .u8 (b.toNat : Int)) (w.alloc (.cells Lib.zeros24 94)) w.heap.size 0 (Array.replicate (Lib.nDigits u) (0 : UInt8)) := fun j hj => by
   have hj' : j < Lib.nDigits u := by simpa using hj
   refine ⟨?_, World.frozen?_alloc_new _ _ _ _⟩
   rw [World.cell?_alloc_new, Lib.zeros24_at _ (by omega), getElem!_pos _ j hj]
   simp
  have hfmt := Tryz.internal_strconv_formatBase10 w.heap.size 0 24 u (Array.replicate (Lib.nDigits u) 0) (w.alloc (.cells Lib.zeros24 94)) hH0 (by rw [Array.size_replicate]; exact Lib.lt_pow_nDigits u) hu64 (by rw [Array.size_replicate]; omega)
  rw [Array.size_replicate] at hfmt
  have HH0 := Lib.hid hH0
  have HF := Lib.hid hfmt
  clear hH0 hal hfmt
  go_enter Tryz.func35, Tryz.ntmps35
  go_wp2_with (first
   | (go_at_call 55; refine (Tryz.internal_strconv_numDigits u hu1 hu64 _ (Lib.tabIs_alloc htab _)).mono ?_; rintro e w' ⟨rfl, rfl⟩)
   | (go_at_call 56; refine HF.out.mono ?_; rintro e w' ⟨rfl, k, v', dk, rfl, hF⟩; refine Hid.out ?_))
  have hcv : (convert 23 9 (.slice (some ⟨w.heap.size, 0, none⟩) (Lib.nDigits u) 24)).run Tryz.prog ((putRow (fun (b : UInt8) => Value.int .u8 (b.toNat : Int)) (w.alloc (.cells Lib.zeros24 94)) w.heap.size 0 dk).drewN k) = .ok (.string ⟨(Lib.decDigits u).toArray⟩) ((putRow (fun (b : UInt8) => Value.int .u8 (b.toNat : Int)) (w.alloc (.cells Lib.zeros24 94)) w.heap.size 0 dk).drewN k) := by
   have h := run_convert_bytes_back (P := Tryz.prog) ((putRow (fun (b : UInt8) => Value.int .u8 (b.toNat : Int)) (w.alloc (.cells Lib.zeros24 94)) w.heap.size 0 dk).drewN k) 23 9 5 ⟨w.heap.size, 0, none⟩ 24 (Lib.decDigits u) Tryz.underlying23 Tryz.underlying5 Tryz.underlying9 (fun j hj => by
    rw [Lib.row_is_numeral hF j hj, Lib.add_plain, World.cell?_drewN]
    exact cell?_putRow (fun (b : UInt8) => Value.int .u8 (b.toNat : Int)) _ w.heap.size 0 _ dk HH0.out (by rw [hF.size, Array.size_replicate]) j (by rw [hF.size]; rw [Lib.decDigits_length] at hj; exact hj))
   rw [Lib.decDigits_length] at h
   exact h
  refine Lib.hid ?_
  go_wp2
  go_ret
  rw [alloc_eq_grow]
  obtain ⟨os', _, e⟩ := putRow_grow_new (fun (b : UInt8) => Value.int .u8 (b.toNat : Int)) w #[.cells Lib.zeros24 94] w.heap.size 0 dk (Nat.le_refl _)
  exact ⟨rfl, k, os', by rw [e]; rfl⟩
theorem grow_belowT (w : World) (k : Nat) (os : Array Obj) : Below w.heap.size w (grow (w.drewN k) os) :=
 ⟨rfl, rfl, rfl, by show _ ≤ (w.heap ++ os).size; rw [Array.size_append]; omega, fun i hi => by show (w.heap ++ os)[i]? = _; exact Array.getElem?_append_left hi⟩
theorem tab_belowT {w w' : World} (h : Lib.TabIs Tryz.prog w "internal/strconv.uint64pow10" .u64 Lib.pow10Tab) (hb : Below w.heap.size w w') : Lib.TabIs Tryz.prog w' "internal/strconv.uint64pow10" .u64 Lib.pow10Tab := by
 unfold Lib.TabIs World.var? at *
 cases hg : Tryz.prog.globalNamed "internal/strconv.uint64pow10" with
 | none => simp [hg] at h
 | some g =>
  simp only [hg, Option.bind_some] at h ⊢
  have hlt : g < w.heap.size := by
   rcases Nat.lt_or_ge g w.heap.size with h' | h'
   ·
    exact h'
   ·
    rw [Array.getElem?_eq_none h'] at h; simp at h
  rw [hb.block g hlt]
  exact h
theorem fmtU_any (u : Nat) (hu64 : u < 18446744073709551616) (w : World) (htab : Lib.TabIs Tryz.prog w "internal/strconv.uint64pow10" .u64 Lib.pow10Tab) :
  Calls Tryz.prog 14 #[.int .u64 (u : Int), .int .i64 10] w fun e w' => e = .returned (.string ⟨(Lib.decDigits u).toArray⟩) ∧ Below w.heap.size w w' := by
 have H := Lib.hid (fmtU_in u hu64 w htab)
 go_enter Tryz.func14, Tryz.ntmps14
 go_wp2_with (go_at_call 35; refine H.out.mono ?_; rintro e w' ⟨rfl, k, os, rfl⟩)
 go_ret
 exact ⟨rfl, grow_belowT _ _ _⟩
theorem itoa_any (n : Int) (h0 : -9223372036854775808 ≤ n) (h1 : n ≤ 9223372036854775807) (w : World) (htab : Lib.TabIs Tryz.prog w "internal/strconv.uint64pow10" .u64 Lib.pow10Tab) :
  Calls Tryz.prog 37 #[.int .i64 n] w fun e w' => e = .returned (.string ⟨(Lib.itoa n).toArray⟩) ∧ Below w.heap.size w w' :=
 (Tryz.strconv_Itoa n h0 h1 w htab).mono fun e w' ⟨he, k, os, hw⟩ => ⟨he, hw ▸ grow_belowT _ _ _⟩
end Go.Proofs.YtjholekgdnhpkaaGreatDoor
namespace Go.Proofs.YtjholekgdnhpkaaGreatDoor
open Go.RowKit
section
variable {P : Program} {o : Oper} {a : Act} {w : World} {x y : Operand} {t u : TypeId} {p q : List UInt8}
theorem ex_addS (ho : o.op = .binOp .add t x y u) (hx : a.eval x = .string ⟨p.toArray⟩) (hy : a.eval y = .string ⟨q.toArray⟩) (hn : p.length + q.length ≤ 9223372036854775807) : (execOp a.eval o).run P w = .ok (.value (.string ⟨(p ++ q).toArray⟩)) w := by
 unfold execOp
 simp only [ho, hx, hy]
 go_simp
 rw [if_neg (by omega)]
 have e : ({ data := p.toArray } ++ { data := q.toArray } : ByteArray) = { data := (p ++ q).toArray } := by
  apply ByteArray.ext
  simp
 rw [e]
theorem wpList_runT {w : World} {ops : Array Oper} {rest : List Oper} {Q : Exit → Act → World → Prop} (hgd : Region.wanted o (yielded ops a.tmps) = true) (v : Value) (w' : World)
  (hr : (execOp a.eval o).run P w = .ok (.value v) w') (h : wpList P ops Q rest (a.put o.dst v) w') : wpList P ops Q (o :: rest) a w :=
 wpList_want hgd fun K hK => by
  unfold Oper.wp
  rw [hr, Oper.upon_value]
  exact hK _ _ h
end
def Tl.dg (n : Nat) : UInt8 := UInt8.ofNat (48 + n % 10)
def Tl.pre (n : Nat) : List UInt8 := if n = 0 then [] else Lib.decDigits n
theorem Tl.pre_step {n : Nat} (h : 0 < n) : Tl.pre n = Tl.pre (n / 10) ++ [Tl.dg n] := by
 unfold Tl.pre
 rw [if_neg (by omega)]
 by_cases h10 : n < 10
 ·
  rw [Lib.decDigits_one h10, if_pos (by omega)]; unfold Tl.dg; rw [show n % 10 = n by omega]; rfl
 ·
  rw [if_neg (by omega)]
  conv => lhs; rw [Lib.decDigits]
  rw [dif_neg h10]
  rfl
theorem Tl.dec_first (n : Nat) : Lib.decDigits n = Tl.pre (n / 10) ++ [Tl.dg n] := by
 by_cases h : n = 0
 ·
  subst h; rw [Lib.decDigits_one (by omega)]; rfl
 ·
  have := Tl.pre_step (n := n) (by omega)
  unfold Tl.pre at this
  rw [if_neg h] at this
  exact this
theorem Tl.dec_len (n : Nat) (h : n < 18446744073709551616) : (Lib.decDigits n).length ≤ 20 := by
 rw [Lib.decDigits_length]
 by_cases h0 : n = 0
 ·
  subst h0; rw [Lib.nDigits_small (by omega)]; omega
 ·
  have := Lib.numDigits_eq n (by omega) h
  split at this <;> omega
theorem one_row (w : World) (b : UInt8) (v : Int) (hv : v = (b.toNat : Int)) : RdB (w.alloc (.cells #[.int .u8 v] 5)) (some ⟨w.heap.size, 0, none⟩) [b] :=
 ⟨rfl, fun _ => ⟨_, rfl, fun j u hj => by
  cases j with
  | zero =>
   simp [bvs, bv] at hj
   subst hj
   show (w.alloc _).cell? ⟨w.heap.size, 0, none⟩ = _
   rw [World.cell?_alloc_new, hv]
   rfl
  | succ j => simp [bvs] at hj⟩⟩
theorem dig_val (n : Nat) : (48 + (n : Int) % 10) = ((Tl.dg n).toNat : Int) := by
 unfold Tl.dg
 rw [UInt8.toNat_ofNat']
 omega
set_option maxRecDepth 100000 in
set_option maxHeartbeats 2000000 in
theorem digits_any (N : Nat) (hN : N < 18446744073709551616) (w : World) : Calls Tryz.prog 19 #[.int .u64 (N : Int)] w fun e w' => e = .returned (.string ⟨(Lib.decDigits N).toArray⟩) ∧ Below w.heap.size w w' := by
 have hlen := Tl.dec_len N hN
 have hf := Lib.hid (Tl.dec_first N)
 go_enter Tryz.func19, Tryz.ntmps19
 go_wp2_with (refine wpList_runT (by rfl) (.string ⟨[Tl.dg N].toArray⟩) _ (ex_str (x := .tmp 8) rfl rfl Tryz.underlying23 Tryz.underlying5 Tryz.underlying9 (one_row _ (Tl.dg N) _ (dig_val N)) rfl) ?_)
 go_loopw [0, 3] (fun n s wr => ∃ (k : Nat) (l : List UInt8), k < 18446744073709551616 ∧ n = .int .u64 (k : Int) ∧ s = .string ⟨l.toArray⟩ ∧ Hid (Lib.decDigits N = Tl.pre k ++ l) ∧ Below w.heap.size w wr) (fun n _ _ => (intOf n).toNat)
 case atStart => exact ⟨N / 10, _, by omega, by simp, rfl, hf, (Below.refl _ _).alloc (Nat.le_refl _) _⟩
 case round =>
  obtain ⟨k, l, hk, rfl, rfl, hd, hb⟩ := hrel
  have hll := congrArg List.length hd.out
  rw [List.length_append] at hll
  by_cases h : 0 < k
  ·
   have hi : (0 : Int) < (k : Int) := by omega
   go_wp2_with (first | (refine wpList_runT (by rfl) (.string ⟨[Tl.dg k].toArray⟩) _ (ex_str (x := .tmp 20) rfl rfl Tryz.underlying23 Tryz.underlying5 Tryz.underlying9 (one_row _ (Tl.dg k) _ (dig_val k)) rfl) ?_) | (refine wpList_runT (by rfl) (.string ⟨([Tl.dg k] ++ l).toArray⟩) _ (ex_addS (x := .tmp 21) (y := .tmp 22) rfl rfl rfl (by simp only [List.length_singleton]; omega)) ?_))
   go_roundw
   case rel => exact ⟨k / 10, [Tl.dg k] ++ l, by omega, by simp, rfl, Lib.hid (by rw [hd.out, Tl.pre_step h, List.append_assoc]), hb.alloc hb.size _⟩
   case measure => simp [intOf]; omega
  ·
   have hi : ¬ (0 : Int) < (k : Int) := by omega
   have hN' : Lib.decDigits N = l := by rw [hd.out, show k = 0 by omega]; rfl
   have HN := Lib.hid hN'
   clear hN' hd hf
   go_wp2_with fail
   go_ret
   exact ⟨by rw [HN.out]; rfl, hb⟩
set_option maxRecDepth 100000 in
set_option maxHeartbeats 2000000 in
theorem signed_any (n : Int) (h0 : -9223372036854775808 ≤ n) (h1 : n ≤ 9223372036854775807) (w : World) : Calls Tryz.prog 21 #[.int .i64 n] w fun e w' => e = .returned (.string ⟨(Lib.itoa n).toArray⟩) ∧ Below w.heap.size w w' := by
 by_cases hn : n < 0
 ·
  obtain ⟨u, rfl⟩ : ∃ u : Nat, n = -(u : Int) := ⟨n.natAbs, by omega⟩
  have hu1 : 1 ≤ u := by omega
  have H := Lib.hid (digits_any u (by omega) w)
  have hlen := Tl.dec_len u (by omega)
  rw [Lib.itoa_neg u hu1]
  go_enter Tryz.func21, Tryz.ntmps21
  go_wp2_with (first | (go_at_call 19; rw [show -(-(u : Int) + 1) + 1 = (u : Int) by omega]; refine H.out.mono ?_; rintro e w' ⟨rfl, hb⟩; have HB := Lib.hid hb; clear hb) | (refine wpList_runT (by rfl) (.string ⟨([45] ++ Lib.decDigits u).toArray⟩) _ (ex_addS (p := [45]) (y := .tmp 10) rfl rfl rfl (by simp only [List.length_singleton]; omega)) ?_))
  go_ret
  exact ⟨rfl, HB.out⟩
 ·
  obtain ⟨u, rfl⟩ : ∃ u : Nat, n = (u : Int) := ⟨n.toNat, by omega⟩
  have H := Lib.hid (digits_any u (by omega) w)
  rw [Lib.itoa_nonneg]
  have hc : IntKind.u64.wrap (u : Int) = (u : Int) := by rw [IntKind.wrap_u64]; omega
  go_enter Tryz.func21, Tryz.ntmps21
  go_wp2_with (go_at_call 19; refine H.out.mono ?_; rintro e w' ⟨rfl, hb⟩; have HB := Lib.hid hb; clear hb)
  go_ret
  exact ⟨rfl, HB.out⟩
end Go.Proofs.YtjholekgdnhpkaaGreatDoor
namespace Go.Proofs.YtjholekgdnhpkaaGreatDoor
open Go.RowKit
section
variable {P : Program} {ops : Array Oper} {md : Region.Mode} {Q : Exit → Act → World → Prop}
theorem rg_valW (i : Nat) {oi : Oper} {fuel : Nat} {listed : Array Bool} {a : Act} {w : World} (hi0 : ops.toList[i]? = some oi)
  (hr : Region.ready md ops listed = [i]) (hwt : waits md ops listed i = true) (hw : Region.wanted oi (yielded ops a.tmps) = true)
  (h : ∃ v w', (execOp a.eval oi).run P w = .ok (.value v) w' ∧ wpAnyR P md ops Q fuel (listed.setIfInBounds i true) (a.put oi.dst v) w') : wpAnyR P md ops Q (fuel + 1) listed a w := by
 obtain ⟨v, w', hx, h2⟩ := h
 refine rg_one i hi0 hr hw ?_
 unfold Oper.wp
 rw [hx, Oper.upon_value]
 exact ⟨.inr hwt, h2⟩
end
theorem sizeBuilder : (Tryz.prog.info? 73).map (·.size) = some 2 := by kernel_rfl
theorem liesBuilder : liesAt Tryz.prog Tryz.prog.depth 73 (2 / Tryz.prog.cellsOf 73) 0 73 1 = true := by kernel_rfl
set_option maxRecDepth 100000 in
theorem copyCheck_used (b : Nat) (w : World) (h0 : w.cell? ⟨b, 0, none⟩ = some (.pointer (some ⟨b, 0, none⟩))) :
  Calls Tryz.prog 60 #[.pointer (some ⟨b, 0, none⟩)] w fun e w' => e = .returned (.tuple #[]) ∧ w' = w := by
 obtain ⟨j, hj, _⟩ := Option.map_eq_some_iff.1 sizeBuilder
 go_enter Tryz.func60, Tryz.ntmps60
 go_wp2
 rw [Lib.run_neq_ptr_same w _ Tryz.underlying71 hj]
 go_wp2
 exact bodyPost_end (results_none rfl _ _ _) rfl ⟨rfl, rfl⟩
set_option maxRecDepth 100000 in
theorem copyCheck_fresh (b : Nat) (w : World) (h0 : w.cell? ⟨b, 0, none⟩ = some (.pointer none)) (hsh : w.shape? b = some (73, 2)) (hfz : w.frozen? ⟨b, 0, none⟩ = false) :
  Calls Tryz.prog 60 #[.pointer (some ⟨b, 0, none⟩)] w fun e w' => e = .returned (.tuple #[]) ∧ w' = w.setCell ⟨b, 0, none⟩ (.pointer (some ⟨b, 0, none⟩)) := by
 obtain ⟨j, hj, hjs⟩ := Option.map_eq_some_iff.1 sizeBuilder
 go_enter Tryz.func60, Tryz.ntmps60
 go_wp2
 rw [Lib.run_to_unsafe w ⟨b, 0, none⟩ Tryz.underlying71 Tryz.underlying134 hj (by rw [hjs]; decide) hsh (Nat.zero_lt_succ 1)]
 simp only [Result.andThen]
 rw [Oper.upon_value]
 go_wp2
 rw [run_callFunc_extern Tryz.func84 (by kernel_rfl) (by kernel_rfl) (by kernel_rfl) (e := Extern.AbiNoEscape.same) (by kernel_rfl)]
 rw [Lib.run_noEscape]
 simp only [Result.andThen]
 rw [Oper.upon_value]
 go_wp2
 rw [Lib.run_from_unsafe w ⟨b, 0, none⟩ Tryz.underlying134 Tryz.underlying71 hj hsh liesBuilder]
 simp only [Result.andThen]
 rw [Oper.upon_value]
 go_wp2
 exact bodyPost_end (results_none rfl _ _ _) rfl ⟨rfl, rfl⟩
abbrev BAt (B b : Nat) (p : Value) (bs : List Value) (w : World) : Prop := Lib.BuilderAt 73 5 B b p bs w
abbrev IsBd (B b : Nat) (bs : List Value) (w : World) : Prop := Lib.IsBuilder 73 5 B b bs w
theorem copyCheck_any (B b : Nat) (bs : List Value) (w : World) (h : IsBd B b bs w) :
  Calls Tryz.prog 60 #[.pointer (some ⟨b, 0, none⟩)] w fun e w' => e = .returned (.tuple #[]) ∧ BAt B b (.pointer (some ⟨b, 0, none⟩)) bs w' ∧ Below B w w' := by
 rcases h with h | h
 ·
  refine (copyCheck_fresh b w h.cell0 h.shape h.frozen0).mono ?_
  rintro e w' ⟨rfl, rfl⟩
  exact ⟨rfl, h.used _, (Below.refl B w).setCell (p := ⟨b, 0, none⟩) h.1 _⟩
 ·
  refine (copyCheck_used b w h.cell0).mono ?_
  rintro e w' ⟨rfl, rfl⟩
  exact ⟨rfl, h, Below.refl B _⟩
set_option maxRecDepth 100000 in
set_option maxHeartbeats 1000000 in
theorem writeByte (B b : Nat) (bs : List Value) (c : Int) (w : World) (h : IsBd B b bs w) (hlen : bs.length + 1 ≤ 140737488355328) (hBw : B ≤ w.heap.size) :
  Calls Tryz.prog 58 #[.pointer (some ⟨b, 0, none⟩), .int .u8 c] w fun e w' => e = .returned .nilIface ∧ BAt B b (.pointer (some ⟨b, 0, none⟩)) (bs ++ [.int .u8 c]) w' ∧ Below B w w' := by
 obtain ⟨i0, hi, hz0, hz1, hz2⟩ := info_parts (show (Tryz.prog.info? 5).map (fun i => (i.zero, i.size, i.bytes)) = some (some (.int .u8 0), 1, 1) by kernel_rfl)
 go_enter Tryz.func58, Tryz.ntmps58
 go_wp2_with fail
 refine (copyCheck_any B b bs _ h).mono ?_
 rintro e w1 ⟨rfl, h1, hb1⟩
 obtain ⟨hB, v, hbk, hown, hne⟩ := h1
 have c0 : w1.cell? ⟨b, 0, none⟩ = some (.pointer (some ⟨b, 0, none⟩)) := by rw [Lib.cell_of_heap hbk]; rfl
 have c1 : w1.cell? ⟨b, 1, none⟩ = some v := by rw [Lib.cell_of_heap hbk]; rfl
 go_wp2_with (at_builtin; refine wpList_append_own _ rfl _ _ 23 rfl B 5 i0 (.int .u8 0) 1 1 Tryz.underlying23 hi hz0 hz1 hz2 rfl (by decide) _ _ _ rfl (hown.alloc _) ⟨w1.heap.size, 0, none⟩ 1 1 [.int .u8 c] rfl rfl ?c1 ?c2 ?c3 ?c4 ?c5 ?_)
 case c1 =>
  intro j u hj
  match j, hj with
  | 0, hj => simp at hj; subst hj; simp [Addr.add]
 case c2 => intro u hu; simp at hu; subst hu; rfl
 case c3 => unfold maxLen; omega
 case c4 => omega
 case c5 => have := hb1.size; simp; omega
 intro v' w2 hown' hgrow _
 have hlt : b < w1.heap.size := lt_of_heap hbk
 have hb2 : w2.heap[b]? = some (.cells #[.pointer (some ⟨b, 0, none⟩), v] 73 (0, 0)) := by
  rw [hgrow.block b (by simp; omega) (fun e => hne e.symm), Lib.alloc_old w1 _ b hlt]
  exact hbk
 have d0 : w2.cell? ⟨b, 0, none⟩ = some (.pointer (some ⟨b, 0, none⟩)) := by rw [Lib.cell_of_heap hb2]; rfl
 have d1 : w2.cell? ⟨b, 1, none⟩ = some v := by rw [Lib.cell_of_heap hb2]; rfl
 have f1 : w2.frozen? ⟨b, 1, none⟩ = false := Lib.frozen_of_heap hb2 1
 obtain ⟨g, cap, rfl⟩ : ∃ g cap, v' = .slice (some ⟨g, 0, none⟩) (bs.length + 1) cap := by
  rcases hown'.2 with ⟨_, h0⟩ | ⟨g, cap, cur, hv, _⟩
  ·
   omega
  ·
   exact ⟨g, cap, hv⟩
 go_wp2
 go_ret
 refine ⟨rfl, ?_, ?_⟩
 ·
  exact Lib.BuilderAt.put (T := 73) (e := 5) hB hb2 (bs' := bs ++ [.int .u8 c]) (by simpa using hown') (by decide)
 ·
  exact ((hb1.alloc (by have := hb1.size; omega) _).grown hgrow (by have := hb1.size; simp; omega) (fun k hk => (hown.lt k hk).1)).setCell (p := ⟨b, 1, none⟩) hB _
set_option maxRecDepth 100000 in
set_option maxHeartbeats 1000000 in
theorem bString (B b : Nat) (l : List UInt8) (w : World) (h : IsBd B b (Lib.byteCells l) w) (h0 : l ≠ []) :
  Calls Tryz.prog 40 #[.pointer (some ⟨b, 0, none⟩)] w fun e w' => e = .returned (.string ⟨l.toArray⟩) ∧ Below B w w' := by
 obtain ⟨p, hB, v, hbk, hown, hne⟩ : ∃ p, Lib.BuilderAt 73 5 B b p (Lib.byteCells l) w := by
  rcases h with h | h
  ·
   exact ⟨_, h⟩
  ·
   exact ⟨_, h⟩
 have hl0 : l.length ≠ 0 := by simpa using h0
 rw [Lib.byteCells_length] at hown
 obtain ⟨g, cap, cur, rfl, hbg, hg, hnc, hcm, hcs, htake⟩ : ∃ g cap cur, v = .slice (some ⟨g, 0, none⟩) l.length cap ∧ B ≤ g ∧ w.heap[g]? = some (.cells cur 5 (0, 0)) ∧ l.length ≤ cap ∧ cap ≤ maxLen ∧ cur.size = cap * 1 ∧ cur.toList.take (l.length * 1) = Lib.byteCells l := by
  rcases hown.2 with ⟨_, hz⟩ | ⟨g, cap, cur, hv, r⟩
  ·
   exact absurd hz hl0
  ·
   exact ⟨g, cap, cur, hv, r⟩
 have c1 : w.drew.cell? ⟨b, 1, none⟩ = some (.slice (some ⟨g, 0, none⟩) l.length cap) := by
  have : w.drew.heap[b]? = some (.cells #[p, .slice (some ⟨g, 0, none⟩) l.length cap] 73 (0, 0)) := hbk
  rw [Lib.cell_of_heap this]; rfl
 have hSD : ∀ w', (Builtin.unsafeSliceData_ #[23] 101 #[.slice (some ⟨g, 0, none⟩) l.length cap]).run Tryz.prog w' = .ok (.pointer (some ⟨g, 0, none⟩)) w' := fun w' =>
  Lib.run_unsafeSliceData_row _ _ _ _ _ _ (by omega)
 have hUS : (Builtin.unsafeString_ #[101, 3] 9 #[.pointer (some ⟨g, 0, none⟩), .int .i64 l.length]).run Tryz.prog w.drew = .ok (.string ⟨l.toArray⟩) (w.drew.freeze ⟨g, 0, none⟩ l.length) := by
  refine Lib.run_unsafeString_row w.drew 101 3 9 5 Tryz.underlying101 (by kernel_rfl) g cur.size (by have hg' : w.drew.heap[g]? = some (.cells cur 5 (0, 0)) := hg; simp [World.shape?, hg']) l h0 (by omega) (by unfold maxLen at hcm; omega) ?_
  intro j x hx
  have := hown.cells (g := g) rfl j (.int .u8 x.toNat) (by simp [Lib.byteCells, hx])
  exact this
 go_enter Tryz.func40, Tryz.ntmps40
 go_wp2_with fail
 refine rg_start (by kernel_rfl) ?_
 refine gD 0 rfl ?_
 simp only [sP]
 refine gD 1 rfl ?_
 simp only [sP]
 refine gD 2 rfl ?_
 simp only [sP]
 refine gS 3 rfl ⟨_, fun w' hx => by have hcx := hx.load c1; (go_simp <;> with_reducible rfl), ?_⟩
 simp only [sP]
 refine gS 4 rfl ⟨.pointer (some ⟨g, 0, none⟩), fun w' hx => by go_simp, ?_⟩
 simp only [sP]
 refine gD 5 rfl ?_
 simp only [sP]
 refine gD 6 rfl ?_
 simp only [sP]
 refine gD 7 rfl ?_
 simp only [sP]
 refine gS 8 rfl ⟨_, fun w' hx => by have hcx := hx.load c1; (go_simp <;> with_reducible rfl), ?_⟩
 simp only [sP]
 refine gD 9 rfl ?_
 simp only [sP]
 refine rg_valW 10 rfl (by kernel_rfl) (by kernel_rfl) (by rfl) ⟨.string ⟨l.toArray⟩, w.drew.freeze ⟨g, 0, none⟩ l.length, by go_simp, ?_⟩
 simp only [sP]
 refine gD 11 rfl ?_
 simp only [sP]
 refine rg_done (by kernel_rfl) ?_
 go_wp2
 go_ret
 exact ⟨rfl, Lib.below_freeze (Below.drew (Below.refl B w)) (p := ⟨g, 0, none⟩) hbg _⟩
end Go.Proofs.YtjholekgdnhpkaaGreatDoor
namespace Go.Proofs.YtjholekgdnhpkaaGreatDoor
open Go.RowKit
namespace Tl
def hexd (n : Nat) : UInt8 := if n < 10 then UInt8.ofNat (48 + n) else UInt8.ofNat (87 + n)
def hx (l : List UInt8) : List UInt8 := l.flatMap fun c => [hexd (c.toNat / 16), hexd (c.toNat % 16)]
def hex (l : List UInt8) : List UInt8 := if l = [] then [45] else hx l
theorem hx_snoc (l : List UInt8) (c : UInt8) : hx (l ++ [c]) = hx l ++ [hexd (c.toNat / 16)] ++ [hexd (c.toNat % 16)] := by simp [hx]
theorem hx_len (l : List UInt8) : (hx l).length = 2 * l.length := by
 induction l with
 | nil => rfl
 | cons x xs ih => simp only [hx, List.flatMap_cons, List.length_append, List.length_cons, List.length_nil] at *; omega
end Tl
theorem tdigs_at (n : Nat) (h : n < 16) : (⟨#[48, 49, 50, 51, 52, 53, 54, 55, 56, 57, 97, 98, 99, 100, 101, 102]⟩ : ByteArray)[n]'(by show n < 16; exact h) = Tl.hexd n := by
 have h16 : n = 0 ∨ n = 1 ∨ n = 2 ∨ n = 3 ∨ n = 4 ∨ n = 5 ∨ n = 6 ∨ n = 7 ∨ n = 8 ∨ n = 9 ∨ n = 10 ∨ n = 11 ∨ n = 12 ∨ n = 13 ∨ n = 14 ∨ n = 15 := by omega
 rcases h16 with rfl | rfl | rfl | rfl | rfl | rfl | rfl | rfl | rfl | rfl | rfl | rfl | rfl | rfl | rfl | rfl <;> rfl
theorem tand15 (c : UInt8) : bits .and .u8 (c.toNat : Int) 15 = ((c.toNat % 16 : Nat) : Int) := by
 have := u8_and_nat c.toNat 15 c.toNat_lt (by omega)
 rw [nat_mask4] at this
 exact this
theorem tcells_snoc (l : List UInt8) (x : UInt8) : Lib.byteCells l ++ [.int .u8 (x.toNat : Int)] = Lib.byteCells (l ++ [x]) := by simp [Lib.byteCells]
set_option maxRecDepth 100000 in
theorem trun_slice (n : Nat) (h : n < 16) (w : World) : (Instr.slice 9 (.string ⟨#[48, 49, 50, 51, 52, 53, 54, 55, 56, 57, 97, 98, 99, 100, 101, 102]⟩) (some (.int .u8 (n : Int))) (some (.int .u8 ((n : Int) + 1))) none).run Tryz.prog w = .ok (.string ⟨#[Tl.hexd n]⟩) w := by
 have h16 : n = 0 ∨ n = 1 ∨ n = 2 ∨ n = 3 ∨ n = 4 ∨ n = 5 ∨ n = 6 ∨ n = 7 ∨ n = 8 ∨ n = 9 ∨ n = 10 ∨ n = 11 ∨ n = 12 ∨ n = 13 ∨ n = 14 ∨ n = 15 := by omega
 rcases h16 with rfl | rfl | rfl | rfl | rfl | rfl | rfl | rfl | rfl | rfl | rfl | rfl | rfl | rfl | rfl | rfl <;> rfl
theorem tstr_snoc (l : List UInt8) (x : UInt8) : (⟨l.toArray⟩ : ByteArray) ++ ⟨#[x]⟩ = ⟨(l ++ [x]).toArray⟩ := by
 apply ByteArray.ext
 simp [ByteArray.data_append]
set_option maxRecDepth 100000 in
set_option maxHeartbeats 1000000 in
theorem whex_any (A : Option Addr) (d : List UInt8) (cap : Nat) (w : World) (hA : RdB w A d) (hd : d.length ≤ 1000000) :
  Calls Tryz.prog 36 #[.slice A d.length cap] w fun e w' => e = .returned (.string ⟨(Tl.hex d).toArray⟩) ∧ Below w.heap.size w w' := by
 by_cases h0 : d = []
 ·
  subst h0
  go_enter Tryz.func36, Tryz.ntmps36
  go_wp2_with fail
  go_ret
  exact ⟨rfl, Below.refl _ _⟩
 ·
  have hl0 : 0 < d.length := List.length_pos_iff.2 h0
  have hl3 : ((d.length : Int) == 0) = false := by rw [beq_eq_false_iff_ne]; omega
  obtain ⟨ad, rfl, -⟩ := hA.at_ (k := 0) hl0
  have HX := Lib.hid (show Tl.hex d = Tl.hx d from if_neg h0)
  have hb0 := Lib.fresh_isBuilder 73 5 w
  have hE0 := Ext.alloc w (.cells #[.pointer none, .slice none 0 0] 73)
  have hb1 : IsBd w.heap.size w.heap.size (Lib.byteCells (Tl.hx (d.take 0))) (w.alloc (.cells #[.pointer none, .slice none 0 0] 73)) := by
   simpa [Tl.hx, Lib.byteCells] using hb0
  clear h0
  go_enter Tryz.func36, Tryz.ntmps36
  go_wp2_with fail
  go_loopw [11] (fun i wr => ∃ k : Nat, k ≤ d.length ∧ i = .int .i64 k ∧ IsBd w.heap.size w.heap.size (Lib.byteCells (Tl.hx (d.take k))) wr ∧ Below w.heap.size w wr ∧ w.heap.size + 1 ≤ wr.heap.size) (fun i _ => d.length - (intOf i).toNat)
  case atStart => exact ⟨0, by omega, rfl, hb1, hE0, by simp⟩
  case round =>
   clear hb0 hE0 hb1
   obtain ⟨k, hk, rfl, hb, hB, hsz⟩ := hrel
   by_cases h : k < d.length
   ·
    obtain ⟨ad', e', hcell⟩ := (hA.below hB).at_ (k := k) h
    injection e' with e'
    subst e'
    have ik : (0 : Int) ≤ (k : Int) := by omega
    have ik2 : (k : Int) < (d.length : Int) := by omega
    obtain ⟨c, hc⟩ : ∃ c, c = d[k] := ⟨_, rfl⟩
    have hsn : Tl.hx (d.take (k + 1)) = Tl.hx (d.take k) ++ [Tl.hexd (c.toNat / 16)] ++ [Tl.hexd (c.toNat % 16)] := by
     rw [List.take_succ_eq_append_getElem h, Tl.hx_snoc, hc]
    have Hsn := Lib.hid hsn
    rw [← hc] at hcell
    have hlen : (Lib.byteCells (Tl.hx (d.take k))).length ≤ 2000000 := by rw [Lib.byteCells_length, Tl.hx_len, List.length_take]; omega
    have hc16 : (c.toNat : Int) / 16 < 16 := by have := c.toNat_lt; omega
    have hcn : c.toNat / 16 < 16 := by have := c.toNat_lt; omega
    have hcm : c.toNat % 16 < 16 := by omega
    have ha := tand15 c
    clear hc hsn
    go_wp2_with fail
    rw [tdigs_at _ hcn]
    refine (writeByte w.heap.size w.heap.size _ _ wr hb (by omega) (by omega)).mono ?_
    rintro e w1 ⟨rfl, hb1, hB1⟩
    rw [tcells_snoc] at hb1
    have hs1 := hB1.size
    have hlen1 : (Lib.byteCells (Tl.hx (d.take k) ++ [Tl.hexd (c.toNat / 16)])).length ≤ 2000001 := by rw [← tcells_snoc, List.length_append]; simp; omega
    go_wp2_with fail
    rw [tdigs_at _ hcm]
    refine (writeByte w.heap.size w.heap.size _ _ w1 (.inr hb1) (by omega) (by omega)).mono ?_
    rintro e w2 ⟨rfl, hb2, hB2⟩
    rw [tcells_snoc, ← Hsn.out] at hb2
    have hs2 := hB2.size
    have hBB : Below w.heap.size w w2 := hB.trans (hB1.trans hB2)
    go_wp2_with fail
    go_roundw
    case rel => exact ⟨k + 1, by omega, by go_num, .inr hb2, hBB, by omega⟩
    case measure => simp [intOf]; omega
   ·
    have ik2 : ¬ (k : Int) < (d.length : Int) := by omega
    rw [List.take_of_length_le (by omega)] at hb
    have hne : Tl.hx d ≠ [] := by intro e; have h9 := Tl.hx_len d; rw [e] at h9; simp at h9; omega
    go_wp2_with fail
    refine (bString w.heap.size w.heap.size (Tl.hx d) wr hb hne).mono ?_
    rintro e w1 ⟨rfl, hB1⟩
    go_wp2
    go_ret
    exact ⟨by rw [HX.out]; rfl, hB.trans hB1⟩
set_option maxRecDepth 100000 in
set_option maxHeartbeats 1000000 in
theorem rhex_any (A : Option Addr) (d : List UInt8) (cap : Nat) (w : World) (hA : RdB w A d) (hd : d.length ≤ 1000000) :
  Calls Tryz.prog 20 #[.slice A d.length cap] w fun e w' => e = .returned (.string ⟨(Tl.hex d).toArray⟩) ∧ Below w.heap.size w w' := by
 go_enter Tryz.func20, Tryz.ntmps20
 go_wp2_with fail
 go_loopw [3, 4] (fun sv i wr => ∃ k : Nat, k ≤ d.length ∧ i = .int .i64 k ∧ sv = .string ⟨(Tl.hx (d.take k)).toArray⟩ ∧ Below w.heap.size w wr) (fun _ i _ => d.length - (intOf i).toNat)
 case atStart => exact ⟨0, by omega, rfl, rfl, Below.refl _ _⟩
 case round =>
  obtain ⟨k, hk, rfl, rfl, hB⟩ := hrel
  by_cases h : k < d.length
  ·
   obtain ⟨ad, rfl, hcell⟩ := (hA.below hB).at_ (k := k) h
   have ik : (0 : Int) ≤ (k : Int) := by omega
   have ik2 : (k : Int) < (d.length : Int) := by omega
   obtain ⟨c, hc⟩ : ∃ c, c = d[k] := ⟨_, rfl⟩
   have hsn : Tl.hx (d.take (k + 1)) = Tl.hx (d.take k) ++ [Tl.hexd (c.toNat / 16)] ++ [Tl.hexd (c.toNat % 16)] := by
    rw [List.take_succ_eq_append_getElem h, Tl.hx_snoc, hc]
   have Hsn := Lib.hid hsn
   rw [← hc] at hcell
   have hcc : wr.drew.cell? (ad.add k) = some (.int .u8 (c.toNat : Int)) := hcell
   obtain ⟨L, hL⟩ : ∃ L, L = Tl.hx (d.take k) := ⟨_, rfl⟩
   rw [← hL] at hsn ⊢
   have HL := Lib.hid hL
   have hLl : L.length ≤ 2000000 := by rw [hL, Tl.hx_len, List.length_take]; omega
   have hcl := c.toNat_lt
   obtain ⟨q, hq⟩ : ∃ q, q = c.toNat / 16 := ⟨_, rfl⟩
   obtain ⟨m, hm⟩ : ∃ m, m = c.toNat % 16 := ⟨_, rfl⟩
   have hq16 : q < 16 := by omega
   have hm16 : m < 16 := by omega
   have q1 : (c.toNat : Int) / 16 = (q : Int) := by omega
   have q2 : (c.toNat : Int).tdiv 16 = (q : Int) := by rw [Int.tdiv_eq_ediv_of_nonneg (by omega)]; exact q1
   have m1 : (c.toNat : Int) % 16 = (m : Int) := by omega
   have m2 : (c.toNat : Int).tmod 16 = (m : Int) := by rw [Int.tmod_eq_emod_of_nonneg (by omega)]; exact m1
   have v1 : IntKind.u8.wrap (q : Int) = (q : Int) := by rw [IntKind.wrap_u8']; omega
   have v2 : IntKind.u8.wrap ((q : Int) + 1) = ((q + 1 : Nat) : Int) := by rw [IntKind.wrap_u8']; omega
   have v3 : IntKind.u8.wrap (m : Int) = (m : Int) := by rw [IntKind.wrap_u8']; omega
   have v4 : IntKind.u8.wrap ((m : Int) + 1) = ((m + 1 : Nat) : Int) := by rw [IntKind.wrap_u8']; omega
   have b1 : (q : Int) < 16 := by omega
   have b2 : (m : Int) < 16 := by omega
   have b3 : ((q + 1 : Nat) : Int) ≤ 16 := by omega
   have b4 : ((m + 1 : Nat) : Int) ≤ 16 := by omega
   have b5 : (q : Int) ≤ ((q + 1 : Nat) : Int) := by omega
   have b6 : (m : Int) ≤ ((m + 1 : Nat) : Int) := by omega
   have d1 := trun_slice q hq16
   have d2 := trun_slice m hm16
   rw [← hq, ← hm, ← hL] at Hsn
   clear hc hcell hsn hL hcl hq hm
   go_wp2_with fail
   refine rg_start (by kernel_rfl) ?_
   refine gD 0 rfl ?_
   simp only [sP]
   refine gD 1 rfl ?_
   simp only [sP]
   refine gD 2 rfl ?_
   simp only [sP]
   refine gD 3 rfl ?_
   simp only [sP]
   refine gS 4 rfl ⟨_, fun w' hx => by have hcx := hx.load hcc; (go_simp <;> with_reducible rfl), ?_⟩
   simp only [sP]
   refine gS 5 rfl ⟨.int .u8 (q : Int), fun w' hx => by (go_simp), ?_⟩
   simp only [sP]
   refine gD 6 rfl ?_
   simp only [sP]
   refine gD 7 rfl ?_
   simp only [sP]
   refine gD 8 rfl ?_
   simp only [sP]
   refine gS 9 rfl ⟨_, fun w' hx => by have hcx := hx.load hcc; (go_simp <;> with_reducible rfl), ?_⟩
   simp only [sP]
   refine gS 10 rfl ⟨.int .u8 (q : Int), fun w' hx => by (go_simp), ?_⟩
   simp only [sP]
   refine gS 11 rfl ⟨.int .u8 ((q + 1 : Nat) : Int), fun w' hx => by (go_simp), ?_⟩
   simp only [sP]
   refine gS 12 rfl ⟨.string ⟨#[Tl.hexd q]⟩, fun w' hx => by (go_simp <;> with_reducible rfl), ?_⟩
   simp only [sP]
   refine gS 13 rfl ⟨.string ⟨(L ++ [Tl.hexd q]).toArray⟩, fun w' hx => by (go_simp; rw [if_neg (by (try simp); omega), tstr_snoc]), ?_⟩
   simp only [sP]
   refine gD 14 rfl ?_
   simp only [sP]
   refine gD 15 rfl ?_
   simp only [sP]
   refine gD 16 rfl ?_
   simp only [sP]
   refine gS 17 rfl ⟨_, fun w' hx => by have hcx := hx.load hcc; (go_simp <;> with_reducible rfl), ?_⟩
   simp only [sP]
   refine gS 18 rfl ⟨.int .u8 (m : Int), fun w' hx => by (go_simp), ?_⟩
   simp only [sP]
   refine gD 19 rfl ?_
   simp only [sP]
   refine gD 20 rfl ?_
   simp only [sP]
   refine gD 21 rfl ?_
   simp only [sP]
   refine gS 22 rfl ⟨_, fun w' hx => by have hcx := hx.load hcc; (go_simp <;> with_reducible rfl), ?_⟩
   simp only [sP]
   refine gS 23 rfl ⟨.int .u8 (m : Int), fun w' hx => by (go_simp), ?_⟩
   simp only [sP]
   refine gS 24 rfl ⟨.int .u8 ((m + 1 : Nat) : Int), fun w' hx => by (go_simp), ?_⟩
   simp only [sP]
   refine gS 25 rfl ⟨.string ⟨#[Tl.hexd m]⟩, fun w' hx => by (go_simp <;> with_reducible rfl), ?_⟩
   simp only [sP]
   refine gS 26 rfl ⟨.string ⟨(L ++ [Tl.hexd q, Tl.hexd m]).toArray⟩, fun w' hx => by (go_simp; rw [if_neg (by (try simp); omega), tstr_snoc]; simp), ?_⟩
   simp only [sP]
   refine gD 27 rfl ?_
   simp only [sP]
   refine rg_done (by kernel_rfl) ?_
   go_wp2_with fail
   go_roundw
   case rel => exact ⟨k + 1, by omega, by go_num, by rw [Hsn.out]; simp, hB.drew⟩
   case measure => simp [intOf]; omega
  ·
   have ik2 : ¬ (k : Int) < (d.length : Int) := by omega
   rw [List.take_of_length_le (by omega)]
   by_cases h0 : d = []
   ·
    subst h0
    rw [show Tl.hx [] = [] from rfl]
    go_wp2
    go_ret
    exact ⟨rfl, hB⟩
   ·
    have hne : Tl.hx d ≠ [] := by intro e; have h9 := Tl.hx_len d; rw [e] at h9; have := List.length_pos_iff.2 h0; simp at h9; omega
    have HX := Lib.hid (show Tl.hex d = Tl.hx d from if_neg h0)
    obtain ⟨z, hz⟩ : ∃ z, z = Tl.hx d := ⟨_, rfl⟩
    rw [← hz] at hne HX ⊢
    have hzb : (z == []) = false := by simpa using hne
    clear hz
    go_wp2_with (refine wpList_runT (by rfl) (.bool false) _ ((ex_eqlS (p := z) (q := []) (x := .tmp 38) rfl rfl rfl).trans (by rw [hzb])) ?_)
    go_ret
    exact ⟨by rw [HX.out]; rfl, hB⟩
end Go.Proofs.YtjholekgdnhpkaaGreatDoor
namespace Go.Proofs.YtjholekgdnhpkaaGreatDoor
open Go.RowKit
attribute [local go_sem] Oper.semAt_some
namespace Tl
def word (k : Int) : List UInt8 := if k = 1 then [104, 101, 108, 108, 111] else if k = 2 then [116, 97, 98, 108, 101] else if k = 3 then [115, 112, 108, 105, 116] else if k = 4 then [102, 101, 116, 99, 104] else if k = 5 then [115, 105, 103, 115] else if k = 6 then [98, 108, 111, 99, 107] else []
def kind (k : Int) : Int × Bool := if word k = [] ∧ 16 ≤ k then (k - 16, true) else (k, false)
def mark (b : Bool) : UInt8 := if b then 33 else 63
def asked (k : Int) (m : Wm) : List (List UInt8) := if k = 3 ∨ k = 4 then [hex m.lo, hex m.hi] else if k = 5 ∨ k = 6 then [Lib.itoa m.n] else []
def told (k : Int) (m : Wm) : List (List UInt8) :=
 if k = 1 then [Lib.decDigits m.lsn, Lib.itoa m.count, Lib.itoa m.size] else if k = 4 then [Lib.itoa (m.ents.length : Int), if m.more = true then [109, 111, 114, 101] else [97, 108, 108]]
 else if k = 5 then [Lib.itoa (m.sigs.length : Int)] else if k = 6 then [Lib.itoa (m.data.length : Int)] else [Lib.itoa (m.subs.length : Int)]
def num (m : Wm) : List UInt8 := Lib.decDigits m.session ++ [47] ++ Lib.decDigits m.seq
def text (m : Wm) : List UInt8 := if word (kind m.kind).1 = [] then [63] else
 Lib.join ([word (kind m.kind).1 ++ [mark (kind m.kind).2], num m] ++ asked (kind m.kind).1 m ++ (if (kind m.kind).2 = true then told (kind m.kind).1 m else [])) [32]
end Tl
def svT (l : List (List UInt8)) : List Value := l.map fun s => .string ⟨s.toArray⟩
theorem svT_len (l : List (List UInt8)) : (svT l).length = l.length := by simp [svT]
theorem svT_app (l m : List (List UInt8)) : svT (l ++ m) = svT l ++ svT m := by simp [svT]
theorem svT_one (l : List (List UInt8)) : ∀ u ∈ svT l, u.oneCell' = true := by
 intro u hu
 simp only [svT, List.mem_map] at hu
 obtain ⟨s, _, rfl⟩ := hu
 rfl
theorem elemTx : ElemT Tryz.prog 50 9 1 16 := ElemT.mk' (z := .string ByteArray.empty) Tryz.underlying50 (by kernel_rfl) rfl (by omega)
def TxL (l : List (List UInt8)) (w : World) (e : Ending) (w' : World) : Prop := ∃ A c, e = .returned (.slice A l.length c) ∧ Rd w' 1 A l.length (svT l) ∧ Below w.heap.size w w'
set_option maxRecDepth 100000 in
theorem wword_any (k : Int) (w : World) : Calls Tryz.prog 13 #[.int .i64 k] w fun e w' => e = .returned (.string ⟨(Tl.word k).toArray⟩) ∧ w = w' := by
 by_cases k1 : k = 1
 ·
  subst k1
  go_enter Tryz.func13, Tryz.ntmps13
  go_wp2
  go_ret
  exact ⟨rfl, rfl⟩
 by_cases k2 : k = 2
 ·
  subst k2
  go_enter Tryz.func13, Tryz.ntmps13
  go_wp2
  go_ret
  exact ⟨rfl, rfl⟩
 by_cases k3 : k = 3
 ·
  subst k3
  go_enter Tryz.func13, Tryz.ntmps13
  go_wp2
  go_ret
  exact ⟨rfl, rfl⟩
 by_cases k4 : k = 4
 ·
  subst k4
  go_enter Tryz.func13, Tryz.ntmps13
  go_wp2
  go_ret
  exact ⟨rfl, rfl⟩
 by_cases k5 : k = 5
 ·
  subst k5
  go_enter Tryz.func13, Tryz.ntmps13
  go_wp2
  go_ret
  exact ⟨rfl, rfl⟩
 by_cases k6 : k = 6
 ·
  subst k6
  go_enter Tryz.func13, Tryz.ntmps13
  go_wp2
  go_ret
  exact ⟨rfl, rfl⟩
 have hw : Tl.word k = [] := by unfold Tl.word; rw [if_neg k1, if_neg k2, if_neg k3, if_neg k4, if_neg k5, if_neg k6]
 rw [hw]
 go_enter Tryz.func13, Tryz.ntmps13
 go_wp2
 go_ret
 exact ⟨rfl, rfl⟩
set_option maxRecDepth 100000 in
theorem rword_any (k : Int) (w : World) : Calls Tryz.prog 18 #[.int .i64 k] w fun e w' => e = .returned (.string ⟨(Tl.word k).toArray⟩) ∧ w = w' := by
 by_cases k1 : k = 1
 ·
  subst k1
  go_enter Tryz.func18, Tryz.ntmps18
  go_wp2
  go_ret
  exact ⟨rfl, rfl⟩
 by_cases k2 : k = 2
 ·
  subst k2
  go_enter Tryz.func18, Tryz.ntmps18
  go_wp2
  go_ret
  exact ⟨rfl, rfl⟩
 by_cases k3 : k = 3
 ·
  subst k3
  go_enter Tryz.func18, Tryz.ntmps18
  go_wp2
  go_ret
  exact ⟨rfl, rfl⟩
 by_cases k4 : k = 4
 ·
  subst k4
  go_enter Tryz.func18, Tryz.ntmps18
  go_wp2
  go_ret
  exact ⟨rfl, rfl⟩
 by_cases k5 : k = 5
 ·
  subst k5
  go_enter Tryz.func18, Tryz.ntmps18
  go_wp2
  go_ret
  exact ⟨rfl, rfl⟩
 by_cases k6 : k = 6
 ·
  subst k6
  go_enter Tryz.func18, Tryz.ntmps18
  go_wp2
  go_ret
  exact ⟨rfl, rfl⟩
 have hw : Tl.word k = [] := by unfold Tl.word; rw [if_neg k1, if_neg k2, if_neg k3, if_neg k4, if_neg k5, if_neg k6]
 rw [hw]
 go_enter Tryz.func18, Tryz.ntmps18
 go_wp2
 go_ret
 exact ⟨rfl, rfl⟩
theorem TxL.row {w W : World} (l : List (List UInt8)) (E : Ext w W) : TxL l w (.returned (.slice (some ⟨W.heap.size, 0, none⟩) l.length l.length)) (W.alloc (.cells (svT l).toArray 9)) := by
 refine ⟨some ⟨W.heap.size, 0, none⟩, l.length, rfl, ⟨by rw [svT_len, Nat.mul_one], fun _ => ⟨_, rfl, fun j u hj => ?_⟩⟩, E.tr (Ext.alloc _ _)⟩
 rw [Addr.add_lit, Nat.zero_add, cell_of_row _ _ _ _ _ _ (heap_alloc_new W _)]
 rw [← List.getElem?_toArray] at hj
 exact hj
set_option maxRecDepth 100000 in
set_option maxHeartbeats 2000000 in
theorem wasked_any (k : Int) (M : WmV) (w : World) (hM : M.In w) (hlo : M.lo.length ≤ 1000000) (hhi : M.hi.length ≤ 1000000) (htab : Lib.TabIs Tryz.prog w "internal/strconv.uint64pow10" .u64 Lib.pow10Tab) :
  Calls Tryz.prog 15 #[.int .i64 k, .agg M.cells] w (TxL (Tl.asked k M.x) w) := by
 have hn0 := hM.ok.nlo
 have hn1 := hM.ok.nhi
 obtain ⟨W0, hW0⟩ : ∃ W0, W0 = w.alloc (.cells M.cells 31) := ⟨_, rfl⟩
 have hx0 : Ext w W0 := by rw [hW0]; exact Ext.alloc _ _
 have G0 : W0.heap[w.heap.size]? = some (.cells M.cells 31 (0, 0)) := by rw [hW0]; exact heap_alloc_new w _
 have c3 : W0.cell? ⟨w.heap.size, 3, none⟩ = _ := (cell_of_row _ _ 3 _ _ _ G0).trans (WmV.at3 M)
 have c4 : W0.cell? ⟨w.heap.size, 4, none⟩ = _ := (cell_of_row _ _ 4 _ _ _ G0).trans (WmV.at4 M)
 have c5 : W0.cell? ⟨w.heap.size, 5, none⟩ = _ := (cell_of_row _ _ 5 _ _ _ G0).trans (WmV.at5 M)
 have T0 := Lib.hid (tab_belowT htab hx0)
 have X0 := Lib.hid hx0
 obtain ⟨P0, hP0⟩ : ∃ P, P = M.cells := ⟨_, rfl⟩
 rw [← hP0] at hW0 ⊢
 have HW0 := Lib.hid hW0
 clear hW0 hx0 G0 hP0 htab
 have HL := Lib.hid (fun W (x : Ext W0 W) => hM.lr.below (X0.out.tr x))
 have HH := Lib.hid (fun W (x : Ext W0 W) => hM.hr.below (X0.out.tr x))
 clear hM
 by_cases k3 : k = 3 ∨ k = 4
 ·
  rw [show Tl.asked k M.x = [Tl.hex M.lo, Tl.hex M.hi] from if_pos k3]
  rcases k3 with rfl | rfl
  all_goals
   go_enter Tryz.func15, Tryz.ntmps15
   go_wp2_with (rw [← HW0.out]; refine Hid.out ?_)
   refine Lib.hid ?_
   go_wp2_with fail
   refine rg_start (by kernel_rfl) ?_
   refine gD 0 rfl ?_
   simp only [sP]
   refine gS 1 rfl ⟨_, fun w' hx => by have hcx := hx.load c3; (go_simp <;> with_reducible rfl), ?_⟩
   simp only [sP]
   refine gD 3 rfl ?_
   simp only [sP]
   refine gS 4 rfl ⟨_, fun w' hx => by have hcx := hx.load c4; (go_simp <;> with_reducible rfl), ?_⟩
   simp only [sP]
   refine rg_call 2 (whex_any M.la M.lo M.lc _ (HL.out _ (Ext.drew W0)) hlo) rfl (by kernel_rfl) (by rfl) (by go_simp) ?_
   rintro e w2 ⟨rfl, hx2⟩
   refine ⟨_, rfl, hx2, ?_⟩
   simp only [sP]
   refine rg_call 5 (whex_any M.ha M.hi M.hc _ (HH.out _ ((Ext.drew W0).tr hx2)) hhi) rfl (by kernel_rfl) (by rfl) (by go_simp) ?_
   rintro e w5 ⟨rfl, hx5⟩
   refine ⟨_, rfl, hx5, ?_⟩
   simp only [sP]
   refine rg_make 6 rfl (by kernel_rfl) (by rfl) ⟨_, _, by (go_simp <;> first | exact ⟨rfl, rfl⟩ | rfl), Ext.alloc _ _, ?_⟩
   simp only [sP]
   refine gD 7 rfl ?_
   simp only [sP]
   refine rg_done (by kernel_rfl) ?_
   go_wp2_with fail
   go_ret
   exact TxL.row [Tl.hex M.lo, Tl.hex M.hi] (X0.out.tr ((Ext.drew W0).tr (Ext.tr hx2 hx5)))
 ·
  by_cases k5 : k = 5 ∨ k = 6
  ·
   rw [show Tl.asked k M.x = [Lib.itoa M.n] from (if_neg k3).trans (if_pos k5)]
   have HI := Lib.hid (itoa_any M.n hn0 hn1 W0 T0.out)
   rcases k5 with rfl | rfl
   all_goals
    go_enter Tryz.func15, Tryz.ntmps15
    go_wp2_with (rw [← HW0.out]; refine Hid.out ?_)
    refine Lib.hid ?_
    go_wp2_with fail
    refine HI.out.mono ?_
    rintro e w1 ⟨rfl, hx1⟩
    go_wp2_with fail
    go_ret
    exact TxL.row [Lib.itoa M.n] (X0.out.tr hx1)
  ·
   rw [show Tl.asked k M.x = [] from (if_neg k3).trans (if_neg k5)]
   have a3 : ¬ k = 3 := fun e => k3 (.inl e)
   have a4 : ¬ k = 4 := fun e => k3 (.inr e)
   have a5 : ¬ k = 5 := fun e => k5 (.inl e)
   have a6 : ¬ k = 6 := fun e => k5 (.inr e)
   go_enter Tryz.func15, Tryz.ntmps15
   go_wp2_with fail
   go_ret
   exact ⟨none, 0, rfl, Rd.nil_ _ _ _, Ext.alloc _ _⟩
set_option maxRecDepth 100000 in
set_option maxHeartbeats 2000000 in
theorem wtold_any (k : Int) (M : WmV) (w : World) (hM : M.In w) (hz : M.subs.length ≤ 1000000 ∧ M.ents.length ≤ 1000000 ∧ M.sigs.length ≤ 1000000 ∧ M.data.length ≤ 1000000) (htab : Lib.TabIs Tryz.prog w "internal/strconv.uint64pow10" .u64 Lib.pow10Tab) :
  Calls Tryz.prog 16 #[.int .i64 k, .agg M.cells] w (TxL (Tl.told k M.x) w) := by
 have h6 := hM.ok.lsn
 have h7a := hM.ok.clo
 have h7b := hM.ok.chi
 have h40a := hM.ok.zlo
 have h40b := hM.ok.zhi
 obtain ⟨z1, z2, z3, z4⟩ := hz
 obtain ⟨W0, hW0⟩ : ∃ W0, W0 = w.alloc (.cells M.cells 31) := ⟨_, rfl⟩
 have hx0 : Ext w W0 := by rw [hW0]; exact Ext.alloc _ _
 have G0 : W0.heap[w.heap.size]? = some (.cells M.cells 31 (0, 0)) := by rw [hW0]; exact heap_alloc_new w _
 have c6 : W0.cell? ⟨w.heap.size, 6, none⟩ = _ := (cell_of_row _ _ 6 _ _ _ G0).trans (WmV.at6 M)
 have c7 : W0.cell? ⟨w.heap.size, 7, none⟩ = _ := (cell_of_row _ _ 7 _ _ _ G0).trans (WmV.at7 M)
 have c40 : W0.cell? ⟨w.heap.size, 40, none⟩ = _ := (cell_of_row _ _ 40 _ _ _ G0).trans (WmV.at40 hM.ok)
 have c73 : W0.cell? ⟨w.heap.size, 73, none⟩ = _ := (cell_of_row _ _ 73 _ _ _ G0).trans (WmV.at73 hM.ok)
 have c74 : W0.cell? ⟨w.heap.size, 74, none⟩ = _ := (cell_of_row _ _ 74 _ _ _ G0).trans (WmV.at74 hM.ok)
 have c75 : W0.cell? ⟨w.heap.size, 75, none⟩ = _ := (cell_of_row _ _ 75 _ _ _ G0).trans (WmV.at75 hM.ok)
 have c76 : W0.cell? ⟨w.heap.size, 76, none⟩ = _ := (cell_of_row _ _ 76 _ _ _ G0).trans (WmV.at76 hM.ok)
 have c77 : W0.cell? ⟨w.heap.size, 77, none⟩ = _ := (cell_of_row _ _ 77 _ _ _ G0).trans (WmV.at77 hM.ok)
 have T0 := Lib.hid (tab_belowT htab hx0)
 have X0 := Lib.hid hx0
 obtain ⟨P0, hP0⟩ : ∃ P, P = M.cells := ⟨_, rfl⟩
 rw [← hP0] at hW0 ⊢
 have HW0 := Lib.hid hW0
 clear hW0 hx0 G0 hP0 htab
 clear hM
 have LE : (M.x.ents.length : Int) = (M.ents.length : Int) := by simp [WmV.x]
 have LS : (M.x.subs.length : Int) = (M.subs.length : Int) := by simp [WmV.x]
 by_cases k1 : k = 1
 ·
  rw [show Tl.told k M.x = [Lib.decDigits M.lsn, Lib.itoa M.count, Lib.itoa M.size] from if_pos k1]
  subst k1
  go_enter Tryz.func16, Tryz.ntmps16
  go_wp2_with (rw [← HW0.out]; refine Hid.out ?_)
  refine Lib.hid ?_
  go_wp2_with fail
  refine rg_start (by kernel_rfl) ?_
  refine gD 0 rfl ?_
  simp only [sP]
  refine gS 1 rfl ⟨_, fun w' hx => by have hcx := hx.load c6; (go_simp <;> with_reducible rfl), ?_⟩
  simp only [sP]
  refine gD 3 rfl ?_
  simp only [sP]
  refine gS 4 rfl ⟨_, fun w' hx => by have hcx := hx.load c7; (go_simp <;> with_reducible rfl), ?_⟩
  simp only [sP]
  refine gD 6 rfl ?_
  simp only [sP]
  refine gS 7 rfl ⟨_, fun w' hx => by have hcx := hx.load c40; (go_simp <;> with_reducible rfl), ?_⟩
  simp only [sP]
  refine rg_call 2 (fmtU_any M.lsn h6 _ (tab_belowT T0.out (Ext.drew W0))) rfl (by kernel_rfl) (by rfl) (by go_simp) ?_
  rintro e w2 ⟨rfl, hx2⟩
  refine ⟨_, rfl, hx2, ?_⟩
  simp only [sP]
  refine rg_call 5 (itoa_any M.count h7a h7b _ (tab_belowT (tab_belowT T0.out (Ext.drew W0)) hx2)) rfl (by kernel_rfl) (by rfl) (by go_simp) ?_
  rintro e w5 ⟨rfl, hx5⟩
  refine ⟨_, rfl, hx5, ?_⟩
  simp only [sP]
  refine rg_call 8 (itoa_any M.size h40a h40b _ (tab_belowT (tab_belowT (tab_belowT T0.out (Ext.drew W0)) hx2) hx5)) rfl (by kernel_rfl) (by rfl) (by go_simp) ?_
  rintro e w8 ⟨rfl, hx8⟩
  refine ⟨_, rfl, hx8, ?_⟩
  simp only [sP]
  refine rg_make 9 rfl (by kernel_rfl) (by rfl) ⟨_, _, by (go_simp <;> first | exact ⟨rfl, rfl⟩ | rfl), Ext.alloc _ _, ?_⟩
  simp only [sP]
  refine gD 10 rfl ?_
  simp only [sP]
  refine rg_done (by kernel_rfl) ?_
  go_wp2_with fail
  go_ret
  exact TxL.row [Lib.decDigits M.lsn, Lib.itoa M.count, Lib.itoa M.size] (X0.out.tr ((Ext.drew W0).tr (Ext.tr (Ext.tr hx2 hx5) hx8)))
 by_cases k4 : k = 4
 ·
  have HI := Lib.hid (itoa_any (M.ents.length : Int) (by omega) (by omega) W0 T0.out)
  rw [show Tl.told k M.x = [Lib.itoa (M.ents.length : Int), if M.more = true then [109, 111, 114, 101] else [97, 108, 108]] from (if_neg k1).trans ((if_pos k4).trans (by rw [LE]; rfl))]
  subst k4
  clear k1
  obtain ⟨b, hb⟩ : ∃ b, b = M.more := ⟨_, rfl⟩
  rw [← hb] at c74 ⊢
  clear hb
  cases b
  all_goals
   simp only [Bool.false_eq_true, if_true, if_false]
   go_enter Tryz.func16, Tryz.ntmps16
   go_wp2_with (rw [← HW0.out]; refine Hid.out ?_)
   refine Lib.hid ?_
   go_wp2_with fail
   refine HI.out.mono ?_
   rintro e w1 ⟨rfl, hx1⟩
   go_wp2_with fail
   go_ret
  ·
   exact TxL.row [Lib.itoa (M.ents.length : Int), [97, 108, 108]] (X0.out.tr hx1)
  ·
   exact TxL.row [Lib.itoa (M.ents.length : Int), [109, 111, 114, 101]] (X0.out.tr hx1)
 by_cases k5 : k = 5
 ·
  have HI := Lib.hid (itoa_any (M.sigs.length : Int) (by omega) (by omega) W0 T0.out)
  rw [show Tl.told k M.x = [Lib.itoa (M.sigs.length : Int)] from (if_neg k1).trans ((if_neg k4).trans (if_pos k5))]
  subst k5
  clear k1 k4
  go_enter Tryz.func16, Tryz.ntmps16
  go_wp2_with (rw [← HW0.out]; refine Hid.out ?_)
  refine Lib.hid ?_
  go_wp2_with fail
  refine HI.out.mono ?_
  rintro e w1 ⟨rfl, hx1⟩
  go_wp2_with fail
  go_ret
  exact TxL.row [Lib.itoa (M.sigs.length : Int)] (X0.out.tr hx1)
 by_cases k6 : k = 6
 ·
  have HI := Lib.hid (itoa_any (M.data.length : Int) (by omega) (by omega) W0 T0.out)
  rw [show Tl.told k M.x = [Lib.itoa (M.data.length : Int)] from (if_neg k1).trans ((if_neg k4).trans ((if_neg k5).trans (if_pos k6)))]
  subst k6
  clear k1 k4 k5
  go_enter Tryz.func16, Tryz.ntmps16
  go_wp2_with (rw [← HW0.out]; refine Hid.out ?_)
  refine Lib.hid ?_
  go_wp2_with fail
  refine HI.out.mono ?_
  rintro e w1 ⟨rfl, hx1⟩
  go_wp2_with fail
  go_ret
  exact TxL.row [Lib.itoa (M.data.length : Int)] (X0.out.tr hx1)
 ·
  have HI := Lib.hid (itoa_any (M.subs.length : Int) (by omega) (by omega) W0 T0.out)
  rw [show Tl.told k M.x = [Lib.itoa (M.subs.length : Int)] from (if_neg k1).trans ((if_neg k4).trans ((if_neg k5).trans ((if_neg k6).trans (by rw [LS]))))]
  go_enter Tryz.func16, Tryz.ntmps16
  go_wp2_with (rw [← HW0.out]; refine Hid.out ?_)
  refine Lib.hid ?_
  go_wp2_with fail
  refine HI.out.mono ?_
  rintro e w1 ⟨rfl, hx1⟩
  go_wp2_with fail
  go_ret
  exact TxL.row [Lib.itoa (M.subs.length : Int)] (X0.out.tr hx1)
end Go.Proofs.YtjholekgdnhpkaaGreatDoor
