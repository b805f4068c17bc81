/- Texts of the proof, laid together: Law Fields WrW. -/
import Derived.Test.YtjholekgdnhpkaaGreatDoorZ1
import Derived.Deep.Slices
import Derived.ProofKit
import Derived.OpenShut
import Derived.ShutString
import Derived.ChangeOld
import Derived.Lib.SmallJoins
import Derived.Deep.Fields
import Derived.ChangeSame
import Derived.Test.YtjholekgdnhpkaaGreatDoorZ30
set_option linter.unusedVariables false
set_option linter.unusedSimpArgs false
set_option linter.unusedSectionVars false
namespace Go.Proofs.YtjholekgdnhpkaaGreatDoor
open Go.ChangeShapes Go.WideShapes Go.ChangeAt Go.RowKit
theorem wf_u8 {n : Int} (h : (Lit.int .u8 n).wf = true) : 0 ≤ n ∧ n < 256 := by
 simp [Lit.wf, IntKind.min, IntKind.max, IntKind.bits, IntKind.signed] at h
 omega
section
variable {H : Type} {enc : TypeId × Value → H} {P : Program} {W : World} {base : Nat} {spare : Nat → Bool} {held : Bool} {t e : TypeId} {a : Option Addr} {len cap : Nat} {d : DataW H} {p : List MemPlace}
theorem open_bytesB (hu : P.underlying t = some (.slice e)) (he : P.underlying e = some (.int .u8)) (hc : P.cellsOf e = 1) (h : DataW.Trod enc P W base spare held t (.slice a len cap) d p) :
  ∃ bs : List UInt8, len = bs.length ∧ RdB W a bs ∧ bs.length ≤ cap := by
 obtain ⟨fuel, hf⟩ := h
 rcases open_ints hu he hc hf with ⟨hcs, _⟩ | ⟨x, l, c, zs, hcs, _, hl, hm, hz, _, hcell, hwz⟩
 ·
  simp [Value.cells] at hcs
  obtain ⟨rfl, rfl, rfl⟩ := hcs
  exact ⟨[], rfl, RdB.nil_ _ _, Nat.le_refl _⟩
 ·
  simp [Value.cells] at hcs
  obtain ⟨rfl, rfl, rfl⟩ := hcs
  have hlz : len ≤ zs.length := by rw [hz]; split <;> omega
  have hlen : ((zs.take len).map fun n => UInt8.ofNat n.toNat).length = len := by simp; omega
  refine ⟨(zs.take len).map fun n => UInt8.ofNat n.toNat, hlen.symm, ⟨by rw [bvs_len]; omega, fun _ => ⟨x, rfl, fun j u hj => ?_⟩⟩, by omega⟩
  have hj' : j < len := by
   rcases Nat.lt_or_ge j len with h' | h'
   ·
    exact h'
   ·
    rw [List.getElem?_eq_none (by rw [bvs_len]; omega)] at hj; cases hj
  rw [bvs_get _ _ (by omega)] at hj
  injection hj with hj
  rw [hcell j (by omega), ← hj]
  have hg : zs.getD j 0 = zs[j]'(by omega) := by simp [List.getD, List.getElem?_eq_getElem (show j < zs.length by omega)]
  have hw := wf_u8 (hwz (zs[j]'(by omega)) (List.getElem_mem _))
  rw [hg]
  simp only [bv, List.getElem_map, List.getElem_take, Option.some.injEq, Value.int.injEq, true_and]
  rw [UInt8.toNat_ofNat', Nat.mod_eq_of_lt (by omega)]
  omega
theorem list_of {α : Type} (m : Nat) (R : Nat → α → Prop) (h : ∀ r, r < m → ∃ s, R r s) : ∃ l : List α, l.length = m ∧ ∀ r (hr : r < l.length), R r l[r] := by
 induction m with
 | zero => exact ⟨[], rfl, fun r hr => absurd hr (by simp)⟩
 | succ m ih =>
  obtain ⟨l, hl, hR⟩ := ih (fun r hr => h r (by omega))
  obtain ⟨s, hs⟩ := h m (by omega)
  refine ⟨l ++ [s], by simp [hl], fun r hr => ?_⟩
  by_cases hrm : r < l.length
  ·
   rw [List.getElem_append_left hrm]; exact hR r hrm
  ·
   have : r = l.length := by simp at hr; omega
   subst this
   simp only [List.getElem_concat_length]
   rw [hl]; exact hs
end
end Go.Proofs.YtjholekgdnhpkaaGreatDoor
namespace Go.Proofs.YtjholekgdnhpkaaGreatDoor
open Go.Joins Go.ChangeShapes Go.WideShapes Go.RowKit Go.Deep Go.ChangeAt
section
variable {H : Type} {enc : TypeId × Value → H} {P : Program} {w : World} {base : Nat} {spare : Nat → Bool} {held : Bool}
theorem fields_read {t : TypeId} {fs : Array Field} {fuel : Nat} {cs : List Value} {x : DataW H × List MemPlace} (hs : P.underlying t = some (.struct fs)) (hone : oneCellFields P fs = true)
  (h : DataW.trod enc P w base spare held fuel t cs = some x) (j : Nat) (f : Field) (c : Value) (hj : fs[j]? = some f) (hc : cs[j]? = some c) :
  ∃ n y, DataW.trod enc P w base spare held n f.type [c] = some y := by
 obtain ⟨ys, n, _, _, _, hyl, hf⟩ := DataW.trod_struct hs h
 obtain ⟨ho, hk⟩ := hone_of hone j f hj
 have h1 := hf j f hj
 rw [ho, hk] at h1
 have hjl : j < fs.size := (Array.getElem?_eq_some_iff.1 hj).1
 obtain ⟨hcl, hce⟩ := List.getElem?_eq_some_iff.1 hc
 rw [show (cs.drop j).take 1 = [c] by rw [List.drop_eq_getElem_cons hcl, hce]; rfl] at h1
 exact ⟨n, ys[j]'(by omega), h1.trans (List.getElem?_eq_getElem (by omega))⟩
theorem read_int {t : TypeId} {k : IntKind} (hu : P.underlying t = some (.int k)) {c : Value} (h : ∃ n y, DataW.trod enc P w base spare held n t [c] = some y) : ∃ x, c = .int k x ∧ (Lit.int k x).wf = true := by
 obtain ⟨n, y, h⟩ := h
 obtain ⟨x, e, _, wx⟩ := DataW.trod_int hu h
 simp at e
 exact ⟨x, e, wx⟩
theorem read_u32 {t : TypeId} (hu : P.underlying t = some (.int .u32)) {c : Value} (h : ∃ n y, DataW.trod enc P w base spare held n t [c] = some y) : ∃ x : Nat, c = .int .u32 (x : Int) ∧ x < 4294967296 := by
 obtain ⟨x, rfl, wx⟩ := read_int hu h
 simp [Lit.wf, IntKind.min, IntKind.max, IntKind.bits, IntKind.signed] at wx
 exact ⟨x.toNat, by rw [Int.toNat_of_nonneg wx.1], by omega⟩
theorem read_u64 {t : TypeId} (hu : P.underlying t = some (.int .u64)) {c : Value} (h : ∃ n y, DataW.trod enc P w base spare held n t [c] = some y) : ∃ x : Nat, c = .int .u64 (x : Int) ∧ x < 18446744073709551616 := by
 obtain ⟨x, rfl, wx⟩ := read_int hu h
 simp [Lit.wf, IntKind.min, IntKind.max, IntKind.bits, IntKind.signed] at wx
 exact ⟨x.toNat, by rw [Int.toNat_of_nonneg wx.1], by omega⟩
theorem read_i64 {t : TypeId} (hu : P.underlying t = some (.int .i64)) {c : Value} (h : ∃ n y, DataW.trod enc P w base spare held n t [c] = some y) : ∃ x : Int, c = .int .i64 x ∧ -9223372036854775808 ≤ x ∧ x ≤ 9223372036854775807 := by
 obtain ⟨x, rfl, wx⟩ := read_int hu h
 simp [Lit.wf, IntKind.min, IntKind.max, IntKind.bits, IntKind.signed] at wx
 exact ⟨x, rfl, by omega, by omega⟩
theorem read_bytes {t e : TypeId} (hu : P.underlying t = some (.slice e)) (he : P.underlying e = some (.int .u8)) (hc : P.cellsOf e = 1) {c : Value} (h : ∃ n y, DataW.trod enc P w base spare held n t [c] = some y) :
  ∃ A bs cap, c = .slice A (bs : List UInt8).length cap ∧ RdB w A bs ∧ bs.length ≤ cap := by
 obtain ⟨n, y, h⟩ := h
 have hsl : ∃ a len cap, c = .slice a len cap := by
  rcases open_ints hu he hc h with ⟨hcs, _⟩ | ⟨a, l, c, zs, hcs, _⟩
  ·
   simp at hcs; exact ⟨_, _, _, hcs⟩
  ·
   simp at hcs; exact ⟨_, _, _, hcs⟩
 obtain ⟨a, len, cap, rfl⟩ := hsl
 obtain ⟨bs, rfl, hr, hl⟩ := open_bytesB (enc := enc) (base := base) (spare := spare) (held := held) (d := y.1) (p := y.2) hu he hc ⟨n, by simpa [Value.cells] using h⟩
 exact ⟨a, bs, cap, rfl, hr, hl⟩
end
end Go.Proofs.YtjholekgdnhpkaaGreatDoor
namespace Go.Proofs.YtjholekgdnhpkaaGreatDoor
open Go.RowKit
section
open Go.ChangeShapes Go.WideShapes Go.ChangeAt Go.Joins
variable {H : Type} {enc : TypeId × Value → H} {W : World} {base : Nat} {spare : Nat → Bool} {held : Bool} {d : DataW H} {p : List MemPlace}
def byteOfW : Value → UInt8
 | .int _ z => UInt8.ofNat z.toNat
 | _ => 0
theorem read_arrW {P : Program} {n k : Nat} {t e : TypeId} {cs : List Value} {y : DataW H × List MemPlace} (hu : P.underlying t = some (.array n e)) (he : P.underlying e = some (.int .u8)) (hce : P.cellsOf e = 1) (hsz : cs.length = n)
  (h : DataW.trod enc P W base spare held k t cs = some y) : ∃ l : List UInt8, cs = bvs l ∧ l.length = n := by
 obtain ⟨ys, m, _, _, _, hyl, hat⟩ := DataW.trod_array hu h
 refine ⟨cs.map byteOfW, ?_, by simp [hsz]⟩
 simp only [bvs, List.map_map]
 apply List.ext_getElem (by simp)
 intro i h3 h4
 have hi : i < n := by simpa [hsz] using h3
 have h5 := hat i hi
 rw [hce, List.getElem?_eq_getElem (by omega)] at h5
 simp only [Nat.mul_one] at h5
 obtain ⟨z, e1, _, wf⟩ := DataW.trod_int he h5
 have h6 : cs[i]'h3 = .int .u8 z := by
  rw [List.drop_eq_getElem_cons h3] at e1
  simp only [List.take_succ_cons, List.take_zero, List.cons.injEq, and_true] at e1
  exact e1
 have hn := wf_u8 wf
 simp only [List.getElem_map, Function.comp_apply, h6, byteOfW, bv, UInt8.toNat_ofNat', Value.int.injEq, true_and]
 omega
theorem read_listW {α : Type} (cl : α → List Value) (s : Nat) (ok : α → Prop) {t e : TypeId} (hs : 0 < s) (ut : Tryz.prog.underlying t = some (.slice e)) (ce : Tryz.prog.cellsOf e = s) (hlen : ∀ x, ok x → (cl x).length = s)
  (each : ∀ (k : Nat) (cs : List Value) (y : DataW H × List MemPlace), cs.length = s → DataW.trod enc Tryz.prog W base spare held k e cs = some y → ∃ x, cs = cl x ∧ ok x)
  {c : Value} (h : ∃ n y, DataW.trod enc Tryz.prog W base spare held n t [c] = some y) :
  ∃ A l cap, c = .slice A (l : List α).length cap ∧ Rd W s A l.length (l.flatMap cl) ∧ (∀ x ∈ l, ok x) ∧ l.length ≤ cap := by
 obtain ⟨fuel, y, hf⟩ := h
 rcases Deep.open_slice ut hf with ⟨hcs, _⟩ | ⟨x, len, cap, m, n, D, Pl, hcs, hb, hl, hm, hmm, hx, hel⟩
 ·
  simp at hcs
  subst hcs
  exact ⟨none, [], 0, rfl, Rd.nil_ _ _ _, by simp, Nat.le_refl _⟩
 ·
  simp at hcs
  subst hcs
  have hlm : len ≤ m := by rw [hmm]; split <;> omega
  have each2 : ∀ r, r < len → ∃ e : α, (∀ j u, (cl e)[j]? = some u → W.cell? (x.add (r * s + j)) = some u) ∧ ok e := by
   intro r hr
   obtain ⟨cs, h0, h1⟩ := hel r (by omega)
   rw [ce] at h0
   obtain ⟨_, hlen2, hcell⟩ := World.cells?_some h0
   obtain ⟨q, rfl, hin⟩ := each _ _ _ hlen2 h1
   refine ⟨q, fun j u hj => ?_, hin⟩
   have hj2 : j < s := by
    have := (List.getElem?_eq_some_iff.1 hj).1
    rwa [hlen q hin] at this
   have h2 := hcell j hj2
   rw [← add_add', h2]
   exact hj
  obtain ⟨l, hll, hR⟩ := list_of len _ each2
  have hin : ∀ e ∈ l, ok e := fun e he => by
   obtain ⟨j, hj', rfl⟩ := List.getElem_of_mem he
   exact (hR j hj').2
  have hls : ∀ e ∈ l, (cl e).length = s := fun e he => hlen e (hin e he)
  refine ⟨some x, l, cap, by rw [hll], ⟨flat_len _ s l hls, fun _ => ⟨x, rfl, fun j u hj => ?_⟩⟩, hin, by omega⟩
  have hjl : j < l.length * s := by rw [← flat_len cl s l hls]; exact (List.getElem?_eq_some_iff.1 hj).1
  have hk : j / s < l.length := Nat.div_lt_of_lt_mul (by rw [Nat.mul_comm]; exact hjl)
  have h2 : j % s < s := Nat.mod_lt _ hs
  have hjj : j = j / s * s + j % s := by rw [Nat.mul_comm]; exact (Nat.div_add_mod j s).symm
  rw [hjj, flat_at _ s l hls _ hk _ h2] at hj
  rw [hjj]
  exact (hR (j / s) hk).1 (j % s) u hj
set_option maxRecDepth 20000 in
theorem read_EntW (k : Nat) (cs : List Value) (y : DataW H × List MemPlace) (hsz : cs.length = 2) (hf : DataW.trod enc Tryz.prog W base spare held k 40 cs = some y) : ∃ q : EnV, cs = q.cells.toList ∧ q.In W := by
 have hr := fun j f c => fields_read (j := j) (f := f) (c := c) Tryz.underlying40 (by kernel_rfl) hf
 match cs, hsz with
 | [c0, c1], _ =>
  obtain ⟨ka, key, kc, rfl, hkr, hkc⟩ := read_bytes Tryz.underlying23 Tryz.underlying5 (by kernel_rfl) (hr 0 _ _ rfl rfl)
  obtain ⟨va, val, vc, rfl, hvr, hvc⟩ := read_bytes Tryz.underlying23 Tryz.underlying5 (by kernel_rfl) (hr 1 _ _ rfl rfl)
  exact ⟨⟨ka, kc, va, vc, ⟨key, val⟩⟩, rfl, ⟨hkr, hvr, hkc, hvc⟩⟩
set_option maxRecDepth 20000 in
theorem read_SigW (k : Nat) (cs : List Value) (y : DataW H × List MemPlace) (hsz : cs.length = 33) (hf : DataW.trod enc Tryz.prog W base spare held k 65 cs = some y) : ∃ s : Wg, cs = s.cl ∧ s.Ok := by
 obtain ⟨ys, n, _, _, _, hyl, hfs⟩ := DataW.trod_struct Tryz.underlying65 hf
 have h0 := hfs 0 _ rfl
 have h1 := hfs 1 _ rfl
 have hy : ys.length = 2 := hyl
 rw [List.getElem?_eq_getElem (by omega)] at h0 h1
 match cs, hsz with
 | c0 :: rest, hsz =>
  have hr : rest.length = 32 := by simpa using hsz
  obtain ⟨x, rfl, hx⟩ := read_u32 Tryz.underlying22 ⟨_, _, h0⟩
  obtain ⟨s, hs, hsl⟩ := read_arrW Tryz.underlying26 Tryz.underlying5 (by kernel_rfl) (by show (List.take 32 rest).length = 32; rw [List.length_take]; omega) h1
  have hs2 : rest = bvs s := by
   rw [← hs]
   show rest = List.take 32 rest
   rw [List.take_of_length_le (by omega)]
  subst hs2
  exact ⟨⟨x, s⟩, rfl, ⟨hx, hsl⟩⟩
set_option maxRecDepth 20000 in
theorem read_PartW (k : Nat) (cs : List Value) (y : DataW H × List MemPlace) (hsz : cs.length = 35) (hf : DataW.trod enc Tryz.prog W base spare held k 36 cs = some y) : ∃ q : PtV, cs = q.cells.toList ∧ q.In W := by
 obtain ⟨ys, n, _, _, _, hyl, hfs⟩ := DataW.trod_struct Tryz.underlying36 hf
 have h0 := hfs 0 _ rfl
 have h1 := hfs 1 _ rfl
 have h2 := hfs 2 _ rfl
 have h3 := hfs 3 _ rfl
 have hy : ys.length = 4 := hyl
 rw [List.getElem?_eq_getElem (by omega)] at h0 h1 h2 h3
 match cs, hsz with
 | c0 :: c1 :: c2 :: rest, hsz =>
  have hr : rest.length = 32 := by simpa using hsz
  obtain ⟨la, lo, lc, rfl, hlr, hlc⟩ := read_bytes Tryz.underlying23 Tryz.underlying5 (by kernel_rfl) ⟨_, _, h0⟩
  obtain ⟨ha, hi, hc, rfl, hhr, hhc⟩ := read_bytes Tryz.underlying23 Tryz.underlying5 (by kernel_rfl) ⟨_, _, h1⟩
  obtain ⟨count, rfl, hc1, hc2⟩ := read_i64 Tryz.underlying3 ⟨_, _, h2⟩
  obtain ⟨s, hs, hsl⟩ := read_arrW Tryz.underlying26 Tryz.underlying5 (by kernel_rfl) (by show (List.take 32 rest).length = 32; rw [List.length_take]; omega) h3
  have hs2 : rest = bvs s := by
   rw [← hs]
   show rest = List.take 32 rest
   rw [List.take_of_length_le (by omega)]
  subst hs2
  refine ⟨⟨la, lc, ha, hc, ⟨lo, hi, count, s⟩⟩, ?_, ⟨hlr, hhr, hlc, hhc, hsl, hc1, hc2⟩⟩
  simp [PtV.cells]
set_option maxRecDepth 20000 in
theorem read_SubW (k : Nat) (cs : List Value) (y : DataW H × List MemPlace) (hsz : cs.length = 36) (hf : DataW.trod enc Tryz.prog W base spare held k 38 cs = some y) : ∃ q : WsV, cs = q.cl ∧ q.In W := by
 obtain ⟨ys, n, _, _, _, hyl, hfs⟩ := DataW.trod_struct Tryz.underlying38 hf
 have h0 := hfs 0 _ rfl
 have h1 := hfs 1 _ rfl
 have hy : ys.length = 2 := hyl
 rw [List.getElem?_eq_getElem (by omega)] at h0 h1
 obtain ⟨S, c, hS, rfl⟩ : ∃ (S : List Value) (c : Value), S.length = 35 ∧ cs = S ++ [c] := ⟨cs.take 35, cs[35], by rw [List.length_take]; omega, by
  conv => lhs; rw [← List.take_append_drop 35 cs]
  congr 1
  rw [List.drop_eq_getElem_cons (by omega), List.drop_of_length_le (by omega)]⟩
 have h0' : DataW.trod enc Tryz.prog W base spare held n 36 (((S ++ [c]).drop 0).take 35) = some ys[0] := h0
 have h1' : DataW.trod enc Tryz.prog W base spare held n 24 (((S ++ [c]).drop 35).take 1) = some ys[1] := h1
 rw [List.drop_zero, ← hS, List.take_left] at h0'
 rw [← hS, List.drop_left] at h1'
 obtain ⟨q, rfl, hin⟩ := read_PartW _ _ _ hS h0'
 obtain ⟨lsn, rfl, hl⟩ := read_u64 Tryz.underlying24 ⟨_, _, h1'⟩
 refine ⟨⟨q, lsn⟩, ?_, ⟨hin, hl⟩⟩
 simp [WsV.cl, PtV.cells]
theorem read_boolW {t : TypeId} (hu : Tryz.prog.underlying t = some .bool) {c : Value} (h : ∃ n y, DataW.trod enc Tryz.prog W base spare held n t [c] = some y) : ∃ b, c = .bool b := by
 obtain ⟨n, y, h⟩ := h
 obtain ⟨b, e, _⟩ := DataW.trod_bool hu h
 simp at e
 exact ⟨b, e⟩
set_option maxRecDepth 20000 in
theorem cut_msg (l : List Value) (h : l.length = 78) : ∃ (c0 c1 c2 c3 c4 c5 c6 c7 : Value) (S : List Value) (z : Value) (F : List Value) (s0 s1 s2 s3 s4 : Value), S.length = 32 ∧ F.length = 32 ∧ l = c0 :: c1 :: c2 :: c3 :: c4 :: c5 :: c6 :: c7 :: (S ++ (z :: (F ++ [s0, s1, s2, s3, s4]))) := by
 match l, h with
 | c0 :: c1 :: c2 :: c3 :: c4 :: c5 :: c6 :: c7 :: r, h =>
  have hr : r.length = 70 := by simpa using h
  have e1 : r = r.take 32 ++ r.drop 32 := (List.take_append_drop 32 r).symm
  have h2 : (r.drop 32).length = 38 := by rw [List.length_drop]; omega
  match hq : r.drop 32, h2 with
  | z :: q, h2 =>
   have hq2 : q.length = 37 := by simpa using h2
   have e2 : q = q.take 32 ++ q.drop 32 := (List.take_append_drop 32 q).symm
   have h3 : (q.drop 32).length = 5 := by rw [List.length_drop]; omega
   match hu : q.drop 32, h3 with
   | [s0, s1, s2, s3, s4], _ =>
    refine ⟨c0, c1, c2, c3, c4, c5, c6, c7, r.take 32, z, q.take 32, s0, s1, s2, s3, s4, by rw [List.length_take]; omega, by rw [List.length_take]; omega, ?_⟩
    rw [← hu, ← e2, ← hq, ← e1]
set_option maxRecDepth 20000 in
theorem open_Msg {r : Reach} {b0 : Nat} {v : Value} (hv : Value.okWide Tryz.prog W r b0 31 v) (h : DataW.Trod enc Tryz.prog W base spare held 31 v d p) : ∃ q : WmV, v = .agg q.cells ∧ q.In W := by
 obtain ⟨cs, rfl, hsz⟩ := okWide_struct Tryz.underlying31 hv
 have hsz : cs.toList.length = 78 := by rw [Array.length_toList, hsz]; kernel_rfl
 obtain ⟨fuel, hf⟩ := h
 have hf : DataW.trod enc Tryz.prog W base spare held fuel 31 cs.toList = some (d, p) := by simpa [Value.cells] using hf
 have ecs : cs = cs.toList.toArray := by simp
 rw [ecs]
 generalize cs.toList = l at hf hsz ⊢
 obtain ⟨ys, n, _, _, _, hyl, hfs⟩ := DataW.trod_struct Tryz.underlying31 hf
 have hy : ys.length = 16 := hyl
 obtain ⟨c0, c1, c2, c3, c4, c5, c6, c7, S, z, F, s0, s1, s2, s3, s4, hS, hF, hl⟩ := cut_msg l hsz
 have g : ∀ (j off k : Nat) (t : TypeId) (X : List Value) (f : Field), j < 16 → (Tryz.prog.fieldsOf 31)[j]? = some f → f.type = t → f.offset = off → Tryz.prog.cellsOf t = k → (l.drop off).take k = X → ∃ n y, DataW.trod enc Tryz.prog W base spare held n t X = some y := by
  rintro j off k t X f hj hf rfl rfl rfl rfl
  exact ⟨n, ys[j]'(by omega), (hfs j f hf).trans (List.getElem?_eq_getElem (by omega))⟩
 have q0 := g 0 0 1 3 [c0] _ (by omega) (by rfl) rfl rfl (by kernel_rfl) (by rw [hl]; rfl)
 have q1 := g 1 1 1 22 [c1] _ (by omega) (by rfl) rfl rfl (by kernel_rfl) (by rw [hl]; rfl)
 have q2 := g 2 2 1 22 [c2] _ (by omega) (by rfl) rfl rfl (by kernel_rfl) (by rw [hl]; rfl)
 have q3 := g 3 3 1 23 [c3] _ (by omega) (by rfl) rfl rfl (by kernel_rfl) (by rw [hl]; rfl)
 have q4 := g 4 4 1 23 [c4] _ (by omega) (by rfl) rfl rfl (by kernel_rfl) (by rw [hl]; rfl)
 have q5 := g 5 5 1 3 [c5] _ (by omega) (by rfl) rfl rfl (by kernel_rfl) (by rw [hl]; rfl)
 have q6 := g 6 6 1 24 [c6] _ (by omega) (by rfl) rfl rfl (by kernel_rfl) (by rw [hl]; rfl)
 have q7 := g 7 7 1 3 [c7] _ (by omega) (by rfl) rfl rfl (by kernel_rfl) (by rw [hl]; rfl)
 have d8 : l.drop 8 = S ++ (z :: (F ++ [s0, s1, s2, s3, s4])) := by rw [hl]; rfl
 have d40 : l.drop 40 = z :: (F ++ [s0, s1, s2, s3, s4]) := by rw [show (40 : Nat) = 8 + 32 from rfl, ← List.drop_drop, d8, ← hS, List.drop_left]
 have d41 : l.drop 41 = F ++ [s0, s1, s2, s3, s4] := by rw [show (41 : Nat) = 40 + 1 from rfl, ← List.drop_drop, d40]; rfl
 have d73 : l.drop 73 = [s0, s1, s2, s3, s4] := by rw [show (73 : Nat) = 41 + 32 from rfl, ← List.drop_drop, d41, ← hF, List.drop_left]
 have dN : ∀ j, l.drop (73 + j) = [s0, s1, s2, s3, s4].drop j := fun j => by rw [← List.drop_drop, d73]
 have q8 := g 8 8 32 26 S _ (by omega) (by rfl) rfl rfl (by kernel_rfl) (by rw [d8, ← hS, List.take_left])
 have q9 := g 9 40 1 3 [z] _ (by omega) (by rfl) rfl rfl (by kernel_rfl) (by rw [d40]; rfl)
 have q10 := g 10 41 32 26 F _ (by omega) (by rfl) rfl rfl (by kernel_rfl) (by rw [d41, ← hF, List.take_left])
 have q11 := g 11 73 1 27 [s0] _ (by omega) (by rfl) rfl rfl (by kernel_rfl) (by rw [d73]; rfl)
 have q12 := g 12 74 1 4 [s1] _ (by omega) (by rfl) rfl rfl (by kernel_rfl) (by rw [dN 1]; rfl)
 have q13 := g 13 75 1 28 [s2] _ (by omega) (by rfl) rfl rfl (by kernel_rfl) (by rw [dN 2]; rfl)
 have q14 := g 14 76 1 29 [s3] _ (by omega) (by rfl) rfl rfl (by kernel_rfl) (by rw [dN 3]; rfl)
 have q15 := g 15 77 1 23 [s4] _ (by omega) (by rfl) rfl rfl (by kernel_rfl) (by rw [dN 4]; rfl)
 obtain ⟨kind, rfl, k1, k2⟩ := read_i64 Tryz.underlying3 q0
 obtain ⟨session, rfl, hse⟩ := read_u32 Tryz.underlying22 q1
 obtain ⟨seq, rfl, hsq⟩ := read_u32 Tryz.underlying22 q2
 obtain ⟨la, lo, lc, rfl, hlr, hlc⟩ := read_bytes Tryz.underlying23 Tryz.underlying5 (by kernel_rfl) q3
 obtain ⟨ha, hi, hc, rfl, hhr, hhc⟩ := read_bytes Tryz.underlying23 Tryz.underlying5 (by kernel_rfl) q4
 obtain ⟨nn, rfl, n1, n2⟩ := read_i64 Tryz.underlying3 q5
 obtain ⟨lsn, rfl, hls⟩ := read_u64 Tryz.underlying24 q6
 obtain ⟨count, rfl, t1, t2⟩ := read_i64 Tryz.underlying3 q7
 obtain ⟨_, _, q8⟩ := q8
 obtain ⟨sum, rfl, hsum⟩ := read_arrW Tryz.underlying26 Tryz.underlying5 (by kernel_rfl) hS q8
 obtain ⟨size, rfl, z1, z2⟩ := read_i64 Tryz.underlying3 q9
 obtain ⟨_, _, q10⟩ := q10
 obtain ⟨file, rfl, hfile⟩ := read_arrW Tryz.underlying26 Tryz.underlying5 (by kernel_rfl) hF q10
 obtain ⟨sa, subs, sc, rfl, hsr, hse2, hsc⟩ := read_listW WsV.cl 36 (fun q => q.In W) (by omega) Tryz.underlying27 (by kernel_rfl) (fun q hq => WsV.cl_len hq.p.sum) read_SubW q11
 obtain ⟨more, rfl⟩ := read_boolW Tryz.underlying4 q12
 obtain ⟨ea, ents, ec, rfl, her, hee, hec⟩ := read_listW (fun q : EnV => q.cells.toList) 2 (fun q => q.In W) (by omega) Tryz.underlying28 (by kernel_rfl) (fun q _ => rfl) read_EntW q13
 obtain ⟨ga, sigs, gc, rfl, hgr, hge, hgc⟩ := read_listW Wg.cl 33 (fun q => q.Ok) (by omega) Tryz.underlying29 (by kernel_rfl) (fun q hq => Wg.cl_len hq) read_SigW q14
 obtain ⟨da, data, dc, rfl, hdr, hdc⟩ := read_bytes Tryz.underlying23 Tryz.underlying5 (by kernel_rfl) q15
 exact ⟨⟨kind, session, seq, la, lc, lo, ha, hc, hi, nn, lsn, count, sum, size, file, sa, sc, subs, more, ea, ec, ents, ga, gc, sigs, da, dc, data⟩, by rw [hl]; rfl,
  ⟨⟨k1, k2, hse, hsq, n1, n2, hls, t1, t2, hsum, z1, z2, hfile, hlc, hhc, hsc, hec, hgc, hdc⟩, hlr, hhr, ⟨hsr, hse2⟩, ⟨her, hee⟩, ⟨hgr, hge⟩, hdr⟩⟩
end
end Go.Proofs.YtjholekgdnhpkaaGreatDoor
