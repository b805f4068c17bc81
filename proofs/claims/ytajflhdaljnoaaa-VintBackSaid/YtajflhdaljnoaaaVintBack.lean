/- The law that numbers one behind the other are read again (scowlaw01.VintBack). -/
import Derived.Test.YtajflhdaljnoaaaVintLaws
import Derived.Test.YtajflhdaljnoaaaVintPlain
namespace Go.Proofs.Ytajflhdaljnoaaa
open Go.RowKit
attribute [local go_sem] Oper.semAt_some

theorem rdN_at {W : World} {A : Option Addr} {ns : List Nat} (h : Rd W 1 A ns.length (ns.map fun (n : Nat) => Value.int .u64 (n : Int))) {k : Nat} (hk : k < ns.length) :
    ∃ ad, A = some ad ∧ W.cell? (ad.add k) = some (.int .u64 ((ns[k] : Nat) : Int)) := by
  obtain ⟨ad, u, h1, h2, h3⟩ := h.at_ hk
  rw [List.getElem?_map, List.getElem?_eq_getElem hk] at h2
  injection h2 with h2
  exact ⟨ad, h1, by rw [h3, ← h2]⟩
theorem nats_of (zs : List Int) (h : ∀ n ∈ zs, (Lit.int .u64 n).wf = true) : ∃ ns : List Nat, zs = ns.map (fun (n : Nat) => (n : Int)) ∧ ∀ n ∈ ns, n < 18446744073709551616 := by
  induction zs with
  | nil => exact ⟨[], rfl, by simp⟩
  | cons z l ih =>
    obtain ⟨ns, h1, h2⟩ := ih (fun n hn => h n (List.mem_cons_of_mem _ hn))
    obtain ⟨m, h3, h4⟩ := wf_u64 (h z (List.mem_cons_self ..))
    exact ⟨m :: ns, by simp [h1, h3], by
      intro n hn
      rcases List.mem_cons.1 hn with rfl | hn
      · exact h4
      · exact h2 n hn⟩

def puts (ns : List Nat) : List UInt8 := ns.flatMap Vint.put
theorem puts_len (ns : List Nat) : (puts ns).length ≤ 10 * ns.length := by
  induction ns with
  | nil => simp [puts]
  | cons n l ih =>
    have := (Vint.put_len n).2
    simp only [puts, List.flatMap_cons, List.length_append, List.length_cons] at ih ⊢
    omega
theorem puts_snoc (ns : List Nat) (k : Nat) (h : k < ns.length) : puts (ns.take (k + 1)) = puts (ns.take k) ++ Vint.put ns[k] := by
  unfold puts
  rw [List.take_succ_eq_append_getElem h, List.flatMap_append, List.flatMap_singleton]
theorem puts_drop (ns : List Nat) (k : Nat) (h : k < ns.length) : puts (ns.drop k) = Vint.put ns[k] ++ puts (ns.drop (k + 1)) := by
  unfold puts
  rw [List.drop_eq_getElem_cons h, List.flatMap_cons]

set_option maxRecDepth 100000 in
set_option maxHeartbeats 1000000 in
theorem walkVintBack (w : World) (A : Option Addr) (zs : List Int) (cap : Nat) (hR0 : Rd w 1 A zs.length (zs.map (Value.int .u64))) (_hc : zs.length ≤ cap) (hz : ∀ n ∈ zs, (Lit.int .u64 n).wf = true) (B : Option Addr) (rest : List UInt8) (cb : Nat) (hB : RdB w B rest) (_hcb : rest.length ≤ cb) :
    Calls Try.prog 7 #[.slice A zs.length cap, .slice B rest.length cb] w fun e w' => e = .returned (.bool true) ∧ Below w.heap.size w w' := by
  obtain ⟨ns, rfl, hn⟩ := nats_of zs hz
  rw [List.map_map] at hR0
  simp only [List.length_map] at hR0 ⊢
  have hR : Rd w 1 A ns.length (ns.map fun (n : Nat) => Value.int .u64 (n : Int)) := hR0
  clear hR0 hz _hc _hcb
  by_cases hl : ns.length ≤ 100
  · by_cases hm : rest.length ≤ 5000
    · go_enter Try.func7, Try.ntmps7
      go_wp2
      go_loopw [5, 6] (fun s i wr => ∃ (k : Nat) (A1 : Option Addr) (c1 : Nat), k ≤ ns.length ∧ i = .int .i64 k ∧ s = .slice A1 (puts (ns.take k)).length c1 ∧ Own wr w.heap.size 5 1 A1 (puts (ns.take k)).length c1 (bvs (puts (ns.take k))) ∧ Below w.heap.size w wr) (fun _ i _ => ns.length - (intOf i).toNat)
      case atStart => exact ⟨0, none, 0, by omega, rfl, rfl, Own.none_ _ _ _ _ _, Below.refl _ _⟩
      case round =>
        obtain ⟨k, A1, c1, hk, rfl, rfl, ho, hb⟩ := hrel
        by_cases h : k < ns.length
        · obtain ⟨ad, rfl, hcell⟩ := rdN_at (hR.below hb) h
          have hnk := hn _ (List.getElem_mem h)
          have hpl := Vint.put_len ns[k]
          have hsn := Lib.hid (puts_snoc ns k h)
          have hd : (puts (ns.take k)).length ≤ 1000 := by have := puts_len (ns.take k); rw [List.length_take] at this; omega
          generalize ns[k] = n at *
          generalize puts (ns.take k) = d at *
          go_wp2_with fail
          refine (vput_any n hnk wr).mono ?_
          rintro e w1 ⟨A2, c2, rfl, ho2, hb2⟩
          have hb3 := ext_trans hb hb2
          have ho3 := ho.below hb2
          go_wp2_with (at_builtin; refine wpList_app rfl (.tmp 26) (.tmp 31) 23 rfl elemB w.heap.size A1 d.length c1 (bvs d) rfl A2 (Vint.put n).length c2 (bvs (Vint.put n)) rfl (d.length + (Vint.put n).length) rfl (bvs (d ++ Vint.put n)) (bvs_app _ _) ho3 ho2.rd' (bvs_one _) (by omega) (by omega) hb3.size ?_; intro A4 c4 w4 ho4 hg4 hr4)
          have hb4 := below_app hb3 ho3 hg4 hb3.size
          go_roundw
          case rel => exact ⟨k + 1, A4, c4, by omega, by go_num, by rw [hsn.out, List.length_append], by rw [hsn.out, List.length_append]; exact ho4, hb4⟩
          case measure => simp [intOf]; omega
        · obtain rfl : k = ns.length := by omega
          rw [List.take_length] at ho
          rw [List.take_length]
          have hd : (puts ns).length ≤ 1000 := by have := puts_len ns; omega
          obtain ⟨suf, hsuf⟩ : ∃ suf : Nat → List UInt8, ∀ k, suf k = puts (ns.drop k) ++ rest := ⟨_, fun _ => rfl⟩
          have Hsuf := Lib.hid hsuf
          have hs0 := Lib.hid (show suf 0 = puts ns ++ rest by rw [hsuf, List.drop_zero])
          clear hsuf
          have hsl : Hid ((suf 0).length = (puts ns).length + rest.length) := by show _ = _; rw [hs0.out, List.length_append]
          go_wp2_with (at_builtin; refine wpList_app rfl (.tmp 33) (.tmp 34) 23 rfl elemB w.heap.size A1 (puts ns).length c1 (bvs (puts ns)) rfl B rest.length cb (bvs rest) rfl (suf 0).length hsl.out (bvs (suf 0)) (by rw [hs0.out]; exact bvs_app _ _) ho (hB.below hb) (bvs_one _) (by rw [hsl.out]; omega) (by rw [hsl.out]; omega) hb.size ?_; intro A4 c4 w4 ho4 hg4 hr4)
          have hb4 := below_app hb ho hg4 hb.size
          have Ho4 := Lib.hid ho4
          clear ho hb ho4 hg4 hr4 hs0 hsl
          go_loopw [5, 7] (fun s i wr => ∃ (k : Nat) (A1 : Option Addr) (c1 : Nat), k ≤ ns.length ∧ i = .int .i64 k ∧ s = .slice A1 (suf k).length c1 ∧ RdB wr A1 (suf k) ∧ (suf k).length ≤ c1 ∧ Below w.heap.size w wr) (fun _ i _ => ns.length - (intOf i).toNat)
          case atStart => exact ⟨0, A4, c4, by omega, rfl, rfl, Ho4.out.rd', Ho4.out.nc, hb4⟩
          case round =>
            obtain ⟨k, A1, c1, hk, rfl, rfl, hr, hc1, hb⟩ := hrel
            by_cases h : k < ns.length
            · have hnk := hn _ (List.getElem_mem h)
              have hpl := Vint.put_len ns[k]
              have hs := show suf k = Vint.put ns[k] ++ suf (k + 1) by rw [Hsuf.out, Hsuf.out, puts_drop ns k h, List.append_assoc]
              have hget := Lib.hid (show Vint.get (suf k) = (ns[k], (Vint.put ns[k]).length, 0) by rw [hs]; exact Vint.get_put _ hnk _)
              have hlenA : (suf k).length ≤ (Vint.put ns[k]).length + (suf (k + 1)).length := by rw [hs, List.length_append]; omega
              have hlenB : (Vint.put ns[k]).length + (suf (k + 1)).length ≤ (suf k).length := by rw [hs, List.length_append]; omega
              have hdr := Lib.hid (show (suf k).drop (Vint.put ns[k]).length = suf (k + 1) by rw [hs, List.drop_left])
              have Hrd := Lib.hid (fun W (hW : Below w.heap.size w W) => rdN_at (hR.below hW) h)
              clear hs
              generalize ns[k] = n at *
              generalize hQ : (Vint.put n).length = m at *
              clear hQ
              generalize hD : suf k = D at *
              generalize hE : suf (k + 1) = E at *
              go_wp2_with fail
              refine (get_any A1 D c1 wr hr hc1).mono ?_
              rintro e w1 ⟨rfl, hb1⟩
              rw [hget.out]
              simp only [getRes]
              have hb2 := ext_trans hb hb1
              obtain ⟨ad, rfl, hcell⟩ := Hrd.out w1 hb2
              go_wp2_with fail
              refine (num01 _ _).mono ?_
              rintro e w' ⟨rfl, rfl⟩
              have htl := (hr.below hb1).tail (k := m) (by omega) (c := c1) hc1
              rw [hdr.out] at htl
              have Htl := Lib.hid htl
              clear htl
              have Hfin := Lib.hid hE
              clear hD hE
              by_cases hck : c1 = m
              · have h5 := Htl.out
                rw [if_pos hck] at h5
                have hE0 : Hid (E.length = 0) := by show _ = _; omega
                have hDm : Hid (D.length = m) := by show _ = _; omega
                have H5 := Lib.hid h5
                clear h5
                go_wp2
                go_roundw
                case rel => exact ⟨k + 1, A1, 0, by omega, by go_num, by rw [Hfin.out, hE0.out]; first | rfl | simp [hDm.out], by rw [Hfin.out]; exact H5.out, by rw [Hfin.out, hE0.out]; omega, hb2⟩
                case measure => simp [intOf]; omega
              · have h5 := Htl.out
                rw [if_neg hck] at h5
                have hDm : Hid (D.length - m = E.length) := by show _ = _; omega
                have H5 := Lib.hid h5
                clear h5
                go_wp2
                go_roundw
                case rel => exact ⟨k + 1, A1.map (·.add m), c1 - m, by omega, by go_num, by rw [Hfin.out, ← hDm.out], by rw [Hfin.out]; exact H5.out, by rw [Hfin.out]; omega, hb2⟩
                case measure => simp [intOf]; omega
            · obtain rfl : k = ns.length := by omega
              have hsr : suf ns.length = rest := by rw [Hsuf.out, List.drop_length]; rfl
              rw [hsr] at hr hc1
              rw [hsr]
              have r1 := run_str wr 23 9 5 A1 rest c1 Try.underlying23 Try.underlying5 Try.underlying9 hr rest.length rfl
              have r2 := run_str wr 23 9 5 B rest cb Try.underlying23 Try.underlying5 Try.underlying9 (hB.below hb) rest.length rfl
              clear hsr hr
              go_wp2_with fail
              refine (live01 _).mono ?_
              rintro e w3 ⟨rfl, hb3⟩
              go_wp2
              go_ret
              exact ⟨rfl, ext_trans hb hb3⟩
    · go_enter Try.func7, Try.ntmps7
      go_wp2_with fail
      refine (live01 w).mono ?_
      rintro e w3 ⟨rfl, hb3⟩
      go_wp2
      go_ret
      exact ⟨rfl, hb3⟩
  · go_enter Try.func7, Try.ntmps7
    go_wp2_with fail
    refine (live01 w).mono ?_
    rintro e w3 ⟨rfl, hb3⟩
    go_wp2
    go_ret
    exact ⟨rfl, hb3⟩
end Go.Proofs.Ytajflhdaljnoaaa
