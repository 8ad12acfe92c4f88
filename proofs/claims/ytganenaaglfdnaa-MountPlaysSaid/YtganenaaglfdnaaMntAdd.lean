/- What the product's Add returns: Ns.add. Conditions: the slice holds the given mounts; at most 10^5 mounts, each of at most 10^5 targets; the flag is an int. -/
import Derived.Test.YtganenaaglfdnaaMntRCut
import Derived.Test.YtganenaaglfdnaaBits64
import Derived.Deep.DeepCutAuto
set_option linter.unusedVariables false
set_option linter.unusedSimpArgs false
namespace Go.Proofs.Ytganenaaglfdnaa
open Go.RowKit
/-- The flag without its create bit. -/
theorem how_big (n : Nat) (h : n < 9223372036854775808) (h8 : 8 ≤ n) : 8 ≤ n &&& (18446744073709551615 - 4) := by
  have e : (n &&& (18446744073709551615 - 4)) >>> 3 = n >>> 3 := by
    rw [Nat.shiftRight_and_distrib]
    have : (18446744073709551615 - 4) >>> 3 = 2 ^ 61 - 1 := by decide
    rw [this, Nat.and_two_pow_sub_one_eq_mod]
    apply Nat.mod_eq_of_lt
    rw [Nat.shiftRight_eq_div_pow]; omega
  rw [Nat.shiftRight_eq_div_pow, Nat.shiftRight_eq_div_pow] at e
  omega
theorem how_bad {f : Int} (h0 : 0 ≤ f) (h1 : f ≤ 9223372036854775807) (hb : 6 < f ∨ f = 3) : 2 < bits .andNot .i64 f 4 := by
  obtain ⟨n, rfl⟩ := Int.eq_ofNat_of_zero_le h0
  have := i64_andNot_nat n 4 (by omega) (by omega)
  rw [show ((4 : Nat) : Int) = 4 from rfl] at this
  rw [this]
  rcases Nat.lt_or_ge n 8 with h | h
  · have : n = 3 ∨ n = 7 := by omega
    rcases this with rfl | rfl <;> decide
  · have := how_big n (by omega) h
    omega
theorem how_good {f : Int} (h0 : 0 ≤ f) (h6 : f ≤ 6) (h3 : f ≠ 3) : bits .andNot .i64 f 4 = f % 4 ∧ f % 4 ≤ 2 ∧ (bits .and .i64 f 4 != 0) = decide (4 ≤ f) := by
  have : f = 0 ∨ f = 1 ∨ f = 2 ∨ f = 4 ∨ f = 5 ∨ f = 6 := by omega
  rcases this with rfl | rfl | rfl | rfl | rfl | rfl <;> exact ⟨by decide, by decide, by decide⟩
theorem tgts_none {W : World} {ao : Option Addr} {n c : Nat} {l : List Tgt} (h : Tgts W (.slice ao n c) l) (h0 : ao = none) : l.length = 0 ∧ c = 0 := by
  obtain ⟨ao', cap', e, hc, hn, hcell⟩ := h
  cases e
  have := hn h0
  exact ⟨by omega, this⟩
theorem tgts_cell {W : World} {ao : Option Addr} {n c : Nat} {l : List Tgt} (h : Tgts W (.slice ao n c) l) {a : Addr} (h0 : ao = some a) (j : Nat) (u : Value) (hu : (fl tge l)[j]? = some u) : W.cell? (a.add j) = some u := by
  subst h0; exact (h.cells j u hu).1
namespace Ns
theorem add_mode {ms : List Mnt} {old c : Chn} {flag : Int} (h : flag < 0 ∨ 6 < flag ∨ flag = 3) : add ms old c flag = (ms, 12) := by unfold add; rw [if_pos h]
theorem add_arg {ms : List Mnt} {old c : Chn} {flag : Int} (h : ¬ (flag < 0 ∨ 6 < flag ∨ flag = 3)) (h2 : valid old = false ∨ valid c = false) : add ms old c flag = (ms, 1) := by unfold add; rw [if_neg h, if_pos h2]
theorem add_exist {ms : List Mnt} {old c : Chn} {flag : Int} (h : ¬ (flag < 0 ∨ 6 < flag ∨ flag = 3)) (h2 : ¬ (valid old = false ∨ valid c = false)) (h3 : flag % 4 ≠ 0 ∧ 0 ≤ elem (base ms old) c) : add ms old c flag = (ms, 7) := by unfold add; rw [if_neg h, if_neg h2, if_pos h3]
theorem add_full {ms : List Mnt} {old c : Chn} {flag : Int} (h : ¬ (flag < 0 ∨ 6 < flag ∨ flag = 3)) (h2 : ¬ (valid old = false ∨ valid c = false)) (h3 : ¬ (flag % 4 ≠ 0 ∧ 0 ≤ elem (base ms old) c)) (h4 : (flag % 4 ≠ 0 ∧ 16 ≤ (base ms old).length) ∨ (find ms old < 0 ∧ 64 ≤ ms.length)) : add ms old c flag = (ms, 22) := by
  unfold add; rw [if_neg h, if_neg h2, if_neg h3, if_pos h4]
theorem add_done {ms : List Mnt} {old c : Chn} {flag : Int} (h : ¬ (flag < 0 ∨ 6 < flag ∨ flag = 3)) (h2 : ¬ (valid old = false ∨ valid c = false)) (h3 : ¬ (flag % 4 ≠ 0 ∧ 0 ≤ elem (base ms old) c)) (h4 : ¬ ((flag % 4 ≠ 0 ∧ 16 ≤ (base ms old).length) ∨ (find ms old < 0 ∧ 64 ≤ ms.length))) :
    add ms old c flag = (put ms old (next (base ms old) ⟨c, decide (4 ≤ flag)⟩ flag), 0) := by
  unfold add; rw [if_neg h, if_neg h2, if_neg h3, if_neg h4]; rfl
end Ns

set_option maxRecDepth 20000 in
set_option maxHeartbeats 16000000 in
theorem madd_any (P : Nat → Prop) (id : Int) (r : Chn) (v : Value) (ms : List Mnt) (old c : Chn) (flag : Int) (w : World) (hv : Mnts w v ms) (hP : ∀ b, w.heap.size ≤ b → P b) (hl : ms.length ≤ 100000) (hu : ∀ m ∈ ms, m.to.length ≤ 100000) (hfl : flag ≤ 9223372036854775807) :
    Calls Try.prog 28 #[nsv id r v, chv old, chv c, .int .i64 flag] w (NsErr P id r (Ns.add ms old c flag) w) := by
  obtain ⟨ao, n, cp, rfl⟩ := hv.form
  obtain ⟨rfl, hat⟩ := hv.at
  have HB := Lib.hid (Below.refl w.heap.size w)
  have HPP := Lib.hid hP
  have hu' : ∀ m ∈ ms, m.to.length ≤ 1000000 := fun m hm => by have := hu m hm; omega
  have HC := Lib.hid (fun (W : World) (h : Below w.heap.size w W) => mcopy_any id r (.slice ao ms.length cp) ms id W (hv.below h) (by omega) hu')
  have HWT := Lib.hid (fun (ix : Nat) (uv : Value) (u : List Tgt) (W : World) (h : Below w.heap.size w W) (hz : w.heap.size + 3 < W.heap.size) (hx : Tgts W uv u) (hup : u ≠ [] → ∃ b, uv.ownBlock = some b ∧ P b ∧ b ≠ w.heap.size + 3) (hix : (ix < ms.length ∧ Ns.find ms old = ix) ∨ (ix = ms.length ∧ Ns.find ms old < 0)) => mwith_any (fun b => P b ∧ b ≠ w.heap.size + 3) id r (.slice ao ms.length cp) ms ix old uv u W (hv.below h) hx (fun b hb => ⟨hP b (by omega), by omega⟩) hup hl hu' hix)
  have HFI := Lib.hid (fun (W : World) (h : Below w.heap.size w W) => find_any id r (.slice ao ms.length cp) ms old W (hv.below h) (by omega))
  have HVA := Lib.hid (fun (c : Chn) (W : World) => mvalid_any c W)
  obtain ⟨PM, hPM⟩ : ∃ PM, Ns.add ms old c flag = PM := ⟨_, rfl⟩
  have HPM := Lib.hid hPM
  have HM := Lib.hid hat
  have HU := Lib.hid hu
  rw [hPM]
  have HBL := Lib.hid (show (Ns.base ms old).length ≤ 100000 from by
    rcases Int.lt_or_le (Ns.find ms old) 0 with h | h
    · rw [Ns.base_none h]; simp
    · obtain ⟨k, hk, e1, e2, _⟩ := Ns.find_at h
      rw [Ns.base_found h, e2]
      exact hu _ (List.getElem_mem hk))
  clear hv hu hu' hPM hat hP
  unfold nsv chv at *
  obtain ⟨i0, hi0, hz0, hz1, hz2⟩ := info_parts (P := Try.prog) (e := 51) (z := .agg #[.int .i64 0, .int .i64 0, .int .i64 0, .string ByteArray.empty, .string ByteArray.empty, .bool false]) (size := 6) (bytes := 64) (by kernel_rfl)
  go_enter Try.func28, Try.ntmps28
  go_upto_region 1 with fail
  have hm4 := mafter4 (w := w) (A := .cells #[.int .i64 id, .int .i64 r.dev, .int .i64 r.id, .int .i64 r.fid, .string (T r.path), .string (T r.name), (.slice ao ms.length cp)] 26) (B := .cells #[.int .i64 old.dev, .int .i64 old.id, .int .i64 old.fid, .string (T old.path), .string (T old.name)] 23) (C := .cells #[.int .i64 c.dev, .int .i64 c.id, .int .i64 c.fid, .string (T c.path), .string (T c.name)] 23) (D := .cells #[.int .i64 0, .int .i64 0, .int .i64 0, .int .i64 0, .string ⟨#[]⟩, .string ⟨#[]⟩, .slice none 0 0] 26) (Below.refl _ _)
  generalize (((w.alloc (.cells #[.int .i64 id, .int .i64 r.dev, .int .i64 r.id, .int .i64 r.fid, .string (T r.path), .string (T r.name), (.slice ao ms.length cp)] 26)).alloc (.cells #[.int .i64 old.dev, .int .i64 old.id, .int .i64 old.fid, .string (T old.path), .string (T old.name)] 23)).alloc (.cells #[.int .i64 c.dev, .int .i64 c.id, .int .i64 c.fid, .string (T c.path), .string (T c.name)] 23)).alloc (.cells #[.int .i64 0, .int .i64 0, .int .i64 0, .int .i64 0, .string ⟨#[]⟩, .string ⟨#[]⟩, .slice none 0 0] 26) = W1 at *
  have HS : Hid (CuR w W1 id r old c (.slice ao ms.length cp)) := ⟨hm4.1, hm4.2.1, hm4.2.2.1, hm4.2.2.2.2⟩
  have HZ := Lib.hid hm4.2.2.2.1
  clear hm4
  obtain ⟨h0, h1, h2, h3, h4, h5, h6, o0, o1, o2, o3, o4, c0, c1, c2, c3, c4, _⟩ := HS.out.readt
  obtain ⟨⟨z0, z1, z2, z3, z4, z5, z6⟩, ⟨y0, y1, y2, y3, y4, y5, y6⟩⟩ := ns_reads HZ.out
  go_upto_region 2 with fail
  have hbad := fun h0 h1 hb => how_bad (f := flag) h0 h1 hb
  have hgood := fun h0 h6 h3 => how_good (f := flag) h0 h6 h3
  generalize bits .andNot .i64 flag 4 = HOW at *
  rcases Int.lt_or_le flag 0 with hf0 | hf0
  · have HPUT := Lib.hid (show PM = (ms, 12) from by rw [← HPM.out]; exact Ns.add_mode (.inl hf0))
    clear hbad hgood
    go_wp2_with fail
    have HBW0 := Lib.hid HS.out.bel
    (with_reducible refine (HC.out _ HBW0.out).mono ?_); rintro e w4 ⟨v4, rfl, hm4, b4⟩
    obtain ⟨a4, c4', rfl⟩ := hm4.form
    have HLT := Lib.hid (row_lt HZ.out)
    have HZ4 := Lib.hid ((b4.block _ (row_lt HZ.out)).trans HZ.out)
    have HBB := Lib.hid (bnext HS.out.bel b4)
    have HML := Lib.hid hm4
    clear b4 hm4
    clear h0 h1 h2 h3 h4 h5 h6 o0 o1 o2 o3 o4 c0 c1 c2 c3 c4 z0 z1 z2 z3 z4 z5 z6 y0 y1 y2 y3 y4 y5 y6
    obtain ⟨⟨z0, z1, z2, z3, z4, z5, z6⟩, ⟨y0, y1, y2, y3, y4, y5, y6⟩⟩ := ns_reads HZ4.out
    go_wp2_with fail
    have hz := ns_stored (.int .i64 id) (.int .i64 r.dev) (.int .i64 r.id) (.int .i64 r.fid) (.string (T r.path)) (.string (T r.name)) (.slice a4 ms.length c4') HZ4.out
    obtain ⟨⟨x0, x1, x2, x3, x4, x5, x6⟩, _⟩ := ns_reads hz.1
    have HD := Lib.hid (grown_below HBB.out hz.2 (by omega))
    have HM := Lib.hid (fin_in (HML.out.inn (fun b h _ => ⟨HPP.out b (by have := HLT.out; omega), by have := HLT.out; omega⟩) (fun b h => ⟨HPP.out b (by have := HLT.out; omega), by have := HLT.out; omega⟩)) hz.2)
    exact bodyPost_ret (v := .tuple #[.agg #[.int .i64 id, .int .i64 r.dev, .int .i64 r.id, .int .i64 r.fid, .string (T r.path), .string (T r.name), .slice a4 ms.length c4'], .int .i64 12]) (by simp [results, Try.results28, go_sem, x0, x1, x2, x3, x4, x5, x6]) rfl (ns_err HPUT.out HM.out HD.out)
  by_cases hfb : 6 < flag ∨ flag = 3
  · have HPUT := Lib.hid (show PM = (ms, 12) from by rw [← HPM.out]; exact Ns.add_mode (.inr hfb))
    have hh := hbad hf0 hfl hfb
    clear hbad hgood
    have hf1 : ¬ flag < 0 := by omega
    have hfd : decide (flag < 0) = false := decide_eq_false hf1
    have hhd : decide (2 < HOW) = true := decide_eq_true hh
    go_wp2_with fail
    have HBW0 := Lib.hid HS.out.bel
    (with_reducible refine (HC.out _ HBW0.out).mono ?_); rintro e w4 ⟨v4, rfl, hm4, b4⟩
    obtain ⟨a4, c4', rfl⟩ := hm4.form
    have HLT := Lib.hid (row_lt HZ.out)
    have HZ4 := Lib.hid ((b4.block _ (row_lt HZ.out)).trans HZ.out)
    have HBB := Lib.hid (bnext HS.out.bel b4)
    have HML := Lib.hid hm4
    clear b4 hm4
    clear h0 h1 h2 h3 h4 h5 h6 o0 o1 o2 o3 o4 c0 c1 c2 c3 c4 z0 z1 z2 z3 z4 z5 z6 y0 y1 y2 y3 y4 y5 y6
    obtain ⟨⟨z0, z1, z2, z3, z4, z5, z6⟩, ⟨y0, y1, y2, y3, y4, y5, y6⟩⟩ := ns_reads HZ4.out
    go_wp2_with fail
    have hz := ns_stored (.int .i64 id) (.int .i64 r.dev) (.int .i64 r.id) (.int .i64 r.fid) (.string (T r.path)) (.string (T r.name)) (.slice a4 ms.length c4') HZ4.out
    obtain ⟨⟨x0, x1, x2, x3, x4, x5, x6⟩, _⟩ := ns_reads hz.1
    have HD := Lib.hid (grown_below HBB.out hz.2 (by omega))
    have HM := Lib.hid (fin_in (HML.out.inn (fun b h _ => ⟨HPP.out b (by have := HLT.out; omega), by have := HLT.out; omega⟩) (fun b h => ⟨HPP.out b (by have := HLT.out; omega), by have := HLT.out; omega⟩)) hz.2)
    exact bodyPost_ret (v := .tuple #[.agg #[.int .i64 id, .int .i64 r.dev, .int .i64 r.id, .int .i64 r.fid, .string (T r.path), .string (T r.name), .slice a4 ms.length c4'], .int .i64 12]) (by simp [results, Try.results28, go_sem, x0, x1, x2, x3, x4, x5, x6]) rfl (ns_err HPUT.out HM.out HD.out)
  obtain ⟨hg1, hg2, hg3⟩ := hgood hf0 (show flag ≤ 6 by omega) (show flag ≠ 3 by omega)
  have HBD := Lib.hid (show ¬ (flag < 0 ∨ 6 < flag ∨ flag = 3) from by omega)
  have HCR := Lib.hid hg3
  have HHW := Lib.hid hg1.symm
  have hmod : 0 ≤ HOW := by omega
  have hg2 : HOW ≤ 2 := by omega
  clear hfb hg1 hg3 hbad hgood
  have hf1 : ¬ flag < 0 := by omega
  have hfd : decide (flag < 0) = false := decide_eq_false hf1
  have hh : ¬ 2 < HOW := by omega
  have hhd : decide (2 < HOW) = false := decide_eq_false hh
  cases hvo : Ns.valid old
  · have HPUT := Lib.hid (show PM = (ms, 1) from by rw [← HPM.out]; exact Ns.add_arg HBD.out (.inl hvo))
    go_wp2_with fail
    with_reducible refine (HVA.out _ _).mono ?_; rintro e w2 ⟨rfl, b2⟩
    rw [hvo]
    replace HS := Lib.hid (HS.out.next b2)
    replace HZ := Lib.hid ((b2.block _ (row_lt HZ.out)).trans HZ.out)
    clear h0 h1 h2 h3 h4 h5 h6 o0 o1 o2 o3 o4 c0 c1 c2 c3 c4 z0 z1 z2 z3 z4 z5 z6 y0 y1 y2 y3 y4 y5 y6
    obtain ⟨h0, h1, h2, h3, h4, h5, h6, o0, o1, o2, o3, o4, c0, c1, c2, c3, c4, _⟩ := HS.out.readt
    obtain ⟨⟨z0, z1, z2, z3, z4, z5, z6⟩, ⟨y0, y1, y2, y3, y4, y5, y6⟩⟩ := ns_reads HZ.out
    clear b2
    go_wp2_with fail
    have HBW0 := Lib.hid HS.out.bel
    (with_reducible refine (HC.out _ HBW0.out).mono ?_); rintro e w4 ⟨v4, rfl, hm4, b4⟩
    obtain ⟨a4, c4', rfl⟩ := hm4.form
    have HLT := Lib.hid (row_lt HZ.out)
    have HZ4 := Lib.hid ((b4.block _ (row_lt HZ.out)).trans HZ.out)
    have HBB := Lib.hid (bnext HS.out.bel b4)
    have HML := Lib.hid hm4
    clear b4 hm4
    clear h0 h1 h2 h3 h4 h5 h6 o0 o1 o2 o3 o4 c0 c1 c2 c3 c4 z0 z1 z2 z3 z4 z5 z6 y0 y1 y2 y3 y4 y5 y6
    obtain ⟨⟨z0, z1, z2, z3, z4, z5, z6⟩, ⟨y0, y1, y2, y3, y4, y5, y6⟩⟩ := ns_reads HZ4.out
    go_wp2_with fail
    have hz := ns_stored (.int .i64 id) (.int .i64 r.dev) (.int .i64 r.id) (.int .i64 r.fid) (.string (T r.path)) (.string (T r.name)) (.slice a4 ms.length c4') HZ4.out
    obtain ⟨⟨x0, x1, x2, x3, x4, x5, x6⟩, _⟩ := ns_reads hz.1
    have HD := Lib.hid (grown_below HBB.out hz.2 (by omega))
    have HM := Lib.hid (fin_in (HML.out.inn (fun b h _ => ⟨HPP.out b (by have := HLT.out; omega), by have := HLT.out; omega⟩) (fun b h => ⟨HPP.out b (by have := HLT.out; omega), by have := HLT.out; omega⟩)) hz.2)
    exact bodyPost_ret (v := .tuple #[.agg #[.int .i64 id, .int .i64 r.dev, .int .i64 r.id, .int .i64 r.fid, .string (T r.path), .string (T r.name), .slice a4 ms.length c4'], .int .i64 1]) (by simp [results, Try.results28, go_sem, x0, x1, x2, x3, x4, x5, x6]) rfl (ns_err HPUT.out HM.out HD.out)
  go_wp2_with fail
  with_reducible refine (HVA.out _ _).mono ?_; rintro e w2 ⟨rfl, b2⟩
  rw [hvo]
  replace HS := Lib.hid (HS.out.next b2)
  replace HZ := Lib.hid ((b2.block _ (row_lt HZ.out)).trans HZ.out)
  clear h0 h1 h2 h3 h4 h5 h6 o0 o1 o2 o3 o4 c0 c1 c2 c3 c4 z0 z1 z2 z3 z4 z5 z6 y0 y1 y2 y3 y4 y5 y6
  obtain ⟨h0, h1, h2, h3, h4, h5, h6, o0, o1, o2, o3, o4, c0, c1, c2, c3, c4, _⟩ := HS.out.readt
  obtain ⟨⟨z0, z1, z2, z3, z4, z5, z6⟩, ⟨y0, y1, y2, y3, y4, y5, y6⟩⟩ := ns_reads HZ.out
  clear b2
  go_wp2_with fail
  with_reducible refine (HVA.out _ _).mono ?_; rintro e w3 ⟨rfl, b3⟩
  replace HS := Lib.hid (HS.out.next b3)
  replace HZ := Lib.hid ((b3.block _ (row_lt HZ.out)).trans HZ.out)
  clear h0 h1 h2 h3 h4 h5 h6 o0 o1 o2 o3 o4 c0 c1 c2 c3 c4 z0 z1 z2 z3 z4 z5 z6 y0 y1 y2 y3 y4 y5 y6
  obtain ⟨h0, h1, h2, h3, h4, h5, h6, o0, o1, o2, o3, o4, c0, c1, c2, c3, c4, _⟩ := HS.out.readt
  obtain ⟨⟨z0, z1, z2, z3, z4, z5, z6⟩, ⟨y0, y1, y2, y3, y4, y5, y6⟩⟩ := ns_reads HZ.out
  clear b3
  cases hvc : Ns.valid c
  · have HPUT := Lib.hid (show PM = (ms, 1) from by rw [← HPM.out]; exact Ns.add_arg HBD.out (.inr hvc))
    go_wp2_with fail
    have HBW0 := Lib.hid HS.out.bel
    (with_reducible refine (HC.out _ HBW0.out).mono ?_); rintro e w4 ⟨v4, rfl, hm4, b4⟩
    obtain ⟨a4, c4', rfl⟩ := hm4.form
    have HLT := Lib.hid (row_lt HZ.out)
    have HZ4 := Lib.hid ((b4.block _ (row_lt HZ.out)).trans HZ.out)
    have HBB := Lib.hid (bnext HS.out.bel b4)
    have HML := Lib.hid hm4
    clear b4 hm4
    clear h0 h1 h2 h3 h4 h5 h6 o0 o1 o2 o3 o4 c0 c1 c2 c3 c4 z0 z1 z2 z3 z4 z5 z6 y0 y1 y2 y3 y4 y5 y6
    obtain ⟨⟨z0, z1, z2, z3, z4, z5, z6⟩, ⟨y0, y1, y2, y3, y4, y5, y6⟩⟩ := ns_reads HZ4.out
    go_wp2_with fail
    have hz := ns_stored (.int .i64 id) (.int .i64 r.dev) (.int .i64 r.id) (.int .i64 r.fid) (.string (T r.path)) (.string (T r.name)) (.slice a4 ms.length c4') HZ4.out
    obtain ⟨⟨x0, x1, x2, x3, x4, x5, x6⟩, _⟩ := ns_reads hz.1
    have HD := Lib.hid (grown_below HBB.out hz.2 (by omega))
    have HM := Lib.hid (fin_in (HML.out.inn (fun b h _ => ⟨HPP.out b (by have := HLT.out; omega), by have := HLT.out; omega⟩) (fun b h => ⟨HPP.out b (by have := HLT.out; omega), by have := HLT.out; omega⟩)) hz.2)
    exact bodyPost_ret (v := .tuple #[.agg #[.int .i64 id, .int .i64 r.dev, .int .i64 r.id, .int .i64 r.fid, .string (T r.path), .string (T r.name), .slice a4 ms.length c4'], .int .i64 1]) (by simp [results, Try.results28, go_sem, x0, x1, x2, x3, x4, x5, x6]) rfl (ns_err HPUT.out HM.out HD.out)
  have HVV := Lib.hid (show ¬ (Ns.valid old = false ∨ Ns.valid c = false) from by rw [hvo, hvc]; simp)
  have HBW := Lib.hid HS.out.bel
  go_wp2_with fail
  with_reducible refine (HFI.out _ HBW.out).mono ?_; rintro e w5 ⟨rfl, b5⟩
  replace HS := Lib.hid (HS.out.next b5)
  replace HZ := Lib.hid ((b5.block _ (row_lt HZ.out)).trans HZ.out)
  clear h0 h1 h2 h3 h4 h5 h6 o0 o1 o2 o3 o4 c0 c1 c2 c3 c4 z0 z1 z2 z3 z4 z5 z6 y0 y1 y2 y3 y4 y5 y6
  obtain ⟨h0, h1, h2, h3, h4, h5, h6, o0, o1, o2, o3, o4, c0, c1, c2, c3, c4, _⟩ := HS.out.readt
  obtain ⟨⟨z0, z1, z2, z3, z4, z5, z6⟩, ⟨y0, y1, y2, y3, y4, y5, y6⟩⟩ := ns_reads HZ.out
  clear b5 HBW HFI HVA HB
  obtain ⟨FI, hFI⟩ : ∃ FI, Ns.find ms old = FI := ⟨_, rfl⟩
  have HFE := Lib.hid hFI
  rw [hFI]
  clear hFI
  have HBW := Lib.hid HS.out.bel
  have HAL := Lib.hid ((Below.refl _ _).alloc (Nat.le_refl _) (.cells #[.int .i64 old.dev, .int .i64 old.id, .int .i64 old.fid, .string (T old.path), .string (T old.name), .bool false] 51) : Below w5.heap.size w5 _)
  have HTN := Lib.hid (show TOwn (w5.alloc (.cells #[.int .i64 old.dev, .int .i64 old.id, .int .i64 old.fid, .string (T old.path), .string (T old.name), .bool false] 51)) 0 (.slice (some ⟨w5.heap.size, 0, none⟩) 1 1) [⟨old, false⟩] from World.ownsRow_lit w5 _ 1 (Nat.zero_le _) (by unfold maxLen; omega) rfl)
  go_upto_if 46 with fail
  go_cut [12] (fun uv w' => ∃ ua ul uc, uv = .slice ua ul uc ∧ Hid (Tgts w' (.slice ua ul uc) (Ns.base ms old)) ∧ Hid (CuR w w' id r old c (.slice ao ms.length cp)) ∧ Hid (w'.heap[w.heap.size + 3]? = some (.cells #[.int .i64 0, .int .i64 0, .int .i64 0, .int .i64 0, .string ⟨#[]⟩, .string ⟨#[]⟩, .slice none 0 0] 26 (0, 0))))
  case first =>
    have HS6 := Lib.hid (HS.out.next HAL.out)
    have HZ6 := Lib.hid ((HAL.out.block _ (row_lt HZ.out)).trans HZ.out)
    clear h0 h1 h2 h3 h4 h5 h6 o0 o1 o2 o3 o4 c0 c1 c2 c3 c4 z0 z1 z2 z3 z4 z5 z6 y0 y1 y2 y3 y4 y5 y6
    obtain ⟨h0, h1, h2, h3, h4, h5, h6, o0, o1, o2, o3, o4, c0, c1, c2, c3, c4, _⟩ := HS6.out.readt
    rcases Int.lt_or_le FI 0 with hfi | hfi
    · go_wp2_with fail
      go_meet
      exact ⟨_, _, _, rfl, Lib.hid (by rw [Ns.base_none (by rw [HFE.out]; exact hfi)]; exact HTN.out.tgts), HS6, HZ6⟩
    · obtain ⟨k, hk, e1, e2, e3⟩ := Ns.find_at (show 0 ≤ Ns.find ms old by rw [HFE.out]; exact hfi)
      have hFK : FI = k := by rw [← HFE.out]; exact e1
      subst hFK
      have HBU := Lib.hid (show Ns.base ms old = ms[k].to from by rw [Ns.base_found (by rw [HFE.out]; exact hfi), e2])
      clear hfi e1 e2 e3
      obtain ⟨b, off, rfl, hbl, cc, tv, d5, ct⟩ := HM.out k hk
      obtain ⟨ta, tn, tc, rfl⟩ := ct.form
      have hki : (k : Int) < ms.length := by omega
      have d6 := (HS6.out.bel.cell (p := ⟨b, off + k * 6 + 5, none⟩) hbl).trans d5
      have HCT := Lib.hid (ct.below HS6.out.bel)
      clear cc ct d5
      generalize w5.alloc (.cells #[.int .i64 old.dev, .int .i64 old.id, .int .i64 old.fid, .string (T old.path), .string (T old.name), .bool false] 51) = W6 at *
      go_wp2_with fail
      go_meet
      exact ⟨_, _, _, rfl, Lib.hid (by rw [HBU.out]; exact HCT.out), HS6, HZ6⟩
  case rest =>
    obtain ⟨ua, ul, uc, rfl, HTU, HS7, HZ7⟩ := hcut
    clear HS HZ HBW HAL HTN h0 h1 h2 h3 h4 h5 h6 o0 o1 o2 o3 o4 c0 c1 c2 c3 c4 z0 z1 z2 z3 z4 z5 z6 y0 y1 y2 y3 y4 y5 y6
    generalize wc = W6 at *
    replace HS := HS7
    replace HZ := HZ7
    clear HS7 HZ7
    obtain ⟨h0, h1, h2, h3, h4, h5, h6, o0, o1, o2, o3, o4, c0, c1, c2, c3, c4, _⟩ := HS.out.readt
    obtain ⟨⟨z0, z1, z2, z3, z4, z5, z6⟩, ⟨y0, y1, y2, y3, y4, y5, y6⟩⟩ := ns_reads HZ.out
    obtain ⟨ub, hub⟩ : ∃ x, Ns.base ms old = x := ⟨_, rfl⟩
    have HUB := Lib.hid hub
    rw [hub] at HTU HBL
    obtain ⟨rfl, hx⟩ := HTU.out.at
    clear hub hx
    have hbl : ub.length ≤ 100000 := HBL.out
    by_cases hw0 : HOW = 0
    · subst hw0
      have HX3 := Lib.hid (show ¬ (flag % 4 ≠ 0 ∧ 0 ≤ Ns.elem (Ns.base ms old) c) from fun h => h.1 HHW.out)
      rcases Int.lt_or_le FI 0 with hfi | hfi
      · rcases Nat.lt_or_ge ms.length 64 with h64 | h64
        rotate_left
        · have HPUT := Lib.hid (show PM = (ms, 22) from by
            rw [← HPM.out]
            exact Ns.add_full HBD.out HVV.out HX3.out (.inr ⟨by rw [HFE.out]; exact hfi, h64⟩))
          have h64i : (64 : Int) ≤ ms.length := by omega
          go_wp2_with fail
          have HBW0 := Lib.hid HS.out.bel
          (with_reducible refine (HC.out _ HBW0.out).mono ?_); rintro e w4 ⟨v4, rfl, hm4, b4⟩
          obtain ⟨a4, c4', rfl⟩ := hm4.form
          have HLT := Lib.hid (row_lt HZ.out)
          have HZ4 := Lib.hid ((b4.block _ (row_lt HZ.out)).trans HZ.out)
          have HBB := Lib.hid (bnext HS.out.bel b4)
          have HML := Lib.hid hm4
          clear b4 hm4
          clear h0 h1 h2 h3 h4 h5 h6 o0 o1 o2 o3 o4 c0 c1 c2 c3 c4 z0 z1 z2 z3 z4 z5 z6 y0 y1 y2 y3 y4 y5 y6
          obtain ⟨⟨z0, z1, z2, z3, z4, z5, z6⟩, ⟨y0, y1, y2, y3, y4, y5, y6⟩⟩ := ns_reads HZ4.out
          go_wp2_with fail
          have hz := ns_stored (.int .i64 id) (.int .i64 r.dev) (.int .i64 r.id) (.int .i64 r.fid) (.string (T r.path)) (.string (T r.name)) (.slice a4 ms.length c4') HZ4.out
          obtain ⟨⟨x0, x1, x2, x3, x4, x5, x6⟩, _⟩ := ns_reads hz.1
          have HD := Lib.hid (grown_below HBB.out hz.2 (by omega))
          have HM := Lib.hid (fin_in (HML.out.inn (fun b h _ => ⟨HPP.out b (by have := HLT.out; omega), by have := HLT.out; omega⟩) (fun b h => ⟨HPP.out b (by have := HLT.out; omega), by have := HLT.out; omega⟩)) hz.2)
          exact bodyPost_ret (v := .tuple #[.agg #[.int .i64 id, .int .i64 r.dev, .int .i64 r.id, .int .i64 r.fid, .string (T r.path), .string (T r.name), .slice a4 ms.length c4'], .int .i64 22]) (by simp [results, Try.results28, go_sem, x0, x1, x2, x3, x4, x5, x6]) rfl (ns_err HPUT.out HM.out HD.out)
        have h64i : ¬ (64 : Int) ≤ ms.length := by omega
        have HX4 := Lib.hid (show ¬ ((flag % 4 ≠ 0 ∧ 16 ≤ (Ns.base ms old).length) ∨ (Ns.find ms old < 0 ∧ 64 ≤ ms.length)) from fun h => by
          rcases h with h | h
          · exact h.1 HHW.out
          · omega)
        have HFN := Lib.hid hfi
        go_upto_region 15 with fail
        rw [HCR.out]
        obtain ⟨cr, hcr⟩ : ∃ x, decide (4 ≤ flag) = x := ⟨_, rfl⟩
        have HCE := Lib.hid hcr
        rw [hcr]
        clear hcr
        have HPUT := Lib.hid (show PM = (Ns.put ms old [(⟨c, cr⟩ : Tgt)], 0) from by
          rw [← HPM.out, Ns.add_done HBD.out HVV.out HX3.out HX4.out, HUB.out, HCE.out]
          unfold Ns.next
          rw [HHW.out]
          rfl)
        have hal : Below W6.heap.size W6 (W6.alloc (.cells #[.int .i64 c.dev, .int .i64 c.id, .int .i64 c.fid, .string (T c.path), .string (T c.name), .bool cr] 51)) := (Below.refl _ _).alloc (Nat.le_refl _) _
        replace HTU := Lib.hid (HTU.out.below hal)
        have HT := Lib.hid (heap_alloc_new W6 (.cells #[.int .i64 c.dev, .int .i64 c.id, .int .i64 c.fid, .string (T c.path), .string (T c.name), .bool cr] 51))
        have HGT := Lib.hid (row_lt HZ.out)
        replace HS := Lib.hid (HS.out.next hal)
        replace HZ := Lib.hid ((hal.block _ (row_lt HZ.out)).trans HZ.out)
        clear h0 h1 h2 h3 h4 h5 h6 o0 o1 o2 o3 o4 c0 c1 c2 c3 c4 z0 z1 z2 z3 z4 z5 z6 y0 y1 y2 y3 y4 y5 y6 hal
        obtain ⟨h0, h1, h2, h3, h4, h5, h6, o0, o1, o2, o3, o4, c0, c1, c2, c3, c4, _⟩ := HS.out.readt
        obtain ⟨⟨z0, z1, z2, z3, z4, z5, z6⟩, ⟨y0, y1, y2, y3, y4, y5, y6⟩⟩ := ns_reads HZ.out
        obtain ⟨t0, t1, t2, t3, t4, t5⟩ := mnt_reads HT.out
        generalize W6.alloc (.cells #[.int .i64 c.dev, .int .i64 c.id, .int .i64 c.fid, .string (T c.path), .string (T c.name), .bool cr] 51) = W7 at *
        generalize W6.heap.size = gT at *
        have HRF := Lib.hid (Below.refl W7.heap.size W7)
        have hr8 := heap_alloc_new W7 (.cells #[.int .i64 c.dev, .int .i64 c.id, .int .i64 c.fid, .string (T c.path), .string (T c.name), .bool cr] 51)
        have HC8 : Hid (∀ j u', (fl tge [(⟨c, cr⟩ : Tgt)])[j]? = some u' → (W7.alloc (.cells #[.int .i64 c.dev, .int .i64 c.id, .int .i64 c.fid, .string (T c.path), .string (T c.name), .bool cr] 51)).cell? ⟨W7.heap.size, j, none⟩ = some u') := fun j u' hj => by
          rw [cell_of_row _ _ _ _ _ _ hr8]; simpa [fl, tge] using hj
        have HAL := Lib.hid ((HRF.out).alloc (HRF.out).size (.cells #[.int .i64 c.dev, .int .i64 c.id, .int .i64 c.fid, .string (T c.path), .string (T c.name), .bool cr] 51))
        clear hr8
        go_wp2_with (at_builtin; refine wpList_append_any _ rfl _ _ 41 rfl W7.heap.size 51 i0 (.agg #[.int .i64 0, .int .i64 0, .int .i64 0, .string ByteArray.empty, .string ByteArray.empty, .bool false]) 6 64 Try.underlying41 hi0 hz0 hz1 hz2 rfl (by decide) (.slice none 0 0) 0 [] rfl ?qa0nx0 (some ⟨W7.heap.size, 0, none⟩) 1 1 (fl tge [(⟨c, cr⟩ : Tgt)]) rfl ?qa0nxn ?qa0nx1 ?qa0nx2 ?qa0nx3 ?qa0nx4 ?qa0nx5 ?qa0nx6 ?_)
        case qa0nx0 => exact (World.ownsRow_nil W7 W7.heap.size 51 6).alloc _
        try case qa0nxn => exact fun h => nomatch h
        try case qa0nx1 => rfl
        case qa0nx2 =>
          first
            | (intro a ha j u' hj; cases ha; first | (rw [Addr.add_lit, Nat.zero_add]; exact HC8.out j u' hj) | (simpa [fl, tge] using hj))
            | (intro j u' hj; first | (rw [Addr.add_lit, Nat.zero_add]; exact HC8.out j u' hj) | (simpa [fl, tge] using hj))
        try case qa0nx3 => exact fl_one tge1 _
        try case qa0nx4 => unfold maxLen; omega
        try case qa0nx5 => omega
        try case qa0nx6 => exact HAL.out.size
        intro v8 w8 hown8 hgrow8 _
        have HO8 := Lib.hid (show TOwn w8 W7.heap.size v8 [(⟨c, cr⟩ : Tgt)] from by unfold TOwn; simpa using hown8)
        clear HC8
        have HB8 := Lib.hid (HAL.out.grown hgrow8 HAL.out.size (fun k hk => nomatch hk))
        clear h0 h1 h2 h3 h4 h5 h6 o0 o1 o2 o3 o4 c0 c1 c2 c3 c4 z0 z1 z2 z3 z4 z5 z6 y0 y1 y2 y3 y4 y5 y6 t0 t1 t2 t3 t4 t5 hgrow8 HAL
        have HS8 := Lib.hid (HS.out.next HB8.out)
        have HZ8 := Lib.hid ((HB8.out.block _ (row_lt HZ.out)).trans HZ.out)
        have HT8 := Lib.hid ((HB8.out.block _ (row_lt HT.out)).trans HT.out)
        obtain ⟨h0, h1, h2, h3, h4, h5, h6, o0, o1, o2, o3, o4, c0, c1, c2, c3, c4, _⟩ := HS8.out.readt
        obtain ⟨⟨z0, z1, z2, z3, z4, z5, z6⟩, ⟨y0, y1, y2, y3, y4, y5, y6⟩⟩ := ns_reads HZ8.out
        obtain ⟨t0, t1, t2, t3, t4, t5⟩ := mnt_reads HT8.out
        obtain ⟨a9, c9, rfl⟩ := own_lt HO8.out
        have HWI := Lib.hid (HWT.out ms.length _ [(⟨c, cr⟩ : Tgt)] w8 HS8.out.bel (row_lt HZ8.out) HO8.out.tgts (fun hn => by
          obtain ⟨b', e1, e2, e3⟩ := HO8.out.block hn
          have := HGT.out
          have := row_lt HT.out
          have := row_lt HZ.out
          exact ⟨b', e1, HPP.out b' (by omega), by omega⟩) (.inr ⟨rfl, by rw [HFE.out]; exact HFN.out⟩))
        unfold chv at HWI
        simp only [List.length_singleton] at HWI
        go_wp2_with fail
        (with_reducible refine HWI.out.mono ?_); rintro e wa ⟨a5, n5, c5, rfl, hm5, b5⟩
        have HZA := Lib.hid ((b5.block _ (row_lt HZ8.out)).trans HZ8.out)
        have HBA := Lib.hid (bnext HS8.out.bel b5)
        have HMA := Lib.hid hm5
        clear b5 hm5 HWI h0 h1 h2 h3 h4 h5 h6 o0 o1 o2 o3 o4 c0 c1 c2 c3 c4 z0 z1 z2 z3 z4 z5 z6 y0 y1 y2 y3 y4 y5 y6
        obtain ⟨⟨z0, z1, z2, z3, z4, z5, z6⟩, ⟨y0, y1, y2, y3, y4, y5, y6⟩⟩ := ns_reads HZA.out
        unfold nsv
        go_wp2_with fail
        have hz := ns_stored (.int .i64 id) (.int .i64 r.dev) (.int .i64 r.id) (.int .i64 r.fid) (.string (T r.path)) (.string (T r.name)) (.slice a5 n5 c5) HZA.out
        obtain ⟨⟨x0, x1, x2, x3, x4, x5, x6⟩, _⟩ := ns_reads hz.1
        have HD := Lib.hid (grown_below HBA.out hz.2 (by omega))
        have HM := Lib.hid (fin_in HMA.out hz.2)
        exact bodyPost_ret (v := .tuple #[.agg #[.int .i64 id, .int .i64 r.dev, .int .i64 r.id, .int .i64 r.fid, .string (T r.path), .string (T r.name), .slice a5 n5 c5], .int .i64 0]) (by simp [results, Try.results28, go_sem, x0, x1, x2, x3, x4, x5, x6]) rfl (ns_err HPUT.out HM.out HD.out)
      · obtain ⟨k, hk, e1, e2, e3⟩ := Ns.find_at (show 0 ≤ Ns.find ms old by rw [HFE.out]; exact hfi)
        have hFK : FI = k := by rw [← HFE.out]; exact e1
        subst hFK
        have HX4 := Lib.hid (show ¬ ((flag % 4 ≠ 0 ∧ 16 ≤ (Ns.base ms old).length) ∨ (Ns.find ms old < 0 ∧ 64 ≤ ms.length)) from fun h => by
          rcases h with h | h
          · exact h.1 HHW.out
          · rw [HFE.out] at h; omega)
        have hk0 : ¬ (k : Int) < 0 := by omega
        have hkd : decide ((k : Int) < 0) = false := decide_eq_false hk0
        clear hfi e1 e2 e3
        go_upto_region 15 with fail
        rw [HCR.out]
        obtain ⟨cr, hcr⟩ : ∃ x, decide (4 ≤ flag) = x := ⟨_, rfl⟩
        have HCE := Lib.hid hcr
        rw [hcr]
        clear hcr
        have HPUT := Lib.hid (show PM = (Ns.put ms old [(⟨c, cr⟩ : Tgt)], 0) from by
          rw [← HPM.out, Ns.add_done HBD.out HVV.out HX3.out HX4.out, HUB.out, HCE.out]
          unfold Ns.next
          rw [HHW.out]
          rfl)
        have hal : Below W6.heap.size W6 (W6.alloc (.cells #[.int .i64 c.dev, .int .i64 c.id, .int .i64 c.fid, .string (T c.path), .string (T c.name), .bool cr] 51)) := (Below.refl _ _).alloc (Nat.le_refl _) _
        replace HTU := Lib.hid (HTU.out.below hal)
        have HT := Lib.hid (heap_alloc_new W6 (.cells #[.int .i64 c.dev, .int .i64 c.id, .int .i64 c.fid, .string (T c.path), .string (T c.name), .bool cr] 51))
        have HGT := Lib.hid (row_lt HZ.out)
        replace HS := Lib.hid (HS.out.next hal)
        replace HZ := Lib.hid ((hal.block _ (row_lt HZ.out)).trans HZ.out)
        clear h0 h1 h2 h3 h4 h5 h6 o0 o1 o2 o3 o4 c0 c1 c2 c3 c4 z0 z1 z2 z3 z4 z5 z6 y0 y1 y2 y3 y4 y5 y6 hal
        obtain ⟨h0, h1, h2, h3, h4, h5, h6, o0, o1, o2, o3, o4, c0, c1, c2, c3, c4, _⟩ := HS.out.readt
        obtain ⟨⟨z0, z1, z2, z3, z4, z5, z6⟩, ⟨y0, y1, y2, y3, y4, y5, y6⟩⟩ := ns_reads HZ.out
        obtain ⟨t0, t1, t2, t3, t4, t5⟩ := mnt_reads HT.out
        generalize W6.alloc (.cells #[.int .i64 c.dev, .int .i64 c.id, .int .i64 c.fid, .string (T c.path), .string (T c.name), .bool cr] 51) = W7 at *
        generalize W6.heap.size = gT at *
        have HRF := Lib.hid (Below.refl W7.heap.size W7)
        have hr8 := heap_alloc_new W7 (.cells #[.int .i64 c.dev, .int .i64 c.id, .int .i64 c.fid, .string (T c.path), .string (T c.name), .bool cr] 51)
        have HC8 : Hid (∀ j u', (fl tge [(⟨c, cr⟩ : Tgt)])[j]? = some u' → (W7.alloc (.cells #[.int .i64 c.dev, .int .i64 c.id, .int .i64 c.fid, .string (T c.path), .string (T c.name), .bool cr] 51)).cell? ⟨W7.heap.size, j, none⟩ = some u') := fun j u' hj => by
          rw [cell_of_row _ _ _ _ _ _ hr8]; simpa [fl, tge] using hj
        have HAL := Lib.hid ((HRF.out).alloc (HRF.out).size (.cells #[.int .i64 c.dev, .int .i64 c.id, .int .i64 c.fid, .string (T c.path), .string (T c.name), .bool cr] 51))
        clear hr8
        go_wp2_with (at_builtin; refine wpList_append_any _ rfl _ _ 41 rfl W7.heap.size 51 i0 (.agg #[.int .i64 0, .int .i64 0, .int .i64 0, .string ByteArray.empty, .string ByteArray.empty, .bool false]) 6 64 Try.underlying41 hi0 hz0 hz1 hz2 rfl (by decide) (.slice none 0 0) 0 [] rfl ?qa0px0 (some ⟨W7.heap.size, 0, none⟩) 1 1 (fl tge [(⟨c, cr⟩ : Tgt)]) rfl ?qa0pxn ?qa0px1 ?qa0px2 ?qa0px3 ?qa0px4 ?qa0px5 ?qa0px6 ?_)
        case qa0px0 => exact (World.ownsRow_nil W7 W7.heap.size 51 6).alloc _
        try case qa0pxn => exact fun h => nomatch h
        try case qa0px1 => rfl
        case qa0px2 =>
          first
            | (intro a ha j u' hj; cases ha; first | (rw [Addr.add_lit, Nat.zero_add]; exact HC8.out j u' hj) | (simpa [fl, tge] using hj))
            | (intro j u' hj; first | (rw [Addr.add_lit, Nat.zero_add]; exact HC8.out j u' hj) | (simpa [fl, tge] using hj))
        try case qa0px3 => exact fl_one tge1 _
        try case qa0px4 => unfold maxLen; omega
        try case qa0px5 => omega
        try case qa0px6 => exact HAL.out.size
        intro v8 w8 hown8 hgrow8 _
        have HO8 := Lib.hid (show TOwn w8 W7.heap.size v8 [(⟨c, cr⟩ : Tgt)] from by unfold TOwn; simpa using hown8)
        clear HC8
        have HB8 := Lib.hid (HAL.out.grown hgrow8 HAL.out.size (fun k hk => nomatch hk))
        clear h0 h1 h2 h3 h4 h5 h6 o0 o1 o2 o3 o4 c0 c1 c2 c3 c4 z0 z1 z2 z3 z4 z5 z6 y0 y1 y2 y3 y4 y5 y6 t0 t1 t2 t3 t4 t5 hgrow8 HAL
        have HS8 := Lib.hid (HS.out.next HB8.out)
        have HZ8 := Lib.hid ((HB8.out.block _ (row_lt HZ.out)).trans HZ.out)
        have HT8 := Lib.hid ((HB8.out.block _ (row_lt HT.out)).trans HT.out)
        obtain ⟨h0, h1, h2, h3, h4, h5, h6, o0, o1, o2, o3, o4, c0, c1, c2, c3, c4, _⟩ := HS8.out.readt
        obtain ⟨⟨z0, z1, z2, z3, z4, z5, z6⟩, ⟨y0, y1, y2, y3, y4, y5, y6⟩⟩ := ns_reads HZ8.out
        obtain ⟨t0, t1, t2, t3, t4, t5⟩ := mnt_reads HT8.out
        obtain ⟨a9, c9, rfl⟩ := own_lt HO8.out
        have HWI := Lib.hid (HWT.out k _ [(⟨c, cr⟩ : Tgt)] w8 HS8.out.bel (row_lt HZ8.out) HO8.out.tgts (fun hn => by
          obtain ⟨b', e1, e2, e3⟩ := HO8.out.block hn
          have := HGT.out
          have := row_lt HT.out
          have := row_lt HZ.out
          exact ⟨b', e1, HPP.out b' (by omega), by omega⟩) (.inl ⟨hk, HFE.out⟩))
        unfold chv at HWI
        simp only [List.length_singleton] at HWI
        go_wp2_with fail
        (with_reducible refine HWI.out.mono ?_); rintro e wa ⟨a5, n5, c5, rfl, hm5, b5⟩
        have HZA := Lib.hid ((b5.block _ (row_lt HZ8.out)).trans HZ8.out)
        have HBA := Lib.hid (bnext HS8.out.bel b5)
        have HMA := Lib.hid hm5
        clear b5 hm5 HWI h0 h1 h2 h3 h4 h5 h6 o0 o1 o2 o3 o4 c0 c1 c2 c3 c4 z0 z1 z2 z3 z4 z5 z6 y0 y1 y2 y3 y4 y5 y6
        obtain ⟨⟨z0, z1, z2, z3, z4, z5, z6⟩, ⟨y0, y1, y2, y3, y4, y5, y6⟩⟩ := ns_reads HZA.out
        unfold nsv
        go_wp2_with fail
        have hz := ns_stored (.int .i64 id) (.int .i64 r.dev) (.int .i64 r.id) (.int .i64 r.fid) (.string (T r.path)) (.string (T r.name)) (.slice a5 n5 c5) HZA.out
        obtain ⟨⟨x0, x1, x2, x3, x4, x5, x6⟩, _⟩ := ns_reads hz.1
        have HD := Lib.hid (grown_below HBA.out hz.2 (by omega))
        have HM := Lib.hid (fin_in HMA.out hz.2)
        exact bodyPost_ret (v := .tuple #[.agg #[.int .i64 id, .int .i64 r.dev, .int .i64 r.id, .int .i64 r.fid, .string (T r.path), .string (T r.name), .slice a5 n5 c5], .int .i64 0]) (by simp [results, Try.results28, go_sem, x0, x1, x2, x3, x4, x5, x6]) rfl (ns_err HPUT.out HM.out HD.out)
    · have h12 : HOW = 1 ∨ HOW = 2 := by omega
      have hwb : (HOW == 0) = false := beq_eq_false_iff_ne.2 hw0
      have HW0 := Lib.hid hw0
      have HEL := Lib.hid (element_any (.slice ua ub.length uc) ub c W6 HTU.out (by omega))
      unfold chv at HEL
      go_wp2_with fail
      (with_reducible refine HEL.out.mono ?_); rintro e W8 ⟨rfl, b8⟩
      replace HS := Lib.hid (HS.out.next b8)
      replace HZ := Lib.hid ((b8.block _ (row_lt HZ.out)).trans HZ.out)
      replace HTU := Lib.hid (HTU.out.below b8)
      clear h0 h1 h2 h3 h4 h5 h6 o0 o1 o2 o3 o4 c0 c1 c2 c3 c4 z0 z1 z2 z3 z4 z5 z6 y0 y1 y2 y3 y4 y5 y6 b8 HEL
      obtain ⟨h0, h1, h2, h3, h4, h5, h6, o0, o1, o2, o3, o4, c0, c1, c2, c3, c4, _⟩ := HS.out.readt
      obtain ⟨⟨z0, z1, z2, z3, z4, z5, z6⟩, ⟨y0, y1, y2, y3, y4, y5, y6⟩⟩ := ns_reads HZ.out
      obtain ⟨EL, hEL⟩ : ∃ x, Ns.elem ub c = x := ⟨_, rfl⟩
      have HEE := Lib.hid (show Ns.elem (Ns.base ms old) c = EL from by rw [HUB.out]; exact hEL)
      rw [hEL]
      clear hEL
      rcases Int.lt_or_le EL 0 with hel | hel
      rotate_left
      · have HPUT := Lib.hid (show PM = (ms, 7) from by
          rw [← HPM.out]
          exact Ns.add_exist HBD.out HVV.out ⟨by rw [HHW.out]; exact HW0.out, by rw [HEE.out]; exact hel⟩)
        go_wp2_with fail
        have HBW0 := Lib.hid HS.out.bel
        (with_reducible refine (HC.out _ HBW0.out).mono ?_); rintro e w4 ⟨v4, rfl, hm4, b4⟩
        obtain ⟨a4, c4', rfl⟩ := hm4.form
        have HLT := Lib.hid (row_lt HZ.out)
        have HZ4 := Lib.hid ((b4.block _ (row_lt HZ.out)).trans HZ.out)
        have HBB := Lib.hid (bnext HS.out.bel b4)
        have HML := Lib.hid hm4
        clear b4 hm4
        clear h0 h1 h2 h3 h4 h5 h6 o0 o1 o2 o3 o4 c0 c1 c2 c3 c4 z0 z1 z2 z3 z4 z5 z6 y0 y1 y2 y3 y4 y5 y6
        obtain ⟨⟨z0, z1, z2, z3, z4, z5, z6⟩, ⟨y0, y1, y2, y3, y4, y5, y6⟩⟩ := ns_reads HZ4.out
        go_wp2_with fail
        have hz := ns_stored (.int .i64 id) (.int .i64 r.dev) (.int .i64 r.id) (.int .i64 r.fid) (.string (T r.path)) (.string (T r.name)) (.slice a4 ms.length c4') HZ4.out
        obtain ⟨⟨x0, x1, x2, x3, x4, x5, x6⟩, _⟩ := ns_reads hz.1
        have HD := Lib.hid (grown_below HBB.out hz.2 (by omega))
        have HM := Lib.hid (fin_in (HML.out.inn (fun b h _ => ⟨HPP.out b (by have := HLT.out; omega), by have := HLT.out; omega⟩) (fun b h => ⟨HPP.out b (by have := HLT.out; omega), by have := HLT.out; omega⟩)) hz.2)
        exact bodyPost_ret (v := .tuple #[.agg #[.int .i64 id, .int .i64 r.dev, .int .i64 r.id, .int .i64 r.fid, .string (T r.path), .string (T r.name), .slice a4 ms.length c4'], .int .i64 7]) (by simp [results, Try.results28, go_sem, x0, x1, x2, x3, x4, x5, x6]) rfl (ns_err HPUT.out HM.out HD.out)
      have HX3 := Lib.hid (show ¬ (flag % 4 ≠ 0 ∧ 0 ≤ Ns.elem (Ns.base ms old) c) from fun h => by have := h.2; rw [HEE.out] at this; omega)
      rcases Nat.lt_or_ge ub.length 16 with h16 | h16
      rotate_left
      · have HPUT := Lib.hid (show PM = (ms, 22) from by
          rw [← HPM.out]
          exact Ns.add_full HBD.out HVV.out HX3.out (.inl ⟨by rw [HHW.out]; exact HW0.out, by rw [HUB.out]; exact h16⟩))
        have h16i : (16 : Int) ≤ ub.length := by omega
        go_wp2_with fail
        have HBW0 := Lib.hid HS.out.bel
        (with_reducible refine (HC.out _ HBW0.out).mono ?_); rintro e w4 ⟨v4, rfl, hm4, b4⟩
        obtain ⟨a4, c4', rfl⟩ := hm4.form
        have HLT := Lib.hid (row_lt HZ.out)
        have HZ4 := Lib.hid ((b4.block _ (row_lt HZ.out)).trans HZ.out)
        have HBB := Lib.hid (bnext HS.out.bel b4)
        have HML := Lib.hid hm4
        clear b4 hm4
        clear h0 h1 h2 h3 h4 h5 h6 o0 o1 o2 o3 o4 c0 c1 c2 c3 c4 z0 z1 z2 z3 z4 z5 z6 y0 y1 y2 y3 y4 y5 y6
        obtain ⟨⟨z0, z1, z2, z3, z4, z5, z6⟩, ⟨y0, y1, y2, y3, y4, y5, y6⟩⟩ := ns_reads HZ4.out
        go_wp2_with fail
        have hz := ns_stored (.int .i64 id) (.int .i64 r.dev) (.int .i64 r.id) (.int .i64 r.fid) (.string (T r.path)) (.string (T r.name)) (.slice a4 ms.length c4') HZ4.out
        obtain ⟨⟨x0, x1, x2, x3, x4, x5, x6⟩, _⟩ := ns_reads hz.1
        have HD := Lib.hid (grown_below HBB.out hz.2 (by omega))
        have HM := Lib.hid (fin_in (HML.out.inn (fun b h _ => ⟨HPP.out b (by have := HLT.out; omega), by have := HLT.out; omega⟩) (fun b h => ⟨HPP.out b (by have := HLT.out; omega), by have := HLT.out; omega⟩)) hz.2)
        exact bodyPost_ret (v := .tuple #[.agg #[.int .i64 id, .int .i64 r.dev, .int .i64 r.id, .int .i64 r.fid, .string (T r.path), .string (T r.name), .slice a4 ms.length c4'], .int .i64 22]) (by simp [results, Try.results28, go_sem, x0, x1, x2, x3, x4, x5, x6]) rfl (ns_err HPUT.out HM.out HD.out)
      have h16i : ¬ (16 : Int) ≤ ub.length := by omega
      have h16d : decide ((16 : Int) ≤ ub.length) = false := decide_eq_false h16i
      rcases Int.lt_or_le FI 0 with hfi | hfi
      · rcases Nat.lt_or_ge ms.length 64 with h64 | h64
        rotate_left
        · have HPUT := Lib.hid (show PM = (ms, 22) from by
            rw [← HPM.out]
            exact Ns.add_full HBD.out HVV.out HX3.out (.inr ⟨by rw [HFE.out]; exact hfi, h64⟩))
          have h64i : (64 : Int) ≤ ms.length := by omega
          go_wp2_with fail
          have HBW0 := Lib.hid HS.out.bel
          (with_reducible refine (HC.out _ HBW0.out).mono ?_); rintro e w4 ⟨v4, rfl, hm4, b4⟩
          obtain ⟨a4, c4', rfl⟩ := hm4.form
          have HLT := Lib.hid (row_lt HZ.out)
          have HZ4 := Lib.hid ((b4.block _ (row_lt HZ.out)).trans HZ.out)
          have HBB := Lib.hid (bnext HS.out.bel b4)
          have HML := Lib.hid hm4
          clear b4 hm4
          clear h0 h1 h2 h3 h4 h5 h6 o0 o1 o2 o3 o4 c0 c1 c2 c3 c4 z0 z1 z2 z3 z4 z5 z6 y0 y1 y2 y3 y4 y5 y6
          obtain ⟨⟨z0, z1, z2, z3, z4, z5, z6⟩, ⟨y0, y1, y2, y3, y4, y5, y6⟩⟩ := ns_reads HZ4.out
          go_wp2_with fail
          have hz := ns_stored (.int .i64 id) (.int .i64 r.dev) (.int .i64 r.id) (.int .i64 r.fid) (.string (T r.path)) (.string (T r.name)) (.slice a4 ms.length c4') HZ4.out
          obtain ⟨⟨x0, x1, x2, x3, x4, x5, x6⟩, _⟩ := ns_reads hz.1
          have HD := Lib.hid (grown_below HBB.out hz.2 (by omega))
          have HM := Lib.hid (fin_in (HML.out.inn (fun b h _ => ⟨HPP.out b (by have := HLT.out; omega), by have := HLT.out; omega⟩) (fun b h => ⟨HPP.out b (by have := HLT.out; omega), by have := HLT.out; omega⟩)) hz.2)
          exact bodyPost_ret (v := .tuple #[.agg #[.int .i64 id, .int .i64 r.dev, .int .i64 r.id, .int .i64 r.fid, .string (T r.path), .string (T r.name), .slice a4 ms.length c4'], .int .i64 22]) (by simp [results, Try.results28, go_sem, x0, x1, x2, x3, x4, x5, x6]) rfl (ns_err HPUT.out HM.out HD.out)
        have h64i : ¬ (64 : Int) ≤ ms.length := by omega
        have HX4 := Lib.hid (show ¬ ((flag % 4 ≠ 0 ∧ 16 ≤ (Ns.base ms old).length) ∨ (Ns.find ms old < 0 ∧ 64 ≤ ms.length)) from fun h => by
          rcases h with h | h
          · have := h.2; rw [HUB.out] at this; omega
          · omega)
        have HFN := Lib.hid hfi
        rcases h12 with rfl | rfl
        · clear hw0 hwb h16 HW0
          go_upto_region 15 with fail
          rw [HCR.out]
          obtain ⟨cr, hcr⟩ : ∃ x, decide (4 ≤ flag) = x := ⟨_, rfl⟩
          have HCE := Lib.hid hcr
          rw [hcr]
          clear hcr
          have HPUT := Lib.hid (show PM = (Ns.put ms old ((⟨c, cr⟩ : Tgt) :: ub), 0) from by
            rw [← HPM.out, Ns.add_done HBD.out HVV.out HX3.out HX4.out, HUB.out, HCE.out]
            unfold Ns.next
            rw [HHW.out]
            rfl)
          have hal : Below W8.heap.size W8 (W8.alloc (.cells #[.int .i64 c.dev, .int .i64 c.id, .int .i64 c.fid, .string (T c.path), .string (T c.name), .bool cr] 51)) := (Below.refl _ _).alloc (Nat.le_refl _) _
          replace HTU := Lib.hid (HTU.out.below hal)
          have HT := Lib.hid (heap_alloc_new W8 (.cells #[.int .i64 c.dev, .int .i64 c.id, .int .i64 c.fid, .string (T c.path), .string (T c.name), .bool cr] 51))
          have HGT := Lib.hid (row_lt HZ.out)
          replace HS := Lib.hid (HS.out.next hal)
          replace HZ := Lib.hid ((hal.block _ (row_lt HZ.out)).trans HZ.out)
          clear h0 h1 h2 h3 h4 h5 h6 o0 o1 o2 o3 o4 c0 c1 c2 c3 c4 z0 z1 z2 z3 z4 z5 z6 y0 y1 y2 y3 y4 y5 y6 hal
          obtain ⟨h0, h1, h2, h3, h4, h5, h6, o0, o1, o2, o3, o4, c0, c1, c2, c3, c4, _⟩ := HS.out.readt
          obtain ⟨⟨z0, z1, z2, z3, z4, z5, z6⟩, ⟨y0, y1, y2, y3, y4, y5, y6⟩⟩ := ns_reads HZ.out
          obtain ⟨t0, t1, t2, t3, t4, t5⟩ := mnt_reads HT.out
          generalize W8.alloc (.cells #[.int .i64 c.dev, .int .i64 c.id, .int .i64 c.fid, .string (T c.path), .string (T c.name), .bool cr] 51) = W7 at *
          generalize W8.heap.size = gT at *
          have HRF := Lib.hid (Below.refl W7.heap.size W7)
          have hr8 := heap_alloc_new W7 (.cells #[.int .i64 c.dev, .int .i64 c.id, .int .i64 c.fid, .string (T c.path), .string (T c.name), .bool cr] 51)
          have HC8 : Hid (∀ j u', (fl tge [(⟨c, cr⟩ : Tgt)])[j]? = some u' → (W7.alloc (.cells #[.int .i64 c.dev, .int .i64 c.id, .int .i64 c.fid, .string (T c.path), .string (T c.name), .bool cr] 51)).cell? ⟨W7.heap.size, j, none⟩ = some u') := fun j u' hj => by
            rw [cell_of_row _ _ _ _ _ _ hr8]; simpa [fl, tge] using hj
          have HAL := Lib.hid ((HRF.out).alloc (HRF.out).size (.cells #[.int .i64 c.dev, .int .i64 c.id, .int .i64 c.fid, .string (T c.path), .string (T c.name), .bool cr] 51))
          clear hr8
          go_wp2_with (at_builtin; refine wpList_append_any _ rfl _ _ 41 rfl W7.heap.size 51 i0 (.agg #[.int .i64 0, .int .i64 0, .int .i64 0, .string ByteArray.empty, .string ByteArray.empty, .bool false]) 6 64 Try.underlying41 hi0 hz0 hz1 hz2 rfl (by decide) (.slice none 0 0) 0 [] rfl ?qa1nx0 (some ⟨W7.heap.size, 0, none⟩) 1 1 (fl tge [(⟨c, cr⟩ : Tgt)]) rfl ?qa1nxn ?qa1nx1 ?qa1nx2 ?qa1nx3 ?qa1nx4 ?qa1nx5 ?qa1nx6 ?_)
          case qa1nx0 => exact (World.ownsRow_nil W7 W7.heap.size 51 6).alloc _
          try case qa1nxn => exact fun h => nomatch h
          try case qa1nx1 => rfl
          case qa1nx2 =>
            first
              | (intro a ha j u' hj; cases ha; first | (rw [Addr.add_lit, Nat.zero_add]; exact HC8.out j u' hj) | (simpa [fl, tge] using hj))
              | (intro j u' hj; first | (rw [Addr.add_lit, Nat.zero_add]; exact HC8.out j u' hj) | (simpa [fl, tge] using hj))
          try case qa1nx3 => exact fl_one tge1 _
          try case qa1nx4 => unfold maxLen; omega
          try case qa1nx5 => omega
          try case qa1nx6 => exact HAL.out.size
          intro v8 w8 hown8 hgrow8 _
          have HO1 := Lib.hid (show w8.ownsRow W7.heap.size 51 6 v8 1 (fl tge [(⟨c, cr⟩ : Tgt)]) from by simpa using hown8)
          obtain ⟨a8, c8, rfl⟩ := own_lt HO1.out
          clear HC8 hown8
          have HB1 := Lib.hid (HAL.out.grown hgrow8 HAL.out.size (fun k hk => nomatch hk))
          clear h0 h1 h2 h3 h4 h5 h6 o0 o1 o2 o3 o4 c0 c1 c2 c3 c4 z0 z1 z2 z3 z4 z5 z6 y0 y1 y2 y3 y4 y5 y6 t0 t1 t2 t3 t4 t5 hgrow8 HAL
          have HS8 := Lib.hid (HS.out.next HB1.out)
          have HZ8 := Lib.hid ((HB1.out.block _ (row_lt HZ.out)).trans HZ.out)
          have HT8 := Lib.hid ((HB1.out.block _ (row_lt HT.out)).trans HT.out)
          obtain ⟨h0, h1, h2, h3, h4, h5, h6, o0, o1, o2, o3, o4, c0, c1, c2, c3, c4, _⟩ := HS8.out.readt
          obtain ⟨⟨z0, z1, z2, z3, z4, z5, z6⟩, ⟨y0, y1, y2, y3, y4, y5, y6⟩⟩ := ns_reads HZ8.out
          obtain ⟨t0, t1, t2, t3, t4, t5⟩ := mnt_reads HT8.out
          have HTW := Lib.hid (HTU.out.below (HB1.out))
          have HAL := Lib.hid (HB1.out)
          go_wp2_with (at_builtin; refine wpList_append_any _ rfl _ _ 41 rfl W7.heap.size 51 i0 (.agg #[.int .i64 0, .int .i64 0, .int .i64 0, .string ByteArray.empty, .string ByteArray.empty, .bool false]) 6 64 Try.underlying41 hi0 hz0 hz1 hz2 rfl (by decide) (.slice a8 1 c8) 1 (fl tge [(⟨c, cr⟩ : Tgt)]) rfl ?qb1nx0 ua ub.length uc (fl tge ub) rfl ?qb1nxn ?qb1nx1 ?qb1nx2 ?qb1nx3 ?qb1nx4 ?qb1nx5 ?qb1nx6 ?_)
          case qb1nx0 => exact HO1.out
          try case qb1nxn => exact fun h => tgts_none HTW.out h
          try case qb1nx1 => exact fl_length tge tge6 ub
          case qb1nx2 => exact fun a ha j u' hj => tgts_cell HTW.out ha j u' hj
          try case qb1nx3 => exact fl_one tge1 _
          try case qb1nx4 => unfold maxLen; omega
          try case qb1nx5 => omega
          try case qb1nx6 => exact HAL.out.size
          intro v9 w9 hown9 hgrow8 _
          have HO8 := Lib.hid (show TOwn w9 W7.heap.size v9 ((⟨c, cr⟩ : Tgt) :: ub) from by unfold TOwn; rw [List.length_cons, Nat.add_comm]; exact hown9)
          clear HS8 HZ8 HT8
          have HB8 := Lib.hid (HAL.out.grown hgrow8 HAL.out.size (fun k hk => (HO1.out.lt k hk).1))
          clear h0 h1 h2 h3 h4 h5 h6 o0 o1 o2 o3 o4 c0 c1 c2 c3 c4 z0 z1 z2 z3 z4 z5 z6 y0 y1 y2 y3 y4 y5 y6 t0 t1 t2 t3 t4 t5 hgrow8 HAL
          have HS8 := Lib.hid (HS.out.next HB8.out)
          have HZ8 := Lib.hid ((HB8.out.block _ (row_lt HZ.out)).trans HZ.out)
          have HT8 := Lib.hid ((HB8.out.block _ (row_lt HT.out)).trans HT.out)
          obtain ⟨h0, h1, h2, h3, h4, h5, h6, o0, o1, o2, o3, o4, c0, c1, c2, c3, c4, _⟩ := HS8.out.readt
          obtain ⟨⟨z0, z1, z2, z3, z4, z5, z6⟩, ⟨y0, y1, y2, y3, y4, y5, y6⟩⟩ := ns_reads HZ8.out
          obtain ⟨t0, t1, t2, t3, t4, t5⟩ := mnt_reads HT8.out
          obtain ⟨a9, c9, rfl⟩ := own_lt HO8.out
          have HWI := Lib.hid (HWT.out ms.length _ ((⟨c, cr⟩ : Tgt) :: ub) w9 HS8.out.bel (row_lt HZ8.out) HO8.out.tgts (fun hn => by
            obtain ⟨b', e1, e2, e3⟩ := HO8.out.block hn
            have := HGT.out
            have := row_lt HT.out
            have := row_lt HZ.out
            exact ⟨b', e1, HPP.out b' (by omega), by omega⟩) (.inr ⟨rfl, by rw [HFE.out]; exact HFN.out⟩))
          unfold chv at HWI
          simp only [List.length_cons] at HWI
          go_wp2_with fail
          (with_reducible refine HWI.out.mono ?_); rintro e wa ⟨a5, n5, c5, rfl, hm5, b5⟩
          have HZA := Lib.hid ((b5.block _ (row_lt HZ8.out)).trans HZ8.out)
          have HBA := Lib.hid (bnext HS8.out.bel b5)
          have HMA := Lib.hid hm5
          clear b5 hm5 HWI h0 h1 h2 h3 h4 h5 h6 o0 o1 o2 o3 o4 c0 c1 c2 c3 c4 z0 z1 z2 z3 z4 z5 z6 y0 y1 y2 y3 y4 y5 y6
          obtain ⟨⟨z0, z1, z2, z3, z4, z5, z6⟩, ⟨y0, y1, y2, y3, y4, y5, y6⟩⟩ := ns_reads HZA.out
          unfold nsv
          go_wp2_with fail
          have hz := ns_stored (.int .i64 id) (.int .i64 r.dev) (.int .i64 r.id) (.int .i64 r.fid) (.string (T r.path)) (.string (T r.name)) (.slice a5 n5 c5) HZA.out
          obtain ⟨⟨x0, x1, x2, x3, x4, x5, x6⟩, _⟩ := ns_reads hz.1
          have HD := Lib.hid (grown_below HBA.out hz.2 (by omega))
          have HM := Lib.hid (fin_in HMA.out hz.2)
          exact bodyPost_ret (v := .tuple #[.agg #[.int .i64 id, .int .i64 r.dev, .int .i64 r.id, .int .i64 r.fid, .string (T r.path), .string (T r.name), .slice a5 n5 c5], .int .i64 0]) (by simp [results, Try.results28, go_sem, x0, x1, x2, x3, x4, x5, x6]) rfl (ns_err HPUT.out HM.out HD.out)
        · clear hw0 hwb h16 HW0
          go_upto_region 15 with fail
          rw [HCR.out]
          obtain ⟨cr, hcr⟩ : ∃ x, decide (4 ≤ flag) = x := ⟨_, rfl⟩
          have HCE := Lib.hid hcr
          rw [hcr]
          clear hcr
          have HPUT := Lib.hid (show PM = (Ns.put ms old (ub ++ [(⟨c, cr⟩ : Tgt)]), 0) from by
            rw [← HPM.out, Ns.add_done HBD.out HVV.out HX3.out HX4.out, HUB.out, HCE.out]
            unfold Ns.next
            rw [HHW.out]
            rfl)
          have hal : Below W8.heap.size W8 (W8.alloc (.cells #[.int .i64 c.dev, .int .i64 c.id, .int .i64 c.fid, .string (T c.path), .string (T c.name), .bool cr] 51)) := (Below.refl _ _).alloc (Nat.le_refl _) _
          replace HTU := Lib.hid (HTU.out.below hal)
          have HT := Lib.hid (heap_alloc_new W8 (.cells #[.int .i64 c.dev, .int .i64 c.id, .int .i64 c.fid, .string (T c.path), .string (T c.name), .bool cr] 51))
          have HGT := Lib.hid (row_lt HZ.out)
          replace HS := Lib.hid (HS.out.next hal)
          replace HZ := Lib.hid ((hal.block _ (row_lt HZ.out)).trans HZ.out)
          clear h0 h1 h2 h3 h4 h5 h6 o0 o1 o2 o3 o4 c0 c1 c2 c3 c4 z0 z1 z2 z3 z4 z5 z6 y0 y1 y2 y3 y4 y5 y6 hal
          obtain ⟨h0, h1, h2, h3, h4, h5, h6, o0, o1, o2, o3, o4, c0, c1, c2, c3, c4, _⟩ := HS.out.readt
          obtain ⟨⟨z0, z1, z2, z3, z4, z5, z6⟩, ⟨y0, y1, y2, y3, y4, y5, y6⟩⟩ := ns_reads HZ.out
          obtain ⟨t0, t1, t2, t3, t4, t5⟩ := mnt_reads HT.out
          generalize W8.alloc (.cells #[.int .i64 c.dev, .int .i64 c.id, .int .i64 c.fid, .string (T c.path), .string (T c.name), .bool cr] 51) = W7 at *
          generalize W8.heap.size = gT at *
          have HRF := Lib.hid (Below.refl W7.heap.size W7)
          have HTW := Lib.hid (HTU.out.below (HRF.out))
          have HAL := Lib.hid (HRF.out)
          go_wp2_with (at_builtin; refine wpList_append_any _ rfl _ _ 41 rfl W7.heap.size 51 i0 (.agg #[.int .i64 0, .int .i64 0, .int .i64 0, .string ByteArray.empty, .string ByteArray.empty, .bool false]) 6 64 Try.underlying41 hi0 hz0 hz1 hz2 rfl (by decide) (.slice none 0 0) 0 [] rfl ?qa2nx0 ua ub.length uc (fl tge ub) rfl ?qa2nxn ?qa2nx1 ?qa2nx2 ?qa2nx3 ?qa2nx4 ?qa2nx5 ?qa2nx6 ?_)
          case qa2nx0 => exact World.ownsRow_nil W7 W7.heap.size 51 6
          try case qa2nxn => exact fun h => tgts_none HTW.out h
          try case qa2nx1 => exact fl_length tge tge6 ub
          case qa2nx2 => exact fun a ha j u' hj => tgts_cell HTW.out ha j u' hj
          try case qa2nx3 => exact fl_one tge1 _
          try case qa2nx4 => unfold maxLen; omega
          try case qa2nx5 => omega
          try case qa2nx6 => exact HAL.out.size
          intro v8 w8 hown8 hgrow8 _
          have HO1 := Lib.hid (show w8.ownsRow W7.heap.size 51 6 v8 ub.length (fl tge ub) from by simpa using hown8)
          obtain ⟨a8, c8, rfl⟩ := own_lt HO1.out
          clear hown8
          have HB1 := Lib.hid (HAL.out.grown hgrow8 HAL.out.size (fun k hk => nomatch hk))
          clear h0 h1 h2 h3 h4 h5 h6 o0 o1 o2 o3 o4 c0 c1 c2 c3 c4 z0 z1 z2 z3 z4 z5 z6 y0 y1 y2 y3 y4 y5 y6 t0 t1 t2 t3 t4 t5 hgrow8 HAL
          have HS8 := Lib.hid (HS.out.next HB1.out)
          have HZ8 := Lib.hid ((HB1.out.block _ (row_lt HZ.out)).trans HZ.out)
          have HT8 := Lib.hid ((HB1.out.block _ (row_lt HT.out)).trans HT.out)
          obtain ⟨h0, h1, h2, h3, h4, h5, h6, o0, o1, o2, o3, o4, c0, c1, c2, c3, c4, _⟩ := HS8.out.readt
          obtain ⟨⟨z0, z1, z2, z3, z4, z5, z6⟩, ⟨y0, y1, y2, y3, y4, y5, y6⟩⟩ := ns_reads HZ8.out
          obtain ⟨t0, t1, t2, t3, t4, t5⟩ := mnt_reads HT8.out
          have hr8 := heap_alloc_new w8 (.cells #[.int .i64 c.dev, .int .i64 c.id, .int .i64 c.fid, .string (T c.path), .string (T c.name), .bool cr] 51)
          have HC8 : Hid (∀ j u', (fl tge [(⟨c, cr⟩ : Tgt)])[j]? = some u' → (w8.alloc (.cells #[.int .i64 c.dev, .int .i64 c.id, .int .i64 c.fid, .string (T c.path), .string (T c.name), .bool cr] 51)).cell? ⟨w8.heap.size, j, none⟩ = some u') := fun j u' hj => by
            rw [cell_of_row _ _ _ _ _ _ hr8]; simpa [fl, tge] using hj
          have HAL := Lib.hid ((HB1.out).alloc (HB1.out).size (.cells #[.int .i64 c.dev, .int .i64 c.id, .int .i64 c.fid, .string (T c.path), .string (T c.name), .bool cr] 51))
          clear hr8
          go_wp2_with (at_builtin; refine wpList_append_any _ rfl _ _ 41 rfl W7.heap.size 51 i0 (.agg #[.int .i64 0, .int .i64 0, .int .i64 0, .string ByteArray.empty, .string ByteArray.empty, .bool false]) 6 64 Try.underlying41 hi0 hz0 hz1 hz2 rfl (by decide) (.slice a8 ub.length c8) ub.length (fl tge ub) rfl ?qb2nx0 (some ⟨w8.heap.size, 0, none⟩) 1 1 (fl tge [(⟨c, cr⟩ : Tgt)]) rfl ?qb2nxn ?qb2nx1 ?qb2nx2 ?qb2nx3 ?qb2nx4 ?qb2nx5 ?qb2nx6 ?_)
          case qb2nx0 => exact (HO1.out).alloc _
          try case qb2nxn => exact fun h => nomatch h
          try case qb2nx1 => rfl
          case qb2nx2 =>
            first
              | (intro a ha j u' hj; cases ha; first | (rw [Addr.add_lit, Nat.zero_add]; exact HC8.out j u' hj) | (simpa [fl, tge] using hj))
              | (intro j u' hj; first | (rw [Addr.add_lit, Nat.zero_add]; exact HC8.out j u' hj) | (simpa [fl, tge] using hj))
          try case qb2nx3 => exact fl_one tge1 _
          try case qb2nx4 => unfold maxLen; omega
          try case qb2nx5 => omega
          try case qb2nx6 => exact HAL.out.size
          intro v9 w9 hown9 hgrow8 _
          have HO8 := Lib.hid (show TOwn w9 W7.heap.size v9 (ub ++ [(⟨c, cr⟩ : Tgt)]) from by unfold TOwn; rw [List.length_append, fl_append]; exact hown9)
          clear HC8 HS8 HZ8 HT8
          have HB8 := Lib.hid (HAL.out.grown hgrow8 HAL.out.size (fun k hk => (HO1.out.lt k hk).1))
          clear h0 h1 h2 h3 h4 h5 h6 o0 o1 o2 o3 o4 c0 c1 c2 c3 c4 z0 z1 z2 z3 z4 z5 z6 y0 y1 y2 y3 y4 y5 y6 t0 t1 t2 t3 t4 t5 hgrow8 HAL
          have HS8 := Lib.hid (HS.out.next HB8.out)
          have HZ8 := Lib.hid ((HB8.out.block _ (row_lt HZ.out)).trans HZ.out)
          have HT8 := Lib.hid ((HB8.out.block _ (row_lt HT.out)).trans HT.out)
          obtain ⟨h0, h1, h2, h3, h4, h5, h6, o0, o1, o2, o3, o4, c0, c1, c2, c3, c4, _⟩ := HS8.out.readt
          obtain ⟨⟨z0, z1, z2, z3, z4, z5, z6⟩, ⟨y0, y1, y2, y3, y4, y5, y6⟩⟩ := ns_reads HZ8.out
          obtain ⟨t0, t1, t2, t3, t4, t5⟩ := mnt_reads HT8.out
          obtain ⟨a9, c9, rfl⟩ := own_lt HO8.out
          have HWI := Lib.hid (HWT.out ms.length _ (ub ++ [(⟨c, cr⟩ : Tgt)]) w9 HS8.out.bel (row_lt HZ8.out) HO8.out.tgts (fun hn => by
            obtain ⟨b', e1, e2, e3⟩ := HO8.out.block hn
            have := HGT.out
            have := row_lt HT.out
            have := row_lt HZ.out
            exact ⟨b', e1, HPP.out b' (by omega), by omega⟩) (.inr ⟨rfl, by rw [HFE.out]; exact HFN.out⟩))
          unfold chv at HWI
          simp only [List.length_append, List.length_singleton] at HWI
          go_wp2_with fail
          (with_reducible refine HWI.out.mono ?_); rintro e wa ⟨a5, n5, c5, rfl, hm5, b5⟩
          have HZA := Lib.hid ((b5.block _ (row_lt HZ8.out)).trans HZ8.out)
          have HBA := Lib.hid (bnext HS8.out.bel b5)
          have HMA := Lib.hid hm5
          clear b5 hm5 HWI h0 h1 h2 h3 h4 h5 h6 o0 o1 o2 o3 o4 c0 c1 c2 c3 c4 z0 z1 z2 z3 z4 z5 z6 y0 y1 y2 y3 y4 y5 y6
          obtain ⟨⟨z0, z1, z2, z3, z4, z5, z6⟩, ⟨y0, y1, y2, y3, y4, y5, y6⟩⟩ := ns_reads HZA.out
          unfold nsv
          go_wp2_with fail
          have hz := ns_stored (.int .i64 id) (.int .i64 r.dev) (.int .i64 r.id) (.int .i64 r.fid) (.string (T r.path)) (.string (T r.name)) (.slice a5 n5 c5) HZA.out
          obtain ⟨⟨x0, x1, x2, x3, x4, x5, x6⟩, _⟩ := ns_reads hz.1
          have HD := Lib.hid (grown_below HBA.out hz.2 (by omega))
          have HM := Lib.hid (fin_in HMA.out hz.2)
          exact bodyPost_ret (v := .tuple #[.agg #[.int .i64 id, .int .i64 r.dev, .int .i64 r.id, .int .i64 r.fid, .string (T r.path), .string (T r.name), .slice a5 n5 c5], .int .i64 0]) (by simp [results, Try.results28, go_sem, x0, x1, x2, x3, x4, x5, x6]) rfl (ns_err HPUT.out HM.out HD.out)
      · obtain ⟨k, hk, e1, e2, e3⟩ := Ns.find_at (show 0 ≤ Ns.find ms old by rw [HFE.out]; exact hfi)
        have hFK : FI = k := by rw [← HFE.out]; exact e1
        subst hFK
        have HX4 := Lib.hid (show ¬ ((flag % 4 ≠ 0 ∧ 16 ≤ (Ns.base ms old).length) ∨ (Ns.find ms old < 0 ∧ 64 ≤ ms.length)) from fun h => by
          rcases h with h | h
          · have := h.2; rw [HUB.out] at this; omega
          · rw [HFE.out] at h; omega)
        have hk0 : ¬ (k : Int) < 0 := by omega
        have hkd : decide ((k : Int) < 0) = false := decide_eq_false hk0
        clear hfi e1 e2 e3
        rcases h12 with rfl | rfl
        · clear hw0 hwb h16 HW0
          go_upto_region 15 with fail
          rw [HCR.out]
          obtain ⟨cr, hcr⟩ : ∃ x, decide (4 ≤ flag) = x := ⟨_, rfl⟩
          have HCE := Lib.hid hcr
          rw [hcr]
          clear hcr
          have HPUT := Lib.hid (show PM = (Ns.put ms old ((⟨c, cr⟩ : Tgt) :: ub), 0) from by
            rw [← HPM.out, Ns.add_done HBD.out HVV.out HX3.out HX4.out, HUB.out, HCE.out]
            unfold Ns.next
            rw [HHW.out]
            rfl)
          have hal : Below W8.heap.size W8 (W8.alloc (.cells #[.int .i64 c.dev, .int .i64 c.id, .int .i64 c.fid, .string (T c.path), .string (T c.name), .bool cr] 51)) := (Below.refl _ _).alloc (Nat.le_refl _) _
          replace HTU := Lib.hid (HTU.out.below hal)
          have HT := Lib.hid (heap_alloc_new W8 (.cells #[.int .i64 c.dev, .int .i64 c.id, .int .i64 c.fid, .string (T c.path), .string (T c.name), .bool cr] 51))
          have HGT := Lib.hid (row_lt HZ.out)
          replace HS := Lib.hid (HS.out.next hal)
          replace HZ := Lib.hid ((hal.block _ (row_lt HZ.out)).trans HZ.out)
          clear h0 h1 h2 h3 h4 h5 h6 o0 o1 o2 o3 o4 c0 c1 c2 c3 c4 z0 z1 z2 z3 z4 z5 z6 y0 y1 y2 y3 y4 y5 y6 hal
          obtain ⟨h0, h1, h2, h3, h4, h5, h6, o0, o1, o2, o3, o4, c0, c1, c2, c3, c4, _⟩ := HS.out.readt
          obtain ⟨⟨z0, z1, z2, z3, z4, z5, z6⟩, ⟨y0, y1, y2, y3, y4, y5, y6⟩⟩ := ns_reads HZ.out
          obtain ⟨t0, t1, t2, t3, t4, t5⟩ := mnt_reads HT.out
          generalize W8.alloc (.cells #[.int .i64 c.dev, .int .i64 c.id, .int .i64 c.fid, .string (T c.path), .string (T c.name), .bool cr] 51) = W7 at *
          generalize W8.heap.size = gT at *
          have HRF := Lib.hid (Below.refl W7.heap.size W7)
          have hr8 := heap_alloc_new W7 (.cells #[.int .i64 c.dev, .int .i64 c.id, .int .i64 c.fid, .string (T c.path), .string (T c.name), .bool cr] 51)
          have HC8 : Hid (∀ j u', (fl tge [(⟨c, cr⟩ : Tgt)])[j]? = some u' → (W7.alloc (.cells #[.int .i64 c.dev, .int .i64 c.id, .int .i64 c.fid, .string (T c.path), .string (T c.name), .bool cr] 51)).cell? ⟨W7.heap.size, j, none⟩ = some u') := fun j u' hj => by
            rw [cell_of_row _ _ _ _ _ _ hr8]; simpa [fl, tge] using hj
          have HAL := Lib.hid ((HRF.out).alloc (HRF.out).size (.cells #[.int .i64 c.dev, .int .i64 c.id, .int .i64 c.fid, .string (T c.path), .string (T c.name), .bool cr] 51))
          clear hr8
          go_wp2_with (at_builtin; refine wpList_append_any _ rfl _ _ 41 rfl W7.heap.size 51 i0 (.agg #[.int .i64 0, .int .i64 0, .int .i64 0, .string ByteArray.empty, .string ByteArray.empty, .bool false]) 6 64 Try.underlying41 hi0 hz0 hz1 hz2 rfl (by decide) (.slice none 0 0) 0 [] rfl ?qa1px0 (some ⟨W7.heap.size, 0, none⟩) 1 1 (fl tge [(⟨c, cr⟩ : Tgt)]) rfl ?qa1pxn ?qa1px1 ?qa1px2 ?qa1px3 ?qa1px4 ?qa1px5 ?qa1px6 ?_)
          case qa1px0 => exact (World.ownsRow_nil W7 W7.heap.size 51 6).alloc _
          try case qa1pxn => exact fun h => nomatch h
          try case qa1px1 => rfl
          case qa1px2 =>
            first
              | (intro a ha j u' hj; cases ha; first | (rw [Addr.add_lit, Nat.zero_add]; exact HC8.out j u' hj) | (simpa [fl, tge] using hj))
              | (intro j u' hj; first | (rw [Addr.add_lit, Nat.zero_add]; exact HC8.out j u' hj) | (simpa [fl, tge] using hj))
          try case qa1px3 => exact fl_one tge1 _
          try case qa1px4 => unfold maxLen; omega
          try case qa1px5 => omega
          try case qa1px6 => exact HAL.out.size
          intro v8 w8 hown8 hgrow8 _
          have HO1 := Lib.hid (show w8.ownsRow W7.heap.size 51 6 v8 1 (fl tge [(⟨c, cr⟩ : Tgt)]) from by simpa using hown8)
          obtain ⟨a8, c8, rfl⟩ := own_lt HO1.out
          clear HC8 hown8
          have HB1 := Lib.hid (HAL.out.grown hgrow8 HAL.out.size (fun k hk => nomatch hk))
          clear h0 h1 h2 h3 h4 h5 h6 o0 o1 o2 o3 o4 c0 c1 c2 c3 c4 z0 z1 z2 z3 z4 z5 z6 y0 y1 y2 y3 y4 y5 y6 t0 t1 t2 t3 t4 t5 hgrow8 HAL
          have HS8 := Lib.hid (HS.out.next HB1.out)
          have HZ8 := Lib.hid ((HB1.out.block _ (row_lt HZ.out)).trans HZ.out)
          have HT8 := Lib.hid ((HB1.out.block _ (row_lt HT.out)).trans HT.out)
          obtain ⟨h0, h1, h2, h3, h4, h5, h6, o0, o1, o2, o3, o4, c0, c1, c2, c3, c4, _⟩ := HS8.out.readt
          obtain ⟨⟨z0, z1, z2, z3, z4, z5, z6⟩, ⟨y0, y1, y2, y3, y4, y5, y6⟩⟩ := ns_reads HZ8.out
          obtain ⟨t0, t1, t2, t3, t4, t5⟩ := mnt_reads HT8.out
          have HTW := Lib.hid (HTU.out.below (HB1.out))
          have HAL := Lib.hid (HB1.out)
          go_wp2_with (at_builtin; refine wpList_append_any _ rfl _ _ 41 rfl W7.heap.size 51 i0 (.agg #[.int .i64 0, .int .i64 0, .int .i64 0, .string ByteArray.empty, .string ByteArray.empty, .bool false]) 6 64 Try.underlying41 hi0 hz0 hz1 hz2 rfl (by decide) (.slice a8 1 c8) 1 (fl tge [(⟨c, cr⟩ : Tgt)]) rfl ?qb1px0 ua ub.length uc (fl tge ub) rfl ?qb1pxn ?qb1px1 ?qb1px2 ?qb1px3 ?qb1px4 ?qb1px5 ?qb1px6 ?_)
          case qb1px0 => exact HO1.out
          try case qb1pxn => exact fun h => tgts_none HTW.out h
          try case qb1px1 => exact fl_length tge tge6 ub
          case qb1px2 => exact fun a ha j u' hj => tgts_cell HTW.out ha j u' hj
          try case qb1px3 => exact fl_one tge1 _
          try case qb1px4 => unfold maxLen; omega
          try case qb1px5 => omega
          try case qb1px6 => exact HAL.out.size
          intro v9 w9 hown9 hgrow8 _
          have HO8 := Lib.hid (show TOwn w9 W7.heap.size v9 ((⟨c, cr⟩ : Tgt) :: ub) from by unfold TOwn; rw [List.length_cons, Nat.add_comm]; exact hown9)
          clear HS8 HZ8 HT8
          have HB8 := Lib.hid (HAL.out.grown hgrow8 HAL.out.size (fun k hk => (HO1.out.lt k hk).1))
          clear h0 h1 h2 h3 h4 h5 h6 o0 o1 o2 o3 o4 c0 c1 c2 c3 c4 z0 z1 z2 z3 z4 z5 z6 y0 y1 y2 y3 y4 y5 y6 t0 t1 t2 t3 t4 t5 hgrow8 HAL
          have HS8 := Lib.hid (HS.out.next HB8.out)
          have HZ8 := Lib.hid ((HB8.out.block _ (row_lt HZ.out)).trans HZ.out)
          have HT8 := Lib.hid ((HB8.out.block _ (row_lt HT.out)).trans HT.out)
          obtain ⟨h0, h1, h2, h3, h4, h5, h6, o0, o1, o2, o3, o4, c0, c1, c2, c3, c4, _⟩ := HS8.out.readt
          obtain ⟨⟨z0, z1, z2, z3, z4, z5, z6⟩, ⟨y0, y1, y2, y3, y4, y5, y6⟩⟩ := ns_reads HZ8.out
          obtain ⟨t0, t1, t2, t3, t4, t5⟩ := mnt_reads HT8.out
          obtain ⟨a9, c9, rfl⟩ := own_lt HO8.out
          have HWI := Lib.hid (HWT.out k _ ((⟨c, cr⟩ : Tgt) :: ub) w9 HS8.out.bel (row_lt HZ8.out) HO8.out.tgts (fun hn => by
            obtain ⟨b', e1, e2, e3⟩ := HO8.out.block hn
            have := HGT.out
            have := row_lt HT.out
            have := row_lt HZ.out
            exact ⟨b', e1, HPP.out b' (by omega), by omega⟩) (.inl ⟨hk, HFE.out⟩))
          unfold chv at HWI
          simp only [List.length_cons] at HWI
          go_wp2_with fail
          (with_reducible refine HWI.out.mono ?_); rintro e wa ⟨a5, n5, c5, rfl, hm5, b5⟩
          have HZA := Lib.hid ((b5.block _ (row_lt HZ8.out)).trans HZ8.out)
          have HBA := Lib.hid (bnext HS8.out.bel b5)
          have HMA := Lib.hid hm5
          clear b5 hm5 HWI h0 h1 h2 h3 h4 h5 h6 o0 o1 o2 o3 o4 c0 c1 c2 c3 c4 z0 z1 z2 z3 z4 z5 z6 y0 y1 y2 y3 y4 y5 y6
          obtain ⟨⟨z0, z1, z2, z3, z4, z5, z6⟩, ⟨y0, y1, y2, y3, y4, y5, y6⟩⟩ := ns_reads HZA.out
          unfold nsv
          go_wp2_with fail
          have hz := ns_stored (.int .i64 id) (.int .i64 r.dev) (.int .i64 r.id) (.int .i64 r.fid) (.string (T r.path)) (.string (T r.name)) (.slice a5 n5 c5) HZA.out
          obtain ⟨⟨x0, x1, x2, x3, x4, x5, x6⟩, _⟩ := ns_reads hz.1
          have HD := Lib.hid (grown_below HBA.out hz.2 (by omega))
          have HM := Lib.hid (fin_in HMA.out hz.2)
          exact bodyPost_ret (v := .tuple #[.agg #[.int .i64 id, .int .i64 r.dev, .int .i64 r.id, .int .i64 r.fid, .string (T r.path), .string (T r.name), .slice a5 n5 c5], .int .i64 0]) (by simp [results, Try.results28, go_sem, x0, x1, x2, x3, x4, x5, x6]) rfl (ns_err HPUT.out HM.out HD.out)
        · clear hw0 hwb h16 HW0
          go_upto_region 15 with fail
          rw [HCR.out]
          obtain ⟨cr, hcr⟩ : ∃ x, decide (4 ≤ flag) = x := ⟨_, rfl⟩
          have HCE := Lib.hid hcr
          rw [hcr]
          clear hcr
          have HPUT := Lib.hid (show PM = (Ns.put ms old (ub ++ [(⟨c, cr⟩ : Tgt)]), 0) from by
            rw [← HPM.out, Ns.add_done HBD.out HVV.out HX3.out HX4.out, HUB.out, HCE.out]
            unfold Ns.next
            rw [HHW.out]
            rfl)
          have hal : Below W8.heap.size W8 (W8.alloc (.cells #[.int .i64 c.dev, .int .i64 c.id, .int .i64 c.fid, .string (T c.path), .string (T c.name), .bool cr] 51)) := (Below.refl _ _).alloc (Nat.le_refl _) _
          replace HTU := Lib.hid (HTU.out.below hal)
          have HT := Lib.hid (heap_alloc_new W8 (.cells #[.int .i64 c.dev, .int .i64 c.id, .int .i64 c.fid, .string (T c.path), .string (T c.name), .bool cr] 51))
          have HGT := Lib.hid (row_lt HZ.out)
          replace HS := Lib.hid (HS.out.next hal)
          replace HZ := Lib.hid ((hal.block _ (row_lt HZ.out)).trans HZ.out)
          clear h0 h1 h2 h3 h4 h5 h6 o0 o1 o2 o3 o4 c0 c1 c2 c3 c4 z0 z1 z2 z3 z4 z5 z6 y0 y1 y2 y3 y4 y5 y6 hal
          obtain ⟨h0, h1, h2, h3, h4, h5, h6, o0, o1, o2, o3, o4, c0, c1, c2, c3, c4, _⟩ := HS.out.readt
          obtain ⟨⟨z0, z1, z2, z3, z4, z5, z6⟩, ⟨y0, y1, y2, y3, y4, y5, y6⟩⟩ := ns_reads HZ.out
          obtain ⟨t0, t1, t2, t3, t4, t5⟩ := mnt_reads HT.out
          generalize W8.alloc (.cells #[.int .i64 c.dev, .int .i64 c.id, .int .i64 c.fid, .string (T c.path), .string (T c.name), .bool cr] 51) = W7 at *
          generalize W8.heap.size = gT at *
          have HRF := Lib.hid (Below.refl W7.heap.size W7)
          have HTW := Lib.hid (HTU.out.below (HRF.out))
          have HAL := Lib.hid (HRF.out)
          go_wp2_with (at_builtin; refine wpList_append_any _ rfl _ _ 41 rfl W7.heap.size 51 i0 (.agg #[.int .i64 0, .int .i64 0, .int .i64 0, .string ByteArray.empty, .string ByteArray.empty, .bool false]) 6 64 Try.underlying41 hi0 hz0 hz1 hz2 rfl (by decide) (.slice none 0 0) 0 [] rfl ?qa2px0 ua ub.length uc (fl tge ub) rfl ?qa2pxn ?qa2px1 ?qa2px2 ?qa2px3 ?qa2px4 ?qa2px5 ?qa2px6 ?_)
          case qa2px0 => exact World.ownsRow_nil W7 W7.heap.size 51 6
          try case qa2pxn => exact fun h => tgts_none HTW.out h
          try case qa2px1 => exact fl_length tge tge6 ub
          case qa2px2 => exact fun a ha j u' hj => tgts_cell HTW.out ha j u' hj
          try case qa2px3 => exact fl_one tge1 _
          try case qa2px4 => unfold maxLen; omega
          try case qa2px5 => omega
          try case qa2px6 => exact HAL.out.size
          intro v8 w8 hown8 hgrow8 _
          have HO1 := Lib.hid (show w8.ownsRow W7.heap.size 51 6 v8 ub.length (fl tge ub) from by simpa using hown8)
          obtain ⟨a8, c8, rfl⟩ := own_lt HO1.out
          clear hown8
          have HB1 := Lib.hid (HAL.out.grown hgrow8 HAL.out.size (fun k hk => nomatch hk))
          clear h0 h1 h2 h3 h4 h5 h6 o0 o1 o2 o3 o4 c0 c1 c2 c3 c4 z0 z1 z2 z3 z4 z5 z6 y0 y1 y2 y3 y4 y5 y6 t0 t1 t2 t3 t4 t5 hgrow8 HAL
          have HS8 := Lib.hid (HS.out.next HB1.out)
          have HZ8 := Lib.hid ((HB1.out.block _ (row_lt HZ.out)).trans HZ.out)
          have HT8 := Lib.hid ((HB1.out.block _ (row_lt HT.out)).trans HT.out)
          obtain ⟨h0, h1, h2, h3, h4, h5, h6, o0, o1, o2, o3, o4, c0, c1, c2, c3, c4, _⟩ := HS8.out.readt
          obtain ⟨⟨z0, z1, z2, z3, z4, z5, z6⟩, ⟨y0, y1, y2, y3, y4, y5, y6⟩⟩ := ns_reads HZ8.out
          obtain ⟨t0, t1, t2, t3, t4, t5⟩ := mnt_reads HT8.out
          have hr8 := heap_alloc_new w8 (.cells #[.int .i64 c.dev, .int .i64 c.id, .int .i64 c.fid, .string (T c.path), .string (T c.name), .bool cr] 51)
          have HC8 : Hid (∀ j u', (fl tge [(⟨c, cr⟩ : Tgt)])[j]? = some u' → (w8.alloc (.cells #[.int .i64 c.dev, .int .i64 c.id, .int .i64 c.fid, .string (T c.path), .string (T c.name), .bool cr] 51)).cell? ⟨w8.heap.size, j, none⟩ = some u') := fun j u' hj => by
            rw [cell_of_row _ _ _ _ _ _ hr8]; simpa [fl, tge] using hj
          have HAL := Lib.hid ((HB1.out).alloc (HB1.out).size (.cells #[.int .i64 c.dev, .int .i64 c.id, .int .i64 c.fid, .string (T c.path), .string (T c.name), .bool cr] 51))
          clear hr8
          go_wp2_with (at_builtin; refine wpList_append_any _ rfl _ _ 41 rfl W7.heap.size 51 i0 (.agg #[.int .i64 0, .int .i64 0, .int .i64 0, .string ByteArray.empty, .string ByteArray.empty, .bool false]) 6 64 Try.underlying41 hi0 hz0 hz1 hz2 rfl (by decide) (.slice a8 ub.length c8) ub.length (fl tge ub) rfl ?qb2px0 (some ⟨w8.heap.size, 0, none⟩) 1 1 (fl tge [(⟨c, cr⟩ : Tgt)]) rfl ?qb2pxn ?qb2px1 ?qb2px2 ?qb2px3 ?qb2px4 ?qb2px5 ?qb2px6 ?_)
          case qb2px0 => exact (HO1.out).alloc _
          try case qb2pxn => exact fun h => nomatch h
          try case qb2px1 => rfl
          case qb2px2 =>
            first
              | (intro a ha j u' hj; cases ha; first | (rw [Addr.add_lit, Nat.zero_add]; exact HC8.out j u' hj) | (simpa [fl, tge] using hj))
              | (intro j u' hj; first | (rw [Addr.add_lit, Nat.zero_add]; exact HC8.out j u' hj) | (simpa [fl, tge] using hj))
          try case qb2px3 => exact fl_one tge1 _
          try case qb2px4 => unfold maxLen; omega
          try case qb2px5 => omega
          try case qb2px6 => exact HAL.out.size
          intro v9 w9 hown9 hgrow8 _
          have HO8 := Lib.hid (show TOwn w9 W7.heap.size v9 (ub ++ [(⟨c, cr⟩ : Tgt)]) from by unfold TOwn; rw [List.length_append, fl_append]; exact hown9)
          clear HC8 HS8 HZ8 HT8
          have HB8 := Lib.hid (HAL.out.grown hgrow8 HAL.out.size (fun k hk => (HO1.out.lt k hk).1))
          clear h0 h1 h2 h3 h4 h5 h6 o0 o1 o2 o3 o4 c0 c1 c2 c3 c4 z0 z1 z2 z3 z4 z5 z6 y0 y1 y2 y3 y4 y5 y6 t0 t1 t2 t3 t4 t5 hgrow8 HAL
          have HS8 := Lib.hid (HS.out.next HB8.out)
          have HZ8 := Lib.hid ((HB8.out.block _ (row_lt HZ.out)).trans HZ.out)
          have HT8 := Lib.hid ((HB8.out.block _ (row_lt HT.out)).trans HT.out)
          obtain ⟨h0, h1, h2, h3, h4, h5, h6, o0, o1, o2, o3, o4, c0, c1, c2, c3, c4, _⟩ := HS8.out.readt
          obtain ⟨⟨z0, z1, z2, z3, z4, z5, z6⟩, ⟨y0, y1, y2, y3, y4, y5, y6⟩⟩ := ns_reads HZ8.out
          obtain ⟨t0, t1, t2, t3, t4, t5⟩ := mnt_reads HT8.out
          obtain ⟨a9, c9, rfl⟩ := own_lt HO8.out
          have HWI := Lib.hid (HWT.out k _ (ub ++ [(⟨c, cr⟩ : Tgt)]) w9 HS8.out.bel (row_lt HZ8.out) HO8.out.tgts (fun hn => by
            obtain ⟨b', e1, e2, e3⟩ := HO8.out.block hn
            have := HGT.out
            have := row_lt HT.out
            have := row_lt HZ.out
            exact ⟨b', e1, HPP.out b' (by omega), by omega⟩) (.inl ⟨hk, HFE.out⟩))
          unfold chv at HWI
          simp only [List.length_append, List.length_singleton] at HWI
          go_wp2_with fail
          (with_reducible refine HWI.out.mono ?_); rintro e wa ⟨a5, n5, c5, rfl, hm5, b5⟩
          have HZA := Lib.hid ((b5.block _ (row_lt HZ8.out)).trans HZ8.out)
          have HBA := Lib.hid (bnext HS8.out.bel b5)
          have HMA := Lib.hid hm5
          clear b5 hm5 HWI h0 h1 h2 h3 h4 h5 h6 o0 o1 o2 o3 o4 c0 c1 c2 c3 c4 z0 z1 z2 z3 z4 z5 z6 y0 y1 y2 y3 y4 y5 y6
          obtain ⟨⟨z0, z1, z2, z3, z4, z5, z6⟩, ⟨y0, y1, y2, y3, y4, y5, y6⟩⟩ := ns_reads HZA.out
          unfold nsv
          go_wp2_with fail
          have hz := ns_stored (.int .i64 id) (.int .i64 r.dev) (.int .i64 r.id) (.int .i64 r.fid) (.string (T r.path)) (.string (T r.name)) (.slice a5 n5 c5) HZA.out
          obtain ⟨⟨x0, x1, x2, x3, x4, x5, x6⟩, _⟩ := ns_reads hz.1
          have HD := Lib.hid (grown_below HBA.out hz.2 (by omega))
          have HM := Lib.hid (fin_in HMA.out hz.2)
          exact bodyPost_ret (v := .tuple #[.agg #[.int .i64 id, .int .i64 r.dev, .int .i64 r.id, .int .i64 r.fid, .string (T r.path), .string (T r.name), .slice a5 n5 c5], .int .i64 0]) (by simp [results, Try.results28, go_sem, x0, x1, x2, x3, x4, x5, x6]) rfl (ns_err HPUT.out HM.out HD.out)
end Go.Proofs.Ytganenaaglfdnaa
