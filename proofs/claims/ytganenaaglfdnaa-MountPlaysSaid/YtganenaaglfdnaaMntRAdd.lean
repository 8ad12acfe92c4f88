/- What the reference's Add returns: Ns.add. Conditions: the slice holds the given mounts; at most 10^5 mounts, each of at most 10^5 targets; the flag is an int. -/
import Derived.Test.YtganenaaglfdnaaMntAdd
import Derived.Deep.CutBlock
set_option linter.unusedVariables false
set_option linter.unusedSimpArgs false
namespace Go.Proofs.Ytganenaaglfdnaa
open Go.RowKit
/-- The boxes, and the box of the new target. -/
def RaR (w W : World) (id : Int) (r old c : Chn) (v : Value) (g : Nat) (cr : Bool) : Prop :=
  CuR w W id r old c v ∧ W.heap[g]? = some (.cells #[.int .i64 c.dev, .int .i64 c.id, .int .i64 c.fid, .string (T c.path), .string (T c.name), .bool cr] 51 (0, 0)) ∧ w.heap.size + 3 < g
abbrev RaT (w W : World) (id : Int) (r old c : Chn) (v : Value) (g : Nat) (cr : Bool) : Prop :=
  W.cell? ⟨g, 0, none⟩ = some (.int .i64 c.dev) ∧ W.cell? ⟨g, 1, none⟩ = some (.int .i64 c.id) ∧ W.cell? ⟨g, 2, none⟩ = some (.int .i64 c.fid) ∧ W.cell? ⟨g, 3, none⟩ = some (.string (T c.path)) ∧ W.cell? ⟨g, 4, none⟩ = some (.string (T c.name)) ∧ W.cell? ⟨g, 5, none⟩ = some (.bool cr) ∧
  W.cell? ⟨w.heap.size, 0, none⟩ = some (.int .i64 id) ∧ W.cell? ⟨w.heap.size, 1, none⟩ = some (.int .i64 r.dev) ∧ W.cell? ⟨w.heap.size, 2, none⟩ = some (.int .i64 r.id) ∧ W.cell? ⟨w.heap.size, 3, none⟩ = some (.int .i64 r.fid) ∧ W.cell? ⟨w.heap.size, 4, none⟩ = some (.string (T r.path)) ∧ W.cell? ⟨w.heap.size, 5, none⟩ = some (.string (T r.name)) ∧ W.cell? ⟨w.heap.size, 6, none⟩ = some (v) ∧ W.cell? ⟨w.heap.size + 1, 0, none⟩ = some (.int .i64 old.dev) ∧ W.cell? ⟨w.heap.size + 1, 1, none⟩ = some (.int .i64 old.id) ∧ W.cell? ⟨w.heap.size + 1, 2, none⟩ = some (.int .i64 old.fid) ∧ W.cell? ⟨w.heap.size + 1, 3, none⟩ = some (.string (T old.path)) ∧ W.cell? ⟨w.heap.size + 1, 4, none⟩ = some (.string (T old.name)) ∧ RaR w W id r old c v g cr
theorem RaR.readt {w W : World} {id : Int} {r old c : Chn} {v : Value} {g : Nat} {cr : Bool} (h : RaR w W id r old c v g cr) : RaT w W id r old c v g cr := by
  obtain ⟨⟨h0, h1, h2, h3, h4, h5, h6⟩, _⟩ := ns_reads h.1.1
  obtain ⟨o0, o1, o2, o3, o4⟩ := ch_reads h.1.2.1
  obtain ⟨t0, t1, t2, t3, t4, t5⟩ := mnt_reads h.2.1
  exact ⟨t0, t1, t2, t3, t4, t5, h0, h1, h2, h3, h4, h5, h6, o0, o1, o2, o3, o4, h⟩
theorem RaT.r {w W : World} {id : Int} {r old c : Chn} {v : Value} {g : Nat} {cr : Bool} (h : RaT w W id r old c v g cr) : RaR w W id r old c v g cr := h.2.2.2.2.2.2.2.2.2.2.2.2.2.2.2.2.2.2
theorem RaR.next {w W W' : World} {id : Int} {r old c : Chn} {v : Value} {g : Nat} {cr : Bool} (h : RaR w W id r old c v g cr) (hb : Below W.heap.size W W') : RaR w W' id r old c v g cr :=
  ⟨h.1.next hb, (hb.block _ (row_lt h.2.1)).trans h.2.1, h.2.2⟩
theorem RaR.grow {w W W' : World} {id : Int} {r old c : Chn} {v : Value} {g m : Nat} {cr : Bool} {row : Option Nat} (h : RaR w W id r old c v g cr) (hg : W.grownBy W' row) (hr : ∀ b, row = some b → m ≤ b) (hm : g < m) : RaR w W' id r old c v g cr :=
  ⟨h.1.grow hg (fun b hb => by have := hr b hb; have := h.2.2; omega), (grown_any hg hr _ hm (row_lt h.2.1)).trans h.2.1, h.2.2⟩
theorem RaR.grown {w W W' : World} {id : Int} {r old c : Chn} {v : Value} {g : Nat} {cr : Bool} (h : RaR w W id r old c v g cr) (hg : W.grownBy W' (some (w.heap.size + 3))) : RaR w W' id r old c v g cr :=
  ⟨h.1.grown hg (Nat.le_refl _), (hg.block _ (row_lt h.2.1) (fun e => by have := h.2.2; cases e; omega)).trans h.2.1, h.2.2⟩
theorem own_cons {W : World} {base : Nat} {v : Value} {x : Tgt} {l : List Tgt} (h : W.ownsRow base 51 6 v (1 + l.length) (fl tge [x] ++ fl tge l)) : TOwn W base v (x :: l) := by
  unfold TOwn
  rw [List.length_cons, Nat.add_comm]; exact h
theorem own_snoc {W : World} {base : Nat} {v : Value} {x : Tgt} {l : List Tgt} (h : W.ownsRow base 51 6 v (l.length + 1) (fl tge l ++ fl tge [x])) : TOwn W base v (l ++ [x]) := by
  unfold TOwn
  rw [List.length_append, fl_append]; exact h
set_option maxRecDepth 20000 in
set_option maxHeartbeats 16000000 in
theorem rmadd_any (P : Nat → Prop) (id : Int) (r : Chn) (v : Value) (ms : List Mnt) (old c : Chn) (flag : Int) (w : World) (hv : MIn w P v ms) (hP : ∀ b, w.heap.size ≤ b → P b) (hl : ms.length ≤ 100000) (hu : ∀ m ∈ ms, m.to.length ≤ 100000) (hfl : flag ≤ 9223372036854775807) :
    Calls Try.prog 40 #[nsv id r v, chv old, chv c, .int .i64 flag] w (NsErr P id r (Ns.add ms old c flag) w) := by
  obtain ⟨ao, cp, rfl⟩ := hv.form
  have HB := Lib.hid (Below.refl w.heap.size w)
  have HPP := Lib.hid hP
  have HIN := Lib.hid (fun (W : World) (h : Below w.heap.size w W) (hz : w.heap.size + 3 < W.heap.size) => show MIn W (fun b => P b ∧ b ≠ w.heap.size + 3) (.slice ao ms.length cp) ms from (hv.weak (P' := fun b => P b ∧ b ≠ w.heap.size + 3) (fun b h1 h2 => ⟨h1, by omega⟩)).below h)
  have HUN := Lib.hid (fun (W : World) (h : Below w.heap.size w W) => rmunion_any id r (.slice ao ms.length cp) ms old W (hv.mnts.below h) (by omega))
  have HWT := Lib.hid (fun (uv : Value) (u : List Tgt) (W : World) (h : Below w.heap.size w W) (hz : w.heap.size + 3 < W.heap.size) (hx : Tgts W uv u) (hup : u ≠ [] → ∃ b, uv.ownBlock = some b ∧ P b ∧ b ≠ w.heap.size + 3) => rmwith_any (fun b => P b ∧ b ≠ w.heap.size + 3) id r (.slice ao ms.length cp) ms old uv u W (HIN.out W h hz) hx (fun b hb => ⟨hP b (by omega), by omega⟩) hup hl)
  have HVA := Lib.hid (fun (c : Chn) (W : World) => rmvalid_any c W)
  obtain ⟨PM, hPM⟩ : ∃ PM, Ns.add ms old c flag = PM := ⟨_, rfl⟩
  have HPM := Lib.hid hPM
  rw [hPM]
  have HBL := Lib.hid (show (Ns.base ms old).length ≤ 100000 from by
    rcases Int.lt_or_le (Ns.find ms old) 0 with h | h
    · rw [Ns.base_none h]; simp
    · obtain ⟨k, hk, e1, e2, _⟩ := Ns.find_at h
      rw [Ns.base_found h, e2]
      exact hu _ (List.getElem_mem hk))
  obtain ⟨⟨u, uok⟩, hun⟩ : ∃ p, Ns.union ms old = p := ⟨_, rfl⟩
  have HUE := Lib.hid hun
  rw [hun] at HUN
  clear hv hu hPM hP hun
  unfold nsv chv at *
  generalize hnn : ms.length = nn at *
  have HNN := Lib.hid hnn
  clear hnn
  obtain ⟨i0, hi0, hz0, hz1, hz2⟩ := info_parts (P := Try.prog) (e := 51) (z := .agg #[.int .i64 0, .int .i64 0, .int .i64 0, .string ByteArray.empty, .string ByteArray.empty, .bool false]) (size := 6) (bytes := 64) (by kernel_rfl)
  go_enter Try.func40, Try.ntmps40
  go_upto_region 1 with fail
  have hm4 := mafter4 (w := w) (A := .cells #[.int .i64 id, .int .i64 r.dev, .int .i64 r.id, .int .i64 r.fid, .string (T r.path), .string (T r.name), (.slice ao nn cp)] 26) (B := .cells #[.int .i64 old.dev, .int .i64 old.id, .int .i64 old.fid, .string (T old.path), .string (T old.name)] 23) (C := .cells #[.int .i64 c.dev, .int .i64 c.id, .int .i64 c.fid, .string (T c.path), .string (T c.name)] 23) (D := .cells #[.int .i64 0, .int .i64 0, .int .i64 0, .int .i64 0, .string ⟨#[]⟩, .string ⟨#[]⟩, .slice none 0 0] 26) (Below.refl _ _)
  generalize (((w.alloc (.cells #[.int .i64 id, .int .i64 r.dev, .int .i64 r.id, .int .i64 r.fid, .string (T r.path), .string (T r.name), (.slice ao nn cp)] 26)).alloc (.cells #[.int .i64 old.dev, .int .i64 old.id, .int .i64 old.fid, .string (T old.path), .string (T old.name)] 23)).alloc (.cells #[.int .i64 c.dev, .int .i64 c.id, .int .i64 c.fid, .string (T c.path), .string (T c.name)] 23)).alloc (.cells #[.int .i64 0, .int .i64 0, .int .i64 0, .int .i64 0, .string ⟨#[]⟩, .string ⟨#[]⟩, .slice none 0 0] 26) = W1 at *
  have HS : Hid (CuR w W1 id r old c (.slice ao nn cp)) := ⟨hm4.1, hm4.2.1, hm4.2.2.1, hm4.2.2.2.2⟩
  have HZ := Lib.hid hm4.2.2.2.1
  clear hm4 HB
  obtain ⟨h0, h1, h2, h3, h4, h5, h6, o0, o1, o2, o3, o4, c0, c1, c2, c3, c4, _⟩ := HS.out.readt
  obtain ⟨⟨z0, z1, z2, z3, z4, z5, z6⟩, ⟨y0, y1, y2, y3, y4, y5, y6⟩⟩ := ns_reads HZ.out
  rcases Int.lt_or_le flag 0 with hf0 | hf0
  · have HPUT := Lib.hid (show PM = (ms, 12) from by rw [← HPM.out]; exact Ns.add_mode (.inl hf0))
    have HBN := Lib.hid HS.out.bel
    have HLN := Lib.hid (row_lt HZ.out)
    go_wp2_with fail
    have hz := ns_stored (.int .i64 id) (.int .i64 r.dev) (.int .i64 r.id) (.int .i64 r.fid) (.string (T r.path)) (.string (T r.name)) (.slice ao nn cp) HZ.out
    obtain ⟨⟨x0, x1, x2, x3, x4, x5, x6⟩, _⟩ := ns_reads hz.1
    have HD := Lib.hid (grown_below HBN.out hz.2 (by omega))
    have HM := Lib.hid (fin_in (HIN.out _ HBN.out HLN.out) hz.2)
    exact bodyPost_ret (v := .tuple #[.agg #[.int .i64 id, .int .i64 r.dev, .int .i64 r.id, .int .i64 r.fid, .string (T r.path), .string (T r.name), .slice ao nn cp], .int .i64 12]) (by simp [results, Try.results40, go_sem, x0, x1, x2, x3, x4, x5, x6]) rfl (ns_err HPUT.out HM.out HD.out)
  have hf1 : ¬ flag < 0 := by omega
  have hfd : decide (flag < 0) = false := decide_eq_false hf1
  rcases Int.lt_or_le 6 flag with hf6 | hf6
  · have HPUT := Lib.hid (show PM = (ms, 12) from by rw [← HPM.out]; exact Ns.add_mode (.inr (.inl hf6)))
    have hfd6 : decide (6 < flag) = true := decide_eq_true hf6
    have HBN := Lib.hid HS.out.bel
    have HLN := Lib.hid (row_lt HZ.out)
    go_wp2_with fail
    have hz := ns_stored (.int .i64 id) (.int .i64 r.dev) (.int .i64 r.id) (.int .i64 r.fid) (.string (T r.path)) (.string (T r.name)) (.slice ao nn cp) HZ.out
    obtain ⟨⟨x0, x1, x2, x3, x4, x5, x6⟩, _⟩ := ns_reads hz.1
    have HD := Lib.hid (grown_below HBN.out hz.2 (by omega))
    have HM := Lib.hid (fin_in (HIN.out _ HBN.out HLN.out) hz.2)
    exact bodyPost_ret (v := .tuple #[.agg #[.int .i64 id, .int .i64 r.dev, .int .i64 r.id, .int .i64 r.fid, .string (T r.path), .string (T r.name), .slice ao nn cp], .int .i64 12]) (by simp [results, Try.results40, go_sem, x0, x1, x2, x3, x4, x5, x6]) rfl (ns_err HPUT.out HM.out HD.out)
  have hf61 : ¬ 6 < flag := by omega
  have hfd6 : decide (6 < flag) = false := decide_eq_false hf61
  by_cases hf3 : flag = 3
  · have HPUT := Lib.hid (show PM = (ms, 12) from by rw [← HPM.out]; exact Ns.add_mode (.inr (.inr hf3)))
    subst hf3
    have HBN := Lib.hid HS.out.bel
    have HLN := Lib.hid (row_lt HZ.out)
    go_wp2_with fail
    have hz := ns_stored (.int .i64 id) (.int .i64 r.dev) (.int .i64 r.id) (.int .i64 r.fid) (.string (T r.path)) (.string (T r.name)) (.slice ao nn cp) HZ.out
    obtain ⟨⟨x0, x1, x2, x3, x4, x5, x6⟩, _⟩ := ns_reads hz.1
    have HD := Lib.hid (grown_below HBN.out hz.2 (by omega))
    have HM := Lib.hid (fin_in (HIN.out _ HBN.out HLN.out) hz.2)
    exact bodyPost_ret (v := .tuple #[.agg #[.int .i64 id, .int .i64 r.dev, .int .i64 r.id, .int .i64 r.fid, .string (T r.path), .string (T r.name), .slice ao nn cp], .int .i64 12]) (by simp [results, Try.results40, go_sem, x0, x1, x2, x3, x4, x5, x6]) rfl (ns_err HPUT.out HM.out HD.out)
  have hf3b : (flag == 3) = false := beq_eq_false_iff_ne.2 hf3
  have HBD := Lib.hid (show ¬ (flag < 0 ∨ 6 < flag ∨ flag = 3) from by omega)
  cases hvo : Ns.valid old
  · have HPUT := Lib.hid (show PM = (ms, 1) from by rw [← HPM.out]; exact Ns.add_arg HBD.out (.inl hvo))
    go_wp2_with fail
    (with_reducible refine (HVA.out _ _).mono ?_); rintro e w2 ⟨rfl, b2⟩
    rw [hvo]
    replace HS := Lib.hid (HS.out.next b2)
    replace HZ := Lib.hid ((b2.block _ (row_lt HZ.out)).trans HZ.out)
    clear h0 h1 h2 h3 h4 h5 h6 o0 o1 o2 o3 o4 c0 c1 c2 c3 c4 z0 z1 z2 z3 z4 z5 z6 y0 y1 y2 y3 y4 y5 y6
    obtain ⟨h0, h1, h2, h3, h4, h5, h6, o0, o1, o2, o3, o4, c0, c1, c2, c3, c4, _⟩ := HS.out.readt
    obtain ⟨⟨z0, z1, z2, z3, z4, z5, z6⟩, ⟨y0, y1, y2, y3, y4, y5, y6⟩⟩ := ns_reads HZ.out
    clear b2
    have HBN := Lib.hid HS.out.bel
    have HLN := Lib.hid (row_lt HZ.out)
    go_wp2_with fail
    have hz := ns_stored (.int .i64 id) (.int .i64 r.dev) (.int .i64 r.id) (.int .i64 r.fid) (.string (T r.path)) (.string (T r.name)) (.slice ao nn cp) HZ.out
    obtain ⟨⟨x0, x1, x2, x3, x4, x5, x6⟩, _⟩ := ns_reads hz.1
    have HD := Lib.hid (grown_below HBN.out hz.2 (by omega))
    have HM := Lib.hid (fin_in (HIN.out _ HBN.out HLN.out) hz.2)
    exact bodyPost_ret (v := .tuple #[.agg #[.int .i64 id, .int .i64 r.dev, .int .i64 r.id, .int .i64 r.fid, .string (T r.path), .string (T r.name), .slice ao nn cp], .int .i64 1]) (by simp [results, Try.results40, go_sem, x0, x1, x2, x3, x4, x5, x6]) rfl (ns_err HPUT.out HM.out HD.out)
  go_wp2_with fail
  (with_reducible refine (HVA.out _ _).mono ?_); rintro e w2 ⟨rfl, b2⟩
  rw [hvo]
  replace HS := Lib.hid (HS.out.next b2)
  replace HZ := Lib.hid ((b2.block _ (row_lt HZ.out)).trans HZ.out)
  clear h0 h1 h2 h3 h4 h5 h6 o0 o1 o2 o3 o4 c0 c1 c2 c3 c4 z0 z1 z2 z3 z4 z5 z6 y0 y1 y2 y3 y4 y5 y6
  obtain ⟨h0, h1, h2, h3, h4, h5, h6, o0, o1, o2, o3, o4, c0, c1, c2, c3, c4, _⟩ := HS.out.readt
  obtain ⟨⟨z0, z1, z2, z3, z4, z5, z6⟩, ⟨y0, y1, y2, y3, y4, y5, y6⟩⟩ := ns_reads HZ.out
  clear b2
  go_wp2_with fail
  (with_reducible refine (HVA.out _ _).mono ?_); rintro e w3 ⟨rfl, b3⟩
  replace HS := Lib.hid (HS.out.next b3)
  replace HZ := Lib.hid ((b3.block _ (row_lt HZ.out)).trans HZ.out)
  clear h0 h1 h2 h3 h4 h5 h6 o0 o1 o2 o3 o4 c0 c1 c2 c3 c4 z0 z1 z2 z3 z4 z5 z6 y0 y1 y2 y3 y4 y5 y6
  obtain ⟨h0, h1, h2, h3, h4, h5, h6, o0, o1, o2, o3, o4, c0, c1, c2, c3, c4, _⟩ := HS.out.readt
  obtain ⟨⟨z0, z1, z2, z3, z4, z5, z6⟩, ⟨y0, y1, y2, y3, y4, y5, y6⟩⟩ := ns_reads HZ.out
  clear b3
  cases hvc : Ns.valid c
  · have HPUT := Lib.hid (show PM = (ms, 1) from by rw [← HPM.out]; exact Ns.add_arg HBD.out (.inr hvc))
    have HBN := Lib.hid HS.out.bel
    have HLN := Lib.hid (row_lt HZ.out)
    go_wp2_with fail
    have hz := ns_stored (.int .i64 id) (.int .i64 r.dev) (.int .i64 r.id) (.int .i64 r.fid) (.string (T r.path)) (.string (T r.name)) (.slice ao nn cp) HZ.out
    obtain ⟨⟨x0, x1, x2, x3, x4, x5, x6⟩, _⟩ := ns_reads hz.1
    have HD := Lib.hid (grown_below HBN.out hz.2 (by omega))
    have HM := Lib.hid (fin_in (HIN.out _ HBN.out HLN.out) hz.2)
    exact bodyPost_ret (v := .tuple #[.agg #[.int .i64 id, .int .i64 r.dev, .int .i64 r.id, .int .i64 r.fid, .string (T r.path), .string (T r.name), .slice ao nn cp], .int .i64 1]) (by simp [results, Try.results40, go_sem, x0, x1, x2, x3, x4, x5, x6]) rfl (ns_err HPUT.out HM.out HD.out)
  have HVV := Lib.hid (show ¬ (Ns.valid old = false ∨ Ns.valid c = false) from by rw [hvo, hvc]; simp)
  have hrem : flag.tmod 4 = flag % 4 := Int.tmod_eq_emod_of_nonneg hf0
  obtain ⟨HOW, hHOW⟩ : ∃ x, flag % 4 = x := ⟨_, rfl⟩
  have HHW := Lib.hid hHOW
  rw [hHOW] at hrem
  have hmod : 0 ≤ HOW := by omega
  have hg2 : HOW ≤ 3 := by omega
  clear hHOW
  go_upto_region 6 with fail
  obtain ⟨cr, hcr⟩ : ∃ x, decide (4 ≤ flag) = x := ⟨_, rfl⟩
  have HCE := Lib.hid hcr
  rw [hcr]
  clear hcr
  have hal : Below w3.heap.size w3 (w3.alloc (.cells #[.int .i64 c.dev, .int .i64 c.id, .int .i64 c.fid, .string (T c.path), .string (T c.name), .bool cr] 51)) := (Below.refl _ _).alloc (Nat.le_refl _) _
  have HT := Lib.hid (heap_alloc_new w3 (.cells #[.int .i64 c.dev, .int .i64 c.id, .int .i64 c.fid, .string (T c.path), .string (T c.name), .bool cr] 51))
  have HGT := Lib.hid (row_lt HZ.out)
  replace HS := Lib.hid (HS.out.next hal)
  replace HZ := Lib.hid ((hal.block _ (row_lt HZ.out)).trans HZ.out)
  clear h0 h1 h2 h3 h4 h5 h6 o0 o1 o2 o3 o4 c0 c1 c2 c3 c4 z0 z1 z2 z3 z4 z5 z6 y0 y1 y2 y3 y4 y5 y6 hal
  obtain ⟨h0, h1, h2, h3, h4, h5, h6, o0, o1, o2, o3, o4, c0, c1, c2, c3, c4, _⟩ := HS.out.readt
  obtain ⟨⟨z0, z1, z2, z3, z4, z5, z6⟩, ⟨y0, y1, y2, y3, y4, y5, y6⟩⟩ := ns_reads HZ.out
  generalize w3.alloc (.cells #[.int .i64 c.dev, .int .i64 c.id, .int .i64 c.fid, .string (T c.path), .string (T c.name), .bool cr] 51) = W5 at *
  generalize w3.heap.size = gT at *
  have HBW := Lib.hid HS.out.bel
  go_wp2_with fail
  (with_reducible refine (HUN.out _ HBW.out).mono ?_); rintro e w6 ⟨ua0, ul0, uc0, rfl, htu, b6⟩
  have HTU0 := Lib.hid htu
  replace HT := Lib.hid ((b6.block _ (row_lt HT.out)).trans HT.out)
  replace HS := Lib.hid (HS.out.next b6)
  replace HZ := Lib.hid ((b6.block _ (row_lt HZ.out)).trans HZ.out)
  clear h0 h1 h2 h3 h4 h5 h6 o0 o1 o2 o3 o4 c0 c1 c2 c3 c4 z0 z1 z2 z3 z4 z5 z6 y0 y1 y2 y3 y4 y5 y6
  obtain ⟨h0, h1, h2, h3, h4, h5, h6, o0, o1, o2, o3, o4, c0, c1, c2, c3, c4, _⟩ := HS.out.readt
  obtain ⟨⟨z0, z1, z2, z3, z4, z5, z6⟩, ⟨y0, y1, y2, y3, y4, y5, y6⟩⟩ := ns_reads HZ.out
  clear b6 htu HUN HVA HBW
  have HBU := Lib.hid (show Ns.base ms old = if uok = true then u else [⟨old, false⟩] from by unfold Ns.base; rw [HUE.out])
  have HUK := Lib.hid (show uok = decide (0 ≤ Ns.find ms old) from by rw [← Ns.union_snd, HUE.out])
  have HBT := Lib.hid (show uok = true → Ns.base ms old = u from fun e => by rw [HBU.out, if_pos e])
  have HBF := Lib.hid (show uok = false → Ns.base ms old = [⟨old, false⟩] from fun e => by rw [HBU.out, if_neg (by rw [e]; exact Bool.false_ne_true)])
  clear HBU
  go_upto_if 45 with fail
  go_cut [11] (fun uv w' => ∃ ua ul uc, uv = .slice ua ul uc ∧ Hid (Tgts w' (.slice ua ul uc) (Ns.base ms old)) ∧ Hid (CuR w w' id r old c (.slice ao nn cp)) ∧ Hid (w'.heap[w.heap.size + 3]? = some (.cells #[.int .i64 0, .int .i64 0, .int .i64 0, .int .i64 0, .string ⟨#[]⟩, .string ⟨#[]⟩, .slice none 0 0] 26 (0, 0))) ∧ Hid (w'.heap[gT]? = some (.cells #[.int .i64 c.dev, .int .i64 c.id, .int .i64 c.fid, .string (T c.path), .string (T c.name), .bool cr] 51 (0, 0))))
  case first =>
    cases uok
    · have HAL := Lib.hid ((Below.refl _ _).alloc (Nat.le_refl _) (.cells #[.int .i64 old.dev, .int .i64 old.id, .int .i64 old.fid, .string (T old.path), .string (T old.name), .bool false] 51) : Below w6.heap.size w6 _)
      have HTN := Lib.hid (show TOwn (w6.alloc (.cells #[.int .i64 old.dev, .int .i64 old.id, .int .i64 old.fid, .string (T old.path), .string (T old.name), .bool false] 51)) 0 (.slice (some ⟨w6.heap.size, 0, none⟩) 1 1) [⟨old, false⟩] from World.ownsRow_lit w6 _ 1 (Nat.zero_le _) (by unfold maxLen; omega) rfl)
      go_wp2_with fail
      go_meet
      exact ⟨_, _, _, rfl, Lib.hid (by rw [HBF.out (by simp)]; exact HTN.out.tgts), Lib.hid (HS.out.next HAL.out), Lib.hid ((HAL.out.block _ (row_lt HZ.out)).trans HZ.out), Lib.hid ((HAL.out.block _ (row_lt HT.out)).trans HT.out)⟩
    · go_wp2_with fail
      go_meet
      exact ⟨_, _, _, rfl, Lib.hid (by rw [HBT.out (by simp)]; exact HTU0.out), HS, HZ, HT⟩
  case rest =>
    obtain ⟨ua, ul, uc, rfl, HTU, HS7, HZ7, HT7⟩ := hcut
    clear HS HZ HT HTU0 h0 h1 h2 h3 h4 h5 h6 o0 o1 o2 o3 o4 c0 c1 c2 c3 c4 z0 z1 z2 z3 z4 z5 z6 y0 y1 y2 y3 y4 y5 y6
    generalize wc = W6 at *
    replace HS := HS7
    replace HZ := HZ7
    replace HT := HT7
    clear HS7 HZ7 HT7
    obtain ⟨h0, h1, h2, h3, h4, h5, h6, o0, o1, o2, o3, o4, c0, c1, c2, c3, c4, _⟩ := HS.out.readt
    obtain ⟨⟨z0, z1, z2, z3, z4, z5, z6⟩, ⟨y0, y1, y2, y3, y4, y5, y6⟩⟩ := ns_reads HZ.out
    obtain ⟨t0, t1, t2, t3, t4, t5⟩ := mnt_reads HT.out
    obtain ⟨ub, hub⟩ : ∃ x, Ns.base ms old = x := ⟨_, rfl⟩
    have HUB := Lib.hid hub
    rw [hub] at HTU HBL
    obtain ⟨rfl, hx⟩ := HTU.out.at
    clear hub hx
    have hbl : ub.length ≤ 100000 := HBL.out
    clear HBT HBF
    have HX4R := Lib.hid (show uok = false → Ns.find ms old < 0 from fun e => by have := HUK.out; rw [e] at this; have := of_decide_eq_false this.symm; omega)
    have HX4T := Lib.hid (show uok = true → ¬ Ns.find ms old < 0 from fun e => by have := HUK.out; rw [e] at this; have := of_decide_eq_true this.symm; omega)
    by_cases hw0 : HOW = 0
    · subst hw0
      have HX3 := Lib.hid (show ¬ (flag % 4 ≠ 0 ∧ 0 ≤ Ns.elem (Ns.base ms old) c) from fun h => h.1 HHW.out)
      cases uok
      · rcases Nat.lt_or_ge nn 64 with h64 | h64
        rotate_left
        · have HPUT := Lib.hid (show PM = (ms, 22) from by
            rw [← HPM.out]
            exact Ns.add_full HBD.out HVV.out HX3.out (.inr ⟨HX4R.out rfl, by rw [HNN.out]; exact h64⟩))
          have h64i : (64 : Int) ≤ nn := by omega
          have h64d : decide ((64 : Int) ≤ nn) = true := decide_eq_true h64i
          have HBN := Lib.hid HS.out.bel
          have HLN := Lib.hid (row_lt HZ.out)
          go_wp2_with fail
          have hz := ns_stored (.int .i64 id) (.int .i64 r.dev) (.int .i64 r.id) (.int .i64 r.fid) (.string (T r.path)) (.string (T r.name)) (.slice ao nn cp) HZ.out
          obtain ⟨⟨x0, x1, x2, x3, x4, x5, x6⟩, _⟩ := ns_reads hz.1
          have HD := Lib.hid (grown_below HBN.out hz.2 (by omega))
          have HM := Lib.hid (fin_in (HIN.out _ HBN.out HLN.out) hz.2)
          exact bodyPost_ret (v := .tuple #[.agg #[.int .i64 id, .int .i64 r.dev, .int .i64 r.id, .int .i64 r.fid, .string (T r.path), .string (T r.name), .slice ao nn cp], .int .i64 22]) (by simp [results, Try.results40, go_sem, x0, x1, x2, x3, x4, x5, x6]) rfl (ns_err HPUT.out HM.out HD.out)
        have h64i : ¬ (64 : Int) ≤ nn := by omega
        have h64d : decide ((64 : Int) ≤ nn) = false := decide_eq_false h64i
        have HX4 := Lib.hid (show ¬ ((flag % 4 ≠ 0 ∧ 16 ≤ (Ns.base ms old).length) ∨ (Ns.find ms old < 0 ∧ 64 ≤ ms.length)) from fun h => by
          rcases h with h | h
          · exact h.1 HHW.out
          · have := h.2; rw [HNN.out] at this; omega)
        have HPUT := Lib.hid (show PM = (Ns.put ms old [(⟨c, cr⟩ : Tgt)], 0) from by
          rw [← HPM.out, Ns.add_done HBD.out HVV.out HX3.out HX4.out, HUB.out, HCE.out]
          unfold Ns.next
          rw [HHW.out]
          rfl)
        have HAL := Lib.hid ((Below.refl _ _).alloc (Nat.le_refl _) (.cells #[.int .i64 c.dev, .int .i64 c.id, .int .i64 c.fid, .string (T c.path), .string (T c.name), .bool cr] 51) : Below W6.heap.size W6 (W6.alloc (.cells #[.int .i64 c.dev, .int .i64 c.id, .int .i64 c.fid, .string (T c.path), .string (T c.name), .bool cr] 51)))
        have HTN := Lib.hid (show TOwn (W6.alloc (.cells #[.int .i64 c.dev, .int .i64 c.id, .int .i64 c.fid, .string (T c.path), .string (T c.name), .bool cr] 51)) (w.heap.size + 4) (.slice (some ⟨W6.heap.size, 0, none⟩) 1 1) [⟨c, cr⟩] from World.ownsRow_lit W6 _ 1 (row_lt HZ.out) (by unfold maxLen; omega) rfl)
        have HZ9 := Lib.hid ((HAL.out.block _ (row_lt HZ.out)).trans HZ.out)
        have HB9 := Lib.hid (bnext HS.out.bel HAL.out)
        have HWI := Lib.hid (HWT.out _ [(⟨c, cr⟩ : Tgt)] (W6.alloc (.cells #[.int .i64 c.dev, .int .i64 c.id, .int .i64 c.fid, .string (T c.path), .string (T c.name), .bool cr] 51)) HB9.out (row_lt HZ9.out) HTN.out.tgts (fun hn => by
          obtain ⟨b', e1, e2, e3⟩ := HTN.out.block hn
          exact ⟨b', e1, HPP.out b' (by omega), by omega⟩))

        go_wp2_with fail
        (with_reducible refine HWI.out.mono ?_); rintro e wa ⟨a5, n5, c5, rfl, hm5, b5⟩
        have HZA := Lib.hid ((b5.block _ (row_lt HZ9.out)).trans HZ9.out)
        have HBA := Lib.hid (bnext HB9.out b5)
        have HMA := Lib.hid hm5
        clear b5 hm5 HWI h0 h1 h2 h3 h4 h5 h6 o0 o1 o2 o3 o4 c0 c1 c2 c3 c4 z0 z1 z2 z3 z4 z5 z6 y0 y1 y2 y3 y4 y5 y6
        obtain ⟨⟨z0, z1, z2, z3, z4, z5, z6⟩, ⟨y0, y1, y2, y3, y4, y5, y6⟩⟩ := ns_reads HZA.out
        unfold nsv
        go_wp2_with fail
        have hz := ns_stored (.int .i64 id) (.int .i64 r.dev) (.int .i64 r.id) (.int .i64 r.fid) (.string (T r.path)) (.string (T r.name)) (.slice a5 n5 c5) HZA.out
        obtain ⟨⟨x0, x1, x2, x3, x4, x5, x6⟩, _⟩ := ns_reads hz.1
        have HD := Lib.hid (grown_below HBA.out hz.2 (by omega))
        have HM := Lib.hid (fin_in HMA.out hz.2)
        exact bodyPost_ret (v := .tuple #[.agg #[.int .i64 id, .int .i64 r.dev, .int .i64 r.id, .int .i64 r.fid, .string (T r.path), .string (T r.name), .slice a5 n5 c5], .int .i64 0]) (by simp [results, Try.results40, go_sem, x0, x1, x2, x3, x4, x5, x6]) rfl (ns_err HPUT.out HM.out HD.out)
      · have HX4 := Lib.hid (show ¬ ((flag % 4 ≠ 0 ∧ 16 ≤ (Ns.base ms old).length) ∨ (Ns.find ms old < 0 ∧ 64 ≤ ms.length)) from fun h => by
          rcases h with h | h
          · exact h.1 HHW.out
          · have h0 := HX4T.out rfl; have h9 := h.1; omega)
        have HPUT := Lib.hid (show PM = (Ns.put ms old [(⟨c, cr⟩ : Tgt)], 0) from by
          rw [← HPM.out, Ns.add_done HBD.out HVV.out HX3.out HX4.out, HUB.out, HCE.out]
          unfold Ns.next
          rw [HHW.out]
          rfl)
        have HAL := Lib.hid ((Below.refl _ _).alloc (Nat.le_refl _) (.cells #[.int .i64 c.dev, .int .i64 c.id, .int .i64 c.fid, .string (T c.path), .string (T c.name), .bool cr] 51) : Below W6.heap.size W6 (W6.alloc (.cells #[.int .i64 c.dev, .int .i64 c.id, .int .i64 c.fid, .string (T c.path), .string (T c.name), .bool cr] 51)))
        have HTN := Lib.hid (show TOwn (W6.alloc (.cells #[.int .i64 c.dev, .int .i64 c.id, .int .i64 c.fid, .string (T c.path), .string (T c.name), .bool cr] 51)) (w.heap.size + 4) (.slice (some ⟨W6.heap.size, 0, none⟩) 1 1) [⟨c, cr⟩] from World.ownsRow_lit W6 _ 1 (row_lt HZ.out) (by unfold maxLen; omega) rfl)
        have HZ9 := Lib.hid ((HAL.out.block _ (row_lt HZ.out)).trans HZ.out)
        have HB9 := Lib.hid (bnext HS.out.bel HAL.out)
        have HWI := Lib.hid (HWT.out _ [(⟨c, cr⟩ : Tgt)] (W6.alloc (.cells #[.int .i64 c.dev, .int .i64 c.id, .int .i64 c.fid, .string (T c.path), .string (T c.name), .bool cr] 51)) HB9.out (row_lt HZ9.out) HTN.out.tgts (fun hn => by
          obtain ⟨b', e1, e2, e3⟩ := HTN.out.block hn
          exact ⟨b', e1, HPP.out b' (by omega), by omega⟩))

        go_wp2_with fail
        (with_reducible refine HWI.out.mono ?_); rintro e wa ⟨a5, n5, c5, rfl, hm5, b5⟩
        have HZA := Lib.hid ((b5.block _ (row_lt HZ9.out)).trans HZ9.out)
        have HBA := Lib.hid (bnext HB9.out b5)
        have HMA := Lib.hid hm5
        clear b5 hm5 HWI h0 h1 h2 h3 h4 h5 h6 o0 o1 o2 o3 o4 c0 c1 c2 c3 c4 z0 z1 z2 z3 z4 z5 z6 y0 y1 y2 y3 y4 y5 y6
        obtain ⟨⟨z0, z1, z2, z3, z4, z5, z6⟩, ⟨y0, y1, y2, y3, y4, y5, y6⟩⟩ := ns_reads HZA.out
        unfold nsv
        go_wp2_with fail
        have hz := ns_stored (.int .i64 id) (.int .i64 r.dev) (.int .i64 r.id) (.int .i64 r.fid) (.string (T r.path)) (.string (T r.name)) (.slice a5 n5 c5) HZA.out
        obtain ⟨⟨x0, x1, x2, x3, x4, x5, x6⟩, _⟩ := ns_reads hz.1
        have HD := Lib.hid (grown_below HBA.out hz.2 (by omega))
        have HM := Lib.hid (fin_in HMA.out hz.2)
        exact bodyPost_ret (v := .tuple #[.agg #[.int .i64 id, .int .i64 r.dev, .int .i64 r.id, .int .i64 r.fid, .string (T r.path), .string (T r.name), .slice a5 n5 c5], .int .i64 0]) (by simp [results, Try.results40, go_sem, x0, x1, x2, x3, x4, x5, x6]) rfl (ns_err HPUT.out HM.out HD.out)
    · have hwb : (HOW == 0) = false := beq_eq_false_iff_ne.2 hw0
      have h12 : HOW = 1 ∨ HOW = 2 := by have := HHW.out; have := HBD.out; omega
      have HW0 := Lib.hid hw0
      have HEL := Lib.hid (rin_any (.slice ua ub.length uc) ub c W6 HTU.out (by omega))
      rw [show Ns.ix (fun t : Tgt => Ns.same t.ch c) ub = Ns.elem ub c from rfl] at HEL
      unfold chv at HEL
      go_wp2_with fail
      (with_reducible refine HEL.out.mono ?_); rintro e W8 ⟨rfl, b8⟩
      replace HS := Lib.hid (HS.out.next b8)
      replace HZ := Lib.hid ((b8.block _ (row_lt HZ.out)).trans HZ.out)
      replace HT := Lib.hid ((b8.block _ (row_lt HT.out)).trans HT.out)
      replace HTU := Lib.hid (HTU.out.below b8)
      clear h0 h1 h2 h3 h4 h5 h6 o0 o1 o2 o3 o4 c0 c1 c2 c3 c4 z0 z1 z2 z3 z4 z5 z6 y0 y1 y2 y3 y4 y5 y6 t0 t1 t2 t3 t4 t5 b8 HEL
      obtain ⟨h0, h1, h2, h3, h4, h5, h6, o0, o1, o2, o3, o4, c0, c1, c2, c3, c4, _⟩ := HS.out.readt
      obtain ⟨⟨z0, z1, z2, z3, z4, z5, z6⟩, ⟨y0, y1, y2, y3, y4, y5, y6⟩⟩ := ns_reads HZ.out
      obtain ⟨t0, t1, t2, t3, t4, t5⟩ := mnt_reads HT.out
      obtain ⟨EL, hEL⟩ : ∃ x, Ns.elem ub c = x := ⟨_, rfl⟩
      have HEE := Lib.hid (show Ns.elem (Ns.base ms old) c = EL from by rw [HUB.out]; exact hEL)
      rw [hEL]
      clear hEL
      rcases Int.lt_or_le EL 0 with hel | hel
      rotate_left
      · have HPUT := Lib.hid (show PM = (ms, 7) from by
          rw [← HPM.out]
          exact Ns.add_exist HBD.out HVV.out ⟨by rw [HHW.out]; exact HW0.out, by rw [HEE.out]; exact hel⟩)
        have held : decide (0 ≤ EL) = true := decide_eq_true hel
        have HBN := Lib.hid HS.out.bel
        have HLN := Lib.hid (row_lt HZ.out)
        go_wp2_with fail
        have hz := ns_stored (.int .i64 id) (.int .i64 r.dev) (.int .i64 r.id) (.int .i64 r.fid) (.string (T r.path)) (.string (T r.name)) (.slice ao nn cp) HZ.out
        obtain ⟨⟨x0, x1, x2, x3, x4, x5, x6⟩, _⟩ := ns_reads hz.1
        have HD := Lib.hid (grown_below HBN.out hz.2 (by omega))
        have HM := Lib.hid (fin_in (HIN.out _ HBN.out HLN.out) hz.2)
        exact bodyPost_ret (v := .tuple #[.agg #[.int .i64 id, .int .i64 r.dev, .int .i64 r.id, .int .i64 r.fid, .string (T r.path), .string (T r.name), .slice ao nn cp], .int .i64 7]) (by simp [results, Try.results40, go_sem, x0, x1, x2, x3, x4, x5, x6]) rfl (ns_err HPUT.out HM.out HD.out)
      have hel1 : ¬ 0 ≤ EL := by omega
      have held : decide (0 ≤ EL) = false := decide_eq_false hel1
      have HX3 := Lib.hid (show ¬ (flag % 4 ≠ 0 ∧ 0 ≤ Ns.elem (Ns.base ms old) c) from fun h => by have := h.2; rw [HEE.out] at this; omega)
      rcases Nat.lt_or_ge ub.length 16 with h16 | h16
      rotate_left
      · have HPUT := Lib.hid (show PM = (ms, 22) from by
          rw [← HPM.out]
          exact Ns.add_full HBD.out HVV.out HX3.out (.inl ⟨by rw [HHW.out]; exact HW0.out, by rw [HUB.out]; exact h16⟩))
        have h16i : (16 : Int) ≤ ub.length := by omega
        have h16d : decide ((16 : Int) ≤ ub.length) = true := decide_eq_true h16i
        have HBN := Lib.hid HS.out.bel
        have HLN := Lib.hid (row_lt HZ.out)
        go_wp2_with fail
        have hz := ns_stored (.int .i64 id) (.int .i64 r.dev) (.int .i64 r.id) (.int .i64 r.fid) (.string (T r.path)) (.string (T r.name)) (.slice ao nn cp) HZ.out
        obtain ⟨⟨x0, x1, x2, x3, x4, x5, x6⟩, _⟩ := ns_reads hz.1
        have HD := Lib.hid (grown_below HBN.out hz.2 (by omega))
        have HM := Lib.hid (fin_in (HIN.out _ HBN.out HLN.out) hz.2)
        exact bodyPost_ret (v := .tuple #[.agg #[.int .i64 id, .int .i64 r.dev, .int .i64 r.id, .int .i64 r.fid, .string (T r.path), .string (T r.name), .slice ao nn cp], .int .i64 22]) (by simp [results, Try.results40, go_sem, x0, x1, x2, x3, x4, x5, x6]) rfl (ns_err HPUT.out HM.out HD.out)
      have h16i : ¬ (16 : Int) ≤ ub.length := by omega
      have h16d : decide ((16 : Int) ≤ ub.length) = false := decide_eq_false h16i
      have HX4B := Lib.hid (show ¬ (16 ≤ (Ns.base ms old).length) from by rw [HUB.out]; omega)
      cases uok
      · rcases Nat.lt_or_ge nn 64 with h64 | h64
        rotate_left
        · have HPUT := Lib.hid (show PM = (ms, 22) from by
            rw [← HPM.out]
            exact Ns.add_full HBD.out HVV.out HX3.out (.inr ⟨HX4R.out rfl, by rw [HNN.out]; exact h64⟩))
          have h64i : (64 : Int) ≤ nn := by omega
          have h64d : decide ((64 : Int) ≤ nn) = true := decide_eq_true h64i
          have HBN := Lib.hid HS.out.bel
          have HLN := Lib.hid (row_lt HZ.out)
          go_wp2_with fail
          have hz := ns_stored (.int .i64 id) (.int .i64 r.dev) (.int .i64 r.id) (.int .i64 r.fid) (.string (T r.path)) (.string (T r.name)) (.slice ao nn cp) HZ.out
          obtain ⟨⟨x0, x1, x2, x3, x4, x5, x6⟩, _⟩ := ns_reads hz.1
          have HD := Lib.hid (grown_below HBN.out hz.2 (by omega))
          have HM := Lib.hid (fin_in (HIN.out _ HBN.out HLN.out) hz.2)
          exact bodyPost_ret (v := .tuple #[.agg #[.int .i64 id, .int .i64 r.dev, .int .i64 r.id, .int .i64 r.fid, .string (T r.path), .string (T r.name), .slice ao nn cp], .int .i64 22]) (by simp [results, Try.results40, go_sem, x0, x1, x2, x3, x4, x5, x6]) rfl (ns_err HPUT.out HM.out HD.out)
        have h64i : ¬ (64 : Int) ≤ nn := by omega
        have h64d : decide ((64 : Int) ≤ nn) = false := decide_eq_false h64i
        have HX4 := Lib.hid (show ¬ ((flag % 4 ≠ 0 ∧ 16 ≤ (Ns.base ms old).length) ∨ (Ns.find ms old < 0 ∧ 64 ≤ ms.length)) from fun h => by
          rcases h with h | h
          · exact HX4B.out h.2
          · have := h.2; rw [HNN.out] at this; omega)
        rcases h12 with rfl | rfl
        · clear hw0 hwb HW0
          have HPUT := Lib.hid (show PM = (Ns.put ms old ((⟨c, cr⟩ : Tgt) :: ub), 0) from by
            rw [← HPM.out, Ns.add_done HBD.out HVV.out HX3.out HX4.out, HUB.out, HCE.out]
            unfold Ns.next
            rw [HHW.out]
            rfl)
          have HGB := Lib.hid (row_lt HT.out)
          have HR := Lib.hid (show RaR w W8 id r old c (.slice ao nn cp) gT cr from ⟨HS.out, HT.out, HGT.out⟩)
          have HSd : Hid (RaT w W8.drew id r old c (.slice ao nn cp) gT cr) := (HR.out.next (below_drew1 (Below.refl _ _))).readt
          have KG : Hid (∀ {W W' : World} {row : Option Nat}, W.grownBy W' row → (∀ b, row = some b → W8.heap.size ≤ b) → RaT w W id r old c (.slice ao nn cp) gT cr → RaT w W' id r old c (.slice ao nn cp) gT cr) := fun hg hr h => (h.r.grow hg hr HGB.out).readt
          have KS : Hid (∀ {W : World} (b0 b1 b2 b3 b4 b5 b6 : Value), RaT w W id r old c (.slice ao nn cp) gT cr → RaT w (((((((W.setCell ⟨w.heap.size + 3, 0, none⟩ b0).setCell ⟨w.heap.size + 3, 1, none⟩ b1).setCell ⟨w.heap.size + 3, 2, none⟩ b2).setCell ⟨w.heap.size + 3, 3, none⟩ b3).setCell ⟨w.heap.size + 3, 4, none⟩ b4).setCell ⟨w.heap.size + 3, 5, none⟩ b5).setCell ⟨w.heap.size + 3, 6, none⟩ b6) id r old c (.slice ao nn cp) gT cr) := fun b0 b1 b2 b3 b4 b5 b6 h =>
            (h.r.grown (grown_set (grown_set (grown_set (grown_set (grown_set (grown_set (grown_set (grown_refl _ _) 0 b0) 1 b1) 2 b2) 3 b3) 4 b4) 5 b5) 6 b6)).readt
          have HNO : Hid (ua = none → ub.length = 0 ∧ uc = 0) := fun h => tgts_none HTU.out h
          have HLN := Lib.hid (fl_length tge tge6 ub)
          have HON := Lib.hid (fl_one tge1 ub)
          have HAL := Lib.hid (below_drew1 ((Below.refl _ _).alloc (Nat.le_refl _) (.cells #[.int .i64 c.dev, .int .i64 c.id, .int .i64 c.fid, .string (T c.path), .string (T c.name), .bool cr] 51)) : Below W8.heap.size W8 ((W8.alloc (.cells #[.int .i64 c.dev, .int .i64 c.id, .int .i64 c.fid, .string (T c.path), .string (T c.name), .bool cr] 51)).drew))
          have HSe : Hid (RaT w ((W8.alloc (.cells #[.int .i64 c.dev, .int .i64 c.id, .int .i64 c.fid, .string (T c.path), .string (T c.name), .bool cr] 51)).drew) id r old c (.slice ao nn cp) gT cr) := (HR.out.next HAL.out).readt
          have HOWd : Hid (((W8.alloc (.cells #[.int .i64 c.dev, .int .i64 c.id, .int .i64 c.fid, .string (T c.path), .string (T c.name), .bool cr] 51)).drew).ownsRow W8.heap.size 51 6 (.slice (some ⟨W8.heap.size, 0, none⟩) 1 1) 1 (fl tge [(⟨c, cr⟩ : Tgt)])) := World.ownsRow_lit W8 _ 1 (Nat.le_refl _) (by unfold maxLen; omega) rfl
          have HZG : Hid (∀ W' : World, ((W8.alloc (.cells #[.int .i64 c.dev, .int .i64 c.id, .int .i64 c.fid, .string (T c.path), .string (T c.name), .bool cr] 51)).drew).grownBy W' (Value.slice (some ⟨W8.heap.size, 0, none⟩) 1 1).ownBlock → W'.heap[w.heap.size + 3]? = some (.cells #[.int .i64 0, .int .i64 0, .int .i64 0, .int .i64 0, .string ⟨#[]⟩, .string ⟨#[]⟩, .slice none 0 0] 26 (0, 0))) := fun W' hg => (hg.block _ (Nat.lt_of_lt_of_le (row_lt HZ.out) HAL.out.size) (fun e => by have := row_lt HZ.out; have := Option.some.inj (show some (w.heap.size + 3) = some W8.heap.size from e); omega)).trans ((HAL.out.block _ (row_lt HZ.out)).trans HZ.out)
          have HRW : Hid (∀ b, (Value.slice (some ⟨W8.heap.size, 0, none⟩) 1 1).ownBlock = some b → W8.heap.size ≤ b) := fun b hb => by cases hb; exact Nat.le_refl _
          have HNC : Hid (∀ ad, ua = some ad → ∀ j u', (fl tge ub)[j]? = some u' → ((W8.alloc (.cells #[.int .i64 c.dev, .int .i64 c.id, .int .i64 c.fid, .string (T c.path), .string (T c.name), .bool cr] 51)).drew).cell? (ad.add j) = some u') := fun ad ha j u' hj => tgts_cell (HTU.out.below HAL.out) ha j u' hj
          have HMX := Lib.hid (show 1 + ub.length ≤ maxLen from by unfold maxLen; omega)
          have HBY := Lib.hid (show (1 + ub.length) * 64 ≤ 140737488355328 from by omega)
          have HBS := Lib.hid (HAL.out.size)
          have HWI := Lib.hid (fun (v7 : Value) (W : World) (ho : TOwn W W8.heap.size v7 ((⟨c, cr⟩ : Tgt) :: ub)) (h : RaT w W id r old c (.slice ao nn cp) gT cr) (hz : W.heap[w.heap.size + 3]? = some (.cells #[.int .i64 0, .int .i64 0, .int .i64 0, .int .i64 0, .string ⟨#[]⟩, .string ⟨#[]⟩, .slice none 0 0] 26 (0, 0))) => (HWT.out v7 ((⟨c, cr⟩ : Tgt) :: ub) W h.r.1.bel (row_lt hz) ho.tgts (fun hn => by
              obtain ⟨b', e1, e2, e3⟩ := ho.block hn
              have := HGT.out
              have := HGB.out
              exact ⟨b', e1, HPP.out b' (by omega), by omega⟩)).mono fun e w' h' => (show ∃ a8 n8 c8, e = .returned (.agg #[.int .i64 id, .int .i64 r.dev, .int .i64 r.id, .int .i64 r.fid, .string (T r.path), .string (T r.name), .slice a8 n8 c8]) ∧ MIn w' (fun b => P b ∧ b ≠ w.heap.size + 3) (.slice a8 n8 c8) (Ns.put ms old ((⟨c, cr⟩ : Tgt) :: ub)) ∧ RaT w w' id r old c (.slice ao nn cp) gT cr ∧ w'.heap[w.heap.size + 3]? = some (.cells #[.int .i64 0, .int .i64 0, .int .i64 0, .int .i64 0, .string ⟨#[]⟩, .string ⟨#[]⟩, .slice none 0 0] 26 (0, 0)) ∧
              (w'.cell? ⟨w.heap.size + 3, 0, none⟩ = some (.int .i64 0) ∧ w'.cell? ⟨w.heap.size + 3, 1, none⟩ = some (.int .i64 0) ∧ w'.cell? ⟨w.heap.size + 3, 2, none⟩ = some (.int .i64 0) ∧ w'.cell? ⟨w.heap.size + 3, 3, none⟩ = some (.int .i64 0) ∧ w'.cell? ⟨w.heap.size + 3, 4, none⟩ = some (.string ⟨#[]⟩) ∧ w'.cell? ⟨w.heap.size + 3, 5, none⟩ = some (.string ⟨#[]⟩) ∧ w'.cell? ⟨w.heap.size + 3, 6, none⟩ = some (.slice none 0 0)) ∧
              (w'.frozen? ⟨w.heap.size + 3, 0, none⟩ = false ∧ w'.frozen? ⟨w.heap.size + 3, 1, none⟩ = false ∧ w'.frozen? ⟨w.heap.size + 3, 2, none⟩ = false ∧ w'.frozen? ⟨w.heap.size + 3, 3, none⟩ = false ∧ w'.frozen? ⟨w.heap.size + 3, 4, none⟩ = false ∧ w'.frozen? ⟨w.heap.size + 3, 5, none⟩ = false ∧ w'.frozen? ⟨w.heap.size + 3, 6, none⟩ = false) from by
            obtain ⟨a8, n8, c8, k1, k2, k3⟩ := h'
            have hz' := (k3.block _ (row_lt hz)).trans hz
            exact ⟨a8, n8, c8, k1, k2, (h.r.next k3).readt, hz', (ns_reads hz').1, (ns_reads hz').2⟩))
          unfold chv at HWI
          go_upto_region 19 with fail
          go_cut [9] (fun e w' => ∃ a8 n8 c8, e = .int .i64 0 ∧ Hid (w'.heap[w.heap.size + 3]? = some (.cells #[.int .i64 id, .int .i64 r.dev, .int .i64 r.id, .int .i64 r.fid, .string (T r.path), .string (T r.name), .slice a8 n8 c8] 26 (0, 0))) ∧ Hid (MIn w' P (.slice a8 n8 c8) (Ns.put ms old ((⟨c, cr⟩ : Tgt) :: ub))) ∧ Hid (Below w.heap.size w w'))
          case first =>
            repeat (rename (∀ (a : Act) (w : World), Code.wp _ _ _ a w → _) => ax; clear ax)
            go_region_held_law (fun W' => RaT w W' id r old c (.slice ao nn cp) gT cr) (first | (with_reducible assumption) | (with_reducible exact HSd.out) | (with_reducible exact HSe.out) | (with_reducible exact KG.out hgrow7 HRW.out (by assumption)) | (with_reducible exact KS.out _ _ _ _ _ _ _ (by assumption))) (first | (go_at_call 57; (with_reducible refine (HWI.out _ _ (own_cons hown7) (by assumption) (HZG.out _ hgrow7)).mono ?_); rintro e w' ⟨a8, n8, c8, rfl, hmn8, hkeep, hzk, ⟨z0, z1, z2, z3, z4, z5, z6⟩, ⟨y0, y1, y2, y3, y4, y5, y6⟩⟩; replace hzk := Lib.hid hzk; replace hmn8 := Lib.hid hmn8; clear hgrow7 hown7 hat7) | ((fail_if_success (have := hown7)); refine step_append_any (by rfl) _ _ _ (by rfl) W8.heap.size 51 i0 (.agg #[.int .i64 0, .int .i64 0, .int .i64 0, .string ByteArray.empty, .string ByteArray.empty, .bool false]) 6 64 Try.underlying41 hi0 hz0 hz1 hz2 rfl (by decide) (.slice (some ⟨W8.heap.size, 0, none⟩) 1 1) 1 (fl tge [(⟨c, cr⟩ : Tgt)]) (by rfl) HOWd.out ua ub.length uc (fl tge ub) (by rfl) HNO.out HLN.out HNC.out HON.out HMX.out HBY.out HBS.out ?_; intro v7 w7 hown7 hgrow7 hat7; obtain ⟨a7, c7, rfl⟩ := own_lt hown7))
            all_goals
              have hz := ns_stored (.int .i64 id) (.int .i64 r.dev) (.int .i64 r.id) (.int .i64 r.fid) (.string (T r.path)) (.string (T r.name)) (.slice a8 n8 c8) hzk.out
              go_wp2_with fail
              go_meet
              exact ⟨a8, n8, c8, rfl, Lib.hid hz.1, Lib.hid (fin_in hmn8.out hz.2), Lib.hid (grown_below (RaT.r hkeep).1.bel hz.2 (by omega))⟩
          case rest =>
            obtain ⟨a8, n8, c8, rfl, HZ8, HM8, HD8⟩ := hcut
            clear h0 h1 h2 h3 h4 h5 h6 o0 o1 o2 o3 o4 c0 c1 c2 c3 c4 z0 z1 z2 z3 z4 z5 z6 y0 y1 y2 y3 y4 y5 y6 t0 t1 t2 t3 t4 t5
            obtain ⟨⟨x0, x1, x2, x3, x4, x5, x6⟩, _⟩ := ns_reads HZ8.out
            go_wp2_with fail
            exact bodyPost_ret (v := .tuple #[.agg #[.int .i64 id, .int .i64 r.dev, .int .i64 r.id, .int .i64 r.fid, .string (T r.path), .string (T r.name), .slice a8 n8 c8], .int .i64 0]) (by simp [results, Try.results40, go_sem, x0, x1, x2, x3, x4, x5, x6]) rfl (ns_err HPUT.out HM8.out HD8.out)
        · clear hw0 hwb HW0
          have HPUT := Lib.hid (show PM = (Ns.put ms old (ub ++ [(⟨c, cr⟩ : Tgt)]), 0) from by
            rw [← HPM.out, Ns.add_done HBD.out HVV.out HX3.out HX4.out, HUB.out, HCE.out]
            unfold Ns.next
            rw [HHW.out]
            rfl)
          have HGB := Lib.hid (row_lt HT.out)
          have HR := Lib.hid (show RaR w W8 id r old c (.slice ao nn cp) gT cr from ⟨HS.out, HT.out, HGT.out⟩)
          have HSd : Hid (RaT w W8.drew id r old c (.slice ao nn cp) gT cr) := (HR.out.next (below_drew1 (Below.refl _ _))).readt
          have KG : Hid (∀ {W W' : World} {row : Option Nat}, W.grownBy W' row → (∀ b, row = some b → W8.heap.size ≤ b) → RaT w W id r old c (.slice ao nn cp) gT cr → RaT w W' id r old c (.slice ao nn cp) gT cr) := fun hg hr h => (h.r.grow hg hr HGB.out).readt
          have KS : Hid (∀ {W : World} (b0 b1 b2 b3 b4 b5 b6 : Value), RaT w W id r old c (.slice ao nn cp) gT cr → RaT w (((((((W.setCell ⟨w.heap.size + 3, 0, none⟩ b0).setCell ⟨w.heap.size + 3, 1, none⟩ b1).setCell ⟨w.heap.size + 3, 2, none⟩ b2).setCell ⟨w.heap.size + 3, 3, none⟩ b3).setCell ⟨w.heap.size + 3, 4, none⟩ b4).setCell ⟨w.heap.size + 3, 5, none⟩ b5).setCell ⟨w.heap.size + 3, 6, none⟩ b6) id r old c (.slice ao nn cp) gT cr) := fun b0 b1 b2 b3 b4 b5 b6 h =>
            (h.r.grown (grown_set (grown_set (grown_set (grown_set (grown_set (grown_set (grown_set (grown_refl _ _) 0 b0) 1 b1) 2 b2) 3 b3) 4 b4) 5 b5) 6 b6)).readt
          have HNO : Hid (ua = none → ub.length = 0 ∧ uc = 0) := fun h => tgts_none HTU.out h
          have HLN := Lib.hid (fl_length tge tge6 ub)
          have HON := Lib.hid (fl_one tge1 ub)
          have HMX := Lib.hid (show 0 + ub.length ≤ maxLen from by unfold maxLen; omega)
          have HBY := Lib.hid (show (0 + ub.length) * 64 ≤ 140737488355328 from by omega)
          have HMY := Lib.hid (show ub.length + 1 ≤ maxLen from by unfold maxLen; omega)
          have HBZ := Lib.hid (show (ub.length + 1) * 64 ≤ 140737488355328 from by omega)
          have HL1 := Lib.hid (fl_length tge tge6 [(⟨c, cr⟩ : Tgt)])
          have HO1x := Lib.hid (fl_one tge1 [(⟨c, cr⟩ : Tgt)])
          have HE1 := Lib.hid (below_drew1 ((Below.refl _ _).alloc (Nat.le_refl _) (.cells #[] 51)) : Below W8.heap.size W8 (W8.alloc (.cells #[] 51)).drew)
          have HE2 := Lib.hid (below_drew1 (((Below.refl _ _).alloc (Nat.le_refl _) (.cells #[] 51)).alloc (by simp) (.cells #[.int .i64 c.dev, .int .i64 c.id, .int .i64 c.fid, .string (T c.path), .string (T c.name), .bool cr] 51)) : Below W8.heap.size W8 ((W8.alloc (.cells #[] 51)).alloc (.cells #[.int .i64 c.dev, .int .i64 c.id, .int .i64 c.fid, .string (T c.path), .string (T c.name), .bool cr] 51)).drew)
          have HE4 := Lib.hid (below_drew1 ((Below.refl _ _).alloc (Nat.le_refl _) (.cells #[.int .i64 c.dev, .int .i64 c.id, .int .i64 c.fid, .string (T c.path), .string (T c.name), .bool cr] 51)) : Below W8.heap.size W8 (W8.alloc (.cells #[.int .i64 c.dev, .int .i64 c.id, .int .i64 c.fid, .string (T c.path), .string (T c.name), .bool cr] 51)).drew)
          have HE3 := Lib.hid (below_drew1 (((Below.refl _ _).alloc (Nat.le_refl _) (.cells #[.int .i64 c.dev, .int .i64 c.id, .int .i64 c.fid, .string (T c.path), .string (T c.name), .bool cr] 51)).alloc (by simp) (.cells #[] 51)) : Below W8.heap.size W8 ((W8.alloc (.cells #[.int .i64 c.dev, .int .i64 c.id, .int .i64 c.fid, .string (T c.path), .string (T c.name), .bool cr] 51)).alloc (.cells #[] 51)).drew)
          have HSe1 := Lib.hid ((HR.out.next HE1.out).readt)
          have HSe2 := Lib.hid ((HR.out.next HE2.out).readt)
          have HSe3 := Lib.hid ((HR.out.next HE3.out).readt)
          have HSe4 := Lib.hid ((HR.out.next HE4.out).readt)
          have HO1 : Hid ((W8.alloc (.cells #[] 51)).drew.ownsRow W8.heap.size 51 6 (.slice (some ⟨W8.heap.size, 0, none⟩) 0 0) 0 []) := ⟨rfl, .inr ⟨W8.heap.size, 0, #[], rfl, Nat.le_refl _, heap_alloc_new W8 _, Nat.le_refl _, by unfold maxLen; omega, rfl, rfl⟩⟩
          have HO2 : Hid (((W8.alloc (.cells #[] 51)).alloc (.cells #[.int .i64 c.dev, .int .i64 c.id, .int .i64 c.fid, .string (T c.path), .string (T c.name), .bool cr] 51)).drew.ownsRow W8.heap.size 51 6 (.slice (some ⟨W8.heap.size, 0, none⟩) 0 0) 0 []) := ⟨rfl, .inr ⟨W8.heap.size, 0, #[], rfl, Nat.le_refl _, (Lib.alloc_old _ _ _ (row_lt (heap_alloc_new W8 (.cells #[] 51)))).trans (heap_alloc_new W8 _), Nat.le_refl _, by unfold maxLen; omega, rfl, rfl⟩⟩
          have HO3 : Hid (((W8.alloc (.cells #[.int .i64 c.dev, .int .i64 c.id, .int .i64 c.fid, .string (T c.path), .string (T c.name), .bool cr] 51)).alloc (.cells #[] 51)).drew.ownsRow W8.heap.size 51 6 (.slice (some ⟨W8.heap.size + 1, 0, none⟩) 0 0) 0 []) := ⟨rfl, .inr ⟨W8.heap.size + 1, 0, #[], rfl, Nat.le_succ _, ((congrArg (fun n => ((W8.alloc (.cells #[.int .i64 c.dev, .int .i64 c.id, .int .i64 c.fid, .string (T c.path), .string (T c.name), .bool cr] 51)).alloc (.cells #[] 51)).heap[n]?) (show W8.heap.size + 1 = (W8.alloc (.cells #[.int .i64 c.dev, .int .i64 c.id, .int .i64 c.fid, .string (T c.path), .string (T c.name), .bool cr] 51)).heap.size from by simp)).trans (heap_alloc_new _ _)), Nat.le_refl _, by unfold maxLen; omega, rfl, rfl⟩⟩
          have HX2 : Hid (((W8.alloc (.cells #[] 51)).alloc (.cells #[.int .i64 c.dev, .int .i64 c.id, .int .i64 c.fid, .string (T c.path), .string (T c.name), .bool cr] 51)).drew.heap[W8.heap.size + 1]? = some (.cells #[.int .i64 c.dev, .int .i64 c.id, .int .i64 c.fid, .string (T c.path), .string (T c.name), .bool cr] 51 (0, 0))) := ((congrArg (fun n => ((W8.alloc (.cells #[] 51)).alloc (.cells #[.int .i64 c.dev, .int .i64 c.id, .int .i64 c.fid, .string (T c.path), .string (T c.name), .bool cr] 51)).heap[n]?) (show W8.heap.size + 1 = (W8.alloc (.cells #[] 51)).heap.size from by simp)).trans (heap_alloc_new _ _))
          have HX3r : Hid (((W8.alloc (.cells #[.int .i64 c.dev, .int .i64 c.id, .int .i64 c.fid, .string (T c.path), .string (T c.name), .bool cr] 51)).alloc (.cells #[] 51)).drew.heap[W8.heap.size]? = some (.cells #[.int .i64 c.dev, .int .i64 c.id, .int .i64 c.fid, .string (T c.path), .string (T c.name), .bool cr] 51 (0, 0))) := ((Lib.alloc_old _ _ _ (row_lt (heap_alloc_new W8 (.cells #[.int .i64 c.dev, .int .i64 c.id, .int .i64 c.fid, .string (T c.path), .string (T c.name), .bool cr] 51)))).trans (heap_alloc_new W8 _))
          have XN2 : Hid ((Value.slice (some ⟨W8.heap.size, 0, none⟩) 0 0).ownBlock ≠ some (W8.heap.size + 1)) := fun e => by have := Option.some.inj (show some W8.heap.size = some (W8.heap.size + 1) from e); omega
          have XN3 : Hid ((Value.slice (some ⟨W8.heap.size + 1, 0, none⟩) 0 0).ownBlock ≠ some W8.heap.size) := fun e => by have := Option.some.inj (show some (W8.heap.size + 1) = some W8.heap.size from e); omega
          have XG : Hid (∀ {W W' : World} {row : Option Nat} {g : Nat} {o : Obj}, W.grownBy W' row → row ≠ some g → W.heap[g]? = some o → W'.heap[g]? = some o) := fun hg hn h => (hg.block _ (row_lt h) (fun e => hn e.symm)).trans h
          have XC : Hid (∀ (W : World) (g : Nat), W.heap[g]? = some (.cells #[.int .i64 c.dev, .int .i64 c.id, .int .i64 c.fid, .string (T c.path), .string (T c.name), .bool cr] 51 (0, 0)) → ∀ ad, (some (⟨g, 0, none⟩ : Addr)) = some ad → ∀ j u', (fl tge [(⟨c, cr⟩ : Tgt)])[j]? = some u' → W.cell? (ad.add j) = some u') := fun W g h ad ha j u' hj => by
            cases ha
            rw [Addr.add_lit, Nat.zero_add, cell_of_row _ _ _ _ _ _ h]; simpa [fl, tge] using hj
          have ZG : Hid (∀ {W W' : World} {row : Option Nat}, W.grownBy W' row → (∀ b, row = some b → W8.heap.size ≤ b) → W.heap[w.heap.size + 3]? = some (.cells #[.int .i64 0, .int .i64 0, .int .i64 0, .int .i64 0, .string ⟨#[]⟩, .string ⟨#[]⟩, .slice none 0 0] 26 (0, 0)) → W'.heap[w.heap.size + 3]? = some (.cells #[.int .i64 0, .int .i64 0, .int .i64 0, .int .i64 0, .string ⟨#[]⟩, .string ⟨#[]⟩, .slice none 0 0] 26 (0, 0))) := fun hg hr h => (grown_any hg hr _ (row_lt HZ.out) (row_lt h)).trans h
          have ZA : Hid (∀ {W : World} {o : Obj}, W.heap[w.heap.size + 3]? = some (.cells #[.int .i64 0, .int .i64 0, .int .i64 0, .int .i64 0, .string ⟨#[]⟩, .string ⟨#[]⟩, .slice none 0 0] 26 (0, 0)) → (W.alloc o).heap[w.heap.size + 3]? = some (.cells #[.int .i64 0, .int .i64 0, .int .i64 0, .int .i64 0, .string ⟨#[]⟩, .string ⟨#[]⟩, .slice none 0 0] 26 (0, 0))) := fun h => (Lib.alloc_old _ _ _ (row_lt h)).trans h
          have KA : Hid (∀ {W : World} (o : Obj), RaT w W id r old c (.slice ao nn cp) gT cr → RaT w (W.alloc o) id r old c (.slice ao nn cp) gT cr) := fun o h => (h.r.next ((Below.refl _ _).alloc (Nat.le_refl _) o)).readt
          have HZ1 := Lib.hid ((HE1.out.block _ (row_lt HZ.out)).trans HZ.out)
          have HZ2 := Lib.hid ((HE2.out.block _ (row_lt HZ.out)).trans HZ.out)
          have HZ3 := Lib.hid ((HE3.out.block _ (row_lt HZ.out)).trans HZ.out)
          have HRW1 : Hid (∀ b, (Value.slice (some ⟨W8.heap.size, 0, none⟩) 0 0).ownBlock = some b → W8.heap.size ≤ b) := fun b hb => by cases hb; exact Nat.le_refl _
          have HRW2 := HRW1
          have HRW3 : Hid (∀ b, (Value.slice (some ⟨W8.heap.size + 1, 0, none⟩) 0 0).ownBlock = some b → W8.heap.size ≤ b) := fun b hb => by cases hb; exact Nat.le_succ _
          have HNC1 : Hid (∀ ad, ua = some ad → ∀ j u', (fl tge ub)[j]? = some u' → (W8.alloc (.cells #[] 51)).drew.cell? (ad.add j) = some u') := fun ad ha j u' hj => tgts_cell (HTU.out.below HE1.out) ha j u' hj
          have HNC2 : Hid (∀ ad, ua = some ad → ∀ j u', (fl tge ub)[j]? = some u' → ((W8.alloc (.cells #[] 51)).alloc (.cells #[.int .i64 c.dev, .int .i64 c.id, .int .i64 c.fid, .string (T c.path), .string (T c.name), .bool cr] 51)).drew.cell? (ad.add j) = some u') := fun ad ha j u' hj => tgts_cell (HTU.out.below HE2.out) ha j u' hj
          have HNC3 : Hid (∀ ad, ua = some ad → ∀ j u', (fl tge ub)[j]? = some u' → ((W8.alloc (.cells #[.int .i64 c.dev, .int .i64 c.id, .int .i64 c.fid, .string (T c.path), .string (T c.name), .bool cr] 51)).alloc (.cells #[] 51)).drew.cell? (ad.add j) = some u') := fun ad ha j u' hj => tgts_cell (HTU.out.below HE3.out) ha j u' hj
          have HBS1 := Lib.hid (HE1.out.size)
          have HBS2 := Lib.hid (HE2.out.size)
          have HBS3 := Lib.hid (HE3.out.size)
          have HWI := Lib.hid (fun (v7 : Value) (W : World) (ho : TOwn W W8.heap.size v7 (ub ++ [(⟨c, cr⟩ : Tgt)])) (h : RaT w W id r old c (.slice ao nn cp) gT cr) (hz : W.heap[w.heap.size + 3]? = some (.cells #[.int .i64 0, .int .i64 0, .int .i64 0, .int .i64 0, .string ⟨#[]⟩, .string ⟨#[]⟩, .slice none 0 0] 26 (0, 0))) => (HWT.out v7 (ub ++ [(⟨c, cr⟩ : Tgt)]) W h.r.1.bel (row_lt hz) ho.tgts (fun hn => by
              obtain ⟨b', e1, e2, e3⟩ := ho.block hn
              have := HGT.out
              have := HGB.out
              exact ⟨b', e1, HPP.out b' (by omega), by omega⟩)).mono fun e w' h' => (show ∃ a8 n8 c8, e = .returned (.agg #[.int .i64 id, .int .i64 r.dev, .int .i64 r.id, .int .i64 r.fid, .string (T r.path), .string (T r.name), .slice a8 n8 c8]) ∧ MIn w' (fun b => P b ∧ b ≠ w.heap.size + 3) (.slice a8 n8 c8) (Ns.put ms old (ub ++ [(⟨c, cr⟩ : Tgt)])) ∧ RaT w w' id r old c (.slice ao nn cp) gT cr ∧ w'.heap[w.heap.size + 3]? = some (.cells #[.int .i64 0, .int .i64 0, .int .i64 0, .int .i64 0, .string ⟨#[]⟩, .string ⟨#[]⟩, .slice none 0 0] 26 (0, 0)) ∧
              (w'.cell? ⟨w.heap.size + 3, 0, none⟩ = some (.int .i64 0) ∧ w'.cell? ⟨w.heap.size + 3, 1, none⟩ = some (.int .i64 0) ∧ w'.cell? ⟨w.heap.size + 3, 2, none⟩ = some (.int .i64 0) ∧ w'.cell? ⟨w.heap.size + 3, 3, none⟩ = some (.int .i64 0) ∧ w'.cell? ⟨w.heap.size + 3, 4, none⟩ = some (.string ⟨#[]⟩) ∧ w'.cell? ⟨w.heap.size + 3, 5, none⟩ = some (.string ⟨#[]⟩) ∧ w'.cell? ⟨w.heap.size + 3, 6, none⟩ = some (.slice none 0 0)) ∧
              (w'.frozen? ⟨w.heap.size + 3, 0, none⟩ = false ∧ w'.frozen? ⟨w.heap.size + 3, 1, none⟩ = false ∧ w'.frozen? ⟨w.heap.size + 3, 2, none⟩ = false ∧ w'.frozen? ⟨w.heap.size + 3, 3, none⟩ = false ∧ w'.frozen? ⟨w.heap.size + 3, 4, none⟩ = false ∧ w'.frozen? ⟨w.heap.size + 3, 5, none⟩ = false ∧ w'.frozen? ⟨w.heap.size + 3, 6, none⟩ = false) from by
            obtain ⟨a8, n8, c8, k1, k2, k3⟩ := h'
            have hz' := (k3.block _ (row_lt hz)).trans hz
            exact ⟨a8, n8, c8, k1, k2, (h.r.next k3).readt, hz', (ns_reads hz').1, (ns_reads hz').2⟩))
          unfold chv at HWI
          go_upto_region 20 with fail
          go_cut [9] (fun e w' => ∃ a8 n8 c8, e = .int .i64 0 ∧ Hid (w'.heap[w.heap.size + 3]? = some (.cells #[.int .i64 id, .int .i64 r.dev, .int .i64 r.id, .int .i64 r.fid, .string (T r.path), .string (T r.name), .slice a8 n8 c8] 26 (0, 0))) ∧ Hid (MIn w' P (.slice a8 n8 c8) (Ns.put ms old (ub ++ [(⟨c, cr⟩ : Tgt)]))) ∧ Hid (Below w.heap.size w w'))
          case first =>
            go_region_held_law (fun W' => RaT w W' id r old c (.slice ao nn cp) gT cr) (first | (with_reducible assumption) | (with_reducible exact HSd.out) | (with_reducible exact HSe1.out) | (with_reducible exact HSe2.out) | (with_reducible exact HSe3.out) | (with_reducible exact HSe4.out) | (with_reducible exact KG.out hgrow8 hrow8 (by assumption)) | (with_reducible exact KG.out hgrow7 HRW1.out (by assumption)) | (with_reducible exact KG.out hgrow7 HRW3.out (by assumption)) | (with_reducible exact KA.out _ (by assumption)) | (with_reducible exact KS.out _ _ _ _ _ _ _ (by assumption))) (first | (go_at_call 57; (with_reducible refine (HWI.out _ _ (own_snoc hown8) (by assumption) hz8).mono ?_); rintro e w' ⟨a8, n8, c8, rfl, hmn8, hkeep, hzk, ⟨z0, z1, z2, z3, z4, z5, z6⟩, ⟨y0, y1, y2, y3, y4, y5, y6⟩⟩; replace hzk := Lib.hid hzk; replace hmn8 := Lib.hid hmn8; (try clear hx7); (try clear hs7); (try clear hz7); clear hz8 hrow8 hgrow8 hown8 hat8; clear hgrow7 hown7 hat7) | ((fail_if_success (have := hown7)); refine step_append_any (by rfl) _ _ _ (by rfl) W8.heap.size 51 i0 (.agg #[.int .i64 0, .int .i64 0, .int .i64 0, .string ByteArray.empty, .string ByteArray.empty, .bool false]) 6 64 Try.underlying41 hi0 hz0 hz1 hz2 rfl (by decide) (.slice (some ⟨W8.heap.size, 0, none⟩) 0 0) 0 [] (by rfl) HO1.out ua ub.length uc (fl tge ub) (by rfl) HNO.out HLN.out HNC1.out HON.out HMX.out HBY.out HBS1.out ?_; intro v7 w7 hown7 hgrow7 hat7; simp only [Nat.zero_add, List.nil_append] at hown7; obtain ⟨a7, c7, rfl⟩ := own_lt hown7; have hz7 := ZG.out hgrow7 HRW1.out HZ1.out; have hs7 := Nat.le_trans HBS1.out hgrow7.size) | ((fail_if_success (have := hown7)); refine step_append_any (by rfl) _ _ _ (by rfl) W8.heap.size 51 i0 (.agg #[.int .i64 0, .int .i64 0, .int .i64 0, .string ByteArray.empty, .string ByteArray.empty, .bool false]) 6 64 Try.underlying41 hi0 hz0 hz1 hz2 rfl (by decide) (.slice (some ⟨W8.heap.size, 0, none⟩) 0 0) 0 [] (by rfl) HO2.out ua ub.length uc (fl tge ub) (by rfl) HNO.out HLN.out HNC2.out HON.out HMX.out HBY.out HBS2.out ?_; intro v7 w7 hown7 hgrow7 hat7; simp only [Nat.zero_add, List.nil_append] at hown7; obtain ⟨a7, c7, rfl⟩ := own_lt hown7; have hz7 := ZG.out hgrow7 HRW2.out HZ2.out; have hs7 := Nat.le_trans HBS2.out hgrow7.size; have hx7 := XG.out hgrow7 XN2.out HX2.out) | ((fail_if_success (have := hown7)); refine step_append_any (by rfl) _ _ _ (by rfl) W8.heap.size 51 i0 (.agg #[.int .i64 0, .int .i64 0, .int .i64 0, .string ByteArray.empty, .string ByteArray.empty, .bool false]) 6 64 Try.underlying41 hi0 hz0 hz1 hz2 rfl (by decide) (.slice (some ⟨W8.heap.size + 1, 0, none⟩) 0 0) 0 [] (by rfl) HO3.out ua ub.length uc (fl tge ub) (by rfl) HNO.out HLN.out HNC3.out HON.out HMX.out HBY.out HBS3.out ?_; intro v7 w7 hown7 hgrow7 hat7; simp only [Nat.zero_add, List.nil_append] at hown7; obtain ⟨a7, c7, rfl⟩ := own_lt hown7; have hz7 := ZG.out hgrow7 HRW3.out HZ3.out; have hs7 := Nat.le_trans HBS3.out hgrow7.size; have hx7 := XG.out hgrow7 XN3.out HX3r.out) | ((fail_if_success (have := hown8)); (have := hown7); refine step_append_any (by rfl) _ _ _ (by rfl) W8.heap.size 51 i0 (.agg #[.int .i64 0, .int .i64 0, .int .i64 0, .string ByteArray.empty, .string ByteArray.empty, .bool false]) 6 64 Try.underlying41 hi0 hz0 hz1 hz2 rfl (by decide) (.slice a7 ub.length c7) ub.length (fl tge ub) (by rfl) (hown7.alloc _) (some ⟨w7.heap.size, 0, none⟩) 1 1 (fl tge [(⟨c, cr⟩ : Tgt)]) (by rfl) (fun h => nomatch h) HL1.out (XC.out _ _ (heap_alloc_new w7 _)) HO1x.out HMY.out HBZ.out (by simp; omega) ?_; intro v8 w8 hown8 hgrow8 hat8; obtain ⟨a8', c8', rfl⟩ := own_lt hown8; have hrow8 := fun b hb => (hown7.lt b hb).1; have hz8 := ZG.out hgrow8 hrow8 (ZA.out hz7)) | ((fail_if_success (have := hown8)); (have := hown7); refine step_append_any (by rfl) _ _ _ (by rfl) W8.heap.size 51 i0 (.agg #[.int .i64 0, .int .i64 0, .int .i64 0, .string ByteArray.empty, .string ByteArray.empty, .bool false]) 6 64 Try.underlying41 hi0 hz0 hz1 hz2 rfl (by decide) (.slice a7 ub.length c7) ub.length (fl tge ub) (by rfl) hown7 (some ⟨W8.heap.size + 1, 0, none⟩) 1 1 (fl tge [(⟨c, cr⟩ : Tgt)]) (by rfl) (fun h => nomatch h) HL1.out (XC.out _ _ hx7) HO1x.out HMY.out HBZ.out hs7 ?_; intro v8 w8 hown8 hgrow8 hat8; obtain ⟨a8', c8', rfl⟩ := own_lt hown8; have hrow8 := fun b hb => (hown7.lt b hb).1; have hz8 := ZG.out hgrow8 hrow8 hz7) | ((fail_if_success (have := hown8)); (have := hown7); refine step_append_any (by rfl) _ _ _ (by rfl) W8.heap.size 51 i0 (.agg #[.int .i64 0, .int .i64 0, .int .i64 0, .string ByteArray.empty, .string ByteArray.empty, .bool false]) 6 64 Try.underlying41 hi0 hz0 hz1 hz2 rfl (by decide) (.slice a7 ub.length c7) ub.length (fl tge ub) (by rfl) hown7 (some ⟨W8.heap.size, 0, none⟩) 1 1 (fl tge [(⟨c, cr⟩ : Tgt)]) (by rfl) (fun h => nomatch h) HL1.out (XC.out _ _ hx7) HO1x.out HMY.out HBZ.out hs7 ?_; intro v8 w8 hown8 hgrow8 hat8; obtain ⟨a8', c8', rfl⟩ := own_lt hown8; have hrow8 := fun b hb => (hown7.lt b hb).1; have hz8 := ZG.out hgrow8 hrow8 hz7))
            all_goals
              have hz := ns_stored (.int .i64 id) (.int .i64 r.dev) (.int .i64 r.id) (.int .i64 r.fid) (.string (T r.path)) (.string (T r.name)) (.slice a8 n8 c8) hzk.out
              go_wp2_with fail
              go_meet
              exact ⟨a8, n8, c8, rfl, Lib.hid hz.1, Lib.hid (fin_in hmn8.out hz.2), Lib.hid (grown_below (RaT.r hkeep).1.bel hz.2 (by omega))⟩
          case rest =>
            obtain ⟨a8, n8, c8, rfl, HZ8, HM8, HD8⟩ := hcut
            clear h0 h1 h2 h3 h4 h5 h6 o0 o1 o2 o3 o4 c0 c1 c2 c3 c4 z0 z1 z2 z3 z4 z5 z6 y0 y1 y2 y3 y4 y5 y6 t0 t1 t2 t3 t4 t5
            obtain ⟨⟨x0, x1, x2, x3, x4, x5, x6⟩, _⟩ := ns_reads HZ8.out
            go_wp2_with fail
            exact bodyPost_ret (v := .tuple #[.agg #[.int .i64 id, .int .i64 r.dev, .int .i64 r.id, .int .i64 r.fid, .string (T r.path), .string (T r.name), .slice a8 n8 c8], .int .i64 0]) (by simp [results, Try.results40, go_sem, x0, x1, x2, x3, x4, x5, x6]) rfl (ns_err HPUT.out HM8.out HD8.out)
      · have HX4 := Lib.hid (show ¬ ((flag % 4 ≠ 0 ∧ 16 ≤ (Ns.base ms old).length) ∨ (Ns.find ms old < 0 ∧ 64 ≤ ms.length)) from fun h => by
          rcases h with h | h
          · exact HX4B.out h.2
          · have h0 := HX4T.out rfl; have h9 := h.1; omega)
        rcases h12 with rfl | rfl
        · clear hw0 hwb HW0
          have HPUT := Lib.hid (show PM = (Ns.put ms old ((⟨c, cr⟩ : Tgt) :: ub), 0) from by
            rw [← HPM.out, Ns.add_done HBD.out HVV.out HX3.out HX4.out, HUB.out, HCE.out]
            unfold Ns.next
            rw [HHW.out]
            rfl)
          have HGB := Lib.hid (row_lt HT.out)
          have HR := Lib.hid (show RaR w W8 id r old c (.slice ao nn cp) gT cr from ⟨HS.out, HT.out, HGT.out⟩)
          have HSd : Hid (RaT w W8.drew id r old c (.slice ao nn cp) gT cr) := (HR.out.next (below_drew1 (Below.refl _ _))).readt
          have KG : Hid (∀ {W W' : World} {row : Option Nat}, W.grownBy W' row → (∀ b, row = some b → W8.heap.size ≤ b) → RaT w W id r old c (.slice ao nn cp) gT cr → RaT w W' id r old c (.slice ao nn cp) gT cr) := fun hg hr h => (h.r.grow hg hr HGB.out).readt
          have KS : Hid (∀ {W : World} (b0 b1 b2 b3 b4 b5 b6 : Value), RaT w W id r old c (.slice ao nn cp) gT cr → RaT w (((((((W.setCell ⟨w.heap.size + 3, 0, none⟩ b0).setCell ⟨w.heap.size + 3, 1, none⟩ b1).setCell ⟨w.heap.size + 3, 2, none⟩ b2).setCell ⟨w.heap.size + 3, 3, none⟩ b3).setCell ⟨w.heap.size + 3, 4, none⟩ b4).setCell ⟨w.heap.size + 3, 5, none⟩ b5).setCell ⟨w.heap.size + 3, 6, none⟩ b6) id r old c (.slice ao nn cp) gT cr) := fun b0 b1 b2 b3 b4 b5 b6 h =>
            (h.r.grown (grown_set (grown_set (grown_set (grown_set (grown_set (grown_set (grown_set (grown_refl _ _) 0 b0) 1 b1) 2 b2) 3 b3) 4 b4) 5 b5) 6 b6)).readt
          have HNO : Hid (ua = none → ub.length = 0 ∧ uc = 0) := fun h => tgts_none HTU.out h
          have HLN := Lib.hid (fl_length tge tge6 ub)
          have HON := Lib.hid (fl_one tge1 ub)
          have HAL := Lib.hid (below_drew1 ((Below.refl _ _).alloc (Nat.le_refl _) (.cells #[.int .i64 c.dev, .int .i64 c.id, .int .i64 c.fid, .string (T c.path), .string (T c.name), .bool cr] 51)) : Below W8.heap.size W8 ((W8.alloc (.cells #[.int .i64 c.dev, .int .i64 c.id, .int .i64 c.fid, .string (T c.path), .string (T c.name), .bool cr] 51)).drew))
          have HSe : Hid (RaT w ((W8.alloc (.cells #[.int .i64 c.dev, .int .i64 c.id, .int .i64 c.fid, .string (T c.path), .string (T c.name), .bool cr] 51)).drew) id r old c (.slice ao nn cp) gT cr) := (HR.out.next HAL.out).readt
          have HOWd : Hid (((W8.alloc (.cells #[.int .i64 c.dev, .int .i64 c.id, .int .i64 c.fid, .string (T c.path), .string (T c.name), .bool cr] 51)).drew).ownsRow W8.heap.size 51 6 (.slice (some ⟨W8.heap.size, 0, none⟩) 1 1) 1 (fl tge [(⟨c, cr⟩ : Tgt)])) := World.ownsRow_lit W8 _ 1 (Nat.le_refl _) (by unfold maxLen; omega) rfl
          have HZG : Hid (∀ W' : World, ((W8.alloc (.cells #[.int .i64 c.dev, .int .i64 c.id, .int .i64 c.fid, .string (T c.path), .string (T c.name), .bool cr] 51)).drew).grownBy W' (Value.slice (some ⟨W8.heap.size, 0, none⟩) 1 1).ownBlock → W'.heap[w.heap.size + 3]? = some (.cells #[.int .i64 0, .int .i64 0, .int .i64 0, .int .i64 0, .string ⟨#[]⟩, .string ⟨#[]⟩, .slice none 0 0] 26 (0, 0))) := fun W' hg => (hg.block _ (Nat.lt_of_lt_of_le (row_lt HZ.out) HAL.out.size) (fun e => by have := row_lt HZ.out; have := Option.some.inj (show some (w.heap.size + 3) = some W8.heap.size from e); omega)).trans ((HAL.out.block _ (row_lt HZ.out)).trans HZ.out)
          have HRW : Hid (∀ b, (Value.slice (some ⟨W8.heap.size, 0, none⟩) 1 1).ownBlock = some b → W8.heap.size ≤ b) := fun b hb => by cases hb; exact Nat.le_refl _
          have HNC : Hid (∀ ad, ua = some ad → ∀ j u', (fl tge ub)[j]? = some u' → ((W8.alloc (.cells #[.int .i64 c.dev, .int .i64 c.id, .int .i64 c.fid, .string (T c.path), .string (T c.name), .bool cr] 51)).drew).cell? (ad.add j) = some u') := fun ad ha j u' hj => tgts_cell (HTU.out.below HAL.out) ha j u' hj
          have HMX := Lib.hid (show 1 + ub.length ≤ maxLen from by unfold maxLen; omega)
          have HBY := Lib.hid (show (1 + ub.length) * 64 ≤ 140737488355328 from by omega)
          have HBS := Lib.hid (HAL.out.size)
          have HWI := Lib.hid (fun (v7 : Value) (W : World) (ho : TOwn W W8.heap.size v7 ((⟨c, cr⟩ : Tgt) :: ub)) (h : RaT w W id r old c (.slice ao nn cp) gT cr) (hz : W.heap[w.heap.size + 3]? = some (.cells #[.int .i64 0, .int .i64 0, .int .i64 0, .int .i64 0, .string ⟨#[]⟩, .string ⟨#[]⟩, .slice none 0 0] 26 (0, 0))) => (HWT.out v7 ((⟨c, cr⟩ : Tgt) :: ub) W h.r.1.bel (row_lt hz) ho.tgts (fun hn => by
              obtain ⟨b', e1, e2, e3⟩ := ho.block hn
              have := HGT.out
              have := HGB.out
              exact ⟨b', e1, HPP.out b' (by omega), by omega⟩)).mono fun e w' h' => (show ∃ a8 n8 c8, e = .returned (.agg #[.int .i64 id, .int .i64 r.dev, .int .i64 r.id, .int .i64 r.fid, .string (T r.path), .string (T r.name), .slice a8 n8 c8]) ∧ MIn w' (fun b => P b ∧ b ≠ w.heap.size + 3) (.slice a8 n8 c8) (Ns.put ms old ((⟨c, cr⟩ : Tgt) :: ub)) ∧ RaT w w' id r old c (.slice ao nn cp) gT cr ∧ w'.heap[w.heap.size + 3]? = some (.cells #[.int .i64 0, .int .i64 0, .int .i64 0, .int .i64 0, .string ⟨#[]⟩, .string ⟨#[]⟩, .slice none 0 0] 26 (0, 0)) ∧
              (w'.cell? ⟨w.heap.size + 3, 0, none⟩ = some (.int .i64 0) ∧ w'.cell? ⟨w.heap.size + 3, 1, none⟩ = some (.int .i64 0) ∧ w'.cell? ⟨w.heap.size + 3, 2, none⟩ = some (.int .i64 0) ∧ w'.cell? ⟨w.heap.size + 3, 3, none⟩ = some (.int .i64 0) ∧ w'.cell? ⟨w.heap.size + 3, 4, none⟩ = some (.string ⟨#[]⟩) ∧ w'.cell? ⟨w.heap.size + 3, 5, none⟩ = some (.string ⟨#[]⟩) ∧ w'.cell? ⟨w.heap.size + 3, 6, none⟩ = some (.slice none 0 0)) ∧
              (w'.frozen? ⟨w.heap.size + 3, 0, none⟩ = false ∧ w'.frozen? ⟨w.heap.size + 3, 1, none⟩ = false ∧ w'.frozen? ⟨w.heap.size + 3, 2, none⟩ = false ∧ w'.frozen? ⟨w.heap.size + 3, 3, none⟩ = false ∧ w'.frozen? ⟨w.heap.size + 3, 4, none⟩ = false ∧ w'.frozen? ⟨w.heap.size + 3, 5, none⟩ = false ∧ w'.frozen? ⟨w.heap.size + 3, 6, none⟩ = false) from by
            obtain ⟨a8, n8, c8, k1, k2, k3⟩ := h'
            have hz' := (k3.block _ (row_lt hz)).trans hz
            exact ⟨a8, n8, c8, k1, k2, (h.r.next k3).readt, hz', (ns_reads hz').1, (ns_reads hz').2⟩))
          unfold chv at HWI
          go_upto_region 19 with fail
          go_cut [9] (fun e w' => ∃ a8 n8 c8, e = .int .i64 0 ∧ Hid (w'.heap[w.heap.size + 3]? = some (.cells #[.int .i64 id, .int .i64 r.dev, .int .i64 r.id, .int .i64 r.fid, .string (T r.path), .string (T r.name), .slice a8 n8 c8] 26 (0, 0))) ∧ Hid (MIn w' P (.slice a8 n8 c8) (Ns.put ms old ((⟨c, cr⟩ : Tgt) :: ub))) ∧ Hid (Below w.heap.size w w'))
          case first =>
            repeat (rename (∀ (a : Act) (w : World), Code.wp _ _ _ a w → _) => ax; clear ax)
            go_region_held_law (fun W' => RaT w W' id r old c (.slice ao nn cp) gT cr) (first | (with_reducible assumption) | (with_reducible exact HSd.out) | (with_reducible exact HSe.out) | (with_reducible exact KG.out hgrow7 HRW.out (by assumption)) | (with_reducible exact KS.out _ _ _ _ _ _ _ (by assumption))) (first | (go_at_call 57; (with_reducible refine (HWI.out _ _ (own_cons hown7) (by assumption) (HZG.out _ hgrow7)).mono ?_); rintro e w' ⟨a8, n8, c8, rfl, hmn8, hkeep, hzk, ⟨z0, z1, z2, z3, z4, z5, z6⟩, ⟨y0, y1, y2, y3, y4, y5, y6⟩⟩; replace hzk := Lib.hid hzk; replace hmn8 := Lib.hid hmn8; clear hgrow7 hown7 hat7) | ((fail_if_success (have := hown7)); refine step_append_any (by rfl) _ _ _ (by rfl) W8.heap.size 51 i0 (.agg #[.int .i64 0, .int .i64 0, .int .i64 0, .string ByteArray.empty, .string ByteArray.empty, .bool false]) 6 64 Try.underlying41 hi0 hz0 hz1 hz2 rfl (by decide) (.slice (some ⟨W8.heap.size, 0, none⟩) 1 1) 1 (fl tge [(⟨c, cr⟩ : Tgt)]) (by rfl) HOWd.out ua ub.length uc (fl tge ub) (by rfl) HNO.out HLN.out HNC.out HON.out HMX.out HBY.out HBS.out ?_; intro v7 w7 hown7 hgrow7 hat7; obtain ⟨a7, c7, rfl⟩ := own_lt hown7))
            all_goals
              have hz := ns_stored (.int .i64 id) (.int .i64 r.dev) (.int .i64 r.id) (.int .i64 r.fid) (.string (T r.path)) (.string (T r.name)) (.slice a8 n8 c8) hzk.out
              go_wp2_with fail
              go_meet
              exact ⟨a8, n8, c8, rfl, Lib.hid hz.1, Lib.hid (fin_in hmn8.out hz.2), Lib.hid (grown_below (RaT.r hkeep).1.bel hz.2 (by omega))⟩
          case rest =>
            obtain ⟨a8, n8, c8, rfl, HZ8, HM8, HD8⟩ := hcut
            clear h0 h1 h2 h3 h4 h5 h6 o0 o1 o2 o3 o4 c0 c1 c2 c3 c4 z0 z1 z2 z3 z4 z5 z6 y0 y1 y2 y3 y4 y5 y6 t0 t1 t2 t3 t4 t5
            obtain ⟨⟨x0, x1, x2, x3, x4, x5, x6⟩, _⟩ := ns_reads HZ8.out
            go_wp2_with fail
            exact bodyPost_ret (v := .tuple #[.agg #[.int .i64 id, .int .i64 r.dev, .int .i64 r.id, .int .i64 r.fid, .string (T r.path), .string (T r.name), .slice a8 n8 c8], .int .i64 0]) (by simp [results, Try.results40, go_sem, x0, x1, x2, x3, x4, x5, x6]) rfl (ns_err HPUT.out HM8.out HD8.out)
        · clear hw0 hwb HW0
          have HPUT := Lib.hid (show PM = (Ns.put ms old (ub ++ [(⟨c, cr⟩ : Tgt)]), 0) from by
            rw [← HPM.out, Ns.add_done HBD.out HVV.out HX3.out HX4.out, HUB.out, HCE.out]
            unfold Ns.next
            rw [HHW.out]
            rfl)
          have HGB := Lib.hid (row_lt HT.out)
          have HR := Lib.hid (show RaR w W8 id r old c (.slice ao nn cp) gT cr from ⟨HS.out, HT.out, HGT.out⟩)
          have HSd : Hid (RaT w W8.drew id r old c (.slice ao nn cp) gT cr) := (HR.out.next (below_drew1 (Below.refl _ _))).readt
          have KG : Hid (∀ {W W' : World} {row : Option Nat}, W.grownBy W' row → (∀ b, row = some b → W8.heap.size ≤ b) → RaT w W id r old c (.slice ao nn cp) gT cr → RaT w W' id r old c (.slice ao nn cp) gT cr) := fun hg hr h => (h.r.grow hg hr HGB.out).readt
          have KS : Hid (∀ {W : World} (b0 b1 b2 b3 b4 b5 b6 : Value), RaT w W id r old c (.slice ao nn cp) gT cr → RaT w (((((((W.setCell ⟨w.heap.size + 3, 0, none⟩ b0).setCell ⟨w.heap.size + 3, 1, none⟩ b1).setCell ⟨w.heap.size + 3, 2, none⟩ b2).setCell ⟨w.heap.size + 3, 3, none⟩ b3).setCell ⟨w.heap.size + 3, 4, none⟩ b4).setCell ⟨w.heap.size + 3, 5, none⟩ b5).setCell ⟨w.heap.size + 3, 6, none⟩ b6) id r old c (.slice ao nn cp) gT cr) := fun b0 b1 b2 b3 b4 b5 b6 h =>
            (h.r.grown (grown_set (grown_set (grown_set (grown_set (grown_set (grown_set (grown_set (grown_refl _ _) 0 b0) 1 b1) 2 b2) 3 b3) 4 b4) 5 b5) 6 b6)).readt
          have HNO : Hid (ua = none → ub.length = 0 ∧ uc = 0) := fun h => tgts_none HTU.out h
          have HLN := Lib.hid (fl_length tge tge6 ub)
          have HON := Lib.hid (fl_one tge1 ub)
          have HMX := Lib.hid (show 0 + ub.length ≤ maxLen from by unfold maxLen; omega)
          have HBY := Lib.hid (show (0 + ub.length) * 64 ≤ 140737488355328 from by omega)
          have HMY := Lib.hid (show ub.length + 1 ≤ maxLen from by unfold maxLen; omega)
          have HBZ := Lib.hid (show (ub.length + 1) * 64 ≤ 140737488355328 from by omega)
          have HL1 := Lib.hid (fl_length tge tge6 [(⟨c, cr⟩ : Tgt)])
          have HO1x := Lib.hid (fl_one tge1 [(⟨c, cr⟩ : Tgt)])
          have HE1 := Lib.hid (below_drew1 ((Below.refl _ _).alloc (Nat.le_refl _) (.cells #[] 51)) : Below W8.heap.size W8 (W8.alloc (.cells #[] 51)).drew)
          have HE2 := Lib.hid (below_drew1 (((Below.refl _ _).alloc (Nat.le_refl _) (.cells #[] 51)).alloc (by simp) (.cells #[.int .i64 c.dev, .int .i64 c.id, .int .i64 c.fid, .string (T c.path), .string (T c.name), .bool cr] 51)) : Below W8.heap.size W8 ((W8.alloc (.cells #[] 51)).alloc (.cells #[.int .i64 c.dev, .int .i64 c.id, .int .i64 c.fid, .string (T c.path), .string (T c.name), .bool cr] 51)).drew)
          have HE4 := Lib.hid (below_drew1 ((Below.refl _ _).alloc (Nat.le_refl _) (.cells #[.int .i64 c.dev, .int .i64 c.id, .int .i64 c.fid, .string (T c.path), .string (T c.name), .bool cr] 51)) : Below W8.heap.size W8 (W8.alloc (.cells #[.int .i64 c.dev, .int .i64 c.id, .int .i64 c.fid, .string (T c.path), .string (T c.name), .bool cr] 51)).drew)
          have HE3 := Lib.hid (below_drew1 (((Below.refl _ _).alloc (Nat.le_refl _) (.cells #[.int .i64 c.dev, .int .i64 c.id, .int .i64 c.fid, .string (T c.path), .string (T c.name), .bool cr] 51)).alloc (by simp) (.cells #[] 51)) : Below W8.heap.size W8 ((W8.alloc (.cells #[.int .i64 c.dev, .int .i64 c.id, .int .i64 c.fid, .string (T c.path), .string (T c.name), .bool cr] 51)).alloc (.cells #[] 51)).drew)
          have HSe1 := Lib.hid ((HR.out.next HE1.out).readt)
          have HSe2 := Lib.hid ((HR.out.next HE2.out).readt)
          have HSe3 := Lib.hid ((HR.out.next HE3.out).readt)
          have HSe4 := Lib.hid ((HR.out.next HE4.out).readt)
          have HO1 : Hid ((W8.alloc (.cells #[] 51)).drew.ownsRow W8.heap.size 51 6 (.slice (some ⟨W8.heap.size, 0, none⟩) 0 0) 0 []) := ⟨rfl, .inr ⟨W8.heap.size, 0, #[], rfl, Nat.le_refl _, heap_alloc_new W8 _, Nat.le_refl _, by unfold maxLen; omega, rfl, rfl⟩⟩
          have HO2 : Hid (((W8.alloc (.cells #[] 51)).alloc (.cells #[.int .i64 c.dev, .int .i64 c.id, .int .i64 c.fid, .string (T c.path), .string (T c.name), .bool cr] 51)).drew.ownsRow W8.heap.size 51 6 (.slice (some ⟨W8.heap.size, 0, none⟩) 0 0) 0 []) := ⟨rfl, .inr ⟨W8.heap.size, 0, #[], rfl, Nat.le_refl _, (Lib.alloc_old _ _ _ (row_lt (heap_alloc_new W8 (.cells #[] 51)))).trans (heap_alloc_new W8 _), Nat.le_refl _, by unfold maxLen; omega, rfl, rfl⟩⟩
          have HO3 : Hid (((W8.alloc (.cells #[.int .i64 c.dev, .int .i64 c.id, .int .i64 c.fid, .string (T c.path), .string (T c.name), .bool cr] 51)).alloc (.cells #[] 51)).drew.ownsRow W8.heap.size 51 6 (.slice (some ⟨W8.heap.size + 1, 0, none⟩) 0 0) 0 []) := ⟨rfl, .inr ⟨W8.heap.size + 1, 0, #[], rfl, Nat.le_succ _, ((congrArg (fun n => ((W8.alloc (.cells #[.int .i64 c.dev, .int .i64 c.id, .int .i64 c.fid, .string (T c.path), .string (T c.name), .bool cr] 51)).alloc (.cells #[] 51)).heap[n]?) (show W8.heap.size + 1 = (W8.alloc (.cells #[.int .i64 c.dev, .int .i64 c.id, .int .i64 c.fid, .string (T c.path), .string (T c.name), .bool cr] 51)).heap.size from by simp)).trans (heap_alloc_new _ _)), Nat.le_refl _, by unfold maxLen; omega, rfl, rfl⟩⟩
          have HX2 : Hid (((W8.alloc (.cells #[] 51)).alloc (.cells #[.int .i64 c.dev, .int .i64 c.id, .int .i64 c.fid, .string (T c.path), .string (T c.name), .bool cr] 51)).drew.heap[W8.heap.size + 1]? = some (.cells #[.int .i64 c.dev, .int .i64 c.id, .int .i64 c.fid, .string (T c.path), .string (T c.name), .bool cr] 51 (0, 0))) := ((congrArg (fun n => ((W8.alloc (.cells #[] 51)).alloc (.cells #[.int .i64 c.dev, .int .i64 c.id, .int .i64 c.fid, .string (T c.path), .string (T c.name), .bool cr] 51)).heap[n]?) (show W8.heap.size + 1 = (W8.alloc (.cells #[] 51)).heap.size from by simp)).trans (heap_alloc_new _ _))
          have HX3r : Hid (((W8.alloc (.cells #[.int .i64 c.dev, .int .i64 c.id, .int .i64 c.fid, .string (T c.path), .string (T c.name), .bool cr] 51)).alloc (.cells #[] 51)).drew.heap[W8.heap.size]? = some (.cells #[.int .i64 c.dev, .int .i64 c.id, .int .i64 c.fid, .string (T c.path), .string (T c.name), .bool cr] 51 (0, 0))) := ((Lib.alloc_old _ _ _ (row_lt (heap_alloc_new W8 (.cells #[.int .i64 c.dev, .int .i64 c.id, .int .i64 c.fid, .string (T c.path), .string (T c.name), .bool cr] 51)))).trans (heap_alloc_new W8 _))
          have XN2 : Hid ((Value.slice (some ⟨W8.heap.size, 0, none⟩) 0 0).ownBlock ≠ some (W8.heap.size + 1)) := fun e => by have := Option.some.inj (show some W8.heap.size = some (W8.heap.size + 1) from e); omega
          have XN3 : Hid ((Value.slice (some ⟨W8.heap.size + 1, 0, none⟩) 0 0).ownBlock ≠ some W8.heap.size) := fun e => by have := Option.some.inj (show some (W8.heap.size + 1) = some W8.heap.size from e); omega
          have XG : Hid (∀ {W W' : World} {row : Option Nat} {g : Nat} {o : Obj}, W.grownBy W' row → row ≠ some g → W.heap[g]? = some o → W'.heap[g]? = some o) := fun hg hn h => (hg.block _ (row_lt h) (fun e => hn e.symm)).trans h
          have XC : Hid (∀ (W : World) (g : Nat), W.heap[g]? = some (.cells #[.int .i64 c.dev, .int .i64 c.id, .int .i64 c.fid, .string (T c.path), .string (T c.name), .bool cr] 51 (0, 0)) → ∀ ad, (some (⟨g, 0, none⟩ : Addr)) = some ad → ∀ j u', (fl tge [(⟨c, cr⟩ : Tgt)])[j]? = some u' → W.cell? (ad.add j) = some u') := fun W g h ad ha j u' hj => by
            cases ha
            rw [Addr.add_lit, Nat.zero_add, cell_of_row _ _ _ _ _ _ h]; simpa [fl, tge] using hj
          have ZG : Hid (∀ {W W' : World} {row : Option Nat}, W.grownBy W' row → (∀ b, row = some b → W8.heap.size ≤ b) → W.heap[w.heap.size + 3]? = some (.cells #[.int .i64 0, .int .i64 0, .int .i64 0, .int .i64 0, .string ⟨#[]⟩, .string ⟨#[]⟩, .slice none 0 0] 26 (0, 0)) → W'.heap[w.heap.size + 3]? = some (.cells #[.int .i64 0, .int .i64 0, .int .i64 0, .int .i64 0, .string ⟨#[]⟩, .string ⟨#[]⟩, .slice none 0 0] 26 (0, 0))) := fun hg hr h => (grown_any hg hr _ (row_lt HZ.out) (row_lt h)).trans h
          have ZA : Hid (∀ {W : World} {o : Obj}, W.heap[w.heap.size + 3]? = some (.cells #[.int .i64 0, .int .i64 0, .int .i64 0, .int .i64 0, .string ⟨#[]⟩, .string ⟨#[]⟩, .slice none 0 0] 26 (0, 0)) → (W.alloc o).heap[w.heap.size + 3]? = some (.cells #[.int .i64 0, .int .i64 0, .int .i64 0, .int .i64 0, .string ⟨#[]⟩, .string ⟨#[]⟩, .slice none 0 0] 26 (0, 0))) := fun h => (Lib.alloc_old _ _ _ (row_lt h)).trans h
          have KA : Hid (∀ {W : World} (o : Obj), RaT w W id r old c (.slice ao nn cp) gT cr → RaT w (W.alloc o) id r old c (.slice ao nn cp) gT cr) := fun o h => (h.r.next ((Below.refl _ _).alloc (Nat.le_refl _) o)).readt
          have HZ1 := Lib.hid ((HE1.out.block _ (row_lt HZ.out)).trans HZ.out)
          have HZ2 := Lib.hid ((HE2.out.block _ (row_lt HZ.out)).trans HZ.out)
          have HZ3 := Lib.hid ((HE3.out.block _ (row_lt HZ.out)).trans HZ.out)
          have HRW1 : Hid (∀ b, (Value.slice (some ⟨W8.heap.size, 0, none⟩) 0 0).ownBlock = some b → W8.heap.size ≤ b) := fun b hb => by cases hb; exact Nat.le_refl _
          have HRW2 := HRW1
          have HRW3 : Hid (∀ b, (Value.slice (some ⟨W8.heap.size + 1, 0, none⟩) 0 0).ownBlock = some b → W8.heap.size ≤ b) := fun b hb => by cases hb; exact Nat.le_succ _
          have HNC1 : Hid (∀ ad, ua = some ad → ∀ j u', (fl tge ub)[j]? = some u' → (W8.alloc (.cells #[] 51)).drew.cell? (ad.add j) = some u') := fun ad ha j u' hj => tgts_cell (HTU.out.below HE1.out) ha j u' hj
          have HNC2 : Hid (∀ ad, ua = some ad → ∀ j u', (fl tge ub)[j]? = some u' → ((W8.alloc (.cells #[] 51)).alloc (.cells #[.int .i64 c.dev, .int .i64 c.id, .int .i64 c.fid, .string (T c.path), .string (T c.name), .bool cr] 51)).drew.cell? (ad.add j) = some u') := fun ad ha j u' hj => tgts_cell (HTU.out.below HE2.out) ha j u' hj
          have HNC3 : Hid (∀ ad, ua = some ad → ∀ j u', (fl tge ub)[j]? = some u' → ((W8.alloc (.cells #[.int .i64 c.dev, .int .i64 c.id, .int .i64 c.fid, .string (T c.path), .string (T c.name), .bool cr] 51)).alloc (.cells #[] 51)).drew.cell? (ad.add j) = some u') := fun ad ha j u' hj => tgts_cell (HTU.out.below HE3.out) ha j u' hj
          have HBS1 := Lib.hid (HE1.out.size)
          have HBS2 := Lib.hid (HE2.out.size)
          have HBS3 := Lib.hid (HE3.out.size)
          have HWI := Lib.hid (fun (v7 : Value) (W : World) (ho : TOwn W W8.heap.size v7 (ub ++ [(⟨c, cr⟩ : Tgt)])) (h : RaT w W id r old c (.slice ao nn cp) gT cr) (hz : W.heap[w.heap.size + 3]? = some (.cells #[.int .i64 0, .int .i64 0, .int .i64 0, .int .i64 0, .string ⟨#[]⟩, .string ⟨#[]⟩, .slice none 0 0] 26 (0, 0))) => (HWT.out v7 (ub ++ [(⟨c, cr⟩ : Tgt)]) W h.r.1.bel (row_lt hz) ho.tgts (fun hn => by
              obtain ⟨b', e1, e2, e3⟩ := ho.block hn
              have := HGT.out
              have := HGB.out
              exact ⟨b', e1, HPP.out b' (by omega), by omega⟩)).mono fun e w' h' => (show ∃ a8 n8 c8, e = .returned (.agg #[.int .i64 id, .int .i64 r.dev, .int .i64 r.id, .int .i64 r.fid, .string (T r.path), .string (T r.name), .slice a8 n8 c8]) ∧ MIn w' (fun b => P b ∧ b ≠ w.heap.size + 3) (.slice a8 n8 c8) (Ns.put ms old (ub ++ [(⟨c, cr⟩ : Tgt)])) ∧ RaT w w' id r old c (.slice ao nn cp) gT cr ∧ w'.heap[w.heap.size + 3]? = some (.cells #[.int .i64 0, .int .i64 0, .int .i64 0, .int .i64 0, .string ⟨#[]⟩, .string ⟨#[]⟩, .slice none 0 0] 26 (0, 0)) ∧
              (w'.cell? ⟨w.heap.size + 3, 0, none⟩ = some (.int .i64 0) ∧ w'.cell? ⟨w.heap.size + 3, 1, none⟩ = some (.int .i64 0) ∧ w'.cell? ⟨w.heap.size + 3, 2, none⟩ = some (.int .i64 0) ∧ w'.cell? ⟨w.heap.size + 3, 3, none⟩ = some (.int .i64 0) ∧ w'.cell? ⟨w.heap.size + 3, 4, none⟩ = some (.string ⟨#[]⟩) ∧ w'.cell? ⟨w.heap.size + 3, 5, none⟩ = some (.string ⟨#[]⟩) ∧ w'.cell? ⟨w.heap.size + 3, 6, none⟩ = some (.slice none 0 0)) ∧
              (w'.frozen? ⟨w.heap.size + 3, 0, none⟩ = false ∧ w'.frozen? ⟨w.heap.size + 3, 1, none⟩ = false ∧ w'.frozen? ⟨w.heap.size + 3, 2, none⟩ = false ∧ w'.frozen? ⟨w.heap.size + 3, 3, none⟩ = false ∧ w'.frozen? ⟨w.heap.size + 3, 4, none⟩ = false ∧ w'.frozen? ⟨w.heap.size + 3, 5, none⟩ = false ∧ w'.frozen? ⟨w.heap.size + 3, 6, none⟩ = false) from by
            obtain ⟨a8, n8, c8, k1, k2, k3⟩ := h'
            have hz' := (k3.block _ (row_lt hz)).trans hz
            exact ⟨a8, n8, c8, k1, k2, (h.r.next k3).readt, hz', (ns_reads hz').1, (ns_reads hz').2⟩))
          unfold chv at HWI
          go_upto_region 20 with fail
          go_cut [9] (fun e w' => ∃ a8 n8 c8, e = .int .i64 0 ∧ Hid (w'.heap[w.heap.size + 3]? = some (.cells #[.int .i64 id, .int .i64 r.dev, .int .i64 r.id, .int .i64 r.fid, .string (T r.path), .string (T r.name), .slice a8 n8 c8] 26 (0, 0))) ∧ Hid (MIn w' P (.slice a8 n8 c8) (Ns.put ms old (ub ++ [(⟨c, cr⟩ : Tgt)]))) ∧ Hid (Below w.heap.size w w'))
          case first =>
            go_region_held_law (fun W' => RaT w W' id r old c (.slice ao nn cp) gT cr) (first | (with_reducible assumption) | (with_reducible exact HSd.out) | (with_reducible exact HSe1.out) | (with_reducible exact HSe2.out) | (with_reducible exact HSe3.out) | (with_reducible exact HSe4.out) | (with_reducible exact KG.out hgrow8 hrow8 (by assumption)) | (with_reducible exact KG.out hgrow7 HRW1.out (by assumption)) | (with_reducible exact KG.out hgrow7 HRW3.out (by assumption)) | (with_reducible exact KA.out _ (by assumption)) | (with_reducible exact KS.out _ _ _ _ _ _ _ (by assumption))) (first | (go_at_call 57; (with_reducible refine (HWI.out _ _ (own_snoc hown8) (by assumption) hz8).mono ?_); rintro e w' ⟨a8, n8, c8, rfl, hmn8, hkeep, hzk, ⟨z0, z1, z2, z3, z4, z5, z6⟩, ⟨y0, y1, y2, y3, y4, y5, y6⟩⟩; replace hzk := Lib.hid hzk; replace hmn8 := Lib.hid hmn8; (try clear hx7); (try clear hs7); (try clear hz7); clear hz8 hrow8 hgrow8 hown8 hat8; clear hgrow7 hown7 hat7) | ((fail_if_success (have := hown7)); refine step_append_any (by rfl) _ _ _ (by rfl) W8.heap.size 51 i0 (.agg #[.int .i64 0, .int .i64 0, .int .i64 0, .string ByteArray.empty, .string ByteArray.empty, .bool false]) 6 64 Try.underlying41 hi0 hz0 hz1 hz2 rfl (by decide) (.slice (some ⟨W8.heap.size, 0, none⟩) 0 0) 0 [] (by rfl) HO1.out ua ub.length uc (fl tge ub) (by rfl) HNO.out HLN.out HNC1.out HON.out HMX.out HBY.out HBS1.out ?_; intro v7 w7 hown7 hgrow7 hat7; simp only [Nat.zero_add, List.nil_append] at hown7; obtain ⟨a7, c7, rfl⟩ := own_lt hown7; have hz7 := ZG.out hgrow7 HRW1.out HZ1.out; have hs7 := Nat.le_trans HBS1.out hgrow7.size) | ((fail_if_success (have := hown7)); refine step_append_any (by rfl) _ _ _ (by rfl) W8.heap.size 51 i0 (.agg #[.int .i64 0, .int .i64 0, .int .i64 0, .string ByteArray.empty, .string ByteArray.empty, .bool false]) 6 64 Try.underlying41 hi0 hz0 hz1 hz2 rfl (by decide) (.slice (some ⟨W8.heap.size, 0, none⟩) 0 0) 0 [] (by rfl) HO2.out ua ub.length uc (fl tge ub) (by rfl) HNO.out HLN.out HNC2.out HON.out HMX.out HBY.out HBS2.out ?_; intro v7 w7 hown7 hgrow7 hat7; simp only [Nat.zero_add, List.nil_append] at hown7; obtain ⟨a7, c7, rfl⟩ := own_lt hown7; have hz7 := ZG.out hgrow7 HRW2.out HZ2.out; have hs7 := Nat.le_trans HBS2.out hgrow7.size; have hx7 := XG.out hgrow7 XN2.out HX2.out) | ((fail_if_success (have := hown7)); refine step_append_any (by rfl) _ _ _ (by rfl) W8.heap.size 51 i0 (.agg #[.int .i64 0, .int .i64 0, .int .i64 0, .string ByteArray.empty, .string ByteArray.empty, .bool false]) 6 64 Try.underlying41 hi0 hz0 hz1 hz2 rfl (by decide) (.slice (some ⟨W8.heap.size + 1, 0, none⟩) 0 0) 0 [] (by rfl) HO3.out ua ub.length uc (fl tge ub) (by rfl) HNO.out HLN.out HNC3.out HON.out HMX.out HBY.out HBS3.out ?_; intro v7 w7 hown7 hgrow7 hat7; simp only [Nat.zero_add, List.nil_append] at hown7; obtain ⟨a7, c7, rfl⟩ := own_lt hown7; have hz7 := ZG.out hgrow7 HRW3.out HZ3.out; have hs7 := Nat.le_trans HBS3.out hgrow7.size; have hx7 := XG.out hgrow7 XN3.out HX3r.out) | ((fail_if_success (have := hown8)); (have := hown7); refine step_append_any (by rfl) _ _ _ (by rfl) W8.heap.size 51 i0 (.agg #[.int .i64 0, .int .i64 0, .int .i64 0, .string ByteArray.empty, .string ByteArray.empty, .bool false]) 6 64 Try.underlying41 hi0 hz0 hz1 hz2 rfl (by decide) (.slice a7 ub.length c7) ub.length (fl tge ub) (by rfl) (hown7.alloc _) (some ⟨w7.heap.size, 0, none⟩) 1 1 (fl tge [(⟨c, cr⟩ : Tgt)]) (by rfl) (fun h => nomatch h) HL1.out (XC.out _ _ (heap_alloc_new w7 _)) HO1x.out HMY.out HBZ.out (by simp; omega) ?_; intro v8 w8 hown8 hgrow8 hat8; obtain ⟨a8', c8', rfl⟩ := own_lt hown8; have hrow8 := fun b hb => (hown7.lt b hb).1; have hz8 := ZG.out hgrow8 hrow8 (ZA.out hz7)) | ((fail_if_success (have := hown8)); (have := hown7); refine step_append_any (by rfl) _ _ _ (by rfl) W8.heap.size 51 i0 (.agg #[.int .i64 0, .int .i64 0, .int .i64 0, .string ByteArray.empty, .string ByteArray.empty, .bool false]) 6 64 Try.underlying41 hi0 hz0 hz1 hz2 rfl (by decide) (.slice a7 ub.length c7) ub.length (fl tge ub) (by rfl) hown7 (some ⟨W8.heap.size + 1, 0, none⟩) 1 1 (fl tge [(⟨c, cr⟩ : Tgt)]) (by rfl) (fun h => nomatch h) HL1.out (XC.out _ _ hx7) HO1x.out HMY.out HBZ.out hs7 ?_; intro v8 w8 hown8 hgrow8 hat8; obtain ⟨a8', c8', rfl⟩ := own_lt hown8; have hrow8 := fun b hb => (hown7.lt b hb).1; have hz8 := ZG.out hgrow8 hrow8 hz7) | ((fail_if_success (have := hown8)); (have := hown7); refine step_append_any (by rfl) _ _ _ (by rfl) W8.heap.size 51 i0 (.agg #[.int .i64 0, .int .i64 0, .int .i64 0, .string ByteArray.empty, .string ByteArray.empty, .bool false]) 6 64 Try.underlying41 hi0 hz0 hz1 hz2 rfl (by decide) (.slice a7 ub.length c7) ub.length (fl tge ub) (by rfl) hown7 (some ⟨W8.heap.size, 0, none⟩) 1 1 (fl tge [(⟨c, cr⟩ : Tgt)]) (by rfl) (fun h => nomatch h) HL1.out (XC.out _ _ hx7) HO1x.out HMY.out HBZ.out hs7 ?_; intro v8 w8 hown8 hgrow8 hat8; obtain ⟨a8', c8', rfl⟩ := own_lt hown8; have hrow8 := fun b hb => (hown7.lt b hb).1; have hz8 := ZG.out hgrow8 hrow8 hz7))
            all_goals
              have hz := ns_stored (.int .i64 id) (.int .i64 r.dev) (.int .i64 r.id) (.int .i64 r.fid) (.string (T r.path)) (.string (T r.name)) (.slice a8 n8 c8) hzk.out
              go_wp2_with fail
              go_meet
              exact ⟨a8, n8, c8, rfl, Lib.hid hz.1, Lib.hid (fin_in hmn8.out hz.2), Lib.hid (grown_below (RaT.r hkeep).1.bel hz.2 (by omega))⟩
          case rest =>
            obtain ⟨a8, n8, c8, rfl, HZ8, HM8, HD8⟩ := hcut
            clear h0 h1 h2 h3 h4 h5 h6 o0 o1 o2 o3 o4 c0 c1 c2 c3 c4 z0 z1 z2 z3 z4 z5 z6 y0 y1 y2 y3 y4 y5 y6 t0 t1 t2 t3 t4 t5
            obtain ⟨⟨x0, x1, x2, x3, x4, x5, x6⟩, _⟩ := ns_reads HZ8.out
            go_wp2_with fail
            exact bodyPost_ret (v := .tuple #[.agg #[.int .i64 id, .int .i64 r.dev, .int .i64 r.id, .int .i64 r.fid, .string (T r.path), .string (T r.name), .slice a8 n8 c8], .int .i64 0]) (by simp [results, Try.results40, go_sem, x0, x1, x2, x3, x4, x5, x6]) rfl (ns_err HPUT.out HM8.out HD8.out)
end Go.Proofs.Ytganenaaglfdnaa
