/- What the reference's Cut returns: Ns.cut. Conditions: the slice holds the given mounts; at most 10^5 mounts, each of at most 10^5 targets. -/
import Derived.Test.YtganenaaglfdnaaMntCut
set_option linter.unusedVariables false
set_option linter.unusedSimpArgs false
namespace Go.Proofs.Ytganenaaglfdnaa
open Go.RowKit
/-- The boxes with their cells. -/
abbrev CuT (w W : World) (id : Int) (r old c : Chn) (v : Value) : Prop :=
  W.cell? ⟨w.heap.size, 0, none⟩ = some (.int .i64 id) ∧ W.cell? ⟨w.heap.size, 1, none⟩ = some (.int .i64 r.dev) ∧ W.cell? ⟨w.heap.size, 2, none⟩ = some (.int .i64 r.id) ∧ W.cell? ⟨w.heap.size, 3, none⟩ = some (.int .i64 r.fid) ∧ W.cell? ⟨w.heap.size, 4, none⟩ = some (.string (T r.path)) ∧ W.cell? ⟨w.heap.size, 5, none⟩ = some (.string (T r.name)) ∧ W.cell? ⟨w.heap.size, 6, none⟩ = some (v) ∧ W.cell? ⟨w.heap.size + 1, 0, none⟩ = some (.int .i64 old.dev) ∧ W.cell? ⟨w.heap.size + 1, 1, none⟩ = some (.int .i64 old.id) ∧ W.cell? ⟨w.heap.size + 1, 2, none⟩ = some (.int .i64 old.fid) ∧ W.cell? ⟨w.heap.size + 1, 3, none⟩ = some (.string (T old.path)) ∧ W.cell? ⟨w.heap.size + 1, 4, none⟩ = some (.string (T old.name)) ∧ W.cell? ⟨w.heap.size + 2, 0, none⟩ = some (.int .i64 c.dev) ∧ W.cell? ⟨w.heap.size + 2, 1, none⟩ = some (.int .i64 c.id) ∧ W.cell? ⟨w.heap.size + 2, 2, none⟩ = some (.int .i64 c.fid) ∧ W.cell? ⟨w.heap.size + 2, 3, none⟩ = some (.string (T c.path)) ∧ W.cell? ⟨w.heap.size + 2, 4, none⟩ = some (.string (T c.name)) ∧ CuR w W id r old c v
theorem CuR.readt {w W : World} {id : Int} {r old c : Chn} {v : Value} (h : CuR w W id r old c v) : CuT w W id r old c v := by
  obtain ⟨⟨h0, h1, h2, h3, h4, h5, h6⟩, _⟩ := ns_reads h.1
  obtain ⟨o0, o1, o2, o3, o4⟩ := ch_reads h.2.1
  obtain ⟨c0, c1, c2, c3, c4⟩ := ch_reads h.2.2.1
  exact ⟨h0, h1, h2, h3, h4, h5, h6, o0, o1, o2, o3, o4, c0, c1, c2, c3, c4, h⟩
theorem CuT.r {w W : World} {id : Int} {r old c : Chn} {v : Value} (h : CuT w W id r old c v) : CuR w W id r old c v := h.2.2.2.2.2.2.2.2.2.2.2.2.2.2.2.2.2
theorem grown_any {W W' : World} {row : Option Nat} {m : Nat} (hg : W.grownBy W' row) (hr : ∀ b, row = some b → m ≤ b) : ∀ b, b < m → b < W.heap.size → W'.heap[b]? = W.heap[b]? := fun b hb hlt => hg.block b hlt (fun e => by have := hr b e.symm; omega)
theorem CuR.grow {w W W' : World} {id : Int} {r old c : Chn} {v : Value} {row : Option Nat} (h : CuR w W id r old c v) (hg : W.grownBy W' row) (hr : ∀ b, row = some b → w.heap.size + 4 ≤ b) : CuR w W' id r old c v :=
  ⟨(grown_any hg hr _ (by omega) (row_lt h.1)).trans h.1, (grown_any hg hr _ (by omega) (row_lt h.2.1)).trans h.2.1, (grown_any hg hr _ (by omega) (row_lt h.2.2.1)).trans h.2.2.1, h.2.2.2.grown hg h.2.2.2.size (fun b hb => by have := hr b hb; omega)⟩

set_option maxRecDepth 20000 in
set_option maxHeartbeats 8000000 in
theorem rmcut_any (P : Nat → Prop) (id : Int) (r : Chn) (v : Value) (ms : List Mnt) (old c : Chn) (w : World) (hv : MIn w P v ms) (hP : ∀ b, w.heap.size ≤ b → P b) (hl : ms.length ≤ 100000) (hu : ∀ m ∈ ms, m.to.length ≤ 100000) :
    Calls Try.prog 41 #[nsv id r v, chv old, chv c] w (NsErr P id r (Ns.cut ms old c) w) := by
  obtain ⟨ao, cp, rfl⟩ := hv.form
  have HB := Lib.hid (Below.refl w.heap.size w)
  have HPP := Lib.hid hP
  have HIN := Lib.hid (fun (W : World) (h : Below w.heap.size w W) (hz : w.heap.size + 3 < W.heap.size) => show MIn W (fun b => P b ∧ b ≠ w.heap.size + 3) (.slice ao ms.length cp) ms from (hv.weak (P' := fun b => P b ∧ b ≠ w.heap.size + 3) (fun b h1 h2 => ⟨h1, by omega⟩)).below h)
  have HUN := Lib.hid (fun (W : World) (h : Below w.heap.size w W) => rmunion_any id r (.slice ao ms.length cp) ms old W (hv.mnts.below h) (by omega))
  have HCA := Lib.hid (fun (W : World) (h : Below w.heap.size w W) (hz : w.heap.size + 3 < W.heap.size) => rmcutall_any (fun b => P b ∧ b ≠ w.heap.size + 3) id r (.slice ao ms.length cp) ms old W (HIN.out W h hz) (fun b hb => ⟨hP b (by omega), by omega⟩) (by omega))
  have HWT := Lib.hid (fun (uv : Value) (u : List Tgt) (W : World) (h : Below w.heap.size w W) (hz : w.heap.size + 3 < W.heap.size) (hx : Tgts W uv u) (hup : u ≠ [] → ∃ b, uv.ownBlock = some b ∧ P b ∧ b ≠ w.heap.size + 3) => rmwith_any (fun b => P b ∧ b ≠ w.heap.size + 3) id r (.slice ao ms.length cp) ms old uv u W (HIN.out W h hz) hx (fun b hb => ⟨hP b (by omega), by omega⟩) hup hl)
  obtain ⟨PM, hPM⟩ : ∃ PM, Ns.cut ms old c = PM := ⟨_, rfl⟩
  have HPM := Lib.hid hPM
  rw [hPM]
  obtain ⟨⟨u, uok⟩, hun⟩ : ∃ p, Ns.union ms old = p := ⟨_, rfl⟩
  have HUE := Lib.hid hun
  have HUL := Lib.hid (show u.length ≤ 100000 from by
    rcases Int.lt_or_le (Ns.find ms old) 0 with h | h
    · rw [Ns.union_none h] at hun; cases hun; simp
    · obtain ⟨k, hk, e1, e2, _⟩ := Ns.find_at h
      rw [e2] at hun; cases hun
      exact hu _ (List.getElem_mem hk))
  have HUT := Lib.hid (show uok = true ∨ u = [] from by
    rcases Int.lt_or_le (Ns.find ms old) 0 with h | h
    · rw [Ns.union_none h] at hun; cases hun; exact .inr rfl
    · obtain ⟨k, hk, e1, e2, _⟩ := Ns.find_at h
      rw [e2] at hun; cases hun; exact .inl rfl)
  rw [hun] at HUN
  clear hv hu hPM hP hun
  unfold nsv chv at *
  obtain ⟨i0, hi0, hz0, hz1, hz2⟩ := info_parts (P := Try.prog) (e := 51) (z := .agg #[.int .i64 0, .int .i64 0, .int .i64 0, .string ByteArray.empty, .string ByteArray.empty, .bool false]) (size := 6) (bytes := 64) (by kernel_rfl)
  generalize hnn : ms.length = nn at *
  have HNN := Lib.hid hnn
  clear hnn
  go_enter Try.func41, Try.ntmps41
  go_wp2_with fail
  refine (HUN.out _ ((((HB.out.alloc (Nat.le_refl _) _).alloc (by simp) _).alloc (by simp; omega) _).alloc (by simp; omega) _)).mono ?_; rintro e w1 ⟨ua, un, uc, rfl, htg, b1⟩
  obtain ⟨rfl, htg2⟩ := htg.at
  clear htg2
  obtain ⟨hr0, hr1, hr2, hr3, hb1⟩ := mafter4 b1
  have HS1 : Hid (CuR w w1 id r old c (.slice ao nn cp)) := ⟨hr0, hr1, hr2, hb1⟩
  have HZ1 := Lib.hid hr3
  have HTG := Lib.hid htg
  have HINC := Lib.hid (rin_any (.slice ua u.length uc) u c w1 htg (by have := HUL.out; omega))
  rw [show Ns.ix (fun t : Tgt => Ns.same t.ch c) u = Ns.elem u c from rfl] at HINC
  clear hr0 hr1 hr2 hr3 hb1 b1 HUN htg
  obtain ⟨h0, h1, h2, h3, h4, h5, h6, o0, o1, o2, o3, o4, c0, c1, c2, c3, c4, _⟩ := HS1.out.readt
  unfold chv at HINC
  simp only [] at *
  go_wp2_with fail
  with_reducible refine HINC.out.mono ?_; rintro e w2 ⟨rfl, b2⟩
  have HS2 := Lib.hid (HS1.out.next b2)
  have HZ2 := Lib.hid ((b2.block _ (row_lt HZ1.out)).trans HZ1.out)
  have HTG2 := Lib.hid (HTG.out.below b2)
  clear h0 h1 h2 h3 h4 h5 h6 o0 o1 o2 o3 o4 c0 c1 c2 c3 c4 b2 HINC HS1 HZ1 HTG
  obtain ⟨h0, h1, h2, h3, h4, h5, h6, o0, o1, o2, o3, o4, c0, c1, c2, c3, c4, _⟩ := HS2.out.readt
  obtain ⟨⟨z0, z1, z2, z3, z4, z5, z6⟩, ⟨y0, y1, y2, y3, y4, y5, y6⟩⟩ := ns_reads HZ2.out
  have HBW := Lib.hid HS2.out.bel
  have HLT := Lib.hid (row_lt HZ2.out)
  rcases Int.lt_or_le (Ns.elem u c) 0 with hel | hel
  · have HPUT := Lib.hid (show PM = (ms, 45) from by rw [← HPM.out]; unfold Ns.cut; rw [HUE.out]; simp only; rw [if_pos hel])
    generalize Ns.elem u c = EL at *
    go_wp2_with fail
    have hz := ns_stored (.int .i64 id) (.int .i64 r.dev) (.int .i64 r.id) (.int .i64 r.fid) (.string (T r.path)) (.string (T r.name)) (.slice ao nn cp) HZ2.out
    obtain ⟨⟨x0, x1, x2, x3, x4, x5, x6⟩, _⟩ := ns_reads hz.1
    have HD := Lib.hid (grown_below HBW.out hz.2 (by omega))
    have HM := Lib.hid (fin_in (HIN.out _ HBW.out HLT.out) hz.2)
    exact bodyPost_ret (v := .tuple #[.agg #[.int .i64 id, .int .i64 r.dev, .int .i64 r.id, .int .i64 r.fid, .string (T r.path), .string (T r.name), .slice ao nn cp], .int .i64 45]) (by simp [results, Try.results41, go_sem, x0, x1, x2, x3, x4, x5, x6]) rfl (ns_err HPUT.out HM.out HD.out)
  obtain ⟨q, hq⟩ := Int.eq_ofNat_of_zero_le hel
  have HEQ := Lib.hid hq
  have hql : q < u.length := by
    have := Ns.ix_lt (fun t : Tgt => Ns.same t.ch c) u
    have h2 : Ns.elem u c = Ns.ix (fun t : Tgt => Ns.same t.ch c) u := rfl
    omega
  rw [hq]
  clear hel hq
  have HUT2 := Lib.hid (show Ns.union ms old = (u, true) from by
    rcases HUT.out with h | h
    · rw [HUE.out, h]
    · rw [h] at hql; simp at hql)
  by_cases h1 : u.length = 1
  · obtain ⟨ms1, E1, hp1⟩ : ∃ a b, Ns.cutAll ms old = (a, b) := ⟨_, _, rfl⟩
    have HPUT := Lib.hid (show PM = (ms1, E1) from by rw [← HPM.out, ← hp1]; exact Ns.cut_one HUT2.out (by rw [HEQ.out]; omega) h1)
    rw [hp1] at HCA
    have h1i : (u.length : Int) = 1 := by omega
    go_wp2_with fail
    refine (HCA.out _ HBW.out HLT.out).mono ?_; rintro e w4 ⟨a4, n4, c4, rfl, hm4, b4⟩
    have hz4 := (b4.block _ (row_lt HZ2.out)).trans HZ2.out
    have HBB := Lib.hid (bnext HBW.out b4)
    clear z0 z1 z2 z3 z4 z5 z6 y0 y1 y2 y3 y4 y5 y6
    obtain ⟨⟨z0, z1, z2, z3, z4, z5, z6⟩, ⟨y0, y1, y2, y3, y4, y5, y6⟩⟩ := ns_reads hz4
    have HZ4 := Lib.hid hz4
    have HMN := Lib.hid hm4
    clear b4 hz4 hm4
    unfold nsv
    go_wp2_with fail
    have hz := ns_stored (.int .i64 id) (.int .i64 r.dev) (.int .i64 r.id) (.int .i64 r.fid) (.string (T r.path)) (.string (T r.name)) (.slice a4 n4 c4) HZ4.out
    obtain ⟨⟨x0, x1, x2, x3, x4, x5, x6⟩, _⟩ := ns_reads hz.1
    have HD := Lib.hid (grown_below HBB.out hz.2 (by omega))
    have HM := Lib.hid (fin_in HMN.out hz.2)
    exact bodyPost_ret (v := .tuple #[.agg #[.int .i64 id, .int .i64 r.dev, .int .i64 r.id, .int .i64 r.fid, .string (T r.path), .string (T r.name), .slice a4 n4 c4], .int .i64 E1]) (by simp [results, Try.results41, go_sem, x0, x1, x2, x3, x4, x5, x6]) rfl (ns_err HPUT.out HM.out HD.out)
  clear z0 z1 z2 z3 z4 z5 z6 y0 y1 y2 y3 y4 y5 y6
  have hlb : u.length ≤ 100000 := HUL.out
  have HQL := Lib.hid (show q ≤ 100000 from by omega)
  obtain ⟨nw, x, ol, rfl, rfl⟩ := split_at u q hql
  have HNL := Lib.hid HQL.out
  have HPUT := Lib.hid (show PM = (Ns.put ms old (nw ++ ol), 0) from by rw [← HPM.out, Ns.cut_more HUT2.out HEQ.out h1, Ns.erase_meet])
  have hlen : (nw ++ x :: ol).length = nw.length + 1 + ol.length := by simp; omega
  have HTC : Hid (∃ b off, ua = some ⟨b, off, none⟩ ∧ ∀ j u', (fl tge (nw ++ x :: ol))[j]? = some u' → w2.cell? ((⟨b, off, none⟩ : Addr).add j) = some u' ∧ ((⟨b, off, none⟩ : Addr).add j).block < w2.heap.size) := by
    obtain ⟨_, htc⟩ := HTG2.out.at
    obtain ⟨b, off, e1, e2, _⟩ := htc 0 (by rw [hlen]; omega)
    subst e1
    exact ⟨b, off, rfl, HTG2.out.cells⟩
  have hcap : (nw ++ x :: ol).length ≤ uc := by
    obtain ⟨_, _, e, h, _⟩ := HTG2.out
    cases e; exact h
  rw [hlen] at hcap h1 hlb ⊢
  obtain ⟨b, off, rfl, hCA⟩ := HTC.out
  obtain ⟨hn1, hn2⟩ := reach_fl tge6 hCA
  have HN1 := Lib.hid hn1
  have HN2 := Lib.hid hn2
  have h1i : ¬ (nw.length : Int) + 1 + ol.length = 1 := by omega
  have h1b : ((nw.length : Int) + 1 + ol.length == 1) = false := beq_eq_false_iff_ne.2 h1i
  clear hn1 hn2 hCA HTC HTG2 h1 hql HEQ HUT2 HUE HUL HUT HPM hlen
  have b1' : (nw.length : Int) ≤ (nw.length : Int) + 1 + ol.length := by omega
  have b3' : (nw.length : Int) + 1 ≤ (nw.length : Int) + 1 + ol.length := by omega
  have b5' : (nw.length : Int) ≤ (uc : Int) := by omega
  have b6' : (nw.length : Int) + 1 ≤ (uc : Int) := by omega
  have b0' : (0 : Int) ≤ (nw.length : Int) + 1 := by omega
  have hqw : IntKind.i64.wrap ((nw.length : Int) + 1) = (nw.length : Int) + 1 := IntWalk.i64_in ((nw.length : Int) + 1) ⟨by omega, by omega⟩
  have HOE : Hid ((w2.alloc (.cells #[] 51)).ownsRow (w.heap.size + 4) 51 6 (.slice (some ⟨w2.heap.size, 0, none⟩) 0 0) 0 []) := ⟨rfl, .inr ⟨w2.heap.size, 0, #[], rfl, HLT.out, heap_alloc_new w2 _, Nat.le_refl _, by unfold maxLen; omega, rfl, rfl⟩⟩
  have HWA := Lib.hid ((Below.refl _ _).alloc (Nat.le_refl _) (.cells #[] 51) : Below w2.heap.size w2 _)
  go_wp2_with (at_builtin; refine wpList_append_any _ rfl _ _ 41 rfl (w.heap.size + 4) 51 i0 (.agg #[.int .i64 0, .int .i64 0, .int .i64 0, .string ByteArray.empty, .string ByteArray.empty, .bool false]) 6 64 Try.underlying41 hi0 hz0 hz1 hz2 rfl (by decide) (.slice (some ⟨w2.heap.size, 0, none⟩) 0 0) 0 [] rfl ?pa0 (some ⟨b, off, none⟩) nw.length uc (fl tge nw) rfl ?pan ?pa1 ?pa2 ?pa3 ?pa4 ?pa5 ?pa6 ?_)
  case pa0 => exact HOE.out
  case pan => exact fun h => nomatch h
  case pa1 => exact fl_length tge tge6 nw
  case pa2 =>
    intro a ha j u' hj
    cases ha
    obtain ⟨k1, k2⟩ := HN1.out j u' hj
    rw [HWA.out.cell (p := (⟨b, off, none⟩ : Addr).add j) k2]
    exact k1
  case pa3 => exact fl_one tge1 nw
  case pa4 => unfold maxLen; omega
  case pa5 => omega
  case pa6 => have := HLT.out; simp; omega
  intro v6 w6 hown6 hgrow6 hat6
  obtain ⟨a6, c6, rfl⟩ := own_lt hown6
  have hb6 : Below w2.heap.size w2 w6 := HWA.out.grown hgrow6 HWA.out.size (fun k hk => by cases hk; exact Nat.le_refl _)
  have HOW := Lib.hid (show w6.ownsRow (w.heap.size + 4) 51 6 (.slice a6 nw.length c6) nw.length (fl tge nw) from by simpa using hown6)
  have HS6 := Lib.hid (HS2.out.next hb6)
  have HZ6 := Lib.hid ((hb6.block _ (row_lt HZ2.out)).trans HZ2.out)
  have HB6 := Lib.hid hb6
  clear h0 h1 h2 h3 h4 h5 h6 o0 o1 o2 o3 o4 c0 c1 c2 c3 c4 hown6 hgrow6 hat6 hb6 HOE HWA HS2 HZ2 HBW HLT
  try rw [Nat.zero_add]
  obtain ⟨h0, h1, h2, h3, h4, h5, h6, o0, o1, o2, o3, o4, c0, c1, c2, c3, c4, _⟩ := HS6.out.readt
  have HSd : Hid (CuT w w6.drew id r old c (.slice ao nn cp)) := (HS6.out.next (below_drew1 (Below.refl _ _))).readt
  have HOWd : Hid (w6.drew.ownsRow (w.heap.size + 4) 51 6 (.slice a6 nw.length c6) nw.length (fl tge nw)) := HOW.out
  have HZG : Hid (∀ W' : World, w6.drew.grownBy W' (Value.slice a6 nw.length c6).ownBlock → W'.heap[w.heap.size + 3]? = some (.cells #[.int .i64 0, .int .i64 0, .int .i64 0, .int .i64 0, .string ⟨#[]⟩, .string ⟨#[]⟩, .slice none 0 0] 26 (0, 0))) := fun W' hg => (hg.block _ (row_lt HZ6.out) (fun e => by have := (HOW.out.lt _ e.symm).1; omega)).trans HZ6.out
  have KG : ∀ {W' : World}, w6.drew.grownBy W' (Value.slice a6 nw.length c6).ownBlock → CuT w w6.drew id r old c (.slice ao nn cp) → CuT w W' id r old c (.slice ao nn cp) := fun hg h => (h.r.grow hg (fun b hb => (HOW.out.lt b hb).1)).readt
  have KS : ∀ {W : World} (b0 b1 b2 b3 b4 b5 b6 : Value), CuT w W id r old c (.slice ao nn cp) → CuT w (((((((W.setCell ⟨w.heap.size + 3, 0, none⟩ b0).setCell ⟨w.heap.size + 3, 1, none⟩ b1).setCell ⟨w.heap.size + 3, 2, none⟩ b2).setCell ⟨w.heap.size + 3, 3, none⟩ b3).setCell ⟨w.heap.size + 3, 4, none⟩ b4).setCell ⟨w.heap.size + 3, 5, none⟩ b5).setCell ⟨w.heap.size + 3, 6, none⟩ b6) id r old c (.slice ao nn cp) := fun b0 b1 b2 b3 b4 b5 b6 h =>
    (h.r.grown (p := w.heap.size + 3) (grown_set (grown_set (grown_set (grown_set (grown_set (grown_set (grown_set (grown_refl _ _) 0 b0) 1 b1) 2 b2) 3 b3) 4 b4) 5 b5) 6 b6) (Nat.le_refl _)).readt
  have HLN := Lib.hid (fl_length tge tge6 ol)
  have HON := Lib.hid (fl_one tge1 ol)
  have HMX := Lib.hid (show nw.length + ol.length ≤ maxLen from by unfold maxLen; omega)
  have HBY := Lib.hid (show (nw.length + ol.length) * 64 ≤ 140737488355328 from by omega)
  have HBS := Lib.hid (show w.heap.size + 4 ≤ w6.drew.heap.size from row_lt HZ6.out)
  have HWI := Lib.hid (fun (v7 : Value) (W : World) (ho : W.ownsRow (w.heap.size + 4) 51 6 v7 (nw.length + ol.length) (fl tge nw ++ fl tge ol)) (h : CuT w W id r old c (.slice ao nn cp)) (hz : W.heap[w.heap.size + 3]? = some (.cells #[.int .i64 0, .int .i64 0, .int .i64 0, .int .i64 0, .string ⟨#[]⟩, .string ⟨#[]⟩, .slice none 0 0] 26 (0, 0))) => (HWT.out v7 (nw ++ ol) W h.r.bel (row_lt hz) (TOwn.tgts (base := w.heap.size + 4) (by unfold TOwn; rw [List.length_append, fl_append]; exact ho)) (fun hn => by
      obtain ⟨b', e1, e2, e3⟩ := TOwn.block (base := w.heap.size + 4) (l := nw ++ ol) (by unfold TOwn; rw [List.length_append, fl_append]; exact ho) hn
      exact ⟨b', e1, HPP.out b' (by omega), by omega⟩)).mono fun e w' h' => (show ∃ a8 n8 c8, e = .returned (.agg #[.int .i64 id, .int .i64 r.dev, .int .i64 r.id, .int .i64 r.fid, .string (T r.path), .string (T r.name), .slice a8 n8 c8]) ∧ MIn w' (fun b => P b ∧ b ≠ w.heap.size + 3) (.slice a8 n8 c8) (Ns.put ms old (nw ++ ol)) ∧ CuT w w' id r old c (.slice ao nn cp) ∧ w'.heap[w.heap.size + 3]? = some (.cells #[.int .i64 0, .int .i64 0, .int .i64 0, .int .i64 0, .string ⟨#[]⟩, .string ⟨#[]⟩, .slice none 0 0] 26 (0, 0)) ∧
      (w'.cell? ⟨w.heap.size + 3, 0, none⟩ = some (.int .i64 0) ∧ w'.cell? ⟨w.heap.size + 3, 1, none⟩ = some (.int .i64 0) ∧ w'.cell? ⟨w.heap.size + 3, 2, none⟩ = some (.int .i64 0) ∧ w'.cell? ⟨w.heap.size + 3, 3, none⟩ = some (.int .i64 0) ∧ w'.cell? ⟨w.heap.size + 3, 4, none⟩ = some (.string ⟨#[]⟩) ∧ w'.cell? ⟨w.heap.size + 3, 5, none⟩ = some (.string ⟨#[]⟩) ∧ w'.cell? ⟨w.heap.size + 3, 6, none⟩ = some (.slice none 0 0)) ∧
      (w'.frozen? ⟨w.heap.size + 3, 0, none⟩ = false ∧ w'.frozen? ⟨w.heap.size + 3, 1, none⟩ = false ∧ w'.frozen? ⟨w.heap.size + 3, 2, none⟩ = false ∧ w'.frozen? ⟨w.heap.size + 3, 3, none⟩ = false ∧ w'.frozen? ⟨w.heap.size + 3, 4, none⟩ = false ∧ w'.frozen? ⟨w.heap.size + 3, 5, none⟩ = false ∧ w'.frozen? ⟨w.heap.size + 3, 6, none⟩ = false) from by
    obtain ⟨a8, n8, c8, k1, k2, k3⟩ := h'
    have hz' := (k3.block _ (row_lt hz)).trans hz
    exact ⟨a8, n8, c8, k1, k2, (h.r.next k3).readt, hz', (ns_reads hz').1, (ns_reads hz').2⟩))
  unfold chv at HWI
  have HN2d : Hid (∀ j u', (fl tge ol)[j]? = some u' → w6.drew.cell? ⟨b, off + (nw.length + 1) * 6 + j, none⟩ = some u') := fun j u' hj => by
    have := HN2.out j u' hj
    rw [Addr.add_lit, ← Nat.add_assoc] at this
    exact (HB6.out.cell (p := ⟨b, off + (nw.length + 1) * 6 + j, none⟩) this.2).trans this.1
  by_cases hck : uc = nw.length + 1
  · have hol : ol = [] := List.eq_nil_of_length_eq_zero (by omega)
    subst hol
    subst hck
    simp only [List.length_nil, Nat.add_zero] at HWI
    clear h1i h1b
    clear b1' b3' b5' b6' HLN HMX HBY hcap hlb
    have b1' : (nw.length : Int) ≤ (nw.length : Int) + 1 := by omega
    have HLN := Lib.hid (show (fl tge []).length = 0 * 6 from rfl)
    have HMX := Lib.hid (show nw.length + 0 ≤ maxLen from by unfold maxLen; have := HNL.out; omega)
    have HBY := Lib.hid (show (nw.length + 0) * 64 ≤ 140737488355328 from by have := HNL.out; omega)
    generalize w6 = W7 at *
    have HNC : Hid (∀ ad, (some ⟨b, off, none⟩ : Option Addr) = some ad → ∀ j u', (fl tge [])[j]? = some u' → W7.drew.cell? (ad.add j) = some u') := fun ad ha j u' hj => by
      cases ha
      simp [fl] at hj
    go_upto_region 8 with fail
    go_region_held_law (fun W' => CuT w W' id r old c (.slice ao nn cp)) (first | (with_reducible assumption) | (with_reducible exact HSd.out) | (with_reducible exact KG hgrow7 (by assumption)) | (with_reducible exact KS _ _ _ _ _ _ _ (by assumption))) (first | (refine step_append_any (by rfl) _ _ _ (by rfl) (w.heap.size + 4) 51 i0 (.agg #[.int .i64 0, .int .i64 0, .int .i64 0, .string ByteArray.empty, .string ByteArray.empty, .bool false]) 6 64 Try.underlying41 hi0 hz0 hz1 hz2 rfl (by decide) (.slice a6 nw.length c6) nw.length (fl tge nw) (by rfl) HOWd.out (some ⟨b, off, none⟩) 0 0 (fl tge []) (by rfl) (fun h => nomatch h) HLN.out HNC.out HON.out HMX.out HBY.out HBS.out ?_; intro v7 w7 hown7 hgrow7 hat7; simp only [Nat.add_zero] at hown7; obtain ⟨a7, c7, rfl⟩ := own_lt hown7) | (go_at_call 57; with_reducible refine (HWI.out _ _ (by assumption) (by assumption) (HZG.out _ hgrow7)).mono ?_; rintro e w' ⟨a8, n8, c8, rfl, hmn8, hkeep, hzk, ⟨z0, z1, z2, z3, z4, z5, z6⟩, ⟨y0, y1, y2, y3, y4, y5, y6⟩⟩))
    have hz := ns_stored (.int .i64 id) (.int .i64 r.dev) (.int .i64 r.id) (.int .i64 r.fid) (.string (T r.path)) (.string (T r.name)) (.slice a8 n8 c8) hzk
    obtain ⟨⟨x0, x1, x2, x3, x4, x5, x6⟩, _⟩ := ns_reads hz.1
    have HD := Lib.hid (grown_below (CuR.bel (CuT.r hkeep)) hz.2 (by omega))
    have HM := Lib.hid (fin_in hmn8 hz.2)
    clear h0 h1 h2 h3 h4 h5 h6 o0 o1 o2 o3 o4 c0 c1 c2 c3 c4
    go_wp2_with fail
    exact bodyPost_ret (v := .tuple #[.agg #[.int .i64 id, .int .i64 r.dev, .int .i64 r.id, .int .i64 r.fid, .string (T r.path), .string (T r.name), .slice a8 n8 c8], .int .i64 0]) (by simp [results, Try.results41, go_sem, x0, x1, x2, x3, x4, x5, x6]) rfl (ns_err HPUT.out HM.out HD.out)
  · generalize w6 = W7 at *
    have HNC : Hid (∀ ad, (some ⟨b, off + (nw.length + 1) * 6, none⟩ : Option Addr) = some ad → ∀ j u', (fl tge ol)[j]? = some u' → W7.drew.cell? (ad.add j) = some u') := fun ad ha j u' hj => by
      cases ha
      rw [Addr.add_lit]; exact HN2d.out j u' hj
    go_upto_region 8 with fail
    go_region_held_law (fun W' => CuT w W' id r old c (.slice ao nn cp)) (first | (with_reducible assumption) | (with_reducible exact HSd.out) | (with_reducible exact KG hgrow7 (by assumption)) | (with_reducible exact KS _ _ _ _ _ _ _ (by assumption))) (first | (refine step_append_any (by rfl) _ _ _ (by rfl) (w.heap.size + 4) 51 i0 (.agg #[.int .i64 0, .int .i64 0, .int .i64 0, .string ByteArray.empty, .string ByteArray.empty, .bool false]) 6 64 Try.underlying41 hi0 hz0 hz1 hz2 rfl (by decide) (.slice a6 nw.length c6) nw.length (fl tge nw) (by rfl) HOWd.out (some ⟨b, off + (nw.length + 1) * 6, none⟩) ol.length (uc - (nw.length + 1)) (fl tge ol) (by rfl) (fun h => nomatch h) HLN.out HNC.out HON.out HMX.out HBY.out HBS.out ?_; intro v7 w7 hown7 hgrow7 hat7; obtain ⟨a7, c7, rfl⟩ := own_lt hown7) | (go_at_call 57; with_reducible refine (HWI.out _ _ (by assumption) (by assumption) (HZG.out _ hgrow7)).mono ?_; rintro e w' ⟨a8, n8, c8, rfl, hmn8, hkeep, hzk, ⟨z0, z1, z2, z3, z4, z5, z6⟩, ⟨y0, y1, y2, y3, y4, y5, y6⟩⟩))
    have hz := ns_stored (.int .i64 id) (.int .i64 r.dev) (.int .i64 r.id) (.int .i64 r.fid) (.string (T r.path)) (.string (T r.name)) (.slice a8 n8 c8) hzk
    obtain ⟨⟨x0, x1, x2, x3, x4, x5, x6⟩, _⟩ := ns_reads hz.1
    have HD := Lib.hid (grown_below (CuR.bel (CuT.r hkeep)) hz.2 (by omega))
    have HM := Lib.hid (fin_in hmn8 hz.2)
    clear h0 h1 h2 h3 h4 h5 h6 o0 o1 o2 o3 o4 c0 c1 c2 c3 c4
    go_wp2_with fail
    exact bodyPost_ret (v := .tuple #[.agg #[.int .i64 id, .int .i64 r.dev, .int .i64 r.id, .int .i64 r.fid, .string (T r.path), .string (T r.name), .slice a8 n8 c8], .int .i64 0]) (by simp [results, Try.results41, go_sem, x0, x1, x2, x3, x4, x5, x6]) rfl (ns_err HPUT.out HM.out HD.out)
end Go.Proofs.Ytganenaaglfdnaa
