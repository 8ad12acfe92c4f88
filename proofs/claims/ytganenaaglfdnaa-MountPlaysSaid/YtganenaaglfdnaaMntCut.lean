/- What the product's Cut returns: Ns.cut. Conditions: the slice holds the given mounts; at most 10^5 mounts, each of at most 10^6 targets. -/
import Derived.Test.YtganenaaglfdnaaMntRCutAll
import Derived.Test.YtganenaaglfdnaaSkips
set_option linter.unusedVariables false
set_option linter.unusedSimpArgs false
namespace Go.Proofs.Ytganenaaglfdnaa
open Go.RowKit
/-- The boxes of the name space and of two channels. -/
def CuR (w W : World) (id : Int) (r old c : Chn) (v : Value) : Prop :=
  W.heap[w.heap.size]? = some (.cells #[.int .i64 id, .int .i64 r.dev, .int .i64 r.id, .int .i64 r.fid, .string (T r.path), .string (T r.name), v] 26 (0, 0)) ∧
  W.heap[w.heap.size + 1]? = some (.cells #[.int .i64 old.dev, .int .i64 old.id, .int .i64 old.fid, .string (T old.path), .string (T old.name)] 23 (0, 0)) ∧
  W.heap[w.heap.size + 2]? = some (.cells #[.int .i64 c.dev, .int .i64 c.id, .int .i64 c.fid, .string (T c.path), .string (T c.name)] 23 (0, 0)) ∧ Below w.heap.size w W
theorem CuR.next {w W W' : World} {id : Int} {r old c : Chn} {v : Value} (h : CuR w W id r old c v) (hb : Below W.heap.size W W') : CuR w W' id r old c v :=
  ⟨(hb.block _ (row_lt h.1)).trans h.1, (hb.block _ (row_lt h.2.1)).trans h.2.1, (hb.block _ (row_lt h.2.2.1)).trans h.2.2.1, bnext h.2.2.2 hb⟩
theorem CuR.grown {w W W' : World} {id : Int} {r old c : Chn} {v : Value} {p : Nat} (h : CuR w W id r old c v) (hg : W.grownBy W' (some p)) (hp : w.heap.size + 3 ≤ p) : CuR w W' id r old c v :=
  ⟨(hg.block _ (row_lt h.1) (fun e => by cases e; omega)).trans h.1, (hg.block _ (row_lt h.2.1) (fun e => by cases e; omega)).trans h.2.1, (hg.block _ (row_lt h.2.2.1) (fun e => by cases e; omega)).trans h.2.2.1, grown_below h.2.2.2 hg (by omega)⟩
/-- The same with the cells, and a cell from before. -/
abbrev CuS (w W : World) (id : Int) (r old c : Chn) (v : Value) (b o : Nat) (tv : Value) : Prop :=
  W.cell? ⟨w.heap.size, 0, none⟩ = some (.int .i64 id) ∧ W.cell? ⟨w.heap.size, 1, none⟩ = some (.int .i64 r.dev) ∧ W.cell? ⟨w.heap.size, 2, none⟩ = some (.int .i64 r.id) ∧ W.cell? ⟨w.heap.size, 3, none⟩ = some (.int .i64 r.fid) ∧ W.cell? ⟨w.heap.size, 4, none⟩ = some (.string (T r.path)) ∧ W.cell? ⟨w.heap.size, 5, none⟩ = some (.string (T r.name)) ∧ W.cell? ⟨w.heap.size, 6, none⟩ = some (v) ∧ W.cell? ⟨w.heap.size + 1, 0, none⟩ = some (.int .i64 old.dev) ∧ W.cell? ⟨w.heap.size + 1, 1, none⟩ = some (.int .i64 old.id) ∧ W.cell? ⟨w.heap.size + 1, 2, none⟩ = some (.int .i64 old.fid) ∧ W.cell? ⟨w.heap.size + 1, 3, none⟩ = some (.string (T old.path)) ∧ W.cell? ⟨w.heap.size + 1, 4, none⟩ = some (.string (T old.name)) ∧ W.cell? ⟨w.heap.size + 2, 0, none⟩ = some (.int .i64 c.dev) ∧ W.cell? ⟨w.heap.size + 2, 1, none⟩ = some (.int .i64 c.id) ∧ W.cell? ⟨w.heap.size + 2, 2, none⟩ = some (.int .i64 c.fid) ∧ W.cell? ⟨w.heap.size + 2, 3, none⟩ = some (.string (T c.path)) ∧ W.cell? ⟨w.heap.size + 2, 4, none⟩ = some (.string (T c.name)) ∧ W.cell? ⟨b, o, none⟩ = some (tv) ∧ CuR w W id r old c v
theorem CuR.reads {w W : World} {id : Int} {r old c : Chn} {v : Value} {b o : Nat} {tv : Value} (h : CuR w W id r old c v) (hb : b < w.heap.size) (ht : w.cell? ⟨b, o, none⟩ = some tv) : CuS w W id r old c v b o tv := by
  obtain ⟨⟨h0, h1, h2, h3, h4, h5, h6⟩, _⟩ := ns_reads h.1
  obtain ⟨o0, o1, o2, o3, o4⟩ := ch_reads h.2.1
  obtain ⟨c0, c1, c2, c3, c4⟩ := ch_reads h.2.2.1
  exact ⟨h0, h1, h2, h3, h4, h5, h6, o0, o1, o2, o3, o4, c0, c1, c2, c3, c4, (h.2.2.2.cell (p := ⟨b, o, none⟩) hb).trans ht, h⟩
theorem CuS.r {w W : World} {id : Int} {r old c : Chn} {v : Value} {b o : Nat} {tv : Value} (h : CuS w W id r old c v b o tv) : CuR w W id r old c v := h.2.2.2.2.2.2.2.2.2.2.2.2.2.2.2.2.2.2
theorem CuR.bel {w W : World} {id : Int} {r old c : Chn} {v : Value} (h : CuR w W id r old c v) : Below w.heap.size w W := h.2.2.2
namespace Ns
theorem cut_none {ms : List Mnt} {old c : Chn} (h : find ms old < 0) : cut ms old c = (ms, 45) := by
  unfold cut; rw [union_none h, if_pos (by unfold elem; simp [ix])]
theorem cut_miss {ms : List Mnt} {old c : Chn} {u : List Tgt} (hu : union ms old = (u, true)) (h : elem u c < 0) : cut ms old c = (ms, 45) := by
  unfold cut; rw [hu]; simp only; rw [if_pos h]
theorem cut_one {ms : List Mnt} {old c : Chn} {u : List Tgt} (hu : union ms old = (u, true)) (h : 0 ≤ elem u c) (h1 : u.length = 1) : cut ms old c = cutAll ms old := by
  unfold cut; rw [hu]; simp only; rw [if_neg (by omega), if_pos h1]
theorem cut_more {ms : List Mnt} {old c : Chn} {u : List Tgt} {q : Nat} (hu : union ms old = (u, true)) (h : elem u c = q) (h1 : u.length ≠ 1) : cut ms old c = (put ms old (u.eraseIdx q), 0) := by
  unfold cut; rw [hu]; simp only; rw [h, if_neg (by omega), if_neg h1, show ((q : Int)).toNat = q from by omega]
end Ns

/-- Behind the store into the result's box. -/
theorem fin_in {P : Nat → Prop} {W W' : World} {p : Nat} {v : Value} {ms : List Mnt} (h : MIn W (fun b => P b ∧ b ≠ p) v ms) (hg : W.grownBy W' (some p)) : MIn W' P v ms := (h.grown hg (fun e => e.2 rfl)).weak (fun b h _ => h.1)

set_option maxRecDepth 20000 in
set_option maxHeartbeats 8000000 in
theorem mcut_any (P : Nat → Prop) (id : Int) (r : Chn) (v : Value) (ms : List Mnt) (old c : Chn) (w : World) (hv : Mnts w v ms) (hP : ∀ b, w.heap.size ≤ b → P b) (hl : ms.length ≤ 100000) (hu : ∀ m ∈ ms, m.to.length ≤ 1000000) :
    Calls Try.prog 30 #[nsv id r v, chv old, chv c] w (NsErr P id r (Ns.cut ms old c) w) := by
  obtain ⟨ao, n, cp, rfl⟩ := hv.form
  obtain ⟨rfl, hat⟩ := hv.at
  have HB := Lib.hid (Below.refl w.heap.size w)
  have HC := Lib.hid (fun (W : World) (h : Below w.heap.size w W) => mcopy_any id r (.slice ao ms.length cp) ms id W (hv.below h) (by omega) hu)
  have HPP := Lib.hid hP
  have HCA := Lib.hid (fun (W : World) (h : Below w.heap.size w W) (hz : w.heap.size + 3 < W.heap.size) => mcutall_any (fun b => P b ∧ b ≠ w.heap.size + 3) id r (.slice ao ms.length cp) ms old W (hv.below h) (fun b hb => ⟨hP b (by omega), by omega⟩) (by omega) hu)
  have HWT := Lib.hid (fun (ix : Nat) (uv : Value) (u : List Tgt) (W : World) (h : Below w.heap.size w W) (hz : w.heap.size + 3 < W.heap.size) (hx : Tgts W uv u) (hup : u ≠ [] → ∃ b, uv.ownBlock = some b ∧ P b ∧ b ≠ w.heap.size + 3) (hix : (ix < ms.length ∧ Ns.find ms old = ix) ∨ (ix = ms.length ∧ Ns.find ms old < 0)) => mwith_any (fun b => P b ∧ b ≠ w.heap.size + 3) id r (.slice ao ms.length cp) ms ix old uv u W (hv.below h) hx (fun b hb => ⟨hP b (by omega), by omega⟩) hup hl hu hix)
  have HFI := Lib.hid (fun (W : World) (h : Below w.heap.size w W) => find_any id r (.slice ao ms.length cp) ms old W (hv.below h) (by omega))
  obtain ⟨PM, hPM⟩ : ∃ PM, Ns.cut ms old c = PM := ⟨_, rfl⟩
  have HPM := Lib.hid hPM
  obtain ⟨FI, hFI⟩ : ∃ FI, Ns.find ms old = FI := ⟨_, rfl⟩
  have HFE := Lib.hid hFI
  have HM := Lib.hid hat
  have HU := Lib.hid hu
  rw [hFI] at HFI
  rw [hPM]
  clear hv hu hPM hFI hat hP
  unfold nsv chv at *
  go_enter Try.func30, Try.ntmps30
  go_wp2_with fail
  with_reducible refine (HFI.out _ ((((HB.out.alloc (Nat.le_refl _) _).alloc (by simp) _).alloc (by simp; omega) _).alloc (by simp; omega) _)).mono ?_; rintro e w1 ⟨rfl, b1⟩
  obtain ⟨hr0, hr1, hr2, hr3, hb1⟩ := mafter4 b1
  have HS1 : Hid (CuR w w1 id r old c (.slice ao ms.length cp)) := ⟨hr0, hr1, hr2, hb1⟩
  have HZ1 := Lib.hid hr3
  clear hr0 hr1 hr2 hr3 hb1 b1 HFI
  rcases Int.lt_or_le FI 0 with hfi | hfi
  · have HPUT := Lib.hid (show PM = (ms, 45) from by rw [← HPM.out]; exact Ns.cut_none (by rw [HFE.out]; exact hfi))
    have hfi' : (FI < 0) = True := eq_true hfi
    go_upto_region 2 with fail
    refine wp_region_held_drew (S := (fun W' => CuR w W' id r old c (.slice ao ms.length cp))) (by kernel_rfl) (CuR.next HS1.out (below_drew1 (Below.refl _ _))) (fun hHeld => ?_)
    refine wpAnyH_takeD (i := 0) (d := 13) (v := ?v0) rfl rfl (by kernel_rfl) (by kernel_rfl) (by kernel_rfl) (fun _ _ _ h => h) (Or.inl ⟨by rfl, ?yv0⟩) (by assumption) ?rv0
    case yv0 => (intro w hSw; (try dsimp only at hSw); go_simp <;> with_reducible rfl)
    try simp only [Act.put, List.setIfInBounds_toArray, List.set_cons_zero, List.set_cons_succ]
    refine wpAnyH_takeD (i := 1) (d := 14) (v := ?v1) rfl rfl (by kernel_rfl) (by kernel_rfl) (by kernel_rfl) (fun _ _ _ h => h) (Or.inl ⟨by rfl, ?yv1⟩) (by assumption) ?rv1
    case yv1 => (intro w hSw; (try dsimp only at hSw); go_simp <;> with_reducible rfl)
    try simp only [Act.put, List.setIfInBounds_toArray, List.set_cons_zero, List.set_cons_succ]
    refine wpAnyH_takeD (i := 2) (d := 15) (v := ?v2) rfl rfl (by kernel_rfl) (by kernel_rfl) (by kernel_rfl) (fun _ _ _ h => h) (Or.inl ⟨by rfl, ?yv2⟩) (by assumption) ?rv2
    case yv2 => (intro w hSw; (try dsimp only at hSw); go_simp <;> with_reducible rfl)
    try simp only [Act.put, List.setIfInBounds_toArray, List.set_cons_zero, List.set_cons_succ]
    refine wpAnyH_skips (by kernel_rfl) (fun _ _ _ _ h => h) (by assumption) [(3, 16), (4, 17), (5, 18), (6, 19), (7, 20), (8, 21), (9, 22), (10, 23), (11, 24)] 1 _ _ _ rfl (by kernel_rfl) ?_
    simp only [skipAct, skipListed, Act.put, List.setIfInBounds_toArray, List.set_cons_zero, List.set_cons_succ]
    refine wpAnyH_takeD (i := 12) (d := 25) (v := ?v12) rfl rfl (by kernel_rfl) (by kernel_rfl) (by kernel_rfl) (fun _ _ _ h => h) (Or.inl ⟨by rfl, ?yv12⟩) (by assumption) ?rv12
    case yv12 => (intro w hSw; (try dsimp only at hSw); go_simp <;> with_reducible rfl)
    try simp only [Act.put, List.setIfInBounds_toArray, List.set_cons_zero, List.set_cons_succ]
    refine wpAnyH_done (by kernel_rfl) ?_ _
    have HS2 := Lib.hid (HS1.out.next (below_drew1 (Below.refl _ _)))
    have HZ2 : Hid (w1.drew.heap[w.heap.size + 3]? = _) := HZ1.out
    generalize w1.drew = w2 at *
    obtain ⟨⟨h0, h1, h2, h3, h4, h5, h6⟩, _⟩ := ns_reads HS2.out.1
    have HBW := Lib.hid HS2.out.bel
    go_wp2_with fail
    refine (HC.out _ HBW.out).mono ?_; rintro e w4 ⟨v4, rfl, hm4, b4⟩
    obtain ⟨a4, c4, rfl⟩ := hm4.form
    have hz4 := (b4.block _ (row_lt HZ2.out)).trans HZ2.out
    obtain ⟨⟨z0, z1, z2, z3, z4, z5, z6⟩, ⟨y0, y1, y2, y3, y4, y5, y6⟩⟩ := ns_reads hz4
    have hbb := bnext HBW.out b4
    have HML := Lib.hid hm4
    have HBB := Lib.hid hbb
    have HZ4 := Lib.hid hz4
    have HLT := Lib.hid (row_lt HZ2.out)
    clear b4 hm4 hbb hz4
    go_wp2_with fail
    have hz := ns_stored (.int .i64 id) (.int .i64 r.dev) (.int .i64 r.id) (.int .i64 r.fid) (.string (T r.path)) (.string (T r.name)) (.slice a4 ms.length c4) HZ4.out
    obtain ⟨⟨x0, x1, x2, x3, x4, x5, x6⟩, _⟩ := ns_reads hz.1
    have HD := Lib.hid (grown_below HBB.out hz.2 (by omega))
    have HM := Lib.hid (fin_in (HML.out.inn (fun b h _ => ⟨HPP.out b (by have := HLT.out; omega), by have := HLT.out; omega⟩) (fun b h => ⟨HPP.out b (by have := HLT.out; omega), by have := HLT.out; omega⟩)) hz.2)
    exact bodyPost_ret (v := .tuple #[.agg #[.int .i64 id, .int .i64 r.dev, .int .i64 r.id, .int .i64 r.fid, .string (T r.path), .string (T r.name), .slice a4 ms.length c4], .int .i64 45]) (by simp [results, Try.results30, go_sem, x0, x1, x2, x3, x4, x5, x6]) rfl (ns_err HPUT.out HM.out HD.out)
  obtain ⟨k, hk, e1, e2, e3⟩ := Ns.find_at (show 0 ≤ Ns.find ms old by rw [HFE.out]; exact hfi)
  have hFK : FI = k := by rw [← HFE.out]; exact e1
  subst hFK
  have HUN := Lib.hid e2
  clear hfi e1 e2 e3
  obtain ⟨b, off, rfl, hbl, cc, tv, c5, ct⟩ := HM.out k hk
  obtain ⟨ta, tn, tc, rfl⟩ := ct.form
  obtain ⟨rfl, hx⟩ := ct.at
  clear hx
  have HCT := Lib.hid ct
  have HTL := Lib.hid (HU.out ms[k] (List.getElem_mem hk))
  have HRD := Lib.hid (fun (W : World) (h : CuR w W id r old c (.slice (some ⟨b, off, none⟩) ms.length cp)) => h.reads hbl c5)
  have HSd : Hid (CuS w w1.drew id r old c (.slice (some ⟨b, off, none⟩) ms.length cp) b (off + k * 6 + 5) (.slice ta ms[k].to.length tc)) := HRD.out _ (HS1.out.next (below_drew1 (Below.refl _ _)))
  have HZd : Hid (w1.drew.heap[w.heap.size + 3]? = some (.cells #[.int .i64 0, .int .i64 0, .int .i64 0, .int .i64 0, .string ⟨#[]⟩, .string ⟨#[]⟩, .slice none 0 0] 26 (0, 0))) := HZ1.out
  have HEL := Lib.hid (fun (W : World) (h : CuS w W id r old c (.slice (some ⟨b, off, none⟩) ms.length cp) b (off + k * 6 + 5) (.slice ta ms[k].to.length tc)) (hz : W.heap[w.heap.size + 3]? = some (.cells #[.int .i64 0, .int .i64 0, .int .i64 0, .int .i64 0, .string ⟨#[]⟩, .string ⟨#[]⟩, .slice none 0 0] 26 (0, 0))) => (element_any (.slice ta ms[k].to.length tc) ms[k].to c W (HCT.out.below h.r.bel) HTL.out).mono fun e w' h' => (show e = .returned (.int .i64 (Ns.elem ms[k].to c)) ∧ CuS w w' id r old c (.slice (some ⟨b, off, none⟩) ms.length cp) b (off + k * 6 + 5) (.slice ta ms[k].to.length tc) ∧ w'.heap[w.heap.size + 3]? = some (.cells #[.int .i64 0, .int .i64 0, .int .i64 0, .int .i64 0, .string ⟨#[]⟩, .string ⟨#[]⟩, .slice none 0 0] 26 (0, 0)) from ⟨h'.1, HRD.out _ (h.r.next h'.2), (h'.2.block _ (row_lt hz)).trans hz⟩))
  unfold chv at HEL
  have KS : ∀ {W : World} (b0 b1 b2 b3 b4 b5 b6 : Value), CuS w W id r old c (.slice (some ⟨b, off, none⟩) ms.length cp) b (off + k * 6 + 5) (.slice ta ms[k].to.length tc) → CuS w (((((((W.setCell ⟨w.heap.size + 3, 0, none⟩ b0).setCell ⟨w.heap.size + 3, 1, none⟩ b1).setCell ⟨w.heap.size + 3, 2, none⟩ b2).setCell ⟨w.heap.size + 3, 3, none⟩ b3).setCell ⟨w.heap.size + 3, 4, none⟩ b4).setCell ⟨w.heap.size + 3, 5, none⟩ b5).setCell ⟨w.heap.size + 3, 6, none⟩ b6) id r old c (.slice (some ⟨b, off, none⟩) ms.length cp) b (off + k * 6 + 5) (.slice ta ms[k].to.length tc) := fun b0 b1 b2 b3 b4 b5 b6 h =>
    HRD.out _ (h.r.grown (p := w.heap.size + 3) (grown_set (grown_set (grown_set (grown_set (grown_set (grown_set (grown_set (grown_refl _ _) 0 b0) 1 b1) 2 b2) 3 b3) 4 b4) 5 b5) 6 b6) (Nat.le_refl _))
  have hki : (k : Int) < ms.length := by omega
  clear c5 cc ct hbl
  go_upto_region 2 with fail
  rcases Int.lt_or_le (Ns.elem ms[k].to c) 0 with hel | hel
  · have HPUT := Lib.hid (show PM = (ms, 45) from by rw [← HPM.out]; exact Ns.cut_miss HUN.out hel)
    generalize Ns.elem ms[k].to c = EL at *
    go_region_held_law (fun W' => CuS w W' id r old c (.slice (some ⟨b, off, none⟩) ms.length cp) b (off + k * 6 + 5) (.slice ta ms[k].to.length tc)) (first | (with_reducible assumption) | (with_reducible exact HSd.out) | (with_reducible exact KS _ _ _ _ _ _ _ (by assumption))) (first | (go_at_call 34; refine (HEL.out _ (by assumption) (by first | assumption | exact HZd.out)).mono ?_; rintro e w' ⟨rfl, hkeep, hzk⟩))
    have HS2 := Lib.hid (CuS.r hkeep)
    have HZ2 := Lib.hid hzk
    obtain ⟨h0, h1, h2, h3, h4, h5, h6, o0, o1, o2, o3, o4, c0, c1, c2, c3, c4, ht, _⟩ := hkeep
    clear hzk
    have HBW := Lib.hid HS2.out.bel
    go_wp2_with fail
    refine (HC.out _ HBW.out).mono ?_; rintro e w4 ⟨v4, rfl, hm4, b4⟩
    obtain ⟨a4, c4, rfl⟩ := hm4.form
    have hz4 := (b4.block _ (row_lt HZ2.out)).trans HZ2.out
    obtain ⟨⟨z0, z1, z2, z3, z4, z5, z6⟩, ⟨y0, y1, y2, y3, y4, y5, y6⟩⟩ := ns_reads hz4
    have hbb := bnext HBW.out b4
    have HML := Lib.hid hm4
    have HBB := Lib.hid hbb
    have HZ4 := Lib.hid hz4
    have HLT := Lib.hid (row_lt HZ2.out)
    clear b4 hm4 hbb hz4
    go_wp2_with fail
    have hz := ns_stored (.int .i64 id) (.int .i64 r.dev) (.int .i64 r.id) (.int .i64 r.fid) (.string (T r.path)) (.string (T r.name)) (.slice a4 ms.length c4) HZ4.out
    obtain ⟨⟨x0, x1, x2, x3, x4, x5, x6⟩, _⟩ := ns_reads hz.1
    have HD := Lib.hid (grown_below HBB.out hz.2 (by omega))
    have HM := Lib.hid (fin_in (HML.out.inn (fun b h _ => ⟨HPP.out b (by have := HLT.out; omega), by have := HLT.out; omega⟩) (fun b h => ⟨HPP.out b (by have := HLT.out; omega), by have := HLT.out; omega⟩)) hz.2)
    exact bodyPost_ret (v := .tuple #[.agg #[.int .i64 id, .int .i64 r.dev, .int .i64 r.id, .int .i64 r.fid, .string (T r.path), .string (T r.name), .slice a4 ms.length c4], .int .i64 45]) (by simp [results, Try.results30, go_sem, x0, x1, x2, x3, x4, x5, x6]) rfl (ns_err HPUT.out HM.out HD.out)
  obtain ⟨q, hq⟩ := Int.eq_ofNat_of_zero_le hel
  have HEQ := Lib.hid hq
  have hql : q < ms[k].to.length := by
    have := Ns.ix_lt (fun t : Tgt => Ns.same t.ch c) ms[k].to
    have h2 : Ns.elem ms[k].to c = Ns.ix (fun t : Tgt => Ns.same t.ch c) ms[k].to := rfl
    omega
  have hqn : q ≤ 1000000 := by have := HTL.out; omega
  have hqw : IntKind.i64.wrap ((q : Int) + 1) = (q : Int) + 1 := IntWalk.i64_in ((q : Int) + 1) ⟨by omega, by omega⟩
  clear hqn
  rw [hq] at HEL
  clear hel hq
  go_region_held_law (fun W' => CuS w W' id r old c (.slice (some ⟨b, off, none⟩) ms.length cp) b (off + k * 6 + 5) (.slice ta ms[k].to.length tc)) (first | (with_reducible assumption) | (with_reducible exact HSd.out) | (with_reducible exact KS _ _ _ _ _ _ _ (by assumption))) (first | (go_at_call 34; refine (HEL.out _ (by assumption) (by first | assumption | exact HZd.out)).mono ?_; rintro e w' ⟨rfl, hkeep, hzk⟩))
  have HS2 := Lib.hid (CuS.r hkeep)
  have HZ2 := Lib.hid hzk
  obtain ⟨h0, h1, h2, h3, h4, h5, h6, o0, o1, o2, o3, o4, c0, c1, c2, c3, c4, ht, _⟩ := hkeep
  clear hzk HSd HZd
  by_cases h1 : ms[k].to.length = 1
  · obtain ⟨ms1, E1, hp1⟩ : ∃ a b, Ns.cutAll ms old = (a, b) := ⟨_, _, rfl⟩
    have HPUT := Lib.hid (show PM = (ms1, E1) from by rw [← HPM.out, ← hp1]; exact Ns.cut_one HUN.out (by rw [HEQ.out]; omega) h1)
    rw [hp1] at HCA
    have HBW := Lib.hid HS2.out.bel
    have HLT := Lib.hid (row_lt HZ2.out)
    have h1i : (ms[k].to.length : Int) = 1 := by omega
    go_wp2_with fail
    refine (HCA.out _ HBW.out HLT.out).mono ?_; rintro e w4 ⟨a4, n4, c4, rfl, hm4, b4⟩
    have hz4 := (b4.block _ (row_lt HZ2.out)).trans HZ2.out
    obtain ⟨⟨z0, z1, z2, z3, z4, z5, z6⟩, ⟨y0, y1, y2, y3, y4, y5, y6⟩⟩ := ns_reads hz4
    have hbb := bnext HBW.out b4
    have HZ4 := Lib.hid hz4
    have HBB := Lib.hid hbb
    have HMN := Lib.hid hm4
    clear b4 hz4 hbb hm4
    unfold nsv
    go_wp2_with fail
    have hz := ns_stored (.int .i64 id) (.int .i64 r.dev) (.int .i64 r.id) (.int .i64 r.fid) (.string (T r.path)) (.string (T r.name)) (.slice a4 n4 c4) HZ4.out
    obtain ⟨⟨x0, x1, x2, x3, x4, x5, x6⟩, _⟩ := ns_reads hz.1
    have HD := Lib.hid (grown_below HBB.out hz.2 (by omega))
    have HM := Lib.hid (fin_in HMN.out hz.2)
    exact bodyPost_ret (v := .tuple #[.agg #[.int .i64 id, .int .i64 r.dev, .int .i64 r.id, .int .i64 r.fid, .string (T r.path), .string (T r.name), .slice a4 n4 c4], .int .i64 E1]) (by simp [results, Try.results30, go_sem, x0, x1, x2, x3, x4, x5, x6]) rfl (ns_err HPUT.out HM.out HD.out)
  have HPUT := Lib.hid (show PM = (Ns.put ms old (ms[k].to.eraseIdx q), 0) from by rw [← HPM.out]; exact Ns.cut_more HUN.out HEQ.out h1)
  have h1i : ¬ (ms[k].to.length : Int) = 1 := by omega
  have h1b : ((ms[k].to.length : Int) == 1) = false := beq_eq_false_iff_ne.2 h1i
  have HSd : Hid (CuS w w'.drew id r old c (.slice (some ⟨b, off, none⟩) ms.length cp) b (off + k * 6 + 5) (.slice ta ms[k].to.length tc)) := HRD.out _ (HS2.out.next (below_drew1 (Below.refl _ _)))
  have HZd : Hid (w'.drew.heap[w.heap.size + 3]? = some (.cells #[.int .i64 0, .int .i64 0, .int .i64 0, .int .i64 0, .string ⟨#[]⟩, .string ⟨#[]⟩, .slice none 0 0] 26 (0, 0))) := HZ2.out
  go_upto_region 6 with fail
  go_region_held_law (fun W' => CuS w W' id r old c (.slice (some ⟨b, off, none⟩) ms.length cp) b (off + k * 6 + 5) (.slice ta ms[k].to.length tc)) (first | (with_reducible assumption) | (with_reducible exact HSd.out) | (with_reducible exact KS _ _ _ _ _ _ _ (by assumption))) (first | (go_at_call 34; refine (HEL.out _ (by assumption) (by first | assumption | exact HZd.out)).mono ?_; rintro e w' ⟨rfl, hkeep, hzk⟩))
  clear h0 h1 h2 h3 h4 h5 h6 o0 o1 o2 o3 o4 c0 c1 c2 c3 c4 ht HSd HZd
  have HS3 := Lib.hid (CuS.r hkeep)
  have HZ3 := Lib.hid hzk
  obtain ⟨h0, h1, h2, h3, h4, h5, h6, o0, o1, o2, o3, o4, c0, c1, c2, c3, c4, ht, _⟩ := hkeep
  clear hzk
  have HSd : Hid (CuS w w'.drew id r old c (.slice (some ⟨b, off, none⟩) ms.length cp) b (off + k * 6 + 5) (.slice ta ms[k].to.length tc)) := HRD.out _ (HS3.out.next (below_drew1 (Below.refl _ _)))
  have HZd : Hid (w'.drew.heap[w.heap.size + 3]? = some (.cells #[.int .i64 0, .int .i64 0, .int .i64 0, .int .i64 0, .string ⟨#[]⟩, .string ⟨#[]⟩, .slice none 0 0] 26 (0, 0))) := HZ3.out
  have HCL := Lib.hid (fun (W : World) (h : CuS w W id r old c (.slice (some ⟨b, off, none⟩) ms.length cp) b (off + k * 6 + 5) (.slice ta ms[k].to.length tc)) (hz : W.heap[w.heap.size + 3]? = some (.cells #[.int .i64 0, .int .i64 0, .int .i64 0, .int .i64 0, .string ⟨#[]⟩, .string ⟨#[]⟩, .slice none 0 0] 26 (0, 0))) => (tclone_any (.slice ta ms[k].to.length tc) ms[k].to W (HCT.out.below h.r.bel) HTL.out).mono fun e w' h' => (show ∃ a5 c5, e = .returned (.slice a5 ms[k].to.length c5) ∧ TOwn w' (w.heap.size + 4) (.slice a5 ms[k].to.length c5) ms[k].to ∧ CuS w w' id r old c (.slice (some ⟨b, off, none⟩) ms.length cp) b (off + k * 6 + 5) (.slice ta ms[k].to.length tc) ∧ w'.heap[w.heap.size + 3]? = some (.cells #[.int .i64 0, .int .i64 0, .int .i64 0, .int .i64 0, .string ⟨#[]⟩, .string ⟨#[]⟩, .slice none 0 0] 26 (0, 0)) from by
    obtain ⟨v', k1, k2, k3⟩ := h'
    obtain ⟨a5, c5, rfl⟩ := own_lt k2
    exact ⟨a5, c5, k1, World.ownsRow.mono k2 (row_lt hz), HRD.out _ (h.r.next k3), (k3.block _ (row_lt hz)).trans hz⟩))
  have HDE := Lib.hid (fun (a5 : Option Addr) (c5 : Nat) (W : World) (ho : TOwn W (w.heap.size + 4) (.slice a5 ms[k].to.length c5) ms[k].to) (h : CuS w W id r old c (.slice (some ⟨b, off, none⟩) ms.length cp) b (off + k * 6 + 5) (.slice ta ms[k].to.length tc)) (hz : W.heap[w.heap.size + 3]? = some (.cells #[.int .i64 0, .int .i64 0, .int .i64 0, .int .i64 0, .string ⟨#[]⟩, .string ⟨#[]⟩, .slice none 0 0] 26 (0, 0))) => (tdel_any (.slice a5 ms[k].to.length c5) ms[k].to q (w.heap.size + 4) W ho hql HTL.out).mono fun e w' h' => (show ∃ a7 n7 c7, e = .returned (.slice a7 n7 c7) ∧ TOwn w' (w.heap.size + 4) (.slice a7 n7 c7) (ms[k].to.eraseIdx q) ∧ CuS w w' id r old c (.slice (some ⟨b, off, none⟩) ms.length cp) b (off + k * 6 + 5) (.slice ta ms[k].to.length tc) ∧ w'.heap[w.heap.size + 3]? = some (.cells #[.int .i64 0, .int .i64 0, .int .i64 0, .int .i64 0, .string ⟨#[]⟩, .string ⟨#[]⟩, .slice none 0 0] 26 (0, 0)) from by
    obtain ⟨g, c7, k0, k1, k2, k3⟩ := h'
    have hge : w.heap.size + 4 ≤ g := (k2.lt g rfl).1
    exact ⟨_, _, _, k1, k2, HRD.out _ (h.r.grown k3 (by omega)), (k3.block _ (row_lt hz) (fun e => by cases e; omega)).trans hz⟩))
  have HWI := Lib.hid (fun (a7 : Option Addr) (n7 c7 : Nat) (W : World) (ho : TOwn W (w.heap.size + 4) (.slice a7 n7 c7) (ms[k].to.eraseIdx q)) (h : CuS w W id r old c (.slice (some ⟨b, off, none⟩) ms.length cp) b (off + k * 6 + 5) (.slice ta ms[k].to.length tc)) (hz : W.heap[w.heap.size + 3]? = some (.cells #[.int .i64 0, .int .i64 0, .int .i64 0, .int .i64 0, .string ⟨#[]⟩, .string ⟨#[]⟩, .slice none 0 0] 26 (0, 0))) => (HWT.out k (.slice a7 n7 c7) (ms[k].to.eraseIdx q) W h.r.bel (row_lt hz) ho.tgts (fun hn => by
      obtain ⟨b', e1, e2, e3⟩ := ho.block hn
      exact ⟨b', e1, HPP.out b' (by omega), by omega⟩) (.inl ⟨hk, HFE.out⟩)).mono fun e w' h' => (show ∃ a8 n8 c8, e = .returned (.agg #[.int .i64 id, .int .i64 r.dev, .int .i64 r.id, .int .i64 r.fid, .string (T r.path), .string (T r.name), .slice a8 n8 c8]) ∧ MIn w' (fun b => P b ∧ b ≠ w.heap.size + 3) (.slice a8 n8 c8) (Ns.put ms old (ms[k].to.eraseIdx q)) ∧ CuS w w' id r old c (.slice (some ⟨b, off, none⟩) ms.length cp) b (off + k * 6 + 5) (.slice ta ms[k].to.length tc) ∧ w'.heap[w.heap.size + 3]? = some (.cells #[.int .i64 0, .int .i64 0, .int .i64 0, .int .i64 0, .string ⟨#[]⟩, .string ⟨#[]⟩, .slice none 0 0] 26 (0, 0)) ∧
      (w'.cell? ⟨w.heap.size + 3, 0, none⟩ = some (.int .i64 0) ∧ w'.cell? ⟨w.heap.size + 3, 1, none⟩ = some (.int .i64 0) ∧ w'.cell? ⟨w.heap.size + 3, 2, none⟩ = some (.int .i64 0) ∧ w'.cell? ⟨w.heap.size + 3, 3, none⟩ = some (.int .i64 0) ∧ w'.cell? ⟨w.heap.size + 3, 4, none⟩ = some (.string ⟨#[]⟩) ∧ w'.cell? ⟨w.heap.size + 3, 5, none⟩ = some (.string ⟨#[]⟩) ∧ w'.cell? ⟨w.heap.size + 3, 6, none⟩ = some (.slice none 0 0)) ∧
      (w'.frozen? ⟨w.heap.size + 3, 0, none⟩ = false ∧ w'.frozen? ⟨w.heap.size + 3, 1, none⟩ = false ∧ w'.frozen? ⟨w.heap.size + 3, 2, none⟩ = false ∧ w'.frozen? ⟨w.heap.size + 3, 3, none⟩ = false ∧ w'.frozen? ⟨w.heap.size + 3, 4, none⟩ = false ∧ w'.frozen? ⟨w.heap.size + 3, 5, none⟩ = false ∧ w'.frozen? ⟨w.heap.size + 3, 6, none⟩ = false) from by
    obtain ⟨a8, n8, c8, k1, k2, k3⟩ := h'
    have hz' := (k3.block _ (row_lt hz)).trans hz
    exact ⟨a8, n8, c8, k1, k2, HRD.out _ (h.r.next k3), hz', (ns_reads hz').1, (ns_reads hz').2⟩))
  unfold chv at HWI
  go_upto_region 7 with fail
  go_region_held_law (fun W' => CuS w W' id r old c (.slice (some ⟨b, off, none⟩) ms.length cp) b (off + k * 6 + 5) (.slice ta ms[k].to.length tc)) (first | (with_reducible assumption) | (with_reducible exact HSd.out) | (with_reducible exact KS _ _ _ _ _ _ _ (by assumption))) (first | (go_at_call 39; with_reducible refine (HCL.out _ (by assumption) (by first | assumption | exact HZd.out)).mono ?_; rintro e w' ⟨a5, c5, rfl, hown5, hkeep, hzk⟩) | (go_at_call 52; with_reducible refine (HDE.out _ _ _ (by assumption) (by assumption) (by assumption)).mono ?_; rintro e w' ⟨a7, n7, c7, rfl, htg7, hkeep, hzk⟩) | (go_at_call 50; with_reducible refine (HWI.out _ _ _ _ (by assumption) (by assumption) (by assumption)).mono ?_; rintro e w' ⟨a8, n8, c8, rfl, hmn8, hkeep, hzk, ⟨z0, z1, z2, z3, z4, z5, z6⟩, ⟨y0, y1, y2, y3, y4, y5, y6⟩⟩))
  have hz := ns_stored (.int .i64 id) (.int .i64 r.dev) (.int .i64 r.id) (.int .i64 r.fid) (.string (T r.path)) (.string (T r.name)) (.slice a8 n8 c8) hzk
  obtain ⟨⟨x0, x1, x2, x3, x4, x5, x6⟩, _⟩ := ns_reads hz.1
  have HD := Lib.hid (grown_below (CuR.bel (CuS.r hkeep)) hz.2 (by omega))
  have HM := Lib.hid (fin_in hmn8 hz.2)
  clear h0 h1 h2 h3 h4 h5 h6 o0 o1 o2 o3 o4 c0 c1 c2 c3 c4 ht
  go_wp2_with fail
  exact bodyPost_ret (v := .tuple #[.agg #[.int .i64 id, .int .i64 r.dev, .int .i64 r.id, .int .i64 r.fid, .string (T r.path), .string (T r.name), .slice a8 n8 c8], .int .i64 0]) (by simp [results, Try.results30, go_sem, x0, x1, x2, x3, x4, x5, x6]) rfl (ns_err HPUT.out HM.out HD.out)
end Go.Proofs.Ytganenaaglfdnaa
