/- What the reference's Same returns: Ns.same?. Conditions: the slices hold the given mounts; at most 10^6 of them, each of at most 10^6 targets. -/
import Derived.Test.YtganenaaglfdnaaMntRSameU
set_option linter.unusedVariables false
set_option linter.unusedSimpArgs false
namespace Go.Proofs.Ytganenaaglfdnaa
open Go.RowKit
namespace Ns
open Classical in
theorem same_no {r1 r2 : Chn} {a b : List Mnt} (h : ¬ Same r1 a r2 b) : same? r1 a r2 b = false := decide_eq_false h
open Classical in
theorem same_yes {r1 r2 : Chn} {a b : List Mnt} (h : Same r1 a r2 b) : same? r1 a r2 b = true := decide_eq_true h
open Classical in
theorem sameU_of {a b : List Tgt} (h : sameU? a b = true) : sameU a b := by simpa [sameU?] using h
open Classical in
theorem sameU_not {a b : List Tgt} (h : sameU? a b = false) : ¬ sameU a b := by simpa [sameU?] using h
end Ns
/-- Two boxes. -/
def Two (w W : World) (A B : Obj) : Prop := W.heap[w.heap.size]? = some A ∧ W.heap[w.heap.size + 1]? = some B ∧ Below w.heap.size w W
theorem Two.next {w W W' : World} {A B : Obj} (h : Two w W A B) (hb : Below W.heap.size W W') : Two w W' A B := ⟨(hb.block _ (row_lt h.1)).trans h.1, (hb.block _ (row_lt h.2.1)).trans h.2.1, bnext h.2.2 hb⟩
theorem Two.start (w : World) (A B : Obj) : Two w ((w.alloc A).alloc B) A B := mafter2 (Below.refl _ _)
set_option maxRecDepth 20000 in
set_option maxHeartbeats 4000000 in
theorem rmsamens_any (i1 : Int) (r1 : Chn) (v1 : Value) (m1 : List Mnt) (i2 : Int) (r2 : Chn) (v2 : Value) (m2 : List Mnt) (w : World) (h1 : Mnts w v1 m1) (h2 : Mnts w v2 m2) (hl : m1.length ≤ 1000000) (hl2 : m2.length ≤ 1000000) (hu : ∀ m ∈ m1, m.to.length ≤ 1000000) (hu2 : ∀ m ∈ m2, m.to.length ≤ 1000000) :
    Calls Try.prog 27 #[nsv i1 r1 v1, nsv i2 r2 v2] w fun e w' => e = .returned (.bool (Ns.same? r1 m1 r2 m2)) ∧ Below w.heap.size w w' := by
  obtain ⟨a1, n1, p1, rfl⟩ := h1.form
  obtain ⟨a2, n2, p2, rfl⟩ := h2.form
  obtain ⟨rfl, k1⟩ := h1.at
  obtain ⟨rfl, k2⟩ := h2.at
  have HB := Lib.hid (Below.refl w.heap.size w)
  have H1 := Lib.hid k1
  have H2 := Lib.hid k2
  have HU1 := Lib.hid hu
  have HU2 := Lib.hid hu2
  have HSR := Lib.hid (fun W => rmsame_any r1 r2 W)
  have HNO := Lib.hid (fun h => Ns.same_no (r1 := r1) (a := m1) (r2 := r2) (b := m2) h)
  clear h1 h2 k1 k2 hu hu2
  unfold nsv chv at *
  cases hs : Ns.same r1 r2
  · have HF := Lib.hid (HNO.out (fun h => by rw [h.1] at hs; cases hs))
    rw [hs] at HSR
    go_enter Try.func27, Try.ntmps27
    go_wp2_with fail
    refine (HSR.out _).mono ?_; rintro e w1 ⟨rfl, b1⟩
    have HB1 := Lib.hid (mafter2 b1).2.2
    clear b1
    go_wp2_with fail
    go_ret
    exact ⟨by rw [HF.out]; rfl, HB1.out⟩
  rw [hs] at HSR
  by_cases hn : m1.length = m2.length
  rotate_left
  · have HF := Lib.hid (HNO.out (fun h => hn h.2.1))
    have hni : ¬ (m1.length : Int) = m2.length := by omega
    go_enter Try.func27, Try.ntmps27
    go_wp2_with fail
    refine (HSR.out _).mono ?_; rintro e w1 ⟨rfl, b1⟩
    obtain ⟨hr1, hr2, hb1⟩ := mafter2 b1
    obtain ⟨⟨q0, q1, q2, q3, q4, q5, q6⟩, _⟩ := ns_reads hr1
    obtain ⟨⟨z0, z1, z2, z3, z4, z5, z6⟩, _⟩ := ns_reads hr2
    have HB1 := Lib.hid hb1
    clear b1 hr1 hr2 hb1
    go_wp2_with fail
    go_ret
    exact ⟨by rw [HF.out]; rfl, HB1.out⟩
  have hni : (m1.length : Int) = m2.length := by omega
  have HNN := Lib.hid hn
  have HY := Lib.hid (fun h => Ns.same_yes (r1 := r1) (a := m1) (r2 := r2) (b := m2) ⟨hs, hn, h⟩)
  rw [← hn]
  clear hn hni hl2
  go_enter Try.func27, Try.ntmps27
  go_wp2_with fail
  refine (HSR.out _).mono ?_; rintro e w1 ⟨rfl, b1⟩
  have HT0 := Lib.hid ((Two.start w _ _).next b1)
  obtain ⟨⟨q0, q1, q2, q3, q4, q5, q6⟩, _⟩ := ns_reads HT0.out.1
  obtain ⟨⟨z0, z1, z2, z3, z4, z5, z6⟩, _⟩ := ns_reads HT0.out.2.1
  clear b1
  go_wp2_with fail
  clear q0 q1 q2 q3 q4 q5 q6 z0 z1 z2 z3 z4 z5 z6
  go_loopw [24] (fun i wr => ∃ k : Nat, k ≤ m1.length ∧ i = .int .i64 (k : Int) ∧ Hid (∀ j (h : j < m1.length) (h2 : j < m2.length), j < k → Ns.same m1[j].fr m2[j].fr = true ∧ Ns.sameU m1[j].to m2[j].to) ∧ Hid (Two w wr (.cells #[.int .i64 i1, .int .i64 r1.dev, .int .i64 r1.id, .int .i64 r1.fid, .string (T r1.path), .string (T r1.name), .slice a1 m1.length p1] 26 (0, 0)) (.cells #[.int .i64 i2, .int .i64 r2.dev, .int .i64 r2.id, .int .i64 r2.fid, .string (T r2.path), .string (T r2.name), .slice a2 m1.length p2] 26 (0, 0)))) (fun i _ => m1.length - (intOf i).toNat)
  case atStart => exact ⟨0, by omega, rfl, (fun j _ _ hj => by omega), HT0.out⟩
  case round =>
    obtain ⟨k, hk, rfl, hn, HTW⟩ := hrel
    obtain ⟨⟨q0, q1, q2, q3, q4, q5, q6⟩, _⟩ := ns_reads HTW.out.1
    obtain ⟨⟨z0, z1, z2, z3, z4, z5, z6⟩, _⟩ := ns_reads HTW.out.2.1
    clear q0 q1 q2 q3 q4 q5 z0 z1 z2 z3 z4 z5
    by_cases hlt : k < m1.length
    · have hlt2 : k < m2.length := by have := HNN.out; omega
      obtain ⟨x1, o1, rfl, l1, ca, t1, c5, ct1⟩ := H1.out k hlt
      obtain ⟨x2, o2, rfl, l2, da, t2, d5, ct2⟩ := H2.out k hlt2
      obtain ⟨ta1, tn1, tc1, rfl⟩ := ct1.form
      obtain ⟨ta2, tn2, tc2, rfl⟩ := ct2.form
      have hki : (k : Int) < m1.length := by omega
      have hb := HTW.out.2.2
      obtain ⟨c0, c1, c2, c3, c4⟩ := ca.below (w' := wr) ⟨hb.os, hb.tape, hb.output, hb.size, hb.block⟩ l1
      obtain ⟨d0, d1, d2, d3, d4⟩ := da.below (w' := wr) ⟨hb.os, hb.tape, hb.output, hb.size, hb.block⟩ l2
      rw [← hb.cell (p := ⟨x1, o1 + k * 6 + 5, none⟩) l1] at c5
      rw [← hb.cell (p := ⟨x2, o2 + k * 6 + 5, none⟩) l2] at d5
      clear hb ca da
      have KEEP : ∀ W' : World, Below wr.heap.size wr W' → (W'.cell? ⟨w.heap.size, 6, none⟩ = some (.slice (some ⟨x1, o1, none⟩) m1.length p1) ∧ W'.cell? ⟨w.heap.size + 1, 6, none⟩ = some (.slice (some ⟨x2, o2, none⟩) m1.length p2) ∧ W'.cell? ⟨x1, o1 + k * 6, none⟩ = some (.int .i64 m1[k].fr.dev) ∧ W'.cell? ⟨x1, o1 + k * 6 + 1, none⟩ = some (.int .i64 m1[k].fr.id) ∧ W'.cell? ⟨x1, o1 + k * 6 + 2, none⟩ = some (.int .i64 m1[k].fr.fid) ∧ W'.cell? ⟨x1, o1 + k * 6 + 3, none⟩ = some (.string (T m1[k].fr.path)) ∧ W'.cell? ⟨x1, o1 + k * 6 + 4, none⟩ = some (.string (T m1[k].fr.name)) ∧ W'.cell? ⟨x1, o1 + k * 6 + 5, none⟩ = some (.slice ta1 tn1 tc1) ∧ W'.cell? ⟨x2, o2 + k * 6, none⟩ = some (.int .i64 m2[k].fr.dev) ∧ W'.cell? ⟨x2, o2 + k * 6 + 1, none⟩ = some (.int .i64 m2[k].fr.id) ∧ W'.cell? ⟨x2, o2 + k * 6 + 2, none⟩ = some (.int .i64 m2[k].fr.fid) ∧ W'.cell? ⟨x2, o2 + k * 6 + 3, none⟩ = some (.string (T m2[k].fr.path)) ∧ W'.cell? ⟨x2, o2 + k * 6 + 4, none⟩ = some (.string (T m2[k].fr.name)) ∧ W'.cell? ⟨x2, o2 + k * 6 + 5, none⟩ = some (.slice ta2 tn2 tc2) ∧ Below wr.heap.size wr W') := fun W' hb => ⟨cell_next q6 hb, cell_next z6 hb, cell_next c0 hb, cell_next c1 hb, cell_next c2 hb, cell_next c3 hb, cell_next c4 hb, cell_next c5 hb, cell_next d0 hb, cell_next d1 hb, cell_next d2 hb, cell_next d3 hb, cell_next d4 hb, cell_next d5 hb, hb⟩
      have HBR := Lib.hid (Below.refl wr.heap.size wr)
      have HSM := Lib.hid (fun (W : World) (h : (W.cell? ⟨w.heap.size, 6, none⟩ = some (.slice (some ⟨x1, o1, none⟩) m1.length p1) ∧ W.cell? ⟨w.heap.size + 1, 6, none⟩ = some (.slice (some ⟨x2, o2, none⟩) m1.length p2) ∧ W.cell? ⟨x1, o1 + k * 6, none⟩ = some (.int .i64 m1[k].fr.dev) ∧ W.cell? ⟨x1, o1 + k * 6 + 1, none⟩ = some (.int .i64 m1[k].fr.id) ∧ W.cell? ⟨x1, o1 + k * 6 + 2, none⟩ = some (.int .i64 m1[k].fr.fid) ∧ W.cell? ⟨x1, o1 + k * 6 + 3, none⟩ = some (.string (T m1[k].fr.path)) ∧ W.cell? ⟨x1, o1 + k * 6 + 4, none⟩ = some (.string (T m1[k].fr.name)) ∧ W.cell? ⟨x1, o1 + k * 6 + 5, none⟩ = some (.slice ta1 tn1 tc1) ∧ W.cell? ⟨x2, o2 + k * 6, none⟩ = some (.int .i64 m2[k].fr.dev) ∧ W.cell? ⟨x2, o2 + k * 6 + 1, none⟩ = some (.int .i64 m2[k].fr.id) ∧ W.cell? ⟨x2, o2 + k * 6 + 2, none⟩ = some (.int .i64 m2[k].fr.fid) ∧ W.cell? ⟨x2, o2 + k * 6 + 3, none⟩ = some (.string (T m2[k].fr.path)) ∧ W.cell? ⟨x2, o2 + k * 6 + 4, none⟩ = some (.string (T m2[k].fr.name)) ∧ W.cell? ⟨x2, o2 + k * 6 + 5, none⟩ = some (.slice ta2 tn2 tc2) ∧ Below wr.heap.size wr W)) => (rmsame_any m1[k].fr m2[k].fr W).mono fun e w' (h' : e = .returned (.bool (Ns.same m1[k].fr m2[k].fr)) ∧ Below W.heap.size W w') => (show e = .returned (.bool (Ns.same m1[k].fr m2[k].fr)) ∧ (w'.cell? ⟨w.heap.size, 6, none⟩ = some (.slice (some ⟨x1, o1, none⟩) m1.length p1) ∧ w'.cell? ⟨w.heap.size + 1, 6, none⟩ = some (.slice (some ⟨x2, o2, none⟩) m1.length p2) ∧ w'.cell? ⟨x1, o1 + k * 6, none⟩ = some (.int .i64 m1[k].fr.dev) ∧ w'.cell? ⟨x1, o1 + k * 6 + 1, none⟩ = some (.int .i64 m1[k].fr.id) ∧ w'.cell? ⟨x1, o1 + k * 6 + 2, none⟩ = some (.int .i64 m1[k].fr.fid) ∧ w'.cell? ⟨x1, o1 + k * 6 + 3, none⟩ = some (.string (T m1[k].fr.path)) ∧ w'.cell? ⟨x1, o1 + k * 6 + 4, none⟩ = some (.string (T m1[k].fr.name)) ∧ w'.cell? ⟨x1, o1 + k * 6 + 5, none⟩ = some (.slice ta1 tn1 tc1) ∧ w'.cell? ⟨x2, o2 + k * 6, none⟩ = some (.int .i64 m2[k].fr.dev) ∧ w'.cell? ⟨x2, o2 + k * 6 + 1, none⟩ = some (.int .i64 m2[k].fr.id) ∧ w'.cell? ⟨x2, o2 + k * 6 + 2, none⟩ = some (.int .i64 m2[k].fr.fid) ∧ w'.cell? ⟨x2, o2 + k * 6 + 3, none⟩ = some (.string (T m2[k].fr.path)) ∧ w'.cell? ⟨x2, o2 + k * 6 + 4, none⟩ = some (.string (T m2[k].fr.name)) ∧ w'.cell? ⟨x2, o2 + k * 6 + 5, none⟩ = some (.slice ta2 tn2 tc2) ∧ Below wr.heap.size wr w') from ⟨h'.1, KEEP _ (bnext h.2.2.2.2.2.2.2.2.2.2.2.2.2.2 h'.2)⟩))
      have HSU := Lib.hid (fun (W : World) (h : (W.cell? ⟨w.heap.size, 6, none⟩ = some (.slice (some ⟨x1, o1, none⟩) m1.length p1) ∧ W.cell? ⟨w.heap.size + 1, 6, none⟩ = some (.slice (some ⟨x2, o2, none⟩) m1.length p2) ∧ W.cell? ⟨x1, o1 + k * 6, none⟩ = some (.int .i64 m1[k].fr.dev) ∧ W.cell? ⟨x1, o1 + k * 6 + 1, none⟩ = some (.int .i64 m1[k].fr.id) ∧ W.cell? ⟨x1, o1 + k * 6 + 2, none⟩ = some (.int .i64 m1[k].fr.fid) ∧ W.cell? ⟨x1, o1 + k * 6 + 3, none⟩ = some (.string (T m1[k].fr.path)) ∧ W.cell? ⟨x1, o1 + k * 6 + 4, none⟩ = some (.string (T m1[k].fr.name)) ∧ W.cell? ⟨x1, o1 + k * 6 + 5, none⟩ = some (.slice ta1 tn1 tc1) ∧ W.cell? ⟨x2, o2 + k * 6, none⟩ = some (.int .i64 m2[k].fr.dev) ∧ W.cell? ⟨x2, o2 + k * 6 + 1, none⟩ = some (.int .i64 m2[k].fr.id) ∧ W.cell? ⟨x2, o2 + k * 6 + 2, none⟩ = some (.int .i64 m2[k].fr.fid) ∧ W.cell? ⟨x2, o2 + k * 6 + 3, none⟩ = some (.string (T m2[k].fr.path)) ∧ W.cell? ⟨x2, o2 + k * 6 + 4, none⟩ = some (.string (T m2[k].fr.name)) ∧ W.cell? ⟨x2, o2 + k * 6 + 5, none⟩ = some (.slice ta2 tn2 tc2) ∧ Below wr.heap.size wr W)) => (rsameu_any (.slice ta1 tn1 tc1) (.slice ta2 tn2 tc2) m1[k].to m2[k].to W (ct1.below (bnext HTW.out.2.2 h.2.2.2.2.2.2.2.2.2.2.2.2.2.2)) (ct2.below (bnext HTW.out.2.2 h.2.2.2.2.2.2.2.2.2.2.2.2.2.2)) (HU1.out _ (List.getElem_mem hlt)) (HU2.out _ (List.getElem_mem hlt2))).mono fun e w' (h' : e = .returned (.bool (Ns.sameU? m1[k].to m2[k].to)) ∧ Below W.heap.size W w') => (show e = .returned (.bool (Ns.sameU? m1[k].to m2[k].to)) ∧ (w'.cell? ⟨w.heap.size, 6, none⟩ = some (.slice (some ⟨x1, o1, none⟩) m1.length p1) ∧ w'.cell? ⟨w.heap.size + 1, 6, none⟩ = some (.slice (some ⟨x2, o2, none⟩) m1.length p2) ∧ w'.cell? ⟨x1, o1 + k * 6, none⟩ = some (.int .i64 m1[k].fr.dev) ∧ w'.cell? ⟨x1, o1 + k * 6 + 1, none⟩ = some (.int .i64 m1[k].fr.id) ∧ w'.cell? ⟨x1, o1 + k * 6 + 2, none⟩ = some (.int .i64 m1[k].fr.fid) ∧ w'.cell? ⟨x1, o1 + k * 6 + 3, none⟩ = some (.string (T m1[k].fr.path)) ∧ w'.cell? ⟨x1, o1 + k * 6 + 4, none⟩ = some (.string (T m1[k].fr.name)) ∧ w'.cell? ⟨x1, o1 + k * 6 + 5, none⟩ = some (.slice ta1 tn1 tc1) ∧ w'.cell? ⟨x2, o2 + k * 6, none⟩ = some (.int .i64 m2[k].fr.dev) ∧ w'.cell? ⟨x2, o2 + k * 6 + 1, none⟩ = some (.int .i64 m2[k].fr.id) ∧ w'.cell? ⟨x2, o2 + k * 6 + 2, none⟩ = some (.int .i64 m2[k].fr.fid) ∧ w'.cell? ⟨x2, o2 + k * 6 + 3, none⟩ = some (.string (T m2[k].fr.path)) ∧ w'.cell? ⟨x2, o2 + k * 6 + 4, none⟩ = some (.string (T m2[k].fr.name)) ∧ w'.cell? ⟨x2, o2 + k * 6 + 5, none⟩ = some (.slice ta2 tn2 tc2) ∧ Below wr.heap.size wr w') from ⟨h'.1, KEEP _ (bnext h.2.2.2.2.2.2.2.2.2.2.2.2.2.2 h'.2)⟩))
      unfold chv at HSM
      cases hs2 : Ns.same m1[k].fr m2[k].fr
      · have HF := Lib.hid (HNO.out (fun h => by rw [(h.2.2 k hlt hlt2).1] at hs2; cases hs2))
        rw [hs2] at HSM
        go_upto_region 6 with fail
        refine wp_region_held_drew (S := (fun W' => (W'.cell? ⟨w.heap.size, 6, none⟩ = some (.slice (some ⟨x1, o1, none⟩) m1.length p1) ∧ W'.cell? ⟨w.heap.size + 1, 6, none⟩ = some (.slice (some ⟨x2, o2, none⟩) m1.length p2) ∧ W'.cell? ⟨x1, o1 + k * 6, none⟩ = some (.int .i64 m1[k].fr.dev) ∧ W'.cell? ⟨x1, o1 + k * 6 + 1, none⟩ = some (.int .i64 m1[k].fr.id) ∧ W'.cell? ⟨x1, o1 + k * 6 + 2, none⟩ = some (.int .i64 m1[k].fr.fid) ∧ W'.cell? ⟨x1, o1 + k * 6 + 3, none⟩ = some (.string (T m1[k].fr.path)) ∧ W'.cell? ⟨x1, o1 + k * 6 + 4, none⟩ = some (.string (T m1[k].fr.name)) ∧ W'.cell? ⟨x1, o1 + k * 6 + 5, none⟩ = some (.slice ta1 tn1 tc1) ∧ W'.cell? ⟨x2, o2 + k * 6, none⟩ = some (.int .i64 m2[k].fr.dev) ∧ W'.cell? ⟨x2, o2 + k * 6 + 1, none⟩ = some (.int .i64 m2[k].fr.id) ∧ W'.cell? ⟨x2, o2 + k * 6 + 2, none⟩ = some (.int .i64 m2[k].fr.fid) ∧ W'.cell? ⟨x2, o2 + k * 6 + 3, none⟩ = some (.string (T m2[k].fr.path)) ∧ W'.cell? ⟨x2, o2 + k * 6 + 4, none⟩ = some (.string (T m2[k].fr.name)) ∧ W'.cell? ⟨x2, o2 + k * 6 + 5, none⟩ = some (.slice ta2 tn2 tc2) ∧ Below wr.heap.size wr W'))) (by kernel_rfl) (KEEP _ (below_drew1 HBR.out)) (fun hHeld => ?_)
        refine wpAnyH_takeD (i := 0) (d := 27) (v := ?v0) rfl rfl (by kernel_rfl) (by kernel_rfl) (by kernel_rfl) (fun _ _ _ h => h) (Or.inl ⟨by rfl, ?yv0⟩) (by assumption) ?rv0
        case yv0 => (intro w hSw; (try dsimp only at hSw); go_simp <;> with_reducible rfl)
        try simp only [Act.put, List.setIfInBounds_toArray, List.set_cons_zero, List.set_cons_succ]
        refine wpAnyH_takeD (i := 1) (d := 28) (v := ?v1) rfl rfl (by kernel_rfl) (by kernel_rfl) (by kernel_rfl) (fun _ _ _ h => h) (Or.inl ⟨by rfl, ?yv1⟩) (by assumption) ?rv1
        case yv1 => (intro w hSw; (try dsimp only at hSw); go_simp <;> with_reducible rfl)
        try simp only [Act.put, List.setIfInBounds_toArray, List.set_cons_zero, List.set_cons_succ]
        refine wpAnyH_takeD (i := 2) (d := 29) (v := ?v2) rfl rfl (by kernel_rfl) (by kernel_rfl) (by kernel_rfl) (fun _ _ _ h => h) (Or.inl ⟨by rfl, ?yv2⟩) (by assumption) ?rv2
        case yv2 => (intro w hSw; (try dsimp only at hSw); go_simp <;> with_reducible rfl)
        try simp only [Act.put, List.setIfInBounds_toArray, List.set_cons_zero, List.set_cons_succ]
        refine wpAnyH_takeD (i := 3) (d := 30) (v := ?v3) rfl rfl (by kernel_rfl) (by kernel_rfl) (by kernel_rfl) (fun _ _ _ h => h) (Or.inl ⟨by rfl, ?yv3⟩) (by assumption) ?rv3
        case yv3 => (intro w hSw; (try dsimp only at hSw); go_simp <;> with_reducible rfl)
        try simp only [Act.put, List.setIfInBounds_toArray, List.set_cons_zero, List.set_cons_succ]
        refine wpAnyH_takeD (i := 4) (d := 31) (v := ?v4) rfl rfl (by kernel_rfl) (by kernel_rfl) (by kernel_rfl) (fun _ _ _ h => h) (Or.inl ⟨by rfl, ?yv4⟩) (by assumption) ?rv4
        case yv4 => (intro w hSw; (try dsimp only at hSw); go_simp <;> with_reducible rfl)
        try simp only [Act.put, List.setIfInBounds_toArray, List.set_cons_zero, List.set_cons_succ]
        refine wpAnyH_takeD (i := 5) (d := 32) (v := ?v5) rfl rfl (by kernel_rfl) (by kernel_rfl) (by kernel_rfl) (fun _ _ _ h => h) (Or.inl ⟨by rfl, ?yv5⟩) (by assumption) ?rv5
        case yv5 => (intro w hSw; (try dsimp only at hSw); go_simp <;> with_reducible rfl)
        try simp only [Act.put, List.setIfInBounds_toArray, List.set_cons_zero, List.set_cons_succ]
        refine wpAnyH_takeD (i := 6) (d := 33) (v := ?v6) rfl rfl (by kernel_rfl) (by kernel_rfl) (by kernel_rfl) (fun _ _ _ h => h) (Or.inl ⟨by rfl, ?yv6⟩) (by assumption) ?rv6
        case yv6 => (intro w hSw; (try dsimp only at hSw); go_simp <;> with_reducible rfl)
        try simp only [Act.put, List.setIfInBounds_toArray, List.set_cons_zero, List.set_cons_succ]
        refine wpAnyH_takeD (i := 7) (d := 34) (v := ?v7) rfl rfl (by kernel_rfl) (by kernel_rfl) (by kernel_rfl) (fun _ _ _ h => h) (Or.inl ⟨by rfl, ?yv7⟩) (by assumption) ?rv7
        case yv7 => (intro w hSw; (try dsimp only at hSw); go_simp <;> with_reducible rfl)
        try simp only [Act.put, List.setIfInBounds_toArray, List.set_cons_zero, List.set_cons_succ]
        refine wpAnyH_takeD (i := 8) (d := 35) (v := ?v8) rfl rfl (by kernel_rfl) (by kernel_rfl) (by kernel_rfl) (fun _ _ _ h => h) (Or.inl ⟨by rfl, ?yv8⟩) (by assumption) ?rv8
        case yv8 => (intro w hSw; (try dsimp only at hSw); go_simp <;> with_reducible rfl)
        try simp only [Act.put, List.setIfInBounds_toArray, List.set_cons_zero, List.set_cons_succ]
        refine wpAnyH_takeD (i := 9) (d := 36) (v := ?v9) rfl rfl (by kernel_rfl) (by kernel_rfl) (by kernel_rfl) (fun _ _ _ h => h) (Or.inl ⟨by rfl, ?yv9⟩) (by assumption) ?rv9
        case yv9 => (intro w hSw; (try dsimp only at hSw); go_simp <;> with_reducible rfl)
        try simp only [Act.put, List.setIfInBounds_toArray, List.set_cons_zero, List.set_cons_succ]
        refine wpAnyH_takeD (i := 10) (d := 37) (v := ?v10) rfl rfl (by kernel_rfl) (by kernel_rfl) (by kernel_rfl) (fun _ _ _ h => h) (Or.inl ⟨by rfl, ?yv10⟩) (by assumption) ?rv10
        case yv10 => (intro w hSw; (try dsimp only at hSw); go_simp <;> with_reducible rfl)
        try simp only [Act.put, List.setIfInBounds_toArray, List.set_cons_zero, List.set_cons_succ]
        refine wpAnyH_takeD (i := 11) (d := 38) (v := ?v11) rfl rfl (by kernel_rfl) (by kernel_rfl) (by kernel_rfl) (fun _ _ _ h => h) (Or.inl ⟨by rfl, ?yv11⟩) (by assumption) ?rv11
        case yv11 => (intro w hSw; (try dsimp only at hSw); go_simp <;> with_reducible rfl)
        try simp only [Act.put, List.setIfInBounds_toArray, List.set_cons_zero, List.set_cons_succ]
        refine wpAnyH_ready (rs := [12]) (by kernel_rfl) (by simp) ?_
        refine AllReadyH.cons rfl (fun K hK => ?_) AllReadyH.nil
        go_simp
        go_wp2_with (go_at_call 48; refine (HSM.out _ (by assumption)).mono ?_; rintro e w' ⟨rfl, hkeep⟩)
        refine hK.out _ _ hkeep (fun hHeld => ?_)
        clear hK K
        try simp only [Act.put, List.setIfInBounds_toArray, List.set_cons_zero, List.set_cons_succ]
        refine wpAnyH_takeD (i := 13) (d := 40) (v := ?v13) rfl rfl (by kernel_rfl) (by kernel_rfl) (by kernel_rfl) (fun _ _ _ h => h) (Or.inl ⟨by rfl, ?yv13⟩) (by assumption) ?rv13
        case yv13 => (intro w hSw; (try dsimp only at hSw); go_simp <;> with_reducible rfl)
        try simp only [Act.put, List.setIfInBounds_toArray, List.set_cons_zero, List.set_cons_succ]
        refine wpAnyH_takeD (i := 14) (d := 41) (v := ?v14) rfl rfl (by kernel_rfl) (by kernel_rfl) (by kernel_rfl) (fun _ _ _ h => h) (Or.inl ⟨by rfl, ?yv14⟩) (by assumption) ?rv14
        case yv14 => (intro w hSw; (try dsimp only at hSw); go_simp <;> with_reducible rfl)
        try simp only [Act.put, List.setIfInBounds_toArray, List.set_cons_zero, List.set_cons_succ]
        refine wpAnyH_skips (by kernel_rfl) (fun _ _ _ _ h => h) (by assumption) [(15, 42), (16, 43), (17, 44), (18, 45), (19, 46), (20, 47), (21, 48), (22, 49), (23, 50), (24, 51), (25, 52), (26, 53), (27, 54), (28, 55)] 1 _ _ _ rfl (by kernel_rfl) ?_
        simp only [skipAct, skipListed, Act.put, List.setIfInBounds_toArray, List.set_cons_zero, List.set_cons_succ]
        refine wpAnyH_takeD (i := 29) (d := 56) (v := ?v29) rfl rfl (by kernel_rfl) (by kernel_rfl) (by kernel_rfl) (fun _ _ _ h => h) (Or.inl ⟨by rfl, ?yv29⟩) (by assumption) ?rv29
        case yv29 => (intro w hSw; (try dsimp only at hSw); go_simp <;> with_reducible rfl)
        try simp only [Act.put, List.setIfInBounds_toArray, List.set_cons_zero, List.set_cons_succ]
        refine wpAnyH_done (by kernel_rfl) ?_ _
        have HKP := Lib.hid hkeep
        clear hkeep c0 c1 c2 c3 c4 c5 d0 d1 d2 d3 d4 d5 q6 z6 KEEP
        go_wp2_with fail
        go_ret
        exact ⟨by rw [HF.out]; rfl, bnext HTW.out.2.2 HKP.out.2.2.2.2.2.2.2.2.2.2.2.2.2.2⟩
      rw [hs2] at HSM
      cases hsu : Ns.sameU? m1[k].to m2[k].to
      · have HF := Lib.hid (HNO.out (fun h => Ns.sameU_not hsu (h.2.2 k hlt hlt2).2))
        rw [hsu] at HSU
        go_upto_region 6 with fail
        go_region_held_law (fun W' => (W'.cell? ⟨w.heap.size, 6, none⟩ = some (.slice (some ⟨x1, o1, none⟩) m1.length p1) ∧ W'.cell? ⟨w.heap.size + 1, 6, none⟩ = some (.slice (some ⟨x2, o2, none⟩) m1.length p2) ∧ W'.cell? ⟨x1, o1 + k * 6, none⟩ = some (.int .i64 m1[k].fr.dev) ∧ W'.cell? ⟨x1, o1 + k * 6 + 1, none⟩ = some (.int .i64 m1[k].fr.id) ∧ W'.cell? ⟨x1, o1 + k * 6 + 2, none⟩ = some (.int .i64 m1[k].fr.fid) ∧ W'.cell? ⟨x1, o1 + k * 6 + 3, none⟩ = some (.string (T m1[k].fr.path)) ∧ W'.cell? ⟨x1, o1 + k * 6 + 4, none⟩ = some (.string (T m1[k].fr.name)) ∧ W'.cell? ⟨x1, o1 + k * 6 + 5, none⟩ = some (.slice ta1 tn1 tc1) ∧ W'.cell? ⟨x2, o2 + k * 6, none⟩ = some (.int .i64 m2[k].fr.dev) ∧ W'.cell? ⟨x2, o2 + k * 6 + 1, none⟩ = some (.int .i64 m2[k].fr.id) ∧ W'.cell? ⟨x2, o2 + k * 6 + 2, none⟩ = some (.int .i64 m2[k].fr.fid) ∧ W'.cell? ⟨x2, o2 + k * 6 + 3, none⟩ = some (.string (T m2[k].fr.path)) ∧ W'.cell? ⟨x2, o2 + k * 6 + 4, none⟩ = some (.string (T m2[k].fr.name)) ∧ W'.cell? ⟨x2, o2 + k * 6 + 5, none⟩ = some (.slice ta2 tn2 tc2) ∧ Below wr.heap.size wr W')) (first | assumption | (refine KEEP _ ?_; (repeat' (first | exact HBR.out | (with_reducible refine below_drew1 ?_) | (with_reducible refine Below.setCell ?_ ?_ _) | (with_reducible refine Below.alloc ?_ ?_ _))) <;> (simp <;> omega))) (first | (go_at_call 48; refine (HSM.out _ (by assumption)).mono ?_; rintro e w' ⟨rfl, hkeep⟩) | (go_at_call 49; refine (HSU.out _ (by assumption)).mono ?_; rintro e w' ⟨rfl, hkeep⟩))
        have HKP := Lib.hid hkeep
        clear hkeep c0 c1 c2 c3 c4 c5 d0 d1 d2 d3 d4 d5 q6 z6 KEEP
        go_wp2_with fail
        go_ret
        exact ⟨by rw [HF.out]; rfl, bnext HTW.out.2.2 HKP.out.2.2.2.2.2.2.2.2.2.2.2.2.2.2⟩
      · have HS : Hid (∀ j (h : j < m1.length) (h2 : j < m2.length), j < k + 1 → Ns.same m1[j].fr m2[j].fr = true ∧ Ns.sameU m1[j].to m2[j].to) := fun j h h2 hj => by
          rcases Nat.lt_or_ge j k with h' | h'
          · exact hn.out j h h2 h'
          · obtain rfl : j = k := by omega
            exact ⟨hs2, Ns.sameU_of hsu⟩
        rw [hsu] at HSU
        go_upto_region 6 with fail
        go_region_held_law (fun W' => (W'.cell? ⟨w.heap.size, 6, none⟩ = some (.slice (some ⟨x1, o1, none⟩) m1.length p1) ∧ W'.cell? ⟨w.heap.size + 1, 6, none⟩ = some (.slice (some ⟨x2, o2, none⟩) m1.length p2) ∧ W'.cell? ⟨x1, o1 + k * 6, none⟩ = some (.int .i64 m1[k].fr.dev) ∧ W'.cell? ⟨x1, o1 + k * 6 + 1, none⟩ = some (.int .i64 m1[k].fr.id) ∧ W'.cell? ⟨x1, o1 + k * 6 + 2, none⟩ = some (.int .i64 m1[k].fr.fid) ∧ W'.cell? ⟨x1, o1 + k * 6 + 3, none⟩ = some (.string (T m1[k].fr.path)) ∧ W'.cell? ⟨x1, o1 + k * 6 + 4, none⟩ = some (.string (T m1[k].fr.name)) ∧ W'.cell? ⟨x1, o1 + k * 6 + 5, none⟩ = some (.slice ta1 tn1 tc1) ∧ W'.cell? ⟨x2, o2 + k * 6, none⟩ = some (.int .i64 m2[k].fr.dev) ∧ W'.cell? ⟨x2, o2 + k * 6 + 1, none⟩ = some (.int .i64 m2[k].fr.id) ∧ W'.cell? ⟨x2, o2 + k * 6 + 2, none⟩ = some (.int .i64 m2[k].fr.fid) ∧ W'.cell? ⟨x2, o2 + k * 6 + 3, none⟩ = some (.string (T m2[k].fr.path)) ∧ W'.cell? ⟨x2, o2 + k * 6 + 4, none⟩ = some (.string (T m2[k].fr.name)) ∧ W'.cell? ⟨x2, o2 + k * 6 + 5, none⟩ = some (.slice ta2 tn2 tc2) ∧ Below wr.heap.size wr W')) (first | assumption | (refine KEEP _ ?_; (repeat' (first | exact HBR.out | (with_reducible refine below_drew1 ?_) | (with_reducible refine Below.setCell ?_ ?_ _) | (with_reducible refine Below.alloc ?_ ?_ _))) <;> (simp <;> omega))) (first | (go_at_call 48; refine (HSM.out _ (by assumption)).mono ?_; rintro e w' ⟨rfl, hkeep⟩) | (go_at_call 49; refine (HSU.out _ (by assumption)).mono ?_; rintro e w' ⟨rfl, hkeep⟩))
        have HKP := Lib.hid hkeep
        clear hkeep c0 c1 c2 c3 c4 c5 d0 d1 d2 d3 d4 d5 q6 z6 KEEP
        go_wp2_with fail
        go_roundw
        case rel => exact ⟨k + 1, by omega, by go_num, HS, HTW.out.next HKP.out.2.2.2.2.2.2.2.2.2.2.2.2.2.2⟩
        case measure => simp [intOf]; omega
    · obtain rfl : k = m1.length := by omega
      have HF := Lib.hid (HY.out (fun j h h2 => hn.out j h h2 h))
      go_wp2_with fail
      go_ret
      exact ⟨by rw [HF.out]; rfl, HTW.out.2.2⟩
end Go.Proofs.Ytganenaaglfdnaa
