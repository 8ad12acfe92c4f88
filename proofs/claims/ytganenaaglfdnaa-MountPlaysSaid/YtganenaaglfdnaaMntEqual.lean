/- Equal of a name space with one that has the same fields: true. Conditions: the slices hold the given mounts; at most 10^6 of them, each of at most 10^6 targets. -/
import Derived.Test.YtganenaaglfdnaaMntUnion
set_option linter.unusedVariables false
set_option linter.unusedSimpArgs false
namespace Go.Proofs.Ytganenaaglfdnaa
open Go.RowKit
theorem mnt_reads {W : World} {g : Nat} {x0 x1 x2 x3 x4 x5 : Value} {ty : TypeId} (h : W.heap[g]? = some (.cells #[x0, x1, x2, x3, x4, x5] ty (0, 0))) :
    W.cell? ⟨g, 0, none⟩ = some x0 ∧ W.cell? ⟨g, 1, none⟩ = some x1 ∧ W.cell? ⟨g, 2, none⟩ = some x2 ∧ W.cell? ⟨g, 3, none⟩ = some x3 ∧ W.cell? ⟨g, 4, none⟩ = some x4 ∧ W.cell? ⟨g, 5, none⟩ = some x5 := by
  refine ⟨?_, ?_, ?_, ?_, ?_, ?_⟩ <;> (rw [cell_of_row _ _ _ _ _ _ h]; rfl)
theorem below_drew1 {n : Nat} {w W : World} (h : Below n w W) : Below n w W.drew := ⟨h.os, h.tape, h.output, h.size, h.block⟩
/-- What a round of Equal reads. -/
def EqR (w W : World) (id : Int) (r : Chn) (v1 v2 : Value) : Prop :=
  W.heap[w.heap.size]? = some (.cells #[.int .i64 id, .int .i64 r.dev, .int .i64 r.id, .int .i64 r.fid, .string (T r.path), .string (T r.name), v1] 26 (0, 0)) ∧
  W.heap[w.heap.size + 1]? = some (.cells #[.int .i64 id, .int .i64 r.dev, .int .i64 r.id, .int .i64 r.fid, .string (T r.path), .string (T r.name), v2] 26 (0, 0)) ∧ Below w.heap.size w W
theorem EqR.next {w W W' : World} {id : Int} {r : Chn} {v1 v2 : Value} (h : EqR w W id r v1 v2) (hb : Below W.heap.size W W') : EqR w W' id r v1 v2 :=
  ⟨(hb.block _ (row_lt h.1)).trans h.1, (hb.block _ (row_lt h.2.1)).trans h.2.1, bnext h.2.2 hb⟩
set_option maxRecDepth 20000 in
set_option maxHeartbeats 2000000 in
theorem eqns_any (id : Int) (r : Chn) (v1 v2 : Value) (ms : List Mnt) (w : World) (h1 : Mnts w v1 ms) (h2 : Mnts w v2 ms) (hl : ms.length ≤ 1000000) (hu : ∀ m ∈ ms, m.to.length ≤ 1000000) :
    Calls Try.prog 14 #[nsv id r v1, nsv id r v2] w fun e w' => e = .returned (.bool true) ∧ Below w.heap.size w w' := by
  obtain ⟨a1, n1, p1, rfl⟩ := h1.form
  obtain ⟨a2, n2, p2, rfl⟩ := h2.form
  obtain ⟨rfl, k1⟩ := h1.at
  obtain ⟨rfl, k2⟩ := h2.at
  have HB := Lib.hid (Below.refl w.heap.size w)
  have H1 := Lib.hid k1
  have H2 := Lib.hid k2
  have HU := Lib.hid hu
  have HBA := Lib.hid (fun (A B : Obj) => (mafter2 (w := w) (A := A) (B := B) (Below.refl _ _)))
  clear h1 h2 k1 k2 hu
  unfold nsv
  go_enter Try.func14, Try.ntmps14
  go_wp2_with fail
  go_loopw [32] (fun i wr => ∃ k : Nat, k ≤ ms.length ∧ i = .int .i64 (k : Int) ∧ Hid (EqR w wr id r (.slice a1 ms.length p1) (.slice a2 ms.length p2))) (fun i _ => ms.length - (intOf i).toNat)
  case atStart => exact ⟨0, by omega, rfl, HBA.out _ _⟩
  case round =>
    obtain ⟨k, hk, rfl, HR⟩ := hrel
    by_cases hlt : k < ms.length
    · obtain ⟨x1, o1, rfl, l1, ca, t1, c5, ct1⟩ := H1.out k hlt
      obtain ⟨x2, o2, rfl, l2, da, t2, d5, ct2⟩ := H2.out k hlt
      obtain ⟨ta1, tn1, tc1, rfl⟩ := ct1.form
      obtain ⟨ta2, tn2, tc2, rfl⟩ := ct2.form
      have hki : (k : Int) < ms.length := by omega
      have hb := HR.out.2.2
      obtain ⟨⟨q0, q1, q2, q3, q4, q5, q6⟩, _⟩ := ns_reads HR.out.1
      obtain ⟨⟨z0, z1, z2, z3, z4, z5, z6⟩, _⟩ := ns_reads HR.out.2.1
      obtain ⟨c0, c1, c2, c3, c4⟩ := ca.below (w' := wr) ⟨hb.os, hb.tape, hb.output, hb.size, hb.block⟩ l1
      obtain ⟨d0, d1, d2, d3, d4⟩ := da.below (w' := wr) ⟨hb.os, hb.tape, hb.output, hb.size, hb.block⟩ l2
      rw [← hb.cell (p := ⟨x1, o1 + k * 6 + 5, none⟩) l1] at c5
      rw [← hb.cell (p := ⟨x2, o2 + k * 6 + 5, none⟩) l2] at d5
      have HEU := Lib.hid (fun (W : World) (h : Below w.heap.size w W) => equ_any (.slice ta1 tn1 tc1) (.slice ta2 tn2 tc2) ms[k].to W (ct1.below h) (ct2.below h) (HU.out _ (List.getElem_mem hlt)))
      clear hb ca da q0 q1 q2 q3 q4 q5 z0 z1 z2 z3 z4 z5
      go_upto_region 6 with fail
      go_cut [6, 7] (fun p q w' => ∃ gx gy, p = .pointer (some ⟨gx, 0, none⟩) ∧ q = .pointer (some ⟨gy, 0, none⟩) ∧ Hid (w'.heap[gx]? = some (.cells #[.int .i64 ms[k].fr.dev, .int .i64 ms[k].fr.id, .int .i64 ms[k].fr.fid, .string (T ms[k].fr.path), .string (T ms[k].fr.name), .slice ta1 tn1 tc1] 55 (0, 0))) ∧ Hid (w'.heap[gy]? = some (.cells #[.int .i64 ms[k].fr.dev, .int .i64 ms[k].fr.id, .int .i64 ms[k].fr.fid, .string (T ms[k].fr.path), .string (T ms[k].fr.name), .slice ta2 tn2 tc2] 55 (0, 0))) ∧ Hid (EqR w w' id r (.slice (some ⟨x1, o1, none⟩) ms.length p1) (.slice (some ⟨x2, o2, none⟩) ms.length p2)))
      case first =>
        have KEEP : ∀ W' : World, Below wr.heap.size wr W' → W'.cell? ⟨w.heap.size, 6, none⟩ = some (.slice (some ⟨x1, o1, none⟩) ms.length p1) ∧ W'.cell? ⟨w.heap.size + 1, 6, none⟩ = some (.slice (some ⟨x2, o2, none⟩) ms.length p2) ∧ W'.cell? ⟨x1, o1 + k * 6, none⟩ = some (.int .i64 ms[k].fr.dev) ∧ W'.cell? ⟨x1, o1 + k * 6 + 1, none⟩ = some (.int .i64 ms[k].fr.id) ∧ W'.cell? ⟨x1, o1 + k * 6 + 2, none⟩ = some (.int .i64 ms[k].fr.fid) ∧ W'.cell? ⟨x1, o1 + k * 6 + 3, none⟩ = some (.string (T ms[k].fr.path)) ∧ W'.cell? ⟨x1, o1 + k * 6 + 4, none⟩ = some (.string (T ms[k].fr.name)) ∧ W'.cell? ⟨x1, o1 + k * 6 + 5, none⟩ = some (.slice ta1 tn1 tc1) ∧ W'.cell? ⟨x2, o2 + k * 6, none⟩ = some (.int .i64 ms[k].fr.dev) ∧ W'.cell? ⟨x2, o2 + k * 6 + 1, none⟩ = some (.int .i64 ms[k].fr.id) ∧ W'.cell? ⟨x2, o2 + k * 6 + 2, none⟩ = some (.int .i64 ms[k].fr.fid) ∧ W'.cell? ⟨x2, o2 + k * 6 + 3, none⟩ = some (.string (T ms[k].fr.path)) ∧ W'.cell? ⟨x2, o2 + k * 6 + 4, none⟩ = some (.string (T ms[k].fr.name)) ∧ W'.cell? ⟨x2, o2 + k * 6 + 5, none⟩ = some (.slice ta2 tn2 tc2) ∧ Below wr.heap.size wr W' := fun W' hb => ⟨cell_next q6 hb, cell_next z6 hb, cell_next c0 hb, cell_next c1 hb, cell_next c2 hb, cell_next c3 hb, cell_next c4 hb, cell_next c5 hb, cell_next d0 hb, cell_next d1 hb, cell_next d2 hb, cell_next d3 hb, cell_next d4 hb, cell_next d5 hb, hb⟩
        have HBR := Lib.hid (Below.refl wr.heap.size wr)
        go_region_held_law (fun W' => W'.cell? ⟨w.heap.size, 6, none⟩ = some (.slice (some ⟨x1, o1, none⟩) ms.length p1) ∧ W'.cell? ⟨w.heap.size + 1, 6, none⟩ = some (.slice (some ⟨x2, o2, none⟩) ms.length p2) ∧ W'.cell? ⟨x1, o1 + k * 6, none⟩ = some (.int .i64 ms[k].fr.dev) ∧ W'.cell? ⟨x1, o1 + k * 6 + 1, none⟩ = some (.int .i64 ms[k].fr.id) ∧ W'.cell? ⟨x1, o1 + k * 6 + 2, none⟩ = some (.int .i64 ms[k].fr.fid) ∧ W'.cell? ⟨x1, o1 + k * 6 + 3, none⟩ = some (.string (T ms[k].fr.path)) ∧ W'.cell? ⟨x1, o1 + k * 6 + 4, none⟩ = some (.string (T ms[k].fr.name)) ∧ W'.cell? ⟨x1, o1 + k * 6 + 5, none⟩ = some (.slice ta1 tn1 tc1) ∧ W'.cell? ⟨x2, o2 + k * 6, none⟩ = some (.int .i64 ms[k].fr.dev) ∧ W'.cell? ⟨x2, o2 + k * 6 + 1, none⟩ = some (.int .i64 ms[k].fr.id) ∧ W'.cell? ⟨x2, o2 + k * 6 + 2, none⟩ = some (.int .i64 ms[k].fr.fid) ∧ W'.cell? ⟨x2, o2 + k * 6 + 3, none⟩ = some (.string (T ms[k].fr.path)) ∧ W'.cell? ⟨x2, o2 + k * 6 + 4, none⟩ = some (.string (T ms[k].fr.name)) ∧ W'.cell? ⟨x2, o2 + k * 6 + 5, none⟩ = some (.slice ta2 tn2 tc2) ∧ Below wr.heap.size wr W') (first | assumption | (refine KEEP _ ?_; (repeat' (first | exact HBR.out | (with_reducible refine below_drew1 ?_) | (with_reducible refine Below.setCell ?_ ?_ _) | (with_reducible refine Below.alloc ?_ ?_ _))) <;> (simp <;> omega))) (fail)
        all_goals
          go_wp2_with fail
          go_meet
          first
            | exact ⟨_, _, rfl, rfl, Lib.hid (mafter2 (Below.refl _ _)).1, Lib.hid (mafter2 (Below.refl _ _)).2.1, Lib.hid (HR.out.next (below_drew1 (mafter2 (Below.refl _ _)).2.2))⟩
            | exact ⟨_, _, rfl, rfl, Lib.hid (mafter2 (Below.refl _ _)).2.1, Lib.hid (mafter2 (Below.refl _ _)).1, Lib.hid (HR.out.next (below_drew1 (mafter2 (Below.refl _ _)).2.2))⟩
      case rest =>
        obtain ⟨gx, gy, rfl, rfl, hx, hy, he⟩ := hcut
        obtain ⟨f0, f1, f2, f3, f4, f5⟩ := mnt_reads hx.out
        obtain ⟨e0, e1, e2, e3, e4, e5⟩ := mnt_reads hy.out
        generalize wc = W3 at *
        go_wp2_with fail
        refine (HEU.out _ he.out.2.2).mono ?_; rintro e w4 ⟨rfl, b4⟩
        have HR4 := Lib.hid (he.out.next b4)
        clear b4
        go_wp2_with fail
        go_roundw
        case rel => exact ⟨k + 1, by omega, by go_num, HR4⟩
        case measure => simp [intOf]; omega
    · obtain rfl : k = ms.length := by omega
      go_wp2_with fail
      go_ret
      exact ⟨rfl, HR.out.2.2⟩
end Go.Proofs.Ytganenaaglfdnaa
