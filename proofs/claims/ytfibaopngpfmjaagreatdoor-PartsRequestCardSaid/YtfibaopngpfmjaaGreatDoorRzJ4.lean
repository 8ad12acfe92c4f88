/- The reference's Right of a client; the reference's Same. Conditions: those that each theorem names. -/
import Derived.Test.YtfibaopngpfmjaaGreatDoorRzJ2
import Derived.Test.YtfibaopngpfmjaaGreatDoorRzJ3
import Derived.Test.YtfibaopngpfmjaaGreatDoorRzG5
import Derived.Test.YtfibaopngpfmjaaGreatDoorRzC1
set_option linter.unusedVariables false
set_option linter.unusedSimpArgs false
set_option maxRecDepth 100000
set_option maxHeartbeats 16000000
namespace Go.Proofs.YtfibaopngpfmjaaGreatDoor
open Go.RowKit Go.Proofs
/-- The client's box. -/
def RgSt (w W : World) (c : Cln) (fv cv : Value) : Prop := W.heap[w.heap.size]? = some (.cells (c.cs fv cv) 41 (0, 0)) ∧ Below w.heap.size w W
theorem RgSt.next {w W W' : World} {c : Cln} {fv cv : Value} (h : RgSt w W c fv cv) (hb : Below W.heap.size W W') : RgSt w W' c fv cv := ⟨(hb.block _ (row_ltP h.1)).trans h.1, bnext h.2 hb⟩
theorem RgSt.cells {w W : World} {c : Cln} {fv cv : Value} (h : RgSt w W c fv cv) : W.cell? ⟨w.heap.size, 0, none⟩ = some (.bool c.up) ∧ W.cell? ⟨w.heap.size, 1, none⟩ = some (.int .i64 c.ms) ∧ W.cell? ⟨w.heap.size, 2, none⟩ = some (.string (T c.ss)) ∧ W.cell? ⟨w.heap.size, 3, none⟩ = some fv ∧ W.cell? ⟨w.heap.size, 4, none⟩ = some cv ∧ W.cell? ⟨w.heap.size, 5, none⟩ = some (.string (T c.pt)) :=
 ⟨by rw [Lib.cell_of_heap h.1]; rfl, by rw [Lib.cell_of_heap h.1]; rfl, by rw [Lib.cell_of_heap h.1]; rfl, by rw [Lib.cell_of_heap h.1]; rfl, by rw [Lib.cell_of_heap h.1]; rfl, by rw [Lib.cell_of_heap h.1]; rfl⟩
theorem rright_any (c : Cln) (fv cv : Value) (fl : List Int) (l : List Cll) (w : World) (hf : Its w fv fl) (hc : Clls w cv l) (hfl : fl.length ≤ 2000000) (hl : l.length ≤ 1000000) (hp : c.pt.length ≤ 9000000000) (hss : c.ss.length ≤ 1000000000000000000) :
  Calls Tryz.prog 10 #[.agg (c.cs fv cv)] w (RetB (fun _ => True) w) := by
 have HRC := lh (fun (W : World) (h : Below w.heap.size w W) => rcalls_any cv l W (hc.below h) hl)
 have HSP := lh (fun m W => rsplit_any c.pt m W hp)
 have HF := lh (fun (W : World) (h : Below w.heap.size w W) => hf.below h)
 have HS0 := lh (show RgSt w (w.alloc (.cells (c.cs fv cv) 41)) c fv cv from ⟨heap_alloc_new w _, alloc_below w _⟩)
 have hz1 : (T c.ss).size = c.ss.length := T_size _
 obtain ⟨af, cf, rfl, hcf, hnf, _⟩ := hf
 obtain ⟨ac, cc, rfl, hcc, hnc, _⟩ := hc
 obtain ⟨up, ms, ss, pt⟩ := c
 clear hcf hnf hcc hnc
 dsimp only at *
 go_enter Tryz.func10, Tryz.ntmps10
 go_upto_region 1 with fail
 generalize hw1 : World.alloc _ _ = w1
 have HS1 := lh (show RgSt w w1 ⟨up, ms, ss, pt⟩ (.slice af fl.length cf) (.slice ac l.length cc) from by rw [← hw1]; exact HS0.out)
 clear hw1 HS0
 go_cut [37] (fun v w' => ∃ b : Bool, v = .bool b ∧ Hid (RgSt w w' ⟨up, ms, ss, pt⟩ (.slice af fl.length cf) (.slice ac l.length cc)))
 case first =>
  obtain ⟨c0, c1, c2, c3, c4, c5⟩ := HS1.out.cells
  dsimp only at c0 c1 c2 c3 c4 c5
  cases hb0 : (ms != 0)
  ·cases hb3 : decide ((64 : Int) < (ss.length : Int))
   ·cases hb4 : decide ((256 : Int) < (fl.length : Int))
    ·go_wp2_with fail
     have hb1 := HS1.out.2
     (with_reducible refine (HRC.out _ hb1).mono ?_); rintro e w2 ⟨b, rfl, _, b2⟩
     have HS2 := lh (HS1.out.next b2)
     clear b2 HS1 hb1 c0 c1 c2 c3 c4 c5
     go_wp2_with fail
     go_meet
     exact ⟨_, rfl, HS2⟩
    ·go_wp2_with fail
     go_meet
     exact ⟨_, rfl, HS1⟩
   ·go_wp2_with fail
    go_meet
    exact ⟨_, rfl, HS1⟩
  ·cases hb1 : decide (ms < 256)
   ·cases hb2 : decide (8192 < ms)
    ·cases hb3 : decide ((64 : Int) < (ss.length : Int))
     ·cases hb4 : decide ((256 : Int) < (fl.length : Int))
      ·go_wp2_with fail
       have hb1 := HS1.out.2
       (with_reducible refine (HRC.out _ hb1).mono ?_); rintro e w2 ⟨b, rfl, _, b2⟩
       have HS2 := lh (HS1.out.next b2)
       clear b2 HS1 hb1 c0 c1 c2 c3 c4 c5
       go_wp2_with fail
       go_meet
       exact ⟨_, rfl, HS2⟩
      ·go_wp2_with fail
       go_meet
       exact ⟨_, rfl, HS1⟩
     ·go_wp2_with fail
      go_meet
      exact ⟨_, rfl, HS1⟩
    ·go_wp2_with fail
     go_meet
     exact ⟨_, rfl, HS1⟩
   ·go_wp2_with fail
    go_meet
    exact ⟨_, rfl, HS1⟩
 case rest =>
 obtain ⟨bz, rfl, HS2⟩ := hcut
 clear HS1 HRC
 cases bz with
 | true =>
  go_wp2_with fail
  go_ret
  exact retB _ trivial HS2.out.2
 | false =>
 go_wp2_with fail
 go_loopg [3] fl.length (fun k i W => ∃ j : Nat, j ≤ fl.length ∧ i = .int .i64 (j : Int) ∧ Hid (RgSt w W ⟨up, ms, ss, pt⟩ (.slice af fl.length cf) (.slice ac l.length cc)) ∧ k = fl.length - j)
 case atStart => exact ⟨0, Nat.zero_le _, rfl, HS2, rfl⟩
 case round =>
  obtain ⟨j, hj, rfl, HS3, hkk⟩ := hrel
  have HKK := lh hkk
  clear hkk HS2
  obtain ⟨c0, c1, c2, c3, c4, c5⟩ := HS3.out.cells
  dsimp only at c0 c1 c2 c3 c4 c5
  by_cases hlt : j < fl.length
  ·have hki : (j : Int) < fl.length := by omega
   obtain ⟨af2, cf2, e2, _, _, hcell⟩ := HF.out _ HS3.out.2
   cases e2
   obtain ⟨b, off, rfl, hbl, cj⟩ := hcell j hlt
   clear hbl
   have HCI := lh (fun i (h : i < fl.length) => show wr.cell? ⟨b, off + i, none⟩ = some (.int .i64 fl[i]) from (by obtain ⟨b2, o2, e3, _, c⟩ := hcell i h; cases e3; exact c))
   clear hcell
   generalize hx : fl[j] = x at *
   clear hx
   cases h0 : decide (x < 0)
   rotate_left
   ·go_upto_region 6 with fail
    go_quiet (fail)
    have HS4 := lh (HS3.out.next (below_drewN _ nq))
    clear HS3 c0 c1 c2 c3 c4 c5
    go_wp2_with fail
    go_ret
    exact retB _ trivial HS4.out.2
   cases h1 : decide (4294967294 < x)
   rotate_left
   ·go_upto_region 6 with fail
    go_quiet (fail)
    have HS4 := lh (HS3.out.next (below_drewN _ nq))
    clear HS3 c0 c1 c2 c3 c4 c5
    go_wp2_with fail
    go_ret
    exact retB _ trivial HS4.out.2
   by_cases hj0 : j = 0
   ·have k0 : decide ((0 : Int) < (j : Int)) = false := decide_eq_false (by omega)
    have k0n : decide (0 < j) = false := decide_eq_false (by omega)
    clear hj0
    go_upto_region 6 with fail
    go_quiet (fail)
    have HS4 := lh (HS3.out.next (below_drewN _ nq))
    clear HS3 c0 c1 c2 c3 c4 c5
    go_wp2_with fail
    have hkk := HKK.out
    go_roundg (fl.length - (j + 1))
    case measure => omega
    case rel => exact ⟨j + 1, by omega, by go_num, HS4, rfl⟩
   obtain ⟨i, hi⟩ : ∃ i, j = i + 1 := ⟨j - 1, by omega⟩
   have k0 : decide ((0 : Int) < (j : Int)) = true := decide_eq_true (by omega)
   have k0n : decide (0 < j) = true := decide_eq_true (by omega)
   have k0m : 0 < j := by omega
   have k1 : IntKind.i64.wrap ((j : Int) - 1) = (i : Int) := by rw [IntWalk.i64_in _ (by omega)]; omega
   have k2 : (i : Int) < fl.length := by omega
   have ci := HCI.out i (by omega)
   generalize fl[i] = y at *
   clear HCI hj0 hi
   cases h2 : decide (x ≤ y)
   ·go_upto_region 6 with fail
    go_quiet (fail)
    have HS4 := lh (HS3.out.next (below_drewN _ nq))
    clear HS3 c0 c1 c2 c3 c4 c5
    go_wp2_with fail
    have hkk := HKK.out
    go_roundg (fl.length - (j + 1))
    case measure => omega
    case rel => exact ⟨j + 1, by omega, by go_num, HS4, rfl⟩
   ·go_upto_region 6 with fail
    go_quiet (fail)
    have HS4 := lh (HS3.out.next (below_drewN _ nq))
    clear HS3 c0 c1 c2 c3 c4 c5
    go_wp2_with fail
    go_ret
    exact retB _ trivial HS4.out.2
  ·obtain rfl : j = fl.length := by omega
   go_wp2_with fail
   (with_reducible refine (HSP.out _ _).mono ?_); rintro e w4 ⟨ao, n, cp, r, k, rfl, b4⟩
   have HS4 := lh (HS3.out.next b4)
   clear b4 HS3 c0 c1 c2 c3 c4 c5 HSP HF
   obtain ⟨c0, c1, c2, c3, c4, c5⟩ := HS4.out.cells
   dsimp only at c0 c1 c2 c3 c4 c5
   go_wp2_with fail
   all_goals (go_ret; exact retB _ trivial HS4.out.2)
theorem mg_cells_bare {W : World} {g : Nat} {x m : Mg} {fr : Nat × Nat} (hb : x.bare = m.bare) (h : W.heap[g]? = some (.cells x.cs.toArray 48 fr)) : W.cell? ⟨g, 0, none⟩ = some (.int .i64 m.kind) ∧ W.cell? ⟨g, 1, none⟩ = some (.int .i64 m.tag) ∧ W.cell? ⟨g, 2, none⟩ = some (.int .i64 m.fid) ∧ W.cell? ⟨g, 3, none⟩ = some (.int .i64 m.newFid) ∧ W.cell? ⟨g, 4, none⟩ = some (.int .i64 m.authFid) ∧ W.cell? ⟨g, 5, none⟩ = some (.int .i64 m.oldTag) ∧ W.cell? ⟨g, 6, none⟩ = some (.int .i64 m.msize) ∧ W.cell? ⟨g, 7, none⟩ = some (.string (T m.version)) ∧ W.cell? ⟨g, 8, none⟩ = some (.string (T m.user)) ∧ W.cell? ⟨g, 9, none⟩ = some (.string (T m.attach)) ∧ W.cell? ⟨g, 10, none⟩ = some (x.names) ∧ W.cell? ⟨g, 11, none⟩ = some (x.qids) ∧ W.cell? ⟨g, 12, none⟩ = some (.int .i64 m.q0) ∧ W.cell? ⟨g, 13, none⟩ = some (.int .i64 m.q1) ∧ W.cell? ⟨g, 14, none⟩ = some (.int .i64 m.q2) ∧ W.cell? ⟨g, 15, none⟩ = some (.int .i64 m.iounit) ∧ W.cell? ⟨g, 16, none⟩ = some (.int .i64 m.mode) ∧ W.cell? ⟨g, 17, none⟩ = some (.int .i64 m.perm) ∧ W.cell? ⟨g, 18, none⟩ = some (.string (T m.name)) ∧ W.cell? ⟨g, 19, none⟩ = some (.int .i64 m.offset) ∧ W.cell? ⟨g, 20, none⟩ = some (.int .i64 m.count) ∧ W.cell? ⟨g, 21, none⟩ = some (.string (T m.data)) ∧ W.cell? ⟨g, 22, none⟩ = some (.int .i64 m.st) ∧ W.cell? ⟨g, 23, none⟩ = some (.int .i64 m.sd) ∧ W.cell? ⟨g, 24, none⟩ = some (.int .i64 m.s0) ∧ W.cell? ⟨g, 25, none⟩ = some (.int .i64 m.s1) ∧ W.cell? ⟨g, 26, none⟩ = some (.int .i64 m.s2) ∧ W.cell? ⟨g, 27, none⟩ = some (.int .i64 m.sm) ∧ W.cell? ⟨g, 28, none⟩ = some (.int .i64 m.sat) ∧ W.cell? ⟨g, 29, none⟩ = some (.int .i64 m.smt) ∧ W.cell? ⟨g, 30, none⟩ = some (.int .i64 m.sl) ∧ W.cell? ⟨g, 31, none⟩ = some (.string (T m.sn)) ∧ W.cell? ⟨g, 32, none⟩ = some (.string (T m.su)) ∧ W.cell? ⟨g, 33, none⟩ = some (.string (T m.sg)) ∧ W.cell? ⟨g, 34, none⟩ = some (.string (T m.smu)) ∧ W.cell? ⟨g, 35, none⟩ = some (.int .i64 m.err) ∧ W.cell? ⟨g, 36, none⟩ = some (.int .i64 m.lease) ∧ W.cell? ⟨g, 37, none⟩ = some (.int .i64 m.term) ∧ W.cell? ⟨g, 38, none⟩ = some (.string (T m.session)) := by
 cases x; cases m
 simp only [Mg.bare, Mg.mk.injEq] at hb
 obtain ⟨rfl, rfl, rfl, rfl, rfl, rfl, rfl, rfl, rfl, rfl, _, _, rfl, rfl, rfl, rfl, rfl, rfl, rfl, rfl, rfl, rfl, rfl, rfl, rfl, rfl, rfl, rfl, rfl, rfl, rfl, rfl, rfl, rfl, rfl, rfl, rfl, rfl, rfl⟩ := hb
 exact mg_cells h
theorem rsame_any (x m : Mg) (ns : List (List UInt8)) (w : World) (hb : x.bare = m.bare) (hx : MgIn w x ns []) (hm : MgIn w m ns []) :
  Calls Tryz.prog 13 #[.agg x.cs.toArray, .agg m.cs.toArray] w (RetB (fun r => r = true) w) := by
 have HS0 := lh (show SgSt w ((w.alloc (mgobj x)).alloc (mgobj m)) w.heap.size x m from ⟨(Lib.alloc_old _ _ _ (by simp)).trans (heap_alloc_new w _), by
  have := heap_alloc_new (w.alloc (mgobj x)) (mgobj m)
  rw [show (w.alloc (mgobj x)).heap.size = w.heap.size + 1 from by simp] at this
  exact this, bnext (alloc_below w _) (alloc_below _ _)⟩)
 have HSN := lh (fun (W W' : World) (h : SgSt w W w.heap.size x m) (hb : Below W.heap.size W W') => h.next hb)
 have HX := lh hx
 have HM := lh hm
 have HBR := lh hb
 have HD := lh (show ∀ W : World, (Op.equalIn 10000 46 (.agg #[.int .i64 m.st, .int .i64 m.sd, .int .i64 m.s0, .int .i64 m.s1, .int .i64 m.s2, .int .i64 m.sm, .int .i64 m.sat, .int .i64 m.smt, .int .i64 m.sl, .string (T m.sn), .string (T m.su), .string (T m.sg), .string (T m.smu)]) (.agg #[.int .i64 m.st, .int .i64 m.sd, .int .i64 m.s0, .int .i64 m.s1, .int .i64 m.s2, .int .i64 m.sm, .int .i64 m.sat, .int .i64 m.smt, .int .i64 m.sl, .string (T m.sn), .string (T m.su), .string (T m.sg), .string (T m.smu)])).run Tryz.prog W = .ok true W from fun W => by
  have e : eqD m m = true := by rw [eqD_iff]; simp
  rw [← e]
  exact eqD_run m m W)
 have HQ := lh (show ∀ W : World, (Op.equalIn 10000 44 (.agg #[.int .i64 m.q0, .int .i64 m.q1, .int .i64 m.q2]) (.agg #[.int .i64 m.q0, .int .i64 m.q1, .int .i64 m.q2])).run Tryz.prog W = .ok true W from fun W => by
  have e : eqQ m m = true := by rw [eqQ_iff]; simp
  rw [← e]
  exact eqQ_run m m W)
 obtain ⟨ax, cx, en, _, _, _⟩ := hx.1
 obtain ⟨dx, kx, eq, _, _, _⟩ := hx.2.1
 obtain ⟨am, cm, fn, _, _, _⟩ := hm.1
 obtain ⟨dm, km, fq, _, _, _⟩ := hm.2.1
 have HC := lh (fun (W : World) (h : SgSt w W w.heap.size x m) => And.intro (mg_cells_bare hb h.1) (mg_cells h.2.1))
 have HTX := lh (fun (W : World) (h : Below w.heap.size w W) => hx.1.below h)
 have HTM := lh (fun (W : World) (h : Below w.heap.size w W) => hm.1.below h)
 have HL := hm.2.2.1
 rw [en, eq, fn, fq] at HC
 rw [en] at HTX
 rw [fn] at HTM
 clear hx hm hb HX HM HBR en eq fn fq
 unfold mgobj at *
 go_enter Tryz.func13, Tryz.ntmps13
 go_upto_region 1 with fail
 generalize World.alloc _ _ = w1 at *
 obtain ⟨⟨c0, c1, c2, c3, c4, c5, c6, c7, c8, c9, c10, c11, c12, c13, c14, c15, c16, c17, c18, c19, c20, c21, c22, c23, c24, c25, c26, c27, c28, c29, c30, c31, c32, c33, c34, c35, c36, c37, c38⟩, ⟨d0, d1, d2, d3, d4, d5, d6, d7, d8, d9, d10, d11, d12, d13, d14, d15, d16, d17, d18, d19, d20, d21, d22, d23, d24, d25, d26, d27, d28, d29, d30, d31, d32, d33, d34, d35, d36, d37, d38⟩⟩ := HC.out _ HS0.out
 clear c0 d0 c1 d1 c2 d2 c3 d3 c4 d4 c5 d5 c6 d6 c7 d7 c8 d8 c9 d9 c12 d12 c13 d13 c14 d14 c15 d15 c16 d16 c17 d17 c18 d18 c19 d19 c20 d20 c21 d21 c22 d22 c23 d23 c24 d24 c25 d25 c26 d26 c27 d27 c28 d28 c29 d29 c30 d30 c31 d31 c32 d32 c33 d33 c34 d34 c35 d35 c36 d36 c37 d37 c38 d38
 go_wp2_with fail
 go_loopg [28] ns.length (fun k s W => ∃ j : Nat, j ≤ ns.length ∧ s = .int .i64 (j : Int) ∧ SgSt w W w.heap.size x m ∧ k = ns.length - j)
 case atStart => exact ⟨0, Nat.zero_le _, rfl, HS0.out, rfl⟩
 case round =>
  obtain ⟨j, hj, rfl, hs, hk⟩ := hrel
  have HS := lh hs
  have HK := lh hk
  clear c10 c11 d10 d11 HS0
  obtain ⟨⟨c0, c1, c2, c3, c4, c5, c6, c7, c8, c9, c10, c11, c12, c13, c14, c15, c16, c17, c18, c19, c20, c21, c22, c23, c24, c25, c26, c27, c28, c29, c30, c31, c32, c33, c34, c35, c36, c37, c38⟩, ⟨d0, d1, d2, d3, d4, d5, d6, d7, d8, d9, d10, d11, d12, d13, d14, d15, d16, d17, d18, d19, d20, d21, d22, d23, d24, d25, d26, d27, d28, d29, d30, d31, d32, d33, d34, d35, d36, d37, d38⟩⟩ := HC.out _ hs
  obtain ⟨ao2, cap2, e2, _, _, hcx⟩ := HTX.out _ hs.2.2
  cases e2
  obtain ⟨ao3, cap3, e3, _, _, hcm⟩ := HTM.out _ hs.2.2
  cases e3
  clear hs hk
  by_cases hlt : j < ns.length
  ·obtain ⟨bx, ox, rfl, _, t1⟩ := hcx j hlt
   obtain ⟨bm, om, rfl, _, t2⟩ := hcm j hlt
   clear hcx hcm c0 d0 c1 d1 c2 d2 c3 d3 c4 d4 c5 d5 c6 d6 c7 d7 c8 d8 c9 d9 c11 d11 c12 d12 c13 d13 c14 d14 c15 d15 c16 d16 c17 d17 c18 d18 c19 d19 c20 d20 c21 d21 c22 d22 c23 d23 c24 d24 c25 d25 c26 d26 c27 d27 c28 d28 c29 d29 c30 d30 c31 d31 c32 d32 c33 d33 c34 d34 c35 d35 c36 d36 c37 d37 c38 d38
   have hki : (j : Int) < ns.length := by omega
   generalize ns[j] = tx at *
   go_wp2_with fail
   go_quiet (fail)
   go_wp2_with fail
   have hk := HK.out
   have HS2 := lh (fun n => HSN.out _ _ HS.out (show Below wr.heap.size wr (wr.drewN n) from ⟨rfl, rfl, rfl, Nat.le_refl _, fun _ _ => rfl⟩))
   go_roundg (ns.length - (j + 1))
   case measure => omega
   case rel => exact ⟨j + 1, by omega, by go_num, HS2.out _, rfl⟩
  ·obtain rfl : j = ns.length := by omega
   clear hcx hcm
   clear c0 d0 c1 d1 c2 d2 c3 d3 c4 d4 c5 d5 c6 d6 c7 d7 c8 d8 c9 d9 c10 d10 c12 d12 c13 d13 c14 d14 c15 d15 c16 d16 c17 d17 c18 d18 c19 d19 c20 d20 c21 d21 c22 d22 c23 d23 c24 d24 c25 d25 c26 d26 c27 d27 c28 d28 c29 d29 c30 d30 c31 d31 c32 d32 c33 d33 c34 d34 c35 d35 c36 d36 c37 d37 c38 d38
   go_upto_region 10 with fail
   go_loopg [46] 0 (fun k s W => s = .int .i64 0 ∧ SgSt w W w.heap.size x m ∧ k = 0)
   case atStart => exact ⟨rfl, HS.out, rfl⟩
   case round =>
    obtain ⟨rfl, hs, hk⟩ := hrel
    have HS4 := lh hs
    clear hs hk c11 d11 HS
    go_upto_region 15 with fail
    obtain ⟨⟨c0, c1, c2, c3, c4, c5, c6, c7, c8, c9, c10, c11, c12, c13, c14, c15, c16, c17, c18, c19, c20, c21, c22, c23, c24, c25, c26, c27, c28, c29, c30, c31, c32, c33, c34, c35, c36, c37, c38⟩, ⟨d0, d1, d2, d3, d4, d5, d6, d7, d8, d9, d10, d11, d12, d13, d14, d15, d16, d17, d18, d19, d20, d21, d22, d23, d24, d25, d26, d27, d28, d29, d30, d31, d32, d33, d34, d35, d36, d37, d38⟩⟩ := HC.out _ HS4.out
    have hq := HQ.out
    have hd := HD.out
    go_wp2_with fail
    go_ret
    exact retB _ rfl HS4.out.2.2
end Go.Proofs.YtfibaopngpfmjaaGreatDoor
