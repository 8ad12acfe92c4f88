/- msg.only, the rest. Conditions: those that each theorem names. -/
import Derived.Test.YtfibaopngpfmjaaGreatDoorRzF1
import Derived.Test.YtfibaopngpfmjaaGreatDoorRzB6
import Derived.Test.YtfibaopngpfmjaaGreatDoorRzA1
import Derived.Test.YtfibaopngpfmjaaGreatDoorRzF2
import Derived.Test.YtfibaopngpfmjaaGreatDoorRzF3
set_option linter.unusedVariables false
set_option linter.unusedSimpArgs false
set_option maxRecDepth 100000
set_option maxHeartbeats 8000000
namespace Go.Proofs.YtfibaopngpfmjaaGreatDoor
open Go.RowKit Go.Proofs
theorem rest_126 (m : Mg) (hk : m.kind = 126) (hok : m.ok) (w : World) : Calls Tryz.prog 136 #[.agg m.cs.toArray, .agg ({ mg0 with kind := 126, tag := m.tag } : Mg).cs.toArray] w fun e w' => e = .returned (.agg (onl m).cs.toArray) ∧ Below w.heap.size w w' := by
 have ho : onl m = ({ mg0 with kind := 126, tag := m.tag, fid := m.fid, st := m.st, sd := m.sd, s0 := m.s0, s1 := m.s1, s2 := m.s2, sm := m.sm, sat := m.sat, smt := m.smt, sl := m.sl, sn := m.sn, su := m.su, sg := m.sg, smu := m.smu } : Mg) := by simp [onl, hk]
 rw [ho]
 clear ho
 have h1 := heap_alloc_new w (mgobj m)
 have h2 := heap_alloc_new (w.alloc (mgobj m)) (mgobj ({ mg0 with kind := 126, tag := m.tag } : Mg))
 have h3 := heap_alloc_new ((w.alloc (mgobj m)).alloc (mgobj ({ mg0 with kind := 126, tag := m.tag } : Mg))) (mgobj mg0)
 rw [show (w.alloc (mgobj m)).heap.size = w.heap.size + 1 from by simp] at h2
 rw [show ((w.alloc (mgobj m)).alloc (mgobj ({ mg0 with kind := 126, tag := m.tag } : Mg))).heap.size = w.heap.size + 1 + 1 from by simp] at h3
 have HB := lh (bnext (bnext (alloc_below w (mgobj m)) (alloc_below _ (mgobj ({ mg0 with kind := 126, tag := m.tag } : Mg)))) (alloc_below _ (mgobj mg0)))
 have H1 := lh ((Lib.alloc_old _ (mgobj mg0) _ (by simp; omega)).trans ((Lib.alloc_old _ (mgobj ({ mg0 with kind := 126, tag := m.tag } : Mg)) _ (by simp)).trans h1))
 have H3 := lh ((Lib.alloc_old _ (mgobj mg0) _ (by simp)).trans h2)
 have H2 := lh h3
 clear h1 h2 h3
 have HC0 := lh (fun (W : World) (h : W.heap[w.heap.size]? = some (mgobj m)) => show W.cell? ⟨w.heap.size, 0, none⟩ = some (.int .i64 126) ∧ W.cell? ⟨w.heap.size, 1, none⟩ = some (.int .i64 m.tag) from ⟨by rw [Lib.cell_of_heap h, ← hk]; rfl, by rw [Lib.cell_of_heap h]; rfl⟩)
 have HCS := lh (fun (W : World) (h : W.heap[w.heap.size]? = some (mgobj m)) => show W.cell? ⟨w.heap.size, 2, none⟩ = some (.int .i64 m.fid) ∧ W.cell? ⟨w.heap.size, 22, none⟩ = some (.int .i64 m.st) ∧ W.cell? ⟨w.heap.size, 23, none⟩ = some (.int .i64 m.sd) ∧ W.cell? ⟨w.heap.size, 24, none⟩ = some (.int .i64 m.s0) ∧ W.cell? ⟨w.heap.size, 25, none⟩ = some (.int .i64 m.s1) ∧ W.cell? ⟨w.heap.size, 26, none⟩ = some (.int .i64 m.s2) ∧ W.cell? ⟨w.heap.size, 27, none⟩ = some (.int .i64 m.sm) ∧ W.cell? ⟨w.heap.size, 28, none⟩ = some (.int .i64 m.sat) ∧ W.cell? ⟨w.heap.size, 29, none⟩ = some (.int .i64 m.smt) ∧ W.cell? ⟨w.heap.size, 30, none⟩ = some (.int .i64 m.sl) ∧ W.cell? ⟨w.heap.size, 31, none⟩ = some (.string (T m.sn)) ∧ W.cell? ⟨w.heap.size, 32, none⟩ = some (.string (T m.su)) ∧ W.cell? ⟨w.heap.size, 33, none⟩ = some (.string (T m.sg)) ∧ W.cell? ⟨w.heap.size, 34, none⟩ = some (.string (T m.smu)) from ⟨by rw [Lib.cell_of_heap h]; rfl, by rw [Lib.cell_of_heap h]; rfl, by rw [Lib.cell_of_heap h]; rfl, by rw [Lib.cell_of_heap h]; rfl, by rw [Lib.cell_of_heap h]; rfl, by rw [Lib.cell_of_heap h]; rfl, by rw [Lib.cell_of_heap h]; rfl, by rw [Lib.cell_of_heap h]; rfl, by rw [Lib.cell_of_heap h]; rfl, by rw [Lib.cell_of_heap h]; rfl, by rw [Lib.cell_of_heap h]; rfl, by rw [Lib.cell_of_heap h]; rfl, by rw [Lib.cell_of_heap h]; rfl, by rw [Lib.cell_of_heap h]; rfl⟩)
 have HDS := lh (fun (W : World) (b : Nat) (h : W.heap[b]? = some (mgobj ({ mg0 with kind := 126, tag := m.tag } : Mg))) => show (W.cell? ⟨b, 2, none⟩ = some (.int .i64 0) ∧ W.cell? ⟨b, 22, none⟩ = some (.int .i64 0) ∧ W.cell? ⟨b, 23, none⟩ = some (.int .i64 0) ∧ W.cell? ⟨b, 24, none⟩ = some (.int .i64 0) ∧ W.cell? ⟨b, 25, none⟩ = some (.int .i64 0) ∧ W.cell? ⟨b, 26, none⟩ = some (.int .i64 0) ∧ W.cell? ⟨b, 27, none⟩ = some (.int .i64 0) ∧ W.cell? ⟨b, 28, none⟩ = some (.int .i64 0) ∧ W.cell? ⟨b, 29, none⟩ = some (.int .i64 0) ∧ W.cell? ⟨b, 30, none⟩ = some (.int .i64 0) ∧ W.cell? ⟨b, 31, none⟩ = some (.string (T [])) ∧ W.cell? ⟨b, 32, none⟩ = some (.string (T [])) ∧ W.cell? ⟨b, 33, none⟩ = some (.string (T [])) ∧ W.cell? ⟨b, 34, none⟩ = some (.string (T []))) ∧ (W.frozen? ⟨b, 2, none⟩ = false ∧ W.frozen? ⟨b, 22, none⟩ = false ∧ W.frozen? ⟨b, 23, none⟩ = false ∧ W.frozen? ⟨b, 24, none⟩ = false ∧ W.frozen? ⟨b, 25, none⟩ = false ∧ W.frozen? ⟨b, 26, none⟩ = false ∧ W.frozen? ⟨b, 27, none⟩ = false ∧ W.frozen? ⟨b, 28, none⟩ = false ∧ W.frozen? ⟨b, 29, none⟩ = false ∧ W.frozen? ⟨b, 30, none⟩ = false ∧ W.frozen? ⟨b, 31, none⟩ = false ∧ W.frozen? ⟨b, 32, none⟩ = false ∧ W.frozen? ⟨b, 33, none⟩ = false ∧ W.frozen? ⟨b, 34, none⟩ = false) ∧ ((((((((((((((W.setCell ⟨b, 2, none⟩ (.int .i64 m.fid)).setCell ⟨b, 22, none⟩ (.int .i64 m.st)).setCell ⟨b, 23, none⟩ (.int .i64 m.sd)).setCell ⟨b, 24, none⟩ (.int .i64 m.s0)).setCell ⟨b, 25, none⟩ (.int .i64 m.s1)).setCell ⟨b, 26, none⟩ (.int .i64 m.s2)).setCell ⟨b, 27, none⟩ (.int .i64 m.sm)).setCell ⟨b, 28, none⟩ (.int .i64 m.sat)).setCell ⟨b, 29, none⟩ (.int .i64 m.smt)).setCell ⟨b, 30, none⟩ (.int .i64 m.sl)).setCell ⟨b, 31, none⟩ (.string (T m.sn))).setCell ⟨b, 32, none⟩ (.string (T m.su))).setCell ⟨b, 33, none⟩ (.string (T m.sg))).setCell ⟨b, 34, none⟩ (.string (T m.smu))).heap[b]? = some (mgobj ({ mg0 with kind := 126, tag := m.tag, fid := m.fid, st := m.st, sd := m.sd, s0 := m.s0, s1 := m.s1, s2 := m.s2, sm := m.sm, sat := m.sat, smt := m.smt, sl := m.sl, sn := m.sn, su := m.su, sg := m.sg, smu := m.smu } : Mg)) from ⟨⟨by rw [Lib.cell_of_heap h]; rfl, by rw [Lib.cell_of_heap h]; rfl, by rw [Lib.cell_of_heap h]; rfl, by rw [Lib.cell_of_heap h]; rfl, by rw [Lib.cell_of_heap h]; rfl, by rw [Lib.cell_of_heap h]; rfl, by rw [Lib.cell_of_heap h]; rfl, by rw [Lib.cell_of_heap h]; rfl, by rw [Lib.cell_of_heap h]; rfl, by rw [Lib.cell_of_heap h]; rfl, by rw [Lib.cell_of_heap h]; rfl, by rw [Lib.cell_of_heap h]; rfl, by rw [Lib.cell_of_heap h]; rfl, by rw [Lib.cell_of_heap h]; rfl⟩, ⟨Lib.frozen_of_heap h _, Lib.frozen_of_heap h _, Lib.frozen_of_heap h _, Lib.frozen_of_heap h _, Lib.frozen_of_heap h _, Lib.frozen_of_heap h _, Lib.frozen_of_heap h _, Lib.frozen_of_heap h _, Lib.frozen_of_heap h _, Lib.frozen_of_heap h _, Lib.frozen_of_heap h _, Lib.frozen_of_heap h _, Lib.frozen_of_heap h _, Lib.frozen_of_heap h _⟩, (mg_set (m := ({ mg0 with kind := 126, tag := m.tag, fid := m.fid, st := m.st, sd := m.sd, s0 := m.s0, s1 := m.s1, s2 := m.s2, sm := m.sm, sat := m.sat, smt := m.smt, sl := m.sl, sn := m.sn, su := m.su, sg := m.sg } : Mg)) (m' := ({ mg0 with kind := 126, tag := m.tag, fid := m.fid, st := m.st, sd := m.sd, s0 := m.s0, s1 := m.s1, s2 := m.s2, sm := m.sm, sat := m.sat, smt := m.smt, sl := m.sl, sn := m.sn, su := m.su, sg := m.sg, smu := m.smu } : Mg)) (mg_set (m := ({ mg0 with kind := 126, tag := m.tag, fid := m.fid, st := m.st, sd := m.sd, s0 := m.s0, s1 := m.s1, s2 := m.s2, sm := m.sm, sat := m.sat, smt := m.smt, sl := m.sl, sn := m.sn, su := m.su } : Mg)) (m' := ({ mg0 with kind := 126, tag := m.tag, fid := m.fid, st := m.st, sd := m.sd, s0 := m.s0, s1 := m.s1, s2 := m.s2, sm := m.sm, sat := m.sat, smt := m.smt, sl := m.sl, sn := m.sn, su := m.su, sg := m.sg } : Mg)) (mg_set (m := ({ mg0 with kind := 126, tag := m.tag, fid := m.fid, st := m.st, sd := m.sd, s0 := m.s0, s1 := m.s1, s2 := m.s2, sm := m.sm, sat := m.sat, smt := m.smt, sl := m.sl, sn := m.sn } : Mg)) (m' := ({ mg0 with kind := 126, tag := m.tag, fid := m.fid, st := m.st, sd := m.sd, s0 := m.s0, s1 := m.s1, s2 := m.s2, sm := m.sm, sat := m.sat, smt := m.smt, sl := m.sl, sn := m.sn, su := m.su } : Mg)) (mg_set (m := ({ mg0 with kind := 126, tag := m.tag, fid := m.fid, st := m.st, sd := m.sd, s0 := m.s0, s1 := m.s1, s2 := m.s2, sm := m.sm, sat := m.sat, smt := m.smt, sl := m.sl } : Mg)) (m' := ({ mg0 with kind := 126, tag := m.tag, fid := m.fid, st := m.st, sd := m.sd, s0 := m.s0, s1 := m.s1, s2 := m.s2, sm := m.sm, sat := m.sat, smt := m.smt, sl := m.sl, sn := m.sn } : Mg)) (mg_set (m := ({ mg0 with kind := 126, tag := m.tag, fid := m.fid, st := m.st, sd := m.sd, s0 := m.s0, s1 := m.s1, s2 := m.s2, sm := m.sm, sat := m.sat, smt := m.smt } : Mg)) (m' := ({ mg0 with kind := 126, tag := m.tag, fid := m.fid, st := m.st, sd := m.sd, s0 := m.s0, s1 := m.s1, s2 := m.s2, sm := m.sm, sat := m.sat, smt := m.smt, sl := m.sl } : Mg)) (mg_set (m := ({ mg0 with kind := 126, tag := m.tag, fid := m.fid, st := m.st, sd := m.sd, s0 := m.s0, s1 := m.s1, s2 := m.s2, sm := m.sm, sat := m.sat } : Mg)) (m' := ({ mg0 with kind := 126, tag := m.tag, fid := m.fid, st := m.st, sd := m.sd, s0 := m.s0, s1 := m.s1, s2 := m.s2, sm := m.sm, sat := m.sat, smt := m.smt } : Mg)) (mg_set (m := ({ mg0 with kind := 126, tag := m.tag, fid := m.fid, st := m.st, sd := m.sd, s0 := m.s0, s1 := m.s1, s2 := m.s2, sm := m.sm } : Mg)) (m' := ({ mg0 with kind := 126, tag := m.tag, fid := m.fid, st := m.st, sd := m.sd, s0 := m.s0, s1 := m.s1, s2 := m.s2, sm := m.sm, sat := m.sat } : Mg)) (mg_set (m := ({ mg0 with kind := 126, tag := m.tag, fid := m.fid, st := m.st, sd := m.sd, s0 := m.s0, s1 := m.s1, s2 := m.s2 } : Mg)) (m' := ({ mg0 with kind := 126, tag := m.tag, fid := m.fid, st := m.st, sd := m.sd, s0 := m.s0, s1 := m.s1, s2 := m.s2, sm := m.sm } : Mg)) (mg_set (m := ({ mg0 with kind := 126, tag := m.tag, fid := m.fid, st := m.st, sd := m.sd, s0 := m.s0, s1 := m.s1 } : Mg)) (m' := ({ mg0 with kind := 126, tag := m.tag, fid := m.fid, st := m.st, sd := m.sd, s0 := m.s0, s1 := m.s1, s2 := m.s2 } : Mg)) (mg_set (m := ({ mg0 with kind := 126, tag := m.tag, fid := m.fid, st := m.st, sd := m.sd, s0 := m.s0 } : Mg)) (m' := ({ mg0 with kind := 126, tag := m.tag, fid := m.fid, st := m.st, sd := m.sd, s0 := m.s0, s1 := m.s1 } : Mg)) (mg_set (m := ({ mg0 with kind := 126, tag := m.tag, fid := m.fid, st := m.st, sd := m.sd } : Mg)) (m' := ({ mg0 with kind := 126, tag := m.tag, fid := m.fid, st := m.st, sd := m.sd, s0 := m.s0 } : Mg)) (mg_set (m := ({ mg0 with kind := 126, tag := m.tag, fid := m.fid, st := m.st } : Mg)) (m' := ({ mg0 with kind := 126, tag := m.tag, fid := m.fid, st := m.st, sd := m.sd } : Mg)) (mg_set (m := ({ mg0 with kind := 126, tag := m.tag, fid := m.fid } : Mg)) (m' := ({ mg0 with kind := 126, tag := m.tag, fid := m.fid, st := m.st } : Mg)) (mg_set (m := ({ mg0 with kind := 126, tag := m.tag } : Mg)) (m' := ({ mg0 with kind := 126, tag := m.tag, fid := m.fid } : Mg)) h 2 (.int .i64 m.fid) rfl) 22 (.int .i64 m.st) rfl) 23 (.int .i64 m.sd) rfl) 24 (.int .i64 m.s0) rfl) 25 (.int .i64 m.s1) rfl) 26 (.int .i64 m.s2) rfl) 27 (.int .i64 m.sm) rfl) 28 (.int .i64 m.sat) rfl) 29 (.int .i64 m.smt) rfl) 30 (.int .i64 m.sl) rfl) 31 (.string (T m.sn)) rfl) 32 (.string (T m.su)) rfl) 33 (.string (T m.sg)) rfl) 34 (.string (T m.smu)) rfl)⟩)
 have HU := lh (Tryz.underlying48)
 have HSZ0 := lh (mg_size ({ mg0 with kind := 126, tag := m.tag } : Mg))
 have HSZR := lh (mg_size ({ mg0 with kind := 126, tag := m.tag, fid := m.fid, st := m.st, sd := m.sd, s0 := m.s0, s1 := m.s1, s2 := m.s2, sm := m.sm, sat := m.sat, smt := m.smt, sl := m.sl, sn := m.sn, su := m.su, sg := m.sg, smu := m.smu } : Mg))
 have HSZM := lh (mg_size m)
 have HSY0 : RowKit.Hid (mg0.cs.toArray.size = ({ mg0 with kind := 126, tag := m.tag } : Mg).cs.toArray.size) := lh rfl
 have HSYR : RowKit.Hid (mg0.cs.toArray.size = ({ mg0 with kind := 126, tag := m.tag, fid := m.fid, st := m.st, sd := m.sd, s0 := m.s0, s1 := m.s1, s2 := m.s2, sm := m.sm, sat := m.sat, smt := m.smt, sl := m.sl, sn := m.sn, su := m.su, sg := m.sg, smu := m.smu } : Mg).cs.toArray.size) := lh rfl
 have HAL0 := lh (mg_all ({ mg0 with kind := 126, tag := m.tag } : Mg) ⟨⟨_, _, _, rfl⟩, ⟨_, _, _, rfl⟩⟩)
 have HALR := lh (mg_all ({ mg0 with kind := 126, tag := m.tag, fid := m.fid, st := m.st, sd := m.sd, s0 := m.s0, s1 := m.s1, s2 := m.s2, sm := m.sm, sat := m.sat, smt := m.smt, sl := m.sl, sn := m.sn, su := m.su, sg := m.sg, smu := m.smu } : Mg) ⟨⟨_, _, _, rfl⟩, ⟨_, _, _, rfl⟩⟩)
 unfold mgobj at *
 clear hk hok
 generalize ({ mg0 with kind := 126, tag := m.tag, fid := m.fid, st := m.st, sd := m.sd, s0 := m.s0, s1 := m.s1, s2 := m.s2, sm := m.sm, sat := m.sat, smt := m.smt, sl := m.sl, sn := m.sn, su := m.su, sg := m.sg, smu := m.smu } : Mg).cs.toArray = AR at *
 generalize ({ mg0 with kind := 126, tag := m.tag } : Mg).cs.toArray = A0 at *
 generalize m.cs.toArray = A1 at *
 generalize m.tag = tg at *
 generalize m.fid = x2 at *
 generalize m.st = x22 at *
 generalize m.sd = x23 at *
 generalize m.s0 = x24 at *
 generalize m.s1 = x25 at *
 generalize m.s2 = x26 at *
 generalize m.sm = x27 at *
 generalize m.sat = x28 at *
 generalize m.smt = x29 at *
 generalize m.sl = x30 at *
 generalize m.sn = x31 at *
 generalize m.su = x32 at *
 generalize m.sg = x33 at *
 generalize m.smu = x34 at *
 go_enter Tryz.func136, Tryz.ntmps136
 go_upto_region 1 with fail
 generalize hw1 : World.alloc _ _ = w1
 have HB1 := lh (show Below w.heap.size w w1 from by rw [← hw1]; exact HB.out)
 have K1 := lh (show w1.heap[w.heap.size]? = some (.cells A1 48) from by rw [← hw1]; exact H1.out)
 have K2 := lh (show w1.heap[(w.heap.size + 1 + 1)]? = some (.cells mg0.cs.toArray 48) from by rw [← hw1]; exact H2.out)
 have K3 := lh (show w1.heap[(w.heap.size + 1)]? = some (.cells A0 48) from by rw [← hw1]; exact H3.out)
 clear H1 H2 H3 HB hw1
 obtain ⟨c0, c1⟩ := HC0.out _ K1.out
 have hlt : w.heap.size < w.heap.size + 1 := Nat.lt_succ_self _
 go_upto_region 17 with fail
 have J1 := lh (((below_drew1 w1).block _ (row_ltP K1.out)).trans K1.out)
 have J2 := lh K2.out
 obtain ⟨s2, s22, s23, s24, s25, s26, s27, s28, s29, s30, s31, s32, s33, s34⟩ := HCS.out _ K1.out
 obtain ⟨⟨d2, d22, d23, d24, d25, d26, d27, d28, d29, d30, d31, d32, d33, d34⟩, ⟨f2, f22, f23, f24, f25, f26, f27, f28, f29, f30, f31, f32, f33, f34⟩, k3⟩ := HDS.out _ _ K3.out
 have L3 := lh ((below_drew1 _).block _ (row_ltP k3) |>.trans k3)
 clear k3 K1 K2 K3 c0 c1
 refine wp_region_held_drew (S := (fun W' => W'.cell? ⟨w.heap.size, 2, none⟩ = some (.int .i64 x2) ∧ W'.cell? ⟨w.heap.size, 22, none⟩ = some (.int .i64 x22) ∧ W'.cell? ⟨w.heap.size, 23, none⟩ = some (.int .i64 x23) ∧ W'.cell? ⟨w.heap.size, 24, none⟩ = some (.int .i64 x24) ∧ W'.cell? ⟨w.heap.size, 25, none⟩ = some (.int .i64 x25) ∧ W'.cell? ⟨w.heap.size, 26, none⟩ = some (.int .i64 x26) ∧ W'.cell? ⟨w.heap.size, 27, none⟩ = some (.int .i64 x27) ∧ W'.cell? ⟨w.heap.size, 28, none⟩ = some (.int .i64 x28) ∧ W'.cell? ⟨w.heap.size, 29, none⟩ = some (.int .i64 x29) ∧ W'.cell? ⟨w.heap.size, 30, none⟩ = some (.int .i64 x30) ∧ W'.cell? ⟨w.heap.size, 31, none⟩ = some (.string (T x31)) ∧ W'.cell? ⟨w.heap.size, 32, none⟩ = some (.string (T x32)) ∧ W'.cell? ⟨w.heap.size, 33, none⟩ = some (.string (T x33)) ∧ W'.cell? ⟨w.heap.size, 34, none⟩ = some (.string (T x34)))) (by kernel_rfl) (HCS.out _ J1.out) (fun hHeld => ?_)
 refine tk 0 53 ?_
 refine tk 1 54 ?_
 refine tk 2 55 ?_
 refine tk 3 56 ?_
 refine tk 4 57 ?_
 refine rdy 5 (fun K hK => ?_)
 go_simp
 have bst := ((Below.refl (w.heap.size + 1) w1).setCell (p := ⟨(w.heap.size + 1), 2, none⟩) (Nat.le_refl _) (.int .i64 x2)).drew
 refine hK.out _ _ (⟨(bst.cell (p := ⟨w.heap.size, 2, none⟩) hlt).trans s2, (bst.cell (p := ⟨w.heap.size, 22, none⟩) hlt).trans s22, (bst.cell (p := ⟨w.heap.size, 23, none⟩) hlt).trans s23, (bst.cell (p := ⟨w.heap.size, 24, none⟩) hlt).trans s24, (bst.cell (p := ⟨w.heap.size, 25, none⟩) hlt).trans s25, (bst.cell (p := ⟨w.heap.size, 26, none⟩) hlt).trans s26, (bst.cell (p := ⟨w.heap.size, 27, none⟩) hlt).trans s27, (bst.cell (p := ⟨w.heap.size, 28, none⟩) hlt).trans s28, (bst.cell (p := ⟨w.heap.size, 29, none⟩) hlt).trans s29, (bst.cell (p := ⟨w.heap.size, 30, none⟩) hlt).trans s30, (bst.cell (p := ⟨w.heap.size, 31, none⟩) hlt).trans s31, (bst.cell (p := ⟨w.heap.size, 32, none⟩) hlt).trans s32, (bst.cell (p := ⟨w.heap.size, 33, none⟩) hlt).trans s33, (bst.cell (p := ⟨w.heap.size, 34, none⟩) hlt).trans s34⟩) (fun hHeld => ?_)
 clear bst hK K
 try simp only [Act.put, px1, px2, px3]
 refine tk 6 58 ?_
 refine rdy 7 (fun K hK => ?_)
 go_simp
 have bst := (((((((((((((((Below.refl (w.heap.size + 1) w1).setCell (p := ⟨(w.heap.size + 1), 2, none⟩) (Nat.le_refl _) (.int .i64 x2)).setCell (p := ⟨(w.heap.size + 1), 22, none⟩) (Nat.le_refl _) (.int .i64 x22)).setCell (p := ⟨(w.heap.size + 1), 23, none⟩) (Nat.le_refl _) (.int .i64 x23)).setCell (p := ⟨(w.heap.size + 1), 24, none⟩) (Nat.le_refl _) (.int .i64 x24)).setCell (p := ⟨(w.heap.size + 1), 25, none⟩) (Nat.le_refl _) (.int .i64 x25)).setCell (p := ⟨(w.heap.size + 1), 26, none⟩) (Nat.le_refl _) (.int .i64 x26)).setCell (p := ⟨(w.heap.size + 1), 27, none⟩) (Nat.le_refl _) (.int .i64 x27)).setCell (p := ⟨(w.heap.size + 1), 28, none⟩) (Nat.le_refl _) (.int .i64 x28)).setCell (p := ⟨(w.heap.size + 1), 29, none⟩) (Nat.le_refl _) (.int .i64 x29)).setCell (p := ⟨(w.heap.size + 1), 30, none⟩) (Nat.le_refl _) (.int .i64 x30)).setCell (p := ⟨(w.heap.size + 1), 31, none⟩) (Nat.le_refl _) (.string (T x31))).setCell (p := ⟨(w.heap.size + 1), 32, none⟩) (Nat.le_refl _) (.string (T x32))).setCell (p := ⟨(w.heap.size + 1), 33, none⟩) (Nat.le_refl _) (.string (T x33))).setCell (p := ⟨(w.heap.size + 1), 34, none⟩) (Nat.le_refl _) (.string (T x34))).drew
 refine hK.out _ _ (⟨(bst.cell (p := ⟨w.heap.size, 2, none⟩) hlt).trans s2, (bst.cell (p := ⟨w.heap.size, 22, none⟩) hlt).trans s22, (bst.cell (p := ⟨w.heap.size, 23, none⟩) hlt).trans s23, (bst.cell (p := ⟨w.heap.size, 24, none⟩) hlt).trans s24, (bst.cell (p := ⟨w.heap.size, 25, none⟩) hlt).trans s25, (bst.cell (p := ⟨w.heap.size, 26, none⟩) hlt).trans s26, (bst.cell (p := ⟨w.heap.size, 27, none⟩) hlt).trans s27, (bst.cell (p := ⟨w.heap.size, 28, none⟩) hlt).trans s28, (bst.cell (p := ⟨w.heap.size, 29, none⟩) hlt).trans s29, (bst.cell (p := ⟨w.heap.size, 30, none⟩) hlt).trans s30, (bst.cell (p := ⟨w.heap.size, 31, none⟩) hlt).trans s31, (bst.cell (p := ⟨w.heap.size, 32, none⟩) hlt).trans s32, (bst.cell (p := ⟨w.heap.size, 33, none⟩) hlt).trans s33, (bst.cell (p := ⟨w.heap.size, 34, none⟩) hlt).trans s34⟩) (fun hHeld => ?_)
 clear bst hK K
 try simp only [Act.put, px1, px2, px3]
 refine wpAnyH_done (by kernel_rfl) ?_ _
 clear hHeld
 have l2 := (Below.heap_setCell (((((((((((((w1.setCell ⟨(w.heap.size + 1), 2, none⟩ (.int .i64 x2)).setCell ⟨(w.heap.size + 1), 22, none⟩ (.int .i64 x22)).setCell ⟨(w.heap.size + 1), 23, none⟩ (.int .i64 x23)).setCell ⟨(w.heap.size + 1), 24, none⟩ (.int .i64 x24)).setCell ⟨(w.heap.size + 1), 25, none⟩ (.int .i64 x25)).setCell ⟨(w.heap.size + 1), 26, none⟩ (.int .i64 x26)).setCell ⟨(w.heap.size + 1), 27, none⟩ (.int .i64 x27)).setCell ⟨(w.heap.size + 1), 28, none⟩ (.int .i64 x28)).setCell ⟨(w.heap.size + 1), 29, none⟩ (.int .i64 x29)).setCell ⟨(w.heap.size + 1), 30, none⟩ (.int .i64 x30)).setCell ⟨(w.heap.size + 1), 31, none⟩ (.string (T x31))).setCell ⟨(w.heap.size + 1), 32, none⟩ (.string (T x32))).setCell ⟨(w.heap.size + 1), 33, none⟩ (.string (T x33))) ⟨(w.heap.size + 1), 34, none⟩ (.string (T x34)) (w.heap.size + 1 + 1) (show (w.heap.size + 1 + 1) ≠ (w.heap.size + 1) by omega)).trans ((Below.heap_setCell ((((((((((((w1.setCell ⟨(w.heap.size + 1), 2, none⟩ (.int .i64 x2)).setCell ⟨(w.heap.size + 1), 22, none⟩ (.int .i64 x22)).setCell ⟨(w.heap.size + 1), 23, none⟩ (.int .i64 x23)).setCell ⟨(w.heap.size + 1), 24, none⟩ (.int .i64 x24)).setCell ⟨(w.heap.size + 1), 25, none⟩ (.int .i64 x25)).setCell ⟨(w.heap.size + 1), 26, none⟩ (.int .i64 x26)).setCell ⟨(w.heap.size + 1), 27, none⟩ (.int .i64 x27)).setCell ⟨(w.heap.size + 1), 28, none⟩ (.int .i64 x28)).setCell ⟨(w.heap.size + 1), 29, none⟩ (.int .i64 x29)).setCell ⟨(w.heap.size + 1), 30, none⟩ (.int .i64 x30)).setCell ⟨(w.heap.size + 1), 31, none⟩ (.string (T x31))).setCell ⟨(w.heap.size + 1), 32, none⟩ (.string (T x32))) ⟨(w.heap.size + 1), 33, none⟩ (.string (T x33)) (w.heap.size + 1 + 1) (show (w.heap.size + 1 + 1) ≠ (w.heap.size + 1) by omega)).trans ((Below.heap_setCell (((((((((((w1.setCell ⟨(w.heap.size + 1), 2, none⟩ (.int .i64 x2)).setCell ⟨(w.heap.size + 1), 22, none⟩ (.int .i64 x22)).setCell ⟨(w.heap.size + 1), 23, none⟩ (.int .i64 x23)).setCell ⟨(w.heap.size + 1), 24, none⟩ (.int .i64 x24)).setCell ⟨(w.heap.size + 1), 25, none⟩ (.int .i64 x25)).setCell ⟨(w.heap.size + 1), 26, none⟩ (.int .i64 x26)).setCell ⟨(w.heap.size + 1), 27, none⟩ (.int .i64 x27)).setCell ⟨(w.heap.size + 1), 28, none⟩ (.int .i64 x28)).setCell ⟨(w.heap.size + 1), 29, none⟩ (.int .i64 x29)).setCell ⟨(w.heap.size + 1), 30, none⟩ (.int .i64 x30)).setCell ⟨(w.heap.size + 1), 31, none⟩ (.string (T x31))) ⟨(w.heap.size + 1), 32, none⟩ (.string (T x32)) (w.heap.size + 1 + 1) (show (w.heap.size + 1 + 1) ≠ (w.heap.size + 1) by omega)).trans ((Below.heap_setCell ((((((((((w1.setCell ⟨(w.heap.size + 1), 2, none⟩ (.int .i64 x2)).setCell ⟨(w.heap.size + 1), 22, none⟩ (.int .i64 x22)).setCell ⟨(w.heap.size + 1), 23, none⟩ (.int .i64 x23)).setCell ⟨(w.heap.size + 1), 24, none⟩ (.int .i64 x24)).setCell ⟨(w.heap.size + 1), 25, none⟩ (.int .i64 x25)).setCell ⟨(w.heap.size + 1), 26, none⟩ (.int .i64 x26)).setCell ⟨(w.heap.size + 1), 27, none⟩ (.int .i64 x27)).setCell ⟨(w.heap.size + 1), 28, none⟩ (.int .i64 x28)).setCell ⟨(w.heap.size + 1), 29, none⟩ (.int .i64 x29)).setCell ⟨(w.heap.size + 1), 30, none⟩ (.int .i64 x30)) ⟨(w.heap.size + 1), 31, none⟩ (.string (T x31)) (w.heap.size + 1 + 1) (show (w.heap.size + 1 + 1) ≠ (w.heap.size + 1) by omega)).trans ((Below.heap_setCell (((((((((w1.setCell ⟨(w.heap.size + 1), 2, none⟩ (.int .i64 x2)).setCell ⟨(w.heap.size + 1), 22, none⟩ (.int .i64 x22)).setCell ⟨(w.heap.size + 1), 23, none⟩ (.int .i64 x23)).setCell ⟨(w.heap.size + 1), 24, none⟩ (.int .i64 x24)).setCell ⟨(w.heap.size + 1), 25, none⟩ (.int .i64 x25)).setCell ⟨(w.heap.size + 1), 26, none⟩ (.int .i64 x26)).setCell ⟨(w.heap.size + 1), 27, none⟩ (.int .i64 x27)).setCell ⟨(w.heap.size + 1), 28, none⟩ (.int .i64 x28)).setCell ⟨(w.heap.size + 1), 29, none⟩ (.int .i64 x29)) ⟨(w.heap.size + 1), 30, none⟩ (.int .i64 x30) (w.heap.size + 1 + 1) (show (w.heap.size + 1 + 1) ≠ (w.heap.size + 1) by omega)).trans ((Below.heap_setCell ((((((((w1.setCell ⟨(w.heap.size + 1), 2, none⟩ (.int .i64 x2)).setCell ⟨(w.heap.size + 1), 22, none⟩ (.int .i64 x22)).setCell ⟨(w.heap.size + 1), 23, none⟩ (.int .i64 x23)).setCell ⟨(w.heap.size + 1), 24, none⟩ (.int .i64 x24)).setCell ⟨(w.heap.size + 1), 25, none⟩ (.int .i64 x25)).setCell ⟨(w.heap.size + 1), 26, none⟩ (.int .i64 x26)).setCell ⟨(w.heap.size + 1), 27, none⟩ (.int .i64 x27)).setCell ⟨(w.heap.size + 1), 28, none⟩ (.int .i64 x28)) ⟨(w.heap.size + 1), 29, none⟩ (.int .i64 x29) (w.heap.size + 1 + 1) (show (w.heap.size + 1 + 1) ≠ (w.heap.size + 1) by omega)).trans ((Below.heap_setCell (((((((w1.setCell ⟨(w.heap.size + 1), 2, none⟩ (.int .i64 x2)).setCell ⟨(w.heap.size + 1), 22, none⟩ (.int .i64 x22)).setCell ⟨(w.heap.size + 1), 23, none⟩ (.int .i64 x23)).setCell ⟨(w.heap.size + 1), 24, none⟩ (.int .i64 x24)).setCell ⟨(w.heap.size + 1), 25, none⟩ (.int .i64 x25)).setCell ⟨(w.heap.size + 1), 26, none⟩ (.int .i64 x26)).setCell ⟨(w.heap.size + 1), 27, none⟩ (.int .i64 x27)) ⟨(w.heap.size + 1), 28, none⟩ (.int .i64 x28) (w.heap.size + 1 + 1) (show (w.heap.size + 1 + 1) ≠ (w.heap.size + 1) by omega)).trans ((Below.heap_setCell ((((((w1.setCell ⟨(w.heap.size + 1), 2, none⟩ (.int .i64 x2)).setCell ⟨(w.heap.size + 1), 22, none⟩ (.int .i64 x22)).setCell ⟨(w.heap.size + 1), 23, none⟩ (.int .i64 x23)).setCell ⟨(w.heap.size + 1), 24, none⟩ (.int .i64 x24)).setCell ⟨(w.heap.size + 1), 25, none⟩ (.int .i64 x25)).setCell ⟨(w.heap.size + 1), 26, none⟩ (.int .i64 x26)) ⟨(w.heap.size + 1), 27, none⟩ (.int .i64 x27) (w.heap.size + 1 + 1) (show (w.heap.size + 1 + 1) ≠ (w.heap.size + 1) by omega)).trans ((Below.heap_setCell (((((w1.setCell ⟨(w.heap.size + 1), 2, none⟩ (.int .i64 x2)).setCell ⟨(w.heap.size + 1), 22, none⟩ (.int .i64 x22)).setCell ⟨(w.heap.size + 1), 23, none⟩ (.int .i64 x23)).setCell ⟨(w.heap.size + 1), 24, none⟩ (.int .i64 x24)).setCell ⟨(w.heap.size + 1), 25, none⟩ (.int .i64 x25)) ⟨(w.heap.size + 1), 26, none⟩ (.int .i64 x26) (w.heap.size + 1 + 1) (show (w.heap.size + 1 + 1) ≠ (w.heap.size + 1) by omega)).trans ((Below.heap_setCell ((((w1.setCell ⟨(w.heap.size + 1), 2, none⟩ (.int .i64 x2)).setCell ⟨(w.heap.size + 1), 22, none⟩ (.int .i64 x22)).setCell ⟨(w.heap.size + 1), 23, none⟩ (.int .i64 x23)).setCell ⟨(w.heap.size + 1), 24, none⟩ (.int .i64 x24)) ⟨(w.heap.size + 1), 25, none⟩ (.int .i64 x25) (w.heap.size + 1 + 1) (show (w.heap.size + 1 + 1) ≠ (w.heap.size + 1) by omega)).trans ((Below.heap_setCell (((w1.setCell ⟨(w.heap.size + 1), 2, none⟩ (.int .i64 x2)).setCell ⟨(w.heap.size + 1), 22, none⟩ (.int .i64 x22)).setCell ⟨(w.heap.size + 1), 23, none⟩ (.int .i64 x23)) ⟨(w.heap.size + 1), 24, none⟩ (.int .i64 x24) (w.heap.size + 1 + 1) (show (w.heap.size + 1 + 1) ≠ (w.heap.size + 1) by omega)).trans ((Below.heap_setCell ((w1.setCell ⟨(w.heap.size + 1), 2, none⟩ (.int .i64 x2)).setCell ⟨(w.heap.size + 1), 22, none⟩ (.int .i64 x22)) ⟨(w.heap.size + 1), 23, none⟩ (.int .i64 x23) (w.heap.size + 1 + 1) (show (w.heap.size + 1 + 1) ≠ (w.heap.size + 1) by omega)).trans ((Below.heap_setCell (w1.setCell ⟨(w.heap.size + 1), 2, none⟩ (.int .i64 x2)) ⟨(w.heap.size + 1), 22, none⟩ (.int .i64 x22) (w.heap.size + 1 + 1) (show (w.heap.size + 1 + 1) ≠ (w.heap.size + 1) by omega)).trans ((Below.heap_setCell w1 ⟨(w.heap.size + 1), 2, none⟩ (.int .i64 x2) (w.heap.size + 1 + 1) (show (w.heap.size + 1 + 1) ≠ (w.heap.size + 1) by omega)).trans (J2.out))))))))))))))
 have L2 := lh (((below_drew1 _).block _ (row_ltP l2)).trans l2)
 clear l2
 have HB2 := lh ((((((((((((((HB1.out.setCell (p := ⟨(w.heap.size + 1), 2, none⟩) (show w.heap.size ≤ (w.heap.size + 1) by omega) (.int .i64 x2)).setCell (p := ⟨(w.heap.size + 1), 22, none⟩) (show w.heap.size ≤ (w.heap.size + 1) by omega) (.int .i64 x22)).setCell (p := ⟨(w.heap.size + 1), 23, none⟩) (show w.heap.size ≤ (w.heap.size + 1) by omega) (.int .i64 x23)).setCell (p := ⟨(w.heap.size + 1), 24, none⟩) (show w.heap.size ≤ (w.heap.size + 1) by omega) (.int .i64 x24)).setCell (p := ⟨(w.heap.size + 1), 25, none⟩) (show w.heap.size ≤ (w.heap.size + 1) by omega) (.int .i64 x25)).setCell (p := ⟨(w.heap.size + 1), 26, none⟩) (show w.heap.size ≤ (w.heap.size + 1) by omega) (.int .i64 x26)).setCell (p := ⟨(w.heap.size + 1), 27, none⟩) (show w.heap.size ≤ (w.heap.size + 1) by omega) (.int .i64 x27)).setCell (p := ⟨(w.heap.size + 1), 28, none⟩) (show w.heap.size ≤ (w.heap.size + 1) by omega) (.int .i64 x28)).setCell (p := ⟨(w.heap.size + 1), 29, none⟩) (show w.heap.size ≤ (w.heap.size + 1) by omega) (.int .i64 x29)).setCell (p := ⟨(w.heap.size + 1), 30, none⟩) (show w.heap.size ≤ (w.heap.size + 1) by omega) (.int .i64 x30)).setCell (p := ⟨(w.heap.size + 1), 31, none⟩) (show w.heap.size ≤ (w.heap.size + 1) by omega) (.string (T x31))).setCell (p := ⟨(w.heap.size + 1), 32, none⟩) (show w.heap.size ≤ (w.heap.size + 1) by omega) (.string (T x32))).setCell (p := ⟨(w.heap.size + 1), 33, none⟩) (show w.heap.size ≤ (w.heap.size + 1) by omega) (.string (T x33))).setCell (p := ⟨(w.heap.size + 1), 34, none⟩) (show w.heap.size ≤ (w.heap.size + 1) by omega) (.string (T x34))).drew
 clear s2 d2 f2 s22 d22 f22 s23 d23 f23 s24 d24 f24 s25 d25 f25 s26 d26 f26 s27 d27 f27 s28 d28 f28 s29 d29 f29 s30 d30 f30 s31 d31 f31 s32 d32 f32 s33 d33 f33 s34 d34 f34 HCS HDS
 generalize ((((((((((((((w1.setCell ⟨(w.heap.size + 1), 2, none⟩ (.int .i64 x2)).setCell ⟨(w.heap.size + 1), 22, none⟩ (.int .i64 x22)).setCell ⟨(w.heap.size + 1), 23, none⟩ (.int .i64 x23)).setCell ⟨(w.heap.size + 1), 24, none⟩ (.int .i64 x24)).setCell ⟨(w.heap.size + 1), 25, none⟩ (.int .i64 x25)).setCell ⟨(w.heap.size + 1), 26, none⟩ (.int .i64 x26)).setCell ⟨(w.heap.size + 1), 27, none⟩ (.int .i64 x27)).setCell ⟨(w.heap.size + 1), 28, none⟩ (.int .i64 x28)).setCell ⟨(w.heap.size + 1), 29, none⟩ (.int .i64 x29)).setCell ⟨(w.heap.size + 1), 30, none⟩ (.int .i64 x30)).setCell ⟨(w.heap.size + 1), 31, none⟩ (.string (T x31))).setCell ⟨(w.heap.size + 1), 32, none⟩ (.string (T x32))).setCell ⟨(w.heap.size + 1), 33, none⟩ (.string (T x33))).setCell ⟨(w.heap.size + 1), 34, none⟩ (.string (T x34))).drew = w2 at *
 generalize mg0.cs.toArray = A3 at *
 go_wp2_with (first | refine wpList_load_row rfl 48 _ rfl (w.heap.size + 1) rfl 48 AR (0, 0) _ L3.out HU.out rfl HSZR.out ?_ | refine wpList_store_row rfl 48 _ _ rfl (w.heap.size + 1 + 1) AR rfl rfl 48 A3 L2.out HSZR.out HSYR.out HALR.out ?_)
 refine bodyPost_ret (v := .agg AR) (results_cell_row Tryz.results136 _ _ (w.heap.size + 1 + 1) 48 AR (0, 0) _ rfl (heap_setRow_same L2.out) HU.out rfl HSZR.out) rfl ⟨rfl, below_setRow HB2.out (by omega) _⟩
theorem rest_128 (m : Mg) (hk : m.kind = 128) (hok : m.ok) (w : World) : Calls Tryz.prog 136 #[.agg m.cs.toArray, .agg ({ mg0 with kind := 128, tag := m.tag } : Mg).cs.toArray] w fun e w' => e = .returned (.agg (onl m).cs.toArray) ∧ Below w.heap.size w w' := by
 have ho : onl m = ({ mg0 with kind := 128, tag := m.tag, fid := m.fid, lease := m.lease, term := m.term } : Mg) := by simp [onl, hk]
 rw [ho]
 clear ho
 have h1 := heap_alloc_new w (mgobj m)
 have h2 := heap_alloc_new (w.alloc (mgobj m)) (mgobj ({ mg0 with kind := 128, tag := m.tag } : Mg))
 have h3 := heap_alloc_new ((w.alloc (mgobj m)).alloc (mgobj ({ mg0 with kind := 128, tag := m.tag } : Mg))) (mgobj mg0)
 rw [show (w.alloc (mgobj m)).heap.size = w.heap.size + 1 from by simp] at h2
 rw [show ((w.alloc (mgobj m)).alloc (mgobj ({ mg0 with kind := 128, tag := m.tag } : Mg))).heap.size = w.heap.size + 1 + 1 from by simp] at h3
 have HB := lh (bnext (bnext (alloc_below w (mgobj m)) (alloc_below _ (mgobj ({ mg0 with kind := 128, tag := m.tag } : Mg)))) (alloc_below _ (mgobj mg0)))
 have H1 := lh ((Lib.alloc_old _ (mgobj mg0) _ (by simp; omega)).trans ((Lib.alloc_old _ (mgobj ({ mg0 with kind := 128, tag := m.tag } : Mg)) _ (by simp)).trans h1))
 have H3 := lh ((Lib.alloc_old _ (mgobj mg0) _ (by simp)).trans h2)
 have H2 := lh h3
 clear h1 h2 h3
 have HC0 := lh (fun (W : World) (h : W.heap[w.heap.size]? = some (mgobj m)) => show W.cell? ⟨w.heap.size, 0, none⟩ = some (.int .i64 128) ∧ W.cell? ⟨w.heap.size, 1, none⟩ = some (.int .i64 m.tag) from ⟨by rw [Lib.cell_of_heap h, ← hk]; rfl, by rw [Lib.cell_of_heap h]; rfl⟩)
 have HCS := lh (fun (W : World) (h : W.heap[w.heap.size]? = some (mgobj m)) => show W.cell? ⟨w.heap.size, 2, none⟩ = some (.int .i64 m.fid) ∧ W.cell? ⟨w.heap.size, 36, none⟩ = some (.int .i64 m.lease) ∧ W.cell? ⟨w.heap.size, 37, none⟩ = some (.int .i64 m.term) from ⟨by rw [Lib.cell_of_heap h]; rfl, by rw [Lib.cell_of_heap h]; rfl, by rw [Lib.cell_of_heap h]; rfl⟩)
 have HDS := lh (fun (W : World) (b : Nat) (h : W.heap[b]? = some (mgobj ({ mg0 with kind := 128, tag := m.tag } : Mg))) => show (W.cell? ⟨b, 2, none⟩ = some (.int .i64 0) ∧ W.cell? ⟨b, 36, none⟩ = some (.int .i64 0) ∧ W.cell? ⟨b, 37, none⟩ = some (.int .i64 0)) ∧ (W.frozen? ⟨b, 2, none⟩ = false ∧ W.frozen? ⟨b, 36, none⟩ = false ∧ W.frozen? ⟨b, 37, none⟩ = false) ∧ (((W.setCell ⟨b, 2, none⟩ (.int .i64 m.fid)).setCell ⟨b, 36, none⟩ (.int .i64 m.lease)).setCell ⟨b, 37, none⟩ (.int .i64 m.term)).heap[b]? = some (mgobj ({ mg0 with kind := 128, tag := m.tag, fid := m.fid, lease := m.lease, term := m.term } : Mg)) from ⟨⟨by rw [Lib.cell_of_heap h]; rfl, by rw [Lib.cell_of_heap h]; rfl, by rw [Lib.cell_of_heap h]; rfl⟩, ⟨Lib.frozen_of_heap h _, Lib.frozen_of_heap h _, Lib.frozen_of_heap h _⟩, (mg_set (m := ({ mg0 with kind := 128, tag := m.tag, fid := m.fid, lease := m.lease } : Mg)) (m' := ({ mg0 with kind := 128, tag := m.tag, fid := m.fid, lease := m.lease, term := m.term } : Mg)) (mg_set (m := ({ mg0 with kind := 128, tag := m.tag, fid := m.fid } : Mg)) (m' := ({ mg0 with kind := 128, tag := m.tag, fid := m.fid, lease := m.lease } : Mg)) (mg_set (m := ({ mg0 with kind := 128, tag := m.tag } : Mg)) (m' := ({ mg0 with kind := 128, tag := m.tag, fid := m.fid } : Mg)) h 2 (.int .i64 m.fid) rfl) 36 (.int .i64 m.lease) rfl) 37 (.int .i64 m.term) rfl)⟩)
 have HU := lh (Tryz.underlying48)
 have HSZ0 := lh (mg_size ({ mg0 with kind := 128, tag := m.tag } : Mg))
 have HSZR := lh (mg_size ({ mg0 with kind := 128, tag := m.tag, fid := m.fid, lease := m.lease, term := m.term } : Mg))
 have HSZM := lh (mg_size m)
 have HSY0 : RowKit.Hid (mg0.cs.toArray.size = ({ mg0 with kind := 128, tag := m.tag } : Mg).cs.toArray.size) := lh rfl
 have HSYR : RowKit.Hid (mg0.cs.toArray.size = ({ mg0 with kind := 128, tag := m.tag, fid := m.fid, lease := m.lease, term := m.term } : Mg).cs.toArray.size) := lh rfl
 have HAL0 := lh (mg_all ({ mg0 with kind := 128, tag := m.tag } : Mg) ⟨⟨_, _, _, rfl⟩, ⟨_, _, _, rfl⟩⟩)
 have HALR := lh (mg_all ({ mg0 with kind := 128, tag := m.tag, fid := m.fid, lease := m.lease, term := m.term } : Mg) ⟨⟨_, _, _, rfl⟩, ⟨_, _, _, rfl⟩⟩)
 unfold mgobj at *
 clear hk hok
 generalize ({ mg0 with kind := 128, tag := m.tag, fid := m.fid, lease := m.lease, term := m.term } : Mg).cs.toArray = AR at *
 generalize ({ mg0 with kind := 128, tag := m.tag } : Mg).cs.toArray = A0 at *
 generalize m.cs.toArray = A1 at *
 generalize m.tag = tg at *
 generalize m.fid = x2 at *
 generalize m.lease = x36 at *
 generalize m.term = x37 at *
 go_enter Tryz.func136, Tryz.ntmps136
 go_upto_region 1 with fail
 generalize hw1 : World.alloc _ _ = w1
 have HB1 := lh (show Below w.heap.size w w1 from by rw [← hw1]; exact HB.out)
 have K1 := lh (show w1.heap[w.heap.size]? = some (.cells A1 48) from by rw [← hw1]; exact H1.out)
 have K2 := lh (show w1.heap[(w.heap.size + 1 + 1)]? = some (.cells mg0.cs.toArray 48) from by rw [← hw1]; exact H2.out)
 have K3 := lh (show w1.heap[(w.heap.size + 1)]? = some (.cells A0 48) from by rw [← hw1]; exact H3.out)
 clear H1 H2 H3 HB hw1
 obtain ⟨c0, c1⟩ := HC0.out _ K1.out
 have hlt : w.heap.size < w.heap.size + 1 := Nat.lt_succ_self _
 go_upto_region 19 with fail
 have J1 := lh (((below_drew1 w1).block _ (row_ltP K1.out)).trans K1.out)
 have J2 := lh K2.out
 obtain ⟨s2, s36, s37⟩ := HCS.out _ K1.out
 obtain ⟨⟨d2, d36, d37⟩, ⟨f2, f36, f37⟩, k3⟩ := HDS.out _ _ K3.out
 have L3 := lh ((below_drew1 _).block _ (row_ltP k3) |>.trans k3)
 clear k3 K1 K2 K3 c0 c1
 refine wp_region_held_drew (S := (fun W' => W'.cell? ⟨w.heap.size, 2, none⟩ = some (.int .i64 x2) ∧ W'.cell? ⟨w.heap.size, 36, none⟩ = some (.int .i64 x36) ∧ W'.cell? ⟨w.heap.size, 37, none⟩ = some (.int .i64 x37))) (by kernel_rfl) (HCS.out _ J1.out) (fun hHeld => ?_)
 refine tk 0 61 ?_
 refine tk 1 62 ?_
 refine tk 2 63 ?_
 refine tk 3 64 ?_
 refine tk 4 65 ?_
 refine tk 5 66 ?_
 refine tk 6 67 ?_
 refine rdy 7 (fun K hK => ?_)
 go_simp
 have bst := ((Below.refl (w.heap.size + 1) w1).setCell (p := ⟨(w.heap.size + 1), 2, none⟩) (Nat.le_refl _) (.int .i64 x2)).drew
 refine hK.out _ _ (⟨(bst.cell (p := ⟨w.heap.size, 2, none⟩) hlt).trans s2, (bst.cell (p := ⟨w.heap.size, 36, none⟩) hlt).trans s36, (bst.cell (p := ⟨w.heap.size, 37, none⟩) hlt).trans s37⟩) (fun hHeld => ?_)
 clear bst hK K
 try simp only [Act.put, px1, px2, px3]
 refine tk 8 68 ?_
 refine rdy 9 (fun K hK => ?_)
 go_simp
 have bst := (((Below.refl (w.heap.size + 1) w1).setCell (p := ⟨(w.heap.size + 1), 2, none⟩) (Nat.le_refl _) (.int .i64 x2)).setCell (p := ⟨(w.heap.size + 1), 36, none⟩) (Nat.le_refl _) (.int .i64 x36)).drew
 refine hK.out _ _ (⟨(bst.cell (p := ⟨w.heap.size, 2, none⟩) hlt).trans s2, (bst.cell (p := ⟨w.heap.size, 36, none⟩) hlt).trans s36, (bst.cell (p := ⟨w.heap.size, 37, none⟩) hlt).trans s37⟩) (fun hHeld => ?_)
 clear bst hK K
 try simp only [Act.put, px1, px2, px3]
 refine tk 10 69 ?_
 refine rdy 11 (fun K hK => ?_)
 go_simp
 have bst := ((((Below.refl (w.heap.size + 1) w1).setCell (p := ⟨(w.heap.size + 1), 2, none⟩) (Nat.le_refl _) (.int .i64 x2)).setCell (p := ⟨(w.heap.size + 1), 36, none⟩) (Nat.le_refl _) (.int .i64 x36)).setCell (p := ⟨(w.heap.size + 1), 37, none⟩) (Nat.le_refl _) (.int .i64 x37)).drew
 refine hK.out _ _ (⟨(bst.cell (p := ⟨w.heap.size, 2, none⟩) hlt).trans s2, (bst.cell (p := ⟨w.heap.size, 36, none⟩) hlt).trans s36, (bst.cell (p := ⟨w.heap.size, 37, none⟩) hlt).trans s37⟩) (fun hHeld => ?_)
 clear bst hK K
 try simp only [Act.put, px1, px2, px3]
 refine wpAnyH_done (by kernel_rfl) ?_ _
 clear hHeld
 have l2 := (Below.heap_setCell ((w1.setCell ⟨(w.heap.size + 1), 2, none⟩ (.int .i64 x2)).setCell ⟨(w.heap.size + 1), 36, none⟩ (.int .i64 x36)) ⟨(w.heap.size + 1), 37, none⟩ (.int .i64 x37) (w.heap.size + 1 + 1) (show (w.heap.size + 1 + 1) ≠ (w.heap.size + 1) by omega)).trans ((Below.heap_setCell (w1.setCell ⟨(w.heap.size + 1), 2, none⟩ (.int .i64 x2)) ⟨(w.heap.size + 1), 36, none⟩ (.int .i64 x36) (w.heap.size + 1 + 1) (show (w.heap.size + 1 + 1) ≠ (w.heap.size + 1) by omega)).trans ((Below.heap_setCell w1 ⟨(w.heap.size + 1), 2, none⟩ (.int .i64 x2) (w.heap.size + 1 + 1) (show (w.heap.size + 1 + 1) ≠ (w.heap.size + 1) by omega)).trans (J2.out)))
 have L2 := lh (((below_drew1 _).block _ (row_ltP l2)).trans l2)
 clear l2
 have HB2 := lh (((HB1.out.setCell (p := ⟨(w.heap.size + 1), 2, none⟩) (show w.heap.size ≤ (w.heap.size + 1) by omega) (.int .i64 x2)).setCell (p := ⟨(w.heap.size + 1), 36, none⟩) (show w.heap.size ≤ (w.heap.size + 1) by omega) (.int .i64 x36)).setCell (p := ⟨(w.heap.size + 1), 37, none⟩) (show w.heap.size ≤ (w.heap.size + 1) by omega) (.int .i64 x37)).drew
 clear s2 d2 f2 s36 d36 f36 s37 d37 f37 HCS HDS
 generalize (((w1.setCell ⟨(w.heap.size + 1), 2, none⟩ (.int .i64 x2)).setCell ⟨(w.heap.size + 1), 36, none⟩ (.int .i64 x36)).setCell ⟨(w.heap.size + 1), 37, none⟩ (.int .i64 x37)).drew = w2 at *
 generalize mg0.cs.toArray = A3 at *
 go_wp2_with (first | refine wpList_load_row rfl 48 _ rfl (w.heap.size + 1) rfl 48 AR (0, 0) _ L3.out HU.out rfl HSZR.out ?_ | refine wpList_store_row rfl 48 _ _ rfl (w.heap.size + 1 + 1) AR rfl rfl 48 A3 L2.out HSZR.out HSYR.out HALR.out ?_)
 refine bodyPost_ret (v := .agg AR) (results_cell_row Tryz.results136 _ _ (w.heap.size + 1 + 1) 48 AR (0, 0) _ rfl (heap_setRow_same L2.out) HU.out rfl HSZR.out) rfl ⟨rfl, below_setRow HB2.out (by omega) _⟩
theorem rest_130 (m : Mg) (hk : m.kind = 130) (hok : m.ok) (w : World) : Calls Tryz.prog 136 #[.agg m.cs.toArray, .agg ({ mg0 with kind := 130, tag := m.tag } : Mg).cs.toArray] w fun e w' => e = .returned (.agg (onl m).cs.toArray) ∧ Below w.heap.size w w' := by
 have ho : onl m = ({ mg0 with kind := 130, tag := m.tag, session := m.session } : Mg) := by simp [onl, hk]
 rw [ho]
 clear ho
 have h1 := heap_alloc_new w (mgobj m)
 have h2 := heap_alloc_new (w.alloc (mgobj m)) (mgobj ({ mg0 with kind := 130, tag := m.tag } : Mg))
 have h3 := heap_alloc_new ((w.alloc (mgobj m)).alloc (mgobj ({ mg0 with kind := 130, tag := m.tag } : Mg))) (mgobj mg0)
 rw [show (w.alloc (mgobj m)).heap.size = w.heap.size + 1 from by simp] at h2
 rw [show ((w.alloc (mgobj m)).alloc (mgobj ({ mg0 with kind := 130, tag := m.tag } : Mg))).heap.size = w.heap.size + 1 + 1 from by simp] at h3
 have HB := lh (bnext (bnext (alloc_below w (mgobj m)) (alloc_below _ (mgobj ({ mg0 with kind := 130, tag := m.tag } : Mg)))) (alloc_below _ (mgobj mg0)))
 have H1 := lh ((Lib.alloc_old _ (mgobj mg0) _ (by simp; omega)).trans ((Lib.alloc_old _ (mgobj ({ mg0 with kind := 130, tag := m.tag } : Mg)) _ (by simp)).trans h1))
 have H3 := lh ((Lib.alloc_old _ (mgobj mg0) _ (by simp)).trans h2)
 have H2 := lh h3
 clear h1 h2 h3
 have HC0 := lh (fun (W : World) (h : W.heap[w.heap.size]? = some (mgobj m)) => show W.cell? ⟨w.heap.size, 0, none⟩ = some (.int .i64 130) ∧ W.cell? ⟨w.heap.size, 1, none⟩ = some (.int .i64 m.tag) from ⟨by rw [Lib.cell_of_heap h, ← hk]; rfl, by rw [Lib.cell_of_heap h]; rfl⟩)
 have HCS := lh (fun (W : World) (h : W.heap[w.heap.size]? = some (mgobj m)) => show W.cell? ⟨w.heap.size, 38, none⟩ = some (.string (T m.session)) from by rw [Lib.cell_of_heap h]; rfl)
 have HDS := lh (fun (W : World) (b : Nat) (h : W.heap[b]? = some (mgobj ({ mg0 with kind := 130, tag := m.tag } : Mg))) => show (W.cell? ⟨b, 38, none⟩ = some (.string (T []))) ∧ (W.frozen? ⟨b, 38, none⟩ = false) ∧ (W.setCell ⟨b, 38, none⟩ (.string (T m.session))).heap[b]? = some (mgobj ({ mg0 with kind := 130, tag := m.tag, session := m.session } : Mg)) from ⟨by rw [Lib.cell_of_heap h]; rfl, Lib.frozen_of_heap h _, (mg_set (m := ({ mg0 with kind := 130, tag := m.tag } : Mg)) (m' := ({ mg0 with kind := 130, tag := m.tag, session := m.session } : Mg)) h 38 (.string (T m.session)) rfl)⟩)
 have HU := lh (Tryz.underlying48)
 have HSZ0 := lh (mg_size ({ mg0 with kind := 130, tag := m.tag } : Mg))
 have HSZR := lh (mg_size ({ mg0 with kind := 130, tag := m.tag, session := m.session } : Mg))
 have HSZM := lh (mg_size m)
 have HSY0 : RowKit.Hid (mg0.cs.toArray.size = ({ mg0 with kind := 130, tag := m.tag } : Mg).cs.toArray.size) := lh rfl
 have HSYR : RowKit.Hid (mg0.cs.toArray.size = ({ mg0 with kind := 130, tag := m.tag, session := m.session } : Mg).cs.toArray.size) := lh rfl
 have HAL0 := lh (mg_all ({ mg0 with kind := 130, tag := m.tag } : Mg) ⟨⟨_, _, _, rfl⟩, ⟨_, _, _, rfl⟩⟩)
 have HALR := lh (mg_all ({ mg0 with kind := 130, tag := m.tag, session := m.session } : Mg) ⟨⟨_, _, _, rfl⟩, ⟨_, _, _, rfl⟩⟩)
 unfold mgobj at *
 clear hk hok
 generalize ({ mg0 with kind := 130, tag := m.tag, session := m.session } : Mg).cs.toArray = AR at *
 generalize ({ mg0 with kind := 130, tag := m.tag } : Mg).cs.toArray = A0 at *
 generalize m.cs.toArray = A1 at *
 generalize m.tag = tg at *
 generalize m.session = x38 at *
 go_enter Tryz.func136, Tryz.ntmps136
 go_upto_region 1 with fail
 generalize hw1 : World.alloc _ _ = w1
 have HB1 := lh (show Below w.heap.size w w1 from by rw [← hw1]; exact HB.out)
 have K1 := lh (show w1.heap[w.heap.size]? = some (.cells A1 48) from by rw [← hw1]; exact H1.out)
 have K2 := lh (show w1.heap[(w.heap.size + 1 + 1)]? = some (.cells mg0.cs.toArray 48) from by rw [← hw1]; exact H2.out)
 have K3 := lh (show w1.heap[(w.heap.size + 1)]? = some (.cells A0 48) from by rw [← hw1]; exact H3.out)
 clear H1 H2 H3 HB hw1
 obtain ⟨c0, c1⟩ := HC0.out _ K1.out
 have hlt : w.heap.size < w.heap.size + 1 := Nat.lt_succ_self _
 have s38 := HCS.out _ K1.out
 obtain ⟨d38, f38, k3⟩ := HDS.out _ _ K3.out
 have L3 := lh k3
 have L2 := lh ((Below.heap_setCell w1 ⟨(w.heap.size + 1), 38, none⟩ (.string (T x38)) (w.heap.size + 1 + 1) (show (w.heap.size + 1 + 1) ≠ (w.heap.size + 1) by omega)).trans K2.out)
 have HB2 := lh (HB1.out.setCell (p := ⟨(w.heap.size + 1), 38, none⟩) (show w.heap.size ≤ (w.heap.size + 1) by omega) (.string (T x38)))
 clear k3
 go_upto_region 24 with fail
 generalize World.setCell w1 ⟨(w.heap.size + 1), 38, none⟩ (.string (T x38)) = w2 at *
 clear s38 d38 f38 c0 c1 HCS HDS
 generalize mg0.cs.toArray = A3 at *
 go_wp2_with (first | refine wpList_load_row rfl 48 _ rfl (w.heap.size + 1) rfl 48 AR (0, 0) _ L3.out HU.out rfl HSZR.out ?_ | refine wpList_store_row rfl 48 _ _ rfl (w.heap.size + 1 + 1) AR rfl rfl 48 A3 L2.out HSZR.out HSYR.out HALR.out ?_)
 refine bodyPost_ret (v := .agg AR) (results_cell_row Tryz.results136 _ _ (w.heap.size + 1 + 1) 48 AR (0, 0) _ rfl (heap_setRow_same L2.out) HU.out rfl HSZR.out) rfl ⟨rfl, below_setRow HB2.out (by omega) _⟩
theorem onl_lists (m : Mg) : (onl m).names = (if m.kind = 110 then m.names else .slice none 0 0) ∧ (onl m).qids = .slice none 0 0 := by
 by_cases h0 : IsReq m.kind
 ·rcases h0 with h | h | h | h | h | h | h | h | h | h | h | h | h | h
  all_goals (simp [onl, h]; first | exact ⟨rfl, rfl⟩ | rfl)
 ·have h1 : onl m = mg0 := by
   unfold IsReq at h0
   simp only [not_or] at h0
   simp [onl, h0]
  have h2 : ¬ m.kind = 110 := fun h => h0 (by unfold IsReq; omega)
  rw [h1, if_neg h2]
  exact ⟨rfl, rfl⟩
theorem onl_ok (m : Mg) (h : m.ok) : (onl m).ok := by
 obtain ⟨h1, h2⟩ := onl_lists m
 refine ⟨?_, ⟨_, _, _, h2⟩⟩
 rw [h1]
 split
 ·exact h.1
 ·exact ⟨_, _, _, rfl⟩
theorem mrest_any (m : Mg) (hk : IsReq m.kind) (h116 : 116 ≤ m.kind) (hok : m.ok) (w : World) : Calls Tryz.prog 136 #[.agg m.cs.toArray, .agg ({ mg0 with kind := m.kind, tag := m.tag } : Mg).cs.toArray] w fun e w' => e = .returned (.agg (onl m).cs.toArray) ∧ Below w.heap.size w w' := by
 rcases hk with h | h | h | h | h | h | h | h | h | h | h | h | h | h
 ·omega
 ·omega
 ·omega
 ·omega
 ·omega
 ·omega
 ·have := rest_116 m h hok w; rw [← h] at this; exact this
 ·have := rest_118 m h hok w; rw [← h] at this; exact this
 ·have := rest_120 m h hok w; rw [← h] at this; exact this
 ·have := rest_122 m h hok w; rw [← h] at this; exact this
 ·have := rest_124 m h hok w; rw [← h] at this; exact this
 ·have := rest_126 m h hok w; rw [← h] at this; exact this
 ·have := rest_128 m h hok w; rw [← h] at this; exact this
 ·have := rest_130 m h hok w; rw [← h] at this; exact this
theorem only_late (m : Mg) (hk : IsReq m.kind) (h116 : 116 ≤ m.kind) (hok : m.ok) (w : World) : Calls Tryz.prog 81 #[.agg m.cs.toArray] w fun e w' => e = .returned (.agg (onl m).cs.toArray) ∧ Below w.heap.size w w' := by
 have h1 := heap_alloc_new w (mgobj m)
 have h2 := heap_alloc_new (w.alloc (mgobj m)) (mgobj mg0)
 rw [show (w.alloc (mgobj m)).heap.size = w.heap.size + 1 from by simp] at h2
 have HB := lh (bnext (alloc_below w (mgobj m)) (alloc_below _ (mgobj mg0)))
 have H1 := lh ((Lib.alloc_old _ (mgobj mg0) _ (by simp)).trans h1)
 have H2 := lh h2
 clear h1 h2
 have HR := lh (fun W => mrest_any m hk h116 hok W)
 have HC := lh (show ∀ W : World, W.heap[w.heap.size]? = some (mgobj m) → W.cell? ⟨w.heap.size, 0, none⟩ = some (.int .i64 m.kind) ∧ W.cell? ⟨w.heap.size, 1, none⟩ = some (.int .i64 m.tag) from fun W h => ⟨by rw [Lib.cell_of_heap h]; rfl, by rw [Lib.cell_of_heap h]; rfl⟩)
 have HU := lh (Tryz.underlying48)
 have HSZ := lh (mg_size m)
 have HSZR := lh (mg_size (onl m))
 have HSZ0 := lh (mg_size ({ mg0 with kind := m.kind, tag := m.tag } : Mg))
 have HSY : RowKit.Hid (mg0.cs.toArray.size = (onl m).cs.toArray.size) := lh rfl
 have HSY0 : RowKit.Hid (mg0.cs.toArray.size = ({ mg0 with kind := m.kind, tag := m.tag } : Mg).cs.toArray.size) := lh rfl
 have HAL := lh (mg_all (onl m) (onl_ok m hok))
 have HAL0 := lh (mg_all ({ mg0 with kind := m.kind, tag := m.tag } : Mg) ⟨⟨_, _, _, rfl⟩, ⟨_, _, _, rfl⟩⟩)
 have HBU : RowKit.Hid (Tryz.prog.built 48 [(0, .int .i64 m.kind), (1, .int .i64 m.tag)] = some ({ mg0 with kind := m.kind, tag := m.tag } : Mg).cs.toArray) := lh (by kernel_rfl)
 unfold mgobj at *
 clear hk hok
 generalize (onl m).cs.toArray = AR at *
 generalize ({ mg0 with kind := m.kind, tag := m.tag } : Mg).cs.toArray = A0 at *
 generalize m.cs.toArray = A1 at *
 generalize m.kind = kd at *
 generalize m.tag = tg at *
 have n100 : (kd == 100) = false := by simp only [beq_eq_false_iff_ne, ne_eq]; omega
 have n101 : (kd == 101) = false := by simp only [beq_eq_false_iff_ne, ne_eq]; omega
 have n102 : (kd == 102) = false := by simp only [beq_eq_false_iff_ne, ne_eq]; omega
 have n104 : (kd == 104) = false := by simp only [beq_eq_false_iff_ne, ne_eq]; omega
 have n103 : (kd == 103) = false := by simp only [beq_eq_false_iff_ne, ne_eq]; omega
 have n105 : (kd == 105) = false := by simp only [beq_eq_false_iff_ne, ne_eq]; omega
 have n107 : (kd == 107) = false := by simp only [beq_eq_false_iff_ne, ne_eq]; omega
 have n108 : (kd == 108) = false := by simp only [beq_eq_false_iff_ne, ne_eq]; omega
 have n110 : (kd == 110) = false := by simp only [beq_eq_false_iff_ne, ne_eq]; omega
 have n111 : (kd == 111) = false := by simp only [beq_eq_false_iff_ne, ne_eq]; omega
 have n112 : (kd == 112) = false := by simp only [beq_eq_false_iff_ne, ne_eq]; omega
 have n113 : (kd == 113) = false := by simp only [beq_eq_false_iff_ne, ne_eq]; omega
 have n115 : (kd == 115) = false := by simp only [beq_eq_false_iff_ne, ne_eq]; omega
 have n114 : (kd == 114) = false := by simp only [beq_eq_false_iff_ne, ne_eq]; omega
 clear h116
 go_enter Tryz.func81, Tryz.ntmps81
 go_upto_region 1 with fail
 generalize hw1 : World.alloc _ _ = w1
 have HB1 := lh (show Below w.heap.size w w1 from by rw [← hw1]; exact HB.out)
 have K1 := lh (show w1.heap[w.heap.size]? = some (.cells A1 48) from by rw [← hw1]; exact H1.out)
 have K2 := lh (show w1.heap[w.heap.size + 1]? = some (.cells mg0.cs.toArray 48) from by rw [← hw1]; exact H2.out)
 clear H1 H2 HB hw1
 obtain ⟨c0, c1⟩ := HC.out _ K1.out
 have hz1 := heap_alloc_new w1 (mgobj mg0)
 go_upto_region 2 with (first | refine wpList_build_at rfl 48 _ rfl A0 (by simp only [List.map_toArray, List.map_cons, List.map_nil]; exact HBU.out) ?_ | refine wpList_store_row rfl 48 _ _ rfl w1.heap.size A0 rfl rfl 48 mg0.cs.toArray hz1 HSZ0.out HSY0.out HAL0.out ?_)
 generalize hwx : World.setRow _ _ _ = wx
 have bx := (show Below w1.heap.size w1 wx from by rw [← hwx]; exact below_setRow (alloc_below w1 _) (Nat.le_refl _) _)
 have K3 := lh (show wx.heap[w1.heap.size]? = some (.cells A0 48) from by rw [← hwx]; exact heap_setRow_same (heap_alloc_new w1 _))
 clear hz1
 have K1 := lh ((bx.block _ (row_ltP K1.out)).trans K1.out)
 have K2 := lh ((bx.block _ (row_ltP K2.out)).trans K2.out)
 have HB1 := lh (bnext HB1.out bx)
 clear bx hwx c0 c1
 generalize mg0.cs.toArray = A3 at *
 generalize w1.heap.size = b3 at *
 obtain ⟨c0, c1⟩ := HC.out _ K1.out
 go_wp2_with (first | refine wpList_load_row rfl 48 _ rfl (w.heap.size) rfl 48 A1 (0, 0) _ K1.out HU.out rfl HSZ.out ?_ | refine wpList_load_row rfl 48 _ rfl b3 rfl 48 A0 (0, 0) _ K3.out HU.out rfl HSZ0.out ?_)
 (with_reducible refine (HR.out _).mono ?_); rintro e w2 ⟨rfl, b2⟩
 have L2 := lh ((b2.block _ (row_ltP K2.out)).trans K2.out)
 have HB2 := lh (bnext HB1.out b2)
 clear b2 HR HC K1 K2 K3 HB1 c0 c1
 go_wp2_with (refine wpList_store_row rfl 48 _ _ rfl (w.heap.size + 1) AR rfl rfl 48 A3 L2.out HSZR.out HSY.out HAL.out ?_)
 refine bodyPost_ret (v := .agg AR) (results_cell_row Tryz.results81 _ _ (w.heap.size + 1) 48 AR (0, 0) _ rfl (heap_setRow_same L2.out) HU.out rfl HSZR.out) rfl ⟨rfl, below_setRow HB2.out (by omega) _⟩
theorem only_any (m : Mg) (hk : IsReq m.kind) (hok : m.ok) (w : World) : Calls Tryz.prog 81 #[.agg m.cs.toArray] w fun e w' => e = .returned (.agg (onl m).cs.toArray) ∧ Below w.heap.size w w' := by
 by_cases h116 : 116 ≤ m.kind
 ·exact only_late m hk h116 hok w
 rcases hk with h | h | h | h | h | h | h | h | h | h | h | h | h | h
 ·exact only_100 m h hok w
 ·exact only_102 m h hok w
 ·exact only_104 m h hok w
 ·exact only_110 m h hok w
 ·exact only_112 m h hok w
 ·exact only_114 m h hok w
 all_goals omega
end Go.Proofs.YtfibaopngpfmjaaGreatDoor
